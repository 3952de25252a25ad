/- Printed by gen.py: that the machine's calls do what the plain functions of SheetStates say. -/
import Derived.Test.YthcmiohbidencaaSheetStatesWalk3
import Derived.Test.YthcmiohbidencaaProg
import Derived.Test.YthcmiohbidencaaEBun
import Derived.Test.YthcmiohbidencaaEBuild
import Derived.Test.YthcmiohbidencaaEShelf
import Derived.Test.YthcmiohbidencaaELib
import Derived.Test.YthcmiohbidencaaSheetStatesPure
set_option linter.unusedVariables false
set_option linter.unusedSimpArgs false
set_option maxHeartbeats 1000000
set_option maxRecDepth 100000
namespace Go.Proofs.Ythcmiohbidencaa.SheetStates
open Go Go.RowKit E
open Go.Value (int bool slice agg)

theorem sheet_sheet_done.spec (p0 : Nat) (p0_0 : Int) (p0_1 : Int) (p0_2 : Int) (p0_3 : Int) (p0_4 : Int) (p0_5 : Int) (p0_6 : Int) (p0_7 : Int) (p0_8 : Int) (p0_9 : Int) (r : (Int × Int × Int × Int × Int × Int × Int × Int × Int × Int × Int)) (H : sheet_sheet_done p0_0 p0_1 p0_2 p0_3 p0_4 p0_5 p0_6 p0_7 p0_8 p0_9 = some r) : FnSpec Try.prog 31 [(pt p0 0)] [(box p0 51 [(int .i64 p0_0), (int .i64 p0_1), (int .i64 p0_2), (int .i64 p0_3), (int .i64 p0_4), (int .i64 p0_5), (int .i64 p0_6), (int .i64 p0_7), (int .i64 p0_8), (int .i64 p0_9)])] (fun v M => v = (Value.tuple #[(agg #[(int .i64 r.2.2.1), (int .i64 r.2.2.2.1), (int .i64 r.2.2.2.2.1), (int .i64 r.2.2.2.2.2.1), (int .i64 r.2.2.2.2.2.2.1), (int .i64 r.2.2.2.2.2.2.2.1), (int .i64 r.2.2.2.2.2.2.2.2.1), (int .i64 r.2.2.2.2.2.2.2.2.2.1), (int .i64 r.2.2.2.2.2.2.2.2.2.2)]), (int .i64 r.1)]) ∧ M = [(box p0 51 [(int .i64 p0_0), (int .i64 p0_1), (int .i64 p0_2), (int .i64 p0_3), (int .i64 p0_4), (int .i64 p0_5), (int .i64 p0_6), (int .i64 r.2.1), (int .i64 p0_8), (int .i64 p0_9)])]) := by
 unfold sheet_sheet_done at H
 refine spec_of Try.func31 rfl 39 rfl (Nat.le_of_ble_eq_true rfl) fun F w0 => ?_
 show Ent (St 39 w0 F [(0, (pt p0 0))] [(box p0 51 [(int .i64 p0_0), (int .i64 p0_1), (int .i64 p0_2), (int .i64 p0_3), (int .i64 p0_4), (int .i64 p0_5), (int .i64 p0_6), (int .i64 p0_7), (int .i64 p0_8), (int .i64 p0_9)])]) _
 refine ent_seq ?_
 refine ent_region ?_
 refine ent_op (ot_alloc F_zero_24) rfl rfl rfl ?_
 rintro _ _ ⟨b2, rfl, rfl⟩
 refine ent_value (ov_assign rfl) rfl rfl rfl ?_
 refine ent_nil ?_
 refine ent_seq ?_
 refine ent_seq ?_
 refine ent_region ?_
 refine ent_value (ov_move rfl) rfl rfl rfl ?_
 refine ent_value (ov_nilCheck rfl) rfl rfl rfl ?_
 refine ent_value (ov_fieldAddr (sz := 0) (o := 0) rfl F_field_51_1 F_size_2) rfl rfl rfl ?_
 refine ent_value (ov_load (v := (int .i64 p0_9)) rfl F_agg_2 (reads_box1 (i := 1) rfl rfl)) rfl rfl rfl ?_
 refine ent_value (ov_bin rfl rfl (b_gtr _ _ _)) rfl rfl rfl ?_
 refine ent_value (ov_move rfl) rfl rfl rfl ?_
 by_cases c9 : 2147483648 < p0_9
 ·rw [if_pos c9] at H
  refine ent_off rfl rfl rfl (decide_eq_true c9) rfl rfl ?_
  refine ent_off rfl rfl rfl (decide_eq_true c9) rfl rfl ?_
  refine ent_off rfl rfl rfl (decide_eq_true c9) rfl rfl ?_
  refine ent_off rfl rfl rfl (decide_eq_true c9) rfl rfl ?_
  refine ent_off rfl rfl rfl (decide_eq_true c9) rfl rfl ?_
  refine ent_value (ov_pick rfl rfl rfl (pick_t (decide_eq_true c9))) rfl rfl rfl ?_
  refine ent_nil ?_
  refine ent_cond_true rfl rfl ?_
  refine ent_seq ?_
  refine ent_region ?_
  refine ent_value (ov_build (is := []) (xs := []) (vs := []) rfl rfl (build_struct (cs := [(int .i64 0), (int .i64 0), (int .i64 0), (int .i64 0), (int .i64 0), (int .i64 0), (int .i64 0), (int .i64 0), (int .i64 0)]) F_zero_24 F_places_24 rfl)) rfl rfl rfl ?_
  refine ent_op0 (ot_storeG (cs := [(int .i64 0), (int .i64 0), (int .i64 0), (int .i64 0), (int .i64 0), (int .i64 0), (int .i64 0), (int .i64 0), (int .i64 0)]) (cs' := [(int .i64 0), (int .i64 0), (int .i64 0), (int .i64 0), (int .i64 0), (int .i64 0), (int .i64 0), (int .i64 0), (int .i64 0)]) (us := [(int .i64 0), (int .i64 0), (int .i64 0), (int .i64 0), (int .i64 0), (int .i64 0), (int .i64 0), (int .i64 0), (int .i64 0)]) (L' := [(box b2 24 [(int .i64 0), (int .i64 0), (int .i64 0), (int .i64 0), (int .i64 0), (int .i64 0), (int .i64 0), (int .i64 0), (int .i64 0)]), (box p0 51 [(int .i64 p0_0), (int .i64 p0_1), (int .i64 p0_2), (int .i64 p0_3), (int .i64 p0_4), (int .i64 p0_5), (int .i64 p0_6), (int .i64 p0_7), (int .i64 p0_8), (int .i64 p0_9)])]) 0 rfl rfl rfl (one_all rfl) F_size_24 rfl rfl (by simp) rfl) rfl rfl ?_
  rintro _ _ rfl
  refine ent_value (ov_assign rfl) rfl rfl rfl ?_
  refine ent_nil ?_
  refine ent_retc ?_
  first | (have e_ := Option.some.inj (show some _ = some _ from H); subst e_) | subst H
  exact ret_memp [1] (by decide) rfl (vs := [(agg #[(int .i64 0), (int .i64 0), (int .i64 0), (int .i64 0), (int .i64 0), (int .i64 0), (int .i64 0), (int .i64 0), (int .i64 0)]), (int .i64 2)]) rfl ⟨⟨_, [(int .i64 0), (int .i64 0), (int .i64 0), (int .i64 0), (int .i64 0), (int .i64 0), (int .i64 0), (int .i64 0), (int .i64 0)], rfl, reads_boxW (i := 0) rfl, .inl ⟨F_agg_24, F_size_24, rfl⟩⟩, ⟨rfl, trivial⟩⟩ _ rfl ⟨rfl, rfl⟩
 ·rw [if_neg c9] at H
  refine ent_value_on (ov_move rfl) rfl rfl rfl (decide_eq_false c9) rfl rfl ?_
  refine ent_value_on (ov_nilCheck rfl) rfl rfl rfl (decide_eq_false c9) rfl rfl ?_
  refine ent_value_on (ov_fieldAddr (sz := 0) (o := 0) rfl F_field_51_1 F_size_2) rfl rfl rfl (decide_eq_false c9) rfl rfl ?_
  refine ent_value_on (ov_load (v := (int .i64 p0_9)) rfl F_agg_2 (reads_box1 (i := 1) rfl rfl)) rfl rfl rfl (decide_eq_false c9) rfl rfl ?_
  refine ent_value_on (ov_bin rfl rfl (b_lss _ _ _)) rfl rfl rfl (decide_eq_false c9) rfl rfl ?_
  refine ent_value (ov_pick rfl rfl rfl (pick_f (decide_eq_false c9))) rfl rfl rfl ?_
  refine ent_nil ?_
  by_cases c10 : p0_9 < (-2147483648)
  ·rw [if_pos c10] at H
   refine ent_cond_true rfl (decide_eq_true c10) ?_
   refine ent_seq ?_
   refine ent_region ?_
   refine ent_value (ov_build (is := []) (xs := []) (vs := []) rfl rfl (build_struct (cs := [(int .i64 0), (int .i64 0), (int .i64 0), (int .i64 0), (int .i64 0), (int .i64 0), (int .i64 0), (int .i64 0), (int .i64 0)]) F_zero_24 F_places_24 rfl)) rfl rfl rfl ?_
   refine ent_op0 (ot_storeG (cs := [(int .i64 0), (int .i64 0), (int .i64 0), (int .i64 0), (int .i64 0), (int .i64 0), (int .i64 0), (int .i64 0), (int .i64 0)]) (cs' := [(int .i64 0), (int .i64 0), (int .i64 0), (int .i64 0), (int .i64 0), (int .i64 0), (int .i64 0), (int .i64 0), (int .i64 0)]) (us := [(int .i64 0), (int .i64 0), (int .i64 0), (int .i64 0), (int .i64 0), (int .i64 0), (int .i64 0), (int .i64 0), (int .i64 0)]) (L' := [(box b2 24 [(int .i64 0), (int .i64 0), (int .i64 0), (int .i64 0), (int .i64 0), (int .i64 0), (int .i64 0), (int .i64 0), (int .i64 0)]), (box p0 51 [(int .i64 p0_0), (int .i64 p0_1), (int .i64 p0_2), (int .i64 p0_3), (int .i64 p0_4), (int .i64 p0_5), (int .i64 p0_6), (int .i64 p0_7), (int .i64 p0_8), (int .i64 p0_9)])]) 0 rfl rfl rfl (one_all rfl) F_size_24 rfl rfl (by simp) rfl) rfl rfl ?_
   rintro _ _ rfl
   refine ent_value (ov_assign rfl) rfl rfl rfl ?_
   refine ent_nil ?_
   refine ent_retc ?_
   first | (have e_ := Option.some.inj (show some _ = some _ from H); subst e_) | subst H
   exact ret_memp [1] (by decide) rfl (vs := [(agg #[(int .i64 0), (int .i64 0), (int .i64 0), (int .i64 0), (int .i64 0), (int .i64 0), (int .i64 0), (int .i64 0), (int .i64 0)]), (int .i64 2)]) rfl ⟨⟨_, [(int .i64 0), (int .i64 0), (int .i64 0), (int .i64 0), (int .i64 0), (int .i64 0), (int .i64 0), (int .i64 0), (int .i64 0)], rfl, reads_boxW (i := 0) rfl, .inl ⟨F_agg_24, F_size_24, rfl⟩⟩, ⟨rfl, trivial⟩⟩ _ rfl ⟨rfl, rfl⟩
  ·rw [if_neg c10] at H
   refine ent_cond_false rfl (decide_eq_false c10) ?_
   refine ent_skip ?_
   refine ent_seq ?_
   refine ent_region ?_
   refine ent_value (ov_move rfl) rfl rfl rfl ?_
   refine ent_value (ov_move rfl) rfl rfl rfl ?_
   refine ent_value (ov_nilCheck rfl) rfl rfl rfl ?_
   refine ent_value (ov_fieldAddr (sz := 0) (o := 0) rfl F_field_51_1 F_size_2) rfl rfl rfl ?_
   refine ent_value (ov_load (v := (int .i64 p0_9)) rfl F_agg_2 (reads_box1 (i := 1) rfl rfl)) rfl rfl rfl ?_
   refine ent_value (ov_nilCheck rfl) rfl rfl rfl ?_
   refine ent_value (ov_fieldAddr (sz := 8) (o := 0) rfl F_field_51_0 F_size_24) rfl rfl rfl ?_
   refine ent_value (ov_fieldAddr (sz := 0) (o := 0) rfl F_field_24_7 F_size_3) rfl rfl rfl ?_
   refine ent_op0 (ot_storeG (cs := [(int .i64 p0_0), (int .i64 p0_1), (int .i64 p0_2), (int .i64 p0_3), (int .i64 p0_4), (int .i64 p0_5), (int .i64 p0_6), (int .i64 p0_7), (int .i64 p0_8), (int .i64 p0_9)]) (cs' := [(int .i64 p0_0), (int .i64 p0_1), (int .i64 p0_2), (int .i64 p0_3), (int .i64 p0_4), (int .i64 p0_5), (int .i64 p0_6), (int .i64 p0_9), (int .i64 p0_8), (int .i64 p0_9)]) (us := [(int .i64 p0_9)]) (L' := [(box b2 24 [(int .i64 0), (int .i64 0), (int .i64 0), (int .i64 0), (int .i64 0), (int .i64 0), (int .i64 0), (int .i64 0), (int .i64 0)]), (box p0 51 [(int .i64 p0_0), (int .i64 p0_1), (int .i64 p0_2), (int .i64 p0_3), (int .i64 p0_4), (int .i64 p0_5), (int .i64 p0_6), (int .i64 p0_9), (int .i64 p0_8), (int .i64 p0_9)])]) 1 rfl rfl rfl (one_all rfl) F_size_3 rfl rfl (by simp) rfl) rfl rfl ?_
   rintro _ _ rfl
   refine ent_nil ?_
   refine ent_seq ?_
   refine ent_seq ?_
   refine ent_region ?_
   refine ent_value (ov_move rfl) rfl rfl rfl ?_
   refine ent_value (ov_nilCheck rfl) rfl rfl rfl ?_
   refine ent_value (ov_fieldAddr (sz := 8) (o := 0) rfl F_field_51_0 F_size_24) rfl rfl rfl ?_
   refine ent_value (ov_load_agg (vs := [(int .i64 p0_0), (int .i64 p0_1), (int .i64 p0_2), (int .i64 p0_3), (int .i64 p0_4), (int .i64 p0_5), (int .i64 p0_6), (int .i64 p0_9), (int .i64 p0_8)]) rfl F_agg_24 F_size_24 (reads_boxN (i := 1) rfl rfl)) rfl rfl rfl ?_
   obtain ⟨x4, h4, H⟩ := Option.bind_eq_some_iff.1 H
   refine ent_op (ot_call0 (first := []) (cap := []) (xs := [.tmp 29]) rfl rfl F_call_37 rfl (policy_Check.spec p0_0 p0_1 p0_2 p0_3 p0_4 p0_5 p0_6 p0_9 p0_8 _ h4)) rfl rfl rfl ?_
   rintro _ _ ⟨rfl, rfl⟩
   refine ent_value (ov_assign rfl) rfl rfl rfl ?_
   refine ent_nil ?_
   refine ent_seq ?_
   refine ent_region ?_
   refine ent_value (ov_move rfl) rfl rfl rfl ?_
   refine ent_value (ov_bin rfl rfl (b_neq _ _ _)) rfl rfl rfl ?_
   refine ent_nil ?_
   by_cases c12 : ¬ (x4 = 0)
   ·rw [if_pos c12] at H
    refine ent_cond_true rfl (ne_t c12) ?_
    refine ent_seq ?_
    refine ent_region ?_
    refine ent_value (ov_build (is := []) (xs := []) (vs := []) rfl rfl (build_struct (cs := [(int .i64 0), (int .i64 0), (int .i64 0), (int .i64 0), (int .i64 0), (int .i64 0), (int .i64 0), (int .i64 0), (int .i64 0)]) F_zero_24 F_places_24 rfl)) rfl rfl rfl ?_
    refine ent_value (ov_move rfl) rfl rfl rfl ?_
    refine ent_op0 (ot_storeG (cs := [(int .i64 0), (int .i64 0), (int .i64 0), (int .i64 0), (int .i64 0), (int .i64 0), (int .i64 0), (int .i64 0), (int .i64 0)]) (cs' := [(int .i64 0), (int .i64 0), (int .i64 0), (int .i64 0), (int .i64 0), (int .i64 0), (int .i64 0), (int .i64 0), (int .i64 0)]) (us := [(int .i64 0), (int .i64 0), (int .i64 0), (int .i64 0), (int .i64 0), (int .i64 0), (int .i64 0), (int .i64 0), (int .i64 0)]) (L' := [(box b2 24 [(int .i64 0), (int .i64 0), (int .i64 0), (int .i64 0), (int .i64 0), (int .i64 0), (int .i64 0), (int .i64 0), (int .i64 0)]), (box p0 51 [(int .i64 p0_0), (int .i64 p0_1), (int .i64 p0_2), (int .i64 p0_3), (int .i64 p0_4), (int .i64 p0_5), (int .i64 p0_6), (int .i64 p0_9), (int .i64 p0_8), (int .i64 p0_9)])]) 0 rfl rfl rfl (one_all rfl) F_size_24 rfl rfl (by simp) rfl) rfl rfl ?_
    rintro _ _ rfl
    refine ent_value (ov_assign rfl) rfl rfl rfl ?_
    refine ent_nil ?_
    refine ent_retc ?_
    first | (have e_ := Option.some.inj (show some _ = some _ from H); subst e_) | subst H
    exact ret_memp [1] (by decide) rfl (vs := [(agg #[(int .i64 0), (int .i64 0), (int .i64 0), (int .i64 0), (int .i64 0), (int .i64 0), (int .i64 0), (int .i64 0), (int .i64 0)]), (int .i64 x4)]) rfl ⟨⟨_, [(int .i64 0), (int .i64 0), (int .i64 0), (int .i64 0), (int .i64 0), (int .i64 0), (int .i64 0), (int .i64 0), (int .i64 0)], rfl, reads_boxW (i := 0) rfl, .inl ⟨F_agg_24, F_size_24, rfl⟩⟩, ⟨rfl, trivial⟩⟩ _ rfl ⟨rfl, rfl⟩
   ·rw [if_neg c12] at H
    refine ent_cond_false rfl (ne_f c12) ?_
    refine ent_skip ?_
    refine ent_seq ?_
    refine ent_region ?_
    refine ent_value (ov_move rfl) rfl rfl rfl ?_
    refine ent_value (ov_nilCheck rfl) rfl rfl rfl ?_
    refine ent_value (ov_fieldAddr (sz := 8) (o := 0) rfl F_field_51_0 F_size_24) rfl rfl rfl ?_
    refine ent_value (ov_load_agg (vs := [(int .i64 p0_0), (int .i64 p0_1), (int .i64 p0_2), (int .i64 p0_3), (int .i64 p0_4), (int .i64 p0_5), (int .i64 p0_6), (int .i64 p0_9), (int .i64 p0_8)]) rfl F_agg_24 F_size_24 (reads_boxN (i := 1) rfl rfl)) rfl rfl rfl ?_
    refine ent_op0 (ot_storeG (cs := [(int .i64 0), (int .i64 0), (int .i64 0), (int .i64 0), (int .i64 0), (int .i64 0), (int .i64 0), (int .i64 0), (int .i64 0)]) (cs' := [(int .i64 p0_0), (int .i64 p0_1), (int .i64 p0_2), (int .i64 p0_3), (int .i64 p0_4), (int .i64 p0_5), (int .i64 p0_6), (int .i64 p0_9), (int .i64 p0_8)]) (us := [(int .i64 p0_0), (int .i64 p0_1), (int .i64 p0_2), (int .i64 p0_3), (int .i64 p0_4), (int .i64 p0_5), (int .i64 p0_6), (int .i64 p0_9), (int .i64 p0_8)]) (L' := [(box b2 24 [(int .i64 p0_0), (int .i64 p0_1), (int .i64 p0_2), (int .i64 p0_3), (int .i64 p0_4), (int .i64 p0_5), (int .i64 p0_6), (int .i64 p0_9), (int .i64 p0_8)]), (box p0 51 [(int .i64 p0_0), (int .i64 p0_1), (int .i64 p0_2), (int .i64 p0_3), (int .i64 p0_4), (int .i64 p0_5), (int .i64 p0_6), (int .i64 p0_9), (int .i64 p0_8), (int .i64 p0_9)])]) 0 rfl rfl rfl (one_all rfl) F_size_24 rfl rfl (by simp) rfl) rfl rfl ?_
    rintro _ _ rfl
    refine ent_value (ov_assign rfl) rfl rfl rfl ?_
    refine ent_nil ?_
    refine ent_retc ?_
    first | (have e_ := Option.some.inj (show some _ = some _ from H); subst e_) | subst H
    exact ret_memp [1] (by decide) rfl (vs := [(agg #[(int .i64 p0_0), (int .i64 p0_1), (int .i64 p0_2), (int .i64 p0_3), (int .i64 p0_4), (int .i64 p0_5), (int .i64 p0_6), (int .i64 p0_9), (int .i64 p0_8)]), (int .i64 0)]) rfl ⟨⟨_, [(int .i64 p0_0), (int .i64 p0_1), (int .i64 p0_2), (int .i64 p0_3), (int .i64 p0_4), (int .i64 p0_5), (int .i64 p0_6), (int .i64 p0_9), (int .i64 p0_8)], rfl, reads_boxW (i := 0) rfl, .inl ⟨F_agg_24, F_size_24, rfl⟩⟩, ⟨rfl, trivial⟩⟩ _ rfl ⟨rfl, rfl⟩

theorem sheet_Read.spec (K : Nat) (a0 : List UInt8) (r : (Int × Int × Int × Int × Int × Int × Int × Int × Int × Int × Int)) (H : sheet_Read K a0 = some r) : FnSpec Try.prog 9 [(str a0)] [] (fun v M => v = (Value.tuple #[(agg #[(int .i64 r.2.1), (int .i64 r.2.2.1), (int .i64 r.2.2.2.1), (int .i64 r.2.2.2.2.1), (int .i64 r.2.2.2.2.2.1), (int .i64 r.2.2.2.2.2.2.1), (int .i64 r.2.2.2.2.2.2.2.1), (int .i64 r.2.2.2.2.2.2.2.2.1), (int .i64 r.2.2.2.2.2.2.2.2.2.1)]), (int .i64 r.1), (int .i64 r.2.2.2.2.2.2.2.2.2.2)]) ∧ M = []) := by
 unfold sheet_Read at H
 refine spec_of Try.func9 rfl 75 rfl (Nat.le_of_ble_eq_true rfl) fun F w0 => ?_
 show Ent (St 75 w0 F [(0, (str a0))] []) _
 refine ent_seq ?_
 refine ent_region ?_
 refine ent_op (ot_alloc F_zero_24) rfl rfl rfl ?_
 rintro _ _ ⟨b7, rfl, rfl⟩
 refine ent_value (ov_assign rfl) rfl rfl rfl ?_
 refine ent_value (ov_assign rfl) rfl rfl rfl ?_
 refine ent_nil ?_
 refine ent_scope ?_
 refine ent_seq ?_
 refine ent_region ?_
 refine ent_value (ov_build (is := []) (xs := []) (vs := []) rfl rfl (build_struct (cs := [(int .i64 0), (int .i64 0), (int .i64 0), (int .i64 0), (int .i64 0), (int .i64 0), (int .i64 0), (int .i64 0), (int .i64 0), (int .i64 0)]) F_zero_51 F_places_51 rfl)) rfl rfl rfl ?_
 refine ent_op (ot_box (cs := [(int .i64 0), (int .i64 0), (int .i64 0), (int .i64 0), (int .i64 0), (int .i64 0), (int .i64 0), (int .i64 0), (int .i64 0), (int .i64 0)]) rfl rfl) rfl rfl rfl ?_
 rintro _ _ ⟨b8, rfl, rfl⟩
 refine ent_value (ov_assign rfl) rfl rfl rfl ?_
 refine ent_nil ?_
 refine ent_seq ?_
 refine ent_region ?_
 refine ent_value (ov_move rfl) rfl rfl rfl ?_
 obtain ⟨u2, h125, H⟩ := thn_elim H
 refine ent_op (ot_call_same (Lr := [(box b7 24 [(int .i64 0), (int .i64 0), (int .i64 0), (int .i64 0), (int .i64 0), (int .i64 0), (int .i64 0), (int .i64 0), (int .i64 0)])]) [0, 1] [0, 1] (first := []) (cap := []) (xs := [.tmp 20]) rfl rfl F_call_26 rfl (sheet_sheet_fields.spec b8 0 0 0 0 0 0 0 0 0 0 _ h125) (by decide) rfl (by decide) rfl) rfl rfl rfl ?_
 rintro _ _ ⟨rfl, rfl⟩
 refine ent_op (ot_alloc F_zero_53) rfl rfl rfl ?_
 rintro _ _ ⟨b9, rfl, rfl⟩
 refine ent_op0 (ot_storeG (cs := [(Value.pointer none), (Value.pointer none), (Value.pointer none), (Value.pointer none), (Value.pointer none), (Value.pointer none), (Value.pointer none), (Value.pointer none), (Value.pointer none)]) (cs' := [(pt b8 0), (pt b8 1), (pt b8 2), (pt b8 3), (pt b8 4), (pt b8 5), (pt b8 6), (pt b8 9), (pt b8 8)]) (us := [(pt b8 0), (pt b8 1), (pt b8 2), (pt b8 3), (pt b8 4), (pt b8 5), (pt b8 6), (pt b8 9), (pt b8 8)]) (L' := [(box b9 53 [(pt b8 0), (pt b8 1), (pt b8 2), (pt b8 3), (pt b8 4), (pt b8 5), (pt b8 6), (pt b8 9), (pt b8 8)]), (box b8 51 [(int .i64 0), (int .i64 0), (int .i64 0), (int .i64 0), (int .i64 0), (int .i64 0), (int .i64 0), (int .i64 0), (int .i64 0), (int .i64 0)]), (box b7 24 [(int .i64 0), (int .i64 0), (int .i64 0), (int .i64 0), (int .i64 0), (int .i64 0), (int .i64 0), (int .i64 0), (int .i64 0)])]) 0 rfl rfl rfl (one_all rfl) F_size_53 rfl rfl (by simp) rfl) rfl rfl ?_
 rintro _ _ rfl
 refine ent_nil ?_
 refine ent_seq ?_
 refine ent_label ?_
 obtain ⟨x186, H29, H⟩ := Option.bind_eq_some_iff.1 H
 refine ent_seq_cut (fun a w => ∃ v2, x186 = Sum.inl v2 ∧ ∃ b10 : Nat, ∃ b11 : Nat, St 75 w0 F [(0, (str v2.2.2.2.2.2.2.2.2.2)), (2, (pt b10 0)), (5, (pt b11 0))] [(box b10 24 [(int .i64 0), (int .i64 0), (int .i64 0), (int .i64 0), (int .i64 0), (int .i64 0), (int .i64 0), (int .i64 0), (int .i64 0)]), (box b11 51 [(int .i64 v2.1), (int .i64 v2.2.1), (int .i64 v2.2.2.1), (int .i64 v2.2.2.2.1), (int .i64 v2.2.2.2.2.1), (int .i64 v2.2.2.2.2.2.1), (int .i64 v2.2.2.2.2.2.2.1), (int .i64 0), (int .i64 v2.2.2.2.2.2.2.2.1), (int .i64 v2.2.2.2.2.2.2.2.2.1)])] a w) ?_ ?_
 ·refine ent_seq ?_
  refine ent_region ?_
  obtain ⟨x187, h187, H29⟩ := thn_elim H29
  refine ent_op (ot_call0 (first := []) (cap := []) (xs := []) rfl rfl F_call_27 rfl (sheet_names.spec _ h187)) rfl rfl rfl ?_
  rintro _ _ ⟨rfl, rfl⟩
  refine ent_value (ov_move rfl) rfl rfl rfl ?_
  refine ent_nil ?_
  refine ent_block ?_
  refine ent_rounds 10 ?_
  refine ent_round ?_
  refine ent_seq ?_
  refine ent_region ?_
  refine ent_value (ov_bin rfl rfl (b_lss _ _ _)) rfl rfl rfl ?_
  refine ent_nil ?_
  refine ent_seq ?_
  refine ent_cond_true rfl rfl ?_
  refine ent_skip ?_
  refine ent_seq ?_
  refine ent_block ?_
  refine ent_seq ?_
  refine ent_region ?_
  refine ent_value (ov_move rfl) rfl rfl rfl ?_
  refine ent_value (ov_indexAggN rfl rfl F_array_55 F_size_9 F_agg_9 (by decide) (by decide) rfl) rfl rfl rfl ?_
  refine ent_value (ov_assign rfl) rfl rfl rfl ?_
  refine ent_value (ov_assign rfl) rfl rfl rfl ?_
  refine ent_nil ?_
  refine ent_seq ?_
  refine ent_region ?_
  refine ent_value (ov_move rfl) rfl rfl rfl ?_
  obtain ⟨x197, h197, H29⟩ := Option.bind_eq_some_iff.1 H29
  refine ent_op (ot_call0 (first := []) (cap := []) (xs := [.tmp 28, .const (str ([10] : List UInt8))]) rfl rfl F_call_28 rfl (strings_Cut.spec a0 ([10] : List UInt8) _ h197)) rfl rfl rfl ?_
  rintro _ _ ⟨rfl, rfl⟩
  refine ent_value (ov_move rfl) rfl rfl rfl ?_
  refine ent_value (ov_extract rfl rfl) rfl rfl rfl ?_
  refine ent_value (ov_extract rfl rfl) rfl rfl rfl ?_
  refine ent_value (ov_extract rfl rfl) rfl rfl rfl ?_
  refine ent_value (ov_assign rfl) rfl rfl rfl ?_
  refine ent_value (ov_assign rfl) rfl rfl rfl ?_
  refine ent_value (ov_assign rfl) rfl rfl rfl ?_
  refine ent_nil ?_
  refine ent_seq ?_
  refine ent_region ?_
  refine ent_value (ov_move rfl) rfl rfl rfl ?_
  refine ent_value (ov_move rfl) rfl rfl rfl ?_
  by_cases c515 : (x187.1.length : Int) + (([32] : List UInt8).length : Int) ≤ 9223372036854775807
  ·rw [if_pos c515] at H29
   refine ent_value (ov_bin rfl rfl fun w => b_add_str _ _ w c515) rfl rfl rfl ?_
   obtain ⟨x198, h198, H29⟩ := thn_elim H29
   refine ent_op (ot_call0 (first := []) (cap := []) (xs := [.tmp 34, .tmp 36]) rfl rfl F_call_29 rfl (strings_CutPrefix.spec x197.1 (x187.1 ++ ([32] : List UInt8)) _ h198)) rfl rfl rfl ?_
   rintro _ _ ⟨rfl, rfl⟩
   refine ent_value (ov_move rfl) rfl rfl rfl ?_
   refine ent_value (ov_extract rfl rfl) rfl rfl rfl ?_
   refine ent_value (ov_extract rfl rfl) rfl rfl rfl ?_
   refine ent_value (ov_assign rfl) rfl rfl rfl ?_
   refine ent_value (ov_assign rfl) rfl rfl rfl ?_
   refine ent_nil ?_
   refine ent_seq ?_
   refine ent_region ?_
   refine ent_value (ov_move rfl) rfl rfl rfl ?_
   obtain ⟨x199, h199, H29⟩ := Option.bind_eq_some_iff.1 H29
   refine ent_op (ot_call0 (first := []) (cap := []) (xs := [.tmp 41]) rfl rfl F_call_30 rfl (words_Number.spec K x198.1 _ h199)) rfl rfl rfl ?_
   rintro _ _ ⟨rfl, rfl⟩
   refine ent_value (ov_move rfl) rfl rfl rfl ?_
   refine ent_value (ov_extract rfl rfl) rfl rfl rfl ?_
   refine ent_value (ov_extract rfl rfl) rfl rfl rfl ?_
   refine ent_value (ov_assign rfl) rfl rfl rfl ?_
   refine ent_value (ov_assign rfl) rfl rfl rfl ?_
   refine ent_nil ?_
   refine ent_seq ?_
   refine ent_seq ?_
   refine ent_region ?_
   refine ent_value (ov_move rfl) rfl rfl rfl ?_
   refine ent_value (ov_un rfl (u_not _)) rfl rfl rfl ?_
   refine ent_value (ov_move rfl) rfl rfl rfl ?_
   by_cases c519 : (!x197.2.2) = true
   ·rw [if_pos c519] at H29
    refine ent_off rfl rfl rfl c519 rfl rfl ?_
    refine ent_off rfl rfl rfl c519 rfl rfl ?_
    refine ent_value (ov_pick rfl rfl rfl (pick_t c519)) rfl rfl rfl ?_
    refine ent_value (ov_move rfl) rfl rfl rfl ?_
    refine ent_off rfl rfl rfl rfl rfl rfl ?_
    refine ent_off rfl rfl rfl rfl rfl rfl ?_
    refine ent_value (ov_pick rfl rfl rfl rfl) rfl rfl rfl ?_
    refine ent_nil ?_
    refine ent_cond_true rfl rfl ?_
    refine ent_seq ?_
    refine ent_region ?_
    refine ent_value (ov_build (is := []) (xs := []) (vs := []) rfl rfl (build_struct (cs := [(int .i64 0), (int .i64 0), (int .i64 0), (int .i64 0), (int .i64 0), (int .i64 0), (int .i64 0), (int .i64 0), (int .i64 0)]) F_zero_24 F_places_24 rfl)) rfl rfl rfl ?_
    refine ent_value (ov_move rfl) rfl rfl rfl ?_
    refine ent_value (ov_binL (m' := 1) rfl rfl (b_add _ _ _) (by decide)) rfl rfl rfl ?_
    refine ent_op0 (ot_storeG (cs := [(int .i64 0), (int .i64 0), (int .i64 0), (int .i64 0), (int .i64 0), (int .i64 0), (int .i64 0), (int .i64 0), (int .i64 0)]) (cs' := [(int .i64 0), (int .i64 0), (int .i64 0), (int .i64 0), (int .i64 0), (int .i64 0), (int .i64 0), (int .i64 0), (int .i64 0)]) (us := [(int .i64 0), (int .i64 0), (int .i64 0), (int .i64 0), (int .i64 0), (int .i64 0), (int .i64 0), (int .i64 0), (int .i64 0)]) (L' := [(box b9 53 [(pt b8 0), (pt b8 1), (pt b8 2), (pt b8 3), (pt b8 4), (pt b8 5), (pt b8 6), (pt b8 9), (pt b8 8)]), (box b8 51 [(int .i64 0), (int .i64 0), (int .i64 0), (int .i64 0), (int .i64 0), (int .i64 0), (int .i64 0), (int .i64 0), (int .i64 0), (int .i64 0)]), (box b7 24 [(int .i64 0), (int .i64 0), (int .i64 0), (int .i64 0), (int .i64 0), (int .i64 0), (int .i64 0), (int .i64 0), (int .i64 0)])]) 2 rfl rfl rfl (one_all rfl) F_size_24 rfl rfl (by simp) rfl) rfl rfl ?_
    rintro _ _ rfl
    refine ent_value (ov_assign rfl) rfl rfl rfl ?_
    refine ent_value (ov_assign rfl) rfl rfl rfl ?_
    refine ent_nil ?_
    refine ent_retc ?_
    cases H29
    have H30 := Option.some.inj (show some _ = some _ from H)
    first | (have e_ := Option.some.inj (show some _ = some _ from H30); subst e_) | subst H30
    exact ret_memp [] (by decide) rfl (vs := [(agg #[(int .i64 0), (int .i64 0), (int .i64 0), (int .i64 0), (int .i64 0), (int .i64 0), (int .i64 0), (int .i64 0), (int .i64 0)]), (int .i64 1), (int .i64 4)]) rfl ⟨⟨_, [(int .i64 0), (int .i64 0), (int .i64 0), (int .i64 0), (int .i64 0), (int .i64 0), (int .i64 0), (int .i64 0), (int .i64 0)], rfl, reads_boxW (i := 2) rfl, .inl ⟨F_agg_24, F_size_24, rfl⟩⟩, ⟨rfl, ⟨rfl, trivial⟩⟩⟩ _ rfl ⟨rfl, rfl⟩
   ·rw [if_neg c519] at H29
    refine ent_value_on (ov_move rfl) rfl rfl rfl (Bool.eq_false_iff.2 c519) rfl rfl ?_
    refine ent_value_on (ov_un rfl (u_not _)) rfl rfl rfl (Bool.eq_false_iff.2 c519) rfl rfl ?_
    refine ent_value (ov_pick rfl rfl rfl (pick_f (Bool.eq_false_iff.2 c519))) rfl rfl rfl ?_
    refine ent_value (ov_move rfl) rfl rfl rfl ?_
    by_cases c520 : (!x198.2) = true
    ·rw [if_pos c520] at H29
     refine ent_off rfl rfl rfl c520 rfl rfl ?_
     refine ent_off rfl rfl rfl c520 rfl rfl ?_
     refine ent_value (ov_pick rfl rfl rfl (pick_t c520)) rfl rfl rfl ?_
     refine ent_nil ?_
     refine ent_cond_true rfl rfl ?_
     refine ent_seq ?_
     refine ent_region ?_
     refine ent_value (ov_build (is := []) (xs := []) (vs := []) rfl rfl (build_struct (cs := [(int .i64 0), (int .i64 0), (int .i64 0), (int .i64 0), (int .i64 0), (int .i64 0), (int .i64 0), (int .i64 0), (int .i64 0)]) F_zero_24 F_places_24 rfl)) rfl rfl rfl ?_
     refine ent_value (ov_move rfl) rfl rfl rfl ?_
     refine ent_value (ov_binL (m' := 1) rfl rfl (b_add _ _ _) (by decide)) rfl rfl rfl ?_
     refine ent_op0 (ot_storeG (cs := [(int .i64 0), (int .i64 0), (int .i64 0), (int .i64 0), (int .i64 0), (int .i64 0), (int .i64 0), (int .i64 0), (int .i64 0)]) (cs' := [(int .i64 0), (int .i64 0), (int .i64 0), (int .i64 0), (int .i64 0), (int .i64 0), (int .i64 0), (int .i64 0), (int .i64 0)]) (us := [(int .i64 0), (int .i64 0), (int .i64 0), (int .i64 0), (int .i64 0), (int .i64 0), (int .i64 0), (int .i64 0), (int .i64 0)]) (L' := [(box b9 53 [(pt b8 0), (pt b8 1), (pt b8 2), (pt b8 3), (pt b8 4), (pt b8 5), (pt b8 6), (pt b8 9), (pt b8 8)]), (box b8 51 [(int .i64 0), (int .i64 0), (int .i64 0), (int .i64 0), (int .i64 0), (int .i64 0), (int .i64 0), (int .i64 0), (int .i64 0), (int .i64 0)]), (box b7 24 [(int .i64 0), (int .i64 0), (int .i64 0), (int .i64 0), (int .i64 0), (int .i64 0), (int .i64 0), (int .i64 0), (int .i64 0)])]) 2 rfl rfl rfl (one_all rfl) F_size_24 rfl rfl (by simp) rfl) rfl rfl ?_
     rintro _ _ rfl
     refine ent_value (ov_assign rfl) rfl rfl rfl ?_
     refine ent_value (ov_assign rfl) rfl rfl rfl ?_
     refine ent_nil ?_
     refine ent_retc ?_
     cases H29
     have H31 := Option.some.inj (show some _ = some _ from H)
     first | (have e_ := Option.some.inj (show some _ = some _ from H31); subst e_) | subst H31
     exact ret_memp [] (by decide) rfl (vs := [(agg #[(int .i64 0), (int .i64 0), (int .i64 0), (int .i64 0), (int .i64 0), (int .i64 0), (int .i64 0), (int .i64 0), (int .i64 0)]), (int .i64 1), (int .i64 4)]) rfl ⟨⟨_, [(int .i64 0), (int .i64 0), (int .i64 0), (int .i64 0), (int .i64 0), (int .i64 0), (int .i64 0), (int .i64 0), (int .i64 0)], rfl, reads_boxW (i := 2) rfl, .inl ⟨F_agg_24, F_size_24, rfl⟩⟩, ⟨rfl, ⟨rfl, trivial⟩⟩⟩ _ rfl ⟨rfl, rfl⟩
    ·rw [if_neg c520] at H29
     refine ent_value_on (ov_move rfl) rfl rfl rfl (Bool.eq_false_iff.2 c520) rfl rfl ?_
     refine ent_value_on (ov_un rfl (u_not _)) rfl rfl rfl (Bool.eq_false_iff.2 c520) rfl rfl ?_
     refine ent_value (ov_pick rfl rfl rfl (pick_f (Bool.eq_false_iff.2 c520))) rfl rfl rfl ?_
     refine ent_nil ?_
     by_cases c521 : (!x199.2) = true
     ·rw [if_pos c521] at H29
      refine ent_cond_true rfl c521 ?_
      refine ent_seq ?_
      refine ent_region ?_
      refine ent_value (ov_build (is := []) (xs := []) (vs := []) rfl rfl (build_struct (cs := [(int .i64 0), (int .i64 0), (int .i64 0), (int .i64 0), (int .i64 0), (int .i64 0), (int .i64 0), (int .i64 0), (int .i64 0)]) F_zero_24 F_places_24 rfl)) rfl rfl rfl ?_
      refine ent_value (ov_move rfl) rfl rfl rfl ?_
      refine ent_value (ov_binL (m' := 1) rfl rfl (b_add _ _ _) (by decide)) rfl rfl rfl ?_
      refine ent_op0 (ot_storeG (cs := [(int .i64 0), (int .i64 0), (int .i64 0), (int .i64 0), (int .i64 0), (int .i64 0), (int .i64 0), (int .i64 0), (int .i64 0)]) (cs' := [(int .i64 0), (int .i64 0), (int .i64 0), (int .i64 0), (int .i64 0), (int .i64 0), (int .i64 0), (int .i64 0), (int .i64 0)]) (us := [(int .i64 0), (int .i64 0), (int .i64 0), (int .i64 0), (int .i64 0), (int .i64 0), (int .i64 0), (int .i64 0), (int .i64 0)]) (L' := [(box b9 53 [(pt b8 0), (pt b8 1), (pt b8 2), (pt b8 3), (pt b8 4), (pt b8 5), (pt b8 6), (pt b8 9), (pt b8 8)]), (box b8 51 [(int .i64 0), (int .i64 0), (int .i64 0), (int .i64 0), (int .i64 0), (int .i64 0), (int .i64 0), (int .i64 0), (int .i64 0), (int .i64 0)]), (box b7 24 [(int .i64 0), (int .i64 0), (int .i64 0), (int .i64 0), (int .i64 0), (int .i64 0), (int .i64 0), (int .i64 0), (int .i64 0)])]) 2 rfl rfl rfl (one_all rfl) F_size_24 rfl rfl (by simp) rfl) rfl rfl ?_
      rintro _ _ rfl
      refine ent_value (ov_assign rfl) rfl rfl rfl ?_
      refine ent_value (ov_assign rfl) rfl rfl rfl ?_
      refine ent_nil ?_
      refine ent_retc ?_
      cases H29
      have H32 := Option.some.inj (show some _ = some _ from H)
      first | (have e_ := Option.some.inj (show some _ = some _ from H32); subst e_) | subst H32
      exact ret_memp [] (by decide) rfl (vs := [(agg #[(int .i64 0), (int .i64 0), (int .i64 0), (int .i64 0), (int .i64 0), (int .i64 0), (int .i64 0), (int .i64 0), (int .i64 0)]), (int .i64 1), (int .i64 4)]) rfl ⟨⟨_, [(int .i64 0), (int .i64 0), (int .i64 0), (int .i64 0), (int .i64 0), (int .i64 0), (int .i64 0), (int .i64 0), (int .i64 0)], rfl, reads_boxW (i := 2) rfl, .inl ⟨F_agg_24, F_size_24, rfl⟩⟩, ⟨rfl, ⟨rfl, trivial⟩⟩⟩ _ rfl ⟨rfl, rfl⟩
     ·rw [if_neg c521] at H29
      refine ent_cond_false rfl (Bool.eq_false_iff.2 c521) ?_
      refine ent_skip ?_
      refine ent_seq ?_
      refine ent_region ?_
      refine ent_value (ov_move rfl) rfl rfl rfl ?_
      by_cases c522 : 0 < (9 : Int)
      ·rw [if_pos c522] at H29
       refine ent_value (ov_indexArr (o := 0) rfl rfl F_array_53 F_size_52 (by decide) c522) rfl rfl rfl ?_
       refine ent_value (ov_load (v := (pt b8 0)) rfl F_agg_52 (reads_box1 (i := 0) rfl rfl)) rfl rfl rfl ?_
       refine ent_value (ov_move rfl) rfl rfl rfl ?_
       refine ent_value (ov_nilCheck rfl) rfl rfl rfl ?_
       refine ent_op0 (ot_storeG (cs := [(int .i64 0), (int .i64 0), (int .i64 0), (int .i64 0), (int .i64 0), (int .i64 0), (int .i64 0), (int .i64 0), (int .i64 0), (int .i64 0)]) (cs' := [(int .i64 x199.1), (int .i64 0), (int .i64 0), (int .i64 0), (int .i64 0), (int .i64 0), (int .i64 0), (int .i64 0), (int .i64 0), (int .i64 0)]) (us := [(int .i64 x199.1)]) (L' := [(box b9 53 [(pt b8 0), (pt b8 1), (pt b8 2), (pt b8 3), (pt b8 4), (pt b8 5), (pt b8 6), (pt b8 9), (pt b8 8)]), (box b8 51 [(int .i64 x199.1), (int .i64 0), (int .i64 0), (int .i64 0), (int .i64 0), (int .i64 0), (int .i64 0), (int .i64 0), (int .i64 0), (int .i64 0)]), (box b7 24 [(int .i64 0), (int .i64 0), (int .i64 0), (int .i64 0), (int .i64 0), (int .i64 0), (int .i64 0), (int .i64 0), (int .i64 0)])]) 1 rfl rfl rfl (one_all rfl) F_size_2 rfl rfl (by simp) rfl) rfl rfl ?_
       rintro _ _ rfl
       refine ent_nil ?_
       refine ent_seq ?_
       refine ent_region ?_
       refine ent_value (ov_move rfl) rfl rfl rfl ?_
       refine ent_value (ov_assign rfl) rfl rfl rfl ?_
       refine ent_nil ?_
       refine ent_exit ?_
       refine ent_region ?_
       refine ent_value (ov_binL (m' := 1) rfl rfl (b_add _ _ _) (by decide)) rfl rfl rfl ?_
       refine ent_value (ov_move rfl) rfl rfl rfl ?_
       refine ent_nil ?_
       refine ent_round ?_
       refine ent_seq ?_
       refine ent_region ?_
       refine ent_value (ov_bin rfl rfl (b_lss _ _ _)) rfl rfl rfl ?_
       refine ent_nil ?_
       refine ent_seq ?_
       refine ent_cond_true rfl rfl ?_
       refine ent_skip ?_
       refine ent_seq ?_
       refine ent_block ?_
       refine ent_seq ?_
       refine ent_region ?_
       refine ent_value (ov_move rfl) rfl rfl rfl ?_
       refine ent_value (ov_indexAggN rfl rfl F_array_55 F_size_9 F_agg_9 (by decide) (by decide) rfl) rfl rfl rfl ?_
       refine ent_value (ov_assign rfl) rfl rfl rfl ?_
       refine ent_value (ov_assign rfl) rfl rfl rfl ?_
       refine ent_nil ?_
       refine ent_seq ?_
       refine ent_region ?_
       refine ent_value (ov_move rfl) rfl rfl rfl ?_
       obtain ⟨x203, h203, H29⟩ := Option.bind_eq_some_iff.1 H29
       refine ent_op (ot_call0 (first := []) (cap := []) (xs := [.tmp 28, .const (str ([10] : List UInt8))]) rfl rfl F_call_28 rfl (strings_Cut.spec x197.2.1 ([10] : List UInt8) _ h203)) rfl rfl rfl ?_
       rintro _ _ ⟨rfl, rfl⟩
       refine ent_value (ov_move rfl) rfl rfl rfl ?_
       refine ent_value (ov_extract rfl rfl) rfl rfl rfl ?_
       refine ent_value (ov_extract rfl rfl) rfl rfl rfl ?_
       refine ent_value (ov_extract rfl rfl) rfl rfl rfl ?_
       refine ent_value (ov_assign rfl) rfl rfl rfl ?_
       refine ent_value (ov_assign rfl) rfl rfl rfl ?_
       refine ent_value (ov_assign rfl) rfl rfl rfl ?_
       refine ent_nil ?_
       refine ent_seq ?_
       refine ent_region ?_
       refine ent_value (ov_move rfl) rfl rfl rfl ?_
       refine ent_value (ov_move rfl) rfl rfl rfl ?_
       by_cases c531 : (x187.2.1.length : Int) + (([32] : List UInt8).length : Int) ≤ 9223372036854775807
       ·rw [if_pos c531] at H29
        refine ent_value (ov_bin rfl rfl fun w => b_add_str _ _ w c531) rfl rfl rfl ?_
        obtain ⟨x204, h204, H29⟩ := thn_elim H29
        refine ent_op (ot_call0 (first := []) (cap := []) (xs := [.tmp 34, .tmp 36]) rfl rfl F_call_29 rfl (strings_CutPrefix.spec x203.1 (x187.2.1 ++ ([32] : List UInt8)) _ h204)) rfl rfl rfl ?_
        rintro _ _ ⟨rfl, rfl⟩
        refine ent_value (ov_move rfl) rfl rfl rfl ?_
        refine ent_value (ov_extract rfl rfl) rfl rfl rfl ?_
        refine ent_value (ov_extract rfl rfl) rfl rfl rfl ?_
        refine ent_value (ov_assign rfl) rfl rfl rfl ?_
        refine ent_value (ov_assign rfl) rfl rfl rfl ?_
        refine ent_nil ?_
        refine ent_seq ?_
        refine ent_region ?_
        refine ent_value (ov_move rfl) rfl rfl rfl ?_
        obtain ⟨x205, h205, H29⟩ := Option.bind_eq_some_iff.1 H29
        refine ent_op (ot_call0 (first := []) (cap := []) (xs := [.tmp 41]) rfl rfl F_call_30 rfl (words_Number.spec K x204.1 _ h205)) rfl rfl rfl ?_
        rintro _ _ ⟨rfl, rfl⟩
        refine ent_value (ov_move rfl) rfl rfl rfl ?_
        refine ent_value (ov_extract rfl rfl) rfl rfl rfl ?_
        refine ent_value (ov_extract rfl rfl) rfl rfl rfl ?_
        refine ent_value (ov_assign rfl) rfl rfl rfl ?_
        refine ent_value (ov_assign rfl) rfl rfl rfl ?_
        refine ent_nil ?_
        refine ent_seq ?_
        refine ent_seq ?_
        refine ent_region ?_
        refine ent_value (ov_move rfl) rfl rfl rfl ?_
        refine ent_value (ov_un rfl (u_not _)) rfl rfl rfl ?_
        refine ent_value (ov_move rfl) rfl rfl rfl ?_
        by_cases c535 : (!x203.2.2) = true
        ·rw [if_pos c535] at H29
         refine ent_off rfl rfl rfl c535 rfl rfl ?_
         refine ent_off rfl rfl rfl c535 rfl rfl ?_
         refine ent_value (ov_pick rfl rfl rfl (pick_t c535)) rfl rfl rfl ?_
         refine ent_value (ov_move rfl) rfl rfl rfl ?_
         refine ent_off rfl rfl rfl rfl rfl rfl ?_
         refine ent_off rfl rfl rfl rfl rfl rfl ?_
         refine ent_value (ov_pick rfl rfl rfl rfl) rfl rfl rfl ?_
         refine ent_nil ?_
         refine ent_cond_true rfl rfl ?_
         refine ent_seq ?_
         refine ent_region ?_
         refine ent_value (ov_build (is := []) (xs := []) (vs := []) rfl rfl (build_struct (cs := [(int .i64 0), (int .i64 0), (int .i64 0), (int .i64 0), (int .i64 0), (int .i64 0), (int .i64 0), (int .i64 0), (int .i64 0)]) F_zero_24 F_places_24 rfl)) rfl rfl rfl ?_
         refine ent_value (ov_move rfl) rfl rfl rfl ?_
         refine ent_value (ov_binL (m' := 2) rfl rfl (b_add _ _ _) (by decide)) rfl rfl rfl ?_
         refine ent_op0 (ot_storeG (cs := [(int .i64 0), (int .i64 0), (int .i64 0), (int .i64 0), (int .i64 0), (int .i64 0), (int .i64 0), (int .i64 0), (int .i64 0)]) (cs' := [(int .i64 0), (int .i64 0), (int .i64 0), (int .i64 0), (int .i64 0), (int .i64 0), (int .i64 0), (int .i64 0), (int .i64 0)]) (us := [(int .i64 0), (int .i64 0), (int .i64 0), (int .i64 0), (int .i64 0), (int .i64 0), (int .i64 0), (int .i64 0), (int .i64 0)]) (L' := [(box b9 53 [(pt b8 0), (pt b8 1), (pt b8 2), (pt b8 3), (pt b8 4), (pt b8 5), (pt b8 6), (pt b8 9), (pt b8 8)]), (box b8 51 [(int .i64 x199.1), (int .i64 0), (int .i64 0), (int .i64 0), (int .i64 0), (int .i64 0), (int .i64 0), (int .i64 0), (int .i64 0), (int .i64 0)]), (box b7 24 [(int .i64 0), (int .i64 0), (int .i64 0), (int .i64 0), (int .i64 0), (int .i64 0), (int .i64 0), (int .i64 0), (int .i64 0)])]) 2 rfl rfl rfl (one_all rfl) F_size_24 rfl rfl (by simp) rfl) rfl rfl ?_
         rintro _ _ rfl
         refine ent_value (ov_assign rfl) rfl rfl rfl ?_
         refine ent_value (ov_assign rfl) rfl rfl rfl ?_
         refine ent_nil ?_
         refine ent_retc ?_
         cases H29
         have H33 := Option.some.inj (show some _ = some _ from H)
         first | (have e_ := Option.some.inj (show some _ = some _ from H33); subst e_) | subst H33
         exact ret_memp [] (by decide) rfl (vs := [(agg #[(int .i64 0), (int .i64 0), (int .i64 0), (int .i64 0), (int .i64 0), (int .i64 0), (int .i64 0), (int .i64 0), (int .i64 0)]), (int .i64 2), (int .i64 4)]) rfl ⟨⟨_, [(int .i64 0), (int .i64 0), (int .i64 0), (int .i64 0), (int .i64 0), (int .i64 0), (int .i64 0), (int .i64 0), (int .i64 0)], rfl, reads_boxW (i := 2) rfl, .inl ⟨F_agg_24, F_size_24, rfl⟩⟩, ⟨rfl, ⟨rfl, trivial⟩⟩⟩ _ rfl ⟨rfl, rfl⟩
        ·rw [if_neg c535] at H29
         refine ent_value_on (ov_move rfl) rfl rfl rfl (Bool.eq_false_iff.2 c535) rfl rfl ?_
         refine ent_value_on (ov_un rfl (u_not _)) rfl rfl rfl (Bool.eq_false_iff.2 c535) rfl rfl ?_
         refine ent_value (ov_pick rfl rfl rfl (pick_f (Bool.eq_false_iff.2 c535))) rfl rfl rfl ?_
         refine ent_value (ov_move rfl) rfl rfl rfl ?_
         by_cases c536 : (!x204.2) = true
         ·rw [if_pos c536] at H29
          refine ent_off rfl rfl rfl c536 rfl rfl ?_
          refine ent_off rfl rfl rfl c536 rfl rfl ?_
          refine ent_value (ov_pick rfl rfl rfl (pick_t c536)) rfl rfl rfl ?_
          refine ent_nil ?_
          refine ent_cond_true rfl rfl ?_
          refine ent_seq ?_
          refine ent_region ?_
          refine ent_value (ov_build (is := []) (xs := []) (vs := []) rfl rfl (build_struct (cs := [(int .i64 0), (int .i64 0), (int .i64 0), (int .i64 0), (int .i64 0), (int .i64 0), (int .i64 0), (int .i64 0), (int .i64 0)]) F_zero_24 F_places_24 rfl)) rfl rfl rfl ?_
          refine ent_value (ov_move rfl) rfl rfl rfl ?_
          refine ent_value (ov_binL (m' := 2) rfl rfl (b_add _ _ _) (by decide)) rfl rfl rfl ?_
          refine ent_op0 (ot_storeG (cs := [(int .i64 0), (int .i64 0), (int .i64 0), (int .i64 0), (int .i64 0), (int .i64 0), (int .i64 0), (int .i64 0), (int .i64 0)]) (cs' := [(int .i64 0), (int .i64 0), (int .i64 0), (int .i64 0), (int .i64 0), (int .i64 0), (int .i64 0), (int .i64 0), (int .i64 0)]) (us := [(int .i64 0), (int .i64 0), (int .i64 0), (int .i64 0), (int .i64 0), (int .i64 0), (int .i64 0), (int .i64 0), (int .i64 0)]) (L' := [(box b9 53 [(pt b8 0), (pt b8 1), (pt b8 2), (pt b8 3), (pt b8 4), (pt b8 5), (pt b8 6), (pt b8 9), (pt b8 8)]), (box b8 51 [(int .i64 x199.1), (int .i64 0), (int .i64 0), (int .i64 0), (int .i64 0), (int .i64 0), (int .i64 0), (int .i64 0), (int .i64 0), (int .i64 0)]), (box b7 24 [(int .i64 0), (int .i64 0), (int .i64 0), (int .i64 0), (int .i64 0), (int .i64 0), (int .i64 0), (int .i64 0), (int .i64 0)])]) 2 rfl rfl rfl (one_all rfl) F_size_24 rfl rfl (by simp) rfl) rfl rfl ?_
          rintro _ _ rfl
          refine ent_value (ov_assign rfl) rfl rfl rfl ?_
          refine ent_value (ov_assign rfl) rfl rfl rfl ?_
          refine ent_nil ?_
          refine ent_retc ?_
          cases H29
          have H34 := Option.some.inj (show some _ = some _ from H)
          first | (have e_ := Option.some.inj (show some _ = some _ from H34); subst e_) | subst H34
          exact ret_memp [] (by decide) rfl (vs := [(agg #[(int .i64 0), (int .i64 0), (int .i64 0), (int .i64 0), (int .i64 0), (int .i64 0), (int .i64 0), (int .i64 0), (int .i64 0)]), (int .i64 2), (int .i64 4)]) rfl ⟨⟨_, [(int .i64 0), (int .i64 0), (int .i64 0), (int .i64 0), (int .i64 0), (int .i64 0), (int .i64 0), (int .i64 0), (int .i64 0)], rfl, reads_boxW (i := 2) rfl, .inl ⟨F_agg_24, F_size_24, rfl⟩⟩, ⟨rfl, ⟨rfl, trivial⟩⟩⟩ _ rfl ⟨rfl, rfl⟩
         ·rw [if_neg c536] at H29
          refine ent_value_on (ov_move rfl) rfl rfl rfl (Bool.eq_false_iff.2 c536) rfl rfl ?_
          refine ent_value_on (ov_un rfl (u_not _)) rfl rfl rfl (Bool.eq_false_iff.2 c536) rfl rfl ?_
          refine ent_value (ov_pick rfl rfl rfl (pick_f (Bool.eq_false_iff.2 c536))) rfl rfl rfl ?_
          refine ent_nil ?_
          by_cases c537 : (!x205.2) = true
          ·rw [if_pos c537] at H29
           refine ent_cond_true rfl c537 ?_
           refine ent_seq ?_
           refine ent_region ?_
           refine ent_value (ov_build (is := []) (xs := []) (vs := []) rfl rfl (build_struct (cs := [(int .i64 0), (int .i64 0), (int .i64 0), (int .i64 0), (int .i64 0), (int .i64 0), (int .i64 0), (int .i64 0), (int .i64 0)]) F_zero_24 F_places_24 rfl)) rfl rfl rfl ?_
           refine ent_value (ov_move rfl) rfl rfl rfl ?_
           refine ent_value (ov_binL (m' := 2) rfl rfl (b_add _ _ _) (by decide)) rfl rfl rfl ?_
           refine ent_op0 (ot_storeG (cs := [(int .i64 0), (int .i64 0), (int .i64 0), (int .i64 0), (int .i64 0), (int .i64 0), (int .i64 0), (int .i64 0), (int .i64 0)]) (cs' := [(int .i64 0), (int .i64 0), (int .i64 0), (int .i64 0), (int .i64 0), (int .i64 0), (int .i64 0), (int .i64 0), (int .i64 0)]) (us := [(int .i64 0), (int .i64 0), (int .i64 0), (int .i64 0), (int .i64 0), (int .i64 0), (int .i64 0), (int .i64 0), (int .i64 0)]) (L' := [(box b9 53 [(pt b8 0), (pt b8 1), (pt b8 2), (pt b8 3), (pt b8 4), (pt b8 5), (pt b8 6), (pt b8 9), (pt b8 8)]), (box b8 51 [(int .i64 x199.1), (int .i64 0), (int .i64 0), (int .i64 0), (int .i64 0), (int .i64 0), (int .i64 0), (int .i64 0), (int .i64 0), (int .i64 0)]), (box b7 24 [(int .i64 0), (int .i64 0), (int .i64 0), (int .i64 0), (int .i64 0), (int .i64 0), (int .i64 0), (int .i64 0), (int .i64 0)])]) 2 rfl rfl rfl (one_all rfl) F_size_24 rfl rfl (by simp) rfl) rfl rfl ?_
           rintro _ _ rfl
           refine ent_value (ov_assign rfl) rfl rfl rfl ?_
           refine ent_value (ov_assign rfl) rfl rfl rfl ?_
           refine ent_nil ?_
           refine ent_retc ?_
           cases H29
           have H35 := Option.some.inj (show some _ = some _ from H)
           first | (have e_ := Option.some.inj (show some _ = some _ from H35); subst e_) | subst H35
           exact ret_memp [] (by decide) rfl (vs := [(agg #[(int .i64 0), (int .i64 0), (int .i64 0), (int .i64 0), (int .i64 0), (int .i64 0), (int .i64 0), (int .i64 0), (int .i64 0)]), (int .i64 2), (int .i64 4)]) rfl ⟨⟨_, [(int .i64 0), (int .i64 0), (int .i64 0), (int .i64 0), (int .i64 0), (int .i64 0), (int .i64 0), (int .i64 0), (int .i64 0)], rfl, reads_boxW (i := 2) rfl, .inl ⟨F_agg_24, F_size_24, rfl⟩⟩, ⟨rfl, ⟨rfl, trivial⟩⟩⟩ _ rfl ⟨rfl, rfl⟩
          ·rw [if_neg c537] at H29
           refine ent_cond_false rfl (Bool.eq_false_iff.2 c537) ?_
           refine ent_skip ?_
           refine ent_seq ?_
           refine ent_region ?_
           refine ent_value (ov_move rfl) rfl rfl rfl ?_
           by_cases c538 : 1 < (9 : Int)
           ·rw [if_pos c538] at H29
            refine ent_value (ov_indexArr (o := 0) rfl rfl F_array_53 F_size_52 (by decide) c538) rfl rfl rfl ?_
            refine ent_value (ov_load (v := (pt b8 1)) rfl F_agg_52 (reads_box1 (i := 0) rfl rfl)) rfl rfl rfl ?_
            refine ent_value (ov_move rfl) rfl rfl rfl ?_
            refine ent_value (ov_nilCheck rfl) rfl rfl rfl ?_
            refine ent_op0 (ot_storeG (cs := [(int .i64 x199.1), (int .i64 0), (int .i64 0), (int .i64 0), (int .i64 0), (int .i64 0), (int .i64 0), (int .i64 0), (int .i64 0), (int .i64 0)]) (cs' := [(int .i64 x199.1), (int .i64 x205.1), (int .i64 0), (int .i64 0), (int .i64 0), (int .i64 0), (int .i64 0), (int .i64 0), (int .i64 0), (int .i64 0)]) (us := [(int .i64 x205.1)]) (L' := [(box b9 53 [(pt b8 0), (pt b8 1), (pt b8 2), (pt b8 3), (pt b8 4), (pt b8 5), (pt b8 6), (pt b8 9), (pt b8 8)]), (box b8 51 [(int .i64 x199.1), (int .i64 x205.1), (int .i64 0), (int .i64 0), (int .i64 0), (int .i64 0), (int .i64 0), (int .i64 0), (int .i64 0), (int .i64 0)]), (box b7 24 [(int .i64 0), (int .i64 0), (int .i64 0), (int .i64 0), (int .i64 0), (int .i64 0), (int .i64 0), (int .i64 0), (int .i64 0)])]) 1 rfl rfl rfl (one_all rfl) F_size_2 rfl rfl (by simp) rfl) rfl rfl ?_
            rintro _ _ rfl
            refine ent_nil ?_
            refine ent_seq ?_
            refine ent_region ?_
            refine ent_value (ov_move rfl) rfl rfl rfl ?_
            refine ent_value (ov_assign rfl) rfl rfl rfl ?_
            refine ent_nil ?_
            refine ent_exit ?_
            refine ent_region ?_
            refine ent_value (ov_binL (m' := 2) rfl rfl (b_add _ _ _) (by decide)) rfl rfl rfl ?_
            refine ent_value (ov_move rfl) rfl rfl rfl ?_
            refine ent_nil ?_
            refine ent_round ?_
            refine ent_seq ?_
            refine ent_region ?_
            refine ent_value (ov_bin rfl rfl (b_lss _ _ _)) rfl rfl rfl ?_
            refine ent_nil ?_
            refine ent_seq ?_
            refine ent_cond_true rfl rfl ?_
            refine ent_skip ?_
            refine ent_seq ?_
            refine ent_block ?_
            refine ent_seq ?_
            refine ent_region ?_
            refine ent_value (ov_move rfl) rfl rfl rfl ?_
            refine ent_value (ov_indexAggN rfl rfl F_array_55 F_size_9 F_agg_9 (by decide) (by decide) rfl) rfl rfl rfl ?_
            refine ent_value (ov_assign rfl) rfl rfl rfl ?_
            refine ent_value (ov_assign rfl) rfl rfl rfl ?_
            refine ent_nil ?_
            refine ent_seq ?_
            refine ent_region ?_
            refine ent_value (ov_move rfl) rfl rfl rfl ?_
            obtain ⟨x209, h209, H29⟩ := Option.bind_eq_some_iff.1 H29
            refine ent_op (ot_call0 (first := []) (cap := []) (xs := [.tmp 28, .const (str ([10] : List UInt8))]) rfl rfl F_call_28 rfl (strings_Cut.spec x203.2.1 ([10] : List UInt8) _ h209)) rfl rfl rfl ?_
            rintro _ _ ⟨rfl, rfl⟩
            refine ent_value (ov_move rfl) rfl rfl rfl ?_
            refine ent_value (ov_extract rfl rfl) rfl rfl rfl ?_
            refine ent_value (ov_extract rfl rfl) rfl rfl rfl ?_
            refine ent_value (ov_extract rfl rfl) rfl rfl rfl ?_
            refine ent_value (ov_assign rfl) rfl rfl rfl ?_
            refine ent_value (ov_assign rfl) rfl rfl rfl ?_
            refine ent_value (ov_assign rfl) rfl rfl rfl ?_
            refine ent_nil ?_
            refine ent_seq ?_
            refine ent_region ?_
            refine ent_value (ov_move rfl) rfl rfl rfl ?_
            refine ent_value (ov_move rfl) rfl rfl rfl ?_
            by_cases c547 : (x187.2.2.1.length : Int) + (([32] : List UInt8).length : Int) ≤ 9223372036854775807
            ·rw [if_pos c547] at H29
             refine ent_value (ov_bin rfl rfl fun w => b_add_str _ _ w c547) rfl rfl rfl ?_
             obtain ⟨x210, h210, H29⟩ := thn_elim H29
             refine ent_op (ot_call0 (first := []) (cap := []) (xs := [.tmp 34, .tmp 36]) rfl rfl F_call_29 rfl (strings_CutPrefix.spec x209.1 (x187.2.2.1 ++ ([32] : List UInt8)) _ h210)) rfl rfl rfl ?_
             rintro _ _ ⟨rfl, rfl⟩
             refine ent_value (ov_move rfl) rfl rfl rfl ?_
             refine ent_value (ov_extract rfl rfl) rfl rfl rfl ?_
             refine ent_value (ov_extract rfl rfl) rfl rfl rfl ?_
             refine ent_value (ov_assign rfl) rfl rfl rfl ?_
             refine ent_value (ov_assign rfl) rfl rfl rfl ?_
             refine ent_nil ?_
             refine ent_seq ?_
             refine ent_region ?_
             refine ent_value (ov_move rfl) rfl rfl rfl ?_
             obtain ⟨x211, h211, H29⟩ := Option.bind_eq_some_iff.1 H29
             refine ent_op (ot_call0 (first := []) (cap := []) (xs := [.tmp 41]) rfl rfl F_call_30 rfl (words_Number.spec K x210.1 _ h211)) rfl rfl rfl ?_
             rintro _ _ ⟨rfl, rfl⟩
             refine ent_value (ov_move rfl) rfl rfl rfl ?_
             refine ent_value (ov_extract rfl rfl) rfl rfl rfl ?_
             refine ent_value (ov_extract rfl rfl) rfl rfl rfl ?_
             refine ent_value (ov_assign rfl) rfl rfl rfl ?_
             refine ent_value (ov_assign rfl) rfl rfl rfl ?_
             refine ent_nil ?_
             refine ent_seq ?_
             refine ent_seq ?_
             refine ent_region ?_
             refine ent_value (ov_move rfl) rfl rfl rfl ?_
             refine ent_value (ov_un rfl (u_not _)) rfl rfl rfl ?_
             refine ent_value (ov_move rfl) rfl rfl rfl ?_
             by_cases c551 : (!x209.2.2) = true
             ·rw [if_pos c551] at H29
              refine ent_off rfl rfl rfl c551 rfl rfl ?_
              refine ent_off rfl rfl rfl c551 rfl rfl ?_
              refine ent_value (ov_pick rfl rfl rfl (pick_t c551)) rfl rfl rfl ?_
              refine ent_value (ov_move rfl) rfl rfl rfl ?_
              refine ent_off rfl rfl rfl rfl rfl rfl ?_
              refine ent_off rfl rfl rfl rfl rfl rfl ?_
              refine ent_value (ov_pick rfl rfl rfl rfl) rfl rfl rfl ?_
              refine ent_nil ?_
              refine ent_cond_true rfl rfl ?_
              refine ent_seq ?_
              refine ent_region ?_
              refine ent_value (ov_build (is := []) (xs := []) (vs := []) rfl rfl (build_struct (cs := [(int .i64 0), (int .i64 0), (int .i64 0), (int .i64 0), (int .i64 0), (int .i64 0), (int .i64 0), (int .i64 0), (int .i64 0)]) F_zero_24 F_places_24 rfl)) rfl rfl rfl ?_
              refine ent_value (ov_move rfl) rfl rfl rfl ?_
              refine ent_value (ov_binL (m' := 3) rfl rfl (b_add _ _ _) (by decide)) rfl rfl rfl ?_
              refine ent_op0 (ot_storeG (cs := [(int .i64 0), (int .i64 0), (int .i64 0), (int .i64 0), (int .i64 0), (int .i64 0), (int .i64 0), (int .i64 0), (int .i64 0)]) (cs' := [(int .i64 0), (int .i64 0), (int .i64 0), (int .i64 0), (int .i64 0), (int .i64 0), (int .i64 0), (int .i64 0), (int .i64 0)]) (us := [(int .i64 0), (int .i64 0), (int .i64 0), (int .i64 0), (int .i64 0), (int .i64 0), (int .i64 0), (int .i64 0), (int .i64 0)]) (L' := [(box b9 53 [(pt b8 0), (pt b8 1), (pt b8 2), (pt b8 3), (pt b8 4), (pt b8 5), (pt b8 6), (pt b8 9), (pt b8 8)]), (box b8 51 [(int .i64 x199.1), (int .i64 x205.1), (int .i64 0), (int .i64 0), (int .i64 0), (int .i64 0), (int .i64 0), (int .i64 0), (int .i64 0), (int .i64 0)]), (box b7 24 [(int .i64 0), (int .i64 0), (int .i64 0), (int .i64 0), (int .i64 0), (int .i64 0), (int .i64 0), (int .i64 0), (int .i64 0)])]) 2 rfl rfl rfl (one_all rfl) F_size_24 rfl rfl (by simp) rfl) rfl rfl ?_
              rintro _ _ rfl
              refine ent_value (ov_assign rfl) rfl rfl rfl ?_
              refine ent_value (ov_assign rfl) rfl rfl rfl ?_
              refine ent_nil ?_
              refine ent_retc ?_
              cases H29
              have H36 := Option.some.inj (show some _ = some _ from H)
              first | (have e_ := Option.some.inj (show some _ = some _ from H36); subst e_) | subst H36
              exact ret_memp [] (by decide) rfl (vs := [(agg #[(int .i64 0), (int .i64 0), (int .i64 0), (int .i64 0), (int .i64 0), (int .i64 0), (int .i64 0), (int .i64 0), (int .i64 0)]), (int .i64 3), (int .i64 4)]) rfl ⟨⟨_, [(int .i64 0), (int .i64 0), (int .i64 0), (int .i64 0), (int .i64 0), (int .i64 0), (int .i64 0), (int .i64 0), (int .i64 0)], rfl, reads_boxW (i := 2) rfl, .inl ⟨F_agg_24, F_size_24, rfl⟩⟩, ⟨rfl, ⟨rfl, trivial⟩⟩⟩ _ rfl ⟨rfl, rfl⟩
             ·rw [if_neg c551] at H29
              refine ent_value_on (ov_move rfl) rfl rfl rfl (Bool.eq_false_iff.2 c551) rfl rfl ?_
              refine ent_value_on (ov_un rfl (u_not _)) rfl rfl rfl (Bool.eq_false_iff.2 c551) rfl rfl ?_
              refine ent_value (ov_pick rfl rfl rfl (pick_f (Bool.eq_false_iff.2 c551))) rfl rfl rfl ?_
              refine ent_value (ov_move rfl) rfl rfl rfl ?_
              by_cases c552 : (!x210.2) = true
              ·rw [if_pos c552] at H29
               refine ent_off rfl rfl rfl c552 rfl rfl ?_
               refine ent_off rfl rfl rfl c552 rfl rfl ?_
               refine ent_value (ov_pick rfl rfl rfl (pick_t c552)) rfl rfl rfl ?_
               refine ent_nil ?_
               refine ent_cond_true rfl rfl ?_
               refine ent_seq ?_
               refine ent_region ?_
               refine ent_value (ov_build (is := []) (xs := []) (vs := []) rfl rfl (build_struct (cs := [(int .i64 0), (int .i64 0), (int .i64 0), (int .i64 0), (int .i64 0), (int .i64 0), (int .i64 0), (int .i64 0), (int .i64 0)]) F_zero_24 F_places_24 rfl)) rfl rfl rfl ?_
               refine ent_value (ov_move rfl) rfl rfl rfl ?_
               refine ent_value (ov_binL (m' := 3) rfl rfl (b_add _ _ _) (by decide)) rfl rfl rfl ?_
               refine ent_op0 (ot_storeG (cs := [(int .i64 0), (int .i64 0), (int .i64 0), (int .i64 0), (int .i64 0), (int .i64 0), (int .i64 0), (int .i64 0), (int .i64 0)]) (cs' := [(int .i64 0), (int .i64 0), (int .i64 0), (int .i64 0), (int .i64 0), (int .i64 0), (int .i64 0), (int .i64 0), (int .i64 0)]) (us := [(int .i64 0), (int .i64 0), (int .i64 0), (int .i64 0), (int .i64 0), (int .i64 0), (int .i64 0), (int .i64 0), (int .i64 0)]) (L' := [(box b9 53 [(pt b8 0), (pt b8 1), (pt b8 2), (pt b8 3), (pt b8 4), (pt b8 5), (pt b8 6), (pt b8 9), (pt b8 8)]), (box b8 51 [(int .i64 x199.1), (int .i64 x205.1), (int .i64 0), (int .i64 0), (int .i64 0), (int .i64 0), (int .i64 0), (int .i64 0), (int .i64 0), (int .i64 0)]), (box b7 24 [(int .i64 0), (int .i64 0), (int .i64 0), (int .i64 0), (int .i64 0), (int .i64 0), (int .i64 0), (int .i64 0), (int .i64 0)])]) 2 rfl rfl rfl (one_all rfl) F_size_24 rfl rfl (by simp) rfl) rfl rfl ?_
               rintro _ _ rfl
               refine ent_value (ov_assign rfl) rfl rfl rfl ?_
               refine ent_value (ov_assign rfl) rfl rfl rfl ?_
               refine ent_nil ?_
               refine ent_retc ?_
               cases H29
               have H37 := Option.some.inj (show some _ = some _ from H)
               first | (have e_ := Option.some.inj (show some _ = some _ from H37); subst e_) | subst H37
               exact ret_memp [] (by decide) rfl (vs := [(agg #[(int .i64 0), (int .i64 0), (int .i64 0), (int .i64 0), (int .i64 0), (int .i64 0), (int .i64 0), (int .i64 0), (int .i64 0)]), (int .i64 3), (int .i64 4)]) rfl ⟨⟨_, [(int .i64 0), (int .i64 0), (int .i64 0), (int .i64 0), (int .i64 0), (int .i64 0), (int .i64 0), (int .i64 0), (int .i64 0)], rfl, reads_boxW (i := 2) rfl, .inl ⟨F_agg_24, F_size_24, rfl⟩⟩, ⟨rfl, ⟨rfl, trivial⟩⟩⟩ _ rfl ⟨rfl, rfl⟩
              ·rw [if_neg c552] at H29
               refine ent_value_on (ov_move rfl) rfl rfl rfl (Bool.eq_false_iff.2 c552) rfl rfl ?_
               refine ent_value_on (ov_un rfl (u_not _)) rfl rfl rfl (Bool.eq_false_iff.2 c552) rfl rfl ?_
               refine ent_value (ov_pick rfl rfl rfl (pick_f (Bool.eq_false_iff.2 c552))) rfl rfl rfl ?_
               refine ent_nil ?_
               by_cases c553 : (!x211.2) = true
               ·rw [if_pos c553] at H29
                refine ent_cond_true rfl c553 ?_
                refine ent_seq ?_
                refine ent_region ?_
                refine ent_value (ov_build (is := []) (xs := []) (vs := []) rfl rfl (build_struct (cs := [(int .i64 0), (int .i64 0), (int .i64 0), (int .i64 0), (int .i64 0), (int .i64 0), (int .i64 0), (int .i64 0), (int .i64 0)]) F_zero_24 F_places_24 rfl)) rfl rfl rfl ?_
                refine ent_value (ov_move rfl) rfl rfl rfl ?_
                refine ent_value (ov_binL (m' := 3) rfl rfl (b_add _ _ _) (by decide)) rfl rfl rfl ?_
                refine ent_op0 (ot_storeG (cs := [(int .i64 0), (int .i64 0), (int .i64 0), (int .i64 0), (int .i64 0), (int .i64 0), (int .i64 0), (int .i64 0), (int .i64 0)]) (cs' := [(int .i64 0), (int .i64 0), (int .i64 0), (int .i64 0), (int .i64 0), (int .i64 0), (int .i64 0), (int .i64 0), (int .i64 0)]) (us := [(int .i64 0), (int .i64 0), (int .i64 0), (int .i64 0), (int .i64 0), (int .i64 0), (int .i64 0), (int .i64 0), (int .i64 0)]) (L' := [(box b9 53 [(pt b8 0), (pt b8 1), (pt b8 2), (pt b8 3), (pt b8 4), (pt b8 5), (pt b8 6), (pt b8 9), (pt b8 8)]), (box b8 51 [(int .i64 x199.1), (int .i64 x205.1), (int .i64 0), (int .i64 0), (int .i64 0), (int .i64 0), (int .i64 0), (int .i64 0), (int .i64 0), (int .i64 0)]), (box b7 24 [(int .i64 0), (int .i64 0), (int .i64 0), (int .i64 0), (int .i64 0), (int .i64 0), (int .i64 0), (int .i64 0), (int .i64 0)])]) 2 rfl rfl rfl (one_all rfl) F_size_24 rfl rfl (by simp) rfl) rfl rfl ?_
                rintro _ _ rfl
                refine ent_value (ov_assign rfl) rfl rfl rfl ?_
                refine ent_value (ov_assign rfl) rfl rfl rfl ?_
                refine ent_nil ?_
                refine ent_retc ?_
                cases H29
                have H38 := Option.some.inj (show some _ = some _ from H)
                first | (have e_ := Option.some.inj (show some _ = some _ from H38); subst e_) | subst H38
                exact ret_memp [] (by decide) rfl (vs := [(agg #[(int .i64 0), (int .i64 0), (int .i64 0), (int .i64 0), (int .i64 0), (int .i64 0), (int .i64 0), (int .i64 0), (int .i64 0)]), (int .i64 3), (int .i64 4)]) rfl ⟨⟨_, [(int .i64 0), (int .i64 0), (int .i64 0), (int .i64 0), (int .i64 0), (int .i64 0), (int .i64 0), (int .i64 0), (int .i64 0)], rfl, reads_boxW (i := 2) rfl, .inl ⟨F_agg_24, F_size_24, rfl⟩⟩, ⟨rfl, ⟨rfl, trivial⟩⟩⟩ _ rfl ⟨rfl, rfl⟩
               ·rw [if_neg c553] at H29
                refine ent_cond_false rfl (Bool.eq_false_iff.2 c553) ?_
                refine ent_skip ?_
                refine ent_seq ?_
                refine ent_region ?_
                refine ent_value (ov_move rfl) rfl rfl rfl ?_
                by_cases c554 : 2 < (9 : Int)
                ·rw [if_pos c554] at H29
                 refine ent_value (ov_indexArr (o := 0) rfl rfl F_array_53 F_size_52 (by decide) c554) rfl rfl rfl ?_
                 refine ent_value (ov_load (v := (pt b8 2)) rfl F_agg_52 (reads_box1 (i := 0) rfl rfl)) rfl rfl rfl ?_
                 refine ent_value (ov_move rfl) rfl rfl rfl ?_
                 refine ent_value (ov_nilCheck rfl) rfl rfl rfl ?_
                 refine ent_op0 (ot_storeG (cs := [(int .i64 x199.1), (int .i64 x205.1), (int .i64 0), (int .i64 0), (int .i64 0), (int .i64 0), (int .i64 0), (int .i64 0), (int .i64 0), (int .i64 0)]) (cs' := [(int .i64 x199.1), (int .i64 x205.1), (int .i64 x211.1), (int .i64 0), (int .i64 0), (int .i64 0), (int .i64 0), (int .i64 0), (int .i64 0), (int .i64 0)]) (us := [(int .i64 x211.1)]) (L' := [(box b9 53 [(pt b8 0), (pt b8 1), (pt b8 2), (pt b8 3), (pt b8 4), (pt b8 5), (pt b8 6), (pt b8 9), (pt b8 8)]), (box b8 51 [(int .i64 x199.1), (int .i64 x205.1), (int .i64 x211.1), (int .i64 0), (int .i64 0), (int .i64 0), (int .i64 0), (int .i64 0), (int .i64 0), (int .i64 0)]), (box b7 24 [(int .i64 0), (int .i64 0), (int .i64 0), (int .i64 0), (int .i64 0), (int .i64 0), (int .i64 0), (int .i64 0), (int .i64 0)])]) 1 rfl rfl rfl (one_all rfl) F_size_2 rfl rfl (by simp) rfl) rfl rfl ?_
                 rintro _ _ rfl
                 refine ent_nil ?_
                 refine ent_seq ?_
                 refine ent_region ?_
                 refine ent_value (ov_move rfl) rfl rfl rfl ?_
                 refine ent_value (ov_assign rfl) rfl rfl rfl ?_
                 refine ent_nil ?_
                 refine ent_exit ?_
                 refine ent_region ?_
                 refine ent_value (ov_binL (m' := 3) rfl rfl (b_add _ _ _) (by decide)) rfl rfl rfl ?_
                 refine ent_value (ov_move rfl) rfl rfl rfl ?_
                 refine ent_nil ?_
                 refine ent_round ?_
                 refine ent_seq ?_
                 refine ent_region ?_
                 refine ent_value (ov_bin rfl rfl (b_lss _ _ _)) rfl rfl rfl ?_
                 refine ent_nil ?_
                 refine ent_seq ?_
                 refine ent_cond_true rfl rfl ?_
                 refine ent_skip ?_
                 refine ent_seq ?_
                 refine ent_block ?_
                 refine ent_seq ?_
                 refine ent_region ?_
                 refine ent_value (ov_move rfl) rfl rfl rfl ?_
                 refine ent_value (ov_indexAggN rfl rfl F_array_55 F_size_9 F_agg_9 (by decide) (by decide) rfl) rfl rfl rfl ?_
                 refine ent_value (ov_assign rfl) rfl rfl rfl ?_
                 refine ent_value (ov_assign rfl) rfl rfl rfl ?_
                 refine ent_nil ?_
                 refine ent_seq ?_
                 refine ent_region ?_
                 refine ent_value (ov_move rfl) rfl rfl rfl ?_
                 obtain ⟨x215, h215, H29⟩ := Option.bind_eq_some_iff.1 H29
                 refine ent_op (ot_call0 (first := []) (cap := []) (xs := [.tmp 28, .const (str ([10] : List UInt8))]) rfl rfl F_call_28 rfl (strings_Cut.spec x209.2.1 ([10] : List UInt8) _ h215)) rfl rfl rfl ?_
                 rintro _ _ ⟨rfl, rfl⟩
                 refine ent_value (ov_move rfl) rfl rfl rfl ?_
                 refine ent_value (ov_extract rfl rfl) rfl rfl rfl ?_
                 refine ent_value (ov_extract rfl rfl) rfl rfl rfl ?_
                 refine ent_value (ov_extract rfl rfl) rfl rfl rfl ?_
                 refine ent_value (ov_assign rfl) rfl rfl rfl ?_
                 refine ent_value (ov_assign rfl) rfl rfl rfl ?_
                 refine ent_value (ov_assign rfl) rfl rfl rfl ?_
                 refine ent_nil ?_
                 refine ent_seq ?_
                 refine ent_region ?_
                 refine ent_value (ov_move rfl) rfl rfl rfl ?_
                 refine ent_value (ov_move rfl) rfl rfl rfl ?_
                 by_cases c563 : (x187.2.2.2.1.length : Int) + (([32] : List UInt8).length : Int) ≤ 9223372036854775807
                 ·rw [if_pos c563] at H29
                  refine ent_value (ov_bin rfl rfl fun w => b_add_str _ _ w c563) rfl rfl rfl ?_
                  obtain ⟨x216, h216, H29⟩ := thn_elim H29
                  refine ent_op (ot_call0 (first := []) (cap := []) (xs := [.tmp 34, .tmp 36]) rfl rfl F_call_29 rfl (strings_CutPrefix.spec x215.1 (x187.2.2.2.1 ++ ([32] : List UInt8)) _ h216)) rfl rfl rfl ?_
                  rintro _ _ ⟨rfl, rfl⟩
                  refine ent_value (ov_move rfl) rfl rfl rfl ?_
                  refine ent_value (ov_extract rfl rfl) rfl rfl rfl ?_
                  refine ent_value (ov_extract rfl rfl) rfl rfl rfl ?_
                  refine ent_value (ov_assign rfl) rfl rfl rfl ?_
                  refine ent_value (ov_assign rfl) rfl rfl rfl ?_
                  refine ent_nil ?_
                  refine ent_seq ?_
                  refine ent_region ?_
                  refine ent_value (ov_move rfl) rfl rfl rfl ?_
                  obtain ⟨x217, h217, H29⟩ := Option.bind_eq_some_iff.1 H29
                  refine ent_op (ot_call0 (first := []) (cap := []) (xs := [.tmp 41]) rfl rfl F_call_30 rfl (words_Number.spec K x216.1 _ h217)) rfl rfl rfl ?_
                  rintro _ _ ⟨rfl, rfl⟩
                  refine ent_value (ov_move rfl) rfl rfl rfl ?_
                  refine ent_value (ov_extract rfl rfl) rfl rfl rfl ?_
                  refine ent_value (ov_extract rfl rfl) rfl rfl rfl ?_
                  refine ent_value (ov_assign rfl) rfl rfl rfl ?_
                  refine ent_value (ov_assign rfl) rfl rfl rfl ?_
                  refine ent_nil ?_
                  refine ent_seq ?_
                  refine ent_seq ?_
                  refine ent_region ?_
                  refine ent_value (ov_move rfl) rfl rfl rfl ?_
                  refine ent_value (ov_un rfl (u_not _)) rfl rfl rfl ?_
                  refine ent_value (ov_move rfl) rfl rfl rfl ?_
                  by_cases c567 : (!x215.2.2) = true
                  ·rw [if_pos c567] at H29
                   refine ent_off rfl rfl rfl c567 rfl rfl ?_
                   refine ent_off rfl rfl rfl c567 rfl rfl ?_
                   refine ent_value (ov_pick rfl rfl rfl (pick_t c567)) rfl rfl rfl ?_
                   refine ent_value (ov_move rfl) rfl rfl rfl ?_
                   refine ent_off rfl rfl rfl rfl rfl rfl ?_
                   refine ent_off rfl rfl rfl rfl rfl rfl ?_
                   refine ent_value (ov_pick rfl rfl rfl rfl) rfl rfl rfl ?_
                   refine ent_nil ?_
                   refine ent_cond_true rfl rfl ?_
                   refine ent_seq ?_
                   refine ent_region ?_
                   refine ent_value (ov_build (is := []) (xs := []) (vs := []) rfl rfl (build_struct (cs := [(int .i64 0), (int .i64 0), (int .i64 0), (int .i64 0), (int .i64 0), (int .i64 0), (int .i64 0), (int .i64 0), (int .i64 0)]) F_zero_24 F_places_24 rfl)) rfl rfl rfl ?_
                   refine ent_value (ov_move rfl) rfl rfl rfl ?_
                   refine ent_value (ov_binL (m' := 4) rfl rfl (b_add _ _ _) (by decide)) rfl rfl rfl ?_
                   refine ent_op0 (ot_storeG (cs := [(int .i64 0), (int .i64 0), (int .i64 0), (int .i64 0), (int .i64 0), (int .i64 0), (int .i64 0), (int .i64 0), (int .i64 0)]) (cs' := [(int .i64 0), (int .i64 0), (int .i64 0), (int .i64 0), (int .i64 0), (int .i64 0), (int .i64 0), (int .i64 0), (int .i64 0)]) (us := [(int .i64 0), (int .i64 0), (int .i64 0), (int .i64 0), (int .i64 0), (int .i64 0), (int .i64 0), (int .i64 0), (int .i64 0)]) (L' := [(box b9 53 [(pt b8 0), (pt b8 1), (pt b8 2), (pt b8 3), (pt b8 4), (pt b8 5), (pt b8 6), (pt b8 9), (pt b8 8)]), (box b8 51 [(int .i64 x199.1), (int .i64 x205.1), (int .i64 x211.1), (int .i64 0), (int .i64 0), (int .i64 0), (int .i64 0), (int .i64 0), (int .i64 0), (int .i64 0)]), (box b7 24 [(int .i64 0), (int .i64 0), (int .i64 0), (int .i64 0), (int .i64 0), (int .i64 0), (int .i64 0), (int .i64 0), (int .i64 0)])]) 2 rfl rfl rfl (one_all rfl) F_size_24 rfl rfl (by simp) rfl) rfl rfl ?_
                   rintro _ _ rfl
                   refine ent_value (ov_assign rfl) rfl rfl rfl ?_
                   refine ent_value (ov_assign rfl) rfl rfl rfl ?_
                   refine ent_nil ?_
                   refine ent_retc ?_
                   cases H29
                   have H39 := Option.some.inj (show some _ = some _ from H)
                   first | (have e_ := Option.some.inj (show some _ = some _ from H39); subst e_) | subst H39
                   exact ret_memp [] (by decide) rfl (vs := [(agg #[(int .i64 0), (int .i64 0), (int .i64 0), (int .i64 0), (int .i64 0), (int .i64 0), (int .i64 0), (int .i64 0), (int .i64 0)]), (int .i64 4), (int .i64 4)]) rfl ⟨⟨_, [(int .i64 0), (int .i64 0), (int .i64 0), (int .i64 0), (int .i64 0), (int .i64 0), (int .i64 0), (int .i64 0), (int .i64 0)], rfl, reads_boxW (i := 2) rfl, .inl ⟨F_agg_24, F_size_24, rfl⟩⟩, ⟨rfl, ⟨rfl, trivial⟩⟩⟩ _ rfl ⟨rfl, rfl⟩
                  ·rw [if_neg c567] at H29
                   refine ent_value_on (ov_move rfl) rfl rfl rfl (Bool.eq_false_iff.2 c567) rfl rfl ?_
                   refine ent_value_on (ov_un rfl (u_not _)) rfl rfl rfl (Bool.eq_false_iff.2 c567) rfl rfl ?_
                   refine ent_value (ov_pick rfl rfl rfl (pick_f (Bool.eq_false_iff.2 c567))) rfl rfl rfl ?_
                   refine ent_value (ov_move rfl) rfl rfl rfl ?_
                   by_cases c568 : (!x216.2) = true
                   ·rw [if_pos c568] at H29
                    refine ent_off rfl rfl rfl c568 rfl rfl ?_
                    refine ent_off rfl rfl rfl c568 rfl rfl ?_
                    refine ent_value (ov_pick rfl rfl rfl (pick_t c568)) rfl rfl rfl ?_
                    refine ent_nil ?_
                    refine ent_cond_true rfl rfl ?_
                    refine ent_seq ?_
                    refine ent_region ?_
                    refine ent_value (ov_build (is := []) (xs := []) (vs := []) rfl rfl (build_struct (cs := [(int .i64 0), (int .i64 0), (int .i64 0), (int .i64 0), (int .i64 0), (int .i64 0), (int .i64 0), (int .i64 0), (int .i64 0)]) F_zero_24 F_places_24 rfl)) rfl rfl rfl ?_
                    refine ent_value (ov_move rfl) rfl rfl rfl ?_
                    refine ent_value (ov_binL (m' := 4) rfl rfl (b_add _ _ _) (by decide)) rfl rfl rfl ?_
                    refine ent_op0 (ot_storeG (cs := [(int .i64 0), (int .i64 0), (int .i64 0), (int .i64 0), (int .i64 0), (int .i64 0), (int .i64 0), (int .i64 0), (int .i64 0)]) (cs' := [(int .i64 0), (int .i64 0), (int .i64 0), (int .i64 0), (int .i64 0), (int .i64 0), (int .i64 0), (int .i64 0), (int .i64 0)]) (us := [(int .i64 0), (int .i64 0), (int .i64 0), (int .i64 0), (int .i64 0), (int .i64 0), (int .i64 0), (int .i64 0), (int .i64 0)]) (L' := [(box b9 53 [(pt b8 0), (pt b8 1), (pt b8 2), (pt b8 3), (pt b8 4), (pt b8 5), (pt b8 6), (pt b8 9), (pt b8 8)]), (box b8 51 [(int .i64 x199.1), (int .i64 x205.1), (int .i64 x211.1), (int .i64 0), (int .i64 0), (int .i64 0), (int .i64 0), (int .i64 0), (int .i64 0), (int .i64 0)]), (box b7 24 [(int .i64 0), (int .i64 0), (int .i64 0), (int .i64 0), (int .i64 0), (int .i64 0), (int .i64 0), (int .i64 0), (int .i64 0)])]) 2 rfl rfl rfl (one_all rfl) F_size_24 rfl rfl (by simp) rfl) rfl rfl ?_
                    rintro _ _ rfl
                    refine ent_value (ov_assign rfl) rfl rfl rfl ?_
                    refine ent_value (ov_assign rfl) rfl rfl rfl ?_
                    refine ent_nil ?_
                    refine ent_retc ?_
                    cases H29
                    have H40 := Option.some.inj (show some _ = some _ from H)
                    first | (have e_ := Option.some.inj (show some _ = some _ from H40); subst e_) | subst H40
                    exact ret_memp [] (by decide) rfl (vs := [(agg #[(int .i64 0), (int .i64 0), (int .i64 0), (int .i64 0), (int .i64 0), (int .i64 0), (int .i64 0), (int .i64 0), (int .i64 0)]), (int .i64 4), (int .i64 4)]) rfl ⟨⟨_, [(int .i64 0), (int .i64 0), (int .i64 0), (int .i64 0), (int .i64 0), (int .i64 0), (int .i64 0), (int .i64 0), (int .i64 0)], rfl, reads_boxW (i := 2) rfl, .inl ⟨F_agg_24, F_size_24, rfl⟩⟩, ⟨rfl, ⟨rfl, trivial⟩⟩⟩ _ rfl ⟨rfl, rfl⟩
                   ·rw [if_neg c568] at H29
                    refine ent_value_on (ov_move rfl) rfl rfl rfl (Bool.eq_false_iff.2 c568) rfl rfl ?_
                    refine ent_value_on (ov_un rfl (u_not _)) rfl rfl rfl (Bool.eq_false_iff.2 c568) rfl rfl ?_
                    refine ent_value (ov_pick rfl rfl rfl (pick_f (Bool.eq_false_iff.2 c568))) rfl rfl rfl ?_
                    refine ent_nil ?_
                    by_cases c569 : (!x217.2) = true
                    ·rw [if_pos c569] at H29
                     refine ent_cond_true rfl c569 ?_
                     refine ent_seq ?_
                     refine ent_region ?_
                     refine ent_value (ov_build (is := []) (xs := []) (vs := []) rfl rfl (build_struct (cs := [(int .i64 0), (int .i64 0), (int .i64 0), (int .i64 0), (int .i64 0), (int .i64 0), (int .i64 0), (int .i64 0), (int .i64 0)]) F_zero_24 F_places_24 rfl)) rfl rfl rfl ?_
                     refine ent_value (ov_move rfl) rfl rfl rfl ?_
                     refine ent_value (ov_binL (m' := 4) rfl rfl (b_add _ _ _) (by decide)) rfl rfl rfl ?_
                     refine ent_op0 (ot_storeG (cs := [(int .i64 0), (int .i64 0), (int .i64 0), (int .i64 0), (int .i64 0), (int .i64 0), (int .i64 0), (int .i64 0), (int .i64 0)]) (cs' := [(int .i64 0), (int .i64 0), (int .i64 0), (int .i64 0), (int .i64 0), (int .i64 0), (int .i64 0), (int .i64 0), (int .i64 0)]) (us := [(int .i64 0), (int .i64 0), (int .i64 0), (int .i64 0), (int .i64 0), (int .i64 0), (int .i64 0), (int .i64 0), (int .i64 0)]) (L' := [(box b9 53 [(pt b8 0), (pt b8 1), (pt b8 2), (pt b8 3), (pt b8 4), (pt b8 5), (pt b8 6), (pt b8 9), (pt b8 8)]), (box b8 51 [(int .i64 x199.1), (int .i64 x205.1), (int .i64 x211.1), (int .i64 0), (int .i64 0), (int .i64 0), (int .i64 0), (int .i64 0), (int .i64 0), (int .i64 0)]), (box b7 24 [(int .i64 0), (int .i64 0), (int .i64 0), (int .i64 0), (int .i64 0), (int .i64 0), (int .i64 0), (int .i64 0), (int .i64 0)])]) 2 rfl rfl rfl (one_all rfl) F_size_24 rfl rfl (by simp) rfl) rfl rfl ?_
                     rintro _ _ rfl
                     refine ent_value (ov_assign rfl) rfl rfl rfl ?_
                     refine ent_value (ov_assign rfl) rfl rfl rfl ?_
                     refine ent_nil ?_
                     refine ent_retc ?_
                     cases H29
                     have H41 := Option.some.inj (show some _ = some _ from H)
                     first | (have e_ := Option.some.inj (show some _ = some _ from H41); subst e_) | subst H41
                     exact ret_memp [] (by decide) rfl (vs := [(agg #[(int .i64 0), (int .i64 0), (int .i64 0), (int .i64 0), (int .i64 0), (int .i64 0), (int .i64 0), (int .i64 0), (int .i64 0)]), (int .i64 4), (int .i64 4)]) rfl ⟨⟨_, [(int .i64 0), (int .i64 0), (int .i64 0), (int .i64 0), (int .i64 0), (int .i64 0), (int .i64 0), (int .i64 0), (int .i64 0)], rfl, reads_boxW (i := 2) rfl, .inl ⟨F_agg_24, F_size_24, rfl⟩⟩, ⟨rfl, ⟨rfl, trivial⟩⟩⟩ _ rfl ⟨rfl, rfl⟩
                    ·rw [if_neg c569] at H29
                     refine ent_cond_false rfl (Bool.eq_false_iff.2 c569) ?_
                     refine ent_skip ?_
                     refine ent_seq ?_
                     refine ent_region ?_
                     refine ent_value (ov_move rfl) rfl rfl rfl ?_
                     by_cases c570 : 3 < (9 : Int)
                     ·rw [if_pos c570] at H29
                      refine ent_value (ov_indexArr (o := 0) rfl rfl F_array_53 F_size_52 (by decide) c570) rfl rfl rfl ?_
                      refine ent_value (ov_load (v := (pt b8 3)) rfl F_agg_52 (reads_box1 (i := 0) rfl rfl)) rfl rfl rfl ?_
                      refine ent_value (ov_move rfl) rfl rfl rfl ?_
                      refine ent_value (ov_nilCheck rfl) rfl rfl rfl ?_
                      refine ent_op0 (ot_storeG (cs := [(int .i64 x199.1), (int .i64 x205.1), (int .i64 x211.1), (int .i64 0), (int .i64 0), (int .i64 0), (int .i64 0), (int .i64 0), (int .i64 0), (int .i64 0)]) (cs' := [(int .i64 x199.1), (int .i64 x205.1), (int .i64 x211.1), (int .i64 x217.1), (int .i64 0), (int .i64 0), (int .i64 0), (int .i64 0), (int .i64 0), (int .i64 0)]) (us := [(int .i64 x217.1)]) (L' := [(box b9 53 [(pt b8 0), (pt b8 1), (pt b8 2), (pt b8 3), (pt b8 4), (pt b8 5), (pt b8 6), (pt b8 9), (pt b8 8)]), (box b8 51 [(int .i64 x199.1), (int .i64 x205.1), (int .i64 x211.1), (int .i64 x217.1), (int .i64 0), (int .i64 0), (int .i64 0), (int .i64 0), (int .i64 0), (int .i64 0)]), (box b7 24 [(int .i64 0), (int .i64 0), (int .i64 0), (int .i64 0), (int .i64 0), (int .i64 0), (int .i64 0), (int .i64 0), (int .i64 0)])]) 1 rfl rfl rfl (one_all rfl) F_size_2 rfl rfl (by simp) rfl) rfl rfl ?_
                      rintro _ _ rfl
                      refine ent_nil ?_
                      refine ent_seq ?_
                      refine ent_region ?_
                      refine ent_value (ov_move rfl) rfl rfl rfl ?_
                      refine ent_value (ov_assign rfl) rfl rfl rfl ?_
                      refine ent_nil ?_
                      refine ent_exit ?_
                      refine ent_region ?_
                      refine ent_value (ov_binL (m' := 4) rfl rfl (b_add _ _ _) (by decide)) rfl rfl rfl ?_
                      refine ent_value (ov_move rfl) rfl rfl rfl ?_
                      refine ent_nil ?_
                      refine ent_round ?_
                      refine ent_seq ?_
                      refine ent_region ?_
                      refine ent_value (ov_bin rfl rfl (b_lss _ _ _)) rfl rfl rfl ?_
                      refine ent_nil ?_
                      refine ent_seq ?_
                      refine ent_cond_true rfl rfl ?_
                      refine ent_skip ?_
                      refine ent_seq ?_
                      refine ent_block ?_
                      refine ent_seq ?_
                      refine ent_region ?_
                      refine ent_value (ov_move rfl) rfl rfl rfl ?_
                      refine ent_value (ov_indexAggN rfl rfl F_array_55 F_size_9 F_agg_9 (by decide) (by decide) rfl) rfl rfl rfl ?_
                      refine ent_value (ov_assign rfl) rfl rfl rfl ?_
                      refine ent_value (ov_assign rfl) rfl rfl rfl ?_
                      refine ent_nil ?_
                      refine ent_seq ?_
                      refine ent_region ?_
                      refine ent_value (ov_move rfl) rfl rfl rfl ?_
                      obtain ⟨x221, h221, H29⟩ := Option.bind_eq_some_iff.1 H29
                      refine ent_op (ot_call0 (first := []) (cap := []) (xs := [.tmp 28, .const (str ([10] : List UInt8))]) rfl rfl F_call_28 rfl (strings_Cut.spec x215.2.1 ([10] : List UInt8) _ h221)) rfl rfl rfl ?_
                      rintro _ _ ⟨rfl, rfl⟩
                      refine ent_value (ov_move rfl) rfl rfl rfl ?_
                      refine ent_value (ov_extract rfl rfl) rfl rfl rfl ?_
                      refine ent_value (ov_extract rfl rfl) rfl rfl rfl ?_
                      refine ent_value (ov_extract rfl rfl) rfl rfl rfl ?_
                      refine ent_value (ov_assign rfl) rfl rfl rfl ?_
                      refine ent_value (ov_assign rfl) rfl rfl rfl ?_
                      refine ent_value (ov_assign rfl) rfl rfl rfl ?_
                      refine ent_nil ?_
                      refine ent_seq ?_
                      refine ent_region ?_
                      refine ent_value (ov_move rfl) rfl rfl rfl ?_
                      refine ent_value (ov_move rfl) rfl rfl rfl ?_
                      by_cases c579 : (x187.2.2.2.2.1.length : Int) + (([32] : List UInt8).length : Int) ≤ 9223372036854775807
                      ·rw [if_pos c579] at H29
                       refine ent_value (ov_bin rfl rfl fun w => b_add_str _ _ w c579) rfl rfl rfl ?_
                       obtain ⟨x222, h222, H29⟩ := thn_elim H29
                       refine ent_op (ot_call0 (first := []) (cap := []) (xs := [.tmp 34, .tmp 36]) rfl rfl F_call_29 rfl (strings_CutPrefix.spec x221.1 (x187.2.2.2.2.1 ++ ([32] : List UInt8)) _ h222)) rfl rfl rfl ?_
                       rintro _ _ ⟨rfl, rfl⟩
                       refine ent_value (ov_move rfl) rfl rfl rfl ?_
                       refine ent_value (ov_extract rfl rfl) rfl rfl rfl ?_
                       refine ent_value (ov_extract rfl rfl) rfl rfl rfl ?_
                       refine ent_value (ov_assign rfl) rfl rfl rfl ?_
                       refine ent_value (ov_assign rfl) rfl rfl rfl ?_
                       refine ent_nil ?_
                       refine ent_seq ?_
                       refine ent_region ?_
                       refine ent_value (ov_move rfl) rfl rfl rfl ?_
                       obtain ⟨x223, h223, H29⟩ := Option.bind_eq_some_iff.1 H29
                       refine ent_op (ot_call0 (first := []) (cap := []) (xs := [.tmp 41]) rfl rfl F_call_30 rfl (words_Number.spec K x222.1 _ h223)) rfl rfl rfl ?_
                       rintro _ _ ⟨rfl, rfl⟩
                       refine ent_value (ov_move rfl) rfl rfl rfl ?_
                       refine ent_value (ov_extract rfl rfl) rfl rfl rfl ?_
                       refine ent_value (ov_extract rfl rfl) rfl rfl rfl ?_
                       refine ent_value (ov_assign rfl) rfl rfl rfl ?_
                       refine ent_value (ov_assign rfl) rfl rfl rfl ?_
                       refine ent_nil ?_
                       refine ent_seq ?_
                       refine ent_seq ?_
                       refine ent_region ?_
                       refine ent_value (ov_move rfl) rfl rfl rfl ?_
                       refine ent_value (ov_un rfl (u_not _)) rfl rfl rfl ?_
                       refine ent_value (ov_move rfl) rfl rfl rfl ?_
                       by_cases c583 : (!x221.2.2) = true
                       ·rw [if_pos c583] at H29
                        refine ent_off rfl rfl rfl c583 rfl rfl ?_
                        refine ent_off rfl rfl rfl c583 rfl rfl ?_
                        refine ent_value (ov_pick rfl rfl rfl (pick_t c583)) rfl rfl rfl ?_
                        refine ent_value (ov_move rfl) rfl rfl rfl ?_
                        refine ent_off rfl rfl rfl rfl rfl rfl ?_
                        refine ent_off rfl rfl rfl rfl rfl rfl ?_
                        refine ent_value (ov_pick rfl rfl rfl rfl) rfl rfl rfl ?_
                        refine ent_nil ?_
                        refine ent_cond_true rfl rfl ?_
                        refine ent_seq ?_
                        refine ent_region ?_
                        refine ent_value (ov_build (is := []) (xs := []) (vs := []) rfl rfl (build_struct (cs := [(int .i64 0), (int .i64 0), (int .i64 0), (int .i64 0), (int .i64 0), (int .i64 0), (int .i64 0), (int .i64 0), (int .i64 0)]) F_zero_24 F_places_24 rfl)) rfl rfl rfl ?_
                        refine ent_value (ov_move rfl) rfl rfl rfl ?_
                        refine ent_value (ov_binL (m' := 5) rfl rfl (b_add _ _ _) (by decide)) rfl rfl rfl ?_
                        refine ent_op0 (ot_storeG (cs := [(int .i64 0), (int .i64 0), (int .i64 0), (int .i64 0), (int .i64 0), (int .i64 0), (int .i64 0), (int .i64 0), (int .i64 0)]) (cs' := [(int .i64 0), (int .i64 0), (int .i64 0), (int .i64 0), (int .i64 0), (int .i64 0), (int .i64 0), (int .i64 0), (int .i64 0)]) (us := [(int .i64 0), (int .i64 0), (int .i64 0), (int .i64 0), (int .i64 0), (int .i64 0), (int .i64 0), (int .i64 0), (int .i64 0)]) (L' := [(box b9 53 [(pt b8 0), (pt b8 1), (pt b8 2), (pt b8 3), (pt b8 4), (pt b8 5), (pt b8 6), (pt b8 9), (pt b8 8)]), (box b8 51 [(int .i64 x199.1), (int .i64 x205.1), (int .i64 x211.1), (int .i64 x217.1), (int .i64 0), (int .i64 0), (int .i64 0), (int .i64 0), (int .i64 0), (int .i64 0)]), (box b7 24 [(int .i64 0), (int .i64 0), (int .i64 0), (int .i64 0), (int .i64 0), (int .i64 0), (int .i64 0), (int .i64 0), (int .i64 0)])]) 2 rfl rfl rfl (one_all rfl) F_size_24 rfl rfl (by simp) rfl) rfl rfl ?_
                        rintro _ _ rfl
                        refine ent_value (ov_assign rfl) rfl rfl rfl ?_
                        refine ent_value (ov_assign rfl) rfl rfl rfl ?_
                        refine ent_nil ?_
                        refine ent_retc ?_
                        cases H29
                        have H42 := Option.some.inj (show some _ = some _ from H)
                        first | (have e_ := Option.some.inj (show some _ = some _ from H42); subst e_) | subst H42
                        exact ret_memp [] (by decide) rfl (vs := [(agg #[(int .i64 0), (int .i64 0), (int .i64 0), (int .i64 0), (int .i64 0), (int .i64 0), (int .i64 0), (int .i64 0), (int .i64 0)]), (int .i64 5), (int .i64 4)]) rfl ⟨⟨_, [(int .i64 0), (int .i64 0), (int .i64 0), (int .i64 0), (int .i64 0), (int .i64 0), (int .i64 0), (int .i64 0), (int .i64 0)], rfl, reads_boxW (i := 2) rfl, .inl ⟨F_agg_24, F_size_24, rfl⟩⟩, ⟨rfl, ⟨rfl, trivial⟩⟩⟩ _ rfl ⟨rfl, rfl⟩
                       ·rw [if_neg c583] at H29
                        refine ent_value_on (ov_move rfl) rfl rfl rfl (Bool.eq_false_iff.2 c583) rfl rfl ?_
                        refine ent_value_on (ov_un rfl (u_not _)) rfl rfl rfl (Bool.eq_false_iff.2 c583) rfl rfl ?_
                        refine ent_value (ov_pick rfl rfl rfl (pick_f (Bool.eq_false_iff.2 c583))) rfl rfl rfl ?_
                        refine ent_value (ov_move rfl) rfl rfl rfl ?_
                        by_cases c584 : (!x222.2) = true
                        ·rw [if_pos c584] at H29
                         refine ent_off rfl rfl rfl c584 rfl rfl ?_
                         refine ent_off rfl rfl rfl c584 rfl rfl ?_
                         refine ent_value (ov_pick rfl rfl rfl (pick_t c584)) rfl rfl rfl ?_
                         refine ent_nil ?_
                         refine ent_cond_true rfl rfl ?_
                         refine ent_seq ?_
                         refine ent_region ?_
                         refine ent_value (ov_build (is := []) (xs := []) (vs := []) rfl rfl (build_struct (cs := [(int .i64 0), (int .i64 0), (int .i64 0), (int .i64 0), (int .i64 0), (int .i64 0), (int .i64 0), (int .i64 0), (int .i64 0)]) F_zero_24 F_places_24 rfl)) rfl rfl rfl ?_
                         refine ent_value (ov_move rfl) rfl rfl rfl ?_
                         refine ent_value (ov_binL (m' := 5) rfl rfl (b_add _ _ _) (by decide)) rfl rfl rfl ?_
                         refine ent_op0 (ot_storeG (cs := [(int .i64 0), (int .i64 0), (int .i64 0), (int .i64 0), (int .i64 0), (int .i64 0), (int .i64 0), (int .i64 0), (int .i64 0)]) (cs' := [(int .i64 0), (int .i64 0), (int .i64 0), (int .i64 0), (int .i64 0), (int .i64 0), (int .i64 0), (int .i64 0), (int .i64 0)]) (us := [(int .i64 0), (int .i64 0), (int .i64 0), (int .i64 0), (int .i64 0), (int .i64 0), (int .i64 0), (int .i64 0), (int .i64 0)]) (L' := [(box b9 53 [(pt b8 0), (pt b8 1), (pt b8 2), (pt b8 3), (pt b8 4), (pt b8 5), (pt b8 6), (pt b8 9), (pt b8 8)]), (box b8 51 [(int .i64 x199.1), (int .i64 x205.1), (int .i64 x211.1), (int .i64 x217.1), (int .i64 0), (int .i64 0), (int .i64 0), (int .i64 0), (int .i64 0), (int .i64 0)]), (box b7 24 [(int .i64 0), (int .i64 0), (int .i64 0), (int .i64 0), (int .i64 0), (int .i64 0), (int .i64 0), (int .i64 0), (int .i64 0)])]) 2 rfl rfl rfl (one_all rfl) F_size_24 rfl rfl (by simp) rfl) rfl rfl ?_
                         rintro _ _ rfl
                         refine ent_value (ov_assign rfl) rfl rfl rfl ?_
                         refine ent_value (ov_assign rfl) rfl rfl rfl ?_
                         refine ent_nil ?_
                         refine ent_retc ?_
                         cases H29
                         have H43 := Option.some.inj (show some _ = some _ from H)
                         first | (have e_ := Option.some.inj (show some _ = some _ from H43); subst e_) | subst H43
                         exact ret_memp [] (by decide) rfl (vs := [(agg #[(int .i64 0), (int .i64 0), (int .i64 0), (int .i64 0), (int .i64 0), (int .i64 0), (int .i64 0), (int .i64 0), (int .i64 0)]), (int .i64 5), (int .i64 4)]) rfl ⟨⟨_, [(int .i64 0), (int .i64 0), (int .i64 0), (int .i64 0), (int .i64 0), (int .i64 0), (int .i64 0), (int .i64 0), (int .i64 0)], rfl, reads_boxW (i := 2) rfl, .inl ⟨F_agg_24, F_size_24, rfl⟩⟩, ⟨rfl, ⟨rfl, trivial⟩⟩⟩ _ rfl ⟨rfl, rfl⟩
                        ·rw [if_neg c584] at H29
                         refine ent_value_on (ov_move rfl) rfl rfl rfl (Bool.eq_false_iff.2 c584) rfl rfl ?_
                         refine ent_value_on (ov_un rfl (u_not _)) rfl rfl rfl (Bool.eq_false_iff.2 c584) rfl rfl ?_
                         refine ent_value (ov_pick rfl rfl rfl (pick_f (Bool.eq_false_iff.2 c584))) rfl rfl rfl ?_
                         refine ent_nil ?_
                         by_cases c585 : (!x223.2) = true
                         ·rw [if_pos c585] at H29
                          refine ent_cond_true rfl c585 ?_
                          refine ent_seq ?_
                          refine ent_region ?_
                          refine ent_value (ov_build (is := []) (xs := []) (vs := []) rfl rfl (build_struct (cs := [(int .i64 0), (int .i64 0), (int .i64 0), (int .i64 0), (int .i64 0), (int .i64 0), (int .i64 0), (int .i64 0), (int .i64 0)]) F_zero_24 F_places_24 rfl)) rfl rfl rfl ?_
                          refine ent_value (ov_move rfl) rfl rfl rfl ?_
                          refine ent_value (ov_binL (m' := 5) rfl rfl (b_add _ _ _) (by decide)) rfl rfl rfl ?_
                          refine ent_op0 (ot_storeG (cs := [(int .i64 0), (int .i64 0), (int .i64 0), (int .i64 0), (int .i64 0), (int .i64 0), (int .i64 0), (int .i64 0), (int .i64 0)]) (cs' := [(int .i64 0), (int .i64 0), (int .i64 0), (int .i64 0), (int .i64 0), (int .i64 0), (int .i64 0), (int .i64 0), (int .i64 0)]) (us := [(int .i64 0), (int .i64 0), (int .i64 0), (int .i64 0), (int .i64 0), (int .i64 0), (int .i64 0), (int .i64 0), (int .i64 0)]) (L' := [(box b9 53 [(pt b8 0), (pt b8 1), (pt b8 2), (pt b8 3), (pt b8 4), (pt b8 5), (pt b8 6), (pt b8 9), (pt b8 8)]), (box b8 51 [(int .i64 x199.1), (int .i64 x205.1), (int .i64 x211.1), (int .i64 x217.1), (int .i64 0), (int .i64 0), (int .i64 0), (int .i64 0), (int .i64 0), (int .i64 0)]), (box b7 24 [(int .i64 0), (int .i64 0), (int .i64 0), (int .i64 0), (int .i64 0), (int .i64 0), (int .i64 0), (int .i64 0), (int .i64 0)])]) 2 rfl rfl rfl (one_all rfl) F_size_24 rfl rfl (by simp) rfl) rfl rfl ?_
                          rintro _ _ rfl
                          refine ent_value (ov_assign rfl) rfl rfl rfl ?_
                          refine ent_value (ov_assign rfl) rfl rfl rfl ?_
                          refine ent_nil ?_
                          refine ent_retc ?_
                          cases H29
                          have H44 := Option.some.inj (show some _ = some _ from H)
                          first | (have e_ := Option.some.inj (show some _ = some _ from H44); subst e_) | subst H44
                          exact ret_memp [] (by decide) rfl (vs := [(agg #[(int .i64 0), (int .i64 0), (int .i64 0), (int .i64 0), (int .i64 0), (int .i64 0), (int .i64 0), (int .i64 0), (int .i64 0)]), (int .i64 5), (int .i64 4)]) rfl ⟨⟨_, [(int .i64 0), (int .i64 0), (int .i64 0), (int .i64 0), (int .i64 0), (int .i64 0), (int .i64 0), (int .i64 0), (int .i64 0)], rfl, reads_boxW (i := 2) rfl, .inl ⟨F_agg_24, F_size_24, rfl⟩⟩, ⟨rfl, ⟨rfl, trivial⟩⟩⟩ _ rfl ⟨rfl, rfl⟩
                         ·rw [if_neg c585] at H29
                          refine ent_cond_false rfl (Bool.eq_false_iff.2 c585) ?_
                          refine ent_skip ?_
                          refine ent_seq ?_
                          refine ent_region ?_
                          refine ent_value (ov_move rfl) rfl rfl rfl ?_
                          by_cases c586 : 4 < (9 : Int)
                          ·rw [if_pos c586] at H29
                           refine ent_value (ov_indexArr (o := 0) rfl rfl F_array_53 F_size_52 (by decide) c586) rfl rfl rfl ?_
                           refine ent_value (ov_load (v := (pt b8 4)) rfl F_agg_52 (reads_box1 (i := 0) rfl rfl)) rfl rfl rfl ?_
                           refine ent_value (ov_move rfl) rfl rfl rfl ?_
                           refine ent_value (ov_nilCheck rfl) rfl rfl rfl ?_
                           refine ent_op0 (ot_storeG (cs := [(int .i64 x199.1), (int .i64 x205.1), (int .i64 x211.1), (int .i64 x217.1), (int .i64 0), (int .i64 0), (int .i64 0), (int .i64 0), (int .i64 0), (int .i64 0)]) (cs' := [(int .i64 x199.1), (int .i64 x205.1), (int .i64 x211.1), (int .i64 x217.1), (int .i64 x223.1), (int .i64 0), (int .i64 0), (int .i64 0), (int .i64 0), (int .i64 0)]) (us := [(int .i64 x223.1)]) (L' := [(box b9 53 [(pt b8 0), (pt b8 1), (pt b8 2), (pt b8 3), (pt b8 4), (pt b8 5), (pt b8 6), (pt b8 9), (pt b8 8)]), (box b8 51 [(int .i64 x199.1), (int .i64 x205.1), (int .i64 x211.1), (int .i64 x217.1), (int .i64 x223.1), (int .i64 0), (int .i64 0), (int .i64 0), (int .i64 0), (int .i64 0)]), (box b7 24 [(int .i64 0), (int .i64 0), (int .i64 0), (int .i64 0), (int .i64 0), (int .i64 0), (int .i64 0), (int .i64 0), (int .i64 0)])]) 1 rfl rfl rfl (one_all rfl) F_size_2 rfl rfl (by simp) rfl) rfl rfl ?_
                           rintro _ _ rfl
                           refine ent_nil ?_
                           refine ent_seq ?_
                           refine ent_region ?_
                           refine ent_value (ov_move rfl) rfl rfl rfl ?_
                           refine ent_value (ov_assign rfl) rfl rfl rfl ?_
                           refine ent_nil ?_
                           refine ent_exit ?_
                           refine ent_region ?_
                           refine ent_value (ov_binL (m' := 5) rfl rfl (b_add _ _ _) (by decide)) rfl rfl rfl ?_
                           refine ent_value (ov_move rfl) rfl rfl rfl ?_
                           refine ent_nil ?_
                           refine ent_round ?_
                           refine ent_seq ?_
                           refine ent_region ?_
                           refine ent_value (ov_bin rfl rfl (b_lss _ _ _)) rfl rfl rfl ?_
                           refine ent_nil ?_
                           refine ent_seq ?_
                           refine ent_cond_true rfl rfl ?_
                           refine ent_skip ?_
                           refine ent_seq ?_
                           refine ent_block ?_
                           refine ent_seq ?_
                           refine ent_region ?_
                           refine ent_value (ov_move rfl) rfl rfl rfl ?_
                           refine ent_value (ov_indexAggN rfl rfl F_array_55 F_size_9 F_agg_9 (by decide) (by decide) rfl) rfl rfl rfl ?_
                           refine ent_value (ov_assign rfl) rfl rfl rfl ?_
                           refine ent_value (ov_assign rfl) rfl rfl rfl ?_
                           refine ent_nil ?_
                           refine ent_seq ?_
                           refine ent_region ?_
                           refine ent_value (ov_move rfl) rfl rfl rfl ?_
                           obtain ⟨x227, h227, H29⟩ := Option.bind_eq_some_iff.1 H29
                           refine ent_op (ot_call0 (first := []) (cap := []) (xs := [.tmp 28, .const (str ([10] : List UInt8))]) rfl rfl F_call_28 rfl (strings_Cut.spec x221.2.1 ([10] : List UInt8) _ h227)) rfl rfl rfl ?_
                           rintro _ _ ⟨rfl, rfl⟩
                           refine ent_value (ov_move rfl) rfl rfl rfl ?_
                           refine ent_value (ov_extract rfl rfl) rfl rfl rfl ?_
                           refine ent_value (ov_extract rfl rfl) rfl rfl rfl ?_
                           refine ent_value (ov_extract rfl rfl) rfl rfl rfl ?_
                           refine ent_value (ov_assign rfl) rfl rfl rfl ?_
                           refine ent_value (ov_assign rfl) rfl rfl rfl ?_
                           refine ent_value (ov_assign rfl) rfl rfl rfl ?_
                           refine ent_nil ?_
                           refine ent_seq ?_
                           refine ent_region ?_
                           refine ent_value (ov_move rfl) rfl rfl rfl ?_
                           refine ent_value (ov_move rfl) rfl rfl rfl ?_
                           by_cases c595 : (x187.2.2.2.2.2.1.length : Int) + (([32] : List UInt8).length : Int) ≤ 9223372036854775807
                           ·rw [if_pos c595] at H29
                            refine ent_value (ov_bin rfl rfl fun w => b_add_str _ _ w c595) rfl rfl rfl ?_
                            obtain ⟨x228, h228, H29⟩ := thn_elim H29
                            refine ent_op (ot_call0 (first := []) (cap := []) (xs := [.tmp 34, .tmp 36]) rfl rfl F_call_29 rfl (strings_CutPrefix.spec x227.1 (x187.2.2.2.2.2.1 ++ ([32] : List UInt8)) _ h228)) rfl rfl rfl ?_
                            rintro _ _ ⟨rfl, rfl⟩
                            refine ent_value (ov_move rfl) rfl rfl rfl ?_
                            refine ent_value (ov_extract rfl rfl) rfl rfl rfl ?_
                            refine ent_value (ov_extract rfl rfl) rfl rfl rfl ?_
                            refine ent_value (ov_assign rfl) rfl rfl rfl ?_
                            refine ent_value (ov_assign rfl) rfl rfl rfl ?_
                            refine ent_nil ?_
                            refine ent_seq ?_
                            refine ent_region ?_
                            refine ent_value (ov_move rfl) rfl rfl rfl ?_
                            obtain ⟨x229, h229, H29⟩ := Option.bind_eq_some_iff.1 H29
                            refine ent_op (ot_call0 (first := []) (cap := []) (xs := [.tmp 41]) rfl rfl F_call_30 rfl (words_Number.spec K x228.1 _ h229)) rfl rfl rfl ?_
                            rintro _ _ ⟨rfl, rfl⟩
                            refine ent_value (ov_move rfl) rfl rfl rfl ?_
                            refine ent_value (ov_extract rfl rfl) rfl rfl rfl ?_
                            refine ent_value (ov_extract rfl rfl) rfl rfl rfl ?_
                            refine ent_value (ov_assign rfl) rfl rfl rfl ?_
                            refine ent_value (ov_assign rfl) rfl rfl rfl ?_
                            refine ent_nil ?_
                            refine ent_seq ?_
                            refine ent_seq ?_
                            refine ent_region ?_
                            refine ent_value (ov_move rfl) rfl rfl rfl ?_
                            refine ent_value (ov_un rfl (u_not _)) rfl rfl rfl ?_
                            refine ent_value (ov_move rfl) rfl rfl rfl ?_
                            by_cases c599 : (!x227.2.2) = true
                            ·rw [if_pos c599] at H29
                             refine ent_off rfl rfl rfl c599 rfl rfl ?_
                             refine ent_off rfl rfl rfl c599 rfl rfl ?_
                             refine ent_value (ov_pick rfl rfl rfl (pick_t c599)) rfl rfl rfl ?_
                             refine ent_value (ov_move rfl) rfl rfl rfl ?_
                             refine ent_off rfl rfl rfl rfl rfl rfl ?_
                             refine ent_off rfl rfl rfl rfl rfl rfl ?_
                             refine ent_value (ov_pick rfl rfl rfl rfl) rfl rfl rfl ?_
                             refine ent_nil ?_
                             refine ent_cond_true rfl rfl ?_
                             refine ent_seq ?_
                             refine ent_region ?_
                             refine ent_value (ov_build (is := []) (xs := []) (vs := []) rfl rfl (build_struct (cs := [(int .i64 0), (int .i64 0), (int .i64 0), (int .i64 0), (int .i64 0), (int .i64 0), (int .i64 0), (int .i64 0), (int .i64 0)]) F_zero_24 F_places_24 rfl)) rfl rfl rfl ?_
                             refine ent_value (ov_move rfl) rfl rfl rfl ?_
                             refine ent_value (ov_binL (m' := 6) rfl rfl (b_add _ _ _) (by decide)) rfl rfl rfl ?_
                             refine ent_op0 (ot_storeG (cs := [(int .i64 0), (int .i64 0), (int .i64 0), (int .i64 0), (int .i64 0), (int .i64 0), (int .i64 0), (int .i64 0), (int .i64 0)]) (cs' := [(int .i64 0), (int .i64 0), (int .i64 0), (int .i64 0), (int .i64 0), (int .i64 0), (int .i64 0), (int .i64 0), (int .i64 0)]) (us := [(int .i64 0), (int .i64 0), (int .i64 0), (int .i64 0), (int .i64 0), (int .i64 0), (int .i64 0), (int .i64 0), (int .i64 0)]) (L' := [(box b9 53 [(pt b8 0), (pt b8 1), (pt b8 2), (pt b8 3), (pt b8 4), (pt b8 5), (pt b8 6), (pt b8 9), (pt b8 8)]), (box b8 51 [(int .i64 x199.1), (int .i64 x205.1), (int .i64 x211.1), (int .i64 x217.1), (int .i64 x223.1), (int .i64 0), (int .i64 0), (int .i64 0), (int .i64 0), (int .i64 0)]), (box b7 24 [(int .i64 0), (int .i64 0), (int .i64 0), (int .i64 0), (int .i64 0), (int .i64 0), (int .i64 0), (int .i64 0), (int .i64 0)])]) 2 rfl rfl rfl (one_all rfl) F_size_24 rfl rfl (by simp) rfl) rfl rfl ?_
                             rintro _ _ rfl
                             refine ent_value (ov_assign rfl) rfl rfl rfl ?_
                             refine ent_value (ov_assign rfl) rfl rfl rfl ?_
                             refine ent_nil ?_
                             refine ent_retc ?_
                             cases H29
                             have H45 := Option.some.inj (show some _ = some _ from H)
                             first | (have e_ := Option.some.inj (show some _ = some _ from H45); subst e_) | subst H45
                             exact ret_memp [] (by decide) rfl (vs := [(agg #[(int .i64 0), (int .i64 0), (int .i64 0), (int .i64 0), (int .i64 0), (int .i64 0), (int .i64 0), (int .i64 0), (int .i64 0)]), (int .i64 6), (int .i64 4)]) rfl ⟨⟨_, [(int .i64 0), (int .i64 0), (int .i64 0), (int .i64 0), (int .i64 0), (int .i64 0), (int .i64 0), (int .i64 0), (int .i64 0)], rfl, reads_boxW (i := 2) rfl, .inl ⟨F_agg_24, F_size_24, rfl⟩⟩, ⟨rfl, ⟨rfl, trivial⟩⟩⟩ _ rfl ⟨rfl, rfl⟩
                            ·rw [if_neg c599] at H29
                             refine ent_value_on (ov_move rfl) rfl rfl rfl (Bool.eq_false_iff.2 c599) rfl rfl ?_
                             refine ent_value_on (ov_un rfl (u_not _)) rfl rfl rfl (Bool.eq_false_iff.2 c599) rfl rfl ?_
                             refine ent_value (ov_pick rfl rfl rfl (pick_f (Bool.eq_false_iff.2 c599))) rfl rfl rfl ?_
                             refine ent_value (ov_move rfl) rfl rfl rfl ?_
                             by_cases c600 : (!x228.2) = true
                             ·rw [if_pos c600] at H29
                              refine ent_off rfl rfl rfl c600 rfl rfl ?_
                              refine ent_off rfl rfl rfl c600 rfl rfl ?_
                              refine ent_value (ov_pick rfl rfl rfl (pick_t c600)) rfl rfl rfl ?_
                              refine ent_nil ?_
                              refine ent_cond_true rfl rfl ?_
                              refine ent_seq ?_
                              refine ent_region ?_
                              refine ent_value (ov_build (is := []) (xs := []) (vs := []) rfl rfl (build_struct (cs := [(int .i64 0), (int .i64 0), (int .i64 0), (int .i64 0), (int .i64 0), (int .i64 0), (int .i64 0), (int .i64 0), (int .i64 0)]) F_zero_24 F_places_24 rfl)) rfl rfl rfl ?_
                              refine ent_value (ov_move rfl) rfl rfl rfl ?_
                              refine ent_value (ov_binL (m' := 6) rfl rfl (b_add _ _ _) (by decide)) rfl rfl rfl ?_
                              refine ent_op0 (ot_storeG (cs := [(int .i64 0), (int .i64 0), (int .i64 0), (int .i64 0), (int .i64 0), (int .i64 0), (int .i64 0), (int .i64 0), (int .i64 0)]) (cs' := [(int .i64 0), (int .i64 0), (int .i64 0), (int .i64 0), (int .i64 0), (int .i64 0), (int .i64 0), (int .i64 0), (int .i64 0)]) (us := [(int .i64 0), (int .i64 0), (int .i64 0), (int .i64 0), (int .i64 0), (int .i64 0), (int .i64 0), (int .i64 0), (int .i64 0)]) (L' := [(box b9 53 [(pt b8 0), (pt b8 1), (pt b8 2), (pt b8 3), (pt b8 4), (pt b8 5), (pt b8 6), (pt b8 9), (pt b8 8)]), (box b8 51 [(int .i64 x199.1), (int .i64 x205.1), (int .i64 x211.1), (int .i64 x217.1), (int .i64 x223.1), (int .i64 0), (int .i64 0), (int .i64 0), (int .i64 0), (int .i64 0)]), (box b7 24 [(int .i64 0), (int .i64 0), (int .i64 0), (int .i64 0), (int .i64 0), (int .i64 0), (int .i64 0), (int .i64 0), (int .i64 0)])]) 2 rfl rfl rfl (one_all rfl) F_size_24 rfl rfl (by simp) rfl) rfl rfl ?_
                              rintro _ _ rfl
                              refine ent_value (ov_assign rfl) rfl rfl rfl ?_
                              refine ent_value (ov_assign rfl) rfl rfl rfl ?_
                              refine ent_nil ?_
                              refine ent_retc ?_
                              cases H29
                              have H46 := Option.some.inj (show some _ = some _ from H)
                              first | (have e_ := Option.some.inj (show some _ = some _ from H46); subst e_) | subst H46
                              exact ret_memp [] (by decide) rfl (vs := [(agg #[(int .i64 0), (int .i64 0), (int .i64 0), (int .i64 0), (int .i64 0), (int .i64 0), (int .i64 0), (int .i64 0), (int .i64 0)]), (int .i64 6), (int .i64 4)]) rfl ⟨⟨_, [(int .i64 0), (int .i64 0), (int .i64 0), (int .i64 0), (int .i64 0), (int .i64 0), (int .i64 0), (int .i64 0), (int .i64 0)], rfl, reads_boxW (i := 2) rfl, .inl ⟨F_agg_24, F_size_24, rfl⟩⟩, ⟨rfl, ⟨rfl, trivial⟩⟩⟩ _ rfl ⟨rfl, rfl⟩
                             ·rw [if_neg c600] at H29
                              refine ent_value_on (ov_move rfl) rfl rfl rfl (Bool.eq_false_iff.2 c600) rfl rfl ?_
                              refine ent_value_on (ov_un rfl (u_not _)) rfl rfl rfl (Bool.eq_false_iff.2 c600) rfl rfl ?_
                              refine ent_value (ov_pick rfl rfl rfl (pick_f (Bool.eq_false_iff.2 c600))) rfl rfl rfl ?_
                              refine ent_nil ?_
                              by_cases c601 : (!x229.2) = true
                              ·rw [if_pos c601] at H29
                               refine ent_cond_true rfl c601 ?_
                               refine ent_seq ?_
                               refine ent_region ?_
                               refine ent_value (ov_build (is := []) (xs := []) (vs := []) rfl rfl (build_struct (cs := [(int .i64 0), (int .i64 0), (int .i64 0), (int .i64 0), (int .i64 0), (int .i64 0), (int .i64 0), (int .i64 0), (int .i64 0)]) F_zero_24 F_places_24 rfl)) rfl rfl rfl ?_
                               refine ent_value (ov_move rfl) rfl rfl rfl ?_
                               refine ent_value (ov_binL (m' := 6) rfl rfl (b_add _ _ _) (by decide)) rfl rfl rfl ?_
                               refine ent_op0 (ot_storeG (cs := [(int .i64 0), (int .i64 0), (int .i64 0), (int .i64 0), (int .i64 0), (int .i64 0), (int .i64 0), (int .i64 0), (int .i64 0)]) (cs' := [(int .i64 0), (int .i64 0), (int .i64 0), (int .i64 0), (int .i64 0), (int .i64 0), (int .i64 0), (int .i64 0), (int .i64 0)]) (us := [(int .i64 0), (int .i64 0), (int .i64 0), (int .i64 0), (int .i64 0), (int .i64 0), (int .i64 0), (int .i64 0), (int .i64 0)]) (L' := [(box b9 53 [(pt b8 0), (pt b8 1), (pt b8 2), (pt b8 3), (pt b8 4), (pt b8 5), (pt b8 6), (pt b8 9), (pt b8 8)]), (box b8 51 [(int .i64 x199.1), (int .i64 x205.1), (int .i64 x211.1), (int .i64 x217.1), (int .i64 x223.1), (int .i64 0), (int .i64 0), (int .i64 0), (int .i64 0), (int .i64 0)]), (box b7 24 [(int .i64 0), (int .i64 0), (int .i64 0), (int .i64 0), (int .i64 0), (int .i64 0), (int .i64 0), (int .i64 0), (int .i64 0)])]) 2 rfl rfl rfl (one_all rfl) F_size_24 rfl rfl (by simp) rfl) rfl rfl ?_
                               rintro _ _ rfl
                               refine ent_value (ov_assign rfl) rfl rfl rfl ?_
                               refine ent_value (ov_assign rfl) rfl rfl rfl ?_
                               refine ent_nil ?_
                               refine ent_retc ?_
                               cases H29
                               have H47 := Option.some.inj (show some _ = some _ from H)
                               first | (have e_ := Option.some.inj (show some _ = some _ from H47); subst e_) | subst H47
                               exact ret_memp [] (by decide) rfl (vs := [(agg #[(int .i64 0), (int .i64 0), (int .i64 0), (int .i64 0), (int .i64 0), (int .i64 0), (int .i64 0), (int .i64 0), (int .i64 0)]), (int .i64 6), (int .i64 4)]) rfl ⟨⟨_, [(int .i64 0), (int .i64 0), (int .i64 0), (int .i64 0), (int .i64 0), (int .i64 0), (int .i64 0), (int .i64 0), (int .i64 0)], rfl, reads_boxW (i := 2) rfl, .inl ⟨F_agg_24, F_size_24, rfl⟩⟩, ⟨rfl, ⟨rfl, trivial⟩⟩⟩ _ rfl ⟨rfl, rfl⟩
                              ·rw [if_neg c601] at H29
                               refine ent_cond_false rfl (Bool.eq_false_iff.2 c601) ?_
                               refine ent_skip ?_
                               refine ent_seq ?_
                               refine ent_region ?_
                               refine ent_value (ov_move rfl) rfl rfl rfl ?_
                               by_cases c602 : 5 < (9 : Int)
                               ·rw [if_pos c602] at H29
                                refine ent_value (ov_indexArr (o := 0) rfl rfl F_array_53 F_size_52 (by decide) c602) rfl rfl rfl ?_
                                refine ent_value (ov_load (v := (pt b8 5)) rfl F_agg_52 (reads_box1 (i := 0) rfl rfl)) rfl rfl rfl ?_
                                refine ent_value (ov_move rfl) rfl rfl rfl ?_
                                refine ent_value (ov_nilCheck rfl) rfl rfl rfl ?_
                                refine ent_op0 (ot_storeG (cs := [(int .i64 x199.1), (int .i64 x205.1), (int .i64 x211.1), (int .i64 x217.1), (int .i64 x223.1), (int .i64 0), (int .i64 0), (int .i64 0), (int .i64 0), (int .i64 0)]) (cs' := [(int .i64 x199.1), (int .i64 x205.1), (int .i64 x211.1), (int .i64 x217.1), (int .i64 x223.1), (int .i64 x229.1), (int .i64 0), (int .i64 0), (int .i64 0), (int .i64 0)]) (us := [(int .i64 x229.1)]) (L' := [(box b9 53 [(pt b8 0), (pt b8 1), (pt b8 2), (pt b8 3), (pt b8 4), (pt b8 5), (pt b8 6), (pt b8 9), (pt b8 8)]), (box b8 51 [(int .i64 x199.1), (int .i64 x205.1), (int .i64 x211.1), (int .i64 x217.1), (int .i64 x223.1), (int .i64 x229.1), (int .i64 0), (int .i64 0), (int .i64 0), (int .i64 0)]), (box b7 24 [(int .i64 0), (int .i64 0), (int .i64 0), (int .i64 0), (int .i64 0), (int .i64 0), (int .i64 0), (int .i64 0), (int .i64 0)])]) 1 rfl rfl rfl (one_all rfl) F_size_2 rfl rfl (by simp) rfl) rfl rfl ?_
                                rintro _ _ rfl
                                refine ent_nil ?_
                                refine ent_seq ?_
                                refine ent_region ?_
                                refine ent_value (ov_move rfl) rfl rfl rfl ?_
                                refine ent_value (ov_assign rfl) rfl rfl rfl ?_
                                refine ent_nil ?_
                                refine ent_exit ?_
                                refine ent_region ?_
                                refine ent_value (ov_binL (m' := 6) rfl rfl (b_add _ _ _) (by decide)) rfl rfl rfl ?_
                                refine ent_value (ov_move rfl) rfl rfl rfl ?_
                                refine ent_nil ?_
                                refine ent_round ?_
                                refine ent_seq ?_
                                refine ent_region ?_
                                refine ent_value (ov_bin rfl rfl (b_lss _ _ _)) rfl rfl rfl ?_
                                refine ent_nil ?_
                                refine ent_seq ?_
                                refine ent_cond_true rfl rfl ?_
                                refine ent_skip ?_
                                refine ent_seq ?_
                                refine ent_block ?_
                                refine ent_seq ?_
                                refine ent_region ?_
                                refine ent_value (ov_move rfl) rfl rfl rfl ?_
                                refine ent_value (ov_indexAggN rfl rfl F_array_55 F_size_9 F_agg_9 (by decide) (by decide) rfl) rfl rfl rfl ?_
                                refine ent_value (ov_assign rfl) rfl rfl rfl ?_
                                refine ent_value (ov_assign rfl) rfl rfl rfl ?_
                                refine ent_nil ?_
                                refine ent_seq ?_
                                refine ent_region ?_
                                refine ent_value (ov_move rfl) rfl rfl rfl ?_
                                obtain ⟨x233, h233, H29⟩ := Option.bind_eq_some_iff.1 H29
                                refine ent_op (ot_call0 (first := []) (cap := []) (xs := [.tmp 28, .const (str ([10] : List UInt8))]) rfl rfl F_call_28 rfl (strings_Cut.spec x227.2.1 ([10] : List UInt8) _ h233)) rfl rfl rfl ?_
                                rintro _ _ ⟨rfl, rfl⟩
                                refine ent_value (ov_move rfl) rfl rfl rfl ?_
                                refine ent_value (ov_extract rfl rfl) rfl rfl rfl ?_
                                refine ent_value (ov_extract rfl rfl) rfl rfl rfl ?_
                                refine ent_value (ov_extract rfl rfl) rfl rfl rfl ?_
                                refine ent_value (ov_assign rfl) rfl rfl rfl ?_
                                refine ent_value (ov_assign rfl) rfl rfl rfl ?_
                                refine ent_value (ov_assign rfl) rfl rfl rfl ?_
                                refine ent_nil ?_
                                refine ent_seq ?_
                                refine ent_region ?_
                                refine ent_value (ov_move rfl) rfl rfl rfl ?_
                                refine ent_value (ov_move rfl) rfl rfl rfl ?_
                                by_cases c611 : (x187.2.2.2.2.2.2.1.length : Int) + (([32] : List UInt8).length : Int) ≤ 9223372036854775807
                                ·rw [if_pos c611] at H29
                                 refine ent_value (ov_bin rfl rfl fun w => b_add_str _ _ w c611) rfl rfl rfl ?_
                                 obtain ⟨x234, h234, H29⟩ := thn_elim H29
                                 refine ent_op (ot_call0 (first := []) (cap := []) (xs := [.tmp 34, .tmp 36]) rfl rfl F_call_29 rfl (strings_CutPrefix.spec x233.1 (x187.2.2.2.2.2.2.1 ++ ([32] : List UInt8)) _ h234)) rfl rfl rfl ?_
                                 rintro _ _ ⟨rfl, rfl⟩
                                 refine ent_value (ov_move rfl) rfl rfl rfl ?_
                                 refine ent_value (ov_extract rfl rfl) rfl rfl rfl ?_
                                 refine ent_value (ov_extract rfl rfl) rfl rfl rfl ?_
                                 refine ent_value (ov_assign rfl) rfl rfl rfl ?_
                                 refine ent_value (ov_assign rfl) rfl rfl rfl ?_
                                 refine ent_nil ?_
                                 refine ent_seq ?_
                                 refine ent_region ?_
                                 refine ent_value (ov_move rfl) rfl rfl rfl ?_
                                 obtain ⟨x235, h235, H29⟩ := Option.bind_eq_some_iff.1 H29
                                 refine ent_op (ot_call0 (first := []) (cap := []) (xs := [.tmp 41]) rfl rfl F_call_30 rfl (words_Number.spec K x234.1 _ h235)) rfl rfl rfl ?_
                                 rintro _ _ ⟨rfl, rfl⟩
                                 refine ent_value (ov_move rfl) rfl rfl rfl ?_
                                 refine ent_value (ov_extract rfl rfl) rfl rfl rfl ?_
                                 refine ent_value (ov_extract rfl rfl) rfl rfl rfl ?_
                                 refine ent_value (ov_assign rfl) rfl rfl rfl ?_
                                 refine ent_value (ov_assign rfl) rfl rfl rfl ?_
                                 refine ent_nil ?_
                                 refine ent_seq ?_
                                 refine ent_seq ?_
                                 refine ent_region ?_
                                 refine ent_value (ov_move rfl) rfl rfl rfl ?_
                                 refine ent_value (ov_un rfl (u_not _)) rfl rfl rfl ?_
                                 refine ent_value (ov_move rfl) rfl rfl rfl ?_
                                 by_cases c615 : (!x233.2.2) = true
                                 ·rw [if_pos c615] at H29
                                  refine ent_off rfl rfl rfl c615 rfl rfl ?_
                                  refine ent_off rfl rfl rfl c615 rfl rfl ?_
                                  refine ent_value (ov_pick rfl rfl rfl (pick_t c615)) rfl rfl rfl ?_
                                  refine ent_value (ov_move rfl) rfl rfl rfl ?_
                                  refine ent_off rfl rfl rfl rfl rfl rfl ?_
                                  refine ent_off rfl rfl rfl rfl rfl rfl ?_
                                  refine ent_value (ov_pick rfl rfl rfl rfl) rfl rfl rfl ?_
                                  refine ent_nil ?_
                                  refine ent_cond_true rfl rfl ?_
                                  refine ent_seq ?_
                                  refine ent_region ?_
                                  refine ent_value (ov_build (is := []) (xs := []) (vs := []) rfl rfl (build_struct (cs := [(int .i64 0), (int .i64 0), (int .i64 0), (int .i64 0), (int .i64 0), (int .i64 0), (int .i64 0), (int .i64 0), (int .i64 0)]) F_zero_24 F_places_24 rfl)) rfl rfl rfl ?_
                                  refine ent_value (ov_move rfl) rfl rfl rfl ?_
                                  refine ent_value (ov_binL (m' := 7) rfl rfl (b_add _ _ _) (by decide)) rfl rfl rfl ?_
                                  refine ent_op0 (ot_storeG (cs := [(int .i64 0), (int .i64 0), (int .i64 0), (int .i64 0), (int .i64 0), (int .i64 0), (int .i64 0), (int .i64 0), (int .i64 0)]) (cs' := [(int .i64 0), (int .i64 0), (int .i64 0), (int .i64 0), (int .i64 0), (int .i64 0), (int .i64 0), (int .i64 0), (int .i64 0)]) (us := [(int .i64 0), (int .i64 0), (int .i64 0), (int .i64 0), (int .i64 0), (int .i64 0), (int .i64 0), (int .i64 0), (int .i64 0)]) (L' := [(box b9 53 [(pt b8 0), (pt b8 1), (pt b8 2), (pt b8 3), (pt b8 4), (pt b8 5), (pt b8 6), (pt b8 9), (pt b8 8)]), (box b8 51 [(int .i64 x199.1), (int .i64 x205.1), (int .i64 x211.1), (int .i64 x217.1), (int .i64 x223.1), (int .i64 x229.1), (int .i64 0), (int .i64 0), (int .i64 0), (int .i64 0)]), (box b7 24 [(int .i64 0), (int .i64 0), (int .i64 0), (int .i64 0), (int .i64 0), (int .i64 0), (int .i64 0), (int .i64 0), (int .i64 0)])]) 2 rfl rfl rfl (one_all rfl) F_size_24 rfl rfl (by simp) rfl) rfl rfl ?_
                                  rintro _ _ rfl
                                  refine ent_value (ov_assign rfl) rfl rfl rfl ?_
                                  refine ent_value (ov_assign rfl) rfl rfl rfl ?_
                                  refine ent_nil ?_
                                  refine ent_retc ?_
                                  cases H29
                                  have H48 := Option.some.inj (show some _ = some _ from H)
                                  first | (have e_ := Option.some.inj (show some _ = some _ from H48); subst e_) | subst H48
                                  exact ret_memp [] (by decide) rfl (vs := [(agg #[(int .i64 0), (int .i64 0), (int .i64 0), (int .i64 0), (int .i64 0), (int .i64 0), (int .i64 0), (int .i64 0), (int .i64 0)]), (int .i64 7), (int .i64 4)]) rfl ⟨⟨_, [(int .i64 0), (int .i64 0), (int .i64 0), (int .i64 0), (int .i64 0), (int .i64 0), (int .i64 0), (int .i64 0), (int .i64 0)], rfl, reads_boxW (i := 2) rfl, .inl ⟨F_agg_24, F_size_24, rfl⟩⟩, ⟨rfl, ⟨rfl, trivial⟩⟩⟩ _ rfl ⟨rfl, rfl⟩
                                 ·rw [if_neg c615] at H29
                                  refine ent_value_on (ov_move rfl) rfl rfl rfl (Bool.eq_false_iff.2 c615) rfl rfl ?_
                                  refine ent_value_on (ov_un rfl (u_not _)) rfl rfl rfl (Bool.eq_false_iff.2 c615) rfl rfl ?_
                                  refine ent_value (ov_pick rfl rfl rfl (pick_f (Bool.eq_false_iff.2 c615))) rfl rfl rfl ?_
                                  refine ent_value (ov_move rfl) rfl rfl rfl ?_
                                  by_cases c616 : (!x234.2) = true
                                  ·rw [if_pos c616] at H29
                                   refine ent_off rfl rfl rfl c616 rfl rfl ?_
                                   refine ent_off rfl rfl rfl c616 rfl rfl ?_
                                   refine ent_value (ov_pick rfl rfl rfl (pick_t c616)) rfl rfl rfl ?_
                                   refine ent_nil ?_
                                   refine ent_cond_true rfl rfl ?_
                                   refine ent_seq ?_
                                   refine ent_region ?_
                                   refine ent_value (ov_build (is := []) (xs := []) (vs := []) rfl rfl (build_struct (cs := [(int .i64 0), (int .i64 0), (int .i64 0), (int .i64 0), (int .i64 0), (int .i64 0), (int .i64 0), (int .i64 0), (int .i64 0)]) F_zero_24 F_places_24 rfl)) rfl rfl rfl ?_
                                   refine ent_value (ov_move rfl) rfl rfl rfl ?_
                                   refine ent_value (ov_binL (m' := 7) rfl rfl (b_add _ _ _) (by decide)) rfl rfl rfl ?_
                                   refine ent_op0 (ot_storeG (cs := [(int .i64 0), (int .i64 0), (int .i64 0), (int .i64 0), (int .i64 0), (int .i64 0), (int .i64 0), (int .i64 0), (int .i64 0)]) (cs' := [(int .i64 0), (int .i64 0), (int .i64 0), (int .i64 0), (int .i64 0), (int .i64 0), (int .i64 0), (int .i64 0), (int .i64 0)]) (us := [(int .i64 0), (int .i64 0), (int .i64 0), (int .i64 0), (int .i64 0), (int .i64 0), (int .i64 0), (int .i64 0), (int .i64 0)]) (L' := [(box b9 53 [(pt b8 0), (pt b8 1), (pt b8 2), (pt b8 3), (pt b8 4), (pt b8 5), (pt b8 6), (pt b8 9), (pt b8 8)]), (box b8 51 [(int .i64 x199.1), (int .i64 x205.1), (int .i64 x211.1), (int .i64 x217.1), (int .i64 x223.1), (int .i64 x229.1), (int .i64 0), (int .i64 0), (int .i64 0), (int .i64 0)]), (box b7 24 [(int .i64 0), (int .i64 0), (int .i64 0), (int .i64 0), (int .i64 0), (int .i64 0), (int .i64 0), (int .i64 0), (int .i64 0)])]) 2 rfl rfl rfl (one_all rfl) F_size_24 rfl rfl (by simp) rfl) rfl rfl ?_
                                   rintro _ _ rfl
                                   refine ent_value (ov_assign rfl) rfl rfl rfl ?_
                                   refine ent_value (ov_assign rfl) rfl rfl rfl ?_
                                   refine ent_nil ?_
                                   refine ent_retc ?_
                                   cases H29
                                   have H49 := Option.some.inj (show some _ = some _ from H)
                                   first | (have e_ := Option.some.inj (show some _ = some _ from H49); subst e_) | subst H49
                                   exact ret_memp [] (by decide) rfl (vs := [(agg #[(int .i64 0), (int .i64 0), (int .i64 0), (int .i64 0), (int .i64 0), (int .i64 0), (int .i64 0), (int .i64 0), (int .i64 0)]), (int .i64 7), (int .i64 4)]) rfl ⟨⟨_, [(int .i64 0), (int .i64 0), (int .i64 0), (int .i64 0), (int .i64 0), (int .i64 0), (int .i64 0), (int .i64 0), (int .i64 0)], rfl, reads_boxW (i := 2) rfl, .inl ⟨F_agg_24, F_size_24, rfl⟩⟩, ⟨rfl, ⟨rfl, trivial⟩⟩⟩ _ rfl ⟨rfl, rfl⟩
                                  ·rw [if_neg c616] at H29
                                   refine ent_value_on (ov_move rfl) rfl rfl rfl (Bool.eq_false_iff.2 c616) rfl rfl ?_
                                   refine ent_value_on (ov_un rfl (u_not _)) rfl rfl rfl (Bool.eq_false_iff.2 c616) rfl rfl ?_
                                   refine ent_value (ov_pick rfl rfl rfl (pick_f (Bool.eq_false_iff.2 c616))) rfl rfl rfl ?_
                                   refine ent_nil ?_
                                   by_cases c617 : (!x235.2) = true
                                   ·rw [if_pos c617] at H29
                                    refine ent_cond_true rfl c617 ?_
                                    refine ent_seq ?_
                                    refine ent_region ?_
                                    refine ent_value (ov_build (is := []) (xs := []) (vs := []) rfl rfl (build_struct (cs := [(int .i64 0), (int .i64 0), (int .i64 0), (int .i64 0), (int .i64 0), (int .i64 0), (int .i64 0), (int .i64 0), (int .i64 0)]) F_zero_24 F_places_24 rfl)) rfl rfl rfl ?_
                                    refine ent_value (ov_move rfl) rfl rfl rfl ?_
                                    refine ent_value (ov_binL (m' := 7) rfl rfl (b_add _ _ _) (by decide)) rfl rfl rfl ?_
                                    refine ent_op0 (ot_storeG (cs := [(int .i64 0), (int .i64 0), (int .i64 0), (int .i64 0), (int .i64 0), (int .i64 0), (int .i64 0), (int .i64 0), (int .i64 0)]) (cs' := [(int .i64 0), (int .i64 0), (int .i64 0), (int .i64 0), (int .i64 0), (int .i64 0), (int .i64 0), (int .i64 0), (int .i64 0)]) (us := [(int .i64 0), (int .i64 0), (int .i64 0), (int .i64 0), (int .i64 0), (int .i64 0), (int .i64 0), (int .i64 0), (int .i64 0)]) (L' := [(box b9 53 [(pt b8 0), (pt b8 1), (pt b8 2), (pt b8 3), (pt b8 4), (pt b8 5), (pt b8 6), (pt b8 9), (pt b8 8)]), (box b8 51 [(int .i64 x199.1), (int .i64 x205.1), (int .i64 x211.1), (int .i64 x217.1), (int .i64 x223.1), (int .i64 x229.1), (int .i64 0), (int .i64 0), (int .i64 0), (int .i64 0)]), (box b7 24 [(int .i64 0), (int .i64 0), (int .i64 0), (int .i64 0), (int .i64 0), (int .i64 0), (int .i64 0), (int .i64 0), (int .i64 0)])]) 2 rfl rfl rfl (one_all rfl) F_size_24 rfl rfl (by simp) rfl) rfl rfl ?_
                                    rintro _ _ rfl
                                    refine ent_value (ov_assign rfl) rfl rfl rfl ?_
                                    refine ent_value (ov_assign rfl) rfl rfl rfl ?_
                                    refine ent_nil ?_
                                    refine ent_retc ?_
                                    cases H29
                                    have H50 := Option.some.inj (show some _ = some _ from H)
                                    first | (have e_ := Option.some.inj (show some _ = some _ from H50); subst e_) | subst H50
                                    exact ret_memp [] (by decide) rfl (vs := [(agg #[(int .i64 0), (int .i64 0), (int .i64 0), (int .i64 0), (int .i64 0), (int .i64 0), (int .i64 0), (int .i64 0), (int .i64 0)]), (int .i64 7), (int .i64 4)]) rfl ⟨⟨_, [(int .i64 0), (int .i64 0), (int .i64 0), (int .i64 0), (int .i64 0), (int .i64 0), (int .i64 0), (int .i64 0), (int .i64 0)], rfl, reads_boxW (i := 2) rfl, .inl ⟨F_agg_24, F_size_24, rfl⟩⟩, ⟨rfl, ⟨rfl, trivial⟩⟩⟩ _ rfl ⟨rfl, rfl⟩
                                   ·rw [if_neg c617] at H29
                                    refine ent_cond_false rfl (Bool.eq_false_iff.2 c617) ?_
                                    refine ent_skip ?_
                                    refine ent_seq ?_
                                    refine ent_region ?_
                                    refine ent_value (ov_move rfl) rfl rfl rfl ?_
                                    by_cases c618 : 6 < (9 : Int)
                                    ·rw [if_pos c618] at H29
                                     refine ent_value (ov_indexArr (o := 0) rfl rfl F_array_53 F_size_52 (by decide) c618) rfl rfl rfl ?_
                                     refine ent_value (ov_load (v := (pt b8 6)) rfl F_agg_52 (reads_box1 (i := 0) rfl rfl)) rfl rfl rfl ?_
                                     refine ent_value (ov_move rfl) rfl rfl rfl ?_
                                     refine ent_value (ov_nilCheck rfl) rfl rfl rfl ?_
                                     refine ent_op0 (ot_storeG (cs := [(int .i64 x199.1), (int .i64 x205.1), (int .i64 x211.1), (int .i64 x217.1), (int .i64 x223.1), (int .i64 x229.1), (int .i64 0), (int .i64 0), (int .i64 0), (int .i64 0)]) (cs' := [(int .i64 x199.1), (int .i64 x205.1), (int .i64 x211.1), (int .i64 x217.1), (int .i64 x223.1), (int .i64 x229.1), (int .i64 x235.1), (int .i64 0), (int .i64 0), (int .i64 0)]) (us := [(int .i64 x235.1)]) (L' := [(box b9 53 [(pt b8 0), (pt b8 1), (pt b8 2), (pt b8 3), (pt b8 4), (pt b8 5), (pt b8 6), (pt b8 9), (pt b8 8)]), (box b8 51 [(int .i64 x199.1), (int .i64 x205.1), (int .i64 x211.1), (int .i64 x217.1), (int .i64 x223.1), (int .i64 x229.1), (int .i64 x235.1), (int .i64 0), (int .i64 0), (int .i64 0)]), (box b7 24 [(int .i64 0), (int .i64 0), (int .i64 0), (int .i64 0), (int .i64 0), (int .i64 0), (int .i64 0), (int .i64 0), (int .i64 0)])]) 1 rfl rfl rfl (one_all rfl) F_size_2 rfl rfl (by simp) rfl) rfl rfl ?_
                                     rintro _ _ rfl
                                     refine ent_nil ?_
                                     refine ent_seq ?_
                                     refine ent_region ?_
                                     refine ent_value (ov_move rfl) rfl rfl rfl ?_
                                     refine ent_value (ov_assign rfl) rfl rfl rfl ?_
                                     refine ent_nil ?_
                                     refine ent_exit ?_
                                     refine ent_region ?_
                                     refine ent_value (ov_binL (m' := 7) rfl rfl (b_add _ _ _) (by decide)) rfl rfl rfl ?_
                                     refine ent_value (ov_move rfl) rfl rfl rfl ?_
                                     refine ent_nil ?_
                                     refine ent_round ?_
                                     refine ent_seq ?_
                                     refine ent_region ?_
                                     refine ent_value (ov_bin rfl rfl (b_lss _ _ _)) rfl rfl rfl ?_
                                     refine ent_nil ?_
                                     refine ent_seq ?_
                                     refine ent_cond_true rfl rfl ?_
                                     refine ent_skip ?_
                                     refine ent_seq ?_
                                     refine ent_block ?_
                                     refine ent_seq ?_
                                     refine ent_region ?_
                                     refine ent_value (ov_move rfl) rfl rfl rfl ?_
                                     refine ent_value (ov_indexAggN rfl rfl F_array_55 F_size_9 F_agg_9 (by decide) (by decide) rfl) rfl rfl rfl ?_
                                     refine ent_value (ov_assign rfl) rfl rfl rfl ?_
                                     refine ent_value (ov_assign rfl) rfl rfl rfl ?_
                                     refine ent_nil ?_
                                     refine ent_seq ?_
                                     refine ent_region ?_
                                     refine ent_value (ov_move rfl) rfl rfl rfl ?_
                                     obtain ⟨x239, h239, H29⟩ := Option.bind_eq_some_iff.1 H29
                                     refine ent_op (ot_call0 (first := []) (cap := []) (xs := [.tmp 28, .const (str ([10] : List UInt8))]) rfl rfl F_call_28 rfl (strings_Cut.spec x233.2.1 ([10] : List UInt8) _ h239)) rfl rfl rfl ?_
                                     rintro _ _ ⟨rfl, rfl⟩
                                     refine ent_value (ov_move rfl) rfl rfl rfl ?_
                                     refine ent_value (ov_extract rfl rfl) rfl rfl rfl ?_
                                     refine ent_value (ov_extract rfl rfl) rfl rfl rfl ?_
                                     refine ent_value (ov_extract rfl rfl) rfl rfl rfl ?_
                                     refine ent_value (ov_assign rfl) rfl rfl rfl ?_
                                     refine ent_value (ov_assign rfl) rfl rfl rfl ?_
                                     refine ent_value (ov_assign rfl) rfl rfl rfl ?_
                                     refine ent_nil ?_
                                     refine ent_seq ?_
                                     refine ent_region ?_
                                     refine ent_value (ov_move rfl) rfl rfl rfl ?_
                                     refine ent_value (ov_move rfl) rfl rfl rfl ?_
                                     by_cases c627 : (x187.2.2.2.2.2.2.2.1.length : Int) + (([32] : List UInt8).length : Int) ≤ 9223372036854775807
                                     ·rw [if_pos c627] at H29
                                      refine ent_value (ov_bin rfl rfl fun w => b_add_str _ _ w c627) rfl rfl rfl ?_
                                      obtain ⟨x240, h240, H29⟩ := thn_elim H29
                                      refine ent_op (ot_call0 (first := []) (cap := []) (xs := [.tmp 34, .tmp 36]) rfl rfl F_call_29 rfl (strings_CutPrefix.spec x239.1 (x187.2.2.2.2.2.2.2.1 ++ ([32] : List UInt8)) _ h240)) rfl rfl rfl ?_
                                      rintro _ _ ⟨rfl, rfl⟩
                                      refine ent_value (ov_move rfl) rfl rfl rfl ?_
                                      refine ent_value (ov_extract rfl rfl) rfl rfl rfl ?_
                                      refine ent_value (ov_extract rfl rfl) rfl rfl rfl ?_
                                      refine ent_value (ov_assign rfl) rfl rfl rfl ?_
                                      refine ent_value (ov_assign rfl) rfl rfl rfl ?_
                                      refine ent_nil ?_
                                      refine ent_seq ?_
                                      refine ent_region ?_
                                      refine ent_value (ov_move rfl) rfl rfl rfl ?_
                                      obtain ⟨x241, h241, H29⟩ := Option.bind_eq_some_iff.1 H29
                                      refine ent_op (ot_call0 (first := []) (cap := []) (xs := [.tmp 41]) rfl rfl F_call_30 rfl (words_Number.spec K x240.1 _ h241)) rfl rfl rfl ?_
                                      rintro _ _ ⟨rfl, rfl⟩
                                      refine ent_value (ov_move rfl) rfl rfl rfl ?_
                                      refine ent_value (ov_extract rfl rfl) rfl rfl rfl ?_
                                      refine ent_value (ov_extract rfl rfl) rfl rfl rfl ?_
                                      refine ent_value (ov_assign rfl) rfl rfl rfl ?_
                                      refine ent_value (ov_assign rfl) rfl rfl rfl ?_
                                      refine ent_nil ?_
                                      refine ent_seq ?_
                                      refine ent_seq ?_
                                      refine ent_region ?_
                                      refine ent_value (ov_move rfl) rfl rfl rfl ?_
                                      refine ent_value (ov_un rfl (u_not _)) rfl rfl rfl ?_
                                      refine ent_value (ov_move rfl) rfl rfl rfl ?_
                                      by_cases c631 : (!x239.2.2) = true
                                      ·rw [if_pos c631] at H29
                                       refine ent_off rfl rfl rfl c631 rfl rfl ?_
                                       refine ent_off rfl rfl rfl c631 rfl rfl ?_
                                       refine ent_value (ov_pick rfl rfl rfl (pick_t c631)) rfl rfl rfl ?_
                                       refine ent_value (ov_move rfl) rfl rfl rfl ?_
                                       refine ent_off rfl rfl rfl rfl rfl rfl ?_
                                       refine ent_off rfl rfl rfl rfl rfl rfl ?_
                                       refine ent_value (ov_pick rfl rfl rfl rfl) rfl rfl rfl ?_
                                       refine ent_nil ?_
                                       refine ent_cond_true rfl rfl ?_
                                       refine ent_seq ?_
                                       refine ent_region ?_
                                       refine ent_value (ov_build (is := []) (xs := []) (vs := []) rfl rfl (build_struct (cs := [(int .i64 0), (int .i64 0), (int .i64 0), (int .i64 0), (int .i64 0), (int .i64 0), (int .i64 0), (int .i64 0), (int .i64 0)]) F_zero_24 F_places_24 rfl)) rfl rfl rfl ?_
                                       refine ent_value (ov_move rfl) rfl rfl rfl ?_
                                       refine ent_value (ov_binL (m' := 8) rfl rfl (b_add _ _ _) (by decide)) rfl rfl rfl ?_
                                       refine ent_op0 (ot_storeG (cs := [(int .i64 0), (int .i64 0), (int .i64 0), (int .i64 0), (int .i64 0), (int .i64 0), (int .i64 0), (int .i64 0), (int .i64 0)]) (cs' := [(int .i64 0), (int .i64 0), (int .i64 0), (int .i64 0), (int .i64 0), (int .i64 0), (int .i64 0), (int .i64 0), (int .i64 0)]) (us := [(int .i64 0), (int .i64 0), (int .i64 0), (int .i64 0), (int .i64 0), (int .i64 0), (int .i64 0), (int .i64 0), (int .i64 0)]) (L' := [(box b9 53 [(pt b8 0), (pt b8 1), (pt b8 2), (pt b8 3), (pt b8 4), (pt b8 5), (pt b8 6), (pt b8 9), (pt b8 8)]), (box b8 51 [(int .i64 x199.1), (int .i64 x205.1), (int .i64 x211.1), (int .i64 x217.1), (int .i64 x223.1), (int .i64 x229.1), (int .i64 x235.1), (int .i64 0), (int .i64 0), (int .i64 0)]), (box b7 24 [(int .i64 0), (int .i64 0), (int .i64 0), (int .i64 0), (int .i64 0), (int .i64 0), (int .i64 0), (int .i64 0), (int .i64 0)])]) 2 rfl rfl rfl (one_all rfl) F_size_24 rfl rfl (by simp) rfl) rfl rfl ?_
                                       rintro _ _ rfl
                                       refine ent_value (ov_assign rfl) rfl rfl rfl ?_
                                       refine ent_value (ov_assign rfl) rfl rfl rfl ?_
                                       refine ent_nil ?_
                                       refine ent_retc ?_
                                       cases H29
                                       have H51 := Option.some.inj (show some _ = some _ from H)
                                       first | (have e_ := Option.some.inj (show some _ = some _ from H51); subst e_) | subst H51
                                       exact ret_memp [] (by decide) rfl (vs := [(agg #[(int .i64 0), (int .i64 0), (int .i64 0), (int .i64 0), (int .i64 0), (int .i64 0), (int .i64 0), (int .i64 0), (int .i64 0)]), (int .i64 8), (int .i64 4)]) rfl ⟨⟨_, [(int .i64 0), (int .i64 0), (int .i64 0), (int .i64 0), (int .i64 0), (int .i64 0), (int .i64 0), (int .i64 0), (int .i64 0)], rfl, reads_boxW (i := 2) rfl, .inl ⟨F_agg_24, F_size_24, rfl⟩⟩, ⟨rfl, ⟨rfl, trivial⟩⟩⟩ _ rfl ⟨rfl, rfl⟩
                                      ·rw [if_neg c631] at H29
                                       refine ent_value_on (ov_move rfl) rfl rfl rfl (Bool.eq_false_iff.2 c631) rfl rfl ?_
                                       refine ent_value_on (ov_un rfl (u_not _)) rfl rfl rfl (Bool.eq_false_iff.2 c631) rfl rfl ?_
                                       refine ent_value (ov_pick rfl rfl rfl (pick_f (Bool.eq_false_iff.2 c631))) rfl rfl rfl ?_
                                       refine ent_value (ov_move rfl) rfl rfl rfl ?_
                                       by_cases c632 : (!x240.2) = true
                                       ·rw [if_pos c632] at H29
                                        refine ent_off rfl rfl rfl c632 rfl rfl ?_
                                        refine ent_off rfl rfl rfl c632 rfl rfl ?_
                                        refine ent_value (ov_pick rfl rfl rfl (pick_t c632)) rfl rfl rfl ?_
                                        refine ent_nil ?_
                                        refine ent_cond_true rfl rfl ?_
                                        refine ent_seq ?_
                                        refine ent_region ?_
                                        refine ent_value (ov_build (is := []) (xs := []) (vs := []) rfl rfl (build_struct (cs := [(int .i64 0), (int .i64 0), (int .i64 0), (int .i64 0), (int .i64 0), (int .i64 0), (int .i64 0), (int .i64 0), (int .i64 0)]) F_zero_24 F_places_24 rfl)) rfl rfl rfl ?_
                                        refine ent_value (ov_move rfl) rfl rfl rfl ?_
                                        refine ent_value (ov_binL (m' := 8) rfl rfl (b_add _ _ _) (by decide)) rfl rfl rfl ?_
                                        refine ent_op0 (ot_storeG (cs := [(int .i64 0), (int .i64 0), (int .i64 0), (int .i64 0), (int .i64 0), (int .i64 0), (int .i64 0), (int .i64 0), (int .i64 0)]) (cs' := [(int .i64 0), (int .i64 0), (int .i64 0), (int .i64 0), (int .i64 0), (int .i64 0), (int .i64 0), (int .i64 0), (int .i64 0)]) (us := [(int .i64 0), (int .i64 0), (int .i64 0), (int .i64 0), (int .i64 0), (int .i64 0), (int .i64 0), (int .i64 0), (int .i64 0)]) (L' := [(box b9 53 [(pt b8 0), (pt b8 1), (pt b8 2), (pt b8 3), (pt b8 4), (pt b8 5), (pt b8 6), (pt b8 9), (pt b8 8)]), (box b8 51 [(int .i64 x199.1), (int .i64 x205.1), (int .i64 x211.1), (int .i64 x217.1), (int .i64 x223.1), (int .i64 x229.1), (int .i64 x235.1), (int .i64 0), (int .i64 0), (int .i64 0)]), (box b7 24 [(int .i64 0), (int .i64 0), (int .i64 0), (int .i64 0), (int .i64 0), (int .i64 0), (int .i64 0), (int .i64 0), (int .i64 0)])]) 2 rfl rfl rfl (one_all rfl) F_size_24 rfl rfl (by simp) rfl) rfl rfl ?_
                                        rintro _ _ rfl
                                        refine ent_value (ov_assign rfl) rfl rfl rfl ?_
                                        refine ent_value (ov_assign rfl) rfl rfl rfl ?_
                                        refine ent_nil ?_
                                        refine ent_retc ?_
                                        cases H29
                                        have H52 := Option.some.inj (show some _ = some _ from H)
                                        first | (have e_ := Option.some.inj (show some _ = some _ from H52); subst e_) | subst H52
                                        exact ret_memp [] (by decide) rfl (vs := [(agg #[(int .i64 0), (int .i64 0), (int .i64 0), (int .i64 0), (int .i64 0), (int .i64 0), (int .i64 0), (int .i64 0), (int .i64 0)]), (int .i64 8), (int .i64 4)]) rfl ⟨⟨_, [(int .i64 0), (int .i64 0), (int .i64 0), (int .i64 0), (int .i64 0), (int .i64 0), (int .i64 0), (int .i64 0), (int .i64 0)], rfl, reads_boxW (i := 2) rfl, .inl ⟨F_agg_24, F_size_24, rfl⟩⟩, ⟨rfl, ⟨rfl, trivial⟩⟩⟩ _ rfl ⟨rfl, rfl⟩
                                       ·rw [if_neg c632] at H29
                                        refine ent_value_on (ov_move rfl) rfl rfl rfl (Bool.eq_false_iff.2 c632) rfl rfl ?_
                                        refine ent_value_on (ov_un rfl (u_not _)) rfl rfl rfl (Bool.eq_false_iff.2 c632) rfl rfl ?_
                                        refine ent_value (ov_pick rfl rfl rfl (pick_f (Bool.eq_false_iff.2 c632))) rfl rfl rfl ?_
                                        refine ent_nil ?_
                                        by_cases c633 : (!x241.2) = true
                                        ·rw [if_pos c633] at H29
                                         refine ent_cond_true rfl c633 ?_
                                         refine ent_seq ?_
                                         refine ent_region ?_
                                         refine ent_value (ov_build (is := []) (xs := []) (vs := []) rfl rfl (build_struct (cs := [(int .i64 0), (int .i64 0), (int .i64 0), (int .i64 0), (int .i64 0), (int .i64 0), (int .i64 0), (int .i64 0), (int .i64 0)]) F_zero_24 F_places_24 rfl)) rfl rfl rfl ?_
                                         refine ent_value (ov_move rfl) rfl rfl rfl ?_
                                         refine ent_value (ov_binL (m' := 8) rfl rfl (b_add _ _ _) (by decide)) rfl rfl rfl ?_
                                         refine ent_op0 (ot_storeG (cs := [(int .i64 0), (int .i64 0), (int .i64 0), (int .i64 0), (int .i64 0), (int .i64 0), (int .i64 0), (int .i64 0), (int .i64 0)]) (cs' := [(int .i64 0), (int .i64 0), (int .i64 0), (int .i64 0), (int .i64 0), (int .i64 0), (int .i64 0), (int .i64 0), (int .i64 0)]) (us := [(int .i64 0), (int .i64 0), (int .i64 0), (int .i64 0), (int .i64 0), (int .i64 0), (int .i64 0), (int .i64 0), (int .i64 0)]) (L' := [(box b9 53 [(pt b8 0), (pt b8 1), (pt b8 2), (pt b8 3), (pt b8 4), (pt b8 5), (pt b8 6), (pt b8 9), (pt b8 8)]), (box b8 51 [(int .i64 x199.1), (int .i64 x205.1), (int .i64 x211.1), (int .i64 x217.1), (int .i64 x223.1), (int .i64 x229.1), (int .i64 x235.1), (int .i64 0), (int .i64 0), (int .i64 0)]), (box b7 24 [(int .i64 0), (int .i64 0), (int .i64 0), (int .i64 0), (int .i64 0), (int .i64 0), (int .i64 0), (int .i64 0), (int .i64 0)])]) 2 rfl rfl rfl (one_all rfl) F_size_24 rfl rfl (by simp) rfl) rfl rfl ?_
                                         rintro _ _ rfl
                                         refine ent_value (ov_assign rfl) rfl rfl rfl ?_
                                         refine ent_value (ov_assign rfl) rfl rfl rfl ?_
                                         refine ent_nil ?_
                                         refine ent_retc ?_
                                         cases H29
                                         have H53 := Option.some.inj (show some _ = some _ from H)
                                         first | (have e_ := Option.some.inj (show some _ = some _ from H53); subst e_) | subst H53
                                         exact ret_memp [] (by decide) rfl (vs := [(agg #[(int .i64 0), (int .i64 0), (int .i64 0), (int .i64 0), (int .i64 0), (int .i64 0), (int .i64 0), (int .i64 0), (int .i64 0)]), (int .i64 8), (int .i64 4)]) rfl ⟨⟨_, [(int .i64 0), (int .i64 0), (int .i64 0), (int .i64 0), (int .i64 0), (int .i64 0), (int .i64 0), (int .i64 0), (int .i64 0)], rfl, reads_boxW (i := 2) rfl, .inl ⟨F_agg_24, F_size_24, rfl⟩⟩, ⟨rfl, ⟨rfl, trivial⟩⟩⟩ _ rfl ⟨rfl, rfl⟩
                                        ·rw [if_neg c633] at H29
                                         refine ent_cond_false rfl (Bool.eq_false_iff.2 c633) ?_
                                         refine ent_skip ?_
                                         refine ent_seq ?_
                                         refine ent_region ?_
                                         refine ent_value (ov_move rfl) rfl rfl rfl ?_
                                         by_cases c634 : 7 < (9 : Int)
                                         ·rw [if_pos c634] at H29
                                          refine ent_value (ov_indexArr (o := 0) rfl rfl F_array_53 F_size_52 (by decide) c634) rfl rfl rfl ?_
                                          refine ent_value (ov_load (v := (pt b8 9)) rfl F_agg_52 (reads_box1 (i := 0) rfl rfl)) rfl rfl rfl ?_
                                          refine ent_value (ov_move rfl) rfl rfl rfl ?_
                                          refine ent_value (ov_nilCheck rfl) rfl rfl rfl ?_
                                          refine ent_op0 (ot_storeG (cs := [(int .i64 x199.1), (int .i64 x205.1), (int .i64 x211.1), (int .i64 x217.1), (int .i64 x223.1), (int .i64 x229.1), (int .i64 x235.1), (int .i64 0), (int .i64 0), (int .i64 0)]) (cs' := [(int .i64 x199.1), (int .i64 x205.1), (int .i64 x211.1), (int .i64 x217.1), (int .i64 x223.1), (int .i64 x229.1), (int .i64 x235.1), (int .i64 0), (int .i64 0), (int .i64 x241.1)]) (us := [(int .i64 x241.1)]) (L' := [(box b9 53 [(pt b8 0), (pt b8 1), (pt b8 2), (pt b8 3), (pt b8 4), (pt b8 5), (pt b8 6), (pt b8 9), (pt b8 8)]), (box b8 51 [(int .i64 x199.1), (int .i64 x205.1), (int .i64 x211.1), (int .i64 x217.1), (int .i64 x223.1), (int .i64 x229.1), (int .i64 x235.1), (int .i64 0), (int .i64 0), (int .i64 x241.1)]), (box b7 24 [(int .i64 0), (int .i64 0), (int .i64 0), (int .i64 0), (int .i64 0), (int .i64 0), (int .i64 0), (int .i64 0), (int .i64 0)])]) 1 rfl rfl rfl (one_all rfl) F_size_2 rfl rfl (by simp) rfl) rfl rfl ?_
                                          rintro _ _ rfl
                                          refine ent_nil ?_
                                          refine ent_seq ?_
                                          refine ent_region ?_
                                          refine ent_value (ov_move rfl) rfl rfl rfl ?_
                                          refine ent_value (ov_assign rfl) rfl rfl rfl ?_
                                          refine ent_nil ?_
                                          refine ent_exit ?_
                                          refine ent_region ?_
                                          refine ent_value (ov_binL (m' := 8) rfl rfl (b_add _ _ _) (by decide)) rfl rfl rfl ?_
                                          refine ent_value (ov_move rfl) rfl rfl rfl ?_
                                          refine ent_nil ?_
                                          refine ent_round ?_
                                          refine ent_seq ?_
                                          refine ent_region ?_
                                          refine ent_value (ov_bin rfl rfl (b_lss _ _ _)) rfl rfl rfl ?_
                                          refine ent_nil ?_
                                          refine ent_seq ?_
                                          refine ent_cond_true rfl rfl ?_
                                          refine ent_skip ?_
                                          refine ent_seq ?_
                                          refine ent_block ?_
                                          refine ent_seq ?_
                                          refine ent_region ?_
                                          refine ent_value (ov_move rfl) rfl rfl rfl ?_
                                          refine ent_value (ov_indexAggN rfl rfl F_array_55 F_size_9 F_agg_9 (by decide) (by decide) rfl) rfl rfl rfl ?_
                                          refine ent_value (ov_assign rfl) rfl rfl rfl ?_
                                          refine ent_value (ov_assign rfl) rfl rfl rfl ?_
                                          refine ent_nil ?_
                                          refine ent_seq ?_
                                          refine ent_region ?_
                                          refine ent_value (ov_move rfl) rfl rfl rfl ?_
                                          obtain ⟨x245, h245, H29⟩ := Option.bind_eq_some_iff.1 H29
                                          refine ent_op (ot_call0 (first := []) (cap := []) (xs := [.tmp 28, .const (str ([10] : List UInt8))]) rfl rfl F_call_28 rfl (strings_Cut.spec x239.2.1 ([10] : List UInt8) _ h245)) rfl rfl rfl ?_
                                          rintro _ _ ⟨rfl, rfl⟩
                                          refine ent_value (ov_move rfl) rfl rfl rfl ?_
                                          refine ent_value (ov_extract rfl rfl) rfl rfl rfl ?_
                                          refine ent_value (ov_extract rfl rfl) rfl rfl rfl ?_
                                          refine ent_value (ov_extract rfl rfl) rfl rfl rfl ?_
                                          refine ent_value (ov_assign rfl) rfl rfl rfl ?_
                                          refine ent_value (ov_assign rfl) rfl rfl rfl ?_
                                          refine ent_value (ov_assign rfl) rfl rfl rfl ?_
                                          refine ent_nil ?_
                                          refine ent_seq ?_
                                          refine ent_region ?_
                                          refine ent_value (ov_move rfl) rfl rfl rfl ?_
                                          refine ent_value (ov_move rfl) rfl rfl rfl ?_
                                          by_cases c643 : (x187.2.2.2.2.2.2.2.2.length : Int) + (([32] : List UInt8).length : Int) ≤ 9223372036854775807
                                          ·rw [if_pos c643] at H29
                                           refine ent_value (ov_bin rfl rfl fun w => b_add_str _ _ w c643) rfl rfl rfl ?_
                                           obtain ⟨x246, h246, H29⟩ := thn_elim H29
                                           refine ent_op (ot_call0 (first := []) (cap := []) (xs := [.tmp 34, .tmp 36]) rfl rfl F_call_29 rfl (strings_CutPrefix.spec x245.1 (x187.2.2.2.2.2.2.2.2 ++ ([32] : List UInt8)) _ h246)) rfl rfl rfl ?_
                                           rintro _ _ ⟨rfl, rfl⟩
                                           refine ent_value (ov_move rfl) rfl rfl rfl ?_
                                           refine ent_value (ov_extract rfl rfl) rfl rfl rfl ?_
                                           refine ent_value (ov_extract rfl rfl) rfl rfl rfl ?_
                                           refine ent_value (ov_assign rfl) rfl rfl rfl ?_
                                           refine ent_value (ov_assign rfl) rfl rfl rfl ?_
                                           refine ent_nil ?_
                                           refine ent_seq ?_
                                           refine ent_region ?_
                                           refine ent_value (ov_move rfl) rfl rfl rfl ?_
                                           obtain ⟨x247, h247, H29⟩ := Option.bind_eq_some_iff.1 H29
                                           refine ent_op (ot_call0 (first := []) (cap := []) (xs := [.tmp 41]) rfl rfl F_call_30 rfl (words_Number.spec K x246.1 _ h247)) rfl rfl rfl ?_
                                           rintro _ _ ⟨rfl, rfl⟩
                                           refine ent_value (ov_move rfl) rfl rfl rfl ?_
                                           refine ent_value (ov_extract rfl rfl) rfl rfl rfl ?_
                                           refine ent_value (ov_extract rfl rfl) rfl rfl rfl ?_
                                           refine ent_value (ov_assign rfl) rfl rfl rfl ?_
                                           refine ent_value (ov_assign rfl) rfl rfl rfl ?_
                                           refine ent_nil ?_
                                           refine ent_seq ?_
                                           refine ent_seq ?_
                                           refine ent_region ?_
                                           refine ent_value (ov_move rfl) rfl rfl rfl ?_
                                           refine ent_value (ov_un rfl (u_not _)) rfl rfl rfl ?_
                                           refine ent_value (ov_move rfl) rfl rfl rfl ?_
                                           by_cases c647 : (!x245.2.2) = true
                                           ·rw [if_pos c647] at H29
                                            refine ent_off rfl rfl rfl c647 rfl rfl ?_
                                            refine ent_off rfl rfl rfl c647 rfl rfl ?_
                                            refine ent_value (ov_pick rfl rfl rfl (pick_t c647)) rfl rfl rfl ?_
                                            refine ent_value (ov_move rfl) rfl rfl rfl ?_
                                            refine ent_off rfl rfl rfl rfl rfl rfl ?_
                                            refine ent_off rfl rfl rfl rfl rfl rfl ?_
                                            refine ent_value (ov_pick rfl rfl rfl rfl) rfl rfl rfl ?_
                                            refine ent_nil ?_
                                            refine ent_cond_true rfl rfl ?_
                                            refine ent_seq ?_
                                            refine ent_region ?_
                                            refine ent_value (ov_build (is := []) (xs := []) (vs := []) rfl rfl (build_struct (cs := [(int .i64 0), (int .i64 0), (int .i64 0), (int .i64 0), (int .i64 0), (int .i64 0), (int .i64 0), (int .i64 0), (int .i64 0)]) F_zero_24 F_places_24 rfl)) rfl rfl rfl ?_
                                            refine ent_value (ov_move rfl) rfl rfl rfl ?_
                                            refine ent_value (ov_binL (m' := 9) rfl rfl (b_add _ _ _) (by decide)) rfl rfl rfl ?_
                                            refine ent_op0 (ot_storeG (cs := [(int .i64 0), (int .i64 0), (int .i64 0), (int .i64 0), (int .i64 0), (int .i64 0), (int .i64 0), (int .i64 0), (int .i64 0)]) (cs' := [(int .i64 0), (int .i64 0), (int .i64 0), (int .i64 0), (int .i64 0), (int .i64 0), (int .i64 0), (int .i64 0), (int .i64 0)]) (us := [(int .i64 0), (int .i64 0), (int .i64 0), (int .i64 0), (int .i64 0), (int .i64 0), (int .i64 0), (int .i64 0), (int .i64 0)]) (L' := [(box b9 53 [(pt b8 0), (pt b8 1), (pt b8 2), (pt b8 3), (pt b8 4), (pt b8 5), (pt b8 6), (pt b8 9), (pt b8 8)]), (box b8 51 [(int .i64 x199.1), (int .i64 x205.1), (int .i64 x211.1), (int .i64 x217.1), (int .i64 x223.1), (int .i64 x229.1), (int .i64 x235.1), (int .i64 0), (int .i64 0), (int .i64 x241.1)]), (box b7 24 [(int .i64 0), (int .i64 0), (int .i64 0), (int .i64 0), (int .i64 0), (int .i64 0), (int .i64 0), (int .i64 0), (int .i64 0)])]) 2 rfl rfl rfl (one_all rfl) F_size_24 rfl rfl (by simp) rfl) rfl rfl ?_
                                            rintro _ _ rfl
                                            refine ent_value (ov_assign rfl) rfl rfl rfl ?_
                                            refine ent_value (ov_assign rfl) rfl rfl rfl ?_
                                            refine ent_nil ?_
                                            refine ent_retc ?_
                                            cases H29
                                            have H54 := Option.some.inj (show some _ = some _ from H)
                                            first | (have e_ := Option.some.inj (show some _ = some _ from H54); subst e_) | subst H54
                                            exact ret_memp [] (by decide) rfl (vs := [(agg #[(int .i64 0), (int .i64 0), (int .i64 0), (int .i64 0), (int .i64 0), (int .i64 0), (int .i64 0), (int .i64 0), (int .i64 0)]), (int .i64 9), (int .i64 4)]) rfl ⟨⟨_, [(int .i64 0), (int .i64 0), (int .i64 0), (int .i64 0), (int .i64 0), (int .i64 0), (int .i64 0), (int .i64 0), (int .i64 0)], rfl, reads_boxW (i := 2) rfl, .inl ⟨F_agg_24, F_size_24, rfl⟩⟩, ⟨rfl, ⟨rfl, trivial⟩⟩⟩ _ rfl ⟨rfl, rfl⟩
                                           ·rw [if_neg c647] at H29
                                            refine ent_value_on (ov_move rfl) rfl rfl rfl (Bool.eq_false_iff.2 c647) rfl rfl ?_
                                            refine ent_value_on (ov_un rfl (u_not _)) rfl rfl rfl (Bool.eq_false_iff.2 c647) rfl rfl ?_
                                            refine ent_value (ov_pick rfl rfl rfl (pick_f (Bool.eq_false_iff.2 c647))) rfl rfl rfl ?_
                                            refine ent_value (ov_move rfl) rfl rfl rfl ?_
                                            by_cases c648 : (!x246.2) = true
                                            ·rw [if_pos c648] at H29
                                             refine ent_off rfl rfl rfl c648 rfl rfl ?_
                                             refine ent_off rfl rfl rfl c648 rfl rfl ?_
                                             refine ent_value (ov_pick rfl rfl rfl (pick_t c648)) rfl rfl rfl ?_
                                             refine ent_nil ?_
                                             refine ent_cond_true rfl rfl ?_
                                             refine ent_seq ?_
                                             refine ent_region ?_
                                             refine ent_value (ov_build (is := []) (xs := []) (vs := []) rfl rfl (build_struct (cs := [(int .i64 0), (int .i64 0), (int .i64 0), (int .i64 0), (int .i64 0), (int .i64 0), (int .i64 0), (int .i64 0), (int .i64 0)]) F_zero_24 F_places_24 rfl)) rfl rfl rfl ?_
                                             refine ent_value (ov_move rfl) rfl rfl rfl ?_
                                             refine ent_value (ov_binL (m' := 9) rfl rfl (b_add _ _ _) (by decide)) rfl rfl rfl ?_
                                             refine ent_op0 (ot_storeG (cs := [(int .i64 0), (int .i64 0), (int .i64 0), (int .i64 0), (int .i64 0), (int .i64 0), (int .i64 0), (int .i64 0), (int .i64 0)]) (cs' := [(int .i64 0), (int .i64 0), (int .i64 0), (int .i64 0), (int .i64 0), (int .i64 0), (int .i64 0), (int .i64 0), (int .i64 0)]) (us := [(int .i64 0), (int .i64 0), (int .i64 0), (int .i64 0), (int .i64 0), (int .i64 0), (int .i64 0), (int .i64 0), (int .i64 0)]) (L' := [(box b9 53 [(pt b8 0), (pt b8 1), (pt b8 2), (pt b8 3), (pt b8 4), (pt b8 5), (pt b8 6), (pt b8 9), (pt b8 8)]), (box b8 51 [(int .i64 x199.1), (int .i64 x205.1), (int .i64 x211.1), (int .i64 x217.1), (int .i64 x223.1), (int .i64 x229.1), (int .i64 x235.1), (int .i64 0), (int .i64 0), (int .i64 x241.1)]), (box b7 24 [(int .i64 0), (int .i64 0), (int .i64 0), (int .i64 0), (int .i64 0), (int .i64 0), (int .i64 0), (int .i64 0), (int .i64 0)])]) 2 rfl rfl rfl (one_all rfl) F_size_24 rfl rfl (by simp) rfl) rfl rfl ?_
                                             rintro _ _ rfl
                                             refine ent_value (ov_assign rfl) rfl rfl rfl ?_
                                             refine ent_value (ov_assign rfl) rfl rfl rfl ?_
                                             refine ent_nil ?_
                                             refine ent_retc ?_
                                             cases H29
                                             have H55 := Option.some.inj (show some _ = some _ from H)
                                             first | (have e_ := Option.some.inj (show some _ = some _ from H55); subst e_) | subst H55
                                             exact ret_memp [] (by decide) rfl (vs := [(agg #[(int .i64 0), (int .i64 0), (int .i64 0), (int .i64 0), (int .i64 0), (int .i64 0), (int .i64 0), (int .i64 0), (int .i64 0)]), (int .i64 9), (int .i64 4)]) rfl ⟨⟨_, [(int .i64 0), (int .i64 0), (int .i64 0), (int .i64 0), (int .i64 0), (int .i64 0), (int .i64 0), (int .i64 0), (int .i64 0)], rfl, reads_boxW (i := 2) rfl, .inl ⟨F_agg_24, F_size_24, rfl⟩⟩, ⟨rfl, ⟨rfl, trivial⟩⟩⟩ _ rfl ⟨rfl, rfl⟩
                                            ·rw [if_neg c648] at H29
                                             refine ent_value_on (ov_move rfl) rfl rfl rfl (Bool.eq_false_iff.2 c648) rfl rfl ?_
                                             refine ent_value_on (ov_un rfl (u_not _)) rfl rfl rfl (Bool.eq_false_iff.2 c648) rfl rfl ?_
                                             refine ent_value (ov_pick rfl rfl rfl (pick_f (Bool.eq_false_iff.2 c648))) rfl rfl rfl ?_
                                             refine ent_nil ?_
                                             by_cases c649 : (!x247.2) = true
                                             ·rw [if_pos c649] at H29
                                              refine ent_cond_true rfl c649 ?_
                                              refine ent_seq ?_
                                              refine ent_region ?_
                                              refine ent_value (ov_build (is := []) (xs := []) (vs := []) rfl rfl (build_struct (cs := [(int .i64 0), (int .i64 0), (int .i64 0), (int .i64 0), (int .i64 0), (int .i64 0), (int .i64 0), (int .i64 0), (int .i64 0)]) F_zero_24 F_places_24 rfl)) rfl rfl rfl ?_
                                              refine ent_value (ov_move rfl) rfl rfl rfl ?_
                                              refine ent_value (ov_binL (m' := 9) rfl rfl (b_add _ _ _) (by decide)) rfl rfl rfl ?_
                                              refine ent_op0 (ot_storeG (cs := [(int .i64 0), (int .i64 0), (int .i64 0), (int .i64 0), (int .i64 0), (int .i64 0), (int .i64 0), (int .i64 0), (int .i64 0)]) (cs' := [(int .i64 0), (int .i64 0), (int .i64 0), (int .i64 0), (int .i64 0), (int .i64 0), (int .i64 0), (int .i64 0), (int .i64 0)]) (us := [(int .i64 0), (int .i64 0), (int .i64 0), (int .i64 0), (int .i64 0), (int .i64 0), (int .i64 0), (int .i64 0), (int .i64 0)]) (L' := [(box b9 53 [(pt b8 0), (pt b8 1), (pt b8 2), (pt b8 3), (pt b8 4), (pt b8 5), (pt b8 6), (pt b8 9), (pt b8 8)]), (box b8 51 [(int .i64 x199.1), (int .i64 x205.1), (int .i64 x211.1), (int .i64 x217.1), (int .i64 x223.1), (int .i64 x229.1), (int .i64 x235.1), (int .i64 0), (int .i64 0), (int .i64 x241.1)]), (box b7 24 [(int .i64 0), (int .i64 0), (int .i64 0), (int .i64 0), (int .i64 0), (int .i64 0), (int .i64 0), (int .i64 0), (int .i64 0)])]) 2 rfl rfl rfl (one_all rfl) F_size_24 rfl rfl (by simp) rfl) rfl rfl ?_
                                              rintro _ _ rfl
                                              refine ent_value (ov_assign rfl) rfl rfl rfl ?_
                                              refine ent_value (ov_assign rfl) rfl rfl rfl ?_
                                              refine ent_nil ?_
                                              refine ent_retc ?_
                                              cases H29
                                              have H56 := Option.some.inj (show some _ = some _ from H)
                                              first | (have e_ := Option.some.inj (show some _ = some _ from H56); subst e_) | subst H56
                                              exact ret_memp [] (by decide) rfl (vs := [(agg #[(int .i64 0), (int .i64 0), (int .i64 0), (int .i64 0), (int .i64 0), (int .i64 0), (int .i64 0), (int .i64 0), (int .i64 0)]), (int .i64 9), (int .i64 4)]) rfl ⟨⟨_, [(int .i64 0), (int .i64 0), (int .i64 0), (int .i64 0), (int .i64 0), (int .i64 0), (int .i64 0), (int .i64 0), (int .i64 0)], rfl, reads_boxW (i := 2) rfl, .inl ⟨F_agg_24, F_size_24, rfl⟩⟩, ⟨rfl, ⟨rfl, trivial⟩⟩⟩ _ rfl ⟨rfl, rfl⟩
                                             ·rw [if_neg c649] at H29
                                              refine ent_cond_false rfl (Bool.eq_false_iff.2 c649) ?_
                                              refine ent_skip ?_
                                              refine ent_seq ?_
                                              refine ent_region ?_
                                              refine ent_value (ov_move rfl) rfl rfl rfl ?_
                                              by_cases c650 : 8 < (9 : Int)
                                              ·rw [if_pos c650] at H29
                                               refine ent_value (ov_indexArr (o := 0) rfl rfl F_array_53 F_size_52 (by decide) c650) rfl rfl rfl ?_
                                               refine ent_value (ov_load (v := (pt b8 8)) rfl F_agg_52 (reads_box1 (i := 0) rfl rfl)) rfl rfl rfl ?_
                                               refine ent_value (ov_move rfl) rfl rfl rfl ?_
                                               refine ent_value (ov_nilCheck rfl) rfl rfl rfl ?_
                                               refine ent_op0 (ot_storeG (cs := [(int .i64 x199.1), (int .i64 x205.1), (int .i64 x211.1), (int .i64 x217.1), (int .i64 x223.1), (int .i64 x229.1), (int .i64 x235.1), (int .i64 0), (int .i64 0), (int .i64 x241.1)]) (cs' := [(int .i64 x199.1), (int .i64 x205.1), (int .i64 x211.1), (int .i64 x217.1), (int .i64 x223.1), (int .i64 x229.1), (int .i64 x235.1), (int .i64 0), (int .i64 x247.1), (int .i64 x241.1)]) (us := [(int .i64 x247.1)]) (L' := [(box b9 53 [(pt b8 0), (pt b8 1), (pt b8 2), (pt b8 3), (pt b8 4), (pt b8 5), (pt b8 6), (pt b8 9), (pt b8 8)]), (box b8 51 [(int .i64 x199.1), (int .i64 x205.1), (int .i64 x211.1), (int .i64 x217.1), (int .i64 x223.1), (int .i64 x229.1), (int .i64 x235.1), (int .i64 0), (int .i64 x247.1), (int .i64 x241.1)]), (box b7 24 [(int .i64 0), (int .i64 0), (int .i64 0), (int .i64 0), (int .i64 0), (int .i64 0), (int .i64 0), (int .i64 0), (int .i64 0)])]) 1 rfl rfl rfl (one_all rfl) F_size_2 rfl rfl (by simp) rfl) rfl rfl ?_
                                               rintro _ _ rfl
                                               refine ent_nil ?_
                                               refine ent_seq ?_
                                               refine ent_region ?_
                                               refine ent_value (ov_move rfl) rfl rfl rfl ?_
                                               refine ent_value (ov_assign rfl) rfl rfl rfl ?_
                                               refine ent_nil ?_
                                               refine ent_exit ?_
                                               refine ent_region ?_
                                               refine ent_value (ov_binL (m' := 9) rfl rfl (b_add _ _ _) (by decide)) rfl rfl rfl ?_
                                               refine ent_value (ov_move rfl) rfl rfl rfl ?_
                                               refine ent_nil ?_
                                               refine ent_round ?_
                                               refine ent_seq ?_
                                               refine ent_region ?_
                                               refine ent_value (ov_bin rfl rfl (b_lss _ _ _)) rfl rfl rfl ?_
                                               refine ent_nil ?_
                                               refine ent_seq ?_
                                               refine ent_cond_false rfl rfl ?_
                                               refine ent_exit ?_
                                               cases H29
                                               exact ent_fin [2, 1] (by decide) rfl (sub_cons (t := 0) rfl (sub_cons (t := 2) rfl (sub_cons (t := 5) rfl (sub_nil _)))) fun a w h => ⟨_, rfl, _, _, h⟩
                                              ·rw [if_neg c650] at H29
                                               cases H29
                                          ·rw [if_neg c643] at H29
                                           cases H29
                                         ·rw [if_neg c634] at H29
                                          cases H29
                                     ·rw [if_neg c627] at H29
                                      cases H29
                                    ·rw [if_neg c618] at H29
                                     cases H29
                                ·rw [if_neg c611] at H29
                                 cases H29
                               ·rw [if_neg c602] at H29
                                cases H29
                           ·rw [if_neg c595] at H29
                            cases H29
                          ·rw [if_neg c586] at H29
                           cases H29
                      ·rw [if_neg c579] at H29
                       cases H29
                     ·rw [if_neg c570] at H29
                      cases H29
                 ·rw [if_neg c563] at H29
                  cases H29
                ·rw [if_neg c554] at H29
                 cases H29
            ·rw [if_neg c547] at H29
             cases H29
           ·rw [if_neg c538] at H29
            cases H29
       ·rw [if_neg c531] at H29
        cases H29
      ·rw [if_neg c522] at H29
       cases H29
  ·rw [if_neg c515] at H29
   cases H29
 ·refine ent_exi fun v2 => ent_and fun e_ => ?_
  subst e_
  rw [cas_inl] at H
  refine ent_exi fun b10 => ent_exi fun b11 => ?_
  refine ent_seq ?_
  refine ent_seq ?_
  refine ent_region ?_
  refine ent_value (ov_move rfl) rfl rfl rfl ?_
  refine ent_value (ov_bin rfl rfl (b_neq_str _ _)) rfl rfl rfl ?_
  refine ent_nil ?_
  by_cases c652 : ¬ (v2.2.2.2.2.2.2.2.2.2 = ([] : List UInt8))
  ·rw [if_pos c652] at H
   refine ent_cond_true rfl (nb_t c652) ?_
   refine ent_seq ?_
   refine ent_region ?_
   refine ent_value (ov_build (is := []) (xs := []) (vs := []) rfl rfl (build_struct (cs := [(int .i64 0), (int .i64 0), (int .i64 0), (int .i64 0), (int .i64 0), (int .i64 0), (int .i64 0), (int .i64 0), (int .i64 0)]) F_zero_24 F_places_24 rfl)) rfl rfl rfl ?_
   refine ent_op0 (ot_storeG (cs := [(int .i64 0), (int .i64 0), (int .i64 0), (int .i64 0), (int .i64 0), (int .i64 0), (int .i64 0), (int .i64 0), (int .i64 0)]) (cs' := [(int .i64 0), (int .i64 0), (int .i64 0), (int .i64 0), (int .i64 0), (int .i64 0), (int .i64 0), (int .i64 0), (int .i64 0)]) (us := [(int .i64 0), (int .i64 0), (int .i64 0), (int .i64 0), (int .i64 0), (int .i64 0), (int .i64 0), (int .i64 0), (int .i64 0)]) (L' := [(box b10 24 [(int .i64 0), (int .i64 0), (int .i64 0), (int .i64 0), (int .i64 0), (int .i64 0), (int .i64 0), (int .i64 0), (int .i64 0)]), (box b11 51 [(int .i64 v2.1), (int .i64 v2.2.1), (int .i64 v2.2.2.1), (int .i64 v2.2.2.2.1), (int .i64 v2.2.2.2.2.1), (int .i64 v2.2.2.2.2.2.1), (int .i64 v2.2.2.2.2.2.2.1), (int .i64 0), (int .i64 v2.2.2.2.2.2.2.2.1), (int .i64 v2.2.2.2.2.2.2.2.2.1)])]) 0 rfl rfl rfl (one_all rfl) F_size_24 rfl rfl (by simp) rfl) rfl rfl ?_
   rintro _ _ rfl
   refine ent_value (ov_assign rfl) rfl rfl rfl ?_
   refine ent_value (ov_assign rfl) rfl rfl rfl ?_
   refine ent_nil ?_
   refine ent_retc ?_
   first | (have e_ := Option.some.inj (show some _ = some _ from H); subst e_) | subst H
   exact ret_memp [] (by decide) rfl (vs := [(agg #[(int .i64 0), (int .i64 0), (int .i64 0), (int .i64 0), (int .i64 0), (int .i64 0), (int .i64 0), (int .i64 0), (int .i64 0)]), (int .i64 10), (int .i64 4)]) rfl ⟨⟨_, [(int .i64 0), (int .i64 0), (int .i64 0), (int .i64 0), (int .i64 0), (int .i64 0), (int .i64 0), (int .i64 0), (int .i64 0)], rfl, reads_boxW (i := 0) rfl, .inl ⟨F_agg_24, F_size_24, rfl⟩⟩, ⟨rfl, ⟨rfl, trivial⟩⟩⟩ _ rfl ⟨rfl, rfl⟩
  ·rw [if_neg c652] at H
   refine ent_cond_false rfl (nb_f c652) ?_
   refine ent_skip ?_
   refine ent_seq ?_
   refine ent_region ?_
   refine ent_value (ov_move rfl) rfl rfl rfl ?_
   obtain ⟨x248, h248, H⟩ := Option.bind_eq_some_iff.1 H
   refine ent_pick [1, 0] (by decide) rfl ?_
   refine ent_op (ot_call (Lr := [(box b10 24 [(int .i64 0), (int .i64 0), (int .i64 0), (int .i64 0), (int .i64 0), (int .i64 0), (int .i64 0), (int .i64 0), (int .i64 0)])]) (first := []) (cap := []) (xs := [.tmp 69]) rfl rfl F_call_31 rfl (sheet_sheet_done.spec b11 v2.1 v2.2.1 v2.2.2.1 v2.2.2.2.1 v2.2.2.2.2.1 v2.2.2.2.2.2.1 v2.2.2.2.2.2.2.1 0 v2.2.2.2.2.2.2.2.1 v2.2.2.2.2.2.2.2.2.1 _ h248) rfl) rfl rfl rfl ?_
   rintro _ _ ⟨_, ⟨rfl, rfl⟩, rfl⟩
   refine ent_value (ov_move rfl) rfl rfl rfl ?_
   refine ent_value (ov_extract rfl rfl) rfl rfl rfl ?_
   refine ent_value (ov_extract rfl rfl) rfl rfl rfl ?_
   refine ent_op (ot_alloc F_zero_24) rfl rfl rfl ?_
   rintro _ _ ⟨b12, rfl, rfl⟩
   refine ent_op0 (ot_storeG (cs := [(int .i64 0), (int .i64 0), (int .i64 0), (int .i64 0), (int .i64 0), (int .i64 0), (int .i64 0), (int .i64 0), (int .i64 0)]) (cs' := [(int .i64 x248.2.2.1), (int .i64 x248.2.2.2.1), (int .i64 x248.2.2.2.2.1), (int .i64 x248.2.2.2.2.2.1), (int .i64 x248.2.2.2.2.2.2.1), (int .i64 x248.2.2.2.2.2.2.2.1), (int .i64 x248.2.2.2.2.2.2.2.2.1), (int .i64 x248.2.2.2.2.2.2.2.2.2.1), (int .i64 x248.2.2.2.2.2.2.2.2.2.2)]) (us := [(int .i64 x248.2.2.1), (int .i64 x248.2.2.2.1), (int .i64 x248.2.2.2.2.1), (int .i64 x248.2.2.2.2.2.1), (int .i64 x248.2.2.2.2.2.2.1), (int .i64 x248.2.2.2.2.2.2.2.1), (int .i64 x248.2.2.2.2.2.2.2.2.1), (int .i64 x248.2.2.2.2.2.2.2.2.2.1), (int .i64 x248.2.2.2.2.2.2.2.2.2.2)]) (L' := [(box b12 24 [(int .i64 x248.2.2.1), (int .i64 x248.2.2.2.1), (int .i64 x248.2.2.2.2.1), (int .i64 x248.2.2.2.2.2.1), (int .i64 x248.2.2.2.2.2.2.1), (int .i64 x248.2.2.2.2.2.2.2.1), (int .i64 x248.2.2.2.2.2.2.2.2.1), (int .i64 x248.2.2.2.2.2.2.2.2.2.1), (int .i64 x248.2.2.2.2.2.2.2.2.2.2)]), (box b11 51 [(int .i64 v2.1), (int .i64 v2.2.1), (int .i64 v2.2.2.1), (int .i64 v2.2.2.2.1), (int .i64 v2.2.2.2.2.1), (int .i64 v2.2.2.2.2.2.1), (int .i64 v2.2.2.2.2.2.2.1), (int .i64 x248.2.1), (int .i64 v2.2.2.2.2.2.2.2.1), (int .i64 v2.2.2.2.2.2.2.2.2.1)]), (box b10 24 [(int .i64 0), (int .i64 0), (int .i64 0), (int .i64 0), (int .i64 0), (int .i64 0), (int .i64 0), (int .i64 0), (int .i64 0)])]) 0 rfl rfl rfl (one_all rfl) F_size_24 rfl rfl (by simp) rfl) rfl rfl ?_
   rintro _ _ rfl
   refine ent_value (ov_assign rfl) rfl rfl rfl ?_
   refine ent_nil ?_
   refine ent_seq ?_
   refine ent_region ?_
   refine ent_value (ov_load_agg (vs := [(int .i64 x248.2.2.1), (int .i64 x248.2.2.2.1), (int .i64 x248.2.2.2.2.1), (int .i64 x248.2.2.2.2.2.1), (int .i64 x248.2.2.2.2.2.2.1), (int .i64 x248.2.2.2.2.2.2.2.1), (int .i64 x248.2.2.2.2.2.2.2.2.1), (int .i64 x248.2.2.2.2.2.2.2.2.2.1), (int .i64 x248.2.2.2.2.2.2.2.2.2.2)]) rfl F_agg_24 F_size_24 (reads_boxW (i := 0) rfl)) rfl rfl rfl ?_
   refine ent_value (ov_move rfl) rfl rfl rfl ?_
   refine ent_op0 (ot_storeG (cs := [(int .i64 0), (int .i64 0), (int .i64 0), (int .i64 0), (int .i64 0), (int .i64 0), (int .i64 0), (int .i64 0), (int .i64 0)]) (cs' := [(int .i64 x248.2.2.1), (int .i64 x248.2.2.2.1), (int .i64 x248.2.2.2.2.1), (int .i64 x248.2.2.2.2.2.1), (int .i64 x248.2.2.2.2.2.2.1), (int .i64 x248.2.2.2.2.2.2.2.1), (int .i64 x248.2.2.2.2.2.2.2.2.1), (int .i64 x248.2.2.2.2.2.2.2.2.2.1), (int .i64 x248.2.2.2.2.2.2.2.2.2.2)]) (us := [(int .i64 x248.2.2.1), (int .i64 x248.2.2.2.1), (int .i64 x248.2.2.2.2.1), (int .i64 x248.2.2.2.2.2.1), (int .i64 x248.2.2.2.2.2.2.1), (int .i64 x248.2.2.2.2.2.2.2.1), (int .i64 x248.2.2.2.2.2.2.2.2.1), (int .i64 x248.2.2.2.2.2.2.2.2.2.1), (int .i64 x248.2.2.2.2.2.2.2.2.2.2)]) (L' := [(box b12 24 [(int .i64 x248.2.2.1), (int .i64 x248.2.2.2.1), (int .i64 x248.2.2.2.2.1), (int .i64 x248.2.2.2.2.2.1), (int .i64 x248.2.2.2.2.2.2.1), (int .i64 x248.2.2.2.2.2.2.2.1), (int .i64 x248.2.2.2.2.2.2.2.2.1), (int .i64 x248.2.2.2.2.2.2.2.2.2.1), (int .i64 x248.2.2.2.2.2.2.2.2.2.2)]), (box b11 51 [(int .i64 v2.1), (int .i64 v2.2.1), (int .i64 v2.2.2.1), (int .i64 v2.2.2.2.1), (int .i64 v2.2.2.2.2.1), (int .i64 v2.2.2.2.2.2.1), (int .i64 v2.2.2.2.2.2.2.1), (int .i64 x248.2.1), (int .i64 v2.2.2.2.2.2.2.2.1), (int .i64 v2.2.2.2.2.2.2.2.2.1)]), (box b10 24 [(int .i64 x248.2.2.1), (int .i64 x248.2.2.2.1), (int .i64 x248.2.2.2.2.1), (int .i64 x248.2.2.2.2.2.1), (int .i64 x248.2.2.2.2.2.2.1), (int .i64 x248.2.2.2.2.2.2.2.1), (int .i64 x248.2.2.2.2.2.2.2.2.1), (int .i64 x248.2.2.2.2.2.2.2.2.2.1), (int .i64 x248.2.2.2.2.2.2.2.2.2.2)])]) 2 rfl rfl rfl (one_all rfl) F_size_24 rfl rfl (by simp) rfl) rfl rfl ?_
   rintro _ _ rfl
   refine ent_value (ov_assign rfl) rfl rfl rfl ?_
   refine ent_value (ov_assign rfl) rfl rfl rfl ?_
   refine ent_nil ?_
   refine ent_retc ?_
   first | (have e_ := Option.some.inj (show some _ = some _ from H); subst e_) | subst H
   exact ret_memp [] (by decide) rfl (vs := [(agg #[(int .i64 x248.2.2.1), (int .i64 x248.2.2.2.1), (int .i64 x248.2.2.2.2.1), (int .i64 x248.2.2.2.2.2.1), (int .i64 x248.2.2.2.2.2.2.1), (int .i64 x248.2.2.2.2.2.2.2.1), (int .i64 x248.2.2.2.2.2.2.2.2.1), (int .i64 x248.2.2.2.2.2.2.2.2.2.1), (int .i64 x248.2.2.2.2.2.2.2.2.2.2)]), (int .i64 0), (int .i64 x248.1)]) rfl ⟨⟨_, [(int .i64 x248.2.2.1), (int .i64 x248.2.2.2.1), (int .i64 x248.2.2.2.2.1), (int .i64 x248.2.2.2.2.2.1), (int .i64 x248.2.2.2.2.2.2.1), (int .i64 x248.2.2.2.2.2.2.2.1), (int .i64 x248.2.2.2.2.2.2.2.2.1), (int .i64 x248.2.2.2.2.2.2.2.2.2.1), (int .i64 x248.2.2.2.2.2.2.2.2.2.2)], rfl, reads_boxW (i := 2) rfl, .inl ⟨F_agg_24, F_size_24, rfl⟩⟩, ⟨rfl, ⟨rfl, trivial⟩⟩⟩ _ rfl ⟨rfl, rfl⟩

end Go.Proofs.Ythcmiohbidencaa.SheetStates
