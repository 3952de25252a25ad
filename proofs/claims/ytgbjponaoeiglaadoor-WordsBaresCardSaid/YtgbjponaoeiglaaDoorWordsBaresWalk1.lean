/- Printed by gen.py: that the machine's calls do what the plain functions of WordsBares say. -/
import Derived.Test.YtgbjponaoeiglaaDoorWordsBaresWalk0
import Derived.Test.YtgbjponaoeiglaaDoorESq
import Derived.Test.YtgbjponaoeiglaaDoorProg
import Derived.Test.YtgbjponaoeiglaaDoorEBun
import Derived.Test.YtgbjponaoeiglaaDoorEBuild
import Derived.Test.YtgbjponaoeiglaaDoorELib
import Derived.Test.YtgbjponaoeiglaaDoorEShelf
import Derived.Test.YtgbjponaoeiglaaDoorEWords
import Derived.Test.YtgbjponaoeiglaaDoorEPanic
import Derived.Test.YtgbjponaoeiglaaDoorWordsBaresPure
set_option linter.unusedVariables false
set_option linter.unusedSimpArgs false
set_option maxHeartbeats 8000000
set_option maxRecDepth 100000
namespace Go.Proofs.YtgbjponaoeiglaaDoor.WordsBares
open Go Go.RowKit E
open Go.Value (int bool slice agg)

theorem policy_bounds.spec (r : (Int × Int × Int × Int × Int × Int × Int × Int × Int × Int × Int × Int × Int × Int × Int × Int × Int × Int)) (H : policy_bounds = r) : FnSpec Tryd.prog 93 [] [] (fun v M => v = (agg #[I r.1,I r.2.1,I r.2.2.1,I r.2.2.2.1,I r.2.2.2.2.1,I r.2.2.2.2.2.1,I r.2.2.2.2.2.2.1,I r.2.2.2.2.2.2.2.1,I r.2.2.2.2.2.2.2.2.1,I r.2.2.2.2.2.2.2.2.2.1,I r.2.2.2.2.2.2.2.2.2.2.1,I r.2.2.2.2.2.2.2.2.2.2.2.1,I r.2.2.2.2.2.2.2.2.2.2.2.2.1,I r.2.2.2.2.2.2.2.2.2.2.2.2.2.1,I r.2.2.2.2.2.2.2.2.2.2.2.2.2.2.1,I r.2.2.2.2.2.2.2.2.2.2.2.2.2.2.2.1,I r.2.2.2.2.2.2.2.2.2.2.2.2.2.2.2.2.1,I r.2.2.2.2.2.2.2.2.2.2.2.2.2.2.2.2.2]) ∧ M = []) := by
 unfold policy_bounds at H
 refine spec_of Tryd.func93 rfl 11 rfl (Nat.le_of_ble_eq_true rfl) fun F w0 => ?_
 let C0_ : List Value := [I 1,I 1048576,I 0,I 1048576,I 0,I 1048576,I 0,I 1048576,I 0,I 1048576,I 1,I 1048576,I 1,I 1048576,I 1,I 64,I 100,I 1048576]
 show Ent (St 11 w0 F [] []) _
 refine ent_seq (ent_region ?_)
 refine ent_op (ot_alloc F_zero_128) rfl rfl rfl ?_
 rintro _ _ ⟨b2,rfl,rfl⟩
 refine ent_nil (ent_seq (ent_region (ent_value (ov_build (is := [0,1]) (xs := [.const (I 1),.const (I 1048576)]) (vs := [I 1,I 1048576]) rfl rfl (build_struct (cs := [I 1,I 1048576]) F_zero_127 F_places_127 rfl)) rfl rfl rfl (ent_value (ov_build (is := [0,1]) (xs := [.const (I 0),.const (I 1048576)]) (vs := [I 0,I 1048576]) rfl rfl (build_struct (cs := [I 0,I 1048576]) F_zero_127 F_places_127 rfl)) rfl rfl rfl (ent_value (ov_build (is := [0,1]) (xs := [.const (I 0),.const (I 1048576)]) (vs := [I 0,I 1048576]) rfl rfl (build_struct (cs := [I 0,I 1048576]) F_zero_127 F_places_127 rfl)) rfl rfl rfl (ent_value (ov_build (is := [0,1]) (xs := [.const (I 0),.const (I 1048576)]) (vs := [I 0,I 1048576]) rfl rfl (build_struct (cs := [I 0,I 1048576]) F_zero_127 F_places_127 rfl)) rfl rfl rfl (ent_value (ov_build (is := [0,1]) (xs := [.const (I 0),.const (I 1048576)]) (vs := [I 0,I 1048576]) rfl rfl (build_struct (cs := [I 0,I 1048576]) F_zero_127 F_places_127 rfl)) rfl rfl rfl (ent_value (ov_build (is := [0,1]) (xs := [.const (I 1),.const (I 1048576)]) (vs := [I 1,I 1048576]) rfl rfl (build_struct (cs := [I 1,I 1048576]) F_zero_127 F_places_127 rfl)) rfl rfl rfl (ent_value (ov_build (is := [0,1]) (xs := [.const (I 1),.const (I 1048576)]) (vs := [I 1,I 1048576]) rfl rfl (build_struct (cs := [I 1,I 1048576]) F_zero_127 F_places_127 rfl)) rfl rfl rfl (ent_value (ov_build (is := [0,1]) (xs := [.const (I 1),.const (I 64)]) (vs := [I 1,I 64]) rfl rfl (build_struct (cs := [I 1,I 64]) F_zero_127 F_places_127 rfl)) rfl rfl rfl (ent_value (ov_build (is := [0,1]) (xs := [.const (I 100),.const (I 1048576)]) (vs := [I 100,I 1048576]) rfl rfl (build_struct (cs := [I 100,I 1048576]) F_zero_127 F_places_127 rfl)) rfl rfl rfl ?_)))))))))))
 refine ent_value (ov_build (is := [0,1,2,3,4,5,6,7,8]) (xs := [.tmp 1,.tmp 2,.tmp 3,.tmp 4,.tmp 5,.tmp 6,.tmp 7,.tmp 8,.tmp 9]) (vs := [agg #[I 1,I 1048576],agg #[I 0,I 1048576],agg #[I 0,I 1048576],agg #[I 0,I 1048576],agg #[I 0,I 1048576],agg #[I 1,I 1048576],agg #[I 1,I 1048576],agg #[I 1,I 64],agg #[I 100,I 1048576]]) rfl rfl (build_array (cs := C0_) F_zero_128 F_array_128 F_size_127 (by simp [C0_,Instr.fill,cells_int,cells_bool,cells_str,cells_func,cells_slice,cells_ptr,cells_nilFunc,cells_agg,]))) rfl rfl rfl ?_
 refine ent_op0 (ot_storeG (cs := [I 0,I 0,I 0,I 0,I 0,I 0,I 0,I 0,I 0,I 0,I 0,I 0,I 0,I 0,I 0,I 0,I 0,I 0]) (cs' := C0_) (us := C0_) (L' := [box b2 128 C0_]) 0 rfl rfl rfl (one_all rfl) F_size_128 rfl rfl (by simp [C0_]) rfl) rfl rfl ?_
 rintro _ _ rfl
 refine ent_nil (ent_retc ?_)
 subst H
 exact ret_memp [] (by decide) rfl (vs := [agg #[I 1,I 1048576,I 0,I 1048576,I 0,I 1048576,I 0,I 1048576,I 0,I 1048576,I 1,I 1048576,I 1,I 1048576,I 1,I 64,I 100,I 1048576]]) rfl ⟨⟨_,C0_,rfl,reads_boxW (i := 0) rfl,.inl ⟨F_agg_128,F_size_128,rfl⟩⟩,trivial⟩ _ rfl ⟨rfl,rfl⟩

theorem policy_numbers.spec (a0_0 a0_1 : Int) (a0_2 a0_3 : Int) (a0_4 a0_5 : Int) (a0_6 a0_7 a0_8 : Int) (r : (Int × Int × Int × Int × Int × Int × Int × Int × Int)) (H : policy_numbers a0_0 a0_1 a0_2 a0_3 a0_4 a0_5 a0_6 a0_7 a0_8 = r) : FnSpec Tryd.prog 94 [agg #[I a0_0,I a0_1,I a0_2,I a0_3,I a0_4,I a0_5,I a0_6,I a0_7,I a0_8]] [] (fun v M => v = (agg #[I r.1,I r.2.1,I r.2.2.1,I r.2.2.2.1,I r.2.2.2.2.1,I r.2.2.2.2.2.1,I r.2.2.2.2.2.2.1,I r.2.2.2.2.2.2.2.1,I r.2.2.2.2.2.2.2.2]) ∧ M = []) := by
 unfold policy_numbers at H
 refine spec_of Tryd.func94 rfl 22 rfl (Nat.le_of_ble_eq_true rfl) fun F w0 => ?_
 let C1_ : Value := agg #[I a0_0,I a0_1,I a0_2,I a0_3,I a0_4,I a0_5,I a0_6,I a0_7,I a0_8]
 let C0_ : List Value := [I a0_0,I a0_1,I a0_2,I a0_3,I a0_4,I a0_5,I a0_6,I a0_7,I a0_8]
 show Ent (St 22 w0 F [(0,C1_)] []) _
 refine ent_seq (ent_region ?_)
 refine ent_op (ot_box (cs := C0_) rfl rfl) rfl rfl rfl ?_
 rintro _ _ ⟨b3,rfl,rfl⟩
 refine ent_op (ot_alloc F_zero_130) rfl rfl rfl ?_
 rintro _ _ ⟨b4,rfl,rfl⟩
 refine ent_nil (ent_seq (ent_region (ent_value (ov_fieldAddr (sz := 0) (o := 0) rfl F_field_38_0 F_size_2) rfl rfl rfl (ent_value (ov_load (v := (I a0_0)) rfl F_agg_2 (reads_box1 (i := 1) rfl rfl)) rfl rfl rfl (ent_value (ov_fieldAddr (sz := 0) (o := 0) rfl F_field_38_1 F_size_2) rfl rfl rfl (ent_value (ov_load (v := (I a0_1)) rfl F_agg_2 (reads_box1 (i := 1) rfl rfl)) rfl rfl rfl (ent_value (ov_fieldAddr (sz := 0) (o := 0) rfl F_field_38_2 F_size_2) rfl rfl rfl (ent_value (ov_load (v := (I a0_2)) rfl F_agg_2 (reads_box1 (i := 1) rfl rfl)) rfl rfl rfl (ent_value (ov_fieldAddr (sz := 0) (o := 0) rfl F_field_38_3 F_size_2) rfl rfl rfl (ent_value (ov_load (v := (I a0_3)) rfl F_agg_2 (reads_box1 (i := 1) rfl rfl)) rfl rfl rfl (ent_value (ov_fieldAddr (sz := 0) (o := 0) rfl F_field_38_4 F_size_2) rfl rfl rfl ?_)))))))))))
 refine ent_value (ov_load (v := (I a0_4)) rfl F_agg_2 (reads_box1 (i := 1) rfl rfl)) rfl rfl rfl (ent_value (ov_fieldAddr (sz := 0) (o := 0) rfl F_field_38_5 F_size_2) rfl rfl rfl (ent_value (ov_load (v := (I a0_5)) rfl F_agg_2 (reads_box1 (i := 1) rfl rfl)) rfl rfl rfl (ent_value (ov_fieldAddr (sz := 0) (o := 0) rfl F_field_38_6 F_size_2) rfl rfl rfl (ent_value (ov_load (v := (I a0_6)) rfl F_agg_2 (reads_box1 (i := 1) rfl rfl)) rfl rfl rfl (ent_value (ov_fieldAddr (sz := 0) (o := 0) rfl F_field_38_7 F_size_3) rfl rfl rfl (ent_value (ov_load (v := (I a0_7)) rfl F_agg_3 (reads_box1 (i := 1) rfl rfl)) rfl rfl rfl (ent_value (ov_fieldAddr (sz := 0) (o := 0) rfl F_field_38_8 F_size_2) rfl rfl rfl (ent_value (ov_load (v := (I a0_8)) rfl F_agg_2 (reads_box1 (i := 1) rfl rfl)) rfl rfl rfl ?_))))))))
 refine ent_value (ov_build (is := [0,1,2,3,4,5,6,7,8]) (xs := [.tmp 4,.tmp 6,.tmp 8,.tmp 10,.tmp 12,.tmp 14,.tmp 16,.tmp 18,.tmp 20]) (vs := C0_) rfl rfl (build_array (cs := C0_) F_zero_130 F_array_130 F_size_2 (by simp [C1_,C0_,Instr.fill,cells_int,cells_bool,cells_str,cells_func,cells_slice,cells_ptr,cells_nilFunc,cells_agg,]))) rfl rfl rfl ?_
 refine ent_op0 (ot_storeG (cs := [I 0,I 0,I 0,I 0,I 0,I 0,I 0,I 0,I 0]) (cs' := C0_) (us := C0_) (L' := [box b4 130 C0_,box b3 38 C0_]) 0 rfl rfl rfl (one_all rfl) F_size_130 rfl rfl (by simp [C1_,C0_]) rfl) rfl rfl ?_
 rintro _ _ rfl
 refine ent_nil (ent_retc ?_)
 subst H
 exact ret_memp [] (by decide) rfl (vs := [C1_]) rfl ⟨⟨_,C0_,rfl,reads_boxW (i := 0) rfl,.inl ⟨F_agg_130,F_size_130,rfl⟩⟩,trivial⟩ _ rfl ⟨rfl,rfl⟩

theorem policy_Check.spec (a0_0 a0_1 : Int) (a0_2 a0_3 : Int) (a0_4 a0_5 : Int) (a0_6 a0_7 : Int) (a0_8 r : Int) (H : policy_Check a0_0 a0_1 a0_2 a0_3 a0_4 a0_5 a0_6 a0_7 a0_8 = some r) : FnSpec Tryd.prog 74 [agg #[I a0_0,I a0_1,I a0_2,I a0_3,I a0_4,I a0_5,I a0_6,I a0_7,I a0_8]] [] (fun v M => v = (I r) ∧ M = []) := by
 unfold policy_Check at H
 refine spec_of Tryd.func74 rfl 28 rfl (Nat.le_of_ble_eq_true rfl) fun F w0 => ?_
 let C1_ : List Value := [I a0_0,I a0_1,I a0_2,I a0_3,I a0_4,I a0_5,I a0_6,I a0_7,I a0_8]
 show Ent (St 28 w0 F [(0,agg #[I a0_0,I a0_1,I a0_2,I a0_3,I a0_4,I a0_5,I a0_6,I a0_7,I a0_8])] []) _
 refine ent_seq (ent_region ?_)
 refine ent_op (ot_box (cs := C1_) rfl rfl) rfl rfl rfl ?_
 rintro _ _ ⟨b3,rfl,rfl⟩
 refine ent_value (ov_assign rfl) rfl rfl rfl (ent_nil (ent_seq (ent_region ?_)))
 obtain ⟨x4,h4,H⟩ := thn_elim H
 let C0_ : List Value := [I x4.1,I x4.2.1,I x4.2.2.1,I x4.2.2.2.1,I x4.2.2.2.2.1,I x4.2.2.2.2.2.1,I x4.2.2.2.2.2.2.1,I x4.2.2.2.2.2.2.2.1,I x4.2.2.2.2.2.2.2.2.1,I x4.2.2.2.2.2.2.2.2.2.1,I x4.2.2.2.2.2.2.2.2.2.2.1,I x4.2.2.2.2.2.2.2.2.2.2.2.1,I x4.2.2.2.2.2.2.2.2.2.2.2.2.1,I x4.2.2.2.2.2.2.2.2.2.2.2.2.2.1,I x4.2.2.2.2.2.2.2.2.2.2.2.2.2.2.1,I x4.2.2.2.2.2.2.2.2.2.2.2.2.2.2.2.1,I x4.2.2.2.2.2.2.2.2.2.2.2.2.2.2.2.2.1,I x4.2.2.2.2.2.2.2.2.2.2.2.2.2.2.2.2.2]
 refine ent_op (ot_call0 (first := []) (cap := []) (xs := []) rfl rfl F_call_93 rfl (policy_bounds.spec _ h4)) rfl rfl rfl ?_
 rintro _ _ ⟨rfl,rfl⟩
 refine ent_op (ot_alloc F_zero_128) rfl rfl rfl ?_
 rintro _ _ ⟨b4,rfl,rfl⟩
 refine ent_op0 (ot_storeG (cs := [I 0,I 0,I 0,I 0,I 0,I 0,I 0,I 0,I 0,I 0,I 0,I 0,I 0,I 0,I 0,I 0,I 0,I 0]) (cs' := C0_) (us := C0_) (L' := [box b4 128 C0_,box b3 38 C1_]) 0 rfl rfl rfl (one_all rfl) F_size_128 rfl rfl (by simp [C1_,C0_]) rfl) rfl rfl ?_
 rintro _ _ rfl
 refine ent_nil (ent_seq (ent_seq (ent_region (ent_value (ov_load_agg (vs := C1_) rfl F_agg_38 F_size_38 (reads_boxW (i := 1) rfl)) rfl rfl rfl ?_))))
 obtain ⟨x6,h6,H⟩ := thn_elim H
 refine ent_op (ot_call0 (first := []) (cap := []) (xs := [.tmp 7]) rfl rfl F_call_94 rfl (policy_numbers.spec a0_0 a0_1 a0_2 a0_3 a0_4 a0_5 a0_6 a0_7 a0_8 _ h6)) rfl rfl rfl ?_
 rintro _ _ ⟨rfl,rfl⟩
 refine ent_value (ov_move rfl) rfl rfl rfl (ent_nil (ent_block (ent_rounds 10 (ent_round (ent_seq (ent_region (ent_value (ov_bin rfl rfl (b_lss _ _ _)) rfl rfl rfl (ent_nil (ent_seq (ent_cond_true rfl rfl (ent_skip ?_)))))))))))
 refine ent_seq (ent_block (ent_seq (ent_region (ent_value (ov_move rfl) rfl rfl rfl (ent_value (ov_indexAggN rfl rfl F_array_130 F_size_2 F_agg_2 (by decide) (by decide) rfl) rfl rfl rfl (ent_value (ov_assign rfl) rfl rfl rfl (ent_value (ov_assign rfl) rfl rfl rfl (ent_nil (ent_seq (ent_region (ent_value (ov_move rfl) rfl rfl rfl ?_)))))))))))
 refine ent_value (ov_move rfl) rfl rfl rfl ?_
 obtain ⟨c210,H⟩ := gdT H
 refine ent_value (ov_indexArr (o := 0) rfl rfl F_array_128 F_size_127 (by decide) c210) rfl rfl rfl (ent_value (ov_fieldAddr (sz := 0) (o := 0) rfl F_field_127_0 F_size_2) rfl rfl rfl (ent_value (ov_load (v := (I x4.1)) rfl F_agg_2 (reads_box1 (i := 0) rfl rfl)) rfl rfl rfl (ent_value (ov_bin rfl rfl (b_lss _ _ _)) rfl rfl rfl (ent_value (ov_move rfl) rfl rfl rfl ?_))))
 refine htT H (fun c211 H => ?_) fun c211 H => ?_
 ·refine ent_off rfl rfl rfl (decide_eq_true c211) rfl rfl ?_
  refine ent_off rfl rfl rfl (decide_eq_true c211) rfl rfl ?_
  refine ent_off rfl rfl rfl (decide_eq_true c211) rfl rfl ?_
  refine ent_off rfl rfl rfl (decide_eq_true c211) rfl rfl ?_
  refine ent_off rfl rfl rfl (decide_eq_true c211) rfl rfl ?_
  refine ent_off rfl rfl rfl (decide_eq_true c211) rfl rfl ?_
  refine ent_value (ov_pick rfl rfl rfl (pick_t (decide_eq_true c211))) rfl rfl rfl (ent_nil (ent_cond_true rfl rfl (ent_seq (ent_region (ent_value (ov_assign rfl) rfl rfl rfl (ent_nil (ent_retc ?_)))))))
  cases H
  refine ent_pick [] (by decide) rfl ?_
  exact ret_tmp rfl rfl ⟨rfl,rfl⟩
 refine ent_value_on (ov_move rfl) rfl rfl rfl (decide_eq_false c211) rfl rfl ?_
 refine ent_value_on (ov_move rfl) rfl rfl rfl (decide_eq_false c211) rfl rfl ?_
 refine ent_value_on (ov_indexArr (o := 0) rfl rfl F_array_128 F_size_127 (by decide) c210) rfl rfl rfl (decide_eq_false c211) rfl rfl ?_
 refine ent_value_on (ov_fieldAddr (sz := 0) (o := 0) rfl F_field_127_1 F_size_2) rfl rfl rfl (decide_eq_false c211) rfl rfl ?_
 refine ent_value_on (ov_load (v := (I x4.2.1)) rfl F_agg_2 (reads_box1 (i := 0) rfl rfl)) rfl rfl rfl (decide_eq_false c211) rfl rfl ?_
 refine ent_value_on (ov_bin rfl rfl (b_gtr _ _ _)) rfl rfl rfl (decide_eq_false c211) rfl rfl ?_
 refine ent_value (ov_pick rfl rfl rfl (pick_f (decide_eq_false c211))) rfl rfl rfl (ent_nil ?_)
 refine htT H (fun c212 H => ?_) fun c212 H => ?_
 ·refine ent_cond_true rfl (decide_eq_true c212) (ent_seq (ent_region (ent_value (ov_assign rfl) rfl rfl rfl (ent_nil (ent_retc ?_)))))
  cases H
  refine ent_pick [] (by decide) rfl ?_
  exact ret_tmp rfl rfl ⟨rfl,rfl⟩
 refine ent_cond_false rfl (decide_eq_false c212) (ent_skip (ent_region (ent_value (ov_binL (m' := 1) rfl rfl (b_add _ _ _) (by decide)) rfl rfl rfl (ent_value (ov_move rfl) rfl rfl rfl (ent_nil (ent_round (ent_seq (ent_region (ent_value (ov_bin rfl rfl (b_lss _ _ _)) rfl rfl rfl (ent_nil (ent_seq ?_)))))))))))
 refine ent_cond_true rfl rfl (ent_skip (ent_seq (ent_block (ent_seq (ent_region (ent_value (ov_move rfl) rfl rfl rfl (ent_value (ov_indexAggN rfl rfl F_array_130 F_size_2 F_agg_2 (by decide) (by decide) rfl) rfl rfl rfl (ent_value (ov_assign rfl) rfl rfl rfl (ent_value (ov_assign rfl) rfl rfl rfl (ent_nil (ent_seq ?_)))))))))))
 refine ent_region (ent_value (ov_move rfl) rfl rfl rfl (ent_value (ov_move rfl) rfl rfl rfl ?_))
 obtain ⟨c216,H⟩ := gdT H
 refine ent_value (ov_indexArr (o := 0) rfl rfl F_array_128 F_size_127 (by decide) c216) rfl rfl rfl (ent_value (ov_fieldAddr (sz := 0) (o := 2) rfl F_field_127_0 F_size_2) rfl rfl rfl (ent_value (ov_load (v := (I x4.2.2.1)) rfl F_agg_2 (reads_box1 (i := 0) rfl rfl)) rfl rfl rfl (ent_value (ov_bin rfl rfl (b_lss _ _ _)) rfl rfl rfl (ent_value (ov_move rfl) rfl rfl rfl ?_))))
 refine htT H (fun c217 H => ?_) fun c217 H => ?_
 ·refine ent_off rfl rfl rfl (decide_eq_true c217) rfl rfl ?_
  refine ent_off rfl rfl rfl (decide_eq_true c217) rfl rfl ?_
  refine ent_off rfl rfl rfl (decide_eq_true c217) rfl rfl ?_
  refine ent_off rfl rfl rfl (decide_eq_true c217) rfl rfl ?_
  refine ent_off rfl rfl rfl (decide_eq_true c217) rfl rfl ?_
  refine ent_off rfl rfl rfl (decide_eq_true c217) rfl rfl ?_
  refine ent_value (ov_pick rfl rfl rfl (pick_t (decide_eq_true c217))) rfl rfl rfl (ent_nil (ent_cond_true rfl rfl (ent_seq (ent_region (ent_value (ov_assign rfl) rfl rfl rfl (ent_nil (ent_retc ?_)))))))
  cases H
  refine ent_pick [] (by decide) rfl ?_
  exact ret_tmp rfl rfl ⟨rfl,rfl⟩
 refine ent_value_on (ov_move rfl) rfl rfl rfl (decide_eq_false c217) rfl rfl ?_
 refine ent_value_on (ov_move rfl) rfl rfl rfl (decide_eq_false c217) rfl rfl ?_
 refine ent_value_on (ov_indexArr (o := 0) rfl rfl F_array_128 F_size_127 (by decide) c216) rfl rfl rfl (decide_eq_false c217) rfl rfl ?_
 refine ent_value_on (ov_fieldAddr (sz := 0) (o := 2) rfl F_field_127_1 F_size_2) rfl rfl rfl (decide_eq_false c217) rfl rfl ?_
 refine ent_value_on (ov_load (v := (I x4.2.2.2.1)) rfl F_agg_2 (reads_box1 (i := 0) rfl rfl)) rfl rfl rfl (decide_eq_false c217) rfl rfl ?_
 refine ent_value_on (ov_bin rfl rfl (b_gtr _ _ _)) rfl rfl rfl (decide_eq_false c217) rfl rfl ?_
 refine ent_value (ov_pick rfl rfl rfl (pick_f (decide_eq_false c217))) rfl rfl rfl (ent_nil ?_)
 refine htT H (fun c218 H => ?_) fun c218 H => ?_
 ·refine ent_cond_true rfl (decide_eq_true c218) (ent_seq (ent_region (ent_value (ov_assign rfl) rfl rfl rfl (ent_nil (ent_retc ?_)))))
  cases H
  refine ent_pick [] (by decide) rfl ?_
  exact ret_tmp rfl rfl ⟨rfl,rfl⟩
 refine ent_cond_false rfl (decide_eq_false c218) (ent_skip (ent_region (ent_value (ov_binL (m' := 2) rfl rfl (b_add _ _ _) (by decide)) rfl rfl rfl (ent_value (ov_move rfl) rfl rfl rfl (ent_nil (ent_round (ent_seq (ent_region (ent_value (ov_bin rfl rfl (b_lss _ _ _)) rfl rfl rfl (ent_nil (ent_seq ?_)))))))))))
 refine ent_cond_true rfl rfl (ent_skip (ent_seq (ent_block (ent_seq (ent_region (ent_value (ov_move rfl) rfl rfl rfl (ent_value (ov_indexAggN rfl rfl F_array_130 F_size_2 F_agg_2 (by decide) (by decide) rfl) rfl rfl rfl (ent_value (ov_assign rfl) rfl rfl rfl (ent_value (ov_assign rfl) rfl rfl rfl (ent_nil (ent_seq ?_)))))))))))
 refine ent_region (ent_value (ov_move rfl) rfl rfl rfl (ent_value (ov_move rfl) rfl rfl rfl ?_))
 obtain ⟨c222,H⟩ := gdT H
 refine ent_value (ov_indexArr (o := 0) rfl rfl F_array_128 F_size_127 (by decide) c222) rfl rfl rfl (ent_value (ov_fieldAddr (sz := 0) (o := 4) rfl F_field_127_0 F_size_2) rfl rfl rfl (ent_value (ov_load (v := (I x4.2.2.2.2.1)) rfl F_agg_2 (reads_box1 (i := 0) rfl rfl)) rfl rfl rfl (ent_value (ov_bin rfl rfl (b_lss _ _ _)) rfl rfl rfl (ent_value (ov_move rfl) rfl rfl rfl ?_))))
 refine htT H (fun c223 H => ?_) fun c223 H => ?_
 ·refine ent_off rfl rfl rfl (decide_eq_true c223) rfl rfl ?_
  refine ent_off rfl rfl rfl (decide_eq_true c223) rfl rfl ?_
  refine ent_off rfl rfl rfl (decide_eq_true c223) rfl rfl ?_
  refine ent_off rfl rfl rfl (decide_eq_true c223) rfl rfl ?_
  refine ent_off rfl rfl rfl (decide_eq_true c223) rfl rfl ?_
  refine ent_off rfl rfl rfl (decide_eq_true c223) rfl rfl ?_
  refine ent_value (ov_pick rfl rfl rfl (pick_t (decide_eq_true c223))) rfl rfl rfl (ent_nil (ent_cond_true rfl rfl (ent_seq (ent_region (ent_value (ov_assign rfl) rfl rfl rfl (ent_nil (ent_retc ?_)))))))
  cases H
  refine ent_pick [] (by decide) rfl ?_
  exact ret_tmp rfl rfl ⟨rfl,rfl⟩
 refine ent_value_on (ov_move rfl) rfl rfl rfl (decide_eq_false c223) rfl rfl ?_
 refine ent_value_on (ov_move rfl) rfl rfl rfl (decide_eq_false c223) rfl rfl ?_
 refine ent_value_on (ov_indexArr (o := 0) rfl rfl F_array_128 F_size_127 (by decide) c222) rfl rfl rfl (decide_eq_false c223) rfl rfl ?_
 refine ent_value_on (ov_fieldAddr (sz := 0) (o := 4) rfl F_field_127_1 F_size_2) rfl rfl rfl (decide_eq_false c223) rfl rfl ?_
 refine ent_value_on (ov_load (v := (I x4.2.2.2.2.2.1)) rfl F_agg_2 (reads_box1 (i := 0) rfl rfl)) rfl rfl rfl (decide_eq_false c223) rfl rfl ?_
 refine ent_value_on (ov_bin rfl rfl (b_gtr _ _ _)) rfl rfl rfl (decide_eq_false c223) rfl rfl ?_
 refine ent_value (ov_pick rfl rfl rfl (pick_f (decide_eq_false c223))) rfl rfl rfl (ent_nil ?_)
 refine htT H (fun c224 H => ?_) fun c224 H => ?_
 ·refine ent_cond_true rfl (decide_eq_true c224) (ent_seq (ent_region (ent_value (ov_assign rfl) rfl rfl rfl (ent_nil (ent_retc ?_)))))
  cases H
  refine ent_pick [] (by decide) rfl ?_
  exact ret_tmp rfl rfl ⟨rfl,rfl⟩
 refine ent_cond_false rfl (decide_eq_false c224) (ent_skip (ent_region (ent_value (ov_binL (m' := 3) rfl rfl (b_add _ _ _) (by decide)) rfl rfl rfl (ent_value (ov_move rfl) rfl rfl rfl (ent_nil (ent_round (ent_seq (ent_region (ent_value (ov_bin rfl rfl (b_lss _ _ _)) rfl rfl rfl (ent_nil (ent_seq ?_)))))))))))
 refine ent_cond_true rfl rfl (ent_skip (ent_seq (ent_block (ent_seq (ent_region (ent_value (ov_move rfl) rfl rfl rfl (ent_value (ov_indexAggN rfl rfl F_array_130 F_size_2 F_agg_2 (by decide) (by decide) rfl) rfl rfl rfl (ent_value (ov_assign rfl) rfl rfl rfl (ent_value (ov_assign rfl) rfl rfl rfl (ent_nil (ent_seq ?_)))))))))))
 refine ent_region (ent_value (ov_move rfl) rfl rfl rfl (ent_value (ov_move rfl) rfl rfl rfl ?_))
 obtain ⟨c228,H⟩ := gdT H
 refine ent_value (ov_indexArr (o := 0) rfl rfl F_array_128 F_size_127 (by decide) c228) rfl rfl rfl (ent_value (ov_fieldAddr (sz := 0) (o := 6) rfl F_field_127_0 F_size_2) rfl rfl rfl (ent_value (ov_load (v := (I x4.2.2.2.2.2.2.1)) rfl F_agg_2 (reads_box1 (i := 0) rfl rfl)) rfl rfl rfl (ent_value (ov_bin rfl rfl (b_lss _ _ _)) rfl rfl rfl (ent_value (ov_move rfl) rfl rfl rfl ?_))))
 refine htT H (fun c229 H => ?_) fun c229 H => ?_
 ·refine ent_off rfl rfl rfl (decide_eq_true c229) rfl rfl ?_
  refine ent_off rfl rfl rfl (decide_eq_true c229) rfl rfl ?_
  refine ent_off rfl rfl rfl (decide_eq_true c229) rfl rfl ?_
  refine ent_off rfl rfl rfl (decide_eq_true c229) rfl rfl ?_
  refine ent_off rfl rfl rfl (decide_eq_true c229) rfl rfl ?_
  refine ent_off rfl rfl rfl (decide_eq_true c229) rfl rfl ?_
  refine ent_value (ov_pick rfl rfl rfl (pick_t (decide_eq_true c229))) rfl rfl rfl (ent_nil (ent_cond_true rfl rfl (ent_seq (ent_region (ent_value (ov_assign rfl) rfl rfl rfl (ent_nil (ent_retc ?_)))))))
  cases H
  refine ent_pick [] (by decide) rfl ?_
  exact ret_tmp rfl rfl ⟨rfl,rfl⟩
 refine ent_value_on (ov_move rfl) rfl rfl rfl (decide_eq_false c229) rfl rfl ?_
 refine ent_value_on (ov_move rfl) rfl rfl rfl (decide_eq_false c229) rfl rfl ?_
 refine ent_value_on (ov_indexArr (o := 0) rfl rfl F_array_128 F_size_127 (by decide) c228) rfl rfl rfl (decide_eq_false c229) rfl rfl ?_
 refine ent_value_on (ov_fieldAddr (sz := 0) (o := 6) rfl F_field_127_1 F_size_2) rfl rfl rfl (decide_eq_false c229) rfl rfl ?_
 refine ent_value_on (ov_load (v := (I x4.2.2.2.2.2.2.2.1)) rfl F_agg_2 (reads_box1 (i := 0) rfl rfl)) rfl rfl rfl (decide_eq_false c229) rfl rfl ?_
 refine ent_value_on (ov_bin rfl rfl (b_gtr _ _ _)) rfl rfl rfl (decide_eq_false c229) rfl rfl ?_
 refine ent_value (ov_pick rfl rfl rfl (pick_f (decide_eq_false c229))) rfl rfl rfl (ent_nil ?_)
 refine htT H (fun c230 H => ?_) fun c230 H => ?_
 ·refine ent_cond_true rfl (decide_eq_true c230) (ent_seq (ent_region (ent_value (ov_assign rfl) rfl rfl rfl (ent_nil (ent_retc ?_)))))
  cases H
  refine ent_pick [] (by decide) rfl ?_
  exact ret_tmp rfl rfl ⟨rfl,rfl⟩
 refine ent_cond_false rfl (decide_eq_false c230) (ent_skip (ent_region (ent_value (ov_binL (m' := 4) rfl rfl (b_add _ _ _) (by decide)) rfl rfl rfl (ent_value (ov_move rfl) rfl rfl rfl (ent_nil (ent_round (ent_seq (ent_region (ent_value (ov_bin rfl rfl (b_lss _ _ _)) rfl rfl rfl (ent_nil (ent_seq ?_)))))))))))
 refine ent_cond_true rfl rfl (ent_skip (ent_seq (ent_block (ent_seq (ent_region (ent_value (ov_move rfl) rfl rfl rfl (ent_value (ov_indexAggN rfl rfl F_array_130 F_size_2 F_agg_2 (by decide) (by decide) rfl) rfl rfl rfl (ent_value (ov_assign rfl) rfl rfl rfl (ent_value (ov_assign rfl) rfl rfl rfl (ent_nil (ent_seq ?_)))))))))))
 refine ent_region (ent_value (ov_move rfl) rfl rfl rfl (ent_value (ov_move rfl) rfl rfl rfl ?_))
 obtain ⟨c234,H⟩ := gdT H
 refine ent_value (ov_indexArr (o := 0) rfl rfl F_array_128 F_size_127 (by decide) c234) rfl rfl rfl (ent_value (ov_fieldAddr (sz := 0) (o := 8) rfl F_field_127_0 F_size_2) rfl rfl rfl (ent_value (ov_load (v := (I x4.2.2.2.2.2.2.2.2.1)) rfl F_agg_2 (reads_box1 (i := 0) rfl rfl)) rfl rfl rfl (ent_value (ov_bin rfl rfl (b_lss _ _ _)) rfl rfl rfl (ent_value (ov_move rfl) rfl rfl rfl ?_))))
 refine htT H (fun c235 H => ?_) fun c235 H => ?_
 ·refine ent_off rfl rfl rfl (decide_eq_true c235) rfl rfl ?_
  refine ent_off rfl rfl rfl (decide_eq_true c235) rfl rfl ?_
  refine ent_off rfl rfl rfl (decide_eq_true c235) rfl rfl ?_
  refine ent_off rfl rfl rfl (decide_eq_true c235) rfl rfl ?_
  refine ent_off rfl rfl rfl (decide_eq_true c235) rfl rfl ?_
  refine ent_off rfl rfl rfl (decide_eq_true c235) rfl rfl ?_
  refine ent_value (ov_pick rfl rfl rfl (pick_t (decide_eq_true c235))) rfl rfl rfl (ent_nil (ent_cond_true rfl rfl (ent_seq (ent_region (ent_value (ov_assign rfl) rfl rfl rfl (ent_nil (ent_retc ?_)))))))
  cases H
  refine ent_pick [] (by decide) rfl ?_
  exact ret_tmp rfl rfl ⟨rfl,rfl⟩
 refine ent_value_on (ov_move rfl) rfl rfl rfl (decide_eq_false c235) rfl rfl ?_
 refine ent_value_on (ov_move rfl) rfl rfl rfl (decide_eq_false c235) rfl rfl ?_
 refine ent_value_on (ov_indexArr (o := 0) rfl rfl F_array_128 F_size_127 (by decide) c234) rfl rfl rfl (decide_eq_false c235) rfl rfl ?_
 refine ent_value_on (ov_fieldAddr (sz := 0) (o := 8) rfl F_field_127_1 F_size_2) rfl rfl rfl (decide_eq_false c235) rfl rfl ?_
 refine ent_value_on (ov_load (v := (I x4.2.2.2.2.2.2.2.2.2.1)) rfl F_agg_2 (reads_box1 (i := 0) rfl rfl)) rfl rfl rfl (decide_eq_false c235) rfl rfl ?_
 refine ent_value_on (ov_bin rfl rfl (b_gtr _ _ _)) rfl rfl rfl (decide_eq_false c235) rfl rfl ?_
 refine ent_value (ov_pick rfl rfl rfl (pick_f (decide_eq_false c235))) rfl rfl rfl (ent_nil ?_)
 refine htT H (fun c236 H => ?_) fun c236 H => ?_
 ·refine ent_cond_true rfl (decide_eq_true c236) (ent_seq (ent_region (ent_value (ov_assign rfl) rfl rfl rfl (ent_nil (ent_retc ?_)))))
  cases H
  refine ent_pick [] (by decide) rfl ?_
  exact ret_tmp rfl rfl ⟨rfl,rfl⟩
 refine ent_cond_false rfl (decide_eq_false c236) (ent_skip (ent_region (ent_value (ov_binL (m' := 5) rfl rfl (b_add _ _ _) (by decide)) rfl rfl rfl (ent_value (ov_move rfl) rfl rfl rfl (ent_nil (ent_round (ent_seq (ent_region (ent_value (ov_bin rfl rfl (b_lss _ _ _)) rfl rfl rfl (ent_nil (ent_seq ?_)))))))))))
 refine ent_cond_true rfl rfl (ent_skip (ent_seq (ent_block (ent_seq (ent_region (ent_value (ov_move rfl) rfl rfl rfl (ent_value (ov_indexAggN rfl rfl F_array_130 F_size_2 F_agg_2 (by decide) (by decide) rfl) rfl rfl rfl (ent_value (ov_assign rfl) rfl rfl rfl (ent_value (ov_assign rfl) rfl rfl rfl (ent_nil (ent_seq ?_)))))))))))
 refine ent_region (ent_value (ov_move rfl) rfl rfl rfl (ent_value (ov_move rfl) rfl rfl rfl ?_))
 obtain ⟨c240,H⟩ := gdT H
 refine ent_value (ov_indexArr (o := 0) rfl rfl F_array_128 F_size_127 (by decide) c240) rfl rfl rfl (ent_value (ov_fieldAddr (sz := 0) (o := 10) rfl F_field_127_0 F_size_2) rfl rfl rfl (ent_value (ov_load (v := (I x4.2.2.2.2.2.2.2.2.2.2.1)) rfl F_agg_2 (reads_box1 (i := 0) rfl rfl)) rfl rfl rfl (ent_value (ov_bin rfl rfl (b_lss _ _ _)) rfl rfl rfl (ent_value (ov_move rfl) rfl rfl rfl ?_))))
 refine htT H (fun c241 H => ?_) fun c241 H => ?_
 ·refine ent_off rfl rfl rfl (decide_eq_true c241) rfl rfl ?_
  refine ent_off rfl rfl rfl (decide_eq_true c241) rfl rfl ?_
  refine ent_off rfl rfl rfl (decide_eq_true c241) rfl rfl ?_
  refine ent_off rfl rfl rfl (decide_eq_true c241) rfl rfl ?_
  refine ent_off rfl rfl rfl (decide_eq_true c241) rfl rfl ?_
  refine ent_off rfl rfl rfl (decide_eq_true c241) rfl rfl ?_
  refine ent_value (ov_pick rfl rfl rfl (pick_t (decide_eq_true c241))) rfl rfl rfl (ent_nil (ent_cond_true rfl rfl (ent_seq (ent_region (ent_value (ov_assign rfl) rfl rfl rfl (ent_nil (ent_retc ?_)))))))
  cases H
  refine ent_pick [] (by decide) rfl ?_
  exact ret_tmp rfl rfl ⟨rfl,rfl⟩
 refine ent_value_on (ov_move rfl) rfl rfl rfl (decide_eq_false c241) rfl rfl ?_
 refine ent_value_on (ov_move rfl) rfl rfl rfl (decide_eq_false c241) rfl rfl ?_
 refine ent_value_on (ov_indexArr (o := 0) rfl rfl F_array_128 F_size_127 (by decide) c240) rfl rfl rfl (decide_eq_false c241) rfl rfl ?_
 refine ent_value_on (ov_fieldAddr (sz := 0) (o := 10) rfl F_field_127_1 F_size_2) rfl rfl rfl (decide_eq_false c241) rfl rfl ?_
 refine ent_value_on (ov_load (v := (I x4.2.2.2.2.2.2.2.2.2.2.2.1)) rfl F_agg_2 (reads_box1 (i := 0) rfl rfl)) rfl rfl rfl (decide_eq_false c241) rfl rfl ?_
 refine ent_value_on (ov_bin rfl rfl (b_gtr _ _ _)) rfl rfl rfl (decide_eq_false c241) rfl rfl ?_
 refine ent_value (ov_pick rfl rfl rfl (pick_f (decide_eq_false c241))) rfl rfl rfl (ent_nil ?_)
 refine htT H (fun c242 H => ?_) fun c242 H => ?_
 ·refine ent_cond_true rfl (decide_eq_true c242) (ent_seq (ent_region (ent_value (ov_assign rfl) rfl rfl rfl (ent_nil (ent_retc ?_)))))
  cases H
  refine ent_pick [] (by decide) rfl ?_
  exact ret_tmp rfl rfl ⟨rfl,rfl⟩
 refine ent_cond_false rfl (decide_eq_false c242) (ent_skip (ent_region (ent_value (ov_binL (m' := 6) rfl rfl (b_add _ _ _) (by decide)) rfl rfl rfl (ent_value (ov_move rfl) rfl rfl rfl (ent_nil (ent_round (ent_seq (ent_region (ent_value (ov_bin rfl rfl (b_lss _ _ _)) rfl rfl rfl (ent_nil (ent_seq ?_)))))))))))
 refine ent_cond_true rfl rfl (ent_skip (ent_seq (ent_block (ent_seq (ent_region (ent_value (ov_move rfl) rfl rfl rfl (ent_value (ov_indexAggN rfl rfl F_array_130 F_size_2 F_agg_2 (by decide) (by decide) rfl) rfl rfl rfl (ent_value (ov_assign rfl) rfl rfl rfl (ent_value (ov_assign rfl) rfl rfl rfl (ent_nil (ent_seq ?_)))))))))))
 refine ent_region (ent_value (ov_move rfl) rfl rfl rfl (ent_value (ov_move rfl) rfl rfl rfl ?_))
 obtain ⟨c246,H⟩ := gdT H
 refine ent_value (ov_indexArr (o := 0) rfl rfl F_array_128 F_size_127 (by decide) c246) rfl rfl rfl (ent_value (ov_fieldAddr (sz := 0) (o := 12) rfl F_field_127_0 F_size_2) rfl rfl rfl (ent_value (ov_load (v := (I x4.2.2.2.2.2.2.2.2.2.2.2.2.1)) rfl F_agg_2 (reads_box1 (i := 0) rfl rfl)) rfl rfl rfl (ent_value (ov_bin rfl rfl (b_lss _ _ _)) rfl rfl rfl (ent_value (ov_move rfl) rfl rfl rfl ?_))))
 refine htT H (fun c247 H => ?_) fun c247 H => ?_
 ·refine ent_off rfl rfl rfl (decide_eq_true c247) rfl rfl ?_
  refine ent_off rfl rfl rfl (decide_eq_true c247) rfl rfl ?_
  refine ent_off rfl rfl rfl (decide_eq_true c247) rfl rfl ?_
  refine ent_off rfl rfl rfl (decide_eq_true c247) rfl rfl ?_
  refine ent_off rfl rfl rfl (decide_eq_true c247) rfl rfl ?_
  refine ent_off rfl rfl rfl (decide_eq_true c247) rfl rfl ?_
  refine ent_value (ov_pick rfl rfl rfl (pick_t (decide_eq_true c247))) rfl rfl rfl (ent_nil (ent_cond_true rfl rfl (ent_seq (ent_region (ent_value (ov_assign rfl) rfl rfl rfl (ent_nil (ent_retc ?_)))))))
  cases H
  refine ent_pick [] (by decide) rfl ?_
  exact ret_tmp rfl rfl ⟨rfl,rfl⟩
 refine ent_value_on (ov_move rfl) rfl rfl rfl (decide_eq_false c247) rfl rfl ?_
 refine ent_value_on (ov_move rfl) rfl rfl rfl (decide_eq_false c247) rfl rfl ?_
 refine ent_value_on (ov_indexArr (o := 0) rfl rfl F_array_128 F_size_127 (by decide) c246) rfl rfl rfl (decide_eq_false c247) rfl rfl ?_
 refine ent_value_on (ov_fieldAddr (sz := 0) (o := 12) rfl F_field_127_1 F_size_2) rfl rfl rfl (decide_eq_false c247) rfl rfl ?_
 refine ent_value_on (ov_load (v := (I x4.2.2.2.2.2.2.2.2.2.2.2.2.2.1)) rfl F_agg_2 (reads_box1 (i := 0) rfl rfl)) rfl rfl rfl (decide_eq_false c247) rfl rfl ?_
 refine ent_value_on (ov_bin rfl rfl (b_gtr _ _ _)) rfl rfl rfl (decide_eq_false c247) rfl rfl ?_
 refine ent_value (ov_pick rfl rfl rfl (pick_f (decide_eq_false c247))) rfl rfl rfl (ent_nil ?_)
 refine htT H (fun c248 H => ?_) fun c248 H => ?_
 ·refine ent_cond_true rfl (decide_eq_true c248) (ent_seq (ent_region (ent_value (ov_assign rfl) rfl rfl rfl (ent_nil (ent_retc ?_)))))
  cases H
  refine ent_pick [] (by decide) rfl ?_
  exact ret_tmp rfl rfl ⟨rfl,rfl⟩
 refine ent_cond_false rfl (decide_eq_false c248) (ent_skip (ent_region (ent_value (ov_binL (m' := 7) rfl rfl (b_add _ _ _) (by decide)) rfl rfl rfl (ent_value (ov_move rfl) rfl rfl rfl (ent_nil (ent_round (ent_seq (ent_region (ent_value (ov_bin rfl rfl (b_lss _ _ _)) rfl rfl rfl (ent_nil (ent_seq ?_)))))))))))
 refine ent_cond_true rfl rfl (ent_skip (ent_seq (ent_block (ent_seq (ent_region (ent_value (ov_move rfl) rfl rfl rfl (ent_value (ov_indexAggN rfl rfl F_array_130 F_size_2 F_agg_2 (by decide) (by decide) rfl) rfl rfl rfl (ent_value (ov_assign rfl) rfl rfl rfl (ent_value (ov_assign rfl) rfl rfl rfl (ent_nil (ent_seq ?_)))))))))))
 refine ent_region (ent_value (ov_move rfl) rfl rfl rfl (ent_value (ov_move rfl) rfl rfl rfl ?_))
 obtain ⟨c252,H⟩ := gdT H
 refine ent_value (ov_indexArr (o := 0) rfl rfl F_array_128 F_size_127 (by decide) c252) rfl rfl rfl (ent_value (ov_fieldAddr (sz := 0) (o := 14) rfl F_field_127_0 F_size_2) rfl rfl rfl (ent_value (ov_load (v := (I x4.2.2.2.2.2.2.2.2.2.2.2.2.2.2.1)) rfl F_agg_2 (reads_box1 (i := 0) rfl rfl)) rfl rfl rfl (ent_value (ov_bin rfl rfl (b_lss _ _ _)) rfl rfl rfl (ent_value (ov_move rfl) rfl rfl rfl ?_))))
 refine htT H (fun c253 H => ?_) fun c253 H => ?_
 ·refine ent_off rfl rfl rfl (decide_eq_true c253) rfl rfl ?_
  refine ent_off rfl rfl rfl (decide_eq_true c253) rfl rfl ?_
  refine ent_off rfl rfl rfl (decide_eq_true c253) rfl rfl ?_
  refine ent_off rfl rfl rfl (decide_eq_true c253) rfl rfl ?_
  refine ent_off rfl rfl rfl (decide_eq_true c253) rfl rfl ?_
  refine ent_off rfl rfl rfl (decide_eq_true c253) rfl rfl ?_
  refine ent_value (ov_pick rfl rfl rfl (pick_t (decide_eq_true c253))) rfl rfl rfl (ent_nil (ent_cond_true rfl rfl (ent_seq (ent_region (ent_value (ov_assign rfl) rfl rfl rfl (ent_nil (ent_retc ?_)))))))
  cases H
  refine ent_pick [] (by decide) rfl ?_
  exact ret_tmp rfl rfl ⟨rfl,rfl⟩
 refine ent_value_on (ov_move rfl) rfl rfl rfl (decide_eq_false c253) rfl rfl ?_
 refine ent_value_on (ov_move rfl) rfl rfl rfl (decide_eq_false c253) rfl rfl ?_
 refine ent_value_on (ov_indexArr (o := 0) rfl rfl F_array_128 F_size_127 (by decide) c252) rfl rfl rfl (decide_eq_false c253) rfl rfl ?_
 refine ent_value_on (ov_fieldAddr (sz := 0) (o := 14) rfl F_field_127_1 F_size_2) rfl rfl rfl (decide_eq_false c253) rfl rfl ?_
 refine ent_value_on (ov_load (v := (I x4.2.2.2.2.2.2.2.2.2.2.2.2.2.2.2.1)) rfl F_agg_2 (reads_box1 (i := 0) rfl rfl)) rfl rfl rfl (decide_eq_false c253) rfl rfl ?_
 refine ent_value_on (ov_bin rfl rfl (b_gtr _ _ _)) rfl rfl rfl (decide_eq_false c253) rfl rfl ?_
 refine ent_value (ov_pick rfl rfl rfl (pick_f (decide_eq_false c253))) rfl rfl rfl (ent_nil ?_)
 refine htT H (fun c254 H => ?_) fun c254 H => ?_
 ·refine ent_cond_true rfl (decide_eq_true c254) (ent_seq (ent_region (ent_value (ov_assign rfl) rfl rfl rfl (ent_nil (ent_retc ?_)))))
  cases H
  refine ent_pick [] (by decide) rfl ?_
  exact ret_tmp rfl rfl ⟨rfl,rfl⟩
 refine ent_cond_false rfl (decide_eq_false c254) (ent_skip (ent_region (ent_value (ov_binL (m' := 8) rfl rfl (b_add _ _ _) (by decide)) rfl rfl rfl (ent_value (ov_move rfl) rfl rfl rfl (ent_nil (ent_round (ent_seq (ent_region (ent_value (ov_bin rfl rfl (b_lss _ _ _)) rfl rfl rfl (ent_nil (ent_seq ?_)))))))))))
 refine ent_cond_true rfl rfl (ent_skip (ent_seq (ent_block (ent_seq (ent_region (ent_value (ov_move rfl) rfl rfl rfl (ent_value (ov_indexAggN rfl rfl F_array_130 F_size_2 F_agg_2 (by decide) (by decide) rfl) rfl rfl rfl (ent_value (ov_assign rfl) rfl rfl rfl (ent_value (ov_assign rfl) rfl rfl rfl (ent_nil (ent_seq ?_)))))))))))
 refine ent_region (ent_value (ov_move rfl) rfl rfl rfl (ent_value (ov_move rfl) rfl rfl rfl ?_))
 obtain ⟨c258,H⟩ := gdT H
 refine ent_value (ov_indexArr (o := 0) rfl rfl F_array_128 F_size_127 (by decide) c258) rfl rfl rfl (ent_value (ov_fieldAddr (sz := 0) (o := 16) rfl F_field_127_0 F_size_2) rfl rfl rfl (ent_value (ov_load (v := (I x4.2.2.2.2.2.2.2.2.2.2.2.2.2.2.2.2.1)) rfl F_agg_2 (reads_box1 (i := 0) rfl rfl)) rfl rfl rfl (ent_value (ov_bin rfl rfl (b_lss _ _ _)) rfl rfl rfl (ent_value (ov_move rfl) rfl rfl rfl ?_))))
 refine htT H (fun c259 H => ?_) fun c259 H => ?_
 ·refine ent_off rfl rfl rfl (decide_eq_true c259) rfl rfl ?_
  refine ent_off rfl rfl rfl (decide_eq_true c259) rfl rfl ?_
  refine ent_off rfl rfl rfl (decide_eq_true c259) rfl rfl ?_
  refine ent_off rfl rfl rfl (decide_eq_true c259) rfl rfl ?_
  refine ent_off rfl rfl rfl (decide_eq_true c259) rfl rfl ?_
  refine ent_off rfl rfl rfl (decide_eq_true c259) rfl rfl ?_
  refine ent_value (ov_pick rfl rfl rfl (pick_t (decide_eq_true c259))) rfl rfl rfl (ent_nil (ent_cond_true rfl rfl (ent_seq (ent_region (ent_value (ov_assign rfl) rfl rfl rfl (ent_nil (ent_retc ?_)))))))
  cases H
  refine ent_pick [] (by decide) rfl ?_
  exact ret_tmp rfl rfl ⟨rfl,rfl⟩
 refine ent_value_on (ov_move rfl) rfl rfl rfl (decide_eq_false c259) rfl rfl ?_
 refine ent_value_on (ov_move rfl) rfl rfl rfl (decide_eq_false c259) rfl rfl ?_
 refine ent_value_on (ov_indexArr (o := 0) rfl rfl F_array_128 F_size_127 (by decide) c258) rfl rfl rfl (decide_eq_false c259) rfl rfl ?_
 refine ent_value_on (ov_fieldAddr (sz := 0) (o := 16) rfl F_field_127_1 F_size_2) rfl rfl rfl (decide_eq_false c259) rfl rfl ?_
 refine ent_value_on (ov_load (v := (I x4.2.2.2.2.2.2.2.2.2.2.2.2.2.2.2.2.2)) rfl F_agg_2 (reads_box1 (i := 0) rfl rfl)) rfl rfl rfl (decide_eq_false c259) rfl rfl ?_
 refine ent_value_on (ov_bin rfl rfl (b_gtr _ _ _)) rfl rfl rfl (decide_eq_false c259) rfl rfl ?_
 refine ent_value (ov_pick rfl rfl rfl (pick_f (decide_eq_false c259))) rfl rfl rfl (ent_nil ?_)
 refine htT H (fun c260 H => ?_) fun c260 H => ?_
 ·refine ent_cond_true rfl (decide_eq_true c260) (ent_seq (ent_region (ent_value (ov_assign rfl) rfl rfl rfl (ent_nil (ent_retc ?_)))))
  cases H
  refine ent_pick [] (by decide) rfl ?_
  exact ret_tmp rfl rfl ⟨rfl,rfl⟩
 refine ent_cond_false rfl (decide_eq_false c260) (ent_skip (ent_region (ent_value (ov_binL (m' := 9) rfl rfl (b_add _ _ _) (by decide)) rfl rfl rfl (ent_value (ov_move rfl) rfl rfl rfl (ent_nil (ent_round (ent_seq (ent_region (ent_value (ov_bin rfl rfl (b_lss _ _ _)) rfl rfl rfl (ent_nil (ent_seq ?_)))))))))))
 refine ent_cond_false rfl rfl (ent_exit (ent_seq (ent_region (ent_value (ov_assign rfl) rfl rfl rfl (ent_nil (ent_retc ?_))))))
 cases H
 refine ent_pick [] (by decide) rfl ?_
 exact ret_tmp rfl rfl ⟨rfl,rfl⟩

theorem script_Right_NN.spec (K : Nat) (a0_17 a0_18 : Int) (a0_19 a0_20 : Int) (a0_21 a0_22 : Int) (a0_23 a0_24 : Int) (a0_25 a1 : Int) (r : Bool) (H : script_Right_NN K a0_17 a0_18 a0_19 a0_20 a0_21 a0_22 a0_23 a0_24 a0_25 a1 = some r) : FnSpec Tryd.prog 51 [agg #[I 3,I 0,L0,I 0,I 0,B0,B0,B0,B0,B0,B0,B0,B0,S0,S0,S0,S0,I a0_17,I a0_18,I a0_19,I a0_20,I a0_21,I a0_22,I a0_23,I a0_24,I a0_25,L0],I a1] [] (fun v M => v = (bool r) ∧ M = []) := by
 unfold script_Right_NN at H
 refine spec_of Tryd.func51 rfl 58 rfl (Nat.le_of_ble_eq_true rfl) fun F w0 => ?_
 let C1_ : List Value := [I 3,I 0,L0,I 0,I 0,B0,B0,B0,B0,B0,B0,B0,B0,S0,S0,S0,S0,I a0_17,I a0_18,I a0_19,I a0_20,I a0_21,I a0_22,I a0_23,I a0_24,I a0_25,L0]
 show Ent (St 58 w0 F [(0,agg #[I 3,I 0,L0,I 0,I 0,B0,B0,B0,B0,B0,B0,B0,B0,S0,S0,S0,S0,I a0_17,I a0_18,I a0_19,I a0_20,I a0_21,I a0_22,I a0_23,I a0_24,I a0_25,L0]),(1,I a1)] []) _
 refine ent_seq (ent_region ?_)
 refine ent_op (ot_box (cs := C1_) rfl rfl) rfl rfl rfl ?_
 rintro _ _ ⟨b3,rfl,rfl⟩
 refine ent_value (ov_assign rfl) rfl rfl rfl (ent_nil (ent_seq (ent_region (ent_value (ov_load_agg (vs := C1_) rfl F_agg_41 F_size_41 (reads_boxW (i := 0) rfl)) rfl rfl rfl ?_))))
 obtain ⟨x6,h6,H⟩ := thn_elim H
 let C0_ : List Value := [I x6.1,I x6.2.1,L0,I x6.2.2.1,I x6.2.2.2.1,bool x6.2.2.2.2.1,bool x6.2.2.2.2.2.1,bool x6.2.2.2.2.2.2.1,bool x6.2.2.2.2.2.2.2.1,bool x6.2.2.2.2.2.2.2.2.1,bool x6.2.2.2.2.2.2.2.2.2.1,bool x6.2.2.2.2.2.2.2.2.2.2.1,bool x6.2.2.2.2.2.2.2.2.2.2.2.1,str x6.2.2.2.2.2.2.2.2.2.2.2.2.1,str x6.2.2.2.2.2.2.2.2.2.2.2.2.2.1,str x6.2.2.2.2.2.2.2.2.2.2.2.2.2.2.1,str x6.2.2.2.2.2.2.2.2.2.2.2.2.2.2.2.1,I x6.2.2.2.2.2.2.2.2.2.2.2.2.2.2.2.2.1,I x6.2.2.2.2.2.2.2.2.2.2.2.2.2.2.2.2.2.1,I x6.2.2.2.2.2.2.2.2.2.2.2.2.2.2.2.2.2.2.1,I x6.2.2.2.2.2.2.2.2.2.2.2.2.2.2.2.2.2.2.2.1,I x6.2.2.2.2.2.2.2.2.2.2.2.2.2.2.2.2.2.2.2.2.1,I x6.2.2.2.2.2.2.2.2.2.2.2.2.2.2.2.2.2.2.2.2.2.1,I x6.2.2.2.2.2.2.2.2.2.2.2.2.2.2.2.2.2.2.2.2.2.2.1,I x6.2.2.2.2.2.2.2.2.2.2.2.2.2.2.2.2.2.2.2.2.2.2.2.1,I x6.2.2.2.2.2.2.2.2.2.2.2.2.2.2.2.2.2.2.2.2.2.2.2.2,L0]
 refine ent_op (ot_call0 (first := []) (cap := []) (xs := [.tmp 8]) rfl rfl F_call_70 rfl (script_bare_NN.spec a0_17 a0_18 a0_19 a0_20 a0_21 a0_22 a0_23 a0_24 a0_25 _ h6)) rfl rfl rfl ?_
 rintro _ _ ⟨rfl,rfl⟩
 refine ent_op (ot_alloc F_zero_41) rfl rfl rfl ?_
 rintro _ _ ⟨b4,rfl,rfl⟩
 refine ent_op0 (ot_storeG (cs := [I 0,I 0,L0,I 0,I 0,B0,B0,B0,B0,B0,B0,B0,B0,S0,S0,S0,S0,I 0,I 0,I 0,I 0,I 0,I 0,I 0,I 0,I 0,L0]) (cs' := C0_) (us := C0_) (L' := [box b4 41 C0_,box b3 41 C1_]) 0 rfl rfl rfl (one_all rfl) F_size_41 rfl rfl (by simp [C1_,C0_]) rfl) rfl rfl ?_
 rintro _ _ rfl
 refine ent_nil (ent_seq (ent_seq (ent_region (ent_value (ov_fieldAddr (sz := 0) (o := 0) rfl F_field_41_0 F_size_3) rfl rfl rfl (ent_value (ov_load (v := (I 3)) rfl F_agg_3 (reads_box1 (i := 1) rfl rfl)) rfl rfl rfl (ent_value (ov_bin rfl rfl (b_lss _ _ _)) rfl rfl rfl (ent_value (ov_move rfl) rfl rfl rfl ?_)))))))
 refine ent_value_on (ov_fieldAddr (sz := 0) (o := 0) rfl F_field_41_0 F_size_3) rfl rfl rfl rfl rfl rfl ?_
 refine ent_value_on (ov_load (v := (I 3)) rfl F_agg_3 (reads_box1 (i := 1) rfl rfl)) rfl rfl rfl rfl rfl rfl ?_
 refine ent_value_on (ov_bin rfl rfl (b_gtr _ _ _)) rfl rfl rfl rfl rfl rfl ?_
 refine ent_value (ov_pick rfl rfl rfl rfl) rfl rfl rfl (ent_value (ov_move rfl) rfl rfl rfl ?_)
 refine ent_value_on (ov_load_agg (vs := C0_) rfl F_agg_41 F_size_41 (reads_boxW (i := 0) rfl)) rfl rfl rfl rfl rfl rfl ?_
 refine ent_op_on (ot_buildSlice (sz := 26) (xs := [.tmp 19]) (cs := fl enc_Api_Step [(⟨x6.1,x6.2.1,(⟨slice none 0 0,[]⟩ : Sl Api_Fact),(⟨x6.2.2.1,x6.2.2.2.1,x6.2.2.2.2.1,x6.2.2.2.2.2.1,x6.2.2.2.2.2.2.1,x6.2.2.2.2.2.2.2.1,x6.2.2.2.2.2.2.2.2.1,x6.2.2.2.2.2.2.2.2.2.1,x6.2.2.2.2.2.2.2.2.2.2.1,x6.2.2.2.2.2.2.2.2.2.2.2.1,x6.2.2.2.2.2.2.2.2.2.2.2.2.1,x6.2.2.2.2.2.2.2.2.2.2.2.2.2.1,x6.2.2.2.2.2.2.2.2.2.2.2.2.2.2.1,x6.2.2.2.2.2.2.2.2.2.2.2.2.2.2.2.1⟩ : Api_Query),(⟨x6.2.2.2.2.2.2.2.2.2.2.2.2.2.2.2.2.1,x6.2.2.2.2.2.2.2.2.2.2.2.2.2.2.2.2.2.1,x6.2.2.2.2.2.2.2.2.2.2.2.2.2.2.2.2.2.2.1,x6.2.2.2.2.2.2.2.2.2.2.2.2.2.2.2.2.2.2.2.1,x6.2.2.2.2.2.2.2.2.2.2.2.2.2.2.2.2.2.2.2.2.1,x6.2.2.2.2.2.2.2.2.2.2.2.2.2.2.2.2.2.2.2.2.2.1,x6.2.2.2.2.2.2.2.2.2.2.2.2.2.2.2.2.2.2.2.2.2.2.1,x6.2.2.2.2.2.2.2.2.2.2.2.2.2.2.2.2.2.2.2.2.2.2.2.1,x6.2.2.2.2.2.2.2.2.2.2.2.2.2.2.2.2.2.2.2.2.2.2.2.2⟩ : Api_Policy),(⟨slice none 0 0,[]⟩ : Sl Bool)⟩ : Api_Step)]) rfl rfl F_slice_47 F_size_41 F_zero_41 rfl rfl (all_size rfl) rfl (by decide)) rfl rfl rfl rfl rfl rfl ?_
 rintro sv7 _ rfl
 refine ent_value_on (ov_fieldAddr (sz := 0) (o := 0) rfl F_field_41_0 F_size_3) rfl rfl rfl rfl rfl rfl ?_
 refine ent_value_on (ov_load (v := (I 3)) rfl F_agg_3 (reads_box1 (i := 2) rfl rfl)) rfl rfl rfl rfl rfl rfl ?_
 refine ent_value_on (ov_build (is := [0]) (xs := [.tmp 22]) (vs := [I 3]) rfl rfl (build_struct (cs := [I 3,I 0,L0,I 0,I 0,B0,B0,B0,B0,B0,B0,B0,B0,S0,S0,S0,S0,I 0,I 0,I 0,I 0,I 0,I 0,I 0,I 0,I 0,L0]) F_zero_41 F_places_41 rfl)) rfl rfl rfl rfl rfl rfl ?_
 refine ent_op_on (ot_buildSlice (sz := 26) (xs := [.tmp 23]) (cs := fl enc_Api_Step [(⟨3,0,(⟨slice none 0 0,[]⟩ : Sl Api_Fact),(⟨0,0,false,false,false,false,false,false,false,false,nB,nB,nB,nB⟩ : Api_Query),(⟨0,0,0,0,0,0,0,0,0⟩ : Api_Policy),(⟨slice none 0 0,[]⟩ : Sl Bool)⟩ : Api_Step)]) rfl rfl F_slice_47 F_size_41 F_zero_41 rfl rfl (all_size rfl) rfl (by decide)) rfl rfl rfl rfl rfl rfl ?_
 rintro sv8 _ rfl
 obtain ⟨x8,h8,H⟩ := Option.bind_eq_some_iff.1 H
 refine ent_op_on (ot_call_same (Lr := [box b4 41 C0_,box b3 41 C1_]) [1,0,2,3] [1,0,2,3] (first := []) (cap := []) (xs := [.tmp 20,.tmp 24]) rfl rfl F_call_71 rfl (script_Same_RR.spec K sv7 (own sv7 41 27 [(⟨x6.1,x6.2.1,(⟨slice none 0 0,[]⟩ : Sl Api_Fact),(⟨x6.2.2.1,x6.2.2.2.1,x6.2.2.2.2.1,x6.2.2.2.2.2.1,x6.2.2.2.2.2.2.1,x6.2.2.2.2.2.2.2.1,x6.2.2.2.2.2.2.2.2.1,x6.2.2.2.2.2.2.2.2.2.1,x6.2.2.2.2.2.2.2.2.2.2.1,x6.2.2.2.2.2.2.2.2.2.2.2.1,x6.2.2.2.2.2.2.2.2.2.2.2.2.1,x6.2.2.2.2.2.2.2.2.2.2.2.2.2.1,x6.2.2.2.2.2.2.2.2.2.2.2.2.2.2.1,x6.2.2.2.2.2.2.2.2.2.2.2.2.2.2.2.1⟩ : Api_Query),(⟨x6.2.2.2.2.2.2.2.2.2.2.2.2.2.2.2.2.1,x6.2.2.2.2.2.2.2.2.2.2.2.2.2.2.2.2.2.1,x6.2.2.2.2.2.2.2.2.2.2.2.2.2.2.2.2.2.2.1,x6.2.2.2.2.2.2.2.2.2.2.2.2.2.2.2.2.2.2.2.1,x6.2.2.2.2.2.2.2.2.2.2.2.2.2.2.2.2.2.2.2.2.1,x6.2.2.2.2.2.2.2.2.2.2.2.2.2.2.2.2.2.2.2.2.2.1,x6.2.2.2.2.2.2.2.2.2.2.2.2.2.2.2.2.2.2.2.2.2.2.1,x6.2.2.2.2.2.2.2.2.2.2.2.2.2.2.2.2.2.2.2.2.2.2.2.1,x6.2.2.2.2.2.2.2.2.2.2.2.2.2.2.2.2.2.2.2.2.2.2.2.2⟩ : Api_Policy),(⟨slice none 0 0,[]⟩ : Sl Bool)⟩ : Api_Step)].length (fl enc_Api_Step [(⟨x6.1,x6.2.1,(⟨slice none 0 0,[]⟩ : Sl Api_Fact),(⟨x6.2.2.1,x6.2.2.2.1,x6.2.2.2.2.1,x6.2.2.2.2.2.1,x6.2.2.2.2.2.2.1,x6.2.2.2.2.2.2.2.1,x6.2.2.2.2.2.2.2.2.1,x6.2.2.2.2.2.2.2.2.2.1,x6.2.2.2.2.2.2.2.2.2.2.1,x6.2.2.2.2.2.2.2.2.2.2.2.1,x6.2.2.2.2.2.2.2.2.2.2.2.2.1,x6.2.2.2.2.2.2.2.2.2.2.2.2.2.1,x6.2.2.2.2.2.2.2.2.2.2.2.2.2.2.1,x6.2.2.2.2.2.2.2.2.2.2.2.2.2.2.2.1⟩ : Api_Query),(⟨x6.2.2.2.2.2.2.2.2.2.2.2.2.2.2.2.2.1,x6.2.2.2.2.2.2.2.2.2.2.2.2.2.2.2.2.2.1,x6.2.2.2.2.2.2.2.2.2.2.2.2.2.2.2.2.2.2.1,x6.2.2.2.2.2.2.2.2.2.2.2.2.2.2.2.2.2.2.2.1,x6.2.2.2.2.2.2.2.2.2.2.2.2.2.2.2.2.2.2.2.2.1,x6.2.2.2.2.2.2.2.2.2.2.2.2.2.2.2.2.2.2.2.2.2.1,x6.2.2.2.2.2.2.2.2.2.2.2.2.2.2.2.2.2.2.2.2.2.2.1,x6.2.2.2.2.2.2.2.2.2.2.2.2.2.2.2.2.2.2.2.2.2.2.2.1,x6.2.2.2.2.2.2.2.2.2.2.2.2.2.2.2.2.2.2.2.2.2.2.2.2⟩ : Api_Policy),(⟨slice none 0 0,[]⟩ : Sl Bool)⟩ : Api_Step)])) sv8 (own sv8 41 27 [(⟨3,0,(⟨slice none 0 0,[]⟩ : Sl Api_Fact),(⟨0,0,false,false,false,false,false,false,false,false,nB,nB,nB,nB⟩ : Api_Query),(⟨0,0,0,0,0,0,0,0,0⟩ : Api_Policy),(⟨slice none 0 0,[]⟩ : Sl Bool)⟩ : Api_Step)].length (fl enc_Api_Step [(⟨3,0,(⟨slice none 0 0,[]⟩ : Sl Api_Fact),(⟨0,0,false,false,false,false,false,false,false,false,nB,nB,nB,nB⟩ : Api_Query),(⟨0,0,0,0,0,0,0,0,0⟩ : Api_Policy),(⟨slice none 0 0,[]⟩ : Sl Bool)⟩ : Api_Step)])) [(⟨x6.1,x6.2.1,(⟨slice none 0 0,[]⟩ : Sl Api_Fact),(⟨x6.2.2.1,x6.2.2.2.1,x6.2.2.2.2.1,x6.2.2.2.2.2.1,x6.2.2.2.2.2.2.1,x6.2.2.2.2.2.2.2.1,x6.2.2.2.2.2.2.2.2.1,x6.2.2.2.2.2.2.2.2.2.1,x6.2.2.2.2.2.2.2.2.2.2.1,x6.2.2.2.2.2.2.2.2.2.2.2.1,x6.2.2.2.2.2.2.2.2.2.2.2.2.1,x6.2.2.2.2.2.2.2.2.2.2.2.2.2.1,x6.2.2.2.2.2.2.2.2.2.2.2.2.2.2.1,x6.2.2.2.2.2.2.2.2.2.2.2.2.2.2.2.1⟩ : Api_Query),(⟨x6.2.2.2.2.2.2.2.2.2.2.2.2.2.2.2.2.1,x6.2.2.2.2.2.2.2.2.2.2.2.2.2.2.2.2.2.1,x6.2.2.2.2.2.2.2.2.2.2.2.2.2.2.2.2.2.2.1,x6.2.2.2.2.2.2.2.2.2.2.2.2.2.2.2.2.2.2.2.1,x6.2.2.2.2.2.2.2.2.2.2.2.2.2.2.2.2.2.2.2.2.1,x6.2.2.2.2.2.2.2.2.2.2.2.2.2.2.2.2.2.2.2.2.2.1,x6.2.2.2.2.2.2.2.2.2.2.2.2.2.2.2.2.2.2.2.2.2.2.1,x6.2.2.2.2.2.2.2.2.2.2.2.2.2.2.2.2.2.2.2.2.2.2.2.1,x6.2.2.2.2.2.2.2.2.2.2.2.2.2.2.2.2.2.2.2.2.2.2.2.2⟩ : Api_Policy),(⟨slice none 0 0,[]⟩ : Sl Bool)⟩ : Api_Step)] [(⟨3,0,(⟨slice none 0 0,[]⟩ : Sl Api_Fact),(⟨0,0,false,false,false,false,false,false,false,false,nB,nB,nB,nB⟩ : Api_Query),(⟨0,0,0,0,0,0,0,0,0⟩ : Api_Policy),(⟨slice none 0 0,[]⟩ : Sl Bool)⟩ : Api_Step)] (isRd_ownx 41) (jag_cons ⟨(isRd_nilA _ _),(isRd_nilA _ _)⟩ jag_nil) (isRd_ownx 41) (jag_cons ⟨(isRd_nilA _ _),(isRd_nilA _ _)⟩ jag_nil) _ h8) (by decide) rfl (by decide) rfl) rfl rfl rfl rfl rfl rfl ?_
 rintro _ _ ⟨rfl,rfl⟩
 refine ent_value_on (ov_un rfl (u_not _)) rfl rfl rfl rfl rfl rfl ?_
 refine ent_value (ov_pick rfl rfl rfl rfl) rfl rfl rfl (ent_nil ?_)
 refine htT H (fun c4 H => ?_) fun c4 H => ?_
 ·refine ent_cond_true rfl c4 (ent_seq (ent_region (ent_value (ov_assign rfl) rfl rfl rfl (ent_nil (ent_retc ?_)))))
  cases H
  refine ent_pick [] (by decide) rfl ?_
  exact ret_tmp rfl rfl ⟨rfl,rfl⟩
 refine ent_cond_false rfl (Bool.eq_false_iff.2 c4) (ent_skip (ent_seq (ent_seq (ent_region (ent_value (ov_fieldAddr (sz := 0) (o := 0) rfl F_field_41_0 F_size_3) rfl rfl rfl (ent_value (ov_load (v := (I 3)) rfl F_agg_3 (reads_box1 (i := 3) rfl rfl)) rfl rfl rfl (ent_nil (ent_block (ent_seq (ent_region (ent_value (ov_bin rfl rfl (b_eql _ _ _)) rfl rfl rfl ?_)))))))))))
 refine ent_value (ov_assign rfl) rfl rfl rfl (ent_nil (ent_cond_false rfl rfl (ent_seq (ent_region (ent_value (ov_bin rfl rfl (b_eql _ _ _)) rfl rfl rfl (ent_value (ov_assign rfl) rfl rfl rfl (ent_nil (ent_cond_false rfl rfl (ent_seq (ent_region (ent_value (ov_bin rfl rfl (b_eql _ _ _)) rfl rfl rfl ?_)))))))))))
 refine ent_value (ov_assign rfl) rfl rfl rfl (ent_nil (ent_cond_true rfl rfl (ent_seq (ent_region (ent_value (ov_fieldAddr (sz := 8) (o := 0) rfl F_field_41_4 F_size_38) rfl rfl rfl (ent_value (ov_load_agg (vs := [I a0_17,I a0_18,I a0_19,I a0_20,I a0_21,I a0_22,I a0_23,I a0_24,I a0_25]) rfl F_agg_38 F_size_38 (reads_boxN (i := 3) rfl rfl)) rfl rfl rfl ?_))))))
 obtain ⟨x10,h10,H⟩ := Option.bind_eq_some_iff.1 H
 refine ent_op (ot_call0 (first := []) (cap := []) (xs := [.tmp 51]) rfl rfl F_call_74 rfl (policy_Check.spec a0_17 a0_18 a0_19 a0_20 a0_21 a0_22 a0_23 a0_24 a0_25 _ h10)) rfl rfl rfl ?_
 rintro _ _ ⟨rfl,rfl⟩
 refine ent_value (ov_bin rfl rfl (b_eql _ _ _)) rfl rfl rfl (ent_value (ov_assign rfl) rfl rfl rfl (ent_nil (ent_retc ?_)))
 cases H
 refine ent_pick [] (by decide) rfl ?_
 exact ret_tmp rfl rfl ⟨rfl,rfl⟩

theorem words_reader_fails_R.spec (K p0 : Nat) (sv0 : Value) (A0 : HP) (l0 : List (List UInt8)) (p0_1 : Int) (hA0 : IsRd A0 sv0 l0.length 1 (fl eS l0)) (r : ((List (List UInt8)) × (List Bool))) (H : words_reader_fails_R K l0 p0_1 = some r) : FnSpec Tryd.prog 47 [pt p0 0] [box p0 72 [sv0,I p0_1],A0] (fun v M => ∃ sv105 : Value,∃ sv106 : Value,IsRd A0 sv105 r.1.length 1 (fl eS r.1) ∧ v = sv106 ∧ M = [box p0 72 [sv105,I p0_1],A0,own sv106 4 1 r.2.length (fl eB r.2)]) := by
 unfold words_reader_fails_R at H
 refine spec_of Tryd.func47 rfl 38 rfl (Nat.le_of_ble_eq_true rfl) fun F w0 => ?_
 show Ent (St 38 w0 F [(0,pt p0 0)] [box p0 72 [sv0,I p0_1],A0]) _
 refine ent_seq (ent_region (ent_value (ov_assign rfl) rfl rfl rfl (ent_nil (ent_seq (ent_seq (ent_region (ent_value (ov_move rfl) rfl rfl rfl (ent_value (ov_nilCheck rfl) rfl rfl rfl (ent_value (ov_fieldAddr (sz := 0) (o := 0) rfl F_field_72_0 F_size_29) rfl rfl rfl (ent_value (ov_load (v := sv0) rfl F_agg_29 (reads_box1 (i := 0) rfl rfl)) rfl rfl rfl (ent_value (ov_len 1 rfl F_slice_29 rfl hA0) rfl rfl rfl ?_)))))))))))
 refine ent_value (ov_bin rfl rfl (b_eql _ _ _)) rfl rfl rfl (ent_nil ?_)
 refine htT H (fun c108 H => ?_) fun c108 H => ?_
 ·refine ent_cond_true rfl (eq_t c108) (ent_seq (ent_region (ent_value (ov_assign rfl) rfl rfl rfl (ent_nil (ent_retc ?_)))))
  cases H
  refine ent_ownnil 4 1 ?_
  refine ent_pick [1,2,0] (by decide) rfl ?_
  exact ret_tmp rfl rfl ⟨_,_,hA0,rfl,rfl⟩
 refine ent_cond_false rfl (eq_f c108) (ent_skip (ent_seq (ent_region (ent_value (ov_move rfl) rfl rfl rfl ?_))))
 obtain ⟨x4,h54,H⟩ := Option.bind_eq_some_iff.1 H
 refine ent_op (ot_call (Lr := []) (first := []) (cap := []) (xs := [.tmp 12]) rfl rfl F_call_42 rfl (words_reader_word_R.spec p0 sv0 A0 l0 p0_1 hA0 _ h54) rfl) rfl rfl rfl ?_
 rintro _ _ ⟨_,⟨sv108,hr5,rfl,rfl⟩,rfl⟩
 refine ent_value (ov_assign rfl) rfl rfl rfl (ent_nil (ent_seq (ent_region (ent_value (ov_move rfl) rfl rfl rfl (ent_value (ov_bin rfl rfl (b_neq_str _ _)) rfl rfl rfl ?_)))))
 obtain ⟨u55,h56,H⟩ := Option.bind_eq_some_iff.1 H
 refine ent_op (ot_call0 (first := []) (cap := []) (xs := [.tmp 15]) rfl rfl F_call_50 rfl (words_must.spec (!(x4.2 == nB)) _ h56)) rfl rfl rfl ?_
 rintro _ _ ⟨rfl,rfl⟩
 refine ent_nil (ent_seq (ent_seq (ent_region (ent_value (ov_move rfl) rfl rfl rfl ?_))))
 obtain ⟨c162,H⟩ := gdT H
 refine ent_op (ot_s2b rfl Tryd.underlying9 F_slice_56 Tryd.underlying5 c162) rfl rfl rfl ?_
 rintro sv161 _ rfl
 refine ent_value (ov_len 0 rfl F_slice_56 rfl (isRd_frzx 5)) rfl rfl rfl (ent_value (ov_move rfl) rfl rfl rfl (ent_nil (ent_block ?_)))
 refine ent_loop (fun k a w => ∃ i4,∃ l6,∃ sv178 : Value,words_reader_fails_R_l0 K x4 k i4 l6 = some r ∧ St 38 w0 F [(2,sv178),(18,sv161),(19,I ((byts x4.2).length : Int)),(20,I i4)] [box p0 72 [sv108,I p0_1],A0,own sv178 4 1 l6.length (fl eB l6),(frz sv161 5 (byts x4.2).length (fl (eI .u8) (byts x4.2)))] a w) K ?_ ?_
 ·refine ent_ownnil 4 1 ?_
  exact ent_fin [2,3,0,1] (by decide) rfl (sub_cons (t := 2) rfl (sub_cons (t := 18) rfl (sub_cons (t := 19) rfl (sub_cons (t := 20) rfl (sub_nil _))))) fun a w h => ⟨_,_,_,H,h⟩
 ·refine fun k => ent_exi fun i4 => ent_exi fun l6 => ent_exi fun sv178 => ent_and fun H4 => ?_
  cases k with
  | zero => exact absurd H4 (by simp [words_reader_fails_R_l0])
  | succ k =>
   rw [words_reader_fails_R_l0] at H4
   refine ent_seq (ent_region (ent_value (ov_bin rfl rfl (b_lss _ _ _)) rfl rfl rfl (ent_nil (ent_seq ?_))))
   refine htF H4 (fun c196 H4 => ?_) fun c196 H4 => ?_
   ·refine ent_cond_false rfl (decide_eq_false c196) (ent_exit (ent_seq (ent_region (ent_value (ov_move rfl) rfl rfl rfl (ent_value (ov_assign rfl) rfl rfl rfl (ent_nil (ent_retc ?_)))))))
    cases H4
    refine ent_pick [0,1,2] (by decide) rfl ?_
    exact ret_tmp rfl rfl ⟨_,_,hr5,rfl,rfl⟩
   refine ent_cond_true rfl (decide_eq_true c196) (ent_skip (ent_seq (ent_block (ent_seq (ent_region ?_)))))
   obtain ⟨c206,H4⟩ := gdT H4
   refine ent_value (ov_indexAddr (sz := 0) 3 rfl rfl F_slice_56 F_size_5 rfl (isRd_frzx 5) c206 c196) rfl rfl rfl ?_
   refine ent_value (ov_load (v := (int .u8 ((byts x4.2).getD i4.toNat 0))) rfl F_agg_5 (reads_rd (i := 3) rfl (isRd_frzx 5) (by simp) (fl_read0 (eI_len _) (ix_lt c206 c196) rfl))) rfl rfl rfl ?_
   refine ent_value (ov_assign rfl) rfl rfl rfl (ent_nil (ent_seq (ent_region (ent_value (ov_move rfl) rfl rfl rfl (ent_value (ov_bin rfl rfl (b_eql _ _ _)) rfl rfl rfl (ent_value (ov_move rfl) rfl rfl rfl ?_))))))
   refine htT H4 (fun c208 H4 => ?_) fun c208 H4 => ?_
   ·refine ent_off rfl rfl rfl (eq_t c208) rfl rfl ?_
    refine ent_off rfl rfl rfl (eq_t c208) rfl rfl ?_
    refine ent_value (ov_pick rfl rfl rfl (pick_t (eq_t c208))) rfl rfl rfl ?_
    obtain ⟨u103,h103,H4⟩ := Option.bind_eq_some_iff.1 H4
    refine ent_op (ot_call0 (first := []) (cap := []) (xs := [.tmp 29]) rfl rfl F_call_50 rfl (words_must.spec true _ h103)) rfl rfl rfl ?_
    rintro _ _ ⟨rfl,rfl⟩
    refine ent_nil (ent_region (ent_value (ov_move rfl) rfl rfl rfl (ent_value (ov_move rfl) rfl rfl rfl (ent_value (ov_bin rfl rfl (b_eql _ _ _)) rfl rfl rfl ?_))))
    refine ent_op (ot_buildSlice (sz := 0) (xs := [.tmp 33]) (cs := fl eB [(((byts x4.2).getD i4.toNat 0) == 49)]) rfl rfl F_slice_39 F_size_4 F_zero_4 rfl rfl (all_size rfl) rfl (by decide)) rfl rfl rfl ?_
    rintro sv205 _ rfl
    obtain ⟨c210,H4⟩ := gdT H4
    refine ent_op (ot_appendx (sz := 0) (xs := l6) (ys := [(((byts x4.2).getD i4.toNat 0) == 49)]) 3 0 rfl rfl F_slice_39 F_size_4 F_zero_4 rfl F_bytes_4 rfl rfl rfl (isRd_ownx 4) rfl eB_one c210) rfl rfl rfl ?_
    rintro sv206 _ rfl
    refine ent_L [own sv205 4 1 [(((byts x4.2).getD i4.toNat 0) == 49)].length (fl eB [(((byts x4.2).getD i4.toNat 0) == 49)]),box p0 72 [sv108,I p0_1],A0,own sv206 4 1 (l6 ++ [(((byts x4.2).getD i4.toNat 0) == 49)]).length (fl eB (l6 ++ [(((byts x4.2).getD i4.toNat 0) == 49)])),(frz sv161 5 (byts x4.2).length (fl (eI .u8) (byts x4.2)))] rfl ?_
    refine ent_value (ov_assign rfl) rfl rfl rfl (ent_nil (ent_region (ent_value (ov_bin rfl rfl (b_add _ _ _) ) rfl rfl rfl (ent_value (ov_move rfl) rfl rfl rfl (ent_nil ?_)))))
    exact ent_fin [1,2,3,4] (by decide) rfl (sub_cons (t := 2) rfl (sub_cons (t := 18) rfl (sub_cons (t := 19) rfl (sub_cons (t := 20) rfl (sub_nil _))))) fun a w h => ⟨k,Nat.lt_succ_self k,_,_,_,H4,h⟩
   refine ent_value_on (ov_move rfl) rfl rfl rfl (eq_f c208) rfl rfl ?_
   refine ent_value_on (ov_bin rfl rfl (b_eql _ _ _)) rfl rfl rfl (eq_f c208) rfl rfl ?_
   refine ent_value (ov_pick rfl rfl rfl (pick_f (eq_f c208))) rfl rfl rfl ?_
   obtain ⟨u104,h104,H4⟩ := Option.bind_eq_some_iff.1 H4
   refine ent_op (ot_call0 (first := []) (cap := []) (xs := [.tmp 29]) rfl rfl F_call_50 rfl (words_must.spec (((byts x4.2).getD i4.toNat 0) == 49) _ h104)) rfl rfl rfl ?_
   rintro _ _ ⟨rfl,rfl⟩
   refine ent_nil (ent_region (ent_value (ov_move rfl) rfl rfl rfl (ent_value (ov_move rfl) rfl rfl rfl (ent_value (ov_bin rfl rfl (b_eql _ _ _)) rfl rfl rfl ?_))))
   refine ent_op (ot_buildSlice (sz := 0) (xs := [.tmp 33]) (cs := fl eB [(((byts x4.2).getD i4.toNat 0) == 49)]) rfl rfl F_slice_39 F_size_4 F_zero_4 rfl rfl (all_size rfl) rfl (by decide)) rfl rfl rfl ?_
   rintro sv209 _ rfl
   obtain ⟨c212,H4⟩ := gdT H4
   refine ent_op (ot_appendx (sz := 0) (xs := l6) (ys := [(((byts x4.2).getD i4.toNat 0) == 49)]) 3 0 rfl rfl F_slice_39 F_size_4 F_zero_4 rfl F_bytes_4 rfl rfl rfl (isRd_ownx 4) rfl eB_one c212) rfl rfl rfl ?_
   rintro sv210 _ rfl
   refine ent_L [own sv209 4 1 [(((byts x4.2).getD i4.toNat 0) == 49)].length (fl eB [(((byts x4.2).getD i4.toNat 0) == 49)]),box p0 72 [sv108,I p0_1],A0,own sv210 4 1 (l6 ++ [(((byts x4.2).getD i4.toNat 0) == 49)]).length (fl eB (l6 ++ [(((byts x4.2).getD i4.toNat 0) == 49)])),(frz sv161 5 (byts x4.2).length (fl (eI .u8) (byts x4.2)))] rfl ?_
   refine ent_value (ov_assign rfl) rfl rfl rfl (ent_nil (ent_region (ent_value (ov_bin rfl rfl (b_add _ _ _) ) rfl rfl rfl (ent_value (ov_move rfl) rfl rfl rfl (ent_nil ?_)))))
   exact ent_fin [1,2,3,4] (by decide) rfl (sub_cons (t := 2) rfl (sub_cons (t := 18) rfl (sub_cons (t := 19) rfl (sub_cons (t := 20) rfl (sub_nil _))))) fun a w h => ⟨k,Nat.lt_succ_self k,_,_,_,H4,h⟩

theorem script_bare_NO.spec (sv0 : Value) (l0 : List Bool) (r : (Int × Int × Int × Int × Bool × Bool × Bool × Bool × Bool × Bool × Bool × Bool × (List UInt8) × (List UInt8) × (List UInt8) × (List UInt8) × Int × Int × Int × Int × Int × Int × Int × Int × Int)) (H : script_bare_NO l0 = r) : FnSpec Tryd.prog 70 [agg #[I 6,I 0,L0,I 0,I 0,B0,B0,B0,B0,B0,B0,B0,B0,S0,S0,S0,S0,I 0,I 0,I 0,I 0,I 0,I 0,I 0,I 0,I 0,sv0]] [own sv0 4 1 l0.length (fl eB l0)] (fun v M => v = (agg #[I r.1,I r.2.1,L0,I r.2.2.1,I r.2.2.2.1,bool r.2.2.2.2.1,bool r.2.2.2.2.2.1,bool r.2.2.2.2.2.2.1,bool r.2.2.2.2.2.2.2.1,bool r.2.2.2.2.2.2.2.2.1,bool r.2.2.2.2.2.2.2.2.2.1,bool r.2.2.2.2.2.2.2.2.2.2.1,bool r.2.2.2.2.2.2.2.2.2.2.2.1,str r.2.2.2.2.2.2.2.2.2.2.2.2.1,str r.2.2.2.2.2.2.2.2.2.2.2.2.2.1,str r.2.2.2.2.2.2.2.2.2.2.2.2.2.2.1,str r.2.2.2.2.2.2.2.2.2.2.2.2.2.2.2.1,I r.2.2.2.2.2.2.2.2.2.2.2.2.2.2.2.2.1,I r.2.2.2.2.2.2.2.2.2.2.2.2.2.2.2.2.2.1,I r.2.2.2.2.2.2.2.2.2.2.2.2.2.2.2.2.2.2.1,I r.2.2.2.2.2.2.2.2.2.2.2.2.2.2.2.2.2.2.2.1,I r.2.2.2.2.2.2.2.2.2.2.2.2.2.2.2.2.2.2.2.2.1,I r.2.2.2.2.2.2.2.2.2.2.2.2.2.2.2.2.2.2.2.2.2.1,I r.2.2.2.2.2.2.2.2.2.2.2.2.2.2.2.2.2.2.2.2.2.2.1,I r.2.2.2.2.2.2.2.2.2.2.2.2.2.2.2.2.2.2.2.2.2.2.2.1,I r.2.2.2.2.2.2.2.2.2.2.2.2.2.2.2.2.2.2.2.2.2.2.2.2,L0]) ∧ M = [own sv0 4 1 l0.length (fl eB l0)]) := by
 unfold script_bare_NO at H
 refine spec_of Tryd.func70 rfl 26 rfl (Nat.le_of_ble_eq_true rfl) fun F w0 => ?_
 let C2_ : List Value := [I 0,I 0,L0,I 0,I 0,B0,B0,B0,B0,B0,B0,B0,B0,S0,S0,S0,S0,I 0,I 0,I 0,I 0,I 0,I 0,I 0,I 0,I 0,L0]
 let C1_ : List Value := [I 6,I 0,L0,I 0,I 0,B0,B0,B0,B0,B0,B0,B0,B0,S0,S0,S0,S0,I 0,I 0,I 0,I 0,I 0,I 0,I 0,I 0,I 0,sv0]
 let C0_ : List Value := [I 6,I 0,L0,I 0,I 0,B0,B0,B0,B0,B0,B0,B0,B0,S0,S0,S0,S0,I 0,I 0,I 0,I 0,I 0,I 0,I 0,I 0,I 0,L0]
 show Ent (St 26 w0 F [(0,agg #[I 6,I 0,L0,I 0,I 0,B0,B0,B0,B0,B0,B0,B0,B0,S0,S0,S0,S0,I 0,I 0,I 0,I 0,I 0,I 0,I 0,I 0,I 0,sv0])] [own sv0 4 1 l0.length (fl eB l0)]) _
 refine ent_seq (ent_region ?_)
 refine ent_op (ot_box (cs := C1_) rfl rfl) rfl rfl rfl ?_
 rintro _ _ ⟨b3,rfl,rfl⟩
 refine ent_op (ot_alloc F_zero_41) rfl rfl rfl ?_
 rintro _ _ ⟨b4,rfl,rfl⟩
 refine ent_nil (ent_seq (ent_seq (ent_region (ent_value (ov_fieldAddr (sz := 0) (o := 0) rfl F_field_41_0 F_size_3) rfl rfl rfl (ent_value (ov_load (v := (I 6)) rfl F_agg_3 (reads_box1 (i := 1) rfl rfl)) rfl rfl rfl (ent_nil (ent_block (ent_seq (ent_region (ent_value (ov_bin rfl rfl (b_eql _ _ _)) rfl rfl rfl (ent_value (ov_assign rfl) rfl rfl rfl ?_)))))))))))
 refine ent_nil (ent_cond_false rfl rfl (ent_seq (ent_region (ent_value (ov_bin rfl rfl (b_eql _ _ _)) rfl rfl rfl (ent_value (ov_assign rfl) rfl rfl rfl (ent_nil (ent_cond_false rfl rfl (ent_seq (ent_region (ent_value (ov_bin rfl rfl (b_eql _ _ _)) rfl rfl rfl (ent_value (ov_assign rfl) rfl rfl rfl ?_)))))))))))
 refine ent_nil (ent_cond_false rfl rfl (ent_seq (ent_seq (ent_region (ent_value (ov_bin rfl rfl (b_eql _ _ _)) rfl rfl rfl (ent_value (ov_assign rfl) rfl rfl rfl (ent_nil (ent_cond_false rfl rfl (ent_seq (ent_region (ent_value (ov_bin rfl rfl (b_eql _ _ _)) rfl rfl rfl ?_)))))))))))
 refine ent_value (ov_assign rfl) rfl rfl rfl (ent_nil (ent_cond_false rfl rfl (ent_seq (ent_region (ent_value (ov_bin rfl rfl (b_eql _ _ _)) rfl rfl rfl (ent_value (ov_assign rfl) rfl rfl rfl (ent_nil (ent_cond_false rfl rfl (ent_region (ent_value (ov_bin rfl rfl (b_eql _ _ _)) rfl rfl rfl (ent_value (ov_assign rfl) rfl rfl rfl ?_)))))))))))
 refine ent_nil (ent_cond_false rfl rfl (ent_seq (ent_region (ent_value (ov_bin rfl rfl (b_eql _ _ _)) rfl rfl rfl (ent_value (ov_assign rfl) rfl rfl rfl (ent_nil (ent_cond_true rfl rfl (ent_region (ent_value (ov_fieldAddr (sz := 0) (o := 0) rfl F_field_41_5 F_size_39) rfl rfl rfl ?_)))))))))
 refine ent_op0 (ot_storeG (cs := C1_) (cs' := C0_) (us := [L0]) (L' := [box b4 41 C2_,box b3 41 C0_,own sv0 4 1 l0.length (fl eB l0)]) 1 rfl rfl rfl (one_all rfl) F_size_39 rfl rfl (by simp [C2_,C1_,C0_]) rfl) rfl rfl ?_
 rintro _ _ rfl
 refine ent_nil (ent_seq (ent_region (ent_value (ov_load_agg (vs := C0_) rfl F_agg_41 F_size_41 (reads_boxW (i := 1) rfl)) rfl rfl rfl ?_)))
 refine ent_op0 (ot_storeG (cs := C2_) (cs' := C0_) (us := C0_) (L' := [box b4 41 C0_,box b3 41 C0_,own sv0 4 1 l0.length (fl eB l0)]) 0 rfl rfl rfl (one_all rfl) F_size_41 rfl rfl (by simp [C2_,C1_,C0_]) rfl) rfl rfl ?_
 rintro _ _ rfl
 refine ent_nil (ent_retc ?_)
 subst H
 exact ret_memp [2] (by decide) rfl (vs := [agg #[I 6,I 0,L0,I 0,I 0,B0,B0,B0,B0,B0,B0,B0,B0,S0,S0,S0,S0,I 0,I 0,I 0,I 0,I 0,I 0,I 0,I 0,I 0,L0]]) rfl ⟨⟨_,C0_,rfl,reads_boxW (i := 0) rfl,.inl ⟨F_agg_41,F_size_41,rfl⟩⟩,trivial⟩ _ rfl ⟨rfl,rfl⟩

theorem script_Right_NO.spec (K : Nat) (sv0 : Value) (l0 : List Bool) (a1 : Int) (r : Bool) (H : script_Right_NO K l0 a1 = some r) : FnSpec Tryd.prog 51 [agg #[I 6,I 0,L0,I 0,I 0,B0,B0,B0,B0,B0,B0,B0,B0,S0,S0,S0,S0,I 0,I 0,I 0,I 0,I 0,I 0,I 0,I 0,I 0,sv0],I a1] [own sv0 4 1 l0.length (fl eB l0)] (fun v M => v = (bool r) ∧ M = [own sv0 4 1 l0.length (fl eB l0)]) := by
 unfold script_Right_NO at H
 refine spec_of Tryd.func51 rfl 58 rfl (Nat.le_of_ble_eq_true rfl) fun F w0 => ?_
 let C1_ : List Value := [I 6,I 0,L0,I 0,I 0,B0,B0,B0,B0,B0,B0,B0,B0,S0,S0,S0,S0,I 0,I 0,I 0,I 0,I 0,I 0,I 0,I 0,I 0,sv0]
 show Ent (St 58 w0 F [(0,agg #[I 6,I 0,L0,I 0,I 0,B0,B0,B0,B0,B0,B0,B0,B0,S0,S0,S0,S0,I 0,I 0,I 0,I 0,I 0,I 0,I 0,I 0,I 0,sv0]),(1,I a1)] [own sv0 4 1 l0.length (fl eB l0)]) _
 refine ent_seq (ent_region ?_)
 refine ent_op (ot_box (cs := C1_) rfl rfl) rfl rfl rfl ?_
 rintro _ _ ⟨b3,rfl,rfl⟩
 refine ent_value (ov_assign rfl) rfl rfl rfl (ent_nil (ent_seq (ent_region (ent_value (ov_load_agg (vs := C1_) rfl F_agg_41 F_size_41 (reads_boxW (i := 0) rfl)) rfl rfl rfl ?_))))
 obtain ⟨x4,h4,H⟩ := thn_elim H
 let C0_ : List Value := [I x4.1,I x4.2.1,L0,I x4.2.2.1,I x4.2.2.2.1,bool x4.2.2.2.2.1,bool x4.2.2.2.2.2.1,bool x4.2.2.2.2.2.2.1,bool x4.2.2.2.2.2.2.2.1,bool x4.2.2.2.2.2.2.2.2.1,bool x4.2.2.2.2.2.2.2.2.2.1,bool x4.2.2.2.2.2.2.2.2.2.2.1,bool x4.2.2.2.2.2.2.2.2.2.2.2.1,str x4.2.2.2.2.2.2.2.2.2.2.2.2.1,str x4.2.2.2.2.2.2.2.2.2.2.2.2.2.1,str x4.2.2.2.2.2.2.2.2.2.2.2.2.2.2.1,str x4.2.2.2.2.2.2.2.2.2.2.2.2.2.2.2.1,I x4.2.2.2.2.2.2.2.2.2.2.2.2.2.2.2.2.1,I x4.2.2.2.2.2.2.2.2.2.2.2.2.2.2.2.2.2.1,I x4.2.2.2.2.2.2.2.2.2.2.2.2.2.2.2.2.2.2.1,I x4.2.2.2.2.2.2.2.2.2.2.2.2.2.2.2.2.2.2.2.1,I x4.2.2.2.2.2.2.2.2.2.2.2.2.2.2.2.2.2.2.2.2.1,I x4.2.2.2.2.2.2.2.2.2.2.2.2.2.2.2.2.2.2.2.2.2.1,I x4.2.2.2.2.2.2.2.2.2.2.2.2.2.2.2.2.2.2.2.2.2.2.1,I x4.2.2.2.2.2.2.2.2.2.2.2.2.2.2.2.2.2.2.2.2.2.2.2.1,I x4.2.2.2.2.2.2.2.2.2.2.2.2.2.2.2.2.2.2.2.2.2.2.2.2,L0]
 refine ent_op (ot_call_same (Lr := [box b3 41 C1_]) [1,0] [1,0] (first := []) (cap := []) (xs := [.tmp 8]) rfl rfl F_call_70 rfl (script_bare_NO.spec sv0 l0 _ h4) (by decide) rfl (by decide) rfl) rfl rfl rfl ?_
 rintro _ _ ⟨rfl,rfl⟩
 refine ent_op (ot_alloc F_zero_41) rfl rfl rfl ?_
 rintro _ _ ⟨b4,rfl,rfl⟩
 refine ent_op0 (ot_storeG (cs := [I 0,I 0,L0,I 0,I 0,B0,B0,B0,B0,B0,B0,B0,B0,S0,S0,S0,S0,I 0,I 0,I 0,I 0,I 0,I 0,I 0,I 0,I 0,L0]) (cs' := C0_) (us := C0_) (L' := [box b4 41 C0_,box b3 41 C1_,own sv0 4 1 l0.length (fl eB l0)]) 0 rfl rfl rfl (one_all rfl) F_size_41 rfl rfl (by simp [C1_,C0_]) rfl) rfl rfl ?_
 rintro _ _ rfl
 refine ent_nil (ent_seq (ent_seq (ent_region (ent_value (ov_fieldAddr (sz := 0) (o := 0) rfl F_field_41_0 F_size_3) rfl rfl rfl (ent_value (ov_load (v := (I 6)) rfl F_agg_3 (reads_box1 (i := 1) rfl rfl)) rfl rfl rfl (ent_value (ov_bin rfl rfl (b_lss _ _ _)) rfl rfl rfl (ent_value (ov_move rfl) rfl rfl rfl ?_)))))))
 refine ent_value_on (ov_fieldAddr (sz := 0) (o := 0) rfl F_field_41_0 F_size_3) rfl rfl rfl rfl rfl rfl ?_
 refine ent_value_on (ov_load (v := (I 6)) rfl F_agg_3 (reads_box1 (i := 1) rfl rfl)) rfl rfl rfl rfl rfl rfl ?_
 refine ent_value_on (ov_bin rfl rfl (b_gtr _ _ _)) rfl rfl rfl rfl rfl rfl ?_
 refine ent_value (ov_pick rfl rfl rfl rfl) rfl rfl rfl (ent_value (ov_move rfl) rfl rfl rfl ?_)
 refine ent_value_on (ov_load_agg (vs := C0_) rfl F_agg_41 F_size_41 (reads_boxW (i := 0) rfl)) rfl rfl rfl rfl rfl rfl ?_
 refine ent_op_on (ot_buildSlice (sz := 26) (xs := [.tmp 19]) (cs := fl enc_Api_Step [(⟨x4.1,x4.2.1,(⟨slice none 0 0,[]⟩ : Sl Api_Fact),(⟨x4.2.2.1,x4.2.2.2.1,x4.2.2.2.2.1,x4.2.2.2.2.2.1,x4.2.2.2.2.2.2.1,x4.2.2.2.2.2.2.2.1,x4.2.2.2.2.2.2.2.2.1,x4.2.2.2.2.2.2.2.2.2.1,x4.2.2.2.2.2.2.2.2.2.2.1,x4.2.2.2.2.2.2.2.2.2.2.2.1,x4.2.2.2.2.2.2.2.2.2.2.2.2.1,x4.2.2.2.2.2.2.2.2.2.2.2.2.2.1,x4.2.2.2.2.2.2.2.2.2.2.2.2.2.2.1,x4.2.2.2.2.2.2.2.2.2.2.2.2.2.2.2.1⟩ : Api_Query),(⟨x4.2.2.2.2.2.2.2.2.2.2.2.2.2.2.2.2.1,x4.2.2.2.2.2.2.2.2.2.2.2.2.2.2.2.2.2.1,x4.2.2.2.2.2.2.2.2.2.2.2.2.2.2.2.2.2.2.1,x4.2.2.2.2.2.2.2.2.2.2.2.2.2.2.2.2.2.2.2.1,x4.2.2.2.2.2.2.2.2.2.2.2.2.2.2.2.2.2.2.2.2.1,x4.2.2.2.2.2.2.2.2.2.2.2.2.2.2.2.2.2.2.2.2.2.1,x4.2.2.2.2.2.2.2.2.2.2.2.2.2.2.2.2.2.2.2.2.2.2.1,x4.2.2.2.2.2.2.2.2.2.2.2.2.2.2.2.2.2.2.2.2.2.2.2.1,x4.2.2.2.2.2.2.2.2.2.2.2.2.2.2.2.2.2.2.2.2.2.2.2.2⟩ : Api_Policy),(⟨slice none 0 0,[]⟩ : Sl Bool)⟩ : Api_Step)]) rfl rfl F_slice_47 F_size_41 F_zero_41 rfl rfl (all_size rfl) rfl (by decide)) rfl rfl rfl rfl rfl rfl ?_
 rintro sv7 _ rfl
 refine ent_value_on (ov_fieldAddr (sz := 0) (o := 0) rfl F_field_41_0 F_size_3) rfl rfl rfl rfl rfl rfl ?_
 refine ent_value_on (ov_load (v := (I 6)) rfl F_agg_3 (reads_box1 (i := 2) rfl rfl)) rfl rfl rfl rfl rfl rfl ?_
 refine ent_value_on (ov_build (is := [0]) (xs := [.tmp 22]) (vs := [I 6]) rfl rfl (build_struct (cs := [I 6,I 0,L0,I 0,I 0,B0,B0,B0,B0,B0,B0,B0,B0,S0,S0,S0,S0,I 0,I 0,I 0,I 0,I 0,I 0,I 0,I 0,I 0,L0]) F_zero_41 F_places_41 rfl)) rfl rfl rfl rfl rfl rfl ?_
 refine ent_op_on (ot_buildSlice (sz := 26) (xs := [.tmp 23]) (cs := fl enc_Api_Step [(⟨6,0,(⟨slice none 0 0,[]⟩ : Sl Api_Fact),(⟨0,0,false,false,false,false,false,false,false,false,nB,nB,nB,nB⟩ : Api_Query),(⟨0,0,0,0,0,0,0,0,0⟩ : Api_Policy),(⟨slice none 0 0,[]⟩ : Sl Bool)⟩ : Api_Step)]) rfl rfl F_slice_47 F_size_41 F_zero_41 rfl rfl (all_size rfl) rfl (by decide)) rfl rfl rfl rfl rfl rfl ?_
 rintro sv8 _ rfl
 obtain ⟨x6,h6,H⟩ := Option.bind_eq_some_iff.1 H
 refine ent_op_on (ot_call_same (Lr := [box b4 41 C0_,box b3 41 C1_,own sv0 4 1 l0.length (fl eB l0)]) [1,0,2,3,4] [1,0,2,3,4] (first := []) (cap := []) (xs := [.tmp 20,.tmp 24]) rfl rfl F_call_71 rfl (script_Same_RR.spec K sv7 (own sv7 41 27 [(⟨x4.1,x4.2.1,(⟨slice none 0 0,[]⟩ : Sl Api_Fact),(⟨x4.2.2.1,x4.2.2.2.1,x4.2.2.2.2.1,x4.2.2.2.2.2.1,x4.2.2.2.2.2.2.1,x4.2.2.2.2.2.2.2.1,x4.2.2.2.2.2.2.2.2.1,x4.2.2.2.2.2.2.2.2.2.1,x4.2.2.2.2.2.2.2.2.2.2.1,x4.2.2.2.2.2.2.2.2.2.2.2.1,x4.2.2.2.2.2.2.2.2.2.2.2.2.1,x4.2.2.2.2.2.2.2.2.2.2.2.2.2.1,x4.2.2.2.2.2.2.2.2.2.2.2.2.2.2.1,x4.2.2.2.2.2.2.2.2.2.2.2.2.2.2.2.1⟩ : Api_Query),(⟨x4.2.2.2.2.2.2.2.2.2.2.2.2.2.2.2.2.1,x4.2.2.2.2.2.2.2.2.2.2.2.2.2.2.2.2.2.1,x4.2.2.2.2.2.2.2.2.2.2.2.2.2.2.2.2.2.2.1,x4.2.2.2.2.2.2.2.2.2.2.2.2.2.2.2.2.2.2.2.1,x4.2.2.2.2.2.2.2.2.2.2.2.2.2.2.2.2.2.2.2.2.1,x4.2.2.2.2.2.2.2.2.2.2.2.2.2.2.2.2.2.2.2.2.2.1,x4.2.2.2.2.2.2.2.2.2.2.2.2.2.2.2.2.2.2.2.2.2.2.1,x4.2.2.2.2.2.2.2.2.2.2.2.2.2.2.2.2.2.2.2.2.2.2.2.1,x4.2.2.2.2.2.2.2.2.2.2.2.2.2.2.2.2.2.2.2.2.2.2.2.2⟩ : Api_Policy),(⟨slice none 0 0,[]⟩ : Sl Bool)⟩ : Api_Step)].length (fl enc_Api_Step [(⟨x4.1,x4.2.1,(⟨slice none 0 0,[]⟩ : Sl Api_Fact),(⟨x4.2.2.1,x4.2.2.2.1,x4.2.2.2.2.1,x4.2.2.2.2.2.1,x4.2.2.2.2.2.2.1,x4.2.2.2.2.2.2.2.1,x4.2.2.2.2.2.2.2.2.1,x4.2.2.2.2.2.2.2.2.2.1,x4.2.2.2.2.2.2.2.2.2.2.1,x4.2.2.2.2.2.2.2.2.2.2.2.1,x4.2.2.2.2.2.2.2.2.2.2.2.2.1,x4.2.2.2.2.2.2.2.2.2.2.2.2.2.1,x4.2.2.2.2.2.2.2.2.2.2.2.2.2.2.1,x4.2.2.2.2.2.2.2.2.2.2.2.2.2.2.2.1⟩ : Api_Query),(⟨x4.2.2.2.2.2.2.2.2.2.2.2.2.2.2.2.2.1,x4.2.2.2.2.2.2.2.2.2.2.2.2.2.2.2.2.2.1,x4.2.2.2.2.2.2.2.2.2.2.2.2.2.2.2.2.2.2.1,x4.2.2.2.2.2.2.2.2.2.2.2.2.2.2.2.2.2.2.2.1,x4.2.2.2.2.2.2.2.2.2.2.2.2.2.2.2.2.2.2.2.2.1,x4.2.2.2.2.2.2.2.2.2.2.2.2.2.2.2.2.2.2.2.2.2.1,x4.2.2.2.2.2.2.2.2.2.2.2.2.2.2.2.2.2.2.2.2.2.2.1,x4.2.2.2.2.2.2.2.2.2.2.2.2.2.2.2.2.2.2.2.2.2.2.2.1,x4.2.2.2.2.2.2.2.2.2.2.2.2.2.2.2.2.2.2.2.2.2.2.2.2⟩ : Api_Policy),(⟨slice none 0 0,[]⟩ : Sl Bool)⟩ : Api_Step)])) sv8 (own sv8 41 27 [(⟨6,0,(⟨slice none 0 0,[]⟩ : Sl Api_Fact),(⟨0,0,false,false,false,false,false,false,false,false,nB,nB,nB,nB⟩ : Api_Query),(⟨0,0,0,0,0,0,0,0,0⟩ : Api_Policy),(⟨slice none 0 0,[]⟩ : Sl Bool)⟩ : Api_Step)].length (fl enc_Api_Step [(⟨6,0,(⟨slice none 0 0,[]⟩ : Sl Api_Fact),(⟨0,0,false,false,false,false,false,false,false,false,nB,nB,nB,nB⟩ : Api_Query),(⟨0,0,0,0,0,0,0,0,0⟩ : Api_Policy),(⟨slice none 0 0,[]⟩ : Sl Bool)⟩ : Api_Step)])) [(⟨x4.1,x4.2.1,(⟨slice none 0 0,[]⟩ : Sl Api_Fact),(⟨x4.2.2.1,x4.2.2.2.1,x4.2.2.2.2.1,x4.2.2.2.2.2.1,x4.2.2.2.2.2.2.1,x4.2.2.2.2.2.2.2.1,x4.2.2.2.2.2.2.2.2.1,x4.2.2.2.2.2.2.2.2.2.1,x4.2.2.2.2.2.2.2.2.2.2.1,x4.2.2.2.2.2.2.2.2.2.2.2.1,x4.2.2.2.2.2.2.2.2.2.2.2.2.1,x4.2.2.2.2.2.2.2.2.2.2.2.2.2.1,x4.2.2.2.2.2.2.2.2.2.2.2.2.2.2.1,x4.2.2.2.2.2.2.2.2.2.2.2.2.2.2.2.1⟩ : Api_Query),(⟨x4.2.2.2.2.2.2.2.2.2.2.2.2.2.2.2.2.1,x4.2.2.2.2.2.2.2.2.2.2.2.2.2.2.2.2.2.1,x4.2.2.2.2.2.2.2.2.2.2.2.2.2.2.2.2.2.2.1,x4.2.2.2.2.2.2.2.2.2.2.2.2.2.2.2.2.2.2.2.1,x4.2.2.2.2.2.2.2.2.2.2.2.2.2.2.2.2.2.2.2.2.1,x4.2.2.2.2.2.2.2.2.2.2.2.2.2.2.2.2.2.2.2.2.2.1,x4.2.2.2.2.2.2.2.2.2.2.2.2.2.2.2.2.2.2.2.2.2.2.1,x4.2.2.2.2.2.2.2.2.2.2.2.2.2.2.2.2.2.2.2.2.2.2.2.1,x4.2.2.2.2.2.2.2.2.2.2.2.2.2.2.2.2.2.2.2.2.2.2.2.2⟩ : Api_Policy),(⟨slice none 0 0,[]⟩ : Sl Bool)⟩ : Api_Step)] [(⟨6,0,(⟨slice none 0 0,[]⟩ : Sl Api_Fact),(⟨0,0,false,false,false,false,false,false,false,false,nB,nB,nB,nB⟩ : Api_Query),(⟨0,0,0,0,0,0,0,0,0⟩ : Api_Policy),(⟨slice none 0 0,[]⟩ : Sl Bool)⟩ : Api_Step)] (isRd_ownx 41) (jag_cons ⟨(isRd_nilA _ _),(isRd_nilA _ _)⟩ jag_nil) (isRd_ownx 41) (jag_cons ⟨(isRd_nilA _ _),(isRd_nilA _ _)⟩ jag_nil) _ h6) (by decide) rfl (by decide) rfl) rfl rfl rfl rfl rfl rfl ?_
 rintro _ _ ⟨rfl,rfl⟩
 refine ent_value_on (ov_un rfl (u_not _)) rfl rfl rfl rfl rfl rfl ?_
 refine ent_value (ov_pick rfl rfl rfl rfl) rfl rfl rfl (ent_nil ?_)
 refine htT H (fun c4 H => ?_) fun c4 H => ?_
 ·refine ent_cond_true rfl c4 (ent_seq (ent_region (ent_value (ov_assign rfl) rfl rfl rfl (ent_nil (ent_retc ?_)))))
  cases H
  refine ent_pick [4] (by decide) rfl ?_
  exact ret_tmp rfl rfl ⟨rfl,rfl⟩
 refine ent_cond_false rfl (Bool.eq_false_iff.2 c4) (ent_skip (ent_seq (ent_seq (ent_region (ent_value (ov_fieldAddr (sz := 0) (o := 0) rfl F_field_41_0 F_size_3) rfl rfl rfl (ent_value (ov_load (v := (I 6)) rfl F_agg_3 (reads_box1 (i := 3) rfl rfl)) rfl rfl rfl (ent_nil (ent_block (ent_seq (ent_region (ent_value (ov_bin rfl rfl (b_eql _ _ _)) rfl rfl rfl ?_)))))))))))
 refine ent_value (ov_assign rfl) rfl rfl rfl (ent_nil (ent_cond_false rfl rfl (ent_seq (ent_region (ent_value (ov_bin rfl rfl (b_eql _ _ _)) rfl rfl rfl (ent_value (ov_assign rfl) rfl rfl rfl (ent_nil (ent_cond_false rfl rfl (ent_seq (ent_region (ent_value (ov_bin rfl rfl (b_eql _ _ _)) rfl rfl rfl ?_)))))))))))
 refine ent_value (ov_assign rfl) rfl rfl rfl (ent_nil (ent_cond_false rfl rfl (ent_skip (ent_seq (ent_region (ent_value (ov_fieldAddr (sz := 0) (o := 0) rfl F_field_41_5 F_size_39) rfl rfl rfl (ent_value (ov_load (v := sv0) rfl F_agg_39 (reads_box1 (i := 3) rfl rfl)) rfl rfl rfl (ent_value (ov_len 4 rfl F_slice_39 rfl (isRd_ownx 4)) rfl rfl rfl (ent_value (ov_bin rfl rfl (b_leq _ _ _)) rfl rfl rfl (ent_value (ov_assign rfl) rfl rfl rfl (ent_nil ?_)))))))))))
 refine ent_retc ?_
 cases H
 refine ent_pick [4] (by decide) rfl ?_
 exact ret_tmp rfl rfl ⟨rfl,rfl⟩

theorem script_bare_NN_2.spec (r : (Int × Int × Int × Int × Bool × Bool × Bool × Bool × Bool × Bool × Bool × Bool × (List UInt8) × (List UInt8) × (List UInt8) × (List UInt8) × Int × Int × Int × Int × Int × Int × Int × Int × Int)) (H : script_bare_NN_2 = r) : FnSpec Tryd.prog 70 [agg #[I 9,I 0,L0,I 0,I 0,B0,B0,B0,B0,B0,B0,B0,B0,S0,S0,S0,S0,I 0,I 0,I 0,I 0,I 0,I 0,I 0,I 0,I 0,L0]] [] (fun v M => v = (agg #[I r.1,I r.2.1,L0,I r.2.2.1,I r.2.2.2.1,bool r.2.2.2.2.1,bool r.2.2.2.2.2.1,bool r.2.2.2.2.2.2.1,bool r.2.2.2.2.2.2.2.1,bool r.2.2.2.2.2.2.2.2.1,bool r.2.2.2.2.2.2.2.2.2.1,bool r.2.2.2.2.2.2.2.2.2.2.1,bool r.2.2.2.2.2.2.2.2.2.2.2.1,str r.2.2.2.2.2.2.2.2.2.2.2.2.1,str r.2.2.2.2.2.2.2.2.2.2.2.2.2.1,str r.2.2.2.2.2.2.2.2.2.2.2.2.2.2.1,str r.2.2.2.2.2.2.2.2.2.2.2.2.2.2.2.1,I r.2.2.2.2.2.2.2.2.2.2.2.2.2.2.2.2.1,I r.2.2.2.2.2.2.2.2.2.2.2.2.2.2.2.2.2.1,I r.2.2.2.2.2.2.2.2.2.2.2.2.2.2.2.2.2.2.1,I r.2.2.2.2.2.2.2.2.2.2.2.2.2.2.2.2.2.2.2.1,I r.2.2.2.2.2.2.2.2.2.2.2.2.2.2.2.2.2.2.2.2.1,I r.2.2.2.2.2.2.2.2.2.2.2.2.2.2.2.2.2.2.2.2.2.1,I r.2.2.2.2.2.2.2.2.2.2.2.2.2.2.2.2.2.2.2.2.2.2.1,I r.2.2.2.2.2.2.2.2.2.2.2.2.2.2.2.2.2.2.2.2.2.2.2.1,I r.2.2.2.2.2.2.2.2.2.2.2.2.2.2.2.2.2.2.2.2.2.2.2.2,L0]) ∧ M = []) := by
 unfold script_bare_NN_2 at H
 refine spec_of Tryd.func70 rfl 26 rfl (Nat.le_of_ble_eq_true rfl) fun F w0 => ?_
 let C1_ : Value := agg #[I 9,I 0,L0,I 0,I 0,B0,B0,B0,B0,B0,B0,B0,B0,S0,S0,S0,S0,I 0,I 0,I 0,I 0,I 0,I 0,I 0,I 0,I 0,L0]
 let C0_ : List Value := [I 9,I 0,L0,I 0,I 0,B0,B0,B0,B0,B0,B0,B0,B0,S0,S0,S0,S0,I 0,I 0,I 0,I 0,I 0,I 0,I 0,I 0,I 0,L0]
 show Ent (St 26 w0 F [(0,C1_)] []) _
 refine ent_seq (ent_region ?_)
 refine ent_op (ot_box (cs := C0_) rfl rfl) rfl rfl rfl ?_
 rintro _ _ ⟨b3,rfl,rfl⟩
 refine ent_op (ot_alloc F_zero_41) rfl rfl rfl ?_
 rintro _ _ ⟨b4,rfl,rfl⟩
 refine ent_nil (ent_seq (ent_seq (ent_region (ent_value (ov_fieldAddr (sz := 0) (o := 0) rfl F_field_41_0 F_size_3) rfl rfl rfl (ent_value (ov_load (v := (I 9)) rfl F_agg_3 (reads_box1 (i := 1) rfl rfl)) rfl rfl rfl (ent_nil (ent_block (ent_seq (ent_region (ent_value (ov_bin rfl rfl (b_eql _ _ _)) rfl rfl rfl (ent_value (ov_assign rfl) rfl rfl rfl ?_)))))))))))
 refine ent_nil (ent_cond_false rfl rfl (ent_seq (ent_region (ent_value (ov_bin rfl rfl (b_eql _ _ _)) rfl rfl rfl (ent_value (ov_assign rfl) rfl rfl rfl (ent_nil (ent_cond_false rfl rfl (ent_seq (ent_region (ent_value (ov_bin rfl rfl (b_eql _ _ _)) rfl rfl rfl (ent_value (ov_assign rfl) rfl rfl rfl ?_)))))))))))
 refine ent_nil (ent_cond_false rfl rfl (ent_seq (ent_seq (ent_region (ent_value (ov_bin rfl rfl (b_eql _ _ _)) rfl rfl rfl (ent_value (ov_assign rfl) rfl rfl rfl (ent_nil (ent_cond_false rfl rfl (ent_seq (ent_region (ent_value (ov_bin rfl rfl (b_eql _ _ _)) rfl rfl rfl ?_)))))))))))
 refine ent_value (ov_assign rfl) rfl rfl rfl (ent_nil (ent_cond_false rfl rfl (ent_seq (ent_region (ent_value (ov_bin rfl rfl (b_eql _ _ _)) rfl rfl rfl (ent_value (ov_assign rfl) rfl rfl rfl (ent_nil (ent_cond_false rfl rfl (ent_region (ent_value (ov_bin rfl rfl (b_eql _ _ _)) rfl rfl rfl (ent_value (ov_assign rfl) rfl rfl rfl ?_)))))))))))
 refine ent_nil (ent_cond_false rfl rfl (ent_seq (ent_region (ent_value (ov_bin rfl rfl (b_eql _ _ _)) rfl rfl rfl (ent_value (ov_assign rfl) rfl rfl rfl (ent_nil (ent_cond_false rfl rfl (ent_skip (ent_seq (ent_region (ent_value (ov_load_agg (vs := C0_) rfl F_agg_41 F_size_41 (reads_boxW (i := 1) rfl)) rfl rfl rfl ?_)))))))))))
 refine ent_op0 (ot_storeG (cs := [I 0,I 0,L0,I 0,I 0,B0,B0,B0,B0,B0,B0,B0,B0,S0,S0,S0,S0,I 0,I 0,I 0,I 0,I 0,I 0,I 0,I 0,I 0,L0]) (cs' := C0_) (us := C0_) (L' := [box b4 41 C0_,box b3 41 C0_]) 0 rfl rfl rfl (one_all rfl) F_size_41 rfl rfl (by simp [C1_,C0_]) rfl) rfl rfl ?_
 rintro _ _ rfl
 refine ent_nil (ent_retc ?_)
 subst H
 exact ret_memp [] (by decide) rfl (vs := [C1_]) rfl ⟨⟨_,C0_,rfl,reads_boxW (i := 0) rfl,.inl ⟨F_agg_41,F_size_41,rfl⟩⟩,trivial⟩ _ rfl ⟨rfl,rfl⟩

theorem script_Right_NN_2.spec (K : Nat) (a1 : Int) (r : Bool) (H : script_Right_NN_2 K a1 = some r) : FnSpec Tryd.prog 51 [agg #[I 9,I 0,L0,I 0,I 0,B0,B0,B0,B0,B0,B0,B0,B0,S0,S0,S0,S0,I 0,I 0,I 0,I 0,I 0,I 0,I 0,I 0,I 0,L0],I a1] [] (fun v M => v = (bool r) ∧ M = []) := by
 unfold script_Right_NN_2 at H
 refine spec_of Tryd.func51 rfl 58 rfl (Nat.le_of_ble_eq_true rfl) fun F w0 => ?_
 let C1_ : List Value := [I 9,I 0,L0,I 0,I 0,B0,B0,B0,B0,B0,B0,B0,B0,S0,S0,S0,S0,I 0,I 0,I 0,I 0,I 0,I 0,I 0,I 0,I 0,L0]
 show Ent (St 58 w0 F [(0,agg #[I 9,I 0,L0,I 0,I 0,B0,B0,B0,B0,B0,B0,B0,B0,S0,S0,S0,S0,I 0,I 0,I 0,I 0,I 0,I 0,I 0,I 0,I 0,L0]),(1,I a1)] []) _
 refine ent_seq (ent_region ?_)
 refine ent_op (ot_box (cs := C1_) rfl rfl) rfl rfl rfl ?_
 rintro _ _ ⟨b3,rfl,rfl⟩
 refine ent_value (ov_assign rfl) rfl rfl rfl (ent_nil (ent_seq (ent_region (ent_value (ov_load_agg (vs := C1_) rfl F_agg_41 F_size_41 (reads_boxW (i := 0) rfl)) rfl rfl rfl ?_))))
 obtain ⟨x4,h4,H⟩ := thn_elim H
 let C0_ : List Value := [I x4.1,I x4.2.1,L0,I x4.2.2.1,I x4.2.2.2.1,bool x4.2.2.2.2.1,bool x4.2.2.2.2.2.1,bool x4.2.2.2.2.2.2.1,bool x4.2.2.2.2.2.2.2.1,bool x4.2.2.2.2.2.2.2.2.1,bool x4.2.2.2.2.2.2.2.2.2.1,bool x4.2.2.2.2.2.2.2.2.2.2.1,bool x4.2.2.2.2.2.2.2.2.2.2.2.1,str x4.2.2.2.2.2.2.2.2.2.2.2.2.1,str x4.2.2.2.2.2.2.2.2.2.2.2.2.2.1,str x4.2.2.2.2.2.2.2.2.2.2.2.2.2.2.1,str x4.2.2.2.2.2.2.2.2.2.2.2.2.2.2.2.1,I x4.2.2.2.2.2.2.2.2.2.2.2.2.2.2.2.2.1,I x4.2.2.2.2.2.2.2.2.2.2.2.2.2.2.2.2.2.1,I x4.2.2.2.2.2.2.2.2.2.2.2.2.2.2.2.2.2.2.1,I x4.2.2.2.2.2.2.2.2.2.2.2.2.2.2.2.2.2.2.2.1,I x4.2.2.2.2.2.2.2.2.2.2.2.2.2.2.2.2.2.2.2.2.1,I x4.2.2.2.2.2.2.2.2.2.2.2.2.2.2.2.2.2.2.2.2.2.1,I x4.2.2.2.2.2.2.2.2.2.2.2.2.2.2.2.2.2.2.2.2.2.2.1,I x4.2.2.2.2.2.2.2.2.2.2.2.2.2.2.2.2.2.2.2.2.2.2.2.1,I x4.2.2.2.2.2.2.2.2.2.2.2.2.2.2.2.2.2.2.2.2.2.2.2.2,L0]
 refine ent_op (ot_call0 (first := []) (cap := []) (xs := [.tmp 8]) rfl rfl F_call_70 rfl (script_bare_NN_2.spec _ h4)) rfl rfl rfl ?_
 rintro _ _ ⟨rfl,rfl⟩
 refine ent_op (ot_alloc F_zero_41) rfl rfl rfl ?_
 rintro _ _ ⟨b4,rfl,rfl⟩
 refine ent_op0 (ot_storeG (cs := [I 0,I 0,L0,I 0,I 0,B0,B0,B0,B0,B0,B0,B0,B0,S0,S0,S0,S0,I 0,I 0,I 0,I 0,I 0,I 0,I 0,I 0,I 0,L0]) (cs' := C0_) (us := C0_) (L' := [box b4 41 C0_,box b3 41 C1_]) 0 rfl rfl rfl (one_all rfl) F_size_41 rfl rfl (by simp [C1_,C0_]) rfl) rfl rfl ?_
 rintro _ _ rfl
 refine ent_nil (ent_seq (ent_seq (ent_region (ent_value (ov_fieldAddr (sz := 0) (o := 0) rfl F_field_41_0 F_size_3) rfl rfl rfl (ent_value (ov_load (v := (I 9)) rfl F_agg_3 (reads_box1 (i := 1) rfl rfl)) rfl rfl rfl (ent_value (ov_bin rfl rfl (b_lss _ _ _)) rfl rfl rfl (ent_value (ov_move rfl) rfl rfl rfl ?_)))))))
 refine ent_value_on (ov_fieldAddr (sz := 0) (o := 0) rfl F_field_41_0 F_size_3) rfl rfl rfl rfl rfl rfl ?_
 refine ent_value_on (ov_load (v := (I 9)) rfl F_agg_3 (reads_box1 (i := 1) rfl rfl)) rfl rfl rfl rfl rfl rfl ?_
 refine ent_value_on (ov_bin rfl rfl (b_gtr _ _ _)) rfl rfl rfl rfl rfl rfl ?_
 refine ent_value (ov_pick rfl rfl rfl rfl) rfl rfl rfl (ent_value (ov_move rfl) rfl rfl rfl ?_)
 refine ent_value_on (ov_load_agg (vs := C0_) rfl F_agg_41 F_size_41 (reads_boxW (i := 0) rfl)) rfl rfl rfl rfl rfl rfl ?_
 refine ent_op_on (ot_buildSlice (sz := 26) (xs := [.tmp 19]) (cs := fl enc_Api_Step [(⟨x4.1,x4.2.1,(⟨slice none 0 0,[]⟩ : Sl Api_Fact),(⟨x4.2.2.1,x4.2.2.2.1,x4.2.2.2.2.1,x4.2.2.2.2.2.1,x4.2.2.2.2.2.2.1,x4.2.2.2.2.2.2.2.1,x4.2.2.2.2.2.2.2.2.1,x4.2.2.2.2.2.2.2.2.2.1,x4.2.2.2.2.2.2.2.2.2.2.1,x4.2.2.2.2.2.2.2.2.2.2.2.1,x4.2.2.2.2.2.2.2.2.2.2.2.2.1,x4.2.2.2.2.2.2.2.2.2.2.2.2.2.1,x4.2.2.2.2.2.2.2.2.2.2.2.2.2.2.1,x4.2.2.2.2.2.2.2.2.2.2.2.2.2.2.2.1⟩ : Api_Query),(⟨x4.2.2.2.2.2.2.2.2.2.2.2.2.2.2.2.2.1,x4.2.2.2.2.2.2.2.2.2.2.2.2.2.2.2.2.2.1,x4.2.2.2.2.2.2.2.2.2.2.2.2.2.2.2.2.2.2.1,x4.2.2.2.2.2.2.2.2.2.2.2.2.2.2.2.2.2.2.2.1,x4.2.2.2.2.2.2.2.2.2.2.2.2.2.2.2.2.2.2.2.2.1,x4.2.2.2.2.2.2.2.2.2.2.2.2.2.2.2.2.2.2.2.2.2.1,x4.2.2.2.2.2.2.2.2.2.2.2.2.2.2.2.2.2.2.2.2.2.2.1,x4.2.2.2.2.2.2.2.2.2.2.2.2.2.2.2.2.2.2.2.2.2.2.2.1,x4.2.2.2.2.2.2.2.2.2.2.2.2.2.2.2.2.2.2.2.2.2.2.2.2⟩ : Api_Policy),(⟨slice none 0 0,[]⟩ : Sl Bool)⟩ : Api_Step)]) rfl rfl F_slice_47 F_size_41 F_zero_41 rfl rfl (all_size rfl) rfl (by decide)) rfl rfl rfl rfl rfl rfl ?_
 rintro sv7 _ rfl
 refine ent_value_on (ov_fieldAddr (sz := 0) (o := 0) rfl F_field_41_0 F_size_3) rfl rfl rfl rfl rfl rfl ?_
 refine ent_value_on (ov_load (v := (I 9)) rfl F_agg_3 (reads_box1 (i := 2) rfl rfl)) rfl rfl rfl rfl rfl rfl ?_
 refine ent_value_on (ov_build (is := [0]) (xs := [.tmp 22]) (vs := [I 9]) rfl rfl (build_struct (cs := C1_) F_zero_41 F_places_41 rfl)) rfl rfl rfl rfl rfl rfl ?_
 refine ent_op_on (ot_buildSlice (sz := 26) (xs := [.tmp 23]) (cs := fl enc_Api_Step [(⟨9,0,(⟨slice none 0 0,[]⟩ : Sl Api_Fact),(⟨0,0,false,false,false,false,false,false,false,false,nB,nB,nB,nB⟩ : Api_Query),(⟨0,0,0,0,0,0,0,0,0⟩ : Api_Policy),(⟨slice none 0 0,[]⟩ : Sl Bool)⟩ : Api_Step)]) rfl rfl F_slice_47 F_size_41 F_zero_41 rfl rfl (all_size rfl) rfl (by decide)) rfl rfl rfl rfl rfl rfl ?_
 rintro sv8 _ rfl
 obtain ⟨x6,h6,H⟩ := Option.bind_eq_some_iff.1 H
 refine ent_op_on (ot_call_same (Lr := [box b4 41 C0_,box b3 41 C1_]) [1,0,2,3] [1,0,2,3] (first := []) (cap := []) (xs := [.tmp 20,.tmp 24]) rfl rfl F_call_71 rfl (script_Same_RR.spec K sv7 (own sv7 41 27 [(⟨x4.1,x4.2.1,(⟨slice none 0 0,[]⟩ : Sl Api_Fact),(⟨x4.2.2.1,x4.2.2.2.1,x4.2.2.2.2.1,x4.2.2.2.2.2.1,x4.2.2.2.2.2.2.1,x4.2.2.2.2.2.2.2.1,x4.2.2.2.2.2.2.2.2.1,x4.2.2.2.2.2.2.2.2.2.1,x4.2.2.2.2.2.2.2.2.2.2.1,x4.2.2.2.2.2.2.2.2.2.2.2.1,x4.2.2.2.2.2.2.2.2.2.2.2.2.1,x4.2.2.2.2.2.2.2.2.2.2.2.2.2.1,x4.2.2.2.2.2.2.2.2.2.2.2.2.2.2.1,x4.2.2.2.2.2.2.2.2.2.2.2.2.2.2.2.1⟩ : Api_Query),(⟨x4.2.2.2.2.2.2.2.2.2.2.2.2.2.2.2.2.1,x4.2.2.2.2.2.2.2.2.2.2.2.2.2.2.2.2.2.1,x4.2.2.2.2.2.2.2.2.2.2.2.2.2.2.2.2.2.2.1,x4.2.2.2.2.2.2.2.2.2.2.2.2.2.2.2.2.2.2.2.1,x4.2.2.2.2.2.2.2.2.2.2.2.2.2.2.2.2.2.2.2.2.1,x4.2.2.2.2.2.2.2.2.2.2.2.2.2.2.2.2.2.2.2.2.2.1,x4.2.2.2.2.2.2.2.2.2.2.2.2.2.2.2.2.2.2.2.2.2.2.1,x4.2.2.2.2.2.2.2.2.2.2.2.2.2.2.2.2.2.2.2.2.2.2.2.1,x4.2.2.2.2.2.2.2.2.2.2.2.2.2.2.2.2.2.2.2.2.2.2.2.2⟩ : Api_Policy),(⟨slice none 0 0,[]⟩ : Sl Bool)⟩ : Api_Step)].length (fl enc_Api_Step [(⟨x4.1,x4.2.1,(⟨slice none 0 0,[]⟩ : Sl Api_Fact),(⟨x4.2.2.1,x4.2.2.2.1,x4.2.2.2.2.1,x4.2.2.2.2.2.1,x4.2.2.2.2.2.2.1,x4.2.2.2.2.2.2.2.1,x4.2.2.2.2.2.2.2.2.1,x4.2.2.2.2.2.2.2.2.2.1,x4.2.2.2.2.2.2.2.2.2.2.1,x4.2.2.2.2.2.2.2.2.2.2.2.1,x4.2.2.2.2.2.2.2.2.2.2.2.2.1,x4.2.2.2.2.2.2.2.2.2.2.2.2.2.1,x4.2.2.2.2.2.2.2.2.2.2.2.2.2.2.1,x4.2.2.2.2.2.2.2.2.2.2.2.2.2.2.2.1⟩ : Api_Query),(⟨x4.2.2.2.2.2.2.2.2.2.2.2.2.2.2.2.2.1,x4.2.2.2.2.2.2.2.2.2.2.2.2.2.2.2.2.2.1,x4.2.2.2.2.2.2.2.2.2.2.2.2.2.2.2.2.2.2.1,x4.2.2.2.2.2.2.2.2.2.2.2.2.2.2.2.2.2.2.2.1,x4.2.2.2.2.2.2.2.2.2.2.2.2.2.2.2.2.2.2.2.2.1,x4.2.2.2.2.2.2.2.2.2.2.2.2.2.2.2.2.2.2.2.2.2.1,x4.2.2.2.2.2.2.2.2.2.2.2.2.2.2.2.2.2.2.2.2.2.2.1,x4.2.2.2.2.2.2.2.2.2.2.2.2.2.2.2.2.2.2.2.2.2.2.2.1,x4.2.2.2.2.2.2.2.2.2.2.2.2.2.2.2.2.2.2.2.2.2.2.2.2⟩ : Api_Policy),(⟨slice none 0 0,[]⟩ : Sl Bool)⟩ : Api_Step)])) sv8 (own sv8 41 27 [(⟨9,0,(⟨slice none 0 0,[]⟩ : Sl Api_Fact),(⟨0,0,false,false,false,false,false,false,false,false,nB,nB,nB,nB⟩ : Api_Query),(⟨0,0,0,0,0,0,0,0,0⟩ : Api_Policy),(⟨slice none 0 0,[]⟩ : Sl Bool)⟩ : Api_Step)].length (fl enc_Api_Step [(⟨9,0,(⟨slice none 0 0,[]⟩ : Sl Api_Fact),(⟨0,0,false,false,false,false,false,false,false,false,nB,nB,nB,nB⟩ : Api_Query),(⟨0,0,0,0,0,0,0,0,0⟩ : Api_Policy),(⟨slice none 0 0,[]⟩ : Sl Bool)⟩ : Api_Step)])) [(⟨x4.1,x4.2.1,(⟨slice none 0 0,[]⟩ : Sl Api_Fact),(⟨x4.2.2.1,x4.2.2.2.1,x4.2.2.2.2.1,x4.2.2.2.2.2.1,x4.2.2.2.2.2.2.1,x4.2.2.2.2.2.2.2.1,x4.2.2.2.2.2.2.2.2.1,x4.2.2.2.2.2.2.2.2.2.1,x4.2.2.2.2.2.2.2.2.2.2.1,x4.2.2.2.2.2.2.2.2.2.2.2.1,x4.2.2.2.2.2.2.2.2.2.2.2.2.1,x4.2.2.2.2.2.2.2.2.2.2.2.2.2.1,x4.2.2.2.2.2.2.2.2.2.2.2.2.2.2.1,x4.2.2.2.2.2.2.2.2.2.2.2.2.2.2.2.1⟩ : Api_Query),(⟨x4.2.2.2.2.2.2.2.2.2.2.2.2.2.2.2.2.1,x4.2.2.2.2.2.2.2.2.2.2.2.2.2.2.2.2.2.1,x4.2.2.2.2.2.2.2.2.2.2.2.2.2.2.2.2.2.2.1,x4.2.2.2.2.2.2.2.2.2.2.2.2.2.2.2.2.2.2.2.1,x4.2.2.2.2.2.2.2.2.2.2.2.2.2.2.2.2.2.2.2.2.1,x4.2.2.2.2.2.2.2.2.2.2.2.2.2.2.2.2.2.2.2.2.2.1,x4.2.2.2.2.2.2.2.2.2.2.2.2.2.2.2.2.2.2.2.2.2.2.1,x4.2.2.2.2.2.2.2.2.2.2.2.2.2.2.2.2.2.2.2.2.2.2.2.1,x4.2.2.2.2.2.2.2.2.2.2.2.2.2.2.2.2.2.2.2.2.2.2.2.2⟩ : Api_Policy),(⟨slice none 0 0,[]⟩ : Sl Bool)⟩ : Api_Step)] [(⟨9,0,(⟨slice none 0 0,[]⟩ : Sl Api_Fact),(⟨0,0,false,false,false,false,false,false,false,false,nB,nB,nB,nB⟩ : Api_Query),(⟨0,0,0,0,0,0,0,0,0⟩ : Api_Policy),(⟨slice none 0 0,[]⟩ : Sl Bool)⟩ : Api_Step)] (isRd_ownx 41) (jag_cons ⟨(isRd_nilA _ _),(isRd_nilA _ _)⟩ jag_nil) (isRd_ownx 41) (jag_cons ⟨(isRd_nilA _ _),(isRd_nilA _ _)⟩ jag_nil) _ h6) (by decide) rfl (by decide) rfl) rfl rfl rfl rfl rfl rfl ?_
 rintro _ _ ⟨rfl,rfl⟩
 refine ent_value_on (ov_un rfl (u_not _)) rfl rfl rfl rfl rfl rfl ?_
 refine ent_value (ov_pick rfl rfl rfl rfl) rfl rfl rfl (ent_nil ?_)
 refine htT H (fun c4 H => ?_) fun c4 H => ?_
 ·refine ent_cond_true rfl c4 (ent_seq (ent_region (ent_value (ov_assign rfl) rfl rfl rfl (ent_nil (ent_retc ?_)))))
  cases H
  refine ent_pick [] (by decide) rfl ?_
  exact ret_tmp rfl rfl ⟨rfl,rfl⟩
 refine ent_cond_false rfl (Bool.eq_false_iff.2 c4) (ent_skip (ent_seq (ent_seq (ent_region (ent_value (ov_fieldAddr (sz := 0) (o := 0) rfl F_field_41_0 F_size_3) rfl rfl rfl (ent_value (ov_load (v := (I 9)) rfl F_agg_3 (reads_box1 (i := 3) rfl rfl)) rfl rfl rfl (ent_nil (ent_block (ent_seq (ent_region (ent_value (ov_bin rfl rfl (b_eql _ _ _)) rfl rfl rfl ?_)))))))))))
 refine ent_value (ov_assign rfl) rfl rfl rfl (ent_nil (ent_cond_false rfl rfl (ent_seq (ent_region (ent_value (ov_bin rfl rfl (b_eql _ _ _)) rfl rfl rfl (ent_value (ov_assign rfl) rfl rfl rfl (ent_nil (ent_cond_false rfl rfl (ent_seq (ent_region (ent_value (ov_bin rfl rfl (b_eql _ _ _)) rfl rfl rfl ?_)))))))))))
 refine ent_value (ov_assign rfl) rfl rfl rfl (ent_nil (ent_cond_false rfl rfl (ent_skip (ent_seq (ent_region (ent_value (ov_fieldAddr (sz := 0) (o := 0) rfl F_field_41_5 F_size_39) rfl rfl rfl (ent_value (ov_load (v := L0) rfl F_agg_39 (reads_box1 (i := 3) rfl rfl)) rfl rfl rfl (ent_value (ov_len0 rfl F_slice_39) rfl rfl rfl (ent_value (ov_bin rfl rfl (b_leq _ _ _)) rfl rfl rfl (ent_value (ov_assign rfl) rfl rfl rfl (ent_nil ?_)))))))))))
 refine ent_retc ?_
 cases H
 refine ent_pick [] (by decide) rfl ?_
 exact ret_tmp rfl rfl ⟨rfl,rfl⟩

theorem words_kinds.spec (r : ((List UInt8) × (List UInt8) × (List UInt8) × (List UInt8))) (H : words_kinds = r) : FnSpec Tryd.prog 48 [] [] (fun v M => v = (agg #[str r.1,str r.2.1,str r.2.2.1,str r.2.2.2]) ∧ M = []) := by
 unfold words_kinds at H
 refine spec_of Tryd.func48 rfl 2 rfl (Nat.le_of_ble_eq_true rfl) fun F w0 => ?_
 let C0_ : List Value := [str ([116,105,99,107] : List UInt8),str ([119,111,114,107] : List UInt8),str ([97,114,109] : List UInt8),str ([99,114,97,115,104] : List UInt8)]
 show Ent (St 2 w0 F [] []) _
 refine ent_seq (ent_region ?_)
 refine ent_op (ot_alloc F_zero_34) rfl rfl rfl ?_
 rintro _ _ ⟨b2,rfl,rfl⟩
 refine ent_nil (ent_seq (ent_region (ent_value (ov_build (is := [0,1,2,3]) (xs := [.const (str ([116,105,99,107] : List UInt8)),.const (str ([119,111,114,107] : List UInt8)),.const (str ([97,114,109] : List UInt8)),.const (str ([99,114,97,115,104] : List UInt8))]) (vs := C0_) rfl rfl (build_array (cs := C0_) F_zero_34 F_array_34 F_size_9 rfl)) rfl rfl rfl ?_)))
 refine ent_op0 (ot_storeG (cs := [S0,S0,S0,S0]) (cs' := C0_) (us := C0_) (L' := [box b2 34 C0_]) 0 rfl rfl rfl (one_all rfl) F_size_34 rfl rfl (by simp [C0_]) rfl) rfl rfl ?_
 rintro _ _ rfl
 refine ent_nil (ent_retc ?_)
 subst H
 exact ret_memp [] (by decide) rfl (vs := [agg #[str ([116,105,99,107] : List UInt8),str ([119,111,114,107] : List UInt8),str ([97,114,109] : List UInt8),str ([99,114,97,115,104] : List UInt8)]]) rfl ⟨⟨_,C0_,rfl,reads_boxW (i := 0) rfl,.inl ⟨F_agg_34,F_size_34,rfl⟩⟩,trivial⟩ _ rfl ⟨rfl,rfl⟩

theorem script_bare_NN_3.spec (r : (Int × Int × Int × Int × Bool × Bool × Bool × Bool × Bool × Bool × Bool × Bool × (List UInt8) × (List UInt8) × (List UInt8) × (List UInt8) × Int × Int × Int × Int × Int × Int × Int × Int × Int)) (H : script_bare_NN_3 = r) : FnSpec Tryd.prog 70 [agg #[I 0,I 0,L0,I 0,I 0,B0,B0,B0,B0,B0,B0,B0,B0,S0,S0,S0,S0,I 0,I 0,I 0,I 0,I 0,I 0,I 0,I 0,I 0,L0]] [] (fun v M => v = (agg #[I r.1,I r.2.1,L0,I r.2.2.1,I r.2.2.2.1,bool r.2.2.2.2.1,bool r.2.2.2.2.2.1,bool r.2.2.2.2.2.2.1,bool r.2.2.2.2.2.2.2.1,bool r.2.2.2.2.2.2.2.2.1,bool r.2.2.2.2.2.2.2.2.2.1,bool r.2.2.2.2.2.2.2.2.2.2.1,bool r.2.2.2.2.2.2.2.2.2.2.2.1,str r.2.2.2.2.2.2.2.2.2.2.2.2.1,str r.2.2.2.2.2.2.2.2.2.2.2.2.2.1,str r.2.2.2.2.2.2.2.2.2.2.2.2.2.2.1,str r.2.2.2.2.2.2.2.2.2.2.2.2.2.2.2.1,I r.2.2.2.2.2.2.2.2.2.2.2.2.2.2.2.2.1,I r.2.2.2.2.2.2.2.2.2.2.2.2.2.2.2.2.2.1,I r.2.2.2.2.2.2.2.2.2.2.2.2.2.2.2.2.2.2.1,I r.2.2.2.2.2.2.2.2.2.2.2.2.2.2.2.2.2.2.2.1,I r.2.2.2.2.2.2.2.2.2.2.2.2.2.2.2.2.2.2.2.2.1,I r.2.2.2.2.2.2.2.2.2.2.2.2.2.2.2.2.2.2.2.2.2.1,I r.2.2.2.2.2.2.2.2.2.2.2.2.2.2.2.2.2.2.2.2.2.2.1,I r.2.2.2.2.2.2.2.2.2.2.2.2.2.2.2.2.2.2.2.2.2.2.2.1,I r.2.2.2.2.2.2.2.2.2.2.2.2.2.2.2.2.2.2.2.2.2.2.2.2,L0]) ∧ M = []) := by
 unfold script_bare_NN_3 at H
 refine spec_of Tryd.func70 rfl 26 rfl (Nat.le_of_ble_eq_true rfl) fun F w0 => ?_
 let C1_ : Value := agg #[I 0,I 0,L0,I 0,I 0,B0,B0,B0,B0,B0,B0,B0,B0,S0,S0,S0,S0,I 0,I 0,I 0,I 0,I 0,I 0,I 0,I 0,I 0,L0]
 let C0_ : List Value := [I 0,I 0,L0,I 0,I 0,B0,B0,B0,B0,B0,B0,B0,B0,S0,S0,S0,S0,I 0,I 0,I 0,I 0,I 0,I 0,I 0,I 0,I 0,L0]
 show Ent (St 26 w0 F [(0,C1_)] []) _
 refine ent_seq (ent_region ?_)
 refine ent_op (ot_box (cs := C0_) rfl rfl) rfl rfl rfl ?_
 rintro _ _ ⟨b3,rfl,rfl⟩
 refine ent_op (ot_alloc F_zero_41) rfl rfl rfl ?_
 rintro _ _ ⟨b4,rfl,rfl⟩
 refine ent_nil (ent_seq (ent_seq (ent_region (ent_value (ov_fieldAddr (sz := 0) (o := 0) rfl F_field_41_0 F_size_3) rfl rfl rfl (ent_value (ov_load (v := (I 0)) rfl F_agg_3 (reads_box1 (i := 1) rfl rfl)) rfl rfl rfl (ent_nil (ent_block (ent_seq (ent_region (ent_value (ov_bin rfl rfl (b_eql _ _ _)) rfl rfl rfl (ent_value (ov_assign rfl) rfl rfl rfl ?_)))))))))))
 refine ent_nil (ent_cond_false rfl rfl (ent_seq (ent_region (ent_value (ov_bin rfl rfl (b_eql _ _ _)) rfl rfl rfl (ent_value (ov_assign rfl) rfl rfl rfl (ent_nil (ent_cond_false rfl rfl (ent_seq (ent_region (ent_value (ov_bin rfl rfl (b_eql _ _ _)) rfl rfl rfl (ent_value (ov_assign rfl) rfl rfl rfl ?_)))))))))))
 refine ent_nil (ent_cond_false rfl rfl (ent_seq (ent_seq (ent_region (ent_value (ov_bin rfl rfl (b_eql _ _ _)) rfl rfl rfl (ent_value (ov_assign rfl) rfl rfl rfl (ent_nil (ent_cond_false rfl rfl (ent_seq (ent_region (ent_value (ov_bin rfl rfl (b_eql _ _ _)) rfl rfl rfl ?_)))))))))))
 refine ent_value (ov_assign rfl) rfl rfl rfl (ent_nil (ent_cond_false rfl rfl (ent_seq (ent_region (ent_value (ov_bin rfl rfl (b_eql _ _ _)) rfl rfl rfl (ent_value (ov_assign rfl) rfl rfl rfl (ent_nil (ent_cond_false rfl rfl (ent_region (ent_value (ov_bin rfl rfl (b_eql _ _ _)) rfl rfl rfl (ent_value (ov_assign rfl) rfl rfl rfl ?_)))))))))))
 refine ent_nil (ent_cond_false rfl rfl (ent_seq (ent_region (ent_value (ov_bin rfl rfl (b_eql _ _ _)) rfl rfl rfl (ent_value (ov_assign rfl) rfl rfl rfl (ent_nil (ent_cond_false rfl rfl (ent_skip (ent_seq (ent_region (ent_value (ov_load_agg (vs := C0_) rfl F_agg_41 F_size_41 (reads_boxW (i := 1) rfl)) rfl rfl rfl ?_)))))))))))
 refine ent_op0 (ot_storeG (cs := C0_) (cs' := C0_) (us := C0_) (L' := [box b4 41 C0_,box b3 41 C0_]) 0 rfl rfl rfl (one_all rfl) F_size_41 rfl rfl (by simp [C1_,C0_]) rfl) rfl rfl ?_
 rintro _ _ rfl
 refine ent_nil (ent_retc ?_)
 subst H
 exact ret_memp [] (by decide) rfl (vs := [C1_]) rfl ⟨⟨_,C0_,rfl,reads_boxW (i := 0) rfl,.inl ⟨F_agg_41,F_size_41,rfl⟩⟩,trivial⟩ _ rfl ⟨rfl,rfl⟩

theorem script_Right_NN_3.spec (a1 : Int) (r : Bool) (H : script_Right_NN_3 a1 = r) : FnSpec Tryd.prog 51 [agg #[I 0,I 0,L0,I 0,I 0,B0,B0,B0,B0,B0,B0,B0,B0,S0,S0,S0,S0,I 0,I 0,I 0,I 0,I 0,I 0,I 0,I 0,I 0,L0],I a1] [] (fun v M => v = (bool r) ∧ M = []) := by
 unfold script_Right_NN_3 at H
 refine spec_of Tryd.func51 rfl 58 rfl (Nat.le_of_ble_eq_true rfl) fun F w0 => ?_
 let C1_ : List Value := [I 0,I 0,L0,I 0,I 0,B0,B0,B0,B0,B0,B0,B0,B0,S0,S0,S0,S0,I 0,I 0,I 0,I 0,I 0,I 0,I 0,I 0,I 0,L0]
 show Ent (St 58 w0 F [(0,agg #[I 0,I 0,L0,I 0,I 0,B0,B0,B0,B0,B0,B0,B0,B0,S0,S0,S0,S0,I 0,I 0,I 0,I 0,I 0,I 0,I 0,I 0,I 0,L0]),(1,I a1)] []) _
 refine ent_seq (ent_region ?_)
 refine ent_op (ot_box (cs := C1_) rfl rfl) rfl rfl rfl ?_
 rintro _ _ ⟨b3,rfl,rfl⟩
 refine ent_value (ov_assign rfl) rfl rfl rfl (ent_nil (ent_seq (ent_region (ent_value (ov_load_agg (vs := C1_) rfl F_agg_41 F_size_41 (reads_boxW (i := 0) rfl)) rfl rfl rfl ?_))))
 obtain ⟨x2,h2,H⟩ := thn_elim H
 let C0_ : List Value := [I x2.1,I x2.2.1,L0,I x2.2.2.1,I x2.2.2.2.1,bool x2.2.2.2.2.1,bool x2.2.2.2.2.2.1,bool x2.2.2.2.2.2.2.1,bool x2.2.2.2.2.2.2.2.1,bool x2.2.2.2.2.2.2.2.2.1,bool x2.2.2.2.2.2.2.2.2.2.1,bool x2.2.2.2.2.2.2.2.2.2.2.1,bool x2.2.2.2.2.2.2.2.2.2.2.2.1,str x2.2.2.2.2.2.2.2.2.2.2.2.2.1,str x2.2.2.2.2.2.2.2.2.2.2.2.2.2.1,str x2.2.2.2.2.2.2.2.2.2.2.2.2.2.2.1,str x2.2.2.2.2.2.2.2.2.2.2.2.2.2.2.2.1,I x2.2.2.2.2.2.2.2.2.2.2.2.2.2.2.2.2.1,I x2.2.2.2.2.2.2.2.2.2.2.2.2.2.2.2.2.2.1,I x2.2.2.2.2.2.2.2.2.2.2.2.2.2.2.2.2.2.2.1,I x2.2.2.2.2.2.2.2.2.2.2.2.2.2.2.2.2.2.2.2.1,I x2.2.2.2.2.2.2.2.2.2.2.2.2.2.2.2.2.2.2.2.2.1,I x2.2.2.2.2.2.2.2.2.2.2.2.2.2.2.2.2.2.2.2.2.2.1,I x2.2.2.2.2.2.2.2.2.2.2.2.2.2.2.2.2.2.2.2.2.2.2.1,I x2.2.2.2.2.2.2.2.2.2.2.2.2.2.2.2.2.2.2.2.2.2.2.2.1,I x2.2.2.2.2.2.2.2.2.2.2.2.2.2.2.2.2.2.2.2.2.2.2.2.2,L0]
 refine ent_op (ot_call0 (first := []) (cap := []) (xs := [.tmp 8]) rfl rfl F_call_70 rfl (script_bare_NN_3.spec _ h2)) rfl rfl rfl ?_
 rintro _ _ ⟨rfl,rfl⟩
 refine ent_op (ot_alloc F_zero_41) rfl rfl rfl ?_
 rintro _ _ ⟨b4,rfl,rfl⟩
 refine ent_op0 (ot_storeG (cs := C1_) (cs' := C0_) (us := C0_) (L' := [box b4 41 C0_,box b3 41 C1_]) 0 rfl rfl rfl (one_all rfl) F_size_41 rfl rfl (by simp [C1_,C0_]) rfl) rfl rfl ?_
 rintro _ _ rfl
 refine ent_nil (ent_seq (ent_seq (ent_region (ent_value (ov_fieldAddr (sz := 0) (o := 0) rfl F_field_41_0 F_size_3) rfl rfl rfl (ent_value (ov_load (v := (I 0)) rfl F_agg_3 (reads_box1 (i := 1) rfl rfl)) rfl rfl rfl (ent_value (ov_bin rfl rfl (b_lss _ _ _)) rfl rfl rfl (ent_value (ov_move rfl) rfl rfl rfl ?_)))))))
 refine ent_off rfl rfl rfl rfl rfl rfl ?_
 refine ent_off rfl rfl rfl rfl rfl rfl ?_
 refine ent_off rfl rfl rfl rfl rfl rfl ?_
 refine ent_value (ov_pick rfl rfl rfl rfl) rfl rfl rfl (ent_value (ov_move rfl) rfl rfl rfl ?_)
 refine ent_off rfl rfl rfl rfl rfl rfl ?_
 refine ent_off rfl rfl rfl rfl rfl rfl ?_
 refine ent_off rfl rfl rfl rfl rfl rfl ?_
 refine ent_off rfl rfl rfl rfl rfl rfl ?_
 refine ent_off rfl rfl rfl rfl rfl rfl ?_
 refine ent_off rfl rfl rfl rfl rfl rfl ?_
 refine ent_off rfl rfl rfl rfl rfl rfl ?_
 refine ent_off rfl rfl rfl rfl rfl rfl ?_
 refine ent_value (ov_pick rfl rfl rfl rfl) rfl rfl rfl (ent_nil (ent_cond_true rfl rfl (ent_seq (ent_region (ent_value (ov_assign rfl) rfl rfl rfl (ent_nil (ent_retc ?_)))))))
 cases H
 refine ent_pick [] (by decide) rfl ?_
 exact ret_tmp rfl rfl ⟨rfl,rfl⟩

theorem words_reader_step_O.spec (K p0 : Nat) (sv0 : Value) (l0 : List (List UInt8)) (p0_1 : Int) (r : (Int × (List Api_Fact) × Int × Int × Int × Int × Int × Int × Int × Int × Int × (List (List UInt8)) × (List Bool) × Int × Int × Int × Bool × Bool × Bool × Bool × Bool × Bool × Bool × Bool × (List UInt8) × (List UInt8) × (List UInt8) × (List UInt8))) (H : words_reader_step_O K l0 p0_1 = some r) : FnSpec Tryd.prog 32 [pt p0 0] [box p0 72 [sv0,I p0_1],own sv0 9 1 l0.length (fl eS l0)] (fun v M => ∃ sv71 : Value,∃ sv72 : Value,∃ sv73 : Value,IsRd (own sv0 9 1 l0.length (fl eS l0)) sv72 r.2.2.2.2.2.2.2.2.2.2.2.1.length 1 (fl eS r.2.2.2.2.2.2.2.2.2.2.2.1) ∧ v = (agg #[I r.1,I r.2.2.2.2.2.2.2.2.2.2.2.2.2.1,sv71,I r.2.2.2.2.2.2.2.2.2.2.2.2.2.2.1,I r.2.2.2.2.2.2.2.2.2.2.2.2.2.2.2.1,bool r.2.2.2.2.2.2.2.2.2.2.2.2.2.2.2.2.1,bool r.2.2.2.2.2.2.2.2.2.2.2.2.2.2.2.2.2.1,bool r.2.2.2.2.2.2.2.2.2.2.2.2.2.2.2.2.2.2.1,bool r.2.2.2.2.2.2.2.2.2.2.2.2.2.2.2.2.2.2.2.1,bool r.2.2.2.2.2.2.2.2.2.2.2.2.2.2.2.2.2.2.2.2.1,bool r.2.2.2.2.2.2.2.2.2.2.2.2.2.2.2.2.2.2.2.2.2.1,bool r.2.2.2.2.2.2.2.2.2.2.2.2.2.2.2.2.2.2.2.2.2.2.1,bool r.2.2.2.2.2.2.2.2.2.2.2.2.2.2.2.2.2.2.2.2.2.2.2.1,str r.2.2.2.2.2.2.2.2.2.2.2.2.2.2.2.2.2.2.2.2.2.2.2.2.1,str r.2.2.2.2.2.2.2.2.2.2.2.2.2.2.2.2.2.2.2.2.2.2.2.2.2.1,str r.2.2.2.2.2.2.2.2.2.2.2.2.2.2.2.2.2.2.2.2.2.2.2.2.2.2.1,str r.2.2.2.2.2.2.2.2.2.2.2.2.2.2.2.2.2.2.2.2.2.2.2.2.2.2.2,I r.2.2.1,I r.2.2.2.1,I r.2.2.2.2.1,I r.2.2.2.2.2.1,I r.2.2.2.2.2.2.1,I r.2.2.2.2.2.2.2.1,I r.2.2.2.2.2.2.2.2.1,I r.2.2.2.2.2.2.2.2.2.1,I r.2.2.2.2.2.2.2.2.2.2.1,sv73]) ∧ M = [own sv71 54 6 r.2.1.length (fl enc_Api_Fact r.2.1),own sv73 4 1 r.2.2.2.2.2.2.2.2.2.2.2.2.1.length (fl eB r.2.2.2.2.2.2.2.2.2.2.2.2.1),box p0 72 [sv72,I p0_1],own sv0 9 1 l0.length (fl eS l0)]) := by
 unfold words_reader_step_O at H
 refine spec_of Tryd.func32 rfl 77 rfl (Nat.le_of_ble_eq_true rfl) fun F w0 => ?_
 let C26_ : List Value := [I 3,I 0,L0,I 0,I 0,B0,B0,B0,B0,B0,B0,B0,B0,S0,S0,S0,S0,I 0,I 0,I 0,I 0,I 0,I 0,I 0,I 0,I 0,L0]
 let C15_ : Value := agg #[I 0,I 0,L0,I 0,I 0,B0,B0,B0,B0,B0,B0,B0,B0,S0,S0,S0,S0,I 0,I 0,I 0,I 0,I 0,I 0,I 0,I 0,I 0,L0]
 let C14_ : Value := agg #[I 9,I 0,L0,I 0,I 0,B0,B0,B0,B0,B0,B0,B0,B0,S0,S0,S0,S0,I 0,I 0,I 0,I 0,I 0,I 0,I 0,I 0,I 0,L0]
 let C5_ : List Value := [I 9,I 0,L0,I 0,I 0,B0,B0,B0,B0,B0,B0,B0,B0,S0,S0,S0,S0,I 0,I 0,I 0,I 0,I 0,I 0,I 0,I 0,I 0,L0]
 let C0_ : List Value := [I 0,I 0,L0,I 0,I 0,B0,B0,B0,B0,B0,B0,B0,B0,S0,S0,S0,S0,I 0,I 0,I 0,I 0,I 0,I 0,I 0,I 0,I 0,L0]
 show Ent (St 77 w0 F [(0,pt p0 0)] [box p0 72 [sv0,I p0_1],own sv0 9 1 l0.length (fl eS l0)]) _
 refine ent_seq (ent_region ?_)
 refine ent_op (ot_alloc F_zero_41) rfl rfl rfl ?_
 rintro _ _ ⟨b6,rfl,rfl⟩
 refine ent_nil (ent_seq (ent_region (ent_value (ov_move rfl) rfl rfl rfl ?_)))
 obtain ⟨x82,h104,H⟩ := Option.bind_eq_some_iff.1 H
 refine ent_pick [1,2,0] (by decide) rfl ?_
 refine ent_op (ot_call (Lr := [box b6 41 C0_]) (first := []) (cap := []) (xs := [.tmp 9]) rfl rfl F_call_42 rfl (words_reader_word_O.spec p0 sv0 l0 p0_1 _ h104) rfl) rfl rfl rfl ?_
 rintro _ _ ⟨_,⟨sv75,hr69,rfl,rfl⟩,rfl⟩
 let C12_ : List HP := [box p0 72 [sv75,I p0_1],own sv0 9 1 l0.length (fl eS l0),box b6 41 C0_]
 let C11_ : List HP := [box p0 72 [sv75,I p0_1],own sv0 9 1 l0.length (fl eS l0),box b6 41 C5_]
 refine ent_value (ov_assign rfl) rfl rfl rfl (ent_nil (ent_seq (ent_seq (ent_region (ent_value (ov_move rfl) rfl rfl rfl (ent_nil (ent_block (ent_seq (ent_region (ent_value (ov_bin rfl rfl (b_eql_str _ _)) rfl rfl rfl (ent_value (ov_assign rfl) rfl rfl rfl ?_)))))))))))
 refine ent_nil ?_
 refine htT H (fun c100 H => ?_) fun c100 H => ?_
 ·refine ent_cond_true rfl (eq_t c100) (ent_region (ent_value (ov_move rfl) rfl rfl rfl ?_))
  obtain ⟨x84,h106,H⟩ := Option.bind_eq_some_iff.1 H
  refine ent_op (ot_call (Lr := [box b6 41 C0_]) (first := []) (cap := []) (xs := [.tmp 29]) rfl rfl F_call_43 rfl (words_reader_facts_R.spec K p0 sv75 (own sv0 9 1 l0.length (fl eS l0)) x82.1 p0_1 hr69 _ h106) rfl) rfl rfl rfl ?_
  rintro sv78 _ ⟨_,⟨_,sv79,hr71,rfl,rfl⟩,rfl⟩
  let C10_ : Value := agg #[I 1,I 0,sv78,I 0,I 0,B0,B0,B0,B0,B0,B0,B0,B0,S0,S0,S0,S0,I 0,I 0,I 0,I 0,I 0,I 0,I 0,I 0,I 0,L0]
  let C3_ : List Value := [I 1,I 0,sv78,I 0,I 0,B0,B0,B0,B0,B0,B0,B0,B0,S0,S0,S0,S0,I 0,I 0,I 0,I 0,I 0,I 0,I 0,I 0,I 0,L0]
  let C6_ : List HP := [box p0 72 [sv79,I p0_1],own sv0 9 1 l0.length (fl eS l0),own sv78 54 6 x84.1.length (fl enc_Api_Fact x84.1),box b6 41 C3_]
  refine ent_value (ov_sl 2 rfl (isRd_ownx 54) fun hc0_ => (ov_build (is := [0,2]) (xs := [.const (I 1),.tmp 30]) (vs := [I 1,sv78]) rfl rfl (build_struct (cs := C3_) F_zero_41 F_places_41 (by simp [C26_,C15_,C14_,C5_,C0_,C12_,C11_,C10_,C3_,C6_,Instr.fill,cells_int,cells_bool,cells_str,cells_func,cells_slice,cells_ptr,cells_nilFunc,cells_agg,hc0_])))) rfl rfl rfl ?_
  refine ent_op0 (ot_storeG (cs := C0_) (cs' := C3_) (us := C3_) (L' := C6_) 3 rfl rfl rfl (one_cons rfl (one_cons rfl (one_sl 2 rfl (isRd_ownx 54) (one_cons rfl (one_cons rfl (one_cons rfl (one_cons rfl (one_cons rfl (one_cons rfl (one_cons rfl (one_cons rfl (one_cons rfl (one_cons rfl (one_cons rfl (one_cons rfl (one_cons rfl (one_cons rfl (one_cons rfl (one_cons rfl (one_cons rfl (one_cons rfl (one_cons rfl (one_cons rfl (one_cons rfl (one_cons rfl (one_cons rfl (one_cons rfl one_nil))))))))))))))))))))))))))) F_size_41 rfl rfl (by simp [C26_,C15_,C14_,C5_,C0_,C12_,C11_,C10_,C3_,C6_]) rfl) rfl rfl ?_
  rintro _ _ rfl
  refine ent_nil (ent_seq ?_)
  refine htF H (fun c102 H => ?_) fun c102 H => ?_
  ·obtain ⟨u28,h112,H⟩ := Option.bind_eq_some_iff.1 H
   refine ent_drawm 15 rfl (fun done a w => StD 77 w0 F [(0,pt p0 0),(2,pt b6 0),(3,str x82.2),(9,pt p0 0),(10,str x82.2),(11,str x82.2),(27,bool (x82.2 == ([105,110,103,101,115,116] : List UInt8))),(28,bool (x82.2 == ([105,110,103,101,115,116] : List UInt8))),(29,pt p0 0),(30,sv78),(31,C10_)] [(0,61,pt p0 0),(1,62,pt p0 0),(2,63,pt p0 0),(3,64,sv79),(4,65,I (x84.2.length : Int)),(5,66,bool ((x84.2.length : Int) == 0)),(6,67,bool ((x84.2.length : Int) == 0)),(7,68,undef),(8,69,undef),(9,70,undef),(10,71,undef),(11,72,undef),(12,73,undef),(13,74,B0),(14,75,tU #[])] done C6_ a w) (by kernel_rfl) (by kernel_rfl) (draw_startL (sub_cons (t := 0) rfl (sub_cons (t := 2) rfl (sub_cons (t := 3) rfl (sub_cons (t := 9) rfl (sub_cons (t := 10) rfl (sub_cons (t := 11) rfl (sub_cons (t := 27) rfl (sub_cons (t := 28) rfl (sub_cons (t := 29) rfl (sub_cons (t := 30) rfl (sub_cons (t := 31) rfl (sub_nil _)))))))))))) rfl) ?_ ?_
   ·refine ⟨?_,?_,?_,?_,?_,?_,?_,?_,?_,?_,?_,?_,?_,?_,?_,trivial⟩
    ·exact fun done hi hc hcu => draw_value (i := 0) (t := 61) (v := (pt p0 0)) rfl rfl (wanted_none rfl) (fun a => hasA_base) (ov_move rfl) rfl rfl (onlyT_spec (k0 := 0) rfl rfl rfl)
    ·exact fun done hi hc hcu => draw_value (i := 1) (t := 62) (v := (pt p0 0)) rfl rfl (wanted_none rfl) (fun a => (hasA_cons (k := 0) rfl (done_of (j := 0) hcu rfl (by decide) rfl) hasA_base)) (ov_nilCheck rfl) rfl rfl (onlyT_spec (k0 := 1) rfl rfl rfl)
    ·exact fun done hi hc hcu => draw_value (i := 2) (t := 63) (v := (pt p0 0)) rfl rfl (wanted_none rfl) (fun a => (hasA_cons (k := 1) rfl (done_of (j := 1) hcu rfl (by decide) rfl) hasA_base)) (ov_fieldAddr (sz := 0) (o := 0) rfl F_field_72_0 F_size_29) rfl rfl (onlyT_spec (k0 := 2) rfl rfl rfl)
    ·exact fun done hi hc hcu => draw_value (i := 3) (t := 64) (v := sv79) rfl rfl (wanted_none rfl) (fun a => (hasA_cons (k := 2) rfl (done_of (j := 2) hcu rfl (by decide) rfl) hasA_base)) (ov_load (v := sv79) rfl F_agg_29 (reads_box1 (i := 0) rfl rfl)) rfl rfl (onlyT_spec (k0 := 3) rfl rfl rfl)
    ·exact fun done hi hc hcu => draw_value (i := 4) (t := 65) (v := (I (x84.2.length : Int))) rfl rfl (wanted_none rfl) (fun a => (hasA_cons (k := 3) rfl (done_of (j := 3) hcu rfl (by decide) rfl) hasA_base)) (ov_len 1 rfl F_slice_29 rfl hr71) rfl rfl (onlyT_spec (k0 := 4) rfl rfl rfl)
    ·exact fun done hi hc hcu => draw_value (i := 5) (t := 66) (v := (bool ((x84.2.length : Int) == 0))) rfl rfl (wanted_none rfl) (fun a => (hasA_cons (k := 4) rfl (done_of (j := 4) hcu rfl (by decide) rfl) hasA_base)) (ov_bin rfl rfl (b_eql _ _ _)) rfl rfl (onlyT_spec (k0 := 5) rfl rfl rfl)
    ·exact fun done hi hc hcu => draw_value (i := 6) (t := 67) (v := (bool ((x84.2.length : Int) == 0))) rfl rfl (wanted_none rfl) (fun a => (hasA_cons (k := 5) rfl (done_of (j := 5) hcu rfl (by decide) rfl) hasA_base)) (ov_move rfl) rfl rfl (onlyT_spec (k0 := 6) rfl rfl rfl)
    ·exact fun done hi hc hcu => draw_off (i := 7) (t := 68) rfl rfl (wanted_off rfl rfl rfl (eq_f c102)) (fun a => (hasA_cons (k := 6) rfl (done_of (j := 6) hcu rfl (by decide) rfl) hasA_base)) rfl rfl (onlyT_spec (k0 := 7) rfl rfl rfl)
    ·exact fun done hi hc hcu => draw_off (i := 8) (t := 69) rfl rfl (wanted_off rfl rfl rfl (eq_f c102)) (fun a => (hasA_cons (k := 6) rfl (done_of (j := 6) hcu rfl (by decide) rfl) hasA_base)) rfl rfl (onlyT_spec (k0 := 8) rfl rfl rfl)
    ·exact fun done hi hc hcu => draw_off (i := 9) (t := 70) rfl rfl (wanted_off rfl rfl rfl (eq_f c102)) (fun a => (hasA_cons (k := 6) rfl (done_of (j := 6) hcu rfl (by decide) rfl) hasA_base)) rfl rfl (onlyT_spec (k0 := 9) rfl rfl rfl)
    ·exact fun done hi hc hcu => draw_off (i := 10) (t := 71) rfl rfl (wanted_off rfl rfl rfl (eq_f c102)) (fun a => (hasA_cons (k := 6) rfl (done_of (j := 6) hcu rfl (by decide) rfl) hasA_base)) rfl rfl (onlyT_spec (k0 := 10) rfl rfl rfl)
    ·exact fun done hi hc hcu => draw_off (i := 11) (t := 72) rfl rfl (wanted_off rfl rfl rfl (eq_f c102)) (fun a => (hasA_cons (k := 6) rfl (done_of (j := 6) hcu rfl (by decide) rfl) hasA_base)) rfl rfl (onlyT_spec (k0 := 11) rfl rfl rfl)
    ·exact fun done hi hc hcu => draw_off (i := 12) (t := 73) rfl rfl (wanted_off rfl rfl rfl (eq_f c102)) (fun a => (hasA_cons (k := 6) rfl (done_of (j := 6) hcu rfl (by decide) rfl) hasA_base)) rfl rfl (onlyT_spec (k0 := 12) rfl rfl rfl)
    ·exact fun done hi hc hcu => draw_value (i := 13) (t := 74) (v := B0) rfl rfl (wanted_none rfl) (fun a => (hasA_cons (k := 12) rfl (done_of (j := 12) hcu rfl (by decide) rfl) (hasA_cons (k := 6) rfl (done_of (j := 6) hcu rfl (by decide) rfl) hasA_base))) (ov_pick rfl rfl rfl (pick_f (eq_f c102))) rfl rfl (onlyT_spec (k0 := 13) rfl rfl rfl)
    ·exact fun done hi hc hcu => draw_same (i := 14) (t := 75) (v := (tU #[])) rfl rfl (wanted_none rfl) (fun a => (hasA_cons (k := 13) rfl (done_of (j := 13) hcu rfl (by decide) rfl) hasA_base)) (ot_call0 (first := []) (cap := []) (xs := [.tmp 74]) rfl rfl F_call_50 rfl (words_must.spec false _ h112)) rfl rfl (onlyT_spec (k0 := 14) rfl rfl rfl)
   ·intro done hall
    refine draw_endL C6_ rfl (fun a => (hasA_cons (k := 0) rfl (hall 0 (by decide)) (hasA_cons (k := 1) rfl (hall 1 (by decide)) (hasA_cons (k := 2) rfl (hall 2 (by decide)) (hasA_cons (k := 3) rfl (hall 3 (by decide)) (hasA_cons (k := 4) rfl (hall 4 (by decide)) (hasA_cons (k := 5) rfl (hall 5 (by decide)) (hasA_cons (k := 6) rfl (hall 6 (by decide)) (hasA_cons (k := 7) rfl (hall 7 (by decide)) (hasA_cons (k := 8) rfl (hall 8 (by decide)) (hasA_cons (k := 9) rfl (hall 9 (by decide)) (hasA_cons (k := 10) rfl (hall 10 (by decide)) (hasA_cons (k := 11) rfl (hall 11 (by decide)) (hasA_cons (k := 12) rfl (hall 12 (by decide)) (hasA_cons (k := 13) rfl (hall 13 (by decide)) (hasA_cons (k := 14) rfl (hall 14 (by decide)) hasA_base)))))))))))))))) ?_
    refine ent_seq (ent_region (ent_value (ov_load_agg (vs := C3_) rfl F_agg_41 F_size_41 (reads_boxW (i := 3) rfl)) rfl rfl rfl ?_))
    refine ent_op0 (ot_storeG (cs := C3_) (cs' := C3_) (us := C3_) (L' := C6_) 3 rfl rfl rfl (one_cons rfl (one_cons rfl (one_sl 2 rfl (isRd_ownx 54) (one_cons rfl (one_cons rfl (one_cons rfl (one_cons rfl (one_cons rfl (one_cons rfl (one_cons rfl (one_cons rfl (one_cons rfl (one_cons rfl (one_cons rfl (one_cons rfl (one_cons rfl (one_cons rfl (one_cons rfl (one_cons rfl (one_cons rfl (one_cons rfl (one_cons rfl (one_cons rfl (one_cons rfl (one_cons rfl (one_cons rfl (one_cons rfl one_nil))))))))))))))))))))))))))) F_size_41 rfl rfl (by simp [C26_,C15_,C14_,C5_,C0_,C12_,C11_,C10_,C3_,C6_]) rfl) rfl rfl ?_
    rintro _ _ rfl
    refine ent_nil (ent_retc ?_)
    first | (have e_ := Option.some.inj (show some _ = some _ from H); subst e_) | subst H
    refine ent_ownnil 4 1 ?_
    exact ret_memp [3,0,1,2] (by decide) rfl (vs := [C10_]) rfl ⟨⟨_,C3_,rfl,reads_boxW (i := 4) rfl,.inl ⟨F_agg_41,F_size_41,rfl⟩⟩,trivial⟩ _ rfl ⟨_,_,_,hr71,rfl,rfl⟩
  obtain ⟨x86,h110,H⟩ := Option.bind_eq_some_iff.1 H
  obtain ⟨u27,h111,H⟩ := Option.bind_eq_some_iff.1 H
  refine ent_drawm 15 rfl (fun done a w => StD 77 w0 F [(0,pt p0 0),(2,pt b6 0),(3,str x82.2),(9,pt p0 0),(10,str x82.2),(11,str x82.2),(27,bool (x82.2 == ([105,110,103,101,115,116] : List UInt8))),(28,bool (x82.2 == ([105,110,103,101,115,116] : List UInt8))),(29,pt p0 0),(30,sv78),(31,C10_)] [(0,61,pt p0 0),(1,62,pt p0 0),(2,63,pt p0 0),(3,64,sv79),(4,65,I (x84.2.length : Int)),(5,66,bool ((x84.2.length : Int) == 0)),(6,67,bool ((x84.2.length : Int) == 0)),(7,68,C10_),(8,69,pt p0 0),(9,70,pt p0 0),(10,71,pt p0 1),(11,72,I p0_1),(12,73,bool x86),(13,74,bool x86),(14,75,tU #[])] done C6_ a w) (by kernel_rfl) (by kernel_rfl) (draw_startL (sub_cons (t := 0) rfl (sub_cons (t := 2) rfl (sub_cons (t := 3) rfl (sub_cons (t := 9) rfl (sub_cons (t := 10) rfl (sub_cons (t := 11) rfl (sub_cons (t := 27) rfl (sub_cons (t := 28) rfl (sub_cons (t := 29) rfl (sub_cons (t := 30) rfl (sub_cons (t := 31) rfl (sub_nil _)))))))))))) rfl) ?_ ?_
  ·refine ⟨?_,?_,?_,?_,?_,?_,?_,?_,?_,?_,?_,?_,?_,?_,?_,trivial⟩
   ·exact fun done hi hc hcu => draw_value (i := 0) (t := 61) (v := (pt p0 0)) rfl rfl (wanted_none rfl) (fun a => hasA_base) (ov_move rfl) rfl rfl (onlyT_spec (k0 := 0) rfl rfl rfl)
   ·exact fun done hi hc hcu => draw_value (i := 1) (t := 62) (v := (pt p0 0)) rfl rfl (wanted_none rfl) (fun a => (hasA_cons (k := 0) rfl (done_of (j := 0) hcu rfl (by decide) rfl) hasA_base)) (ov_nilCheck rfl) rfl rfl (onlyT_spec (k0 := 1) rfl rfl rfl)
   ·exact fun done hi hc hcu => draw_value (i := 2) (t := 63) (v := (pt p0 0)) rfl rfl (wanted_none rfl) (fun a => (hasA_cons (k := 1) rfl (done_of (j := 1) hcu rfl (by decide) rfl) hasA_base)) (ov_fieldAddr (sz := 0) (o := 0) rfl F_field_72_0 F_size_29) rfl rfl (onlyT_spec (k0 := 2) rfl rfl rfl)
   ·exact fun done hi hc hcu => draw_value (i := 3) (t := 64) (v := sv79) rfl rfl (wanted_none rfl) (fun a => (hasA_cons (k := 2) rfl (done_of (j := 2) hcu rfl (by decide) rfl) hasA_base)) (ov_load (v := sv79) rfl F_agg_29 (reads_box1 (i := 0) rfl rfl)) rfl rfl (onlyT_spec (k0 := 3) rfl rfl rfl)
   ·exact fun done hi hc hcu => draw_value (i := 4) (t := 65) (v := (I (x84.2.length : Int))) rfl rfl (wanted_none rfl) (fun a => (hasA_cons (k := 3) rfl (done_of (j := 3) hcu rfl (by decide) rfl) hasA_base)) (ov_len 1 rfl F_slice_29 rfl hr71) rfl rfl (onlyT_spec (k0 := 4) rfl rfl rfl)
   ·exact fun done hi hc hcu => draw_value (i := 5) (t := 66) (v := (bool ((x84.2.length : Int) == 0))) rfl rfl (wanted_none rfl) (fun a => (hasA_cons (k := 4) rfl (done_of (j := 4) hcu rfl (by decide) rfl) hasA_base)) (ov_bin rfl rfl (b_eql _ _ _)) rfl rfl (onlyT_spec (k0 := 5) rfl rfl rfl)
   ·exact fun done hi hc hcu => draw_value (i := 6) (t := 67) (v := (bool ((x84.2.length : Int) == 0))) rfl rfl (wanted_none rfl) (fun a => (hasA_cons (k := 5) rfl (done_of (j := 5) hcu rfl (by decide) rfl) hasA_base)) (ov_move rfl) rfl rfl (onlyT_spec (k0 := 6) rfl rfl rfl)
   ·exact fun done hi hc hcu => draw_value (i := 7) (t := 68) (v := (C10_)) rfl rfl (wanted_on rfl rfl rfl (eq_t c102)) (fun a => (hasA_cons (k := 6) rfl (done_of (j := 6) hcu rfl (by decide) rfl) hasA_base)) (ov_load_agg (vs := C3_) rfl F_agg_41 F_size_41 (reads_boxW (i := 3) rfl)) rfl rfl (onlyT_spec (k0 := 7) rfl rfl rfl)
   ·exact fun done hi hc hcu => draw_value (i := 8) (t := 69) (v := (pt p0 0)) rfl rfl (wanted_on rfl rfl rfl (eq_t c102)) (fun a => (hasA_cons (k := 6) rfl (done_of (j := 6) hcu rfl (by decide) rfl) hasA_base)) (ov_move rfl) rfl rfl (onlyT_spec (k0 := 8) rfl rfl rfl)
   ·exact fun done hi hc hcu => draw_value (i := 9) (t := 70) (v := (pt p0 0)) rfl rfl (wanted_on rfl rfl rfl (eq_t c102)) (fun a => (hasA_cons (k := 6) rfl (done_of (j := 6) hcu rfl (by decide) rfl) (hasA_cons (k := 8) rfl (done_of (j := 8) hcu rfl (by decide) rfl) hasA_base))) (ov_nilCheck rfl) rfl rfl (onlyT_spec (k0 := 9) rfl rfl rfl)
   ·exact fun done hi hc hcu => draw_value (i := 10) (t := 71) (v := (pt p0 1)) rfl rfl (wanted_on rfl rfl rfl (eq_t c102)) (fun a => (hasA_cons (k := 6) rfl (done_of (j := 6) hcu rfl (by decide) rfl) (hasA_cons (k := 9) rfl (done_of (j := 9) hcu rfl (by decide) rfl) hasA_base))) (ov_fieldAddr (sz := 0) (o := 0) rfl F_field_72_1 F_size_3) rfl rfl (onlyT_spec (k0 := 10) rfl rfl rfl)
   ·exact fun done hi hc hcu => draw_value (i := 11) (t := 72) (v := (I p0_1)) rfl rfl (wanted_on rfl rfl rfl (eq_t c102)) (fun a => (hasA_cons (k := 6) rfl (done_of (j := 6) hcu rfl (by decide) rfl) (hasA_cons (k := 10) rfl (done_of (j := 10) hcu rfl (by decide) rfl) hasA_base))) (ov_load (v := (I p0_1)) rfl F_agg_3 (reads_box1 (i := 0) rfl rfl)) rfl rfl (onlyT_spec (k0 := 11) rfl rfl rfl)
   ·exact fun done hi hc hcu => draw_same (i := 12) (t := 73) (v := (bool x86)) rfl rfl (wanted_on rfl rfl rfl (eq_t c102)) (fun a => (hasA_cons (k := 6) rfl (done_of (j := 6) hcu rfl (by decide) rfl) (hasA_cons (k := 11) rfl (done_of (j := 11) hcu rfl (by decide) rfl) (hasA_cons (k := 7) rfl (done_of (j := 7) hcu rfl (by decide) rfl) hasA_base)))) (ot_call_same (Lr := [box p0 72 [sv79,I p0_1],own sv0 9 1 l0.length (fl eS l0),box b6 41 C3_]) [2,0,1,3] [1,2,0,3] (first := []) (cap := []) (xs := [.tmp 68,.tmp 72]) rfl rfl F_call_51 rfl (script_Right_ON.spec K sv78 x84.1 p0_1 _ h110) (by decide) rfl (by decide) rfl) rfl rfl (onlyT_spec (k0 := 12) rfl rfl rfl)
   ·exact fun done hi hc hcu => draw_value (i := 13) (t := 74) (v := (bool x86)) rfl rfl (wanted_none rfl) (fun a => (hasA_cons (k := 12) rfl (done_of (j := 12) hcu rfl (by decide) rfl) (hasA_cons (k := 6) rfl (done_of (j := 6) hcu rfl (by decide) rfl) hasA_base))) (ov_pick rfl rfl rfl (pick_t (eq_t c102))) rfl rfl (onlyT_spec (k0 := 13) rfl rfl rfl)
   ·exact fun done hi hc hcu => draw_same (i := 14) (t := 75) (v := (tU #[])) rfl rfl (wanted_none rfl) (fun a => (hasA_cons (k := 13) rfl (done_of (j := 13) hcu rfl (by decide) rfl) hasA_base)) (ot_call0 (first := []) (cap := []) (xs := [.tmp 74]) rfl rfl F_call_50 rfl (words_must.spec x86 _ h111)) rfl rfl (onlyT_spec (k0 := 14) rfl rfl rfl)
  ·intro done hall
   refine draw_endL C6_ rfl (fun a => (hasA_cons (k := 0) rfl (hall 0 (by decide)) (hasA_cons (k := 1) rfl (hall 1 (by decide)) (hasA_cons (k := 2) rfl (hall 2 (by decide)) (hasA_cons (k := 3) rfl (hall 3 (by decide)) (hasA_cons (k := 4) rfl (hall 4 (by decide)) (hasA_cons (k := 5) rfl (hall 5 (by decide)) (hasA_cons (k := 6) rfl (hall 6 (by decide)) (hasA_cons (k := 7) rfl (hall 7 (by decide)) (hasA_cons (k := 8) rfl (hall 8 (by decide)) (hasA_cons (k := 9) rfl (hall 9 (by decide)) (hasA_cons (k := 10) rfl (hall 10 (by decide)) (hasA_cons (k := 11) rfl (hall 11 (by decide)) (hasA_cons (k := 12) rfl (hall 12 (by decide)) (hasA_cons (k := 13) rfl (hall 13 (by decide)) (hasA_cons (k := 14) rfl (hall 14 (by decide)) hasA_base)))))))))))))))) ?_
   refine ent_seq (ent_region (ent_value (ov_load_agg (vs := C3_) rfl F_agg_41 F_size_41 (reads_boxW (i := 3) rfl)) rfl rfl rfl ?_))
   refine ent_op0 (ot_storeG (cs := C3_) (cs' := C3_) (us := C3_) (L' := C6_) 3 rfl rfl rfl (one_cons rfl (one_cons rfl (one_sl 2 rfl (isRd_ownx 54) (one_cons rfl (one_cons rfl (one_cons rfl (one_cons rfl (one_cons rfl (one_cons rfl (one_cons rfl (one_cons rfl (one_cons rfl (one_cons rfl (one_cons rfl (one_cons rfl (one_cons rfl (one_cons rfl (one_cons rfl (one_cons rfl (one_cons rfl (one_cons rfl (one_cons rfl (one_cons rfl (one_cons rfl (one_cons rfl (one_cons rfl (one_cons rfl one_nil))))))))))))))))))))))))))) F_size_41 rfl rfl (by simp [C26_,C15_,C14_,C5_,C0_,C12_,C11_,C10_,C3_,C6_]) rfl) rfl rfl ?_
   rintro _ _ rfl
   refine ent_nil (ent_retc ?_)
   first | (have e_ := Option.some.inj (show some _ = some _ from H); subst e_) | subst H
   refine ent_ownnil 4 1 ?_
   exact ret_memp [3,0,1,2] (by decide) rfl (vs := [C10_]) rfl ⟨⟨_,C3_,rfl,reads_boxW (i := 4) rfl,.inl ⟨F_agg_41,F_size_41,rfl⟩⟩,trivial⟩ _ rfl ⟨_,_,_,hr71,rfl,rfl⟩
 refine ent_cond_false rfl (eq_f c100) (ent_seq (ent_region (ent_value (ov_bin rfl rfl (b_eql_str _ _)) rfl rfl rfl (ent_value (ov_assign rfl) rfl rfl rfl (ent_nil ?_)))))
 refine htT H (fun c103 H => ?_) fun c103 H => ?_
 ·refine ent_cond_true rfl (eq_t c103) ?_
  cases H
 refine ent_cond_false rfl (eq_f c103) (ent_seq (ent_region (ent_value (ov_bin rfl rfl (b_eql_str _ _)) rfl rfl rfl (ent_value (ov_assign rfl) rfl rfl rfl (ent_nil ?_)))))
 refine htT H (fun c104 H => ?_) fun c104 H => ?_
 ·refine ent_cond_true rfl (eq_t c104) (ent_seq (ent_region (ent_value (ov_fieldAddr (sz := 0) (o := 0) rfl F_field_41_0 F_size_3) rfl rfl rfl ?_)))
  refine ent_op0 (ot_storeG (cs := C0_) (cs' := C26_) (us := [I 3]) (L' := [box p0 72 [sv75,I p0_1],own sv0 9 1 l0.length (fl eS l0),box b6 41 C26_]) 2 rfl rfl rfl (one_all rfl) F_size_3 rfl rfl (by simp [C26_,C15_,C14_,C5_,C0_,C12_,C11_]) rfl) rfl rfl ?_
  rintro _ _ rfl
  refine ent_nil (ent_seq (ent_region ?_))
  refine ent_op (ot_alloc F_zero_2) rfl rfl rfl ?_
  rintro _ _ ⟨b8,rfl,rfl⟩
  let C16_ : Value := agg #[pt b6 17,pt b6 18,pt b6 19,pt b6 20,pt b6 21,pt b6 22,pt b6 23,pt b8 0,pt b6 25]
  refine ent_nil (ent_seq (ent_seq (ent_region (ent_value (ov_fieldAddr (sz := 8) (o := 0) rfl F_field_41_4 F_size_38) rfl rfl rfl ?_))))
  obtain ⟨u30,h114,H⟩ := thn_elim H
  refine ent_op (ot_call_same (Lr := [box p0 72 [sv75,I p0_1],own sv0 9 1 l0.length (fl eS l0)]) [3,0,1,2] [1,2,3,0] (first := []) (cap := []) (xs := [.tmp 40,.tmp 4]) rfl rfl F_call_45 rfl (words_numbers_NN.spec b6 b8 3 0 0 0 false false false false false false false false nB nB nB nB 0 0 0 0 0 0 0 0 0 0 _ h114) (by decide) rfl (by decide) rfl) rfl rfl rfl ?_
  rintro _ _ ⟨rfl,rfl⟩
  refine ent_value (ov_move rfl) rfl rfl rfl (ent_nil (ent_block ?_))
  refine ent_loop (fun k a w => ∃ i24,∃ i25,∃ l5,∃ i26,∃ i27,∃ i28,∃ i29,∃ i30,∃ i31,∃ i33,∃ i34,∃ sv82 : Value,IsRd (own sv0 9 1 l0.length (fl eS l0)) sv82 l5.length 1 (fl eS l5) ∧ words_reader_step_O_l0 K p0_1 k i24 i25 l5 i26 i27 i28 i29 i30 i31 i33 i34 = some r ∧ St 77 w0 F [(0,pt p0 0),(2,pt b6 0),(4,pt b8 0),(41,C16_),(42,I i25)] [box b6 41 [I 3,I 0,L0,I 0,I 0,B0,B0,B0,B0,B0,B0,B0,B0,S0,S0,S0,S0,I i24,I i26,I i27,I i28,I i29,I i30,I i31,I 0,I i34,L0],box b8 2 [I i33],box p0 72 [sv82,I p0_1],own sv0 9 1 l0.length (fl eS l0)] a w) K ?_ ?_
  ·exact ent_fin [3,0,1,2] (by decide) rfl (sub_cons (t := 0) rfl (sub_cons (t := 2) rfl (sub_cons (t := 4) rfl (sub_cons (t := 41) rfl (sub_cons (t := 42) rfl (sub_nil _)))))) fun a w h => ⟨_,_,_,_,_,_,_,_,_,_,_,_,hr69,H,h⟩
  ·refine fun k => ent_exi fun i24 => ent_exi fun i25 => ent_exi fun l5 => ent_exi fun i26 => ent_exi fun i27 => ent_exi fun i28 => ent_exi fun i29 => ent_exi fun i30 => ent_exi fun i31 => ent_exi fun i33 => ent_exi fun i34 => ent_exi fun sv82 => ent_and fun hr74 => ent_and fun H3 => ?_
   let C13_ : Value := agg #[I 3,I 0,L0,I 0,I 0,B0,B0,B0,B0,B0,B0,B0,B0,S0,S0,S0,S0,I i24,I i26,I i27,I i28,I i29,I i30,I i31,I i33,I i34,L0]
   let C4_ : List Value := [I 3,I 0,L0,I 0,I 0,B0,B0,B0,B0,B0,B0,B0,B0,S0,S0,S0,S0,I i24,I i26,I i27,I i28,I i29,I i30,I i31,I 0,I i34,L0]
   let C2_ : List Value := [I 3,I 0,L0,I 0,I 0,B0,B0,B0,B0,B0,B0,B0,B0,S0,S0,S0,S0,I i24,I i26,I i27,I i28,I i29,I i30,I i31,I i33,I i34,L0]
   let C8_ : List HP := [box b6 41 C2_,box b8 2 [I i33],box p0 72 [sv82,I p0_1],own sv0 9 1 l0.length (fl eS l0)]
   cases k with
   | zero => exact absurd H3 (by simp [C26_,C15_,C14_,C5_,C0_,C12_,C11_,C16_,C13_,C4_,C2_,C8_,words_reader_step_O_l0])
   | succ k =>
    rw [words_reader_step_O_l0] at H3
    refine ent_seq (ent_region (ent_value (ov_bin rfl rfl (b_lss _ _ _)) rfl rfl rfl (ent_nil (ent_seq ?_))))
    refine htF H3 (fun c151 H3 => ?_) fun c151 H3 => ?_
    ·refine ent_cond_false rfl (decide_eq_false c151) (ent_exit (ent_region (ent_value (ov_load (v := (I i33)) rfl F_agg_2 (reads_box1 (i := 1) rfl rfl)) rfl rfl rfl (ent_value (ov_fieldAddr (sz := 8) (o := 0) rfl F_field_41_4 F_size_38) rfl rfl rfl (ent_value (ov_fieldAddr (sz := 0) (o := 17) rfl F_field_38_7 F_size_3) rfl rfl rfl ?_)))))
     refine ent_op0 (ot_storeG (cs := C4_) (cs' := C2_) (us := [I i33]) (L' := C8_) 0 rfl rfl rfl (one_all rfl) F_size_3 rfl rfl (by simp [C26_,C15_,C14_,C5_,C0_,C12_,C11_,C16_,C13_,C4_,C2_,C8_]) rfl) rfl rfl ?_
     rintro _ _ rfl
     refine ent_nil (ent_seq ?_)
     refine htF H3 (fun c175 H3 => ?_) fun c175 H3 => ?_
     ·obtain ⟨u35,h176,H3⟩ := Option.bind_eq_some_iff.1 H3
      refine ent_drawm 15 rfl (fun done a w => StD 77 w0 F [(0,pt p0 0),(2,pt b6 0),(4,pt b8 0),(41,C16_),(42,I i25),(43,bool (decide (i25 < 9))),(50,I i33),(51,pt b6 17),(52,pt b6 24)] [(0,61,pt p0 0),(1,62,pt p0 0),(2,63,pt p0 0),(3,64,sv82),(4,65,I (l5.length : Int)),(5,66,bool ((l5.length : Int) == 0)),(6,67,bool ((l5.length : Int) == 0)),(7,68,undef),(8,69,undef),(9,70,undef),(10,71,undef),(11,72,undef),(12,73,undef),(13,74,B0),(14,75,tU #[])] done C8_ a w) (by kernel_rfl) (by kernel_rfl) (draw_startL (sub_cons (t := 0) rfl (sub_cons (t := 2) rfl (sub_cons (t := 4) rfl (sub_cons (t := 41) rfl (sub_cons (t := 42) rfl (sub_cons (t := 43) rfl (sub_cons (t := 50) rfl (sub_cons (t := 51) rfl (sub_cons (t := 52) rfl (sub_nil _)))))))))) rfl) ?_ ?_
      ·refine ⟨?_,?_,?_,?_,?_,?_,?_,?_,?_,?_,?_,?_,?_,?_,?_,trivial⟩
       ·exact fun done hi hc hcu => draw_value (i := 0) (t := 61) (v := (pt p0 0)) rfl rfl (wanted_none rfl) (fun a => hasA_base) (ov_move rfl) rfl rfl (onlyT_spec (k0 := 0) rfl rfl rfl)
       ·exact fun done hi hc hcu => draw_value (i := 1) (t := 62) (v := (pt p0 0)) rfl rfl (wanted_none rfl) (fun a => (hasA_cons (k := 0) rfl (done_of (j := 0) hcu rfl (by decide) rfl) hasA_base)) (ov_nilCheck rfl) rfl rfl (onlyT_spec (k0 := 1) rfl rfl rfl)
       ·exact fun done hi hc hcu => draw_value (i := 2) (t := 63) (v := (pt p0 0)) rfl rfl (wanted_none rfl) (fun a => (hasA_cons (k := 1) rfl (done_of (j := 1) hcu rfl (by decide) rfl) hasA_base)) (ov_fieldAddr (sz := 0) (o := 0) rfl F_field_72_0 F_size_29) rfl rfl (onlyT_spec (k0 := 2) rfl rfl rfl)
       ·exact fun done hi hc hcu => draw_value (i := 3) (t := 64) (v := sv82) rfl rfl (wanted_none rfl) (fun a => (hasA_cons (k := 2) rfl (done_of (j := 2) hcu rfl (by decide) rfl) hasA_base)) (ov_load (v := sv82) rfl F_agg_29 (reads_box1 (i := 2) rfl rfl)) rfl rfl (onlyT_spec (k0 := 3) rfl rfl rfl)
       ·exact fun done hi hc hcu => draw_value (i := 4) (t := 65) (v := (I (l5.length : Int))) rfl rfl (wanted_none rfl) (fun a => (hasA_cons (k := 3) rfl (done_of (j := 3) hcu rfl (by decide) rfl) hasA_base)) (ov_len 3 rfl F_slice_29 rfl hr74) rfl rfl (onlyT_spec (k0 := 4) rfl rfl rfl)
       ·exact fun done hi hc hcu => draw_value (i := 5) (t := 66) (v := (bool ((l5.length : Int) == 0))) rfl rfl (wanted_none rfl) (fun a => (hasA_cons (k := 4) rfl (done_of (j := 4) hcu rfl (by decide) rfl) hasA_base)) (ov_bin rfl rfl (b_eql _ _ _)) rfl rfl (onlyT_spec (k0 := 5) rfl rfl rfl)
       ·exact fun done hi hc hcu => draw_value (i := 6) (t := 67) (v := (bool ((l5.length : Int) == 0))) rfl rfl (wanted_none rfl) (fun a => (hasA_cons (k := 5) rfl (done_of (j := 5) hcu rfl (by decide) rfl) hasA_base)) (ov_move rfl) rfl rfl (onlyT_spec (k0 := 6) rfl rfl rfl)
       ·exact fun done hi hc hcu => draw_off (i := 7) (t := 68) rfl rfl (wanted_off rfl rfl rfl (eq_f c175)) (fun a => (hasA_cons (k := 6) rfl (done_of (j := 6) hcu rfl (by decide) rfl) hasA_base)) rfl rfl (onlyT_spec (k0 := 7) rfl rfl rfl)
       ·exact fun done hi hc hcu => draw_off (i := 8) (t := 69) rfl rfl (wanted_off rfl rfl rfl (eq_f c175)) (fun a => (hasA_cons (k := 6) rfl (done_of (j := 6) hcu rfl (by decide) rfl) hasA_base)) rfl rfl (onlyT_spec (k0 := 8) rfl rfl rfl)
       ·exact fun done hi hc hcu => draw_off (i := 9) (t := 70) rfl rfl (wanted_off rfl rfl rfl (eq_f c175)) (fun a => (hasA_cons (k := 6) rfl (done_of (j := 6) hcu rfl (by decide) rfl) hasA_base)) rfl rfl (onlyT_spec (k0 := 9) rfl rfl rfl)
       ·exact fun done hi hc hcu => draw_off (i := 10) (t := 71) rfl rfl (wanted_off rfl rfl rfl (eq_f c175)) (fun a => (hasA_cons (k := 6) rfl (done_of (j := 6) hcu rfl (by decide) rfl) hasA_base)) rfl rfl (onlyT_spec (k0 := 10) rfl rfl rfl)
       ·exact fun done hi hc hcu => draw_off (i := 11) (t := 72) rfl rfl (wanted_off rfl rfl rfl (eq_f c175)) (fun a => (hasA_cons (k := 6) rfl (done_of (j := 6) hcu rfl (by decide) rfl) hasA_base)) rfl rfl (onlyT_spec (k0 := 11) rfl rfl rfl)
       ·exact fun done hi hc hcu => draw_off (i := 12) (t := 73) rfl rfl (wanted_off rfl rfl rfl (eq_f c175)) (fun a => (hasA_cons (k := 6) rfl (done_of (j := 6) hcu rfl (by decide) rfl) hasA_base)) rfl rfl (onlyT_spec (k0 := 12) rfl rfl rfl)
       ·exact fun done hi hc hcu => draw_value (i := 13) (t := 74) (v := B0) rfl rfl (wanted_none rfl) (fun a => (hasA_cons (k := 12) rfl (done_of (j := 12) hcu rfl (by decide) rfl) (hasA_cons (k := 6) rfl (done_of (j := 6) hcu rfl (by decide) rfl) hasA_base))) (ov_pick rfl rfl rfl (pick_f (eq_f c175))) rfl rfl (onlyT_spec (k0 := 13) rfl rfl rfl)
       ·exact fun done hi hc hcu => draw_same (i := 14) (t := 75) (v := (tU #[])) rfl rfl (wanted_none rfl) (fun a => (hasA_cons (k := 13) rfl (done_of (j := 13) hcu rfl (by decide) rfl) hasA_base)) (ot_call0 (first := []) (cap := []) (xs := [.tmp 74]) rfl rfl F_call_50 rfl (words_must.spec false _ h176)) rfl rfl (onlyT_spec (k0 := 14) rfl rfl rfl)
      ·intro done hall
       refine draw_endL C8_ rfl (fun a => (hasA_cons (k := 0) rfl (hall 0 (by decide)) (hasA_cons (k := 1) rfl (hall 1 (by decide)) (hasA_cons (k := 2) rfl (hall 2 (by decide)) (hasA_cons (k := 3) rfl (hall 3 (by decide)) (hasA_cons (k := 4) rfl (hall 4 (by decide)) (hasA_cons (k := 5) rfl (hall 5 (by decide)) (hasA_cons (k := 6) rfl (hall 6 (by decide)) (hasA_cons (k := 7) rfl (hall 7 (by decide)) (hasA_cons (k := 8) rfl (hall 8 (by decide)) (hasA_cons (k := 9) rfl (hall 9 (by decide)) (hasA_cons (k := 10) rfl (hall 10 (by decide)) (hasA_cons (k := 11) rfl (hall 11 (by decide)) (hasA_cons (k := 12) rfl (hall 12 (by decide)) (hasA_cons (k := 13) rfl (hall 13 (by decide)) (hasA_cons (k := 14) rfl (hall 14 (by decide)) hasA_base)))))))))))))))) ?_
       refine ent_seq (ent_region (ent_value (ov_load_agg (vs := C2_) rfl F_agg_41 F_size_41 (reads_boxW (i := 0) rfl)) rfl rfl rfl ?_))
       refine ent_op0 (ot_storeG (cs := C2_) (cs' := C2_) (us := C2_) (L' := C8_) 0 rfl rfl rfl (one_all rfl) F_size_41 rfl rfl (by simp [C26_,C15_,C14_,C5_,C0_,C12_,C11_,C16_,C13_,C4_,C2_,C8_]) rfl) rfl rfl ?_
       rintro _ _ rfl
       refine ent_nil (ent_retc ?_)
       first | (have e_ := Option.some.inj (show some _ = some _ from H3); subst e_) | subst H3
       refine ent_ownnil 54 6 ?_
       refine ent_ownnil 4 1 ?_
       exact ret_memp [1,0,4,5] (by decide) rfl (vs := [C13_]) rfl ⟨⟨_,C2_,rfl,reads_boxW (i := 2) rfl,.inl ⟨F_agg_41,F_size_41,rfl⟩⟩,trivial⟩ _ rfl ⟨_,_,_,hr74,rfl,rfl⟩
     obtain ⟨x144,h174,H3⟩ := Option.bind_eq_some_iff.1 H3
     obtain ⟨u34,h175,H3⟩ := Option.bind_eq_some_iff.1 H3
     refine ent_drawm 15 rfl (fun done a w => StD 77 w0 F [(0,pt p0 0),(2,pt b6 0),(4,pt b8 0),(41,C16_),(42,I i25),(43,bool (decide (i25 < 9))),(50,I i33),(51,pt b6 17),(52,pt b6 24)] [(0,61,pt p0 0),(1,62,pt p0 0),(2,63,pt p0 0),(3,64,sv82),(4,65,I (l5.length : Int)),(5,66,bool ((l5.length : Int) == 0)),(6,67,bool ((l5.length : Int) == 0)),(7,68,C13_),(8,69,pt p0 0),(9,70,pt p0 0),(10,71,pt p0 1),(11,72,I p0_1),(12,73,bool x144),(13,74,bool x144),(14,75,tU #[])] done C8_ a w) (by kernel_rfl) (by kernel_rfl) (draw_startL (sub_cons (t := 0) rfl (sub_cons (t := 2) rfl (sub_cons (t := 4) rfl (sub_cons (t := 41) rfl (sub_cons (t := 42) rfl (sub_cons (t := 43) rfl (sub_cons (t := 50) rfl (sub_cons (t := 51) rfl (sub_cons (t := 52) rfl (sub_nil _)))))))))) rfl) ?_ ?_
     ·refine ⟨?_,?_,?_,?_,?_,?_,?_,?_,?_,?_,?_,?_,?_,?_,?_,trivial⟩
      ·exact fun done hi hc hcu => draw_value (i := 0) (t := 61) (v := (pt p0 0)) rfl rfl (wanted_none rfl) (fun a => hasA_base) (ov_move rfl) rfl rfl (onlyT_spec (k0 := 0) rfl rfl rfl)
      ·exact fun done hi hc hcu => draw_value (i := 1) (t := 62) (v := (pt p0 0)) rfl rfl (wanted_none rfl) (fun a => (hasA_cons (k := 0) rfl (done_of (j := 0) hcu rfl (by decide) rfl) hasA_base)) (ov_nilCheck rfl) rfl rfl (onlyT_spec (k0 := 1) rfl rfl rfl)
      ·exact fun done hi hc hcu => draw_value (i := 2) (t := 63) (v := (pt p0 0)) rfl rfl (wanted_none rfl) (fun a => (hasA_cons (k := 1) rfl (done_of (j := 1) hcu rfl (by decide) rfl) hasA_base)) (ov_fieldAddr (sz := 0) (o := 0) rfl F_field_72_0 F_size_29) rfl rfl (onlyT_spec (k0 := 2) rfl rfl rfl)
      ·exact fun done hi hc hcu => draw_value (i := 3) (t := 64) (v := sv82) rfl rfl (wanted_none rfl) (fun a => (hasA_cons (k := 2) rfl (done_of (j := 2) hcu rfl (by decide) rfl) hasA_base)) (ov_load (v := sv82) rfl F_agg_29 (reads_box1 (i := 2) rfl rfl)) rfl rfl (onlyT_spec (k0 := 3) rfl rfl rfl)
      ·exact fun done hi hc hcu => draw_value (i := 4) (t := 65) (v := (I (l5.length : Int))) rfl rfl (wanted_none rfl) (fun a => (hasA_cons (k := 3) rfl (done_of (j := 3) hcu rfl (by decide) rfl) hasA_base)) (ov_len 3 rfl F_slice_29 rfl hr74) rfl rfl (onlyT_spec (k0 := 4) rfl rfl rfl)
      ·exact fun done hi hc hcu => draw_value (i := 5) (t := 66) (v := (bool ((l5.length : Int) == 0))) rfl rfl (wanted_none rfl) (fun a => (hasA_cons (k := 4) rfl (done_of (j := 4) hcu rfl (by decide) rfl) hasA_base)) (ov_bin rfl rfl (b_eql _ _ _)) rfl rfl (onlyT_spec (k0 := 5) rfl rfl rfl)
      ·exact fun done hi hc hcu => draw_value (i := 6) (t := 67) (v := (bool ((l5.length : Int) == 0))) rfl rfl (wanted_none rfl) (fun a => (hasA_cons (k := 5) rfl (done_of (j := 5) hcu rfl (by decide) rfl) hasA_base)) (ov_move rfl) rfl rfl (onlyT_spec (k0 := 6) rfl rfl rfl)
      ·exact fun done hi hc hcu => draw_value (i := 7) (t := 68) (v := (C13_)) rfl rfl (wanted_on rfl rfl rfl (eq_t c175)) (fun a => (hasA_cons (k := 6) rfl (done_of (j := 6) hcu rfl (by decide) rfl) hasA_base)) (ov_load_agg (vs := C2_) rfl F_agg_41 F_size_41 (reads_boxW (i := 0) rfl)) rfl rfl (onlyT_spec (k0 := 7) rfl rfl rfl)
      ·exact fun done hi hc hcu => draw_value (i := 8) (t := 69) (v := (pt p0 0)) rfl rfl (wanted_on rfl rfl rfl (eq_t c175)) (fun a => (hasA_cons (k := 6) rfl (done_of (j := 6) hcu rfl (by decide) rfl) hasA_base)) (ov_move rfl) rfl rfl (onlyT_spec (k0 := 8) rfl rfl rfl)
      ·exact fun done hi hc hcu => draw_value (i := 9) (t := 70) (v := (pt p0 0)) rfl rfl (wanted_on rfl rfl rfl (eq_t c175)) (fun a => (hasA_cons (k := 6) rfl (done_of (j := 6) hcu rfl (by decide) rfl) (hasA_cons (k := 8) rfl (done_of (j := 8) hcu rfl (by decide) rfl) hasA_base))) (ov_nilCheck rfl) rfl rfl (onlyT_spec (k0 := 9) rfl rfl rfl)
      ·exact fun done hi hc hcu => draw_value (i := 10) (t := 71) (v := (pt p0 1)) rfl rfl (wanted_on rfl rfl rfl (eq_t c175)) (fun a => (hasA_cons (k := 6) rfl (done_of (j := 6) hcu rfl (by decide) rfl) (hasA_cons (k := 9) rfl (done_of (j := 9) hcu rfl (by decide) rfl) hasA_base))) (ov_fieldAddr (sz := 0) (o := 0) rfl F_field_72_1 F_size_3) rfl rfl (onlyT_spec (k0 := 10) rfl rfl rfl)
      ·exact fun done hi hc hcu => draw_value (i := 11) (t := 72) (v := (I p0_1)) rfl rfl (wanted_on rfl rfl rfl (eq_t c175)) (fun a => (hasA_cons (k := 6) rfl (done_of (j := 6) hcu rfl (by decide) rfl) (hasA_cons (k := 10) rfl (done_of (j := 10) hcu rfl (by decide) rfl) hasA_base))) (ov_load (v := (I p0_1)) rfl F_agg_3 (reads_box1 (i := 2) rfl rfl)) rfl rfl (onlyT_spec (k0 := 11) rfl rfl rfl)
      ·exact fun done hi hc hcu => draw_same (i := 12) (t := 73) (v := (bool x144)) rfl rfl (wanted_on rfl rfl rfl (eq_t c175)) (fun a => (hasA_cons (k := 6) rfl (done_of (j := 6) hcu rfl (by decide) rfl) (hasA_cons (k := 11) rfl (done_of (j := 11) hcu rfl (by decide) rfl) (hasA_cons (k := 7) rfl (done_of (j := 7) hcu rfl (by decide) rfl) hasA_base)))) (ot_call0 (first := []) (cap := []) (xs := [.tmp 68,.tmp 72]) rfl rfl F_call_51 rfl (script_Right_NN.spec K i24 i26 i27 i28 i29 i30 i31 i33 i34 p0_1 _ h174)) rfl rfl (onlyT_spec (k0 := 12) rfl rfl rfl)
      ·exact fun done hi hc hcu => draw_value (i := 13) (t := 74) (v := (bool x144)) rfl rfl (wanted_none rfl) (fun a => (hasA_cons (k := 12) rfl (done_of (j := 12) hcu rfl (by decide) rfl) (hasA_cons (k := 6) rfl (done_of (j := 6) hcu rfl (by decide) rfl) hasA_base))) (ov_pick rfl rfl rfl (pick_t (eq_t c175))) rfl rfl (onlyT_spec (k0 := 13) rfl rfl rfl)
      ·exact fun done hi hc hcu => draw_same (i := 14) (t := 75) (v := (tU #[])) rfl rfl (wanted_none rfl) (fun a => (hasA_cons (k := 13) rfl (done_of (j := 13) hcu rfl (by decide) rfl) hasA_base)) (ot_call0 (first := []) (cap := []) (xs := [.tmp 74]) rfl rfl F_call_50 rfl (words_must.spec x144 _ h175)) rfl rfl (onlyT_spec (k0 := 14) rfl rfl rfl)
     ·intro done hall
      refine draw_endL C8_ rfl (fun a => (hasA_cons (k := 0) rfl (hall 0 (by decide)) (hasA_cons (k := 1) rfl (hall 1 (by decide)) (hasA_cons (k := 2) rfl (hall 2 (by decide)) (hasA_cons (k := 3) rfl (hall 3 (by decide)) (hasA_cons (k := 4) rfl (hall 4 (by decide)) (hasA_cons (k := 5) rfl (hall 5 (by decide)) (hasA_cons (k := 6) rfl (hall 6 (by decide)) (hasA_cons (k := 7) rfl (hall 7 (by decide)) (hasA_cons (k := 8) rfl (hall 8 (by decide)) (hasA_cons (k := 9) rfl (hall 9 (by decide)) (hasA_cons (k := 10) rfl (hall 10 (by decide)) (hasA_cons (k := 11) rfl (hall 11 (by decide)) (hasA_cons (k := 12) rfl (hall 12 (by decide)) (hasA_cons (k := 13) rfl (hall 13 (by decide)) (hasA_cons (k := 14) rfl (hall 14 (by decide)) hasA_base)))))))))))))))) ?_
      refine ent_seq (ent_region (ent_value (ov_load_agg (vs := C2_) rfl F_agg_41 F_size_41 (reads_boxW (i := 0) rfl)) rfl rfl rfl ?_))
      refine ent_op0 (ot_storeG (cs := C2_) (cs' := C2_) (us := C2_) (L' := C8_) 0 rfl rfl rfl (one_all rfl) F_size_41 rfl rfl (by simp [C26_,C15_,C14_,C5_,C0_,C12_,C11_,C16_,C13_,C4_,C2_,C8_]) rfl) rfl rfl ?_
      rintro _ _ rfl
      refine ent_nil (ent_retc ?_)
      first | (have e_ := Option.some.inj (show some _ = some _ from H3); subst e_) | subst H3
      refine ent_ownnil 54 6 ?_
      refine ent_ownnil 4 1 ?_
      exact ret_memp [1,0,4,5] (by decide) rfl (vs := [C13_]) rfl ⟨⟨_,C2_,rfl,reads_boxW (i := 2) rfl,.inl ⟨F_agg_41,F_size_41,rfl⟩⟩,trivial⟩ _ rfl ⟨_,_,_,hr74,rfl,rfl⟩
    refine ent_cond_true rfl (decide_eq_true c151) (ent_skip (ent_seq (ent_block (ent_seq (ent_region ?_)))))
    obtain ⟨c163,H3⟩ := gdT H3
    obtain ⟨c164,H3⟩ := gdT H3
    refine htT H3 (fun c165 H3 => ?_) fun c165 H3 => ?_
    ·refine ent_value (ov_indexAggN rfl rfl F_array_86 F_size_85 F_agg_85 c163 c164 (by rw [c165]; rfl)) rfl rfl rfl (ent_value (ov_assign rfl) rfl rfl rfl (ent_nil (ent_region (ent_value (ov_move rfl) rfl rfl rfl (ent_value (ov_move rfl) rfl rfl rfl ?_)))))
     obtain ⟨x126,h154,H3⟩ := Option.bind_eq_some_iff.1 H3
     let C18_ : List Value := [I 3,I 0,L0,I 0,I 0,B0,B0,B0,B0,B0,B0,B0,B0,S0,S0,S0,S0,I x126.2,I i26,I i27,I i28,I i29,I i30,I i31,I 0,I i34,L0]
     refine ent_pick [2,3,0,1] (by decide) rfl ?_
     refine ent_op (ot_call (Lr := [box b6 41 C4_,box b8 2 [I i33]]) (first := []) (cap := []) (xs := [.tmp 46]) rfl rfl F_call_46 rfl (words_reader_num_R.spec K p0 sv82 (own sv0 9 1 l0.length (fl eS l0)) l5 p0_1 hr74 _ h154) rfl) rfl rfl rfl ?_
     rintro _ _ ⟨_,⟨sv120,hr112,rfl,rfl⟩,rfl⟩
     refine ent_value (ov_nilCheck rfl) rfl rfl rfl ?_
     refine ent_op0 (ot_storeG (cs := C4_) (cs' := C18_) (us := [I x126.2]) (L' := [box p0 72 [sv120,I p0_1],own sv0 9 1 l0.length (fl eS l0),box b6 41 C18_,box b8 2 [I i33]]) 2 rfl rfl rfl (one_all rfl) F_size_2 rfl rfl (by simp [C26_,C15_,C14_,C5_,C0_,C12_,C11_,C16_,C13_,C4_,C2_,C8_,C18_]) rfl) rfl rfl ?_
     rintro _ _ rfl
     refine ent_nil (ent_region (ent_value (ov_bin rfl rfl (b_add _ _ _) ) rfl rfl rfl (ent_value (ov_move rfl) rfl rfl rfl (ent_nil ?_))))
     exact ent_fin [2,3,0,1] (by decide) rfl (sub_cons (t := 0) rfl (sub_cons (t := 2) rfl (sub_cons (t := 4) rfl (sub_cons (t := 41) rfl (sub_cons (t := 42) rfl (sub_nil _)))))) fun a w h => ⟨k,Nat.lt_succ_self k,_,_,_,_,_,_,_,_,_,_,_,_,hr112,H3,h⟩
    refine htT H3 (fun c166 H3 => ?_) fun c166 H3 => ?_
    ·refine ent_value (ov_indexAggN rfl rfl F_array_86 F_size_85 F_agg_85 c163 c164 (by rw [c166]; rfl)) rfl rfl rfl (ent_value (ov_assign rfl) rfl rfl rfl (ent_nil (ent_region (ent_value (ov_move rfl) rfl rfl rfl (ent_value (ov_move rfl) rfl rfl rfl ?_)))))
     obtain ⟨x128,h156,H3⟩ := Option.bind_eq_some_iff.1 H3
     let C19_ : List Value := [I 3,I 0,L0,I 0,I 0,B0,B0,B0,B0,B0,B0,B0,B0,S0,S0,S0,S0,I i24,I x128.2,I i27,I i28,I i29,I i30,I i31,I 0,I i34,L0]
     refine ent_pick [2,3,0,1] (by decide) rfl ?_
     refine ent_op (ot_call (Lr := [box b6 41 C4_,box b8 2 [I i33]]) (first := []) (cap := []) (xs := [.tmp 46]) rfl rfl F_call_46 rfl (words_reader_num_R.spec K p0 sv82 (own sv0 9 1 l0.length (fl eS l0)) l5 p0_1 hr74 _ h156) rfl) rfl rfl rfl ?_
     rintro _ _ ⟨_,⟨sv122,hr114,rfl,rfl⟩,rfl⟩
     refine ent_value (ov_nilCheck rfl) rfl rfl rfl ?_
     refine ent_op0 (ot_storeG (cs := C4_) (cs' := C19_) (us := [I x128.2]) (L' := [box p0 72 [sv122,I p0_1],own sv0 9 1 l0.length (fl eS l0),box b6 41 C19_,box b8 2 [I i33]]) 2 rfl rfl rfl (one_all rfl) F_size_2 rfl rfl (by simp [C26_,C15_,C14_,C5_,C0_,C12_,C11_,C16_,C13_,C4_,C2_,C8_,C19_]) rfl) rfl rfl ?_
     rintro _ _ rfl
     refine ent_nil (ent_region (ent_value (ov_bin rfl rfl (b_add _ _ _) ) rfl rfl rfl (ent_value (ov_move rfl) rfl rfl rfl (ent_nil ?_))))
     exact ent_fin [2,3,0,1] (by decide) rfl (sub_cons (t := 0) rfl (sub_cons (t := 2) rfl (sub_cons (t := 4) rfl (sub_cons (t := 41) rfl (sub_cons (t := 42) rfl (sub_nil _)))))) fun a w h => ⟨k,Nat.lt_succ_self k,_,_,_,_,_,_,_,_,_,_,_,_,hr114,H3,h⟩
    refine htT H3 (fun c167 H3 => ?_) fun c167 H3 => ?_
    ·refine ent_value (ov_indexAggN rfl rfl F_array_86 F_size_85 F_agg_85 c163 c164 (by rw [c167]; rfl)) rfl rfl rfl (ent_value (ov_assign rfl) rfl rfl rfl (ent_nil (ent_region (ent_value (ov_move rfl) rfl rfl rfl (ent_value (ov_move rfl) rfl rfl rfl ?_)))))
     obtain ⟨x130,h158,H3⟩ := Option.bind_eq_some_iff.1 H3
     let C20_ : List Value := [I 3,I 0,L0,I 0,I 0,B0,B0,B0,B0,B0,B0,B0,B0,S0,S0,S0,S0,I i24,I i26,I x130.2,I i28,I i29,I i30,I i31,I 0,I i34,L0]
     refine ent_pick [2,3,0,1] (by decide) rfl ?_
     refine ent_op (ot_call (Lr := [box b6 41 C4_,box b8 2 [I i33]]) (first := []) (cap := []) (xs := [.tmp 46]) rfl rfl F_call_46 rfl (words_reader_num_R.spec K p0 sv82 (own sv0 9 1 l0.length (fl eS l0)) l5 p0_1 hr74 _ h158) rfl) rfl rfl rfl ?_
     rintro _ _ ⟨_,⟨sv124,hr116,rfl,rfl⟩,rfl⟩
     refine ent_value (ov_nilCheck rfl) rfl rfl rfl ?_
     refine ent_op0 (ot_storeG (cs := C4_) (cs' := C20_) (us := [I x130.2]) (L' := [box p0 72 [sv124,I p0_1],own sv0 9 1 l0.length (fl eS l0),box b6 41 C20_,box b8 2 [I i33]]) 2 rfl rfl rfl (one_all rfl) F_size_2 rfl rfl (by simp [C26_,C15_,C14_,C5_,C0_,C12_,C11_,C16_,C13_,C4_,C2_,C8_,C20_]) rfl) rfl rfl ?_
     rintro _ _ rfl
     refine ent_nil (ent_region (ent_value (ov_bin rfl rfl (b_add _ _ _) ) rfl rfl rfl (ent_value (ov_move rfl) rfl rfl rfl (ent_nil ?_))))
     exact ent_fin [2,3,0,1] (by decide) rfl (sub_cons (t := 0) rfl (sub_cons (t := 2) rfl (sub_cons (t := 4) rfl (sub_cons (t := 41) rfl (sub_cons (t := 42) rfl (sub_nil _)))))) fun a w h => ⟨k,Nat.lt_succ_self k,_,_,_,_,_,_,_,_,_,_,_,_,hr116,H3,h⟩
    refine htT H3 (fun c168 H3 => ?_) fun c168 H3 => ?_
    ·refine ent_value (ov_indexAggN rfl rfl F_array_86 F_size_85 F_agg_85 c163 c164 (by rw [c168]; rfl)) rfl rfl rfl (ent_value (ov_assign rfl) rfl rfl rfl (ent_nil (ent_region (ent_value (ov_move rfl) rfl rfl rfl (ent_value (ov_move rfl) rfl rfl rfl ?_)))))
     obtain ⟨x132,h160,H3⟩ := Option.bind_eq_some_iff.1 H3
     let C21_ : List Value := [I 3,I 0,L0,I 0,I 0,B0,B0,B0,B0,B0,B0,B0,B0,S0,S0,S0,S0,I i24,I i26,I i27,I x132.2,I i29,I i30,I i31,I 0,I i34,L0]
     refine ent_pick [2,3,0,1] (by decide) rfl ?_
     refine ent_op (ot_call (Lr := [box b6 41 C4_,box b8 2 [I i33]]) (first := []) (cap := []) (xs := [.tmp 46]) rfl rfl F_call_46 rfl (words_reader_num_R.spec K p0 sv82 (own sv0 9 1 l0.length (fl eS l0)) l5 p0_1 hr74 _ h160) rfl) rfl rfl rfl ?_
     rintro _ _ ⟨_,⟨sv126,hr118,rfl,rfl⟩,rfl⟩
     refine ent_value (ov_nilCheck rfl) rfl rfl rfl ?_
     refine ent_op0 (ot_storeG (cs := C4_) (cs' := C21_) (us := [I x132.2]) (L' := [box p0 72 [sv126,I p0_1],own sv0 9 1 l0.length (fl eS l0),box b6 41 C21_,box b8 2 [I i33]]) 2 rfl rfl rfl (one_all rfl) F_size_2 rfl rfl (by simp [C26_,C15_,C14_,C5_,C0_,C12_,C11_,C16_,C13_,C4_,C2_,C8_,C21_]) rfl) rfl rfl ?_
     rintro _ _ rfl
     refine ent_nil (ent_region (ent_value (ov_bin rfl rfl (b_add _ _ _) ) rfl rfl rfl (ent_value (ov_move rfl) rfl rfl rfl (ent_nil ?_))))
     exact ent_fin [2,3,0,1] (by decide) rfl (sub_cons (t := 0) rfl (sub_cons (t := 2) rfl (sub_cons (t := 4) rfl (sub_cons (t := 41) rfl (sub_cons (t := 42) rfl (sub_nil _)))))) fun a w h => ⟨k,Nat.lt_succ_self k,_,_,_,_,_,_,_,_,_,_,_,_,hr118,H3,h⟩
    refine htT H3 (fun c169 H3 => ?_) fun c169 H3 => ?_
    ·refine ent_value (ov_indexAggN rfl rfl F_array_86 F_size_85 F_agg_85 c163 c164 (by rw [c169]; rfl)) rfl rfl rfl (ent_value (ov_assign rfl) rfl rfl rfl (ent_nil (ent_region (ent_value (ov_move rfl) rfl rfl rfl (ent_value (ov_move rfl) rfl rfl rfl ?_)))))
     obtain ⟨x134,h162,H3⟩ := Option.bind_eq_some_iff.1 H3
     let C22_ : List Value := [I 3,I 0,L0,I 0,I 0,B0,B0,B0,B0,B0,B0,B0,B0,S0,S0,S0,S0,I i24,I i26,I i27,I i28,I x134.2,I i30,I i31,I 0,I i34,L0]
     refine ent_pick [2,3,0,1] (by decide) rfl ?_
     refine ent_op (ot_call (Lr := [box b6 41 C4_,box b8 2 [I i33]]) (first := []) (cap := []) (xs := [.tmp 46]) rfl rfl F_call_46 rfl (words_reader_num_R.spec K p0 sv82 (own sv0 9 1 l0.length (fl eS l0)) l5 p0_1 hr74 _ h162) rfl) rfl rfl rfl ?_
     rintro _ _ ⟨_,⟨sv128,hr120,rfl,rfl⟩,rfl⟩
     refine ent_value (ov_nilCheck rfl) rfl rfl rfl ?_
     refine ent_op0 (ot_storeG (cs := C4_) (cs' := C22_) (us := [I x134.2]) (L' := [box p0 72 [sv128,I p0_1],own sv0 9 1 l0.length (fl eS l0),box b6 41 C22_,box b8 2 [I i33]]) 2 rfl rfl rfl (one_all rfl) F_size_2 rfl rfl (by simp [C26_,C15_,C14_,C5_,C0_,C12_,C11_,C16_,C13_,C4_,C2_,C8_,C22_]) rfl) rfl rfl ?_
     rintro _ _ rfl
     refine ent_nil (ent_region (ent_value (ov_bin rfl rfl (b_add _ _ _) ) rfl rfl rfl (ent_value (ov_move rfl) rfl rfl rfl (ent_nil ?_))))
     exact ent_fin [2,3,0,1] (by decide) rfl (sub_cons (t := 0) rfl (sub_cons (t := 2) rfl (sub_cons (t := 4) rfl (sub_cons (t := 41) rfl (sub_cons (t := 42) rfl (sub_nil _)))))) fun a w h => ⟨k,Nat.lt_succ_self k,_,_,_,_,_,_,_,_,_,_,_,_,hr120,H3,h⟩
    refine htT H3 (fun c170 H3 => ?_) fun c170 H3 => ?_
    ·refine ent_value (ov_indexAggN rfl rfl F_array_86 F_size_85 F_agg_85 c163 c164 (by rw [c170]; rfl)) rfl rfl rfl (ent_value (ov_assign rfl) rfl rfl rfl (ent_nil (ent_region (ent_value (ov_move rfl) rfl rfl rfl (ent_value (ov_move rfl) rfl rfl rfl ?_)))))
     obtain ⟨x136,h164,H3⟩ := Option.bind_eq_some_iff.1 H3
     let C23_ : List Value := [I 3,I 0,L0,I 0,I 0,B0,B0,B0,B0,B0,B0,B0,B0,S0,S0,S0,S0,I i24,I i26,I i27,I i28,I i29,I x136.2,I i31,I 0,I i34,L0]
     refine ent_pick [2,3,0,1] (by decide) rfl ?_
     refine ent_op (ot_call (Lr := [box b6 41 C4_,box b8 2 [I i33]]) (first := []) (cap := []) (xs := [.tmp 46]) rfl rfl F_call_46 rfl (words_reader_num_R.spec K p0 sv82 (own sv0 9 1 l0.length (fl eS l0)) l5 p0_1 hr74 _ h164) rfl) rfl rfl rfl ?_
     rintro _ _ ⟨_,⟨sv130,hr122,rfl,rfl⟩,rfl⟩
     refine ent_value (ov_nilCheck rfl) rfl rfl rfl ?_
     refine ent_op0 (ot_storeG (cs := C4_) (cs' := C23_) (us := [I x136.2]) (L' := [box p0 72 [sv130,I p0_1],own sv0 9 1 l0.length (fl eS l0),box b6 41 C23_,box b8 2 [I i33]]) 2 rfl rfl rfl (one_all rfl) F_size_2 rfl rfl (by simp [C26_,C15_,C14_,C5_,C0_,C12_,C11_,C16_,C13_,C4_,C2_,C8_,C23_]) rfl) rfl rfl ?_
     rintro _ _ rfl
     refine ent_nil (ent_region (ent_value (ov_bin rfl rfl (b_add _ _ _) ) rfl rfl rfl (ent_value (ov_move rfl) rfl rfl rfl (ent_nil ?_))))
     exact ent_fin [2,3,0,1] (by decide) rfl (sub_cons (t := 0) rfl (sub_cons (t := 2) rfl (sub_cons (t := 4) rfl (sub_cons (t := 41) rfl (sub_cons (t := 42) rfl (sub_nil _)))))) fun a w h => ⟨k,Nat.lt_succ_self k,_,_,_,_,_,_,_,_,_,_,_,_,hr122,H3,h⟩
    refine htT H3 (fun c171 H3 => ?_) fun c171 H3 => ?_
    ·refine ent_value (ov_indexAggN rfl rfl F_array_86 F_size_85 F_agg_85 c163 c164 (by rw [c171]; rfl)) rfl rfl rfl (ent_value (ov_assign rfl) rfl rfl rfl (ent_nil (ent_region (ent_value (ov_move rfl) rfl rfl rfl (ent_value (ov_move rfl) rfl rfl rfl ?_)))))
     obtain ⟨x138,h166,H3⟩ := Option.bind_eq_some_iff.1 H3
     let C24_ : List Value := [I 3,I 0,L0,I 0,I 0,B0,B0,B0,B0,B0,B0,B0,B0,S0,S0,S0,S0,I i24,I i26,I i27,I i28,I i29,I i30,I x138.2,I 0,I i34,L0]
     refine ent_pick [2,3,0,1] (by decide) rfl ?_
     refine ent_op (ot_call (Lr := [box b6 41 C4_,box b8 2 [I i33]]) (first := []) (cap := []) (xs := [.tmp 46]) rfl rfl F_call_46 rfl (words_reader_num_R.spec K p0 sv82 (own sv0 9 1 l0.length (fl eS l0)) l5 p0_1 hr74 _ h166) rfl) rfl rfl rfl ?_
     rintro _ _ ⟨_,⟨sv132,hr124,rfl,rfl⟩,rfl⟩
     refine ent_value (ov_nilCheck rfl) rfl rfl rfl ?_
     refine ent_op0 (ot_storeG (cs := C4_) (cs' := C24_) (us := [I x138.2]) (L' := [box p0 72 [sv132,I p0_1],own sv0 9 1 l0.length (fl eS l0),box b6 41 C24_,box b8 2 [I i33]]) 2 rfl rfl rfl (one_all rfl) F_size_2 rfl rfl (by simp [C26_,C15_,C14_,C5_,C0_,C12_,C11_,C16_,C13_,C4_,C2_,C8_,C24_]) rfl) rfl rfl ?_
     rintro _ _ rfl
     refine ent_nil (ent_region (ent_value (ov_bin rfl rfl (b_add _ _ _) ) rfl rfl rfl (ent_value (ov_move rfl) rfl rfl rfl (ent_nil ?_))))
     exact ent_fin [2,3,0,1] (by decide) rfl (sub_cons (t := 0) rfl (sub_cons (t := 2) rfl (sub_cons (t := 4) rfl (sub_cons (t := 41) rfl (sub_cons (t := 42) rfl (sub_nil _)))))) fun a w h => ⟨k,Nat.lt_succ_self k,_,_,_,_,_,_,_,_,_,_,_,_,hr124,H3,h⟩
    refine htT H3 (fun c172 H3 => ?_) fun c172 H3 => ?_
    ·refine ent_value (ov_indexAggN rfl rfl F_array_86 F_size_85 F_agg_85 c163 c164 (by rw [c172]; rfl)) rfl rfl rfl (ent_value (ov_assign rfl) rfl rfl rfl (ent_nil (ent_region (ent_value (ov_move rfl) rfl rfl rfl (ent_value (ov_move rfl) rfl rfl rfl ?_)))))
     obtain ⟨x140,h168,H3⟩ := Option.bind_eq_some_iff.1 H3
     refine ent_pick [2,3,0,1] (by decide) rfl ?_
     refine ent_op (ot_call (Lr := [box b6 41 C4_,box b8 2 [I i33]]) (first := []) (cap := []) (xs := [.tmp 46]) rfl rfl F_call_46 rfl (words_reader_num_R.spec K p0 sv82 (own sv0 9 1 l0.length (fl eS l0)) l5 p0_1 hr74 _ h168) rfl) rfl rfl rfl ?_
     rintro _ _ ⟨_,⟨sv134,hr126,rfl,rfl⟩,rfl⟩
     refine ent_value (ov_nilCheck rfl) rfl rfl rfl ?_
     refine ent_op0 (ot_storeG (cs := [I i33]) (cs' := [I x140.2]) (us := [I x140.2]) (L' := [box p0 72 [sv134,I p0_1],own sv0 9 1 l0.length (fl eS l0),box b6 41 C4_,box b8 2 [I x140.2]]) 3 rfl rfl rfl (one_all rfl) F_size_2 rfl rfl (by simp [C26_,C15_,C14_,C5_,C0_,C12_,C11_,C16_,C13_,C4_,C2_,C8_]) rfl) rfl rfl ?_
     rintro _ _ rfl
     refine ent_nil (ent_region (ent_value (ov_bin rfl rfl (b_add _ _ _) ) rfl rfl rfl (ent_value (ov_move rfl) rfl rfl rfl (ent_nil ?_))))
     exact ent_fin [2,3,0,1] (by decide) rfl (sub_cons (t := 0) rfl (sub_cons (t := 2) rfl (sub_cons (t := 4) rfl (sub_cons (t := 41) rfl (sub_cons (t := 42) rfl (sub_nil _)))))) fun a w h => ⟨k,Nat.lt_succ_self k,_,_,_,_,_,_,_,_,_,_,_,_,hr126,H3,h⟩
    obtain ⟨c173,H3⟩ := gdT H3
    refine ent_value (ov_indexAggN rfl rfl F_array_86 F_size_85 F_agg_85 c163 c164 (by rw [c173]; rfl)) rfl rfl rfl (ent_value (ov_assign rfl) rfl rfl rfl (ent_nil (ent_region (ent_value (ov_move rfl) rfl rfl rfl (ent_value (ov_move rfl) rfl rfl rfl ?_)))))
    obtain ⟨x142,h170,H3⟩ := Option.bind_eq_some_iff.1 H3
    let C25_ : List Value := [I 3,I 0,L0,I 0,I 0,B0,B0,B0,B0,B0,B0,B0,B0,S0,S0,S0,S0,I i24,I i26,I i27,I i28,I i29,I i30,I i31,I 0,I x142.2,L0]
    refine ent_pick [2,3,0,1] (by decide) rfl ?_
    refine ent_op (ot_call (Lr := [box b6 41 C4_,box b8 2 [I i33]]) (first := []) (cap := []) (xs := [.tmp 46]) rfl rfl F_call_46 rfl (words_reader_num_R.spec K p0 sv82 (own sv0 9 1 l0.length (fl eS l0)) l5 p0_1 hr74 _ h170) rfl) rfl rfl rfl ?_
    rintro _ _ ⟨_,⟨sv136,hr128,rfl,rfl⟩,rfl⟩
    refine ent_value (ov_nilCheck rfl) rfl rfl rfl ?_
    refine ent_op0 (ot_storeG (cs := C4_) (cs' := C25_) (us := [I x142.2]) (L' := [box p0 72 [sv136,I p0_1],own sv0 9 1 l0.length (fl eS l0),box b6 41 C25_,box b8 2 [I i33]]) 2 rfl rfl rfl (one_all rfl) F_size_2 rfl rfl (by simp [C26_,C15_,C14_,C5_,C0_,C12_,C11_,C16_,C13_,C4_,C2_,C8_,C25_]) rfl) rfl rfl ?_
    rintro _ _ rfl
    refine ent_nil (ent_region (ent_value (ov_bin rfl rfl (b_add _ _ _) ) rfl rfl rfl (ent_value (ov_move rfl) rfl rfl rfl (ent_nil ?_))))
    exact ent_fin [2,3,0,1] (by decide) rfl (sub_cons (t := 0) rfl (sub_cons (t := 2) rfl (sub_cons (t := 4) rfl (sub_cons (t := 41) rfl (sub_cons (t := 42) rfl (sub_nil _)))))) fun a w h => ⟨k,Nat.lt_succ_self k,_,_,_,_,_,_,_,_,_,_,_,_,hr128,H3,h⟩
 refine ent_cond_false rfl (eq_f c104) (ent_seq (ent_region (ent_value (ov_bin rfl rfl (b_eql_str _ _)) rfl rfl rfl (ent_value (ov_assign rfl) rfl rfl rfl (ent_nil ?_)))))
 refine htT H (fun c176 H => ?_) fun c176 H => ?_
 ·refine ent_cond_true rfl (eq_t c176) (ent_region (ent_value (ov_move rfl) rfl rfl rfl ?_))
  obtain ⟨x146,h178,H⟩ := Option.bind_eq_some_iff.1 H
  refine ent_op (ot_call (Lr := [box b6 41 C0_]) (first := []) (cap := []) (xs := [.tmp 55]) rfl rfl F_call_47 rfl (words_reader_fails_R.spec K p0 sv75 (own sv0 9 1 l0.length (fl eS l0)) x82.1 p0_1 hr69 _ h178) rfl) rfl rfl rfl ?_
  rintro sv140 _ ⟨_,⟨sv139,_,hr130,rfl,rfl⟩,rfl⟩
  let C9_ : Value := agg #[I 6,I 0,L0,I 0,I 0,B0,B0,B0,B0,B0,B0,B0,B0,S0,S0,S0,S0,I 0,I 0,I 0,I 0,I 0,I 0,I 0,I 0,I 0,sv140]
  let C1_ : List Value := [I 6,I 0,L0,I 0,I 0,B0,B0,B0,B0,B0,B0,B0,B0,S0,S0,S0,S0,I 0,I 0,I 0,I 0,I 0,I 0,I 0,I 0,I 0,sv140]
  let C7_ : List HP := [box p0 72 [sv139,I p0_1],own sv0 9 1 l0.length (fl eS l0),own sv140 4 1 x146.2.length (fl eB x146.2),box b6 41 C1_]
  refine ent_value (ov_sl 2 rfl (isRd_ownx 4) fun hc0_ => (ov_build (is := [0,5]) (xs := [.const (I 6),.tmp 56]) (vs := [I 6,sv140]) rfl rfl (build_struct (cs := C1_) F_zero_41 F_places_41 (by simp [C26_,C15_,C14_,C5_,C0_,C12_,C11_,C9_,C1_,C7_,Instr.fill,cells_int,cells_bool,cells_str,cells_func,cells_slice,cells_ptr,cells_nilFunc,cells_agg,hc0_])))) rfl rfl rfl ?_
  refine ent_op0 (ot_storeG (cs := C0_) (cs' := C1_) (us := C1_) (L' := C7_) 3 rfl rfl rfl (one_cons rfl (one_cons rfl (one_cons rfl (one_cons rfl (one_cons rfl (one_cons rfl (one_cons rfl (one_cons rfl (one_cons rfl (one_cons rfl (one_cons rfl (one_cons rfl (one_cons rfl (one_cons rfl (one_cons rfl (one_cons rfl (one_cons rfl (one_cons rfl (one_cons rfl (one_cons rfl (one_cons rfl (one_cons rfl (one_cons rfl (one_cons rfl (one_cons rfl (one_cons rfl (one_sl 2 rfl (isRd_ownx 4) one_nil))))))))))))))))))))))))))) F_size_41 rfl rfl (by simp [C26_,C15_,C14_,C5_,C0_,C12_,C11_,C9_,C1_,C7_]) rfl) rfl rfl ?_
  rintro _ _ rfl
  refine ent_nil (ent_seq ?_)
  refine htF H (fun c178 H => ?_) fun c178 H => ?_
  ·obtain ⟨u39,h184,H⟩ := Option.bind_eq_some_iff.1 H
   refine ent_drawm 15 rfl (fun done a w => StD 77 w0 F [(0,pt p0 0),(2,pt b6 0),(3,str x82.2),(9,pt p0 0),(10,str x82.2),(11,str x82.2),(27,bool (x82.2 == ([105,110,103,101,115,116] : List UInt8))),(28,bool (x82.2 == ([105,110,103,101,115,116] : List UInt8))),(32,bool (x82.2 == ([97,115,107] : List UInt8))),(33,bool (x82.2 == ([97,115,107] : List UInt8))),(37,bool (x82.2 == ([112,111,108,105,99,121] : List UInt8))),(38,bool (x82.2 == ([112,111,108,105,99,121] : List UInt8))),(53,bool (x82.2 == ([102,97,105,108] : List UInt8))),(54,bool (x82.2 == ([102,97,105,108] : List UInt8))),(55,pt p0 0),(56,sv140),(57,C9_)] [(0,61,pt p0 0),(1,62,pt p0 0),(2,63,pt p0 0),(3,64,sv139),(4,65,I (x146.1.length : Int)),(5,66,bool ((x146.1.length : Int) == 0)),(6,67,bool ((x146.1.length : Int) == 0)),(7,68,undef),(8,69,undef),(9,70,undef),(10,71,undef),(11,72,undef),(12,73,undef),(13,74,B0),(14,75,tU #[])] done C7_ a w) (by kernel_rfl) (by kernel_rfl) (draw_startL (sub_cons (t := 0) rfl (sub_cons (t := 2) rfl (sub_cons (t := 3) rfl (sub_cons (t := 9) rfl (sub_cons (t := 10) rfl (sub_cons (t := 11) rfl (sub_cons (t := 27) rfl (sub_cons (t := 28) rfl (sub_cons (t := 32) rfl (sub_cons (t := 33) rfl (sub_cons (t := 37) rfl (sub_cons (t := 38) rfl (sub_cons (t := 53) rfl (sub_cons (t := 54) rfl (sub_cons (t := 55) rfl (sub_cons (t := 56) rfl (sub_cons (t := 57) rfl (sub_nil _)))))))))))))))))) rfl) ?_ ?_
   ·refine ⟨?_,?_,?_,?_,?_,?_,?_,?_,?_,?_,?_,?_,?_,?_,?_,trivial⟩
    ·exact fun done hi hc hcu => draw_value (i := 0) (t := 61) (v := (pt p0 0)) rfl rfl (wanted_none rfl) (fun a => hasA_base) (ov_move rfl) rfl rfl (onlyT_spec (k0 := 0) rfl rfl rfl)
    ·exact fun done hi hc hcu => draw_value (i := 1) (t := 62) (v := (pt p0 0)) rfl rfl (wanted_none rfl) (fun a => (hasA_cons (k := 0) rfl (done_of (j := 0) hcu rfl (by decide) rfl) hasA_base)) (ov_nilCheck rfl) rfl rfl (onlyT_spec (k0 := 1) rfl rfl rfl)
    ·exact fun done hi hc hcu => draw_value (i := 2) (t := 63) (v := (pt p0 0)) rfl rfl (wanted_none rfl) (fun a => (hasA_cons (k := 1) rfl (done_of (j := 1) hcu rfl (by decide) rfl) hasA_base)) (ov_fieldAddr (sz := 0) (o := 0) rfl F_field_72_0 F_size_29) rfl rfl (onlyT_spec (k0 := 2) rfl rfl rfl)
    ·exact fun done hi hc hcu => draw_value (i := 3) (t := 64) (v := sv139) rfl rfl (wanted_none rfl) (fun a => (hasA_cons (k := 2) rfl (done_of (j := 2) hcu rfl (by decide) rfl) hasA_base)) (ov_load (v := sv139) rfl F_agg_29 (reads_box1 (i := 0) rfl rfl)) rfl rfl (onlyT_spec (k0 := 3) rfl rfl rfl)
    ·exact fun done hi hc hcu => draw_value (i := 4) (t := 65) (v := (I (x146.1.length : Int))) rfl rfl (wanted_none rfl) (fun a => (hasA_cons (k := 3) rfl (done_of (j := 3) hcu rfl (by decide) rfl) hasA_base)) (ov_len 1 rfl F_slice_29 rfl hr130) rfl rfl (onlyT_spec (k0 := 4) rfl rfl rfl)
    ·exact fun done hi hc hcu => draw_value (i := 5) (t := 66) (v := (bool ((x146.1.length : Int) == 0))) rfl rfl (wanted_none rfl) (fun a => (hasA_cons (k := 4) rfl (done_of (j := 4) hcu rfl (by decide) rfl) hasA_base)) (ov_bin rfl rfl (b_eql _ _ _)) rfl rfl (onlyT_spec (k0 := 5) rfl rfl rfl)
    ·exact fun done hi hc hcu => draw_value (i := 6) (t := 67) (v := (bool ((x146.1.length : Int) == 0))) rfl rfl (wanted_none rfl) (fun a => (hasA_cons (k := 5) rfl (done_of (j := 5) hcu rfl (by decide) rfl) hasA_base)) (ov_move rfl) rfl rfl (onlyT_spec (k0 := 6) rfl rfl rfl)
    ·exact fun done hi hc hcu => draw_off (i := 7) (t := 68) rfl rfl (wanted_off rfl rfl rfl (eq_f c178)) (fun a => (hasA_cons (k := 6) rfl (done_of (j := 6) hcu rfl (by decide) rfl) hasA_base)) rfl rfl (onlyT_spec (k0 := 7) rfl rfl rfl)
    ·exact fun done hi hc hcu => draw_off (i := 8) (t := 69) rfl rfl (wanted_off rfl rfl rfl (eq_f c178)) (fun a => (hasA_cons (k := 6) rfl (done_of (j := 6) hcu rfl (by decide) rfl) hasA_base)) rfl rfl (onlyT_spec (k0 := 8) rfl rfl rfl)
    ·exact fun done hi hc hcu => draw_off (i := 9) (t := 70) rfl rfl (wanted_off rfl rfl rfl (eq_f c178)) (fun a => (hasA_cons (k := 6) rfl (done_of (j := 6) hcu rfl (by decide) rfl) hasA_base)) rfl rfl (onlyT_spec (k0 := 9) rfl rfl rfl)
    ·exact fun done hi hc hcu => draw_off (i := 10) (t := 71) rfl rfl (wanted_off rfl rfl rfl (eq_f c178)) (fun a => (hasA_cons (k := 6) rfl (done_of (j := 6) hcu rfl (by decide) rfl) hasA_base)) rfl rfl (onlyT_spec (k0 := 10) rfl rfl rfl)
    ·exact fun done hi hc hcu => draw_off (i := 11) (t := 72) rfl rfl (wanted_off rfl rfl rfl (eq_f c178)) (fun a => (hasA_cons (k := 6) rfl (done_of (j := 6) hcu rfl (by decide) rfl) hasA_base)) rfl rfl (onlyT_spec (k0 := 11) rfl rfl rfl)
    ·exact fun done hi hc hcu => draw_off (i := 12) (t := 73) rfl rfl (wanted_off rfl rfl rfl (eq_f c178)) (fun a => (hasA_cons (k := 6) rfl (done_of (j := 6) hcu rfl (by decide) rfl) hasA_base)) rfl rfl (onlyT_spec (k0 := 12) rfl rfl rfl)
    ·exact fun done hi hc hcu => draw_value (i := 13) (t := 74) (v := B0) rfl rfl (wanted_none rfl) (fun a => (hasA_cons (k := 12) rfl (done_of (j := 12) hcu rfl (by decide) rfl) (hasA_cons (k := 6) rfl (done_of (j := 6) hcu rfl (by decide) rfl) hasA_base))) (ov_pick rfl rfl rfl (pick_f (eq_f c178))) rfl rfl (onlyT_spec (k0 := 13) rfl rfl rfl)
    ·exact fun done hi hc hcu => draw_same (i := 14) (t := 75) (v := (tU #[])) rfl rfl (wanted_none rfl) (fun a => (hasA_cons (k := 13) rfl (done_of (j := 13) hcu rfl (by decide) rfl) hasA_base)) (ot_call0 (first := []) (cap := []) (xs := [.tmp 74]) rfl rfl F_call_50 rfl (words_must.spec false _ h184)) rfl rfl (onlyT_spec (k0 := 14) rfl rfl rfl)
   ·intro done hall
    refine draw_endL C7_ rfl (fun a => (hasA_cons (k := 0) rfl (hall 0 (by decide)) (hasA_cons (k := 1) rfl (hall 1 (by decide)) (hasA_cons (k := 2) rfl (hall 2 (by decide)) (hasA_cons (k := 3) rfl (hall 3 (by decide)) (hasA_cons (k := 4) rfl (hall 4 (by decide)) (hasA_cons (k := 5) rfl (hall 5 (by decide)) (hasA_cons (k := 6) rfl (hall 6 (by decide)) (hasA_cons (k := 7) rfl (hall 7 (by decide)) (hasA_cons (k := 8) rfl (hall 8 (by decide)) (hasA_cons (k := 9) rfl (hall 9 (by decide)) (hasA_cons (k := 10) rfl (hall 10 (by decide)) (hasA_cons (k := 11) rfl (hall 11 (by decide)) (hasA_cons (k := 12) rfl (hall 12 (by decide)) (hasA_cons (k := 13) rfl (hall 13 (by decide)) (hasA_cons (k := 14) rfl (hall 14 (by decide)) hasA_base)))))))))))))))) ?_
    refine ent_seq (ent_region (ent_value (ov_load_agg (vs := C1_) rfl F_agg_41 F_size_41 (reads_boxW (i := 3) rfl)) rfl rfl rfl ?_))
    refine ent_op0 (ot_storeG (cs := C1_) (cs' := C1_) (us := C1_) (L' := C7_) 3 rfl rfl rfl (one_cons rfl (one_cons rfl (one_cons rfl (one_cons rfl (one_cons rfl (one_cons rfl (one_cons rfl (one_cons rfl (one_cons rfl (one_cons rfl (one_cons rfl (one_cons rfl (one_cons rfl (one_cons rfl (one_cons rfl (one_cons rfl (one_cons rfl (one_cons rfl (one_cons rfl (one_cons rfl (one_cons rfl (one_cons rfl (one_cons rfl (one_cons rfl (one_cons rfl (one_cons rfl (one_sl 2 rfl (isRd_ownx 4) one_nil))))))))))))))))))))))))))) F_size_41 rfl rfl (by simp [C26_,C15_,C14_,C5_,C0_,C12_,C11_,C9_,C1_,C7_]) rfl) rfl rfl ?_
    rintro _ _ rfl
    refine ent_nil (ent_retc ?_)
    first | (have e_ := Option.some.inj (show some _ = some _ from H); subst e_) | subst H
    refine ent_ownnil 54 6 ?_
    exact ret_memp [0,3,1,2] (by decide) rfl (vs := [C9_]) rfl ⟨⟨_,C1_,rfl,reads_boxW (i := 4) rfl,.inl ⟨F_agg_41,F_size_41,rfl⟩⟩,trivial⟩ _ rfl ⟨_,_,_,hr130,rfl,rfl⟩
  obtain ⟨x148,h182,H⟩ := Option.bind_eq_some_iff.1 H
  obtain ⟨u38,h183,H⟩ := Option.bind_eq_some_iff.1 H
  refine ent_drawm 15 rfl (fun done a w => StD 77 w0 F [(0,pt p0 0),(2,pt b6 0),(3,str x82.2),(9,pt p0 0),(10,str x82.2),(11,str x82.2),(27,bool (x82.2 == ([105,110,103,101,115,116] : List UInt8))),(28,bool (x82.2 == ([105,110,103,101,115,116] : List UInt8))),(32,bool (x82.2 == ([97,115,107] : List UInt8))),(33,bool (x82.2 == ([97,115,107] : List UInt8))),(37,bool (x82.2 == ([112,111,108,105,99,121] : List UInt8))),(38,bool (x82.2 == ([112,111,108,105,99,121] : List UInt8))),(53,bool (x82.2 == ([102,97,105,108] : List UInt8))),(54,bool (x82.2 == ([102,97,105,108] : List UInt8))),(55,pt p0 0),(56,sv140),(57,C9_)] [(0,61,pt p0 0),(1,62,pt p0 0),(2,63,pt p0 0),(3,64,sv139),(4,65,I (x146.1.length : Int)),(5,66,bool ((x146.1.length : Int) == 0)),(6,67,bool ((x146.1.length : Int) == 0)),(7,68,C9_),(8,69,pt p0 0),(9,70,pt p0 0),(10,71,pt p0 1),(11,72,I p0_1),(12,73,bool x148),(13,74,bool x148),(14,75,tU #[])] done C7_ a w) (by kernel_rfl) (by kernel_rfl) (draw_startL (sub_cons (t := 0) rfl (sub_cons (t := 2) rfl (sub_cons (t := 3) rfl (sub_cons (t := 9) rfl (sub_cons (t := 10) rfl (sub_cons (t := 11) rfl (sub_cons (t := 27) rfl (sub_cons (t := 28) rfl (sub_cons (t := 32) rfl (sub_cons (t := 33) rfl (sub_cons (t := 37) rfl (sub_cons (t := 38) rfl (sub_cons (t := 53) rfl (sub_cons (t := 54) rfl (sub_cons (t := 55) rfl (sub_cons (t := 56) rfl (sub_cons (t := 57) rfl (sub_nil _)))))))))))))))))) rfl) ?_ ?_
  ·refine ⟨?_,?_,?_,?_,?_,?_,?_,?_,?_,?_,?_,?_,?_,?_,?_,trivial⟩
   ·exact fun done hi hc hcu => draw_value (i := 0) (t := 61) (v := (pt p0 0)) rfl rfl (wanted_none rfl) (fun a => hasA_base) (ov_move rfl) rfl rfl (onlyT_spec (k0 := 0) rfl rfl rfl)
   ·exact fun done hi hc hcu => draw_value (i := 1) (t := 62) (v := (pt p0 0)) rfl rfl (wanted_none rfl) (fun a => (hasA_cons (k := 0) rfl (done_of (j := 0) hcu rfl (by decide) rfl) hasA_base)) (ov_nilCheck rfl) rfl rfl (onlyT_spec (k0 := 1) rfl rfl rfl)
   ·exact fun done hi hc hcu => draw_value (i := 2) (t := 63) (v := (pt p0 0)) rfl rfl (wanted_none rfl) (fun a => (hasA_cons (k := 1) rfl (done_of (j := 1) hcu rfl (by decide) rfl) hasA_base)) (ov_fieldAddr (sz := 0) (o := 0) rfl F_field_72_0 F_size_29) rfl rfl (onlyT_spec (k0 := 2) rfl rfl rfl)
   ·exact fun done hi hc hcu => draw_value (i := 3) (t := 64) (v := sv139) rfl rfl (wanted_none rfl) (fun a => (hasA_cons (k := 2) rfl (done_of (j := 2) hcu rfl (by decide) rfl) hasA_base)) (ov_load (v := sv139) rfl F_agg_29 (reads_box1 (i := 0) rfl rfl)) rfl rfl (onlyT_spec (k0 := 3) rfl rfl rfl)
   ·exact fun done hi hc hcu => draw_value (i := 4) (t := 65) (v := (I (x146.1.length : Int))) rfl rfl (wanted_none rfl) (fun a => (hasA_cons (k := 3) rfl (done_of (j := 3) hcu rfl (by decide) rfl) hasA_base)) (ov_len 1 rfl F_slice_29 rfl hr130) rfl rfl (onlyT_spec (k0 := 4) rfl rfl rfl)
   ·exact fun done hi hc hcu => draw_value (i := 5) (t := 66) (v := (bool ((x146.1.length : Int) == 0))) rfl rfl (wanted_none rfl) (fun a => (hasA_cons (k := 4) rfl (done_of (j := 4) hcu rfl (by decide) rfl) hasA_base)) (ov_bin rfl rfl (b_eql _ _ _)) rfl rfl (onlyT_spec (k0 := 5) rfl rfl rfl)
   ·exact fun done hi hc hcu => draw_value (i := 6) (t := 67) (v := (bool ((x146.1.length : Int) == 0))) rfl rfl (wanted_none rfl) (fun a => (hasA_cons (k := 5) rfl (done_of (j := 5) hcu rfl (by decide) rfl) hasA_base)) (ov_move rfl) rfl rfl (onlyT_spec (k0 := 6) rfl rfl rfl)
   ·exact fun done hi hc hcu => draw_value (i := 7) (t := 68) (v := (C9_)) rfl rfl (wanted_on rfl rfl rfl (eq_t c178)) (fun a => (hasA_cons (k := 6) rfl (done_of (j := 6) hcu rfl (by decide) rfl) hasA_base)) (ov_load_agg (vs := C1_) rfl F_agg_41 F_size_41 (reads_boxW (i := 3) rfl)) rfl rfl (onlyT_spec (k0 := 7) rfl rfl rfl)
   ·exact fun done hi hc hcu => draw_value (i := 8) (t := 69) (v := (pt p0 0)) rfl rfl (wanted_on rfl rfl rfl (eq_t c178)) (fun a => (hasA_cons (k := 6) rfl (done_of (j := 6) hcu rfl (by decide) rfl) hasA_base)) (ov_move rfl) rfl rfl (onlyT_spec (k0 := 8) rfl rfl rfl)
   ·exact fun done hi hc hcu => draw_value (i := 9) (t := 70) (v := (pt p0 0)) rfl rfl (wanted_on rfl rfl rfl (eq_t c178)) (fun a => (hasA_cons (k := 6) rfl (done_of (j := 6) hcu rfl (by decide) rfl) (hasA_cons (k := 8) rfl (done_of (j := 8) hcu rfl (by decide) rfl) hasA_base))) (ov_nilCheck rfl) rfl rfl (onlyT_spec (k0 := 9) rfl rfl rfl)
   ·exact fun done hi hc hcu => draw_value (i := 10) (t := 71) (v := (pt p0 1)) rfl rfl (wanted_on rfl rfl rfl (eq_t c178)) (fun a => (hasA_cons (k := 6) rfl (done_of (j := 6) hcu rfl (by decide) rfl) (hasA_cons (k := 9) rfl (done_of (j := 9) hcu rfl (by decide) rfl) hasA_base))) (ov_fieldAddr (sz := 0) (o := 0) rfl F_field_72_1 F_size_3) rfl rfl (onlyT_spec (k0 := 10) rfl rfl rfl)
   ·exact fun done hi hc hcu => draw_value (i := 11) (t := 72) (v := (I p0_1)) rfl rfl (wanted_on rfl rfl rfl (eq_t c178)) (fun a => (hasA_cons (k := 6) rfl (done_of (j := 6) hcu rfl (by decide) rfl) (hasA_cons (k := 10) rfl (done_of (j := 10) hcu rfl (by decide) rfl) hasA_base))) (ov_load (v := (I p0_1)) rfl F_agg_3 (reads_box1 (i := 0) rfl rfl)) rfl rfl (onlyT_spec (k0 := 11) rfl rfl rfl)
   ·exact fun done hi hc hcu => draw_same (i := 12) (t := 73) (v := (bool x148)) rfl rfl (wanted_on rfl rfl rfl (eq_t c178)) (fun a => (hasA_cons (k := 6) rfl (done_of (j := 6) hcu rfl (by decide) rfl) (hasA_cons (k := 11) rfl (done_of (j := 11) hcu rfl (by decide) rfl) (hasA_cons (k := 7) rfl (done_of (j := 7) hcu rfl (by decide) rfl) hasA_base)))) (ot_call_same (Lr := [box p0 72 [sv139,I p0_1],own sv0 9 1 l0.length (fl eS l0),box b6 41 C1_]) [2,0,1,3] [1,2,0,3] (first := []) (cap := []) (xs := [.tmp 68,.tmp 72]) rfl rfl F_call_51 rfl (script_Right_NO.spec K sv140 x146.2 p0_1 _ h182) (by decide) rfl (by decide) rfl) rfl rfl (onlyT_spec (k0 := 12) rfl rfl rfl)
   ·exact fun done hi hc hcu => draw_value (i := 13) (t := 74) (v := (bool x148)) rfl rfl (wanted_none rfl) (fun a => (hasA_cons (k := 12) rfl (done_of (j := 12) hcu rfl (by decide) rfl) (hasA_cons (k := 6) rfl (done_of (j := 6) hcu rfl (by decide) rfl) hasA_base))) (ov_pick rfl rfl rfl (pick_t (eq_t c178))) rfl rfl (onlyT_spec (k0 := 13) rfl rfl rfl)
   ·exact fun done hi hc hcu => draw_same (i := 14) (t := 75) (v := (tU #[])) rfl rfl (wanted_none rfl) (fun a => (hasA_cons (k := 13) rfl (done_of (j := 13) hcu rfl (by decide) rfl) hasA_base)) (ot_call0 (first := []) (cap := []) (xs := [.tmp 74]) rfl rfl F_call_50 rfl (words_must.spec x148 _ h183)) rfl rfl (onlyT_spec (k0 := 14) rfl rfl rfl)
  ·intro done hall
   refine draw_endL C7_ rfl (fun a => (hasA_cons (k := 0) rfl (hall 0 (by decide)) (hasA_cons (k := 1) rfl (hall 1 (by decide)) (hasA_cons (k := 2) rfl (hall 2 (by decide)) (hasA_cons (k := 3) rfl (hall 3 (by decide)) (hasA_cons (k := 4) rfl (hall 4 (by decide)) (hasA_cons (k := 5) rfl (hall 5 (by decide)) (hasA_cons (k := 6) rfl (hall 6 (by decide)) (hasA_cons (k := 7) rfl (hall 7 (by decide)) (hasA_cons (k := 8) rfl (hall 8 (by decide)) (hasA_cons (k := 9) rfl (hall 9 (by decide)) (hasA_cons (k := 10) rfl (hall 10 (by decide)) (hasA_cons (k := 11) rfl (hall 11 (by decide)) (hasA_cons (k := 12) rfl (hall 12 (by decide)) (hasA_cons (k := 13) rfl (hall 13 (by decide)) (hasA_cons (k := 14) rfl (hall 14 (by decide)) hasA_base)))))))))))))))) ?_
   refine ent_seq (ent_region (ent_value (ov_load_agg (vs := C1_) rfl F_agg_41 F_size_41 (reads_boxW (i := 3) rfl)) rfl rfl rfl ?_))
   refine ent_op0 (ot_storeG (cs := C1_) (cs' := C1_) (us := C1_) (L' := C7_) 3 rfl rfl rfl (one_cons rfl (one_cons rfl (one_cons rfl (one_cons rfl (one_cons rfl (one_cons rfl (one_cons rfl (one_cons rfl (one_cons rfl (one_cons rfl (one_cons rfl (one_cons rfl (one_cons rfl (one_cons rfl (one_cons rfl (one_cons rfl (one_cons rfl (one_cons rfl (one_cons rfl (one_cons rfl (one_cons rfl (one_cons rfl (one_cons rfl (one_cons rfl (one_cons rfl (one_cons rfl (one_sl 2 rfl (isRd_ownx 4) one_nil))))))))))))))))))))))))))) F_size_41 rfl rfl (by simp [C26_,C15_,C14_,C5_,C0_,C12_,C11_,C9_,C1_,C7_]) rfl) rfl rfl ?_
   rintro _ _ rfl
   refine ent_nil (ent_retc ?_)
   first | (have e_ := Option.some.inj (show some _ = some _ from H); subst e_) | subst H
   refine ent_ownnil 54 6 ?_
   exact ret_memp [0,3,1,2] (by decide) rfl (vs := [C9_]) rfl ⟨⟨_,C1_,rfl,reads_boxW (i := 4) rfl,.inl ⟨F_agg_41,F_size_41,rfl⟩⟩,trivial⟩ _ rfl ⟨_,_,_,hr130,rfl,rfl⟩
 refine ent_cond_false rfl (eq_f c176) (ent_seq (ent_region (ent_value (ov_bin rfl rfl (b_eql_str _ _)) rfl rfl rfl (ent_value (ov_assign rfl) rfl rfl rfl (ent_nil ?_)))))
 refine htT H (fun c179 H => ?_) fun c179 H => ?_
 ·refine ent_cond_true rfl (eq_t c179) (ent_region (ent_value (ov_fieldAddr (sz := 0) (o := 0) rfl F_field_41_0 F_size_3) rfl rfl rfl ?_))
  refine ent_op0 (ot_storeG (cs := C0_) (cs' := C5_) (us := [I 9]) (L' := C11_) 2 rfl rfl rfl (one_all rfl) F_size_3 rfl rfl (by simp [C26_,C15_,C14_,C5_,C0_,C12_,C11_]) rfl) rfl rfl ?_
  rintro _ _ rfl
  refine ent_nil (ent_seq ?_)
  refine htF H (fun c181 H => ?_) fun c181 H => ?_
  ·obtain ⟨u43,h190,H⟩ := Option.bind_eq_some_iff.1 H
   refine ent_drawm 15 rfl (fun done a w => StD 77 w0 F [(0,pt p0 0),(2,pt b6 0),(3,str x82.2),(9,pt p0 0),(10,str x82.2),(11,str x82.2),(27,bool (x82.2 == ([105,110,103,101,115,116] : List UInt8))),(28,bool (x82.2 == ([105,110,103,101,115,116] : List UInt8))),(32,bool (x82.2 == ([97,115,107] : List UInt8))),(33,bool (x82.2 == ([97,115,107] : List UInt8))),(37,bool (x82.2 == ([112,111,108,105,99,121] : List UInt8))),(38,bool (x82.2 == ([112,111,108,105,99,121] : List UInt8))),(53,bool (x82.2 == ([102,97,105,108] : List UInt8))),(54,bool (x82.2 == ([102,97,105,108] : List UInt8))),(58,bool (x82.2 == ([115,116,97,114,116] : List UInt8))),(59,bool (x82.2 == ([115,116,97,114,116] : List UInt8))),(60,pt b6 0)] [(0,61,pt p0 0),(1,62,pt p0 0),(2,63,pt p0 0),(3,64,sv75),(4,65,I (x82.1.length : Int)),(5,66,bool ((x82.1.length : Int) == 0)),(6,67,bool ((x82.1.length : Int) == 0)),(7,68,undef),(8,69,undef),(9,70,undef),(10,71,undef),(11,72,undef),(12,73,undef),(13,74,B0),(14,75,tU #[])] done C11_ a w) (by kernel_rfl) (by kernel_rfl) (draw_startL (sub_cons (t := 0) rfl (sub_cons (t := 2) rfl (sub_cons (t := 3) rfl (sub_cons (t := 9) rfl (sub_cons (t := 10) rfl (sub_cons (t := 11) rfl (sub_cons (t := 27) rfl (sub_cons (t := 28) rfl (sub_cons (t := 32) rfl (sub_cons (t := 33) rfl (sub_cons (t := 37) rfl (sub_cons (t := 38) rfl (sub_cons (t := 53) rfl (sub_cons (t := 54) rfl (sub_cons (t := 58) rfl (sub_cons (t := 59) rfl (sub_cons (t := 60) rfl (sub_nil _)))))))))))))))))) rfl) ?_ ?_
   ·refine ⟨?_,?_,?_,?_,?_,?_,?_,?_,?_,?_,?_,?_,?_,?_,?_,trivial⟩
    ·exact fun done hi hc hcu => draw_value (i := 0) (t := 61) (v := (pt p0 0)) rfl rfl (wanted_none rfl) (fun a => hasA_base) (ov_move rfl) rfl rfl (onlyT_spec (k0 := 0) rfl rfl rfl)
    ·exact fun done hi hc hcu => draw_value (i := 1) (t := 62) (v := (pt p0 0)) rfl rfl (wanted_none rfl) (fun a => (hasA_cons (k := 0) rfl (done_of (j := 0) hcu rfl (by decide) rfl) hasA_base)) (ov_nilCheck rfl) rfl rfl (onlyT_spec (k0 := 1) rfl rfl rfl)
    ·exact fun done hi hc hcu => draw_value (i := 2) (t := 63) (v := (pt p0 0)) rfl rfl (wanted_none rfl) (fun a => (hasA_cons (k := 1) rfl (done_of (j := 1) hcu rfl (by decide) rfl) hasA_base)) (ov_fieldAddr (sz := 0) (o := 0) rfl F_field_72_0 F_size_29) rfl rfl (onlyT_spec (k0 := 2) rfl rfl rfl)
    ·exact fun done hi hc hcu => draw_value (i := 3) (t := 64) (v := sv75) rfl rfl (wanted_none rfl) (fun a => (hasA_cons (k := 2) rfl (done_of (j := 2) hcu rfl (by decide) rfl) hasA_base)) (ov_load (v := sv75) rfl F_agg_29 (reads_box1 (i := 0) rfl rfl)) rfl rfl (onlyT_spec (k0 := 3) rfl rfl rfl)
    ·exact fun done hi hc hcu => draw_value (i := 4) (t := 65) (v := (I (x82.1.length : Int))) rfl rfl (wanted_none rfl) (fun a => (hasA_cons (k := 3) rfl (done_of (j := 3) hcu rfl (by decide) rfl) hasA_base)) (ov_len 1 rfl F_slice_29 rfl hr69) rfl rfl (onlyT_spec (k0 := 4) rfl rfl rfl)
    ·exact fun done hi hc hcu => draw_value (i := 5) (t := 66) (v := (bool ((x82.1.length : Int) == 0))) rfl rfl (wanted_none rfl) (fun a => (hasA_cons (k := 4) rfl (done_of (j := 4) hcu rfl (by decide) rfl) hasA_base)) (ov_bin rfl rfl (b_eql _ _ _)) rfl rfl (onlyT_spec (k0 := 5) rfl rfl rfl)
    ·exact fun done hi hc hcu => draw_value (i := 6) (t := 67) (v := (bool ((x82.1.length : Int) == 0))) rfl rfl (wanted_none rfl) (fun a => (hasA_cons (k := 5) rfl (done_of (j := 5) hcu rfl (by decide) rfl) hasA_base)) (ov_move rfl) rfl rfl (onlyT_spec (k0 := 6) rfl rfl rfl)
    ·exact fun done hi hc hcu => draw_off (i := 7) (t := 68) rfl rfl (wanted_off rfl rfl rfl (eq_f c181)) (fun a => (hasA_cons (k := 6) rfl (done_of (j := 6) hcu rfl (by decide) rfl) hasA_base)) rfl rfl (onlyT_spec (k0 := 7) rfl rfl rfl)
    ·exact fun done hi hc hcu => draw_off (i := 8) (t := 69) rfl rfl (wanted_off rfl rfl rfl (eq_f c181)) (fun a => (hasA_cons (k := 6) rfl (done_of (j := 6) hcu rfl (by decide) rfl) hasA_base)) rfl rfl (onlyT_spec (k0 := 8) rfl rfl rfl)
    ·exact fun done hi hc hcu => draw_off (i := 9) (t := 70) rfl rfl (wanted_off rfl rfl rfl (eq_f c181)) (fun a => (hasA_cons (k := 6) rfl (done_of (j := 6) hcu rfl (by decide) rfl) hasA_base)) rfl rfl (onlyT_spec (k0 := 9) rfl rfl rfl)
    ·exact fun done hi hc hcu => draw_off (i := 10) (t := 71) rfl rfl (wanted_off rfl rfl rfl (eq_f c181)) (fun a => (hasA_cons (k := 6) rfl (done_of (j := 6) hcu rfl (by decide) rfl) hasA_base)) rfl rfl (onlyT_spec (k0 := 10) rfl rfl rfl)
    ·exact fun done hi hc hcu => draw_off (i := 11) (t := 72) rfl rfl (wanted_off rfl rfl rfl (eq_f c181)) (fun a => (hasA_cons (k := 6) rfl (done_of (j := 6) hcu rfl (by decide) rfl) hasA_base)) rfl rfl (onlyT_spec (k0 := 11) rfl rfl rfl)
    ·exact fun done hi hc hcu => draw_off (i := 12) (t := 73) rfl rfl (wanted_off rfl rfl rfl (eq_f c181)) (fun a => (hasA_cons (k := 6) rfl (done_of (j := 6) hcu rfl (by decide) rfl) hasA_base)) rfl rfl (onlyT_spec (k0 := 12) rfl rfl rfl)
    ·exact fun done hi hc hcu => draw_value (i := 13) (t := 74) (v := B0) rfl rfl (wanted_none rfl) (fun a => (hasA_cons (k := 12) rfl (done_of (j := 12) hcu rfl (by decide) rfl) (hasA_cons (k := 6) rfl (done_of (j := 6) hcu rfl (by decide) rfl) hasA_base))) (ov_pick rfl rfl rfl (pick_f (eq_f c181))) rfl rfl (onlyT_spec (k0 := 13) rfl rfl rfl)
    ·exact fun done hi hc hcu => draw_same (i := 14) (t := 75) (v := (tU #[])) rfl rfl (wanted_none rfl) (fun a => (hasA_cons (k := 13) rfl (done_of (j := 13) hcu rfl (by decide) rfl) hasA_base)) (ot_call0 (first := []) (cap := []) (xs := [.tmp 74]) rfl rfl F_call_50 rfl (words_must.spec false _ h190)) rfl rfl (onlyT_spec (k0 := 14) rfl rfl rfl)
   ·intro done hall
    refine draw_endL C11_ rfl (fun a => (hasA_cons (k := 0) rfl (hall 0 (by decide)) (hasA_cons (k := 1) rfl (hall 1 (by decide)) (hasA_cons (k := 2) rfl (hall 2 (by decide)) (hasA_cons (k := 3) rfl (hall 3 (by decide)) (hasA_cons (k := 4) rfl (hall 4 (by decide)) (hasA_cons (k := 5) rfl (hall 5 (by decide)) (hasA_cons (k := 6) rfl (hall 6 (by decide)) (hasA_cons (k := 7) rfl (hall 7 (by decide)) (hasA_cons (k := 8) rfl (hall 8 (by decide)) (hasA_cons (k := 9) rfl (hall 9 (by decide)) (hasA_cons (k := 10) rfl (hall 10 (by decide)) (hasA_cons (k := 11) rfl (hall 11 (by decide)) (hasA_cons (k := 12) rfl (hall 12 (by decide)) (hasA_cons (k := 13) rfl (hall 13 (by decide)) (hasA_cons (k := 14) rfl (hall 14 (by decide)) hasA_base)))))))))))))))) ?_
    refine ent_seq (ent_region (ent_value (ov_load_agg (vs := C5_) rfl F_agg_41 F_size_41 (reads_boxW (i := 2) rfl)) rfl rfl rfl ?_))
    refine ent_op0 (ot_storeG (cs := C5_) (cs' := C5_) (us := C5_) (L' := C11_) 2 rfl rfl rfl (one_all rfl) F_size_41 rfl rfl (by simp [C26_,C15_,C14_,C5_,C0_,C12_,C11_]) rfl) rfl rfl ?_
    rintro _ _ rfl
    refine ent_nil (ent_retc ?_)
    first | (have e_ := Option.some.inj (show some _ = some _ from H); subst e_) | subst H
    refine ent_ownnil 54 6 ?_
    refine ent_ownnil 4 1 ?_
    exact ret_memp [1,0,2,3] (by decide) rfl (vs := [C14_]) rfl ⟨⟨_,C5_,rfl,reads_boxW (i := 4) rfl,.inl ⟨F_agg_41,F_size_41,rfl⟩⟩,trivial⟩ _ rfl ⟨_,_,_,hr69,rfl,rfl⟩
  obtain ⟨x150,h188,H⟩ := Option.bind_eq_some_iff.1 H
  obtain ⟨u42,h189,H⟩ := Option.bind_eq_some_iff.1 H
  refine ent_drawm 15 rfl (fun done a w => StD 77 w0 F [(0,pt p0 0),(2,pt b6 0),(3,str x82.2),(9,pt p0 0),(10,str x82.2),(11,str x82.2),(27,bool (x82.2 == ([105,110,103,101,115,116] : List UInt8))),(28,bool (x82.2 == ([105,110,103,101,115,116] : List UInt8))),(32,bool (x82.2 == ([97,115,107] : List UInt8))),(33,bool (x82.2 == ([97,115,107] : List UInt8))),(37,bool (x82.2 == ([112,111,108,105,99,121] : List UInt8))),(38,bool (x82.2 == ([112,111,108,105,99,121] : List UInt8))),(53,bool (x82.2 == ([102,97,105,108] : List UInt8))),(54,bool (x82.2 == ([102,97,105,108] : List UInt8))),(58,bool (x82.2 == ([115,116,97,114,116] : List UInt8))),(59,bool (x82.2 == ([115,116,97,114,116] : List UInt8))),(60,pt b6 0)] [(0,61,pt p0 0),(1,62,pt p0 0),(2,63,pt p0 0),(3,64,sv75),(4,65,I (x82.1.length : Int)),(5,66,bool ((x82.1.length : Int) == 0)),(6,67,bool ((x82.1.length : Int) == 0)),(7,68,C14_),(8,69,pt p0 0),(9,70,pt p0 0),(10,71,pt p0 1),(11,72,I p0_1),(12,73,bool x150),(13,74,bool x150),(14,75,tU #[])] done C11_ a w) (by kernel_rfl) (by kernel_rfl) (draw_startL (sub_cons (t := 0) rfl (sub_cons (t := 2) rfl (sub_cons (t := 3) rfl (sub_cons (t := 9) rfl (sub_cons (t := 10) rfl (sub_cons (t := 11) rfl (sub_cons (t := 27) rfl (sub_cons (t := 28) rfl (sub_cons (t := 32) rfl (sub_cons (t := 33) rfl (sub_cons (t := 37) rfl (sub_cons (t := 38) rfl (sub_cons (t := 53) rfl (sub_cons (t := 54) rfl (sub_cons (t := 58) rfl (sub_cons (t := 59) rfl (sub_cons (t := 60) rfl (sub_nil _)))))))))))))))))) rfl) ?_ ?_
  ·refine ⟨?_,?_,?_,?_,?_,?_,?_,?_,?_,?_,?_,?_,?_,?_,?_,trivial⟩
   ·exact fun done hi hc hcu => draw_value (i := 0) (t := 61) (v := (pt p0 0)) rfl rfl (wanted_none rfl) (fun a => hasA_base) (ov_move rfl) rfl rfl (onlyT_spec (k0 := 0) rfl rfl rfl)
   ·exact fun done hi hc hcu => draw_value (i := 1) (t := 62) (v := (pt p0 0)) rfl rfl (wanted_none rfl) (fun a => (hasA_cons (k := 0) rfl (done_of (j := 0) hcu rfl (by decide) rfl) hasA_base)) (ov_nilCheck rfl) rfl rfl (onlyT_spec (k0 := 1) rfl rfl rfl)
   ·exact fun done hi hc hcu => draw_value (i := 2) (t := 63) (v := (pt p0 0)) rfl rfl (wanted_none rfl) (fun a => (hasA_cons (k := 1) rfl (done_of (j := 1) hcu rfl (by decide) rfl) hasA_base)) (ov_fieldAddr (sz := 0) (o := 0) rfl F_field_72_0 F_size_29) rfl rfl (onlyT_spec (k0 := 2) rfl rfl rfl)
   ·exact fun done hi hc hcu => draw_value (i := 3) (t := 64) (v := sv75) rfl rfl (wanted_none rfl) (fun a => (hasA_cons (k := 2) rfl (done_of (j := 2) hcu rfl (by decide) rfl) hasA_base)) (ov_load (v := sv75) rfl F_agg_29 (reads_box1 (i := 0) rfl rfl)) rfl rfl (onlyT_spec (k0 := 3) rfl rfl rfl)
   ·exact fun done hi hc hcu => draw_value (i := 4) (t := 65) (v := (I (x82.1.length : Int))) rfl rfl (wanted_none rfl) (fun a => (hasA_cons (k := 3) rfl (done_of (j := 3) hcu rfl (by decide) rfl) hasA_base)) (ov_len 1 rfl F_slice_29 rfl hr69) rfl rfl (onlyT_spec (k0 := 4) rfl rfl rfl)
   ·exact fun done hi hc hcu => draw_value (i := 5) (t := 66) (v := (bool ((x82.1.length : Int) == 0))) rfl rfl (wanted_none rfl) (fun a => (hasA_cons (k := 4) rfl (done_of (j := 4) hcu rfl (by decide) rfl) hasA_base)) (ov_bin rfl rfl (b_eql _ _ _)) rfl rfl (onlyT_spec (k0 := 5) rfl rfl rfl)
   ·exact fun done hi hc hcu => draw_value (i := 6) (t := 67) (v := (bool ((x82.1.length : Int) == 0))) rfl rfl (wanted_none rfl) (fun a => (hasA_cons (k := 5) rfl (done_of (j := 5) hcu rfl (by decide) rfl) hasA_base)) (ov_move rfl) rfl rfl (onlyT_spec (k0 := 6) rfl rfl rfl)
   ·exact fun done hi hc hcu => draw_value (i := 7) (t := 68) (v := (C14_)) rfl rfl (wanted_on rfl rfl rfl (eq_t c181)) (fun a => (hasA_cons (k := 6) rfl (done_of (j := 6) hcu rfl (by decide) rfl) hasA_base)) (ov_load_agg (vs := C5_) rfl F_agg_41 F_size_41 (reads_boxW (i := 2) rfl)) rfl rfl (onlyT_spec (k0 := 7) rfl rfl rfl)
   ·exact fun done hi hc hcu => draw_value (i := 8) (t := 69) (v := (pt p0 0)) rfl rfl (wanted_on rfl rfl rfl (eq_t c181)) (fun a => (hasA_cons (k := 6) rfl (done_of (j := 6) hcu rfl (by decide) rfl) hasA_base)) (ov_move rfl) rfl rfl (onlyT_spec (k0 := 8) rfl rfl rfl)
   ·exact fun done hi hc hcu => draw_value (i := 9) (t := 70) (v := (pt p0 0)) rfl rfl (wanted_on rfl rfl rfl (eq_t c181)) (fun a => (hasA_cons (k := 6) rfl (done_of (j := 6) hcu rfl (by decide) rfl) (hasA_cons (k := 8) rfl (done_of (j := 8) hcu rfl (by decide) rfl) hasA_base))) (ov_nilCheck rfl) rfl rfl (onlyT_spec (k0 := 9) rfl rfl rfl)
   ·exact fun done hi hc hcu => draw_value (i := 10) (t := 71) (v := (pt p0 1)) rfl rfl (wanted_on rfl rfl rfl (eq_t c181)) (fun a => (hasA_cons (k := 6) rfl (done_of (j := 6) hcu rfl (by decide) rfl) (hasA_cons (k := 9) rfl (done_of (j := 9) hcu rfl (by decide) rfl) hasA_base))) (ov_fieldAddr (sz := 0) (o := 0) rfl F_field_72_1 F_size_3) rfl rfl (onlyT_spec (k0 := 10) rfl rfl rfl)
   ·exact fun done hi hc hcu => draw_value (i := 11) (t := 72) (v := (I p0_1)) rfl rfl (wanted_on rfl rfl rfl (eq_t c181)) (fun a => (hasA_cons (k := 6) rfl (done_of (j := 6) hcu rfl (by decide) rfl) (hasA_cons (k := 10) rfl (done_of (j := 10) hcu rfl (by decide) rfl) hasA_base))) (ov_load (v := (I p0_1)) rfl F_agg_3 (reads_box1 (i := 0) rfl rfl)) rfl rfl (onlyT_spec (k0 := 11) rfl rfl rfl)
   ·exact fun done hi hc hcu => draw_same (i := 12) (t := 73) (v := (bool x150)) rfl rfl (wanted_on rfl rfl rfl (eq_t c181)) (fun a => (hasA_cons (k := 6) rfl (done_of (j := 6) hcu rfl (by decide) rfl) (hasA_cons (k := 11) rfl (done_of (j := 11) hcu rfl (by decide) rfl) (hasA_cons (k := 7) rfl (done_of (j := 7) hcu rfl (by decide) rfl) hasA_base)))) (ot_call0 (first := []) (cap := []) (xs := [.tmp 68,.tmp 72]) rfl rfl F_call_51 rfl (script_Right_NN_2.spec K p0_1 _ h188)) rfl rfl (onlyT_spec (k0 := 12) rfl rfl rfl)
   ·exact fun done hi hc hcu => draw_value (i := 13) (t := 74) (v := (bool x150)) rfl rfl (wanted_none rfl) (fun a => (hasA_cons (k := 12) rfl (done_of (j := 12) hcu rfl (by decide) rfl) (hasA_cons (k := 6) rfl (done_of (j := 6) hcu rfl (by decide) rfl) hasA_base))) (ov_pick rfl rfl rfl (pick_t (eq_t c181))) rfl rfl (onlyT_spec (k0 := 13) rfl rfl rfl)
   ·exact fun done hi hc hcu => draw_same (i := 14) (t := 75) (v := (tU #[])) rfl rfl (wanted_none rfl) (fun a => (hasA_cons (k := 13) rfl (done_of (j := 13) hcu rfl (by decide) rfl) hasA_base)) (ot_call0 (first := []) (cap := []) (xs := [.tmp 74]) rfl rfl F_call_50 rfl (words_must.spec x150 _ h189)) rfl rfl (onlyT_spec (k0 := 14) rfl rfl rfl)
  ·intro done hall
   refine draw_endL C11_ rfl (fun a => (hasA_cons (k := 0) rfl (hall 0 (by decide)) (hasA_cons (k := 1) rfl (hall 1 (by decide)) (hasA_cons (k := 2) rfl (hall 2 (by decide)) (hasA_cons (k := 3) rfl (hall 3 (by decide)) (hasA_cons (k := 4) rfl (hall 4 (by decide)) (hasA_cons (k := 5) rfl (hall 5 (by decide)) (hasA_cons (k := 6) rfl (hall 6 (by decide)) (hasA_cons (k := 7) rfl (hall 7 (by decide)) (hasA_cons (k := 8) rfl (hall 8 (by decide)) (hasA_cons (k := 9) rfl (hall 9 (by decide)) (hasA_cons (k := 10) rfl (hall 10 (by decide)) (hasA_cons (k := 11) rfl (hall 11 (by decide)) (hasA_cons (k := 12) rfl (hall 12 (by decide)) (hasA_cons (k := 13) rfl (hall 13 (by decide)) (hasA_cons (k := 14) rfl (hall 14 (by decide)) hasA_base)))))))))))))))) ?_
   refine ent_seq (ent_region (ent_value (ov_load_agg (vs := C5_) rfl F_agg_41 F_size_41 (reads_boxW (i := 2) rfl)) rfl rfl rfl ?_))
   refine ent_op0 (ot_storeG (cs := C5_) (cs' := C5_) (us := C5_) (L' := C11_) 2 rfl rfl rfl (one_all rfl) F_size_41 rfl rfl (by simp [C26_,C15_,C14_,C5_,C0_,C12_,C11_]) rfl) rfl rfl ?_
   rintro _ _ rfl
   refine ent_nil (ent_retc ?_)
   first | (have e_ := Option.some.inj (show some _ = some _ from H); subst e_) | subst H
   refine ent_ownnil 54 6 ?_
   refine ent_ownnil 4 1 ?_
   exact ret_memp [1,0,2,3] (by decide) rfl (vs := [C14_]) rfl ⟨⟨_,C5_,rfl,reads_boxW (i := 4) rfl,.inl ⟨F_agg_41,F_size_41,rfl⟩⟩,trivial⟩ _ rfl ⟨_,_,_,hr69,rfl,rfl⟩
 refine ent_cond_false rfl (eq_f c179) (ent_seq (ent_region ?_))
 obtain ⟨x152,h192,H⟩ := thn_elim H
 let C17_ : Value := agg #[str x152.1,str x152.2.1,str x152.2.2.1,str x152.2.2.2]
 refine ent_op (ot_call0 (first := []) (cap := []) (xs := []) rfl rfl F_call_48 rfl (words_kinds.spec _ h192)) rfl rfl rfl ?_
 rintro _ _ ⟨rfl,rfl⟩
 refine ent_value (ov_move rfl) rfl rfl rfl (ent_nil (ent_block ?_))
 refine ent_loop (fun k a w => ∃ i35,words_reader_step_O_l1 K p0_1 x82 x152 k i35 = some r ∧ St 77 w0 F [(0,pt p0 0),(2,pt b6 0),(3,str x82.2),(12,C17_),(13,I i35)] C12_ a w) K ?_ ?_
 ·exact ent_fin [0,1,2] (by decide) rfl (sub_cons (t := 0) rfl (sub_cons (t := 2) rfl (sub_cons (t := 3) rfl (sub_cons (t := 12) rfl (sub_cons (t := 13) rfl (sub_nil _)))))) fun a w h => ⟨_,H,h⟩
 ·refine fun k => ent_exi fun i35 => ent_and fun H4 => ?_
  cases k with
  | zero => exact absurd H4 (by simp [C26_,C15_,C14_,C5_,C0_,C12_,C11_,C17_,words_reader_step_O_l1])
  | succ k =>
   rw [words_reader_step_O_l1] at H4
   refine ent_seq (ent_region (ent_value (ov_bin rfl rfl (b_lss _ _ _)) rfl rfl rfl (ent_nil (ent_seq ?_))))
   refine htT H4 (fun c191 H4 => ?_) fun c191 H4 => ?_
   ·refine ent_cond_true rfl (decide_eq_true c191) (ent_skip (ent_seq (ent_block (ent_seq (ent_region (ent_value (ov_move rfl) rfl rfl rfl ?_))))))
    obtain ⟨c194,H4⟩ := gdT H4
    obtain ⟨c195,H4⟩ := gdT H4
    refine ent_value (ov_indexAgg rfl rfl F_array_34 F_size_9 F_agg_9 c194 c195 (cases4 (fun i_ => #[str x152.1,str x152.2.1,str x152.2.2.1,str x152.2.2.2][i_]? = some (str ([x152.1,x152.2.1,x152.2.2.1,x152.2.2.2].getD i_ []))) (ix_lt c194 c195) rfl rfl rfl rfl)) rfl rfl rfl ?_
    refine ent_value (ov_assign rfl) rfl rfl rfl (ent_value (ov_assign rfl) rfl rfl rfl (ent_nil (ent_seq (ent_region (ent_value (ov_move rfl) rfl rfl rfl (ent_value (ov_move rfl) rfl rfl rfl (ent_value (ov_bin rfl rfl (b_eql_str _ _)) rfl rfl rfl (ent_nil ?_))))))))
    refine htT H4 (fun c196 H4 => ?_) fun c196 H4 => ?_
    ·refine ent_cond_true rfl (eq_t c196) ?_
     cases H4
    refine ent_cond_false rfl (eq_f c196) (ent_skip (ent_region (ent_value (ov_bin rfl rfl (b_add _ _ _) ) rfl rfl rfl (ent_value (ov_move rfl) rfl rfl rfl (ent_nil ?_)))))
    exact ent_fin [0,1,2] (by decide) rfl (sub_cons (t := 0) rfl (sub_cons (t := 2) rfl (sub_cons (t := 3) rfl (sub_cons (t := 12) rfl (sub_cons (t := 13) rfl (sub_nil _)))))) fun a w h => ⟨k,Nat.lt_succ_self k,_,H4,h⟩
   refine ent_cond_false rfl (decide_eq_false c191) (ent_exit (ent_seq ?_))
   refine htF H4 (fun c198 H4 => ?_) fun c198 H4 => ?_
   ·obtain ⟨u47,h204,H4⟩ := Option.bind_eq_some_iff.1 H4
    refine ent_drawm 15 rfl (fun done a w => StD 77 w0 F [(0,pt p0 0),(2,pt b6 0),(3,str x82.2),(12,C17_),(13,I i35),(14,bool (decide (i35 < 4)))] [(0,61,pt p0 0),(1,62,pt p0 0),(2,63,pt p0 0),(3,64,sv75),(4,65,I (x82.1.length : Int)),(5,66,bool ((x82.1.length : Int) == 0)),(6,67,bool ((x82.1.length : Int) == 0)),(7,68,undef),(8,69,undef),(9,70,undef),(10,71,undef),(11,72,undef),(12,73,undef),(13,74,B0),(14,75,tU #[])] done C12_ a w) (by kernel_rfl) (by kernel_rfl) (draw_startL (sub_cons (t := 0) rfl (sub_cons (t := 2) rfl (sub_cons (t := 3) rfl (sub_cons (t := 12) rfl (sub_cons (t := 13) rfl (sub_cons (t := 14) rfl (sub_nil _))))))) rfl) ?_ ?_
    ·refine ⟨?_,?_,?_,?_,?_,?_,?_,?_,?_,?_,?_,?_,?_,?_,?_,trivial⟩
     ·exact fun done hi hc hcu => draw_value (i := 0) (t := 61) (v := (pt p0 0)) rfl rfl (wanted_none rfl) (fun a => hasA_base) (ov_move rfl) rfl rfl (onlyT_spec (k0 := 0) rfl rfl rfl)
     ·exact fun done hi hc hcu => draw_value (i := 1) (t := 62) (v := (pt p0 0)) rfl rfl (wanted_none rfl) (fun a => (hasA_cons (k := 0) rfl (done_of (j := 0) hcu rfl (by decide) rfl) hasA_base)) (ov_nilCheck rfl) rfl rfl (onlyT_spec (k0 := 1) rfl rfl rfl)
     ·exact fun done hi hc hcu => draw_value (i := 2) (t := 63) (v := (pt p0 0)) rfl rfl (wanted_none rfl) (fun a => (hasA_cons (k := 1) rfl (done_of (j := 1) hcu rfl (by decide) rfl) hasA_base)) (ov_fieldAddr (sz := 0) (o := 0) rfl F_field_72_0 F_size_29) rfl rfl (onlyT_spec (k0 := 2) rfl rfl rfl)
     ·exact fun done hi hc hcu => draw_value (i := 3) (t := 64) (v := sv75) rfl rfl (wanted_none rfl) (fun a => (hasA_cons (k := 2) rfl (done_of (j := 2) hcu rfl (by decide) rfl) hasA_base)) (ov_load (v := sv75) rfl F_agg_29 (reads_box1 (i := 0) rfl rfl)) rfl rfl (onlyT_spec (k0 := 3) rfl rfl rfl)
     ·exact fun done hi hc hcu => draw_value (i := 4) (t := 65) (v := (I (x82.1.length : Int))) rfl rfl (wanted_none rfl) (fun a => (hasA_cons (k := 3) rfl (done_of (j := 3) hcu rfl (by decide) rfl) hasA_base)) (ov_len 1 rfl F_slice_29 rfl hr69) rfl rfl (onlyT_spec (k0 := 4) rfl rfl rfl)
     ·exact fun done hi hc hcu => draw_value (i := 5) (t := 66) (v := (bool ((x82.1.length : Int) == 0))) rfl rfl (wanted_none rfl) (fun a => (hasA_cons (k := 4) rfl (done_of (j := 4) hcu rfl (by decide) rfl) hasA_base)) (ov_bin rfl rfl (b_eql _ _ _)) rfl rfl (onlyT_spec (k0 := 5) rfl rfl rfl)
     ·exact fun done hi hc hcu => draw_value (i := 6) (t := 67) (v := (bool ((x82.1.length : Int) == 0))) rfl rfl (wanted_none rfl) (fun a => (hasA_cons (k := 5) rfl (done_of (j := 5) hcu rfl (by decide) rfl) hasA_base)) (ov_move rfl) rfl rfl (onlyT_spec (k0 := 6) rfl rfl rfl)
     ·exact fun done hi hc hcu => draw_off (i := 7) (t := 68) rfl rfl (wanted_off rfl rfl rfl (eq_f c198)) (fun a => (hasA_cons (k := 6) rfl (done_of (j := 6) hcu rfl (by decide) rfl) hasA_base)) rfl rfl (onlyT_spec (k0 := 7) rfl rfl rfl)
     ·exact fun done hi hc hcu => draw_off (i := 8) (t := 69) rfl rfl (wanted_off rfl rfl rfl (eq_f c198)) (fun a => (hasA_cons (k := 6) rfl (done_of (j := 6) hcu rfl (by decide) rfl) hasA_base)) rfl rfl (onlyT_spec (k0 := 8) rfl rfl rfl)
     ·exact fun done hi hc hcu => draw_off (i := 9) (t := 70) rfl rfl (wanted_off rfl rfl rfl (eq_f c198)) (fun a => (hasA_cons (k := 6) rfl (done_of (j := 6) hcu rfl (by decide) rfl) hasA_base)) rfl rfl (onlyT_spec (k0 := 9) rfl rfl rfl)
     ·exact fun done hi hc hcu => draw_off (i := 10) (t := 71) rfl rfl (wanted_off rfl rfl rfl (eq_f c198)) (fun a => (hasA_cons (k := 6) rfl (done_of (j := 6) hcu rfl (by decide) rfl) hasA_base)) rfl rfl (onlyT_spec (k0 := 10) rfl rfl rfl)
     ·exact fun done hi hc hcu => draw_off (i := 11) (t := 72) rfl rfl (wanted_off rfl rfl rfl (eq_f c198)) (fun a => (hasA_cons (k := 6) rfl (done_of (j := 6) hcu rfl (by decide) rfl) hasA_base)) rfl rfl (onlyT_spec (k0 := 11) rfl rfl rfl)
     ·exact fun done hi hc hcu => draw_off (i := 12) (t := 73) rfl rfl (wanted_off rfl rfl rfl (eq_f c198)) (fun a => (hasA_cons (k := 6) rfl (done_of (j := 6) hcu rfl (by decide) rfl) hasA_base)) rfl rfl (onlyT_spec (k0 := 12) rfl rfl rfl)
     ·exact fun done hi hc hcu => draw_value (i := 13) (t := 74) (v := B0) rfl rfl (wanted_none rfl) (fun a => (hasA_cons (k := 12) rfl (done_of (j := 12) hcu rfl (by decide) rfl) (hasA_cons (k := 6) rfl (done_of (j := 6) hcu rfl (by decide) rfl) hasA_base))) (ov_pick rfl rfl rfl (pick_f (eq_f c198))) rfl rfl (onlyT_spec (k0 := 13) rfl rfl rfl)
     ·exact fun done hi hc hcu => draw_same (i := 14) (t := 75) (v := (tU #[])) rfl rfl (wanted_none rfl) (fun a => (hasA_cons (k := 13) rfl (done_of (j := 13) hcu rfl (by decide) rfl) hasA_base)) (ot_call0 (first := []) (cap := []) (xs := [.tmp 74]) rfl rfl F_call_50 rfl (words_must.spec false _ h204)) rfl rfl (onlyT_spec (k0 := 14) rfl rfl rfl)
    ·intro done hall
     refine draw_endL C12_ rfl (fun a => (hasA_cons (k := 0) rfl (hall 0 (by decide)) (hasA_cons (k := 1) rfl (hall 1 (by decide)) (hasA_cons (k := 2) rfl (hall 2 (by decide)) (hasA_cons (k := 3) rfl (hall 3 (by decide)) (hasA_cons (k := 4) rfl (hall 4 (by decide)) (hasA_cons (k := 5) rfl (hall 5 (by decide)) (hasA_cons (k := 6) rfl (hall 6 (by decide)) (hasA_cons (k := 7) rfl (hall 7 (by decide)) (hasA_cons (k := 8) rfl (hall 8 (by decide)) (hasA_cons (k := 9) rfl (hall 9 (by decide)) (hasA_cons (k := 10) rfl (hall 10 (by decide)) (hasA_cons (k := 11) rfl (hall 11 (by decide)) (hasA_cons (k := 12) rfl (hall 12 (by decide)) (hasA_cons (k := 13) rfl (hall 13 (by decide)) (hasA_cons (k := 14) rfl (hall 14 (by decide)) hasA_base)))))))))))))))) ?_
     refine ent_seq (ent_region (ent_value (ov_load_agg (vs := C0_) rfl F_agg_41 F_size_41 (reads_boxW (i := 2) rfl)) rfl rfl rfl ?_))
     refine ent_op0 (ot_storeG (cs := C0_) (cs' := C0_) (us := C0_) (L' := C12_) 2 rfl rfl rfl (one_all rfl) F_size_41 rfl rfl (by simp [C26_,C15_,C14_,C5_,C0_,C12_,C11_,C17_]) rfl) rfl rfl ?_
     rintro _ _ rfl
     refine ent_nil (ent_retc ?_)
     first | (have e_ := Option.some.inj (show some _ = some _ from H4); subst e_) | subst H4
     refine ent_ownnil 54 6 ?_
     refine ent_ownnil 4 1 ?_
     exact ret_memp [1,0,2,3] (by decide) rfl (vs := [C15_]) rfl ⟨⟨_,C0_,rfl,reads_boxW (i := 4) rfl,.inl ⟨F_agg_41,F_size_41,rfl⟩⟩,trivial⟩ _ rfl ⟨_,_,_,hr69,rfl,rfl⟩
   obtain ⟨x160,h202,H4⟩ := thn_elim H4
   obtain ⟨u46,h203,H4⟩ := Option.bind_eq_some_iff.1 H4
   refine ent_drawm 15 rfl (fun done a w => StD 77 w0 F [(0,pt p0 0),(2,pt b6 0),(3,str x82.2),(12,C17_),(13,I i35),(14,bool (decide (i35 < 4)))] [(0,61,pt p0 0),(1,62,pt p0 0),(2,63,pt p0 0),(3,64,sv75),(4,65,I (x82.1.length : Int)),(5,66,bool ((x82.1.length : Int) == 0)),(6,67,bool ((x82.1.length : Int) == 0)),(7,68,C15_),(8,69,pt p0 0),(9,70,pt p0 0),(10,71,pt p0 1),(11,72,I p0_1),(12,73,bool x160),(13,74,bool x160),(14,75,tU #[])] done C12_ a w) (by kernel_rfl) (by kernel_rfl) (draw_startL (sub_cons (t := 0) rfl (sub_cons (t := 2) rfl (sub_cons (t := 3) rfl (sub_cons (t := 12) rfl (sub_cons (t := 13) rfl (sub_cons (t := 14) rfl (sub_nil _))))))) rfl) ?_ ?_
   ·refine ⟨?_,?_,?_,?_,?_,?_,?_,?_,?_,?_,?_,?_,?_,?_,?_,trivial⟩
    ·exact fun done hi hc hcu => draw_value (i := 0) (t := 61) (v := (pt p0 0)) rfl rfl (wanted_none rfl) (fun a => hasA_base) (ov_move rfl) rfl rfl (onlyT_spec (k0 := 0) rfl rfl rfl)
    ·exact fun done hi hc hcu => draw_value (i := 1) (t := 62) (v := (pt p0 0)) rfl rfl (wanted_none rfl) (fun a => (hasA_cons (k := 0) rfl (done_of (j := 0) hcu rfl (by decide) rfl) hasA_base)) (ov_nilCheck rfl) rfl rfl (onlyT_spec (k0 := 1) rfl rfl rfl)
    ·exact fun done hi hc hcu => draw_value (i := 2) (t := 63) (v := (pt p0 0)) rfl rfl (wanted_none rfl) (fun a => (hasA_cons (k := 1) rfl (done_of (j := 1) hcu rfl (by decide) rfl) hasA_base)) (ov_fieldAddr (sz := 0) (o := 0) rfl F_field_72_0 F_size_29) rfl rfl (onlyT_spec (k0 := 2) rfl rfl rfl)
    ·exact fun done hi hc hcu => draw_value (i := 3) (t := 64) (v := sv75) rfl rfl (wanted_none rfl) (fun a => (hasA_cons (k := 2) rfl (done_of (j := 2) hcu rfl (by decide) rfl) hasA_base)) (ov_load (v := sv75) rfl F_agg_29 (reads_box1 (i := 0) rfl rfl)) rfl rfl (onlyT_spec (k0 := 3) rfl rfl rfl)
    ·exact fun done hi hc hcu => draw_value (i := 4) (t := 65) (v := (I (x82.1.length : Int))) rfl rfl (wanted_none rfl) (fun a => (hasA_cons (k := 3) rfl (done_of (j := 3) hcu rfl (by decide) rfl) hasA_base)) (ov_len 1 rfl F_slice_29 rfl hr69) rfl rfl (onlyT_spec (k0 := 4) rfl rfl rfl)
    ·exact fun done hi hc hcu => draw_value (i := 5) (t := 66) (v := (bool ((x82.1.length : Int) == 0))) rfl rfl (wanted_none rfl) (fun a => (hasA_cons (k := 4) rfl (done_of (j := 4) hcu rfl (by decide) rfl) hasA_base)) (ov_bin rfl rfl (b_eql _ _ _)) rfl rfl (onlyT_spec (k0 := 5) rfl rfl rfl)
    ·exact fun done hi hc hcu => draw_value (i := 6) (t := 67) (v := (bool ((x82.1.length : Int) == 0))) rfl rfl (wanted_none rfl) (fun a => (hasA_cons (k := 5) rfl (done_of (j := 5) hcu rfl (by decide) rfl) hasA_base)) (ov_move rfl) rfl rfl (onlyT_spec (k0 := 6) rfl rfl rfl)
    ·exact fun done hi hc hcu => draw_value (i := 7) (t := 68) (v := (C15_)) rfl rfl (wanted_on rfl rfl rfl (eq_t c198)) (fun a => (hasA_cons (k := 6) rfl (done_of (j := 6) hcu rfl (by decide) rfl) hasA_base)) (ov_load_agg (vs := C0_) rfl F_agg_41 F_size_41 (reads_boxW (i := 2) rfl)) rfl rfl (onlyT_spec (k0 := 7) rfl rfl rfl)
    ·exact fun done hi hc hcu => draw_value (i := 8) (t := 69) (v := (pt p0 0)) rfl rfl (wanted_on rfl rfl rfl (eq_t c198)) (fun a => (hasA_cons (k := 6) rfl (done_of (j := 6) hcu rfl (by decide) rfl) hasA_base)) (ov_move rfl) rfl rfl (onlyT_spec (k0 := 8) rfl rfl rfl)
    ·exact fun done hi hc hcu => draw_value (i := 9) (t := 70) (v := (pt p0 0)) rfl rfl (wanted_on rfl rfl rfl (eq_t c198)) (fun a => (hasA_cons (k := 6) rfl (done_of (j := 6) hcu rfl (by decide) rfl) (hasA_cons (k := 8) rfl (done_of (j := 8) hcu rfl (by decide) rfl) hasA_base))) (ov_nilCheck rfl) rfl rfl (onlyT_spec (k0 := 9) rfl rfl rfl)
    ·exact fun done hi hc hcu => draw_value (i := 10) (t := 71) (v := (pt p0 1)) rfl rfl (wanted_on rfl rfl rfl (eq_t c198)) (fun a => (hasA_cons (k := 6) rfl (done_of (j := 6) hcu rfl (by decide) rfl) (hasA_cons (k := 9) rfl (done_of (j := 9) hcu rfl (by decide) rfl) hasA_base))) (ov_fieldAddr (sz := 0) (o := 0) rfl F_field_72_1 F_size_3) rfl rfl (onlyT_spec (k0 := 10) rfl rfl rfl)
    ·exact fun done hi hc hcu => draw_value (i := 11) (t := 72) (v := (I p0_1)) rfl rfl (wanted_on rfl rfl rfl (eq_t c198)) (fun a => (hasA_cons (k := 6) rfl (done_of (j := 6) hcu rfl (by decide) rfl) (hasA_cons (k := 10) rfl (done_of (j := 10) hcu rfl (by decide) rfl) hasA_base))) (ov_load (v := (I p0_1)) rfl F_agg_3 (reads_box1 (i := 0) rfl rfl)) rfl rfl (onlyT_spec (k0 := 11) rfl rfl rfl)
    ·exact fun done hi hc hcu => draw_same (i := 12) (t := 73) (v := (bool x160)) rfl rfl (wanted_on rfl rfl rfl (eq_t c198)) (fun a => (hasA_cons (k := 6) rfl (done_of (j := 6) hcu rfl (by decide) rfl) (hasA_cons (k := 11) rfl (done_of (j := 11) hcu rfl (by decide) rfl) (hasA_cons (k := 7) rfl (done_of (j := 7) hcu rfl (by decide) rfl) hasA_base)))) (ot_call0 (first := []) (cap := []) (xs := [.tmp 68,.tmp 72]) rfl rfl F_call_51 rfl (script_Right_NN_3.spec p0_1 _ h202)) rfl rfl (onlyT_spec (k0 := 12) rfl rfl rfl)
    ·exact fun done hi hc hcu => draw_value (i := 13) (t := 74) (v := (bool x160)) rfl rfl (wanted_none rfl) (fun a => (hasA_cons (k := 12) rfl (done_of (j := 12) hcu rfl (by decide) rfl) (hasA_cons (k := 6) rfl (done_of (j := 6) hcu rfl (by decide) rfl) hasA_base))) (ov_pick rfl rfl rfl (pick_t (eq_t c198))) rfl rfl (onlyT_spec (k0 := 13) rfl rfl rfl)
    ·exact fun done hi hc hcu => draw_same (i := 14) (t := 75) (v := (tU #[])) rfl rfl (wanted_none rfl) (fun a => (hasA_cons (k := 13) rfl (done_of (j := 13) hcu rfl (by decide) rfl) hasA_base)) (ot_call0 (first := []) (cap := []) (xs := [.tmp 74]) rfl rfl F_call_50 rfl (words_must.spec x160 _ h203)) rfl rfl (onlyT_spec (k0 := 14) rfl rfl rfl)
   ·intro done hall
    refine draw_endL C12_ rfl (fun a => (hasA_cons (k := 0) rfl (hall 0 (by decide)) (hasA_cons (k := 1) rfl (hall 1 (by decide)) (hasA_cons (k := 2) rfl (hall 2 (by decide)) (hasA_cons (k := 3) rfl (hall 3 (by decide)) (hasA_cons (k := 4) rfl (hall 4 (by decide)) (hasA_cons (k := 5) rfl (hall 5 (by decide)) (hasA_cons (k := 6) rfl (hall 6 (by decide)) (hasA_cons (k := 7) rfl (hall 7 (by decide)) (hasA_cons (k := 8) rfl (hall 8 (by decide)) (hasA_cons (k := 9) rfl (hall 9 (by decide)) (hasA_cons (k := 10) rfl (hall 10 (by decide)) (hasA_cons (k := 11) rfl (hall 11 (by decide)) (hasA_cons (k := 12) rfl (hall 12 (by decide)) (hasA_cons (k := 13) rfl (hall 13 (by decide)) (hasA_cons (k := 14) rfl (hall 14 (by decide)) hasA_base)))))))))))))))) ?_
    refine ent_seq (ent_region (ent_value (ov_load_agg (vs := C0_) rfl F_agg_41 F_size_41 (reads_boxW (i := 2) rfl)) rfl rfl rfl ?_))
    refine ent_op0 (ot_storeG (cs := C0_) (cs' := C0_) (us := C0_) (L' := C12_) 2 rfl rfl rfl (one_all rfl) F_size_41 rfl rfl (by simp [C26_,C15_,C14_,C5_,C0_,C12_,C11_,C17_]) rfl) rfl rfl ?_
    rintro _ _ rfl
    refine ent_nil (ent_retc ?_)
    first | (have e_ := Option.some.inj (show some _ = some _ from H4); subst e_) | subst H4
    refine ent_ownnil 54 6 ?_
    refine ent_ownnil 4 1 ?_
    exact ret_memp [1,0,2,3] (by decide) rfl (vs := [C15_]) rfl ⟨⟨_,C0_,rfl,reads_boxW (i := 4) rfl,.inl ⟨F_agg_41,F_size_41,rfl⟩⟩,trivial⟩ _ rfl ⟨_,_,_,hr69,rfl,rfl⟩

end Go.Proofs.YtgbjponaoeiglaaDoor.WordsBares
