/- Printed by gen.py: that the machine's calls do what the plain functions of SheetBack say. -/
import Derived.Test.YthcmiohbidencaaSheetBackWalk2
import Derived.Test.YthcmiohbidencaaESq
import Derived.Test.YthcmiohbidencaaProg
import Derived.Test.YthcmiohbidencaaEBun
import Derived.Test.YthcmiohbidencaaEBuild
import Derived.Test.YthcmiohbidencaaEShelf
import Derived.Test.YthcmiohbidencaaELib
import Derived.Test.YthcmiohbidencaaSheetBackPure
set_option linter.unusedVariables false
set_option linter.unusedSimpArgs false
set_option maxHeartbeats 8000000
set_option maxRecDepth 100000
namespace Go.Proofs.Ythcmiohbidencaa.SheetBack
open Go Go.RowKit E
open Go.Value (int bool slice agg)

theorem part_Due.spec (a0_0 a0_1 : Int) (a1_0 a1_1 : Int) (a1_2 a1_3 : Int) (a1_4 a1_5 : Int) (a1_6 a1_7 : Int) (a1_8 a2 : Int) (r : Bool) (H : part_Due a0_0 a0_1 a1_0 a1_1 a1_2 a1_3 a1_4 a1_5 a1_6 a1_7 a1_8 a2 = some r) : FnSpec Try.prog 48 [agg #[I a0_0,I a0_1],agg #[I a1_0,I a1_1,I a1_2,I a1_3,I a1_4,I a1_5,I a1_6,I a1_7,I a1_8],I a2] [] (fun v M => v = (bool r) ∧ M = []) := by
 unfold part_Due at H
 refine spec_of Try.func48 rfl 36 rfl (Nat.le_of_ble_eq_true rfl) fun F w0 => ?_
 let C0_ : List Value := [I a1_0,I a1_1,I a1_2,I a1_3,I a1_4,I a1_5,I a1_6,I a1_7,I a1_8]
 show Ent (St 36 w0 F [(0,agg #[I a0_0,I a0_1]),(1,agg #[I a1_0,I a1_1,I a1_2,I a1_3,I a1_4,I a1_5,I a1_6,I a1_7,I a1_8]),(2,I a2)] []) _
 refine ent_seq (ent_region ?_)
 refine ent_op (ot_box (cs := [I a0_0,I a0_1]) rfl rfl) rfl rfl rfl ?_
 rintro _ _ ⟨b3,rfl,rfl⟩
 refine ent_op (ot_box (cs := C0_) rfl rfl) rfl rfl rfl ?_
 rintro _ _ ⟨b4,rfl,rfl⟩
 refine ent_value (ov_assign rfl) rfl rfl rfl (ent_nil (ent_seq (ent_seq (ent_region (ent_value (ov_load_agg (vs := [I a0_0,I a0_1]) rfl F_agg_40 F_size_40 (reads_boxW (i := 1) rfl)) rfl rfl rfl ?_)))))
 obtain ⟨x9,h9,H⟩ := thn_elim H
 refine ent_op (ot_call0 (first := []) (cap := []) (xs := [.tmp 11]) rfl rfl F_call_46 rfl (part_Right.spec a0_0 a0_1 _ h9)) rfl rfl rfl ?_
 rintro _ _ ⟨rfl,rfl⟩
 refine ent_value (ov_un rfl (u_not _)) rfl rfl rfl (ent_value (ov_move rfl) rfl rfl rfl ?_)
 refine htT H (fun c7 H => ?_) fun c7 H => ?_
 ·refine ent_off rfl rfl rfl c7 rfl rfl ?_
  refine ent_off rfl rfl rfl c7 rfl rfl ?_
  refine ent_off rfl rfl rfl c7 rfl rfl ?_
  refine ent_value (ov_pick rfl rfl rfl (pick_t c7)) rfl rfl rfl (ent_nil (ent_cond_true rfl rfl (ent_seq (ent_region (ent_value (ov_assign rfl) rfl rfl rfl (ent_nil (ent_retc ?_)))))))
  cases H
  refine ent_pick [] (by decide) rfl ?_
  exact ret_tmp rfl rfl ⟨rfl,rfl⟩
 refine ent_value_on (ov_load_agg (vs := C0_) rfl F_agg_24 F_size_24 (reads_boxW (i := 0) rfl)) rfl rfl rfl (Bool.eq_false_iff.2 c7) rfl rfl ?_
 obtain ⟨x10,h10,H⟩ := Option.bind_eq_some_iff.1 H
 refine ent_op_on (ot_call0 (first := []) (cap := []) (xs := [.tmp 15]) rfl rfl F_call_37 rfl (policy_Check.spec a1_0 a1_1 a1_2 a1_3 a1_4 a1_5 a1_6 a1_7 a1_8 _ h10)) rfl rfl rfl (Bool.eq_false_iff.2 c7) rfl rfl ?_
 rintro _ _ ⟨rfl,rfl⟩
 refine ent_value_on (ov_bin rfl rfl (b_neq _ _ _)) rfl rfl rfl (Bool.eq_false_iff.2 c7) rfl rfl ?_
 refine ent_value (ov_pick rfl rfl rfl (pick_f (Bool.eq_false_iff.2 c7))) rfl rfl rfl (ent_nil ?_)
 refine htT H (fun c8 H => ?_) fun c8 H => ?_
 ·refine ent_cond_true rfl (ne_t c8) (ent_seq (ent_region (ent_value (ov_assign rfl) rfl rfl rfl (ent_nil (ent_retc ?_)))))
  cases H
  refine ent_pick [] (by decide) rfl ?_
  exact ret_tmp rfl rfl ⟨rfl,rfl⟩
 refine ent_cond_false rfl (ne_f c8) (ent_skip (ent_seq (ent_region (ent_value (ov_load_agg (vs := C0_) rfl F_agg_24 F_size_24 (reads_boxW (i := 0) rfl)) rfl rfl rfl (ent_value (ov_fieldAddr (sz := 0) (o := 0) rfl F_field_40_0 F_size_3) rfl rfl rfl (ent_value (ov_load (v := (I a0_0)) rfl F_agg_3 (reads_box1 (i := 1) rfl rfl)) rfl rfl rfl ?_))))))
 obtain ⟨x11,h11,H⟩ := Option.bind_eq_some_iff.1 H
 refine ent_op (ot_call0 (first := []) (cap := []) (xs := [.tmp 20,.tmp 22]) rfl rfl F_call_51 rfl (policy_Lag.spec a1_0 a1_1 a1_2 a1_3 a1_4 a1_5 a1_6 a1_7 a1_8 a0_0 _ h11)) rfl rfl rfl ?_
 rintro _ _ ⟨rfl,rfl⟩
 refine ent_value (ov_move rfl) rfl rfl rfl (ent_value (ov_extract rfl rfl) rfl rfl rfl (ent_value (ov_extract rfl rfl) rfl rfl rfl (ent_value (ov_assign rfl) rfl rfl rfl (ent_value (ov_assign rfl) rfl rfl rfl (ent_nil (ent_seq (ent_region (ent_value (ov_load_agg (vs := [I a0_0,I a0_1]) rfl F_agg_40 F_size_40 (reads_boxW (i := 1) rfl)) rfl rfl rfl ?_))))))))
 obtain ⟨x12,h12,H⟩ := thn_elim H
 refine ent_op (ot_call0 (first := []) (cap := []) (xs := [.tmp 27]) rfl rfl F_call_47 rfl (part_Span.spec a0_0 a0_1 _ h12)) rfl rfl rfl ?_
 rintro _ _ ⟨rfl,rfl⟩
 refine ent_value (ov_move rfl) rfl rfl rfl (ent_value (ov_extract rfl rfl) rfl rfl rfl (ent_value (ov_extract rfl rfl) rfl rfl rfl (ent_value (ov_assign rfl) rfl rfl rfl (ent_value (ov_assign rfl) rfl rfl rfl (ent_nil (ent_seq (ent_region (ent_value (ov_move rfl) rfl rfl rfl (ent_value (ov_move rfl) rfl rfl rfl (ent_value (ov_bin rfl rfl (b_sub _ _ _) ) rfl rfl rfl (ent_value (ov_move rfl) rfl rfl rfl ?_)))))))))))
 refine ent_value (ov_bin rfl rfl (b_geq _ _ _)) rfl rfl rfl (ent_value (ov_assign rfl) rfl rfl rfl (ent_nil (ent_retc ?_)))
 cases H
 refine ent_pick [] (by decide) rfl ?_
 exact ret_tmp rfl rfl ⟨rfl,rfl⟩

theorem sheet_State.spec (a0_0 a0_1 : Int) (a0_2 a0_3 : Int) (a0_4 a0_5 : Int) (a0_6 a0_7 : Int) (a0_8 a1_0 : Int) (a1_1 a2 a3 : Int) (r : List UInt8) (H : sheet_State a0_0 a0_1 a0_2 a0_3 a0_4 a0_5 a0_6 a0_7 a0_8 a1_0 a1_1 a2 a3 = some r) : FnSpec Try.prog 20 [agg #[I a0_0,I a0_1,I a0_2,I a0_3,I a0_4,I a0_5,I a0_6,I a0_7,I a0_8],agg #[I a1_0,I a1_1],I a2,I a3] [] (fun v M => v = (str r) ∧ M = []) := by
 unfold sheet_State at H
 refine spec_of Try.func20 rfl 61 rfl (Nat.le_of_ble_eq_true rfl) fun F w0 => ?_
 let C0_ : List Value := [I a0_0,I a0_1,I a0_2,I a0_3,I a0_4,I a0_5,I a0_6,I a0_7,I a0_8]
 show Ent (St 61 w0 F [(0,agg #[I a0_0,I a0_1,I a0_2,I a0_3,I a0_4,I a0_5,I a0_6,I a0_7,I a0_8]),(1,agg #[I a1_0,I a1_1]),(2,I a2),(3,I a3)] []) _
 refine ent_seq (ent_region ?_)
 refine ent_op (ot_box (cs := C0_) rfl rfl) rfl rfl rfl ?_
 rintro _ _ ⟨b3,rfl,rfl⟩
 refine ent_op (ot_box (cs := [I a1_0,I a1_1]) rfl rfl) rfl rfl rfl ?_
 rintro _ _ ⟨b4,rfl,rfl⟩
 refine ent_value (ov_assign rfl) rfl rfl rfl (ent_nil (ent_seq (ent_seq (ent_region (ent_value (ov_load_agg (vs := C0_) rfl F_agg_24 F_size_24 (reads_boxW (i := 1) rfl)) rfl rfl rfl ?_)))))
 obtain ⟨x12,h12,H⟩ := Option.bind_eq_some_iff.1 H
 refine ent_op (ot_call0 (first := []) (cap := []) (xs := [.tmp 11]) rfl rfl F_call_37 rfl (policy_Check.spec a0_0 a0_1 a0_2 a0_3 a0_4 a0_5 a0_6 a0_7 a0_8 _ h12)) rfl rfl rfl ?_
 rintro _ _ ⟨rfl,rfl⟩
 refine ent_value (ov_bin rfl rfl (b_neq _ _ _)) rfl rfl rfl (ent_value (ov_move rfl) rfl rfl rfl ?_)
 refine htT H (fun c29 H => ?_) fun c29 H => ?_
 ·refine ent_off rfl rfl rfl (ne_t c29) rfl rfl ?_
  refine ent_off rfl rfl rfl (ne_t c29) rfl rfl ?_
  refine ent_value (ov_pick rfl rfl rfl (pick_t (ne_t c29))) rfl rfl rfl (ent_value (ov_move rfl) rfl rfl rfl ?_)
  refine ent_off rfl rfl rfl rfl rfl rfl ?_
  refine ent_off rfl rfl rfl rfl rfl rfl ?_
  refine ent_value (ov_pick rfl rfl rfl rfl) rfl rfl rfl (ent_value (ov_move rfl) rfl rfl rfl ?_)
  refine ent_off rfl rfl rfl rfl rfl rfl ?_
  refine ent_off rfl rfl rfl rfl rfl rfl ?_
  refine ent_value (ov_pick rfl rfl rfl rfl) rfl rfl rfl (ent_value (ov_move rfl) rfl rfl rfl ?_)
  refine ent_off rfl rfl rfl rfl rfl rfl ?_
  refine ent_off rfl rfl rfl rfl rfl rfl ?_
  refine ent_value (ov_pick rfl rfl rfl rfl) rfl rfl rfl (ent_value (ov_move rfl) rfl rfl rfl ?_)
  refine ent_off rfl rfl rfl rfl rfl rfl ?_
  refine ent_off rfl rfl rfl rfl rfl rfl ?_
  refine ent_off rfl rfl rfl rfl rfl rfl ?_
  refine ent_value (ov_pick rfl rfl rfl rfl) rfl rfl rfl (ent_nil (ent_cond_true rfl rfl (ent_seq (ent_region (ent_value (ov_assign rfl) rfl rfl rfl (ent_nil (ent_retc ?_)))))))
  cases H
  refine ent_pick [] (by decide) rfl ?_
  exact ret_tmp rfl rfl ⟨rfl,rfl⟩
 refine ent_value_on (ov_move rfl) rfl rfl rfl (ne_f c29) rfl rfl ?_
 refine ent_value_on (ov_bin rfl rfl (b_lss _ _ _)) rfl rfl rfl (ne_f c29) rfl rfl ?_
 refine ent_value (ov_pick rfl rfl rfl (pick_f (ne_f c29))) rfl rfl rfl (ent_value (ov_move rfl) rfl rfl rfl ?_)
 refine htT H (fun c30 H => ?_) fun c30 H => ?_
 ·refine ent_off rfl rfl rfl (decide_eq_true c30) rfl rfl ?_
  refine ent_off rfl rfl rfl (decide_eq_true c30) rfl rfl ?_
  refine ent_value (ov_pick rfl rfl rfl (pick_t (decide_eq_true c30))) rfl rfl rfl (ent_value (ov_move rfl) rfl rfl rfl ?_)
  refine ent_off rfl rfl rfl rfl rfl rfl ?_
  refine ent_off rfl rfl rfl rfl rfl rfl ?_
  refine ent_value (ov_pick rfl rfl rfl rfl) rfl rfl rfl (ent_value (ov_move rfl) rfl rfl rfl ?_)
  refine ent_off rfl rfl rfl rfl rfl rfl ?_
  refine ent_off rfl rfl rfl rfl rfl rfl ?_
  refine ent_value (ov_pick rfl rfl rfl rfl) rfl rfl rfl (ent_value (ov_move rfl) rfl rfl rfl ?_)
  refine ent_off rfl rfl rfl rfl rfl rfl ?_
  refine ent_off rfl rfl rfl rfl rfl rfl ?_
  refine ent_off rfl rfl rfl rfl rfl rfl ?_
  refine ent_value (ov_pick rfl rfl rfl rfl) rfl rfl rfl (ent_nil (ent_cond_true rfl rfl (ent_seq (ent_region (ent_value (ov_assign rfl) rfl rfl rfl (ent_nil (ent_retc ?_)))))))
  cases H
  refine ent_pick [] (by decide) rfl ?_
  exact ret_tmp rfl rfl ⟨rfl,rfl⟩
 refine ent_value_on (ov_move rfl) rfl rfl rfl (decide_eq_false c30) rfl rfl ?_
 refine ent_value_on (ov_bin rfl rfl (b_gtr _ _ _)) rfl rfl rfl (decide_eq_false c30) rfl rfl ?_
 refine ent_value (ov_pick rfl rfl rfl (pick_f (decide_eq_false c30))) rfl rfl rfl (ent_value (ov_move rfl) rfl rfl rfl ?_)
 refine htT H (fun c31 H => ?_) fun c31 H => ?_
 ·refine ent_off rfl rfl rfl (decide_eq_true c31) rfl rfl ?_
  refine ent_off rfl rfl rfl (decide_eq_true c31) rfl rfl ?_
  refine ent_value (ov_pick rfl rfl rfl (pick_t (decide_eq_true c31))) rfl rfl rfl (ent_value (ov_move rfl) rfl rfl rfl ?_)
  refine ent_off rfl rfl rfl rfl rfl rfl ?_
  refine ent_off rfl rfl rfl rfl rfl rfl ?_
  refine ent_value (ov_pick rfl rfl rfl rfl) rfl rfl rfl (ent_value (ov_move rfl) rfl rfl rfl ?_)
  refine ent_off rfl rfl rfl rfl rfl rfl ?_
  refine ent_off rfl rfl rfl rfl rfl rfl ?_
  refine ent_off rfl rfl rfl rfl rfl rfl ?_
  refine ent_value (ov_pick rfl rfl rfl rfl) rfl rfl rfl (ent_nil (ent_cond_true rfl rfl (ent_seq (ent_region (ent_value (ov_assign rfl) rfl rfl rfl (ent_nil (ent_retc ?_)))))))
  cases H
  refine ent_pick [] (by decide) rfl ?_
  exact ret_tmp rfl rfl ⟨rfl,rfl⟩
 refine ent_value_on (ov_move rfl) rfl rfl rfl (decide_eq_false c31) rfl rfl ?_
 refine ent_value_on (ov_bin rfl rfl (b_lss _ _ _)) rfl rfl rfl (decide_eq_false c31) rfl rfl ?_
 refine ent_value (ov_pick rfl rfl rfl (pick_f (decide_eq_false c31))) rfl rfl rfl (ent_value (ov_move rfl) rfl rfl rfl ?_)
 refine htT H (fun c32 H => ?_) fun c32 H => ?_
 ·refine ent_off rfl rfl rfl (decide_eq_true c32) rfl rfl ?_
  refine ent_off rfl rfl rfl (decide_eq_true c32) rfl rfl ?_
  refine ent_value (ov_pick rfl rfl rfl (pick_t (decide_eq_true c32))) rfl rfl rfl (ent_value (ov_move rfl) rfl rfl rfl ?_)
  refine ent_off rfl rfl rfl rfl rfl rfl ?_
  refine ent_off rfl rfl rfl rfl rfl rfl ?_
  refine ent_off rfl rfl rfl rfl rfl rfl ?_
  refine ent_value (ov_pick rfl rfl rfl rfl) rfl rfl rfl (ent_nil (ent_cond_true rfl rfl (ent_seq (ent_region (ent_value (ov_assign rfl) rfl rfl rfl (ent_nil (ent_retc ?_)))))))
  cases H
  refine ent_pick [] (by decide) rfl ?_
  exact ret_tmp rfl rfl ⟨rfl,rfl⟩
 refine ent_value_on (ov_move rfl) rfl rfl rfl (decide_eq_false c32) rfl rfl ?_
 refine ent_value_on (ov_bin rfl rfl (b_gtr _ _ _)) rfl rfl rfl (decide_eq_false c32) rfl rfl ?_
 refine ent_value (ov_pick rfl rfl rfl (pick_f (decide_eq_false c32))) rfl rfl rfl (ent_value (ov_move rfl) rfl rfl rfl ?_)
 refine htT H (fun c33 H => ?_) fun c33 H => ?_
 ·refine ent_off rfl rfl rfl (decide_eq_true c33) rfl rfl ?_
  refine ent_off rfl rfl rfl (decide_eq_true c33) rfl rfl ?_
  refine ent_off rfl rfl rfl (decide_eq_true c33) rfl rfl ?_
  refine ent_value (ov_pick rfl rfl rfl (pick_t (decide_eq_true c33))) rfl rfl rfl (ent_nil (ent_cond_true rfl rfl (ent_seq (ent_region (ent_value (ov_assign rfl) rfl rfl rfl (ent_nil (ent_retc ?_)))))))
  cases H
  refine ent_pick [] (by decide) rfl ?_
  exact ret_tmp rfl rfl ⟨rfl,rfl⟩
 refine ent_value_on (ov_load_agg (vs := [I a1_0,I a1_1]) rfl F_agg_40 F_size_40 (reads_boxW (i := 0) rfl)) rfl rfl rfl (decide_eq_false c33) rfl rfl ?_
 obtain ⟨x13,h13,H⟩ := thn_elim H
 refine ent_op_on (ot_call0 (first := []) (cap := []) (xs := [.tmp 31]) rfl rfl F_call_46 rfl (part_Right.spec a1_0 a1_1 _ h13)) rfl rfl rfl (decide_eq_false c33) rfl rfl ?_
 rintro _ _ ⟨rfl,rfl⟩
 refine ent_value_on (ov_un rfl (u_not _)) rfl rfl rfl (decide_eq_false c33) rfl rfl ?_
 refine ent_value (ov_pick rfl rfl rfl (pick_f (decide_eq_false c33))) rfl rfl rfl (ent_nil ?_)
 refine htT H (fun c34 H => ?_) fun c34 H => ?_
 ·refine ent_cond_true rfl c34 (ent_seq (ent_region (ent_value (ov_assign rfl) rfl rfl rfl (ent_nil (ent_retc ?_)))))
  cases H
  refine ent_pick [] (by decide) rfl ?_
  exact ret_tmp rfl rfl ⟨rfl,rfl⟩
 refine ent_cond_false rfl (Bool.eq_false_iff.2 c34) (ent_skip (ent_seq (ent_region (ent_value (ov_load_agg (vs := [I a1_0,I a1_1]) rfl F_agg_40 F_size_40 (reads_boxW (i := 0) rfl)) rfl rfl rfl ?_))))
 obtain ⟨x14,h14,H⟩ := thn_elim H
 refine ent_op (ot_call0 (first := []) (cap := []) (xs := [.tmp 36]) rfl rfl F_call_47 rfl (part_Span.spec a1_0 a1_1 _ h14)) rfl rfl rfl ?_
 rintro _ _ ⟨rfl,rfl⟩
 refine ent_value (ov_move rfl) rfl rfl rfl (ent_value (ov_extract rfl rfl) rfl rfl rfl (ent_value (ov_extract rfl rfl) rfl rfl rfl (ent_value (ov_assign rfl) rfl rfl rfl (ent_value (ov_assign rfl) rfl rfl rfl (ent_nil (ent_seq (ent_block (ent_seq (ent_region (ent_value (ov_move rfl) rfl rfl rfl (ent_value (ov_move rfl) rfl rfl rfl ?_)))))))))))
 refine ent_value (ov_bin rfl rfl (b_leq _ _ _)) rfl rfl rfl (ent_value (ov_assign rfl) rfl rfl rfl (ent_nil ?_))
 refine htT H (fun c40 H => ?_) fun c40 H => ?_
 ·refine ent_cond_true rfl (decide_eq_true c40) (ent_seq (ent_region (ent_value (ov_assign rfl) rfl rfl rfl (ent_nil (ent_retc ?_)))))
  cases H
  refine ent_pick [] (by decide) rfl ?_
  exact ret_tmp rfl rfl ⟨rfl,rfl⟩
 refine ent_cond_false rfl (decide_eq_false c40) (ent_seq (ent_region (ent_value (ov_fieldAddr (sz := 0) (o := 0) rfl F_field_40_0 F_size_3) rfl rfl rfl (ent_value (ov_load (v := (I a1_0)) rfl F_agg_3 (reads_box1 (i := 0) rfl rfl)) rfl rfl rfl (ent_value (ov_bin rfl rfl (b_eql _ _ _)) rfl rfl rfl (ent_value (ov_move rfl) rfl rfl rfl ?_))))))
 refine htF H (fun c41 H => ?_) fun c41 H => ?_
 ·refine ent_off rfl rfl rfl (eq_f c41) rfl rfl ?_
  refine ent_off rfl rfl rfl (eq_f c41) rfl rfl ?_
  refine ent_off rfl rfl rfl (eq_f c41) rfl rfl ?_
  refine ent_off rfl rfl rfl (eq_f c41) rfl rfl ?_
  refine ent_off rfl rfl rfl (eq_f c41) rfl rfl ?_
  refine ent_off rfl rfl rfl (eq_f c41) rfl rfl ?_
  refine ent_value (ov_pick rfl rfl rfl (pick_f (eq_f c41))) rfl rfl rfl (ent_value (ov_assign rfl) rfl rfl rfl (ent_nil (ent_cond_false rfl rfl (ent_seq (ent_region (ent_value (ov_load_agg (vs := [I a1_0,I a1_1]) rfl F_agg_40 F_size_40 (reads_boxW (i := 0) rfl)) rfl rfl rfl (ent_value (ov_load_agg (vs := C0_) rfl F_agg_24 F_size_24 (reads_boxW (i := 1) rfl)) rfl rfl rfl (ent_value (ov_move rfl) rfl rfl rfl ?_))))))))
  obtain ⟨x18,h18,H⟩ := Option.bind_eq_some_iff.1 H
  refine ent_op (ot_call0 (first := []) (cap := []) (xs := [.tmp 57,.tmp 58,.tmp 59]) rfl rfl F_call_48 rfl (part_Due.spec a1_0 a1_1 a0_0 a0_1 a0_2 a0_3 a0_4 a0_5 a0_6 a0_7 a0_8 a2 _ h18)) rfl rfl rfl ?_
  rintro _ _ ⟨rfl,rfl⟩
  refine ent_value (ov_assign rfl) rfl rfl rfl (ent_nil ?_)
  refine htT H (fun c44 H => ?_) fun c44 H => ?_
  ·refine ent_cond_true rfl c44 (ent_seq (ent_region (ent_value (ov_assign rfl) rfl rfl rfl (ent_nil (ent_retc ?_)))))
   cases H
   refine ent_pick [] (by decide) rfl ?_
   exact ret_tmp rfl rfl ⟨rfl,rfl⟩
  refine ent_cond_false rfl (Bool.eq_false_iff.2 c44) (ent_skip (ent_seq (ent_region (ent_value (ov_assign rfl) rfl rfl rfl (ent_nil (ent_retc ?_))))))
  cases H
  refine ent_pick [] (by decide) rfl ?_
  exact ret_tmp rfl rfl ⟨rfl,rfl⟩
 refine ent_value_on (ov_move rfl) rfl rfl rfl (eq_t c41) rfl rfl ?_
 refine ent_value_on (ov_move rfl) rfl rfl rfl (eq_t c41) rfl rfl ?_
 refine ent_value_on (ov_bin rfl rfl (b_sub _ _ _) ) rfl rfl rfl (eq_t c41) rfl rfl ?_
 refine ent_value_on (ov_fieldAddr (sz := 0) (o := 0) rfl F_field_24_4 F_size_2) rfl rfl rfl (eq_t c41) rfl rfl ?_
 refine ent_value_on (ov_load (v := (I a0_4)) rfl F_agg_2 (reads_box1 (i := 1) rfl rfl)) rfl rfl rfl (eq_t c41) rfl rfl ?_
 refine ent_value_on (ov_bin rfl rfl (b_geq _ _ _)) rfl rfl rfl (eq_t c41) rfl rfl ?_
 refine ent_value (ov_pick rfl rfl rfl (pick_t (eq_t c41))) rfl rfl rfl (ent_value (ov_assign rfl) rfl rfl rfl (ent_nil ?_))
 refine htT H (fun c42 H => ?_) fun c42 H => ?_
 ·refine ent_cond_true rfl (decide_eq_true c42) (ent_seq (ent_region (ent_value (ov_assign rfl) rfl rfl rfl (ent_nil (ent_retc ?_)))))
  cases H
  refine ent_pick [] (by decide) rfl ?_
  exact ret_tmp rfl rfl ⟨rfl,rfl⟩
 refine ent_cond_false rfl (decide_eq_false c42) (ent_seq (ent_region (ent_value (ov_load_agg (vs := [I a1_0,I a1_1]) rfl F_agg_40 F_size_40 (reads_boxW (i := 0) rfl)) rfl rfl rfl (ent_value (ov_load_agg (vs := C0_) rfl F_agg_24 F_size_24 (reads_boxW (i := 1) rfl)) rfl rfl rfl (ent_value (ov_move rfl) rfl rfl rfl ?_)))))
 obtain ⟨x17,h17,H⟩ := Option.bind_eq_some_iff.1 H
 refine ent_op (ot_call0 (first := []) (cap := []) (xs := [.tmp 57,.tmp 58,.tmp 59]) rfl rfl F_call_48 rfl (part_Due.spec a1_0 a1_1 a0_0 a0_1 a0_2 a0_3 a0_4 a0_5 a0_6 a0_7 a0_8 a2 _ h17)) rfl rfl rfl ?_
 rintro _ _ ⟨rfl,rfl⟩
 refine ent_value (ov_assign rfl) rfl rfl rfl (ent_nil ?_)
 refine htT H (fun c43 H => ?_) fun c43 H => ?_
 ·refine ent_cond_true rfl c43 (ent_seq (ent_region (ent_value (ov_assign rfl) rfl rfl rfl (ent_nil (ent_retc ?_)))))
  cases H
  refine ent_pick [] (by decide) rfl ?_
  exact ret_tmp rfl rfl ⟨rfl,rfl⟩
 refine ent_cond_false rfl (Bool.eq_false_iff.2 c43) (ent_skip (ent_seq (ent_region (ent_value (ov_assign rfl) rfl rfl rfl (ent_nil (ent_retc ?_))))))
 cases H
 refine ent_pick [] (by decide) rfl ?_
 exact ret_tmp rfl rfl ⟨rfl,rfl⟩

theorem ossuarylaw40_rank.spec (a0 : List UInt8) (r : Int) (H : ossuarylaw40_rank a0 = r) : FnSpec Try.prog 21 [str a0] [] (fun v M => v = (I r) ∧ M = []) := by
 unfold ossuarylaw40_rank at H
 refine spec_of Try.func21 rfl 12 rfl (Nat.le_of_ble_eq_true rfl) fun F w0 => ?_
 show Ent (St 12 w0 F [(0,str a0)] []) _
 refine ent_seq (ent_region (ent_value (ov_assign rfl) rfl rfl rfl (ent_nil (ent_seq (ent_seq (ent_region (ent_value (ov_move rfl) rfl rfl rfl (ent_nil (ent_block (ent_seq (ent_region ?_)))))))))))
 refine ent_value (ov_bin rfl rfl (b_eql_str _ _)) rfl rfl rfl (ent_value (ov_assign rfl) rfl rfl rfl (ent_nil ?_))
 refine htT H (fun c13 H => ?_) fun c13 H => ?_
 ·refine ent_cond_true rfl (eq_t c13) (ent_seq (ent_region (ent_value (ov_assign rfl) rfl rfl rfl (ent_nil (ent_retc ?_)))))
  cases H
  refine ent_pick [] (by decide) rfl ?_
  exact ret_tmp rfl rfl ⟨rfl,rfl⟩
 refine ent_cond_false rfl (eq_f c13) (ent_seq (ent_region (ent_value (ov_bin rfl rfl (b_eql_str _ _)) rfl rfl rfl (ent_value (ov_assign rfl) rfl rfl rfl (ent_nil ?_)))))
 refine htT H (fun c14 H => ?_) fun c14 H => ?_
 ·refine ent_cond_true rfl (eq_t c14) (ent_seq (ent_region (ent_value (ov_assign rfl) rfl rfl rfl (ent_nil (ent_retc ?_)))))
  cases H
  refine ent_pick [] (by decide) rfl ?_
  exact ret_tmp rfl rfl ⟨rfl,rfl⟩
 refine ent_cond_false rfl (eq_f c14) (ent_seq (ent_region (ent_value (ov_bin rfl rfl (b_eql_str _ _)) rfl rfl rfl (ent_value (ov_assign rfl) rfl rfl rfl (ent_nil ?_)))))
 refine htT H (fun c15 H => ?_) fun c15 H => ?_
 ·refine ent_cond_true rfl (eq_t c15) (ent_seq (ent_region (ent_value (ov_assign rfl) rfl rfl rfl (ent_nil (ent_retc ?_)))))
  cases H
  refine ent_pick [] (by decide) rfl ?_
  exact ret_tmp rfl rfl ⟨rfl,rfl⟩
 refine ent_cond_false rfl (eq_f c15) (ent_seq (ent_region (ent_value (ov_bin rfl rfl (b_eql_str _ _)) rfl rfl rfl (ent_value (ov_assign rfl) rfl rfl rfl (ent_nil ?_)))))
 refine htT H (fun c16 H => ?_) fun c16 H => ?_
 ·refine ent_cond_true rfl (eq_t c16) (ent_seq (ent_region (ent_value (ov_assign rfl) rfl rfl rfl (ent_nil (ent_retc ?_)))))
  cases H
  refine ent_pick [] (by decide) rfl ?_
  exact ret_tmp rfl rfl ⟨rfl,rfl⟩
 refine ent_cond_false rfl (eq_f c16) (ent_skip (ent_seq (ent_region (ent_value (ov_assign rfl) rfl rfl rfl (ent_nil (ent_retc ?_))))))
 cases H
 refine ent_pick [] (by decide) rfl ?_
 exact ret_tmp rfl rfl ⟨rfl,rfl⟩

theorem ossuarylaw40_SheetBack.spec (K : Nat) (a0_0 a0_1 : Int) (a0_2 a0_3 : Int) (a0_4 a0_5 : Int) (a0_6 a0_7 a0_8 : Int) (a1 : List UInt8) (a2_0 a2_1 : Int) (a3 a4 : Int) (r : Bool) (H : ossuarylaw40_SheetBack K a0_0 a0_1 a0_2 a0_3 a0_4 a0_5 a0_6 a0_7 a0_8 a1 a2_0 a2_1 a3 a4 = some r) : FnSpec Try.prog 6 [agg #[I a0_0,I a0_1,I a0_2,I a0_3,I a0_4,I a0_5,I a0_6,I a0_7,I a0_8],str a1,agg #[I a2_0,I a2_1],I a3,I a4] [] (fun v M => v = (bool r) ∧ M = []) := by
 unfold ossuarylaw40_SheetBack at H
 refine spec_of Try.func6 rfl 122 rfl (Nat.le_of_ble_eq_true rfl) fun F w0 => ?_
 let C1_ : List Value := [I a0_0,I a0_1,I a0_2,I a0_3,I a0_4,I a0_5,I a0_6,I a0_7,I a0_8]
 show Ent (St 122 w0 F [(0,agg #[I a0_0,I a0_1,I a0_2,I a0_3,I a0_4,I a0_5,I a0_6,I a0_7,I a0_8]),(1,str a1),(2,agg #[I a2_0,I a2_1]),(3,I a3),(4,I a4)] []) _
 refine ent_seq (ent_region ?_)
 refine ent_op (ot_box (cs := C1_) rfl rfl) rfl rfl rfl ?_
 rintro _ _ ⟨b8,rfl,rfl⟩
 refine ent_op (ot_box (cs := [I a2_0,I a2_1]) rfl rfl) rfl rfl rfl ?_
 rintro _ _ ⟨b9,rfl,rfl⟩
 refine ent_value (ov_assign rfl) rfl rfl rfl (ent_nil (ent_seq (ent_seq (ent_region (ent_value (ov_move rfl) rfl rfl rfl (ent_value (ov_lenS rfl Try.underlying9) rfl rfl rfl (ent_value (ov_bin rfl rfl (b_gtr _ _ _)) rfl rfl rfl (ent_nil ?_))))))))
 refine htT H (fun c31 H => ?_) fun c31 H => ?_
 ·refine ent_cond_true rfl (decide_eq_true c31) (ent_seq (ent_region ?_))
  obtain ⟨x29,h27,H⟩ := Option.bind_eq_some_iff.1 H
  refine ent_op (ot_call0 (first := []) (cap := []) (xs := []) rfl rfl F_call_8 rfl (ossuarylaw40_alive.spec K _ h27)) rfl rfl rfl ?_
  rintro _ _ ⟨rfl,rfl⟩
  refine ent_value (ov_assign rfl) rfl rfl rfl (ent_nil (ent_retc ?_))
  cases H
  refine ent_pick [] (by decide) rfl ?_
  exact ret_tmp rfl rfl ⟨rfl,rfl⟩
 refine ent_cond_false rfl (decide_eq_false c31) (ent_skip (ent_seq (ent_region (ent_value (ov_load_agg (vs := C1_) rfl F_agg_24 F_size_24 (reads_boxW (i := 1) rfl)) rfl rfl rfl ?_))))
 obtain ⟨x30,h28,H⟩ := Option.bind_eq_some_iff.1 H
 refine ent_op (ot_call0 (first := []) (cap := []) (xs := [.tmp 28]) rfl rfl F_call_11 rfl (sheet_Text.spec K a0_0 a0_1 a0_2 a0_3 a0_4 a0_5 a0_6 a0_7 a0_8 _ h28)) rfl rfl rfl ?_
 rintro _ _ ⟨rfl,rfl⟩
 refine ent_value (ov_move rfl) rfl rfl rfl (ent_value (ov_extract rfl rfl) rfl rfl rfl (ent_value (ov_extract rfl rfl) rfl rfl rfl (ent_value (ov_assign rfl) rfl rfl rfl (ent_value (ov_assign rfl) rfl rfl rfl (ent_nil ?_)))))
 obtain ⟨x33,H9,H⟩ := Option.bind_eq_some_iff.1 H
 refine ent_seq_cut (fun a w => ∃ v3,x33 = Sum.inl v3 ∧ ∃ b11 : Nat,∃ b12 : Nat,St 122 w0 F [(1,str a1),(3,I a3),(4,I a4),(5,pt b11 0),(7,pt b12 0)] [box b11 24 C1_,box b12 40 [I a2_0,I a2_1]] a w) ?_ ?_
 ·refine ent_seq (ent_region (ent_value (ov_move rfl) rfl rfl rfl (ent_value (ov_bin rfl rfl (b_eql _ _ _)) rfl rfl rfl (ent_nil ?_))))
  refine htF H9 (fun c37 H9 => ?_) fun c37 H9 => ?_
  ·refine ent_cond_false rfl (eq_f c37) (ent_skip ?_)
   cases H9
   exact ent_fin [1,0] (by decide) rfl (sub_cons (t := 1) rfl (sub_cons (t := 3) rfl (sub_cons (t := 4) rfl (sub_cons (t := 5) rfl (sub_cons (t := 7) rfl (sub_nil _)))))) fun a w h => ⟨_,rfl,_,_,h⟩
  refine ent_cond_true rfl (eq_t c37) (ent_seq (ent_region (ent_value (ov_move rfl) rfl rfl rfl ?_)))
  obtain ⟨x34,h31,H9⟩ := Option.bind_eq_some_iff.1 H9
  let C0_ : List Value := [I x34.2.1,I x34.2.2.1,I x34.2.2.2.1,I x34.2.2.2.2.1,I x34.2.2.2.2.2.1,I x34.2.2.2.2.2.2.1,I x34.2.2.2.2.2.2.2.1,I x34.2.2.2.2.2.2.2.2.1,I x34.2.2.2.2.2.2.2.2.2.1]
  refine ent_op (ot_call0 (first := []) (cap := []) (xs := [.tmp 35]) rfl rfl F_call_9 rfl (sheet_Read.spec K x30.1 _ h31)) rfl rfl rfl ?_
  rintro _ _ ⟨rfl,rfl⟩
  refine ent_value (ov_move rfl) rfl rfl rfl (ent_value (ov_extract rfl rfl) rfl rfl rfl (ent_value (ov_extract rfl rfl) rfl rfl rfl (ent_value (ov_extract rfl rfl) rfl rfl rfl ?_)))
  refine ent_op (ot_alloc F_zero_24) rfl rfl rfl ?_
  rintro _ _ ⟨b13,rfl,rfl⟩
  refine ent_op0 (ot_storeG (cs := [I 0,I 0,I 0,I 0,I 0,I 0,I 0,I 0,I 0]) (cs' := C0_) (us := C0_) (L' := [box b13 24 C0_,box b9 40 [I a2_0,I a2_1],box b8 24 C1_]) 0 rfl rfl rfl (one_all rfl) F_size_24 rfl rfl (by simp [C1_,C0_]) rfl) rfl rfl ?_
  rintro _ _ rfl
  refine ent_value (ov_assign rfl) rfl rfl rfl (ent_value (ov_assign rfl) rfl rfl rfl (ent_nil (ent_seq (ent_region (ent_value (ov_move rfl) rfl rfl rfl (ent_value (ov_bin rfl rfl (b_neq _ _ _)) rfl rfl rfl (ent_value (ov_move rfl) rfl rfl rfl ?_)))))))
  refine htT H9 (fun c38 H9 => ?_) fun c38 H9 => ?_
  ·refine ent_off rfl rfl rfl (ne_t c38) rfl rfl ?_
   refine ent_off rfl rfl rfl (ne_t c38) rfl rfl ?_
   refine ent_value (ov_pick rfl rfl rfl (pick_t (ne_t c38))) rfl rfl rfl (ent_value (ov_move rfl) rfl rfl rfl ?_)
   refine ent_off rfl rfl rfl rfl rfl rfl ?_
   refine ent_off rfl rfl rfl rfl rfl rfl ?_
   refine ent_off rfl rfl rfl rfl rfl rfl ?_
   refine ent_value (ov_pick rfl rfl rfl rfl) rfl rfl rfl (ent_value (ov_move rfl) rfl rfl rfl ?_)
   refine ent_off rfl rfl rfl rfl rfl rfl ?_
   refine ent_off rfl rfl rfl rfl rfl rfl ?_
   refine ent_off rfl rfl rfl rfl rfl rfl ?_
   refine ent_off rfl rfl rfl rfl rfl rfl ?_
   refine ent_off rfl rfl rfl rfl rfl rfl ?_
   refine ent_value (ov_pick rfl rfl rfl rfl) rfl rfl rfl (ent_nil (ent_cond_true rfl rfl (ent_seq (ent_region (ent_value (ov_assign rfl) rfl rfl rfl (ent_nil (ent_retc ?_)))))))
   cases H9
   have H10 := Option.some.inj (show some _ = some _ from H)
   cases H10
   refine ent_pick [] (by decide) rfl ?_
   exact ret_tmp rfl rfl ⟨rfl,rfl⟩
  refine ent_value_on (ov_move rfl) rfl rfl rfl (ne_f c38) rfl rfl ?_
  refine ent_value_on (ov_bin rfl rfl (b_neq _ _ _)) rfl rfl rfl (ne_f c38) rfl rfl ?_
  refine ent_value (ov_pick rfl rfl rfl (pick_f (ne_f c38))) rfl rfl rfl (ent_value (ov_move rfl) rfl rfl rfl ?_)
  refine htT H9 (fun c39 H9 => ?_) fun c39 H9 => ?_
  ·refine ent_off rfl rfl rfl (ne_t c39) rfl rfl ?_
   refine ent_off rfl rfl rfl (ne_t c39) rfl rfl ?_
   refine ent_off rfl rfl rfl (ne_t c39) rfl rfl ?_
   refine ent_value (ov_pick rfl rfl rfl (pick_t (ne_t c39))) rfl rfl rfl (ent_value (ov_move rfl) rfl rfl rfl ?_)
   refine ent_off rfl rfl rfl rfl rfl rfl ?_
   refine ent_off rfl rfl rfl rfl rfl rfl ?_
   refine ent_off rfl rfl rfl rfl rfl rfl ?_
   refine ent_off rfl rfl rfl rfl rfl rfl ?_
   refine ent_off rfl rfl rfl rfl rfl rfl ?_
   refine ent_value (ov_pick rfl rfl rfl rfl) rfl rfl rfl (ent_nil (ent_cond_true rfl rfl (ent_seq (ent_region (ent_value (ov_assign rfl) rfl rfl rfl (ent_nil (ent_retc ?_)))))))
   cases H9
   have H11 := Option.some.inj (show some _ = some _ from H)
   cases H11
   refine ent_pick [] (by decide) rfl ?_
   exact ret_tmp rfl rfl ⟨rfl,rfl⟩
  refine ent_value_on (ov_load_agg (vs := C1_) rfl F_agg_24 F_size_24 (reads_boxW (i := 2) rfl)) rfl rfl rfl (ne_f c39) rfl rfl ?_
  refine ent_value_on (ov_load_agg (vs := C0_) rfl F_agg_24 F_size_24 (reads_boxW (i := 0) rfl)) rfl rfl rfl (ne_f c39) rfl rfl ?_
  refine ent_value_on (ov_bin rfl rfl (same_24_n _ _ _ _ _ _ _ _ _ _ _ _ _ _ _ _ _ _)) rfl rfl rfl (ne_f c39) rfl rfl ?_
  refine ent_value (ov_pick rfl rfl rfl (pick_f (ne_f c39))) rfl rfl rfl (ent_value (ov_move rfl) rfl rfl rfl ?_)
  refine htT H9 (fun c40 H9 => ?_) fun c40 H9 => ?_
  ·refine ent_off rfl rfl rfl c40 rfl rfl ?_
   refine ent_off rfl rfl rfl c40 rfl rfl ?_
   refine ent_off rfl rfl rfl c40 rfl rfl ?_
   refine ent_off rfl rfl rfl c40 rfl rfl ?_
   refine ent_off rfl rfl rfl c40 rfl rfl ?_
   refine ent_value (ov_pick rfl rfl rfl (pick_t c40)) rfl rfl rfl (ent_nil (ent_cond_true rfl rfl (ent_seq (ent_region (ent_value (ov_assign rfl) rfl rfl rfl (ent_nil (ent_retc ?_)))))))
   cases H9
   have H12 := Option.some.inj (show some _ = some _ from H)
   cases H12
   refine ent_pick [] (by decide) rfl ?_
   exact ret_tmp rfl rfl ⟨rfl,rfl⟩
  refine ent_value_on (ov_load_agg (vs := C1_) rfl F_agg_24 F_size_24 (reads_boxW (i := 2) rfl)) rfl rfl rfl (Bool.eq_false_iff.2 c40) rfl rfl ?_
  refine ent_value_on (ov_load_agg (vs := C0_) rfl F_agg_24 F_size_24 (reads_boxW (i := 0) rfl)) rfl rfl rfl (Bool.eq_false_iff.2 c40) rfl rfl ?_
  obtain ⟨x35,h32,H9⟩ := Option.bind_eq_some_iff.1 H9
  refine ent_op_on (ot_call (Lr := [box b13 24 C0_,box b9 40 [I a2_0,I a2_1],box b8 24 C1_]) (first := []) (cap := []) (xs := [.tmp 52,.tmp 53]) rfl rfl F_call_18 rfl (sheet_Differ.spec a0_0 a0_1 a0_2 a0_3 a0_4 a0_5 a0_6 a0_7 a0_8 x34.2.1 x34.2.2.1 x34.2.2.2.1 x34.2.2.2.2.1 x34.2.2.2.2.2.1 x34.2.2.2.2.2.2.1 x34.2.2.2.2.2.2.2.1 x34.2.2.2.2.2.2.2.2.1 x34.2.2.2.2.2.2.2.2.2.1 _ h32) rfl) rfl rfl rfl (Bool.eq_false_iff.2 c40) rfl rfl ?_
  rintro sv4 _ ⟨_,⟨_,rfl,rfl⟩,rfl⟩
  refine ent_value_on (ov_len 0 rfl F_slice_32 rfl (isRd_ownx 9)) rfl rfl rfl (Bool.eq_false_iff.2 c40) rfl rfl ?_
  refine ent_value_on (ov_bin rfl rfl (b_neq _ _ _)) rfl rfl rfl (Bool.eq_false_iff.2 c40) rfl rfl ?_
  refine ent_value (ov_pick rfl rfl rfl (pick_f (Bool.eq_false_iff.2 c40))) rfl rfl rfl (ent_nil ?_)
  refine htF H9 (fun c41 H9 => ?_) fun c41 H9 => ?_
  ·refine ent_cond_false rfl (ne_f c41) (ent_skip ?_)
   cases H9
   exact ent_fin [3,2] (by decide) rfl (sub_cons (t := 1) rfl (sub_cons (t := 3) rfl (sub_cons (t := 4) rfl (sub_cons (t := 5) rfl (sub_cons (t := 7) rfl (sub_nil _)))))) fun a w h => ⟨_,rfl,_,_,h⟩
  refine ent_cond_true rfl (ne_t c41) (ent_seq (ent_region (ent_value (ov_assign rfl) rfl rfl rfl (ent_nil (ent_retc ?_)))))
  cases H9
  have H13 := Option.some.inj (show some _ = some _ from H)
  cases H13
  refine ent_pick [] (by decide) rfl ?_
  exact ret_tmp rfl rfl ⟨rfl,rfl⟩
 ·refine ent_exi fun v3 => ent_and fun e_ => ?_
  subst e_
  rw [cas_inl] at H
  refine ent_exi fun b11 => ent_exi fun b12 => ?_
  refine ent_seq (ent_region (ent_value (ov_move rfl) rfl rfl rfl ?_))
  obtain ⟨x36,h33,H⟩ := Option.bind_eq_some_iff.1 H
  let C2_ : List Value := [I x36.2.1,I x36.2.2.1,I x36.2.2.2.1,I x36.2.2.2.2.1,I x36.2.2.2.2.2.1,I x36.2.2.2.2.2.2.1,I x36.2.2.2.2.2.2.2.1,I x36.2.2.2.2.2.2.2.2.1,I x36.2.2.2.2.2.2.2.2.2.1]
  refine ent_op (ot_call0 (first := []) (cap := []) (xs := [.tmp 59]) rfl rfl F_call_9 rfl (sheet_Read.spec K a1 _ h33)) rfl rfl rfl ?_
  rintro _ _ ⟨rfl,rfl⟩
  refine ent_value (ov_move rfl) rfl rfl rfl (ent_value (ov_extract rfl rfl) rfl rfl rfl (ent_value (ov_extract rfl rfl) rfl rfl rfl (ent_value (ov_extract rfl rfl) rfl rfl rfl ?_)))
  refine ent_op (ot_alloc F_zero_24) rfl rfl rfl ?_
  rintro _ _ ⟨b14,rfl,rfl⟩
  refine ent_op0 (ot_storeG (cs := [I 0,I 0,I 0,I 0,I 0,I 0,I 0,I 0,I 0]) (cs' := C2_) (us := C2_) (L' := [box b14 24 C2_,box b11 24 C1_,box b12 40 [I a2_0,I a2_1]]) 0 rfl rfl rfl (one_all rfl) F_size_24 rfl rfl (by simp [C1_,C2_]) rfl) rfl rfl ?_
  rintro _ _ rfl
  refine ent_value (ov_assign rfl) rfl rfl rfl (ent_value (ov_assign rfl) rfl rfl rfl (ent_nil ?_))
  obtain ⟨x38,H14,H⟩ := Option.bind_eq_some_iff.1 H
  refine ent_seq_cut (fun a w => ∃ v4,x38 = Sum.inl v4 ∧ St 122 w0 F [(3,I a3),(4,I a4),(5,pt b11 0),(7,pt b12 0)] [box b11 24 C1_,box b12 40 [I a2_0,I a2_1]] a w) ?_ ?_
  ·refine ent_seq (ent_region (ent_value (ov_move rfl) rfl rfl rfl (ent_value (ov_bin rfl rfl (b_eql _ _ _)) rfl rfl rfl (ent_nil ?_))))
   refine htF H14 (fun c45 H14 => ?_) fun c45 H14 => ?_
   ·refine ent_cond_false rfl (eq_f c45) (ent_skip ?_)
    cases H14
    exact ent_fin [1,2] (by decide) rfl (sub_cons (t := 3) rfl (sub_cons (t := 4) rfl (sub_cons (t := 5) rfl (sub_cons (t := 7) rfl (sub_nil _))))) fun a w h => ⟨_,rfl,h⟩
   refine ent_cond_true rfl (eq_t c45) (ent_seq (ent_region (ent_value (ov_load_agg (vs := C2_) rfl F_agg_24 F_size_24 (reads_boxW (i := 0) rfl)) rfl rfl rfl ?_)))
   obtain ⟨x39,h35,H14⟩ := Option.bind_eq_some_iff.1 H14
   refine ent_op (ot_call0 (first := []) (cap := []) (xs := [.tmp 67]) rfl rfl F_call_11 rfl (sheet_Text.spec K x36.2.1 x36.2.2.1 x36.2.2.2.1 x36.2.2.2.2.1 x36.2.2.2.2.2.1 x36.2.2.2.2.2.2.1 x36.2.2.2.2.2.2.2.1 x36.2.2.2.2.2.2.2.2.1 x36.2.2.2.2.2.2.2.2.2.1 _ h35)) rfl rfl rfl ?_
   rintro _ _ ⟨rfl,rfl⟩
   refine ent_value (ov_move rfl) rfl rfl rfl (ent_value (ov_extract rfl rfl) rfl rfl rfl (ent_value (ov_extract rfl rfl) rfl rfl rfl (ent_value (ov_assign rfl) rfl rfl rfl (ent_value (ov_assign rfl) rfl rfl rfl (ent_nil (ent_seq (ent_region (ent_value (ov_move rfl) rfl rfl rfl (ent_value (ov_bin rfl rfl (b_neq _ _ _)) rfl rfl rfl (ent_value (ov_move rfl) rfl rfl rfl ?_))))))))))
   refine htT H14 (fun c46 H14 => ?_) fun c46 H14 => ?_
   ·refine ent_off rfl rfl rfl (ne_t c46) rfl rfl ?_
    refine ent_off rfl rfl rfl (ne_t c46) rfl rfl ?_
    refine ent_off rfl rfl rfl (ne_t c46) rfl rfl ?_
    refine ent_value (ov_pick rfl rfl rfl (pick_t (ne_t c46))) rfl rfl rfl (ent_nil (ent_cond_true rfl rfl (ent_seq (ent_region (ent_value (ov_assign rfl) rfl rfl rfl (ent_nil (ent_retc ?_)))))))
    cases H14
    have H15 := Option.some.inj (show some _ = some _ from H)
    cases H15
    refine ent_pick [] (by decide) rfl ?_
    exact ret_tmp rfl rfl ⟨rfl,rfl⟩
   refine ent_value_on (ov_move rfl) rfl rfl rfl (ne_f c46) rfl rfl ?_
   refine ent_value_on (ov_move rfl) rfl rfl rfl (ne_f c46) rfl rfl ?_
   refine ent_value_on (ov_bin rfl rfl (b_neq_str _ _)) rfl rfl rfl (ne_f c46) rfl rfl ?_
   refine ent_value (ov_pick rfl rfl rfl (pick_f (ne_f c46))) rfl rfl rfl (ent_nil ?_)
   refine htF H14 (fun c47 H14 => ?_) fun c47 H14 => ?_
   ·refine ent_cond_false rfl (nb_f c47) (ent_skip ?_)
    cases H14
    exact ent_fin [1,2] (by decide) rfl (sub_cons (t := 3) rfl (sub_cons (t := 4) rfl (sub_cons (t := 5) rfl (sub_cons (t := 7) rfl (sub_nil _))))) fun a w h => ⟨_,rfl,h⟩
   refine ent_cond_true rfl (nb_t c47) (ent_seq (ent_region (ent_value (ov_assign rfl) rfl rfl rfl (ent_nil (ent_retc ?_)))))
   cases H14
   have H16 := Option.some.inj (show some _ = some _ from H)
   cases H16
   refine ent_pick [] (by decide) rfl ?_
   exact ret_tmp rfl rfl ⟨rfl,rfl⟩
  ·refine ent_exi fun v4 => ent_and fun e_ => ?_
   subst e_
   rw [cas_inl] at H
   refine ent_seq (ent_seq (ent_region (ent_value (ov_move rfl) rfl rfl rfl (ent_value (ov_bin rfl rfl (b_lss _ _ _)) rfl rfl rfl (ent_value (ov_move rfl) rfl rfl rfl ?_)))))
   refine htT H (fun c53 H => ?_) fun c53 H => ?_
   ·refine ent_off rfl rfl rfl (decide_eq_true c53) rfl rfl ?_
    refine ent_off rfl rfl rfl (decide_eq_true c53) rfl rfl ?_
    refine ent_value (ov_pick rfl rfl rfl (pick_t (decide_eq_true c53))) rfl rfl rfl (ent_value (ov_move rfl) rfl rfl rfl ?_)
    refine ent_off rfl rfl rfl rfl rfl rfl ?_
    refine ent_off rfl rfl rfl rfl rfl rfl ?_
    refine ent_value (ov_pick rfl rfl rfl rfl) rfl rfl rfl (ent_value (ov_move rfl) rfl rfl rfl ?_)
    refine ent_off rfl rfl rfl rfl rfl rfl ?_
    refine ent_off rfl rfl rfl rfl rfl rfl ?_
    refine ent_value (ov_pick rfl rfl rfl rfl) rfl rfl rfl (ent_value (ov_move rfl) rfl rfl rfl ?_)
    refine ent_off rfl rfl rfl rfl rfl rfl ?_
    refine ent_off rfl rfl rfl rfl rfl rfl ?_
    refine ent_off rfl rfl rfl rfl rfl rfl ?_
    refine ent_value (ov_pick rfl rfl rfl rfl) rfl rfl rfl (ent_nil (ent_cond_true rfl rfl (ent_seq (ent_region ?_))))
    obtain ⟨x45,h41,H⟩ := Option.bind_eq_some_iff.1 H
    refine ent_op (ot_call0 (first := []) (cap := []) (xs := []) rfl rfl F_call_8 rfl (ossuarylaw40_alive.spec K _ h41)) rfl rfl rfl ?_
    rintro _ _ ⟨rfl,rfl⟩
    refine ent_value (ov_assign rfl) rfl rfl rfl (ent_nil (ent_retc ?_))
    cases H
    refine ent_pick [] (by decide) rfl ?_
    exact ret_tmp rfl rfl ⟨rfl,rfl⟩
   refine ent_value_on (ov_move rfl) rfl rfl rfl (decide_eq_false c53) rfl rfl ?_
   refine ent_value_on (ov_bin rfl rfl (b_gtr _ _ _)) rfl rfl rfl (decide_eq_false c53) rfl rfl ?_
   refine ent_value (ov_pick rfl rfl rfl (pick_f (decide_eq_false c53))) rfl rfl rfl (ent_value (ov_move rfl) rfl rfl rfl ?_)
   refine htT H (fun c54 H => ?_) fun c54 H => ?_
   ·refine ent_off rfl rfl rfl (decide_eq_true c54) rfl rfl ?_
    refine ent_off rfl rfl rfl (decide_eq_true c54) rfl rfl ?_
    refine ent_value (ov_pick rfl rfl rfl (pick_t (decide_eq_true c54))) rfl rfl rfl (ent_value (ov_move rfl) rfl rfl rfl ?_)
    refine ent_off rfl rfl rfl rfl rfl rfl ?_
    refine ent_off rfl rfl rfl rfl rfl rfl ?_
    refine ent_value (ov_pick rfl rfl rfl rfl) rfl rfl rfl (ent_value (ov_move rfl) rfl rfl rfl ?_)
    refine ent_off rfl rfl rfl rfl rfl rfl ?_
    refine ent_off rfl rfl rfl rfl rfl rfl ?_
    refine ent_off rfl rfl rfl rfl rfl rfl ?_
    refine ent_value (ov_pick rfl rfl rfl rfl) rfl rfl rfl (ent_nil (ent_cond_true rfl rfl (ent_seq (ent_region ?_))))
    obtain ⟨x46,h42,H⟩ := Option.bind_eq_some_iff.1 H
    refine ent_op (ot_call0 (first := []) (cap := []) (xs := []) rfl rfl F_call_8 rfl (ossuarylaw40_alive.spec K _ h42)) rfl rfl rfl ?_
    rintro _ _ ⟨rfl,rfl⟩
    refine ent_value (ov_assign rfl) rfl rfl rfl (ent_nil (ent_retc ?_))
    cases H
    refine ent_pick [] (by decide) rfl ?_
    exact ret_tmp rfl rfl ⟨rfl,rfl⟩
   refine ent_value_on (ov_move rfl) rfl rfl rfl (decide_eq_false c54) rfl rfl ?_
   refine ent_value_on (ov_bin rfl rfl (b_lss _ _ _)) rfl rfl rfl (decide_eq_false c54) rfl rfl ?_
   refine ent_value (ov_pick rfl rfl rfl (pick_f (decide_eq_false c54))) rfl rfl rfl (ent_value (ov_move rfl) rfl rfl rfl ?_)
   refine htT H (fun c55 H => ?_) fun c55 H => ?_
   ·refine ent_off rfl rfl rfl (decide_eq_true c55) rfl rfl ?_
    refine ent_off rfl rfl rfl (decide_eq_true c55) rfl rfl ?_
    refine ent_value (ov_pick rfl rfl rfl (pick_t (decide_eq_true c55))) rfl rfl rfl (ent_value (ov_move rfl) rfl rfl rfl ?_)
    refine ent_off rfl rfl rfl rfl rfl rfl ?_
    refine ent_off rfl rfl rfl rfl rfl rfl ?_
    refine ent_off rfl rfl rfl rfl rfl rfl ?_
    refine ent_value (ov_pick rfl rfl rfl rfl) rfl rfl rfl (ent_nil (ent_cond_true rfl rfl (ent_seq (ent_region ?_))))
    obtain ⟨x47,h43,H⟩ := Option.bind_eq_some_iff.1 H
    refine ent_op (ot_call0 (first := []) (cap := []) (xs := []) rfl rfl F_call_8 rfl (ossuarylaw40_alive.spec K _ h43)) rfl rfl rfl ?_
    rintro _ _ ⟨rfl,rfl⟩
    refine ent_value (ov_assign rfl) rfl rfl rfl (ent_nil (ent_retc ?_))
    cases H
    refine ent_pick [] (by decide) rfl ?_
    exact ret_tmp rfl rfl ⟨rfl,rfl⟩
   refine ent_value_on (ov_move rfl) rfl rfl rfl (decide_eq_false c55) rfl rfl ?_
   refine ent_value_on (ov_bin rfl rfl (b_gtr _ _ _)) rfl rfl rfl (decide_eq_false c55) rfl rfl ?_
   refine ent_value (ov_pick rfl rfl rfl (pick_f (decide_eq_false c55))) rfl rfl rfl (ent_value (ov_move rfl) rfl rfl rfl ?_)
   refine htT H (fun c56 H => ?_) fun c56 H => ?_
   ·refine ent_off rfl rfl rfl (decide_eq_true c56) rfl rfl ?_
    refine ent_off rfl rfl rfl (decide_eq_true c56) rfl rfl ?_
    refine ent_off rfl rfl rfl (decide_eq_true c56) rfl rfl ?_
    refine ent_value (ov_pick rfl rfl rfl (pick_t (decide_eq_true c56))) rfl rfl rfl (ent_nil (ent_cond_true rfl rfl (ent_seq (ent_region ?_))))
    obtain ⟨x48,h44,H⟩ := Option.bind_eq_some_iff.1 H
    refine ent_op (ot_call0 (first := []) (cap := []) (xs := []) rfl rfl F_call_8 rfl (ossuarylaw40_alive.spec K _ h44)) rfl rfl rfl ?_
    rintro _ _ ⟨rfl,rfl⟩
    refine ent_value (ov_assign rfl) rfl rfl rfl (ent_nil (ent_retc ?_))
    cases H
    refine ent_pick [] (by decide) rfl ?_
    exact ret_tmp rfl rfl ⟨rfl,rfl⟩
   refine ent_value_on (ov_fieldAddr (sz := 0) (o := 0) rfl F_field_40_0 F_size_3) rfl rfl rfl (decide_eq_false c56) rfl rfl ?_
   refine ent_value_on (ov_load (v := (I a2_0)) rfl F_agg_3 (reads_box1 (i := 1) rfl rfl)) rfl rfl rfl (decide_eq_false c56) rfl rfl ?_
   refine ent_value_on (ov_bin rfl rfl (b_eql _ _ _)) rfl rfl rfl (decide_eq_false c56) rfl rfl ?_
   refine ent_value (ov_pick rfl rfl rfl (pick_f (decide_eq_false c56))) rfl rfl rfl (ent_nil ?_)
   refine htT H (fun c57 H => ?_) fun c57 H => ?_
   ·refine ent_cond_true rfl (eq_t c57) (ent_seq (ent_region ?_))
    obtain ⟨x49,h45,H⟩ := Option.bind_eq_some_iff.1 H
    refine ent_op (ot_call0 (first := []) (cap := []) (xs := []) rfl rfl F_call_8 rfl (ossuarylaw40_alive.spec K _ h45)) rfl rfl rfl ?_
    rintro _ _ ⟨rfl,rfl⟩
    refine ent_value (ov_assign rfl) rfl rfl rfl (ent_nil (ent_retc ?_))
    cases H
    refine ent_pick [] (by decide) rfl ?_
    exact ret_tmp rfl rfl ⟨rfl,rfl⟩
   refine ent_cond_false rfl (eq_f c57) (ent_skip (ent_seq (ent_region (ent_value (ov_load_agg (vs := C1_) rfl F_agg_24 F_size_24 (reads_boxW (i := 0) rfl)) rfl rfl rfl (ent_value (ov_load_agg (vs := [I a2_0,I a2_1]) rfl F_agg_40 F_size_40 (reads_boxW (i := 1) rfl)) rfl rfl rfl (ent_value (ov_move rfl) rfl rfl rfl (ent_value (ov_move rfl) rfl rfl rfl (ent_value (ov_min2 rfl rfl) rfl rfl rfl ?_))))))))
   obtain ⟨x50,h46,H⟩ := Option.bind_eq_some_iff.1 H
   refine ent_op (ot_call0 (first := []) (cap := []) (xs := [.tmp 98,.tmp 99,.tmp 100,.tmp 102]) rfl rfl F_call_20 rfl (sheet_State.spec a0_0 a0_1 a0_2 a0_3 a0_4 a0_5 a0_6 a0_7 a0_8 a2_0 a2_1 a3 (mn a3 16777216) _ h46)) rfl rfl rfl ?_
   rintro _ _ ⟨rfl,rfl⟩
   refine ent_value (ov_assign rfl) rfl rfl rfl (ent_nil (ent_seq (ent_region (ent_value (ov_load_agg (vs := C1_) rfl F_agg_24 F_size_24 (reads_boxW (i := 0) rfl)) rfl rfl rfl (ent_value (ov_load_agg (vs := [I a2_0,I a2_1]) rfl F_agg_40 F_size_40 (reads_boxW (i := 1) rfl)) rfl rfl rfl (ent_value (ov_move rfl) rfl rfl rfl (ent_value (ov_move rfl) rfl rfl rfl (ent_value (ov_bin rfl rfl (b_add _ _ _) ) rfl rfl rfl (ent_value (ov_move rfl) rfl rfl rfl (ent_value (ov_move rfl) rfl rfl rfl (ent_value (ov_bin rfl rfl (b_add _ _ _) ) rfl rfl rfl ?_)))))))))))
   refine ent_value (ov_min2 rfl rfl) rfl rfl rfl ?_
   obtain ⟨x51,h47,H⟩ := Option.bind_eq_some_iff.1 H
   refine ent_op (ot_call0 (first := []) (cap := []) (xs := [.tmp 104,.tmp 105,.tmp 108,.tmp 112]) rfl rfl F_call_20 rfl (sheet_State.spec a0_0 a0_1 a0_2 a0_3 a0_4 a0_5 a0_6 a0_7 a0_8 a2_0 a2_1 (w64 (a3 + a4)) (mn (w64 (a3 + a4)) 16777216) _ h47)) rfl rfl rfl ?_
   rintro _ _ ⟨rfl,rfl⟩
   refine ent_value (ov_assign rfl) rfl rfl rfl (ent_nil (ent_seq (ent_region (ent_value (ov_move rfl) rfl rfl rfl ?_))))
   obtain ⟨x52,h48,H⟩ := thn_elim H
   refine ent_op (ot_call0 (first := []) (cap := []) (xs := [.tmp 114]) rfl rfl F_call_21 rfl (ossuarylaw40_rank.spec x50 _ h48)) rfl rfl rfl ?_
   rintro _ _ ⟨rfl,rfl⟩
   refine ent_value (ov_move rfl) rfl rfl rfl ?_
   obtain ⟨x53,h49,H⟩ := thn_elim H
   refine ent_op (ot_call0 (first := []) (cap := []) (xs := [.tmp 116]) rfl rfl F_call_21 rfl (ossuarylaw40_rank.spec x51 _ h49)) rfl rfl rfl ?_
   rintro _ _ ⟨rfl,rfl⟩
   refine ent_value (ov_bin rfl rfl (b_leq _ _ _)) rfl rfl rfl (ent_value (ov_move rfl) rfl rfl rfl ?_)
   refine htF H (fun c58 H => ?_) fun c58 H => ?_
   ·refine ent_off rfl rfl rfl (decide_eq_false c58) rfl rfl ?_
    refine ent_value (ov_pick rfl rfl rfl (pick_f (decide_eq_false c58))) rfl rfl rfl (ent_value (ov_assign rfl) rfl rfl rfl (ent_nil (ent_retc ?_)))
    cases H
    refine ent_pick [] (by decide) rfl ?_
    exact ret_tmp rfl rfl ⟨rfl,rfl⟩
   obtain ⟨x54,h50,H⟩ := Option.bind_eq_some_iff.1 H
   refine ent_op_on (ot_call0 (first := []) (cap := []) (xs := []) rfl rfl F_call_8 rfl (ossuarylaw40_alive.spec K _ h50)) rfl rfl rfl (decide_eq_true c58) rfl rfl ?_
   rintro _ _ ⟨rfl,rfl⟩
   refine ent_value (ov_pick rfl rfl rfl (pick_t (decide_eq_true c58))) rfl rfl rfl (ent_value (ov_assign rfl) rfl rfl rfl (ent_nil (ent_retc ?_)))
   cases H
   refine ent_pick [] (by decide) rfl ?_
   exact ret_tmp rfl rfl ⟨rfl,rfl⟩

end Go.Proofs.Ythcmiohbidencaa.SheetBack
