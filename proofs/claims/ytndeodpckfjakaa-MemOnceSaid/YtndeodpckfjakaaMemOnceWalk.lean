/- Printed by gen.py: that the machine's calls do what the plain functions of MemOnce say. -/
import Derived.Test.YtndeodpckfjakaaMemOnceWalk0
import Derived.Test.YtndeodpckfjakaaESq
import Derived.Test.YtndeodpckfjakaaProg
import Derived.Test.YtndeodpckfjakaaEBun
import Derived.Test.YtndeodpckfjakaaEClear
import Derived.Test.YtndeodpckfjakaaESortFAt
import Derived.Test.YtndeodpckfjakaaESortAt
import Derived.Test.YtndeodpckfjakaaEJag
import Derived.Test.YtndeodpckfjakaaMemOncePure
set_option linter.unusedVariables false
set_option linter.unusedSimpArgs false
set_option maxHeartbeats 8000000
set_option maxRecDepth 100000
namespace Go.Proofs.Ytndeodpckfjakaa.MemOnce
open Go Go.RowKit E
open Go.Value (int bool slice agg)

theorem pack_Writer_Num_N.spec (K p0 : Nat) (a1 : Int) (r : List Int) (H : pack_Writer_Num_N K a1 = some r) : FnSpec Try.prog 112 [pt p0 0,int .u64 a1] [box p0 205 [L0]] (fun v M => ∃ sv30 : Value,v = (pt p0 0) ∧ M = [box p0 205 [sv30],own sv30 5 1 r.length (fl (eI .u8) r)]) := by
 unfold pack_Writer_Num_N at H
 refine spec_of Try.func112 rfl 35 rfl (Nat.le_of_ble_eq_true rfl) fun F w0 => ?_
 show Ent (St 35 w0 F [(0,pt p0 0),(1,int .u64 a1)] [box p0 205 [L0]]) _
 refine ent_seq (ent_region (ent_value (ov_assign rfl) rfl rfl rfl (ent_nil (ent_seq (ent_seq (ent_region (ent_value (ov_move rfl) rfl rfl rfl ?_)))))))
 refine ent_value (ov_bin rfl rfl (b_eql_of (fun w => rfl) rfl (eq_pn Try.underlying203 _ _))) rfl rfl rfl ?_
 refine ent_nil (ent_cond_false rfl rfl (ent_skip ?_))
 obtain ⟨x2,H5,H⟩ := Option.bind_eq_some_iff.1 H
 refine ent_seq_cut (fun a w => ∃ sv44 : Value,St 35 w0 F [(0,pt p0 0),(1,int .u64 x2.2)] [box p0 205 [sv44],own sv44 5 1 x2.1.length (fl (eI .u8) x2.1)] a w) ?_ ?_
 ·refine ent_block ?_
  refine ent_loop (fun k a w => ∃ i6,∃ l7,∃ sv49 : Value,pack_Writer_Num_N_l0 K k i6 l7 = some x2 ∧ St 35 w0 F [(0,pt p0 0),(1,int .u64 i6)] [box p0 205 [sv49],own sv49 5 1 l7.length (fl (eI .u8) l7)] a w) K ?_ ?_
  ·refine ent_ownnil 5 1 ?_
   exact ent_fin [1,0] (by decide) rfl (sub_cons (t := 0) rfl (sub_cons (t := 1) rfl (sub_nil _))) fun a w h => ⟨_,_,_,H5,h⟩
  ·refine fun k => ent_exi fun i6 => ent_exi fun l7 => ent_exi fun sv49 => ent_and fun H6 => ?_
   cases k with
   | zero => exact absurd H6 (by simp [pack_Writer_Num_N_l0])
   | succ k =>
    rw [pack_Writer_Num_N_l0] at H6
    refine ent_seq (ent_seq (ent_region (ent_value (ov_move rfl) rfl rfl rfl (ent_value (ov_bin rfl rfl (b_geq _ _ _)) rfl rfl rfl (ent_nil ?_)))))
    refine htF H6 (fun c47 H6 => ?_) fun c47 H6 => ?_
    ·refine ent_cond_false rfl (decide_eq_false c47) (ent_exit ?_)
     cases H6
     exact ent_fin [0,1] (by decide) rfl (sub_cons (t := 0) rfl (sub_cons (t := 1) rfl (sub_nil _))) fun a w h => ⟨_,h⟩
    refine ent_cond_true rfl (decide_eq_true c47) (ent_skip (ent_seq (ent_block (ent_region (ent_value (ov_move rfl) rfl rfl rfl (ent_value (ov_move rfl) rfl rfl rfl (ent_value (ov_nilCheck rfl) rfl rfl rfl (ent_value (ov_fieldAddr (sz := 0) (o := 0) rfl F_field_205_0 F_size_124) rfl rfl rfl (ent_value (ov_load (v := sv49) rfl F_agg_124 (reads_box1 (i := 0) rfl rfl)) rfl rfl rfl (ent_value (ov_move rfl) rfl rfl rfl (ent_value (ov_convert rfl (c_int Try.underlying78 Try.underlying5)) rfl rfl rfl ?_)))))))))))
    refine ent_value (ov_bin rfl rfl (b_or _ _ _)) rfl rfl rfl ?_
    refine ent_op (ot_buildSlice (sz := 0) (xs := [.tmp 18]) (cs := fl (eI .u8) [bOr .u8 (wu8 i6) 128]) rfl rfl F_slice_124 F_size_5 F_zero_5 rfl rfl (all_size rfl) rfl (by decide)) rfl rfl rfl ?_
    rintro sv56 _ rfl
    obtain ⟨c49,H6⟩ := gdT H6
    refine ent_op (ot_appendx (sz := 0) (xs := l7) (ys := [bOr .u8 (wu8 i6) 128]) 2 0 rfl rfl F_slice_124 F_size_5 F_zero_5 rfl F_bytes_5 rfl rfl rfl (isRd_ownx 5) rfl (eI_one _) c49) rfl rfl rfl ?_
    rintro sv57 _ rfl
    refine ent_L [own sv56 5 1 [bOr .u8 (wu8 i6) 128].length (fl (eI .u8) [bOr .u8 (wu8 i6) 128]),box p0 205 [sv49],own sv57 5 1 (l7 ++ [bOr .u8 (wu8 i6) 128]).length (fl (eI .u8) (l7 ++ [bOr .u8 (wu8 i6) 128]))] rfl ?_
    refine ent_value (ov_nilCheck rfl) rfl rfl rfl (ent_value (ov_fieldAddr (sz := 0) (o := 0) rfl F_field_205_0 F_size_124) rfl rfl rfl ?_)
    refine ent_op0 (ot_storeS (cs := [sv49]) (cs' := [sv57]) (sv := sv57) (L' := [own sv56 5 1 [bOr .u8 (wu8 i6) 128].length (fl (eI .u8) [bOr .u8 (wu8 i6) 128]),box p0 205 [sv57],own sv57 5 1 (l7 ++ [bOr .u8 (wu8 i6) 128]).length (fl (eI .u8) (l7 ++ [bOr .u8 (wu8 i6) 128]))]) 1 2 rfl rfl F_size_124 rfl rfl (isRd_ownx 5) rfl (by simp) rfl) rfl rfl ?_
    rintro _ _ rfl
    refine ent_nil (ent_region (ent_value (ov_move rfl) rfl rfl rfl ?_))
    refine ent_value (ov_bin rfl rfl fun w => b_shr _ _ _ _ w (by decide)) rfl rfl rfl ?_
    refine ent_value (ov_assign rfl) rfl rfl rfl (ent_nil ?_)
    exact ent_fin [1,2] (by decide) rfl (sub_cons (t := 0) rfl (sub_cons (t := 1) rfl (sub_nil _))) fun a w h => ⟨k,Nat.lt_succ_self k,_,_,_,H6,h⟩
 ·refine ent_exi fun sv44 => ?_
  refine ent_seq (ent_region (ent_value (ov_move rfl) rfl rfl rfl (ent_value (ov_move rfl) rfl rfl rfl (ent_value (ov_nilCheck rfl) rfl rfl rfl (ent_value (ov_fieldAddr (sz := 0) (o := 0) rfl F_field_205_0 F_size_124) rfl rfl rfl (ent_value (ov_load (v := sv44) rfl F_agg_124 (reads_box1 (i := 0) rfl rfl)) rfl rfl rfl (ent_value (ov_move rfl) rfl rfl rfl (ent_value (ov_convert rfl (c_int Try.underlying78 Try.underlying5)) rfl rfl rfl ?_))))))))
  refine ent_op (ot_buildSlice (sz := 0) (xs := [.tmp 29]) (cs := fl (eI .u8) [wu8 x2.2]) rfl rfl F_slice_124 F_size_5 F_zero_5 rfl rfl (all_size rfl) rfl (by decide)) rfl rfl rfl ?_
  rintro sv58 _ rfl
  obtain ⟨c50,H⟩ := gdT H
  refine ent_op (ot_appendx (sz := 0) (xs := x2.1) (ys := [wu8 x2.2]) 2 0 rfl rfl F_slice_124 F_size_5 F_zero_5 rfl F_bytes_5 rfl rfl rfl (isRd_ownx 5) rfl (eI_one _) c50) rfl rfl rfl ?_
  rintro sv59 _ rfl
  refine ent_L [own sv58 5 1 [wu8 x2.2].length (fl (eI .u8) [wu8 x2.2]),box p0 205 [sv44],own sv59 5 1 (x2.1 ++ [wu8 x2.2]).length (fl (eI .u8) (x2.1 ++ [wu8 x2.2]))] rfl ?_
  refine ent_value (ov_nilCheck rfl) rfl rfl rfl (ent_value (ov_fieldAddr (sz := 0) (o := 0) rfl F_field_205_0 F_size_124) rfl rfl rfl ?_)
  refine ent_op0 (ot_storeS (cs := [sv44]) (cs' := [sv59]) (sv := sv59) (L' := [own sv58 5 1 [wu8 x2.2].length (fl (eI .u8) [wu8 x2.2]),box p0 205 [sv59],own sv59 5 1 (x2.1 ++ [wu8 x2.2]).length (fl (eI .u8) (x2.1 ++ [wu8 x2.2]))]) 1 2 rfl rfl F_size_124 rfl rfl (isRd_ownx 5) rfl (by simp) rfl) rfl rfl ?_
  rintro _ _ rfl
  refine ent_nil (ent_seq (ent_region (ent_value (ov_move rfl) rfl rfl rfl (ent_value (ov_assign rfl) rfl rfl rfl (ent_nil (ent_retc ?_))))))
  cases H
  refine ent_pick [1,2] (by decide) rfl ?_
  exact ret_tmp rfl rfl ⟨_,rfl,rfl⟩

theorem pack_Writer_Num_O.spec (K p0 : Nat) (sv0 : Value) (l0 : List Int) (a1 : Int) (r : List Int) (H : pack_Writer_Num_O K l0 a1 = some r) : FnSpec Try.prog 112 [pt p0 0,int .u64 a1] [box p0 205 [sv0],own sv0 5 1 l0.length (fl (eI .u8) l0)] (fun v M => ∃ sv30 : Value,v = (pt p0 0) ∧ M = [box p0 205 [sv30],own sv30 5 1 r.length (fl (eI .u8) r)]) := by
 unfold pack_Writer_Num_O at H
 refine spec_of Try.func112 rfl 35 rfl (Nat.le_of_ble_eq_true rfl) fun F w0 => ?_
 show Ent (St 35 w0 F [(0,pt p0 0),(1,int .u64 a1)] [box p0 205 [sv0],own sv0 5 1 l0.length (fl (eI .u8) l0)]) _
 refine ent_seq (ent_region (ent_value (ov_assign rfl) rfl rfl rfl (ent_nil (ent_seq (ent_seq (ent_region (ent_value (ov_move rfl) rfl rfl rfl ?_)))))))
 refine ent_value (ov_bin rfl rfl (b_eql_of (fun w => rfl) rfl (eq_pn Try.underlying203 _ _))) rfl rfl rfl ?_
 refine ent_nil (ent_cond_false rfl rfl (ent_skip ?_))
 obtain ⟨x2,H5,H⟩ := Option.bind_eq_some_iff.1 H
 refine ent_seq_cut (fun a w => ∃ sv44 : Value,St 35 w0 F [(0,pt p0 0),(1,int .u64 x2.2)] [box p0 205 [sv44],own sv44 5 1 x2.1.length (fl (eI .u8) x2.1)] a w) ?_ ?_
 ·refine ent_block ?_
  refine ent_loop (fun k a w => ∃ i6,∃ l7,∃ sv49 : Value,pack_Writer_Num_O_l0 K k i6 l7 = some x2 ∧ St 35 w0 F [(0,pt p0 0),(1,int .u64 i6)] [box p0 205 [sv49],own sv49 5 1 l7.length (fl (eI .u8) l7)] a w) K ?_ ?_
  ·exact ent_fin [0,1] (by decide) rfl (sub_cons (t := 0) rfl (sub_cons (t := 1) rfl (sub_nil _))) fun a w h => ⟨_,_,_,H5,h⟩
  ·refine fun k => ent_exi fun i6 => ent_exi fun l7 => ent_exi fun sv49 => ent_and fun H6 => ?_
   cases k with
   | zero => exact absurd H6 (by simp [pack_Writer_Num_O_l0])
   | succ k =>
    rw [pack_Writer_Num_O_l0] at H6
    refine ent_seq (ent_seq (ent_region (ent_value (ov_move rfl) rfl rfl rfl (ent_value (ov_bin rfl rfl (b_geq _ _ _)) rfl rfl rfl (ent_nil ?_)))))
    refine htF H6 (fun c47 H6 => ?_) fun c47 H6 => ?_
    ·refine ent_cond_false rfl (decide_eq_false c47) (ent_exit ?_)
     cases H6
     exact ent_fin [0,1] (by decide) rfl (sub_cons (t := 0) rfl (sub_cons (t := 1) rfl (sub_nil _))) fun a w h => ⟨_,h⟩
    refine ent_cond_true rfl (decide_eq_true c47) (ent_skip (ent_seq (ent_block (ent_region (ent_value (ov_move rfl) rfl rfl rfl (ent_value (ov_move rfl) rfl rfl rfl (ent_value (ov_nilCheck rfl) rfl rfl rfl (ent_value (ov_fieldAddr (sz := 0) (o := 0) rfl F_field_205_0 F_size_124) rfl rfl rfl (ent_value (ov_load (v := sv49) rfl F_agg_124 (reads_box1 (i := 0) rfl rfl)) rfl rfl rfl (ent_value (ov_move rfl) rfl rfl rfl (ent_value (ov_convert rfl (c_int Try.underlying78 Try.underlying5)) rfl rfl rfl ?_)))))))))))
    refine ent_value (ov_bin rfl rfl (b_or _ _ _)) rfl rfl rfl ?_
    refine ent_op (ot_buildSlice (sz := 0) (xs := [.tmp 18]) (cs := fl (eI .u8) [bOr .u8 (wu8 i6) 128]) rfl rfl F_slice_124 F_size_5 F_zero_5 rfl rfl (all_size rfl) rfl (by decide)) rfl rfl rfl ?_
    rintro sv56 _ rfl
    obtain ⟨c49,H6⟩ := gdT H6
    refine ent_op (ot_appendx (sz := 0) (xs := l7) (ys := [bOr .u8 (wu8 i6) 128]) 2 0 rfl rfl F_slice_124 F_size_5 F_zero_5 rfl F_bytes_5 rfl rfl rfl (isRd_ownx 5) rfl (eI_one _) c49) rfl rfl rfl ?_
    rintro sv57 _ rfl
    refine ent_L [own sv56 5 1 [bOr .u8 (wu8 i6) 128].length (fl (eI .u8) [bOr .u8 (wu8 i6) 128]),box p0 205 [sv49],own sv57 5 1 (l7 ++ [bOr .u8 (wu8 i6) 128]).length (fl (eI .u8) (l7 ++ [bOr .u8 (wu8 i6) 128]))] rfl ?_
    refine ent_value (ov_nilCheck rfl) rfl rfl rfl (ent_value (ov_fieldAddr (sz := 0) (o := 0) rfl F_field_205_0 F_size_124) rfl rfl rfl ?_)
    refine ent_op0 (ot_storeS (cs := [sv49]) (cs' := [sv57]) (sv := sv57) (L' := [own sv56 5 1 [bOr .u8 (wu8 i6) 128].length (fl (eI .u8) [bOr .u8 (wu8 i6) 128]),box p0 205 [sv57],own sv57 5 1 (l7 ++ [bOr .u8 (wu8 i6) 128]).length (fl (eI .u8) (l7 ++ [bOr .u8 (wu8 i6) 128]))]) 1 2 rfl rfl F_size_124 rfl rfl (isRd_ownx 5) rfl (by simp) rfl) rfl rfl ?_
    rintro _ _ rfl
    refine ent_nil (ent_region (ent_value (ov_move rfl) rfl rfl rfl ?_))
    refine ent_value (ov_bin rfl rfl fun w => b_shr _ _ _ _ w (by decide)) rfl rfl rfl ?_
    refine ent_value (ov_assign rfl) rfl rfl rfl (ent_nil ?_)
    exact ent_fin [1,2] (by decide) rfl (sub_cons (t := 0) rfl (sub_cons (t := 1) rfl (sub_nil _))) fun a w h => ⟨k,Nat.lt_succ_self k,_,_,_,H6,h⟩
 ·refine ent_exi fun sv44 => ?_
  refine ent_seq (ent_region (ent_value (ov_move rfl) rfl rfl rfl (ent_value (ov_move rfl) rfl rfl rfl (ent_value (ov_nilCheck rfl) rfl rfl rfl (ent_value (ov_fieldAddr (sz := 0) (o := 0) rfl F_field_205_0 F_size_124) rfl rfl rfl (ent_value (ov_load (v := sv44) rfl F_agg_124 (reads_box1 (i := 0) rfl rfl)) rfl rfl rfl (ent_value (ov_move rfl) rfl rfl rfl (ent_value (ov_convert rfl (c_int Try.underlying78 Try.underlying5)) rfl rfl rfl ?_))))))))
  refine ent_op (ot_buildSlice (sz := 0) (xs := [.tmp 29]) (cs := fl (eI .u8) [wu8 x2.2]) rfl rfl F_slice_124 F_size_5 F_zero_5 rfl rfl (all_size rfl) rfl (by decide)) rfl rfl rfl ?_
  rintro sv58 _ rfl
  obtain ⟨c50,H⟩ := gdT H
  refine ent_op (ot_appendx (sz := 0) (xs := x2.1) (ys := [wu8 x2.2]) 2 0 rfl rfl F_slice_124 F_size_5 F_zero_5 rfl F_bytes_5 rfl rfl rfl (isRd_ownx 5) rfl (eI_one _) c50) rfl rfl rfl ?_
  rintro sv59 _ rfl
  refine ent_L [own sv58 5 1 [wu8 x2.2].length (fl (eI .u8) [wu8 x2.2]),box p0 205 [sv44],own sv59 5 1 (x2.1 ++ [wu8 x2.2]).length (fl (eI .u8) (x2.1 ++ [wu8 x2.2]))] rfl ?_
  refine ent_value (ov_nilCheck rfl) rfl rfl rfl (ent_value (ov_fieldAddr (sz := 0) (o := 0) rfl F_field_205_0 F_size_124) rfl rfl rfl ?_)
  refine ent_op0 (ot_storeS (cs := [sv44]) (cs' := [sv59]) (sv := sv59) (L' := [own sv58 5 1 [wu8 x2.2].length (fl (eI .u8) [wu8 x2.2]),box p0 205 [sv59],own sv59 5 1 (x2.1 ++ [wu8 x2.2]).length (fl (eI .u8) (x2.1 ++ [wu8 x2.2]))]) 1 2 rfl rfl F_size_124 rfl rfl (isRd_ownx 5) rfl (by simp) rfl) rfl rfl ?_
  rintro _ _ rfl
  refine ent_nil (ent_seq (ent_region (ent_value (ov_move rfl) rfl rfl rfl (ent_value (ov_assign rfl) rfl rfl rfl (ent_nil (ent_retc ?_))))))
  cases H
  refine ent_pick [1,2] (by decide) rfl ?_
  exact ret_tmp rfl rfl ⟨_,rfl,rfl⟩

theorem pack_Writer_Text_O.spec (K p0 : Nat) (sv0 : Value) (l0 : List Int) (a1 : List UInt8) (r : List Int) (H : pack_Writer_Text_O K l0 a1 = some r) : FnSpec Try.prog 136 [pt p0 0,str a1] [box p0 205 [sv0],own sv0 5 1 l0.length (fl (eI .u8) l0)] (fun v M => ∃ sv5 : Value,v = (pt p0 0) ∧ M = [box p0 205 [sv5],own sv5 5 1 r.length (fl (eI .u8) r)]) := by
 unfold pack_Writer_Text_O at H
 refine spec_of Try.func136 rfl 21 rfl (Nat.le_of_ble_eq_true rfl) fun F w0 => ?_
 show Ent (St 21 w0 F [(0,pt p0 0),(1,str a1)] [box p0 205 [sv0],own sv0 5 1 l0.length (fl (eI .u8) l0)]) _
 refine ent_seq (ent_region (ent_value (ov_assign rfl) rfl rfl rfl (ent_nil (ent_seq (ent_seq (ent_region (ent_value (ov_move rfl) rfl rfl rfl (ent_value (ov_move rfl) rfl rfl rfl (ent_value (ov_lenS rfl Try.underlying9) rfl rfl rfl (ent_value (ov_convert rfl (c_int Try.underlying3 Try.underlying78)) rfl rfl rfl ?_))))))))))
 obtain ⟨x4,h4,H⟩ := Option.bind_eq_some_iff.1 H
 refine ent_op (ot_call (Lr := []) (first := []) (cap := []) (xs := [.tmp 5,.tmp 8]) rfl rfl F_call_112 rfl (pack_Writer_Num_O.spec K p0 sv0 l0 (wu64 (a1.length : Int)) _ h4) rfl) rfl rfl rfl ?_
 rintro _ _ ⟨_,⟨sv8,rfl,rfl⟩,rfl⟩
 refine ent_value (ov_bin rfl rfl (b_neq_of (fun w => rfl) rfl (eq_pn Try.underlying203 _ _))) rfl rfl rfl ?_
 refine ent_nil (ent_cond_true rfl rfl (ent_region (ent_value (ov_move rfl) rfl rfl rfl (ent_value (ov_move rfl) rfl rfl rfl (ent_value (ov_nilCheck rfl) rfl rfl rfl (ent_value (ov_fieldAddr (sz := 0) (o := 0) rfl F_field_205_0 F_size_124) rfl rfl rfl (ent_value (ov_load (v := sv8) rfl F_agg_124 (reads_box1 (i := 0) rfl rfl)) rfl rfl rfl (ent_value (ov_move rfl) rfl rfl rfl ?_))))))))
 obtain ⟨c4,H⟩ := gdT H
 refine ent_op (ot_appendS (xs := x4) (s := a1) 1 rfl rfl F_slice_124 Try.underlying9 F_size_5 F_zero1_5 F_bytes_5 rfl c4) rfl rfl rfl ?_
 rintro sv9 _ rfl
 refine ent_L [box p0 205 [sv8],own sv9 5 1 (x4 ++ byts a1).length (fl (eI .u8) (x4 ++ byts a1))] rfl ?_
 refine ent_value (ov_nilCheck rfl) rfl rfl rfl (ent_value (ov_fieldAddr (sz := 0) (o := 0) rfl F_field_205_0 F_size_124) rfl rfl rfl ?_)
 refine ent_op0 (ot_storeS (cs := [sv8]) (cs' := [sv9]) (sv := sv9) (L' := [box p0 205 [sv9],own sv9 5 1 (x4 ++ byts a1).length (fl (eI .u8) (x4 ++ byts a1))]) 0 1 rfl rfl F_size_124 rfl rfl (isRd_ownx 5) rfl (by simp) rfl) rfl rfl ?_
 rintro _ _ rfl
 refine ent_nil (ent_seq (ent_region (ent_value (ov_move rfl) rfl rfl rfl (ent_value (ov_assign rfl) rfl rfl rfl (ent_nil (ent_retc ?_))))))
 cases H
 refine ent_pick [0,1] (by decide) rfl ?_
 exact ret_tmp rfl rfl ⟨_,rfl,rfl⟩

theorem pack_Writer_Int_O.spec (K p0 : Nat) (sv0 : Value) (l0 : List Int) (a1 : Int) (r : List Int) (H : pack_Writer_Int_O K l0 a1 = some r) : FnSpec Try.prog 137 [pt p0 0,I a1] [box p0 205 [sv0],own sv0 5 1 l0.length (fl (eI .u8) l0)] (fun v M => ∃ sv2 : Value,v = (pt p0 0) ∧ M = [box p0 205 [sv2],own sv2 5 1 r.length (fl (eI .u8) r)]) := by
 unfold pack_Writer_Int_O at H
 refine spec_of Try.func137 rfl 14 rfl (Nat.le_of_ble_eq_true rfl) fun F w0 => ?_
 show Ent (St 14 w0 F [(0,pt p0 0),(1,I a1)] [box p0 205 [sv0],own sv0 5 1 l0.length (fl (eI .u8) l0)]) _
 refine ent_seq (ent_region (ent_value (ov_assign rfl) rfl rfl rfl (ent_nil (ent_seq (ent_region (ent_value (ov_move rfl) rfl rfl rfl (ent_value (ov_move rfl) rfl rfl rfl ?_)))))))
 refine ent_value (ov_bin rfl rfl fun w => b_shl _ _ _ _ w (by decide)) rfl rfl rfl ?_
 refine ent_value (ov_convert rfl (c_int Try.underlying2 Try.underlying78)) rfl rfl rfl (ent_value (ov_move rfl) rfl rfl rfl ?_)
 refine ent_value (ov_bin rfl rfl fun w => b_shr _ _ _ _ w (by decide)) rfl rfl rfl ?_
 refine ent_value (ov_convert rfl (c_int Try.underlying2 Try.underlying78)) rfl rfl rfl (ent_value (ov_bin rfl rfl (b_xor _ _ _)) rfl rfl rfl ?_)
 obtain ⟨x2,h2,H⟩ := Option.bind_eq_some_iff.1 H
 refine ent_op (ot_call (Lr := []) (first := []) (cap := []) (xs := [.tmp 5,.tmp 12]) rfl rfl F_call_112 rfl (pack_Writer_Num_O.spec K p0 sv0 l0 (bXor .u64 (wu64 (bShl .i64 a1 1)) (wu64 (bShr .i64 a1 63))) _ h2) rfl) rfl rfl rfl ?_
 rintro _ _ ⟨_,⟨sv3,rfl,rfl⟩,rfl⟩
 refine ent_value (ov_assign rfl) rfl rfl rfl (ent_nil (ent_retc ?_))
 cases H
 refine ent_pick [0,1] (by decide) rfl ?_
 exact ret_tmp rfl rfl ⟨_,rfl,rfl⟩

theorem bytes_Clone_R.spec (sv0 : Value) (A0 : HP) (l0 : List Int) (hA0 : IsRd A0 sv0 l0.length 1 (fl (eI .u8) l0)) (r : List Int) (H : bytes_Clone_R l0 = some r) : FnSpec Try.prog 139 [sv0] [A0] (fun v M => ∃ sv5 : Value,v = sv5 ∧ M = [A0,own sv5 5 1 r.length (fl (eI .u8) r)]) := by
 unfold bytes_Clone_R at H
 refine spec_of Try.func139 rfl 8 rfl (Nat.le_of_ble_eq_true rfl) fun F w0 => ?_
 show Ent (St 8 w0 F [(0,sv0)] [A0]) _
 refine ent_seq (ent_region (ent_value (ov_assign rfl) rfl rfl rfl (ent_nil (ent_seq (ent_seq (ent_region (ent_value (ov_move rfl) rfl rfl rfl ?_)))))))
 refine htT H (fun c9 H => ?_) fun c9 H => ?_
 ·refine ent_value (ov_eqnil 0 rfl rfl Try.underlying124 rfl hA0 rfl c9) rfl rfl rfl (ent_nil (ent_cond_false rfl rfl (ent_skip (ent_seq (ent_region ?_)))))
  refine ent_op (ot_buildSlice (sz := 0) (xs := []) (cs := fl (eI .u8) ([] : List Int)) rfl rfl F_slice_124 F_size_5 F_zero_5 rfl rfl (all_size rfl) rfl (by decide)) rfl rfl rfl ?_
  rintro sv6 _ rfl
  refine ent_value (ov_move rfl) rfl rfl rfl ?_
  obtain ⟨c10,H⟩ := gdT H
  refine ent_op (ot_appendx (sz := 0) (xs := ([] : List Int)) (ys := l0) 0 1 rfl rfl F_slice_124 F_size_5 F_zero_5 rfl F_bytes_5 rfl rfl rfl hA0 rfl (eI_one _) c10) rfl rfl rfl ?_
  rintro sv7 _ rfl
  refine ent_L [own sv7 5 1 (([] : List Int) ++ l0).length (fl (eI .u8) (([] : List Int) ++ l0)),A0] rfl ?_
  refine ent_value (ov_assign rfl) rfl rfl rfl (ent_nil (ent_retc ?_))
  cases H
  refine ent_pick [1,0] (by decide) rfl ?_
  exact ret_tmp rfl rfl ⟨_,rfl,rfl⟩
 by_cases c11 : nilS sv0 = true
 ·replace H : (some (([] : List Int))) = _ := H
  refine ent_value (ov_eqnil0 0 rfl rfl Try.underlying124 rfl hA0 c11) rfl rfl rfl (ent_nil (ent_cond_true rfl rfl (ent_seq (ent_region (ent_value (ov_assign rfl) rfl rfl rfl (ent_nil (ent_retc ?_)))))))
  cases H
  refine ent_ownnil 5 1 ?_
  refine ent_pick [1,0] (by decide) rfl ?_
  exact ret_tmp rfl rfl ⟨_,rfl,rfl⟩
 ·refine ent_value (ov_eqnil0 0 rfl rfl Try.underlying124 rfl hA0 (Bool.eq_false_iff.2 c11)) rfl rfl rfl (ent_nil (ent_cond_false rfl rfl (ent_skip (ent_seq (ent_region ?_)))))
  refine ent_op (ot_buildSlice (sz := 0) (xs := []) (cs := fl (eI .u8) ([] : List Int)) rfl rfl F_slice_124 F_size_5 F_zero_5 rfl rfl (all_size rfl) rfl (by decide)) rfl rfl rfl ?_
  rintro sv8 _ rfl
  refine ent_value (ov_move rfl) rfl rfl rfl ?_
  obtain ⟨c12,H⟩ := gdT H
  refine ent_op (ot_appendx (sz := 0) (xs := ([] : List Int)) (ys := ([] : List Int)) 0 1 rfl rfl F_slice_124 F_size_5 F_zero_5 rfl F_bytes_5 rfl rfl rfl (isRd_zero hA0 c9) rfl (eI_one _) c12) rfl rfl rfl ?_
  rintro sv9 _ rfl
  refine ent_L [own sv9 5 1 (([] : List Int) ++ ([] : List Int)).length (fl (eI .u8) (([] : List Int) ++ ([] : List Int))),A0] rfl ?_
  refine ent_value (ov_assign rfl) rfl rfl rfl (ent_nil (ent_retc ?_))
  cases H
  refine ent_pick [1,0] (by decide) rfl ?_
  exact ret_tmp rfl rfl ⟨_,rfl,rfl⟩

theorem pack_Writer_Bytes_O.spec (p0 : Nat) (sv0 : Value) (l0 : List Int) (r : List Int) (H : pack_Writer_Bytes_O l0 = some r) : FnSpec Try.prog 115 [pt p0 0] [box p0 205 [sv0],own sv0 5 1 l0.length (fl (eI .u8) l0)] (fun v M => ∃ sv2 : Value,v = sv2 ∧ M = [box p0 205 [sv0],own sv0 5 1 l0.length (fl (eI .u8) l0),own sv2 5 1 r.length (fl (eI .u8) r)]) := by
 unfold pack_Writer_Bytes_O at H
 refine spec_of Try.func115 rfl 10 rfl (Nat.le_of_ble_eq_true rfl) fun F w0 => ?_
 show Ent (St 10 w0 F [(0,pt p0 0)] [box p0 205 [sv0],own sv0 5 1 l0.length (fl (eI .u8) l0)]) _
 refine ent_seq (ent_region (ent_value (ov_assign rfl) rfl rfl rfl (ent_nil (ent_seq (ent_seq (ent_region (ent_value (ov_move rfl) rfl rfl rfl ?_)))))))
 refine ent_value (ov_bin rfl rfl (b_eql_of (fun w => rfl) rfl (eq_pn Try.underlying203 _ _))) rfl rfl rfl ?_
 refine ent_nil (ent_cond_false rfl rfl (ent_skip (ent_seq (ent_region (ent_value (ov_move rfl) rfl rfl rfl (ent_value (ov_nilCheck rfl) rfl rfl rfl (ent_value (ov_fieldAddr (sz := 0) (o := 0) rfl F_field_205_0 F_size_124) rfl rfl rfl (ent_value (ov_load (v := sv0) rfl F_agg_124 (reads_box1 (i := 0) rfl rfl)) rfl rfl rfl ?_))))))))
 obtain ⟨x2,h2,H⟩ := Option.bind_eq_some_iff.1 H
 refine ent_pick [1,0] (by decide) rfl ?_
 refine ent_op (ot_call (Lr := [box p0 205 [sv0]]) (first := []) (cap := []) (xs := [.tmp 8]) rfl rfl F_call_139 rfl (bytes_Clone_R.spec sv0 (own sv0 5 1 l0.length (fl (eI .u8) l0)) l0 (isRd_ownx 5) _ h2) rfl) rfl rfl rfl ?_
 rintro sv3 _ ⟨_,⟨_,rfl,rfl⟩,rfl⟩
 refine ent_value (ov_assign rfl) rfl rfl rfl (ent_nil (ent_retc ?_))
 cases H
 refine ent_pick [2,0,1] (by decide) rfl ?_
 exact ret_tmp rfl rfl ⟨_,rfl,rfl⟩

theorem fact_Encode_R.spec (K : Nat) (sv0 : Value) (A0 : HP) (l0 : List Api_Fact) (a1 : Int) (hA0 : IsRd A0 sv0 l0.length 6 (fl enc_Api_Fact l0)) (r : (Int × (List Int))) (H : fact_Encode_R K l0 a1 = some r) : FnSpec Try.prog 113 [sv0,I a1] [A0] (fun v M => ∃ sv215 : Value,v = (tU #[sv215,I r.1]) ∧ M = [A0,own sv215 5 1 r.2.length (fl (eI .u8) r.2)]) := by
 unfold fact_Encode_R at H
 refine spec_of Try.func113 rfl 70 rfl (Nat.le_of_ble_eq_true rfl) fun F w0 => ?_
 show Ent (St 70 w0 F [(0,sv0),(1,I a1)] [A0]) _
 refine ent_seq (ent_region (ent_value (ov_assign rfl) rfl rfl rfl (ent_value (ov_assign rfl) rfl rfl rfl (ent_nil (ent_seq (ent_seq (ent_region (ent_value (ov_move rfl) rfl rfl rfl (ent_value (ov_move rfl) rfl rfl rfl ?_)))))))))
 obtain ⟨x192,h174,H⟩ := Option.bind_eq_some_iff.1 H
 refine ent_op (ot_call_same (Lr := []) [0] [0] (first := []) (cap := []) (xs := [.tmp 17,.tmp 18]) rfl rfl F_call_83 rfl (fact_All_R.spec K sv0 A0 l0 a1 hA0 _ h174) (by decide) rfl (by decide) rfl) rfl rfl rfl ?_
 rintro _ _ ⟨rfl,rfl⟩
 refine ent_value (ov_move rfl) rfl rfl rfl (ent_value (ov_extract rfl rfl) rfl rfl rfl (ent_value (ov_extract rfl rfl) rfl rfl rfl (ent_value (ov_assign rfl) rfl rfl rfl (ent_value (ov_assign rfl) rfl rfl rfl (ent_nil (ent_seq (ent_region (ent_value (ov_move rfl) rfl rfl rfl (ent_value (ov_bin rfl rfl (b_neq _ _ _)) rfl rfl rfl (ent_nil ?_))))))))))
 refine htT H (fun c312 H => ?_) fun c312 H => ?_
 ·refine ent_cond_true rfl (ne_t c312) (ent_seq (ent_region (ent_value (ov_move rfl) rfl rfl rfl (ent_value (ov_assign rfl) rfl rfl rfl (ent_value (ov_assign rfl) rfl rfl rfl (ent_nil (ent_retc ?_)))))))
  cases H
  refine ent_ownnil 5 1 ?_
  refine ent_pick [1,0] (by decide) rfl ?_
  exact ret_mem (vs := [L0,I x192.1]) rfl ⟨rfl,⟨rfl,trivial⟩⟩ _ rfl ⟨_,rfl,rfl⟩
 refine ent_cond_false rfl (ne_f c312) (ent_skip (ent_seq (ent_region (ent_value (ov_build (is := []) (xs := []) (vs := []) rfl rfl (build_struct (cs := [L0]) F_zero_205 F_places_205 rfl)) rfl rfl rfl ?_))))
 refine ent_op (ot_box (cs := [L0]) rfl rfl) rfl rfl rfl ?_
 rintro _ _ ⟨b34,rfl,rfl⟩
 refine ent_value (ov_assign rfl) rfl rfl rfl (ent_nil (ent_seq (ent_region (ent_value (ov_move rfl) rfl rfl rfl (ent_value (ov_makeFunc (first := [.tmp 27]) (cap := []) rfl rfl) rfl rfl rfl (ent_value (ov_move rfl) rfl rfl rfl (ent_value (ov_makeFunc (first := [.tmp 29]) (cap := []) rfl rfl) rfl rfl rfl (ent_value (ov_move rfl) rfl rfl rfl (ent_value (ov_makeFunc (first := [.tmp 31]) (cap := []) rfl rfl) rfl rfl rfl (ent_value (ov_assign rfl) rfl rfl rfl (ent_value (ov_assign rfl) rfl rfl rfl ?_)))))))))))
 refine ent_value (ov_assign rfl) rfl rfl rfl (ent_nil (ent_seq (ent_region (ent_value (ov_move rfl) rfl rfl rfl (ent_value (ov_move rfl) rfl rfl rfl (ent_value (ov_len 1 rfl F_slice_46 rfl hA0) rfl rfl rfl (ent_value (ov_convert rfl (c_int Try.underlying3 Try.underlying78)) rfl rfl rfl ?_)))))))
 obtain ⟨x193,h175,H⟩ := Option.bind_eq_some_iff.1 H
 refine ent_op (ot_call (Lr := [A0]) (first := [pt b34 0]) (cap := []) (xs := [.tmp 36]) rfl rfl F_call_112 rfl (pack_Writer_Num_N.spec K b34 (wu64 (l0.length : Int)) _ h175) rfl) rfl rfl rfl ?_
 rintro _ _ ⟨_,⟨sv216,rfl,rfl⟩,rfl⟩
 refine ent_nil (ent_seq (ent_seq (ent_region (ent_value (ov_move rfl) rfl rfl rfl (ent_value (ov_len 2 rfl F_slice_46 rfl hA0) rfl rfl rfl (ent_value (ov_move rfl) rfl rfl rfl (ent_nil (ent_block ?_))))))))
 refine ent_loop (fun k a w => ∃ i45,∃ l75,∃ b58 : Nat,∃ sv358 : Value,fact_Encode_R_l0 K l0 a1 k i45 l75 = some r ∧ St 70 w0 F [(1,I a1),(8,pt b58 0),(9,(Value.func (.func 112) #[pt b58 0] #[])),(10,(Value.func (.func 136) #[pt b58 0] #[])),(11,(Value.func (.func 137) #[pt b58 0] #[])),(38,sv0),(39,I (l0.length : Int)),(40,I i45)] [A0,box b58 205 [sv358],own sv358 5 1 l75.length (fl (eI .u8) l75)] a w) K ?_ ?_
 ·exact ent_fin [2,0,1] (by decide) rfl (sub_cons (t := 1) rfl (sub_cons (t := 8) rfl (sub_cons (t := 9) rfl (sub_cons (t := 10) rfl (sub_cons (t := 11) rfl (sub_cons (t := 38) rfl (sub_cons (t := 39) rfl (sub_cons (t := 40) rfl (sub_nil _))))))))) fun a w h => ⟨_,_,_,_,H,h⟩
 ·refine fun k => ent_exi fun i45 => ent_exi fun l75 => ent_exi fun b58 => ent_exi fun sv358 => ent_and fun H81 => ?_
  let C0_ : List Value := [I (((l0.getD i45.toNat z_Api_Fact).Key).Hour),str (((l0.getD i45.toNat z_Api_Fact).Key).Dims_0),str (((l0.getD i45.toNat z_Api_Fact).Key).Dims_1),str (((l0.getD i45.toNat z_Api_Fact).Key).Dims_2),str (((l0.getD i45.toNat z_Api_Fact).Key).Dims_3),I ((l0.getD i45.toNat z_Api_Fact).Value)]
  cases k with
  | zero => exact absurd H81 (by simp [C0_,fact_Encode_R_l0])
  | succ k =>
   rw [fact_Encode_R_l0] at H81
   refine ent_seq (ent_region (ent_value (ov_bin rfl rfl (b_lss _ _ _)) rfl rfl rfl (ent_nil (ent_seq ?_))))
   refine htF H81 (fun c570 H81 => ?_) fun c570 H81 => ?_
   ·refine ent_cond_false rfl (decide_eq_false c570) (ent_exit (ent_seq (ent_region (ent_value (ov_move rfl) rfl rfl rfl ?_))))
    obtain ⟨x380,h344,H81⟩ := Option.bind_eq_some_iff.1 H81
    refine ent_pick [1,2,0] (by decide) rfl ?_
    refine ent_op (ot_call (Lr := [A0]) (first := []) (cap := []) (xs := [.tmp 68]) rfl rfl F_call_115 rfl (pack_Writer_Bytes_O.spec b58 sv358 l75 _ h344) rfl) rfl rfl rfl ?_
    rintro sv429 _ ⟨_,⟨_,rfl,rfl⟩,rfl⟩
    refine ent_value (ov_assign rfl) rfl rfl rfl (ent_value (ov_assign rfl) rfl rfl rfl (ent_nil (ent_retc ?_)))
    cases H81
    refine ent_pick [3,2] (by decide) rfl ?_
    exact ret_mem (vs := [sv429,I 0]) rfl ⟨rfl,⟨rfl,trivial⟩⟩ _ rfl ⟨_,rfl,rfl⟩
   refine ent_cond_true rfl (decide_eq_true c570) (ent_skip ?_)
   obtain ⟨x364,H85,H81⟩ := Option.bind_eq_some_iff.1 H81
   refine ent_seq_cut (fun a w => ∃ sv411 : Value,St 70 w0 F [(1,I a1),(8,pt b58 0),(9,(Value.func (.func 112) #[pt b58 0] #[])),(10,(Value.func (.func 136) #[pt b58 0] #[])),(11,(Value.func (.func 137) #[pt b58 0] #[])),(38,sv0),(39,I (l0.length : Int)),(40,I i45)] [A0,box b58 205 [sv411],own sv411 5 1 x364.length (fl (eI .u8) x364)] a w) ?_ ?_
   ·refine ent_block (ent_seq (ent_region ?_))
    obtain ⟨c596,H85⟩ := gdT H85
    refine ent_value (ov_indexAddr (sz := 5) 0 rfl rfl F_slice_46 F_size_93 rfl hA0 c596 c570) rfl rfl rfl ?_
    refine ent_value (ov_load_agg (vs := C0_) rfl F_agg_93 F_size_93 (reads_rd (i := 0) rfl hA0 (by simp [C0_]) (fl_read0 enc_Api_Fact_len (ix_lt c596 c570) rfl))) rfl rfl rfl ?_
    refine ent_op (ot_alloc F_zero_93) rfl rfl rfl ?_
    rintro _ _ ⟨b65,rfl,rfl⟩
    refine ent_op0 (ot_storeG (cs := [I 0,S0,S0,S0,S0,I 0]) (cs' := C0_) (us := C0_) (L' := [box b65 93 C0_,A0,box b58 205 [sv358],own sv358 5 1 l75.length (fl (eI .u8) l75)]) 0 rfl rfl rfl (one_all rfl) F_size_93 rfl rfl (by simp [C0_]) rfl) rfl rfl ?_
    rintro _ _ rfl
    refine ent_nil (ent_seq (ent_region (ent_value (ov_move rfl) rfl rfl rfl (ent_value (ov_fieldAddr (sz := 4) (o := 0) rfl F_field_93_0 F_size_42) rfl rfl rfl (ent_value (ov_fieldAddr (sz := 0) (o := 0) rfl F_field_42_0 F_size_2) rfl rfl rfl (ent_value (ov_load (v := (I (((l0.getD i45.toNat z_Api_Fact).Key).Hour))) rfl F_agg_2 (reads_box1 (i := 0) rfl rfl)) rfl rfl rfl (ent_value (ov_convert rfl (c_int Try.underlying2 Try.underlying78)) rfl rfl rfl ?_)))))))
    obtain ⟨x365,h330,H85⟩ := Option.bind_eq_some_iff.1 H85
    refine ent_pick [2,3,0,1] (by decide) rfl ?_
    refine ent_op (ot_call (Lr := [box b65 93 C0_,A0]) (first := [pt b58 0]) (cap := []) (xs := [.tmp 48]) rfl rfl F_call_112 rfl (pack_Writer_Num_O.spec K b58 sv358 l75 (wu64 (((l0.getD i45.toNat z_Api_Fact).Key).Hour)) _ h330) rfl) rfl rfl rfl ?_
    rintro _ _ ⟨_,⟨sv412,rfl,rfl⟩,rfl⟩
    refine ent_nil ?_
    obtain ⟨x372,H87,H85⟩ := Option.bind_eq_some_iff.1 H85
    refine ent_seq_cut (fun a w => ∃ sv420 : Value,∃ b66 : Nat,St 70 w0 F [(1,I a1),(8,pt b58 0),(9,(Value.func (.func 112) #[pt b58 0] #[])),(10,(Value.func (.func 136) #[pt b58 0] #[])),(11,(Value.func (.func 137) #[pt b58 0] #[])),(13,pt b66 0),(38,sv0),(39,I (l0.length : Int)),(40,I i45)] [A0,box b58 205 [sv420],own sv420 5 1 x372.length (fl (eI .u8) x372),box b66 93 C0_] a w) ?_ ?_
    ·refine ent_seq (ent_region (ent_value (ov_fieldAddr (sz := 4) (o := 0) rfl F_field_93_0 F_size_42) rfl rfl rfl (ent_value (ov_fieldAddr (sz := 3) (o := 0) rfl F_field_42_1 F_size_40) rfl rfl rfl (ent_value (ov_move rfl) rfl rfl rfl ?_))))
     obtain ⟨c609,H87⟩ := gdT H87
     obtain ⟨c610,H87⟩ := gdT H87
     refine ent_value (ov_asl_hi rfl rfl F_array_40 F_size_9 c609 c610) rfl rfl rfl (ent_value (ov_len 2 rfl F_slice_30 rfl (isRd_take eS_len (show IsRd (box b65 93 C0_) (asl b65 1 4) ([((l0.getD i45.toNat z_Api_Fact).Key).Dims_0,((l0.getD i45.toNat z_Api_Fact).Key).Dims_1,((l0.getD i45.toNat z_Api_Fact).Key).Dims_2,((l0.getD i45.toNat z_Api_Fact).Key).Dims_3] : List (List UInt8)).length 1 (fl eS [((l0.getD i45.toNat z_Api_Fact).Key).Dims_0,((l0.getD i45.toNat z_Api_Fact).Key).Dims_1,((l0.getD i45.toNat z_Api_Fact).Key).Dims_2,((l0.getD i45.toNat z_Api_Fact).Key).Dims_3]) from (isRd_box (o := 1) (n := 4) (sz := 1) (ds := fl eS [((l0.getD i45.toNat z_Api_Fact).Key).Dims_0,((l0.getD i45.toNat z_Api_Fact).Key).Dims_1,((l0.getD i45.toNat z_Api_Fact).Key).Dims_2,((l0.getD i45.toNat z_Api_Fact).Key).Dims_3]) rfl (by decide) rfl)) (show a1.toNat ≤ ([((l0.getD i45.toNat z_Api_Fact).Key).Dims_0,((l0.getD i45.toNat z_Api_Fact).Key).Dims_1,((l0.getD i45.toNat z_Api_Fact).Key).Dims_2,((l0.getD i45.toNat z_Api_Fact).Key).Dims_3] : List (List UInt8)).length from nat_le c609 c610))) rfl rfl rfl (ent_value (ov_move rfl) rfl rfl rfl (ent_nil (ent_block ?_))))
     refine ent_loop (fun k a w => ∃ i53,∃ l89,∃ sv423 : Value,fact_Encode_R_l1 K l0 a1 i45 k i53 l89 = some x372 ∧ St 70 w0 F [(1,I a1),(8,pt b58 0),(9,(Value.func (.func 112) #[pt b58 0] #[])),(10,(Value.func (.func 136) #[pt b58 0] #[])),(11,(Value.func (.func 137) #[pt b58 0] #[])),(13,pt b65 0),(38,sv0),(39,I (l0.length : Int)),(40,I i45),(53,(subs (asl b65 1 4) 0 a1.toNat 1)),(54,I (([((l0.getD i45.toNat z_Api_Fact).Key).Dims_0,((l0.getD i45.toNat z_Api_Fact).Key).Dims_1,((l0.getD i45.toNat z_Api_Fact).Key).Dims_2,((l0.getD i45.toNat z_Api_Fact).Key).Dims_3].take a1.toNat).length : Int)),(55,I i53)] [A0,box b58 205 [sv423],own sv423 5 1 l89.length (fl (eI .u8) l89),box b65 93 C0_] a w) K ?_ ?_
     ·exact ent_fin [3,0,1,2] (by decide) rfl (sub_cons (t := 1) rfl (sub_cons (t := 8) rfl (sub_cons (t := 9) rfl (sub_cons (t := 10) rfl (sub_cons (t := 11) rfl (sub_cons (t := 13) rfl (sub_cons (t := 38) rfl (sub_cons (t := 39) rfl (sub_cons (t := 40) rfl (sub_cons (t := 53) rfl (sub_cons (t := 54) rfl (sub_cons (t := 55) rfl (sub_nil _))))))))))))) fun a w h => ⟨_,_,_,H87,h⟩
     ·refine fun k => ent_exi fun i53 => ent_exi fun l89 => ent_exi fun sv423 => ent_and fun H88 => ?_
      cases k with
      | zero => exact absurd H88 (by simp [C0_,fact_Encode_R_l1])
      | succ k =>
       rw [fact_Encode_R_l1] at H88
       refine ent_seq (ent_region (ent_value (ov_bin rfl rfl (b_lss _ _ _)) rfl rfl rfl (ent_nil (ent_seq ?_))))
       refine htF H88 (fun c618 H88 => ?_) fun c618 H88 => ?_
       ·refine ent_cond_false rfl (decide_eq_false c618) (ent_exit ?_)
        cases H88
        exact ent_fin [0,1,2,3] (by decide) rfl (sub_cons (t := 1) rfl (sub_cons (t := 8) rfl (sub_cons (t := 9) rfl (sub_cons (t := 10) rfl (sub_cons (t := 11) rfl (sub_cons (t := 13) rfl (sub_cons (t := 38) rfl (sub_cons (t := 39) rfl (sub_cons (t := 40) rfl (sub_nil _)))))))))) fun a w h => ⟨_,_,h⟩
       refine ent_cond_true rfl (decide_eq_true c618) (ent_skip (ent_seq (ent_block (ent_seq (ent_region ?_)))))
       obtain ⟨c620,H88⟩ := gdT H88
       refine ent_value (ov_indexAddr (sz := 0) 3 rfl rfl F_slice_30 F_size_9 rfl (isRd_take eS_len (show IsRd (box b65 93 C0_) (asl b65 1 4) ([((l0.getD i45.toNat z_Api_Fact).Key).Dims_0,((l0.getD i45.toNat z_Api_Fact).Key).Dims_1,((l0.getD i45.toNat z_Api_Fact).Key).Dims_2,((l0.getD i45.toNat z_Api_Fact).Key).Dims_3] : List (List UInt8)).length 1 (fl eS [((l0.getD i45.toNat z_Api_Fact).Key).Dims_0,((l0.getD i45.toNat z_Api_Fact).Key).Dims_1,((l0.getD i45.toNat z_Api_Fact).Key).Dims_2,((l0.getD i45.toNat z_Api_Fact).Key).Dims_3]) from (isRd_box (o := 1) (n := 4) (sz := 1) (ds := fl eS [((l0.getD i45.toNat z_Api_Fact).Key).Dims_0,((l0.getD i45.toNat z_Api_Fact).Key).Dims_1,((l0.getD i45.toNat z_Api_Fact).Key).Dims_2,((l0.getD i45.toNat z_Api_Fact).Key).Dims_3]) rfl (by decide) rfl)) (show a1.toNat ≤ ([((l0.getD i45.toNat z_Api_Fact).Key).Dims_0,((l0.getD i45.toNat z_Api_Fact).Key).Dims_1,((l0.getD i45.toNat z_Api_Fact).Key).Dims_2,((l0.getD i45.toNat z_Api_Fact).Key).Dims_3] : List (List UInt8)).length from nat_le c609 c610)) c620 c618) rfl rfl rfl ?_
       refine ent_value (ov_load (v := (str (([((l0.getD i45.toNat z_Api_Fact).Key).Dims_0,((l0.getD i45.toNat z_Api_Fact).Key).Dims_1,((l0.getD i45.toNat z_Api_Fact).Key).Dims_2,((l0.getD i45.toNat z_Api_Fact).Key).Dims_3].take a1.toNat).getD i53.toNat []))) rfl F_agg_9 (reads_rd (i := 3) rfl (isRd_take eS_len (show IsRd (box b65 93 C0_) (asl b65 1 4) ([((l0.getD i45.toNat z_Api_Fact).Key).Dims_0,((l0.getD i45.toNat z_Api_Fact).Key).Dims_1,((l0.getD i45.toNat z_Api_Fact).Key).Dims_2,((l0.getD i45.toNat z_Api_Fact).Key).Dims_3] : List (List UInt8)).length 1 (fl eS [((l0.getD i45.toNat z_Api_Fact).Key).Dims_0,((l0.getD i45.toNat z_Api_Fact).Key).Dims_1,((l0.getD i45.toNat z_Api_Fact).Key).Dims_2,((l0.getD i45.toNat z_Api_Fact).Key).Dims_3]) from (isRd_box (o := 1) (n := 4) (sz := 1) (ds := fl eS [((l0.getD i45.toNat z_Api_Fact).Key).Dims_0,((l0.getD i45.toNat z_Api_Fact).Key).Dims_1,((l0.getD i45.toNat z_Api_Fact).Key).Dims_2,((l0.getD i45.toNat z_Api_Fact).Key).Dims_3]) rfl (by decide) rfl)) (show a1.toNat ≤ ([((l0.getD i45.toNat z_Api_Fact).Key).Dims_0,((l0.getD i45.toNat z_Api_Fact).Key).Dims_1,((l0.getD i45.toNat z_Api_Fact).Key).Dims_2,((l0.getD i45.toNat z_Api_Fact).Key).Dims_3] : List (List UInt8)).length from nat_le c609 c610)) (by simp [C0_]) (fl_read0 eS_len (ix_lt c620 c618) rfl))) rfl rfl rfl ?_
       refine ent_value (ov_assign rfl) rfl rfl rfl (ent_nil (ent_region (ent_value (ov_move rfl) rfl rfl rfl (ent_value (ov_move rfl) rfl rfl rfl ?_))))
       obtain ⟨x378,h342,H88⟩ := Option.bind_eq_some_iff.1 H88
       refine ent_pick [1,2,0,3] (by decide) rfl ?_
       refine ent_op (ot_call (Lr := [A0,box b65 93 C0_]) (first := [pt b58 0]) (cap := []) (xs := [.tmp 60]) rfl rfl F_call_136 rfl (pack_Writer_Text_O.spec K b58 sv423 l89 (([((l0.getD i45.toNat z_Api_Fact).Key).Dims_0,((l0.getD i45.toNat z_Api_Fact).Key).Dims_1,((l0.getD i45.toNat z_Api_Fact).Key).Dims_2,((l0.getD i45.toNat z_Api_Fact).Key).Dims_3].take a1.toNat).getD i53.toNat []) _ h342) rfl) rfl rfl rfl ?_
       rintro _ _ ⟨_,⟨sv427,rfl,rfl⟩,rfl⟩
       refine ent_nil (ent_region (ent_value (ov_bin rfl rfl (b_add _ _ _) ) rfl rfl rfl (ent_value (ov_move rfl) rfl rfl rfl (ent_nil ?_))))
       exact ent_fin [2,0,1,3] (by decide) rfl (sub_cons (t := 1) rfl (sub_cons (t := 8) rfl (sub_cons (t := 9) rfl (sub_cons (t := 10) rfl (sub_cons (t := 11) rfl (sub_cons (t := 13) rfl (sub_cons (t := 38) rfl (sub_cons (t := 39) rfl (sub_cons (t := 40) rfl (sub_cons (t := 53) rfl (sub_cons (t := 54) rfl (sub_cons (t := 55) rfl (sub_nil _))))))))))))) fun a w h => ⟨k,Nat.lt_succ_self k,_,_,_,H88,h⟩
    ·refine ent_exi fun sv420 => ent_exi fun b66 => ?_
     refine ent_region (ent_value (ov_move rfl) rfl rfl rfl (ent_value (ov_fieldAddr (sz := 0) (o := 0) rfl F_field_93_1 F_size_2) rfl rfl rfl (ent_value (ov_load (v := (I ((l0.getD i45.toNat z_Api_Fact).Value))) rfl F_agg_2 (reads_box1 (i := 3) rfl rfl)) rfl rfl rfl ?_)))
     obtain ⟨x379,h343,H85⟩ := Option.bind_eq_some_iff.1 H85
     refine ent_pick [1,2,0,3] (by decide) rfl ?_
     refine ent_op (ot_call (Lr := [A0,box b66 93 C0_]) (first := [pt b58 0]) (cap := []) (xs := [.tmp 65]) rfl rfl F_call_137 rfl (pack_Writer_Int_O.spec K b58 sv420 x372 ((l0.getD i45.toNat z_Api_Fact).Value) _ h343) rfl) rfl rfl rfl ?_
     rintro _ _ ⟨_,⟨sv428,rfl,rfl⟩,rfl⟩
     refine ent_nil ?_
     cases H85
     exact ent_fin [2,0,1] (by decide) rfl (sub_cons (t := 1) rfl (sub_cons (t := 8) rfl (sub_cons (t := 9) rfl (sub_cons (t := 10) rfl (sub_cons (t := 11) rfl (sub_cons (t := 38) rfl (sub_cons (t := 39) rfl (sub_cons (t := 40) rfl (sub_nil _))))))))) fun a w h => ⟨_,h⟩
   ·refine ent_exi fun sv411 => ?_
    refine ent_region (ent_value (ov_bin rfl rfl (b_add _ _ _) ) rfl rfl rfl (ent_value (ov_move rfl) rfl rfl rfl (ent_nil ?_)))
    exact ent_fin [0,1,2] (by decide) rfl (sub_cons (t := 1) rfl (sub_cons (t := 8) rfl (sub_cons (t := 9) rfl (sub_cons (t := 10) rfl (sub_cons (t := 11) rfl (sub_cons (t := 38) rfl (sub_cons (t := 39) rfl (sub_cons (t := 40) rfl (sub_nil _))))))))) fun a w h => ⟨k,Nat.lt_succ_self k,_,_,_,_,H81,h⟩

theorem crc_More_1.spec (p0 : Nat) (p0_0 r : Int) (H : crc_More_1 p0_0 = r) : FnSpec Try.prog 183 [pt p0 0] [box p0 242 [int .u32 p0_0]] (fun v M => v = (tU #[]) ∧ M = [box p0 242 [int .u32 r]]) := by
 unfold crc_More_1 at H
 refine spec_of Try.func183 rfl 8 rfl (Nat.le_of_ble_eq_true rfl) fun F w0 => ?_
 show Ent (St 8 w0 F [(0,pt p0 0)] [box p0 242 [int .u32 p0_0]]) _
 refine ent_region (ent_value (ov_load (v := (int .u32 p0_0)) rfl F_agg_242 (reads_box1 (i := 0) rfl rfl)) rfl rfl rfl ?_)
 refine ent_value (ov_bin rfl rfl fun w => b_shr _ _ _ _ w (by decide)) rfl rfl rfl ?_
 refine ent_value (ov_load (v := (int .u32 p0_0)) rfl F_agg_242 (reads_box1 (i := 0) rfl rfl)) rfl rfl rfl (ent_value (ov_bin rfl rfl (b_and _ _ _)) rfl rfl rfl (ent_value (ov_un rfl (u_neg _ _)) rfl rfl rfl (ent_value (ov_bin rfl rfl (b_and _ _ _)) rfl rfl rfl (ent_value (ov_bin rfl rfl (b_xor _ _ _)) rfl rfl rfl ?_))))
 refine ent_op0 (ot_storeG (cs := [int .u32 p0_0]) (cs' := [int .u32 (bXor .u32 (bShr .u32 p0_0 1) (bAnd .u32 3988292384 (wu32 (0 - (bAnd .u32 p0_0 1)))))]) (us := [int .u32 (bXor .u32 (bShr .u32 p0_0 1) (bAnd .u32 3988292384 (wu32 (0 - (bAnd .u32 p0_0 1)))))]) (L' := [box p0 242 [int .u32 (bXor .u32 (bShr .u32 p0_0 1) (bAnd .u32 3988292384 (wu32 (0 - (bAnd .u32 p0_0 1)))))]]) 0 rfl rfl rfl (one_all rfl) F_size_242 rfl rfl (by simp) rfl) rfl rfl ?_
 rintro _ _ rfl
 refine ent_nil ?_
 cases H
 refine ret_normal ?_
 refine ent_pick [0] (by decide) rfl ?_
 exact ret_none rfl ⟨rfl,rfl⟩

theorem crc_More_R.spec (K : Nat) (sv0 : Value) (A0 : HP) (a0 : Int) (l0 : List Int) (hA0 : IsRd A0 sv0 l0.length 1 (fl (eI .u8) l0)) (r : Int) (H : crc_More_R K a0 l0 = some r) : FnSpec Try.prog 178 [int .u32 a0,sv0] [A0] (fun v M => v = (int .u32 r) ∧ M = [A0]) := by
 unfold crc_More_R at H
 refine spec_of Try.func178 rfl 30 rfl (Nat.le_of_ble_eq_true rfl) fun F w0 => ?_
 show Ent (St 30 w0 F [(0,int .u32 a0),(1,sv0)] [A0]) _
 refine ent_seq (ent_region (ent_value (ov_assign rfl) rfl rfl rfl (ent_nil (ent_seq (ent_region (ent_value (ov_move rfl) rfl rfl rfl (ent_value (ov_un rfl (u_xor _ _)) rfl rfl rfl ?_)))))))
 refine ent_op (ot_alloc F_zero_242) rfl rfl rfl ?_
 rintro _ _ ⟨b6,rfl,rfl⟩
 refine ent_op0 (ot_storeG (cs := [int .u32 0]) (cs' := [int .u32 (bXor .u32 (IntKind.max .u32) a0)]) (us := [int .u32 (bXor .u32 (IntKind.max .u32) a0)]) (L' := [box b6 242 [int .u32 (bXor .u32 (IntKind.max .u32) a0)],A0]) 0 rfl rfl rfl (one_all rfl) F_size_242 rfl rfl (by simp) rfl) rfl rfl ?_
 rintro _ _ rfl
 refine ent_nil (ent_seq (ent_region (ent_value (ov_makeFunc (first := []) (cap := [.tmp 5]) rfl rfl) rfl rfl rfl (ent_value (ov_assign rfl) rfl rfl rfl (ent_nil (ent_seq (ent_seq (ent_region (ent_value (ov_move rfl) rfl rfl rfl (ent_value (ov_len 1 rfl F_slice_124 rfl hA0) rfl rfl rfl (ent_value (ov_move rfl) rfl rfl rfl ?_)))))))))))
 refine ent_nil (ent_block ?_)
 refine ent_loop (fun k a w => ∃ i57,∃ i58,∃ b10 : Nat,crc_More_R_l0 K l0 k i57 i58 = some r ∧ St 30 w0 F [(5,pt b10 0),(6,(Value.func (.func 183) #[] #[pt b10 0])),(12,sv0),(13,I (l0.length : Int)),(14,I i57)] [A0,box b10 242 [int .u32 i58]] a w) K ?_ ?_
 ·exact ent_fin [1,0] (by decide) rfl (sub_cons (t := 5) rfl (sub_cons (t := 6) rfl (sub_cons (t := 12) rfl (sub_cons (t := 13) rfl (sub_cons (t := 14) rfl (sub_nil _)))))) fun a w h => ⟨_,_,_,H,h⟩
 ·refine fun k => ent_exi fun i57 => ent_exi fun i58 => ent_exi fun b10 => ent_and fun H37 => ?_
  cases k with
  | zero => exact absurd H37 (by simp [crc_More_R_l0])
  | succ k =>
   rw [crc_More_R_l0] at H37
   refine ent_seq (ent_region (ent_value (ov_bin rfl rfl (b_lss _ _ _)) rfl rfl rfl (ent_nil (ent_seq ?_))))
   refine htF H37 (fun c126 H37 => ?_) fun c126 H37 => ?_
   ·refine ent_cond_false rfl (decide_eq_false c126) (ent_exit (ent_seq (ent_region (ent_value (ov_load (v := (int .u32 i58)) rfl F_agg_242 (reads_box1 (i := 1) rfl rfl)) rfl rfl rfl (ent_value (ov_un rfl (u_xor _ _)) rfl rfl rfl (ent_value (ov_assign rfl) rfl rfl rfl (ent_nil (ent_retc ?_))))))))
    cases H37
    refine ent_pick [0] (by decide) rfl ?_
    exact ret_tmp rfl rfl ⟨rfl,rfl⟩
   refine ent_cond_true rfl (decide_eq_true c126) (ent_skip ?_)
   obtain ⟨x150,H39,H37⟩ := Option.bind_eq_some_iff.1 H37
   refine ent_seq_cut (fun a w => St 30 w0 F [(5,pt b10 0),(6,(Value.func (.func 183) #[] #[pt b10 0])),(12,sv0),(13,I (l0.length : Int)),(14,I i57)] [A0,box b10 242 [int .u32 x150]] a w) ?_ ?_
   ·refine ent_block (ent_seq (ent_region ?_))
    obtain ⟨c132,H39⟩ := gdT H39
    refine ent_value (ov_indexAddr (sz := 0) 0 rfl rfl F_slice_124 F_size_5 rfl hA0 c132 c126) rfl rfl rfl ?_
    refine ent_value (ov_load (v := (int .u8 (l0.getD i57.toNat 0))) rfl F_agg_5 (reads_rd (i := 0) rfl hA0 (by simp) (fl_read0 (eI_len _) (ix_lt c132 c126) rfl))) rfl rfl rfl ?_
    refine ent_value (ov_assign rfl) rfl rfl rfl (ent_nil (ent_seq (ent_region (ent_value (ov_load (v := (int .u32 i58)) rfl F_agg_242 (reads_box1 (i := 1) rfl rfl)) rfl rfl rfl (ent_value (ov_move rfl) rfl rfl rfl (ent_value (ov_convert rfl (c_int Try.underlying5 Try.underlying242)) rfl rfl rfl (ent_value (ov_bin rfl rfl (b_xor _ _ _)) rfl rfl rfl ?_)))))))
    refine ent_op0 (ot_storeG (cs := [int .u32 i58]) (cs' := [int .u32 (bXor .u32 i58 (wu32 (l0.getD i57.toNat 0)))]) (us := [int .u32 (bXor .u32 i58 (wu32 (l0.getD i57.toNat 0)))]) (L' := [A0,box b10 242 [int .u32 (bXor .u32 i58 (wu32 (l0.getD i57.toNat 0)))]]) 1 rfl rfl rfl (one_all rfl) F_size_242 rfl rfl (by simp) rfl) rfl rfl ?_
    rintro _ _ rfl
    refine ent_nil (ent_seq (ent_region (ent_value (ov_move rfl) rfl rfl rfl (ent_nil (ent_block ?_)))))
    refine ent_loop (fun k a w => ∃ i67,∃ i68,crc_More_R_l1 K k i67 i68 = some x150 ∧ St 30 w0 F [(5,pt b10 0),(6,(Value.func (.func 183) #[] #[pt b10 0])),(12,sv0),(13,I (l0.length : Int)),(14,I i57),(22,I i67)] [A0,box b10 242 [int .u32 i68]] a w) K ?_ ?_
    ·exact ent_fin [0,1] (by decide) rfl (sub_cons (t := 5) rfl (sub_cons (t := 6) rfl (sub_cons (t := 12) rfl (sub_cons (t := 13) rfl (sub_cons (t := 14) rfl (sub_cons (t := 22) rfl (sub_nil _))))))) fun a w h => ⟨_,_,H39,h⟩
    ·refine fun k => ent_exi fun i67 => ent_exi fun i68 => ent_and fun H40 => ?_
     cases k with
     | zero => exact absurd H40 (by simp [crc_More_R_l1])
     | succ k =>
      rw [crc_More_R_l1] at H40
      refine ent_seq (ent_region (ent_value (ov_bin rfl rfl (b_lss _ _ _)) rfl rfl rfl (ent_nil (ent_seq ?_))))
      refine htF H40 (fun c136 H40 => ?_) fun c136 H40 => ?_
      ·refine ent_cond_false rfl (decide_eq_false c136) (ent_exit ?_)
       cases H40
       exact ent_fin [0,1] (by decide) rfl (sub_cons (t := 5) rfl (sub_cons (t := 6) rfl (sub_cons (t := 12) rfl (sub_cons (t := 13) rfl (sub_cons (t := 14) rfl (sub_nil _)))))) fun a w h => h
      refine ent_cond_true rfl (decide_eq_true c136) (ent_skip (ent_seq (ent_block (ent_region (ent_value (ov_move rfl) rfl rfl rfl ?_)))))
      obtain ⟨x156,h144,H40⟩ := thn_elim H40
      refine ent_pick [1,0] (by decide) rfl ?_
      refine ent_op (ot_call (Lr := [A0]) (first := []) (cap := [pt b10 0]) (xs := []) rfl rfl F_call_183 rfl (crc_More_1.spec b10 i68 _ h144) rfl) rfl rfl rfl ?_
      rintro _ _ ⟨_,⟨rfl,rfl⟩,rfl⟩
      refine ent_nil (ent_region (ent_value (ov_bin rfl rfl (b_add _ _ _) ) rfl rfl rfl (ent_value (ov_move rfl) rfl rfl rfl (ent_nil ?_))))
      exact ent_fin [1,0] (by decide) rfl (sub_cons (t := 5) rfl (sub_cons (t := 6) rfl (sub_cons (t := 12) rfl (sub_cons (t := 13) rfl (sub_cons (t := 14) rfl (sub_cons (t := 22) rfl (sub_nil _))))))) fun a w h => ⟨k,Nat.lt_succ_self k,_,_,H40,h⟩
   ·refine ent_region (ent_value (ov_bin rfl rfl (b_add _ _ _) ) rfl rfl rfl (ent_value (ov_move rfl) rfl rfl rfl (ent_nil ?_)))
    exact ent_fin [0,1] (by decide) rfl (sub_cons (t := 5) rfl (sub_cons (t := 6) rfl (sub_cons (t := 12) rfl (sub_cons (t := 13) rfl (sub_cons (t := 14) rfl (sub_nil _)))))) fun a w h => ⟨k,Nat.lt_succ_self k,_,_,_,H37,h⟩

theorem crc_Sum_R.spec (K : Nat) (sv0 : Value) (A0 : HP) (l0 : List Int) (hA0 : IsRd A0 sv0 l0.length 1 (fl (eI .u8) l0)) (r : Int) (H : crc_Sum_R K l0 = some r) : FnSpec Try.prog 166 [sv0] [A0] (fun v M => v = (int .u32 r) ∧ M = [A0]) := by
 unfold crc_Sum_R at H
 refine spec_of Try.func166 rfl 5 rfl (Nat.le_of_ble_eq_true rfl) fun F w0 => ?_
 show Ent (St 5 w0 F [(0,sv0)] [A0]) _
 refine ent_seq (ent_region (ent_value (ov_assign rfl) rfl rfl rfl (ent_nil (ent_seq (ent_region (ent_value (ov_move rfl) rfl rfl rfl ?_))))))
 obtain ⟨x2,h2,H⟩ := Option.bind_eq_some_iff.1 H
 refine ent_op (ot_call_same (Lr := []) [0] [0] (first := []) (cap := []) (xs := [.const (int .u32 0),.tmp 3]) rfl rfl F_call_178 rfl (crc_More_R.spec K sv0 A0 0 l0 hA0 _ h2) (by decide) rfl (by decide) rfl) rfl rfl rfl ?_
 rintro _ _ ⟨rfl,rfl⟩
 refine ent_value (ov_assign rfl) rfl rfl rfl (ent_nil (ent_retc ?_))
 cases H
 refine ent_pick [0] (by decide) rfl ?_
 exact ret_tmp rfl rfl ⟨rfl,rfl⟩

theorem crc_Put_R.spec (K : Nat) (sv0 : Value) (A0 : HP) (l0 : List Int) (hA0 : IsRd A0 sv0 l0.length 1 (fl (eI .u8) l0)) (r : List Int) (H : crc_Put_R K l0 = some r) : FnSpec Try.prog 138 [sv0] [A0] (fun v M => ∃ sv28 : Value,v = sv28 ∧ M = [A0,own sv28 5 1 r.length (fl (eI .u8) r)]) := by
 unfold crc_Put_R at H
 refine spec_of Try.func138 rfl 23 rfl (Nat.le_of_ble_eq_true rfl) fun F w0 => ?_
 show Ent (St 23 w0 F [(0,sv0)] [A0]) _
 refine ent_seq (ent_region (ent_value (ov_assign rfl) rfl rfl rfl (ent_nil (ent_seq (ent_region (ent_value (ov_move rfl) rfl rfl rfl ?_))))))
 obtain ⟨x3,h3,H⟩ := Option.bind_eq_some_iff.1 H
 refine ent_op (ot_call (Lr := []) (first := []) (cap := []) (xs := [.tmp 6]) rfl rfl F_call_139 rfl (bytes_Clone_R.spec sv0 A0 l0 hA0 _ h3) rfl) rfl rfl rfl ?_
 rintro sv29 _ ⟨_,⟨_,rfl,rfl⟩,rfl⟩
 refine ent_value (ov_assign rfl) rfl rfl rfl (ent_nil (ent_seq (ent_region (ent_value (ov_move rfl) rfl rfl rfl ?_))))
 obtain ⟨x4,h4,H⟩ := Option.bind_eq_some_iff.1 H
 refine ent_op (ot_call_same (Lr := [own sv29 5 1 x3.length (fl (eI .u8) x3)]) [0,1] [0,1] (first := []) (cap := []) (xs := [.tmp 8]) rfl rfl F_call_166 rfl (crc_Sum_R.spec K sv0 A0 l0 hA0 _ h4) (by decide) rfl (by decide) rfl) rfl rfl rfl ?_
 rintro _ _ ⟨rfl,rfl⟩
 refine ent_value (ov_assign rfl) rfl rfl rfl (ent_nil (ent_seq (ent_seq (ent_region (ent_value (ov_move rfl) rfl rfl rfl (ent_nil (ent_block ?_)))))))
 refine ent_loop (fun k a w => ∃ i4,∃ l5,∃ sv47 : Value,crc_Put_R_l0 K x4 k i4 l5 = some r ∧ St 23 w0 F [(3,sv47),(4,int .u32 x4),(10,I i4)] [A0,own sv47 5 1 l5.length (fl (eI .u8) l5)] a w) K ?_ ?_
 ·exact ent_fin [0,1] (by decide) rfl (sub_cons (t := 3) rfl (sub_cons (t := 4) rfl (sub_cons (t := 10) rfl (sub_nil _)))) fun a w h => ⟨_,_,_,H,h⟩
 ·refine fun k => ent_exi fun i4 => ent_exi fun l5 => ent_exi fun sv47 => ent_and fun H4 => ?_
  cases k with
  | zero => exact absurd H4 (by simp [crc_Put_R_l0])
  | succ k =>
   rw [crc_Put_R_l0] at H4
   refine ent_seq (ent_region (ent_value (ov_bin rfl rfl (b_lss _ _ _)) rfl rfl rfl (ent_nil (ent_seq ?_))))
   refine htF H4 (fun c52 H4 => ?_) fun c52 H4 => ?_
   ·refine ent_cond_false rfl (decide_eq_false c52) (ent_exit (ent_seq (ent_region (ent_value (ov_move rfl) rfl rfl rfl (ent_value (ov_assign rfl) rfl rfl rfl (ent_nil (ent_retc ?_)))))))
    cases H4
    refine ent_pick [0,1] (by decide) rfl ?_
    exact ret_tmp rfl rfl ⟨_,rfl,rfl⟩
   refine ent_cond_true rfl (decide_eq_true c52) (ent_skip (ent_seq (ent_block (ent_seq (ent_region (ent_value (ov_move rfl) rfl rfl rfl (ent_value (ov_assign rfl) rfl rfl rfl (ent_nil (ent_region (ent_value (ov_move rfl) rfl rfl rfl (ent_value (ov_move rfl) rfl rfl rfl ?_)))))))))))
   refine ent_value (ov_move rfl) rfl rfl rfl (ent_value (ov_bin rfl rfl (b_mul _ _ _) ) rfl rfl rfl ?_)
   obtain ⟨c55,H4⟩ := gdT H4
   refine ent_value (ov_bin rfl rfl fun w => b_shr _ _ _ _ w c55) rfl rfl rfl ?_
   refine ent_value (ov_convert rfl (c_int Try.underlying242 Try.underlying5)) rfl rfl rfl ?_
   refine ent_op (ot_buildSlice (sz := 0) (xs := [.tmp 18]) (cs := fl (eI .u8) [wu8 (bShr .u32 x4 (w64 (8 * i4)))]) rfl rfl F_slice_124 F_size_5 F_zero_5 rfl rfl (all_size rfl) rfl (by decide)) rfl rfl rfl ?_
   rintro sv54 _ rfl
   obtain ⟨c56,H4⟩ := gdT H4
   refine ent_op (ot_appendx (sz := 0) (xs := l5) (ys := [wu8 (bShr .u32 x4 (w64 (8 * i4)))]) 2 0 rfl rfl F_slice_124 F_size_5 F_zero_5 rfl F_bytes_5 rfl rfl rfl (isRd_ownx 5) rfl (eI_one _) c56) rfl rfl rfl ?_
   rintro sv55 _ rfl
   refine ent_L [own sv54 5 1 [wu8 (bShr .u32 x4 (w64 (8 * i4)))].length (fl (eI .u8) [wu8 (bShr .u32 x4 (w64 (8 * i4)))]),A0,own sv55 5 1 (l5 ++ [wu8 (bShr .u32 x4 (w64 (8 * i4)))]).length (fl (eI .u8) (l5 ++ [wu8 (bShr .u32 x4 (w64 (8 * i4)))]))] rfl ?_
   refine ent_value (ov_assign rfl) rfl rfl rfl (ent_nil (ent_region (ent_value (ov_bin rfl rfl (b_add _ _ _) ) rfl rfl rfl (ent_value (ov_move rfl) rfl rfl rfl (ent_nil ?_)))))
   exact ent_fin [1,2] (by decide) rfl (sub_cons (t := 3) rfl (sub_cons (t := 4) rfl (sub_cons (t := 10) rfl (sub_nil _)))) fun a w h => ⟨k,Nat.lt_succ_self k,_,_,_,H4,h⟩

theorem frame_Put_R.spec (K : Nat) (sv0 : Value) (A0 : HP) (l0 : List Int) (hA0 : IsRd A0 sv0 l0.length 1 (fl (eI .u8) l0)) (r : List Int) (H : frame_Put_R K l0 = some r) : FnSpec Try.prog 114 [sv0] [A0] (fun v M => ∃ sv5 : Value,v = sv5 ∧ M = [A0,own sv5 5 1 r.length (fl (eI .u8) r)]) := by
 unfold frame_Put_R at H
 refine spec_of Try.func114 rfl 12 rfl (Nat.le_of_ble_eq_true rfl) fun F w0 => ?_
 show Ent (St 12 w0 F [(0,sv0)] [A0]) _
 refine ent_seq (ent_region (ent_value (ov_assign rfl) rfl rfl rfl (ent_nil (ent_seq (ent_region ?_)))))
 refine ent_op (ot_alloc F_zero_205) rfl rfl rfl ?_
 rintro _ _ ⟨b2,rfl,rfl⟩
 refine ent_nil (ent_seq (ent_region (ent_value (ov_move rfl) rfl rfl rfl (ent_value (ov_len 1 rfl F_slice_124 rfl hA0) rfl rfl rfl (ent_value (ov_convert rfl (c_int Try.underlying3 Try.underlying78)) rfl rfl rfl ?_)))))
 obtain ⟨x4,h4,H⟩ := Option.bind_eq_some_iff.1 H
 refine ent_op (ot_call (Lr := [A0]) (first := []) (cap := []) (xs := [.tmp 3,.tmp 6]) rfl rfl F_call_112 rfl (pack_Writer_Num_N.spec K b2 (wu64 (l0.length : Int)) _ h4) rfl) rfl rfl rfl ?_
 rintro _ _ ⟨_,⟨sv6,rfl,rfl⟩,rfl⟩
 obtain ⟨x5,h5,H⟩ := Option.bind_eq_some_iff.1 H
 refine ent_op (ot_call (Lr := [A0]) (first := []) (cap := []) (xs := [.tmp 7]) rfl rfl F_call_115 rfl (pack_Writer_Bytes_O.spec b2 sv6 x4 _ h5) rfl) rfl rfl rfl ?_
 rintro sv7 _ ⟨_,⟨_,rfl,rfl⟩,rfl⟩
 refine ent_value (ov_move rfl) rfl rfl rfl ?_
 obtain ⟨x6,h6,H⟩ := Option.bind_eq_some_iff.1 H
 refine ent_pick [3,0,1,2] (by decide) rfl ?_
 refine ent_op (ot_call (Lr := [box b2 205 [sv6],own sv6 5 1 x4.length (fl (eI .u8) x4),own sv7 5 1 x5.length (fl (eI .u8) x5)]) (first := []) (cap := []) (xs := [.tmp 9]) rfl rfl F_call_138 rfl (crc_Put_R.spec K sv0 A0 l0 hA0 _ h6) rfl) rfl rfl rfl ?_
 rintro sv8 _ ⟨_,⟨_,rfl,rfl⟩,rfl⟩
 obtain ⟨c2,H⟩ := gdT H
 refine ent_op (ot_appendx (sz := 0) (xs := x5) (ys := x6) 4 1 rfl rfl F_slice_124 F_size_5 F_zero_5 rfl F_bytes_5 rfl rfl rfl (isRd_ownx 5) rfl (eI_one _) c2) rfl rfl rfl ?_
 rintro sv9 _ rfl
 refine ent_L [A0,own sv8 5 1 x6.length (fl (eI .u8) x6),box b2 205 [sv6],own sv6 5 1 x4.length (fl (eI .u8) x4),own sv9 5 1 (x5 ++ x6).length (fl (eI .u8) (x5 ++ x6))] rfl ?_
 refine ent_value (ov_assign rfl) rfl rfl rfl (ent_nil (ent_retc ?_))
 cases H
 refine ent_pick [0,4] (by decide) rfl ?_
 exact ret_tmp rfl rfl ⟨_,rfl,rfl⟩

theorem wal_Record_R.spec (K : Nat) (sv0 : Value) (A0 : HP) (a0_0 a0_1 a0_2 : Int) (l0 : List Api_Fact) (a1 : Int) (hA0 : IsRd A0 sv0 l0.length 6 (fl enc_Api_Fact l0)) (r : (Int × (List Int))) (H : wal_Record_R K a0_0 a0_1 a0_2 l0 a1 = some r) : FnSpec Try.prog 87 [agg #[I a0_0,I a0_1,I a0_2,sv0],I a1] [A0] (fun v M => ∃ sv9 : Value,v = (tU #[sv9,I r.1]) ∧ M = [A0,own sv9 5 1 r.2.length (fl (eI .u8) r.2)]) := by
 unfold wal_Record_R at H
 refine spec_of Try.func87 rfl 43 rfl (Nat.le_of_ble_eq_true rfl) fun F w0 => ?_
 show Ent (St 43 w0 F [(0,agg #[I a0_0,I a0_1,I a0_2,sv0]),(1,I a1)] [A0]) _
 refine ent_seq (ent_region ?_)
 refine ent_op (ot_box (cs := [I a0_0,I a0_1,I a0_2,sv0]) rfl rfl) rfl rfl rfl ?_
 rintro _ _ ⟨b3,rfl,rfl⟩
 refine ent_value (ov_assign rfl) rfl rfl rfl (ent_value (ov_assign rfl) rfl rfl rfl (ent_nil (ent_seq (ent_seq (ent_region (ent_value (ov_load_agg (vs := [I a0_0,I a0_1,I a0_2,sv0]) rfl F_agg_66 F_size_66 (reads_boxW (i := 0) rfl)) rfl rfl rfl (ent_value (ov_move rfl) rfl rfl rfl ?_)))))))
 obtain ⟨x11,h11,H⟩ := Option.bind_eq_some_iff.1 H
 refine ent_op (ot_call_same (Lr := [box b3 66 [I a0_0,I a0_1,I a0_2,sv0]]) [1,0] [1,0] (first := []) (cap := []) (xs := [.tmp 9,.tmp 10]) rfl rfl F_call_53 rfl (wal_Right_R.spec K sv0 A0 a0_0 a0_1 a0_2 l0 a1 hA0 _ h11) (by decide) rfl (by decide) rfl) rfl rfl rfl ?_
 rintro _ _ ⟨rfl,rfl⟩
 refine ent_value (ov_un rfl (u_not _)) rfl rfl rfl (ent_nil ?_)
 refine htT H (fun c7 H => ?_) fun c7 H => ?_
 ·refine ent_cond_true rfl c7 (ent_seq (ent_region (ent_value (ov_assign rfl) rfl rfl rfl (ent_value (ov_assign rfl) rfl rfl rfl (ent_nil (ent_retc ?_))))))
  cases H
  refine ent_ownnil 5 1 ?_
  refine ent_pick [2,0] (by decide) rfl ?_
  exact ret_mem (vs := [L0,I 1]) rfl ⟨rfl,⟨rfl,trivial⟩⟩ _ rfl ⟨_,rfl,rfl⟩
 refine ent_cond_false rfl (Bool.eq_false_iff.2 c7) (ent_skip (ent_seq (ent_region (ent_value (ov_build (is := []) (xs := []) (vs := []) rfl rfl (build_struct (cs := [L0]) F_zero_205 F_places_205 rfl)) rfl rfl rfl ?_))))
 refine ent_op (ot_box (cs := [L0]) rfl rfl) rfl rfl rfl ?_
 rintro _ _ ⟨b4,rfl,rfl⟩
 refine ent_value (ov_assign rfl) rfl rfl rfl (ent_nil (ent_seq ?_))
 obtain ⟨x12,h12,H⟩ := Option.bind_eq_some_iff.1 H
 obtain ⟨x13,h13,H⟩ := Option.bind_eq_some_iff.1 H
 obtain ⟨x14,h14,H⟩ := Option.bind_eq_some_iff.1 H
 let Z2_T : DT := fun ga2 => [(0,15,pt b4 0),(1,16,pt b3 0),(2,17,I a0_0),(3,18,int .u64 (wu64 a0_0)),(4,19,pt b4 0),(5,20,pt b3 1),(6,21,I a0_1),(7,22,int .u64 (wu64 a0_1)),(8,23,pt b4 0),(9,24,pt b3 2),(10,25,I a0_2),(11,26,int .u64 (wu64 a0_2)),(12,27,pt b4 0)]
 let Z2_L : DL := fun ga2 done => [sel (done 12) (own (ga2 12) 5 1 x14.length (fl (eI .u8) x14)) (sel (done 8) (own (ga2 8) 5 1 x13.length (fl (eI .u8) x13)) (sel (done 4) (own (ga2 4) 5 1 x12.length (fl (eI .u8) x12)) emp)),sel (done 12) (box b4 205 [(ga2 12)]) (sel (done 8) (box b4 205 [(ga2 8)]) (sel (done 4) (box b4 205 [(ga2 4)]) (box b4 205 [L0]))),box b3 66 [I a0_0,I a0_1,I a0_2,sv0],A0]
 let Z2_I : DI := fun ga2 done a w => StD 43 w0 F [(0,agg #[I a0_0,I a0_1,I a0_2,sv0]),(1,I a1),(2,pt b3 0),(4,L0),(5,I 0),(6,pt b4 0),(9,agg #[I a0_0,I a0_1,I a0_2,sv0]),(10,I a1),(11,bool x11),(12,bool (!x11)),(13,agg #[L0]),(14,pt b4 0)] (Z2_T ga2) done (Z2_L ga2 done) a w
 refine ent_drawm 13 rfl (fun done a w => ∃ ga2 : Nat → Value,Z2_I ga2 done a w) (by kernel_rfl) (by kernel_rfl) (draw_startG (T := Z2_T) (L' := fun ga2 : Nat → Value => [sel false (own (ga2 12) 5 1 x14.length (fl (eI .u8) x14)) (sel false (own (ga2 8) 5 1 x13.length (fl (eI .u8) x13)) (sel false (own (ga2 4) 5 1 x12.length (fl (eI .u8) x12)) emp)),sel false (box b4 205 [(ga2 12)]) (sel false (box b4 205 [(ga2 8)]) (sel false (box b4 205 [(ga2 4)]) (box b4 205 [L0]))),box b3 66 [I a0_0,I a0_1,I a0_2,sv0],A0]) 1 (sub_cons (t := 0) rfl (sub_cons (t := 1) rfl (sub_cons (t := 2) rfl (sub_cons (t := 4) rfl (sub_cons (t := 5) rfl (sub_cons (t := 6) rfl (sub_cons (t := 9) rfl (sub_cons (t := 10) rfl (sub_cons (t := 11) rfl (sub_cons (t := 12) rfl (sub_cons (t := 13) rfl (sub_cons (t := 14) rfl (sub_nil _))))))))))))) (fun _ => rfl)) ?_ ?_
 ·refine ⟨?_,?_,?_,?_,?_,?_,?_,?_,?_,?_,?_,?_,?_,trivial⟩
  ·exact fun done hi hc hcu => draw_exi (I := Z2_I) fun ga2 => draw_value (i := 0) (t := 15) (v := (pt b4 0)) rfl rfl (wanted_none rfl) (fun a => hasA_base) (ov_move rfl) rfl rfl (onlyT_spec (k0 := 0) rfl rfl rfl)
  ·exact fun done hi hc hcu => draw_exi (I := Z2_I) fun ga2 => draw_value (i := 1) (t := 16) (v := (pt b3 0)) rfl rfl (wanted_none rfl) (fun a => hasA_base) (ov_fieldAddr (sz := 0) (o := 0) rfl F_field_66_0 F_size_2) rfl rfl (onlyT_spec (k0 := 1) rfl rfl rfl)
  ·exact fun done hi hc hcu => draw_exi (I := Z2_I) fun ga2 => draw_value (i := 2) (t := 17) (v := (I a0_0)) rfl rfl (wanted_none rfl) (fun a => (hasA_cons (k := 1) rfl (done_of (j := 1) hcu rfl (by decide) rfl) hasA_base)) (ov_load (v := (I a0_0)) rfl F_agg_2 (reads_box1 (i := 2) rfl rfl)) rfl rfl (onlyT_spec (k0 := 2) rfl rfl rfl)
  ·exact fun done hi hc hcu => draw_exi (I := Z2_I) fun ga2 => draw_value (i := 3) (t := 18) (v := (int .u64 (wu64 a0_0))) rfl rfl (wanted_none rfl) (fun a => (hasA_cons (k := 2) rfl (done_of (j := 2) hcu rfl (by decide) rfl) hasA_base)) (ov_convert rfl (c_int Try.underlying2 Try.underlying78)) rfl rfl (onlyT_spec (k0 := 3) rfl rfl rfl)
  ·intro done hi hc hcu
   refine ent_exi (S := fun ga2 => Z2_I ga2 done) fun ga2 => ?_
   have d0 : done 0 = true := done_of (j := 0) hcu rfl (by decide) rfl
   have d3 : done 3 = true := done_of (j := 3) hcu rfl (by decide) rfl
   have n8 : done 8 = false := notdone_of (m := 8) hc hi rfl rfl
   have n12 : done 12 = false := notdone_of (m := 12) hc n8 rfl rfl
   refine draw_turnP (i := 4) (t := 19) (x := ga2) (L := Z2_L) (T := Z2_T) (L2 := [emp,box b4 205 [L0],box b3 66 [I a0_0,I a0_1,I a0_2,sv0],A0]) [1,0,2,3] [1,0,3,4] rfl rfl (wanted_none rfl) (fun a => (hasA_cons (k := 3) rfl d3 (hasA_cons (k := 0) rfl d0 hasA_base))) (by simp only [Z2_T,Z2_L,n8,n12,hi,sel]) (by decide) rfl (ot_call (Lr := [emp,box b3 66 [I a0_0,I a0_1,I a0_2,sv0],A0]) (first := []) (cap := []) (xs := [.tmp 15,.tmp 18]) rfl rfl F_call_112 rfl (pack_Writer_Num_N.spec K b4 (wu64 a0_0) _ h12) rfl) (by decide) rfl rfl ?_
   rintro _ _ ⟨_,⟨g0_,rfl,rfl⟩,rfl⟩
   exact ⟨(upb ga2 4 g0_),show some [own g0_ 5 1 x12.length (fl (eI .u8) x12),box b4 205 [g0_],box b3 66 [I a0_0,I a0_1,I a0_2,sv0],A0] = _ by simp [Z2_T,Z2_L,up,upb,sel,n8,n12,hi],(tr_same rfl rfl (tr_same rfl rfl (tr_same rfl rfl (tr_same rfl rfl (tr_this (tr_same rfl rfl (tr_same rfl rfl (tr_same rfl rfl (tr_same rfl rfl (tr_same rfl rfl (tr_same rfl rfl (tr_same rfl rfl (tr_same rfl rfl tr_nil)))))))))))))⟩
  ·exact fun done hi hc hcu => draw_exi (I := Z2_I) fun ga2 => draw_value (i := 5) (t := 20) (v := (pt b3 1)) rfl rfl (wanted_none rfl) (fun a => hasA_base) (ov_fieldAddr (sz := 0) (o := 0) rfl F_field_66_1 F_size_2) rfl rfl (onlyT_spec (k0 := 5) rfl rfl rfl)
  ·exact fun done hi hc hcu => draw_exi (I := Z2_I) fun ga2 => draw_value (i := 6) (t := 21) (v := (I a0_1)) rfl rfl (wanted_none rfl) (fun a => (hasA_cons (k := 5) rfl (done_of (j := 5) hcu rfl (by decide) rfl) hasA_base)) (ov_load (v := (I a0_1)) rfl F_agg_2 (reads_box1 (i := 2) rfl rfl)) rfl rfl (onlyT_spec (k0 := 6) rfl rfl rfl)
  ·exact fun done hi hc hcu => draw_exi (I := Z2_I) fun ga2 => draw_value (i := 7) (t := 22) (v := (int .u64 (wu64 a0_1))) rfl rfl (wanted_none rfl) (fun a => (hasA_cons (k := 6) rfl (done_of (j := 6) hcu rfl (by decide) rfl) hasA_base)) (ov_convert rfl (c_int Try.underlying2 Try.underlying78)) rfl rfl (onlyT_spec (k0 := 7) rfl rfl rfl)
  ·intro done hi hc hcu
   refine ent_exi (S := fun ga2 => Z2_I ga2 done) fun ga2 => ?_
   have d4 : done 4 = true := done_of (j := 4) hcu rfl (by decide) rfl
   have d7 : done 7 = true := done_of (j := 7) hcu rfl (by decide) rfl
   have n12 : done 12 = false := notdone_of (m := 12) hc hi rfl rfl
   refine draw_turnP (i := 8) (t := 23) (x := ga2) (L := Z2_L) (T := Z2_T) (L2 := [own (ga2 4) 5 1 x12.length (fl (eI .u8) x12),box b4 205 [(ga2 4)],box b3 66 [I a0_0,I a0_1,I a0_2,sv0],A0]) [1,0,2,3] [1,0,2,3] rfl rfl (wanted_none rfl) (fun a => (hasA_cons (k := 7) rfl d7 (hasA_cons (k := 4) rfl d4 hasA_base))) (by simp only [Z2_T,Z2_L,d4,n12,hi,sel]) (by decide) rfl (ot_call (Lr := [box b3 66 [I a0_0,I a0_1,I a0_2,sv0],A0]) (first := []) (cap := []) (xs := [.tmp 19,.tmp 22]) rfl rfl F_call_112 rfl (pack_Writer_Num_O.spec K b4 (ga2 4) x12 (wu64 a0_1) _ h13) rfl) (by decide) rfl rfl ?_
   rintro _ _ ⟨_,⟨g0_,rfl,rfl⟩,rfl⟩
   exact ⟨(upb ga2 8 g0_),show some [own g0_ 5 1 x13.length (fl (eI .u8) x13),box b4 205 [g0_],box b3 66 [I a0_0,I a0_1,I a0_2,sv0],A0] = _ by simp [Z2_T,Z2_L,up,upb,sel,d4,n12,hi],(tr_same rfl rfl (tr_same rfl rfl (tr_same rfl rfl (tr_same rfl rfl (tr_same rfl rfl (tr_same rfl rfl (tr_same rfl rfl (tr_same rfl rfl (tr_this (tr_same rfl rfl (tr_same rfl rfl (tr_same rfl rfl (tr_same rfl rfl tr_nil)))))))))))))⟩
  ·exact fun done hi hc hcu => draw_exi (I := Z2_I) fun ga2 => draw_value (i := 9) (t := 24) (v := (pt b3 2)) rfl rfl (wanted_none rfl) (fun a => hasA_base) (ov_fieldAddr (sz := 0) (o := 0) rfl F_field_66_2 F_size_2) rfl rfl (onlyT_spec (k0 := 9) rfl rfl rfl)
  ·exact fun done hi hc hcu => draw_exi (I := Z2_I) fun ga2 => draw_value (i := 10) (t := 25) (v := (I a0_2)) rfl rfl (wanted_none rfl) (fun a => (hasA_cons (k := 9) rfl (done_of (j := 9) hcu rfl (by decide) rfl) hasA_base)) (ov_load (v := (I a0_2)) rfl F_agg_2 (reads_box1 (i := 2) rfl rfl)) rfl rfl (onlyT_spec (k0 := 10) rfl rfl rfl)
  ·exact fun done hi hc hcu => draw_exi (I := Z2_I) fun ga2 => draw_value (i := 11) (t := 26) (v := (int .u64 (wu64 a0_2))) rfl rfl (wanted_none rfl) (fun a => (hasA_cons (k := 10) rfl (done_of (j := 10) hcu rfl (by decide) rfl) hasA_base)) (ov_convert rfl (c_int Try.underlying2 Try.underlying78)) rfl rfl (onlyT_spec (k0 := 11) rfl rfl rfl)
  ·intro done hi hc hcu
   refine ent_exi (S := fun ga2 => Z2_I ga2 done) fun ga2 => ?_
   have d8 : done 8 = true := done_of (j := 8) hcu rfl (by decide) rfl
   have d11 : done 11 = true := done_of (j := 11) hcu rfl (by decide) rfl
   have d4 : done 4 = true := done_step (i := 8) (j := 4) hc d8 rfl rfl
   refine draw_turnP (i := 12) (t := 27) (x := ga2) (L := Z2_L) (T := Z2_T) (L2 := [own (ga2 8) 5 1 x13.length (fl (eI .u8) x13),box b4 205 [(ga2 8)],box b3 66 [I a0_0,I a0_1,I a0_2,sv0],A0]) [1,0,2,3] [1,0,2,3] rfl rfl (wanted_none rfl) (fun a => (hasA_cons (k := 11) rfl d11 (hasA_cons (k := 8) rfl d8 hasA_base))) (by simp only [Z2_T,Z2_L,d4,d8,hi,sel]) (by decide) rfl (ot_call (Lr := [box b3 66 [I a0_0,I a0_1,I a0_2,sv0],A0]) (first := []) (cap := []) (xs := [.tmp 23,.tmp 26]) rfl rfl F_call_112 rfl (pack_Writer_Num_O.spec K b4 (ga2 8) x13 (wu64 a0_2) _ h14) rfl) (by decide) rfl rfl ?_
   rintro _ _ ⟨_,⟨g0_,rfl,rfl⟩,rfl⟩
   exact ⟨(upb ga2 12 g0_),show some [own g0_ 5 1 x14.length (fl (eI .u8) x14),box b4 205 [g0_],box b3 66 [I a0_0,I a0_1,I a0_2,sv0],A0] = _ by simp [Z2_T,Z2_L,up,upb,sel,d4,d8,hi],(tr_same rfl rfl (tr_same rfl rfl (tr_same rfl rfl (tr_same rfl rfl (tr_same rfl rfl (tr_same rfl rfl (tr_same rfl rfl (tr_same rfl rfl (tr_same rfl rfl (tr_same rfl rfl (tr_same rfl rfl (tr_same rfl rfl (tr_this tr_nil)))))))))))))⟩
 ·intro done hall
  refine ent_exi (S := fun ga2 => Z2_I ga2 done) fun ga2 => ?_
  refine draw_endL [own (ga2 12) 5 1 x14.length (fl (eI .u8) x14),box b4 205 [(ga2 12)],box b3 66 [I a0_0,I a0_1,I a0_2,sv0],A0] (by simp only [Z2_T,Z2_L,hall 4 (by decide),hall 8 (by decide),hall 12 (by decide),sel]) (fun a => (hasA_cons (k := 0) rfl (hall 0 (by decide)) (hasA_cons (k := 1) rfl (hall 1 (by decide)) (hasA_cons (k := 2) rfl (hall 2 (by decide)) (hasA_cons (k := 3) rfl (hall 3 (by decide)) (hasA_cons (k := 4) rfl (hall 4 (by decide)) (hasA_cons (k := 5) rfl (hall 5 (by decide)) (hasA_cons (k := 6) rfl (hall 6 (by decide)) (hasA_cons (k := 7) rfl (hall 7 (by decide)) (hasA_cons (k := 8) rfl (hall 8 (by decide)) (hasA_cons (k := 9) rfl (hall 9 (by decide)) (hasA_cons (k := 10) rfl (hall 10 (by decide)) (hasA_cons (k := 11) rfl (hall 11 (by decide)) (hasA_cons (k := 12) rfl (hall 12 (by decide)) hasA_base)))))))))))))) ?_
  refine ent_seq (ent_region (ent_value (ov_fieldAddr (sz := 0) (o := 0) rfl F_field_66_3 F_size_46) rfl rfl rfl (ent_value (ov_load (v := sv0) rfl F_agg_46 (reads_box1 (i := 2) rfl rfl)) rfl rfl rfl (ent_value (ov_move rfl) rfl rfl rfl ?_))))
  obtain ⟨x15,h15,H⟩ := Option.bind_eq_some_iff.1 H
  refine ent_pick [3,0,1,2] (by decide) rfl ?_
  refine ent_op (ot_call (Lr := [own (ga2 12) 5 1 x14.length (fl (eI .u8) x14),box b4 205 [(ga2 12)],box b3 66 [I a0_0,I a0_1,I a0_2,sv0]]) (first := []) (cap := []) (xs := [.tmp 30,.tmp 31]) rfl rfl F_call_113 rfl (fact_Encode_R.spec K sv0 A0 l0 a1 hA0 _ h15) rfl) rfl rfl rfl ?_
  rintro _ _ ⟨_,⟨sv13,rfl,rfl⟩,rfl⟩
  refine ent_value (ov_move rfl) rfl rfl rfl (ent_value (ov_extract rfl rfl) rfl rfl rfl (ent_value (ov_extract rfl rfl) rfl rfl rfl (ent_value (ov_assign rfl) rfl rfl rfl (ent_value (ov_assign rfl) rfl rfl rfl (ent_nil (ent_seq (ent_seq (ent_region (ent_value (ov_move rfl) rfl rfl rfl (ent_value (ov_bin rfl rfl (b_neq _ _ _)) rfl rfl rfl (ent_nil ?_)))))))))))
  refine htT H (fun c9 H => ?_) fun c9 H => ?_
  ·refine ent_cond_true rfl (ne_t c9) (ent_seq (ent_region (ent_value (ov_move rfl) rfl rfl rfl (ent_value (ov_assign rfl) rfl rfl rfl (ent_value (ov_assign rfl) rfl rfl rfl (ent_nil (ent_retc ?_)))))))
   cases H
   refine ent_ownnil 5 1 ?_
   refine ent_pick [1,0] (by decide) rfl ?_
   exact ret_mem (vs := [L0,I x15.1]) rfl ⟨rfl,⟨rfl,trivial⟩⟩ _ rfl ⟨_,rfl,rfl⟩
  refine ent_cond_false rfl (ne_f c9) (ent_skip (ent_seq (ent_region (ent_value (ov_move rfl) rfl rfl rfl ?_))))
  obtain ⟨x16,h16,H⟩ := Option.bind_eq_some_iff.1 H
  refine ent_pick [3,2,0,1,4] (by decide) rfl ?_
  refine ent_op (ot_call (Lr := [A0,own sv13 5 1 x15.2.length (fl (eI .u8) x15.2),box b3 66 [I a0_0,I a0_1,I a0_2,sv0]]) (first := []) (cap := []) (xs := [.tmp 38]) rfl rfl F_call_115 rfl (pack_Writer_Bytes_O.spec b4 (ga2 12) x14 _ h16) rfl) rfl rfl rfl ?_
  rintro sv14 _ ⟨_,⟨_,rfl,rfl⟩,rfl⟩
  refine ent_value (ov_move rfl) rfl rfl rfl ?_
  obtain ⟨c10,H⟩ := gdT H
  refine ent_op (ot_appendx (sz := 0) (xs := x16) (ys := x15.2) 2 4 rfl rfl F_slice_124 F_size_5 F_zero_5 rfl F_bytes_5 rfl rfl rfl (isRd_ownx 5) rfl (eI_one _) c10) rfl rfl rfl ?_
  rintro sv15 _ rfl
  refine ent_L [box b4 205 [(ga2 12)],own (ga2 12) 5 1 x14.length (fl (eI .u8) x14),own sv15 5 1 (x16 ++ x15.2).length (fl (eI .u8) (x16 ++ x15.2)),A0,own sv13 5 1 x15.2.length (fl (eI .u8) x15.2),box b3 66 [I a0_0,I a0_1,I a0_2,sv0]] rfl ?_
  obtain ⟨x17,h17,H⟩ := Option.bind_eq_some_iff.1 H
  refine ent_pick [2,0,1,3,4,5] (by decide) rfl ?_
  refine ent_op (ot_call (Lr := [box b4 205 [(ga2 12)],own (ga2 12) 5 1 x14.length (fl (eI .u8) x14),A0,own sv13 5 1 x15.2.length (fl (eI .u8) x15.2),box b3 66 [I a0_0,I a0_1,I a0_2,sv0]]) (first := []) (cap := []) (xs := [.tmp 41]) rfl rfl F_call_114 rfl (frame_Put_R.spec K sv15 (own sv15 5 1 (x16 ++ x15.2).length (fl (eI .u8) (x16 ++ x15.2))) (x16 ++ x15.2) (isRd_ownx 5) _ h17) rfl) rfl rfl rfl ?_
  rintro sv16 _ ⟨_,⟨_,rfl,rfl⟩,rfl⟩
  refine ent_value (ov_assign rfl) rfl rfl rfl (ent_value (ov_assign rfl) rfl rfl rfl (ent_nil (ent_retc ?_)))
  cases H
  refine ent_pick [4,1] (by decide) rfl ?_
  exact ret_mem (vs := [sv16,I 0]) rfl ⟨rfl,⟨rfl,trivial⟩⟩ _ rfl ⟨_,rfl,rfl⟩

theorem wal_Bytes_O.spec (K : Nat) (sv0 : JG) (l0 : List Wal_Batch) (a1 : Int) (r : (Int × (List Int))) (H : wal_Bytes_O K l0 a1 = some r) : FnSpec Try.prog 59 [sv0.sv,I a1] [(jown sv0 66 4 enc_Wal_Batch 93 6 jlen_Wal_Batch jics_Wal_Batch l0)] (fun v M => ∃ sv27 : Value,v = (tU #[sv27,I r.1]) ∧ M = [(jown sv0 66 4 enc_Wal_Batch 93 6 jlen_Wal_Batch jics_Wal_Batch l0),own sv27 5 1 r.2.length (fl (eI .u8) r.2)]) := by
 unfold wal_Bytes_O at H
 refine spec_of Try.func59 rfl 30 rfl (Nat.le_of_ble_eq_true rfl) fun F w0 => ?_
 show Ent (St 30 w0 F [(0,sv0.sv),(1,I a1)] [(jown sv0 66 4 enc_Wal_Batch 93 6 jlen_Wal_Batch jics_Wal_Batch l0)]) _
 refine ent_seq (ent_region (ent_value (ov_assign rfl) rfl rfl rfl (ent_value (ov_assign rfl) rfl rfl rfl (ent_nil (ent_seq (ent_seq (ent_region (ent_value (ov_move rfl) rfl rfl rfl (ent_value (ov_len 0 rfl F_slice_72 rfl isRd_jout) rfl rfl rfl (ent_value (ov_move rfl) rfl rfl rfl (ent_nil ?_)))))))))))
 refine ent_block ?_
 refine ent_loop (fun k a w => ∃ i5,∃ l5,∃ sv45 : Value,wal_Bytes_O_l0 K l0 a1 k i5 l5 = some r ∧ St 30 w0 F [(1,I a1),(4,sv45),(10,sv0.sv),(11,I (l0.length : Int)),(12,I i5)] [(jown sv0 66 4 enc_Wal_Batch 93 6 jlen_Wal_Batch jics_Wal_Batch l0),own sv45 5 1 l5.length (fl (eI .u8) l5)] a w) K ?_ ?_
 ·refine ent_ownnil 5 1 ?_
  exact ent_fin [1,0] (by decide) rfl (sub_cons (t := 1) rfl (sub_cons (t := 4) rfl (sub_cons (t := 10) rfl (sub_cons (t := 11) rfl (sub_cons (t := 12) rfl (sub_nil _)))))) fun a w h => ⟨_,_,_,H,h⟩
 ·refine fun k => ent_exi fun i5 => ent_exi fun l5 => ent_exi fun sv45 => ent_and fun H4 => ?_
  let C0_ : List Value := [I ((l0.getD i5.toNat z_Wal_Batch).Seq),I ((l0.getD i5.toNat z_Wal_Batch).Tick),I ((l0.getD i5.toNat z_Wal_Batch).Budget),(sv0.vs i5.toNat)]
  cases k with
  | zero => exact absurd H4 (by simp [C0_,wal_Bytes_O_l0])
  | succ k =>
   rw [wal_Bytes_O_l0] at H4
   refine ent_seq (ent_region (ent_value (ov_bin rfl rfl (b_lss _ _ _)) rfl rfl rfl (ent_nil (ent_seq ?_))))
   refine htF H4 (fun c104 H4 => ?_) fun c104 H4 => ?_
   ·refine ent_cond_false rfl (decide_eq_false c104) (ent_exit (ent_seq (ent_region (ent_value (ov_move rfl) rfl rfl rfl (ent_value (ov_assign rfl) rfl rfl rfl (ent_value (ov_assign rfl) rfl rfl rfl (ent_nil (ent_retc ?_))))))))
    cases H4
    refine ent_pick [0,1] (by decide) rfl ?_
    exact ret_mem (vs := [sv45,I 0]) rfl ⟨rfl,⟨rfl,trivial⟩⟩ _ rfl ⟨_,rfl,rfl⟩
   refine ent_cond_true rfl (decide_eq_true c104) (ent_skip (ent_seq (ent_block (ent_seq (ent_region ?_)))))
   obtain ⟨c109,H4⟩ := gdT H4
   refine ent_value (ov_indexAddr (sz := 3) 0 rfl rfl F_slice_72 F_size_66 rfl isRd_jout c109 c104) rfl rfl rfl ?_
   refine ent_value (ov_load_agg (vs := C0_) rfl F_agg_66 F_size_66 (reads_rd (i := 0) rfl isRd_jout (by simp [C0_]) (flJ_rd0 enc_Wal_Batch_len (ix_lt c109 c104) rfl))) rfl rfl rfl ?_
   refine ent_op (ot_alloc F_zero_66) rfl rfl rfl ?_
   rintro _ _ ⟨b24,rfl,rfl⟩
   refine ent_op0 (ot_storeG (cs := [I 0,I 0,I 0,L0]) (cs' := C0_) (us := C0_) (L' := [box b24 66 C0_,(jown sv0 66 4 enc_Wal_Batch 93 6 jlen_Wal_Batch jics_Wal_Batch l0),own sv45 5 1 l5.length (fl (eI .u8) l5)]) 0 rfl rfl rfl (one_cons rfl (one_cons rfl (one_cons rfl (one_sl 1 rfl (show IsRd _ _ ((l0.getD i5.toNat z_Wal_Batch).Facts).length 6 (fl enc_Api_Fact ((l0.getD i5.toNat z_Wal_Batch).Facts)) from isRd_jin (z := z_Wal_Batch) (ix_lt c109 c104)) one_nil)))) F_size_66 rfl rfl (by simp [C0_]) rfl) rfl rfl ?_
   rintro _ _ rfl
   refine ent_nil (ent_seq (ent_region (ent_value (ov_load_agg (vs := C0_) rfl F_agg_66 F_size_66 (reads_boxW (i := 0) rfl)) rfl rfl rfl (ent_value (ov_move rfl) rfl rfl rfl ?_))))
   obtain ⟨x24,h24,H4⟩ := Option.bind_eq_some_iff.1 H4
   refine ent_pick [1,0,2] (by decide) rfl ?_
   refine ent_op (ot_call (Lr := [box b24 66 C0_,own sv45 5 1 l5.length (fl (eI .u8) l5)]) (first := []) (cap := []) (xs := [.tmp 17,.tmp 18]) rfl rfl F_call_87 rfl (wal_Record_R.spec K (sv0.vs i5.toNat) (jown sv0 66 4 enc_Wal_Batch 93 6 jlen_Wal_Batch jics_Wal_Batch l0) ((l0.getD i5.toNat z_Wal_Batch).Seq) ((l0.getD i5.toNat z_Wal_Batch).Tick) ((l0.getD i5.toNat z_Wal_Batch).Budget) ((l0.getD i5.toNat z_Wal_Batch).Facts) a1 (show IsRd _ _ ((l0.getD i5.toNat z_Wal_Batch).Facts).length 6 (fl enc_Api_Fact ((l0.getD i5.toNat z_Wal_Batch).Facts)) from isRd_jin (z := z_Wal_Batch) (ix_lt c109 c104)) _ h24) rfl) rfl rfl rfl ?_
   rintro _ _ ⟨_,⟨sv52,rfl,rfl⟩,rfl⟩
   refine ent_value (ov_move rfl) rfl rfl rfl (ent_value (ov_extract rfl rfl) rfl rfl rfl (ent_value (ov_extract rfl rfl) rfl rfl rfl (ent_value (ov_assign rfl) rfl rfl rfl (ent_value (ov_assign rfl) rfl rfl rfl (ent_nil (ent_seq (ent_seq (ent_region (ent_value (ov_move rfl) rfl rfl rfl (ent_value (ov_bin rfl rfl (b_neq _ _ _)) rfl rfl rfl (ent_nil ?_)))))))))))
   refine htT H4 (fun c111 H4 => ?_) fun c111 H4 => ?_
   ·refine ent_cond_true rfl (ne_t c111) (ent_seq (ent_region (ent_value (ov_move rfl) rfl rfl rfl (ent_value (ov_assign rfl) rfl rfl rfl (ent_value (ov_assign rfl) rfl rfl rfl (ent_nil (ent_retc ?_)))))))
    cases H4
    refine ent_ownnil 5 1 ?_
    refine ent_pick [1,0] (by decide) rfl ?_
    exact ret_mem (vs := [L0,I x24.1]) rfl ⟨rfl,⟨rfl,trivial⟩⟩ _ rfl ⟨_,rfl,rfl⟩
   refine ent_cond_false rfl (ne_f c111) (ent_skip (ent_region (ent_value (ov_move rfl) rfl rfl rfl (ent_value (ov_move rfl) rfl rfl rfl ?_))))
   obtain ⟨c112,H4⟩ := gdT H4
   refine ent_op (ot_appendx (sz := 0) (xs := l5) (ys := x24.2) 3 1 rfl rfl F_slice_124 F_size_5 F_zero_5 rfl F_bytes_5 rfl rfl rfl (isRd_ownx 5) rfl (eI_one _) c112) rfl rfl rfl ?_
   rintro sv53 _ rfl
   refine ent_L [(jown sv0 66 4 enc_Wal_Batch 93 6 jlen_Wal_Batch jics_Wal_Batch l0),own sv52 5 1 x24.2.length (fl (eI .u8) x24.2),box b24 66 C0_,own sv53 5 1 (l5 ++ x24.2).length (fl (eI .u8) (l5 ++ x24.2))] rfl ?_
   refine ent_value (ov_assign rfl) rfl rfl rfl (ent_nil (ent_region (ent_value (ov_bin rfl rfl (b_add _ _ _) ) rfl rfl rfl (ent_value (ov_move rfl) rfl rfl rfl (ent_nil ?_)))))
   exact ent_fin [0,3] (by decide) rfl (sub_cons (t := 1) rfl (sub_cons (t := 4) rfl (sub_cons (t := 10) rfl (sub_cons (t := 11) rfl (sub_cons (t := 12) rfl (sub_nil _)))))) fun a w h => ⟨k,Nat.lt_succ_self k,_,_,_,H4,h⟩

theorem mem_Mem_Bytes_O.spec (K p0 : Nat) (sv0 : JG) (p0_0 : Int) (l0 : List Wal_Batch) (p0_2 r : Int) (H : mem_Mem_Bytes_O K p0_0 l0 p0_2 = some r) : FnSpec Try.prog 28 [pt p0 0] [box p0 118 [I p0_0,sv0.sv,I p0_2],(jown sv0 66 4 enc_Wal_Batch 93 6 jlen_Wal_Batch jics_Wal_Batch l0)] (fun v M => v = (I r) ∧ M = [box p0 118 [I p0_0,sv0.sv,I p0_2],(jown sv0 66 4 enc_Wal_Batch 93 6 jlen_Wal_Batch jics_Wal_Batch l0)]) := by
 unfold mem_Mem_Bytes_O at H
 refine spec_of Try.func28 rfl 21 rfl (Nat.le_of_ble_eq_true rfl) fun F w0 => ?_
 show Ent (St 21 w0 F [(0,pt p0 0)] [box p0 118 [I p0_0,sv0.sv,I p0_2],(jown sv0 66 4 enc_Wal_Batch 93 6 jlen_Wal_Batch jics_Wal_Batch l0)]) _
 refine ent_seq (ent_region (ent_value (ov_assign rfl) rfl rfl rfl (ent_nil (ent_seq (ent_seq (ent_region (ent_value (ov_move rfl) rfl rfl rfl ?_)))))))
 refine ent_value (ov_bin rfl rfl (b_eql_of (fun w => rfl) rfl (eq_pn Try.underlying61 _ _))) rfl rfl rfl ?_
 refine ent_nil (ent_cond_false rfl rfl (ent_skip (ent_seq ?_)))
 obtain ⟨x3,h3,H⟩ := Option.bind_eq_some_iff.1 H
 let Z2_T : DT := fun ga2 => [(0,8,pt p0 0),(1,9,pt p0 0),(2,10,pt p0 1),(3,11,sv0.sv),(4,12,pt p0 0),(5,13,pt p0 0),(6,14,pt p0 0),(7,15,I p0_0),(8,16,tU #[(ga2 8),I x3.1]),(9,7,tU #[(ga2 8),I x3.1]),(10,17,(ga2 8)),(11,18,I x3.1),(12,3,(ga2 8)),(13,4,I x3.1)]
 let Z2_L : DL := fun ga2 done => [sel (done 8) (own (ga2 8) 5 1 x3.2.length (fl (eI .u8) x3.2)) emp,box p0 118 [I p0_0,sv0.sv,I p0_2],(jown sv0 66 4 enc_Wal_Batch 93 6 jlen_Wal_Batch jics_Wal_Batch l0)]
 let Z2_I : DI := fun ga2 done a w => StD 21 w0 F [(0,pt p0 0),(2,I 0),(5,pt p0 0),(6,B0)] (Z2_T ga2) done (Z2_L ga2 done) a w
 refine ent_drawm 14 rfl (fun done a w => ∃ ga2 : Nat → Value,Z2_I ga2 done a w) (by kernel_rfl) (by kernel_rfl) (draw_startG (T := Z2_T) (L' := fun ga2 : Nat → Value => [sel false (own (ga2 8) 5 1 x3.2.length (fl (eI .u8) x3.2)) emp,box p0 118 [I p0_0,sv0.sv,I p0_2],(jown sv0 66 4 enc_Wal_Batch 93 6 jlen_Wal_Batch jics_Wal_Batch l0)]) 1 (sub_cons (t := 0) rfl (sub_cons (t := 2) rfl (sub_cons (t := 5) rfl (sub_cons (t := 6) rfl (sub_nil _))))) (fun _ => rfl)) ?_ ?_
 ·refine ⟨?_,?_,?_,?_,?_,?_,?_,?_,?_,?_,?_,?_,?_,?_,trivial⟩
  ·exact fun done hi hc hcu => draw_exi (I := Z2_I) fun ga2 => draw_value (i := 0) (t := 8) (v := (pt p0 0)) rfl rfl (wanted_none rfl) (fun a => hasA_base) (ov_move rfl) rfl rfl (onlyT_spec (k0 := 0) rfl rfl rfl)
  ·exact fun done hi hc hcu => draw_exi (I := Z2_I) fun ga2 => draw_value (i := 1) (t := 9) (v := (pt p0 0)) rfl rfl (wanted_none rfl) (fun a => (hasA_cons (k := 0) rfl (done_of (j := 0) hcu rfl (by decide) rfl) hasA_base)) (ov_nilCheck rfl) rfl rfl (onlyT_spec (k0 := 1) rfl rfl rfl)
  ·exact fun done hi hc hcu => draw_exi (I := Z2_I) fun ga2 => draw_value (i := 2) (t := 10) (v := (pt p0 1)) rfl rfl (wanted_none rfl) (fun a => (hasA_cons (k := 1) rfl (done_of (j := 1) hcu rfl (by decide) rfl) hasA_base)) (ov_fieldAddr (sz := 0) (o := 0) rfl F_field_118_1 F_size_72) rfl rfl (onlyT_spec (k0 := 2) rfl rfl rfl)
  ·exact fun done hi hc hcu => draw_exi (I := Z2_I) fun ga2 => draw_value (i := 3) (t := 11) (v := sv0.sv) rfl rfl (wanted_none rfl) (fun a => (hasA_cons (k := 2) rfl (done_of (j := 2) hcu rfl (by decide) rfl) hasA_base)) (ov_load (v := sv0.sv) rfl F_agg_72 (reads_box1 (i := 1) rfl rfl)) rfl rfl (onlyT_spec (k0 := 3) rfl rfl rfl)
  ·exact fun done hi hc hcu => draw_exi (I := Z2_I) fun ga2 => draw_value (i := 4) (t := 12) (v := (pt p0 0)) rfl rfl (wanted_none rfl) (fun a => hasA_base) (ov_move rfl) rfl rfl (onlyT_spec (k0 := 4) rfl rfl rfl)
  ·exact fun done hi hc hcu => draw_exi (I := Z2_I) fun ga2 => draw_value (i := 5) (t := 13) (v := (pt p0 0)) rfl rfl (wanted_none rfl) (fun a => (hasA_cons (k := 4) rfl (done_of (j := 4) hcu rfl (by decide) rfl) hasA_base)) (ov_nilCheck rfl) rfl rfl (onlyT_spec (k0 := 5) rfl rfl rfl)
  ·exact fun done hi hc hcu => draw_exi (I := Z2_I) fun ga2 => draw_value (i := 6) (t := 14) (v := (pt p0 0)) rfl rfl (wanted_none rfl) (fun a => (hasA_cons (k := 5) rfl (done_of (j := 5) hcu rfl (by decide) rfl) hasA_base)) (ov_fieldAddr (sz := 0) (o := 0) rfl F_field_118_0 F_size_3) rfl rfl (onlyT_spec (k0 := 6) rfl rfl rfl)
  ·exact fun done hi hc hcu => draw_exi (I := Z2_I) fun ga2 => draw_value (i := 7) (t := 15) (v := (I p0_0)) rfl rfl (wanted_none rfl) (fun a => (hasA_cons (k := 6) rfl (done_of (j := 6) hcu rfl (by decide) rfl) hasA_base)) (ov_load (v := (I p0_0)) rfl F_agg_3 (reads_box1 (i := 1) rfl rfl)) rfl rfl (onlyT_spec (k0 := 7) rfl rfl rfl)
  ·intro done hi hc hcu
   refine ent_exi (S := fun ga2 => Z2_I ga2 done) fun ga2 => ?_
   have d3 : done 3 = true := done_of (j := 3) hcu rfl (by decide) rfl
   have d7 : done 7 = true := done_of (j := 7) hcu rfl (by decide) rfl
   have n12 : done 12 = false := notdone_of (m := 12) hc hi rfl rfl
   have n9 : done 9 = false := notdone_of (m := 9) hc hi rfl rfl
   have n10 : done 10 = false := notdone_of (m := 10) hc n9 rfl rfl
   refine draw_turnP (i := 8) (t := 16) (x := ga2) (L := Z2_L) (T := Z2_T) (L2 := [emp,box p0 118 [I p0_0,sv0.sv,I p0_2],(jown sv0 66 4 enc_Wal_Batch 93 6 jlen_Wal_Batch jics_Wal_Batch l0)]) [2,0,1] [1,3,0] rfl rfl (wanted_none rfl) (fun a => (hasA_cons (k := 7) rfl d7 (hasA_cons (k := 3) rfl d3 hasA_base))) (by simp only [Z2_T,Z2_L,hi,sel]) (by decide) rfl (ot_call (Lr := [emp,box p0 118 [I p0_0,sv0.sv,I p0_2]]) (first := []) (cap := []) (xs := [.tmp 11,.tmp 15]) rfl rfl F_call_59 rfl (wal_Bytes_O.spec K sv0 l0 p0_0 _ h3) rfl) (by decide) rfl rfl ?_
   rintro _ _ ⟨_,⟨g0_,rfl,rfl⟩,rfl⟩
   exact ⟨(upb ga2 8 g0_),show some [own g0_ 5 1 x3.2.length (fl (eI .u8) x3.2),box p0 118 [I p0_0,sv0.sv,I p0_2],(jown sv0 66 4 enc_Wal_Batch 93 6 jlen_Wal_Batch jics_Wal_Batch l0)] = _ by simp [Z2_T,Z2_L,up,upb,sel,hi],(tr_same rfl rfl (tr_same rfl rfl (tr_same rfl rfl (tr_same rfl rfl (tr_same rfl rfl (tr_same rfl rfl (tr_same rfl rfl (tr_same rfl rfl (tr_this (tr_nd n9 rfl rfl (tr_nd n10 rfl rfl (tr_same rfl rfl (tr_nd n12 rfl rfl (tr_same rfl rfl tr_nil))))))))))))))⟩
  ·exact fun done hi hc hcu => draw_exi (I := Z2_I) fun ga2 => draw_value (i := 9) (t := 7) (v := (tU #[(ga2 8),I x3.1])) rfl rfl (wanted_none rfl) (fun a => (hasA_cons (k := 8) rfl (done_of (j := 8) hcu rfl (by decide) rfl) hasA_base)) (ov_move rfl) rfl rfl (onlyT_spec (k0 := 9) rfl rfl rfl)
  ·exact fun done hi hc hcu => draw_exi (I := Z2_I) fun ga2 => draw_value (i := 10) (t := 17) (v := (ga2 8)) rfl rfl (wanted_none rfl) (fun a => (hasA_cons (k := 9) rfl (done_of (j := 9) hcu rfl (by decide) rfl) hasA_base)) (ov_extract rfl rfl) rfl rfl (onlyT_spec (k0 := 10) rfl rfl rfl)
  ·exact fun done hi hc hcu => draw_exi (I := Z2_I) fun ga2 => draw_value (i := 11) (t := 18) (v := (I x3.1)) rfl rfl (wanted_none rfl) (fun a => (hasA_cons (k := 9) rfl (done_of (j := 9) hcu rfl (by decide) rfl) hasA_base)) (ov_extract rfl rfl) rfl rfl (onlyT_spec (k0 := 11) rfl rfl rfl)
  ·exact fun done hi hc hcu => draw_exi (I := Z2_I) fun ga2 => draw_value (i := 12) (t := 3) (v := (ga2 8)) rfl rfl (wanted_none rfl) (fun a => (hasA_cons (k := 10) rfl (done_of (j := 10) hcu rfl (by decide) rfl) hasA_base)) (ov_assign rfl) rfl rfl (onlyT_spec (k0 := 12) rfl rfl rfl)
  ·exact fun done hi hc hcu => draw_exi (I := Z2_I) fun ga2 => draw_value (i := 13) (t := 4) (v := (I x3.1)) rfl rfl (wanted_none rfl) (fun a => (hasA_cons (k := 11) rfl (done_of (j := 11) hcu rfl (by decide) rfl) hasA_base)) (ov_assign rfl) rfl rfl (onlyT_spec (k0 := 13) rfl rfl rfl)
 ·intro done hall
  refine ent_exi (S := fun ga2 => Z2_I ga2 done) fun ga2 => ?_
  refine draw_endL [own (ga2 8) 5 1 x3.2.length (fl (eI .u8) x3.2),box p0 118 [I p0_0,sv0.sv,I p0_2],(jown sv0 66 4 enc_Wal_Batch 93 6 jlen_Wal_Batch jics_Wal_Batch l0)] (by simp only [Z2_T,Z2_L,hall 8 (by decide),sel]) (fun a => (hasA_cons (k := 12) rfl (hall 12 (by decide)) (hasA_cons (k := 13) rfl (hall 13 (by decide)) (hasA_cons (k := 9) rfl (hall 9 (by decide)) (hasA_cons (k := 0) rfl (hall 0 (by decide)) (hasA_cons (k := 1) rfl (hall 1 (by decide)) (hasA_cons (k := 2) rfl (hall 2 (by decide)) (hasA_cons (k := 3) rfl (hall 3 (by decide)) (hasA_cons (k := 4) rfl (hall 4 (by decide)) (hasA_cons (k := 5) rfl (hall 5 (by decide)) (hasA_cons (k := 6) rfl (hall 6 (by decide)) (hasA_cons (k := 7) rfl (hall 7 (by decide)) (hasA_cons (k := 8) rfl (hall 8 (by decide)) (hasA_cons (k := 10) rfl (hall 10 (by decide)) (hasA_cons (k := 11) rfl (hall 11 (by decide)) hasA_base))))))))))))))) ?_
  refine ent_seq (ent_region (ent_value (ov_move rfl) rfl rfl rfl (ent_value (ov_len 0 rfl F_slice_124 rfl (isRd_ownx 5)) rfl rfl rfl (ent_value (ov_assign rfl) rfl rfl rfl (ent_nil (ent_retc ?_))))))
  cases H
  refine ent_pick [1,2] (by decide) rfl ?_
  exact ret_tmp rfl rfl ⟨rfl,rfl⟩

theorem ossuarylaw22_MemOnce.spec (K : Nat) (A : HP) (s0 s1 : Value) (l0 : List Ossuaryref17_Batch) (l1 : List Int) (hA0 : IsRd A s0 l0.length 4 (fl enc_Ossuaryref17_Batch l0)) (hJ0 : ∀ x ∈ l0,IsRd A x.Facts.v x.Facts.xs.length 6 (fl enc_Api_Fact x.Facts.xs)) (hA1 : IsRd A s1 l1.length 1 (fl (eI .i64) l1)) (r : Bool) (H : ossuarylaw22_MemOnce K l0 l1 = some r) : FnSpec Try.prog 5 [s0,s1] [A] (fun v M => v = (bool r) ∧ M = [A]) := by
 unfold ossuarylaw22_MemOnce at H
 refine spec_of Try.func5 rfl 133 rfl (Nat.le_of_ble_eq_true rfl) fun F w0 => ?_
 show Ent (St 133 w0 F [(0,s0),(1,s1)] [A]) _
 refine ent_seq (ent_region (ent_value (ov_assign rfl) rfl rfl rfl (ent_nil (ent_seq (ent_seq (ent_region (ent_value (ov_move rfl) rfl rfl rfl ?_)))))))
 obtain ⟨x152,h150,H⟩ := Option.bind_eq_some_iff.1 H
 refine ent_op (ot_call_same (Lr := []) [0] [0] (first := []) (cap := []) (xs := [.tmp 11]) rfl rfl F_call_19 rfl (ossuarylaw17_Light_R.spec K s0 A l0 hA0 hJ0 _ h150) (by decide) rfl (by decide) rfl) rfl rfl rfl ?_
 rintro _ _ ⟨rfl,rfl⟩
 refine ent_value (ov_un rfl (u_not _)) rfl rfl rfl (ent_value (ov_move rfl) rfl rfl rfl ?_)
 refine htT H (fun c169 H => ?_) fun c169 H => ?_
 ·refine ent_off rfl rfl rfl c169 rfl rfl ?_
  refine ent_off rfl rfl rfl c169 rfl rfl ?_
  refine ent_off rfl rfl rfl c169 rfl rfl ?_
  refine ent_value (ov_pick rfl rfl rfl (pick_t c169)) rfl rfl rfl (ent_nil (ent_cond_true rfl rfl (ent_seq (ent_region ?_))))
  obtain ⟨x153,h151,H⟩ := Option.bind_eq_some_iff.1 H
  refine ent_op (ot_call0 (first := []) (cap := []) (xs := []) rfl rfl F_call_20 rfl (ossuarylaw22_alive.spec K _ h151)) rfl rfl rfl ?_
  rintro _ _ ⟨rfl,rfl⟩
  refine ent_value (ov_assign rfl) rfl rfl rfl (ent_nil (ent_retc ?_))
  cases H
  refine ent_pick [0] (by decide) rfl ?_
  exact ret_tmp rfl rfl ⟨rfl,rfl⟩
 refine ent_value_on (ov_move rfl) rfl rfl rfl (Bool.eq_false_iff.2 c169) rfl rfl ?_
 refine ent_value_on (ov_len 0 rfl F_slice_23 rfl hA1) rfl rfl rfl (Bool.eq_false_iff.2 c169) rfl rfl ?_
 refine ent_value_on (ov_bin rfl rfl (b_gtr _ _ _)) rfl rfl rfl (Bool.eq_false_iff.2 c169) rfl rfl ?_
 refine ent_value (ov_pick rfl rfl rfl (pick_f (Bool.eq_false_iff.2 c169))) rfl rfl rfl (ent_nil ?_)
 refine htT H (fun c170 H => ?_) fun c170 H => ?_
 ·refine ent_cond_true rfl (decide_eq_true c170) (ent_seq (ent_region ?_))
  obtain ⟨x154,h152,H⟩ := Option.bind_eq_some_iff.1 H
  refine ent_op (ot_call0 (first := []) (cap := []) (xs := []) rfl rfl F_call_20 rfl (ossuarylaw22_alive.spec K _ h152)) rfl rfl rfl ?_
  rintro _ _ ⟨rfl,rfl⟩
  refine ent_value (ov_assign rfl) rfl rfl rfl (ent_nil (ent_retc ?_))
  cases H
  refine ent_pick [0] (by decide) rfl ?_
  exact ret_tmp rfl rfl ⟨rfl,rfl⟩
 refine ent_cond_false rfl (decide_eq_false c170) (ent_skip (ent_seq (ent_region ?_)))
 obtain ⟨x155,h153,H⟩ := thn_elim H
 refine ent_op (ot_call (Lr := [A]) (first := []) (cap := []) (xs := [.const (I 2)]) rfl rfl F_call_21 rfl (mem_New_2.spec _ h153) rfl) rfl rfl rfl ?_
 rintro _ _ ⟨_,⟨b2,rfl,rfl⟩,rfl⟩
 refine ent_value (ov_move rfl) rfl rfl rfl (ent_value (ov_extract rfl rfl) rfl rfl rfl (ent_value (ov_extract rfl rfl) rfl rfl rfl (ent_value (ov_assign rfl) rfl rfl rfl (ent_value (ov_assign rfl) rfl rfl rfl (ent_nil (ent_seq (ent_seq (ent_region (ent_value (ov_move rfl) rfl rfl rfl (ent_value (ov_bin rfl rfl (b_neq _ _ _)) rfl rfl rfl (ent_nil ?_)))))))))))
 refine htT H (fun c172 H => ?_) fun c172 H => ?_
 ·refine ent_cond_true rfl (ne_t c172) (ent_seq (ent_region (ent_value (ov_assign rfl) rfl rfl rfl (ent_nil (ent_retc ?_)))))
  cases H
  refine ent_pick [1] (by decide) rfl ?_
  exact ret_tmp rfl rfl ⟨rfl,rfl⟩
 refine ent_cond_false rfl (ne_f c172) (ent_skip (ent_seq (ent_region (ent_value (ov_assign rfl) rfl rfl rfl (ent_nil ?_)))))
 obtain ⟨x168,H12,H⟩ := Option.bind_eq_some_iff.1 H
 refine ent_seq_cut (fun a w => ∃ sv115 : JG,St 133 w0 F [(1,s1),(5,pt b2 0),(7,I x168.2.2)] [A,box b2 118 [I x155.1,sv115.sv,I x168.2.1],(jown sv115 66 4 enc_Wal_Batch 93 6 jlen_Wal_Batch jics_Wal_Batch x168.1)] a w) ?_ ?_
 ·refine ent_seq (ent_region (ent_value (ov_assign rfl) rfl rfl rfl (ent_nil (ent_block ?_))))
  refine ent_loop (fun k a w => ∃ i19,∃ i20,∃ l10,∃ i21,∃ sv118 : JG,ossuarylaw22_MemOnce_l0 K l0 x155 k i19 i20 l10 i21 = some x168 ∧ St 133 w0 F [(0,s0),(1,s1),(5,pt b2 0),(7,I i19),(8,I i20)] [A,box b2 118 [I x155.1,sv118.sv,I i21],(jown sv118 66 4 enc_Wal_Batch 93 6 jlen_Wal_Batch jics_Wal_Batch l10)] a w) K ?_ ?_
  ·refine ent_jnil 66 4 enc_Wal_Batch 93 6 jlen_Wal_Batch jics_Wal_Batch ?_
   exact ent_fin [2,1,0] (by decide) rfl (sub_cons (t := 0) rfl (sub_cons (t := 1) rfl (sub_cons (t := 5) rfl (sub_cons (t := 7) rfl (sub_cons (t := 8) rfl (sub_nil _)))))) fun a w h => ⟨_,_,_,_,jnil,H12,h⟩
  ·refine fun k => ent_exi fun i19 => ent_exi fun i20 => ent_exi fun l10 => ent_exi fun i21 => ent_exi fun sv118 => ent_and fun H13 => ?_
   cases k with
   | zero => exact absurd H13 (by simp [ossuarylaw22_MemOnce_l0])
   | succ k =>
    rw [ossuarylaw22_MemOnce_l0] at H13
    refine ent_seq (ent_seq (ent_region (ent_value (ov_move rfl) rfl rfl rfl (ent_value (ov_move rfl) rfl rfl rfl (ent_value (ov_len 0 rfl F_slice_59 rfl hA0) rfl rfl rfl (ent_value (ov_bin rfl rfl (b_lss _ _ _)) rfl rfl rfl (ent_nil ?_)))))))
    refine htF H13 (fun c200 H13 => ?_) fun c200 H13 => ?_
    ·refine ent_cond_false rfl (decide_eq_false c200) (ent_exit ?_)
     cases H13
     exact ent_fin [0,1,2] (by decide) rfl (sub_cons (t := 1) rfl (sub_cons (t := 5) rfl (sub_cons (t := 7) rfl (sub_nil _)))) fun a w h => ⟨sv118,h⟩
    refine ent_cond_true rfl (decide_eq_true c200) (ent_skip (ent_seq (ent_block (ent_seq (ent_region (ent_value (ov_move rfl) rfl rfl rfl (ent_value (ov_move rfl) rfl rfl rfl (ent_value (ov_move rfl) rfl rfl rfl ?_))))))))
    obtain ⟨c203,H13⟩ := gdT H13
    refine ent_value (ov_indexAddr (sz := 3) 0 rfl rfl F_slice_59 F_size_68 rfl hA0 c203 c200) rfl rfl rfl ?_
    refine ent_value (ov_load_agg (vs := [I ((l0.getD i20.toNat z_Ossuaryref17_Batch).Seq),I ((l0.getD i20.toNat z_Ossuaryref17_Batch).Tick),I ((l0.getD i20.toNat z_Ossuaryref17_Batch).Budget),((l0.getD i20.toNat z_Ossuaryref17_Batch).Facts).v]) rfl F_agg_68 F_size_68 (reads_rd (i := 0) rfl hA0 (by simp) (fl_read0 enc_Ossuaryref17_Batch_len (ix_lt c203 c200) rfl))) rfl rfl rfl ?_
    obtain ⟨x179,h176,H13⟩ := thn_elim H13
    refine ent_op (ot_call_same (Lr := [box b2 118 [I x155.1,sv118.sv,I i21],(jown sv118 66 4 enc_Wal_Batch 93 6 jlen_Wal_Batch jics_Wal_Batch l10)]) [0,1,2] [0,1,2] (first := []) (cap := []) (xs := [.tmp 36]) rfl rfl F_call_23 rfl (ossuarylaw17_Own_R.spec (((l0.getD i20.toNat z_Ossuaryref17_Batch).Facts).v) A ((l0.getD i20.toNat z_Ossuaryref17_Batch).Seq) ((l0.getD i20.toNat z_Ossuaryref17_Batch).Tick) ((l0.getD i20.toNat z_Ossuaryref17_Batch).Budget) (((l0.getD i20.toNat z_Ossuaryref17_Batch).Facts).xs) (hJ0 _ (getD_mem_ z_Ossuaryref17_Batch (ix_lt c203 c200))) _ h176) (by decide) rfl (by decide) rfl) rfl rfl rfl ?_
    rintro _ _ ⟨rfl,rfl⟩
    obtain ⟨x180,h177,H13⟩ := Option.bind_eq_some_iff.1 H13
    refine ent_pick [1,2,0] (by decide) rfl ?_
    refine ent_op (ot_call (Lr := []) (first := []) (cap := []) (xs := [.tmp 32,.tmp 37]) rfl rfl F_call_22 rfl (mem_Mem_Add_OR.spec K b2 sv118 (((l0.getD i20.toNat z_Ossuaryref17_Batch).Facts).v) A x155.1 l10 i21 x179.1 x179.2.1 x179.2.2 (((l0.getD i20.toNat z_Ossuaryref17_Batch).Facts).xs) (hJ0 _ (getD_mem_ z_Ossuaryref17_Batch (ix_lt c203 c200))) _ h177) rfl) rfl rfl rfl ?_
    rintro _ _ ⟨_,⟨sv122,rfl,rfl⟩,rfl⟩
    refine ent_value (ov_bin rfl rfl (b_eql _ _ _)) rfl rfl rfl (ent_nil ?_)
    refine htF H13 (fun c204 H13 => ?_) fun c204 H13 => ?_
    ·refine ent_cond_false rfl (eq_f c204) (ent_skip (ent_region (ent_value (ov_move rfl) rfl rfl rfl (ent_value (ov_bin rfl rfl (b_add _ _ _) ) rfl rfl rfl (ent_value (ov_assign rfl) rfl rfl rfl (ent_nil ?_))))))
     exact ent_fin [2,0,1] (by decide) rfl (sub_cons (t := 0) rfl (sub_cons (t := 1) rfl (sub_cons (t := 5) rfl (sub_cons (t := 7) rfl (sub_cons (t := 8) rfl (sub_nil _)))))) fun a w h => ⟨k,Nat.lt_succ_self k,_,_,_,_,sv122,H13,h⟩
    refine ent_cond_true rfl (eq_t c204) (ent_region (ent_value (ov_move rfl) rfl rfl rfl (ent_value (ov_move rfl) rfl rfl rfl (ent_value (ov_move rfl) rfl rfl rfl (ent_value (ov_indexAddr (sz := 3) 2 rfl rfl F_slice_59 F_size_68 rfl hA0 c203 c200) rfl rfl rfl (ent_value (ov_fieldAddrE (sz := 0) (k0 := i20.toNat * 4) (off := 3) 2 rfl F_field_68_3 F_size_46 rfl hA0 (fl_pos enc_Ossuaryref17_Batch_len (ix_lt c203 c200))) rfl rfl rfl ?_))))))
    refine ent_value (ov_load (v := ((l0.getD i20.toNat z_Ossuaryref17_Batch).Facts).v) rfl F_agg_46 (reads_rd (i := 2) rfl hA0 (by simp) (fl_read (off := 3) enc_Ossuaryref17_Batch_len (ix_lt c203 c200) rfl))) rfl rfl rfl ?_
    refine ent_value (ov_len 2 rfl F_slice_46 rfl (hJ0 _ (getD_mem_ z_Ossuaryref17_Batch (ix_lt c203 c200)))) rfl rfl rfl (ent_value (ov_bin rfl rfl (b_add _ _ _) ) rfl rfl rfl (ent_value (ov_assign rfl) rfl rfl rfl (ent_nil (ent_region (ent_value (ov_move rfl) rfl rfl rfl (ent_value (ov_bin rfl rfl (b_add _ _ _) ) rfl rfl rfl (ent_value (ov_assign rfl) rfl rfl rfl (ent_nil ?_))))))))
    exact ent_fin [2,0,1] (by decide) rfl (sub_cons (t := 0) rfl (sub_cons (t := 1) rfl (sub_cons (t := 5) rfl (sub_cons (t := 7) rfl (sub_cons (t := 8) rfl (sub_nil _)))))) fun a w h => ⟨k,Nat.lt_succ_self k,_,_,_,_,sv122,H13,h⟩
 ·refine ent_exi fun sv115 => ?_
  obtain ⟨x235,H15,H⟩ := Option.bind_eq_some_iff.1 H
  refine ent_seq_cut (fun a w => ∃ v2,x235 = Sum.inl v2 ∧ ∃ sv166 : JG,St 133 w0 F [(5,pt b2 0),(7,I v2.2)] [A,box b2 118 [I x155.1,sv166.sv,I x168.2.1],(jown sv166 66 4 enc_Wal_Batch 93 6 jlen_Wal_Batch jics_Wal_Batch v2.1)] a w) ?_ ?_
  ·refine ent_seq (ent_region (ent_value (ov_assign rfl) rfl rfl rfl (ent_nil (ent_block ?_))))
   refine ent_loop (fun k a w => ∃ i25,∃ i26,∃ l13,∃ sv181 : JG,ossuarylaw22_MemOnce_l1 K l1 x155 x168 k i25 i26 l13 = some x235 ∧ St 133 w0 F [(1,s1),(5,pt b2 0),(7,I i25),(9,I i26)] [A,box b2 118 [I x155.1,sv181.sv,I x168.2.1],(jown sv181 66 4 enc_Wal_Batch 93 6 jlen_Wal_Batch jics_Wal_Batch l13)] a w) K ?_ ?_
   ·exact ent_fin [0,1,2] (by decide) rfl (sub_cons (t := 1) rfl (sub_cons (t := 5) rfl (sub_cons (t := 7) rfl (sub_cons (t := 9) rfl (sub_nil _))))) fun a w h => ⟨_,_,_,sv115,H15,h⟩
   ·refine fun k => ent_exi fun i25 => ent_exi fun i26 => ent_exi fun l13 => ent_exi fun sv181 => ent_and fun H16 => ?_
    cases k with
    | zero => exact absurd H16 (by simp [ossuarylaw22_MemOnce_l1])
    | succ k =>
     rw [ossuarylaw22_MemOnce_l1] at H16
     refine ent_seq (ent_seq (ent_region (ent_value (ov_move rfl) rfl rfl rfl (ent_value (ov_move rfl) rfl rfl rfl (ent_value (ov_len 0 rfl F_slice_23 rfl hA1) rfl rfl rfl (ent_value (ov_bin rfl rfl (b_lss _ _ _)) rfl rfl rfl (ent_nil ?_)))))))
     refine htF H16 (fun c308 H16 => ?_) fun c308 H16 => ?_
     ·refine ent_cond_false rfl (decide_eq_false c308) (ent_exit ?_)
      cases H16
      exact ent_fin [0,1,2] (by decide) rfl (sub_cons (t := 5) rfl (sub_cons (t := 7) rfl (sub_nil _))) fun a w h => ⟨_,rfl,sv181,h⟩
     refine ent_cond_true rfl (decide_eq_true c308) (ent_skip (ent_seq (ent_block (ent_seq (ent_seq (ent_region (ent_value (ov_move rfl) rfl rfl rfl (ent_value (ov_move rfl) rfl rfl rfl ?_))))))))
     obtain ⟨c322,H16⟩ := gdT H16
     refine ent_value (ov_indexAddr (sz := 0) 0 rfl rfl F_slice_23 F_size_2 rfl hA1 c322 c308) rfl rfl rfl ?_
     refine ent_value (ov_load (v := (I (l1.getD i26.toNat 0))) rfl F_agg_2 (reads_rd (i := 0) rfl hA1 (by simp) (fl_read0 (eI_len _) (ix_lt c322 c308) rfl))) rfl rfl rfl ?_
     refine ent_value (ov_bin rfl rfl (b_lss _ _ _)) rfl rfl rfl (ent_value (ov_move rfl) rfl rfl rfl ?_)
     refine htT H16 (fun c323 H16 => ?_) fun c323 H16 => ?_
     ·refine ent_off rfl rfl rfl (decide_eq_true c323) rfl rfl ?_
      refine ent_off rfl rfl rfl (decide_eq_true c323) rfl rfl ?_
      refine ent_off rfl rfl rfl (decide_eq_true c323) rfl rfl ?_
      refine ent_off rfl rfl rfl (decide_eq_true c323) rfl rfl ?_
      refine ent_off rfl rfl rfl (decide_eq_true c323) rfl rfl ?_
      refine ent_value (ov_pick rfl rfl rfl (pick_t (decide_eq_true c323))) rfl rfl rfl (ent_nil (ent_cond_true rfl rfl (ent_seq (ent_region ?_))))
      obtain ⟨x283,h279,H16⟩ := Option.bind_eq_some_iff.1 H16
      refine ent_op (ot_call0 (first := []) (cap := []) (xs := []) rfl rfl F_call_20 rfl (ossuarylaw22_alive.spec K _ h279)) rfl rfl rfl ?_
      rintro _ _ ⟨rfl,rfl⟩
      refine ent_value (ov_assign rfl) rfl rfl rfl (ent_nil (ent_retc ?_))
      cases H16
      have H17 := Option.some.inj (show some _ = some _ from H)
      cases H17
      refine ent_pick [0] (by decide) rfl ?_
      exact ret_tmp rfl rfl ⟨rfl,rfl⟩
     refine ent_value_on (ov_move rfl) rfl rfl rfl (decide_eq_false c323) rfl rfl ?_
     refine ent_value_on (ov_move rfl) rfl rfl rfl (decide_eq_false c323) rfl rfl ?_
     refine ent_value_on (ov_indexAddr (sz := 0) 0 rfl rfl F_slice_23 F_size_2 rfl hA1 c322 c308) rfl rfl rfl (decide_eq_false c323) rfl rfl ?_
     refine ent_value_on (ov_load (v := (I (l1.getD i26.toNat 0))) rfl F_agg_2 (reads_rd (i := 0) rfl hA1 (by simp) (fl_read0 (eI_len _) (ix_lt c322 c308) rfl))) rfl rfl rfl (decide_eq_false c323) rfl rfl ?_
     refine ent_value_on (ov_bin rfl rfl (b_gtr _ _ _)) rfl rfl rfl (decide_eq_false c323) rfl rfl ?_
     refine ent_value (ov_pick rfl rfl rfl (pick_f (decide_eq_false c323))) rfl rfl rfl (ent_nil ?_)
     refine htT H16 (fun c324 H16 => ?_) fun c324 H16 => ?_
     ·refine ent_cond_true rfl (decide_eq_true c324) (ent_seq (ent_region ?_))
      obtain ⟨x284,h280,H16⟩ := Option.bind_eq_some_iff.1 H16
      refine ent_op (ot_call0 (first := []) (cap := []) (xs := []) rfl rfl F_call_20 rfl (ossuarylaw22_alive.spec K _ h280)) rfl rfl rfl ?_
      rintro _ _ ⟨rfl,rfl⟩
      refine ent_value (ov_assign rfl) rfl rfl rfl (ent_nil (ent_retc ?_))
      cases H16
      have H18 := Option.some.inj (show some _ = some _ from H)
      cases H18
      refine ent_pick [0] (by decide) rfl ?_
      exact ret_tmp rfl rfl ⟨rfl,rfl⟩
     refine ent_cond_false rfl (decide_eq_false c324) (ent_skip (ent_seq ?_))
     obtain ⟨x285,h281,H16⟩ := Option.bind_eq_some_iff.1 H16
     let Z120_T : DT := fun ga70 => [(0,67,pt b2 0),(1,68,s1),(2,69,I i26),(3,70,(eptr s1 (i26.toNat * 1))),(4,71,I (l1.getD i26.toNat 0)),(5,72,s1),(6,73,I i26),(7,74,(eptr s1 (i26.toNat * 1))),(8,75,I (l1.getD i26.toNat 0)),(9,76,I (w64 ((l1.getD i26.toNat 0) + 5))),(10,77,(ga70 10)),(11,78,I (x285.length : Int)),(12,10,I (x285.length : Int))]
     let Z120_L : DL := fun ga70 done => [sel (done 10) (own (ga70 10) 93 6 x285.length (fl enc_Api_Fact x285)) emp,A,box b2 118 [I x155.1,sv181.sv,I x168.2.1],(jown sv181 66 4 enc_Wal_Batch 93 6 jlen_Wal_Batch jics_Wal_Batch l13)]
     let Z120_I : DI := fun ga70 done a w => StD 133 w0 F [(1,s1),(5,pt b2 0),(7,I i25),(9,I i26),(48,I i26),(49,s1),(50,I (l1.length : Int)),(51,Value.bool (decide (i26 < (l1.length : Int)))),(54,s1),(55,I i26),(56,(eptr s1 (i26.toNat * 1))),(57,I (l1.getD i26.toNat 0)),(58,Value.bool (decide ((l1.getD i26.toNat 0) < 0))),(59,Value.bool (decide ((l1.getD i26.toNat 0) < 0))),(60,s1),(61,I i26),(62,(eptr s1 (i26.toNat * 1))),(63,I (l1.getD i26.toNat 0)),(64,Value.bool (decide (16777216 < (l1.getD i26.toNat 0)))),(65,Value.bool (decide (16777216 < (l1.getD i26.toNat 0))))] (Z120_T ga70) done (Z120_L ga70 done) a w
     refine ent_drawm 13 rfl (fun done a w => ∃ ga70 : Nat → Value,Z120_I ga70 done a w) (by kernel_rfl) (by kernel_rfl) (draw_startG (T := Z120_T) (L' := fun ga70 : Nat → Value => [sel false (own (ga70 10) 93 6 x285.length (fl enc_Api_Fact x285)) emp,A,box b2 118 [I x155.1,sv181.sv,I x168.2.1],(jown sv181 66 4 enc_Wal_Batch 93 6 jlen_Wal_Batch jics_Wal_Batch l13)]) 1 (sub_cons (t := 1) rfl (sub_cons (t := 5) rfl (sub_cons (t := 7) rfl (sub_cons (t := 9) rfl (sub_cons (t := 48) rfl (sub_cons (t := 49) rfl (sub_cons (t := 50) rfl (sub_cons (t := 51) rfl (sub_cons (t := 54) rfl (sub_cons (t := 55) rfl (sub_cons (t := 56) rfl (sub_cons (t := 57) rfl (sub_cons (t := 58) rfl (sub_cons (t := 59) rfl (sub_cons (t := 60) rfl (sub_cons (t := 61) rfl (sub_cons (t := 62) rfl (sub_cons (t := 63) rfl (sub_cons (t := 64) rfl (sub_cons (t := 65) rfl (sub_nil _))))))))))))))))))))) (fun _ => rfl)) ?_ ?_
     ·refine ⟨?_,?_,?_,?_,?_,?_,?_,?_,?_,?_,?_,?_,?_,trivial⟩
      ·exact fun done hi hc hcu => draw_exi (I := Z120_I) fun ga70 => draw_value (i := 0) (t := 67) (v := (pt b2 0)) rfl rfl (wanted_none rfl) (fun a => hasA_base) (ov_move rfl) rfl rfl (onlyT_spec (k0 := 0) rfl rfl rfl)
      ·exact fun done hi hc hcu => draw_exi (I := Z120_I) fun ga70 => draw_value (i := 1) (t := 68) (v := s1) rfl rfl (wanted_none rfl) (fun a => hasA_base) (ov_move rfl) rfl rfl (onlyT_spec (k0 := 1) rfl rfl rfl)
      ·exact fun done hi hc hcu => draw_exi (I := Z120_I) fun ga70 => draw_value (i := 2) (t := 69) (v := (I i26)) rfl rfl (wanted_none rfl) (fun a => hasA_base) (ov_move rfl) rfl rfl (onlyT_spec (k0 := 2) rfl rfl rfl)
      ·exact fun done hi hc hcu => draw_exi (I := Z120_I) fun ga70 => draw_value (i := 3) (t := 70) (v := (eptr s1 (i26.toNat * 1))) rfl rfl (wanted_none rfl) (fun a => (hasA_cons (k := 2) rfl (done_of (j := 2) hcu rfl (by decide) rfl) (hasA_cons (k := 1) rfl (done_of (j := 1) hcu rfl (by decide) rfl) hasA_base))) (ov_indexAddr (sz := 0) 1 rfl rfl F_slice_23 F_size_2 rfl hA1 c322 c308) rfl rfl (onlyT_spec (k0 := 3) rfl rfl rfl)
      ·exact fun done hi hc hcu => draw_exi (I := Z120_I) fun ga70 => draw_value (i := 4) (t := 71) (v := (I (l1.getD i26.toNat 0))) rfl rfl (wanted_none rfl) (fun a => (hasA_cons (k := 3) rfl (done_of (j := 3) hcu rfl (by decide) rfl) hasA_base)) (ov_load (v := (I (l1.getD i26.toNat 0))) rfl F_agg_2 (reads_rd (i := 1) rfl hA1 (by simp [Z120_T,Z120_L]) (fl_read0 (eI_len _) (ix_lt c322 c308) rfl))) rfl rfl (onlyT_spec (k0 := 4) rfl rfl rfl)
      ·exact fun done hi hc hcu => draw_exi (I := Z120_I) fun ga70 => draw_value (i := 5) (t := 72) (v := s1) rfl rfl (wanted_none rfl) (fun a => hasA_base) (ov_move rfl) rfl rfl (onlyT_spec (k0 := 5) rfl rfl rfl)
      ·exact fun done hi hc hcu => draw_exi (I := Z120_I) fun ga70 => draw_value (i := 6) (t := 73) (v := (I i26)) rfl rfl (wanted_none rfl) (fun a => hasA_base) (ov_move rfl) rfl rfl (onlyT_spec (k0 := 6) rfl rfl rfl)
      ·exact fun done hi hc hcu => draw_exi (I := Z120_I) fun ga70 => draw_value (i := 7) (t := 74) (v := (eptr s1 (i26.toNat * 1))) rfl rfl (wanted_none rfl) (fun a => (hasA_cons (k := 6) rfl (done_of (j := 6) hcu rfl (by decide) rfl) (hasA_cons (k := 5) rfl (done_of (j := 5) hcu rfl (by decide) rfl) hasA_base))) (ov_indexAddr (sz := 0) 1 rfl rfl F_slice_23 F_size_2 rfl hA1 c322 c308) rfl rfl (onlyT_spec (k0 := 7) rfl rfl rfl)
      ·exact fun done hi hc hcu => draw_exi (I := Z120_I) fun ga70 => draw_value (i := 8) (t := 75) (v := (I (l1.getD i26.toNat 0))) rfl rfl (wanted_none rfl) (fun a => (hasA_cons (k := 7) rfl (done_of (j := 7) hcu rfl (by decide) rfl) hasA_base)) (ov_load (v := (I (l1.getD i26.toNat 0))) rfl F_agg_2 (reads_rd (i := 1) rfl hA1 (by simp [Z120_T,Z120_L]) (fl_read0 (eI_len _) (ix_lt c322 c308) rfl))) rfl rfl (onlyT_spec (k0 := 8) rfl rfl rfl)
      ·exact fun done hi hc hcu => draw_exi (I := Z120_I) fun ga70 => draw_value (i := 9) (t := 76) (v := (I (w64 ((l1.getD i26.toNat 0) + 5)))) rfl rfl (wanted_none rfl) (fun a => (hasA_cons (k := 8) rfl (done_of (j := 8) hcu rfl (by decide) rfl) hasA_base)) (ov_bin rfl rfl (b_add _ _ _) ) rfl rfl (onlyT_spec (k0 := 9) rfl rfl rfl)
      ·refine fun done hi hc hcu => ent_exi (S := fun ga70 => Z120_I ga70 done) fun ga70 => draw_turnP (i := 10) (t := 77) (x := ga70) (L := Z120_L) (T := Z120_T) (L2 := [emp,A,box b2 118 [I x155.1,sv181.sv,I x168.2.1],(jown sv181 66 4 enc_Wal_Batch 93 6 jlen_Wal_Batch jics_Wal_Batch l13)]) [2,3,0,1] [2,4,0,1] rfl rfl (wanted_none rfl) (fun a => (hasA_cons (k := 9) rfl (done_of (j := 9) hcu rfl (by decide) rfl) (hasA_cons (k := 4) rfl (done_of (j := 4) hcu rfl (by decide) rfl) (hasA_cons (k := 0) rfl (done_of (j := 0) hcu rfl (by decide) rfl) hasA_base)))) (by simp only [Z120_T,Z120_L,hi,sel]) (by decide) rfl (ot_call (Lr := [emp,A]) (first := []) (cap := []) (xs := [.tmp 67,.tmp 71,.tmp 76]) rfl rfl F_call_24 rfl (mem_Mem_Facts_O.spec K b2 sv181 x155.1 l13 x168.2.1 (l1.getD i26.toNat 0) (w64 ((l1.getD i26.toNat 0) + 5)) _ h281) rfl) (by decide) rfl rfl ?_
       rintro g0_ _ ⟨_,⟨_,rfl,rfl⟩,rfl⟩
       exact ⟨(upb ga70 10 g0_),show some [own g0_ 93 6 x285.length (fl enc_Api_Fact x285),A,box b2 118 [I x155.1,sv181.sv,I x168.2.1],(jown sv181 66 4 enc_Wal_Batch 93 6 jlen_Wal_Batch jics_Wal_Batch l13)] = _ by simp [Z120_T,Z120_L,up,upb,sel,hi],(tr_same rfl rfl (tr_same rfl rfl (tr_same rfl rfl (tr_same rfl rfl (tr_same rfl rfl (tr_same rfl rfl (tr_same rfl rfl (tr_same rfl rfl (tr_same rfl rfl (tr_same rfl rfl (tr_this (tr_same rfl rfl (tr_same rfl rfl tr_nil)))))))))))))⟩
      ·intro done hi hc hcu
       refine draw_exi (I := Z120_I) fun ga70 => ?_
       have d10 : done 10 = true := done_of (j := 10) hcu rfl (by decide) rfl
       exact draw_value (i := 11) (t := 78) (v := (I (x285.length : Int))) rfl rfl (wanted_none rfl) (fun a => (hasA_cons (k := 10) rfl d10 hasA_base)) (ov_L (L2 := [own (ga70 10) 93 6 x285.length (fl enc_Api_Fact x285),A,box b2 118 [I x155.1,sv181.sv,I x168.2.1],(jown sv181 66 4 enc_Wal_Batch 93 6 jlen_Wal_Batch jics_Wal_Batch l13)]) (by simp only [Z120_T,Z120_L,d10,sel]) (ov_len 0 rfl F_slice_46 rfl (isRd_ownx 93))) rfl rfl (onlyT_spec (k0 := 11) rfl rfl rfl)
      ·exact fun done hi hc hcu => draw_exi (I := Z120_I) fun ga70 => draw_value (i := 12) (t := 10) (v := (I (x285.length : Int))) rfl rfl (wanted_none rfl) (fun a => (hasA_cons (k := 11) rfl (done_of (j := 11) hcu rfl (by decide) rfl) hasA_base)) (ov_assign rfl) rfl rfl (onlyT_spec (k0 := 12) rfl rfl rfl)
     ·intro done hall
      refine ent_exi (S := fun ga70 => Z120_I ga70 done) fun ga70 => ?_
      refine draw_endL [own (ga70 10) 93 6 x285.length (fl enc_Api_Fact x285),A,box b2 118 [I x155.1,sv181.sv,I x168.2.1],(jown sv181 66 4 enc_Wal_Batch 93 6 jlen_Wal_Batch jics_Wal_Batch l13)] (by simp only [Z120_T,Z120_L,hall 10 (by decide),sel]) (fun a => (hasA_cons (k := 12) rfl (hall 12 (by decide)) (hasA_cons (k := 0) rfl (hall 0 (by decide)) (hasA_cons (k := 1) rfl (hall 1 (by decide)) (hasA_cons (k := 2) rfl (hall 2 (by decide)) (hasA_cons (k := 3) rfl (hall 3 (by decide)) (hasA_cons (k := 4) rfl (hall 4 (by decide)) (hasA_cons (k := 5) rfl (hall 5 (by decide)) (hasA_cons (k := 6) rfl (hall 6 (by decide)) (hasA_cons (k := 7) rfl (hall 7 (by decide)) (hasA_cons (k := 8) rfl (hall 8 (by decide)) (hasA_cons (k := 9) rfl (hall 9 (by decide)) (hasA_cons (k := 10) rfl (hall 10 (by decide)) (hasA_cons (k := 11) rfl (hall 11 (by decide)) hasA_base)))))))))))))) ?_
      refine ent_seq (ent_seq ?_)
      obtain ⟨x288,h284,H16⟩ := Option.bind_eq_some_iff.1 H16
      refine htT H16 (fun c327 H16 => ?_) fun c327 H16 => ?_
      ·let Z118_T : DT := fun ga72 => [(0,79,pt b2 0),(1,80,s1),(2,81,I i26),(3,82,(eptr s1 (i26.toNat * 1))),(4,83,I (l1.getD i26.toNat 0)),(5,84,s1),(6,85,I i26),(7,86,(eptr s1 (i26.toNat * 1))),(8,87,I (l1.getD i26.toNat 0)),(9,88,I (w64 ((l1.getD i26.toNat 0) + 5))),(10,89,I x288.2),(11,90,I (x285.length : Int)),(12,91,bool (x288.2 != (x285.length : Int))),(13,92,bool (x288.2 != (x285.length : Int))),(14,93,undef),(15,94,undef),(16,95,undef),(17,96,undef),(18,97,undef),(19,98,undef),(20,99,undef),(21,100,undef),(22,101,undef),(23,102,undef),(24,103,undef),(25,104,bool true)]
       let Z118_L : DL := fun ga72 done => [sel (done 10) (hown (ga72 10) 66 4 enc_Wal_Batch 93 6 jlen_Wal_Batch jics_Wal_Batch x288.1) emp,own (ga70 10) 93 6 x285.length (fl enc_Api_Fact x285),A,sel (done 10) (box b2 118 [I x155.1,(ga72 10),I x168.2.1]) (box b2 118 [I x155.1,sv181.sv,I x168.2.1]),(jown sv181 66 4 enc_Wal_Batch 93 6 jlen_Wal_Batch jics_Wal_Batch l13)]
       let Z118_I : DI := fun ga72 done a w => StD 133 w0 F [(1,s1),(5,pt b2 0),(7,I i25),(9,I i26),(10,I (x285.length : Int)),(48,I i26),(49,s1),(50,I (l1.length : Int)),(51,Value.bool (decide (i26 < (l1.length : Int)))),(54,s1),(55,I i26),(56,(eptr s1 (i26.toNat * 1))),(57,I (l1.getD i26.toNat 0)),(58,Value.bool (decide ((l1.getD i26.toNat 0) < 0))),(59,Value.bool (decide ((l1.getD i26.toNat 0) < 0))),(60,s1),(61,I i26),(62,(eptr s1 (i26.toNat * 1))),(63,I (l1.getD i26.toNat 0)),(64,Value.bool (decide (16777216 < (l1.getD i26.toNat 0)))),(65,Value.bool (decide (16777216 < (l1.getD i26.toNat 0)))),(67,pt b2 0),(68,s1),(69,I i26),(70,(eptr s1 (i26.toNat * 1))),(71,I (l1.getD i26.toNat 0)),(72,s1),(73,I i26),(74,(eptr s1 (i26.toNat * 1))),(75,I (l1.getD i26.toNat 0)),(76,I (w64 ((l1.getD i26.toNat 0) + 5))),(77,(ga70 10)),(78,I (x285.length : Int))] (Z118_T ga72) done (Z118_L ga72 done) a w
       refine ent_drawm 26 rfl (fun done a w => ∃ ga72 : Nat → Value,Z118_I ga72 done a w) (by kernel_rfl) (by kernel_rfl) (draw_startG (T := Z118_T) (L' := fun ga72 : Nat → Value => [sel false (hown (ga72 10) 66 4 enc_Wal_Batch 93 6 jlen_Wal_Batch jics_Wal_Batch x288.1) emp,own (ga70 10) 93 6 x285.length (fl enc_Api_Fact x285),A,sel false (box b2 118 [I x155.1,(ga72 10),I x168.2.1]) (box b2 118 [I x155.1,sv181.sv,I x168.2.1]),(jown sv181 66 4 enc_Wal_Batch 93 6 jlen_Wal_Batch jics_Wal_Batch l13)]) 1 (sub_cons (t := 1) rfl (sub_cons (t := 5) rfl (sub_cons (t := 7) rfl (sub_cons (t := 9) rfl (sub_cons (t := 10) rfl (sub_cons (t := 48) rfl (sub_cons (t := 49) rfl (sub_cons (t := 50) rfl (sub_cons (t := 51) rfl (sub_cons (t := 54) rfl (sub_cons (t := 55) rfl (sub_cons (t := 56) rfl (sub_cons (t := 57) rfl (sub_cons (t := 58) rfl (sub_cons (t := 59) rfl (sub_cons (t := 60) rfl (sub_cons (t := 61) rfl (sub_cons (t := 62) rfl (sub_cons (t := 63) rfl (sub_cons (t := 64) rfl (sub_cons (t := 65) rfl (sub_cons (t := 67) rfl (sub_cons (t := 68) rfl (sub_cons (t := 69) rfl (sub_cons (t := 70) rfl (sub_cons (t := 71) rfl (sub_cons (t := 72) rfl (sub_cons (t := 73) rfl (sub_cons (t := 74) rfl (sub_cons (t := 75) rfl (sub_cons (t := 76) rfl (sub_cons (t := 77) rfl (sub_cons (t := 78) rfl (sub_nil _)))))))))))))))))))))))))))))))))) (fun _ => rfl)) ?_ ?_
       ·refine ⟨?_,?_,?_,?_,?_,?_,?_,?_,?_,?_,?_,?_,?_,?_,?_,?_,?_,?_,?_,?_,?_,?_,?_,?_,?_,?_,trivial⟩
        ·exact fun done hi hc hcu => draw_exi (I := Z118_I) fun ga72 => draw_value (i := 0) (t := 79) (v := (pt b2 0)) rfl rfl (wanted_none rfl) (fun a => hasA_base) (ov_move rfl) rfl rfl (onlyT_spec (k0 := 0) rfl rfl rfl)
        ·exact fun done hi hc hcu => draw_exi (I := Z118_I) fun ga72 => draw_value (i := 1) (t := 80) (v := s1) rfl rfl (wanted_none rfl) (fun a => hasA_base) (ov_move rfl) rfl rfl (onlyT_spec (k0 := 1) rfl rfl rfl)
        ·exact fun done hi hc hcu => draw_exi (I := Z118_I) fun ga72 => draw_value (i := 2) (t := 81) (v := (I i26)) rfl rfl (wanted_none rfl) (fun a => hasA_base) (ov_move rfl) rfl rfl (onlyT_spec (k0 := 2) rfl rfl rfl)
        ·exact fun done hi hc hcu => draw_exi (I := Z118_I) fun ga72 => draw_value (i := 3) (t := 82) (v := (eptr s1 (i26.toNat * 1))) rfl rfl (wanted_none rfl) (fun a => (hasA_cons (k := 2) rfl (done_of (j := 2) hcu rfl (by decide) rfl) (hasA_cons (k := 1) rfl (done_of (j := 1) hcu rfl (by decide) rfl) hasA_base))) (ov_indexAddr (sz := 0) 2 rfl rfl F_slice_23 F_size_2 rfl hA1 c322 c308) rfl rfl (onlyT_spec (k0 := 3) rfl rfl rfl)
        ·exact fun done hi hc hcu => draw_exi (I := Z118_I) fun ga72 => draw_value (i := 4) (t := 83) (v := (I (l1.getD i26.toNat 0))) rfl rfl (wanted_none rfl) (fun a => (hasA_cons (k := 3) rfl (done_of (j := 3) hcu rfl (by decide) rfl) hasA_base)) (ov_load (v := (I (l1.getD i26.toNat 0))) rfl F_agg_2 (reads_rd (i := 2) rfl hA1 (by simp [Z120_T,Z120_L,Z118_T,Z118_L]) (fl_read0 (eI_len _) (ix_lt c322 c308) rfl))) rfl rfl (onlyT_spec (k0 := 4) rfl rfl rfl)
        ·exact fun done hi hc hcu => draw_exi (I := Z118_I) fun ga72 => draw_value (i := 5) (t := 84) (v := s1) rfl rfl (wanted_none rfl) (fun a => hasA_base) (ov_move rfl) rfl rfl (onlyT_spec (k0 := 5) rfl rfl rfl)
        ·exact fun done hi hc hcu => draw_exi (I := Z118_I) fun ga72 => draw_value (i := 6) (t := 85) (v := (I i26)) rfl rfl (wanted_none rfl) (fun a => hasA_base) (ov_move rfl) rfl rfl (onlyT_spec (k0 := 6) rfl rfl rfl)
        ·exact fun done hi hc hcu => draw_exi (I := Z118_I) fun ga72 => draw_value (i := 7) (t := 86) (v := (eptr s1 (i26.toNat * 1))) rfl rfl (wanted_none rfl) (fun a => (hasA_cons (k := 6) rfl (done_of (j := 6) hcu rfl (by decide) rfl) (hasA_cons (k := 5) rfl (done_of (j := 5) hcu rfl (by decide) rfl) hasA_base))) (ov_indexAddr (sz := 0) 2 rfl rfl F_slice_23 F_size_2 rfl hA1 c322 c308) rfl rfl (onlyT_spec (k0 := 7) rfl rfl rfl)
        ·exact fun done hi hc hcu => draw_exi (I := Z118_I) fun ga72 => draw_value (i := 8) (t := 87) (v := (I (l1.getD i26.toNat 0))) rfl rfl (wanted_none rfl) (fun a => (hasA_cons (k := 7) rfl (done_of (j := 7) hcu rfl (by decide) rfl) hasA_base)) (ov_load (v := (I (l1.getD i26.toNat 0))) rfl F_agg_2 (reads_rd (i := 2) rfl hA1 (by simp [Z120_T,Z120_L,Z118_T,Z118_L]) (fl_read0 (eI_len _) (ix_lt c322 c308) rfl))) rfl rfl (onlyT_spec (k0 := 8) rfl rfl rfl)
        ·exact fun done hi hc hcu => draw_exi (I := Z118_I) fun ga72 => draw_value (i := 9) (t := 88) (v := (I (w64 ((l1.getD i26.toNat 0) + 5)))) rfl rfl (wanted_none rfl) (fun a => (hasA_cons (k := 8) rfl (done_of (j := 8) hcu rfl (by decide) rfl) hasA_base)) (ov_bin rfl rfl (b_add _ _ _) ) rfl rfl (onlyT_spec (k0 := 9) rfl rfl rfl)
        ·refine fun done hi hc hcu => ent_exi (S := fun ga72 => Z118_I ga72 done) fun ga72 => draw_turnP (i := 10) (t := 89) (x := ga72) (L := Z118_L) (T := Z118_T) (L2 := [emp,own (ga70 10) 93 6 x285.length (fl enc_Api_Fact x285),A,box b2 118 [I x155.1,sv181.sv,I x168.2.1],(jown sv181 66 4 enc_Wal_Batch 93 6 jlen_Wal_Batch jics_Wal_Batch l13)]) [3,4,0,1,2] [1,4,5,0,2] rfl rfl (wanted_none rfl) (fun a => (hasA_cons (k := 9) rfl (done_of (j := 9) hcu rfl (by decide) rfl) (hasA_cons (k := 4) rfl (done_of (j := 4) hcu rfl (by decide) rfl) (hasA_cons (k := 0) rfl (done_of (j := 0) hcu rfl (by decide) rfl) hasA_base)))) (by simp only [Z120_T,Z120_L,Z118_T,Z118_L,hi,sel]) (by decide) rfl (ot_call (Lr := [emp,own (ga70 10) 93 6 x285.length (fl enc_Api_Fact x285),A]) (first := []) (cap := []) (xs := [.tmp 79,.tmp 83,.tmp 88]) rfl rfl F_call_25 rfl (mem_Mem_Drop_O.spech K b2 sv181 x155.1 l13 x168.2.1 (l1.getD i26.toNat 0) (w64 ((l1.getD i26.toNat 0) + 5)) _ h284) rfl) (by decide) rfl rfl ?_
         rintro _ _ ⟨_,⟨g0_,rfl,rfl⟩,rfl⟩
         exact ⟨(upb ga72 10 g0_),show some [(hown g0_ 66 4 enc_Wal_Batch 93 6 jlen_Wal_Batch jics_Wal_Batch x288.1),own (ga70 10) 93 6 x285.length (fl enc_Api_Fact x285),A,box b2 118 [I x155.1,g0_,I x168.2.1],(jown sv181 66 4 enc_Wal_Batch 93 6 jlen_Wal_Batch jics_Wal_Batch l13)] = _ by simp [Z120_T,Z120_L,Z118_T,Z118_L,up,upb,sel,hi],(tr_same rfl rfl (tr_same rfl rfl (tr_same rfl rfl (tr_same rfl rfl (tr_same rfl rfl (tr_same rfl rfl (tr_same rfl rfl (tr_same rfl rfl (tr_same rfl rfl (tr_same rfl rfl (tr_this (tr_same rfl rfl (tr_same rfl rfl (tr_same rfl rfl (tr_same rfl rfl (tr_same rfl rfl (tr_same rfl rfl (tr_same rfl rfl (tr_same rfl rfl (tr_same rfl rfl (tr_same rfl rfl (tr_same rfl rfl (tr_same rfl rfl (tr_same rfl rfl (tr_same rfl rfl (tr_same rfl rfl tr_nil))))))))))))))))))))))))))⟩
        ·exact fun done hi hc hcu => draw_exi (I := Z118_I) fun ga72 => draw_value (i := 11) (t := 90) (v := (I (x285.length : Int))) rfl rfl (wanted_none rfl) (fun a => hasA_base) (ov_move rfl) rfl rfl (onlyT_spec (k0 := 11) rfl rfl rfl)
        ·exact fun done hi hc hcu => draw_exi (I := Z118_I) fun ga72 => draw_value (i := 12) (t := 91) (v := (bool (x288.2 != (x285.length : Int)))) rfl rfl (wanted_none rfl) (fun a => (hasA_cons (k := 11) rfl (done_of (j := 11) hcu rfl (by decide) rfl) (hasA_cons (k := 10) rfl (done_of (j := 10) hcu rfl (by decide) rfl) hasA_base))) (ov_bin rfl rfl (b_neq _ _ _)) rfl rfl (onlyT_spec (k0 := 12) rfl rfl rfl)
        ·exact fun done hi hc hcu => draw_exi (I := Z118_I) fun ga72 => draw_value (i := 13) (t := 92) (v := (bool (x288.2 != (x285.length : Int)))) rfl rfl (wanted_none rfl) (fun a => (hasA_cons (k := 12) rfl (done_of (j := 12) hcu rfl (by decide) rfl) hasA_base)) (ov_move rfl) rfl rfl (onlyT_spec (k0 := 13) rfl rfl rfl)
        ·exact fun done hi hc hcu => draw_exi (I := Z118_I) fun ga72 => draw_off (i := 14) (t := 93) rfl rfl (wanted_off rfl rfl rfl (ne_t c327)) (fun a => (hasA_cons (k := 13) rfl (done_of (j := 13) hcu rfl (by decide) rfl) hasA_base)) rfl rfl (onlyT_spec (k0 := 14) rfl rfl rfl)
        ·exact fun done hi hc hcu => draw_exi (I := Z118_I) fun ga72 => draw_off (i := 15) (t := 94) rfl rfl (wanted_off rfl rfl rfl (ne_t c327)) (fun a => (hasA_cons (k := 13) rfl (done_of (j := 13) hcu rfl (by decide) rfl) hasA_base)) rfl rfl (onlyT_spec (k0 := 15) rfl rfl rfl)
        ·exact fun done hi hc hcu => draw_exi (I := Z118_I) fun ga72 => draw_off (i := 16) (t := 95) rfl rfl (wanted_off rfl rfl rfl (ne_t c327)) (fun a => (hasA_cons (k := 13) rfl (done_of (j := 13) hcu rfl (by decide) rfl) hasA_base)) rfl rfl (onlyT_spec (k0 := 16) rfl rfl rfl)
        ·exact fun done hi hc hcu => draw_exi (I := Z118_I) fun ga72 => draw_off (i := 17) (t := 96) rfl rfl (wanted_off rfl rfl rfl (ne_t c327)) (fun a => (hasA_cons (k := 13) rfl (done_of (j := 13) hcu rfl (by decide) rfl) hasA_base)) rfl rfl (onlyT_spec (k0 := 17) rfl rfl rfl)
        ·exact fun done hi hc hcu => draw_exi (I := Z118_I) fun ga72 => draw_off (i := 18) (t := 97) rfl rfl (wanted_off rfl rfl rfl (ne_t c327)) (fun a => (hasA_cons (k := 13) rfl (done_of (j := 13) hcu rfl (by decide) rfl) hasA_base)) rfl rfl (onlyT_spec (k0 := 18) rfl rfl rfl)
        ·exact fun done hi hc hcu => draw_exi (I := Z118_I) fun ga72 => draw_off (i := 19) (t := 98) rfl rfl (wanted_off rfl rfl rfl (ne_t c327)) (fun a => (hasA_cons (k := 13) rfl (done_of (j := 13) hcu rfl (by decide) rfl) hasA_base)) rfl rfl (onlyT_spec (k0 := 19) rfl rfl rfl)
        ·exact fun done hi hc hcu => draw_exi (I := Z118_I) fun ga72 => draw_off (i := 20) (t := 99) rfl rfl (wanted_off rfl rfl rfl (ne_t c327)) (fun a => (hasA_cons (k := 13) rfl (done_of (j := 13) hcu rfl (by decide) rfl) hasA_base)) rfl rfl (onlyT_spec (k0 := 20) rfl rfl rfl)
        ·exact fun done hi hc hcu => draw_exi (I := Z118_I) fun ga72 => draw_off (i := 21) (t := 100) rfl rfl (wanted_off rfl rfl rfl (ne_t c327)) (fun a => (hasA_cons (k := 13) rfl (done_of (j := 13) hcu rfl (by decide) rfl) hasA_base)) rfl rfl (onlyT_spec (k0 := 21) rfl rfl rfl)
        ·exact fun done hi hc hcu => draw_exi (I := Z118_I) fun ga72 => draw_off (i := 22) (t := 101) rfl rfl (wanted_off rfl rfl rfl (ne_t c327)) (fun a => (hasA_cons (k := 13) rfl (done_of (j := 13) hcu rfl (by decide) rfl) hasA_base)) rfl rfl (onlyT_spec (k0 := 22) rfl rfl rfl)
        ·exact fun done hi hc hcu => draw_exi (I := Z118_I) fun ga72 => draw_off (i := 23) (t := 102) rfl rfl (wanted_off rfl rfl rfl (ne_t c327)) (fun a => (hasA_cons (k := 13) rfl (done_of (j := 13) hcu rfl (by decide) rfl) hasA_base)) rfl rfl (onlyT_spec (k0 := 23) rfl rfl rfl)
        ·exact fun done hi hc hcu => draw_exi (I := Z118_I) fun ga72 => draw_off (i := 24) (t := 103) rfl rfl (wanted_off rfl rfl rfl (ne_t c327)) (fun a => (hasA_cons (k := 13) rfl (done_of (j := 13) hcu rfl (by decide) rfl) hasA_base)) rfl rfl (onlyT_spec (k0 := 24) rfl rfl rfl)
        ·exact fun done hi hc hcu => draw_exi (I := Z118_I) fun ga72 => draw_value (i := 25) (t := 104) (v := (bool true)) rfl rfl (wanted_none rfl) (fun a => (hasA_cons (k := 24) rfl (done_of (j := 24) hcu rfl (by decide) rfl) (hasA_cons (k := 13) rfl (done_of (j := 13) hcu rfl (by decide) rfl) hasA_base))) (ov_pick rfl rfl rfl (pick_t (ne_t c327))) rfl rfl (onlyT_spec (k0 := 25) rfl rfl rfl)
       ·intro done hall
        refine ent_exi (S := fun ga72 => Z118_I ga72 done) fun ga72 => ?_
        refine draw_endL [(hown (ga72 10) 66 4 enc_Wal_Batch 93 6 jlen_Wal_Batch jics_Wal_Batch x288.1),own (ga70 10) 93 6 x285.length (fl enc_Api_Fact x285),A,box b2 118 [I x155.1,(ga72 10),I x168.2.1],(jown sv181 66 4 enc_Wal_Batch 93 6 jlen_Wal_Batch jics_Wal_Batch l13)] (by simp only [Z120_T,Z120_L,Z118_T,Z118_L,hall 10 (by decide),sel]) (fun a => (hasA_cons (k := 0) rfl (hall 0 (by decide)) (hasA_cons (k := 1) rfl (hall 1 (by decide)) (hasA_cons (k := 2) rfl (hall 2 (by decide)) (hasA_cons (k := 3) rfl (hall 3 (by decide)) (hasA_cons (k := 4) rfl (hall 4 (by decide)) (hasA_cons (k := 5) rfl (hall 5 (by decide)) (hasA_cons (k := 6) rfl (hall 6 (by decide)) (hasA_cons (k := 7) rfl (hall 7 (by decide)) (hasA_cons (k := 8) rfl (hall 8 (by decide)) (hasA_cons (k := 9) rfl (hall 9 (by decide)) (hasA_cons (k := 10) rfl (hall 10 (by decide)) (hasA_cons (k := 11) rfl (hall 11 (by decide)) (hasA_cons (k := 12) rfl (hall 12 (by decide)) (hasA_cons (k := 13) rfl (hall 13 (by decide)) (hasA_cons (k := 14) rfl (hall 14 (by decide)) (hasA_cons (k := 15) rfl (hall 15 (by decide)) (hasA_cons (k := 16) rfl (hall 16 (by decide)) (hasA_cons (k := 17) rfl (hall 17 (by decide)) (hasA_cons (k := 18) rfl (hall 18 (by decide)) (hasA_cons (k := 19) rfl (hall 19 (by decide)) (hasA_cons (k := 20) rfl (hall 20 (by decide)) (hasA_cons (k := 21) rfl (hall 21 (by decide)) (hasA_cons (k := 22) rfl (hall 22 (by decide)) (hasA_cons (k := 23) rfl (hall 23 (by decide)) (hasA_cons (k := 24) rfl (hall 24 (by decide)) (hasA_cons (k := 25) rfl (hall 25 (by decide)) hasA_base))))))))))))))))))))))))))) ?_
        refine ent_unh 0 rfl fun sv208 hsv208 => ?_
        rw [← hsv208]
        refine ent_L [(jown sv208 66 4 enc_Wal_Batch 93 6 jlen_Wal_Batch jics_Wal_Batch x288.1),own (ga70 10) 93 6 x285.length (fl enc_Api_Fact x285),A,box b2 118 [I x155.1,sv208.sv,I x168.2.1],(jown sv181 66 4 enc_Wal_Batch 93 6 jlen_Wal_Batch jics_Wal_Batch l13)] rfl ?_
        refine ent_cond_true rfl rfl (ent_seq (ent_region (ent_value (ov_assign rfl) rfl rfl rfl (ent_nil (ent_retc ?_)))))
        cases H16
        have H19 := Option.some.inj (show some _ = some _ from H)
        cases H19
        refine ent_pick [2] (by decide) rfl ?_
        exact ret_tmp rfl rfl ⟨rfl,rfl⟩
      obtain ⟨x289,h285,H16⟩ := Option.bind_eq_some_iff.1 H16
      let Z119_T : DT := fun ga72 => [(0,79,pt b2 0),(1,80,s1),(2,81,I i26),(3,82,(eptr s1 (i26.toNat * 1))),(4,83,I (l1.getD i26.toNat 0)),(5,84,s1),(6,85,I i26),(7,86,(eptr s1 (i26.toNat * 1))),(8,87,I (l1.getD i26.toNat 0)),(9,88,I (w64 ((l1.getD i26.toNat 0) + 5))),(10,89,I x288.2),(11,90,I (x285.length : Int)),(12,91,bool (x288.2 != (x285.length : Int))),(13,92,bool (x288.2 != (x285.length : Int))),(14,93,pt b2 0),(15,94,s1),(16,95,I i26),(17,96,(eptr s1 (i26.toNat * 1))),(18,97,I (l1.getD i26.toNat 0)),(19,98,s1),(20,99,I i26),(21,100,(eptr s1 (i26.toNat * 1))),(22,101,I (l1.getD i26.toNat 0)),(23,102,I (w64 ((l1.getD i26.toNat 0) + 5))),(24,103,bool x289),(25,104,bool x289)]
      let Z119_L : DL := fun ga72 done => [sel (done 10) (hown (ga72 10) 66 4 enc_Wal_Batch 93 6 jlen_Wal_Batch jics_Wal_Batch x288.1) emp,own (ga70 10) 93 6 x285.length (fl enc_Api_Fact x285),A,sel (done 10) (box b2 118 [I x155.1,(ga72 10),I x168.2.1]) (box b2 118 [I x155.1,sv181.sv,I x168.2.1]),(jown sv181 66 4 enc_Wal_Batch 93 6 jlen_Wal_Batch jics_Wal_Batch l13)]
      let Z119_I : DI := fun ga72 done a w => StD 133 w0 F [(1,s1),(5,pt b2 0),(7,I i25),(9,I i26),(10,I (x285.length : Int)),(48,I i26),(49,s1),(50,I (l1.length : Int)),(51,Value.bool (decide (i26 < (l1.length : Int)))),(54,s1),(55,I i26),(56,(eptr s1 (i26.toNat * 1))),(57,I (l1.getD i26.toNat 0)),(58,Value.bool (decide ((l1.getD i26.toNat 0) < 0))),(59,Value.bool (decide ((l1.getD i26.toNat 0) < 0))),(60,s1),(61,I i26),(62,(eptr s1 (i26.toNat * 1))),(63,I (l1.getD i26.toNat 0)),(64,Value.bool (decide (16777216 < (l1.getD i26.toNat 0)))),(65,Value.bool (decide (16777216 < (l1.getD i26.toNat 0)))),(67,pt b2 0),(68,s1),(69,I i26),(70,(eptr s1 (i26.toNat * 1))),(71,I (l1.getD i26.toNat 0)),(72,s1),(73,I i26),(74,(eptr s1 (i26.toNat * 1))),(75,I (l1.getD i26.toNat 0)),(76,I (w64 ((l1.getD i26.toNat 0) + 5))),(77,(ga70 10)),(78,I (x285.length : Int))] (Z119_T ga72) done (Z119_L ga72 done) a w
      refine ent_drawm 26 rfl (fun done a w => ∃ ga72 : Nat → Value,Z119_I ga72 done a w) (by kernel_rfl) (by kernel_rfl) (draw_startG (T := Z119_T) (L' := fun ga72 : Nat → Value => [sel false (hown (ga72 10) 66 4 enc_Wal_Batch 93 6 jlen_Wal_Batch jics_Wal_Batch x288.1) emp,own (ga70 10) 93 6 x285.length (fl enc_Api_Fact x285),A,sel false (box b2 118 [I x155.1,(ga72 10),I x168.2.1]) (box b2 118 [I x155.1,sv181.sv,I x168.2.1]),(jown sv181 66 4 enc_Wal_Batch 93 6 jlen_Wal_Batch jics_Wal_Batch l13)]) 1 (sub_cons (t := 1) rfl (sub_cons (t := 5) rfl (sub_cons (t := 7) rfl (sub_cons (t := 9) rfl (sub_cons (t := 10) rfl (sub_cons (t := 48) rfl (sub_cons (t := 49) rfl (sub_cons (t := 50) rfl (sub_cons (t := 51) rfl (sub_cons (t := 54) rfl (sub_cons (t := 55) rfl (sub_cons (t := 56) rfl (sub_cons (t := 57) rfl (sub_cons (t := 58) rfl (sub_cons (t := 59) rfl (sub_cons (t := 60) rfl (sub_cons (t := 61) rfl (sub_cons (t := 62) rfl (sub_cons (t := 63) rfl (sub_cons (t := 64) rfl (sub_cons (t := 65) rfl (sub_cons (t := 67) rfl (sub_cons (t := 68) rfl (sub_cons (t := 69) rfl (sub_cons (t := 70) rfl (sub_cons (t := 71) rfl (sub_cons (t := 72) rfl (sub_cons (t := 73) rfl (sub_cons (t := 74) rfl (sub_cons (t := 75) rfl (sub_cons (t := 76) rfl (sub_cons (t := 77) rfl (sub_cons (t := 78) rfl (sub_nil _)))))))))))))))))))))))))))))))))) (fun _ => rfl)) ?_ ?_
      ·refine ⟨?_,?_,?_,?_,?_,?_,?_,?_,?_,?_,?_,?_,?_,?_,?_,?_,?_,?_,?_,?_,?_,?_,?_,?_,?_,?_,trivial⟩
       ·exact fun done hi hc hcu => draw_exi (I := Z119_I) fun ga72 => draw_value (i := 0) (t := 79) (v := (pt b2 0)) rfl rfl (wanted_none rfl) (fun a => hasA_base) (ov_move rfl) rfl rfl (onlyT_spec (k0 := 0) rfl rfl rfl)
       ·exact fun done hi hc hcu => draw_exi (I := Z119_I) fun ga72 => draw_value (i := 1) (t := 80) (v := s1) rfl rfl (wanted_none rfl) (fun a => hasA_base) (ov_move rfl) rfl rfl (onlyT_spec (k0 := 1) rfl rfl rfl)
       ·exact fun done hi hc hcu => draw_exi (I := Z119_I) fun ga72 => draw_value (i := 2) (t := 81) (v := (I i26)) rfl rfl (wanted_none rfl) (fun a => hasA_base) (ov_move rfl) rfl rfl (onlyT_spec (k0 := 2) rfl rfl rfl)
       ·exact fun done hi hc hcu => draw_exi (I := Z119_I) fun ga72 => draw_value (i := 3) (t := 82) (v := (eptr s1 (i26.toNat * 1))) rfl rfl (wanted_none rfl) (fun a => (hasA_cons (k := 2) rfl (done_of (j := 2) hcu rfl (by decide) rfl) (hasA_cons (k := 1) rfl (done_of (j := 1) hcu rfl (by decide) rfl) hasA_base))) (ov_indexAddr (sz := 0) 2 rfl rfl F_slice_23 F_size_2 rfl hA1 c322 c308) rfl rfl (onlyT_spec (k0 := 3) rfl rfl rfl)
       ·exact fun done hi hc hcu => draw_exi (I := Z119_I) fun ga72 => draw_value (i := 4) (t := 83) (v := (I (l1.getD i26.toNat 0))) rfl rfl (wanted_none rfl) (fun a => (hasA_cons (k := 3) rfl (done_of (j := 3) hcu rfl (by decide) rfl) hasA_base)) (ov_load (v := (I (l1.getD i26.toNat 0))) rfl F_agg_2 (reads_rd (i := 2) rfl hA1 (by simp [Z120_T,Z120_L,Z119_T,Z119_L]) (fl_read0 (eI_len _) (ix_lt c322 c308) rfl))) rfl rfl (onlyT_spec (k0 := 4) rfl rfl rfl)
       ·exact fun done hi hc hcu => draw_exi (I := Z119_I) fun ga72 => draw_value (i := 5) (t := 84) (v := s1) rfl rfl (wanted_none rfl) (fun a => hasA_base) (ov_move rfl) rfl rfl (onlyT_spec (k0 := 5) rfl rfl rfl)
       ·exact fun done hi hc hcu => draw_exi (I := Z119_I) fun ga72 => draw_value (i := 6) (t := 85) (v := (I i26)) rfl rfl (wanted_none rfl) (fun a => hasA_base) (ov_move rfl) rfl rfl (onlyT_spec (k0 := 6) rfl rfl rfl)
       ·exact fun done hi hc hcu => draw_exi (I := Z119_I) fun ga72 => draw_value (i := 7) (t := 86) (v := (eptr s1 (i26.toNat * 1))) rfl rfl (wanted_none rfl) (fun a => (hasA_cons (k := 6) rfl (done_of (j := 6) hcu rfl (by decide) rfl) (hasA_cons (k := 5) rfl (done_of (j := 5) hcu rfl (by decide) rfl) hasA_base))) (ov_indexAddr (sz := 0) 2 rfl rfl F_slice_23 F_size_2 rfl hA1 c322 c308) rfl rfl (onlyT_spec (k0 := 7) rfl rfl rfl)
       ·exact fun done hi hc hcu => draw_exi (I := Z119_I) fun ga72 => draw_value (i := 8) (t := 87) (v := (I (l1.getD i26.toNat 0))) rfl rfl (wanted_none rfl) (fun a => (hasA_cons (k := 7) rfl (done_of (j := 7) hcu rfl (by decide) rfl) hasA_base)) (ov_load (v := (I (l1.getD i26.toNat 0))) rfl F_agg_2 (reads_rd (i := 2) rfl hA1 (by simp [Z120_T,Z120_L,Z119_T,Z119_L]) (fl_read0 (eI_len _) (ix_lt c322 c308) rfl))) rfl rfl (onlyT_spec (k0 := 8) rfl rfl rfl)
       ·exact fun done hi hc hcu => draw_exi (I := Z119_I) fun ga72 => draw_value (i := 9) (t := 88) (v := (I (w64 ((l1.getD i26.toNat 0) + 5)))) rfl rfl (wanted_none rfl) (fun a => (hasA_cons (k := 8) rfl (done_of (j := 8) hcu rfl (by decide) rfl) hasA_base)) (ov_bin rfl rfl (b_add _ _ _) ) rfl rfl (onlyT_spec (k0 := 9) rfl rfl rfl)
       ·refine fun done hi hc hcu => ent_exi (S := fun ga72 => Z119_I ga72 done) fun ga72 => draw_turnP (i := 10) (t := 89) (x := ga72) (L := Z119_L) (T := Z119_T) (L2 := [emp,own (ga70 10) 93 6 x285.length (fl enc_Api_Fact x285),A,box b2 118 [I x155.1,sv181.sv,I x168.2.1],(jown sv181 66 4 enc_Wal_Batch 93 6 jlen_Wal_Batch jics_Wal_Batch l13)]) [3,4,0,1,2] [1,4,5,0,2] rfl rfl (wanted_none rfl) (fun a => (hasA_cons (k := 9) rfl (done_of (j := 9) hcu rfl (by decide) rfl) (hasA_cons (k := 4) rfl (done_of (j := 4) hcu rfl (by decide) rfl) (hasA_cons (k := 0) rfl (done_of (j := 0) hcu rfl (by decide) rfl) hasA_base)))) (by simp only [Z120_T,Z120_L,Z119_T,Z119_L,hi,sel]) (by decide) rfl (ot_call (Lr := [emp,own (ga70 10) 93 6 x285.length (fl enc_Api_Fact x285),A]) (first := []) (cap := []) (xs := [.tmp 79,.tmp 83,.tmp 88]) rfl rfl F_call_25 rfl (mem_Mem_Drop_O.spech K b2 sv181 x155.1 l13 x168.2.1 (l1.getD i26.toNat 0) (w64 ((l1.getD i26.toNat 0) + 5)) _ h284) rfl) (by decide) rfl rfl ?_
        rintro _ _ ⟨_,⟨g0_,rfl,rfl⟩,rfl⟩
        exact ⟨(upb ga72 10 g0_),show some [(hown g0_ 66 4 enc_Wal_Batch 93 6 jlen_Wal_Batch jics_Wal_Batch x288.1),own (ga70 10) 93 6 x285.length (fl enc_Api_Fact x285),A,box b2 118 [I x155.1,g0_,I x168.2.1],(jown sv181 66 4 enc_Wal_Batch 93 6 jlen_Wal_Batch jics_Wal_Batch l13)] = _ by simp [Z120_T,Z120_L,Z119_T,Z119_L,up,upb,sel,hi],(tr_same rfl rfl (tr_same rfl rfl (tr_same rfl rfl (tr_same rfl rfl (tr_same rfl rfl (tr_same rfl rfl (tr_same rfl rfl (tr_same rfl rfl (tr_same rfl rfl (tr_same rfl rfl (tr_this (tr_same rfl rfl (tr_same rfl rfl (tr_same rfl rfl (tr_same rfl rfl (tr_same rfl rfl (tr_same rfl rfl (tr_same rfl rfl (tr_same rfl rfl (tr_same rfl rfl (tr_same rfl rfl (tr_same rfl rfl (tr_same rfl rfl (tr_same rfl rfl (tr_same rfl rfl (tr_same rfl rfl tr_nil))))))))))))))))))))))))))⟩
       ·exact fun done hi hc hcu => draw_exi (I := Z119_I) fun ga72 => draw_value (i := 11) (t := 90) (v := (I (x285.length : Int))) rfl rfl (wanted_none rfl) (fun a => hasA_base) (ov_move rfl) rfl rfl (onlyT_spec (k0 := 11) rfl rfl rfl)
       ·exact fun done hi hc hcu => draw_exi (I := Z119_I) fun ga72 => draw_value (i := 12) (t := 91) (v := (bool (x288.2 != (x285.length : Int)))) rfl rfl (wanted_none rfl) (fun a => (hasA_cons (k := 11) rfl (done_of (j := 11) hcu rfl (by decide) rfl) (hasA_cons (k := 10) rfl (done_of (j := 10) hcu rfl (by decide) rfl) hasA_base))) (ov_bin rfl rfl (b_neq _ _ _)) rfl rfl (onlyT_spec (k0 := 12) rfl rfl rfl)
       ·exact fun done hi hc hcu => draw_exi (I := Z119_I) fun ga72 => draw_value (i := 13) (t := 92) (v := (bool (x288.2 != (x285.length : Int)))) rfl rfl (wanted_none rfl) (fun a => (hasA_cons (k := 12) rfl (done_of (j := 12) hcu rfl (by decide) rfl) hasA_base)) (ov_move rfl) rfl rfl (onlyT_spec (k0 := 13) rfl rfl rfl)
       ·exact fun done hi hc hcu => draw_exi (I := Z119_I) fun ga72 => draw_value (i := 14) (t := 93) (v := (pt b2 0)) rfl rfl (wanted_on rfl rfl rfl (ne_f c327)) (fun a => (hasA_cons (k := 13) rfl (done_of (j := 13) hcu rfl (by decide) rfl) hasA_base)) (ov_move rfl) rfl rfl (onlyT_spec (k0 := 14) rfl rfl rfl)
       ·exact fun done hi hc hcu => draw_exi (I := Z119_I) fun ga72 => draw_value (i := 15) (t := 94) (v := s1) rfl rfl (wanted_on rfl rfl rfl (ne_f c327)) (fun a => (hasA_cons (k := 13) rfl (done_of (j := 13) hcu rfl (by decide) rfl) hasA_base)) (ov_move rfl) rfl rfl (onlyT_spec (k0 := 15) rfl rfl rfl)
       ·exact fun done hi hc hcu => draw_exi (I := Z119_I) fun ga72 => draw_value (i := 16) (t := 95) (v := (I i26)) rfl rfl (wanted_on rfl rfl rfl (ne_f c327)) (fun a => (hasA_cons (k := 13) rfl (done_of (j := 13) hcu rfl (by decide) rfl) hasA_base)) (ov_move rfl) rfl rfl (onlyT_spec (k0 := 16) rfl rfl rfl)
       ·exact fun done hi hc hcu => draw_exi (I := Z119_I) fun ga72 => draw_value (i := 17) (t := 96) (v := (eptr s1 (i26.toNat * 1))) rfl rfl (wanted_on rfl rfl rfl (ne_f c327)) (fun a => (hasA_cons (k := 13) rfl (done_of (j := 13) hcu rfl (by decide) rfl) (hasA_cons (k := 16) rfl (done_of (j := 16) hcu rfl (by decide) rfl) (hasA_cons (k := 15) rfl (done_of (j := 15) hcu rfl (by decide) rfl) hasA_base)))) (ov_indexAddr (sz := 0) 2 rfl rfl F_slice_23 F_size_2 rfl hA1 c322 c308) rfl rfl (onlyT_spec (k0 := 17) rfl rfl rfl)
       ·exact fun done hi hc hcu => draw_exi (I := Z119_I) fun ga72 => draw_value (i := 18) (t := 97) (v := (I (l1.getD i26.toNat 0))) rfl rfl (wanted_on rfl rfl rfl (ne_f c327)) (fun a => (hasA_cons (k := 13) rfl (done_of (j := 13) hcu rfl (by decide) rfl) (hasA_cons (k := 17) rfl (done_of (j := 17) hcu rfl (by decide) rfl) hasA_base))) (ov_load (v := (I (l1.getD i26.toNat 0))) rfl F_agg_2 (reads_rd (i := 2) rfl hA1 (by simp [Z120_T,Z120_L,Z119_T,Z119_L]) (fl_read0 (eI_len _) (ix_lt c322 c308) rfl))) rfl rfl (onlyT_spec (k0 := 18) rfl rfl rfl)
       ·exact fun done hi hc hcu => draw_exi (I := Z119_I) fun ga72 => draw_value (i := 19) (t := 98) (v := s1) rfl rfl (wanted_on rfl rfl rfl (ne_f c327)) (fun a => (hasA_cons (k := 13) rfl (done_of (j := 13) hcu rfl (by decide) rfl) hasA_base)) (ov_move rfl) rfl rfl (onlyT_spec (k0 := 19) rfl rfl rfl)
       ·exact fun done hi hc hcu => draw_exi (I := Z119_I) fun ga72 => draw_value (i := 20) (t := 99) (v := (I i26)) rfl rfl (wanted_on rfl rfl rfl (ne_f c327)) (fun a => (hasA_cons (k := 13) rfl (done_of (j := 13) hcu rfl (by decide) rfl) hasA_base)) (ov_move rfl) rfl rfl (onlyT_spec (k0 := 20) rfl rfl rfl)
       ·exact fun done hi hc hcu => draw_exi (I := Z119_I) fun ga72 => draw_value (i := 21) (t := 100) (v := (eptr s1 (i26.toNat * 1))) rfl rfl (wanted_on rfl rfl rfl (ne_f c327)) (fun a => (hasA_cons (k := 13) rfl (done_of (j := 13) hcu rfl (by decide) rfl) (hasA_cons (k := 20) rfl (done_of (j := 20) hcu rfl (by decide) rfl) (hasA_cons (k := 19) rfl (done_of (j := 19) hcu rfl (by decide) rfl) hasA_base)))) (ov_indexAddr (sz := 0) 2 rfl rfl F_slice_23 F_size_2 rfl hA1 c322 c308) rfl rfl (onlyT_spec (k0 := 21) rfl rfl rfl)
       ·exact fun done hi hc hcu => draw_exi (I := Z119_I) fun ga72 => draw_value (i := 22) (t := 101) (v := (I (l1.getD i26.toNat 0))) rfl rfl (wanted_on rfl rfl rfl (ne_f c327)) (fun a => (hasA_cons (k := 13) rfl (done_of (j := 13) hcu rfl (by decide) rfl) (hasA_cons (k := 21) rfl (done_of (j := 21) hcu rfl (by decide) rfl) hasA_base))) (ov_load (v := (I (l1.getD i26.toNat 0))) rfl F_agg_2 (reads_rd (i := 2) rfl hA1 (by simp [Z120_T,Z120_L,Z119_T,Z119_L]) (fl_read0 (eI_len _) (ix_lt c322 c308) rfl))) rfl rfl (onlyT_spec (k0 := 22) rfl rfl rfl)
       ·exact fun done hi hc hcu => draw_exi (I := Z119_I) fun ga72 => draw_value (i := 23) (t := 102) (v := (I (w64 ((l1.getD i26.toNat 0) + 5)))) rfl rfl (wanted_on rfl rfl rfl (ne_f c327)) (fun a => (hasA_cons (k := 13) rfl (done_of (j := 13) hcu rfl (by decide) rfl) (hasA_cons (k := 22) rfl (done_of (j := 22) hcu rfl (by decide) rfl) hasA_base))) (ov_bin rfl rfl (b_add _ _ _) ) rfl rfl (onlyT_spec (k0 := 23) rfl rfl rfl)
       ·intro done hi hc hcu
        refine draw_exi (I := Z119_I) fun ga72 => ?_
        have d14 : done 14 = true := done_of (j := 14) hcu rfl (by decide) rfl
        have d18 : done 18 = true := done_of (j := 18) hcu rfl (by decide) rfl
        have d23 : done 23 = true := done_of (j := 23) hcu rfl (by decide) rfl
        have d13 : done 13 = true := done_of (j := 13) hcu rfl (by decide) rfl
        have d22 : done 22 = true := done_step (i := 23) (j := 22) hc d23 rfl rfl
        have d21 : done 21 = true := done_step (i := 22) (j := 21) hc d22 rfl rfl
        have d20 : done 20 = true := done_step (i := 21) (j := 20) hc d21 rfl rfl
        have d10 : done 10 = true := done_step (i := 13) (j := 10) hc d13 rfl rfl
        exact draw_same (i := 24) (t := 103) (v := (bool x289)) rfl rfl (wanted_on rfl rfl rfl (ne_f c327)) (fun a => (hasA_cons (k := 13) rfl d13 (hasA_cons (k := 23) rfl d23 (hasA_cons (k := 18) rfl d18 (hasA_cons (k := 14) rfl d14 hasA_base))))) (ot_L (L2 := [(hown (ga72 10) 66 4 enc_Wal_Batch 93 6 jlen_Wal_Batch jics_Wal_Batch x288.1),own (ga70 10) 93 6 x285.length (fl enc_Api_Fact x285),A,box b2 118 [I x155.1,(ga72 10),I x168.2.1],(jown sv181 66 4 enc_Wal_Batch 93 6 jlen_Wal_Batch jics_Wal_Batch l13)]) (by simp only [Z120_T,Z120_L,Z119_T,Z119_L,d10,sel]) (ot_call_same (Lr := [own (ga70 10) 93 6 x285.length (fl enc_Api_Fact x285),A,(jown sv181 66 4 enc_Wal_Batch 93 6 jlen_Wal_Batch jics_Wal_Batch l13)]) [3,0,1,2,4] [1,2,3,0,4] (first := []) (cap := []) (xs := [.tmp 93,.tmp 97,.tmp 102]) rfl rfl F_call_26 rfl (mem_Mem_Has_O.specg K b2 (ga72 10) x155.1 x288.1 x168.2.1 (l1.getD i26.toNat 0) (w64 ((l1.getD i26.toNat 0) + 5)) _ h285) (by decide) rfl (by decide) rfl)) rfl rfl (onlyT_spec (k0 := 24) rfl rfl rfl)
       ·exact fun done hi hc hcu => draw_exi (I := Z119_I) fun ga72 => draw_value (i := 25) (t := 104) (v := (bool x289)) rfl rfl (wanted_none rfl) (fun a => (hasA_cons (k := 24) rfl (done_of (j := 24) hcu rfl (by decide) rfl) (hasA_cons (k := 13) rfl (done_of (j := 13) hcu rfl (by decide) rfl) hasA_base))) (ov_pick rfl rfl rfl (pick_f (ne_f c327))) rfl rfl (onlyT_spec (k0 := 25) rfl rfl rfl)
      ·intro done hall
       refine ent_exi (S := fun ga72 => Z119_I ga72 done) fun ga72 => ?_
       refine draw_endL [(hown (ga72 10) 66 4 enc_Wal_Batch 93 6 jlen_Wal_Batch jics_Wal_Batch x288.1),own (ga70 10) 93 6 x285.length (fl enc_Api_Fact x285),A,box b2 118 [I x155.1,(ga72 10),I x168.2.1],(jown sv181 66 4 enc_Wal_Batch 93 6 jlen_Wal_Batch jics_Wal_Batch l13)] (by simp only [Z120_T,Z120_L,Z119_T,Z119_L,hall 10 (by decide),sel]) (fun a => (hasA_cons (k := 0) rfl (hall 0 (by decide)) (hasA_cons (k := 1) rfl (hall 1 (by decide)) (hasA_cons (k := 2) rfl (hall 2 (by decide)) (hasA_cons (k := 3) rfl (hall 3 (by decide)) (hasA_cons (k := 4) rfl (hall 4 (by decide)) (hasA_cons (k := 5) rfl (hall 5 (by decide)) (hasA_cons (k := 6) rfl (hall 6 (by decide)) (hasA_cons (k := 7) rfl (hall 7 (by decide)) (hasA_cons (k := 8) rfl (hall 8 (by decide)) (hasA_cons (k := 9) rfl (hall 9 (by decide)) (hasA_cons (k := 10) rfl (hall 10 (by decide)) (hasA_cons (k := 11) rfl (hall 11 (by decide)) (hasA_cons (k := 12) rfl (hall 12 (by decide)) (hasA_cons (k := 13) rfl (hall 13 (by decide)) (hasA_cons (k := 14) rfl (hall 14 (by decide)) (hasA_cons (k := 15) rfl (hall 15 (by decide)) (hasA_cons (k := 16) rfl (hall 16 (by decide)) (hasA_cons (k := 17) rfl (hall 17 (by decide)) (hasA_cons (k := 18) rfl (hall 18 (by decide)) (hasA_cons (k := 19) rfl (hall 19 (by decide)) (hasA_cons (k := 20) rfl (hall 20 (by decide)) (hasA_cons (k := 21) rfl (hall 21 (by decide)) (hasA_cons (k := 22) rfl (hall 22 (by decide)) (hasA_cons (k := 23) rfl (hall 23 (by decide)) (hasA_cons (k := 24) rfl (hall 24 (by decide)) (hasA_cons (k := 25) rfl (hall 25 (by decide)) hasA_base))))))))))))))))))))))))))) ?_
       refine ent_unh 0 rfl fun sv209 hsv209 => ?_
       rw [← hsv209]
       refine ent_L [(jown sv209 66 4 enc_Wal_Batch 93 6 jlen_Wal_Batch jics_Wal_Batch x288.1),own (ga70 10) 93 6 x285.length (fl enc_Api_Fact x285),A,box b2 118 [I x155.1,sv209.sv,I x168.2.1],(jown sv181 66 4 enc_Wal_Batch 93 6 jlen_Wal_Batch jics_Wal_Batch l13)] rfl ?_
       refine htT H16 (fun c328 H16 => ?_) fun c328 H16 => ?_
       ·refine ent_cond_true rfl c328 (ent_seq (ent_region (ent_value (ov_assign rfl) rfl rfl rfl (ent_nil (ent_retc ?_)))))
        cases H16
        have H20 := Option.some.inj (show some _ = some _ from H)
        cases H20
        refine ent_pick [2] (by decide) rfl ?_
        exact ret_tmp rfl rfl ⟨rfl,rfl⟩
       refine ent_cond_false rfl (Bool.eq_false_iff.2 c328) (ent_skip (ent_region (ent_value (ov_move rfl) rfl rfl rfl (ent_value (ov_move rfl) rfl rfl rfl (ent_value (ov_bin rfl rfl (b_sub _ _ _) ) rfl rfl rfl (ent_value (ov_assign rfl) rfl rfl rfl (ent_nil (ent_region (ent_value (ov_move rfl) rfl rfl rfl (ent_value (ov_bin rfl rfl (b_add _ _ _) ) rfl rfl rfl (ent_value (ov_assign rfl) rfl rfl rfl ?_)))))))))))
       refine ent_nil ?_
       exact ent_fin [2,3,0] (by decide) rfl (sub_cons (t := 1) rfl (sub_cons (t := 5) rfl (sub_cons (t := 7) rfl (sub_cons (t := 9) rfl (sub_nil _))))) fun a w h => ⟨k,Nat.lt_succ_self k,_,_,_,sv209,H16,h⟩
  ·refine ent_exi fun v2 => ent_and fun e_ => ?_
   subst e_
   rw [cas_inl] at H
   refine ent_exi fun sv166 => ?_
   refine ent_seq (ent_region (ent_value (ov_move rfl) rfl rfl rfl ?_))
   obtain ⟨x290,h286,H⟩ := Option.bind_eq_some_iff.1 H
   refine ent_pick [1,2,0] (by decide) rfl ?_
   refine ent_op (ot_call (Lr := [A]) (first := []) (cap := []) (xs := [.tmp 108,.const (I 0),.const (I 16777217)]) rfl rfl F_call_24 rfl (mem_Mem_Facts_O.spec K b2 sv166 x155.1 v2.1 x168.2.1 0 16777217 _ h286) rfl) rfl rfl rfl ?_
   rintro sv210 _ ⟨_,⟨_,rfl,rfl⟩,rfl⟩
   refine ent_value (ov_len 2 rfl F_slice_46 rfl (isRd_ownx 93)) rfl rfl rfl (ent_value (ov_move rfl) rfl rfl rfl (ent_value (ov_bin rfl rfl (b_eql _ _ _)) rfl rfl rfl (ent_value (ov_move rfl) rfl rfl rfl ?_)))
   refine htF H (fun c329 H => ?_) fun c329 H => ?_
   ·refine ent_off rfl rfl rfl (eq_f c329) rfl rfl ?_
    refine ent_off rfl rfl rfl (eq_f c329) rfl rfl ?_
    refine ent_off rfl rfl rfl (eq_f c329) rfl rfl ?_
    refine ent_off rfl rfl rfl (eq_f c329) rfl rfl ?_
    refine ent_value (ov_pick rfl rfl rfl (pick_f (eq_f c329))) rfl rfl rfl (ent_value (ov_move rfl) rfl rfl rfl ?_)
    refine ent_off rfl rfl rfl rfl rfl rfl ?_
    refine ent_off rfl rfl rfl rfl rfl rfl ?_
    refine ent_off rfl rfl rfl rfl rfl rfl ?_
    refine ent_off rfl rfl rfl rfl rfl rfl ?_
    refine ent_value (ov_pick rfl rfl rfl rfl) rfl rfl rfl (ent_value (ov_move rfl) rfl rfl rfl ?_)
    refine ent_off rfl rfl rfl rfl rfl rfl ?_
    refine ent_off rfl rfl rfl rfl rfl rfl ?_
    refine ent_off rfl rfl rfl rfl rfl rfl ?_
    refine ent_value (ov_pick rfl rfl rfl rfl) rfl rfl rfl (ent_value (ov_move rfl) rfl rfl rfl ?_)
    refine ent_off rfl rfl rfl rfl rfl rfl ?_
    refine ent_value (ov_pick rfl rfl rfl rfl) rfl rfl rfl (ent_value (ov_assign rfl) rfl rfl rfl (ent_nil (ent_retc ?_)))
    cases H
    refine ent_pick [3] (by decide) rfl ?_
    exact ret_tmp rfl rfl ⟨rfl,rfl⟩
   refine ent_value_on (ov_move rfl) rfl rfl rfl (eq_t c329) rfl rfl ?_
   obtain ⟨x291,h287,H⟩ := Option.bind_eq_some_iff.1 H
   refine ent_op_on (ot_call (Lr := [own sv210 93 6 x290.length (fl enc_Api_Fact x290),A]) (first := []) (cap := []) (xs := [.tmp 114,.const (I 0),.const (I 16777217)]) rfl rfl F_call_25 rfl (mem_Mem_Drop_O.spec K b2 sv166 x155.1 v2.1 x168.2.1 0 16777217 _ h287) rfl) rfl rfl rfl (eq_t c329) rfl rfl ?_
   rintro _ _ ⟨_,⟨sv211,rfl,rfl⟩,rfl⟩
   refine ent_value_on (ov_move rfl) rfl rfl rfl (eq_t c329) rfl rfl ?_
   refine ent_value_on (ov_bin rfl rfl (b_eql _ _ _)) rfl rfl rfl (eq_t c329) rfl rfl ?_
   refine ent_value (ov_pick rfl rfl rfl (pick_t (eq_t c329))) rfl rfl rfl (ent_value (ov_move rfl) rfl rfl rfl ?_)
   refine htF H (fun c330 H => ?_) fun c330 H => ?_
   ·refine ent_off rfl rfl rfl (eq_f c330) rfl rfl ?_
    refine ent_off rfl rfl rfl (eq_f c330) rfl rfl ?_
    refine ent_off rfl rfl rfl (eq_f c330) rfl rfl ?_
    refine ent_off rfl rfl rfl (eq_f c330) rfl rfl ?_
    refine ent_value (ov_pick rfl rfl rfl (pick_f (eq_f c330))) rfl rfl rfl (ent_value (ov_move rfl) rfl rfl rfl ?_)
    refine ent_off rfl rfl rfl rfl rfl rfl ?_
    refine ent_off rfl rfl rfl rfl rfl rfl ?_
    refine ent_off rfl rfl rfl rfl rfl rfl ?_
    refine ent_value (ov_pick rfl rfl rfl rfl) rfl rfl rfl (ent_value (ov_move rfl) rfl rfl rfl ?_)
    refine ent_off rfl rfl rfl rfl rfl rfl ?_
    refine ent_value (ov_pick rfl rfl rfl rfl) rfl rfl rfl (ent_value (ov_assign rfl) rfl rfl rfl (ent_nil (ent_retc ?_)))
    cases H
    refine ent_pick [4] (by decide) rfl ?_
    exact ret_tmp rfl rfl ⟨rfl,rfl⟩
   refine ent_value_on (ov_move rfl) rfl rfl rfl (eq_t c330) rfl rfl ?_
   obtain ⟨x292,h288,H⟩ := Option.bind_eq_some_iff.1 H
   refine ent_op_on (ot_call (Lr := [(jown sv166 66 4 enc_Wal_Batch 93 6 jlen_Wal_Batch jics_Wal_Batch v2.1),own sv210 93 6 x290.length (fl enc_Api_Fact x290),A]) (first := []) (cap := []) (xs := [.tmp 120]) rfl rfl F_call_27 rfl (mem_Mem_Batches_O.spec K b2 sv211 x155.1 x291.1 x168.2.1 _ h288) rfl) rfl rfl rfl (eq_t c330) rfl rfl ?_
   rintro _ _ ⟨_,⟨sv212,rfl,rfl⟩,rfl⟩
   refine ent_value_on (ov_len 2 rfl F_slice_72 rfl isRd_jout) rfl rfl rfl (eq_t c330) rfl rfl ?_
   refine ent_value_on (ov_bin rfl rfl (b_eql _ _ _)) rfl rfl rfl (eq_t c330) rfl rfl ?_
   refine ent_value (ov_pick rfl rfl rfl (pick_t (eq_t c330))) rfl rfl rfl (ent_value (ov_move rfl) rfl rfl rfl ?_)
   refine htF H (fun c331 H => ?_) fun c331 H => ?_
   ·refine ent_off rfl rfl rfl (eq_f c331) rfl rfl ?_
    refine ent_off rfl rfl rfl (eq_f c331) rfl rfl ?_
    refine ent_off rfl rfl rfl (eq_f c331) rfl rfl ?_
    refine ent_value (ov_pick rfl rfl rfl (pick_f (eq_f c331))) rfl rfl rfl (ent_value (ov_move rfl) rfl rfl rfl ?_)
    refine ent_off rfl rfl rfl rfl rfl rfl ?_
    refine ent_value (ov_pick rfl rfl rfl rfl) rfl rfl rfl (ent_value (ov_assign rfl) rfl rfl rfl (ent_nil (ent_retc ?_)))
    cases H
    refine ent_pick [5] (by decide) rfl ?_
    exact ret_tmp rfl rfl ⟨rfl,rfl⟩
   refine ent_value_on (ov_move rfl) rfl rfl rfl (eq_t c331) rfl rfl ?_
   obtain ⟨x293,h289,H⟩ := Option.bind_eq_some_iff.1 H
   refine ent_op_on (ot_call_same (Lr := [(jown sv212 66 4 enc_Wal_Batch 93 6 jlen_Wal_Batch jics_Wal_Batch x292),(jown sv166 66 4 enc_Wal_Batch 93 6 jlen_Wal_Batch jics_Wal_Batch v2.1),own sv210 93 6 x290.length (fl enc_Api_Fact x290),A]) [0,1,2,3,4,5] [0,1,2,3,4,5] (first := []) (cap := []) (xs := [.tmp 126]) rfl rfl F_call_28 rfl (mem_Mem_Bytes_O.spec K b2 sv211 x155.1 x291.1 x168.2.1 _ h289) (by decide) rfl (by decide) rfl) rfl rfl rfl (eq_t c331) rfl rfl ?_
   rintro _ _ ⟨rfl,rfl⟩
   refine ent_value_on (ov_bin rfl rfl (b_eql _ _ _)) rfl rfl rfl (eq_t c331) rfl rfl ?_
   refine ent_value (ov_pick rfl rfl rfl (pick_t (eq_t c331))) rfl rfl rfl (ent_value (ov_move rfl) rfl rfl rfl ?_)
   refine htF H (fun c332 H => ?_) fun c332 H => ?_
   ·refine ent_off rfl rfl rfl (eq_f c332) rfl rfl ?_
    refine ent_value (ov_pick rfl rfl rfl (pick_f (eq_f c332))) rfl rfl rfl (ent_value (ov_assign rfl) rfl rfl rfl (ent_nil (ent_retc ?_)))
    cases H
    refine ent_pick [5] (by decide) rfl ?_
    exact ret_tmp rfl rfl ⟨rfl,rfl⟩
   obtain ⟨x294,h290,H⟩ := Option.bind_eq_some_iff.1 H
   refine ent_op_on (ot_call0 (first := []) (cap := []) (xs := []) rfl rfl F_call_20 rfl (ossuarylaw22_alive.spec K _ h290)) rfl rfl rfl (eq_t c332) rfl rfl ?_
   rintro _ _ ⟨rfl,rfl⟩
   refine ent_value (ov_pick rfl rfl rfl (pick_t (eq_t c332))) rfl rfl rfl (ent_value (ov_assign rfl) rfl rfl rfl (ent_nil (ent_retc ?_)))
   cases H
   refine ent_pick [5] (by decide) rfl ?_
   exact ret_tmp rfl rfl ⟨rfl,rfl⟩

end Go.Proofs.Ytndeodpckfjakaa.MemOnce
