/- Printed by gen.py: that the machine's calls do what the plain functions of StatShares say. -/
import Derived.Test.YthdggcleffadeaaProg
import Derived.Test.YthdggcleffadeaaEConv
import Derived.Test.YthdggcleffadeaaStatSharesPure
set_option linter.unusedVariables false
set_option linter.unusedSimpArgs false
set_option maxHeartbeats 400000
namespace Go.Proofs.Ythdggcleffadeaa.StatShares
open Go Go.RowKit E

def enc_Api_Key (x : Api_Key) : List Value := [(Value.int .i64 x.Hour), (str x.Dims_0), (str x.Dims_1), (str x.Dims_2), (str x.Dims_3)]
theorem enc_Api_Key_one (x : Api_Key) : (enc_Api_Key x).all (·.oneCell') = true := rfl
theorem enc_Api_Key_len (x : Api_Key) : (enc_Api_Key x).length = 5 := rfl
def enc_Api_Cell (x : Api_Cell) : List Value := [(Value.int .i64 x.Count), (Value.int .i64 x.Sum), (Value.int .i64 x.Min), (Value.int .i64 x.Max)]
theorem enc_Api_Cell_one (x : Api_Cell) : (enc_Api_Cell x).all (·.oneCell') = true := rfl
theorem enc_Api_Cell_len (x : Api_Cell) : (enc_Api_Cell x).length = 4 := rfl
def enc_Api_Row (x : Api_Row) : List Value := [(Value.int .i64 x.Key.Hour), (str x.Key.Dims_0), (str x.Key.Dims_1), (str x.Key.Dims_2), (str x.Key.Dims_3), (Value.int .i64 x.Cell.Count), (Value.int .i64 x.Cell.Sum), (Value.int .i64 x.Cell.Min), (Value.int .i64 x.Cell.Max)]
theorem enc_Api_Row_one (x : Api_Row) : (enc_Api_Row x).all (·.oneCell') = true := rfl
theorem enc_Api_Row_len (x : Api_Row) : (enc_Api_Row x).length = 9 := rfl
def enc_Pile_item__int64 (x : Pile_item__int64) : List Value := [(Value.int .i64 x.x), (Value.int .i64 x.n)]
theorem enc_Pile_item__int64_one (x : Pile_item__int64) : (enc_Pile_item__int64 x).all (·.oneCell') = true := rfl
theorem enc_Pile_item__int64_len (x : Pile_item__int64) : (enc_Pile_item__int64 x).length = 2 := rfl
theorem F_slice_22 : sliceB Try.prog 22 = some 47 := by kernel_rfl
theorem F_size_47 : sizeB Try.prog 47 = some 9 := by kernel_rfl
theorem F_field_47_0 : fieldB Try.prog 47 0 = some (0, 45) := by kernel_rfl
theorem F_size_45 : sizeB Try.prog 45 = some 5 := by kernel_rfl
theorem F_field_45_1 : fieldB Try.prog 45 1 = some (1, 43) := by kernel_rfl
theorem F_size_43 : sizeB Try.prog 43 = some 4 := by kernel_rfl
theorem F_array_43 : arrayB Try.prog 43 = some (4, 9) := by kernel_rfl
theorem F_size_9 : sizeB Try.prog 9 = some 1 := by kernel_rfl
theorem F_agg_9 : aggB Try.prog 9 = some false := by kernel_rfl
theorem F_call_11 : callB Try.prog 11 = true := by kernel_rfl
theorem F_zero_42 : zeroB Try.prog 42 = some [(Value.int .i64 0), (Value.int .i64 0), (Value.int .i64 0), (Value.int .i64 0)] := by kernel_rfl
theorem F_places_42 : placesB Try.prog 42 = some [(0, 1), (1, 1), (2, 1), (3, 1)] := by kernel_rfl
theorem F_zero_47 : zeroB Try.prog 47 = some [(Value.int .i64 0), (str ([] : List UInt8)), (str ([] : List UInt8)), (str ([] : List UInt8)), (str ([] : List UInt8)), (Value.int .i64 0), (Value.int .i64 0), (Value.int .i64 0), (Value.int .i64 0)] := by kernel_rfl
theorem F_places_47 : placesB Try.prog 47 = some [(0, 5), (5, 4)] := by kernel_rfl
theorem F_agg_47 : aggB Try.prog 47 = some true := by kernel_rfl
theorem F_field_47_1 : fieldB Try.prog 47 1 = some (5, 42) := by kernel_rfl
theorem F_size_42 : sizeB Try.prog 42 = some 4 := by kernel_rfl
theorem F_field_42_1 : fieldB Try.prog 42 1 = some (1, 2) := by kernel_rfl
theorem F_size_2 : sizeB Try.prog 2 = some 1 := by kernel_rfl
theorem F_agg_2 : aggB Try.prog 2 = some false := by kernel_rfl
theorem F_call_65 : callB Try.prog 65 = true := by kernel_rfl
theorem F_call_74 : callB Try.prog 74 = true := by kernel_rfl
theorem F_call_124 : callB Try.prog 124 = true := by kernel_rfl
theorem F_call_66 : callB Try.prog 66 = true := by kernel_rfl
theorem F_slice_25 : sliceB Try.prog 25 = some 2 := by kernel_rfl
theorem F_zero_2 : zeroB Try.prog 2 = some [(Value.int .i64 0)] := by kernel_rfl
theorem F_bytes_2 : bytesB Try.prog 2 = some 8 := by kernel_rfl
theorem F_call_13 : callB Try.prog 13 = true := by kernel_rfl
theorem F_call_12 : callB Try.prog 12 = true := by kernel_rfl
theorem F_call_67 : callB Try.prog 67 = true := by kernel_rfl
theorem F_call_14 : callB Try.prog 14 = true := by kernel_rfl
theorem F_zero_25 : zeroB Try.prog 25 = some [(Value.slice none 0 0)] := by kernel_rfl
theorem F_agg_25 : aggB Try.prog 25 = some false := by kernel_rfl
theorem F_size_25 : sizeB Try.prog 25 = some 1 := by kernel_rfl
theorem F_zero_229 : zeroB Try.prog 229 = some [Value.nilFunc, (Value.slice none 0 0), (Value.int .i64 0)] := by kernel_rfl
theorem F_places_229 : placesB Try.prog 229 = some [(0, 1), (1, 1), (2, 1)] := by kernel_rfl
theorem F_call_125 : callB Try.prog 125 = true := by kernel_rfl
theorem F_field_229_0 : fieldB Try.prog 229 0 = some (0, 98) := by kernel_rfl
theorem F_size_98 : sizeB Try.prog 98 = some 1 := by kernel_rfl
theorem F_agg_98 : aggB Try.prog 98 = some false := by kernel_rfl
theorem F_field_229_1 : fieldB Try.prog 229 1 = some (1, 227) := by kernel_rfl
theorem F_size_227 : sizeB Try.prog 227 = some 1 := by kernel_rfl
theorem F_agg_227 : aggB Try.prog 227 = some false := by kernel_rfl
theorem F_field_229_2 : fieldB Try.prog 229 2 = some (2, 3) := by kernel_rfl
theorem F_size_3 : sizeB Try.prog 3 = some 1 := by kernel_rfl
theorem F_agg_3 : aggB Try.prog 3 = some false := by kernel_rfl
theorem F_zero_231 : zeroB Try.prog 231 = some [(Value.int .i64 0), (Value.int .i64 0)] := by kernel_rfl
theorem F_places_231 : placesB Try.prog 231 = some [(0, 1), (1, 1)] := by kernel_rfl
theorem F_slice_227 : sliceB Try.prog 227 = some 231 := by kernel_rfl
theorem F_size_231 : sizeB Try.prog 231 = some 2 := by kernel_rfl
theorem F_bytes_231 : bytesB Try.prog 231 = some 16 := by kernel_rfl
theorem F_agg_231 : aggB Try.prog 231 = some true := by kernel_rfl
theorem F_field_231_0 : fieldB Try.prog 231 0 = some (0, 2) := by kernel_rfl
theorem F_call_69 : callB Try.prog 69 = true := by kernel_rfl
theorem F_field_231_1 : fieldB Try.prog 231 1 = some (1, 3) := by kernel_rfl
theorem F_call_201 : callB Try.prog 201 = true := by kernel_rfl
theorem F_call_162 : callB Try.prog 162 = true := by kernel_rfl
theorem F_call_126 : callB Try.prog 126 = true := by kernel_rfl
theorem F_call_223 : callB Try.prog 223 = true := by kernel_rfl
theorem F_call_202 : callB Try.prog 202 = true := by kernel_rfl
theorem F_call_203 : callB Try.prog 203 = true := by kernel_rfl
theorem F_call_163 : callB Try.prog 163 = true := by kernel_rfl
theorem F_call_127 : callB Try.prog 127 = true := by kernel_rfl
theorem F_call_68 : callB Try.prog 68 = true := by kernel_rfl
theorem F_call_71 : callB Try.prog 71 = true := by kernel_rfl
theorem F_call_70 : callB Try.prog 70 = true := by kernel_rfl
theorem F_slice_28 : sliceB Try.prog 28 = some 3 := by kernel_rfl
theorem F_zero_3 : zeroB Try.prog 3 = some [(Value.int .i64 0)] := by kernel_rfl
theorem F_bytes_3 : bytesB Try.prog 3 = some 8 := by kernel_rfl
theorem F_call_15 : callB Try.prog 15 = true := by kernel_rfl
theorem F_call_16 : callB Try.prog 16 = true := by kernel_rfl
theorem F_call_17 : callB Try.prog 17 = true := by kernel_rfl
set_option maxRecDepth 100000 in
theorem ossuarylaw35_light.spec (K : Nat) (sv0 : Value) (A0 : HP) (l0 : List Api_Row) (hA0 : IsRd A0 sv0 l0.length 9 (fl enc_Api_Row l0)) (r : Bool) (H : ossuarylaw35_light K l0 = some r) : FnSpec Try.prog 11 [sv0] [A0] (fun v M => v = (Value.bool r) ∧ M = [A0]) := by
  unfold ossuarylaw35_light at H
  refine spec_of Try.func11 rfl 28 rfl (Nat.le_of_ble_eq_true rfl) fun F w0 => ?_
  show Ent (St 28 w0 F [(0, sv0)] [A0]) _
  refine ent_seq ?_
  refine ent_region ?_
  refine ent_value (ov_assign rfl) rfl rfl rfl ?_
  refine ent_nil ?_
  refine ent_seq ?_
  refine ent_seq ?_
  refine ent_region ?_
  refine ent_value (ov_move rfl) rfl rfl rfl ?_
  refine ent_value (ov_len 0 rfl F_slice_22 rfl hA0) rfl rfl rfl ?_
  refine ent_value (ov_bin rfl rfl (b_gtr _ _ _)) rfl rfl rfl ?_
  refine ent_nil ?_
  by_cases c304 : 60 < (l0.length : Int)
  · rw [if_pos c304] at H
    refine ent_cond_true rfl (decide_eq_true c304) ?_
    refine ent_seq ?_
    refine ent_region ?_
    refine ent_value (ov_assign rfl) rfl rfl rfl ?_
    refine ent_nil ?_
    refine ent_retc ?_
    cases H
    exact ret_tmp rfl rfl ⟨rfl, rfl⟩
  · rw [if_neg c304] at H
    refine ent_cond_false rfl (decide_eq_false c304) ?_
    refine ent_skip ?_
    refine ent_seq ?_
    refine ent_seq ?_
    refine ent_region ?_
    refine ent_value (ov_assign rfl) rfl rfl rfl ?_
    refine ent_nil ?_
    refine ent_block ?_
    refine ent_loop (fun k a w => ∃ i24, ossuarylaw35_light_l0 K l0 k i24 = some r ∧ St 28 w0 F [(0, sv0), (3, (Value.int .i64 i24))] [A0] a w) K ?_ ?_
    · exact ent_fin [0] (by decide) rfl (sub_cons (t := 0) rfl (sub_cons (t := 3) rfl (sub_nil _))) fun a w h => ⟨_, H, h⟩
    · refine fun k => ent_exi fun i24 => ent_and fun H48 => ?_
      cases k with
      | zero => exact absurd H48 (by simp [ossuarylaw35_light_l0])
      | succ k =>
        rw [ossuarylaw35_light_l0] at H48
        refine ent_seq ?_
        refine ent_seq ?_
        refine ent_region ?_
        refine ent_value (ov_move rfl) rfl rfl rfl ?_
        refine ent_value (ov_move rfl) rfl rfl rfl ?_
        refine ent_value (ov_len 0 rfl F_slice_22 rfl hA0) rfl rfl rfl ?_
        refine ent_value (ov_bin rfl rfl (b_lss _ _ _)) rfl rfl rfl ?_
        refine ent_nil ?_
        by_cases c552 : i24 < (l0.length : Int)
        · rw [if_pos c552] at H48
          refine ent_cond_true rfl (decide_eq_true c552) ?_
          refine ent_skip ?_
          obtain ⟨x12, H50, H48⟩ := Option.bind_eq_some_iff.1 H48
          refine ent_seq_cut (fun a w => ∃ v12, x12 = Sum.inl v12 ∧ St 28 w0 F [(0, sv0), (3, (Value.int .i64 i24))] [A0] a w) ?_ ?_
          · refine ent_block ?_
            refine ent_seq ?_
            refine ent_region ?_
            refine ent_value (ov_assign rfl) rfl rfl rfl ?_
            refine ent_nil ?_
            refine ent_block ?_
            refine ent_loop (fun k a w => ∃ i28, ossuarylaw35_light_l1 K l0 i24 k i28 = some x12 ∧ St 28 w0 F [(0, sv0), (3, (Value.int .i64 i24)), (4, (Value.int .i64 i28))] [A0] a w) K ?_ ?_
            · exact ent_fin [0] (by decide) rfl (sub_cons (t := 0) rfl (sub_cons (t := 3) rfl (sub_cons (t := 4) rfl (sub_nil _)))) fun a w h => ⟨_, H50, h⟩
            · refine fun k => ent_exi fun i28 => ent_and fun H51 => ?_
              cases k with
              | zero => exact absurd H51 (by simp [ossuarylaw35_light_l1])
              | succ k =>
                rw [ossuarylaw35_light_l1] at H51
                refine ent_seq ?_
                refine ent_seq ?_
                refine ent_region ?_
                refine ent_value (ov_move rfl) rfl rfl rfl ?_
                refine ent_value (ov_bin rfl rfl (b_lss _ _ _)) rfl rfl rfl ?_
                refine ent_nil ?_
                by_cases c596 : i28 < 4
                · rw [if_pos c596] at H51
                  refine ent_cond_true rfl (decide_eq_true c596) ?_
                  refine ent_skip ?_
                  refine ent_seq ?_
                  refine ent_block ?_
                  refine ent_seq ?_
                  refine ent_region ?_
                  refine ent_value (ov_move rfl) rfl rfl rfl ?_
                  refine ent_value (ov_move rfl) rfl rfl rfl ?_
                  refine ent_value (ov_move rfl) rfl rfl rfl ?_
                  by_cases c601 : 0 ≤ i24
                  · rw [if_pos c601] at H51
                    refine ent_value (ov_indexAddr (sz := 8) 0 rfl rfl F_slice_22 F_size_47 rfl hA0 c601 c552) rfl rfl rfl ?_
                    refine ent_value (ov_fieldAddrE (sz := 4) (k0 := i24.toNat * 9) (off := 0) 0 rfl F_field_47_0 F_size_45 rfl hA0 (fl_pos enc_Api_Row_len (ix_lt c601 c552))) rfl rfl rfl ?_
                    refine ent_value (ov_fieldAddrE (sz := 3) (k0 := i24.toNat * 9 + 0) (off := 1) 0 rfl F_field_45_1 F_size_43 rfl hA0 (fl_pos enc_Api_Row_len (ix_lt c601 c552))) rfl rfl rfl ?_
                    by_cases c602 : 0 ≤ i28
                    · rw [if_pos c602] at H51
                      by_cases c603 : i28 < (4 : Int)
                      · rw [if_pos c603] at H51
                        refine ent_value (ov_indexArrE 0 rfl rfl F_array_43 F_size_9 rfl hA0 (fl_pos enc_Api_Row_len (ix_lt c601 c552)) c602 c603) rfl rfl rfl ?_
                        refine ent_value (ov_load (v := (str ([((l0.getD i24.toNat z_Api_Row).Key).Dims_0, ((l0.getD i24.toNat z_Api_Row).Key).Dims_1, ((l0.getD i24.toNat z_Api_Row).Key).Dims_2, ((l0.getD i24.toNat z_Api_Row).Key).Dims_3].getD i28.toNat []))) rfl F_agg_9 (reads_rd (i := 0) rfl hA0 (by simp) (fl_readA enc_Api_Row_len (ix_lt c601 c552) (fl_sub (enc := eS) (z := []) (ys := [((l0.getD i24.toNat z_Api_Row).Key).Dims_0, ((l0.getD i24.toNat z_Api_Row).Key).Dims_1, ((l0.getD i24.toNat z_Api_Row).Key).Dims_2, ((l0.getD i24.toNat z_Api_Row).Key).Dims_3]) eS_len rfl (ix_lt c602 c603))))) rfl rfl rfl ?_
                        refine ent_value (ov_lenS rfl Try.underlying9) rfl rfl rfl ?_
                        refine ent_value (ov_bin rfl rfl (b_gtr _ _ _)) rfl rfl rfl ?_
                        refine ent_nil ?_
                        by_cases c604 : 40 < (([((l0.getD i24.toNat z_Api_Row).Key).Dims_0, ((l0.getD i24.toNat z_Api_Row).Key).Dims_1, ((l0.getD i24.toNat z_Api_Row).Key).Dims_2, ((l0.getD i24.toNat z_Api_Row).Key).Dims_3].getD i28.toNat []).length : Int)
                        · rw [if_pos c604] at H51
                          refine ent_cond_true rfl (decide_eq_true c604) ?_
                          refine ent_seq ?_
                          refine ent_region ?_
                          refine ent_value (ov_assign rfl) rfl rfl rfl ?_
                          refine ent_nil ?_
                          refine ent_retc ?_
                          cases H51
                          have H52 := Option.some.inj (show some _ = some _ from H48)
                          cases H52
                          exact ret_tmp rfl rfl ⟨rfl, rfl⟩
                        · rw [if_neg c604] at H51
                          refine ent_cond_false rfl (decide_eq_false c604) ?_
                          refine ent_skip ?_
                          refine ent_region ?_
                          refine ent_value (ov_move rfl) rfl rfl rfl ?_
                          refine ent_value (ov_bin rfl rfl (b_add _ _ _) ) rfl rfl rfl ?_
                          refine ent_value (ov_assign rfl) rfl rfl rfl ?_
                          refine ent_nil ?_
                          exact ent_fin [0] (by decide) rfl (sub_cons (t := 0) rfl (sub_cons (t := 3) rfl (sub_cons (t := 4) rfl (sub_nil _)))) fun a w h => ⟨k, Nat.lt_succ_self k, _, H51, h⟩
                      · rw [if_neg c603] at H51
                        cases H51
                    · rw [if_neg c602] at H51
                      cases H51
                  · rw [if_neg c601] at H51
                    cases H51
                · rw [if_neg c596] at H51
                  refine ent_cond_false rfl (decide_eq_false c596) ?_
                  refine ent_exit ?_
                  cases H51
                  exact ent_fin [0] (by decide) rfl (sub_cons (t := 0) rfl (sub_cons (t := 3) rfl (sub_nil _))) fun a w h => ⟨_, rfl, h⟩
          · refine ent_exi fun v12 => ent_and fun e_ => ?_
            subst e_
            rw [cas_inl] at H48
            refine ent_region ?_
            refine ent_value (ov_move rfl) rfl rfl rfl ?_
            refine ent_value (ov_bin rfl rfl (b_add _ _ _) ) rfl rfl rfl ?_
            refine ent_value (ov_assign rfl) rfl rfl rfl ?_
            refine ent_nil ?_
            exact ent_fin [0] (by decide) rfl (sub_cons (t := 0) rfl (sub_cons (t := 3) rfl (sub_nil _))) fun a w h => ⟨k, Nat.lt_succ_self k, _, H48, h⟩
        · rw [if_neg c552] at H48
          refine ent_cond_false rfl (decide_eq_false c552) ?_
          refine ent_exit ?_
          refine ent_seq ?_
          refine ent_region ?_
          refine ent_value (ov_assign rfl) rfl rfl rfl ?_
          refine ent_nil ?_
          refine ent_retc ?_
          cases H48
          exact ret_tmp rfl rfl ⟨rfl, rfl⟩

set_option maxRecDepth 100000 in
theorem bits_Mul64.spec (a0 : Int) (a1 : Int) (r : (Int × Int)) (H : bits_Mul64 a0 a1 = r) : FnSpec Try.prog 65 [(Value.int .u64 a0), (Value.int .u64 a1)] [] (fun v M => v = (Value.tuple #[(Value.int .u64 r.1), (Value.int .u64 r.2)]) ∧ M = []) := by
  unfold bits_Mul64 at H
  refine spec_of Try.func65 rfl 51 rfl (Nat.le_of_ble_eq_true rfl) fun F w0 => ?_
  show Ent (St 51 w0 F [(0, (Value.int .u64 a0)), (1, (Value.int .u64 a1))] []) _
  refine ent_seq ?_
  refine ent_region ?_
  refine ent_value (ov_assign rfl) rfl rfl rfl ?_
  refine ent_value (ov_assign rfl) rfl rfl rfl ?_
  refine ent_nil ?_
  refine ent_seq ?_
  refine ent_region ?_
  refine ent_value (ov_move rfl) rfl rfl rfl ?_
  refine ent_value (ov_bin rfl rfl (b_and _ _ _)) rfl rfl rfl ?_
  refine ent_value (ov_assign rfl) rfl rfl rfl ?_
  refine ent_nil ?_
  refine ent_seq ?_
  refine ent_region ?_
  refine ent_value (ov_move rfl) rfl rfl rfl ?_
  refine ent_value (ov_bin rfl rfl fun w => b_shr _ _ _ _ w (by decide)) rfl rfl rfl ?_
  refine ent_value (ov_assign rfl) rfl rfl rfl ?_
  refine ent_nil ?_
  refine ent_seq ?_
  refine ent_region ?_
  refine ent_value (ov_move rfl) rfl rfl rfl ?_
  refine ent_value (ov_bin rfl rfl (b_and _ _ _)) rfl rfl rfl ?_
  refine ent_value (ov_assign rfl) rfl rfl rfl ?_
  refine ent_nil ?_
  refine ent_seq ?_
  refine ent_region ?_
  refine ent_value (ov_move rfl) rfl rfl rfl ?_
  refine ent_value (ov_bin rfl rfl fun w => b_shr _ _ _ _ w (by decide)) rfl rfl rfl ?_
  refine ent_value (ov_assign rfl) rfl rfl rfl ?_
  refine ent_nil ?_
  refine ent_seq ?_
  refine ent_region ?_
  refine ent_value (ov_move rfl) rfl rfl rfl ?_
  refine ent_value (ov_move rfl) rfl rfl rfl ?_
  refine ent_value (ov_bin rfl rfl (b_mul _ _ _) ) rfl rfl rfl ?_
  refine ent_value (ov_assign rfl) rfl rfl rfl ?_
  refine ent_nil ?_
  refine ent_seq ?_
  refine ent_region ?_
  refine ent_value (ov_move rfl) rfl rfl rfl ?_
  refine ent_value (ov_move rfl) rfl rfl rfl ?_
  refine ent_value (ov_bin rfl rfl (b_mul _ _ _) ) rfl rfl rfl ?_
  refine ent_value (ov_move rfl) rfl rfl rfl ?_
  refine ent_value (ov_bin rfl rfl fun w => b_shr _ _ _ _ w (by decide)) rfl rfl rfl ?_
  refine ent_value (ov_bin rfl rfl (b_add _ _ _) ) rfl rfl rfl ?_
  refine ent_value (ov_assign rfl) rfl rfl rfl ?_
  refine ent_nil ?_
  refine ent_seq ?_
  refine ent_region ?_
  refine ent_value (ov_move rfl) rfl rfl rfl ?_
  refine ent_value (ov_bin rfl rfl (b_and _ _ _)) rfl rfl rfl ?_
  refine ent_value (ov_assign rfl) rfl rfl rfl ?_
  refine ent_nil ?_
  refine ent_seq ?_
  refine ent_region ?_
  refine ent_value (ov_move rfl) rfl rfl rfl ?_
  refine ent_value (ov_bin rfl rfl fun w => b_shr _ _ _ _ w (by decide)) rfl rfl rfl ?_
  refine ent_value (ov_assign rfl) rfl rfl rfl ?_
  refine ent_nil ?_
  refine ent_seq ?_
  refine ent_region ?_
  refine ent_value (ov_move rfl) rfl rfl rfl ?_
  refine ent_value (ov_move rfl) rfl rfl rfl ?_
  refine ent_value (ov_move rfl) rfl rfl rfl ?_
  refine ent_value (ov_bin rfl rfl (b_mul _ _ _) ) rfl rfl rfl ?_
  refine ent_value (ov_bin rfl rfl (b_add _ _ _) ) rfl rfl rfl ?_
  refine ent_value (ov_assign rfl) rfl rfl rfl ?_
  refine ent_nil ?_
  refine ent_seq ?_
  refine ent_region ?_
  refine ent_value (ov_move rfl) rfl rfl rfl ?_
  refine ent_value (ov_move rfl) rfl rfl rfl ?_
  refine ent_value (ov_bin rfl rfl (b_mul _ _ _) ) rfl rfl rfl ?_
  refine ent_value (ov_move rfl) rfl rfl rfl ?_
  refine ent_value (ov_bin rfl rfl (b_add _ _ _) ) rfl rfl rfl ?_
  refine ent_value (ov_move rfl) rfl rfl rfl ?_
  refine ent_value (ov_bin rfl rfl fun w => b_shr _ _ _ _ w (by decide)) rfl rfl rfl ?_
  refine ent_value (ov_bin rfl rfl (b_add _ _ _) ) rfl rfl rfl ?_
  refine ent_value (ov_assign rfl) rfl rfl rfl ?_
  refine ent_nil ?_
  refine ent_seq ?_
  refine ent_region ?_
  refine ent_value (ov_move rfl) rfl rfl rfl ?_
  refine ent_value (ov_move rfl) rfl rfl rfl ?_
  refine ent_value (ov_bin rfl rfl (b_mul _ _ _) ) rfl rfl rfl ?_
  refine ent_value (ov_assign rfl) rfl rfl rfl ?_
  refine ent_nil ?_
  refine ent_retc ?_
  cases H
  exact ret_mem (vs := [(Value.int .u64 (wu64 ((wu64 ((wu64 ((bShr .u64 a0 32) * (bShr .u64 a1 32))) + (bShr .u64 (wu64 ((wu64 ((bShr .u64 a0 32) * (bAnd .u64 a1 4294967295))) + (bShr .u64 (wu64 ((bAnd .u64 a0 4294967295) * (bAnd .u64 a1 4294967295))) 32))) 32))) + (bShr .u64 (wu64 ((bAnd .u64 (wu64 ((wu64 ((bShr .u64 a0 32) * (bAnd .u64 a1 4294967295))) + (bShr .u64 (wu64 ((bAnd .u64 a0 4294967295) * (bAnd .u64 a1 4294967295))) 32))) 4294967295) + (wu64 ((bAnd .u64 a0 4294967295) * (bShr .u64 a1 32))))) 32)))), (Value.int .u64 (wu64 (a0 * a1)))]) rfl ⟨rfl, ⟨rfl, trivial⟩⟩ _ rfl ⟨rfl, rfl⟩

set_option maxRecDepth 100000 in
theorem bits_Len64.spec (a0 : Int) (r : Int) (H : bits_Len64 a0 = some r) : FnSpec Try.prog 74 [(Value.int .u64 a0)] [] (fun v M => v = (Value.int .i64 r) ∧ M = []) := by
  unfold bits_Len64 at H
  refine spec_of Try.func74 rfl 25 rfl (Nat.le_of_ble_eq_true rfl) fun F w0 => ?_
  show Ent (St 25 w0 F [(0, (Value.int .u64 a0))] []) _
  refine ent_seq ?_
  refine ent_region ?_
  refine ent_value (ov_assign rfl) rfl rfl rfl ?_
  refine ent_nil ?_
  obtain ⟨x4, H4, H⟩ := thn_elim H
  refine ent_seq_cut (fun a w => St 25 w0 F [(0, (Value.int .u64 x4.1)), (2, (Value.int .i64 x4.2))] [] a w) ?_ ?_
  · refine ent_seq ?_
    refine ent_region ?_
    refine ent_value (ov_move rfl) rfl rfl rfl ?_
    refine ent_value (ov_bin rfl rfl (b_geq _ _ _)) rfl rfl rfl ?_
    refine ent_nil ?_
    by_cases c10 : 4294967296 ≤ a0
    · rw [if_pos c10] at H4
      refine ent_cond_true rfl (decide_eq_true c10) ?_
      refine ent_seq ?_
      refine ent_region ?_
      refine ent_value (ov_move rfl) rfl rfl rfl ?_
      refine ent_value (ov_bin rfl rfl fun w => b_shr _ _ _ _ w (by decide)) rfl rfl rfl ?_
      refine ent_value (ov_assign rfl) rfl rfl rfl ?_
      refine ent_nil ?_
      refine ent_region ?_
      refine ent_value (ov_assign rfl) rfl rfl rfl ?_
      refine ent_nil ?_
      cases H4
      exact ent_fin [] (by decide) rfl (sub_cons (t := 0) rfl (sub_cons (t := 2) rfl (sub_nil _))) fun a w h => h
    · rw [if_neg c10] at H4
      refine ent_cond_false rfl (decide_eq_false c10) ?_
      refine ent_skip ?_
      cases H4
      exact ent_fin [] (by decide) rfl (sub_cons (t := 0) rfl (sub_cons (t := 2) rfl (sub_nil _))) fun a w h => h
  · obtain ⟨x5, H5, H⟩ := thn_elim H
    refine ent_seq_cut (fun a w => St 25 w0 F [(0, (Value.int .u64 x5.1)), (2, (Value.int .i64 x5.2))] [] a w) ?_ ?_
    · refine ent_seq ?_
      refine ent_region ?_
      refine ent_value (ov_move rfl) rfl rfl rfl ?_
      refine ent_value (ov_bin rfl rfl (b_geq _ _ _)) rfl rfl rfl ?_
      refine ent_nil ?_
      by_cases c12 : 65536 ≤ x4.1
      · rw [if_pos c12] at H5
        refine ent_cond_true rfl (decide_eq_true c12) ?_
        refine ent_seq ?_
        refine ent_region ?_
        refine ent_value (ov_move rfl) rfl rfl rfl ?_
        refine ent_value (ov_bin rfl rfl fun w => b_shr _ _ _ _ w (by decide)) rfl rfl rfl ?_
        refine ent_value (ov_assign rfl) rfl rfl rfl ?_
        refine ent_nil ?_
        refine ent_region ?_
        refine ent_value (ov_move rfl) rfl rfl rfl ?_
        refine ent_value (ov_bin rfl rfl (b_add _ _ _) ) rfl rfl rfl ?_
        refine ent_value (ov_assign rfl) rfl rfl rfl ?_
        refine ent_nil ?_
        cases H5
        exact ent_fin [] (by decide) rfl (sub_cons (t := 0) rfl (sub_cons (t := 2) rfl (sub_nil _))) fun a w h => h
      · rw [if_neg c12] at H5
        refine ent_cond_false rfl (decide_eq_false c12) ?_
        refine ent_skip ?_
        cases H5
        exact ent_fin [] (by decide) rfl (sub_cons (t := 0) rfl (sub_cons (t := 2) rfl (sub_nil _))) fun a w h => h
    · obtain ⟨x6, H6, H⟩ := thn_elim H
      refine ent_seq_cut (fun a w => St 25 w0 F [(0, (Value.int .u64 x6.1)), (2, (Value.int .i64 x6.2))] [] a w) ?_ ?_
      · refine ent_seq ?_
        refine ent_region ?_
        refine ent_value (ov_move rfl) rfl rfl rfl ?_
        refine ent_value (ov_bin rfl rfl (b_geq _ _ _)) rfl rfl rfl ?_
        refine ent_nil ?_
        by_cases c14 : 256 ≤ x5.1
        · rw [if_pos c14] at H6
          refine ent_cond_true rfl (decide_eq_true c14) ?_
          refine ent_seq ?_
          refine ent_region ?_
          refine ent_value (ov_move rfl) rfl rfl rfl ?_
          refine ent_value (ov_bin rfl rfl fun w => b_shr _ _ _ _ w (by decide)) rfl rfl rfl ?_
          refine ent_value (ov_assign rfl) rfl rfl rfl ?_
          refine ent_nil ?_
          refine ent_region ?_
          refine ent_value (ov_move rfl) rfl rfl rfl ?_
          refine ent_value (ov_bin rfl rfl (b_add _ _ _) ) rfl rfl rfl ?_
          refine ent_value (ov_assign rfl) rfl rfl rfl ?_
          refine ent_nil ?_
          cases H6
          exact ent_fin [] (by decide) rfl (sub_cons (t := 0) rfl (sub_cons (t := 2) rfl (sub_nil _))) fun a w h => h
        · rw [if_neg c14] at H6
          refine ent_cond_false rfl (decide_eq_false c14) ?_
          refine ent_skip ?_
          cases H6
          exact ent_fin [] (by decide) rfl (sub_cons (t := 0) rfl (sub_cons (t := 2) rfl (sub_nil _))) fun a w h => h
      · refine ent_seq ?_
        refine ent_region ?_
        refine ent_value (ov_move rfl) rfl rfl rfl ?_
        refine ent_value (ov_move rfl) rfl rfl rfl ?_
        refine ent_value (ov_convert rfl (c_int Try.underlying116 Try.underlying5)) rfl rfl rfl ?_
        by_cases c15 : 0 ≤ (wu8 x6.1)
        · rw [if_pos c15] at H
          by_cases c16 : (wu8 x6.1) < (([0, 1, 2, 2, 3, 3, 3, 3, 4, 4, 4, 4, 4, 4, 4, 4, 5, 5, 5, 5, 5, 5, 5, 5, 5, 5, 5, 5, 5, 5, 5, 5, 6, 6, 6, 6, 6, 6, 6, 6, 6, 6, 6, 6, 6, 6, 6, 6, 6, 6, 6, 6, 6, 6, 6, 6, 6, 6, 6, 6, 6, 6, 6, 6, 7, 7, 7, 7, 7, 7, 7, 7, 7, 7, 7, 7, 7, 7, 7, 7, 7, 7, 7, 7, 7, 7, 7, 7, 7, 7, 7, 7, 7, 7, 7, 7, 7, 7, 7, 7, 7, 7, 7, 7, 7, 7, 7, 7, 7, 7, 7, 7, 7, 7, 7, 7, 7, 7, 7, 7, 7, 7, 7, 7, 7, 7, 7, 7, 8, 8, 8, 8, 8, 8, 8, 8, 8, 8, 8, 8, 8, 8, 8, 8, 8, 8, 8, 8, 8, 8, 8, 8, 8, 8, 8, 8, 8, 8, 8, 8, 8, 8, 8, 8, 8, 8, 8, 8, 8, 8, 8, 8, 8, 8, 8, 8, 8, 8, 8, 8, 8, 8, 8, 8, 8, 8, 8, 8, 8, 8, 8, 8, 8, 8, 8, 8, 8, 8, 8, 8, 8, 8, 8, 8, 8, 8, 8, 8, 8, 8, 8, 8, 8, 8, 8, 8, 8, 8, 8, 8, 8, 8, 8, 8, 8, 8, 8, 8, 8, 8, 8, 8, 8, 8, 8, 8, 8, 8, 8, 8, 8, 8, 8, 8, 8, 8, 8, 8, 8, 8, 8, 8, 8, 8, 8, 8] : List UInt8).length : Int)
          · rw [if_pos c16] at H
            refine ent_value (ov_indexS rfl rfl Try.underlying9 c15 c16) rfl rfl rfl ?_
            refine ent_value (ov_convert rfl (c_int Try.underlying5 Try.underlying3)) rfl rfl rfl ?_
            refine ent_value (ov_bin rfl rfl (b_add _ _ _) ) rfl rfl rfl ?_
            refine ent_value (ov_assign rfl) rfl rfl rfl ?_
            refine ent_nil ?_
            refine ent_retc ?_
            cases H
            exact ret_tmp rfl rfl ⟨rfl, rfl⟩
          · rw [if_neg c16] at H
            cases H
        · rw [if_neg c15] at H
          cases H

set_option maxRecDepth 100000 in
theorem bits_LeadingZeros64.spec (a0 : Int) (r : Int) (H : bits_LeadingZeros64 a0 = some r) : FnSpec Try.prog 124 [(Value.int .u64 a0)] [] (fun v M => v = (Value.int .i64 r) ∧ M = []) := by
  unfold bits_LeadingZeros64 at H
  refine spec_of Try.func124 rfl 6 rfl (Nat.le_of_ble_eq_true rfl) fun F w0 => ?_
  show Ent (St 6 w0 F [(0, (Value.int .u64 a0))] []) _
  refine ent_seq ?_
  refine ent_region ?_
  refine ent_value (ov_assign rfl) rfl rfl rfl ?_
  refine ent_nil ?_
  refine ent_seq ?_
  refine ent_region ?_
  refine ent_value (ov_move rfl) rfl rfl rfl ?_
  obtain ⟨x2, h2, H⟩ := Option.bind_eq_some_iff.1 H
  refine ent_op (ot_call0 (first := []) (cap := []) (xs := [.tmp 3]) rfl rfl F_call_74 rfl (bits_Len64.spec a0 _ h2)) rfl rfl rfl ?_
  rintro _ _ ⟨rfl, rfl⟩
  refine ent_value (ov_bin rfl rfl (b_sub _ _ _) ) rfl rfl rfl ?_
  refine ent_value (ov_assign rfl) rfl rfl rfl ?_
  refine ent_nil ?_
  refine ent_retc ?_
  cases H
  exact ret_tmp rfl rfl ⟨rfl, rfl⟩

set_option maxRecDepth 100000 in
theorem bits_Div64.spec (K : Nat) (a0 : Int) (a1 : Int) (a2 : Int) (r : (Int × Int)) (H : bits_Div64 K a0 a1 a2 = some r) : FnSpec Try.prog 66 [(Value.int .u64 a0), (Value.int .u64 a1), (Value.int .u64 a2)] [] (fun v M => v = (Value.tuple #[(Value.int .u64 r.1), (Value.int .u64 r.2)]) ∧ M = []) := by
  unfold bits_Div64 at H
  refine spec_of Try.func66 rfl 135 rfl (Nat.le_of_ble_eq_true rfl) fun F w0 => ?_
  show Ent (St 135 w0 F [(0, (Value.int .u64 a0)), (1, (Value.int .u64 a1)), (2, (Value.int .u64 a2))] []) _
  refine ent_seq ?_
  refine ent_region ?_
  refine ent_value (ov_assign rfl) rfl rfl rfl ?_
  refine ent_value (ov_assign rfl) rfl rfl rfl ?_
  refine ent_nil ?_
  refine ent_seq ?_
  refine ent_seq ?_
  refine ent_region ?_
  refine ent_value (ov_move rfl) rfl rfl rfl ?_
  refine ent_value (ov_bin rfl rfl (b_eql _ _ _)) rfl rfl rfl ?_
  refine ent_nil ?_
  by_cases c73 : a2 = 0
  · rw [if_pos c73] at H
    refine ent_cond_true rfl (eq_t c73) ?_
    refine ent_region ?_
    cases H
  · rw [if_neg c73] at H
    refine ent_cond_false rfl (eq_f c73) ?_
    refine ent_skip ?_
    refine ent_seq ?_
    refine ent_seq ?_
    refine ent_region ?_
    refine ent_value (ov_move rfl) rfl rfl rfl ?_
    refine ent_value (ov_move rfl) rfl rfl rfl ?_
    refine ent_value (ov_bin rfl rfl (b_leq _ _ _)) rfl rfl rfl ?_
    refine ent_nil ?_
    by_cases c75 : a2 ≤ a0
    · rw [if_pos c75] at H
      refine ent_cond_true rfl (decide_eq_true c75) ?_
      refine ent_region ?_
      cases H
    · rw [if_neg c75] at H
      refine ent_cond_false rfl (decide_eq_false c75) ?_
      refine ent_skip ?_
      refine ent_seq ?_
      refine ent_seq ?_
      refine ent_region ?_
      refine ent_value (ov_move rfl) rfl rfl rfl ?_
      refine ent_value (ov_bin rfl rfl (b_eql _ _ _)) rfl rfl rfl ?_
      refine ent_nil ?_
      by_cases c77 : a0 = 0
      · rw [if_pos c77] at H
        refine ent_cond_true rfl (eq_t c77) ?_
        refine ent_seq ?_
        refine ent_drawm 8 rfl (fun done a w => StD 135 w0 F [(0, (Value.int .u64 a0)), (1, (Value.int .u64 a1)), (2, (Value.int .u64 a2)), (19, (Value.int .u64 a2)), (20, (Value.bool (a2 == 0))), (22, (Value.int .u64 a2)), (23, (Value.int .u64 a0)), (24, (Value.bool (decide (a2 ≤ a0)))), (26, (Value.int .u64 a0)), (27, (Value.bool (a0 == 0)))] [(0, 28, (Value.int .u64 a1)), (1, 29, (Value.int .u64 a2)), (2, 30, (Value.int .u64 (wu64 (Int.tdiv a1 a2)))), (3, 31, (Value.int .u64 a1)), (4, 32, (Value.int .u64 a2)), (5, 33, (Value.int .u64 (Int.tmod a1 a2))), (6, 6, (Value.int .u64 (wu64 (Int.tdiv a1 a2)))), (7, 7, (Value.int .u64 (Int.tmod a1 a2)))] done [] a w) (by kernel_rfl) (by kernel_rfl) (draw_startL (sub_cons (t := 0) rfl (sub_cons (t := 1) rfl (sub_cons (t := 2) rfl (sub_cons (t := 19) rfl (sub_cons (t := 20) rfl (sub_cons (t := 22) rfl (sub_cons (t := 23) rfl (sub_cons (t := 24) rfl (sub_cons (t := 26) rfl (sub_cons (t := 27) rfl (sub_nil _))))))))))) rfl) ?_ ?_
        · refine ⟨?_, ?_, ?_, ?_, ?_, ?_, ?_, ?_, trivial⟩
          · intro done hi hc hcu
            exact draw_value (i := 0) (t := 28) (v := (Value.int .u64 a1)) rfl rfl (wanted_none rfl) (fun a => hasA_base) (ov_move rfl) rfl rfl (onlyT_spec (k0 := 0) rfl rfl rfl)
          · intro done hi hc hcu
            exact draw_value (i := 1) (t := 29) (v := (Value.int .u64 a2)) rfl rfl (wanted_none rfl) (fun a => hasA_base) (ov_move rfl) rfl rfl (onlyT_spec (k0 := 1) rfl rfl rfl)
          · intro done hi hc hcu
            have d0 : done 0 = true := done_of (j := 0) hcu rfl (by decide) rfl
            have d1 : done 1 = true := done_of (j := 1) hcu rfl (by decide) rfl
            exact draw_value (i := 2) (t := 30) (v := (Value.int .u64 (wu64 (Int.tdiv a1 a2)))) rfl rfl (wanted_none rfl) (fun a => (hasA_cons (k := 1) rfl d1 (hasA_cons (k := 0) rfl d0 hasA_base))) (ov_bin rfl rfl fun w => b_quo _ _ _ w c73) rfl rfl (onlyT_spec (k0 := 2) rfl rfl rfl)
          · intro done hi hc hcu
            exact draw_value (i := 3) (t := 31) (v := (Value.int .u64 a1)) rfl rfl (wanted_none rfl) (fun a => hasA_base) (ov_move rfl) rfl rfl (onlyT_spec (k0 := 3) rfl rfl rfl)
          · intro done hi hc hcu
            exact draw_value (i := 4) (t := 32) (v := (Value.int .u64 a2)) rfl rfl (wanted_none rfl) (fun a => hasA_base) (ov_move rfl) rfl rfl (onlyT_spec (k0 := 4) rfl rfl rfl)
          · intro done hi hc hcu
            have d3 : done 3 = true := done_of (j := 3) hcu rfl (by decide) rfl
            have d4 : done 4 = true := done_of (j := 4) hcu rfl (by decide) rfl
            exact draw_value (i := 5) (t := 33) (v := (Value.int .u64 (Int.tmod a1 a2))) rfl rfl (wanted_none rfl) (fun a => (hasA_cons (k := 4) rfl d4 (hasA_cons (k := 3) rfl d3 hasA_base))) (ov_bin rfl rfl fun w => b_rem _ _ _ w c73) rfl rfl (onlyT_spec (k0 := 5) rfl rfl rfl)
          · intro done hi hc hcu
            have d2 : done 2 = true := done_of (j := 2) hcu rfl (by decide) rfl
            exact draw_value (i := 6) (t := 6) (v := (Value.int .u64 (wu64 (Int.tdiv a1 a2)))) rfl rfl (wanted_none rfl) (fun a => (hasA_cons (k := 2) rfl d2 hasA_base)) (ov_assign rfl) rfl rfl (onlyT_spec (k0 := 6) rfl rfl rfl)
          · intro done hi hc hcu
            have d5 : done 5 = true := done_of (j := 5) hcu rfl (by decide) rfl
            exact draw_value (i := 7) (t := 7) (v := (Value.int .u64 (Int.tmod a1 a2))) rfl rfl (wanted_none rfl) (fun a => (hasA_cons (k := 5) rfl d5 hasA_base)) (ov_assign rfl) rfl rfl (onlyT_spec (k0 := 7) rfl rfl rfl)
        · intro done hall
          refine draw_endL [] rfl (fun a => (hasA_cons (k := 6) rfl (hall 6 (by decide)) (hasA_cons (k := 7) rfl (hall 7 (by decide)) (hasA_cons (k := 0) rfl (hall 0 (by decide)) (hasA_cons (k := 1) rfl (hall 1 (by decide)) (hasA_cons (k := 2) rfl (hall 2 (by decide)) (hasA_cons (k := 3) rfl (hall 3 (by decide)) (hasA_cons (k := 4) rfl (hall 4 (by decide)) (hasA_cons (k := 5) rfl (hall 5 (by decide)) hasA_base))))))))) ?_
          refine ent_retc ?_
          cases H
          exact ret_mem (vs := [(Value.int .u64 (wu64 (Int.tdiv a1 a2))), (Value.int .u64 (Int.tmod a1 a2))]) rfl ⟨rfl, ⟨rfl, trivial⟩⟩ _ rfl ⟨rfl, rfl⟩
      · rw [if_neg c77] at H
        refine ent_cond_false rfl (eq_f c77) ?_
        refine ent_skip ?_
        refine ent_seq ?_
        refine ent_region ?_
        refine ent_value (ov_move rfl) rfl rfl rfl ?_
        obtain ⟨x16, h2, H⟩ := Option.bind_eq_some_iff.1 H
        refine ent_op (ot_call0 (first := []) (cap := []) (xs := [.tmp 34]) rfl rfl F_call_124 rfl (bits_LeadingZeros64.spec a2 _ h2)) rfl rfl rfl ?_
        rintro _ _ ⟨rfl, rfl⟩
        refine ent_value (ov_convert rfl (c_int Try.underlying3 Try.underlying126)) rfl rfl rfl ?_
        refine ent_value (ov_assign rfl) rfl rfl rfl ?_
        refine ent_nil ?_
        refine ent_seq ?_
        refine ent_region ?_
        refine ent_value (ov_move rfl) rfl rfl rfl ?_
        refine ent_value (ov_move rfl) rfl rfl rfl ?_
        by_cases c78 : 0 ≤ (wu64 x16)
        · rw [if_pos c78] at H
          refine ent_value (ov_bin rfl rfl fun w => b_shl _ _ _ _ w c78) rfl rfl rfl ?_
          refine ent_value (ov_assign rfl) rfl rfl rfl ?_
          refine ent_nil ?_
          refine ent_seq ?_
          refine ent_region ?_
          refine ent_value (ov_move rfl) rfl rfl rfl ?_
          refine ent_value (ov_bin rfl rfl fun w => b_shr _ _ _ _ w (by decide)) rfl rfl rfl ?_
          refine ent_value (ov_assign rfl) rfl rfl rfl ?_
          refine ent_nil ?_
          refine ent_seq ?_
          refine ent_region ?_
          refine ent_value (ov_move rfl) rfl rfl rfl ?_
          refine ent_value (ov_bin rfl rfl (b_and _ _ _)) rfl rfl rfl ?_
          refine ent_value (ov_assign rfl) rfl rfl rfl ?_
          refine ent_nil ?_
          refine ent_seq ?_
          refine ent_region ?_
          refine ent_value (ov_move rfl) rfl rfl rfl ?_
          refine ent_value (ov_move rfl) rfl rfl rfl ?_
          refine ent_value (ov_bin rfl rfl fun w => b_shl _ _ _ _ w c78) rfl rfl rfl ?_
          refine ent_value (ov_move rfl) rfl rfl rfl ?_
          refine ent_value (ov_move rfl) rfl rfl rfl ?_
          refine ent_value (ov_bin rfl rfl (b_sub _ _ _) ) rfl rfl rfl ?_
          by_cases c79 : 0 ≤ (wu64 (64 - (wu64 x16)))
          · rw [if_pos c79] at H
            refine ent_value (ov_bin rfl rfl fun w => b_shr _ _ _ _ w c79) rfl rfl rfl ?_
            refine ent_value (ov_bin rfl rfl (b_or _ _ _)) rfl rfl rfl ?_
            refine ent_value (ov_assign rfl) rfl rfl rfl ?_
            refine ent_nil ?_
            refine ent_seq ?_
            refine ent_region ?_
            refine ent_value (ov_move rfl) rfl rfl rfl ?_
            refine ent_value (ov_move rfl) rfl rfl rfl ?_
            refine ent_value (ov_bin rfl rfl fun w => b_shl _ _ _ _ w c78) rfl rfl rfl ?_
            refine ent_value (ov_assign rfl) rfl rfl rfl ?_
            refine ent_nil ?_
            refine ent_seq ?_
            refine ent_region ?_
            refine ent_value (ov_move rfl) rfl rfl rfl ?_
            refine ent_value (ov_bin rfl rfl fun w => b_shr _ _ _ _ w (by decide)) rfl rfl rfl ?_
            refine ent_value (ov_assign rfl) rfl rfl rfl ?_
            refine ent_nil ?_
            refine ent_seq ?_
            refine ent_region ?_
            refine ent_value (ov_move rfl) rfl rfl rfl ?_
            refine ent_value (ov_bin rfl rfl (b_and _ _ _)) rfl rfl rfl ?_
            refine ent_value (ov_assign rfl) rfl rfl rfl ?_
            refine ent_nil ?_
            refine ent_seq ?_
            refine ent_region ?_
            refine ent_value (ov_move rfl) rfl rfl rfl ?_
            refine ent_value (ov_move rfl) rfl rfl rfl ?_
            by_cases c80 : (bShr .u64 (bShl .u64 a2 (wu64 x16)) 32) = 0
            · rw [if_pos c80] at H
              cases H
            · rw [if_neg c80] at H
              refine ent_value (ov_bin rfl rfl fun w => b_quo _ _ _ w c80) rfl rfl rfl ?_
              refine ent_value (ov_assign rfl) rfl rfl rfl ?_
              refine ent_nil ?_
              refine ent_seq ?_
              refine ent_region ?_
              refine ent_value (ov_move rfl) rfl rfl rfl ?_
              refine ent_value (ov_move rfl) rfl rfl rfl ?_
              refine ent_value (ov_move rfl) rfl rfl rfl ?_
              refine ent_value (ov_bin rfl rfl (b_mul _ _ _) ) rfl rfl rfl ?_
              refine ent_value (ov_bin rfl rfl (b_sub _ _ _) ) rfl rfl rfl ?_
              refine ent_value (ov_assign rfl) rfl rfl rfl ?_
              refine ent_nil ?_
              obtain ⟨x20, H38, H⟩ := Option.bind_eq_some_iff.1 H
              refine ent_seq_cut (fun a w => St 135 w0 F [(2, (Value.int .u64 x20.2.1)), (8, (Value.int .u64 x20.2.2.1)), (9, (Value.int .u64 x20.2.2.2.1)), (10, (Value.int .u64 x20.2.2.2.2.1)), (11, (Value.int .u64 x20.2.2.2.2.2.1)), (13, (Value.int .u64 x20.2.2.2.2.2.2.1)), (14, (Value.int .u64 x20.2.2.2.2.2.2.2)), (15, (Value.int .u64 x20.1))] [] a w) ?_ ?_
              · refine ent_block ?_
                refine ent_loop (fun k a w => ∃ i96, ∃ i97, ∃ i98, ∃ i99, ∃ i100, ∃ i101, ∃ i102, ∃ i103, ∃ i104, bits_Div64_l0 K k i96 i97 i98 i99 i100 i101 i102 i103 i104 = some x20 ∧ St 135 w0 F [(2, (Value.int .u64 i96)), (8, (Value.int .u64 i97)), (9, (Value.int .u64 i98)), (10, (Value.int .u64 i99)), (11, (Value.int .u64 i100)), (13, (Value.int .u64 i101)), (14, (Value.int .u64 i102)), (15, (Value.int .u64 i103)), (16, (Value.int .u64 i104))] [] a w) K ?_ ?_
                · exact ent_fin [] (by decide) rfl (sub_cons (t := 2) rfl (sub_cons (t := 8) rfl (sub_cons (t := 9) rfl (sub_cons (t := 10) rfl (sub_cons (t := 11) rfl (sub_cons (t := 13) rfl (sub_cons (t := 14) rfl (sub_cons (t := 15) rfl (sub_cons (t := 16) rfl (sub_nil _)))))))))) fun a w h => ⟨_, _, _, _, _, _, _, _, _, H38, h⟩
                · refine fun k => ent_exi fun i96 => ent_exi fun i97 => ent_exi fun i98 => ent_exi fun i99 => ent_exi fun i100 => ent_exi fun i101 => ent_exi fun i102 => ent_exi fun i103 => ent_exi fun i104 => ent_and fun H43 => ?_
                  cases k with
                  | zero => exact absurd H43 (by simp [bits_Div64_l0])
                  | succ k =>
                    rw [bits_Div64_l0] at H43
                    obtain ⟨x23, H44, H43⟩ := thn_elim H43
                    refine ent_seq_cut (fun a w => ∃ v18, x23 = Sum.inl v18 ∧ St 135 w0 F [(2, (Value.int .u64 i96)), (8, (Value.int .u64 i97)), (9, (Value.int .u64 i98)), (10, (Value.int .u64 i99)), (11, (Value.int .u64 i100)), (13, (Value.int .u64 i101)), (14, (Value.int .u64 i102)), (15, (Value.int .u64 i103)), (16, (Value.int .u64 i104))] [] a w) ?_ ?_
                    · refine ent_seq ?_
                      refine ent_region ?_
                      refine ent_value (ov_move rfl) rfl rfl rfl ?_
                      refine ent_value (ov_bin rfl rfl (b_geq _ _ _)) rfl rfl rfl ?_
                      refine ent_value (ov_move rfl) rfl rfl rfl ?_
                      by_cases c108 : 4294967296 ≤ i103
                      · rw [if_pos c108] at H44
                        refine ent_off rfl rfl rfl (decide_eq_true c108) rfl rfl ?_
                        refine ent_off rfl rfl rfl (decide_eq_true c108) rfl rfl ?_
                        refine ent_off rfl rfl rfl (decide_eq_true c108) rfl rfl ?_
                        refine ent_off rfl rfl rfl (decide_eq_true c108) rfl rfl ?_
                        refine ent_off rfl rfl rfl (decide_eq_true c108) rfl rfl ?_
                        refine ent_off rfl rfl rfl (decide_eq_true c108) rfl rfl ?_
                        refine ent_off rfl rfl rfl (decide_eq_true c108) rfl rfl ?_
                        refine ent_off rfl rfl rfl (decide_eq_true c108) rfl rfl ?_
                        refine ent_value (ov_pick rfl rfl rfl (pick_t (decide_eq_true c108))) rfl rfl rfl ?_
                        refine ent_nil ?_
                        refine ent_cond_true rfl rfl ?_
                        refine ent_skip ?_
                        cases H44
                        exact ent_fin [] (by decide) rfl (sub_cons (t := 2) rfl (sub_cons (t := 8) rfl (sub_cons (t := 9) rfl (sub_cons (t := 10) rfl (sub_cons (t := 11) rfl (sub_cons (t := 13) rfl (sub_cons (t := 14) rfl (sub_cons (t := 15) rfl (sub_cons (t := 16) rfl (sub_nil _)))))))))) fun a w h => ⟨_, rfl, h⟩
                      · rw [if_neg c108] at H44
                        refine ent_value_on (ov_move rfl) rfl rfl rfl (decide_eq_false c108) rfl rfl ?_
                        refine ent_value_on (ov_move rfl) rfl rfl rfl (decide_eq_false c108) rfl rfl ?_
                        refine ent_value_on (ov_bin rfl rfl (b_mul _ _ _) ) rfl rfl rfl (decide_eq_false c108) rfl rfl ?_
                        refine ent_value_on (ov_move rfl) rfl rfl rfl (decide_eq_false c108) rfl rfl ?_
                        refine ent_value_on (ov_bin rfl rfl (b_mul _ _ _) ) rfl rfl rfl (decide_eq_false c108) rfl rfl ?_
                        refine ent_value_on (ov_move rfl) rfl rfl rfl (decide_eq_false c108) rfl rfl ?_
                        refine ent_value_on (ov_bin rfl rfl (b_add _ _ _) ) rfl rfl rfl (decide_eq_false c108) rfl rfl ?_
                        refine ent_value_on (ov_bin rfl rfl (b_gtr _ _ _)) rfl rfl rfl (decide_eq_false c108) rfl rfl ?_
                        refine ent_value (ov_pick rfl rfl rfl (pick_f (decide_eq_false c108))) rfl rfl rfl ?_
                        refine ent_nil ?_
                        by_cases c109 : (wu64 ((wu64 (4294967296 * i104)) + i101)) < (wu64 (i103 * i99))
                        · rw [if_pos c109] at H44
                          refine ent_cond_true rfl (decide_eq_true c109) ?_
                          refine ent_skip ?_
                          cases H44
                          exact ent_fin [] (by decide) rfl (sub_cons (t := 2) rfl (sub_cons (t := 8) rfl (sub_cons (t := 9) rfl (sub_cons (t := 10) rfl (sub_cons (t := 11) rfl (sub_cons (t := 13) rfl (sub_cons (t := 14) rfl (sub_cons (t := 15) rfl (sub_cons (t := 16) rfl (sub_nil _)))))))))) fun a w h => ⟨_, rfl, h⟩
                        · rw [if_neg c109] at H44
                          refine ent_cond_false rfl (decide_eq_false c109) ?_
                          refine ent_exit ?_
                          subst H44
                          have H45 := Option.some.inj (show some _ = some _ from H43)
                          cases H45
                          exact ent_fin [] (by decide) rfl (sub_cons (t := 2) rfl (sub_cons (t := 8) rfl (sub_cons (t := 9) rfl (sub_cons (t := 10) rfl (sub_cons (t := 11) rfl (sub_cons (t := 13) rfl (sub_cons (t := 14) rfl (sub_cons (t := 15) rfl (sub_nil _))))))))) fun a w h => h
                    · refine ent_exi fun v18 => ent_and fun e_ => ?_
                      subst e_
                      rw [cas_inl] at H43
                      refine ent_block ?_
                      refine ent_seq ?_
                      refine ent_region ?_
                      refine ent_value (ov_move rfl) rfl rfl rfl ?_
                      refine ent_value (ov_bin rfl rfl (b_sub _ _ _) ) rfl rfl rfl ?_
                      refine ent_value (ov_assign rfl) rfl rfl rfl ?_
                      refine ent_nil ?_
                      refine ent_seq ?_
                      refine ent_region ?_
                      refine ent_value (ov_move rfl) rfl rfl rfl ?_
                      refine ent_value (ov_move rfl) rfl rfl rfl ?_
                      refine ent_value (ov_bin rfl rfl (b_add _ _ _) ) rfl rfl rfl ?_
                      refine ent_value (ov_assign rfl) rfl rfl rfl ?_
                      refine ent_nil ?_
                      refine ent_seq ?_
                      refine ent_region ?_
                      refine ent_value (ov_move rfl) rfl rfl rfl ?_
                      refine ent_value (ov_bin rfl rfl (b_geq _ _ _)) rfl rfl rfl ?_
                      refine ent_nil ?_
                      by_cases c110 : 4294967296 ≤ (wu64 (i104 + i98))
                      · rw [if_pos c110] at H43
                        refine ent_cond_true rfl (decide_eq_true c110) ?_
                        refine ent_exit ?_
                        cases H43
                        exact ent_fin [] (by decide) rfl (sub_cons (t := 2) rfl (sub_cons (t := 8) rfl (sub_cons (t := 9) rfl (sub_cons (t := 10) rfl (sub_cons (t := 11) rfl (sub_cons (t := 13) rfl (sub_cons (t := 14) rfl (sub_cons (t := 15) rfl (sub_nil _))))))))) fun a w h => h
                      · rw [if_neg c110] at H43
                        refine ent_cond_false rfl (decide_eq_false c110) ?_
                        refine ent_skip ?_
                        exact ent_fin [] (by decide) rfl (sub_cons (t := 2) rfl (sub_cons (t := 8) rfl (sub_cons (t := 9) rfl (sub_cons (t := 10) rfl (sub_cons (t := 11) rfl (sub_cons (t := 13) rfl (sub_cons (t := 14) rfl (sub_cons (t := 15) rfl (sub_cons (t := 16) rfl (sub_nil _)))))))))) fun a w h => ⟨k, Nat.lt_succ_self k, _, _, _, _, _, _, _, _, _, H43, h⟩
              · refine ent_seq ?_
                refine ent_region ?_
                refine ent_value (ov_move rfl) rfl rfl rfl ?_
                refine ent_value (ov_bin rfl rfl (b_mul _ _ _) ) rfl rfl rfl ?_
                refine ent_value (ov_move rfl) rfl rfl rfl ?_
                refine ent_value (ov_bin rfl rfl (b_add _ _ _) ) rfl rfl rfl ?_
                refine ent_value (ov_move rfl) rfl rfl rfl ?_
                refine ent_value (ov_move rfl) rfl rfl rfl ?_
                refine ent_value (ov_bin rfl rfl (b_mul _ _ _) ) rfl rfl rfl ?_
                refine ent_value (ov_bin rfl rfl (b_sub _ _ _) ) rfl rfl rfl ?_
                refine ent_value (ov_assign rfl) rfl rfl rfl ?_
                refine ent_nil ?_
                refine ent_seq ?_
                refine ent_region ?_
                refine ent_value (ov_move rfl) rfl rfl rfl ?_
                refine ent_value (ov_move rfl) rfl rfl rfl ?_
                by_cases c111 : x20.2.2.2.1 = 0
                · rw [if_pos c111] at H
                  cases H
                · rw [if_neg c111] at H
                  refine ent_value (ov_bin rfl rfl fun w => b_quo _ _ _ w c111) rfl rfl rfl ?_
                  refine ent_value (ov_assign rfl) rfl rfl rfl ?_
                  refine ent_nil ?_
                  refine ent_seq ?_
                  refine ent_region ?_
                  refine ent_value (ov_move rfl) rfl rfl rfl ?_
                  refine ent_value (ov_move rfl) rfl rfl rfl ?_
                  refine ent_value (ov_move rfl) rfl rfl rfl ?_
                  refine ent_value (ov_bin rfl rfl (b_mul _ _ _) ) rfl rfl rfl ?_
                  refine ent_value (ov_bin rfl rfl (b_sub _ _ _) ) rfl rfl rfl ?_
                  refine ent_value (ov_assign rfl) rfl rfl rfl ?_
                  refine ent_nil ?_
                  obtain ⟨x27, H53, H⟩ := Option.bind_eq_some_iff.1 H
                  refine ent_seq_cut (fun a w => St 135 w0 F [(2, (Value.int .u64 x20.2.1)), (8, (Value.int .u64 x20.2.2.1)), (14, (Value.int .u64 x20.2.2.2.2.2.2.2)), (15, (Value.int .u64 x20.1)), (17, (Value.int .u64 x27.2)), (18, (Value.int .u64 x27.1))] [] a w) ?_ ?_
                  · refine ent_block ?_
                    refine ent_loop (fun k a w => ∃ i116, ∃ i117, ∃ i118, bits_Div64_l1 K x20 k i116 i117 i118 = some x27 ∧ St 135 w0 F [(2, (Value.int .u64 x20.2.1)), (8, (Value.int .u64 x20.2.2.1)), (9, (Value.int .u64 x20.2.2.2.1)), (10, (Value.int .u64 x20.2.2.2.2.1)), (14, (Value.int .u64 x20.2.2.2.2.2.2.2)), (15, (Value.int .u64 x20.1)), (16, (Value.int .u64 i118)), (17, (Value.int .u64 i116)), (18, (Value.int .u64 i117))] [] a w) K ?_ ?_
                    · exact ent_fin [] (by decide) rfl (sub_cons (t := 2) rfl (sub_cons (t := 8) rfl (sub_cons (t := 9) rfl (sub_cons (t := 10) rfl (sub_cons (t := 14) rfl (sub_cons (t := 15) rfl (sub_cons (t := 16) rfl (sub_cons (t := 17) rfl (sub_cons (t := 18) rfl (sub_nil _)))))))))) fun a w h => ⟨_, _, _, H53, h⟩
                    · refine fun k => ent_exi fun i116 => ent_exi fun i117 => ent_exi fun i118 => ent_and fun H58 => ?_
                      cases k with
                      | zero => exact absurd H58 (by simp [bits_Div64_l1])
                      | succ k =>
                        rw [bits_Div64_l1] at H58
                        obtain ⟨x30, H59, H58⟩ := thn_elim H58
                        refine ent_seq_cut (fun a w => ∃ v24, x30 = Sum.inl v24 ∧ St 135 w0 F [(2, (Value.int .u64 x20.2.1)), (8, (Value.int .u64 x20.2.2.1)), (9, (Value.int .u64 x20.2.2.2.1)), (10, (Value.int .u64 x20.2.2.2.2.1)), (14, (Value.int .u64 x20.2.2.2.2.2.2.2)), (15, (Value.int .u64 x20.1)), (16, (Value.int .u64 i118)), (17, (Value.int .u64 i116)), (18, (Value.int .u64 i117))] [] a w) ?_ ?_
                        · refine ent_seq ?_
                          refine ent_region ?_
                          refine ent_value (ov_move rfl) rfl rfl rfl ?_
                          refine ent_value (ov_bin rfl rfl (b_geq _ _ _)) rfl rfl rfl ?_
                          refine ent_value (ov_move rfl) rfl rfl rfl ?_
                          by_cases c139 : 4294967296 ≤ i117
                          · rw [if_pos c139] at H59
                            refine ent_off rfl rfl rfl (decide_eq_true c139) rfl rfl ?_
                            refine ent_off rfl rfl rfl (decide_eq_true c139) rfl rfl ?_
                            refine ent_off rfl rfl rfl (decide_eq_true c139) rfl rfl ?_
                            refine ent_off rfl rfl rfl (decide_eq_true c139) rfl rfl ?_
                            refine ent_off rfl rfl rfl (decide_eq_true c139) rfl rfl ?_
                            refine ent_off rfl rfl rfl (decide_eq_true c139) rfl rfl ?_
                            refine ent_off rfl rfl rfl (decide_eq_true c139) rfl rfl ?_
                            refine ent_off rfl rfl rfl (decide_eq_true c139) rfl rfl ?_
                            refine ent_value (ov_pick rfl rfl rfl (pick_t (decide_eq_true c139))) rfl rfl rfl ?_
                            refine ent_nil ?_
                            refine ent_cond_true rfl rfl ?_
                            refine ent_skip ?_
                            cases H59
                            exact ent_fin [] (by decide) rfl (sub_cons (t := 2) rfl (sub_cons (t := 8) rfl (sub_cons (t := 9) rfl (sub_cons (t := 10) rfl (sub_cons (t := 14) rfl (sub_cons (t := 15) rfl (sub_cons (t := 16) rfl (sub_cons (t := 17) rfl (sub_cons (t := 18) rfl (sub_nil _)))))))))) fun a w h => ⟨_, rfl, h⟩
                          · rw [if_neg c139] at H59
                            refine ent_value_on (ov_move rfl) rfl rfl rfl (decide_eq_false c139) rfl rfl ?_
                            refine ent_value_on (ov_move rfl) rfl rfl rfl (decide_eq_false c139) rfl rfl ?_
                            refine ent_value_on (ov_bin rfl rfl (b_mul _ _ _) ) rfl rfl rfl (decide_eq_false c139) rfl rfl ?_
                            refine ent_value_on (ov_move rfl) rfl rfl rfl (decide_eq_false c139) rfl rfl ?_
                            refine ent_value_on (ov_bin rfl rfl (b_mul _ _ _) ) rfl rfl rfl (decide_eq_false c139) rfl rfl ?_
                            refine ent_value_on (ov_move rfl) rfl rfl rfl (decide_eq_false c139) rfl rfl ?_
                            refine ent_value_on (ov_bin rfl rfl (b_add _ _ _) ) rfl rfl rfl (decide_eq_false c139) rfl rfl ?_
                            refine ent_value_on (ov_bin rfl rfl (b_gtr _ _ _)) rfl rfl rfl (decide_eq_false c139) rfl rfl ?_
                            refine ent_value (ov_pick rfl rfl rfl (pick_f (decide_eq_false c139))) rfl rfl rfl ?_
                            refine ent_nil ?_
                            by_cases c140 : (wu64 ((wu64 (4294967296 * i118)) + x20.2.2.2.2.2.2.2)) < (wu64 (i117 * x20.2.2.2.2.1))
                            · rw [if_pos c140] at H59
                              refine ent_cond_true rfl (decide_eq_true c140) ?_
                              refine ent_skip ?_
                              cases H59
                              exact ent_fin [] (by decide) rfl (sub_cons (t := 2) rfl (sub_cons (t := 8) rfl (sub_cons (t := 9) rfl (sub_cons (t := 10) rfl (sub_cons (t := 14) rfl (sub_cons (t := 15) rfl (sub_cons (t := 16) rfl (sub_cons (t := 17) rfl (sub_cons (t := 18) rfl (sub_nil _)))))))))) fun a w h => ⟨_, rfl, h⟩
                            · rw [if_neg c140] at H59
                              refine ent_cond_false rfl (decide_eq_false c140) ?_
                              refine ent_exit ?_
                              subst H59
                              have H60 := Option.some.inj (show some _ = some _ from H58)
                              cases H60
                              exact ent_fin [] (by decide) rfl (sub_cons (t := 2) rfl (sub_cons (t := 8) rfl (sub_cons (t := 14) rfl (sub_cons (t := 15) rfl (sub_cons (t := 17) rfl (sub_cons (t := 18) rfl (sub_nil _))))))) fun a w h => h
                        · refine ent_exi fun v24 => ent_and fun e_ => ?_
                          subst e_
                          rw [cas_inl] at H58
                          refine ent_block ?_
                          refine ent_seq ?_
                          refine ent_region ?_
                          refine ent_value (ov_move rfl) rfl rfl rfl ?_
                          refine ent_value (ov_bin rfl rfl (b_sub _ _ _) ) rfl rfl rfl ?_
                          refine ent_value (ov_assign rfl) rfl rfl rfl ?_
                          refine ent_nil ?_
                          refine ent_seq ?_
                          refine ent_region ?_
                          refine ent_value (ov_move rfl) rfl rfl rfl ?_
                          refine ent_value (ov_move rfl) rfl rfl rfl ?_
                          refine ent_value (ov_bin rfl rfl (b_add _ _ _) ) rfl rfl rfl ?_
                          refine ent_value (ov_assign rfl) rfl rfl rfl ?_
                          refine ent_nil ?_
                          refine ent_seq ?_
                          refine ent_region ?_
                          refine ent_value (ov_move rfl) rfl rfl rfl ?_
                          refine ent_value (ov_bin rfl rfl (b_geq _ _ _)) rfl rfl rfl ?_
                          refine ent_nil ?_
                          by_cases c141 : 4294967296 ≤ (wu64 (i118 + x20.2.2.2.1))
                          · rw [if_pos c141] at H58
                            refine ent_cond_true rfl (decide_eq_true c141) ?_
                            refine ent_exit ?_
                            cases H58
                            exact ent_fin [] (by decide) rfl (sub_cons (t := 2) rfl (sub_cons (t := 8) rfl (sub_cons (t := 14) rfl (sub_cons (t := 15) rfl (sub_cons (t := 17) rfl (sub_cons (t := 18) rfl (sub_nil _))))))) fun a w h => h
                          · rw [if_neg c141] at H58
                            refine ent_cond_false rfl (decide_eq_false c141) ?_
                            refine ent_skip ?_
                            exact ent_fin [] (by decide) rfl (sub_cons (t := 2) rfl (sub_cons (t := 8) rfl (sub_cons (t := 9) rfl (sub_cons (t := 10) rfl (sub_cons (t := 14) rfl (sub_cons (t := 15) rfl (sub_cons (t := 16) rfl (sub_cons (t := 17) rfl (sub_cons (t := 18) rfl (sub_nil _)))))))))) fun a w h => ⟨k, Nat.lt_succ_self k, _, _, _, H58, h⟩
                  · refine ent_seq ?_
                    refine ent_region ?_
                    refine ent_value (ov_move rfl) rfl rfl rfl ?_
                    refine ent_value (ov_bin rfl rfl (b_mul _ _ _) ) rfl rfl rfl ?_
                    refine ent_value (ov_move rfl) rfl rfl rfl ?_
                    refine ent_value (ov_bin rfl rfl (b_add _ _ _) ) rfl rfl rfl ?_
                    refine ent_value (ov_move rfl) rfl rfl rfl ?_
                    refine ent_value (ov_bin rfl rfl (b_mul _ _ _) ) rfl rfl rfl ?_
                    refine ent_value (ov_move rfl) rfl rfl rfl ?_
                    refine ent_value (ov_bin rfl rfl (b_add _ _ _) ) rfl rfl rfl ?_
                    refine ent_value (ov_move rfl) rfl rfl rfl ?_
                    refine ent_value (ov_move rfl) rfl rfl rfl ?_
                    refine ent_value (ov_bin rfl rfl (b_mul _ _ _) ) rfl rfl rfl ?_
                    refine ent_value (ov_bin rfl rfl (b_sub _ _ _) ) rfl rfl rfl ?_
                    refine ent_value (ov_move rfl) rfl rfl rfl ?_
                    by_cases c142 : 0 ≤ x20.2.2.1
                    · rw [if_pos c142] at H
                      refine ent_value (ov_bin rfl rfl fun w => b_shr _ _ _ _ w c142) rfl rfl rfl ?_
                      refine ent_value (ov_assign rfl) rfl rfl rfl ?_
                      refine ent_value (ov_assign rfl) rfl rfl rfl ?_
                      refine ent_nil ?_
                      refine ent_retc ?_
                      cases H
                      exact ret_mem (vs := [(Value.int .u64 (wu64 ((wu64 (x20.1 * 4294967296)) + x27.1))), (Value.int .u64 (bShr .u64 (wu64 ((wu64 ((wu64 (x27.2 * 4294967296)) + x20.2.2.2.2.2.2.2)) - (wu64 (x27.1 * x20.2.1)))) x20.2.2.1))]) rfl ⟨rfl, ⟨rfl, trivial⟩⟩ _ rfl ⟨rfl, rfl⟩
                    · rw [if_neg c142] at H
                      cases H
          · rw [if_neg c79] at H
            cases H
        · rw [if_neg c78] at H
          cases H

set_option maxRecDepth 100000 in
theorem stat_Shares.spec (K : Nat) (sv0 : Value) (A0 : HP) (l0 : List Api_Row) (hA0 : IsRd A0 sv0 l0.length 9 (fl enc_Api_Row l0)) (r : (Bool × (List Int))) (H : stat_Shares K l0 = some r) : FnSpec Try.prog 13 [sv0] [A0] (fun v M => ∃ sv27 : Value, v = (Value.tuple #[sv27, (Value.bool r.1)]) ∧ M = [A0, (own sv27 2 1 r.2.length (fl (eI .i64) r.2))]) := by
  unfold stat_Shares at H
  refine spec_of Try.func13 rfl 62 rfl (Nat.le_of_ble_eq_true rfl) fun F w0 => ?_
  show Ent (St 62 w0 F [(0, sv0)] [A0]) _
  refine ent_seq ?_
  refine ent_region ?_
  refine ent_value (ov_assign rfl) rfl rfl rfl ?_
  refine ent_value (ov_assign rfl) rfl rfl rfl ?_
  refine ent_nil ?_
  refine ent_seq ?_
  refine ent_region ?_
  refine ent_value (ov_assign rfl) rfl rfl rfl ?_
  refine ent_nil ?_
  obtain ⟨x26, H9, H⟩ := Option.bind_eq_some_iff.1 H
  refine ent_seq_cut (fun a w => ∃ v2, x26 = Sum.inl v2 ∧ St 62 w0 F [(0, sv0), (2, (Value.slice none 0 0)), (4, (Value.int .u64 v2))] [A0] a w) ?_ ?_
  · refine ent_seq ?_
    refine ent_region ?_
    refine ent_value (ov_move rfl) rfl rfl rfl ?_
    refine ent_value (ov_len 0 rfl F_slice_22 rfl hA0) rfl rfl rfl ?_
    refine ent_value (ov_move rfl) rfl rfl rfl ?_
    refine ent_nil ?_
    refine ent_block ?_
    refine ent_loop (fun k a w => ∃ i11, ∃ i12, stat_Shares_l0 K l0 k i11 i12 = some x26 ∧ St 62 w0 F [(0, sv0), (2, (Value.slice none 0 0)), (4, (Value.int .u64 i11)), (13, sv0), (14, (Value.int .i64 (l0.length : Int))), (15, (Value.int .i64 i12))] [A0] a w) K ?_ ?_
    · exact ent_fin [0] (by decide) rfl (sub_cons (t := 0) rfl (sub_cons (t := 2) rfl (sub_cons (t := 4) rfl (sub_cons (t := 13) rfl (sub_cons (t := 14) rfl (sub_cons (t := 15) rfl (sub_nil _))))))) fun a w h => ⟨_, _, H9, h⟩
    · refine fun k => ent_exi fun i11 => ent_exi fun i12 => ent_and fun H10 => ?_
      cases k with
      | zero => exact absurd H10 (by simp [stat_Shares_l0])
      | succ k =>
        rw [stat_Shares_l0] at H10
        refine ent_seq ?_
        refine ent_region ?_
        refine ent_value (ov_bin rfl rfl (b_lss _ _ _)) rfl rfl rfl ?_
        refine ent_nil ?_
        refine ent_seq ?_
        by_cases c138 : i12 < (l0.length : Int)
        · rw [if_pos c138] at H10
          refine ent_cond_true rfl (decide_eq_true c138) ?_
          refine ent_skip ?_
          refine ent_seq ?_
          refine ent_block ?_
          refine ent_seq ?_
          refine ent_region ?_
          by_cases c143 : 0 ≤ i12
          · rw [if_pos c143] at H10
            refine ent_value (ov_indexAddr (sz := 8) 0 rfl rfl F_slice_22 F_size_47 rfl hA0 c143 c138) rfl rfl rfl ?_
            refine ent_value (ov_load_agg (vs := [(Value.int .i64 (((l0.getD i12.toNat z_Api_Row).Key).Hour)), (str (((l0.getD i12.toNat z_Api_Row).Key).Dims_0)), (str (((l0.getD i12.toNat z_Api_Row).Key).Dims_1)), (str (((l0.getD i12.toNat z_Api_Row).Key).Dims_2)), (str (((l0.getD i12.toNat z_Api_Row).Key).Dims_3)), (Value.int .i64 (((l0.getD i12.toNat z_Api_Row).Cell).Count)), (Value.int .i64 (((l0.getD i12.toNat z_Api_Row).Cell).Sum)), (Value.int .i64 (((l0.getD i12.toNat z_Api_Row).Cell).Min)), (Value.int .i64 (((l0.getD i12.toNat z_Api_Row).Cell).Max))]) rfl F_agg_47 F_size_47 (reads_rd (i := 0) rfl hA0 (by simp) (fl_read0 enc_Api_Row_len (ix_lt c143 c138) rfl))) rfl rfl rfl ?_
            refine ent_op (ot_alloc F_zero_47) rfl rfl rfl ?_
            rintro _ _ ⟨b36, rfl, rfl⟩
            refine ent_op0 (ot_storeG (cs := [(Value.int .i64 0), (str ([] : List UInt8)), (str ([] : List UInt8)), (str ([] : List UInt8)), (str ([] : List UInt8)), (Value.int .i64 0), (Value.int .i64 0), (Value.int .i64 0), (Value.int .i64 0)]) (cs' := [(Value.int .i64 (((l0.getD i12.toNat z_Api_Row).Key).Hour)), (str (((l0.getD i12.toNat z_Api_Row).Key).Dims_0)), (str (((l0.getD i12.toNat z_Api_Row).Key).Dims_1)), (str (((l0.getD i12.toNat z_Api_Row).Key).Dims_2)), (str (((l0.getD i12.toNat z_Api_Row).Key).Dims_3)), (Value.int .i64 (((l0.getD i12.toNat z_Api_Row).Cell).Count)), (Value.int .i64 (((l0.getD i12.toNat z_Api_Row).Cell).Sum)), (Value.int .i64 (((l0.getD i12.toNat z_Api_Row).Cell).Min)), (Value.int .i64 (((l0.getD i12.toNat z_Api_Row).Cell).Max))]) (us := [(Value.int .i64 (((l0.getD i12.toNat z_Api_Row).Key).Hour)), (str (((l0.getD i12.toNat z_Api_Row).Key).Dims_0)), (str (((l0.getD i12.toNat z_Api_Row).Key).Dims_1)), (str (((l0.getD i12.toNat z_Api_Row).Key).Dims_2)), (str (((l0.getD i12.toNat z_Api_Row).Key).Dims_3)), (Value.int .i64 (((l0.getD i12.toNat z_Api_Row).Cell).Count)), (Value.int .i64 (((l0.getD i12.toNat z_Api_Row).Cell).Sum)), (Value.int .i64 (((l0.getD i12.toNat z_Api_Row).Cell).Min)), (Value.int .i64 (((l0.getD i12.toNat z_Api_Row).Cell).Max))]) (L' := [(box b36 47 [(Value.int .i64 (((l0.getD i12.toNat z_Api_Row).Key).Hour)), (str (((l0.getD i12.toNat z_Api_Row).Key).Dims_0)), (str (((l0.getD i12.toNat z_Api_Row).Key).Dims_1)), (str (((l0.getD i12.toNat z_Api_Row).Key).Dims_2)), (str (((l0.getD i12.toNat z_Api_Row).Key).Dims_3)), (Value.int .i64 (((l0.getD i12.toNat z_Api_Row).Cell).Count)), (Value.int .i64 (((l0.getD i12.toNat z_Api_Row).Cell).Sum)), (Value.int .i64 (((l0.getD i12.toNat z_Api_Row).Cell).Min)), (Value.int .i64 (((l0.getD i12.toNat z_Api_Row).Cell).Max))]), A0]) 0 rfl rfl rfl (one_all rfl) F_size_47 rfl rfl (by simp) rfl) rfl rfl ?_
            rintro _ _ rfl
            refine ent_nil ?_
            refine ent_seq ?_
            refine ent_seq ?_
            refine ent_region ?_
            refine ent_value (ov_fieldAddr (sz := 3) (o := 0) rfl F_field_47_1 F_size_42) rfl rfl rfl ?_
            refine ent_value (ov_fieldAddr (sz := 0) (o := 5) rfl F_field_42_1 F_size_2) rfl rfl rfl ?_
            refine ent_value (ov_load (v := (Value.int .i64 (((l0.getD i12.toNat z_Api_Row).Cell).Sum))) rfl F_agg_2 (reads_box1 (i := 0) rfl rfl)) rfl rfl rfl ?_
            refine ent_value (ov_bin rfl rfl (b_lss _ _ _)) rfl rfl rfl ?_
            refine ent_nil ?_
            by_cases c145 : (((l0.getD i12.toNat z_Api_Row).Cell).Sum) < 0
            · rw [if_pos c145] at H10
              refine ent_cond_true rfl (decide_eq_true c145) ?_
              refine ent_seq ?_
              refine ent_region ?_
              refine ent_value (ov_assign rfl) rfl rfl rfl ?_
              refine ent_value (ov_assign rfl) rfl rfl rfl ?_
              refine ent_nil ?_
              refine ent_retc ?_
              cases H10
              have H11 := Option.some.inj (show some _ = some _ from H)
              cases H11
              refine ent_ownnil 2 1 ?_
              refine ent_pick [2, 0] (by decide) rfl ?_
              exact ret_mem (vs := [(Value.slice none 0 0), (Value.bool false)]) rfl ⟨rfl, ⟨rfl, trivial⟩⟩ _ rfl ⟨_, rfl, rfl⟩
            · rw [if_neg c145] at H10
              refine ent_cond_false rfl (decide_eq_false c145) ?_
              refine ent_skip ?_
              refine ent_seq ?_
              refine ent_region ?_
              refine ent_value (ov_move rfl) rfl rfl rfl ?_
              refine ent_value (ov_fieldAddr (sz := 3) (o := 0) rfl F_field_47_1 F_size_42) rfl rfl rfl ?_
              refine ent_value (ov_fieldAddr (sz := 0) (o := 5) rfl F_field_42_1 F_size_2) rfl rfl rfl ?_
              refine ent_value (ov_load (v := (Value.int .i64 (((l0.getD i12.toNat z_Api_Row).Cell).Sum))) rfl F_agg_2 (reads_box1 (i := 0) rfl rfl)) rfl rfl rfl ?_
              refine ent_value (ov_convert rfl (c_int Try.underlying2 Try.underlying116)) rfl rfl rfl ?_
              refine ent_value (ov_bin rfl rfl (b_add _ _ _) ) rfl rfl rfl ?_
              refine ent_value (ov_assign rfl) rfl rfl rfl ?_
              refine ent_nil ?_
              refine ent_seq ?_
              refine ent_region ?_
              refine ent_value (ov_move rfl) rfl rfl rfl ?_
              refine ent_value (ov_bin rfl rfl (b_gtr _ _ _)) rfl rfl rfl ?_
              refine ent_nil ?_
              by_cases c146 : 4611686018427387904 < (wu64 (i11 + (wu64 (((l0.getD i12.toNat z_Api_Row).Cell).Sum))))
              · rw [if_pos c146] at H10
                refine ent_cond_true rfl (decide_eq_true c146) ?_
                refine ent_seq ?_
                refine ent_region ?_
                refine ent_value (ov_assign rfl) rfl rfl rfl ?_
                refine ent_value (ov_assign rfl) rfl rfl rfl ?_
                refine ent_nil ?_
                refine ent_retc ?_
                cases H10
                have H12 := Option.some.inj (show some _ = some _ from H)
                cases H12
                refine ent_ownnil 2 1 ?_
                refine ent_pick [2, 0] (by decide) rfl ?_
                exact ret_mem (vs := [(Value.slice none 0 0), (Value.bool false)]) rfl ⟨rfl, ⟨rfl, trivial⟩⟩ _ rfl ⟨_, rfl, rfl⟩
              · rw [if_neg c146] at H10
                refine ent_cond_false rfl (decide_eq_false c146) ?_
                refine ent_skip ?_
                refine ent_region ?_
                refine ent_value (ov_bin rfl rfl (b_add _ _ _) ) rfl rfl rfl ?_
                refine ent_value (ov_move rfl) rfl rfl rfl ?_
                refine ent_nil ?_
                exact ent_fin [1] (by decide) rfl (sub_cons (t := 0) rfl (sub_cons (t := 2) rfl (sub_cons (t := 4) rfl (sub_cons (t := 13) rfl (sub_cons (t := 14) rfl (sub_cons (t := 15) rfl (sub_nil _))))))) fun a w h => ⟨k, Nat.lt_succ_self k, _, _, H10, h⟩
          · rw [if_neg c143] at H10
            cases H10
        · rw [if_neg c138] at H10
          refine ent_cond_false rfl (decide_eq_false c138) ?_
          refine ent_exit ?_
          cases H10
          exact ent_fin [0] (by decide) rfl (sub_cons (t := 0) rfl (sub_cons (t := 2) rfl (sub_cons (t := 4) rfl (sub_nil _)))) fun a w h => ⟨_, rfl, h⟩
  · refine ent_exi fun v2 => ent_and fun e_ => ?_
    subst e_
    rw [cas_inl] at H
    refine ent_seq ?_
    refine ent_seq ?_
    refine ent_region ?_
    refine ent_value (ov_move rfl) rfl rfl rfl ?_
    refine ent_value (ov_bin rfl rfl (b_eql _ _ _)) rfl rfl rfl ?_
    refine ent_nil ?_
    by_cases c148 : v2 = 0
    · rw [if_pos c148] at H
      refine ent_cond_true rfl (eq_t c148) ?_
      refine ent_seq ?_
      refine ent_region ?_
      refine ent_value (ov_assign rfl) rfl rfl rfl ?_
      refine ent_value (ov_assign rfl) rfl rfl rfl ?_
      refine ent_nil ?_
      refine ent_retc ?_
      cases H
      refine ent_ownnil 2 1 ?_
      refine ent_pick [1, 0] (by decide) rfl ?_
      exact ret_mem (vs := [(Value.slice none 0 0), (Value.bool false)]) rfl ⟨rfl, ⟨rfl, trivial⟩⟩ _ rfl ⟨_, rfl, rfl⟩
    · rw [if_neg c148] at H
      refine ent_cond_false rfl (eq_f c148) ?_
      refine ent_skip ?_
      refine ent_seq ?_
      refine ent_seq ?_
      refine ent_region ?_
      refine ent_value (ov_move rfl) rfl rfl rfl ?_
      refine ent_value (ov_len 0 rfl F_slice_22 rfl hA0) rfl rfl rfl ?_
      refine ent_value (ov_move rfl) rfl rfl rfl ?_
      refine ent_nil ?_
      refine ent_block ?_
      refine ent_loop (fun k a w => ∃ i14, ∃ l5, ∃ sv45 : Value, stat_Shares_l1 K l0 v2 k i14 l5 = some r ∧ St 62 w0 F [(2, sv45), (4, (Value.int .u64 v2)), (34, sv0), (35, (Value.int .i64 (l0.length : Int))), (36, (Value.int .i64 i14))] [A0, (own sv45 2 1 l5.length (fl (eI .i64) l5))] a w) K ?_ ?_
      · refine ent_ownnil 2 1 ?_
        exact ent_fin [1, 0] (by decide) rfl (sub_cons (t := 2) rfl (sub_cons (t := 4) rfl (sub_cons (t := 34) rfl (sub_cons (t := 35) rfl (sub_cons (t := 36) rfl (sub_nil _)))))) fun a w h => ⟨_, _, _, H, h⟩
      · refine fun k => ent_exi fun i14 => ent_exi fun l5 => ent_exi fun sv45 => ent_and fun H14 => ?_
        cases k with
        | zero => exact absurd H14 (by simp [stat_Shares_l1])
        | succ k =>
          rw [stat_Shares_l1] at H14
          refine ent_seq ?_
          refine ent_region ?_
          refine ent_value (ov_bin rfl rfl (b_lss _ _ _)) rfl rfl rfl ?_
          refine ent_nil ?_
          refine ent_seq ?_
          by_cases c176 : i14 < (l0.length : Int)
          · rw [if_pos c176] at H14
            refine ent_cond_true rfl (decide_eq_true c176) ?_
            refine ent_skip ?_
            refine ent_seq ?_
            refine ent_block ?_
            refine ent_seq ?_
            refine ent_region ?_
            by_cases c179 : 0 ≤ i14
            · rw [if_pos c179] at H14
              refine ent_value (ov_indexAddr (sz := 8) 0 rfl rfl F_slice_22 F_size_47 rfl hA0 c179 c176) rfl rfl rfl ?_
              refine ent_value (ov_load_agg (vs := [(Value.int .i64 (((l0.getD i14.toNat z_Api_Row).Key).Hour)), (str (((l0.getD i14.toNat z_Api_Row).Key).Dims_0)), (str (((l0.getD i14.toNat z_Api_Row).Key).Dims_1)), (str (((l0.getD i14.toNat z_Api_Row).Key).Dims_2)), (str (((l0.getD i14.toNat z_Api_Row).Key).Dims_3)), (Value.int .i64 (((l0.getD i14.toNat z_Api_Row).Cell).Count)), (Value.int .i64 (((l0.getD i14.toNat z_Api_Row).Cell).Sum)), (Value.int .i64 (((l0.getD i14.toNat z_Api_Row).Cell).Min)), (Value.int .i64 (((l0.getD i14.toNat z_Api_Row).Cell).Max))]) rfl F_agg_47 F_size_47 (reads_rd (i := 0) rfl hA0 (by simp) (fl_read0 enc_Api_Row_len (ix_lt c179 c176) rfl))) rfl rfl rfl ?_
              refine ent_op (ot_alloc F_zero_47) rfl rfl rfl ?_
              rintro _ _ ⟨b48, rfl, rfl⟩
              refine ent_op0 (ot_storeG (cs := [(Value.int .i64 0), (str ([] : List UInt8)), (str ([] : List UInt8)), (str ([] : List UInt8)), (str ([] : List UInt8)), (Value.int .i64 0), (Value.int .i64 0), (Value.int .i64 0), (Value.int .i64 0)]) (cs' := [(Value.int .i64 (((l0.getD i14.toNat z_Api_Row).Key).Hour)), (str (((l0.getD i14.toNat z_Api_Row).Key).Dims_0)), (str (((l0.getD i14.toNat z_Api_Row).Key).Dims_1)), (str (((l0.getD i14.toNat z_Api_Row).Key).Dims_2)), (str (((l0.getD i14.toNat z_Api_Row).Key).Dims_3)), (Value.int .i64 (((l0.getD i14.toNat z_Api_Row).Cell).Count)), (Value.int .i64 (((l0.getD i14.toNat z_Api_Row).Cell).Sum)), (Value.int .i64 (((l0.getD i14.toNat z_Api_Row).Cell).Min)), (Value.int .i64 (((l0.getD i14.toNat z_Api_Row).Cell).Max))]) (us := [(Value.int .i64 (((l0.getD i14.toNat z_Api_Row).Key).Hour)), (str (((l0.getD i14.toNat z_Api_Row).Key).Dims_0)), (str (((l0.getD i14.toNat z_Api_Row).Key).Dims_1)), (str (((l0.getD i14.toNat z_Api_Row).Key).Dims_2)), (str (((l0.getD i14.toNat z_Api_Row).Key).Dims_3)), (Value.int .i64 (((l0.getD i14.toNat z_Api_Row).Cell).Count)), (Value.int .i64 (((l0.getD i14.toNat z_Api_Row).Cell).Sum)), (Value.int .i64 (((l0.getD i14.toNat z_Api_Row).Cell).Min)), (Value.int .i64 (((l0.getD i14.toNat z_Api_Row).Cell).Max))]) (L' := [(box b48 47 [(Value.int .i64 (((l0.getD i14.toNat z_Api_Row).Key).Hour)), (str (((l0.getD i14.toNat z_Api_Row).Key).Dims_0)), (str (((l0.getD i14.toNat z_Api_Row).Key).Dims_1)), (str (((l0.getD i14.toNat z_Api_Row).Key).Dims_2)), (str (((l0.getD i14.toNat z_Api_Row).Key).Dims_3)), (Value.int .i64 (((l0.getD i14.toNat z_Api_Row).Cell).Count)), (Value.int .i64 (((l0.getD i14.toNat z_Api_Row).Cell).Sum)), (Value.int .i64 (((l0.getD i14.toNat z_Api_Row).Cell).Min)), (Value.int .i64 (((l0.getD i14.toNat z_Api_Row).Cell).Max))]), A0, (own sv45 2 1 l5.length (fl (eI .i64) l5))]) 0 rfl rfl rfl (one_all rfl) F_size_47 rfl rfl (by simp) rfl) rfl rfl ?_
              rintro _ _ rfl
              refine ent_nil ?_
              refine ent_seq ?_
              refine ent_region ?_
              refine ent_value (ov_fieldAddr (sz := 3) (o := 0) rfl F_field_47_1 F_size_42) rfl rfl rfl ?_
              refine ent_value (ov_fieldAddr (sz := 0) (o := 5) rfl F_field_42_1 F_size_2) rfl rfl rfl ?_
              refine ent_value (ov_load (v := (Value.int .i64 (((l0.getD i14.toNat z_Api_Row).Cell).Sum))) rfl F_agg_2 (reads_box1 (i := 0) rfl rfl)) rfl rfl rfl ?_
              refine ent_value (ov_convert rfl (c_int Try.underlying2 Try.underlying116)) rfl rfl rfl ?_
              obtain ⟨x49, h47, H14⟩ := thn_elim H14
              refine ent_op (ot_call0 (first := []) (cap := []) (xs := [.tmp 44, .const (Value.int .u64 10000)]) rfl rfl F_call_65 rfl (bits_Mul64.spec (wu64 (((l0.getD i14.toNat z_Api_Row).Cell).Sum)) 10000 _ h47)) rfl rfl rfl ?_
              rintro _ _ ⟨rfl, rfl⟩
              refine ent_value (ov_move rfl) rfl rfl rfl ?_
              refine ent_value (ov_extract rfl rfl) rfl rfl rfl ?_
              refine ent_value (ov_extract rfl rfl) rfl rfl rfl ?_
              refine ent_value (ov_assign rfl) rfl rfl rfl ?_
              refine ent_value (ov_assign rfl) rfl rfl rfl ?_
              refine ent_nil ?_
              refine ent_seq ?_
              refine ent_region ?_
              refine ent_value (ov_move rfl) rfl rfl rfl ?_
              refine ent_value (ov_move rfl) rfl rfl rfl ?_
              refine ent_value (ov_move rfl) rfl rfl rfl ?_
              obtain ⟨x50, h48, H14⟩ := Option.bind_eq_some_iff.1 H14
              refine ent_op (ot_call0 (first := []) (cap := []) (xs := [.tmp 49, .tmp 50, .tmp 51]) rfl rfl F_call_66 rfl (bits_Div64.spec K x49.1 x49.2 v2 _ h48)) rfl rfl rfl ?_
              rintro _ _ ⟨rfl, rfl⟩
              refine ent_value (ov_move rfl) rfl rfl rfl ?_
              refine ent_value (ov_extract rfl rfl) rfl rfl rfl ?_
              refine ent_value (ov_extract rfl rfl) rfl rfl rfl ?_
              refine ent_value (ov_assign rfl) rfl rfl rfl ?_
              refine ent_value (ov_assign rfl) rfl rfl rfl ?_
              refine ent_nil ?_
              refine ent_region ?_
              refine ent_value (ov_move rfl) rfl rfl rfl ?_
              refine ent_value (ov_move rfl) rfl rfl rfl ?_
              refine ent_value (ov_convert rfl (c_int Try.underlying116 Try.underlying2)) rfl rfl rfl ?_
              refine ent_op (ot_buildSlice (sz := 0) (xs := [.tmp 57]) (cs := fl (eI .i64) [w64 x50.1]) rfl rfl F_slice_25 F_size_2 F_zero_2 rfl rfl (all_size rfl) rfl (by decide)) rfl rfl rfl ?_
              rintro sv52 _ rfl
              by_cases c180 : (l5.length + [w64 x50.1].length) * 8 ≤ 140737488355328
              · rw [if_pos c180] at H14
                refine ent_op (ot_appendx (sz := 0) (xs := l5) (ys := [w64 x50.1]) 3 0 rfl rfl F_slice_25 F_size_2 F_zero_2 rfl F_bytes_2 rfl rfl rfl (isRd_ownx 2) rfl (eI_one _) c180) rfl rfl rfl ?_
                rintro sv53 _ rfl
                refine ent_L [(own sv52 2 1 [w64 x50.1].length (fl (eI .i64) [w64 x50.1])), (box b48 47 [(Value.int .i64 (((l0.getD i14.toNat z_Api_Row).Key).Hour)), (str (((l0.getD i14.toNat z_Api_Row).Key).Dims_0)), (str (((l0.getD i14.toNat z_Api_Row).Key).Dims_1)), (str (((l0.getD i14.toNat z_Api_Row).Key).Dims_2)), (str (((l0.getD i14.toNat z_Api_Row).Key).Dims_3)), (Value.int .i64 (((l0.getD i14.toNat z_Api_Row).Cell).Count)), (Value.int .i64 (((l0.getD i14.toNat z_Api_Row).Cell).Sum)), (Value.int .i64 (((l0.getD i14.toNat z_Api_Row).Cell).Min)), (Value.int .i64 (((l0.getD i14.toNat z_Api_Row).Cell).Max))]), A0, (own sv53 2 1 (l5 ++ [w64 x50.1]).length (fl (eI .i64) (l5 ++ [w64 x50.1])))] rfl ?_
                refine ent_value (ov_assign rfl) rfl rfl rfl ?_
                refine ent_nil ?_
                refine ent_region ?_
                refine ent_value (ov_bin rfl rfl (b_add _ _ _) ) rfl rfl rfl ?_
                refine ent_value (ov_move rfl) rfl rfl rfl ?_
                refine ent_nil ?_
                exact ent_fin [2, 3] (by decide) rfl (sub_cons (t := 2) rfl (sub_cons (t := 4) rfl (sub_cons (t := 34) rfl (sub_cons (t := 35) rfl (sub_cons (t := 36) rfl (sub_nil _)))))) fun a w h => ⟨k, Nat.lt_succ_self k, _, _, _, H14, h⟩
              · rw [if_neg c180] at H14
                cases H14
            · rw [if_neg c179] at H14
              cases H14
          · rw [if_neg c176] at H14
            refine ent_cond_false rfl (decide_eq_false c176) ?_
            refine ent_exit ?_
            refine ent_seq ?_
            refine ent_region ?_
            refine ent_value (ov_move rfl) rfl rfl rfl ?_
            refine ent_value (ov_assign rfl) rfl rfl rfl ?_
            refine ent_value (ov_assign rfl) rfl rfl rfl ?_
            refine ent_nil ?_
            refine ent_retc ?_
            cases H14
            exact ret_mem (vs := [sv45, (Value.bool true)]) rfl ⟨rfl, ⟨rfl, trivial⟩⟩ _ rfl ⟨_, rfl, rfl⟩

set_option maxRecDepth 100000 in
theorem ossuarylaw35_alive.spec (K : Nat) (r : Bool) (H : ossuarylaw35_alive K = some r) : FnSpec Try.prog 12 [] [] (fun v M => v = (Value.bool r) ∧ M = []) := by
  unfold ossuarylaw35_alive at H
  refine spec_of Try.func12 rfl 30 rfl (Nat.le_of_ble_eq_true rfl) fun F w0 => ?_
  show Ent (St 30 w0 F [] []) _
  refine ent_seq ?_
  refine ent_region ?_
  refine ent_value (ov_assign rfl) rfl rfl rfl ?_
  refine ent_nil ?_
  refine ent_seq ?_
  refine ent_region ?_
  refine ent_value (ov_build (is := [1]) (xs := [.const (Value.int .i64 1)]) (vs := [(Value.int .i64 1)]) rfl rfl (build_struct (cs := [(Value.int .i64 0), (Value.int .i64 1), (Value.int .i64 0), (Value.int .i64 0)]) F_zero_42 F_places_42 rfl)) rfl rfl rfl ?_
  refine ent_value (ov_build (is := [1]) (xs := [.tmp 4]) (vs := [(Value.agg #[(Value.int .i64 0), (Value.int .i64 1), (Value.int .i64 0), (Value.int .i64 0)])]) rfl rfl (build_struct (cs := [(Value.int .i64 0), (str ([] : List UInt8)), (str ([] : List UInt8)), (str ([] : List UInt8)), (str ([] : List UInt8)), (Value.int .i64 0), (Value.int .i64 1), (Value.int .i64 0), (Value.int .i64 0)]) F_zero_47 F_places_47 rfl)) rfl rfl rfl ?_
  refine ent_value (ov_build (is := [1]) (xs := [.const (Value.int .i64 3)]) (vs := [(Value.int .i64 3)]) rfl rfl (build_struct (cs := [(Value.int .i64 0), (Value.int .i64 3), (Value.int .i64 0), (Value.int .i64 0)]) F_zero_42 F_places_42 rfl)) rfl rfl rfl ?_
  refine ent_value (ov_build (is := [1]) (xs := [.tmp 6]) (vs := [(Value.agg #[(Value.int .i64 0), (Value.int .i64 3), (Value.int .i64 0), (Value.int .i64 0)])]) rfl rfl (build_struct (cs := [(Value.int .i64 0), (str ([] : List UInt8)), (str ([] : List UInt8)), (str ([] : List UInt8)), (str ([] : List UInt8)), (Value.int .i64 0), (Value.int .i64 3), (Value.int .i64 0), (Value.int .i64 0)]) F_zero_47 F_places_47 rfl)) rfl rfl rfl ?_
  refine ent_op (ot_buildSlice (sz := 8) (xs := [.tmp 5, .tmp 7]) (cs := fl enc_Api_Row [(⟨(⟨0, ([] : List UInt8), ([] : List UInt8), ([] : List UInt8), ([] : List UInt8)⟩ : Api_Key), (⟨0, 1, 0, 0⟩ : Api_Cell)⟩ : Api_Row), (⟨(⟨0, ([] : List UInt8), ([] : List UInt8), ([] : List UInt8), ([] : List UInt8)⟩ : Api_Key), (⟨0, 3, 0, 0⟩ : Api_Cell)⟩ : Api_Row)]) rfl rfl F_slice_22 F_size_47 F_zero_47 rfl rfl (all_size rfl) rfl (by decide)) rfl rfl rfl ?_
  rintro sv3 _ rfl
  obtain ⟨x2, h2, H⟩ := Option.bind_eq_some_iff.1 H
  refine ent_op (ot_call (Lr := []) (first := []) (cap := []) (xs := [.tmp 8]) rfl rfl F_call_13 rfl (stat_Shares.spec K sv3 (own sv3 47 9 [(⟨(⟨0, ([] : List UInt8), ([] : List UInt8), ([] : List UInt8), ([] : List UInt8)⟩ : Api_Key), (⟨0, 1, 0, 0⟩ : Api_Cell)⟩ : Api_Row), (⟨(⟨0, ([] : List UInt8), ([] : List UInt8), ([] : List UInt8), ([] : List UInt8)⟩ : Api_Key), (⟨0, 3, 0, 0⟩ : Api_Cell)⟩ : Api_Row)].length (fl enc_Api_Row [(⟨(⟨0, ([] : List UInt8), ([] : List UInt8), ([] : List UInt8), ([] : List UInt8)⟩ : Api_Key), (⟨0, 1, 0, 0⟩ : Api_Cell)⟩ : Api_Row), (⟨(⟨0, ([] : List UInt8), ([] : List UInt8), ([] : List UInt8), ([] : List UInt8)⟩ : Api_Key), (⟨0, 3, 0, 0⟩ : Api_Cell)⟩ : Api_Row)])) [(⟨(⟨0, ([] : List UInt8), ([] : List UInt8), ([] : List UInt8), ([] : List UInt8)⟩ : Api_Key), (⟨0, 1, 0, 0⟩ : Api_Cell)⟩ : Api_Row), (⟨(⟨0, ([] : List UInt8), ([] : List UInt8), ([] : List UInt8), ([] : List UInt8)⟩ : Api_Key), (⟨0, 3, 0, 0⟩ : Api_Cell)⟩ : Api_Row)] (isRd_ownx 47) _ h2) rfl) rfl rfl rfl ?_
  rintro _ _ ⟨_, ⟨sv4, rfl, rfl⟩, rfl⟩
  refine ent_value (ov_move rfl) rfl rfl rfl ?_
  refine ent_value (ov_extract rfl rfl) rfl rfl rfl ?_
  refine ent_value (ov_extract rfl rfl) rfl rfl rfl ?_
  refine ent_value (ov_assign rfl) rfl rfl rfl ?_
  refine ent_value (ov_assign rfl) rfl rfl rfl ?_
  refine ent_nil ?_
  refine ent_seq ?_
  refine ent_region ?_
  refine ent_value (ov_move rfl) rfl rfl rfl ?_
  refine ent_value (ov_move rfl) rfl rfl rfl ?_
  by_cases c6 : x2.1 = true
  · rw [if_pos c6] at H
    refine ent_value_on (ov_move rfl) rfl rfl rfl c6 rfl rfl ?_
    refine ent_value_on (ov_len 1 rfl F_slice_25 rfl (isRd_ownx 2)) rfl rfl rfl c6 rfl rfl ?_
    refine ent_value_on (ov_bin rfl rfl (b_eql _ _ _)) rfl rfl rfl c6 rfl rfl ?_
    refine ent_value (ov_pick rfl rfl rfl (pick_t c6)) rfl rfl rfl ?_
    refine ent_value (ov_move rfl) rfl rfl rfl ?_
    by_cases c7 : (x2.2.length : Int) = 2
    · rw [if_pos c7] at H
      refine ent_value_on (ov_move rfl) rfl rfl rfl (eq_t c7) rfl rfl ?_
      by_cases c8 : 0 < (x2.2.length : Int)
      · rw [if_pos c8] at H
        refine ent_value_on (ov_indexAddr (sz := 0) 1 rfl rfl F_slice_25 F_size_2 rfl (isRd_ownx 2) (by decide) c8) rfl rfl rfl (eq_t c7) rfl rfl ?_
        refine ent_value_on (ov_load (v := (Value.int .i64 (x2.2.getD ((0 : Int).toNat) 0))) rfl F_agg_2 (reads_rd (i := 1) rfl (isRd_ownx 2) (by simp) (fl_read0 (eI_len _) (ix_lt (by decide) c8) rfl))) rfl rfl rfl (eq_t c7) rfl rfl ?_
        refine ent_value_on (ov_bin rfl rfl (b_eql _ _ _)) rfl rfl rfl (eq_t c7) rfl rfl ?_
        refine ent_value (ov_pick rfl rfl rfl (pick_t (eq_t c7))) rfl rfl rfl ?_
        refine ent_value (ov_move rfl) rfl rfl rfl ?_
        by_cases c9 : (x2.2.getD ((0 : Int).toNat) 0) = 2500
        · rw [if_pos c9] at H
          refine ent_value_on (ov_move rfl) rfl rfl rfl (eq_t c9) rfl rfl ?_
          by_cases c10 : 1 < (x2.2.length : Int)
          · rw [if_pos c10] at H
            refine ent_value_on (ov_indexAddr (sz := 0) 1 rfl rfl F_slice_25 F_size_2 rfl (isRd_ownx 2) (by decide) c10) rfl rfl rfl (eq_t c9) rfl rfl ?_
            refine ent_value_on (ov_load (v := (Value.int .i64 (x2.2.getD ((1 : Int).toNat) 0))) rfl F_agg_2 (reads_rd (i := 1) rfl (isRd_ownx 2) (by simp) (fl_read0 (eI_len _) (ix_lt (by decide) c10) rfl))) rfl rfl rfl (eq_t c9) rfl rfl ?_
            refine ent_value_on (ov_bin rfl rfl (b_eql _ _ _)) rfl rfl rfl (eq_t c9) rfl rfl ?_
            refine ent_value (ov_pick rfl rfl rfl (pick_t (eq_t c9))) rfl rfl rfl ?_
            refine ent_value (ov_assign rfl) rfl rfl rfl ?_
            refine ent_nil ?_
            refine ent_retc ?_
            cases H
            refine ent_pick [] (by decide) rfl ?_
            exact ret_tmp rfl rfl ⟨rfl, rfl⟩
          · rw [if_neg c10] at H
            cases H
        · rw [if_neg c9] at H
          refine ent_off rfl rfl rfl (eq_f c9) rfl rfl ?_
          refine ent_off rfl rfl rfl (eq_f c9) rfl rfl ?_
          refine ent_off rfl rfl rfl (eq_f c9) rfl rfl ?_
          refine ent_off rfl rfl rfl (eq_f c9) rfl rfl ?_
          refine ent_value (ov_pick rfl rfl rfl (pick_f (eq_f c9))) rfl rfl rfl ?_
          refine ent_value (ov_assign rfl) rfl rfl rfl ?_
          refine ent_nil ?_
          refine ent_retc ?_
          cases H
          refine ent_pick [] (by decide) rfl ?_
          exact ret_tmp rfl rfl ⟨rfl, rfl⟩
      · rw [if_neg c8] at H
        cases H
    · rw [if_neg c7] at H
      refine ent_off rfl rfl rfl (eq_f c7) rfl rfl ?_
      refine ent_off rfl rfl rfl (eq_f c7) rfl rfl ?_
      refine ent_off rfl rfl rfl (eq_f c7) rfl rfl ?_
      refine ent_off rfl rfl rfl (eq_f c7) rfl rfl ?_
      refine ent_value (ov_pick rfl rfl rfl (pick_f (eq_f c7))) rfl rfl rfl ?_
      refine ent_value (ov_move rfl) rfl rfl rfl ?_
      refine ent_off rfl rfl rfl rfl rfl rfl ?_
      refine ent_off rfl rfl rfl rfl rfl rfl ?_
      refine ent_off rfl rfl rfl rfl rfl rfl ?_
      refine ent_off rfl rfl rfl rfl rfl rfl ?_
      refine ent_value (ov_pick rfl rfl rfl rfl) rfl rfl rfl ?_
      refine ent_value (ov_assign rfl) rfl rfl rfl ?_
      refine ent_nil ?_
      refine ent_retc ?_
      cases H
      refine ent_pick [] (by decide) rfl ?_
      exact ret_tmp rfl rfl ⟨rfl, rfl⟩
  · rw [if_neg c6] at H
    refine ent_off rfl rfl rfl (Bool.eq_false_iff.2 c6) rfl rfl ?_
    refine ent_off rfl rfl rfl (Bool.eq_false_iff.2 c6) rfl rfl ?_
    refine ent_off rfl rfl rfl (Bool.eq_false_iff.2 c6) rfl rfl ?_
    refine ent_value (ov_pick rfl rfl rfl (pick_f (Bool.eq_false_iff.2 c6))) rfl rfl rfl ?_
    refine ent_value (ov_move rfl) rfl rfl rfl ?_
    refine ent_off rfl rfl rfl rfl rfl rfl ?_
    refine ent_off rfl rfl rfl rfl rfl rfl ?_
    refine ent_off rfl rfl rfl rfl rfl rfl ?_
    refine ent_off rfl rfl rfl rfl rfl rfl ?_
    refine ent_value (ov_pick rfl rfl rfl rfl) rfl rfl rfl ?_
    refine ent_value (ov_move rfl) rfl rfl rfl ?_
    refine ent_off rfl rfl rfl rfl rfl rfl ?_
    refine ent_off rfl rfl rfl rfl rfl rfl ?_
    refine ent_off rfl rfl rfl rfl rfl rfl ?_
    refine ent_off rfl rfl rfl rfl rfl rfl ?_
    refine ent_value (ov_pick rfl rfl rfl rfl) rfl rfl rfl ?_
    refine ent_value (ov_assign rfl) rfl rfl rfl ?_
    refine ent_nil ?_
    refine ent_retc ?_
    cases H
    refine ent_pick [] (by decide) rfl ?_
    exact ret_tmp rfl rfl ⟨rfl, rfl⟩

set_option maxRecDepth 100000 in
theorem ossuaryref35_share.spec (K : Nat) (a0 : Int) (a1 : Int) (r : Int) (H : ossuaryref35_share K a0 a1 = some r) : FnSpec Try.prog 67 [(Value.int .i64 a0), (Value.int .i64 a1)] [] (fun v M => v = (Value.int .i64 r) ∧ M = []) := by
  unfold ossuaryref35_share at H
  refine spec_of Try.func67 rfl 39 rfl (Nat.le_of_ble_eq_true rfl) fun F w0 => ?_
  show Ent (St 39 w0 F [(0, (Value.int .i64 a0)), (1, (Value.int .i64 a1))] []) _
  refine ent_seq ?_
  refine ent_region ?_
  refine ent_value (ov_assign rfl) rfl rfl rfl ?_
  refine ent_nil ?_
  refine ent_seq ?_
  refine ent_region ?_
  refine ent_value (ov_assign rfl) rfl rfl rfl ?_
  refine ent_nil ?_
  refine ent_seq ?_
  refine ent_seq ?_
  refine ent_region ?_
  refine ent_value (ov_assign rfl) rfl rfl rfl ?_
  refine ent_nil ?_
  refine ent_block ?_
  refine ent_loop (fun k a w => ∃ i190, ∃ i191, ∃ i192, ossuaryref35_share_l0 K a1 k i190 i191 i192 = some r ∧ St 39 w0 F [(0, (Value.int .i64 i190)), (1, (Value.int .i64 a1)), (5, (Value.int .i64 i191)), (6, (Value.int .i64 i192))] [] a w) K ?_ ?_
  · exact ent_fin [] (by decide) rfl (sub_cons (t := 0) rfl (sub_cons (t := 1) rfl (sub_cons (t := 5) rfl (sub_cons (t := 6) rfl (sub_nil _))))) fun a w h => ⟨_, _, _, H, h⟩
  · refine fun k => ent_exi fun i190 => ent_exi fun i191 => ent_exi fun i192 => ent_and fun H81 => ?_
    cases k with
    | zero => exact absurd H81 (by simp [ossuaryref35_share_l0])
    | succ k =>
      rw [ossuaryref35_share_l0] at H81
      refine ent_seq ?_
      refine ent_seq ?_
      refine ent_region ?_
      refine ent_value (ov_move rfl) rfl rfl rfl ?_
      refine ent_value (ov_bin rfl rfl (b_lss _ _ _)) rfl rfl rfl ?_
      refine ent_nil ?_
      by_cases c456 : i192 < 4
      · rw [if_pos c456] at H81
        refine ent_cond_true rfl (decide_eq_true c456) ?_
        refine ent_skip ?_
        obtain ⟨x35, H85, H81⟩ := Option.bind_eq_some_iff.1 H81
        refine ent_seq_cut (fun a w => St 39 w0 F [(0, (Value.int .i64 x35.1)), (1, (Value.int .i64 a1)), (5, (Value.int .i64 x35.2)), (6, (Value.int .i64 i192))] [] a w) ?_ ?_
        · refine ent_block ?_
          refine ent_seq ?_
          refine ent_region ?_
          refine ent_value (ov_assign rfl) rfl rfl rfl ?_
          refine ent_nil ?_
          refine ent_seq ?_
          refine ent_region ?_
          refine ent_value (ov_assign rfl) rfl rfl rfl ?_
          refine ent_nil ?_
          obtain ⟨x36, H87, H85⟩ := Option.bind_eq_some_iff.1 H85
          refine ent_seq_cut (fun a w => St 39 w0 F [(1, (Value.int .i64 a1)), (5, (Value.int .i64 i191)), (6, (Value.int .i64 i192)), (7, (Value.int .i64 x36.1)), (8, (Value.int .i64 x36.2))] [] a w) ?_ ?_
          · refine ent_seq ?_
            refine ent_region ?_
            refine ent_value (ov_assign rfl) rfl rfl rfl ?_
            refine ent_nil ?_
            refine ent_block ?_
            refine ent_loop (fun k a w => ∃ i226, ∃ i227, ∃ i228, ossuaryref35_share_l1 K a1 i190 k i226 i227 i228 = some x36 ∧ St 39 w0 F [(0, (Value.int .i64 i190)), (1, (Value.int .i64 a1)), (5, (Value.int .i64 i191)), (6, (Value.int .i64 i192)), (7, (Value.int .i64 i226)), (8, (Value.int .i64 i227)), (9, (Value.int .i64 i228))] [] a w) K ?_ ?_
            · exact ent_fin [] (by decide) rfl (sub_cons (t := 0) rfl (sub_cons (t := 1) rfl (sub_cons (t := 5) rfl (sub_cons (t := 6) rfl (sub_cons (t := 7) rfl (sub_cons (t := 8) rfl (sub_cons (t := 9) rfl (sub_nil _)))))))) fun a w h => ⟨_, _, _, H87, h⟩
            · refine fun k => ent_exi fun i226 => ent_exi fun i227 => ent_exi fun i228 => ent_and fun H88 => ?_
              cases k with
              | zero => exact absurd H88 (by simp [ossuaryref35_share_l1])
              | succ k =>
                rw [ossuaryref35_share_l1] at H88
                refine ent_seq ?_
                refine ent_seq ?_
                refine ent_region ?_
                refine ent_value (ov_move rfl) rfl rfl rfl ?_
                refine ent_value (ov_bin rfl rfl (b_lss _ _ _)) rfl rfl rfl ?_
                refine ent_nil ?_
                by_cases c494 : i228 < 10
                · rw [if_pos c494] at H88
                  refine ent_cond_true rfl (decide_eq_true c494) ?_
                  refine ent_skip ?_
                  refine ent_seq ?_
                  refine ent_block ?_
                  refine ent_seq ?_
                  refine ent_region ?_
                  refine ent_value (ov_move rfl) rfl rfl rfl ?_
                  refine ent_value (ov_move rfl) rfl rfl rfl ?_
                  refine ent_value (ov_move rfl) rfl rfl rfl ?_
                  refine ent_value (ov_bin rfl rfl (b_sub _ _ _) ) rfl rfl rfl ?_
                  refine ent_value (ov_bin rfl rfl (b_geq _ _ _)) rfl rfl rfl ?_
                  refine ent_nil ?_
                  by_cases c496 : (w64 (a1 - i190)) ≤ i227
                  · rw [if_pos c496] at H88
                    refine ent_cond_true rfl (decide_eq_true c496) ?_
                    refine ent_seq ?_
                    refine ent_region ?_
                    refine ent_value (ov_move rfl) rfl rfl rfl ?_
                    refine ent_value (ov_move rfl) rfl rfl rfl ?_
                    refine ent_value (ov_move rfl) rfl rfl rfl ?_
                    refine ent_value (ov_bin rfl rfl (b_sub _ _ _) ) rfl rfl rfl ?_
                    refine ent_value (ov_bin rfl rfl (b_sub _ _ _) ) rfl rfl rfl ?_
                    refine ent_value (ov_assign rfl) rfl rfl rfl ?_
                    refine ent_nil ?_
                    refine ent_region ?_
                    refine ent_value (ov_move rfl) rfl rfl rfl ?_
                    refine ent_value (ov_bin rfl rfl (b_add _ _ _) ) rfl rfl rfl ?_
                    refine ent_value (ov_assign rfl) rfl rfl rfl ?_
                    refine ent_nil ?_
                    refine ent_region ?_
                    refine ent_value (ov_move rfl) rfl rfl rfl ?_
                    refine ent_value (ov_bin rfl rfl (b_add _ _ _) ) rfl rfl rfl ?_
                    refine ent_value (ov_assign rfl) rfl rfl rfl ?_
                    refine ent_nil ?_
                    exact ent_fin [] (by decide) rfl (sub_cons (t := 0) rfl (sub_cons (t := 1) rfl (sub_cons (t := 5) rfl (sub_cons (t := 6) rfl (sub_cons (t := 7) rfl (sub_cons (t := 8) rfl (sub_cons (t := 9) rfl (sub_nil _)))))))) fun a w h => ⟨k, Nat.lt_succ_self k, _, _, _, H88, h⟩
                  · rw [if_neg c496] at H88
                    refine ent_cond_false rfl (decide_eq_false c496) ?_
                    refine ent_region ?_
                    refine ent_value (ov_move rfl) rfl rfl rfl ?_
                    refine ent_value (ov_move rfl) rfl rfl rfl ?_
                    refine ent_value (ov_bin rfl rfl (b_add _ _ _) ) rfl rfl rfl ?_
                    refine ent_value (ov_assign rfl) rfl rfl rfl ?_
                    refine ent_nil ?_
                    refine ent_region ?_
                    refine ent_value (ov_move rfl) rfl rfl rfl ?_
                    refine ent_value (ov_bin rfl rfl (b_add _ _ _) ) rfl rfl rfl ?_
                    refine ent_value (ov_assign rfl) rfl rfl rfl ?_
                    refine ent_nil ?_
                    exact ent_fin [] (by decide) rfl (sub_cons (t := 0) rfl (sub_cons (t := 1) rfl (sub_cons (t := 5) rfl (sub_cons (t := 6) rfl (sub_cons (t := 7) rfl (sub_cons (t := 8) rfl (sub_cons (t := 9) rfl (sub_nil _)))))))) fun a w h => ⟨k, Nat.lt_succ_self k, _, _, _, H88, h⟩
                · rw [if_neg c494] at H88
                  refine ent_cond_false rfl (decide_eq_false c494) ?_
                  refine ent_exit ?_
                  cases H88
                  exact ent_fin [] (by decide) rfl (sub_cons (t := 1) rfl (sub_cons (t := 5) rfl (sub_cons (t := 6) rfl (sub_cons (t := 7) rfl (sub_cons (t := 8) rfl (sub_nil _)))))) fun a w h => h
          · refine ent_seq ?_
            refine ent_region ?_
            refine ent_value (ov_move rfl) rfl rfl rfl ?_
            refine ent_value (ov_bin rfl rfl (b_mul _ _ _) ) rfl rfl rfl ?_
            refine ent_value (ov_move rfl) rfl rfl rfl ?_
            refine ent_value (ov_bin rfl rfl (b_add _ _ _) ) rfl rfl rfl ?_
            refine ent_value (ov_assign rfl) rfl rfl rfl ?_
            refine ent_nil ?_
            refine ent_region ?_
            refine ent_value (ov_move rfl) rfl rfl rfl ?_
            refine ent_value (ov_assign rfl) rfl rfl rfl ?_
            refine ent_nil ?_
            cases H85
            exact ent_fin [] (by decide) rfl (sub_cons (t := 0) rfl (sub_cons (t := 1) rfl (sub_cons (t := 5) rfl (sub_cons (t := 6) rfl (sub_nil _))))) fun a w h => h
        · refine ent_region ?_
          refine ent_value (ov_move rfl) rfl rfl rfl ?_
          refine ent_value (ov_bin rfl rfl (b_add _ _ _) ) rfl rfl rfl ?_
          refine ent_value (ov_assign rfl) rfl rfl rfl ?_
          refine ent_nil ?_
          exact ent_fin [] (by decide) rfl (sub_cons (t := 0) rfl (sub_cons (t := 1) rfl (sub_cons (t := 5) rfl (sub_cons (t := 6) rfl (sub_nil _))))) fun a w h => ⟨k, Nat.lt_succ_self k, _, _, _, H81, h⟩
      · rw [if_neg c456] at H81
        refine ent_cond_false rfl (decide_eq_false c456) ?_
        refine ent_exit ?_
        refine ent_seq ?_
        refine ent_region ?_
        refine ent_value (ov_move rfl) rfl rfl rfl ?_
        refine ent_value (ov_assign rfl) rfl rfl rfl ?_
        refine ent_nil ?_
        refine ent_retc ?_
        cases H81
        exact ret_tmp rfl rfl ⟨rfl, rfl⟩

set_option maxRecDepth 100000 in
theorem ossuaryref35_Shares.spec (K : Nat) (sv0 : Value) (A0 : HP) (l0 : List Api_Row) (hA0 : IsRd A0 sv0 l0.length 9 (fl enc_Api_Row l0)) (r : (Bool × (List Int))) (H : ossuaryref35_Shares K l0 = some r) : FnSpec Try.prog 14 [sv0] [A0] (fun v M => ∃ sv51 : Value, v = (Value.tuple #[sv51, (Value.bool r.1)]) ∧ M = [A0, (own sv51 2 1 r.2.length (fl (eI .i64) r.2))]) := by
  unfold ossuaryref35_Shares at H
  refine spec_of Try.func14 rfl 63 rfl (Nat.le_of_ble_eq_true rfl) fun F w0 => ?_
  show Ent (St 63 w0 F [(0, sv0)] [A0]) _
  refine ent_seq ?_
  refine ent_region ?_
  refine ent_value (ov_assign rfl) rfl rfl rfl ?_
  refine ent_value (ov_assign rfl) rfl rfl rfl ?_
  refine ent_nil ?_
  refine ent_seq ?_
  refine ent_region ?_
  refine ent_value (ov_assign rfl) rfl rfl rfl ?_
  refine ent_nil ?_
  obtain ⟨x14, H9, H⟩ := Option.bind_eq_some_iff.1 H
  refine ent_seq_cut (fun a w => ∃ v2, x14 = Sum.inl v2 ∧ St 63 w0 F [(0, sv0), (4, (Value.int .i64 v2))] [A0] a w) ?_ ?_
  · refine ent_seq ?_
    refine ent_region ?_
    refine ent_value (ov_assign rfl) rfl rfl rfl ?_
    refine ent_nil ?_
    refine ent_block ?_
    refine ent_loop (fun k a w => ∃ i11, ∃ i12, ossuaryref35_Shares_l0 K l0 k i11 i12 = some x14 ∧ St 63 w0 F [(0, sv0), (4, (Value.int .i64 i11)), (5, (Value.int .i64 i12))] [A0] a w) K ?_ ?_
    · exact ent_fin [0] (by decide) rfl (sub_cons (t := 0) rfl (sub_cons (t := 4) rfl (sub_cons (t := 5) rfl (sub_nil _)))) fun a w h => ⟨_, _, H9, h⟩
    · refine fun k => ent_exi fun i11 => ent_exi fun i12 => ent_and fun H10 => ?_
      cases k with
      | zero => exact absurd H10 (by simp [ossuaryref35_Shares_l0])
      | succ k =>
        rw [ossuaryref35_Shares_l0] at H10
        refine ent_seq ?_
        refine ent_seq ?_
        refine ent_region ?_
        refine ent_value (ov_move rfl) rfl rfl rfl ?_
        refine ent_value (ov_move rfl) rfl rfl rfl ?_
        refine ent_value (ov_len 0 rfl F_slice_22 rfl hA0) rfl rfl rfl ?_
        refine ent_value (ov_bin rfl rfl (b_lss _ _ _)) rfl rfl rfl ?_
        refine ent_nil ?_
        by_cases c184 : i12 < (l0.length : Int)
        · rw [if_pos c184] at H10
          refine ent_cond_true rfl (decide_eq_true c184) ?_
          refine ent_skip ?_
          refine ent_seq ?_
          refine ent_block ?_
          refine ent_seq ?_
          refine ent_region ?_
          refine ent_value (ov_move rfl) rfl rfl rfl ?_
          refine ent_value (ov_move rfl) rfl rfl rfl ?_
          by_cases c190 : 0 ≤ i12
          · rw [if_pos c190] at H10
            refine ent_value (ov_indexAddr (sz := 8) 0 rfl rfl F_slice_22 F_size_47 rfl hA0 c190 c184) rfl rfl rfl ?_
            refine ent_value (ov_fieldAddrE (sz := 3) (k0 := i12.toNat * 9) (off := 5) 0 rfl F_field_47_1 F_size_42 rfl hA0 (fl_pos enc_Api_Row_len (ix_lt c190 c184))) rfl rfl rfl ?_
            refine ent_value (ov_fieldAddrE (sz := 0) (k0 := i12.toNat * 9 + 5) (off := 1) 0 rfl F_field_42_1 F_size_2 rfl hA0 (fl_pos enc_Api_Row_len (ix_lt c190 c184))) rfl rfl rfl ?_
            refine ent_value (ov_load (v := (Value.int .i64 (((l0.getD i12.toNat z_Api_Row).Cell).Sum))) rfl F_agg_2 (reads_rd (i := 0) rfl hA0 (by simp) (fl_read (off := 6) enc_Api_Row_len (ix_lt c190 c184) rfl))) rfl rfl rfl ?_
            refine ent_value (ov_assign rfl) rfl rfl rfl ?_
            refine ent_nil ?_
            refine ent_seq ?_
            refine ent_seq ?_
            refine ent_region ?_
            refine ent_value (ov_move rfl) rfl rfl rfl ?_
            refine ent_value (ov_bin rfl rfl (b_lss _ _ _)) rfl rfl rfl ?_
            refine ent_value (ov_move rfl) rfl rfl rfl ?_
            by_cases c193 : (((l0.getD i12.toNat z_Api_Row).Cell).Sum) < 0
            · rw [if_pos c193] at H10
              refine ent_off rfl rfl rfl (decide_eq_true c193) rfl rfl ?_
              refine ent_off rfl rfl rfl (decide_eq_true c193) rfl rfl ?_
              refine ent_off rfl rfl rfl (decide_eq_true c193) rfl rfl ?_
              refine ent_off rfl rfl rfl (decide_eq_true c193) rfl rfl ?_
              refine ent_value (ov_pick rfl rfl rfl (pick_t (decide_eq_true c193))) rfl rfl rfl ?_
              refine ent_nil ?_
              refine ent_cond_true rfl rfl ?_
              refine ent_seq ?_
              refine ent_region ?_
              refine ent_value (ov_assign rfl) rfl rfl rfl ?_
              refine ent_value (ov_assign rfl) rfl rfl rfl ?_
              refine ent_nil ?_
              refine ent_retc ?_
              cases H10
              have H11 := Option.some.inj (show some _ = some _ from H)
              cases H11
              refine ent_ownnil 2 1 ?_
              refine ent_pick [1, 0] (by decide) rfl ?_
              exact ret_mem (vs := [(Value.slice none 0 0), (Value.bool false)]) rfl ⟨rfl, ⟨rfl, trivial⟩⟩ _ rfl ⟨_, rfl, rfl⟩
            · rw [if_neg c193] at H10
              refine ent_value_on (ov_move rfl) rfl rfl rfl (decide_eq_false c193) rfl rfl ?_
              refine ent_value_on (ov_move rfl) rfl rfl rfl (decide_eq_false c193) rfl rfl ?_
              refine ent_value_on (ov_bin rfl rfl (b_sub _ _ _) ) rfl rfl rfl (decide_eq_false c193) rfl rfl ?_
              refine ent_value_on (ov_bin rfl rfl (b_gtr _ _ _)) rfl rfl rfl (decide_eq_false c193) rfl rfl ?_
              refine ent_value (ov_pick rfl rfl rfl (pick_f (decide_eq_false c193))) rfl rfl rfl ?_
              refine ent_nil ?_
              by_cases c194 : (w64 (4611686018427387904 - i11)) < (((l0.getD i12.toNat z_Api_Row).Cell).Sum)
              · rw [if_pos c194] at H10
                refine ent_cond_true rfl (decide_eq_true c194) ?_
                refine ent_seq ?_
                refine ent_region ?_
                refine ent_value (ov_assign rfl) rfl rfl rfl ?_
                refine ent_value (ov_assign rfl) rfl rfl rfl ?_
                refine ent_nil ?_
                refine ent_retc ?_
                cases H10
                have H12 := Option.some.inj (show some _ = some _ from H)
                cases H12
                refine ent_ownnil 2 1 ?_
                refine ent_pick [1, 0] (by decide) rfl ?_
                exact ret_mem (vs := [(Value.slice none 0 0), (Value.bool false)]) rfl ⟨rfl, ⟨rfl, trivial⟩⟩ _ rfl ⟨_, rfl, rfl⟩
              · rw [if_neg c194] at H10
                refine ent_cond_false rfl (decide_eq_false c194) ?_
                refine ent_skip ?_
                refine ent_region ?_
                refine ent_value (ov_move rfl) rfl rfl rfl ?_
                refine ent_value (ov_move rfl) rfl rfl rfl ?_
                refine ent_value (ov_bin rfl rfl (b_add _ _ _) ) rfl rfl rfl ?_
                refine ent_value (ov_assign rfl) rfl rfl rfl ?_
                refine ent_nil ?_
                refine ent_region ?_
                refine ent_value (ov_move rfl) rfl rfl rfl ?_
                refine ent_value (ov_bin rfl rfl (b_add _ _ _) ) rfl rfl rfl ?_
                refine ent_value (ov_assign rfl) rfl rfl rfl ?_
                refine ent_nil ?_
                exact ent_fin [0] (by decide) rfl (sub_cons (t := 0) rfl (sub_cons (t := 4) rfl (sub_cons (t := 5) rfl (sub_nil _)))) fun a w h => ⟨k, Nat.lt_succ_self k, _, _, H10, h⟩
          · rw [if_neg c190] at H10
            cases H10
        · rw [if_neg c184] at H10
          refine ent_cond_false rfl (decide_eq_false c184) ?_
          refine ent_exit ?_
          cases H10
          exact ent_fin [0] (by decide) rfl (sub_cons (t := 0) rfl (sub_cons (t := 4) rfl (sub_nil _))) fun a w h => ⟨_, rfl, h⟩
  · refine ent_exi fun v2 => ent_and fun e_ => ?_
    subst e_
    rw [cas_inl] at H
    refine ent_seq ?_
    refine ent_seq ?_
    refine ent_region ?_
    refine ent_value (ov_move rfl) rfl rfl rfl ?_
    refine ent_value (ov_bin rfl rfl (b_eql _ _ _)) rfl rfl rfl ?_
    refine ent_nil ?_
    by_cases c196 : v2 = 0
    · rw [if_pos c196] at H
      refine ent_cond_true rfl (eq_t c196) ?_
      refine ent_seq ?_
      refine ent_region ?_
      refine ent_value (ov_assign rfl) rfl rfl rfl ?_
      refine ent_value (ov_assign rfl) rfl rfl rfl ?_
      refine ent_nil ?_
      refine ent_retc ?_
      cases H
      refine ent_ownnil 2 1 ?_
      refine ent_pick [1, 0] (by decide) rfl ?_
      exact ret_mem (vs := [(Value.slice none 0 0), (Value.bool false)]) rfl ⟨rfl, ⟨rfl, trivial⟩⟩ _ rfl ⟨_, rfl, rfl⟩
    · rw [if_neg c196] at H
      refine ent_cond_false rfl (eq_f c196) ?_
      refine ent_skip ?_
      refine ent_seq ?_
      refine ent_region ?_
      refine ent_value (ov_assign rfl) rfl rfl rfl ?_
      refine ent_nil ?_
      refine ent_seq ?_
      refine ent_seq ?_
      refine ent_region ?_
      refine ent_value (ov_assign rfl) rfl rfl rfl ?_
      refine ent_nil ?_
      refine ent_block ?_
      refine ent_loop (fun k a w => ∃ i14, ∃ l5, ∃ sv85 : Value, ossuaryref35_Shares_l1 K l0 v2 k i14 l5 = some r ∧ St 63 w0 F [(0, sv0), (4, (Value.int .i64 v2)), (7, sv85), (8, (Value.int .i64 i14))] [A0, (own sv85 2 1 l5.length (fl (eI .i64) l5))] a w) K ?_ ?_
      · refine ent_ownnil 2 1 ?_
        exact ent_fin [1, 0] (by decide) rfl (sub_cons (t := 0) rfl (sub_cons (t := 4) rfl (sub_cons (t := 7) rfl (sub_cons (t := 8) rfl (sub_nil _))))) fun a w h => ⟨_, _, _, H, h⟩
      · refine fun k => ent_exi fun i14 => ent_exi fun l5 => ent_exi fun sv85 => ent_and fun H14 => ?_
        cases k with
        | zero => exact absurd H14 (by simp [ossuaryref35_Shares_l1])
        | succ k =>
          rw [ossuaryref35_Shares_l1] at H14
          refine ent_seq ?_
          refine ent_seq ?_
          refine ent_region ?_
          refine ent_value (ov_move rfl) rfl rfl rfl ?_
          refine ent_value (ov_move rfl) rfl rfl rfl ?_
          refine ent_value (ov_len 0 rfl F_slice_22 rfl hA0) rfl rfl rfl ?_
          refine ent_value (ov_bin rfl rfl (b_lss _ _ _)) rfl rfl rfl ?_
          refine ent_nil ?_
          by_cases c244 : i14 < (l0.length : Int)
          · rw [if_pos c244] at H14
            refine ent_cond_true rfl (decide_eq_true c244) ?_
            refine ent_skip ?_
            refine ent_seq ?_
            refine ent_block ?_
            refine ent_seq ?_
            refine ent_region ?_
            refine ent_value (ov_move rfl) rfl rfl rfl ?_
            refine ent_value (ov_move rfl) rfl rfl rfl ?_
            by_cases c249 : 0 ≤ i14
            · rw [if_pos c249] at H14
              refine ent_value (ov_indexAddr (sz := 8) 0 rfl rfl F_slice_22 F_size_47 rfl hA0 c249 c244) rfl rfl rfl ?_
              refine ent_value (ov_fieldAddrE (sz := 3) (k0 := i14.toNat * 9) (off := 5) 0 rfl F_field_47_1 F_size_42 rfl hA0 (fl_pos enc_Api_Row_len (ix_lt c249 c244))) rfl rfl rfl ?_
              refine ent_value (ov_fieldAddrE (sz := 0) (k0 := i14.toNat * 9 + 5) (off := 1) 0 rfl F_field_42_1 F_size_2 rfl hA0 (fl_pos enc_Api_Row_len (ix_lt c249 c244))) rfl rfl rfl ?_
              refine ent_value (ov_load (v := (Value.int .i64 (((l0.getD i14.toNat z_Api_Row).Cell).Sum))) rfl F_agg_2 (reads_rd (i := 0) rfl hA0 (by simp) (fl_read (off := 6) enc_Api_Row_len (ix_lt c249 c244) rfl))) rfl rfl rfl ?_
              refine ent_value (ov_move rfl) rfl rfl rfl ?_
              refine ent_value (ov_bin rfl rfl (b_eql _ _ _)) rfl rfl rfl ?_
              refine ent_nil ?_
              by_cases c250 : (((l0.getD i14.toNat z_Api_Row).Cell).Sum) = v2
              · rw [if_pos c250] at H14
                refine ent_cond_true rfl (eq_t c250) ?_
                refine ent_region ?_
                refine ent_value (ov_move rfl) rfl rfl rfl ?_
                refine ent_op (ot_buildSlice (sz := 0) (xs := [.const (Value.int .i64 10000)]) (cs := fl (eI .i64) [10000]) rfl rfl F_slice_25 F_size_2 F_zero_2 rfl rfl (all_size rfl) rfl (by decide)) rfl rfl rfl ?_
                rintro sv98 _ rfl
                by_cases c251 : (l5.length + [10000].length) * 8 ≤ 140737488355328
                · rw [if_pos c251] at H14
                  refine ent_op (ot_appendx (sz := 0) (xs := l5) (ys := [10000]) 2 0 rfl rfl F_slice_25 F_size_2 F_zero_2 rfl F_bytes_2 rfl rfl rfl (isRd_ownx 2) rfl (eI_one _) c251) rfl rfl rfl ?_
                  rintro sv99 _ rfl
                  refine ent_L [(own sv98 2 1 [10000].length (fl (eI .i64) [10000])), A0, (own sv99 2 1 (l5 ++ [10000]).length (fl (eI .i64) (l5 ++ [10000])))] rfl ?_
                  refine ent_value (ov_assign rfl) rfl rfl rfl ?_
                  refine ent_nil ?_
                  refine ent_region ?_
                  refine ent_value (ov_move rfl) rfl rfl rfl ?_
                  refine ent_value (ov_bin rfl rfl (b_add _ _ _) ) rfl rfl rfl ?_
                  refine ent_value (ov_assign rfl) rfl rfl rfl ?_
                  refine ent_nil ?_
                  exact ent_fin [1, 2] (by decide) rfl (sub_cons (t := 0) rfl (sub_cons (t := 4) rfl (sub_cons (t := 7) rfl (sub_cons (t := 8) rfl (sub_nil _))))) fun a w h => ⟨k, Nat.lt_succ_self k, _, _, _, H14, h⟩
                · rw [if_neg c251] at H14
                  cases H14
              · rw [if_neg c250] at H14
                refine ent_cond_false rfl (eq_f c250) ?_
                refine ent_region ?_
                refine ent_value (ov_move rfl) rfl rfl rfl ?_
                refine ent_value (ov_move rfl) rfl rfl rfl ?_
                refine ent_value (ov_move rfl) rfl rfl rfl ?_
                refine ent_value (ov_indexAddr (sz := 8) 0 rfl rfl F_slice_22 F_size_47 rfl hA0 c249 c244) rfl rfl rfl ?_
                refine ent_value (ov_fieldAddrE (sz := 3) (k0 := i14.toNat * 9) (off := 5) 0 rfl F_field_47_1 F_size_42 rfl hA0 (fl_pos enc_Api_Row_len (ix_lt c249 c244))) rfl rfl rfl ?_
                refine ent_value (ov_fieldAddrE (sz := 0) (k0 := i14.toNat * 9 + 5) (off := 1) 0 rfl F_field_42_1 F_size_2 rfl hA0 (fl_pos enc_Api_Row_len (ix_lt c249 c244))) rfl rfl rfl ?_
                refine ent_value (ov_load (v := (Value.int .i64 (((l0.getD i14.toNat z_Api_Row).Cell).Sum))) rfl F_agg_2 (reads_rd (i := 0) rfl hA0 (by simp) (fl_read (off := 6) enc_Api_Row_len (ix_lt c249 c244) rfl))) rfl rfl rfl ?_
                refine ent_value (ov_move rfl) rfl rfl rfl ?_
                obtain ⟨x26, h24, H14⟩ := Option.bind_eq_some_iff.1 H14
                refine ent_op (ot_call0 (first := []) (cap := []) (xs := [.tmp 57, .tmp 58]) rfl rfl F_call_67 rfl (ossuaryref35_share.spec K (((l0.getD i14.toNat z_Api_Row).Cell).Sum) v2 _ h24)) rfl rfl rfl ?_
                rintro _ _ ⟨rfl, rfl⟩
                refine ent_op (ot_buildSlice (sz := 0) (xs := [.tmp 59]) (cs := fl (eI .i64) [x26]) rfl rfl F_slice_25 F_size_2 F_zero_2 rfl rfl (all_size rfl) rfl (by decide)) rfl rfl rfl ?_
                rintro sv100 _ rfl
                by_cases c252 : (l5.length + [x26].length) * 8 ≤ 140737488355328
                · rw [if_pos c252] at H14
                  refine ent_op (ot_appendx (sz := 0) (xs := l5) (ys := [x26]) 2 0 rfl rfl F_slice_25 F_size_2 F_zero_2 rfl F_bytes_2 rfl rfl rfl (isRd_ownx 2) rfl (eI_one _) c252) rfl rfl rfl ?_
                  rintro sv101 _ rfl
                  refine ent_L [(own sv100 2 1 [x26].length (fl (eI .i64) [x26])), A0, (own sv101 2 1 (l5 ++ [x26]).length (fl (eI .i64) (l5 ++ [x26])))] rfl ?_
                  refine ent_value (ov_assign rfl) rfl rfl rfl ?_
                  refine ent_nil ?_
                  refine ent_region ?_
                  refine ent_value (ov_move rfl) rfl rfl rfl ?_
                  refine ent_value (ov_bin rfl rfl (b_add _ _ _) ) rfl rfl rfl ?_
                  refine ent_value (ov_assign rfl) rfl rfl rfl ?_
                  refine ent_nil ?_
                  exact ent_fin [1, 2] (by decide) rfl (sub_cons (t := 0) rfl (sub_cons (t := 4) rfl (sub_cons (t := 7) rfl (sub_cons (t := 8) rfl (sub_nil _))))) fun a w h => ⟨k, Nat.lt_succ_self k, _, _, _, H14, h⟩
                · rw [if_neg c252] at H14
                  cases H14
            · rw [if_neg c249] at H14
              cases H14
          · rw [if_neg c244] at H14
            refine ent_cond_false rfl (decide_eq_false c244) ?_
            refine ent_exit ?_
            refine ent_seq ?_
            refine ent_region ?_
            refine ent_value (ov_move rfl) rfl rfl rfl ?_
            refine ent_value (ov_assign rfl) rfl rfl rfl ?_
            refine ent_value (ov_assign rfl) rfl rfl rfl ?_
            refine ent_nil ?_
            refine ent_retc ?_
            cases H14
            exact ret_mem (vs := [sv85, (Value.bool true)]) rfl ⟨rfl, ⟨rfl, trivial⟩⟩ _ rfl ⟨_, rfl, rfl⟩

set_option maxRecDepth 100000 in
theorem pile_New__int64.spec (r : Int) (H : pile_New__int64 = r) : FnSpec Try.prog 125 [(Value.func (.func 69) #[] #[])] [] (fun v M => ∃ b2 : Nat, v = (pt b2 0) ∧ M = [(box b2 229 [(Value.func (.func 69) #[] #[]), (Value.slice none 0 0), (Value.int .i64 r)])]) := by
  unfold pile_New__int64 at H
  refine spec_of Try.func125 rfl 6 rfl (Nat.le_of_ble_eq_true rfl) fun F w0 => ?_
  show Ent (St 6 w0 F [(0, (Value.func (.func 69) #[] #[]))] []) _
  refine ent_seq ?_
  refine ent_region ?_
  refine ent_value (ov_assign rfl) rfl rfl rfl ?_
  refine ent_nil ?_
  refine ent_seq ?_
  refine ent_region ?_
  refine ent_value (ov_move rfl) rfl rfl rfl ?_
  refine ent_value (ov_build (is := [0]) (xs := [.tmp 3]) (vs := [(Value.func (.func 69) #[] #[])]) rfl rfl (build_struct (cs := [(Value.func (.func 69) #[] #[]), (Value.slice none 0 0), (Value.int .i64 0)]) F_zero_229 F_places_229 rfl)) rfl rfl rfl ?_
  refine ent_op (ot_box (cs := [(Value.func (.func 69) #[] #[]), (Value.slice none 0 0), (Value.int .i64 0)]) rfl rfl) rfl rfl rfl ?_
  rintro _ _ ⟨b3, rfl, rfl⟩
  refine ent_value (ov_assign rfl) rfl rfl rfl ?_
  refine ent_nil ?_
  refine ent_retc ?_
  cases H
  exact ret_tmp rfl rfl ⟨_, rfl, rfl⟩

set_option maxRecDepth 100000 in
theorem stat_Rank_1.spec (a0 : Int) (a1 : Int) (r : Bool) (H : stat_Rank_1 a0 a1 = r) : FnSpec Try.prog 69 [(Value.int .i64 a0), (Value.int .i64 a1)] [] (fun v M => v = (Value.bool r) ∧ M = []) := by
  unfold stat_Rank_1 at H
  refine spec_of Try.func69 rfl 8 rfl (Nat.le_of_ble_eq_true rfl) fun F w0 => ?_
  show Ent (St 8 w0 F [(0, (Value.int .i64 a0)), (1, (Value.int .i64 a1))] []) _
  refine ent_seq ?_
  refine ent_region ?_
  refine ent_value (ov_assign rfl) rfl rfl rfl ?_
  refine ent_nil ?_
  refine ent_seq ?_
  refine ent_region ?_
  refine ent_value (ov_move rfl) rfl rfl rfl ?_
  refine ent_value (ov_move rfl) rfl rfl rfl ?_
  refine ent_value (ov_bin rfl rfl (b_gtr _ _ _)) rfl rfl rfl ?_
  refine ent_value (ov_assign rfl) rfl rfl rfl ?_
  refine ent_nil ?_
  refine ent_retc ?_
  cases H
  exact ret_tmp rfl rfl ⟨rfl, rfl⟩

set_option maxRecDepth 100000 in
theorem pile_Pile__int64_ahead.spec (p0 : Nat) (sv0 : Value) (l0 : List Pile_item__int64) (p0_2 : Int) (a1 : Int) (a2 : Int) (r : Bool) (H : pile_Pile__int64_ahead l0 p0_2 a1 a2 = some r) : FnSpec Try.prog 201 [(pt p0 0), (Value.int .i64 a1), (Value.int .i64 a2)] [(box p0 229 [(Value.func (.func 69) #[] #[]), sv0, (Value.int .i64 p0_2)]), (own sv0 231 2 l0.length (fl enc_Pile_item__int64 l0))] (fun v M => v = (Value.bool r) ∧ M = [(box p0 229 [(Value.func (.func 69) #[] #[]), sv0, (Value.int .i64 p0_2)]), (own sv0 231 2 l0.length (fl enc_Pile_item__int64 l0))]) := by
  unfold pile_Pile__int64_ahead at H
  refine spec_of Try.func201 rfl 48 rfl (Nat.le_of_ble_eq_true rfl) fun F w0 => ?_
  show Ent (St 48 w0 F [(0, (pt p0 0)), (1, (Value.int .i64 a1)), (2, (Value.int .i64 a2))] [(box p0 229 [(Value.func (.func 69) #[] #[]), sv0, (Value.int .i64 p0_2)]), (own sv0 231 2 l0.length (fl enc_Pile_item__int64 l0))]) _
  refine ent_seq ?_
  refine ent_region ?_
  refine ent_value (ov_assign rfl) rfl rfl rfl ?_
  refine ent_nil ?_
  refine ent_seq ?_
  by_cases c9 : 0 ≤ a1
  · rw [if_pos c9] at H
    by_cases c10 : a1 < (l0.length : Int)
    · rw [if_pos c10] at H
      by_cases c11 : 0 ≤ a2
      · rw [if_pos c11] at H
        by_cases c12 : a2 < (l0.length : Int)
        · rw [if_pos c12] at H
          refine ent_drawm 18 rfl (fun done a w => ∃ ga2 : Nat → Value, StD 48 w0 F [(0, (pt p0 0)), (1, (Value.int .i64 a1)), (2, (Value.int .i64 a2)), (6, (Value.bool false))] [(0, 9, (pt p0 0)), (1, 10, (pt p0 0)), (2, 11, (pt p0 1)), (3, 12, sv0), (4, 13, (Value.int .i64 a1)), (5, 14, (eptr sv0 (a1.toNat * 2))), (6, 15, (Value.agg #[(Value.int .i64 ((l0.getD a1.toNat z_Pile_item__int64).x)), (Value.int .i64 ((l0.getD a1.toNat z_Pile_item__int64).n))])), (7, 16, (pt p0 0)), (8, 17, (pt p0 0)), (9, 18, (pt p0 1)), (10, 19, sv0), (11, 20, (Value.int .i64 a2)), (12, 21, (eptr sv0 (a2.toNat * 2))), (13, 22, (Value.agg #[(Value.int .i64 ((l0.getD a2.toNat z_Pile_item__int64).x)), (Value.int .i64 ((l0.getD a2.toNat z_Pile_item__int64).n))])), (14, 7, (pt (blk (ga2 14)) 0)), (15, 8, (pt (blk (ga2 15)) 0))] done [(sel (done 17) (box (blk (ga2 15)) 231 [(Value.int .i64 ((l0.getD a2.toNat z_Pile_item__int64).x)), (Value.int .i64 ((l0.getD a2.toNat z_Pile_item__int64).n))]) (sel (done 15) (box (blk (ga2 15)) 231 [(Value.int .i64 0), (Value.int .i64 0)]) emp)), (sel (done 16) (box (blk (ga2 14)) 231 [(Value.int .i64 ((l0.getD a1.toNat z_Pile_item__int64).x)), (Value.int .i64 ((l0.getD a1.toNat z_Pile_item__int64).n))]) (sel (done 14) (box (blk (ga2 14)) 231 [(Value.int .i64 0), (Value.int .i64 0)]) emp)), (box p0 229 [(Value.func (.func 69) #[] #[]), sv0, (Value.int .i64 p0_2)]), (own sv0 231 2 l0.length (fl enc_Pile_item__int64 l0))] a w) (by kernel_rfl) (by kernel_rfl) (draw_startG (T := (fun ga2 : Nat → Value => [(0, 9, (pt p0 0)), (1, 10, (pt p0 0)), (2, 11, (pt p0 1)), (3, 12, sv0), (4, 13, (Value.int .i64 a1)), (5, 14, (eptr sv0 (a1.toNat * 2))), (6, 15, (Value.agg #[(Value.int .i64 ((l0.getD a1.toNat z_Pile_item__int64).x)), (Value.int .i64 ((l0.getD a1.toNat z_Pile_item__int64).n))])), (7, 16, (pt p0 0)), (8, 17, (pt p0 0)), (9, 18, (pt p0 1)), (10, 19, sv0), (11, 20, (Value.int .i64 a2)), (12, 21, (eptr sv0 (a2.toNat * 2))), (13, 22, (Value.agg #[(Value.int .i64 ((l0.getD a2.toNat z_Pile_item__int64).x)), (Value.int .i64 ((l0.getD a2.toNat z_Pile_item__int64).n))])), (14, 7, (pt (blk (ga2 14)) 0)), (15, 8, (pt (blk (ga2 15)) 0))])) (L' := fun ga2 : Nat → Value => [(sel false (box (blk (ga2 15)) 231 [(Value.int .i64 ((l0.getD a2.toNat z_Pile_item__int64).x)), (Value.int .i64 ((l0.getD a2.toNat z_Pile_item__int64).n))]) (sel false (box (blk (ga2 15)) 231 [(Value.int .i64 0), (Value.int .i64 0)]) emp)), (sel false (box (blk (ga2 14)) 231 [(Value.int .i64 ((l0.getD a1.toNat z_Pile_item__int64).x)), (Value.int .i64 ((l0.getD a1.toNat z_Pile_item__int64).n))]) (sel false (box (blk (ga2 14)) 231 [(Value.int .i64 0), (Value.int .i64 0)]) emp)), (box p0 229 [(Value.func (.func 69) #[] #[]), sv0, (Value.int .i64 p0_2)]), (own sv0 231 2 l0.length (fl enc_Pile_item__int64 l0))]) 2 (sub_cons (t := 0) rfl (sub_cons (t := 1) rfl (sub_cons (t := 2) rfl (sub_cons (t := 6) rfl (sub_nil _))))) (fun _ => rfl)) ?_ ?_
          · refine ⟨?_, ?_, ?_, ?_, ?_, ?_, ?_, ?_, ?_, ?_, ?_, ?_, ?_, ?_, ?_, ?_, ?_, ?_, trivial⟩
            · intro done hi hc hcu
              refine draw_exi (I := fun (ga2 : Nat → Value) done a w => StD 48 w0 F [(0, (pt p0 0)), (1, (Value.int .i64 a1)), (2, (Value.int .i64 a2)), (6, (Value.bool false))] [(0, 9, (pt p0 0)), (1, 10, (pt p0 0)), (2, 11, (pt p0 1)), (3, 12, sv0), (4, 13, (Value.int .i64 a1)), (5, 14, (eptr sv0 (a1.toNat * 2))), (6, 15, (Value.agg #[(Value.int .i64 ((l0.getD a1.toNat z_Pile_item__int64).x)), (Value.int .i64 ((l0.getD a1.toNat z_Pile_item__int64).n))])), (7, 16, (pt p0 0)), (8, 17, (pt p0 0)), (9, 18, (pt p0 1)), (10, 19, sv0), (11, 20, (Value.int .i64 a2)), (12, 21, (eptr sv0 (a2.toNat * 2))), (13, 22, (Value.agg #[(Value.int .i64 ((l0.getD a2.toNat z_Pile_item__int64).x)), (Value.int .i64 ((l0.getD a2.toNat z_Pile_item__int64).n))])), (14, 7, (pt (blk (ga2 14)) 0)), (15, 8, (pt (blk (ga2 15)) 0))] done [(sel (done 17) (box (blk (ga2 15)) 231 [(Value.int .i64 ((l0.getD a2.toNat z_Pile_item__int64).x)), (Value.int .i64 ((l0.getD a2.toNat z_Pile_item__int64).n))]) (sel (done 15) (box (blk (ga2 15)) 231 [(Value.int .i64 0), (Value.int .i64 0)]) emp)), (sel (done 16) (box (blk (ga2 14)) 231 [(Value.int .i64 ((l0.getD a1.toNat z_Pile_item__int64).x)), (Value.int .i64 ((l0.getD a1.toNat z_Pile_item__int64).n))]) (sel (done 14) (box (blk (ga2 14)) 231 [(Value.int .i64 0), (Value.int .i64 0)]) emp)), (box p0 229 [(Value.func (.func 69) #[] #[]), sv0, (Value.int .i64 p0_2)]), (own sv0 231 2 l0.length (fl enc_Pile_item__int64 l0))] a w) fun ga2 => ?_
              exact draw_value (i := 0) (t := 9) (v := (pt p0 0)) rfl rfl (wanted_none rfl) (fun a => hasA_base) (ov_move rfl) rfl rfl (onlyT_spec (k0 := 0) rfl rfl rfl)
            · intro done hi hc hcu
              refine draw_exi (I := fun (ga2 : Nat → Value) done a w => StD 48 w0 F [(0, (pt p0 0)), (1, (Value.int .i64 a1)), (2, (Value.int .i64 a2)), (6, (Value.bool false))] [(0, 9, (pt p0 0)), (1, 10, (pt p0 0)), (2, 11, (pt p0 1)), (3, 12, sv0), (4, 13, (Value.int .i64 a1)), (5, 14, (eptr sv0 (a1.toNat * 2))), (6, 15, (Value.agg #[(Value.int .i64 ((l0.getD a1.toNat z_Pile_item__int64).x)), (Value.int .i64 ((l0.getD a1.toNat z_Pile_item__int64).n))])), (7, 16, (pt p0 0)), (8, 17, (pt p0 0)), (9, 18, (pt p0 1)), (10, 19, sv0), (11, 20, (Value.int .i64 a2)), (12, 21, (eptr sv0 (a2.toNat * 2))), (13, 22, (Value.agg #[(Value.int .i64 ((l0.getD a2.toNat z_Pile_item__int64).x)), (Value.int .i64 ((l0.getD a2.toNat z_Pile_item__int64).n))])), (14, 7, (pt (blk (ga2 14)) 0)), (15, 8, (pt (blk (ga2 15)) 0))] done [(sel (done 17) (box (blk (ga2 15)) 231 [(Value.int .i64 ((l0.getD a2.toNat z_Pile_item__int64).x)), (Value.int .i64 ((l0.getD a2.toNat z_Pile_item__int64).n))]) (sel (done 15) (box (blk (ga2 15)) 231 [(Value.int .i64 0), (Value.int .i64 0)]) emp)), (sel (done 16) (box (blk (ga2 14)) 231 [(Value.int .i64 ((l0.getD a1.toNat z_Pile_item__int64).x)), (Value.int .i64 ((l0.getD a1.toNat z_Pile_item__int64).n))]) (sel (done 14) (box (blk (ga2 14)) 231 [(Value.int .i64 0), (Value.int .i64 0)]) emp)), (box p0 229 [(Value.func (.func 69) #[] #[]), sv0, (Value.int .i64 p0_2)]), (own sv0 231 2 l0.length (fl enc_Pile_item__int64 l0))] a w) fun ga2 => ?_
              have d0 : done 0 = true := done_of (j := 0) hcu rfl (by decide) rfl
              exact draw_value (i := 1) (t := 10) (v := (pt p0 0)) rfl rfl (wanted_none rfl) (fun a => (hasA_cons (k := 0) rfl d0 hasA_base)) (ov_nilCheck rfl) rfl rfl (onlyT_spec (k0 := 1) rfl rfl rfl)
            · intro done hi hc hcu
              refine draw_exi (I := fun (ga2 : Nat → Value) done a w => StD 48 w0 F [(0, (pt p0 0)), (1, (Value.int .i64 a1)), (2, (Value.int .i64 a2)), (6, (Value.bool false))] [(0, 9, (pt p0 0)), (1, 10, (pt p0 0)), (2, 11, (pt p0 1)), (3, 12, sv0), (4, 13, (Value.int .i64 a1)), (5, 14, (eptr sv0 (a1.toNat * 2))), (6, 15, (Value.agg #[(Value.int .i64 ((l0.getD a1.toNat z_Pile_item__int64).x)), (Value.int .i64 ((l0.getD a1.toNat z_Pile_item__int64).n))])), (7, 16, (pt p0 0)), (8, 17, (pt p0 0)), (9, 18, (pt p0 1)), (10, 19, sv0), (11, 20, (Value.int .i64 a2)), (12, 21, (eptr sv0 (a2.toNat * 2))), (13, 22, (Value.agg #[(Value.int .i64 ((l0.getD a2.toNat z_Pile_item__int64).x)), (Value.int .i64 ((l0.getD a2.toNat z_Pile_item__int64).n))])), (14, 7, (pt (blk (ga2 14)) 0)), (15, 8, (pt (blk (ga2 15)) 0))] done [(sel (done 17) (box (blk (ga2 15)) 231 [(Value.int .i64 ((l0.getD a2.toNat z_Pile_item__int64).x)), (Value.int .i64 ((l0.getD a2.toNat z_Pile_item__int64).n))]) (sel (done 15) (box (blk (ga2 15)) 231 [(Value.int .i64 0), (Value.int .i64 0)]) emp)), (sel (done 16) (box (blk (ga2 14)) 231 [(Value.int .i64 ((l0.getD a1.toNat z_Pile_item__int64).x)), (Value.int .i64 ((l0.getD a1.toNat z_Pile_item__int64).n))]) (sel (done 14) (box (blk (ga2 14)) 231 [(Value.int .i64 0), (Value.int .i64 0)]) emp)), (box p0 229 [(Value.func (.func 69) #[] #[]), sv0, (Value.int .i64 p0_2)]), (own sv0 231 2 l0.length (fl enc_Pile_item__int64 l0))] a w) fun ga2 => ?_
              have d1 : done 1 = true := done_of (j := 1) hcu rfl (by decide) rfl
              exact draw_value (i := 2) (t := 11) (v := (pt p0 1)) rfl rfl (wanted_none rfl) (fun a => (hasA_cons (k := 1) rfl d1 hasA_base)) (ov_fieldAddr (sz := 0) (o := 0) rfl F_field_229_1 F_size_227) rfl rfl (onlyT_spec (k0 := 2) rfl rfl rfl)
            · intro done hi hc hcu
              refine draw_exi (I := fun (ga2 : Nat → Value) done a w => StD 48 w0 F [(0, (pt p0 0)), (1, (Value.int .i64 a1)), (2, (Value.int .i64 a2)), (6, (Value.bool false))] [(0, 9, (pt p0 0)), (1, 10, (pt p0 0)), (2, 11, (pt p0 1)), (3, 12, sv0), (4, 13, (Value.int .i64 a1)), (5, 14, (eptr sv0 (a1.toNat * 2))), (6, 15, (Value.agg #[(Value.int .i64 ((l0.getD a1.toNat z_Pile_item__int64).x)), (Value.int .i64 ((l0.getD a1.toNat z_Pile_item__int64).n))])), (7, 16, (pt p0 0)), (8, 17, (pt p0 0)), (9, 18, (pt p0 1)), (10, 19, sv0), (11, 20, (Value.int .i64 a2)), (12, 21, (eptr sv0 (a2.toNat * 2))), (13, 22, (Value.agg #[(Value.int .i64 ((l0.getD a2.toNat z_Pile_item__int64).x)), (Value.int .i64 ((l0.getD a2.toNat z_Pile_item__int64).n))])), (14, 7, (pt (blk (ga2 14)) 0)), (15, 8, (pt (blk (ga2 15)) 0))] done [(sel (done 17) (box (blk (ga2 15)) 231 [(Value.int .i64 ((l0.getD a2.toNat z_Pile_item__int64).x)), (Value.int .i64 ((l0.getD a2.toNat z_Pile_item__int64).n))]) (sel (done 15) (box (blk (ga2 15)) 231 [(Value.int .i64 0), (Value.int .i64 0)]) emp)), (sel (done 16) (box (blk (ga2 14)) 231 [(Value.int .i64 ((l0.getD a1.toNat z_Pile_item__int64).x)), (Value.int .i64 ((l0.getD a1.toNat z_Pile_item__int64).n))]) (sel (done 14) (box (blk (ga2 14)) 231 [(Value.int .i64 0), (Value.int .i64 0)]) emp)), (box p0 229 [(Value.func (.func 69) #[] #[]), sv0, (Value.int .i64 p0_2)]), (own sv0 231 2 l0.length (fl enc_Pile_item__int64 l0))] a w) fun ga2 => ?_
              have d2 : done 2 = true := done_of (j := 2) hcu rfl (by decide) rfl
              exact draw_value (i := 3) (t := 12) (v := sv0) rfl rfl (wanted_none rfl) (fun a => (hasA_cons (k := 2) rfl d2 hasA_base)) (ov_load (v := sv0) rfl F_agg_227 (reads_box1 (i := 2) rfl rfl)) rfl rfl (onlyT_spec (k0 := 3) rfl rfl rfl)
            · intro done hi hc hcu
              refine draw_exi (I := fun (ga2 : Nat → Value) done a w => StD 48 w0 F [(0, (pt p0 0)), (1, (Value.int .i64 a1)), (2, (Value.int .i64 a2)), (6, (Value.bool false))] [(0, 9, (pt p0 0)), (1, 10, (pt p0 0)), (2, 11, (pt p0 1)), (3, 12, sv0), (4, 13, (Value.int .i64 a1)), (5, 14, (eptr sv0 (a1.toNat * 2))), (6, 15, (Value.agg #[(Value.int .i64 ((l0.getD a1.toNat z_Pile_item__int64).x)), (Value.int .i64 ((l0.getD a1.toNat z_Pile_item__int64).n))])), (7, 16, (pt p0 0)), (8, 17, (pt p0 0)), (9, 18, (pt p0 1)), (10, 19, sv0), (11, 20, (Value.int .i64 a2)), (12, 21, (eptr sv0 (a2.toNat * 2))), (13, 22, (Value.agg #[(Value.int .i64 ((l0.getD a2.toNat z_Pile_item__int64).x)), (Value.int .i64 ((l0.getD a2.toNat z_Pile_item__int64).n))])), (14, 7, (pt (blk (ga2 14)) 0)), (15, 8, (pt (blk (ga2 15)) 0))] done [(sel (done 17) (box (blk (ga2 15)) 231 [(Value.int .i64 ((l0.getD a2.toNat z_Pile_item__int64).x)), (Value.int .i64 ((l0.getD a2.toNat z_Pile_item__int64).n))]) (sel (done 15) (box (blk (ga2 15)) 231 [(Value.int .i64 0), (Value.int .i64 0)]) emp)), (sel (done 16) (box (blk (ga2 14)) 231 [(Value.int .i64 ((l0.getD a1.toNat z_Pile_item__int64).x)), (Value.int .i64 ((l0.getD a1.toNat z_Pile_item__int64).n))]) (sel (done 14) (box (blk (ga2 14)) 231 [(Value.int .i64 0), (Value.int .i64 0)]) emp)), (box p0 229 [(Value.func (.func 69) #[] #[]), sv0, (Value.int .i64 p0_2)]), (own sv0 231 2 l0.length (fl enc_Pile_item__int64 l0))] a w) fun ga2 => ?_
              exact draw_value (i := 4) (t := 13) (v := (Value.int .i64 a1)) rfl rfl (wanted_none rfl) (fun a => hasA_base) (ov_move rfl) rfl rfl (onlyT_spec (k0 := 4) rfl rfl rfl)
            · intro done hi hc hcu
              refine draw_exi (I := fun (ga2 : Nat → Value) done a w => StD 48 w0 F [(0, (pt p0 0)), (1, (Value.int .i64 a1)), (2, (Value.int .i64 a2)), (6, (Value.bool false))] [(0, 9, (pt p0 0)), (1, 10, (pt p0 0)), (2, 11, (pt p0 1)), (3, 12, sv0), (4, 13, (Value.int .i64 a1)), (5, 14, (eptr sv0 (a1.toNat * 2))), (6, 15, (Value.agg #[(Value.int .i64 ((l0.getD a1.toNat z_Pile_item__int64).x)), (Value.int .i64 ((l0.getD a1.toNat z_Pile_item__int64).n))])), (7, 16, (pt p0 0)), (8, 17, (pt p0 0)), (9, 18, (pt p0 1)), (10, 19, sv0), (11, 20, (Value.int .i64 a2)), (12, 21, (eptr sv0 (a2.toNat * 2))), (13, 22, (Value.agg #[(Value.int .i64 ((l0.getD a2.toNat z_Pile_item__int64).x)), (Value.int .i64 ((l0.getD a2.toNat z_Pile_item__int64).n))])), (14, 7, (pt (blk (ga2 14)) 0)), (15, 8, (pt (blk (ga2 15)) 0))] done [(sel (done 17) (box (blk (ga2 15)) 231 [(Value.int .i64 ((l0.getD a2.toNat z_Pile_item__int64).x)), (Value.int .i64 ((l0.getD a2.toNat z_Pile_item__int64).n))]) (sel (done 15) (box (blk (ga2 15)) 231 [(Value.int .i64 0), (Value.int .i64 0)]) emp)), (sel (done 16) (box (blk (ga2 14)) 231 [(Value.int .i64 ((l0.getD a1.toNat z_Pile_item__int64).x)), (Value.int .i64 ((l0.getD a1.toNat z_Pile_item__int64).n))]) (sel (done 14) (box (blk (ga2 14)) 231 [(Value.int .i64 0), (Value.int .i64 0)]) emp)), (box p0 229 [(Value.func (.func 69) #[] #[]), sv0, (Value.int .i64 p0_2)]), (own sv0 231 2 l0.length (fl enc_Pile_item__int64 l0))] a w) fun ga2 => ?_
              have d3 : done 3 = true := done_of (j := 3) hcu rfl (by decide) rfl
              have d4 : done 4 = true := done_of (j := 4) hcu rfl (by decide) rfl
              exact draw_value (i := 5) (t := 14) (v := (eptr sv0 (a1.toNat * 2))) rfl rfl (wanted_none rfl) (fun a => (hasA_cons (k := 4) rfl d4 (hasA_cons (k := 3) rfl d3 hasA_base))) (ov_indexAddr (sz := 1) 3 rfl rfl F_slice_227 F_size_231 rfl (isRd_ownx 231) c9 c10) rfl rfl (onlyT_spec (k0 := 5) rfl rfl rfl)
            · intro done hi hc hcu
              refine draw_exi (I := fun (ga2 : Nat → Value) done a w => StD 48 w0 F [(0, (pt p0 0)), (1, (Value.int .i64 a1)), (2, (Value.int .i64 a2)), (6, (Value.bool false))] [(0, 9, (pt p0 0)), (1, 10, (pt p0 0)), (2, 11, (pt p0 1)), (3, 12, sv0), (4, 13, (Value.int .i64 a1)), (5, 14, (eptr sv0 (a1.toNat * 2))), (6, 15, (Value.agg #[(Value.int .i64 ((l0.getD a1.toNat z_Pile_item__int64).x)), (Value.int .i64 ((l0.getD a1.toNat z_Pile_item__int64).n))])), (7, 16, (pt p0 0)), (8, 17, (pt p0 0)), (9, 18, (pt p0 1)), (10, 19, sv0), (11, 20, (Value.int .i64 a2)), (12, 21, (eptr sv0 (a2.toNat * 2))), (13, 22, (Value.agg #[(Value.int .i64 ((l0.getD a2.toNat z_Pile_item__int64).x)), (Value.int .i64 ((l0.getD a2.toNat z_Pile_item__int64).n))])), (14, 7, (pt (blk (ga2 14)) 0)), (15, 8, (pt (blk (ga2 15)) 0))] done [(sel (done 17) (box (blk (ga2 15)) 231 [(Value.int .i64 ((l0.getD a2.toNat z_Pile_item__int64).x)), (Value.int .i64 ((l0.getD a2.toNat z_Pile_item__int64).n))]) (sel (done 15) (box (blk (ga2 15)) 231 [(Value.int .i64 0), (Value.int .i64 0)]) emp)), (sel (done 16) (box (blk (ga2 14)) 231 [(Value.int .i64 ((l0.getD a1.toNat z_Pile_item__int64).x)), (Value.int .i64 ((l0.getD a1.toNat z_Pile_item__int64).n))]) (sel (done 14) (box (blk (ga2 14)) 231 [(Value.int .i64 0), (Value.int .i64 0)]) emp)), (box p0 229 [(Value.func (.func 69) #[] #[]), sv0, (Value.int .i64 p0_2)]), (own sv0 231 2 l0.length (fl enc_Pile_item__int64 l0))] a w) fun ga2 => ?_
              have d5 : done 5 = true := done_of (j := 5) hcu rfl (by decide) rfl
              exact draw_value (i := 6) (t := 15) (v := (Value.agg #[(Value.int .i64 ((l0.getD a1.toNat z_Pile_item__int64).x)), (Value.int .i64 ((l0.getD a1.toNat z_Pile_item__int64).n))])) rfl rfl (wanted_none rfl) (fun a => (hasA_cons (k := 5) rfl d5 hasA_base)) (ov_load_agg (vs := [(Value.int .i64 ((l0.getD a1.toNat z_Pile_item__int64).x)), (Value.int .i64 ((l0.getD a1.toNat z_Pile_item__int64).n))]) rfl F_agg_231 F_size_231 (reads_rd (i := 3) rfl (isRd_ownx 231) (by simp) (fl_read0 enc_Pile_item__int64_len (ix_lt c9 c10) rfl))) rfl rfl (onlyT_spec (k0 := 6) rfl rfl rfl)
            · intro done hi hc hcu
              refine draw_exi (I := fun (ga2 : Nat → Value) done a w => StD 48 w0 F [(0, (pt p0 0)), (1, (Value.int .i64 a1)), (2, (Value.int .i64 a2)), (6, (Value.bool false))] [(0, 9, (pt p0 0)), (1, 10, (pt p0 0)), (2, 11, (pt p0 1)), (3, 12, sv0), (4, 13, (Value.int .i64 a1)), (5, 14, (eptr sv0 (a1.toNat * 2))), (6, 15, (Value.agg #[(Value.int .i64 ((l0.getD a1.toNat z_Pile_item__int64).x)), (Value.int .i64 ((l0.getD a1.toNat z_Pile_item__int64).n))])), (7, 16, (pt p0 0)), (8, 17, (pt p0 0)), (9, 18, (pt p0 1)), (10, 19, sv0), (11, 20, (Value.int .i64 a2)), (12, 21, (eptr sv0 (a2.toNat * 2))), (13, 22, (Value.agg #[(Value.int .i64 ((l0.getD a2.toNat z_Pile_item__int64).x)), (Value.int .i64 ((l0.getD a2.toNat z_Pile_item__int64).n))])), (14, 7, (pt (blk (ga2 14)) 0)), (15, 8, (pt (blk (ga2 15)) 0))] done [(sel (done 17) (box (blk (ga2 15)) 231 [(Value.int .i64 ((l0.getD a2.toNat z_Pile_item__int64).x)), (Value.int .i64 ((l0.getD a2.toNat z_Pile_item__int64).n))]) (sel (done 15) (box (blk (ga2 15)) 231 [(Value.int .i64 0), (Value.int .i64 0)]) emp)), (sel (done 16) (box (blk (ga2 14)) 231 [(Value.int .i64 ((l0.getD a1.toNat z_Pile_item__int64).x)), (Value.int .i64 ((l0.getD a1.toNat z_Pile_item__int64).n))]) (sel (done 14) (box (blk (ga2 14)) 231 [(Value.int .i64 0), (Value.int .i64 0)]) emp)), (box p0 229 [(Value.func (.func 69) #[] #[]), sv0, (Value.int .i64 p0_2)]), (own sv0 231 2 l0.length (fl enc_Pile_item__int64 l0))] a w) fun ga2 => ?_
              exact draw_value (i := 7) (t := 16) (v := (pt p0 0)) rfl rfl (wanted_none rfl) (fun a => hasA_base) (ov_move rfl) rfl rfl (onlyT_spec (k0 := 7) rfl rfl rfl)
            · intro done hi hc hcu
              refine draw_exi (I := fun (ga2 : Nat → Value) done a w => StD 48 w0 F [(0, (pt p0 0)), (1, (Value.int .i64 a1)), (2, (Value.int .i64 a2)), (6, (Value.bool false))] [(0, 9, (pt p0 0)), (1, 10, (pt p0 0)), (2, 11, (pt p0 1)), (3, 12, sv0), (4, 13, (Value.int .i64 a1)), (5, 14, (eptr sv0 (a1.toNat * 2))), (6, 15, (Value.agg #[(Value.int .i64 ((l0.getD a1.toNat z_Pile_item__int64).x)), (Value.int .i64 ((l0.getD a1.toNat z_Pile_item__int64).n))])), (7, 16, (pt p0 0)), (8, 17, (pt p0 0)), (9, 18, (pt p0 1)), (10, 19, sv0), (11, 20, (Value.int .i64 a2)), (12, 21, (eptr sv0 (a2.toNat * 2))), (13, 22, (Value.agg #[(Value.int .i64 ((l0.getD a2.toNat z_Pile_item__int64).x)), (Value.int .i64 ((l0.getD a2.toNat z_Pile_item__int64).n))])), (14, 7, (pt (blk (ga2 14)) 0)), (15, 8, (pt (blk (ga2 15)) 0))] done [(sel (done 17) (box (blk (ga2 15)) 231 [(Value.int .i64 ((l0.getD a2.toNat z_Pile_item__int64).x)), (Value.int .i64 ((l0.getD a2.toNat z_Pile_item__int64).n))]) (sel (done 15) (box (blk (ga2 15)) 231 [(Value.int .i64 0), (Value.int .i64 0)]) emp)), (sel (done 16) (box (blk (ga2 14)) 231 [(Value.int .i64 ((l0.getD a1.toNat z_Pile_item__int64).x)), (Value.int .i64 ((l0.getD a1.toNat z_Pile_item__int64).n))]) (sel (done 14) (box (blk (ga2 14)) 231 [(Value.int .i64 0), (Value.int .i64 0)]) emp)), (box p0 229 [(Value.func (.func 69) #[] #[]), sv0, (Value.int .i64 p0_2)]), (own sv0 231 2 l0.length (fl enc_Pile_item__int64 l0))] a w) fun ga2 => ?_
              have d7 : done 7 = true := done_of (j := 7) hcu rfl (by decide) rfl
              exact draw_value (i := 8) (t := 17) (v := (pt p0 0)) rfl rfl (wanted_none rfl) (fun a => (hasA_cons (k := 7) rfl d7 hasA_base)) (ov_nilCheck rfl) rfl rfl (onlyT_spec (k0 := 8) rfl rfl rfl)
            · intro done hi hc hcu
              refine draw_exi (I := fun (ga2 : Nat → Value) done a w => StD 48 w0 F [(0, (pt p0 0)), (1, (Value.int .i64 a1)), (2, (Value.int .i64 a2)), (6, (Value.bool false))] [(0, 9, (pt p0 0)), (1, 10, (pt p0 0)), (2, 11, (pt p0 1)), (3, 12, sv0), (4, 13, (Value.int .i64 a1)), (5, 14, (eptr sv0 (a1.toNat * 2))), (6, 15, (Value.agg #[(Value.int .i64 ((l0.getD a1.toNat z_Pile_item__int64).x)), (Value.int .i64 ((l0.getD a1.toNat z_Pile_item__int64).n))])), (7, 16, (pt p0 0)), (8, 17, (pt p0 0)), (9, 18, (pt p0 1)), (10, 19, sv0), (11, 20, (Value.int .i64 a2)), (12, 21, (eptr sv0 (a2.toNat * 2))), (13, 22, (Value.agg #[(Value.int .i64 ((l0.getD a2.toNat z_Pile_item__int64).x)), (Value.int .i64 ((l0.getD a2.toNat z_Pile_item__int64).n))])), (14, 7, (pt (blk (ga2 14)) 0)), (15, 8, (pt (blk (ga2 15)) 0))] done [(sel (done 17) (box (blk (ga2 15)) 231 [(Value.int .i64 ((l0.getD a2.toNat z_Pile_item__int64).x)), (Value.int .i64 ((l0.getD a2.toNat z_Pile_item__int64).n))]) (sel (done 15) (box (blk (ga2 15)) 231 [(Value.int .i64 0), (Value.int .i64 0)]) emp)), (sel (done 16) (box (blk (ga2 14)) 231 [(Value.int .i64 ((l0.getD a1.toNat z_Pile_item__int64).x)), (Value.int .i64 ((l0.getD a1.toNat z_Pile_item__int64).n))]) (sel (done 14) (box (blk (ga2 14)) 231 [(Value.int .i64 0), (Value.int .i64 0)]) emp)), (box p0 229 [(Value.func (.func 69) #[] #[]), sv0, (Value.int .i64 p0_2)]), (own sv0 231 2 l0.length (fl enc_Pile_item__int64 l0))] a w) fun ga2 => ?_
              have d8 : done 8 = true := done_of (j := 8) hcu rfl (by decide) rfl
              exact draw_value (i := 9) (t := 18) (v := (pt p0 1)) rfl rfl (wanted_none rfl) (fun a => (hasA_cons (k := 8) rfl d8 hasA_base)) (ov_fieldAddr (sz := 0) (o := 0) rfl F_field_229_1 F_size_227) rfl rfl (onlyT_spec (k0 := 9) rfl rfl rfl)
            · intro done hi hc hcu
              refine draw_exi (I := fun (ga2 : Nat → Value) done a w => StD 48 w0 F [(0, (pt p0 0)), (1, (Value.int .i64 a1)), (2, (Value.int .i64 a2)), (6, (Value.bool false))] [(0, 9, (pt p0 0)), (1, 10, (pt p0 0)), (2, 11, (pt p0 1)), (3, 12, sv0), (4, 13, (Value.int .i64 a1)), (5, 14, (eptr sv0 (a1.toNat * 2))), (6, 15, (Value.agg #[(Value.int .i64 ((l0.getD a1.toNat z_Pile_item__int64).x)), (Value.int .i64 ((l0.getD a1.toNat z_Pile_item__int64).n))])), (7, 16, (pt p0 0)), (8, 17, (pt p0 0)), (9, 18, (pt p0 1)), (10, 19, sv0), (11, 20, (Value.int .i64 a2)), (12, 21, (eptr sv0 (a2.toNat * 2))), (13, 22, (Value.agg #[(Value.int .i64 ((l0.getD a2.toNat z_Pile_item__int64).x)), (Value.int .i64 ((l0.getD a2.toNat z_Pile_item__int64).n))])), (14, 7, (pt (blk (ga2 14)) 0)), (15, 8, (pt (blk (ga2 15)) 0))] done [(sel (done 17) (box (blk (ga2 15)) 231 [(Value.int .i64 ((l0.getD a2.toNat z_Pile_item__int64).x)), (Value.int .i64 ((l0.getD a2.toNat z_Pile_item__int64).n))]) (sel (done 15) (box (blk (ga2 15)) 231 [(Value.int .i64 0), (Value.int .i64 0)]) emp)), (sel (done 16) (box (blk (ga2 14)) 231 [(Value.int .i64 ((l0.getD a1.toNat z_Pile_item__int64).x)), (Value.int .i64 ((l0.getD a1.toNat z_Pile_item__int64).n))]) (sel (done 14) (box (blk (ga2 14)) 231 [(Value.int .i64 0), (Value.int .i64 0)]) emp)), (box p0 229 [(Value.func (.func 69) #[] #[]), sv0, (Value.int .i64 p0_2)]), (own sv0 231 2 l0.length (fl enc_Pile_item__int64 l0))] a w) fun ga2 => ?_
              have d9 : done 9 = true := done_of (j := 9) hcu rfl (by decide) rfl
              exact draw_value (i := 10) (t := 19) (v := sv0) rfl rfl (wanted_none rfl) (fun a => (hasA_cons (k := 9) rfl d9 hasA_base)) (ov_load (v := sv0) rfl F_agg_227 (reads_box1 (i := 2) rfl rfl)) rfl rfl (onlyT_spec (k0 := 10) rfl rfl rfl)
            · intro done hi hc hcu
              refine draw_exi (I := fun (ga2 : Nat → Value) done a w => StD 48 w0 F [(0, (pt p0 0)), (1, (Value.int .i64 a1)), (2, (Value.int .i64 a2)), (6, (Value.bool false))] [(0, 9, (pt p0 0)), (1, 10, (pt p0 0)), (2, 11, (pt p0 1)), (3, 12, sv0), (4, 13, (Value.int .i64 a1)), (5, 14, (eptr sv0 (a1.toNat * 2))), (6, 15, (Value.agg #[(Value.int .i64 ((l0.getD a1.toNat z_Pile_item__int64).x)), (Value.int .i64 ((l0.getD a1.toNat z_Pile_item__int64).n))])), (7, 16, (pt p0 0)), (8, 17, (pt p0 0)), (9, 18, (pt p0 1)), (10, 19, sv0), (11, 20, (Value.int .i64 a2)), (12, 21, (eptr sv0 (a2.toNat * 2))), (13, 22, (Value.agg #[(Value.int .i64 ((l0.getD a2.toNat z_Pile_item__int64).x)), (Value.int .i64 ((l0.getD a2.toNat z_Pile_item__int64).n))])), (14, 7, (pt (blk (ga2 14)) 0)), (15, 8, (pt (blk (ga2 15)) 0))] done [(sel (done 17) (box (blk (ga2 15)) 231 [(Value.int .i64 ((l0.getD a2.toNat z_Pile_item__int64).x)), (Value.int .i64 ((l0.getD a2.toNat z_Pile_item__int64).n))]) (sel (done 15) (box (blk (ga2 15)) 231 [(Value.int .i64 0), (Value.int .i64 0)]) emp)), (sel (done 16) (box (blk (ga2 14)) 231 [(Value.int .i64 ((l0.getD a1.toNat z_Pile_item__int64).x)), (Value.int .i64 ((l0.getD a1.toNat z_Pile_item__int64).n))]) (sel (done 14) (box (blk (ga2 14)) 231 [(Value.int .i64 0), (Value.int .i64 0)]) emp)), (box p0 229 [(Value.func (.func 69) #[] #[]), sv0, (Value.int .i64 p0_2)]), (own sv0 231 2 l0.length (fl enc_Pile_item__int64 l0))] a w) fun ga2 => ?_
              exact draw_value (i := 11) (t := 20) (v := (Value.int .i64 a2)) rfl rfl (wanted_none rfl) (fun a => hasA_base) (ov_move rfl) rfl rfl (onlyT_spec (k0 := 11) rfl rfl rfl)
            · intro done hi hc hcu
              refine draw_exi (I := fun (ga2 : Nat → Value) done a w => StD 48 w0 F [(0, (pt p0 0)), (1, (Value.int .i64 a1)), (2, (Value.int .i64 a2)), (6, (Value.bool false))] [(0, 9, (pt p0 0)), (1, 10, (pt p0 0)), (2, 11, (pt p0 1)), (3, 12, sv0), (4, 13, (Value.int .i64 a1)), (5, 14, (eptr sv0 (a1.toNat * 2))), (6, 15, (Value.agg #[(Value.int .i64 ((l0.getD a1.toNat z_Pile_item__int64).x)), (Value.int .i64 ((l0.getD a1.toNat z_Pile_item__int64).n))])), (7, 16, (pt p0 0)), (8, 17, (pt p0 0)), (9, 18, (pt p0 1)), (10, 19, sv0), (11, 20, (Value.int .i64 a2)), (12, 21, (eptr sv0 (a2.toNat * 2))), (13, 22, (Value.agg #[(Value.int .i64 ((l0.getD a2.toNat z_Pile_item__int64).x)), (Value.int .i64 ((l0.getD a2.toNat z_Pile_item__int64).n))])), (14, 7, (pt (blk (ga2 14)) 0)), (15, 8, (pt (blk (ga2 15)) 0))] done [(sel (done 17) (box (blk (ga2 15)) 231 [(Value.int .i64 ((l0.getD a2.toNat z_Pile_item__int64).x)), (Value.int .i64 ((l0.getD a2.toNat z_Pile_item__int64).n))]) (sel (done 15) (box (blk (ga2 15)) 231 [(Value.int .i64 0), (Value.int .i64 0)]) emp)), (sel (done 16) (box (blk (ga2 14)) 231 [(Value.int .i64 ((l0.getD a1.toNat z_Pile_item__int64).x)), (Value.int .i64 ((l0.getD a1.toNat z_Pile_item__int64).n))]) (sel (done 14) (box (blk (ga2 14)) 231 [(Value.int .i64 0), (Value.int .i64 0)]) emp)), (box p0 229 [(Value.func (.func 69) #[] #[]), sv0, (Value.int .i64 p0_2)]), (own sv0 231 2 l0.length (fl enc_Pile_item__int64 l0))] a w) fun ga2 => ?_
              have d10 : done 10 = true := done_of (j := 10) hcu rfl (by decide) rfl
              have d11 : done 11 = true := done_of (j := 11) hcu rfl (by decide) rfl
              exact draw_value (i := 12) (t := 21) (v := (eptr sv0 (a2.toNat * 2))) rfl rfl (wanted_none rfl) (fun a => (hasA_cons (k := 11) rfl d11 (hasA_cons (k := 10) rfl d10 hasA_base))) (ov_indexAddr (sz := 1) 3 rfl rfl F_slice_227 F_size_231 rfl (isRd_ownx 231) c11 c12) rfl rfl (onlyT_spec (k0 := 12) rfl rfl rfl)
            · intro done hi hc hcu
              refine draw_exi (I := fun (ga2 : Nat → Value) done a w => StD 48 w0 F [(0, (pt p0 0)), (1, (Value.int .i64 a1)), (2, (Value.int .i64 a2)), (6, (Value.bool false))] [(0, 9, (pt p0 0)), (1, 10, (pt p0 0)), (2, 11, (pt p0 1)), (3, 12, sv0), (4, 13, (Value.int .i64 a1)), (5, 14, (eptr sv0 (a1.toNat * 2))), (6, 15, (Value.agg #[(Value.int .i64 ((l0.getD a1.toNat z_Pile_item__int64).x)), (Value.int .i64 ((l0.getD a1.toNat z_Pile_item__int64).n))])), (7, 16, (pt p0 0)), (8, 17, (pt p0 0)), (9, 18, (pt p0 1)), (10, 19, sv0), (11, 20, (Value.int .i64 a2)), (12, 21, (eptr sv0 (a2.toNat * 2))), (13, 22, (Value.agg #[(Value.int .i64 ((l0.getD a2.toNat z_Pile_item__int64).x)), (Value.int .i64 ((l0.getD a2.toNat z_Pile_item__int64).n))])), (14, 7, (pt (blk (ga2 14)) 0)), (15, 8, (pt (blk (ga2 15)) 0))] done [(sel (done 17) (box (blk (ga2 15)) 231 [(Value.int .i64 ((l0.getD a2.toNat z_Pile_item__int64).x)), (Value.int .i64 ((l0.getD a2.toNat z_Pile_item__int64).n))]) (sel (done 15) (box (blk (ga2 15)) 231 [(Value.int .i64 0), (Value.int .i64 0)]) emp)), (sel (done 16) (box (blk (ga2 14)) 231 [(Value.int .i64 ((l0.getD a1.toNat z_Pile_item__int64).x)), (Value.int .i64 ((l0.getD a1.toNat z_Pile_item__int64).n))]) (sel (done 14) (box (blk (ga2 14)) 231 [(Value.int .i64 0), (Value.int .i64 0)]) emp)), (box p0 229 [(Value.func (.func 69) #[] #[]), sv0, (Value.int .i64 p0_2)]), (own sv0 231 2 l0.length (fl enc_Pile_item__int64 l0))] a w) fun ga2 => ?_
              have d12 : done 12 = true := done_of (j := 12) hcu rfl (by decide) rfl
              exact draw_value (i := 13) (t := 22) (v := (Value.agg #[(Value.int .i64 ((l0.getD a2.toNat z_Pile_item__int64).x)), (Value.int .i64 ((l0.getD a2.toNat z_Pile_item__int64).n))])) rfl rfl (wanted_none rfl) (fun a => (hasA_cons (k := 12) rfl d12 hasA_base)) (ov_load_agg (vs := [(Value.int .i64 ((l0.getD a2.toNat z_Pile_item__int64).x)), (Value.int .i64 ((l0.getD a2.toNat z_Pile_item__int64).n))]) rfl F_agg_231 F_size_231 (reads_rd (i := 3) rfl (isRd_ownx 231) (by simp) (fl_read0 enc_Pile_item__int64_len (ix_lt c11 c12) rfl))) rfl rfl (onlyT_spec (k0 := 13) rfl rfl rfl)
            · intro done hi hc hcu
              refine ent_exi (S := fun ga2 => (fun (ga2 : Nat → Value) done a w => StD 48 w0 F [(0, (pt p0 0)), (1, (Value.int .i64 a1)), (2, (Value.int .i64 a2)), (6, (Value.bool false))] [(0, 9, (pt p0 0)), (1, 10, (pt p0 0)), (2, 11, (pt p0 1)), (3, 12, sv0), (4, 13, (Value.int .i64 a1)), (5, 14, (eptr sv0 (a1.toNat * 2))), (6, 15, (Value.agg #[(Value.int .i64 ((l0.getD a1.toNat z_Pile_item__int64).x)), (Value.int .i64 ((l0.getD a1.toNat z_Pile_item__int64).n))])), (7, 16, (pt p0 0)), (8, 17, (pt p0 0)), (9, 18, (pt p0 1)), (10, 19, sv0), (11, 20, (Value.int .i64 a2)), (12, 21, (eptr sv0 (a2.toNat * 2))), (13, 22, (Value.agg #[(Value.int .i64 ((l0.getD a2.toNat z_Pile_item__int64).x)), (Value.int .i64 ((l0.getD a2.toNat z_Pile_item__int64).n))])), (14, 7, (pt (blk (ga2 14)) 0)), (15, 8, (pt (blk (ga2 15)) 0))] done [(sel (done 17) (box (blk (ga2 15)) 231 [(Value.int .i64 ((l0.getD a2.toNat z_Pile_item__int64).x)), (Value.int .i64 ((l0.getD a2.toNat z_Pile_item__int64).n))]) (sel (done 15) (box (blk (ga2 15)) 231 [(Value.int .i64 0), (Value.int .i64 0)]) emp)), (sel (done 16) (box (blk (ga2 14)) 231 [(Value.int .i64 ((l0.getD a1.toNat z_Pile_item__int64).x)), (Value.int .i64 ((l0.getD a1.toNat z_Pile_item__int64).n))]) (sel (done 14) (box (blk (ga2 14)) 231 [(Value.int .i64 0), (Value.int .i64 0)]) emp)), (box p0 229 [(Value.func (.func 69) #[] #[]), sv0, (Value.int .i64 p0_2)]), (own sv0 231 2 l0.length (fl enc_Pile_item__int64 l0))] a w) ga2 done) fun ga2 => ?_
              have n16 : done 16 = false := notdone_of (m := 16) hc hi rfl rfl
              refine draw_newV (i := 14) (t := 7) (x := ga2) (L := (fun (ga2 : Nat → Value) (done : Nat → Bool) => [(sel (done 17) (box (blk (ga2 15)) 231 [(Value.int .i64 ((l0.getD a2.toNat z_Pile_item__int64).x)), (Value.int .i64 ((l0.getD a2.toNat z_Pile_item__int64).n))]) (sel (done 15) (box (blk (ga2 15)) 231 [(Value.int .i64 0), (Value.int .i64 0)]) emp)), (sel (done 16) (box (blk (ga2 14)) 231 [(Value.int .i64 ((l0.getD a1.toNat z_Pile_item__int64).x)), (Value.int .i64 ((l0.getD a1.toNat z_Pile_item__int64).n))]) (sel (done 14) (box (blk (ga2 14)) 231 [(Value.int .i64 0), (Value.int .i64 0)]) emp)), (box p0 229 [(Value.func (.func 69) #[] #[]), sv0, (Value.int .i64 p0_2)]), (own sv0 231 2 l0.length (fl enc_Pile_item__int64 l0))])) (T := (fun ga2 : Nat → Value => [(0, 9, (pt p0 0)), (1, 10, (pt p0 0)), (2, 11, (pt p0 1)), (3, 12, sv0), (4, 13, (Value.int .i64 a1)), (5, 14, (eptr sv0 (a1.toNat * 2))), (6, 15, (Value.agg #[(Value.int .i64 ((l0.getD a1.toNat z_Pile_item__int64).x)), (Value.int .i64 ((l0.getD a1.toNat z_Pile_item__int64).n))])), (7, 16, (pt p0 0)), (8, 17, (pt p0 0)), (9, 18, (pt p0 1)), (10, 19, sv0), (11, 20, (Value.int .i64 a2)), (12, 21, (eptr sv0 (a2.toNat * 2))), (13, 22, (Value.agg #[(Value.int .i64 ((l0.getD a2.toNat z_Pile_item__int64).x)), (Value.int .i64 ((l0.getD a2.toNat z_Pile_item__int64).n))])), (14, 7, (pt (blk (ga2 14)) 0)), (15, 8, (pt (blk (ga2 15)) 0))])) (L2 := [(sel (done 17) (box (blk (ga2 15)) 231 [(Value.int .i64 ((l0.getD a2.toNat z_Pile_item__int64).x)), (Value.int .i64 ((l0.getD a2.toNat z_Pile_item__int64).n))]) (sel (done 15) (box (blk (ga2 15)) 231 [(Value.int .i64 0), (Value.int .i64 0)]) emp)), emp, (box p0 229 [(Value.func (.func 69) #[] #[]), sv0, (Value.int .i64 p0_2)]), (own sv0 231 2 l0.length (fl enc_Pile_item__int64 l0))]) (B := fun v_ => (box (blk v_) 231 [(Value.int .i64 0), (Value.int .i64 0)])) 1 rfl rfl (wanted_none rfl) (fun a => hasA_base) (by simp only [n16, hi, sel]) (ot_alloc F_zero_231) ?_ rfl (fun v_ => ?_) rfl rfl ?_
              · rintro _ _ ⟨_, rfl, rfl⟩; rfl
              · simp [up, upb, sel, n16, n16, hi]
              · rintro _ _ ⟨_, rfl, rfl⟩
                exact (tr_same rfl rfl (tr_same rfl rfl (tr_same rfl rfl (tr_same rfl rfl (tr_same rfl rfl (tr_same rfl rfl (tr_same rfl rfl (tr_same rfl rfl (tr_same rfl rfl (tr_same rfl rfl (tr_same rfl rfl (tr_same rfl rfl (tr_same rfl rfl (tr_same rfl rfl (tr_this (tr_same rfl rfl tr_nil))))))))))))))))
            · intro done hi hc hcu
              refine ent_exi (S := fun ga2 => (fun (ga2 : Nat → Value) done a w => StD 48 w0 F [(0, (pt p0 0)), (1, (Value.int .i64 a1)), (2, (Value.int .i64 a2)), (6, (Value.bool false))] [(0, 9, (pt p0 0)), (1, 10, (pt p0 0)), (2, 11, (pt p0 1)), (3, 12, sv0), (4, 13, (Value.int .i64 a1)), (5, 14, (eptr sv0 (a1.toNat * 2))), (6, 15, (Value.agg #[(Value.int .i64 ((l0.getD a1.toNat z_Pile_item__int64).x)), (Value.int .i64 ((l0.getD a1.toNat z_Pile_item__int64).n))])), (7, 16, (pt p0 0)), (8, 17, (pt p0 0)), (9, 18, (pt p0 1)), (10, 19, sv0), (11, 20, (Value.int .i64 a2)), (12, 21, (eptr sv0 (a2.toNat * 2))), (13, 22, (Value.agg #[(Value.int .i64 ((l0.getD a2.toNat z_Pile_item__int64).x)), (Value.int .i64 ((l0.getD a2.toNat z_Pile_item__int64).n))])), (14, 7, (pt (blk (ga2 14)) 0)), (15, 8, (pt (blk (ga2 15)) 0))] done [(sel (done 17) (box (blk (ga2 15)) 231 [(Value.int .i64 ((l0.getD a2.toNat z_Pile_item__int64).x)), (Value.int .i64 ((l0.getD a2.toNat z_Pile_item__int64).n))]) (sel (done 15) (box (blk (ga2 15)) 231 [(Value.int .i64 0), (Value.int .i64 0)]) emp)), (sel (done 16) (box (blk (ga2 14)) 231 [(Value.int .i64 ((l0.getD a1.toNat z_Pile_item__int64).x)), (Value.int .i64 ((l0.getD a1.toNat z_Pile_item__int64).n))]) (sel (done 14) (box (blk (ga2 14)) 231 [(Value.int .i64 0), (Value.int .i64 0)]) emp)), (box p0 229 [(Value.func (.func 69) #[] #[]), sv0, (Value.int .i64 p0_2)]), (own sv0 231 2 l0.length (fl enc_Pile_item__int64 l0))] a w) ga2 done) fun ga2 => ?_
              have n17 : done 17 = false := notdone_of (m := 17) hc hi rfl rfl
              refine draw_newV (i := 15) (t := 8) (x := ga2) (L := (fun (ga2 : Nat → Value) (done : Nat → Bool) => [(sel (done 17) (box (blk (ga2 15)) 231 [(Value.int .i64 ((l0.getD a2.toNat z_Pile_item__int64).x)), (Value.int .i64 ((l0.getD a2.toNat z_Pile_item__int64).n))]) (sel (done 15) (box (blk (ga2 15)) 231 [(Value.int .i64 0), (Value.int .i64 0)]) emp)), (sel (done 16) (box (blk (ga2 14)) 231 [(Value.int .i64 ((l0.getD a1.toNat z_Pile_item__int64).x)), (Value.int .i64 ((l0.getD a1.toNat z_Pile_item__int64).n))]) (sel (done 14) (box (blk (ga2 14)) 231 [(Value.int .i64 0), (Value.int .i64 0)]) emp)), (box p0 229 [(Value.func (.func 69) #[] #[]), sv0, (Value.int .i64 p0_2)]), (own sv0 231 2 l0.length (fl enc_Pile_item__int64 l0))])) (T := (fun ga2 : Nat → Value => [(0, 9, (pt p0 0)), (1, 10, (pt p0 0)), (2, 11, (pt p0 1)), (3, 12, sv0), (4, 13, (Value.int .i64 a1)), (5, 14, (eptr sv0 (a1.toNat * 2))), (6, 15, (Value.agg #[(Value.int .i64 ((l0.getD a1.toNat z_Pile_item__int64).x)), (Value.int .i64 ((l0.getD a1.toNat z_Pile_item__int64).n))])), (7, 16, (pt p0 0)), (8, 17, (pt p0 0)), (9, 18, (pt p0 1)), (10, 19, sv0), (11, 20, (Value.int .i64 a2)), (12, 21, (eptr sv0 (a2.toNat * 2))), (13, 22, (Value.agg #[(Value.int .i64 ((l0.getD a2.toNat z_Pile_item__int64).x)), (Value.int .i64 ((l0.getD a2.toNat z_Pile_item__int64).n))])), (14, 7, (pt (blk (ga2 14)) 0)), (15, 8, (pt (blk (ga2 15)) 0))])) (L2 := [emp, (sel (done 16) (box (blk (ga2 14)) 231 [(Value.int .i64 ((l0.getD a1.toNat z_Pile_item__int64).x)), (Value.int .i64 ((l0.getD a1.toNat z_Pile_item__int64).n))]) (sel (done 14) (box (blk (ga2 14)) 231 [(Value.int .i64 0), (Value.int .i64 0)]) emp)), (box p0 229 [(Value.func (.func 69) #[] #[]), sv0, (Value.int .i64 p0_2)]), (own sv0 231 2 l0.length (fl enc_Pile_item__int64 l0))]) (B := fun v_ => (box (blk v_) 231 [(Value.int .i64 0), (Value.int .i64 0)])) 0 rfl rfl (wanted_none rfl) (fun a => hasA_base) (by simp only [n17, hi, sel]) (ot_alloc F_zero_231) ?_ rfl (fun v_ => ?_) rfl rfl ?_
              · rintro _ _ ⟨_, rfl, rfl⟩; rfl
              · simp [up, upb, sel, n17, n17, hi]
              · rintro _ _ ⟨_, rfl, rfl⟩
                exact (tr_same rfl rfl (tr_same rfl rfl (tr_same rfl rfl (tr_same rfl rfl (tr_same rfl rfl (tr_same rfl rfl (tr_same rfl rfl (tr_same rfl rfl (tr_same rfl rfl (tr_same rfl rfl (tr_same rfl rfl (tr_same rfl rfl (tr_same rfl rfl (tr_same rfl rfl (tr_same rfl rfl (tr_this tr_nil))))))))))))))))
            · intro done hi hc hcu
              refine draw_exi (I := fun (ga2 : Nat → Value) done a w => StD 48 w0 F [(0, (pt p0 0)), (1, (Value.int .i64 a1)), (2, (Value.int .i64 a2)), (6, (Value.bool false))] [(0, 9, (pt p0 0)), (1, 10, (pt p0 0)), (2, 11, (pt p0 1)), (3, 12, sv0), (4, 13, (Value.int .i64 a1)), (5, 14, (eptr sv0 (a1.toNat * 2))), (6, 15, (Value.agg #[(Value.int .i64 ((l0.getD a1.toNat z_Pile_item__int64).x)), (Value.int .i64 ((l0.getD a1.toNat z_Pile_item__int64).n))])), (7, 16, (pt p0 0)), (8, 17, (pt p0 0)), (9, 18, (pt p0 1)), (10, 19, sv0), (11, 20, (Value.int .i64 a2)), (12, 21, (eptr sv0 (a2.toNat * 2))), (13, 22, (Value.agg #[(Value.int .i64 ((l0.getD a2.toNat z_Pile_item__int64).x)), (Value.int .i64 ((l0.getD a2.toNat z_Pile_item__int64).n))])), (14, 7, (pt (blk (ga2 14)) 0)), (15, 8, (pt (blk (ga2 15)) 0))] done [(sel (done 17) (box (blk (ga2 15)) 231 [(Value.int .i64 ((l0.getD a2.toNat z_Pile_item__int64).x)), (Value.int .i64 ((l0.getD a2.toNat z_Pile_item__int64).n))]) (sel (done 15) (box (blk (ga2 15)) 231 [(Value.int .i64 0), (Value.int .i64 0)]) emp)), (sel (done 16) (box (blk (ga2 14)) 231 [(Value.int .i64 ((l0.getD a1.toNat z_Pile_item__int64).x)), (Value.int .i64 ((l0.getD a1.toNat z_Pile_item__int64).n))]) (sel (done 14) (box (blk (ga2 14)) 231 [(Value.int .i64 0), (Value.int .i64 0)]) emp)), (box p0 229 [(Value.func (.func 69) #[] #[]), sv0, (Value.int .i64 p0_2)]), (own sv0 231 2 l0.length (fl enc_Pile_item__int64 l0))] a w) fun ga2 => ?_
              have d14 : done 14 = true := done_of (j := 14) hcu rfl (by decide) rfl
              have d6 : done 6 = true := done_of (j := 6) hcu rfl (by decide) rfl
              exact draw_store (i := 16) (L2 := [(sel (done 17) (box (blk (ga2 15)) 231 [(Value.int .i64 ((l0.getD a2.toNat z_Pile_item__int64).x)), (Value.int .i64 ((l0.getD a2.toNat z_Pile_item__int64).n))]) (sel (done 15) (box (blk (ga2 15)) 231 [(Value.int .i64 0), (Value.int .i64 0)]) emp)), (box (blk (ga2 14)) 231 [(Value.int .i64 0), (Value.int .i64 0)]), (box p0 229 [(Value.func (.func 69) #[] #[]), sv0, (Value.int .i64 p0_2)]), (own sv0 231 2 l0.length (fl enc_Pile_item__int64 l0))]) (L3 := [(sel (done 17) (box (blk (ga2 15)) 231 [(Value.int .i64 ((l0.getD a2.toNat z_Pile_item__int64).x)), (Value.int .i64 ((l0.getD a2.toNat z_Pile_item__int64).n))]) (sel (done 15) (box (blk (ga2 15)) 231 [(Value.int .i64 0), (Value.int .i64 0)]) emp)), (box (blk (ga2 14)) 231 [(Value.int .i64 ((l0.getD a1.toNat z_Pile_item__int64).x)), (Value.int .i64 ((l0.getD a1.toNat z_Pile_item__int64).n))]), (box p0 229 [(Value.func (.func 69) #[] #[]), sv0, (Value.int .i64 p0_2)]), (own sv0 231 2 l0.length (fl enc_Pile_item__int64 l0))]) rfl rfl (wanted_none rfl) (fun a => (hasA_cons (k := 6) rfl d6 (hasA_cons (k := 14) rfl d14 hasA_base))) (by simp only [d14, hi, sel]) (by simp [up, d14, sel]) (ot_storeG (cs := [(Value.int .i64 0), (Value.int .i64 0)]) (cs' := [(Value.int .i64 ((l0.getD a1.toNat z_Pile_item__int64).x)), (Value.int .i64 ((l0.getD a1.toNat z_Pile_item__int64).n))]) (us := [(Value.int .i64 ((l0.getD a1.toNat z_Pile_item__int64).x)), (Value.int .i64 ((l0.getD a1.toNat z_Pile_item__int64).n))]) (L' := [(sel (done 17) (box (blk (ga2 15)) 231 [(Value.int .i64 ((l0.getD a2.toNat z_Pile_item__int64).x)), (Value.int .i64 ((l0.getD a2.toNat z_Pile_item__int64).n))]) (sel (done 15) (box (blk (ga2 15)) 231 [(Value.int .i64 0), (Value.int .i64 0)]) emp)), (box (blk (ga2 14)) 231 [(Value.int .i64 ((l0.getD a1.toNat z_Pile_item__int64).x)), (Value.int .i64 ((l0.getD a1.toNat z_Pile_item__int64).n))]), (box p0 229 [(Value.func (.func 69) #[] #[]), sv0, (Value.int .i64 p0_2)]), (own sv0 231 2 l0.length (fl enc_Pile_item__int64 l0))]) 1 rfl rfl rfl (one_all rfl) F_size_231 rfl rfl (by simp) rfl) (offT_spec rfl)
            · intro done hi hc hcu
              refine draw_exi (I := fun (ga2 : Nat → Value) done a w => StD 48 w0 F [(0, (pt p0 0)), (1, (Value.int .i64 a1)), (2, (Value.int .i64 a2)), (6, (Value.bool false))] [(0, 9, (pt p0 0)), (1, 10, (pt p0 0)), (2, 11, (pt p0 1)), (3, 12, sv0), (4, 13, (Value.int .i64 a1)), (5, 14, (eptr sv0 (a1.toNat * 2))), (6, 15, (Value.agg #[(Value.int .i64 ((l0.getD a1.toNat z_Pile_item__int64).x)), (Value.int .i64 ((l0.getD a1.toNat z_Pile_item__int64).n))])), (7, 16, (pt p0 0)), (8, 17, (pt p0 0)), (9, 18, (pt p0 1)), (10, 19, sv0), (11, 20, (Value.int .i64 a2)), (12, 21, (eptr sv0 (a2.toNat * 2))), (13, 22, (Value.agg #[(Value.int .i64 ((l0.getD a2.toNat z_Pile_item__int64).x)), (Value.int .i64 ((l0.getD a2.toNat z_Pile_item__int64).n))])), (14, 7, (pt (blk (ga2 14)) 0)), (15, 8, (pt (blk (ga2 15)) 0))] done [(sel (done 17) (box (blk (ga2 15)) 231 [(Value.int .i64 ((l0.getD a2.toNat z_Pile_item__int64).x)), (Value.int .i64 ((l0.getD a2.toNat z_Pile_item__int64).n))]) (sel (done 15) (box (blk (ga2 15)) 231 [(Value.int .i64 0), (Value.int .i64 0)]) emp)), (sel (done 16) (box (blk (ga2 14)) 231 [(Value.int .i64 ((l0.getD a1.toNat z_Pile_item__int64).x)), (Value.int .i64 ((l0.getD a1.toNat z_Pile_item__int64).n))]) (sel (done 14) (box (blk (ga2 14)) 231 [(Value.int .i64 0), (Value.int .i64 0)]) emp)), (box p0 229 [(Value.func (.func 69) #[] #[]), sv0, (Value.int .i64 p0_2)]), (own sv0 231 2 l0.length (fl enc_Pile_item__int64 l0))] a w) fun ga2 => ?_
              have d15 : done 15 = true := done_of (j := 15) hcu rfl (by decide) rfl
              have d13 : done 13 = true := done_of (j := 13) hcu rfl (by decide) rfl
              exact draw_store (i := 17) (L2 := [(box (blk (ga2 15)) 231 [(Value.int .i64 0), (Value.int .i64 0)]), (sel (done 16) (box (blk (ga2 14)) 231 [(Value.int .i64 ((l0.getD a1.toNat z_Pile_item__int64).x)), (Value.int .i64 ((l0.getD a1.toNat z_Pile_item__int64).n))]) (sel (done 14) (box (blk (ga2 14)) 231 [(Value.int .i64 0), (Value.int .i64 0)]) emp)), (box p0 229 [(Value.func (.func 69) #[] #[]), sv0, (Value.int .i64 p0_2)]), (own sv0 231 2 l0.length (fl enc_Pile_item__int64 l0))]) (L3 := [(box (blk (ga2 15)) 231 [(Value.int .i64 ((l0.getD a2.toNat z_Pile_item__int64).x)), (Value.int .i64 ((l0.getD a2.toNat z_Pile_item__int64).n))]), (sel (done 16) (box (blk (ga2 14)) 231 [(Value.int .i64 ((l0.getD a1.toNat z_Pile_item__int64).x)), (Value.int .i64 ((l0.getD a1.toNat z_Pile_item__int64).n))]) (sel (done 14) (box (blk (ga2 14)) 231 [(Value.int .i64 0), (Value.int .i64 0)]) emp)), (box p0 229 [(Value.func (.func 69) #[] #[]), sv0, (Value.int .i64 p0_2)]), (own sv0 231 2 l0.length (fl enc_Pile_item__int64 l0))]) rfl rfl (wanted_none rfl) (fun a => (hasA_cons (k := 13) rfl d13 (hasA_cons (k := 15) rfl d15 hasA_base))) (by simp only [d15, hi, sel]) (by simp [up, d15, sel]) (ot_storeG (cs := [(Value.int .i64 0), (Value.int .i64 0)]) (cs' := [(Value.int .i64 ((l0.getD a2.toNat z_Pile_item__int64).x)), (Value.int .i64 ((l0.getD a2.toNat z_Pile_item__int64).n))]) (us := [(Value.int .i64 ((l0.getD a2.toNat z_Pile_item__int64).x)), (Value.int .i64 ((l0.getD a2.toNat z_Pile_item__int64).n))]) (L' := [(box (blk (ga2 15)) 231 [(Value.int .i64 ((l0.getD a2.toNat z_Pile_item__int64).x)), (Value.int .i64 ((l0.getD a2.toNat z_Pile_item__int64).n))]), (sel (done 16) (box (blk (ga2 14)) 231 [(Value.int .i64 ((l0.getD a1.toNat z_Pile_item__int64).x)), (Value.int .i64 ((l0.getD a1.toNat z_Pile_item__int64).n))]) (sel (done 14) (box (blk (ga2 14)) 231 [(Value.int .i64 0), (Value.int .i64 0)]) emp)), (box p0 229 [(Value.func (.func 69) #[] #[]), sv0, (Value.int .i64 p0_2)]), (own sv0 231 2 l0.length (fl enc_Pile_item__int64 l0))]) 0 rfl rfl rfl (one_all rfl) F_size_231 rfl rfl (by simp) rfl) (offT_spec rfl)
          · intro done hall
            refine ent_exi (S := fun ga2 => (fun (ga2 : Nat → Value) done a w => StD 48 w0 F [(0, (pt p0 0)), (1, (Value.int .i64 a1)), (2, (Value.int .i64 a2)), (6, (Value.bool false))] [(0, 9, (pt p0 0)), (1, 10, (pt p0 0)), (2, 11, (pt p0 1)), (3, 12, sv0), (4, 13, (Value.int .i64 a1)), (5, 14, (eptr sv0 (a1.toNat * 2))), (6, 15, (Value.agg #[(Value.int .i64 ((l0.getD a1.toNat z_Pile_item__int64).x)), (Value.int .i64 ((l0.getD a1.toNat z_Pile_item__int64).n))])), (7, 16, (pt p0 0)), (8, 17, (pt p0 0)), (9, 18, (pt p0 1)), (10, 19, sv0), (11, 20, (Value.int .i64 a2)), (12, 21, (eptr sv0 (a2.toNat * 2))), (13, 22, (Value.agg #[(Value.int .i64 ((l0.getD a2.toNat z_Pile_item__int64).x)), (Value.int .i64 ((l0.getD a2.toNat z_Pile_item__int64).n))])), (14, 7, (pt (blk (ga2 14)) 0)), (15, 8, (pt (blk (ga2 15)) 0))] done [(sel (done 17) (box (blk (ga2 15)) 231 [(Value.int .i64 ((l0.getD a2.toNat z_Pile_item__int64).x)), (Value.int .i64 ((l0.getD a2.toNat z_Pile_item__int64).n))]) (sel (done 15) (box (blk (ga2 15)) 231 [(Value.int .i64 0), (Value.int .i64 0)]) emp)), (sel (done 16) (box (blk (ga2 14)) 231 [(Value.int .i64 ((l0.getD a1.toNat z_Pile_item__int64).x)), (Value.int .i64 ((l0.getD a1.toNat z_Pile_item__int64).n))]) (sel (done 14) (box (blk (ga2 14)) 231 [(Value.int .i64 0), (Value.int .i64 0)]) emp)), (box p0 229 [(Value.func (.func 69) #[] #[]), sv0, (Value.int .i64 p0_2)]), (own sv0 231 2 l0.length (fl enc_Pile_item__int64 l0))] a w) ga2 done) fun ga2 => ?_
            refine draw_endL [(box (blk (ga2 15)) 231 [(Value.int .i64 ((l0.getD a2.toNat z_Pile_item__int64).x)), (Value.int .i64 ((l0.getD a2.toNat z_Pile_item__int64).n))]), (box (blk (ga2 14)) 231 [(Value.int .i64 ((l0.getD a1.toNat z_Pile_item__int64).x)), (Value.int .i64 ((l0.getD a1.toNat z_Pile_item__int64).n))]), (box p0 229 [(Value.func (.func 69) #[] #[]), sv0, (Value.int .i64 p0_2)]), (own sv0 231 2 l0.length (fl enc_Pile_item__int64 l0))] (by simp only [hall 14 (by decide), hall 15 (by decide), hall 16 (by decide), hall 17 (by decide), sel]) (fun a => (hasA_cons (k := 14) rfl (hall 14 (by decide)) (hasA_cons (k := 15) rfl (hall 15 (by decide)) (hasA_cons (k := 0) rfl (hall 0 (by decide)) (hasA_cons (k := 1) rfl (hall 1 (by decide)) (hasA_cons (k := 2) rfl (hall 2 (by decide)) (hasA_cons (k := 3) rfl (hall 3 (by decide)) (hasA_cons (k := 4) rfl (hall 4 (by decide)) (hasA_cons (k := 5) rfl (hall 5 (by decide)) (hasA_cons (k := 6) rfl (hall 6 (by decide)) (hasA_cons (k := 7) rfl (hall 7 (by decide)) (hasA_cons (k := 8) rfl (hall 8 (by decide)) (hasA_cons (k := 9) rfl (hall 9 (by decide)) (hasA_cons (k := 10) rfl (hall 10 (by decide)) (hasA_cons (k := 11) rfl (hall 11 (by decide)) (hasA_cons (k := 12) rfl (hall 12 (by decide)) (hasA_cons (k := 13) rfl (hall 13 (by decide)) hasA_base))))))))))))))))) ?_
            refine ent_seq ?_
            refine ent_block ?_
            refine ent_seq ?_
            obtain ⟨x7, h7, H⟩ := thn_elim H
            refine ent_drawm 10 rfl (fun done a w => StD 48 w0 F [(0, (pt p0 0)), (1, (Value.int .i64 a1)), (2, (Value.int .i64 a2)), (6, (Value.bool false)), (7, (pt (blk (ga2 14)) 0)), (8, (pt (blk (ga2 15)) 0)), (9, (pt p0 0)), (10, (pt p0 0)), (11, (pt p0 1)), (12, sv0), (13, (Value.int .i64 a1)), (14, (eptr sv0 (a1.toNat * 2))), (15, (Value.agg #[(Value.int .i64 ((l0.getD a1.toNat z_Pile_item__int64).x)), (Value.int .i64 ((l0.getD a1.toNat z_Pile_item__int64).n))])), (16, (pt p0 0)), (17, (pt p0 0)), (18, (pt p0 1)), (19, sv0), (20, (Value.int .i64 a2)), (21, (eptr sv0 (a2.toNat * 2))), (22, (Value.agg #[(Value.int .i64 ((l0.getD a2.toNat z_Pile_item__int64).x)), (Value.int .i64 ((l0.getD a2.toNat z_Pile_item__int64).n))]))] [(0, 24, (pt p0 0)), (1, 25, (pt p0 0)), (2, 26, (pt p0 0)), (3, 27, (Value.func (.func 69) #[] #[])), (4, 28, (pt (blk (ga2 14)) 0)), (5, 29, (Value.int .i64 ((l0.getD a1.toNat z_Pile_item__int64).x))), (6, 30, (pt (blk (ga2 15)) 0)), (7, 31, (Value.int .i64 ((l0.getD a2.toNat z_Pile_item__int64).x))), (8, 32, (Value.bool x7)), (9, 23, (Value.bool x7))] done [(box (blk (ga2 15)) 231 [(Value.int .i64 ((l0.getD a2.toNat z_Pile_item__int64).x)), (Value.int .i64 ((l0.getD a2.toNat z_Pile_item__int64).n))]), (box (blk (ga2 14)) 231 [(Value.int .i64 ((l0.getD a1.toNat z_Pile_item__int64).x)), (Value.int .i64 ((l0.getD a1.toNat z_Pile_item__int64).n))]), (box p0 229 [(Value.func (.func 69) #[] #[]), sv0, (Value.int .i64 p0_2)]), (own sv0 231 2 l0.length (fl enc_Pile_item__int64 l0))] a w) (by kernel_rfl) (by kernel_rfl) (draw_startL (sub_cons (t := 0) rfl (sub_cons (t := 1) rfl (sub_cons (t := 2) rfl (sub_cons (t := 6) rfl (sub_cons (t := 7) rfl (sub_cons (t := 8) rfl (sub_cons (t := 9) rfl (sub_cons (t := 10) rfl (sub_cons (t := 11) rfl (sub_cons (t := 12) rfl (sub_cons (t := 13) rfl (sub_cons (t := 14) rfl (sub_cons (t := 15) rfl (sub_cons (t := 16) rfl (sub_cons (t := 17) rfl (sub_cons (t := 18) rfl (sub_cons (t := 19) rfl (sub_cons (t := 20) rfl (sub_cons (t := 21) rfl (sub_cons (t := 22) rfl (sub_nil _))))))))))))))))))))) rfl) ?_ ?_
            · refine ⟨?_, ?_, ?_, ?_, ?_, ?_, ?_, ?_, ?_, ?_, trivial⟩
              · intro done hi hc hcu
                exact draw_value (i := 0) (t := 24) (v := (pt p0 0)) rfl rfl (wanted_none rfl) (fun a => hasA_base) (ov_move rfl) rfl rfl (onlyT_spec (k0 := 0) rfl rfl rfl)
              · intro done hi hc hcu
                have d0 : done 0 = true := done_of (j := 0) hcu rfl (by decide) rfl
                exact draw_value (i := 1) (t := 25) (v := (pt p0 0)) rfl rfl (wanted_none rfl) (fun a => (hasA_cons (k := 0) rfl d0 hasA_base)) (ov_nilCheck rfl) rfl rfl (onlyT_spec (k0 := 1) rfl rfl rfl)
              · intro done hi hc hcu
                have d1 : done 1 = true := done_of (j := 1) hcu rfl (by decide) rfl
                exact draw_value (i := 2) (t := 26) (v := (pt p0 0)) rfl rfl (wanted_none rfl) (fun a => (hasA_cons (k := 1) rfl d1 hasA_base)) (ov_fieldAddr (sz := 0) (o := 0) rfl F_field_229_0 F_size_98) rfl rfl (onlyT_spec (k0 := 2) rfl rfl rfl)
              · intro done hi hc hcu
                have d2 : done 2 = true := done_of (j := 2) hcu rfl (by decide) rfl
                exact draw_value (i := 3) (t := 27) (v := (Value.func (.func 69) #[] #[])) rfl rfl (wanted_none rfl) (fun a => (hasA_cons (k := 2) rfl d2 hasA_base)) (ov_load (v := (Value.func (.func 69) #[] #[])) rfl F_agg_98 (reads_box1 (i := 2) rfl rfl)) rfl rfl (onlyT_spec (k0 := 3) rfl rfl rfl)
              · intro done hi hc hcu
                exact draw_value (i := 4) (t := 28) (v := (pt (blk (ga2 14)) 0)) rfl rfl (wanted_none rfl) (fun a => hasA_base) (ov_fieldAddr (sz := 0) (o := 0) rfl F_field_231_0 F_size_2) rfl rfl (onlyT_spec (k0 := 4) rfl rfl rfl)
              · intro done hi hc hcu
                have d4 : done 4 = true := done_of (j := 4) hcu rfl (by decide) rfl
                exact draw_value (i := 5) (t := 29) (v := (Value.int .i64 ((l0.getD a1.toNat z_Pile_item__int64).x))) rfl rfl (wanted_none rfl) (fun a => (hasA_cons (k := 4) rfl d4 hasA_base)) (ov_load (v := (Value.int .i64 ((l0.getD a1.toNat z_Pile_item__int64).x))) rfl F_agg_2 (reads_box1 (i := 1) rfl rfl)) rfl rfl (onlyT_spec (k0 := 5) rfl rfl rfl)
              · intro done hi hc hcu
                exact draw_value (i := 6) (t := 30) (v := (pt (blk (ga2 15)) 0)) rfl rfl (wanted_none rfl) (fun a => hasA_base) (ov_fieldAddr (sz := 0) (o := 0) rfl F_field_231_0 F_size_2) rfl rfl (onlyT_spec (k0 := 6) rfl rfl rfl)
              · intro done hi hc hcu
                have d6 : done 6 = true := done_of (j := 6) hcu rfl (by decide) rfl
                exact draw_value (i := 7) (t := 31) (v := (Value.int .i64 ((l0.getD a2.toNat z_Pile_item__int64).x))) rfl rfl (wanted_none rfl) (fun a => (hasA_cons (k := 6) rfl d6 hasA_base)) (ov_load (v := (Value.int .i64 ((l0.getD a2.toNat z_Pile_item__int64).x))) rfl F_agg_2 (reads_box1 (i := 0) rfl rfl)) rfl rfl (onlyT_spec (k0 := 7) rfl rfl rfl)
              · intro done hi hc hcu
                have d3 : done 3 = true := done_of (j := 3) hcu rfl (by decide) rfl
                have d5 : done 5 = true := done_of (j := 5) hcu rfl (by decide) rfl
                have d7 : done 7 = true := done_of (j := 7) hcu rfl (by decide) rfl
                exact draw_same (i := 8) (t := 32) (v := (Value.bool x7)) rfl rfl (wanted_none rfl) (fun a => (hasA_cons (k := 7) rfl d7 (hasA_cons (k := 5) rfl d5 (hasA_cons (k := 3) rfl d3 hasA_base)))) (ot_call0 (first := []) (cap := []) (xs := [.tmp 29, .tmp 31]) rfl rfl F_call_69 rfl (stat_Rank_1.spec ((l0.getD a1.toNat z_Pile_item__int64).x) ((l0.getD a2.toNat z_Pile_item__int64).x) _ h7)) rfl rfl (onlyT_spec (k0 := 8) rfl rfl rfl)
              · intro done hi hc hcu
                have d8 : done 8 = true := done_of (j := 8) hcu rfl (by decide) rfl
                exact draw_value (i := 9) (t := 23) (v := (Value.bool x7)) rfl rfl (wanted_none rfl) (fun a => (hasA_cons (k := 8) rfl d8 hasA_base)) (ov_assign rfl) rfl rfl (onlyT_spec (k0 := 9) rfl rfl rfl)
            · intro done hall
              refine draw_endL [(box (blk (ga2 15)) 231 [(Value.int .i64 ((l0.getD a2.toNat z_Pile_item__int64).x)), (Value.int .i64 ((l0.getD a2.toNat z_Pile_item__int64).n))]), (box (blk (ga2 14)) 231 [(Value.int .i64 ((l0.getD a1.toNat z_Pile_item__int64).x)), (Value.int .i64 ((l0.getD a1.toNat z_Pile_item__int64).n))]), (box p0 229 [(Value.func (.func 69) #[] #[]), sv0, (Value.int .i64 p0_2)]), (own sv0 231 2 l0.length (fl enc_Pile_item__int64 l0))] rfl (fun a => (hasA_cons (k := 9) rfl (hall 9 (by decide)) (hasA_cons (k := 0) rfl (hall 0 (by decide)) (hasA_cons (k := 1) rfl (hall 1 (by decide)) (hasA_cons (k := 2) rfl (hall 2 (by decide)) (hasA_cons (k := 3) rfl (hall 3 (by decide)) (hasA_cons (k := 4) rfl (hall 4 (by decide)) (hasA_cons (k := 5) rfl (hall 5 (by decide)) (hasA_cons (k := 6) rfl (hall 6 (by decide)) (hasA_cons (k := 7) rfl (hall 7 (by decide)) (hasA_cons (k := 8) rfl (hall 8 (by decide)) hasA_base))))))))))) ?_
              by_cases c15 : x7 = true
              · rw [if_pos c15] at H
                refine ent_cond_true rfl c15 ?_
                refine ent_seq ?_
                refine ent_region ?_
                refine ent_value (ov_assign rfl) rfl rfl rfl ?_
                refine ent_nil ?_
                refine ent_retc ?_
                cases H
                refine ent_pick [2, 3] (by decide) rfl ?_
                exact ret_tmp rfl rfl ⟨rfl, rfl⟩
              · rw [if_neg c15] at H
                refine ent_cond_false rfl (Bool.eq_false_iff.2 c15) ?_
                refine ent_seq ?_
                obtain ⟨x8, h8, H⟩ := thn_elim H
                refine ent_drawm 10 rfl (fun done a w => StD 48 w0 F [(0, (pt p0 0)), (1, (Value.int .i64 a1)), (2, (Value.int .i64 a2)), (6, (Value.bool false)), (7, (pt (blk (ga2 14)) 0)), (8, (pt (blk (ga2 15)) 0)), (9, (pt p0 0)), (10, (pt p0 0)), (11, (pt p0 1)), (12, sv0), (13, (Value.int .i64 a1)), (14, (eptr sv0 (a1.toNat * 2))), (15, (Value.agg #[(Value.int .i64 ((l0.getD a1.toNat z_Pile_item__int64).x)), (Value.int .i64 ((l0.getD a1.toNat z_Pile_item__int64).n))])), (16, (pt p0 0)), (17, (pt p0 0)), (18, (pt p0 1)), (19, sv0), (20, (Value.int .i64 a2)), (21, (eptr sv0 (a2.toNat * 2))), (22, (Value.agg #[(Value.int .i64 ((l0.getD a2.toNat z_Pile_item__int64).x)), (Value.int .i64 ((l0.getD a2.toNat z_Pile_item__int64).n))])), (23, (Value.bool x7)), (24, (pt p0 0)), (25, (pt p0 0)), (26, (pt p0 0)), (27, (Value.func (.func 69) #[] #[])), (28, (pt (blk (ga2 14)) 0)), (29, (Value.int .i64 ((l0.getD a1.toNat z_Pile_item__int64).x))), (30, (pt (blk (ga2 15)) 0)), (31, (Value.int .i64 ((l0.getD a2.toNat z_Pile_item__int64).x))), (32, (Value.bool x7))] [(0, 34, (pt p0 0)), (1, 35, (pt p0 0)), (2, 36, (pt p0 0)), (3, 37, (Value.func (.func 69) #[] #[])), (4, 38, (pt (blk (ga2 15)) 0)), (5, 39, (Value.int .i64 ((l0.getD a2.toNat z_Pile_item__int64).x))), (6, 40, (pt (blk (ga2 14)) 0)), (7, 41, (Value.int .i64 ((l0.getD a1.toNat z_Pile_item__int64).x))), (8, 42, (Value.bool x8)), (9, 33, (Value.bool x8))] done [(box (blk (ga2 15)) 231 [(Value.int .i64 ((l0.getD a2.toNat z_Pile_item__int64).x)), (Value.int .i64 ((l0.getD a2.toNat z_Pile_item__int64).n))]), (box (blk (ga2 14)) 231 [(Value.int .i64 ((l0.getD a1.toNat z_Pile_item__int64).x)), (Value.int .i64 ((l0.getD a1.toNat z_Pile_item__int64).n))]), (box p0 229 [(Value.func (.func 69) #[] #[]), sv0, (Value.int .i64 p0_2)]), (own sv0 231 2 l0.length (fl enc_Pile_item__int64 l0))] a w) (by kernel_rfl) (by kernel_rfl) (draw_startL (sub_cons (t := 0) rfl (sub_cons (t := 1) rfl (sub_cons (t := 2) rfl (sub_cons (t := 6) rfl (sub_cons (t := 7) rfl (sub_cons (t := 8) rfl (sub_cons (t := 9) rfl (sub_cons (t := 10) rfl (sub_cons (t := 11) rfl (sub_cons (t := 12) rfl (sub_cons (t := 13) rfl (sub_cons (t := 14) rfl (sub_cons (t := 15) rfl (sub_cons (t := 16) rfl (sub_cons (t := 17) rfl (sub_cons (t := 18) rfl (sub_cons (t := 19) rfl (sub_cons (t := 20) rfl (sub_cons (t := 21) rfl (sub_cons (t := 22) rfl (sub_cons (t := 23) rfl (sub_cons (t := 24) rfl (sub_cons (t := 25) rfl (sub_cons (t := 26) rfl (sub_cons (t := 27) rfl (sub_cons (t := 28) rfl (sub_cons (t := 29) rfl (sub_cons (t := 30) rfl (sub_cons (t := 31) rfl (sub_cons (t := 32) rfl (sub_nil _))))))))))))))))))))))))))))))) rfl) ?_ ?_
                · refine ⟨?_, ?_, ?_, ?_, ?_, ?_, ?_, ?_, ?_, ?_, trivial⟩
                  · intro done hi hc hcu
                    exact draw_value (i := 0) (t := 34) (v := (pt p0 0)) rfl rfl (wanted_none rfl) (fun a => hasA_base) (ov_move rfl) rfl rfl (onlyT_spec (k0 := 0) rfl rfl rfl)
                  · intro done hi hc hcu
                    have d0 : done 0 = true := done_of (j := 0) hcu rfl (by decide) rfl
                    exact draw_value (i := 1) (t := 35) (v := (pt p0 0)) rfl rfl (wanted_none rfl) (fun a => (hasA_cons (k := 0) rfl d0 hasA_base)) (ov_nilCheck rfl) rfl rfl (onlyT_spec (k0 := 1) rfl rfl rfl)
                  · intro done hi hc hcu
                    have d1 : done 1 = true := done_of (j := 1) hcu rfl (by decide) rfl
                    exact draw_value (i := 2) (t := 36) (v := (pt p0 0)) rfl rfl (wanted_none rfl) (fun a => (hasA_cons (k := 1) rfl d1 hasA_base)) (ov_fieldAddr (sz := 0) (o := 0) rfl F_field_229_0 F_size_98) rfl rfl (onlyT_spec (k0 := 2) rfl rfl rfl)
                  · intro done hi hc hcu
                    have d2 : done 2 = true := done_of (j := 2) hcu rfl (by decide) rfl
                    exact draw_value (i := 3) (t := 37) (v := (Value.func (.func 69) #[] #[])) rfl rfl (wanted_none rfl) (fun a => (hasA_cons (k := 2) rfl d2 hasA_base)) (ov_load (v := (Value.func (.func 69) #[] #[])) rfl F_agg_98 (reads_box1 (i := 2) rfl rfl)) rfl rfl (onlyT_spec (k0 := 3) rfl rfl rfl)
                  · intro done hi hc hcu
                    exact draw_value (i := 4) (t := 38) (v := (pt (blk (ga2 15)) 0)) rfl rfl (wanted_none rfl) (fun a => hasA_base) (ov_fieldAddr (sz := 0) (o := 0) rfl F_field_231_0 F_size_2) rfl rfl (onlyT_spec (k0 := 4) rfl rfl rfl)
                  · intro done hi hc hcu
                    have d4 : done 4 = true := done_of (j := 4) hcu rfl (by decide) rfl
                    exact draw_value (i := 5) (t := 39) (v := (Value.int .i64 ((l0.getD a2.toNat z_Pile_item__int64).x))) rfl rfl (wanted_none rfl) (fun a => (hasA_cons (k := 4) rfl d4 hasA_base)) (ov_load (v := (Value.int .i64 ((l0.getD a2.toNat z_Pile_item__int64).x))) rfl F_agg_2 (reads_box1 (i := 0) rfl rfl)) rfl rfl (onlyT_spec (k0 := 5) rfl rfl rfl)
                  · intro done hi hc hcu
                    exact draw_value (i := 6) (t := 40) (v := (pt (blk (ga2 14)) 0)) rfl rfl (wanted_none rfl) (fun a => hasA_base) (ov_fieldAddr (sz := 0) (o := 0) rfl F_field_231_0 F_size_2) rfl rfl (onlyT_spec (k0 := 6) rfl rfl rfl)
                  · intro done hi hc hcu
                    have d6 : done 6 = true := done_of (j := 6) hcu rfl (by decide) rfl
                    exact draw_value (i := 7) (t := 41) (v := (Value.int .i64 ((l0.getD a1.toNat z_Pile_item__int64).x))) rfl rfl (wanted_none rfl) (fun a => (hasA_cons (k := 6) rfl d6 hasA_base)) (ov_load (v := (Value.int .i64 ((l0.getD a1.toNat z_Pile_item__int64).x))) rfl F_agg_2 (reads_box1 (i := 1) rfl rfl)) rfl rfl (onlyT_spec (k0 := 7) rfl rfl rfl)
                  · intro done hi hc hcu
                    have d3 : done 3 = true := done_of (j := 3) hcu rfl (by decide) rfl
                    have d5 : done 5 = true := done_of (j := 5) hcu rfl (by decide) rfl
                    have d7 : done 7 = true := done_of (j := 7) hcu rfl (by decide) rfl
                    exact draw_same (i := 8) (t := 42) (v := (Value.bool x8)) rfl rfl (wanted_none rfl) (fun a => (hasA_cons (k := 7) rfl d7 (hasA_cons (k := 5) rfl d5 (hasA_cons (k := 3) rfl d3 hasA_base)))) (ot_call0 (first := []) (cap := []) (xs := [.tmp 39, .tmp 41]) rfl rfl F_call_69 rfl (stat_Rank_1.spec ((l0.getD a2.toNat z_Pile_item__int64).x) ((l0.getD a1.toNat z_Pile_item__int64).x) _ h8)) rfl rfl (onlyT_spec (k0 := 8) rfl rfl rfl)
                  · intro done hi hc hcu
                    have d8 : done 8 = true := done_of (j := 8) hcu rfl (by decide) rfl
                    exact draw_value (i := 9) (t := 33) (v := (Value.bool x8)) rfl rfl (wanted_none rfl) (fun a => (hasA_cons (k := 8) rfl d8 hasA_base)) (ov_assign rfl) rfl rfl (onlyT_spec (k0 := 9) rfl rfl rfl)
                · intro done hall
                  refine draw_endL [(box (blk (ga2 15)) 231 [(Value.int .i64 ((l0.getD a2.toNat z_Pile_item__int64).x)), (Value.int .i64 ((l0.getD a2.toNat z_Pile_item__int64).n))]), (box (blk (ga2 14)) 231 [(Value.int .i64 ((l0.getD a1.toNat z_Pile_item__int64).x)), (Value.int .i64 ((l0.getD a1.toNat z_Pile_item__int64).n))]), (box p0 229 [(Value.func (.func 69) #[] #[]), sv0, (Value.int .i64 p0_2)]), (own sv0 231 2 l0.length (fl enc_Pile_item__int64 l0))] rfl (fun a => (hasA_cons (k := 9) rfl (hall 9 (by decide)) (hasA_cons (k := 0) rfl (hall 0 (by decide)) (hasA_cons (k := 1) rfl (hall 1 (by decide)) (hasA_cons (k := 2) rfl (hall 2 (by decide)) (hasA_cons (k := 3) rfl (hall 3 (by decide)) (hasA_cons (k := 4) rfl (hall 4 (by decide)) (hasA_cons (k := 5) rfl (hall 5 (by decide)) (hasA_cons (k := 6) rfl (hall 6 (by decide)) (hasA_cons (k := 7) rfl (hall 7 (by decide)) (hasA_cons (k := 8) rfl (hall 8 (by decide)) hasA_base))))))))))) ?_
                  by_cases c16 : x8 = true
                  · rw [if_pos c16] at H
                    refine ent_cond_true rfl c16 ?_
                    refine ent_seq ?_
                    refine ent_region ?_
                    refine ent_value (ov_assign rfl) rfl rfl rfl ?_
                    refine ent_nil ?_
                    refine ent_retc ?_
                    cases H
                    refine ent_pick [2, 3] (by decide) rfl ?_
                    exact ret_tmp rfl rfl ⟨rfl, rfl⟩
                  · rw [if_neg c16] at H
                    refine ent_cond_false rfl (Bool.eq_false_iff.2 c16) ?_
                    refine ent_skip ?_
                    refine ent_seq ?_
                    refine ent_region ?_
                    refine ent_value (ov_fieldAddr (sz := 0) (o := 0) rfl F_field_231_1 F_size_3) rfl rfl rfl ?_
                    refine ent_value (ov_load (v := (Value.int .i64 ((l0.getD a1.toNat z_Pile_item__int64).n))) rfl F_agg_3 (reads_box1 (i := 1) rfl rfl)) rfl rfl rfl ?_
                    refine ent_value (ov_fieldAddr (sz := 0) (o := 0) rfl F_field_231_1 F_size_3) rfl rfl rfl ?_
                    refine ent_value (ov_load (v := (Value.int .i64 ((l0.getD a2.toNat z_Pile_item__int64).n))) rfl F_agg_3 (reads_box1 (i := 0) rfl rfl)) rfl rfl rfl ?_
                    refine ent_value (ov_bin rfl rfl (b_lss _ _ _)) rfl rfl rfl ?_
                    refine ent_value (ov_assign rfl) rfl rfl rfl ?_
                    refine ent_nil ?_
                    refine ent_retc ?_
                    cases H
                    refine ent_pick [2, 3] (by decide) rfl ?_
                    exact ret_tmp rfl rfl ⟨rfl, rfl⟩
        · rw [if_neg c12] at H
          cases H
      · rw [if_neg c11] at H
        cases H
    · rw [if_neg c10] at H
      cases H
  · rw [if_neg c9] at H
    cases H

set_option maxRecDepth 100000 in
theorem pile_Pile__int64_up.spec (K : Nat) (p0 : Nat) (sv0 : Value) (l0 : List Pile_item__int64) (p0_2 : Int) (a1 : Int) (r : List Pile_item__int64) (H : pile_Pile__int64_up K l0 p0_2 a1 = some r) : FnSpec Try.prog 162 [(pt p0 0), (Value.int .i64 a1)] [(box p0 229 [(Value.func (.func 69) #[] #[]), sv0, (Value.int .i64 p0_2)]), (own sv0 231 2 l0.length (fl enc_Pile_item__int64 l0))] (fun v M => v = (Value.tuple #[]) ∧ M = [(box p0 229 [(Value.func (.func 69) #[] #[]), sv0, (Value.int .i64 p0_2)]), (own sv0 231 2 r.length (fl enc_Pile_item__int64 r))]) := by
  unfold pile_Pile__int64_up at H
  refine spec_of Try.func162 rfl 42 rfl (Nat.le_of_ble_eq_true rfl) fun F w0 => ?_
  show Ent (St 42 w0 F [(0, (pt p0 0)), (1, (Value.int .i64 a1))] [(box p0 229 [(Value.func (.func 69) #[] #[]), sv0, (Value.int .i64 p0_2)]), (own sv0 231 2 l0.length (fl enc_Pile_item__int64 l0))]) _
  refine ent_block ?_
  refine ent_loop (fun k a w => ∃ i2, ∃ l3, pile_Pile__int64_up_l0 K p0_2 k i2 l3 = some r ∧ St 42 w0 F [(0, (pt p0 0)), (1, (Value.int .i64 i2))] [(box p0 229 [(Value.func (.func 69) #[] #[]), sv0, (Value.int .i64 p0_2)]), (own sv0 231 2 l3.length (fl enc_Pile_item__int64 l3))] a w) K ?_ ?_
  · exact ent_fin [0, 1] (by decide) rfl (sub_cons (t := 0) rfl (sub_cons (t := 1) rfl (sub_nil _))) fun a w h => ⟨_, _, H, h⟩
  · refine fun k => ent_exi fun i2 => ent_exi fun l3 => ent_and fun H2 => ?_
    cases k with
    | zero => exact absurd H2 (by simp [pile_Pile__int64_up_l0])
    | succ k =>
      rw [pile_Pile__int64_up_l0] at H2
      refine ent_seq ?_
      refine ent_seq ?_
      refine ent_region ?_
      refine ent_value (ov_move rfl) rfl rfl rfl ?_
      refine ent_value (ov_bin rfl rfl (b_gtr _ _ _)) rfl rfl rfl ?_
      refine ent_nil ?_
      by_cases c47 : 0 < i2
      · rw [if_pos c47] at H2
        refine ent_cond_true rfl (decide_eq_true c47) ?_
        refine ent_skip ?_
        refine ent_block ?_
        refine ent_seq ?_
        refine ent_region ?_
        refine ent_value (ov_move rfl) rfl rfl rfl ?_
        refine ent_value (ov_bin rfl rfl (b_sub _ _ _) ) rfl rfl rfl ?_
        refine ent_value (ov_bin rfl rfl fun w => b_shr _ _ _ _ w (by decide)) rfl rfl rfl ?_
        refine ent_value (ov_assign rfl) rfl rfl rfl ?_
        refine ent_nil ?_
        refine ent_seq ?_
        refine ent_seq ?_
        refine ent_region ?_
        refine ent_value (ov_move rfl) rfl rfl rfl ?_
        refine ent_value (ov_move rfl) rfl rfl rfl ?_
        refine ent_value (ov_move rfl) rfl rfl rfl ?_
        obtain ⟨x12, h12, H2⟩ := Option.bind_eq_some_iff.1 H2
        refine ent_op (ot_call_same (Lr := []) [0, 1] [0, 1] (first := []) (cap := []) (xs := [.tmp 10, .tmp 11, .tmp 12]) rfl rfl F_call_201 rfl (pile_Pile__int64_ahead.spec p0 sv0 l3 p0_2 i2 (bShr .i64 (w64 (i2 - 1)) 1) _ h12) (by decide) rfl (by decide) rfl) rfl rfl rfl ?_
        rintro _ _ ⟨rfl, rfl⟩
        refine ent_value (ov_un rfl (u_not _)) rfl rfl rfl ?_
        refine ent_nil ?_
        by_cases c49 : (!x12) = true
        · rw [if_pos c49] at H2
          refine ent_cond_true rfl c49 ?_
          refine ent_retc ?_
          cases H2
          exact ret_none rfl ⟨rfl, rfl⟩
        · rw [if_neg c49] at H2
          refine ent_cond_false rfl (Bool.eq_false_iff.2 c49) ?_
          refine ent_skip ?_
          refine ent_seq ?_
          by_cases c50 : 0 ≤ (bShr .i64 (w64 (i2 - 1)) 1)
          · rw [if_pos c50] at H2
            by_cases c51 : (bShr .i64 (w64 (i2 - 1)) 1) < (l3.length : Int)
            · rw [if_pos c51] at H2
              by_cases c52 : 0 ≤ i2
              · rw [if_pos c52] at H2
                by_cases c53 : i2 < (l3.length : Int)
                · rw [if_pos c53] at H2
                  by_cases c54 : (bShr .i64 (w64 (i2 - 1)) 1) < ((l3.set i2.toNat (⟨(l3.getD ((bShr .i64 (w64 (i2 - 1)) 1).toNat) z_Pile_item__int64).x, (l3.getD ((bShr .i64 (w64 (i2 - 1)) 1).toNat) z_Pile_item__int64).n⟩ : Pile_item__int64)).length : Int)
                  · rw [if_pos c54] at H2
                    refine ent_drawm 28 rfl (fun done a w => StD 42 w0 F [(0, (pt p0 0)), (1, (Value.int .i64 i2)), (4, (Value.int .i64 (bShr .i64 (w64 (i2 - 1)) 1))), (5, (Value.int .i64 i2)), (6, (Value.bool (decide (0 < i2)))), (7, (Value.int .i64 i2)), (8, (Value.int .i64 (w64 (i2 - 1)))), (9, (Value.int .i64 (bShr .i64 (w64 (i2 - 1)) 1))), (10, (pt p0 0)), (11, (Value.int .i64 i2)), (12, (Value.int .i64 (bShr .i64 (w64 (i2 - 1)) 1))), (13, (Value.bool x12)), (14, (Value.bool (!x12)))] [(0, 15, (pt p0 0)), (1, 16, (pt p0 0)), (2, 17, (pt p0 1)), (3, 18, sv0), (4, 19, (Value.int .i64 i2)), (5, 20, (pt p0 0)), (6, 21, (pt p0 0)), (7, 22, (pt p0 1)), (8, 23, sv0), (9, 24, (Value.int .i64 (bShr .i64 (w64 (i2 - 1)) 1))), (10, 25, (pt p0 0)), (11, 26, (pt p0 0)), (12, 27, (pt p0 1)), (13, 28, sv0), (14, 29, (Value.int .i64 (bShr .i64 (w64 (i2 - 1)) 1))), (15, 30, (eptr sv0 (((bShr .i64 (w64 (i2 - 1)) 1).toNat) * 2))), (16, 31, (Value.agg #[(Value.int .i64 ((l3.getD ((bShr .i64 (w64 (i2 - 1)) 1).toNat) z_Pile_item__int64).x)), (Value.int .i64 ((l3.getD ((bShr .i64 (w64 (i2 - 1)) 1).toNat) z_Pile_item__int64).n))])), (17, 32, (pt p0 0)), (18, 33, (pt p0 0)), (19, 34, (pt p0 1)), (20, 35, sv0), (21, 36, (Value.int .i64 i2)), (22, 37, (eptr sv0 (i2.toNat * 2))), (23, 38, (Value.agg #[(Value.int .i64 ((l3.getD i2.toNat z_Pile_item__int64).x)), (Value.int .i64 ((l3.getD i2.toNat z_Pile_item__int64).n))])), (24, 39, (eptr sv0 (i2.toNat * 2))), (26, 40, (eptr sv0 (((bShr .i64 (w64 (i2 - 1)) 1).toNat) * 2)))] done [(box p0 229 [(Value.func (.func 69) #[] #[]), sv0, (Value.int .i64 p0_2)]), (sel (done 27) (own sv0 231 2 ((l3.set i2.toNat (⟨(l3.getD ((bShr .i64 (w64 (i2 - 1)) 1).toNat) z_Pile_item__int64).x, (l3.getD ((bShr .i64 (w64 (i2 - 1)) 1).toNat) z_Pile_item__int64).n⟩ : Pile_item__int64)).set ((bShr .i64 (w64 (i2 - 1)) 1).toNat) (⟨(l3.getD i2.toNat z_Pile_item__int64).x, (l3.getD i2.toNat z_Pile_item__int64).n⟩ : Pile_item__int64)).length (fl enc_Pile_item__int64 ((l3.set i2.toNat (⟨(l3.getD ((bShr .i64 (w64 (i2 - 1)) 1).toNat) z_Pile_item__int64).x, (l3.getD ((bShr .i64 (w64 (i2 - 1)) 1).toNat) z_Pile_item__int64).n⟩ : Pile_item__int64)).set ((bShr .i64 (w64 (i2 - 1)) 1).toNat) (⟨(l3.getD i2.toNat z_Pile_item__int64).x, (l3.getD i2.toNat z_Pile_item__int64).n⟩ : Pile_item__int64)))) (sel (done 25) (own sv0 231 2 (l3.set i2.toNat (⟨(l3.getD ((bShr .i64 (w64 (i2 - 1)) 1).toNat) z_Pile_item__int64).x, (l3.getD ((bShr .i64 (w64 (i2 - 1)) 1).toNat) z_Pile_item__int64).n⟩ : Pile_item__int64)).length (fl enc_Pile_item__int64 (l3.set i2.toNat (⟨(l3.getD ((bShr .i64 (w64 (i2 - 1)) 1).toNat) z_Pile_item__int64).x, (l3.getD ((bShr .i64 (w64 (i2 - 1)) 1).toNat) z_Pile_item__int64).n⟩ : Pile_item__int64)))) (own sv0 231 2 l3.length (fl enc_Pile_item__int64 l3))))] a w) (by kernel_rfl) (by kernel_rfl) (draw_startL (sub_cons (t := 0) rfl (sub_cons (t := 1) rfl (sub_cons (t := 4) rfl (sub_cons (t := 5) rfl (sub_cons (t := 6) rfl (sub_cons (t := 7) rfl (sub_cons (t := 8) rfl (sub_cons (t := 9) rfl (sub_cons (t := 10) rfl (sub_cons (t := 11) rfl (sub_cons (t := 12) rfl (sub_cons (t := 13) rfl (sub_cons (t := 14) rfl (sub_nil _)))))))))))))) (by simp only [sel])) ?_ ?_
                    · refine ⟨?_, ?_, ?_, ?_, ?_, ?_, ?_, ?_, ?_, ?_, ?_, ?_, ?_, ?_, ?_, ?_, ?_, ?_, ?_, ?_, ?_, ?_, ?_, ?_, ?_, ?_, ?_, ?_, trivial⟩
                      · intro done hi hc hcu
                        exact draw_value (i := 0) (t := 15) (v := (pt p0 0)) rfl rfl (wanted_none rfl) (fun a => hasA_base) (ov_move rfl) rfl rfl (onlyT_spec (k0 := 0) rfl rfl rfl)
                      · intro done hi hc hcu
                        have d0 : done 0 = true := done_of (j := 0) hcu rfl (by decide) rfl
                        exact draw_value (i := 1) (t := 16) (v := (pt p0 0)) rfl rfl (wanted_none rfl) (fun a => (hasA_cons (k := 0) rfl d0 hasA_base)) (ov_nilCheck rfl) rfl rfl (onlyT_spec (k0 := 1) rfl rfl rfl)
                      · intro done hi hc hcu
                        have d1 : done 1 = true := done_of (j := 1) hcu rfl (by decide) rfl
                        exact draw_value (i := 2) (t := 17) (v := (pt p0 1)) rfl rfl (wanted_none rfl) (fun a => (hasA_cons (k := 1) rfl d1 hasA_base)) (ov_fieldAddr (sz := 0) (o := 0) rfl F_field_229_1 F_size_227) rfl rfl (onlyT_spec (k0 := 2) rfl rfl rfl)
                      · intro done hi hc hcu
                        have d2 : done 2 = true := done_of (j := 2) hcu rfl (by decide) rfl
                        exact draw_value (i := 3) (t := 18) (v := sv0) rfl rfl (wanted_none rfl) (fun a => (hasA_cons (k := 2) rfl d2 hasA_base)) (ov_load (v := sv0) rfl F_agg_227 (reads_box1 (i := 0) rfl rfl)) rfl rfl (onlyT_spec (k0 := 3) rfl rfl rfl)
                      · intro done hi hc hcu
                        exact draw_value (i := 4) (t := 19) (v := (Value.int .i64 i2)) rfl rfl (wanted_none rfl) (fun a => hasA_base) (ov_move rfl) rfl rfl (onlyT_spec (k0 := 4) rfl rfl rfl)
                      · intro done hi hc hcu
                        exact draw_value (i := 5) (t := 20) (v := (pt p0 0)) rfl rfl (wanted_none rfl) (fun a => hasA_base) (ov_move rfl) rfl rfl (onlyT_spec (k0 := 5) rfl rfl rfl)
                      · intro done hi hc hcu
                        have d5 : done 5 = true := done_of (j := 5) hcu rfl (by decide) rfl
                        exact draw_value (i := 6) (t := 21) (v := (pt p0 0)) rfl rfl (wanted_none rfl) (fun a => (hasA_cons (k := 5) rfl d5 hasA_base)) (ov_nilCheck rfl) rfl rfl (onlyT_spec (k0 := 6) rfl rfl rfl)
                      · intro done hi hc hcu
                        have d6 : done 6 = true := done_of (j := 6) hcu rfl (by decide) rfl
                        exact draw_value (i := 7) (t := 22) (v := (pt p0 1)) rfl rfl (wanted_none rfl) (fun a => (hasA_cons (k := 6) rfl d6 hasA_base)) (ov_fieldAddr (sz := 0) (o := 0) rfl F_field_229_1 F_size_227) rfl rfl (onlyT_spec (k0 := 7) rfl rfl rfl)
                      · intro done hi hc hcu
                        have d7 : done 7 = true := done_of (j := 7) hcu rfl (by decide) rfl
                        exact draw_value (i := 8) (t := 23) (v := sv0) rfl rfl (wanted_none rfl) (fun a => (hasA_cons (k := 7) rfl d7 hasA_base)) (ov_load (v := sv0) rfl F_agg_227 (reads_box1 (i := 0) rfl rfl)) rfl rfl (onlyT_spec (k0 := 8) rfl rfl rfl)
                      · intro done hi hc hcu
                        exact draw_value (i := 9) (t := 24) (v := (Value.int .i64 (bShr .i64 (w64 (i2 - 1)) 1))) rfl rfl (wanted_none rfl) (fun a => hasA_base) (ov_move rfl) rfl rfl (onlyT_spec (k0 := 9) rfl rfl rfl)
                      · intro done hi hc hcu
                        exact draw_value (i := 10) (t := 25) (v := (pt p0 0)) rfl rfl (wanted_none rfl) (fun a => hasA_base) (ov_move rfl) rfl rfl (onlyT_spec (k0 := 10) rfl rfl rfl)
                      · intro done hi hc hcu
                        have d10 : done 10 = true := done_of (j := 10) hcu rfl (by decide) rfl
                        exact draw_value (i := 11) (t := 26) (v := (pt p0 0)) rfl rfl (wanted_none rfl) (fun a => (hasA_cons (k := 10) rfl d10 hasA_base)) (ov_nilCheck rfl) rfl rfl (onlyT_spec (k0 := 11) rfl rfl rfl)
                      · intro done hi hc hcu
                        have d11 : done 11 = true := done_of (j := 11) hcu rfl (by decide) rfl
                        exact draw_value (i := 12) (t := 27) (v := (pt p0 1)) rfl rfl (wanted_none rfl) (fun a => (hasA_cons (k := 11) rfl d11 hasA_base)) (ov_fieldAddr (sz := 0) (o := 0) rfl F_field_229_1 F_size_227) rfl rfl (onlyT_spec (k0 := 12) rfl rfl rfl)
                      · intro done hi hc hcu
                        have d12 : done 12 = true := done_of (j := 12) hcu rfl (by decide) rfl
                        exact draw_value (i := 13) (t := 28) (v := sv0) rfl rfl (wanted_none rfl) (fun a => (hasA_cons (k := 12) rfl d12 hasA_base)) (ov_load (v := sv0) rfl F_agg_227 (reads_box1 (i := 0) rfl rfl)) rfl rfl (onlyT_spec (k0 := 13) rfl rfl rfl)
                      · intro done hi hc hcu
                        exact draw_value (i := 14) (t := 29) (v := (Value.int .i64 (bShr .i64 (w64 (i2 - 1)) 1))) rfl rfl (wanted_none rfl) (fun a => hasA_base) (ov_move rfl) rfl rfl (onlyT_spec (k0 := 14) rfl rfl rfl)
                      · intro done hi hc hcu
                        have d13 : done 13 = true := done_of (j := 13) hcu rfl (by decide) rfl
                        have d14 : done 14 = true := done_of (j := 14) hcu rfl (by decide) rfl
                        have n25 : done 25 = false := notdone_of (m := 25) hc hi rfl rfl
                        have n27 : done 27 = false := notdone_of (m := 27) hc hi rfl rfl
                        exact draw_value (i := 15) (t := 30) (v := (eptr sv0 (((bShr .i64 (w64 (i2 - 1)) 1).toNat) * 2))) rfl rfl (wanted_none rfl) (fun a => (hasA_cons (k := 14) rfl d14 (hasA_cons (k := 13) rfl d13 hasA_base))) (ov_L (L2 := [(box p0 229 [(Value.func (.func 69) #[] #[]), sv0, (Value.int .i64 p0_2)]), (own sv0 231 2 l3.length (fl enc_Pile_item__int64 l3))]) (by simp only [n25, n27, sel]) (ov_indexAddr (sz := 1) 1 rfl rfl F_slice_227 F_size_231 rfl (isRd_ownx 231) c50 c51)) rfl rfl (onlyT_spec (k0 := 15) rfl rfl rfl)
                      · intro done hi hc hcu
                        have d15 : done 15 = true := done_of (j := 15) hcu rfl (by decide) rfl
                        have n25 : done 25 = false := notdone_of (m := 25) hc hi rfl rfl
                        have n27 : done 27 = false := notdone_of (m := 27) hc hi rfl rfl
                        exact draw_value (i := 16) (t := 31) (v := (Value.agg #[(Value.int .i64 ((l3.getD ((bShr .i64 (w64 (i2 - 1)) 1).toNat) z_Pile_item__int64).x)), (Value.int .i64 ((l3.getD ((bShr .i64 (w64 (i2 - 1)) 1).toNat) z_Pile_item__int64).n))])) rfl rfl (wanted_none rfl) (fun a => (hasA_cons (k := 15) rfl d15 hasA_base)) (ov_L (L2 := [(box p0 229 [(Value.func (.func 69) #[] #[]), sv0, (Value.int .i64 p0_2)]), (own sv0 231 2 l3.length (fl enc_Pile_item__int64 l3))]) (by simp only [n25, n27, sel]) (ov_load_agg (vs := [(Value.int .i64 ((l3.getD ((bShr .i64 (w64 (i2 - 1)) 1).toNat) z_Pile_item__int64).x)), (Value.int .i64 ((l3.getD ((bShr .i64 (w64 (i2 - 1)) 1).toNat) z_Pile_item__int64).n))]) rfl F_agg_231 F_size_231 (reads_rd (i := 1) rfl (isRd_ownx 231) (by simp) (fl_read0 enc_Pile_item__int64_len (ix_lt c50 c51) rfl)))) rfl rfl (onlyT_spec (k0 := 16) rfl rfl rfl)
                      · intro done hi hc hcu
                        exact draw_value (i := 17) (t := 32) (v := (pt p0 0)) rfl rfl (wanted_none rfl) (fun a => hasA_base) (ov_move rfl) rfl rfl (onlyT_spec (k0 := 17) rfl rfl rfl)
                      · intro done hi hc hcu
                        have d17 : done 17 = true := done_of (j := 17) hcu rfl (by decide) rfl
                        exact draw_value (i := 18) (t := 33) (v := (pt p0 0)) rfl rfl (wanted_none rfl) (fun a => (hasA_cons (k := 17) rfl d17 hasA_base)) (ov_nilCheck rfl) rfl rfl (onlyT_spec (k0 := 18) rfl rfl rfl)
                      · intro done hi hc hcu
                        have d18 : done 18 = true := done_of (j := 18) hcu rfl (by decide) rfl
                        exact draw_value (i := 19) (t := 34) (v := (pt p0 1)) rfl rfl (wanted_none rfl) (fun a => (hasA_cons (k := 18) rfl d18 hasA_base)) (ov_fieldAddr (sz := 0) (o := 0) rfl F_field_229_1 F_size_227) rfl rfl (onlyT_spec (k0 := 19) rfl rfl rfl)
                      · intro done hi hc hcu
                        have d19 : done 19 = true := done_of (j := 19) hcu rfl (by decide) rfl
                        exact draw_value (i := 20) (t := 35) (v := sv0) rfl rfl (wanted_none rfl) (fun a => (hasA_cons (k := 19) rfl d19 hasA_base)) (ov_load (v := sv0) rfl F_agg_227 (reads_box1 (i := 0) rfl rfl)) rfl rfl (onlyT_spec (k0 := 20) rfl rfl rfl)
                      · intro done hi hc hcu
                        exact draw_value (i := 21) (t := 36) (v := (Value.int .i64 i2)) rfl rfl (wanted_none rfl) (fun a => hasA_base) (ov_move rfl) rfl rfl (onlyT_spec (k0 := 21) rfl rfl rfl)
                      · intro done hi hc hcu
                        have d20 : done 20 = true := done_of (j := 20) hcu rfl (by decide) rfl
                        have d21 : done 21 = true := done_of (j := 21) hcu rfl (by decide) rfl
                        have n23 : done 23 = false := notdone_of (m := 23) hc hi rfl rfl
                        have n24 : done 24 = false := notdone_of (m := 24) hc n23 rfl rfl
                        have n25 : done 25 = false := notdone_of (m := 25) hc n24 rfl rfl
                        have n27 : done 27 = false := notdone_of (m := 27) hc hi rfl rfl
                        exact draw_value (i := 22) (t := 37) (v := (eptr sv0 (i2.toNat * 2))) rfl rfl (wanted_none rfl) (fun a => (hasA_cons (k := 21) rfl d21 (hasA_cons (k := 20) rfl d20 hasA_base))) (ov_L (L2 := [(box p0 229 [(Value.func (.func 69) #[] #[]), sv0, (Value.int .i64 p0_2)]), (own sv0 231 2 l3.length (fl enc_Pile_item__int64 l3))]) (by simp only [n25, n27, sel]) (ov_indexAddr (sz := 1) 1 rfl rfl F_slice_227 F_size_231 rfl (isRd_ownx 231) c52 c53)) rfl rfl (onlyT_spec (k0 := 22) rfl rfl rfl)
                      · intro done hi hc hcu
                        have d22 : done 22 = true := done_of (j := 22) hcu rfl (by decide) rfl
                        have n25 : done 25 = false := notdone_of (m := 25) hc hi rfl rfl
                        have n27 : done 27 = false := notdone_of (m := 27) hc hi rfl rfl
                        exact draw_value (i := 23) (t := 38) (v := (Value.agg #[(Value.int .i64 ((l3.getD i2.toNat z_Pile_item__int64).x)), (Value.int .i64 ((l3.getD i2.toNat z_Pile_item__int64).n))])) rfl rfl (wanted_none rfl) (fun a => (hasA_cons (k := 22) rfl d22 hasA_base)) (ov_L (L2 := [(box p0 229 [(Value.func (.func 69) #[] #[]), sv0, (Value.int .i64 p0_2)]), (own sv0 231 2 l3.length (fl enc_Pile_item__int64 l3))]) (by simp only [n25, n27, sel]) (ov_load_agg (vs := [(Value.int .i64 ((l3.getD i2.toNat z_Pile_item__int64).x)), (Value.int .i64 ((l3.getD i2.toNat z_Pile_item__int64).n))]) rfl F_agg_231 F_size_231 (reads_rd (i := 1) rfl (isRd_ownx 231) (by simp) (fl_read0 enc_Pile_item__int64_len (ix_lt c52 c53) rfl)))) rfl rfl (onlyT_spec (k0 := 23) rfl rfl rfl)
                      · intro done hi hc hcu
                        have d3 : done 3 = true := done_of (j := 3) hcu rfl (by decide) rfl
                        have d4 : done 4 = true := done_of (j := 4) hcu rfl (by decide) rfl
                        have n25 : done 25 = false := notdone_of (m := 25) hc hi rfl rfl
                        have n27 : done 27 = false := notdone_of (m := 27) hc hi rfl rfl
                        exact draw_value (i := 24) (t := 39) (v := (eptr sv0 (i2.toNat * 2))) rfl rfl (wanted_none rfl) (fun a => (hasA_cons (k := 4) rfl d4 (hasA_cons (k := 3) rfl d3 hasA_base))) (ov_L (L2 := [(box p0 229 [(Value.func (.func 69) #[] #[]), sv0, (Value.int .i64 p0_2)]), (own sv0 231 2 l3.length (fl enc_Pile_item__int64 l3))]) (by simp only [n25, n27, sel]) (ov_indexAddr (sz := 1) 1 rfl rfl F_slice_227 F_size_231 rfl (isRd_ownx 231) c52 c53)) rfl rfl (onlyT_spec (k0 := 24) rfl rfl rfl)
                      · intro done hi hc hcu
                        have d24 : done 24 = true := done_of (j := 24) hcu rfl (by decide) rfl
                        have d16 : done 16 = true := done_of (j := 16) hcu rfl (by decide) rfl
                        have n27 : done 27 = false := notdone_of (m := 27) hc hi rfl rfl
                        exact draw_store (i := 25) (L2 := [(box p0 229 [(Value.func (.func 69) #[] #[]), sv0, (Value.int .i64 p0_2)]), (own sv0 231 2 l3.length (fl enc_Pile_item__int64 l3))]) (L3 := [(box p0 229 [(Value.func (.func 69) #[] #[]), sv0, (Value.int .i64 p0_2)]), (own sv0 231 2 (l3.set i2.toNat (⟨(l3.getD ((bShr .i64 (w64 (i2 - 1)) 1).toNat) z_Pile_item__int64).x, (l3.getD ((bShr .i64 (w64 (i2 - 1)) 1).toNat) z_Pile_item__int64).n⟩ : Pile_item__int64)).length (fl enc_Pile_item__int64 (l3.set i2.toNat (⟨(l3.getD ((bShr .i64 (w64 (i2 - 1)) 1).toNat) z_Pile_item__int64).x, (l3.getD ((bShr .i64 (w64 (i2 - 1)) 1).toNat) z_Pile_item__int64).n⟩ : Pile_item__int64))))]) rfl rfl (wanted_none rfl) (fun a => (hasA_cons (k := 16) rfl d16 (hasA_cons (k := 24) rfl d24 hasA_base))) (by simp only [n27, hi, sel]) (by simp [up, n27, sel]) (ot_storeEx0 (z := z_Pile_item__int64) (y := (⟨(l3.getD ((bShr .i64 (w64 (i2 - 1)) 1).toNat) z_Pile_item__int64).x, (l3.getD ((bShr .i64 (w64 (i2 - 1)) 1).toNat) z_Pile_item__int64).n⟩ : Pile_item__int64)) (us := [(Value.int .i64 ((l3.getD ((bShr .i64 (w64 (i2 - 1)) 1).toNat) z_Pile_item__int64).x)), (Value.int .i64 ((l3.getD ((bShr .i64 (w64 (i2 - 1)) 1).toNat) z_Pile_item__int64).n))]) (L' := [(box p0 229 [(Value.func (.func 69) #[] #[]), sv0, (Value.int .i64 p0_2)]), (own sv0 231 2 (l3.set i2.toNat (⟨(l3.getD ((bShr .i64 (w64 (i2 - 1)) 1).toNat) z_Pile_item__int64).x, (l3.getD ((bShr .i64 (w64 (i2 - 1)) 1).toNat) z_Pile_item__int64).n⟩ : Pile_item__int64)).length (fl enc_Pile_item__int64 (l3.set i2.toNat (⟨(l3.getD ((bShr .i64 (w64 (i2 - 1)) 1).toNat) z_Pile_item__int64).x, (l3.getD ((bShr .i64 (w64 (i2 - 1)) 1).toNat) z_Pile_item__int64).n⟩ : Pile_item__int64))))]) 1 rfl rfl rfl (all_one rfl) F_size_231 enc_Pile_item__int64_len (ix_lt c52 c53) rfl rfl rfl rfl rfl) (offT_spec rfl)
                      · intro done hi hc hcu
                        have d8 : done 8 = true := done_of (j := 8) hcu rfl (by decide) rfl
                        have d9 : done 9 = true := done_of (j := 9) hcu rfl (by decide) rfl
                        have d25 : done 25 = true := done_of (j := 25) hcu rfl (by decide) rfl
                        have n27 : done 27 = false := notdone_of (m := 27) hc hi rfl rfl
                        exact draw_value (i := 26) (t := 40) (v := (eptr sv0 (((bShr .i64 (w64 (i2 - 1)) 1).toNat) * 2))) rfl rfl (wanted_none rfl) (fun a => (hasA_cons (k := 9) rfl d9 (hasA_cons (k := 8) rfl d8 hasA_base))) (ov_L (L2 := [(box p0 229 [(Value.func (.func 69) #[] #[]), sv0, (Value.int .i64 p0_2)]), (own sv0 231 2 (l3.set i2.toNat (⟨(l3.getD ((bShr .i64 (w64 (i2 - 1)) 1).toNat) z_Pile_item__int64).x, (l3.getD ((bShr .i64 (w64 (i2 - 1)) 1).toNat) z_Pile_item__int64).n⟩ : Pile_item__int64)).length (fl enc_Pile_item__int64 (l3.set i2.toNat (⟨(l3.getD ((bShr .i64 (w64 (i2 - 1)) 1).toNat) z_Pile_item__int64).x, (l3.getD ((bShr .i64 (w64 (i2 - 1)) 1).toNat) z_Pile_item__int64).n⟩ : Pile_item__int64))))]) (by simp only [d25, n27, sel]) (ov_indexAddr (sz := 1) 1 rfl rfl F_slice_227 F_size_231 rfl (isRd_ownx 231) c50 c54)) rfl rfl (onlyT_spec (k0 := 25) rfl rfl rfl)
                      · intro done hi hc hcu
                        have d26 : done 26 = true := done_of (j := 26) hcu rfl (by decide) rfl
                        have d23 : done 23 = true := done_of (j := 23) hcu rfl (by decide) rfl
                        have d25 : done 25 = true := done_of (j := 25) hcu rfl (by decide) rfl
                        exact draw_store (i := 27) (L2 := [(box p0 229 [(Value.func (.func 69) #[] #[]), sv0, (Value.int .i64 p0_2)]), (own sv0 231 2 (l3.set i2.toNat (⟨(l3.getD ((bShr .i64 (w64 (i2 - 1)) 1).toNat) z_Pile_item__int64).x, (l3.getD ((bShr .i64 (w64 (i2 - 1)) 1).toNat) z_Pile_item__int64).n⟩ : Pile_item__int64)).length (fl enc_Pile_item__int64 (l3.set i2.toNat (⟨(l3.getD ((bShr .i64 (w64 (i2 - 1)) 1).toNat) z_Pile_item__int64).x, (l3.getD ((bShr .i64 (w64 (i2 - 1)) 1).toNat) z_Pile_item__int64).n⟩ : Pile_item__int64))))]) (L3 := [(box p0 229 [(Value.func (.func 69) #[] #[]), sv0, (Value.int .i64 p0_2)]), (own sv0 231 2 ((l3.set i2.toNat (⟨(l3.getD ((bShr .i64 (w64 (i2 - 1)) 1).toNat) z_Pile_item__int64).x, (l3.getD ((bShr .i64 (w64 (i2 - 1)) 1).toNat) z_Pile_item__int64).n⟩ : Pile_item__int64)).set ((bShr .i64 (w64 (i2 - 1)) 1).toNat) (⟨(l3.getD i2.toNat z_Pile_item__int64).x, (l3.getD i2.toNat z_Pile_item__int64).n⟩ : Pile_item__int64)).length (fl enc_Pile_item__int64 ((l3.set i2.toNat (⟨(l3.getD ((bShr .i64 (w64 (i2 - 1)) 1).toNat) z_Pile_item__int64).x, (l3.getD ((bShr .i64 (w64 (i2 - 1)) 1).toNat) z_Pile_item__int64).n⟩ : Pile_item__int64)).set ((bShr .i64 (w64 (i2 - 1)) 1).toNat) (⟨(l3.getD i2.toNat z_Pile_item__int64).x, (l3.getD i2.toNat z_Pile_item__int64).n⟩ : Pile_item__int64))))]) rfl rfl (wanted_none rfl) (fun a => (hasA_cons (k := 23) rfl d23 (hasA_cons (k := 25) rfl d26 hasA_base))) (by simp only [d25, hi, sel]) (by simp [up, d25, sel]) (ot_storeEx0 (z := z_Pile_item__int64) (y := (⟨(l3.getD i2.toNat z_Pile_item__int64).x, (l3.getD i2.toNat z_Pile_item__int64).n⟩ : Pile_item__int64)) (us := [(Value.int .i64 ((l3.getD i2.toNat z_Pile_item__int64).x)), (Value.int .i64 ((l3.getD i2.toNat z_Pile_item__int64).n))]) (L' := [(box p0 229 [(Value.func (.func 69) #[] #[]), sv0, (Value.int .i64 p0_2)]), (own sv0 231 2 ((l3.set i2.toNat (⟨(l3.getD ((bShr .i64 (w64 (i2 - 1)) 1).toNat) z_Pile_item__int64).x, (l3.getD ((bShr .i64 (w64 (i2 - 1)) 1).toNat) z_Pile_item__int64).n⟩ : Pile_item__int64)).set ((bShr .i64 (w64 (i2 - 1)) 1).toNat) (⟨(l3.getD i2.toNat z_Pile_item__int64).x, (l3.getD i2.toNat z_Pile_item__int64).n⟩ : Pile_item__int64)).length (fl enc_Pile_item__int64 ((l3.set i2.toNat (⟨(l3.getD ((bShr .i64 (w64 (i2 - 1)) 1).toNat) z_Pile_item__int64).x, (l3.getD ((bShr .i64 (w64 (i2 - 1)) 1).toNat) z_Pile_item__int64).n⟩ : Pile_item__int64)).set ((bShr .i64 (w64 (i2 - 1)) 1).toNat) (⟨(l3.getD i2.toNat z_Pile_item__int64).x, (l3.getD i2.toNat z_Pile_item__int64).n⟩ : Pile_item__int64))))]) 1 rfl rfl rfl (all_one rfl) F_size_231 enc_Pile_item__int64_len (ix_lt c50 c54) rfl rfl rfl rfl rfl) (offT_spec rfl)
                    · intro done hall
                      refine draw_endL [(box p0 229 [(Value.func (.func 69) #[] #[]), sv0, (Value.int .i64 p0_2)]), (own sv0 231 2 ((l3.set i2.toNat (⟨(l3.getD ((bShr .i64 (w64 (i2 - 1)) 1).toNat) z_Pile_item__int64).x, (l3.getD ((bShr .i64 (w64 (i2 - 1)) 1).toNat) z_Pile_item__int64).n⟩ : Pile_item__int64)).set ((bShr .i64 (w64 (i2 - 1)) 1).toNat) (⟨(l3.getD i2.toNat z_Pile_item__int64).x, (l3.getD i2.toNat z_Pile_item__int64).n⟩ : Pile_item__int64)).length (fl enc_Pile_item__int64 ((l3.set i2.toNat (⟨(l3.getD ((bShr .i64 (w64 (i2 - 1)) 1).toNat) z_Pile_item__int64).x, (l3.getD ((bShr .i64 (w64 (i2 - 1)) 1).toNat) z_Pile_item__int64).n⟩ : Pile_item__int64)).set ((bShr .i64 (w64 (i2 - 1)) 1).toNat) (⟨(l3.getD i2.toNat z_Pile_item__int64).x, (l3.getD i2.toNat z_Pile_item__int64).n⟩ : Pile_item__int64))))] (by simp only [hall 25 (by decide), hall 27 (by decide), sel]) (fun a => (hasA_cons (k := 0) rfl (hall 0 (by decide)) (hasA_cons (k := 1) rfl (hall 1 (by decide)) (hasA_cons (k := 2) rfl (hall 2 (by decide)) (hasA_cons (k := 3) rfl (hall 3 (by decide)) (hasA_cons (k := 4) rfl (hall 4 (by decide)) (hasA_cons (k := 5) rfl (hall 5 (by decide)) (hasA_cons (k := 6) rfl (hall 6 (by decide)) (hasA_cons (k := 7) rfl (hall 7 (by decide)) (hasA_cons (k := 8) rfl (hall 8 (by decide)) (hasA_cons (k := 9) rfl (hall 9 (by decide)) (hasA_cons (k := 10) rfl (hall 10 (by decide)) (hasA_cons (k := 11) rfl (hall 11 (by decide)) (hasA_cons (k := 12) rfl (hall 12 (by decide)) (hasA_cons (k := 13) rfl (hall 13 (by decide)) (hasA_cons (k := 14) rfl (hall 14 (by decide)) (hasA_cons (k := 15) rfl (hall 15 (by decide)) (hasA_cons (k := 16) rfl (hall 16 (by decide)) (hasA_cons (k := 17) rfl (hall 17 (by decide)) (hasA_cons (k := 18) rfl (hall 18 (by decide)) (hasA_cons (k := 19) rfl (hall 19 (by decide)) (hasA_cons (k := 20) rfl (hall 20 (by decide)) (hasA_cons (k := 21) rfl (hall 21 (by decide)) (hasA_cons (k := 22) rfl (hall 22 (by decide)) (hasA_cons (k := 23) rfl (hall 23 (by decide)) (hasA_cons (k := 24) rfl (hall 24 (by decide)) (hasA_cons (k := 25) rfl (hall 26 (by decide)) hasA_base))))))))))))))))))))))))))) ?_
                      refine ent_region ?_
                      refine ent_value (ov_move rfl) rfl rfl rfl ?_
                      refine ent_value (ov_assign rfl) rfl rfl rfl ?_
                      refine ent_nil ?_
                      exact ent_fin [0, 1] (by decide) rfl (sub_cons (t := 0) rfl (sub_cons (t := 1) rfl (sub_nil _))) fun a w h => ⟨k, Nat.lt_succ_self k, _, _, H2, h⟩
                  · rw [if_neg c54] at H2
                    cases H2
                · rw [if_neg c53] at H2
                  cases H2
              · rw [if_neg c52] at H2
                cases H2
            · rw [if_neg c51] at H2
              cases H2
          · rw [if_neg c50] at H2
            cases H2
      · rw [if_neg c47] at H2
        refine ent_cond_false rfl (decide_eq_false c47) ?_
        refine ent_exit ?_
        cases H2
        refine ret_normal ?_
        exact ret_none rfl ⟨rfl, rfl⟩

end Go.Proofs.Ythdggcleffadeaa.StatShares
