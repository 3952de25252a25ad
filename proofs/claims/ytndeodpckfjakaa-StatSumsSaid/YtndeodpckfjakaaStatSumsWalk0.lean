/- Printed by gen.py: that the machine's calls do what the plain functions of StatSums say. -/
import Derived.Test.YtndeodpckfjakaaESq
import Derived.Test.YtndeodpckfjakaaProg
import Derived.Test.YtndeodpckfjakaaEBun
import Derived.Test.YtndeodpckfjakaaERange
import Derived.Test.YtndeodpckfjakaaEMake
import Derived.Test.YtndeodpckfjakaaEJag
import Derived.Test.YtndeodpckfjakaaEInsert
import Derived.Test.YtndeodpckfjakaaStatSumsPure
set_option linter.unusedVariables false
set_option linter.unusedSimpArgs false
set_option maxHeartbeats 8000000
set_option maxRecDepth 100000
namespace Go.Proofs.Ytndeodpckfjakaa.StatSums
open Go Go.RowKit E
open Go.Value (int bool slice agg)

def enc_Api_Key (x : Api_Key) : List Value := [(Value.int .i64 x.Hour), (str x.Dims_0), (str x.Dims_1), (str x.Dims_2), (str x.Dims_3)]
theorem enc_Api_Key_one (x : Api_Key) : (enc_Api_Key x).all (·.oneCell') = true := rfl
theorem enc_Api_Key_len (x : Api_Key) : (enc_Api_Key x).length = 5 := rfl
def enc_Api_Cell (x : Api_Cell) : List Value := [(Value.int .i64 x.Count), (Value.int .i64 x.Sum), (Value.int .i64 x.Min), (Value.int .i64 x.Max)]
theorem enc_Api_Cell_one (x : Api_Cell) : (enc_Api_Cell x).all (·.oneCell') = true := rfl
theorem enc_Api_Cell_len (x : Api_Cell) : (enc_Api_Cell x).length = 4 := rfl
def enc_Api_Row (x : Api_Row) : List Value := [(Value.int .i64 x.Key.Hour), (str x.Key.Dims_0), (str x.Key.Dims_1), (str x.Key.Dims_2), (str x.Key.Dims_3), (Value.int .i64 x.Cell.Count), (Value.int .i64 x.Cell.Sum), (Value.int .i64 x.Cell.Min), (Value.int .i64 x.Cell.Max)]
theorem enc_Api_Row_one (x : Api_Row) : (enc_Api_Row x).all (·.oneCell') = true := rfl
theorem enc_Api_Row_len (x : Api_Row) : (enc_Api_Row x).length = 9 := rfl
def enc_Omap_pair__string___int (x : Omap_pair__string___int) : List Value := [(str x.k), (Value.int .i64 x.v)]
theorem enc_Omap_pair__string___int_one (x : Omap_pair__string___int) : (enc_Omap_pair__string___int x).all (·.oneCell') = true := rfl
theorem enc_Omap_pair__string___int_len (x : Omap_pair__string___int) : (enc_Omap_pair__string___int x).length = 2 := rfl
theorem F_slice_22 : sliceB Try.prog 22 = some 44 := by kernel_rfl
theorem F_size_44 : sizeB Try.prog 44 = some 9 := by kernel_rfl
theorem F_field_44_0 : fieldB Try.prog 44 0 = some (0, 42) := by kernel_rfl
theorem F_size_42 : sizeB Try.prog 42 = some 5 := by kernel_rfl
theorem F_field_42_1 : fieldB Try.prog 42 1 = some (1, 40) := by kernel_rfl
theorem F_size_40 : sizeB Try.prog 40 = some 4 := by kernel_rfl
theorem F_array_40 : arrayB Try.prog 40 = some (4, 9) := by kernel_rfl
theorem F_size_9 : sizeB Try.prog 9 = some 1 := by kernel_rfl
theorem F_agg_9 : aggB Try.prog 9 = some false := by kernel_rfl
theorem F_call_6 : callB Try.prog 6 = true := by kernel_rfl
theorem F_zero_39 : zeroB Try.prog 39 = some [(Value.int .i64 0), (Value.int .i64 0), (Value.int .i64 0), (Value.int .i64 0)] := by kernel_rfl
theorem F_places_39 : placesB Try.prog 39 = some [(0, 1), (1, 1), (2, 1), (3, 1)] := by kernel_rfl
theorem F_zero_44 : zeroB Try.prog 44 = some [(Value.int .i64 0), (str ([] : List UInt8)), (str ([] : List UInt8)), (str ([] : List UInt8)), (str ([] : List UInt8)), (Value.int .i64 0), (Value.int .i64 0), (Value.int .i64 0), (Value.int .i64 0)] := by kernel_rfl
theorem F_places_44 : placesB Try.prog 44 = some [(0, 5), (5, 4)] := by kernel_rfl
theorem F_agg_44 : aggB Try.prog 44 = some true := by kernel_rfl
theorem F_field_44_1 : fieldB Try.prog 44 1 = some (5, 39) := by kernel_rfl
theorem F_size_39 : sizeB Try.prog 39 = some 4 := by kernel_rfl
theorem F_field_39_1 : fieldB Try.prog 39 1 = some (1, 2) := by kernel_rfl
theorem F_size_2 : sizeB Try.prog 2 = some 1 := by kernel_rfl
theorem F_agg_2 : aggB Try.prog 2 = some false := by kernel_rfl
theorem F_call_31 : callB Try.prog 31 = true := by kernel_rfl
theorem F_call_33 : callB Try.prog 33 = true := by kernel_rfl
theorem F_call_60 : callB Try.prog 60 = true := by kernel_rfl
theorem F_call_32 : callB Try.prog 32 = true := by kernel_rfl
theorem F_slice_23 : sliceB Try.prog 23 = some 2 := by kernel_rfl
theorem F_zero_2 : zeroB Try.prog 2 = some [(Value.int .i64 0)] := by kernel_rfl
theorem F_bytes_2 : bytesB Try.prog 2 = some 8 := by kernel_rfl
theorem F_call_9 : callB Try.prog 9 = true := by kernel_rfl
theorem F_call_8 : callB Try.prog 8 = true := by kernel_rfl
theorem F_field_39_0 : fieldB Try.prog 39 0 = some (0, 2) := by kernel_rfl
theorem F_agg_39 : aggB Try.prog 39 = some true := by kernel_rfl
theorem F_guard_39 : Try.prog.eqGuardType Try.prog.depth 39 = false := by kernel_rfl
theorem same_39 {x y : Operand} (x0 : Int) (x1 : Int) (x2 : Int) (x3 : Int) (y0 : Int) (y1 : Int) (y2 : Int) (y3 : Int) (w : World) : (do eqGuard .eql 39 x y (.agg #[(Value.int .i64 x0), (Value.int .i64 x1), (Value.int .i64 x2), (Value.int .i64 x3)]) (.agg #[(Value.int .i64 y0), (Value.int .i64 y1), (Value.int .i64 y2), (Value.int .i64 y3)]); binOp .eql 39 (.agg #[(Value.int .i64 x0), (Value.int .i64 x1), (Value.int .i64 x2), (Value.int .i64 x3)]) (.agg #[(Value.int .i64 y0), (Value.int .i64 y1), (Value.int .i64 y2), (Value.int .i64 y3)])).run Try.prog w = .ok (.bool ((x0 == y0) && ((x1 == y1) && ((x2 == y2) && ((x3 == y3) && true))))) w :=
  b_eql_agg F_guard_39 (eq_struct Try.underlying39 (by kernel_rfl) (eqf_cons rfl (part_cell F_agg_2 rfl) (part_cell F_agg_2 rfl) (eq_int Try.underlying2 _ _) (eqf_cons rfl (part_cell F_agg_2 rfl) (part_cell F_agg_2 rfl) (eq_int Try.underlying2 _ _) (eqf_cons rfl (part_cell F_agg_2 rfl) (part_cell F_agg_2 rfl) (eq_int Try.underlying2 _ _) (eqf_cons rfl (part_cell F_agg_2 rfl) (part_cell F_agg_2 rfl) (eq_int Try.underlying2 _ _) eqf_nil))))) w
theorem same_39_n {x y : Operand} (x0 : Int) (x1 : Int) (x2 : Int) (x3 : Int) (y0 : Int) (y1 : Int) (y2 : Int) (y3 : Int) (w : World) : (do eqGuard .neq 39 x y (.agg #[(Value.int .i64 x0), (Value.int .i64 x1), (Value.int .i64 x2), (Value.int .i64 x3)]) (.agg #[(Value.int .i64 y0), (Value.int .i64 y1), (Value.int .i64 y2), (Value.int .i64 y3)]); binOp .neq 39 (.agg #[(Value.int .i64 x0), (Value.int .i64 x1), (Value.int .i64 x2), (Value.int .i64 x3)]) (.agg #[(Value.int .i64 y0), (Value.int .i64 y1), (Value.int .i64 y2), (Value.int .i64 y3)])).run Try.prog w = .ok (.bool (!((x0 == y0) && ((x1 == y1) && ((x2 == y2) && ((x3 == y3) && true)))))) w :=
  b_neq_agg F_guard_39 (eq_struct Try.underlying39 (by kernel_rfl) (eqf_cons rfl (part_cell F_agg_2 rfl) (part_cell F_agg_2 rfl) (eq_int Try.underlying2 _ _) (eqf_cons rfl (part_cell F_agg_2 rfl) (part_cell F_agg_2 rfl) (eq_int Try.underlying2 _ _) (eqf_cons rfl (part_cell F_agg_2 rfl) (part_cell F_agg_2 rfl) (eq_int Try.underlying2 _ _) (eqf_cons rfl (part_cell F_agg_2 rfl) (part_cell F_agg_2 rfl) (eq_int Try.underlying2 _ _) eqf_nil))))) w
theorem F_field_39_2 : fieldB Try.prog 39 2 = some (2, 2) := by kernel_rfl
theorem F_field_39_3 : fieldB Try.prog 39 3 = some (3, 2) := by kernel_rfl
theorem F_call_30 : callB Try.prog 30 = true := by kernel_rfl
theorem F_agg_42 : aggB Try.prog 42 = some true := by kernel_rfl
theorem F_field_42_0 : fieldB Try.prog 42 0 = some (0, 2) := by kernel_rfl
theorem F_call_29 : callB Try.prog 29 = true := by kernel_rfl
theorem F_call_7 : callB Try.prog 7 = true := by kernel_rfl
theorem F_zero_28 : zeroB Try.prog 28 = some (arrF (eI .i64) 65 (fun _ => 0)) := by kernel_rfl
theorem F_array_28 : arrayB Try.prog 28 = some (65, 3) := by kernel_rfl
theorem F_size_3 : sizeB Try.prog 3 = some 1 := by kernel_rfl
theorem F_agg_3 : aggB Try.prog 3 = some false := by kernel_rfl
theorem F_agg_28 : aggB Try.prog 28 = some true := by kernel_rfl
theorem F_size_28 : sizeB Try.prog 28 = some 65 := by kernel_rfl
theorem F_call_10 : callB Try.prog 10 = true := by kernel_rfl
theorem F_zero_33 : zeroB Try.prog 33 = some [(Value.slice none 0 0), (Value.slice none 0 0), (Value.slice none 0 0)] := by kernel_rfl
theorem F_places_33 : placesB Try.prog 33 = some [(0, 1), (1, 1), (2, 1)] := by kernel_rfl
theorem F_size_33 : sizeB Try.prog 33 = some 3 := by kernel_rfl
theorem F_slice_30 : sliceB Try.prog 30 = some 9 := by kernel_rfl
theorem F_zero_9 : zeroB Try.prog 9 = some [(str ([] : List UInt8))] := by kernel_rfl
theorem F_bytes_9 : bytesB Try.prog 9 = some 16 := by kernel_rfl
theorem F_zero_177 : zeroB Try.prog 177 = some [(Value.slice none 0 0)] := by kernel_rfl
theorem F_places_177 : placesB Try.prog 177 = some [(0, 1)] := by kernel_rfl
theorem F_call_88 : callB Try.prog 88 = true := by kernel_rfl
theorem F_zero_134 : zeroB Try.prog 134 = some [(Value.slice none 0 0), (Value.pointer none)] := by kernel_rfl
theorem F_places_134 : placesB Try.prog 134 = some [(0, 1), (1, 1)] := by kernel_rfl
theorem F_zero_84 : zeroB Try.prog 84 = some [(Value.pointer none)] := by kernel_rfl
theorem F_size_84 : sizeB Try.prog 84 = some 1 := by kernel_rfl
theorem F_agg_84 : aggB Try.prog 84 = some false := by kernel_rfl
theorem F_field_134_1 : fieldB Try.prog 134 1 = some (1, 132) := by kernel_rfl
theorem F_size_132 : sizeB Try.prog 132 = some 1 := by kernel_rfl
theorem F_agg_132 : aggB Try.prog 132 = some false := by kernel_rfl
theorem F_field_177_0 : fieldB Try.prog 177 0 = some (0, 175) := by kernel_rfl
theorem F_size_175 : sizeB Try.prog 175 = some 1 := by kernel_rfl
theorem F_agg_175 : aggB Try.prog 175 = some false := by kernel_rfl
theorem F_slice_175 : sliceB Try.prog 175 = some 174 := by kernel_rfl
theorem F_call_118 : callB Try.prog 118 = true := by kernel_rfl
theorem F_call_91 : callB Try.prog 91 = true := by kernel_rfl
theorem F_zero_174 : zeroB Try.prog 174 = some [(str ([] : List UInt8)), (Value.int .i64 0)] := by kernel_rfl
theorem F_places_174 : placesB Try.prog 174 = some [(0, 1), (1, 1)] := by kernel_rfl
theorem F_size_174 : sizeB Try.prog 174 = some 2 := by kernel_rfl
theorem F_bytes_174 : bytesB Try.prog 174 = some 24 := by kernel_rfl
theorem F_call_116 : callB Try.prog 116 = true := by kernel_rfl
theorem F_call_89 : callB Try.prog 89 = true := by kernel_rfl
theorem F_field_174_0 : fieldB Try.prog 174 0 = some (0, 9) := by kernel_rfl
theorem F_call_119 : callB Try.prog 119 = true := by kernel_rfl
theorem F_field_174_1 : fieldB Try.prog 174 1 = some (1, 3) := by kernel_rfl
theorem F_call_117 : callB Try.prog 117 = true := by kernel_rfl
theorem F_call_90 : callB Try.prog 90 = true := by kernel_rfl
theorem F_field_134_0 : fieldB Try.prog 134 0 = some (0, 30) := by kernel_rfl
theorem F_size_30 : sizeB Try.prog 30 = some 1 := by kernel_rfl
theorem F_agg_30 : aggB Try.prog 30 = some false := by kernel_rfl
theorem F_agg_174 : aggB Try.prog 174 = some true := by kernel_rfl
theorem F_call_61 : callB Try.prog 61 = true := by kernel_rfl
theorem F_call_34 : callB Try.prog 34 = true := by kernel_rfl
theorem F_call_36 : callB Try.prog 36 = true := by kernel_rfl
theorem F_call_62 : callB Try.prog 62 = true := by kernel_rfl
theorem F_call_35 : callB Try.prog 35 = true := by kernel_rfl
theorem F_field_33_2 : fieldB Try.prog 33 2 = some (2, 31) := by kernel_rfl
theorem F_size_31 : sizeB Try.prog 31 = some 1 := by kernel_rfl
theorem F_agg_31 : aggB Try.prog 31 = some false := by kernel_rfl
theorem F_slice_37 : sliceB Try.prog 37 = some 39 := by kernel_rfl
theorem F_bytes_39 : bytesB Try.prog 39 = some 32 := by kernel_rfl
theorem F_slice_31 : sliceB Try.prog 31 = some 37 := by kernel_rfl
theorem F_size_37 : sizeB Try.prog 37 = some 1 := by kernel_rfl
theorem F_zero_37 : zeroB Try.prog 37 = some [(Value.slice none 0 0)] := by kernel_rfl
theorem F_bytes_37 : bytesB Try.prog 37 = some 24 := by kernel_rfl
theorem F_call_63 : callB Try.prog 63 = true := by kernel_rfl
theorem F_call_37 : callB Try.prog 37 = true := by kernel_rfl
theorem F_agg_37 : aggB Try.prog 37 = some false := by kernel_rfl
theorem F_call_64 : callB Try.prog 64 = true := by kernel_rfl
theorem F_call_38 : callB Try.prog 38 = true := by kernel_rfl
theorem F_agg_33 : aggB Try.prog 33 = some true := by kernel_rfl
theorem F_call_11 : callB Try.prog 11 = true := by kernel_rfl
theorem ossuarylaw35_light_R.spec (K : Nat) (sv0 : Value) (A0 : HP) (l0 : List Api_Row) (hA0 : IsRd A0 sv0 l0.length 9 (fl enc_Api_Row l0)) (r : Bool) (H : ossuarylaw35_light_R K l0 = some r) : FnSpec Try.prog 6 [sv0] [A0] (fun v M => v = (bool r) ∧ M = [A0]) := by
 unfold ossuarylaw35_light_R at H
 refine spec_of Try.func6 rfl 28 rfl (Nat.le_of_ble_eq_true rfl) fun F w0 => ?_
 show Ent (St 28 w0 F [(0,sv0)] [A0]) _
 refine ent_seq (ent_region (ent_value (ov_assign rfl) rfl rfl rfl (ent_nil (ent_seq (ent_seq (ent_region (ent_value (ov_move rfl) rfl rfl rfl (ent_value (ov_len 0 rfl F_slice_22 rfl hA0) rfl rfl rfl (ent_value (ov_bin rfl rfl (b_gtr _ _ _)) rfl rfl rfl (ent_nil ?_))))))))))
 refine htT H (fun c304 H => ?_) fun c304 H => ?_
 ·refine ent_cond_true rfl (decide_eq_true c304) (ent_seq (ent_region (ent_value (ov_assign rfl) rfl rfl rfl (ent_nil (ent_retc ?_)))))
  cases H
  refine ent_pick [0] (by decide) rfl ?_
  exact ret_tmp rfl rfl ⟨rfl,rfl⟩
 refine ent_cond_false rfl (decide_eq_false c304) (ent_skip (ent_seq (ent_seq (ent_region (ent_value (ov_assign rfl) rfl rfl rfl (ent_nil (ent_block ?_)))))))
 refine ent_loop (fun k a w => ∃ i24,ossuarylaw35_light_R_l0 K l0 k i24 = some r ∧ St 28 w0 F [(0,sv0),(3,I i24)] [A0] a w) K ?_ ?_
 ·exact ent_fin [0] (by decide) rfl (sub_cons (t := 0) rfl (sub_cons (t := 3) rfl (sub_nil _))) fun a w h => ⟨_,H,h⟩
 ·refine fun k => ent_exi fun i24 => ent_and fun H48 => ?_
  cases k with
  | zero => exact absurd H48 (by simp [ossuarylaw35_light_R_l0])
  | succ k =>
   rw [ossuarylaw35_light_R_l0] at H48
   refine ent_seq (ent_seq (ent_region (ent_value (ov_move rfl) rfl rfl rfl (ent_value (ov_move rfl) rfl rfl rfl (ent_value (ov_len 0 rfl F_slice_22 rfl hA0) rfl rfl rfl (ent_value (ov_bin rfl rfl (b_lss _ _ _)) rfl rfl rfl (ent_nil ?_)))))))
   refine htF H48 (fun c552 H48 => ?_) fun c552 H48 => ?_
   ·refine ent_cond_false rfl (decide_eq_false c552) (ent_exit (ent_seq (ent_region (ent_value (ov_assign rfl) rfl rfl rfl (ent_nil (ent_retc ?_))))))
    cases H48
    refine ent_pick [0] (by decide) rfl ?_
    exact ret_tmp rfl rfl ⟨rfl,rfl⟩
   refine ent_cond_true rfl (decide_eq_true c552) (ent_skip ?_)
   obtain ⟨x12,H50,H48⟩ := Option.bind_eq_some_iff.1 H48
   refine ent_seq_cut (fun a w => ∃ v12,x12 = Sum.inl v12 ∧ St 28 w0 F [(0,sv0),(3,I i24)] [A0] a w) ?_ ?_
   ·refine ent_block (ent_seq (ent_region (ent_value (ov_assign rfl) rfl rfl rfl (ent_nil (ent_block ?_)))))
    refine ent_loop (fun k a w => ∃ i28,ossuarylaw35_light_R_l1 K l0 i24 k i28 = some x12 ∧ St 28 w0 F [(0,sv0),(3,I i24),(4,I i28)] [A0] a w) K ?_ ?_
    ·exact ent_fin [0] (by decide) rfl (sub_cons (t := 0) rfl (sub_cons (t := 3) rfl (sub_cons (t := 4) rfl (sub_nil _)))) fun a w h => ⟨_,H50,h⟩
    ·refine fun k => ent_exi fun i28 => ent_and fun H51 => ?_
     cases k with
     | zero => exact absurd H51 (by simp [ossuarylaw35_light_R_l1])
     | succ k =>
      rw [ossuarylaw35_light_R_l1] at H51
      refine ent_seq (ent_seq (ent_region (ent_value (ov_move rfl) rfl rfl rfl (ent_value (ov_bin rfl rfl (b_lss _ _ _)) rfl rfl rfl (ent_nil ?_)))))
      refine htF H51 (fun c596 H51 => ?_) fun c596 H51 => ?_
      ·refine ent_cond_false rfl (decide_eq_false c596) (ent_exit ?_)
       cases H51
       exact ent_fin [0] (by decide) rfl (sub_cons (t := 0) rfl (sub_cons (t := 3) rfl (sub_nil _))) fun a w h => ⟨_,rfl,h⟩
      refine ent_cond_true rfl (decide_eq_true c596) (ent_skip (ent_seq (ent_block (ent_seq (ent_region (ent_value (ov_move rfl) rfl rfl rfl (ent_value (ov_move rfl) rfl rfl rfl (ent_value (ov_move rfl) rfl rfl rfl ?_))))))))
      obtain ⟨c601,H51⟩ := gdT H51
      refine ent_value (ov_indexAddr (sz := 8) 0 rfl rfl F_slice_22 F_size_44 rfl hA0 c601 c552) rfl rfl rfl (ent_value (ov_fieldAddrE (sz := 4) (k0 := i24.toNat * 9) (off := 0) 0 rfl F_field_44_0 F_size_42 rfl hA0 (fl_pos enc_Api_Row_len (ix_lt c601 c552))) rfl rfl rfl (ent_value (ov_fieldAddrE (sz := 3) (k0 := i24.toNat * 9 + 0) (off := 1) 0 rfl F_field_42_1 F_size_40 rfl hA0 (fl_pos enc_Api_Row_len (ix_lt c601 c552))) rfl rfl rfl ?_))
      obtain ⟨c602,H51⟩ := gdT H51
      obtain ⟨c603,H51⟩ := gdT H51
      refine ent_value (ov_indexArrE 0 rfl rfl F_array_40 F_size_9 rfl hA0 (fl_pos enc_Api_Row_len (ix_lt c601 c552)) c602 c603) rfl rfl rfl ?_
      refine ent_value (ov_load (v := (str ([((l0.getD i24.toNat z_Api_Row).Key).Dims_0,((l0.getD i24.toNat z_Api_Row).Key).Dims_1,((l0.getD i24.toNat z_Api_Row).Key).Dims_2,((l0.getD i24.toNat z_Api_Row).Key).Dims_3].getD i28.toNat []))) rfl F_agg_9 (reads_rd (i := 0) rfl hA0 (by simp) (fl_readA enc_Api_Row_len (ix_lt c601 c552) (fl_sub (enc := eS) (z := []) (ys := [((l0.getD i24.toNat z_Api_Row).Key).Dims_0,((l0.getD i24.toNat z_Api_Row).Key).Dims_1,((l0.getD i24.toNat z_Api_Row).Key).Dims_2,((l0.getD i24.toNat z_Api_Row).Key).Dims_3]) eS_len rfl (ix_lt c602 c603))))) rfl rfl rfl ?_
      refine ent_value (ov_lenS rfl Try.underlying9) rfl rfl rfl (ent_value (ov_bin rfl rfl (b_gtr _ _ _)) rfl rfl rfl (ent_nil ?_))
      refine htT H51 (fun c604 H51 => ?_) fun c604 H51 => ?_
      ·refine ent_cond_true rfl (decide_eq_true c604) (ent_seq (ent_region (ent_value (ov_assign rfl) rfl rfl rfl (ent_nil (ent_retc ?_)))))
       cases H51
       have H52 := Option.some.inj (show some _ = some _ from H48)
       cases H52
       refine ent_pick [0] (by decide) rfl ?_
       exact ret_tmp rfl rfl ⟨rfl,rfl⟩
      refine ent_cond_false rfl (decide_eq_false c604) (ent_skip (ent_region (ent_value (ov_move rfl) rfl rfl rfl (ent_value (ov_bin rfl rfl (b_add _ _ _) ) rfl rfl rfl (ent_value (ov_assign rfl) rfl rfl rfl (ent_nil ?_))))))
      exact ent_fin [0] (by decide) rfl (sub_cons (t := 0) rfl (sub_cons (t := 3) rfl (sub_cons (t := 4) rfl (sub_nil _)))) fun a w h => ⟨k,Nat.lt_succ_self k,_,H51,h⟩
   ·refine ent_exi fun v12 => ent_and fun e_ => ?_
    subst e_
    rw [cas_inl] at H48
    refine ent_region (ent_value (ov_move rfl) rfl rfl rfl (ent_value (ov_bin rfl rfl (b_add _ _ _) ) rfl rfl rfl (ent_value (ov_assign rfl) rfl rfl rfl (ent_nil ?_))))
    exact ent_fin [0] (by decide) rfl (sub_cons (t := 0) rfl (sub_cons (t := 3) rfl (sub_nil _))) fun a w h => ⟨k,Nat.lt_succ_self k,_,H48,h⟩

theorem bits_Mul64.spec (a0 a1 : Int) (r : (Int × Int)) (H : bits_Mul64 a0 a1 = r) : FnSpec Try.prog 31 [int .u64 a0,int .u64 a1] [] (fun v M => v = (tU #[int .u64 r.1,int .u64 r.2]) ∧ M = []) := by
 unfold bits_Mul64 at H
 refine spec_of Try.func31 rfl 51 rfl (Nat.le_of_ble_eq_true rfl) fun F w0 => ?_
 show Ent (St 51 w0 F [(0,int .u64 a0),(1,int .u64 a1)] []) _
 refine ent_seq (ent_region (ent_value (ov_assign rfl) rfl rfl rfl (ent_value (ov_assign rfl) rfl rfl rfl (ent_nil (ent_seq (ent_region (ent_value (ov_move rfl) rfl rfl rfl (ent_value (ov_bin rfl rfl (b_and _ _ _)) rfl rfl rfl (ent_value (ov_assign rfl) rfl rfl rfl (ent_nil (ent_seq ?_)))))))))))
 refine ent_region (ent_value (ov_move rfl) rfl rfl rfl ?_)
 refine ent_value (ov_bin rfl rfl fun w => b_shr _ _ _ _ w (by decide)) rfl rfl rfl ?_
 refine ent_value (ov_assign rfl) rfl rfl rfl (ent_nil (ent_seq (ent_region (ent_value (ov_move rfl) rfl rfl rfl (ent_value (ov_bin rfl rfl (b_and _ _ _)) rfl rfl rfl (ent_value (ov_assign rfl) rfl rfl rfl (ent_nil (ent_seq (ent_region (ent_value (ov_move rfl) rfl rfl rfl ?_))))))))))
 refine ent_value (ov_bin rfl rfl fun w => b_shr _ _ _ _ w (by decide)) rfl rfl rfl ?_
 refine ent_value (ov_assign rfl) rfl rfl rfl (ent_nil (ent_seq (ent_region (ent_value (ov_move rfl) rfl rfl rfl (ent_value (ov_move rfl) rfl rfl rfl (ent_value (ov_bin rfl rfl (b_mul _ _ _) ) rfl rfl rfl (ent_value (ov_assign rfl) rfl rfl rfl (ent_nil (ent_seq (ent_region (ent_value (ov_move rfl) rfl rfl rfl ?_)))))))))))
 refine ent_value (ov_move rfl) rfl rfl rfl (ent_value (ov_bin rfl rfl (b_mul _ _ _) ) rfl rfl rfl (ent_value (ov_move rfl) rfl rfl rfl ?_))
 refine ent_value (ov_bin rfl rfl fun w => b_shr _ _ _ _ w (by decide)) rfl rfl rfl ?_
 refine ent_value (ov_bin rfl rfl (b_add _ _ _) ) rfl rfl rfl (ent_value (ov_assign rfl) rfl rfl rfl (ent_nil (ent_seq (ent_region (ent_value (ov_move rfl) rfl rfl rfl (ent_value (ov_bin rfl rfl (b_and _ _ _)) rfl rfl rfl (ent_value (ov_assign rfl) rfl rfl rfl (ent_nil (ent_seq (ent_region (ent_value (ov_move rfl) rfl rfl rfl ?_)))))))))))
 refine ent_value (ov_bin rfl rfl fun w => b_shr _ _ _ _ w (by decide)) rfl rfl rfl ?_
 refine ent_value (ov_assign rfl) rfl rfl rfl (ent_nil (ent_seq (ent_region (ent_value (ov_move rfl) rfl rfl rfl (ent_value (ov_move rfl) rfl rfl rfl (ent_value (ov_move rfl) rfl rfl rfl (ent_value (ov_bin rfl rfl (b_mul _ _ _) ) rfl rfl rfl (ent_value (ov_bin rfl rfl (b_add _ _ _) ) rfl rfl rfl (ent_value (ov_assign rfl) rfl rfl rfl (ent_nil (ent_seq ?_)))))))))))
 refine ent_region (ent_value (ov_move rfl) rfl rfl rfl (ent_value (ov_move rfl) rfl rfl rfl (ent_value (ov_bin rfl rfl (b_mul _ _ _) ) rfl rfl rfl (ent_value (ov_move rfl) rfl rfl rfl (ent_value (ov_bin rfl rfl (b_add _ _ _) ) rfl rfl rfl (ent_value (ov_move rfl) rfl rfl rfl ?_))))))
 refine ent_value (ov_bin rfl rfl fun w => b_shr _ _ _ _ w (by decide)) rfl rfl rfl ?_
 refine ent_value (ov_bin rfl rfl (b_add _ _ _) ) rfl rfl rfl (ent_value (ov_assign rfl) rfl rfl rfl (ent_nil (ent_seq (ent_region (ent_value (ov_move rfl) rfl rfl rfl (ent_value (ov_move rfl) rfl rfl rfl (ent_value (ov_bin rfl rfl (b_mul _ _ _) ) rfl rfl rfl (ent_value (ov_assign rfl) rfl rfl rfl (ent_nil (ent_retc ?_))))))))))
 cases H
 refine ent_pick [] (by decide) rfl ?_
 exact ret_mem (vs := [int .u64 (wu64 ((wu64 ((wu64 ((bShr .u64 a0 32) * (bShr .u64 a1 32))) + (bShr .u64 (wu64 ((wu64 ((bShr .u64 a0 32) * (bAnd .u64 a1 4294967295))) + (bShr .u64 (wu64 ((bAnd .u64 a0 4294967295) * (bAnd .u64 a1 4294967295))) 32))) 32))) + (bShr .u64 (wu64 ((bAnd .u64 (wu64 ((wu64 ((bShr .u64 a0 32) * (bAnd .u64 a1 4294967295))) + (bShr .u64 (wu64 ((bAnd .u64 a0 4294967295) * (bAnd .u64 a1 4294967295))) 32))) 4294967295) + (wu64 ((bAnd .u64 a0 4294967295) * (bShr .u64 a1 32))))) 32))),int .u64 (wu64 (a0 * a1))]) rfl ⟨rfl,⟨rfl,trivial⟩⟩ _ rfl ⟨rfl,rfl⟩

theorem bits_Len64.spec (a0 r : Int) (H : bits_Len64 a0 = some r) : FnSpec Try.prog 33 [int .u64 a0] [] (fun v M => v = (I r) ∧ M = []) := by
 unfold bits_Len64 at H
 refine spec_of Try.func33 rfl 25 rfl (Nat.le_of_ble_eq_true rfl) fun F w0 => ?_
 show Ent (St 25 w0 F [(0,int .u64 a0)] []) _
 refine ent_seq (ent_region (ent_value (ov_assign rfl) rfl rfl rfl (ent_nil ?_)))
 obtain ⟨x4,H4,H⟩ := thn_elim H
 refine ent_seq_cut (fun a w => St 25 w0 F [(0,int .u64 x4.1),(2,I x4.2)] [] a w) ?_ ?_
 ·refine ent_seq (ent_region (ent_value (ov_move rfl) rfl rfl rfl (ent_value (ov_bin rfl rfl (b_geq _ _ _)) rfl rfl rfl (ent_nil ?_))))
  refine htF H4 (fun c10 H4 => ?_) fun c10 H4 => ?_
  ·refine ent_cond_false rfl (decide_eq_false c10) (ent_skip ?_)
   cases H4
   exact ent_fin [] (by decide) rfl (sub_cons (t := 0) rfl (sub_cons (t := 2) rfl (sub_nil _))) fun a w h => h
  refine ent_cond_true rfl (decide_eq_true c10) (ent_seq (ent_region (ent_value (ov_move rfl) rfl rfl rfl ?_)))
  refine ent_value (ov_bin rfl rfl fun w => b_shr _ _ _ _ w (by decide)) rfl rfl rfl ?_
  refine ent_value (ov_assign rfl) rfl rfl rfl (ent_nil (ent_region (ent_value (ov_assign rfl) rfl rfl rfl (ent_nil ?_))))
  cases H4
  exact ent_fin [] (by decide) rfl (sub_cons (t := 0) rfl (sub_cons (t := 2) rfl (sub_nil _))) fun a w h => h
 ·obtain ⟨x5,H5,H⟩ := thn_elim H
  refine ent_seq_cut (fun a w => St 25 w0 F [(0,int .u64 x5.1),(2,I x5.2)] [] a w) ?_ ?_
  ·refine ent_seq (ent_region (ent_value (ov_move rfl) rfl rfl rfl (ent_value (ov_bin rfl rfl (b_geq _ _ _)) rfl rfl rfl (ent_nil ?_))))
   refine htF H5 (fun c12 H5 => ?_) fun c12 H5 => ?_
   ·refine ent_cond_false rfl (decide_eq_false c12) (ent_skip ?_)
    cases H5
    exact ent_fin [] (by decide) rfl (sub_cons (t := 0) rfl (sub_cons (t := 2) rfl (sub_nil _))) fun a w h => h
   refine ent_cond_true rfl (decide_eq_true c12) (ent_seq (ent_region (ent_value (ov_move rfl) rfl rfl rfl ?_)))
   refine ent_value (ov_bin rfl rfl fun w => b_shr _ _ _ _ w (by decide)) rfl rfl rfl ?_
   refine ent_value (ov_assign rfl) rfl rfl rfl (ent_nil (ent_region (ent_value (ov_move rfl) rfl rfl rfl (ent_value (ov_bin rfl rfl (b_add _ _ _) ) rfl rfl rfl (ent_value (ov_assign rfl) rfl rfl rfl (ent_nil ?_))))))
   cases H5
   exact ent_fin [] (by decide) rfl (sub_cons (t := 0) rfl (sub_cons (t := 2) rfl (sub_nil _))) fun a w h => h
  ·obtain ⟨x6,H6,H⟩ := thn_elim H
   refine ent_seq_cut (fun a w => St 25 w0 F [(0,int .u64 x6.1),(2,I x6.2)] [] a w) ?_ ?_
   ·refine ent_seq (ent_region (ent_value (ov_move rfl) rfl rfl rfl (ent_value (ov_bin rfl rfl (b_geq _ _ _)) rfl rfl rfl (ent_nil ?_))))
    refine htF H6 (fun c14 H6 => ?_) fun c14 H6 => ?_
    ·refine ent_cond_false rfl (decide_eq_false c14) (ent_skip ?_)
     cases H6
     exact ent_fin [] (by decide) rfl (sub_cons (t := 0) rfl (sub_cons (t := 2) rfl (sub_nil _))) fun a w h => h
    refine ent_cond_true rfl (decide_eq_true c14) (ent_seq (ent_region (ent_value (ov_move rfl) rfl rfl rfl ?_)))
    refine ent_value (ov_bin rfl rfl fun w => b_shr _ _ _ _ w (by decide)) rfl rfl rfl ?_
    refine ent_value (ov_assign rfl) rfl rfl rfl (ent_nil (ent_region (ent_value (ov_move rfl) rfl rfl rfl (ent_value (ov_bin rfl rfl (b_add _ _ _) ) rfl rfl rfl (ent_value (ov_assign rfl) rfl rfl rfl (ent_nil ?_))))))
    cases H6
    exact ent_fin [] (by decide) rfl (sub_cons (t := 0) rfl (sub_cons (t := 2) rfl (sub_nil _))) fun a w h => h
   ·refine ent_seq (ent_region (ent_value (ov_move rfl) rfl rfl rfl (ent_value (ov_move rfl) rfl rfl rfl (ent_value (ov_convert rfl (c_int Try.underlying78 Try.underlying5)) rfl rfl rfl ?_))))
    obtain ⟨c15,H⟩ := gdT H
    obtain ⟨c16,H⟩ := gdT H
    refine ent_value (ov_indexS rfl rfl Try.underlying9 c15 c16) rfl rfl rfl (ent_value (ov_convert rfl (c_int Try.underlying5 Try.underlying3)) rfl rfl rfl (ent_value (ov_bin rfl rfl (b_add _ _ _) ) rfl rfl rfl (ent_value (ov_assign rfl) rfl rfl rfl (ent_nil (ent_retc ?_)))))
    cases H
    refine ent_pick [] (by decide) rfl ?_
    exact ret_tmp rfl rfl ⟨rfl,rfl⟩

theorem bits_LeadingZeros64.spec (a0 r : Int) (H : bits_LeadingZeros64 a0 = some r) : FnSpec Try.prog 60 [int .u64 a0] [] (fun v M => v = (I r) ∧ M = []) := by
 unfold bits_LeadingZeros64 at H
 refine spec_of Try.func60 rfl 6 rfl (Nat.le_of_ble_eq_true rfl) fun F w0 => ?_
 show Ent (St 6 w0 F [(0,int .u64 a0)] []) _
 refine ent_seq (ent_region (ent_value (ov_assign rfl) rfl rfl rfl (ent_nil (ent_seq (ent_region (ent_value (ov_move rfl) rfl rfl rfl ?_))))))
 obtain ⟨x2,h2,H⟩ := Option.bind_eq_some_iff.1 H
 refine ent_op (ot_call0 (first := []) (cap := []) (xs := [.tmp 3]) rfl rfl F_call_33 rfl (bits_Len64.spec a0 _ h2)) rfl rfl rfl ?_
 rintro _ _ ⟨rfl,rfl⟩
 refine ent_value (ov_bin rfl rfl (b_sub _ _ _) ) rfl rfl rfl (ent_value (ov_assign rfl) rfl rfl rfl (ent_nil (ent_retc ?_)))
 cases H
 refine ent_pick [] (by decide) rfl ?_
 exact ret_tmp rfl rfl ⟨rfl,rfl⟩

theorem bits_Div64.spec (K : Nat) (a0 a1 a2 : Int) (r : (Int × Int)) (H : bits_Div64 K a0 a1 a2 = some r) : FnSpec Try.prog 32 [int .u64 a0,int .u64 a1,int .u64 a2] [] (fun v M => v = (tU #[int .u64 r.1,int .u64 r.2]) ∧ M = []) := by
 unfold bits_Div64 at H
 refine spec_of Try.func32 rfl 135 rfl (Nat.le_of_ble_eq_true rfl) fun F w0 => ?_
 show Ent (St 135 w0 F [(0,int .u64 a0),(1,int .u64 a1),(2,int .u64 a2)] []) _
 refine ent_seq (ent_region (ent_value (ov_assign rfl) rfl rfl rfl (ent_value (ov_assign rfl) rfl rfl rfl (ent_nil (ent_seq (ent_seq (ent_region (ent_value (ov_move rfl) rfl rfl rfl (ent_value (ov_bin rfl rfl (b_eql _ _ _)) rfl rfl rfl (ent_nil ?_))))))))))
 refine htT H (fun c77 H => ?_) fun c77 H => ?_
 ·refine ent_cond_true rfl (eq_t c77) (ent_region ?_)
  cases H
 refine ent_cond_false rfl (eq_f c77) (ent_skip (ent_seq (ent_seq (ent_region (ent_value (ov_move rfl) rfl rfl rfl (ent_value (ov_move rfl) rfl rfl rfl (ent_value (ov_bin rfl rfl (b_leq _ _ _)) rfl rfl rfl (ent_nil ?_))))))))
 refine htT H (fun c79 H => ?_) fun c79 H => ?_
 ·refine ent_cond_true rfl (decide_eq_true c79) (ent_region ?_)
  cases H
 refine ent_cond_false rfl (decide_eq_false c79) (ent_skip (ent_seq (ent_seq (ent_region (ent_value (ov_move rfl) rfl rfl rfl (ent_value (ov_bin rfl rfl (b_eql _ _ _)) rfl rfl rfl (ent_nil ?_)))))))
 refine htT H (fun c81 H => ?_) fun c81 H => ?_
 ·refine ent_cond_true rfl (eq_t c81) (ent_seq ?_)
  refine ent_drawm 8 rfl (fun done a w => StD 135 w0 F [(0,int .u64 a0),(1,int .u64 a1),(2,int .u64 a2),(19,int .u64 a2),(20,bool (a2 == 0)),(22,int .u64 a2),(23,int .u64 a0),(24,Value.bool (decide (a2 ≤ a0))),(26,int .u64 a0),(27,bool (a0 == 0))] [(0,28,int .u64 a1),(1,29,int .u64 a2),(2,30,int .u64 (wu64 (Int.tdiv a1 a2))),(3,31,int .u64 a1),(4,32,int .u64 a2),(5,33,int .u64 (Int.tmod a1 a2)),(6,6,int .u64 (wu64 (Int.tdiv a1 a2))),(7,7,int .u64 (Int.tmod a1 a2))] done [] a w) (by kernel_rfl) (by kernel_rfl) (draw_startL (sub_cons (t := 0) rfl (sub_cons (t := 1) rfl (sub_cons (t := 2) rfl (sub_cons (t := 19) rfl (sub_cons (t := 20) rfl (sub_cons (t := 22) rfl (sub_cons (t := 23) rfl (sub_cons (t := 24) rfl (sub_cons (t := 26) rfl (sub_cons (t := 27) rfl (sub_nil _))))))))))) rfl) ?_ ?_
  ·refine ⟨?_,?_,?_,?_,?_,?_,?_,?_,trivial⟩
   ·exact fun done hi hc hcu => draw_value (i := 0) (t := 28) (v := (int .u64 a1)) rfl rfl (wanted_none rfl) (fun a => hasA_base) (ov_move rfl) rfl rfl (onlyT_spec (k0 := 0) rfl rfl rfl)
   ·exact fun done hi hc hcu => draw_value (i := 1) (t := 29) (v := (int .u64 a2)) rfl rfl (wanted_none rfl) (fun a => hasA_base) (ov_move rfl) rfl rfl (onlyT_spec (k0 := 1) rfl rfl rfl)
   ·exact fun done hi hc hcu => draw_value (i := 2) (t := 30) (v := (int .u64 (wu64 (Int.tdiv a1 a2)))) rfl rfl (wanted_none rfl) (fun a => (hasA_cons (k := 1) rfl (done_of (j := 1) hcu rfl (by decide) rfl) (hasA_cons (k := 0) rfl (done_of (j := 0) hcu rfl (by decide) rfl) hasA_base))) (ov_bin rfl rfl fun w => b_quo _ _ _ w c77) rfl rfl (onlyT_spec (k0 := 2) rfl rfl rfl)
   ·exact fun done hi hc hcu => draw_value (i := 3) (t := 31) (v := (int .u64 a1)) rfl rfl (wanted_none rfl) (fun a => hasA_base) (ov_move rfl) rfl rfl (onlyT_spec (k0 := 3) rfl rfl rfl)
   ·exact fun done hi hc hcu => draw_value (i := 4) (t := 32) (v := (int .u64 a2)) rfl rfl (wanted_none rfl) (fun a => hasA_base) (ov_move rfl) rfl rfl (onlyT_spec (k0 := 4) rfl rfl rfl)
   ·exact fun done hi hc hcu => draw_value (i := 5) (t := 33) (v := (int .u64 (Int.tmod a1 a2))) rfl rfl (wanted_none rfl) (fun a => (hasA_cons (k := 4) rfl (done_of (j := 4) hcu rfl (by decide) rfl) (hasA_cons (k := 3) rfl (done_of (j := 3) hcu rfl (by decide) rfl) hasA_base))) (ov_bin rfl rfl fun w => b_rem _ _ _ w c77) rfl rfl (onlyT_spec (k0 := 5) rfl rfl rfl)
   ·exact fun done hi hc hcu => draw_value (i := 6) (t := 6) (v := (int .u64 (wu64 (Int.tdiv a1 a2)))) rfl rfl (wanted_none rfl) (fun a => (hasA_cons (k := 2) rfl (done_of (j := 2) hcu rfl (by decide) rfl) hasA_base)) (ov_assign rfl) rfl rfl (onlyT_spec (k0 := 6) rfl rfl rfl)
   ·exact fun done hi hc hcu => draw_value (i := 7) (t := 7) (v := (int .u64 (Int.tmod a1 a2))) rfl rfl (wanted_none rfl) (fun a => (hasA_cons (k := 5) rfl (done_of (j := 5) hcu rfl (by decide) rfl) hasA_base)) (ov_assign rfl) rfl rfl (onlyT_spec (k0 := 7) rfl rfl rfl)
  ·intro done hall
   refine draw_endL [] rfl (fun a => (hasA_cons (k := 6) rfl (hall 6 (by decide)) (hasA_cons (k := 7) rfl (hall 7 (by decide)) (hasA_cons (k := 0) rfl (hall 0 (by decide)) (hasA_cons (k := 1) rfl (hall 1 (by decide)) (hasA_cons (k := 2) rfl (hall 2 (by decide)) (hasA_cons (k := 3) rfl (hall 3 (by decide)) (hasA_cons (k := 4) rfl (hall 4 (by decide)) (hasA_cons (k := 5) rfl (hall 5 (by decide)) hasA_base))))))))) ?_
   refine ent_retc ?_
   cases H
   refine ent_pick [] (by decide) rfl ?_
   exact ret_mem (vs := [int .u64 (wu64 (Int.tdiv a1 a2)),int .u64 (Int.tmod a1 a2)]) rfl ⟨rfl,⟨rfl,trivial⟩⟩ _ rfl ⟨rfl,rfl⟩
 refine ent_cond_false rfl (eq_f c81) (ent_skip (ent_seq (ent_region (ent_value (ov_move rfl) rfl rfl rfl ?_))))
 obtain ⟨x16,h2,H⟩ := Option.bind_eq_some_iff.1 H
 refine ent_op (ot_call0 (first := []) (cap := []) (xs := [.tmp 34]) rfl rfl F_call_60 rfl (bits_LeadingZeros64.spec a2 _ h2)) rfl rfl rfl ?_
 rintro _ _ ⟨rfl,rfl⟩
 refine ent_value (ov_convert rfl (c_int Try.underlying3 Try.underlying82)) rfl rfl rfl (ent_value (ov_assign rfl) rfl rfl rfl (ent_nil (ent_seq (ent_region (ent_value (ov_move rfl) rfl rfl rfl (ent_value (ov_move rfl) rfl rfl rfl ?_))))))
 obtain ⟨c82,H⟩ := gdT H
 refine ent_value (ov_bin rfl rfl fun w => b_shl _ _ _ _ w c82) rfl rfl rfl ?_
 refine ent_value (ov_assign rfl) rfl rfl rfl (ent_nil (ent_seq (ent_region (ent_value (ov_move rfl) rfl rfl rfl ?_))))
 refine ent_value (ov_bin rfl rfl fun w => b_shr _ _ _ _ w (by decide)) rfl rfl rfl ?_
 refine ent_value (ov_assign rfl) rfl rfl rfl (ent_nil (ent_seq (ent_region (ent_value (ov_move rfl) rfl rfl rfl (ent_value (ov_bin rfl rfl (b_and _ _ _)) rfl rfl rfl (ent_value (ov_assign rfl) rfl rfl rfl (ent_nil (ent_seq (ent_region (ent_value (ov_move rfl) rfl rfl rfl (ent_value (ov_move rfl) rfl rfl rfl ?_)))))))))))
 refine ent_value (ov_bin rfl rfl fun w => b_shl _ _ _ _ w c82) rfl rfl rfl ?_
 refine ent_value (ov_move rfl) rfl rfl rfl (ent_value (ov_move rfl) rfl rfl rfl (ent_value (ov_bin rfl rfl (b_sub _ _ _) ) rfl rfl rfl ?_))
 obtain ⟨c83,H⟩ := gdT H
 refine ent_value (ov_bin rfl rfl fun w => b_shr _ _ _ _ w c83) rfl rfl rfl ?_
 refine ent_value (ov_bin rfl rfl (b_or _ _ _)) rfl rfl rfl (ent_value (ov_assign rfl) rfl rfl rfl (ent_nil (ent_seq (ent_region (ent_value (ov_move rfl) rfl rfl rfl (ent_value (ov_move rfl) rfl rfl rfl ?_))))))
 refine ent_value (ov_bin rfl rfl fun w => b_shl _ _ _ _ w c82) rfl rfl rfl ?_
 refine ent_value (ov_assign rfl) rfl rfl rfl (ent_nil (ent_seq (ent_region (ent_value (ov_move rfl) rfl rfl rfl ?_))))
 refine ent_value (ov_bin rfl rfl fun w => b_shr _ _ _ _ w (by decide)) rfl rfl rfl ?_
 refine ent_value (ov_assign rfl) rfl rfl rfl (ent_nil (ent_seq (ent_region (ent_value (ov_move rfl) rfl rfl rfl (ent_value (ov_bin rfl rfl (b_and _ _ _)) rfl rfl rfl (ent_value (ov_assign rfl) rfl rfl rfl (ent_nil (ent_seq (ent_region (ent_value (ov_move rfl) rfl rfl rfl (ent_value (ov_move rfl) rfl rfl rfl ?_)))))))))))
 obtain ⟨c84,H⟩ := gdF H
 refine ent_value (ov_bin rfl rfl fun w => b_quo _ _ _ w c84) rfl rfl rfl ?_
 refine ent_value (ov_assign rfl) rfl rfl rfl (ent_nil (ent_seq (ent_region (ent_value (ov_move rfl) rfl rfl rfl (ent_value (ov_move rfl) rfl rfl rfl (ent_value (ov_move rfl) rfl rfl rfl (ent_value (ov_bin rfl rfl (b_mul _ _ _) ) rfl rfl rfl (ent_value (ov_bin rfl rfl (b_sub _ _ _) ) rfl rfl rfl (ent_value (ov_assign rfl) rfl rfl rfl (ent_nil ?_))))))))))
 obtain ⟨x20,H38,H⟩ := Option.bind_eq_some_iff.1 H
 refine ent_seq_cut (fun a w => St 135 w0 F [(2,int .u64 x20.2.1),(8,int .u64 x20.2.2.1),(9,int .u64 x20.2.2.2.1),(10,int .u64 x20.2.2.2.2.1),(11,int .u64 x20.2.2.2.2.2.1),(13,int .u64 x20.2.2.2.2.2.2.1),(14,int .u64 x20.2.2.2.2.2.2.2),(15,int .u64 x20.1)] [] a w) ?_ ?_
 ·refine ent_block ?_
  refine ent_loop (fun k a w => ∃ i96,∃ i97,∃ i98,∃ i99,∃ i100,∃ i101,∃ i102,∃ i103,∃ i104,bits_Div64_l0 K k i96 i97 i98 i99 i100 i101 i102 i103 i104 = some x20 ∧ St 135 w0 F [(2,int .u64 i96),(8,int .u64 i97),(9,int .u64 i98),(10,int .u64 i99),(11,int .u64 i100),(13,int .u64 i101),(14,int .u64 i102),(15,int .u64 i103),(16,int .u64 i104)] [] a w) K ?_ ?_
  ·exact ent_fin [] (by decide) rfl (sub_cons (t := 2) rfl (sub_cons (t := 8) rfl (sub_cons (t := 9) rfl (sub_cons (t := 10) rfl (sub_cons (t := 11) rfl (sub_cons (t := 13) rfl (sub_cons (t := 14) rfl (sub_cons (t := 15) rfl (sub_cons (t := 16) rfl (sub_nil _)))))))))) fun a w h => ⟨_,_,_,_,_,_,_,_,_,H38,h⟩
  ·refine fun k => ent_exi fun i96 => ent_exi fun i97 => ent_exi fun i98 => ent_exi fun i99 => ent_exi fun i100 => ent_exi fun i101 => ent_exi fun i102 => ent_exi fun i103 => ent_exi fun i104 => ent_and fun H43 => ?_
   cases k with
   | zero => exact absurd H43 (by simp [bits_Div64_l0])
   | succ k =>
    rw [bits_Div64_l0] at H43
    obtain ⟨x23,H44,H43⟩ := thn_elim H43
    refine ent_seq_cut (fun a w => ∃ v18,x23 = Sum.inl v18 ∧ St 135 w0 F [(2,int .u64 i96),(8,int .u64 i97),(9,int .u64 i98),(10,int .u64 i99),(11,int .u64 i100),(13,int .u64 i101),(14,int .u64 i102),(15,int .u64 i103),(16,int .u64 i104)] [] a w) ?_ ?_
    ·refine ent_seq (ent_region (ent_value (ov_move rfl) rfl rfl rfl (ent_value (ov_bin rfl rfl (b_geq _ _ _)) rfl rfl rfl (ent_value (ov_move rfl) rfl rfl rfl ?_))))
     refine htT H44 (fun c114 H44 => ?_) fun c114 H44 => ?_
     ·refine ent_off rfl rfl rfl (decide_eq_true c114) rfl rfl ?_
      refine ent_off rfl rfl rfl (decide_eq_true c114) rfl rfl ?_
      refine ent_off rfl rfl rfl (decide_eq_true c114) rfl rfl ?_
      refine ent_off rfl rfl rfl (decide_eq_true c114) rfl rfl ?_
      refine ent_off rfl rfl rfl (decide_eq_true c114) rfl rfl ?_
      refine ent_off rfl rfl rfl (decide_eq_true c114) rfl rfl ?_
      refine ent_off rfl rfl rfl (decide_eq_true c114) rfl rfl ?_
      refine ent_off rfl rfl rfl (decide_eq_true c114) rfl rfl ?_
      refine ent_value (ov_pick rfl rfl rfl (pick_t (decide_eq_true c114))) rfl rfl rfl (ent_nil (ent_cond_true rfl rfl (ent_skip ?_)))
      cases H44
      exact ent_fin [] (by decide) rfl (sub_cons (t := 2) rfl (sub_cons (t := 8) rfl (sub_cons (t := 9) rfl (sub_cons (t := 10) rfl (sub_cons (t := 11) rfl (sub_cons (t := 13) rfl (sub_cons (t := 14) rfl (sub_cons (t := 15) rfl (sub_cons (t := 16) rfl (sub_nil _)))))))))) fun a w h => ⟨_,rfl,h⟩
     refine ent_value_on (ov_move rfl) rfl rfl rfl (decide_eq_false c114) rfl rfl ?_
     refine ent_value_on (ov_move rfl) rfl rfl rfl (decide_eq_false c114) rfl rfl ?_
     refine ent_value_on (ov_bin rfl rfl (b_mul _ _ _) ) rfl rfl rfl (decide_eq_false c114) rfl rfl ?_
     refine ent_value_on (ov_move rfl) rfl rfl rfl (decide_eq_false c114) rfl rfl ?_
     refine ent_value_on (ov_bin rfl rfl (b_mul _ _ _) ) rfl rfl rfl (decide_eq_false c114) rfl rfl ?_
     refine ent_value_on (ov_move rfl) rfl rfl rfl (decide_eq_false c114) rfl rfl ?_
     refine ent_value_on (ov_bin rfl rfl (b_add _ _ _) ) rfl rfl rfl (decide_eq_false c114) rfl rfl ?_
     refine ent_value_on (ov_bin rfl rfl (b_gtr _ _ _)) rfl rfl rfl (decide_eq_false c114) rfl rfl ?_
     refine ent_value (ov_pick rfl rfl rfl (pick_f (decide_eq_false c114))) rfl rfl rfl (ent_nil ?_)
     refine htT H44 (fun c115 H44 => ?_) fun c115 H44 => ?_
     ·refine ent_cond_true rfl (decide_eq_true c115) (ent_skip ?_)
      cases H44
      exact ent_fin [] (by decide) rfl (sub_cons (t := 2) rfl (sub_cons (t := 8) rfl (sub_cons (t := 9) rfl (sub_cons (t := 10) rfl (sub_cons (t := 11) rfl (sub_cons (t := 13) rfl (sub_cons (t := 14) rfl (sub_cons (t := 15) rfl (sub_cons (t := 16) rfl (sub_nil _)))))))))) fun a w h => ⟨_,rfl,h⟩
     refine ent_cond_false rfl (decide_eq_false c115) (ent_exit ?_)
     subst H44
     have H45 := Option.some.inj (show some _ = some _ from H43)
     cases H45
     exact ent_fin [] (by decide) rfl (sub_cons (t := 2) rfl (sub_cons (t := 8) rfl (sub_cons (t := 9) rfl (sub_cons (t := 10) rfl (sub_cons (t := 11) rfl (sub_cons (t := 13) rfl (sub_cons (t := 14) rfl (sub_cons (t := 15) rfl (sub_nil _))))))))) fun a w h => h
    ·refine ent_exi fun v18 => ent_and fun e_ => ?_
     subst e_
     rw [cas_inl] at H43
     refine ent_block (ent_seq (ent_region (ent_value (ov_move rfl) rfl rfl rfl (ent_value (ov_bin rfl rfl (b_sub _ _ _) ) rfl rfl rfl (ent_value (ov_assign rfl) rfl rfl rfl (ent_nil (ent_seq (ent_region (ent_value (ov_move rfl) rfl rfl rfl (ent_value (ov_move rfl) rfl rfl rfl (ent_value (ov_bin rfl rfl (b_add _ _ _) ) rfl rfl rfl ?_)))))))))))
     refine ent_value (ov_assign rfl) rfl rfl rfl (ent_nil (ent_seq (ent_region (ent_value (ov_move rfl) rfl rfl rfl (ent_value (ov_bin rfl rfl (b_geq _ _ _)) rfl rfl rfl (ent_nil ?_))))))
     refine htT H43 (fun c116 H43 => ?_) fun c116 H43 => ?_
     ·refine ent_cond_true rfl (decide_eq_true c116) (ent_exit ?_)
      cases H43
      exact ent_fin [] (by decide) rfl (sub_cons (t := 2) rfl (sub_cons (t := 8) rfl (sub_cons (t := 9) rfl (sub_cons (t := 10) rfl (sub_cons (t := 11) rfl (sub_cons (t := 13) rfl (sub_cons (t := 14) rfl (sub_cons (t := 15) rfl (sub_nil _))))))))) fun a w h => h
     refine ent_cond_false rfl (decide_eq_false c116) (ent_skip ?_)
     exact ent_fin [] (by decide) rfl (sub_cons (t := 2) rfl (sub_cons (t := 8) rfl (sub_cons (t := 9) rfl (sub_cons (t := 10) rfl (sub_cons (t := 11) rfl (sub_cons (t := 13) rfl (sub_cons (t := 14) rfl (sub_cons (t := 15) rfl (sub_cons (t := 16) rfl (sub_nil _)))))))))) fun a w h => ⟨k,Nat.lt_succ_self k,_,_,_,_,_,_,_,_,_,H43,h⟩
 ·refine ent_seq (ent_region (ent_value (ov_move rfl) rfl rfl rfl (ent_value (ov_bin rfl rfl (b_mul _ _ _) ) rfl rfl rfl (ent_value (ov_move rfl) rfl rfl rfl (ent_value (ov_bin rfl rfl (b_add _ _ _) ) rfl rfl rfl (ent_value (ov_move rfl) rfl rfl rfl (ent_value (ov_move rfl) rfl rfl rfl (ent_value (ov_bin rfl rfl (b_mul _ _ _) ) rfl rfl rfl (ent_value (ov_bin rfl rfl (b_sub _ _ _) ) rfl rfl rfl (ent_value (ov_assign rfl) rfl rfl rfl (ent_nil ?_)))))))))))
  refine ent_seq (ent_region (ent_value (ov_move rfl) rfl rfl rfl (ent_value (ov_move rfl) rfl rfl rfl ?_)))
  obtain ⟨c117,H⟩ := gdF H
  refine ent_value (ov_bin rfl rfl fun w => b_quo _ _ _ w c117) rfl rfl rfl ?_
  refine ent_value (ov_assign rfl) rfl rfl rfl (ent_nil (ent_seq (ent_region (ent_value (ov_move rfl) rfl rfl rfl (ent_value (ov_move rfl) rfl rfl rfl (ent_value (ov_move rfl) rfl rfl rfl (ent_value (ov_bin rfl rfl (b_mul _ _ _) ) rfl rfl rfl (ent_value (ov_bin rfl rfl (b_sub _ _ _) ) rfl rfl rfl (ent_value (ov_assign rfl) rfl rfl rfl (ent_nil ?_))))))))))
  obtain ⟨x27,H53,H⟩ := Option.bind_eq_some_iff.1 H
  refine ent_seq_cut (fun a w => St 135 w0 F [(2,int .u64 x20.2.1),(8,int .u64 x20.2.2.1),(14,int .u64 x20.2.2.2.2.2.2.2),(15,int .u64 x20.1),(17,int .u64 x27.2),(18,int .u64 x27.1)] [] a w) ?_ ?_
  ·refine ent_block ?_
   refine ent_loop (fun k a w => ∃ i116,∃ i117,∃ i118,bits_Div64_l1 K x20 k i116 i117 i118 = some x27 ∧ St 135 w0 F [(2,int .u64 x20.2.1),(8,int .u64 x20.2.2.1),(9,int .u64 x20.2.2.2.1),(10,int .u64 x20.2.2.2.2.1),(14,int .u64 x20.2.2.2.2.2.2.2),(15,int .u64 x20.1),(16,int .u64 i118),(17,int .u64 i116),(18,int .u64 i117)] [] a w) K ?_ ?_
   ·exact ent_fin [] (by decide) rfl (sub_cons (t := 2) rfl (sub_cons (t := 8) rfl (sub_cons (t := 9) rfl (sub_cons (t := 10) rfl (sub_cons (t := 14) rfl (sub_cons (t := 15) rfl (sub_cons (t := 16) rfl (sub_cons (t := 17) rfl (sub_cons (t := 18) rfl (sub_nil _)))))))))) fun a w h => ⟨_,_,_,H53,h⟩
   ·refine fun k => ent_exi fun i116 => ent_exi fun i117 => ent_exi fun i118 => ent_and fun H58 => ?_
    cases k with
    | zero => exact absurd H58 (by simp [bits_Div64_l1])
    | succ k =>
     rw [bits_Div64_l1] at H58
     obtain ⟨x30,H59,H58⟩ := thn_elim H58
     refine ent_seq_cut (fun a w => ∃ v24,x30 = Sum.inl v24 ∧ St 135 w0 F [(2,int .u64 x20.2.1),(8,int .u64 x20.2.2.1),(9,int .u64 x20.2.2.2.1),(10,int .u64 x20.2.2.2.2.1),(14,int .u64 x20.2.2.2.2.2.2.2),(15,int .u64 x20.1),(16,int .u64 i118),(17,int .u64 i116),(18,int .u64 i117)] [] a w) ?_ ?_
     ·refine ent_seq (ent_region (ent_value (ov_move rfl) rfl rfl rfl (ent_value (ov_bin rfl rfl (b_geq _ _ _)) rfl rfl rfl (ent_value (ov_move rfl) rfl rfl rfl ?_))))
      refine htT H59 (fun c147 H59 => ?_) fun c147 H59 => ?_
      ·refine ent_off rfl rfl rfl (decide_eq_true c147) rfl rfl ?_
       refine ent_off rfl rfl rfl (decide_eq_true c147) rfl rfl ?_
       refine ent_off rfl rfl rfl (decide_eq_true c147) rfl rfl ?_
       refine ent_off rfl rfl rfl (decide_eq_true c147) rfl rfl ?_
       refine ent_off rfl rfl rfl (decide_eq_true c147) rfl rfl ?_
       refine ent_off rfl rfl rfl (decide_eq_true c147) rfl rfl ?_
       refine ent_off rfl rfl rfl (decide_eq_true c147) rfl rfl ?_
       refine ent_off rfl rfl rfl (decide_eq_true c147) rfl rfl ?_
       refine ent_value (ov_pick rfl rfl rfl (pick_t (decide_eq_true c147))) rfl rfl rfl (ent_nil (ent_cond_true rfl rfl (ent_skip ?_)))
       cases H59
       exact ent_fin [] (by decide) rfl (sub_cons (t := 2) rfl (sub_cons (t := 8) rfl (sub_cons (t := 9) rfl (sub_cons (t := 10) rfl (sub_cons (t := 14) rfl (sub_cons (t := 15) rfl (sub_cons (t := 16) rfl (sub_cons (t := 17) rfl (sub_cons (t := 18) rfl (sub_nil _)))))))))) fun a w h => ⟨_,rfl,h⟩
      refine ent_value_on (ov_move rfl) rfl rfl rfl (decide_eq_false c147) rfl rfl ?_
      refine ent_value_on (ov_move rfl) rfl rfl rfl (decide_eq_false c147) rfl rfl ?_
      refine ent_value_on (ov_bin rfl rfl (b_mul _ _ _) ) rfl rfl rfl (decide_eq_false c147) rfl rfl ?_
      refine ent_value_on (ov_move rfl) rfl rfl rfl (decide_eq_false c147) rfl rfl ?_
      refine ent_value_on (ov_bin rfl rfl (b_mul _ _ _) ) rfl rfl rfl (decide_eq_false c147) rfl rfl ?_
      refine ent_value_on (ov_move rfl) rfl rfl rfl (decide_eq_false c147) rfl rfl ?_
      refine ent_value_on (ov_bin rfl rfl (b_add _ _ _) ) rfl rfl rfl (decide_eq_false c147) rfl rfl ?_
      refine ent_value_on (ov_bin rfl rfl (b_gtr _ _ _)) rfl rfl rfl (decide_eq_false c147) rfl rfl ?_
      refine ent_value (ov_pick rfl rfl rfl (pick_f (decide_eq_false c147))) rfl rfl rfl (ent_nil ?_)
      refine htT H59 (fun c148 H59 => ?_) fun c148 H59 => ?_
      ·refine ent_cond_true rfl (decide_eq_true c148) (ent_skip ?_)
       cases H59
       exact ent_fin [] (by decide) rfl (sub_cons (t := 2) rfl (sub_cons (t := 8) rfl (sub_cons (t := 9) rfl (sub_cons (t := 10) rfl (sub_cons (t := 14) rfl (sub_cons (t := 15) rfl (sub_cons (t := 16) rfl (sub_cons (t := 17) rfl (sub_cons (t := 18) rfl (sub_nil _)))))))))) fun a w h => ⟨_,rfl,h⟩
      refine ent_cond_false rfl (decide_eq_false c148) (ent_exit ?_)
      subst H59
      have H60 := Option.some.inj (show some _ = some _ from H58)
      cases H60
      exact ent_fin [] (by decide) rfl (sub_cons (t := 2) rfl (sub_cons (t := 8) rfl (sub_cons (t := 14) rfl (sub_cons (t := 15) rfl (sub_cons (t := 17) rfl (sub_cons (t := 18) rfl (sub_nil _))))))) fun a w h => h
     ·refine ent_exi fun v24 => ent_and fun e_ => ?_
      subst e_
      rw [cas_inl] at H58
      refine ent_block (ent_seq (ent_region (ent_value (ov_move rfl) rfl rfl rfl (ent_value (ov_bin rfl rfl (b_sub _ _ _) ) rfl rfl rfl (ent_value (ov_assign rfl) rfl rfl rfl (ent_nil (ent_seq (ent_region (ent_value (ov_move rfl) rfl rfl rfl (ent_value (ov_move rfl) rfl rfl rfl (ent_value (ov_bin rfl rfl (b_add _ _ _) ) rfl rfl rfl ?_)))))))))))
      refine ent_value (ov_assign rfl) rfl rfl rfl (ent_nil (ent_seq (ent_region (ent_value (ov_move rfl) rfl rfl rfl (ent_value (ov_bin rfl rfl (b_geq _ _ _)) rfl rfl rfl (ent_nil ?_))))))
      refine htT H58 (fun c149 H58 => ?_) fun c149 H58 => ?_
      ·refine ent_cond_true rfl (decide_eq_true c149) (ent_exit ?_)
       cases H58
       exact ent_fin [] (by decide) rfl (sub_cons (t := 2) rfl (sub_cons (t := 8) rfl (sub_cons (t := 14) rfl (sub_cons (t := 15) rfl (sub_cons (t := 17) rfl (sub_cons (t := 18) rfl (sub_nil _))))))) fun a w h => h
      refine ent_cond_false rfl (decide_eq_false c149) (ent_skip ?_)
      exact ent_fin [] (by decide) rfl (sub_cons (t := 2) rfl (sub_cons (t := 8) rfl (sub_cons (t := 9) rfl (sub_cons (t := 10) rfl (sub_cons (t := 14) rfl (sub_cons (t := 15) rfl (sub_cons (t := 16) rfl (sub_cons (t := 17) rfl (sub_cons (t := 18) rfl (sub_nil _)))))))))) fun a w h => ⟨k,Nat.lt_succ_self k,_,_,_,H58,h⟩
  ·refine ent_seq (ent_region (ent_value (ov_move rfl) rfl rfl rfl (ent_value (ov_bin rfl rfl (b_mul _ _ _) ) rfl rfl rfl (ent_value (ov_move rfl) rfl rfl rfl (ent_value (ov_bin rfl rfl (b_add _ _ _) ) rfl rfl rfl (ent_value (ov_move rfl) rfl rfl rfl (ent_value (ov_bin rfl rfl (b_mul _ _ _) ) rfl rfl rfl (ent_value (ov_move rfl) rfl rfl rfl (ent_value (ov_bin rfl rfl (b_add _ _ _) ) rfl rfl rfl (ent_value (ov_move rfl) rfl rfl rfl (ent_value (ov_move rfl) rfl rfl rfl ?_)))))))))))
   refine ent_value (ov_bin rfl rfl (b_mul _ _ _) ) rfl rfl rfl (ent_value (ov_bin rfl rfl (b_sub _ _ _) ) rfl rfl rfl (ent_value (ov_move rfl) rfl rfl rfl ?_))
   obtain ⟨c150,H⟩ := gdT H
   refine ent_value (ov_bin rfl rfl fun w => b_shr _ _ _ _ w c150) rfl rfl rfl ?_
   refine ent_value (ov_assign rfl) rfl rfl rfl (ent_value (ov_assign rfl) rfl rfl rfl (ent_nil (ent_retc ?_)))
   cases H
   refine ent_pick [] (by decide) rfl ?_
   exact ret_mem (vs := [int .u64 (wu64 ((wu64 (x20.1 * 4294967296)) + x27.1)),int .u64 (bShr .u64 (wu64 ((wu64 ((wu64 (x27.2 * 4294967296)) + x20.2.2.2.2.2.2.2)) - (wu64 (x27.1 * x20.2.1)))) x20.2.2.1)]) rfl ⟨rfl,⟨rfl,trivial⟩⟩ _ rfl ⟨rfl,rfl⟩

theorem stat_Shares_R.spec (K : Nat) (sv0 : Value) (A0 : HP) (l0 : List Api_Row) (hA0 : IsRd A0 sv0 l0.length 9 (fl enc_Api_Row l0)) (r : (Bool × (List Int))) (H : stat_Shares_R K l0 = some r) : FnSpec Try.prog 9 [sv0] [A0] (fun v M => ∃ sv27 : Value,v = (tU #[sv27,bool r.1]) ∧ M = [A0,own sv27 2 1 r.2.length (fl (eI .i64) r.2)]) := by
 unfold stat_Shares_R at H
 refine spec_of Try.func9 rfl 62 rfl (Nat.le_of_ble_eq_true rfl) fun F w0 => ?_
 show Ent (St 62 w0 F [(0,sv0)] [A0]) _
 refine ent_seq (ent_region (ent_value (ov_assign rfl) rfl rfl rfl (ent_value (ov_assign rfl) rfl rfl rfl (ent_nil (ent_seq (ent_region (ent_value (ov_assign rfl) rfl rfl rfl (ent_nil ?_))))))))
 obtain ⟨x26,H9,H⟩ := Option.bind_eq_some_iff.1 H
 refine ent_seq_cut (fun a w => ∃ v2,x26 = Sum.inl v2 ∧ St 62 w0 F [(0,sv0),(2,L0),(4,int .u64 v2)] [A0] a w) ?_ ?_
 ·refine ent_seq (ent_region (ent_value (ov_move rfl) rfl rfl rfl (ent_value (ov_len 0 rfl F_slice_22 rfl hA0) rfl rfl rfl (ent_value (ov_move rfl) rfl rfl rfl (ent_nil (ent_block ?_))))))
  refine ent_loop (fun k a w => ∃ i11,∃ i12,stat_Shares_R_l0 K l0 k i11 i12 = some x26 ∧ St 62 w0 F [(0,sv0),(2,L0),(4,int .u64 i11),(13,sv0),(14,I (l0.length : Int)),(15,I i12)] [A0] a w) K ?_ ?_
  ·exact ent_fin [0] (by decide) rfl (sub_cons (t := 0) rfl (sub_cons (t := 2) rfl (sub_cons (t := 4) rfl (sub_cons (t := 13) rfl (sub_cons (t := 14) rfl (sub_cons (t := 15) rfl (sub_nil _))))))) fun a w h => ⟨_,_,H9,h⟩
  ·refine fun k => ent_exi fun i11 => ent_exi fun i12 => ent_and fun H10 => ?_
   let C1_ : List Value := [I (((l0.getD i12.toNat z_Api_Row).Key).Hour),str (((l0.getD i12.toNat z_Api_Row).Key).Dims_0),str (((l0.getD i12.toNat z_Api_Row).Key).Dims_1),str (((l0.getD i12.toNat z_Api_Row).Key).Dims_2),str (((l0.getD i12.toNat z_Api_Row).Key).Dims_3),I (((l0.getD i12.toNat z_Api_Row).Cell).Count),I (((l0.getD i12.toNat z_Api_Row).Cell).Sum),I (((l0.getD i12.toNat z_Api_Row).Cell).Min),I (((l0.getD i12.toNat z_Api_Row).Cell).Max)]
   cases k with
   | zero => exact absurd H10 (by simp [C1_,stat_Shares_R_l0])
   | succ k =>
    rw [stat_Shares_R_l0] at H10
    refine ent_seq (ent_region (ent_value (ov_bin rfl rfl (b_lss _ _ _)) rfl rfl rfl (ent_nil (ent_seq ?_))))
    refine htF H10 (fun c138 H10 => ?_) fun c138 H10 => ?_
    ·refine ent_cond_false rfl (decide_eq_false c138) (ent_exit ?_)
     cases H10
     exact ent_fin [0] (by decide) rfl (sub_cons (t := 0) rfl (sub_cons (t := 2) rfl (sub_cons (t := 4) rfl (sub_nil _)))) fun a w h => ⟨_,rfl,h⟩
    refine ent_cond_true rfl (decide_eq_true c138) (ent_skip (ent_seq (ent_block (ent_seq (ent_region ?_)))))
    obtain ⟨c143,H10⟩ := gdT H10
    refine ent_value (ov_indexAddr (sz := 8) 0 rfl rfl F_slice_22 F_size_44 rfl hA0 c143 c138) rfl rfl rfl ?_
    refine ent_value (ov_load_agg (vs := C1_) rfl F_agg_44 F_size_44 (reads_rd (i := 0) rfl hA0 (by simp [C1_]) (fl_read0 enc_Api_Row_len (ix_lt c143 c138) rfl))) rfl rfl rfl ?_
    refine ent_op (ot_alloc F_zero_44) rfl rfl rfl ?_
    rintro _ _ ⟨b36,rfl,rfl⟩
    refine ent_op0 (ot_storeG (cs := [I 0,S0,S0,S0,S0,I 0,I 0,I 0,I 0]) (cs' := C1_) (us := C1_) (L' := [box b36 44 C1_,A0]) 0 rfl rfl rfl (one_all rfl) F_size_44 rfl rfl (by simp [C1_]) rfl) rfl rfl ?_
    rintro _ _ rfl
    refine ent_nil (ent_seq (ent_seq (ent_region (ent_value (ov_fieldAddr (sz := 3) (o := 0) rfl F_field_44_1 F_size_39) rfl rfl rfl (ent_value (ov_fieldAddr (sz := 0) (o := 5) rfl F_field_39_1 F_size_2) rfl rfl rfl (ent_value (ov_load (v := (I (((l0.getD i12.toNat z_Api_Row).Cell).Sum))) rfl F_agg_2 (reads_box1 (i := 0) rfl rfl)) rfl rfl rfl (ent_value (ov_bin rfl rfl (b_lss _ _ _)) rfl rfl rfl (ent_nil ?_))))))))
    refine htT H10 (fun c145 H10 => ?_) fun c145 H10 => ?_
    ·refine ent_cond_true rfl (decide_eq_true c145) (ent_seq (ent_region (ent_value (ov_assign rfl) rfl rfl rfl (ent_value (ov_assign rfl) rfl rfl rfl (ent_nil (ent_retc ?_))))))
     cases H10
     have H11 := Option.some.inj (show some _ = some _ from H)
     cases H11
     refine ent_ownnil 2 1 ?_
     refine ent_pick [2,0] (by decide) rfl ?_
     exact ret_mem (vs := [L0,B0]) rfl ⟨rfl,⟨rfl,trivial⟩⟩ _ rfl ⟨_,rfl,rfl⟩
    refine ent_cond_false rfl (decide_eq_false c145) (ent_skip (ent_seq (ent_region (ent_value (ov_move rfl) rfl rfl rfl (ent_value (ov_fieldAddr (sz := 3) (o := 0) rfl F_field_44_1 F_size_39) rfl rfl rfl (ent_value (ov_fieldAddr (sz := 0) (o := 5) rfl F_field_39_1 F_size_2) rfl rfl rfl (ent_value (ov_load (v := (I (((l0.getD i12.toNat z_Api_Row).Cell).Sum))) rfl F_agg_2 (reads_box1 (i := 0) rfl rfl)) rfl rfl rfl (ent_value (ov_convert rfl (c_int Try.underlying2 Try.underlying78)) rfl rfl rfl (ent_value (ov_bin rfl rfl (b_add _ _ _) ) rfl rfl rfl (ent_value (ov_assign rfl) rfl rfl rfl (ent_nil ?_)))))))))))
    refine ent_seq (ent_region (ent_value (ov_move rfl) rfl rfl rfl (ent_value (ov_bin rfl rfl (b_gtr _ _ _)) rfl rfl rfl (ent_nil ?_))))
    refine htF H10 (fun c146 H10 => ?_) fun c146 H10 => ?_
    ·refine ent_cond_false rfl (decide_eq_false c146) (ent_skip (ent_region (ent_value (ov_bin rfl rfl (b_add _ _ _) ) rfl rfl rfl (ent_value (ov_move rfl) rfl rfl rfl (ent_nil ?_)))))
     exact ent_fin [1] (by decide) rfl (sub_cons (t := 0) rfl (sub_cons (t := 2) rfl (sub_cons (t := 4) rfl (sub_cons (t := 13) rfl (sub_cons (t := 14) rfl (sub_cons (t := 15) rfl (sub_nil _))))))) fun a w h => ⟨k,Nat.lt_succ_self k,_,_,H10,h⟩
    refine ent_cond_true rfl (decide_eq_true c146) (ent_seq (ent_region (ent_value (ov_assign rfl) rfl rfl rfl (ent_value (ov_assign rfl) rfl rfl rfl (ent_nil (ent_retc ?_))))))
    cases H10
    have H12 := Option.some.inj (show some _ = some _ from H)
    cases H12
    refine ent_ownnil 2 1 ?_
    refine ent_pick [2,0] (by decide) rfl ?_
    exact ret_mem (vs := [L0,B0]) rfl ⟨rfl,⟨rfl,trivial⟩⟩ _ rfl ⟨_,rfl,rfl⟩
 ·refine ent_exi fun v2 => ent_and fun e_ => ?_
  subst e_
  rw [cas_inl] at H
  refine ent_seq (ent_seq (ent_region (ent_value (ov_move rfl) rfl rfl rfl (ent_value (ov_bin rfl rfl (b_eql _ _ _)) rfl rfl rfl (ent_nil ?_)))))
  refine htT H (fun c148 H => ?_) fun c148 H => ?_
  ·refine ent_cond_true rfl (eq_t c148) (ent_seq (ent_region (ent_value (ov_assign rfl) rfl rfl rfl (ent_value (ov_assign rfl) rfl rfl rfl (ent_nil (ent_retc ?_))))))
   cases H
   refine ent_ownnil 2 1 ?_
   refine ent_pick [1,0] (by decide) rfl ?_
   exact ret_mem (vs := [L0,B0]) rfl ⟨rfl,⟨rfl,trivial⟩⟩ _ rfl ⟨_,rfl,rfl⟩
  refine ent_cond_false rfl (eq_f c148) (ent_skip (ent_seq (ent_seq (ent_region (ent_value (ov_move rfl) rfl rfl rfl (ent_value (ov_len 0 rfl F_slice_22 rfl hA0) rfl rfl rfl (ent_value (ov_move rfl) rfl rfl rfl (ent_nil (ent_block ?_)))))))))
  refine ent_loop (fun k a w => ∃ i14,∃ l5,∃ sv45 : Value,stat_Shares_R_l1 K l0 v2 k i14 l5 = some r ∧ St 62 w0 F [(2,sv45),(4,int .u64 v2),(34,sv0),(35,I (l0.length : Int)),(36,I i14)] [A0,own sv45 2 1 l5.length (fl (eI .i64) l5)] a w) K ?_ ?_
  ·refine ent_ownnil 2 1 ?_
   exact ent_fin [1,0] (by decide) rfl (sub_cons (t := 2) rfl (sub_cons (t := 4) rfl (sub_cons (t := 34) rfl (sub_cons (t := 35) rfl (sub_cons (t := 36) rfl (sub_nil _)))))) fun a w h => ⟨_,_,_,H,h⟩
  ·refine fun k => ent_exi fun i14 => ent_exi fun l5 => ent_exi fun sv45 => ent_and fun H14 => ?_
   let C0_ : List Value := [I (((l0.getD i14.toNat z_Api_Row).Key).Hour),str (((l0.getD i14.toNat z_Api_Row).Key).Dims_0),str (((l0.getD i14.toNat z_Api_Row).Key).Dims_1),str (((l0.getD i14.toNat z_Api_Row).Key).Dims_2),str (((l0.getD i14.toNat z_Api_Row).Key).Dims_3),I (((l0.getD i14.toNat z_Api_Row).Cell).Count),I (((l0.getD i14.toNat z_Api_Row).Cell).Sum),I (((l0.getD i14.toNat z_Api_Row).Cell).Min),I (((l0.getD i14.toNat z_Api_Row).Cell).Max)]
   cases k with
   | zero => exact absurd H14 (by simp [C0_,stat_Shares_R_l1])
   | succ k =>
    rw [stat_Shares_R_l1] at H14
    refine ent_seq (ent_region (ent_value (ov_bin rfl rfl (b_lss _ _ _)) rfl rfl rfl (ent_nil (ent_seq ?_))))
    refine htF H14 (fun c176 H14 => ?_) fun c176 H14 => ?_
    ·refine ent_cond_false rfl (decide_eq_false c176) (ent_exit (ent_seq (ent_region (ent_value (ov_move rfl) rfl rfl rfl (ent_value (ov_assign rfl) rfl rfl rfl (ent_value (ov_assign rfl) rfl rfl rfl (ent_nil (ent_retc ?_))))))))
     cases H14
     refine ent_pick [0,1] (by decide) rfl ?_
     exact ret_mem (vs := [sv45,bool true]) rfl ⟨rfl,⟨rfl,trivial⟩⟩ _ rfl ⟨_,rfl,rfl⟩
    refine ent_cond_true rfl (decide_eq_true c176) (ent_skip (ent_seq (ent_block (ent_seq (ent_region ?_)))))
    obtain ⟨c179,H14⟩ := gdT H14
    refine ent_value (ov_indexAddr (sz := 8) 0 rfl rfl F_slice_22 F_size_44 rfl hA0 c179 c176) rfl rfl rfl ?_
    refine ent_value (ov_load_agg (vs := C0_) rfl F_agg_44 F_size_44 (reads_rd (i := 0) rfl hA0 (by simp [C0_]) (fl_read0 enc_Api_Row_len (ix_lt c179 c176) rfl))) rfl rfl rfl ?_
    refine ent_op (ot_alloc F_zero_44) rfl rfl rfl ?_
    rintro _ _ ⟨b48,rfl,rfl⟩
    refine ent_op0 (ot_storeG (cs := [I 0,S0,S0,S0,S0,I 0,I 0,I 0,I 0]) (cs' := C0_) (us := C0_) (L' := [box b48 44 C0_,A0,own sv45 2 1 l5.length (fl (eI .i64) l5)]) 0 rfl rfl rfl (one_all rfl) F_size_44 rfl rfl (by simp [C0_]) rfl) rfl rfl ?_
    rintro _ _ rfl
    refine ent_nil (ent_seq (ent_region (ent_value (ov_fieldAddr (sz := 3) (o := 0) rfl F_field_44_1 F_size_39) rfl rfl rfl (ent_value (ov_fieldAddr (sz := 0) (o := 5) rfl F_field_39_1 F_size_2) rfl rfl rfl (ent_value (ov_load (v := (I (((l0.getD i14.toNat z_Api_Row).Cell).Sum))) rfl F_agg_2 (reads_box1 (i := 0) rfl rfl)) rfl rfl rfl (ent_value (ov_convert rfl (c_int Try.underlying2 Try.underlying78)) rfl rfl rfl ?_))))))
    obtain ⟨x49,h47,H14⟩ := thn_elim H14
    refine ent_op (ot_call0 (first := []) (cap := []) (xs := [.tmp 44,.const (int .u64 10000)]) rfl rfl F_call_31 rfl (bits_Mul64.spec (wu64 (((l0.getD i14.toNat z_Api_Row).Cell).Sum)) 10000 _ h47)) rfl rfl rfl ?_
    rintro _ _ ⟨rfl,rfl⟩
    refine ent_value (ov_move rfl) rfl rfl rfl (ent_value (ov_extract rfl rfl) rfl rfl rfl (ent_value (ov_extract rfl rfl) rfl rfl rfl (ent_value (ov_assign rfl) rfl rfl rfl (ent_value (ov_assign rfl) rfl rfl rfl (ent_nil (ent_seq (ent_region (ent_value (ov_move rfl) rfl rfl rfl (ent_value (ov_move rfl) rfl rfl rfl (ent_value (ov_move rfl) rfl rfl rfl ?_))))))))))
    obtain ⟨x50,h48,H14⟩ := Option.bind_eq_some_iff.1 H14
    refine ent_op (ot_call0 (first := []) (cap := []) (xs := [.tmp 49,.tmp 50,.tmp 51]) rfl rfl F_call_32 rfl (bits_Div64.spec K x49.1 x49.2 v2 _ h48)) rfl rfl rfl ?_
    rintro _ _ ⟨rfl,rfl⟩
    refine ent_value (ov_move rfl) rfl rfl rfl (ent_value (ov_extract rfl rfl) rfl rfl rfl (ent_value (ov_extract rfl rfl) rfl rfl rfl (ent_value (ov_assign rfl) rfl rfl rfl (ent_value (ov_assign rfl) rfl rfl rfl (ent_nil (ent_region (ent_value (ov_move rfl) rfl rfl rfl (ent_value (ov_move rfl) rfl rfl rfl (ent_value (ov_convert rfl (c_int Try.underlying78 Try.underlying2)) rfl rfl rfl ?_)))))))))
    refine ent_op (ot_buildSlice (sz := 0) (xs := [.tmp 57]) (cs := fl (eI .i64) [w64 x50.1]) rfl rfl F_slice_23 F_size_2 F_zero_2 rfl rfl (all_size rfl) rfl (by decide)) rfl rfl rfl ?_
    rintro sv52 _ rfl
    obtain ⟨c180,H14⟩ := gdT H14
    refine ent_op (ot_appendx (sz := 0) (xs := l5) (ys := [w64 x50.1]) 3 0 rfl rfl F_slice_23 F_size_2 F_zero_2 rfl F_bytes_2 rfl rfl rfl (isRd_ownx 2) rfl (eI_one _) c180) rfl rfl rfl ?_
    rintro sv53 _ rfl
    refine ent_L [own sv52 2 1 [w64 x50.1].length (fl (eI .i64) [w64 x50.1]),box b48 44 C0_,A0,own sv53 2 1 (l5 ++ [w64 x50.1]).length (fl (eI .i64) (l5 ++ [w64 x50.1]))] rfl ?_
    refine ent_value (ov_assign rfl) rfl rfl rfl (ent_nil (ent_region (ent_value (ov_bin rfl rfl (b_add _ _ _) ) rfl rfl rfl (ent_value (ov_move rfl) rfl rfl rfl (ent_nil ?_)))))
    exact ent_fin [2,3] (by decide) rfl (sub_cons (t := 2) rfl (sub_cons (t := 4) rfl (sub_cons (t := 34) rfl (sub_cons (t := 35) rfl (sub_cons (t := 36) rfl (sub_nil _)))))) fun a w h => ⟨k,Nat.lt_succ_self k,_,_,_,H14,h⟩

theorem ossuarylaw35_alive.spec (K : Nat) (r : Bool) (H : ossuarylaw35_alive K = some r) : FnSpec Try.prog 8 [] [] (fun v M => v = (bool r) ∧ M = []) := by
 unfold ossuarylaw35_alive at H
 refine spec_of Try.func8 rfl 30 rfl (Nat.le_of_ble_eq_true rfl) fun F w0 => ?_
 show Ent (St 30 w0 F [] []) _
 refine ent_seq (ent_region (ent_value (ov_assign rfl) rfl rfl rfl (ent_nil (ent_seq (ent_region (ent_value (ov_build (is := [1]) (xs := [.const (I 1)]) (vs := [I 1]) rfl rfl (build_struct (cs := [I 0,I 1,I 0,I 0]) F_zero_39 F_places_39 rfl)) rfl rfl rfl (ent_value (ov_build (is := [1]) (xs := [.tmp 4]) (vs := [agg #[I 0,I 1,I 0,I 0]]) rfl rfl (build_struct (cs := [I 0,S0,S0,S0,S0,I 0,I 1,I 0,I 0]) F_zero_44 F_places_44 rfl)) rfl rfl rfl (ent_value (ov_build (is := [1]) (xs := [.const (I 3)]) (vs := [I 3]) rfl rfl (build_struct (cs := [I 0,I 3,I 0,I 0]) F_zero_39 F_places_39 rfl)) rfl rfl rfl (ent_value (ov_build (is := [1]) (xs := [.tmp 6]) (vs := [agg #[I 0,I 3,I 0,I 0]]) rfl rfl (build_struct (cs := [I 0,S0,S0,S0,S0,I 0,I 3,I 0,I 0]) F_zero_44 F_places_44 rfl)) rfl rfl rfl ?_)))))))))
 refine ent_op (ot_buildSlice (sz := 8) (xs := [.tmp 5,.tmp 7]) (cs := fl enc_Api_Row [(⟨(⟨0,nB,nB,nB,nB⟩ : Api_Key),(⟨0,1,0,0⟩ : Api_Cell)⟩ : Api_Row),(⟨(⟨0,nB,nB,nB,nB⟩ : Api_Key),(⟨0,3,0,0⟩ : Api_Cell)⟩ : Api_Row)]) rfl rfl F_slice_22 F_size_44 F_zero_44 rfl rfl (all_size rfl) rfl (by decide)) rfl rfl rfl ?_
 rintro sv3 _ rfl
 obtain ⟨x2,h2,H⟩ := Option.bind_eq_some_iff.1 H
 refine ent_op (ot_call (Lr := []) (first := []) (cap := []) (xs := [.tmp 8]) rfl rfl F_call_9 rfl (stat_Shares_R.spec K sv3 (own sv3 44 9 [(⟨(⟨0,nB,nB,nB,nB⟩ : Api_Key),(⟨0,1,0,0⟩ : Api_Cell)⟩ : Api_Row),(⟨(⟨0,nB,nB,nB,nB⟩ : Api_Key),(⟨0,3,0,0⟩ : Api_Cell)⟩ : Api_Row)].length (fl enc_Api_Row [(⟨(⟨0,nB,nB,nB,nB⟩ : Api_Key),(⟨0,1,0,0⟩ : Api_Cell)⟩ : Api_Row),(⟨(⟨0,nB,nB,nB,nB⟩ : Api_Key),(⟨0,3,0,0⟩ : Api_Cell)⟩ : Api_Row)])) [(⟨(⟨0,nB,nB,nB,nB⟩ : Api_Key),(⟨0,1,0,0⟩ : Api_Cell)⟩ : Api_Row),(⟨(⟨0,nB,nB,nB,nB⟩ : Api_Key),(⟨0,3,0,0⟩ : Api_Cell)⟩ : Api_Row)] (isRd_ownx 44) _ h2) rfl) rfl rfl rfl ?_
 rintro _ _ ⟨_,⟨sv4,rfl,rfl⟩,rfl⟩
 refine ent_value (ov_move rfl) rfl rfl rfl (ent_value (ov_extract rfl rfl) rfl rfl rfl (ent_value (ov_extract rfl rfl) rfl rfl rfl (ent_value (ov_assign rfl) rfl rfl rfl (ent_value (ov_assign rfl) rfl rfl rfl (ent_nil (ent_seq (ent_region (ent_value (ov_move rfl) rfl rfl rfl (ent_value (ov_move rfl) rfl rfl rfl ?_)))))))))
 refine htF H (fun c6 H => ?_) fun c6 H => ?_
 ·refine ent_off rfl rfl rfl (Bool.eq_false_iff.2 c6) rfl rfl ?_
  refine ent_off rfl rfl rfl (Bool.eq_false_iff.2 c6) rfl rfl ?_
  refine ent_off rfl rfl rfl (Bool.eq_false_iff.2 c6) rfl rfl ?_
  refine ent_value (ov_pick rfl rfl rfl (pick_f (Bool.eq_false_iff.2 c6))) rfl rfl rfl (ent_value (ov_move rfl) rfl rfl rfl ?_)
  refine ent_off rfl rfl rfl rfl rfl rfl ?_
  refine ent_off rfl rfl rfl rfl rfl rfl ?_
  refine ent_off rfl rfl rfl rfl rfl rfl ?_
  refine ent_off rfl rfl rfl rfl rfl rfl ?_
  refine ent_value (ov_pick rfl rfl rfl rfl) rfl rfl rfl (ent_value (ov_move rfl) rfl rfl rfl ?_)
  refine ent_off rfl rfl rfl rfl rfl rfl ?_
  refine ent_off rfl rfl rfl rfl rfl rfl ?_
  refine ent_off rfl rfl rfl rfl rfl rfl ?_
  refine ent_off rfl rfl rfl rfl rfl rfl ?_
  refine ent_value (ov_pick rfl rfl rfl rfl) rfl rfl rfl (ent_value (ov_assign rfl) rfl rfl rfl (ent_nil (ent_retc ?_)))
  cases H
  refine ent_pick [] (by decide) rfl ?_
  exact ret_tmp rfl rfl ⟨rfl,rfl⟩
 refine ent_value_on (ov_move rfl) rfl rfl rfl c6 rfl rfl ?_
 refine ent_value_on (ov_len 1 rfl F_slice_23 rfl (isRd_ownx 2)) rfl rfl rfl c6 rfl rfl ?_
 refine ent_value_on (ov_bin rfl rfl (b_eql _ _ _)) rfl rfl rfl c6 rfl rfl ?_
 refine ent_value (ov_pick rfl rfl rfl (pick_t c6)) rfl rfl rfl (ent_value (ov_move rfl) rfl rfl rfl ?_)
 refine htF H (fun c7 H => ?_) fun c7 H => ?_
 ·refine ent_off rfl rfl rfl (eq_f c7) rfl rfl ?_
  refine ent_off rfl rfl rfl (eq_f c7) rfl rfl ?_
  refine ent_off rfl rfl rfl (eq_f c7) rfl rfl ?_
  refine ent_off rfl rfl rfl (eq_f c7) rfl rfl ?_
  refine ent_value (ov_pick rfl rfl rfl (pick_f (eq_f c7))) rfl rfl rfl (ent_value (ov_move rfl) rfl rfl rfl ?_)
  refine ent_off rfl rfl rfl rfl rfl rfl ?_
  refine ent_off rfl rfl rfl rfl rfl rfl ?_
  refine ent_off rfl rfl rfl rfl rfl rfl ?_
  refine ent_off rfl rfl rfl rfl rfl rfl ?_
  refine ent_value (ov_pick rfl rfl rfl rfl) rfl rfl rfl (ent_value (ov_assign rfl) rfl rfl rfl (ent_nil (ent_retc ?_)))
  cases H
  refine ent_pick [] (by decide) rfl ?_
  exact ret_tmp rfl rfl ⟨rfl,rfl⟩
 refine ent_value_on (ov_move rfl) rfl rfl rfl (eq_t c7) rfl rfl ?_
 obtain ⟨c8,H⟩ := gdT H
 refine ent_value_on (ov_indexAddr (sz := 0) 1 rfl rfl F_slice_23 F_size_2 rfl (isRd_ownx 2) (by decide) c8) rfl rfl rfl (eq_t c7) rfl rfl ?_
 refine ent_value_on (ov_load (v := (I (x2.2.getD ((0 : Int).toNat) 0))) rfl F_agg_2 (reads_rd (i := 1) rfl (isRd_ownx 2) (by simp) (fl_read0 (eI_len _) (ix_lt (by decide) c8) rfl))) rfl rfl rfl (eq_t c7) rfl rfl ?_
 refine ent_value_on (ov_bin rfl rfl (b_eql _ _ _)) rfl rfl rfl (eq_t c7) rfl rfl ?_
 refine ent_value (ov_pick rfl rfl rfl (pick_t (eq_t c7))) rfl rfl rfl (ent_value (ov_move rfl) rfl rfl rfl ?_)
 refine htF H (fun c9 H => ?_) fun c9 H => ?_
 ·refine ent_off rfl rfl rfl (eq_f c9) rfl rfl ?_
  refine ent_off rfl rfl rfl (eq_f c9) rfl rfl ?_
  refine ent_off rfl rfl rfl (eq_f c9) rfl rfl ?_
  refine ent_off rfl rfl rfl (eq_f c9) rfl rfl ?_
  refine ent_value (ov_pick rfl rfl rfl (pick_f (eq_f c9))) rfl rfl rfl (ent_value (ov_assign rfl) rfl rfl rfl (ent_nil (ent_retc ?_)))
  cases H
  refine ent_pick [] (by decide) rfl ?_
  exact ret_tmp rfl rfl ⟨rfl,rfl⟩
 refine ent_value_on (ov_move rfl) rfl rfl rfl (eq_t c9) rfl rfl ?_
 obtain ⟨c10,H⟩ := gdT H
 refine ent_value_on (ov_indexAddr (sz := 0) 1 rfl rfl F_slice_23 F_size_2 rfl (isRd_ownx 2) (by decide) c10) rfl rfl rfl (eq_t c9) rfl rfl ?_
 refine ent_value_on (ov_load (v := (I (x2.2.getD ((1 : Int).toNat) 0))) rfl F_agg_2 (reads_rd (i := 1) rfl (isRd_ownx 2) (by simp) (fl_read0 (eI_len _) (ix_lt (by decide) c10) rfl))) rfl rfl rfl (eq_t c9) rfl rfl ?_
 refine ent_value_on (ov_bin rfl rfl (b_eql _ _ _)) rfl rfl rfl (eq_t c9) rfl rfl ?_
 refine ent_value (ov_pick rfl rfl rfl (pick_t (eq_t c9))) rfl rfl rfl (ent_value (ov_assign rfl) rfl rfl rfl (ent_nil (ent_retc ?_)))
 cases H
 refine ent_pick [] (by decide) rfl ?_
 exact ret_tmp rfl rfl ⟨rfl,rfl⟩

theorem ossuaryref05_Right.spec (a0_0 a0_1 : Int) (a0_2 a0_3 : Int) (r : Bool) (H : ossuaryref05_Right a0_0 a0_1 a0_2 a0_3 = r) : FnSpec Try.prog 30 [agg #[I a0_0,I a0_1,I a0_2,I a0_3]] [] (fun v M => v = (bool r) ∧ M = []) := by
 unfold ossuaryref05_Right at H
 refine spec_of Try.func30 rfl 38 rfl (Nat.le_of_ble_eq_true rfl) fun F w0 => ?_
 show Ent (St 38 w0 F [(0,agg #[I a0_0,I a0_1,I a0_2,I a0_3])] []) _
 refine ent_seq (ent_region ?_)
 refine ent_op (ot_box (cs := [I a0_0,I a0_1,I a0_2,I a0_3]) rfl rfl) rfl rfl rfl ?_
 rintro _ _ ⟨b2,rfl,rfl⟩
 refine ent_value (ov_assign rfl) rfl rfl rfl (ent_nil (ent_seq (ent_seq (ent_region (ent_value (ov_fieldAddr (sz := 0) (o := 0) rfl F_field_39_0 F_size_2) rfl rfl rfl (ent_value (ov_load (v := (I a0_0)) rfl F_agg_2 (reads_box1 (i := 0) rfl rfl)) rfl rfl rfl (ent_value (ov_bin rfl rfl (b_eql _ _ _)) rfl rfl rfl (ent_nil ?_))))))))
 refine htT H (fun c8 H => ?_) fun c8 H => ?_
 ·refine ent_cond_true rfl (eq_t c8) (ent_seq (ent_region (ent_value (ov_load_agg (vs := [I a0_0,I a0_1,I a0_2,I a0_3]) rfl F_agg_39 F_size_39 (reads_boxW (i := 0) rfl)) rfl rfl rfl (ent_value (ov_build (is := []) (xs := []) (vs := []) rfl rfl (build_struct (cs := [I 0,I 0,I 0,I 0]) F_zero_39 F_places_39 rfl)) rfl rfl rfl (ent_value (ov_bin rfl rfl (same_39 _ _ _ _ _ _ _ _)) rfl rfl rfl (ent_value (ov_assign rfl) rfl rfl rfl (ent_nil (ent_retc ?_))))))))
  cases H
  refine ent_pick [] (by decide) rfl ?_
  exact ret_tmp rfl rfl ⟨rfl,rfl⟩
 refine ent_cond_false rfl (eq_f c8) (ent_skip (ent_seq (ent_region (ent_value (ov_fieldAddr (sz := 0) (o := 0) rfl F_field_39_0 F_size_2) rfl rfl rfl (ent_value (ov_load (v := (I a0_0)) rfl F_agg_2 (reads_box1 (i := 0) rfl rfl)) rfl rfl rfl (ent_value (ov_bin rfl rfl (b_gtr _ _ _)) rfl rfl rfl (ent_value (ov_move rfl) rfl rfl rfl ?_)))))))
 refine htF H (fun c9 H => ?_) fun c9 H => ?_
 ·refine ent_off rfl rfl rfl (decide_eq_false c9) rfl rfl ?_
  refine ent_off rfl rfl rfl (decide_eq_false c9) rfl rfl ?_
  refine ent_off rfl rfl rfl (decide_eq_false c9) rfl rfl ?_
  refine ent_off rfl rfl rfl (decide_eq_false c9) rfl rfl ?_
  refine ent_off rfl rfl rfl (decide_eq_false c9) rfl rfl ?_
  refine ent_value (ov_pick rfl rfl rfl (pick_f (decide_eq_false c9))) rfl rfl rfl (ent_value (ov_move rfl) rfl rfl rfl ?_)
  refine ent_off rfl rfl rfl rfl rfl rfl ?_
  refine ent_off rfl rfl rfl rfl rfl rfl ?_
  refine ent_off rfl rfl rfl rfl rfl rfl ?_
  refine ent_off rfl rfl rfl rfl rfl rfl ?_
  refine ent_offu rfl rfl rfl rfl rfl ?_
  refine ent_offu rfl rfl rfl rfl rfl ?_
  refine ent_offu rfl rfl rfl rfl rfl ?_
  refine ent_offu rfl rfl rfl rfl rfl ?_
  refine ent_offu rfl rfl rfl rfl rfl ?_
  refine ent_offu rfl rfl rfl rfl rfl ?_
  refine ent_offu rfl rfl rfl rfl rfl ?_
  refine ent_offu rfl rfl rfl rfl rfl ?_
  refine ent_offu rfl rfl rfl rfl rfl ?_
  refine ent_offu rfl rfl rfl rfl rfl ?_
  refine ent_offu rfl rfl rfl rfl rfl ?_
  refine ent_offu rfl rfl rfl rfl rfl ?_
  refine ent_off rfl rfl rfl rfl rfl rfl ?_
  refine ent_value (ov_pick rfl rfl rfl rfl) rfl rfl rfl (ent_value (ov_assign rfl) rfl rfl rfl (ent_nil (ent_retc ?_)))
  cases H
  refine ent_pick [] (by decide) rfl ?_
  exact ret_tmp rfl rfl ⟨rfl,rfl⟩
 refine ent_value_on (ov_fieldAddr (sz := 0) (o := 0) rfl F_field_39_2 F_size_2) rfl rfl rfl (decide_eq_true c9) rfl rfl ?_
 refine ent_value_on (ov_load (v := (I a0_2)) rfl F_agg_2 (reads_box1 (i := 0) rfl rfl)) rfl rfl rfl (decide_eq_true c9) rfl rfl ?_
 refine ent_value_on (ov_fieldAddr (sz := 0) (o := 0) rfl F_field_39_3 F_size_2) rfl rfl rfl (decide_eq_true c9) rfl rfl ?_
 refine ent_value_on (ov_load (v := (I a0_3)) rfl F_agg_2 (reads_box1 (i := 0) rfl rfl)) rfl rfl rfl (decide_eq_true c9) rfl rfl ?_
 refine ent_value_on (ov_bin rfl rfl (b_leq _ _ _)) rfl rfl rfl (decide_eq_true c9) rfl rfl ?_
 refine ent_value (ov_pick rfl rfl rfl (pick_t (decide_eq_true c9))) rfl rfl rfl (ent_value (ov_move rfl) rfl rfl rfl ?_)
 refine htF H (fun c10 H => ?_) fun c10 H => ?_
 ·refine ent_off rfl rfl rfl (decide_eq_false c10) rfl rfl ?_
  refine ent_off rfl rfl rfl (decide_eq_false c10) rfl rfl ?_
  refine ent_off rfl rfl rfl (decide_eq_false c10) rfl rfl ?_
  refine ent_off rfl rfl rfl (decide_eq_false c10) rfl rfl ?_
  refine ent_offu rfl rfl rfl rfl rfl ?_
  refine ent_offu rfl rfl rfl rfl rfl ?_
  refine ent_offu rfl rfl rfl rfl rfl ?_
  refine ent_offu rfl rfl rfl rfl rfl ?_
  refine ent_offu rfl rfl rfl rfl rfl ?_
  refine ent_offu rfl rfl rfl rfl rfl ?_
  refine ent_offu rfl rfl rfl rfl rfl ?_
  refine ent_offu rfl rfl rfl rfl rfl ?_
  refine ent_offu rfl rfl rfl rfl rfl ?_
  refine ent_offu rfl rfl rfl rfl rfl ?_
  refine ent_offu rfl rfl rfl rfl rfl ?_
  refine ent_offu rfl rfl rfl rfl rfl ?_
  refine ent_off rfl rfl rfl (decide_eq_false c10) rfl rfl ?_
  refine ent_value (ov_pick rfl rfl rfl (pick_f (decide_eq_false c10))) rfl rfl rfl (ent_value (ov_assign rfl) rfl rfl rfl (ent_nil (ent_retc ?_)))
  cases H
  refine ent_pick [] (by decide) rfl ?_
  exact ret_tmp rfl rfl ⟨rfl,rfl⟩
 refine ent_value_on (ov_fieldAddr (sz := 0) (o := 0) rfl F_field_39_0 F_size_2) rfl rfl rfl (decide_eq_true c10) rfl rfl ?_
 refine ent_value_on (ov_load (v := (I a0_0)) rfl F_agg_2 (reads_box1 (i := 0) rfl rfl)) rfl rfl rfl (decide_eq_true c10) rfl rfl ?_
 refine ent_value_on (ov_bin rfl rfl (b_gtr _ _ _)) rfl rfl rfl (decide_eq_true c10) rfl rfl ?_
 refine ent_value_on (ov_move rfl) rfl rfl rfl (decide_eq_true c10) rfl rfl ?_
 refine htT H (fun c11 H => ?_) fun c11 H => ?_
 ·refine ent_off rfl rfl rfl (decide_eq_true c11) rfl rfl ?_
  refine ent_off rfl rfl rfl (decide_eq_true c11) rfl rfl ?_
  refine ent_off rfl rfl rfl (decide_eq_true c11) rfl rfl ?_
  refine ent_off rfl rfl rfl (decide_eq_true c11) rfl rfl ?_
  refine ent_off rfl rfl rfl (decide_eq_true c11) rfl rfl ?_
  refine ent_off rfl rfl rfl (decide_eq_true c11) rfl rfl ?_
  refine ent_offu rfl rfl rfl rfl rfl ?_
  refine ent_offu rfl rfl rfl rfl rfl ?_
  refine ent_offu rfl rfl rfl rfl rfl ?_
  refine ent_offu rfl rfl rfl rfl rfl ?_
  refine ent_offu rfl rfl rfl rfl rfl ?_
  refine ent_off rfl rfl rfl (decide_eq_true c11) rfl rfl ?_
  refine ent_value_on (ov_pick rfl rfl rfl (pick_t (decide_eq_true c11))) rfl rfl rfl (decide_eq_true c10) rfl rfl ?_
  refine ent_value (ov_pick rfl rfl rfl (pick_t (decide_eq_true c10))) rfl rfl rfl (ent_value (ov_assign rfl) rfl rfl rfl (ent_nil (ent_retc ?_)))
  cases H
  refine ent_pick [] (by decide) rfl ?_
  exact ret_tmp rfl rfl ⟨rfl,rfl⟩
 refine ent_value_on (ov_fieldAddr (sz := 0) (o := 0) rfl F_field_39_1 F_size_2) rfl rfl rfl (decide_eq_false c11) rfl rfl ?_
 refine ent_value_on (ov_load (v := (I a0_1)) rfl F_agg_2 (reads_box1 (i := 0) rfl rfl)) rfl rfl rfl (decide_eq_false c11) rfl rfl ?_
 refine ent_value_on (ov_fieldAddr (sz := 0) (o := 0) rfl F_field_39_2 F_size_2) rfl rfl rfl (decide_eq_false c11) rfl rfl ?_
 refine ent_value_on (ov_load (v := (I a0_2)) rfl F_agg_2 (reads_box1 (i := 0) rfl rfl)) rfl rfl rfl (decide_eq_false c11) rfl rfl ?_
 refine ent_value_on (ov_bin rfl rfl (b_eql _ _ _)) rfl rfl rfl (decide_eq_false c11) rfl rfl ?_
 refine ent_value_on (ov_move rfl) rfl rfl rfl (decide_eq_false c11) rfl rfl ?_
 refine htF H (fun c12 H => ?_) fun c12 H => ?_
 ·refine ent_off rfl rfl rfl (eq_f c12) rfl rfl ?_
  refine ent_off rfl rfl rfl (eq_f c12) rfl rfl ?_
  refine ent_off rfl rfl rfl (eq_f c12) rfl rfl ?_
  refine ent_off rfl rfl rfl (eq_f c12) rfl rfl ?_
  refine ent_off rfl rfl rfl (eq_f c12) rfl rfl ?_
  refine ent_value_on (ov_pick rfl rfl rfl (pick_f (eq_f c12))) rfl rfl rfl (decide_eq_false c11) rfl rfl ?_
  refine ent_value_on (ov_pick rfl rfl rfl (pick_f (decide_eq_false c11))) rfl rfl rfl (decide_eq_true c10) rfl rfl ?_
  refine ent_value (ov_pick rfl rfl rfl (pick_t (decide_eq_true c10))) rfl rfl rfl (ent_value (ov_assign rfl) rfl rfl rfl (ent_nil (ent_retc ?_)))
  cases H
  refine ent_pick [] (by decide) rfl ?_
  exact ret_tmp rfl rfl ⟨rfl,rfl⟩
 refine ent_value_on (ov_fieldAddr (sz := 0) (o := 0) rfl F_field_39_1 F_size_2) rfl rfl rfl (eq_t c12) rfl rfl ?_
 refine ent_value_on (ov_load (v := (I a0_1)) rfl F_agg_2 (reads_box1 (i := 0) rfl rfl)) rfl rfl rfl (eq_t c12) rfl rfl ?_
 refine ent_value_on (ov_fieldAddr (sz := 0) (o := 0) rfl F_field_39_3 F_size_2) rfl rfl rfl (eq_t c12) rfl rfl ?_
 refine ent_value_on (ov_load (v := (I a0_3)) rfl F_agg_2 (reads_box1 (i := 0) rfl rfl)) rfl rfl rfl (eq_t c12) rfl rfl ?_
 refine ent_value_on (ov_bin rfl rfl (b_eql _ _ _)) rfl rfl rfl (eq_t c12) rfl rfl ?_
 refine ent_value_on (ov_pick rfl rfl rfl (pick_t (eq_t c12))) rfl rfl rfl (decide_eq_false c11) rfl rfl ?_
 refine ent_value_on (ov_pick rfl rfl rfl (pick_f (decide_eq_false c11))) rfl rfl rfl (decide_eq_true c10) rfl rfl ?_
 refine ent_value (ov_pick rfl rfl rfl (pick_t (decide_eq_true c10))) rfl rfl rfl (ent_value (ov_assign rfl) rfl rfl rfl (ent_nil (ent_retc ?_)))
 cases H
 refine ent_pick [] (by decide) rfl ?_
 exact ret_tmp rfl rfl ⟨rfl,rfl⟩

theorem ossuaryref09_Compare.spec (K : Nat) (a0_0 : Int) (a0_1 : List UInt8) (a0_2 : List UInt8) (a0_3 : List UInt8) (a0_4 : List UInt8) (a1_0 : Int) (a1_1 : List UInt8) (a1_2 : List UInt8) (a1_3 : List UInt8) (a1_4 : List UInt8) (r : Int) (H : ossuaryref09_Compare K a0_0 a0_1 a0_2 a0_3 a0_4 a1_0 a1_1 a1_2 a1_3 a1_4 = some r) : FnSpec Try.prog 29 [agg #[I a0_0,str a0_1,str a0_2,str a0_3,str a0_4],agg #[I a1_0,str a1_1,str a1_2,str a1_3,str a1_4]] [] (fun v M => v = (I r) ∧ M = []) := by
 unfold ossuaryref09_Compare at H
 refine spec_of Try.func29 rfl 38 rfl (Nat.le_of_ble_eq_true rfl) fun F w0 => ?_
 show Ent (St 38 w0 F [(0,agg #[I a0_0,str a0_1,str a0_2,str a0_3,str a0_4]),(1,agg #[I a1_0,str a1_1,str a1_2,str a1_3,str a1_4])] []) _
 refine ent_seq (ent_region ?_)
 refine ent_op (ot_box (cs := [I a0_0,str a0_1,str a0_2,str a0_3,str a0_4]) rfl rfl) rfl rfl rfl ?_
 rintro _ _ ⟨b3,rfl,rfl⟩
 refine ent_op (ot_box (cs := [I a1_0,str a1_1,str a1_2,str a1_3,str a1_4]) rfl rfl) rfl rfl rfl ?_
 rintro _ _ ⟨b4,rfl,rfl⟩
 let C0_ : List HP := [box b3 42 [I a0_0,str a0_1,str a0_2,str a0_3,str a0_4],box b4 42 [I a1_0,str a1_1,str a1_2,str a1_3,str a1_4]]
 refine ent_value (ov_assign rfl) rfl rfl rfl (ent_nil (ent_seq (ent_seq (ent_region (ent_value (ov_fieldAddr (sz := 0) (o := 0) rfl F_field_42_0 F_size_2) rfl rfl rfl (ent_value (ov_load (v := (I a0_0)) rfl F_agg_2 (reads_box1 (i := 1) rfl rfl)) rfl rfl rfl (ent_value (ov_fieldAddr (sz := 0) (o := 0) rfl F_field_42_0 F_size_2) rfl rfl rfl (ent_value (ov_load (v := (I a1_0)) rfl F_agg_2 (reads_box1 (i := 0) rfl rfl)) rfl rfl rfl (ent_value (ov_bin rfl rfl (b_neq _ _ _)) rfl rfl rfl (ent_nil ?_))))))))))
 refine htT H (fun c94 H => ?_) fun c94 H => ?_
 ·refine ent_cond_true rfl (ne_t c94) (ent_seq (ent_seq (ent_region (ent_value (ov_fieldAddr (sz := 0) (o := 0) rfl F_field_42_0 F_size_2) rfl rfl rfl (ent_value (ov_load (v := (I a0_0)) rfl F_agg_2 (reads_box1 (i := 1) rfl rfl)) rfl rfl rfl (ent_value (ov_fieldAddr (sz := 0) (o := 0) rfl F_field_42_0 F_size_2) rfl rfl rfl (ent_value (ov_load (v := (I a1_0)) rfl F_agg_2 (reads_box1 (i := 0) rfl rfl)) rfl rfl rfl (ent_value (ov_bin rfl rfl (b_lss _ _ _)) rfl rfl rfl (ent_nil ?_)))))))))
  refine htT H (fun c96 H => ?_) fun c96 H => ?_
  ·refine ent_cond_true rfl (decide_eq_true c96) (ent_seq (ent_region (ent_value (ov_assign rfl) rfl rfl rfl (ent_nil (ent_retc ?_)))))
   cases H
   refine ent_pick [] (by decide) rfl ?_
   exact ret_tmp rfl rfl ⟨rfl,rfl⟩
  refine ent_cond_false rfl (decide_eq_false c96) (ent_skip (ent_seq (ent_region (ent_value (ov_assign rfl) rfl rfl rfl (ent_nil (ent_retc ?_))))))
  cases H
  refine ent_pick [] (by decide) rfl ?_
  exact ret_tmp rfl rfl ⟨rfl,rfl⟩
 refine ent_cond_false rfl (ne_f c94) (ent_skip (ent_seq (ent_seq (ent_region (ent_value (ov_assign rfl) rfl rfl rfl (ent_nil (ent_block ?_)))))))
 refine ent_loop (fun k a w => ∃ i5,ossuaryref09_Compare_l0 K a0_1 a0_2 a0_3 a0_4 a1_1 a1_2 a1_3 a1_4 k i5 = some r ∧ St 38 w0 F [(2,pt b3 0),(3,pt b4 0),(5,I i5)] C0_ a w) K ?_ ?_
 ·exact ent_fin [1,0] (by decide) rfl (sub_cons (t := 2) rfl (sub_cons (t := 3) rfl (sub_cons (t := 5) rfl (sub_nil _)))) fun a w h => ⟨_,H,h⟩
 ·refine fun k => ent_exi fun i5 => ent_and fun H4 => ?_
  cases k with
  | zero => exact absurd H4 (by simp [C0_,ossuaryref09_Compare_l0])
  | succ k =>
   rw [ossuaryref09_Compare_l0] at H4
   refine ent_seq (ent_seq (ent_region (ent_value (ov_move rfl) rfl rfl rfl (ent_value (ov_bin rfl rfl (b_lss _ _ _)) rfl rfl rfl (ent_nil ?_)))))
   refine htF H4 (fun c166 H4 => ?_) fun c166 H4 => ?_
   ·refine ent_cond_false rfl (decide_eq_false c166) (ent_exit (ent_seq (ent_region (ent_value (ov_assign rfl) rfl rfl rfl (ent_nil (ent_retc ?_))))))
    cases H4
    refine ent_pick [] (by decide) rfl ?_
    exact ret_tmp rfl rfl ⟨rfl,rfl⟩
   refine ent_cond_true rfl (decide_eq_true c166) (ent_skip (ent_seq (ent_block (ent_seq (ent_seq ?_)))))
   obtain ⟨c177,H4⟩ := gdT H4
   obtain ⟨c178,H4⟩ := gdT H4
   refine ent_drawm 9 rfl (fun done a w => StD 38 w0 F [(2,pt b3 0),(3,pt b4 0),(5,I i5),(16,I i5),(17,Value.bool (decide (i5 < 4)))] [(0,20,I i5),(1,21,pt b3 1),(2,22,pt b3 (1 + i5.toNat * 1)),(3,23,str ([a0_1,a0_2,a0_3,a0_4].getD i5.toNat [])),(4,24,I i5),(5,25,pt b4 1),(6,26,pt b4 (1 + i5.toNat * 1)),(7,27,str ([a1_1,a1_2,a1_3,a1_4].getD i5.toNat [])),(8,28,Value.bool (decide (([a0_1,a0_2,a0_3,a0_4].getD i5.toNat []) < ([a1_1,a1_2,a1_3,a1_4].getD i5.toNat []))))] done C0_ a w) (by kernel_rfl) (by kernel_rfl) (draw_startL (sub_cons (t := 2) rfl (sub_cons (t := 3) rfl (sub_cons (t := 5) rfl (sub_cons (t := 16) rfl (sub_cons (t := 17) rfl (sub_nil _)))))) rfl) ?_ ?_
   ·refine ⟨?_,?_,?_,?_,?_,?_,?_,?_,?_,trivial⟩
    ·exact fun done hi hc hcu => draw_value (i := 0) (t := 20) (v := (I i5)) rfl rfl (wanted_none rfl) (fun a => hasA_base) (ov_move rfl) rfl rfl (onlyT_spec (k0 := 0) rfl rfl rfl)
    ·exact fun done hi hc hcu => draw_value (i := 1) (t := 21) (v := (pt b3 1)) rfl rfl (wanted_none rfl) (fun a => hasA_base) (ov_fieldAddr (sz := 3) (o := 0) rfl F_field_42_1 F_size_40) rfl rfl (onlyT_spec (k0 := 1) rfl rfl rfl)
    ·exact fun done hi hc hcu => draw_value (i := 2) (t := 22) (v := (pt b3 (1 + i5.toNat * 1))) rfl rfl (wanted_none rfl) (fun a => (hasA_cons (k := 0) rfl (done_of (j := 0) hcu rfl (by decide) rfl) (hasA_cons (k := 1) rfl (done_of (j := 1) hcu rfl (by decide) rfl) hasA_base))) (ov_indexArr (o := 1) rfl rfl F_array_40 F_size_9 c177 c178) rfl rfl (onlyT_spec (k0 := 2) rfl rfl rfl)
    ·exact fun done hi hc hcu => draw_value (i := 3) (t := 23) (v := (str ([a0_1,a0_2,a0_3,a0_4].getD i5.toNat []))) rfl rfl (wanted_none rfl) (fun a => (hasA_cons (k := 2) rfl (done_of (j := 2) hcu rfl (by decide) rfl) hasA_base)) (ov_load (v := (str ([a0_1,a0_2,a0_3,a0_4].getD i5.toNat []))) rfl F_agg_9 (reads_boxA (i := 0) (enc := eS) (z := []) (xs := [a0_1,a0_2,a0_3,a0_4]) rfl eS_len rfl (ix_lt c177 c178))) rfl rfl (onlyT_spec (k0 := 3) rfl rfl rfl)
    ·exact fun done hi hc hcu => draw_value (i := 4) (t := 24) (v := (I i5)) rfl rfl (wanted_none rfl) (fun a => hasA_base) (ov_move rfl) rfl rfl (onlyT_spec (k0 := 4) rfl rfl rfl)
    ·exact fun done hi hc hcu => draw_value (i := 5) (t := 25) (v := (pt b4 1)) rfl rfl (wanted_none rfl) (fun a => hasA_base) (ov_fieldAddr (sz := 3) (o := 0) rfl F_field_42_1 F_size_40) rfl rfl (onlyT_spec (k0 := 5) rfl rfl rfl)
    ·exact fun done hi hc hcu => draw_value (i := 6) (t := 26) (v := (pt b4 (1 + i5.toNat * 1))) rfl rfl (wanted_none rfl) (fun a => (hasA_cons (k := 4) rfl (done_of (j := 4) hcu rfl (by decide) rfl) (hasA_cons (k := 5) rfl (done_of (j := 5) hcu rfl (by decide) rfl) hasA_base))) (ov_indexArr (o := 1) rfl rfl F_array_40 F_size_9 c177 c178) rfl rfl (onlyT_spec (k0 := 6) rfl rfl rfl)
    ·exact fun done hi hc hcu => draw_value (i := 7) (t := 27) (v := (str ([a1_1,a1_2,a1_3,a1_4].getD i5.toNat []))) rfl rfl (wanted_none rfl) (fun a => (hasA_cons (k := 6) rfl (done_of (j := 6) hcu rfl (by decide) rfl) hasA_base)) (ov_load (v := (str ([a1_1,a1_2,a1_3,a1_4].getD i5.toNat []))) rfl F_agg_9 (reads_boxA (i := 1) (enc := eS) (z := []) (xs := [a1_1,a1_2,a1_3,a1_4]) rfl eS_len rfl (ix_lt c177 c178))) rfl rfl (onlyT_spec (k0 := 7) rfl rfl rfl)
    ·exact fun done hi hc hcu => draw_value (i := 8) (t := 28) (v := (Value.bool (decide (([a0_1,a0_2,a0_3,a0_4].getD i5.toNat []) < ([a1_1,a1_2,a1_3,a1_4].getD i5.toNat []))))) rfl rfl (wanted_none rfl) (fun a => (hasA_cons (k := 7) rfl (done_of (j := 7) hcu rfl (by decide) rfl) (hasA_cons (k := 3) rfl (done_of (j := 3) hcu rfl (by decide) rfl) hasA_base))) (ov_bin rfl rfl (b_lss_str _ _)) rfl rfl (onlyT_spec (k0 := 8) rfl rfl rfl)
   ·intro done hall
    refine draw_endL C0_ rfl (fun a => (hasA_cons (k := 0) rfl (hall 0 (by decide)) (hasA_cons (k := 1) rfl (hall 1 (by decide)) (hasA_cons (k := 2) rfl (hall 2 (by decide)) (hasA_cons (k := 3) rfl (hall 3 (by decide)) (hasA_cons (k := 4) rfl (hall 4 (by decide)) (hasA_cons (k := 5) rfl (hall 5 (by decide)) (hasA_cons (k := 6) rfl (hall 6 (by decide)) (hasA_cons (k := 7) rfl (hall 7 (by decide)) (hasA_cons (k := 8) rfl (hall 8 (by decide)) hasA_base)))))))))) ?_
    refine htT H4 (fun c179 H4 => ?_) fun c179 H4 => ?_
    ·refine ent_cond_true rfl (decide_eq_true c179) (ent_seq (ent_region (ent_value (ov_assign rfl) rfl rfl rfl (ent_nil (ent_retc ?_)))))
     cases H4
     refine ent_pick [] (by decide) rfl ?_
     exact ret_tmp rfl rfl ⟨rfl,rfl⟩
    refine ent_cond_false rfl (decide_eq_false c179) (ent_skip (ent_seq ?_))
    refine ent_drawm 9 rfl (fun done a w => StD 38 w0 F [(2,pt b3 0),(3,pt b4 0),(5,I i5),(16,I i5),(17,Value.bool (decide (i5 < 4))),(20,I i5),(21,pt b3 1),(22,pt b3 (1 + i5.toNat * 1)),(23,str ([a0_1,a0_2,a0_3,a0_4].getD i5.toNat [])),(24,I i5),(25,pt b4 1),(26,pt b4 (1 + i5.toNat * 1)),(27,str ([a1_1,a1_2,a1_3,a1_4].getD i5.toNat [])),(28,Value.bool (decide (([a0_1,a0_2,a0_3,a0_4].getD i5.toNat []) < ([a1_1,a1_2,a1_3,a1_4].getD i5.toNat []))))] [(0,29,I i5),(1,30,pt b3 1),(2,31,pt b3 (1 + i5.toNat * 1)),(3,32,str ([a0_1,a0_2,a0_3,a0_4].getD i5.toNat [])),(4,33,I i5),(5,34,pt b4 1),(6,35,pt b4 (1 + i5.toNat * 1)),(7,36,str ([a1_1,a1_2,a1_3,a1_4].getD i5.toNat [])),(8,37,Value.bool (decide (([a1_1,a1_2,a1_3,a1_4].getD i5.toNat []) < ([a0_1,a0_2,a0_3,a0_4].getD i5.toNat []))))] done C0_ a w) (by kernel_rfl) (by kernel_rfl) (draw_startL (sub_cons (t := 2) rfl (sub_cons (t := 3) rfl (sub_cons (t := 5) rfl (sub_cons (t := 16) rfl (sub_cons (t := 17) rfl (sub_cons (t := 20) rfl (sub_cons (t := 21) rfl (sub_cons (t := 22) rfl (sub_cons (t := 23) rfl (sub_cons (t := 24) rfl (sub_cons (t := 25) rfl (sub_cons (t := 26) rfl (sub_cons (t := 27) rfl (sub_cons (t := 28) rfl (sub_nil _))))))))))))))) rfl) ?_ ?_
    ·refine ⟨?_,?_,?_,?_,?_,?_,?_,?_,?_,trivial⟩
     ·exact fun done hi hc hcu => draw_value (i := 0) (t := 29) (v := (I i5)) rfl rfl (wanted_none rfl) (fun a => hasA_base) (ov_move rfl) rfl rfl (onlyT_spec (k0 := 0) rfl rfl rfl)
     ·exact fun done hi hc hcu => draw_value (i := 1) (t := 30) (v := (pt b3 1)) rfl rfl (wanted_none rfl) (fun a => hasA_base) (ov_fieldAddr (sz := 3) (o := 0) rfl F_field_42_1 F_size_40) rfl rfl (onlyT_spec (k0 := 1) rfl rfl rfl)
     ·exact fun done hi hc hcu => draw_value (i := 2) (t := 31) (v := (pt b3 (1 + i5.toNat * 1))) rfl rfl (wanted_none rfl) (fun a => (hasA_cons (k := 0) rfl (done_of (j := 0) hcu rfl (by decide) rfl) (hasA_cons (k := 1) rfl (done_of (j := 1) hcu rfl (by decide) rfl) hasA_base))) (ov_indexArr (o := 1) rfl rfl F_array_40 F_size_9 c177 c178) rfl rfl (onlyT_spec (k0 := 2) rfl rfl rfl)
     ·exact fun done hi hc hcu => draw_value (i := 3) (t := 32) (v := (str ([a0_1,a0_2,a0_3,a0_4].getD i5.toNat []))) rfl rfl (wanted_none rfl) (fun a => (hasA_cons (k := 2) rfl (done_of (j := 2) hcu rfl (by decide) rfl) hasA_base)) (ov_load (v := (str ([a0_1,a0_2,a0_3,a0_4].getD i5.toNat []))) rfl F_agg_9 (reads_boxA (i := 0) (enc := eS) (z := []) (xs := [a0_1,a0_2,a0_3,a0_4]) rfl eS_len rfl (ix_lt c177 c178))) rfl rfl (onlyT_spec (k0 := 3) rfl rfl rfl)
     ·exact fun done hi hc hcu => draw_value (i := 4) (t := 33) (v := (I i5)) rfl rfl (wanted_none rfl) (fun a => hasA_base) (ov_move rfl) rfl rfl (onlyT_spec (k0 := 4) rfl rfl rfl)
     ·exact fun done hi hc hcu => draw_value (i := 5) (t := 34) (v := (pt b4 1)) rfl rfl (wanted_none rfl) (fun a => hasA_base) (ov_fieldAddr (sz := 3) (o := 0) rfl F_field_42_1 F_size_40) rfl rfl (onlyT_spec (k0 := 5) rfl rfl rfl)
     ·exact fun done hi hc hcu => draw_value (i := 6) (t := 35) (v := (pt b4 (1 + i5.toNat * 1))) rfl rfl (wanted_none rfl) (fun a => (hasA_cons (k := 4) rfl (done_of (j := 4) hcu rfl (by decide) rfl) (hasA_cons (k := 5) rfl (done_of (j := 5) hcu rfl (by decide) rfl) hasA_base))) (ov_indexArr (o := 1) rfl rfl F_array_40 F_size_9 c177 c178) rfl rfl (onlyT_spec (k0 := 6) rfl rfl rfl)
     ·exact fun done hi hc hcu => draw_value (i := 7) (t := 36) (v := (str ([a1_1,a1_2,a1_3,a1_4].getD i5.toNat []))) rfl rfl (wanted_none rfl) (fun a => (hasA_cons (k := 6) rfl (done_of (j := 6) hcu rfl (by decide) rfl) hasA_base)) (ov_load (v := (str ([a1_1,a1_2,a1_3,a1_4].getD i5.toNat []))) rfl F_agg_9 (reads_boxA (i := 1) (enc := eS) (z := []) (xs := [a1_1,a1_2,a1_3,a1_4]) rfl eS_len rfl (ix_lt c177 c178))) rfl rfl (onlyT_spec (k0 := 7) rfl rfl rfl)
     ·exact fun done hi hc hcu => draw_value (i := 8) (t := 37) (v := (Value.bool (decide (([a1_1,a1_2,a1_3,a1_4].getD i5.toNat []) < ([a0_1,a0_2,a0_3,a0_4].getD i5.toNat []))))) rfl rfl (wanted_none rfl) (fun a => (hasA_cons (k := 7) rfl (done_of (j := 7) hcu rfl (by decide) rfl) (hasA_cons (k := 3) rfl (done_of (j := 3) hcu rfl (by decide) rfl) hasA_base))) (ov_bin rfl rfl (b_gtr_str _ _)) rfl rfl (onlyT_spec (k0 := 8) rfl rfl rfl)
    ·intro done hall
     refine draw_endL C0_ rfl (fun a => (hasA_cons (k := 0) rfl (hall 0 (by decide)) (hasA_cons (k := 1) rfl (hall 1 (by decide)) (hasA_cons (k := 2) rfl (hall 2 (by decide)) (hasA_cons (k := 3) rfl (hall 3 (by decide)) (hasA_cons (k := 4) rfl (hall 4 (by decide)) (hasA_cons (k := 5) rfl (hall 5 (by decide)) (hasA_cons (k := 6) rfl (hall 6 (by decide)) (hasA_cons (k := 7) rfl (hall 7 (by decide)) (hasA_cons (k := 8) rfl (hall 8 (by decide)) hasA_base)))))))))) ?_
     refine htT H4 (fun c180 H4 => ?_) fun c180 H4 => ?_
     ·refine ent_cond_true rfl (decide_eq_true c180) (ent_seq (ent_region (ent_value (ov_assign rfl) rfl rfl rfl (ent_nil (ent_retc ?_)))))
      cases H4
      refine ent_pick [] (by decide) rfl ?_
      exact ret_tmp rfl rfl ⟨rfl,rfl⟩
     refine ent_cond_false rfl (decide_eq_false c180) (ent_skip (ent_region (ent_value (ov_move rfl) rfl rfl rfl (ent_value (ov_bin rfl rfl (b_add _ _ _) ) rfl rfl rfl (ent_value (ov_assign rfl) rfl rfl rfl (ent_nil ?_))))))
     exact ent_fin [0,1] (by decide) rfl (sub_cons (t := 2) rfl (sub_cons (t := 3) rfl (sub_cons (t := 5) rfl (sub_nil _)))) fun a w h => ⟨k,Nat.lt_succ_self k,_,H4,h⟩

theorem ossuaryref11_Right_R.spec (K : Nat) (sv0 : Value) (A0 : HP) (l0 : List Api_Row) (hA0 : IsRd A0 sv0 l0.length 9 (fl enc_Api_Row l0)) (r : Bool) (H : ossuaryref11_Right_R K l0 = some r) : FnSpec Try.prog 7 [sv0] [A0] (fun v M => v = (bool r) ∧ M = [A0]) := by
 unfold ossuaryref11_Right_R at H
 refine spec_of Try.func7 rfl 45 rfl (Nat.le_of_ble_eq_true rfl) fun F w0 => ?_
 show Ent (St 45 w0 F [(0,sv0)] [A0]) _
 refine ent_seq (ent_region (ent_value (ov_assign rfl) rfl rfl rfl (ent_nil (ent_seq (ent_seq (ent_region (ent_value (ov_assign rfl) rfl rfl rfl (ent_nil (ent_block ?_)))))))))
 refine ent_loop (fun k a w => ∃ i4,ossuaryref11_Right_R_l0 K l0 k i4 = some r ∧ St 45 w0 F [(0,sv0),(3,I i4)] [A0] a w) K ?_ ?_
 ·exact ent_fin [0] (by decide) rfl (sub_cons (t := 0) rfl (sub_cons (t := 3) rfl (sub_nil _))) fun a w h => ⟨_,H,h⟩
 ·refine fun k => ent_exi fun i4 => ent_and fun H4 => ?_
  let C3_ : List Value := [I (((l0.getD i4.toNat z_Api_Row).Cell).Count),I (((l0.getD i4.toNat z_Api_Row).Cell).Sum),I (((l0.getD i4.toNat z_Api_Row).Cell).Min),I (((l0.getD i4.toNat z_Api_Row).Cell).Max)]
  let C2_ : List Value := [I (((l0.getD i4.toNat z_Api_Row).Key).Hour),str (((l0.getD i4.toNat z_Api_Row).Key).Dims_0),str (((l0.getD i4.toNat z_Api_Row).Key).Dims_1),str (((l0.getD i4.toNat z_Api_Row).Key).Dims_2),str (((l0.getD i4.toNat z_Api_Row).Key).Dims_3)]
  let C1_ : Value := agg #[I (((l0.getD i4.toNat z_Api_Row).Cell).Count),I (((l0.getD i4.toNat z_Api_Row).Cell).Sum),I (((l0.getD i4.toNat z_Api_Row).Cell).Min),I (((l0.getD i4.toNat z_Api_Row).Cell).Max)]
  let C0_ : Value := agg #[I (((l0.getD i4.toNat z_Api_Row).Key).Hour),str (((l0.getD i4.toNat z_Api_Row).Key).Dims_0),str (((l0.getD i4.toNat z_Api_Row).Key).Dims_1),str (((l0.getD i4.toNat z_Api_Row).Key).Dims_2),str (((l0.getD i4.toNat z_Api_Row).Key).Dims_3)]
  cases k with
  | zero => exact absurd H4 (by simp [C3_,C2_,C1_,C0_,ossuaryref11_Right_R_l0])
  | succ k =>
   rw [ossuaryref11_Right_R_l0] at H4
   refine ent_seq (ent_seq (ent_region (ent_value (ov_move rfl) rfl rfl rfl (ent_value (ov_move rfl) rfl rfl rfl (ent_value (ov_len 0 rfl F_slice_22 rfl hA0) rfl rfl rfl (ent_value (ov_bin rfl rfl (b_lss _ _ _)) rfl rfl rfl (ent_nil ?_)))))))
   refine htF H4 (fun c180 H4 => ?_) fun c180 H4 => ?_
   ·refine ent_cond_false rfl (decide_eq_false c180) (ent_exit (ent_seq (ent_region (ent_value (ov_assign rfl) rfl rfl rfl (ent_nil (ent_retc ?_))))))
    cases H4
    refine ent_pick [0] (by decide) rfl ?_
    exact ret_tmp rfl rfl ⟨rfl,rfl⟩
   refine ent_cond_true rfl (decide_eq_true c180) (ent_skip (ent_seq (ent_block (ent_seq ?_))))
   refine htF H4 (fun c191 H4 => ?_) fun c191 H4 => ?_
   ·obtain ⟨c198,H4⟩ := gdT H4
    refine htT H4 (fun c199 H4 => ?_) fun c199 H4 => ?_
    ·refine ent_drawm 35 rfl (fun done a w => StD 45 w0 F [(0,sv0),(3,I i4),(4,I i4),(5,sv0),(6,I (l0.length : Int)),(7,Value.bool (decide (i4 < (l0.length : Int))))] [(0,10,I i4),(1,11,Value.bool (decide (0 < i4))),(2,12,Value.bool (decide (0 < i4))),(3,13,undef),(4,14,undef),(5,15,undef),(6,16,undef),(7,17,undef),(8,18,undef),(9,19,undef),(10,20,undef),(11,21,undef),(12,22,undef),(13,23,undef),(14,24,undef),(15,25,undef),(16,26,B0),(17,27,B0),(18,28,sv0),(19,29,I i4),(20,30,(eptr sv0 (i4.toNat * 9))),(21,31,(eptr sv0 (i4.toNat * 9 + 5))),(22,32,(eptr sv0 (i4.toNat * 9 + 5))),(23,33,I (((l0.getD i4.toNat z_Api_Row).Cell).Count)),(24,34,Value.bool (decide ((((l0.getD i4.toNat z_Api_Row).Cell).Count) < 1))),(25,35,Value.bool (decide ((((l0.getD i4.toNat z_Api_Row).Cell).Count) < 1))),(26,36,Value.bool (decide ((((l0.getD i4.toNat z_Api_Row).Cell).Count) < 1))),(27,37,undef),(28,38,undef),(29,39,undef),(30,40,undef),(31,41,undef),(32,42,undef),(33,43,undef),(34,44,bool true)] done [A0] a w) (by kernel_rfl) (by kernel_rfl) (draw_startL (sub_cons (t := 0) rfl (sub_cons (t := 3) rfl (sub_cons (t := 4) rfl (sub_cons (t := 5) rfl (sub_cons (t := 6) rfl (sub_cons (t := 7) rfl (sub_nil _))))))) rfl) ?_ ?_
     ·refine ⟨?_,?_,?_,?_,?_,?_,?_,?_,?_,?_,?_,?_,?_,?_,?_,?_,?_,?_,?_,?_,?_,?_,?_,?_,?_,?_,?_,?_,?_,?_,?_,?_,?_,?_,?_,trivial⟩
      ·exact fun done hi hc hcu => draw_value (i := 0) (t := 10) (v := (I i4)) rfl rfl (wanted_none rfl) (fun a => hasA_base) (ov_move rfl) rfl rfl (onlyT_spec (k0 := 0) rfl rfl rfl)
      ·exact fun done hi hc hcu => draw_value (i := 1) (t := 11) (v := (Value.bool (decide (0 < i4)))) rfl rfl (wanted_none rfl) (fun a => (hasA_cons (k := 0) rfl (done_of (j := 0) hcu rfl (by decide) rfl) hasA_base)) (ov_bin rfl rfl (b_gtr _ _ _)) rfl rfl (onlyT_spec (k0 := 1) rfl rfl rfl)
      ·exact fun done hi hc hcu => draw_value (i := 2) (t := 12) (v := (Value.bool (decide (0 < i4)))) rfl rfl (wanted_none rfl) (fun a => (hasA_cons (k := 1) rfl (done_of (j := 1) hcu rfl (by decide) rfl) hasA_base)) (ov_move rfl) rfl rfl (onlyT_spec (k0 := 2) rfl rfl rfl)
      ·exact fun done hi hc hcu => draw_off (i := 3) (t := 13) rfl rfl (wanted_off rfl rfl rfl (decide_eq_false c191)) (fun a => (hasA_cons (k := 2) rfl (done_of (j := 2) hcu rfl (by decide) rfl) hasA_base)) rfl rfl (onlyT_spec (k0 := 3) rfl rfl rfl)
      ·exact fun done hi hc hcu => draw_off (i := 4) (t := 14) rfl rfl (wanted_off rfl rfl rfl (decide_eq_false c191)) (fun a => (hasA_cons (k := 2) rfl (done_of (j := 2) hcu rfl (by decide) rfl) hasA_base)) rfl rfl (onlyT_spec (k0 := 4) rfl rfl rfl)
      ·exact fun done hi hc hcu => draw_off (i := 5) (t := 15) rfl rfl (wanted_off rfl rfl rfl (decide_eq_false c191)) (fun a => (hasA_cons (k := 2) rfl (done_of (j := 2) hcu rfl (by decide) rfl) hasA_base)) rfl rfl (onlyT_spec (k0 := 5) rfl rfl rfl)
      ·exact fun done hi hc hcu => draw_off (i := 6) (t := 16) rfl rfl (wanted_off rfl rfl rfl (decide_eq_false c191)) (fun a => (hasA_cons (k := 2) rfl (done_of (j := 2) hcu rfl (by decide) rfl) hasA_base)) rfl rfl (onlyT_spec (k0 := 6) rfl rfl rfl)
      ·exact fun done hi hc hcu => draw_off (i := 7) (t := 17) rfl rfl (wanted_off rfl rfl rfl (decide_eq_false c191)) (fun a => (hasA_cons (k := 2) rfl (done_of (j := 2) hcu rfl (by decide) rfl) hasA_base)) rfl rfl (onlyT_spec (k0 := 7) rfl rfl rfl)
      ·exact fun done hi hc hcu => draw_off (i := 8) (t := 18) rfl rfl (wanted_off rfl rfl rfl (decide_eq_false c191)) (fun a => (hasA_cons (k := 2) rfl (done_of (j := 2) hcu rfl (by decide) rfl) hasA_base)) rfl rfl (onlyT_spec (k0 := 8) rfl rfl rfl)
      ·exact fun done hi hc hcu => draw_off (i := 9) (t := 19) rfl rfl (wanted_off rfl rfl rfl (decide_eq_false c191)) (fun a => (hasA_cons (k := 2) rfl (done_of (j := 2) hcu rfl (by decide) rfl) hasA_base)) rfl rfl (onlyT_spec (k0 := 9) rfl rfl rfl)
      ·exact fun done hi hc hcu => draw_off (i := 10) (t := 20) rfl rfl (wanted_off rfl rfl rfl (decide_eq_false c191)) (fun a => (hasA_cons (k := 2) rfl (done_of (j := 2) hcu rfl (by decide) rfl) hasA_base)) rfl rfl (onlyT_spec (k0 := 10) rfl rfl rfl)
      ·exact fun done hi hc hcu => draw_off (i := 11) (t := 21) rfl rfl (wanted_off rfl rfl rfl (decide_eq_false c191)) (fun a => (hasA_cons (k := 2) rfl (done_of (j := 2) hcu rfl (by decide) rfl) hasA_base)) rfl rfl (onlyT_spec (k0 := 11) rfl rfl rfl)
      ·exact fun done hi hc hcu => draw_off (i := 12) (t := 22) rfl rfl (wanted_off rfl rfl rfl (decide_eq_false c191)) (fun a => (hasA_cons (k := 2) rfl (done_of (j := 2) hcu rfl (by decide) rfl) hasA_base)) rfl rfl (onlyT_spec (k0 := 12) rfl rfl rfl)
      ·exact fun done hi hc hcu => draw_off (i := 13) (t := 23) rfl rfl (wanted_off rfl rfl rfl (decide_eq_false c191)) (fun a => (hasA_cons (k := 2) rfl (done_of (j := 2) hcu rfl (by decide) rfl) hasA_base)) rfl rfl (onlyT_spec (k0 := 13) rfl rfl rfl)
      ·exact fun done hi hc hcu => draw_off (i := 14) (t := 24) rfl rfl (wanted_off rfl rfl rfl (decide_eq_false c191)) (fun a => (hasA_cons (k := 2) rfl (done_of (j := 2) hcu rfl (by decide) rfl) hasA_base)) rfl rfl (onlyT_spec (k0 := 14) rfl rfl rfl)
      ·exact fun done hi hc hcu => draw_off (i := 15) (t := 25) rfl rfl (wanted_off rfl rfl rfl (decide_eq_false c191)) (fun a => (hasA_cons (k := 2) rfl (done_of (j := 2) hcu rfl (by decide) rfl) hasA_base)) rfl rfl (onlyT_spec (k0 := 15) rfl rfl rfl)
      ·exact fun done hi hc hcu => draw_value (i := 16) (t := 26) (v := B0) rfl rfl (wanted_none rfl) (fun a => (hasA_cons (k := 15) rfl (done_of (j := 15) hcu rfl (by decide) rfl) (hasA_cons (k := 2) rfl (done_of (j := 2) hcu rfl (by decide) rfl) hasA_base))) (ov_pick rfl rfl rfl (pick_f (decide_eq_false c191))) rfl rfl (onlyT_spec (k0 := 16) rfl rfl rfl)
      ·exact fun done hi hc hcu => draw_value (i := 17) (t := 27) (v := B0) rfl rfl (wanted_none rfl) (fun a => (hasA_cons (k := 16) rfl (done_of (j := 16) hcu rfl (by decide) rfl) hasA_base)) (ov_move rfl) rfl rfl (onlyT_spec (k0 := 17) rfl rfl rfl)
      ·exact fun done hi hc hcu => draw_value (i := 18) (t := 28) (v := sv0) rfl rfl (wanted_on rfl rfl rfl rfl) (fun a => (hasA_cons (k := 17) rfl (done_of (j := 17) hcu rfl (by decide) rfl) hasA_base)) (ov_move rfl) rfl rfl (onlyT_spec (k0 := 18) rfl rfl rfl)
      ·exact fun done hi hc hcu => draw_value (i := 19) (t := 29) (v := (I i4)) rfl rfl (wanted_on rfl rfl rfl rfl) (fun a => (hasA_cons (k := 17) rfl (done_of (j := 17) hcu rfl (by decide) rfl) hasA_base)) (ov_move rfl) rfl rfl (onlyT_spec (k0 := 19) rfl rfl rfl)
      ·exact fun done hi hc hcu => draw_value (i := 20) (t := 30) (v := (eptr sv0 (i4.toNat * 9))) rfl rfl (wanted_on rfl rfl rfl rfl) (fun a => (hasA_cons (k := 17) rfl (done_of (j := 17) hcu rfl (by decide) rfl) (hasA_cons (k := 19) rfl (done_of (j := 19) hcu rfl (by decide) rfl) (hasA_cons (k := 18) rfl (done_of (j := 18) hcu rfl (by decide) rfl) hasA_base)))) (ov_indexAddr (sz := 8) 0 rfl rfl F_slice_22 F_size_44 rfl hA0 c198 c180) rfl rfl (onlyT_spec (k0 := 20) rfl rfl rfl)
      ·exact fun done hi hc hcu => draw_value (i := 21) (t := 31) (v := (eptr sv0 (i4.toNat * 9 + 5))) rfl rfl (wanted_on rfl rfl rfl rfl) (fun a => (hasA_cons (k := 17) rfl (done_of (j := 17) hcu rfl (by decide) rfl) (hasA_cons (k := 20) rfl (done_of (j := 20) hcu rfl (by decide) rfl) hasA_base))) (ov_fieldAddrE (sz := 3) (k0 := i4.toNat * 9) (off := 5) 0 rfl F_field_44_1 F_size_39 rfl hA0 (fl_pos enc_Api_Row_len (ix_lt c198 c180))) rfl rfl (onlyT_spec (k0 := 21) rfl rfl rfl)
      ·exact fun done hi hc hcu => draw_value (i := 22) (t := 32) (v := (eptr sv0 (i4.toNat * 9 + 5))) rfl rfl (wanted_on rfl rfl rfl rfl) (fun a => (hasA_cons (k := 17) rfl (done_of (j := 17) hcu rfl (by decide) rfl) (hasA_cons (k := 21) rfl (done_of (j := 21) hcu rfl (by decide) rfl) hasA_base))) (ov_fieldAddrE (sz := 0) (k0 := i4.toNat * 9 + 5) (off := 0) 0 rfl F_field_39_0 F_size_2 rfl hA0 (fl_pos enc_Api_Row_len (ix_lt c198 c180))) rfl rfl (onlyT_spec (k0 := 22) rfl rfl rfl)
      ·exact fun done hi hc hcu => draw_value (i := 23) (t := 33) (v := (I (((l0.getD i4.toNat z_Api_Row).Cell).Count))) rfl rfl (wanted_on rfl rfl rfl rfl) (fun a => (hasA_cons (k := 17) rfl (done_of (j := 17) hcu rfl (by decide) rfl) (hasA_cons (k := 22) rfl (done_of (j := 22) hcu rfl (by decide) rfl) hasA_base))) (ov_load (v := (I (((l0.getD i4.toNat z_Api_Row).Cell).Count))) rfl F_agg_2 (reads_rd (i := 0) rfl hA0 (by simp [C3_,C2_,C1_,C0_]) (fl_read (off := 5) enc_Api_Row_len (ix_lt c198 c180) rfl))) rfl rfl (onlyT_spec (k0 := 23) rfl rfl rfl)
      ·exact fun done hi hc hcu => draw_value (i := 24) (t := 34) (v := (Value.bool (decide ((((l0.getD i4.toNat z_Api_Row).Cell).Count) < 1)))) rfl rfl (wanted_on rfl rfl rfl rfl) (fun a => (hasA_cons (k := 17) rfl (done_of (j := 17) hcu rfl (by decide) rfl) (hasA_cons (k := 23) rfl (done_of (j := 23) hcu rfl (by decide) rfl) hasA_base))) (ov_bin rfl rfl (b_lss _ _ _)) rfl rfl (onlyT_spec (k0 := 24) rfl rfl rfl)
      ·exact fun done hi hc hcu => draw_value (i := 25) (t := 35) (v := (Value.bool (decide ((((l0.getD i4.toNat z_Api_Row).Cell).Count) < 1)))) rfl rfl (wanted_none rfl) (fun a => (hasA_cons (k := 24) rfl (done_of (j := 24) hcu rfl (by decide) rfl) (hasA_cons (k := 17) rfl (done_of (j := 17) hcu rfl (by decide) rfl) hasA_base))) (ov_pick rfl rfl rfl rfl) rfl rfl (onlyT_spec (k0 := 25) rfl rfl rfl)
      ·exact fun done hi hc hcu => draw_value (i := 26) (t := 36) (v := (Value.bool (decide ((((l0.getD i4.toNat z_Api_Row).Cell).Count) < 1)))) rfl rfl (wanted_none rfl) (fun a => (hasA_cons (k := 25) rfl (done_of (j := 25) hcu rfl (by decide) rfl) hasA_base)) (ov_move rfl) rfl rfl (onlyT_spec (k0 := 26) rfl rfl rfl)
      ·exact fun done hi hc hcu => draw_off (i := 27) (t := 37) rfl rfl (wanted_off rfl rfl rfl (decide_eq_true c199)) (fun a => (hasA_cons (k := 26) rfl (done_of (j := 26) hcu rfl (by decide) rfl) hasA_base)) rfl rfl (onlyT_spec (k0 := 27) rfl rfl rfl)
      ·exact fun done hi hc hcu => draw_off (i := 28) (t := 38) rfl rfl (wanted_off rfl rfl rfl (decide_eq_true c199)) (fun a => (hasA_cons (k := 26) rfl (done_of (j := 26) hcu rfl (by decide) rfl) hasA_base)) rfl rfl (onlyT_spec (k0 := 28) rfl rfl rfl)
      ·exact fun done hi hc hcu => draw_off (i := 29) (t := 39) rfl rfl (wanted_off rfl rfl rfl (decide_eq_true c199)) (fun a => (hasA_cons (k := 26) rfl (done_of (j := 26) hcu rfl (by decide) rfl) hasA_base)) rfl rfl (onlyT_spec (k0 := 29) rfl rfl rfl)
      ·exact fun done hi hc hcu => draw_off (i := 30) (t := 40) rfl rfl (wanted_off rfl rfl rfl (decide_eq_true c199)) (fun a => (hasA_cons (k := 26) rfl (done_of (j := 26) hcu rfl (by decide) rfl) hasA_base)) rfl rfl (onlyT_spec (k0 := 30) rfl rfl rfl)
      ·exact fun done hi hc hcu => draw_off (i := 31) (t := 41) rfl rfl (wanted_off rfl rfl rfl (decide_eq_true c199)) (fun a => (hasA_cons (k := 26) rfl (done_of (j := 26) hcu rfl (by decide) rfl) hasA_base)) rfl rfl (onlyT_spec (k0 := 31) rfl rfl rfl)
      ·exact fun done hi hc hcu => draw_off (i := 32) (t := 42) rfl rfl (wanted_off rfl rfl rfl (decide_eq_true c199)) (fun a => (hasA_cons (k := 26) rfl (done_of (j := 26) hcu rfl (by decide) rfl) hasA_base)) rfl rfl (onlyT_spec (k0 := 32) rfl rfl rfl)
      ·exact fun done hi hc hcu => draw_off (i := 33) (t := 43) rfl rfl (wanted_off rfl rfl rfl (decide_eq_true c199)) (fun a => (hasA_cons (k := 26) rfl (done_of (j := 26) hcu rfl (by decide) rfl) hasA_base)) rfl rfl (onlyT_spec (k0 := 33) rfl rfl rfl)
      ·exact fun done hi hc hcu => draw_value (i := 34) (t := 44) (v := (bool true)) rfl rfl (wanted_none rfl) (fun a => (hasA_cons (k := 33) rfl (done_of (j := 33) hcu rfl (by decide) rfl) (hasA_cons (k := 26) rfl (done_of (j := 26) hcu rfl (by decide) rfl) hasA_base))) (ov_pick rfl rfl rfl (pick_t (decide_eq_true c199))) rfl rfl (onlyT_spec (k0 := 34) rfl rfl rfl)
     ·intro done hall
      refine draw_endL [A0] rfl (fun a => (hasA_cons (k := 0) rfl (hall 0 (by decide)) (hasA_cons (k := 1) rfl (hall 1 (by decide)) (hasA_cons (k := 2) rfl (hall 2 (by decide)) (hasA_cons (k := 3) rfl (hall 3 (by decide)) (hasA_cons (k := 4) rfl (hall 4 (by decide)) (hasA_cons (k := 5) rfl (hall 5 (by decide)) (hasA_cons (k := 6) rfl (hall 6 (by decide)) (hasA_cons (k := 7) rfl (hall 7 (by decide)) (hasA_cons (k := 8) rfl (hall 8 (by decide)) (hasA_cons (k := 9) rfl (hall 9 (by decide)) (hasA_cons (k := 10) rfl (hall 10 (by decide)) (hasA_cons (k := 11) rfl (hall 11 (by decide)) (hasA_cons (k := 12) rfl (hall 12 (by decide)) (hasA_cons (k := 13) rfl (hall 13 (by decide)) (hasA_cons (k := 14) rfl (hall 14 (by decide)) (hasA_cons (k := 15) rfl (hall 15 (by decide)) (hasA_cons (k := 16) rfl (hall 16 (by decide)) (hasA_cons (k := 17) rfl (hall 17 (by decide)) (hasA_cons (k := 18) rfl (hall 18 (by decide)) (hasA_cons (k := 19) rfl (hall 19 (by decide)) (hasA_cons (k := 20) rfl (hall 20 (by decide)) (hasA_cons (k := 21) rfl (hall 21 (by decide)) (hasA_cons (k := 22) rfl (hall 22 (by decide)) (hasA_cons (k := 23) rfl (hall 23 (by decide)) (hasA_cons (k := 24) rfl (hall 24 (by decide)) (hasA_cons (k := 25) rfl (hall 25 (by decide)) (hasA_cons (k := 26) rfl (hall 26 (by decide)) (hasA_cons (k := 27) rfl (hall 27 (by decide)) (hasA_cons (k := 28) rfl (hall 28 (by decide)) (hasA_cons (k := 29) rfl (hall 29 (by decide)) (hasA_cons (k := 30) rfl (hall 30 (by decide)) (hasA_cons (k := 31) rfl (hall 31 (by decide)) (hasA_cons (k := 32) rfl (hall 32 (by decide)) (hasA_cons (k := 33) rfl (hall 33 (by decide)) (hasA_cons (k := 34) rfl (hall 34 (by decide)) hasA_base)))))))))))))))))))))))))))))))))))) ?_
      refine ent_cond_true rfl rfl (ent_seq (ent_region (ent_value (ov_assign rfl) rfl rfl rfl (ent_nil (ent_retc ?_)))))
      cases H4
      refine ent_pick [0] (by decide) rfl ?_
      exact ret_tmp rfl rfl ⟨rfl,rfl⟩
    obtain ⟨x56,h56,H4⟩ := thn_elim H4
    refine ent_drawm 35 rfl (fun done a w => StD 45 w0 F [(0,sv0),(3,I i4),(4,I i4),(5,sv0),(6,I (l0.length : Int)),(7,Value.bool (decide (i4 < (l0.length : Int))))] [(0,10,I i4),(1,11,Value.bool (decide (0 < i4))),(2,12,Value.bool (decide (0 < i4))),(3,13,undef),(4,14,undef),(5,15,undef),(6,16,undef),(7,17,undef),(8,18,undef),(9,19,undef),(10,20,undef),(11,21,undef),(12,22,undef),(13,23,undef),(14,24,undef),(15,25,undef),(16,26,B0),(17,27,B0),(18,28,sv0),(19,29,I i4),(20,30,(eptr sv0 (i4.toNat * 9))),(21,31,(eptr sv0 (i4.toNat * 9 + 5))),(22,32,(eptr sv0 (i4.toNat * 9 + 5))),(23,33,I (((l0.getD i4.toNat z_Api_Row).Cell).Count)),(24,34,Value.bool (decide ((((l0.getD i4.toNat z_Api_Row).Cell).Count) < 1))),(25,35,Value.bool (decide ((((l0.getD i4.toNat z_Api_Row).Cell).Count) < 1))),(26,36,Value.bool (decide ((((l0.getD i4.toNat z_Api_Row).Cell).Count) < 1))),(27,37,sv0),(28,38,I i4),(29,39,(eptr sv0 (i4.toNat * 9))),(30,40,(eptr sv0 (i4.toNat * 9 + 5))),(31,41,C1_),(32,42,bool x56),(33,43,bool (!x56)),(34,44,bool (!x56))] done [A0] a w) (by kernel_rfl) (by kernel_rfl) (draw_startL (sub_cons (t := 0) rfl (sub_cons (t := 3) rfl (sub_cons (t := 4) rfl (sub_cons (t := 5) rfl (sub_cons (t := 6) rfl (sub_cons (t := 7) rfl (sub_nil _))))))) rfl) ?_ ?_
    ·refine ⟨?_,?_,?_,?_,?_,?_,?_,?_,?_,?_,?_,?_,?_,?_,?_,?_,?_,?_,?_,?_,?_,?_,?_,?_,?_,?_,?_,?_,?_,?_,?_,?_,?_,?_,?_,trivial⟩
     ·exact fun done hi hc hcu => draw_value (i := 0) (t := 10) (v := (I i4)) rfl rfl (wanted_none rfl) (fun a => hasA_base) (ov_move rfl) rfl rfl (onlyT_spec (k0 := 0) rfl rfl rfl)
     ·exact fun done hi hc hcu => draw_value (i := 1) (t := 11) (v := (Value.bool (decide (0 < i4)))) rfl rfl (wanted_none rfl) (fun a => (hasA_cons (k := 0) rfl (done_of (j := 0) hcu rfl (by decide) rfl) hasA_base)) (ov_bin rfl rfl (b_gtr _ _ _)) rfl rfl (onlyT_spec (k0 := 1) rfl rfl rfl)
     ·exact fun done hi hc hcu => draw_value (i := 2) (t := 12) (v := (Value.bool (decide (0 < i4)))) rfl rfl (wanted_none rfl) (fun a => (hasA_cons (k := 1) rfl (done_of (j := 1) hcu rfl (by decide) rfl) hasA_base)) (ov_move rfl) rfl rfl (onlyT_spec (k0 := 2) rfl rfl rfl)
     ·exact fun done hi hc hcu => draw_off (i := 3) (t := 13) rfl rfl (wanted_off rfl rfl rfl (decide_eq_false c191)) (fun a => (hasA_cons (k := 2) rfl (done_of (j := 2) hcu rfl (by decide) rfl) hasA_base)) rfl rfl (onlyT_spec (k0 := 3) rfl rfl rfl)
     ·exact fun done hi hc hcu => draw_off (i := 4) (t := 14) rfl rfl (wanted_off rfl rfl rfl (decide_eq_false c191)) (fun a => (hasA_cons (k := 2) rfl (done_of (j := 2) hcu rfl (by decide) rfl) hasA_base)) rfl rfl (onlyT_spec (k0 := 4) rfl rfl rfl)
     ·exact fun done hi hc hcu => draw_off (i := 5) (t := 15) rfl rfl (wanted_off rfl rfl rfl (decide_eq_false c191)) (fun a => (hasA_cons (k := 2) rfl (done_of (j := 2) hcu rfl (by decide) rfl) hasA_base)) rfl rfl (onlyT_spec (k0 := 5) rfl rfl rfl)
     ·exact fun done hi hc hcu => draw_off (i := 6) (t := 16) rfl rfl (wanted_off rfl rfl rfl (decide_eq_false c191)) (fun a => (hasA_cons (k := 2) rfl (done_of (j := 2) hcu rfl (by decide) rfl) hasA_base)) rfl rfl (onlyT_spec (k0 := 6) rfl rfl rfl)
     ·exact fun done hi hc hcu => draw_off (i := 7) (t := 17) rfl rfl (wanted_off rfl rfl rfl (decide_eq_false c191)) (fun a => (hasA_cons (k := 2) rfl (done_of (j := 2) hcu rfl (by decide) rfl) hasA_base)) rfl rfl (onlyT_spec (k0 := 7) rfl rfl rfl)
     ·exact fun done hi hc hcu => draw_off (i := 8) (t := 18) rfl rfl (wanted_off rfl rfl rfl (decide_eq_false c191)) (fun a => (hasA_cons (k := 2) rfl (done_of (j := 2) hcu rfl (by decide) rfl) hasA_base)) rfl rfl (onlyT_spec (k0 := 8) rfl rfl rfl)
     ·exact fun done hi hc hcu => draw_off (i := 9) (t := 19) rfl rfl (wanted_off rfl rfl rfl (decide_eq_false c191)) (fun a => (hasA_cons (k := 2) rfl (done_of (j := 2) hcu rfl (by decide) rfl) hasA_base)) rfl rfl (onlyT_spec (k0 := 9) rfl rfl rfl)
     ·exact fun done hi hc hcu => draw_off (i := 10) (t := 20) rfl rfl (wanted_off rfl rfl rfl (decide_eq_false c191)) (fun a => (hasA_cons (k := 2) rfl (done_of (j := 2) hcu rfl (by decide) rfl) hasA_base)) rfl rfl (onlyT_spec (k0 := 10) rfl rfl rfl)
     ·exact fun done hi hc hcu => draw_off (i := 11) (t := 21) rfl rfl (wanted_off rfl rfl rfl (decide_eq_false c191)) (fun a => (hasA_cons (k := 2) rfl (done_of (j := 2) hcu rfl (by decide) rfl) hasA_base)) rfl rfl (onlyT_spec (k0 := 11) rfl rfl rfl)
     ·exact fun done hi hc hcu => draw_off (i := 12) (t := 22) rfl rfl (wanted_off rfl rfl rfl (decide_eq_false c191)) (fun a => (hasA_cons (k := 2) rfl (done_of (j := 2) hcu rfl (by decide) rfl) hasA_base)) rfl rfl (onlyT_spec (k0 := 12) rfl rfl rfl)
     ·exact fun done hi hc hcu => draw_off (i := 13) (t := 23) rfl rfl (wanted_off rfl rfl rfl (decide_eq_false c191)) (fun a => (hasA_cons (k := 2) rfl (done_of (j := 2) hcu rfl (by decide) rfl) hasA_base)) rfl rfl (onlyT_spec (k0 := 13) rfl rfl rfl)
     ·exact fun done hi hc hcu => draw_off (i := 14) (t := 24) rfl rfl (wanted_off rfl rfl rfl (decide_eq_false c191)) (fun a => (hasA_cons (k := 2) rfl (done_of (j := 2) hcu rfl (by decide) rfl) hasA_base)) rfl rfl (onlyT_spec (k0 := 14) rfl rfl rfl)
     ·exact fun done hi hc hcu => draw_off (i := 15) (t := 25) rfl rfl (wanted_off rfl rfl rfl (decide_eq_false c191)) (fun a => (hasA_cons (k := 2) rfl (done_of (j := 2) hcu rfl (by decide) rfl) hasA_base)) rfl rfl (onlyT_spec (k0 := 15) rfl rfl rfl)
     ·exact fun done hi hc hcu => draw_value (i := 16) (t := 26) (v := B0) rfl rfl (wanted_none rfl) (fun a => (hasA_cons (k := 15) rfl (done_of (j := 15) hcu rfl (by decide) rfl) (hasA_cons (k := 2) rfl (done_of (j := 2) hcu rfl (by decide) rfl) hasA_base))) (ov_pick rfl rfl rfl (pick_f (decide_eq_false c191))) rfl rfl (onlyT_spec (k0 := 16) rfl rfl rfl)
     ·exact fun done hi hc hcu => draw_value (i := 17) (t := 27) (v := B0) rfl rfl (wanted_none rfl) (fun a => (hasA_cons (k := 16) rfl (done_of (j := 16) hcu rfl (by decide) rfl) hasA_base)) (ov_move rfl) rfl rfl (onlyT_spec (k0 := 17) rfl rfl rfl)
     ·exact fun done hi hc hcu => draw_value (i := 18) (t := 28) (v := sv0) rfl rfl (wanted_on rfl rfl rfl rfl) (fun a => (hasA_cons (k := 17) rfl (done_of (j := 17) hcu rfl (by decide) rfl) hasA_base)) (ov_move rfl) rfl rfl (onlyT_spec (k0 := 18) rfl rfl rfl)
     ·exact fun done hi hc hcu => draw_value (i := 19) (t := 29) (v := (I i4)) rfl rfl (wanted_on rfl rfl rfl rfl) (fun a => (hasA_cons (k := 17) rfl (done_of (j := 17) hcu rfl (by decide) rfl) hasA_base)) (ov_move rfl) rfl rfl (onlyT_spec (k0 := 19) rfl rfl rfl)
     ·exact fun done hi hc hcu => draw_value (i := 20) (t := 30) (v := (eptr sv0 (i4.toNat * 9))) rfl rfl (wanted_on rfl rfl rfl rfl) (fun a => (hasA_cons (k := 17) rfl (done_of (j := 17) hcu rfl (by decide) rfl) (hasA_cons (k := 19) rfl (done_of (j := 19) hcu rfl (by decide) rfl) (hasA_cons (k := 18) rfl (done_of (j := 18) hcu rfl (by decide) rfl) hasA_base)))) (ov_indexAddr (sz := 8) 0 rfl rfl F_slice_22 F_size_44 rfl hA0 c198 c180) rfl rfl (onlyT_spec (k0 := 20) rfl rfl rfl)
     ·exact fun done hi hc hcu => draw_value (i := 21) (t := 31) (v := (eptr sv0 (i4.toNat * 9 + 5))) rfl rfl (wanted_on rfl rfl rfl rfl) (fun a => (hasA_cons (k := 17) rfl (done_of (j := 17) hcu rfl (by decide) rfl) (hasA_cons (k := 20) rfl (done_of (j := 20) hcu rfl (by decide) rfl) hasA_base))) (ov_fieldAddrE (sz := 3) (k0 := i4.toNat * 9) (off := 5) 0 rfl F_field_44_1 F_size_39 rfl hA0 (fl_pos enc_Api_Row_len (ix_lt c198 c180))) rfl rfl (onlyT_spec (k0 := 21) rfl rfl rfl)
     ·exact fun done hi hc hcu => draw_value (i := 22) (t := 32) (v := (eptr sv0 (i4.toNat * 9 + 5))) rfl rfl (wanted_on rfl rfl rfl rfl) (fun a => (hasA_cons (k := 17) rfl (done_of (j := 17) hcu rfl (by decide) rfl) (hasA_cons (k := 21) rfl (done_of (j := 21) hcu rfl (by decide) rfl) hasA_base))) (ov_fieldAddrE (sz := 0) (k0 := i4.toNat * 9 + 5) (off := 0) 0 rfl F_field_39_0 F_size_2 rfl hA0 (fl_pos enc_Api_Row_len (ix_lt c198 c180))) rfl rfl (onlyT_spec (k0 := 22) rfl rfl rfl)
     ·exact fun done hi hc hcu => draw_value (i := 23) (t := 33) (v := (I (((l0.getD i4.toNat z_Api_Row).Cell).Count))) rfl rfl (wanted_on rfl rfl rfl rfl) (fun a => (hasA_cons (k := 17) rfl (done_of (j := 17) hcu rfl (by decide) rfl) (hasA_cons (k := 22) rfl (done_of (j := 22) hcu rfl (by decide) rfl) hasA_base))) (ov_load (v := (I (((l0.getD i4.toNat z_Api_Row).Cell).Count))) rfl F_agg_2 (reads_rd (i := 0) rfl hA0 (by simp [C3_,C2_,C1_,C0_]) (fl_read (off := 5) enc_Api_Row_len (ix_lt c198 c180) rfl))) rfl rfl (onlyT_spec (k0 := 23) rfl rfl rfl)
     ·exact fun done hi hc hcu => draw_value (i := 24) (t := 34) (v := (Value.bool (decide ((((l0.getD i4.toNat z_Api_Row).Cell).Count) < 1)))) rfl rfl (wanted_on rfl rfl rfl rfl) (fun a => (hasA_cons (k := 17) rfl (done_of (j := 17) hcu rfl (by decide) rfl) (hasA_cons (k := 23) rfl (done_of (j := 23) hcu rfl (by decide) rfl) hasA_base))) (ov_bin rfl rfl (b_lss _ _ _)) rfl rfl (onlyT_spec (k0 := 24) rfl rfl rfl)
     ·exact fun done hi hc hcu => draw_value (i := 25) (t := 35) (v := (Value.bool (decide ((((l0.getD i4.toNat z_Api_Row).Cell).Count) < 1)))) rfl rfl (wanted_none rfl) (fun a => (hasA_cons (k := 24) rfl (done_of (j := 24) hcu rfl (by decide) rfl) (hasA_cons (k := 17) rfl (done_of (j := 17) hcu rfl (by decide) rfl) hasA_base))) (ov_pick rfl rfl rfl rfl) rfl rfl (onlyT_spec (k0 := 25) rfl rfl rfl)
     ·exact fun done hi hc hcu => draw_value (i := 26) (t := 36) (v := (Value.bool (decide ((((l0.getD i4.toNat z_Api_Row).Cell).Count) < 1)))) rfl rfl (wanted_none rfl) (fun a => (hasA_cons (k := 25) rfl (done_of (j := 25) hcu rfl (by decide) rfl) hasA_base)) (ov_move rfl) rfl rfl (onlyT_spec (k0 := 26) rfl rfl rfl)
     ·exact fun done hi hc hcu => draw_value (i := 27) (t := 37) (v := sv0) rfl rfl (wanted_on rfl rfl rfl (decide_eq_false c199)) (fun a => (hasA_cons (k := 26) rfl (done_of (j := 26) hcu rfl (by decide) rfl) hasA_base)) (ov_move rfl) rfl rfl (onlyT_spec (k0 := 27) rfl rfl rfl)
     ·exact fun done hi hc hcu => draw_value (i := 28) (t := 38) (v := (I i4)) rfl rfl (wanted_on rfl rfl rfl (decide_eq_false c199)) (fun a => (hasA_cons (k := 26) rfl (done_of (j := 26) hcu rfl (by decide) rfl) hasA_base)) (ov_move rfl) rfl rfl (onlyT_spec (k0 := 28) rfl rfl rfl)
     ·exact fun done hi hc hcu => draw_value (i := 29) (t := 39) (v := (eptr sv0 (i4.toNat * 9))) rfl rfl (wanted_on rfl rfl rfl (decide_eq_false c199)) (fun a => (hasA_cons (k := 26) rfl (done_of (j := 26) hcu rfl (by decide) rfl) (hasA_cons (k := 28) rfl (done_of (j := 28) hcu rfl (by decide) rfl) (hasA_cons (k := 27) rfl (done_of (j := 27) hcu rfl (by decide) rfl) hasA_base)))) (ov_indexAddr (sz := 8) 0 rfl rfl F_slice_22 F_size_44 rfl hA0 c198 c180) rfl rfl (onlyT_spec (k0 := 29) rfl rfl rfl)
     ·exact fun done hi hc hcu => draw_value (i := 30) (t := 40) (v := (eptr sv0 (i4.toNat * 9 + 5))) rfl rfl (wanted_on rfl rfl rfl (decide_eq_false c199)) (fun a => (hasA_cons (k := 26) rfl (done_of (j := 26) hcu rfl (by decide) rfl) (hasA_cons (k := 29) rfl (done_of (j := 29) hcu rfl (by decide) rfl) hasA_base))) (ov_fieldAddrE (sz := 3) (k0 := i4.toNat * 9) (off := 5) 0 rfl F_field_44_1 F_size_39 rfl hA0 (fl_pos enc_Api_Row_len (ix_lt c198 c180))) rfl rfl (onlyT_spec (k0 := 30) rfl rfl rfl)
     ·exact fun done hi hc hcu => draw_value (i := 31) (t := 41) (v := (C1_)) rfl rfl (wanted_on rfl rfl rfl (decide_eq_false c199)) (fun a => (hasA_cons (k := 26) rfl (done_of (j := 26) hcu rfl (by decide) rfl) (hasA_cons (k := 30) rfl (done_of (j := 30) hcu rfl (by decide) rfl) hasA_base))) (ov_load_agg (vs := C3_) rfl F_agg_39 F_size_39 (reads_rd (i := 0) rfl hA0 (by simp [C3_,C2_,C1_,C0_]) (fl_read (off := 5) enc_Api_Row_len (ix_lt c198 c180) rfl))) rfl rfl (onlyT_spec (k0 := 31) rfl rfl rfl)
     ·exact fun done hi hc hcu => draw_same (i := 32) (t := 42) (v := (bool x56)) rfl rfl (wanted_on rfl rfl rfl (decide_eq_false c199)) (fun a => (hasA_cons (k := 26) rfl (done_of (j := 26) hcu rfl (by decide) rfl) (hasA_cons (k := 31) rfl (done_of (j := 31) hcu rfl (by decide) rfl) hasA_base))) (ot_call0 (first := []) (cap := []) (xs := [.tmp 41]) rfl rfl F_call_30 rfl (ossuaryref05_Right.spec (((l0.getD i4.toNat z_Api_Row).Cell).Count) (((l0.getD i4.toNat z_Api_Row).Cell).Sum) (((l0.getD i4.toNat z_Api_Row).Cell).Min) (((l0.getD i4.toNat z_Api_Row).Cell).Max) _ h56)) rfl rfl (onlyT_spec (k0 := 32) rfl rfl rfl)
     ·exact fun done hi hc hcu => draw_value (i := 33) (t := 43) (v := (bool (!x56))) rfl rfl (wanted_on rfl rfl rfl (decide_eq_false c199)) (fun a => (hasA_cons (k := 26) rfl (done_of (j := 26) hcu rfl (by decide) rfl) (hasA_cons (k := 32) rfl (done_of (j := 32) hcu rfl (by decide) rfl) hasA_base))) (ov_un rfl (u_not _)) rfl rfl (onlyT_spec (k0 := 33) rfl rfl rfl)
     ·exact fun done hi hc hcu => draw_value (i := 34) (t := 44) (v := (bool (!x56))) rfl rfl (wanted_none rfl) (fun a => (hasA_cons (k := 33) rfl (done_of (j := 33) hcu rfl (by decide) rfl) (hasA_cons (k := 26) rfl (done_of (j := 26) hcu rfl (by decide) rfl) hasA_base))) (ov_pick rfl rfl rfl (pick_f (decide_eq_false c199))) rfl rfl (onlyT_spec (k0 := 34) rfl rfl rfl)
    ·intro done hall
     refine draw_endL [A0] rfl (fun a => (hasA_cons (k := 0) rfl (hall 0 (by decide)) (hasA_cons (k := 1) rfl (hall 1 (by decide)) (hasA_cons (k := 2) rfl (hall 2 (by decide)) (hasA_cons (k := 3) rfl (hall 3 (by decide)) (hasA_cons (k := 4) rfl (hall 4 (by decide)) (hasA_cons (k := 5) rfl (hall 5 (by decide)) (hasA_cons (k := 6) rfl (hall 6 (by decide)) (hasA_cons (k := 7) rfl (hall 7 (by decide)) (hasA_cons (k := 8) rfl (hall 8 (by decide)) (hasA_cons (k := 9) rfl (hall 9 (by decide)) (hasA_cons (k := 10) rfl (hall 10 (by decide)) (hasA_cons (k := 11) rfl (hall 11 (by decide)) (hasA_cons (k := 12) rfl (hall 12 (by decide)) (hasA_cons (k := 13) rfl (hall 13 (by decide)) (hasA_cons (k := 14) rfl (hall 14 (by decide)) (hasA_cons (k := 15) rfl (hall 15 (by decide)) (hasA_cons (k := 16) rfl (hall 16 (by decide)) (hasA_cons (k := 17) rfl (hall 17 (by decide)) (hasA_cons (k := 18) rfl (hall 18 (by decide)) (hasA_cons (k := 19) rfl (hall 19 (by decide)) (hasA_cons (k := 20) rfl (hall 20 (by decide)) (hasA_cons (k := 21) rfl (hall 21 (by decide)) (hasA_cons (k := 22) rfl (hall 22 (by decide)) (hasA_cons (k := 23) rfl (hall 23 (by decide)) (hasA_cons (k := 24) rfl (hall 24 (by decide)) (hasA_cons (k := 25) rfl (hall 25 (by decide)) (hasA_cons (k := 26) rfl (hall 26 (by decide)) (hasA_cons (k := 27) rfl (hall 27 (by decide)) (hasA_cons (k := 28) rfl (hall 28 (by decide)) (hasA_cons (k := 29) rfl (hall 29 (by decide)) (hasA_cons (k := 30) rfl (hall 30 (by decide)) (hasA_cons (k := 31) rfl (hall 31 (by decide)) (hasA_cons (k := 32) rfl (hall 32 (by decide)) (hasA_cons (k := 33) rfl (hall 33 (by decide)) (hasA_cons (k := 34) rfl (hall 34 (by decide)) hasA_base)))))))))))))))))))))))))))))))))))) ?_
     refine htT H4 (fun c200 H4 => ?_) fun c200 H4 => ?_
     ·refine ent_cond_true rfl c200 (ent_seq (ent_region (ent_value (ov_assign rfl) rfl rfl rfl (ent_nil (ent_retc ?_)))))
      cases H4
      refine ent_pick [0] (by decide) rfl ?_
      exact ret_tmp rfl rfl ⟨rfl,rfl⟩
     refine ent_cond_false rfl (Bool.eq_false_iff.2 c200) (ent_skip (ent_region (ent_value (ov_move rfl) rfl rfl rfl (ent_value (ov_bin rfl rfl (b_add _ _ _) ) rfl rfl rfl (ent_value (ov_assign rfl) rfl rfl rfl (ent_nil ?_))))))
     exact ent_fin [0] (by decide) rfl (sub_cons (t := 0) rfl (sub_cons (t := 3) rfl (sub_nil _))) fun a w h => ⟨k,Nat.lt_succ_self k,_,H4,h⟩
   obtain ⟨c192,H4⟩ := gdT H4
   obtain ⟨c193,H4⟩ := gdT H4
   obtain ⟨c194,H4⟩ := gdT H4
   obtain ⟨x54,h54,H4⟩ := Option.bind_eq_some_iff.1 H4
   refine htT H4 (fun c195 H4 => ?_) fun c195 H4 => ?_
   ·refine ent_drawm 35 rfl (fun done a w => StD 45 w0 F [(0,sv0),(3,I i4),(4,I i4),(5,sv0),(6,I (l0.length : Int)),(7,Value.bool (decide (i4 < (l0.length : Int))))] [(0,10,I i4),(1,11,Value.bool (decide (0 < i4))),(2,12,Value.bool (decide (0 < i4))),(3,13,sv0),(4,14,I i4),(5,15,I (w64 (i4 - 1))),(6,16,(eptr sv0 (((w64 (i4 - 1)).toNat) * 9))),(7,17,(eptr sv0 (((w64 (i4 - 1)).toNat) * 9 + 0))),(8,18,agg #[I (((l0.getD ((w64 (i4 - 1)).toNat) z_Api_Row).Key).Hour),str (((l0.getD ((w64 (i4 - 1)).toNat) z_Api_Row).Key).Dims_0),str (((l0.getD ((w64 (i4 - 1)).toNat) z_Api_Row).Key).Dims_1),str (((l0.getD ((w64 (i4 - 1)).toNat) z_Api_Row).Key).Dims_2),str (((l0.getD ((w64 (i4 - 1)).toNat) z_Api_Row).Key).Dims_3)]),(9,19,sv0),(10,20,I i4),(11,21,(eptr sv0 (i4.toNat * 9))),(12,22,(eptr sv0 (i4.toNat * 9 + 0))),(13,23,C0_),(14,24,I x54),(15,25,Value.bool (decide (0 ≤ x54))),(16,26,Value.bool (decide (0 ≤ x54))),(17,27,Value.bool (decide (0 ≤ x54))),(18,28,undef),(19,29,undef),(20,30,undef),(21,31,undef),(22,32,undef),(23,33,undef),(24,34,undef),(25,35,bool true),(26,36,bool true),(27,37,undef),(28,38,undef),(29,39,undef),(30,40,undef),(31,41,undef),(32,42,undef),(33,43,undef),(34,44,bool true)] done [A0] a w) (by kernel_rfl) (by kernel_rfl) (draw_startL (sub_cons (t := 0) rfl (sub_cons (t := 3) rfl (sub_cons (t := 4) rfl (sub_cons (t := 5) rfl (sub_cons (t := 6) rfl (sub_cons (t := 7) rfl (sub_nil _))))))) rfl) ?_ ?_
    ·refine ⟨?_,?_,?_,?_,?_,?_,?_,?_,?_,?_,?_,?_,?_,?_,?_,?_,?_,?_,?_,?_,?_,?_,?_,?_,?_,?_,?_,?_,?_,?_,?_,?_,?_,?_,?_,trivial⟩
     ·exact fun done hi hc hcu => draw_value (i := 0) (t := 10) (v := (I i4)) rfl rfl (wanted_none rfl) (fun a => hasA_base) (ov_move rfl) rfl rfl (onlyT_spec (k0 := 0) rfl rfl rfl)
     ·exact fun done hi hc hcu => draw_value (i := 1) (t := 11) (v := (Value.bool (decide (0 < i4)))) rfl rfl (wanted_none rfl) (fun a => (hasA_cons (k := 0) rfl (done_of (j := 0) hcu rfl (by decide) rfl) hasA_base)) (ov_bin rfl rfl (b_gtr _ _ _)) rfl rfl (onlyT_spec (k0 := 1) rfl rfl rfl)
     ·exact fun done hi hc hcu => draw_value (i := 2) (t := 12) (v := (Value.bool (decide (0 < i4)))) rfl rfl (wanted_none rfl) (fun a => (hasA_cons (k := 1) rfl (done_of (j := 1) hcu rfl (by decide) rfl) hasA_base)) (ov_move rfl) rfl rfl (onlyT_spec (k0 := 2) rfl rfl rfl)
     ·exact fun done hi hc hcu => draw_value (i := 3) (t := 13) (v := sv0) rfl rfl (wanted_on rfl rfl rfl (decide_eq_true c191)) (fun a => (hasA_cons (k := 2) rfl (done_of (j := 2) hcu rfl (by decide) rfl) hasA_base)) (ov_move rfl) rfl rfl (onlyT_spec (k0 := 3) rfl rfl rfl)
     ·exact fun done hi hc hcu => draw_value (i := 4) (t := 14) (v := (I i4)) rfl rfl (wanted_on rfl rfl rfl (decide_eq_true c191)) (fun a => (hasA_cons (k := 2) rfl (done_of (j := 2) hcu rfl (by decide) rfl) hasA_base)) (ov_move rfl) rfl rfl (onlyT_spec (k0 := 4) rfl rfl rfl)
     ·exact fun done hi hc hcu => draw_value (i := 5) (t := 15) (v := (I (w64 (i4 - 1)))) rfl rfl (wanted_on rfl rfl rfl (decide_eq_true c191)) (fun a => (hasA_cons (k := 2) rfl (done_of (j := 2) hcu rfl (by decide) rfl) (hasA_cons (k := 4) rfl (done_of (j := 4) hcu rfl (by decide) rfl) hasA_base))) (ov_bin rfl rfl (b_sub _ _ _) ) rfl rfl (onlyT_spec (k0 := 5) rfl rfl rfl)
     ·exact fun done hi hc hcu => draw_value (i := 6) (t := 16) (v := (eptr sv0 (((w64 (i4 - 1)).toNat) * 9))) rfl rfl (wanted_on rfl rfl rfl (decide_eq_true c191)) (fun a => (hasA_cons (k := 2) rfl (done_of (j := 2) hcu rfl (by decide) rfl) (hasA_cons (k := 5) rfl (done_of (j := 5) hcu rfl (by decide) rfl) (hasA_cons (k := 3) rfl (done_of (j := 3) hcu rfl (by decide) rfl) hasA_base)))) (ov_indexAddr (sz := 8) 0 rfl rfl F_slice_22 F_size_44 rfl hA0 c192 c193) rfl rfl (onlyT_spec (k0 := 6) rfl rfl rfl)
     ·exact fun done hi hc hcu => draw_value (i := 7) (t := 17) (v := (eptr sv0 (((w64 (i4 - 1)).toNat) * 9 + 0))) rfl rfl (wanted_on rfl rfl rfl (decide_eq_true c191)) (fun a => (hasA_cons (k := 2) rfl (done_of (j := 2) hcu rfl (by decide) rfl) (hasA_cons (k := 6) rfl (done_of (j := 6) hcu rfl (by decide) rfl) hasA_base))) (ov_fieldAddrE (sz := 4) (k0 := ((w64 (i4 - 1)).toNat) * 9) (off := 0) 0 rfl F_field_44_0 F_size_42 rfl hA0 (fl_pos enc_Api_Row_len (ix_lt c192 c193))) rfl rfl (onlyT_spec (k0 := 7) rfl rfl rfl)
     ·exact fun done hi hc hcu => draw_value (i := 8) (t := 18) (v := (agg #[I (((l0.getD ((w64 (i4 - 1)).toNat) z_Api_Row).Key).Hour),str (((l0.getD ((w64 (i4 - 1)).toNat) z_Api_Row).Key).Dims_0),str (((l0.getD ((w64 (i4 - 1)).toNat) z_Api_Row).Key).Dims_1),str (((l0.getD ((w64 (i4 - 1)).toNat) z_Api_Row).Key).Dims_2),str (((l0.getD ((w64 (i4 - 1)).toNat) z_Api_Row).Key).Dims_3)])) rfl rfl (wanted_on rfl rfl rfl (decide_eq_true c191)) (fun a => (hasA_cons (k := 2) rfl (done_of (j := 2) hcu rfl (by decide) rfl) (hasA_cons (k := 7) rfl (done_of (j := 7) hcu rfl (by decide) rfl) hasA_base))) (ov_load_agg (vs := [I (((l0.getD ((w64 (i4 - 1)).toNat) z_Api_Row).Key).Hour),str (((l0.getD ((w64 (i4 - 1)).toNat) z_Api_Row).Key).Dims_0),str (((l0.getD ((w64 (i4 - 1)).toNat) z_Api_Row).Key).Dims_1),str (((l0.getD ((w64 (i4 - 1)).toNat) z_Api_Row).Key).Dims_2),str (((l0.getD ((w64 (i4 - 1)).toNat) z_Api_Row).Key).Dims_3)]) rfl F_agg_42 F_size_42 (reads_rd (i := 0) rfl hA0 (by simp [C3_,C2_,C1_,C0_]) (fl_read (off := 0) enc_Api_Row_len (ix_lt c192 c193) rfl))) rfl rfl (onlyT_spec (k0 := 8) rfl rfl rfl)
     ·exact fun done hi hc hcu => draw_value (i := 9) (t := 19) (v := sv0) rfl rfl (wanted_on rfl rfl rfl (decide_eq_true c191)) (fun a => (hasA_cons (k := 2) rfl (done_of (j := 2) hcu rfl (by decide) rfl) hasA_base)) (ov_move rfl) rfl rfl (onlyT_spec (k0 := 9) rfl rfl rfl)
     ·exact fun done hi hc hcu => draw_value (i := 10) (t := 20) (v := (I i4)) rfl rfl (wanted_on rfl rfl rfl (decide_eq_true c191)) (fun a => (hasA_cons (k := 2) rfl (done_of (j := 2) hcu rfl (by decide) rfl) hasA_base)) (ov_move rfl) rfl rfl (onlyT_spec (k0 := 10) rfl rfl rfl)
     ·exact fun done hi hc hcu => draw_value (i := 11) (t := 21) (v := (eptr sv0 (i4.toNat * 9))) rfl rfl (wanted_on rfl rfl rfl (decide_eq_true c191)) (fun a => (hasA_cons (k := 2) rfl (done_of (j := 2) hcu rfl (by decide) rfl) (hasA_cons (k := 10) rfl (done_of (j := 10) hcu rfl (by decide) rfl) (hasA_cons (k := 9) rfl (done_of (j := 9) hcu rfl (by decide) rfl) hasA_base)))) (ov_indexAddr (sz := 8) 0 rfl rfl F_slice_22 F_size_44 rfl hA0 c194 c180) rfl rfl (onlyT_spec (k0 := 11) rfl rfl rfl)
     ·exact fun done hi hc hcu => draw_value (i := 12) (t := 22) (v := (eptr sv0 (i4.toNat * 9 + 0))) rfl rfl (wanted_on rfl rfl rfl (decide_eq_true c191)) (fun a => (hasA_cons (k := 2) rfl (done_of (j := 2) hcu rfl (by decide) rfl) (hasA_cons (k := 11) rfl (done_of (j := 11) hcu rfl (by decide) rfl) hasA_base))) (ov_fieldAddrE (sz := 4) (k0 := i4.toNat * 9) (off := 0) 0 rfl F_field_44_0 F_size_42 rfl hA0 (fl_pos enc_Api_Row_len (ix_lt c194 c180))) rfl rfl (onlyT_spec (k0 := 12) rfl rfl rfl)
     ·exact fun done hi hc hcu => draw_value (i := 13) (t := 23) (v := (C0_)) rfl rfl (wanted_on rfl rfl rfl (decide_eq_true c191)) (fun a => (hasA_cons (k := 2) rfl (done_of (j := 2) hcu rfl (by decide) rfl) (hasA_cons (k := 12) rfl (done_of (j := 12) hcu rfl (by decide) rfl) hasA_base))) (ov_load_agg (vs := C2_) rfl F_agg_42 F_size_42 (reads_rd (i := 0) rfl hA0 (by simp [C3_,C2_,C1_,C0_]) (fl_read (off := 0) enc_Api_Row_len (ix_lt c194 c180) rfl))) rfl rfl (onlyT_spec (k0 := 13) rfl rfl rfl)
     ·exact fun done hi hc hcu => draw_same (i := 14) (t := 24) (v := (I x54)) rfl rfl (wanted_on rfl rfl rfl (decide_eq_true c191)) (fun a => (hasA_cons (k := 2) rfl (done_of (j := 2) hcu rfl (by decide) rfl) (hasA_cons (k := 13) rfl (done_of (j := 13) hcu rfl (by decide) rfl) (hasA_cons (k := 8) rfl (done_of (j := 8) hcu rfl (by decide) rfl) hasA_base)))) (ot_call0 (first := []) (cap := []) (xs := [.tmp 18,.tmp 23]) rfl rfl F_call_29 rfl (ossuaryref09_Compare.spec K (((l0.getD ((w64 (i4 - 1)).toNat) z_Api_Row).Key).Hour) (((l0.getD ((w64 (i4 - 1)).toNat) z_Api_Row).Key).Dims_0) (((l0.getD ((w64 (i4 - 1)).toNat) z_Api_Row).Key).Dims_1) (((l0.getD ((w64 (i4 - 1)).toNat) z_Api_Row).Key).Dims_2) (((l0.getD ((w64 (i4 - 1)).toNat) z_Api_Row).Key).Dims_3) (((l0.getD i4.toNat z_Api_Row).Key).Hour) (((l0.getD i4.toNat z_Api_Row).Key).Dims_0) (((l0.getD i4.toNat z_Api_Row).Key).Dims_1) (((l0.getD i4.toNat z_Api_Row).Key).Dims_2) (((l0.getD i4.toNat z_Api_Row).Key).Dims_3) _ h54)) rfl rfl (onlyT_spec (k0 := 14) rfl rfl rfl)
     ·exact fun done hi hc hcu => draw_value (i := 15) (t := 25) (v := (Value.bool (decide (0 ≤ x54)))) rfl rfl (wanted_on rfl rfl rfl (decide_eq_true c191)) (fun a => (hasA_cons (k := 2) rfl (done_of (j := 2) hcu rfl (by decide) rfl) (hasA_cons (k := 14) rfl (done_of (j := 14) hcu rfl (by decide) rfl) hasA_base))) (ov_bin rfl rfl (b_geq _ _ _)) rfl rfl (onlyT_spec (k0 := 15) rfl rfl rfl)
     ·exact fun done hi hc hcu => draw_value (i := 16) (t := 26) (v := (Value.bool (decide (0 ≤ x54)))) rfl rfl (wanted_none rfl) (fun a => (hasA_cons (k := 15) rfl (done_of (j := 15) hcu rfl (by decide) rfl) (hasA_cons (k := 2) rfl (done_of (j := 2) hcu rfl (by decide) rfl) hasA_base))) (ov_pick rfl rfl rfl (pick_t (decide_eq_true c191))) rfl rfl (onlyT_spec (k0 := 16) rfl rfl rfl)
     ·exact fun done hi hc hcu => draw_value (i := 17) (t := 27) (v := (Value.bool (decide (0 ≤ x54)))) rfl rfl (wanted_none rfl) (fun a => (hasA_cons (k := 16) rfl (done_of (j := 16) hcu rfl (by decide) rfl) hasA_base)) (ov_move rfl) rfl rfl (onlyT_spec (k0 := 17) rfl rfl rfl)
     ·exact fun done hi hc hcu => draw_off (i := 18) (t := 28) rfl rfl (wanted_off rfl rfl rfl (decide_eq_true c195)) (fun a => (hasA_cons (k := 17) rfl (done_of (j := 17) hcu rfl (by decide) rfl) hasA_base)) rfl rfl (onlyT_spec (k0 := 18) rfl rfl rfl)
     ·exact fun done hi hc hcu => draw_off (i := 19) (t := 29) rfl rfl (wanted_off rfl rfl rfl (decide_eq_true c195)) (fun a => (hasA_cons (k := 17) rfl (done_of (j := 17) hcu rfl (by decide) rfl) hasA_base)) rfl rfl (onlyT_spec (k0 := 19) rfl rfl rfl)
     ·exact fun done hi hc hcu => draw_off (i := 20) (t := 30) rfl rfl (wanted_off rfl rfl rfl (decide_eq_true c195)) (fun a => (hasA_cons (k := 17) rfl (done_of (j := 17) hcu rfl (by decide) rfl) hasA_base)) rfl rfl (onlyT_spec (k0 := 20) rfl rfl rfl)
     ·exact fun done hi hc hcu => draw_off (i := 21) (t := 31) rfl rfl (wanted_off rfl rfl rfl (decide_eq_true c195)) (fun a => (hasA_cons (k := 17) rfl (done_of (j := 17) hcu rfl (by decide) rfl) hasA_base)) rfl rfl (onlyT_spec (k0 := 21) rfl rfl rfl)
     ·exact fun done hi hc hcu => draw_off (i := 22) (t := 32) rfl rfl (wanted_off rfl rfl rfl (decide_eq_true c195)) (fun a => (hasA_cons (k := 17) rfl (done_of (j := 17) hcu rfl (by decide) rfl) hasA_base)) rfl rfl (onlyT_spec (k0 := 22) rfl rfl rfl)
     ·exact fun done hi hc hcu => draw_off (i := 23) (t := 33) rfl rfl (wanted_off rfl rfl rfl (decide_eq_true c195)) (fun a => (hasA_cons (k := 17) rfl (done_of (j := 17) hcu rfl (by decide) rfl) hasA_base)) rfl rfl (onlyT_spec (k0 := 23) rfl rfl rfl)
     ·exact fun done hi hc hcu => draw_off (i := 24) (t := 34) rfl rfl (wanted_off rfl rfl rfl (decide_eq_true c195)) (fun a => (hasA_cons (k := 17) rfl (done_of (j := 17) hcu rfl (by decide) rfl) hasA_base)) rfl rfl (onlyT_spec (k0 := 24) rfl rfl rfl)
     ·exact fun done hi hc hcu => draw_value (i := 25) (t := 35) (v := (bool true)) rfl rfl (wanted_none rfl) (fun a => (hasA_cons (k := 24) rfl (done_of (j := 24) hcu rfl (by decide) rfl) (hasA_cons (k := 17) rfl (done_of (j := 17) hcu rfl (by decide) rfl) hasA_base))) (ov_pick rfl rfl rfl (pick_t (decide_eq_true c195))) rfl rfl (onlyT_spec (k0 := 25) rfl rfl rfl)
     ·exact fun done hi hc hcu => draw_value (i := 26) (t := 36) (v := (bool true)) rfl rfl (wanted_none rfl) (fun a => (hasA_cons (k := 25) rfl (done_of (j := 25) hcu rfl (by decide) rfl) hasA_base)) (ov_move rfl) rfl rfl (onlyT_spec (k0 := 26) rfl rfl rfl)
     ·exact fun done hi hc hcu => draw_off (i := 27) (t := 37) rfl rfl (wanted_off rfl rfl rfl rfl) (fun a => (hasA_cons (k := 26) rfl (done_of (j := 26) hcu rfl (by decide) rfl) hasA_base)) rfl rfl (onlyT_spec (k0 := 27) rfl rfl rfl)
     ·exact fun done hi hc hcu => draw_off (i := 28) (t := 38) rfl rfl (wanted_off rfl rfl rfl rfl) (fun a => (hasA_cons (k := 26) rfl (done_of (j := 26) hcu rfl (by decide) rfl) hasA_base)) rfl rfl (onlyT_spec (k0 := 28) rfl rfl rfl)
     ·exact fun done hi hc hcu => draw_off (i := 29) (t := 39) rfl rfl (wanted_off rfl rfl rfl rfl) (fun a => (hasA_cons (k := 26) rfl (done_of (j := 26) hcu rfl (by decide) rfl) hasA_base)) rfl rfl (onlyT_spec (k0 := 29) rfl rfl rfl)
     ·exact fun done hi hc hcu => draw_off (i := 30) (t := 40) rfl rfl (wanted_off rfl rfl rfl rfl) (fun a => (hasA_cons (k := 26) rfl (done_of (j := 26) hcu rfl (by decide) rfl) hasA_base)) rfl rfl (onlyT_spec (k0 := 30) rfl rfl rfl)
     ·exact fun done hi hc hcu => draw_off (i := 31) (t := 41) rfl rfl (wanted_off rfl rfl rfl rfl) (fun a => (hasA_cons (k := 26) rfl (done_of (j := 26) hcu rfl (by decide) rfl) hasA_base)) rfl rfl (onlyT_spec (k0 := 31) rfl rfl rfl)
     ·exact fun done hi hc hcu => draw_off (i := 32) (t := 42) rfl rfl (wanted_off rfl rfl rfl rfl) (fun a => (hasA_cons (k := 26) rfl (done_of (j := 26) hcu rfl (by decide) rfl) hasA_base)) rfl rfl (onlyT_spec (k0 := 32) rfl rfl rfl)
     ·exact fun done hi hc hcu => draw_off (i := 33) (t := 43) rfl rfl (wanted_off rfl rfl rfl rfl) (fun a => (hasA_cons (k := 26) rfl (done_of (j := 26) hcu rfl (by decide) rfl) hasA_base)) rfl rfl (onlyT_spec (k0 := 33) rfl rfl rfl)
     ·exact fun done hi hc hcu => draw_value (i := 34) (t := 44) (v := (bool true)) rfl rfl (wanted_none rfl) (fun a => (hasA_cons (k := 33) rfl (done_of (j := 33) hcu rfl (by decide) rfl) (hasA_cons (k := 26) rfl (done_of (j := 26) hcu rfl (by decide) rfl) hasA_base))) (ov_pick rfl rfl rfl rfl) rfl rfl (onlyT_spec (k0 := 34) rfl rfl rfl)
    ·intro done hall
     refine draw_endL [A0] rfl (fun a => (hasA_cons (k := 0) rfl (hall 0 (by decide)) (hasA_cons (k := 1) rfl (hall 1 (by decide)) (hasA_cons (k := 2) rfl (hall 2 (by decide)) (hasA_cons (k := 3) rfl (hall 3 (by decide)) (hasA_cons (k := 4) rfl (hall 4 (by decide)) (hasA_cons (k := 5) rfl (hall 5 (by decide)) (hasA_cons (k := 6) rfl (hall 6 (by decide)) (hasA_cons (k := 7) rfl (hall 7 (by decide)) (hasA_cons (k := 8) rfl (hall 8 (by decide)) (hasA_cons (k := 9) rfl (hall 9 (by decide)) (hasA_cons (k := 10) rfl (hall 10 (by decide)) (hasA_cons (k := 11) rfl (hall 11 (by decide)) (hasA_cons (k := 12) rfl (hall 12 (by decide)) (hasA_cons (k := 13) rfl (hall 13 (by decide)) (hasA_cons (k := 14) rfl (hall 14 (by decide)) (hasA_cons (k := 15) rfl (hall 15 (by decide)) (hasA_cons (k := 16) rfl (hall 16 (by decide)) (hasA_cons (k := 17) rfl (hall 17 (by decide)) (hasA_cons (k := 18) rfl (hall 18 (by decide)) (hasA_cons (k := 19) rfl (hall 19 (by decide)) (hasA_cons (k := 20) rfl (hall 20 (by decide)) (hasA_cons (k := 21) rfl (hall 21 (by decide)) (hasA_cons (k := 22) rfl (hall 22 (by decide)) (hasA_cons (k := 23) rfl (hall 23 (by decide)) (hasA_cons (k := 24) rfl (hall 24 (by decide)) (hasA_cons (k := 25) rfl (hall 25 (by decide)) (hasA_cons (k := 26) rfl (hall 26 (by decide)) (hasA_cons (k := 27) rfl (hall 27 (by decide)) (hasA_cons (k := 28) rfl (hall 28 (by decide)) (hasA_cons (k := 29) rfl (hall 29 (by decide)) (hasA_cons (k := 30) rfl (hall 30 (by decide)) (hasA_cons (k := 31) rfl (hall 31 (by decide)) (hasA_cons (k := 32) rfl (hall 32 (by decide)) (hasA_cons (k := 33) rfl (hall 33 (by decide)) (hasA_cons (k := 34) rfl (hall 34 (by decide)) hasA_base)))))))))))))))))))))))))))))))))))) ?_
     refine ent_cond_true rfl rfl (ent_seq (ent_region (ent_value (ov_assign rfl) rfl rfl rfl (ent_nil (ent_retc ?_)))))
     cases H4
     refine ent_pick [0] (by decide) rfl ?_
     exact ret_tmp rfl rfl ⟨rfl,rfl⟩
   refine htT H4 (fun c196 H4 => ?_) fun c196 H4 => ?_
   ·refine ent_drawm 35 rfl (fun done a w => StD 45 w0 F [(0,sv0),(3,I i4),(4,I i4),(5,sv0),(6,I (l0.length : Int)),(7,Value.bool (decide (i4 < (l0.length : Int))))] [(0,10,I i4),(1,11,Value.bool (decide (0 < i4))),(2,12,Value.bool (decide (0 < i4))),(3,13,sv0),(4,14,I i4),(5,15,I (w64 (i4 - 1))),(6,16,(eptr sv0 (((w64 (i4 - 1)).toNat) * 9))),(7,17,(eptr sv0 (((w64 (i4 - 1)).toNat) * 9 + 0))),(8,18,agg #[I (((l0.getD ((w64 (i4 - 1)).toNat) z_Api_Row).Key).Hour),str (((l0.getD ((w64 (i4 - 1)).toNat) z_Api_Row).Key).Dims_0),str (((l0.getD ((w64 (i4 - 1)).toNat) z_Api_Row).Key).Dims_1),str (((l0.getD ((w64 (i4 - 1)).toNat) z_Api_Row).Key).Dims_2),str (((l0.getD ((w64 (i4 - 1)).toNat) z_Api_Row).Key).Dims_3)]),(9,19,sv0),(10,20,I i4),(11,21,(eptr sv0 (i4.toNat * 9))),(12,22,(eptr sv0 (i4.toNat * 9 + 0))),(13,23,C0_),(14,24,I x54),(15,25,Value.bool (decide (0 ≤ x54))),(16,26,Value.bool (decide (0 ≤ x54))),(17,27,Value.bool (decide (0 ≤ x54))),(18,28,sv0),(19,29,I i4),(20,30,(eptr sv0 (i4.toNat * 9))),(21,31,(eptr sv0 (i4.toNat * 9 + 5))),(22,32,(eptr sv0 (i4.toNat * 9 + 5))),(23,33,I (((l0.getD i4.toNat z_Api_Row).Cell).Count)),(24,34,Value.bool (decide ((((l0.getD i4.toNat z_Api_Row).Cell).Count) < 1))),(25,35,Value.bool (decide ((((l0.getD i4.toNat z_Api_Row).Cell).Count) < 1))),(26,36,Value.bool (decide ((((l0.getD i4.toNat z_Api_Row).Cell).Count) < 1))),(27,37,undef),(28,38,undef),(29,39,undef),(30,40,undef),(31,41,undef),(32,42,undef),(33,43,undef),(34,44,bool true)] done [A0] a w) (by kernel_rfl) (by kernel_rfl) (draw_startL (sub_cons (t := 0) rfl (sub_cons (t := 3) rfl (sub_cons (t := 4) rfl (sub_cons (t := 5) rfl (sub_cons (t := 6) rfl (sub_cons (t := 7) rfl (sub_nil _))))))) rfl) ?_ ?_
    ·refine ⟨?_,?_,?_,?_,?_,?_,?_,?_,?_,?_,?_,?_,?_,?_,?_,?_,?_,?_,?_,?_,?_,?_,?_,?_,?_,?_,?_,?_,?_,?_,?_,?_,?_,?_,?_,trivial⟩
     ·exact fun done hi hc hcu => draw_value (i := 0) (t := 10) (v := (I i4)) rfl rfl (wanted_none rfl) (fun a => hasA_base) (ov_move rfl) rfl rfl (onlyT_spec (k0 := 0) rfl rfl rfl)
     ·exact fun done hi hc hcu => draw_value (i := 1) (t := 11) (v := (Value.bool (decide (0 < i4)))) rfl rfl (wanted_none rfl) (fun a => (hasA_cons (k := 0) rfl (done_of (j := 0) hcu rfl (by decide) rfl) hasA_base)) (ov_bin rfl rfl (b_gtr _ _ _)) rfl rfl (onlyT_spec (k0 := 1) rfl rfl rfl)
     ·exact fun done hi hc hcu => draw_value (i := 2) (t := 12) (v := (Value.bool (decide (0 < i4)))) rfl rfl (wanted_none rfl) (fun a => (hasA_cons (k := 1) rfl (done_of (j := 1) hcu rfl (by decide) rfl) hasA_base)) (ov_move rfl) rfl rfl (onlyT_spec (k0 := 2) rfl rfl rfl)
     ·exact fun done hi hc hcu => draw_value (i := 3) (t := 13) (v := sv0) rfl rfl (wanted_on rfl rfl rfl (decide_eq_true c191)) (fun a => (hasA_cons (k := 2) rfl (done_of (j := 2) hcu rfl (by decide) rfl) hasA_base)) (ov_move rfl) rfl rfl (onlyT_spec (k0 := 3) rfl rfl rfl)
     ·exact fun done hi hc hcu => draw_value (i := 4) (t := 14) (v := (I i4)) rfl rfl (wanted_on rfl rfl rfl (decide_eq_true c191)) (fun a => (hasA_cons (k := 2) rfl (done_of (j := 2) hcu rfl (by decide) rfl) hasA_base)) (ov_move rfl) rfl rfl (onlyT_spec (k0 := 4) rfl rfl rfl)
     ·exact fun done hi hc hcu => draw_value (i := 5) (t := 15) (v := (I (w64 (i4 - 1)))) rfl rfl (wanted_on rfl rfl rfl (decide_eq_true c191)) (fun a => (hasA_cons (k := 2) rfl (done_of (j := 2) hcu rfl (by decide) rfl) (hasA_cons (k := 4) rfl (done_of (j := 4) hcu rfl (by decide) rfl) hasA_base))) (ov_bin rfl rfl (b_sub _ _ _) ) rfl rfl (onlyT_spec (k0 := 5) rfl rfl rfl)
     ·exact fun done hi hc hcu => draw_value (i := 6) (t := 16) (v := (eptr sv0 (((w64 (i4 - 1)).toNat) * 9))) rfl rfl (wanted_on rfl rfl rfl (decide_eq_true c191)) (fun a => (hasA_cons (k := 2) rfl (done_of (j := 2) hcu rfl (by decide) rfl) (hasA_cons (k := 5) rfl (done_of (j := 5) hcu rfl (by decide) rfl) (hasA_cons (k := 3) rfl (done_of (j := 3) hcu rfl (by decide) rfl) hasA_base)))) (ov_indexAddr (sz := 8) 0 rfl rfl F_slice_22 F_size_44 rfl hA0 c192 c193) rfl rfl (onlyT_spec (k0 := 6) rfl rfl rfl)
     ·exact fun done hi hc hcu => draw_value (i := 7) (t := 17) (v := (eptr sv0 (((w64 (i4 - 1)).toNat) * 9 + 0))) rfl rfl (wanted_on rfl rfl rfl (decide_eq_true c191)) (fun a => (hasA_cons (k := 2) rfl (done_of (j := 2) hcu rfl (by decide) rfl) (hasA_cons (k := 6) rfl (done_of (j := 6) hcu rfl (by decide) rfl) hasA_base))) (ov_fieldAddrE (sz := 4) (k0 := ((w64 (i4 - 1)).toNat) * 9) (off := 0) 0 rfl F_field_44_0 F_size_42 rfl hA0 (fl_pos enc_Api_Row_len (ix_lt c192 c193))) rfl rfl (onlyT_spec (k0 := 7) rfl rfl rfl)
     ·exact fun done hi hc hcu => draw_value (i := 8) (t := 18) (v := (agg #[I (((l0.getD ((w64 (i4 - 1)).toNat) z_Api_Row).Key).Hour),str (((l0.getD ((w64 (i4 - 1)).toNat) z_Api_Row).Key).Dims_0),str (((l0.getD ((w64 (i4 - 1)).toNat) z_Api_Row).Key).Dims_1),str (((l0.getD ((w64 (i4 - 1)).toNat) z_Api_Row).Key).Dims_2),str (((l0.getD ((w64 (i4 - 1)).toNat) z_Api_Row).Key).Dims_3)])) rfl rfl (wanted_on rfl rfl rfl (decide_eq_true c191)) (fun a => (hasA_cons (k := 2) rfl (done_of (j := 2) hcu rfl (by decide) rfl) (hasA_cons (k := 7) rfl (done_of (j := 7) hcu rfl (by decide) rfl) hasA_base))) (ov_load_agg (vs := [I (((l0.getD ((w64 (i4 - 1)).toNat) z_Api_Row).Key).Hour),str (((l0.getD ((w64 (i4 - 1)).toNat) z_Api_Row).Key).Dims_0),str (((l0.getD ((w64 (i4 - 1)).toNat) z_Api_Row).Key).Dims_1),str (((l0.getD ((w64 (i4 - 1)).toNat) z_Api_Row).Key).Dims_2),str (((l0.getD ((w64 (i4 - 1)).toNat) z_Api_Row).Key).Dims_3)]) rfl F_agg_42 F_size_42 (reads_rd (i := 0) rfl hA0 (by simp [C3_,C2_,C1_,C0_]) (fl_read (off := 0) enc_Api_Row_len (ix_lt c192 c193) rfl))) rfl rfl (onlyT_spec (k0 := 8) rfl rfl rfl)
     ·exact fun done hi hc hcu => draw_value (i := 9) (t := 19) (v := sv0) rfl rfl (wanted_on rfl rfl rfl (decide_eq_true c191)) (fun a => (hasA_cons (k := 2) rfl (done_of (j := 2) hcu rfl (by decide) rfl) hasA_base)) (ov_move rfl) rfl rfl (onlyT_spec (k0 := 9) rfl rfl rfl)
     ·exact fun done hi hc hcu => draw_value (i := 10) (t := 20) (v := (I i4)) rfl rfl (wanted_on rfl rfl rfl (decide_eq_true c191)) (fun a => (hasA_cons (k := 2) rfl (done_of (j := 2) hcu rfl (by decide) rfl) hasA_base)) (ov_move rfl) rfl rfl (onlyT_spec (k0 := 10) rfl rfl rfl)
     ·exact fun done hi hc hcu => draw_value (i := 11) (t := 21) (v := (eptr sv0 (i4.toNat * 9))) rfl rfl (wanted_on rfl rfl rfl (decide_eq_true c191)) (fun a => (hasA_cons (k := 2) rfl (done_of (j := 2) hcu rfl (by decide) rfl) (hasA_cons (k := 10) rfl (done_of (j := 10) hcu rfl (by decide) rfl) (hasA_cons (k := 9) rfl (done_of (j := 9) hcu rfl (by decide) rfl) hasA_base)))) (ov_indexAddr (sz := 8) 0 rfl rfl F_slice_22 F_size_44 rfl hA0 c194 c180) rfl rfl (onlyT_spec (k0 := 11) rfl rfl rfl)
     ·exact fun done hi hc hcu => draw_value (i := 12) (t := 22) (v := (eptr sv0 (i4.toNat * 9 + 0))) rfl rfl (wanted_on rfl rfl rfl (decide_eq_true c191)) (fun a => (hasA_cons (k := 2) rfl (done_of (j := 2) hcu rfl (by decide) rfl) (hasA_cons (k := 11) rfl (done_of (j := 11) hcu rfl (by decide) rfl) hasA_base))) (ov_fieldAddrE (sz := 4) (k0 := i4.toNat * 9) (off := 0) 0 rfl F_field_44_0 F_size_42 rfl hA0 (fl_pos enc_Api_Row_len (ix_lt c194 c180))) rfl rfl (onlyT_spec (k0 := 12) rfl rfl rfl)
     ·exact fun done hi hc hcu => draw_value (i := 13) (t := 23) (v := (C0_)) rfl rfl (wanted_on rfl rfl rfl (decide_eq_true c191)) (fun a => (hasA_cons (k := 2) rfl (done_of (j := 2) hcu rfl (by decide) rfl) (hasA_cons (k := 12) rfl (done_of (j := 12) hcu rfl (by decide) rfl) hasA_base))) (ov_load_agg (vs := C2_) rfl F_agg_42 F_size_42 (reads_rd (i := 0) rfl hA0 (by simp [C3_,C2_,C1_,C0_]) (fl_read (off := 0) enc_Api_Row_len (ix_lt c194 c180) rfl))) rfl rfl (onlyT_spec (k0 := 13) rfl rfl rfl)
     ·exact fun done hi hc hcu => draw_same (i := 14) (t := 24) (v := (I x54)) rfl rfl (wanted_on rfl rfl rfl (decide_eq_true c191)) (fun a => (hasA_cons (k := 2) rfl (done_of (j := 2) hcu rfl (by decide) rfl) (hasA_cons (k := 13) rfl (done_of (j := 13) hcu rfl (by decide) rfl) (hasA_cons (k := 8) rfl (done_of (j := 8) hcu rfl (by decide) rfl) hasA_base)))) (ot_call0 (first := []) (cap := []) (xs := [.tmp 18,.tmp 23]) rfl rfl F_call_29 rfl (ossuaryref09_Compare.spec K (((l0.getD ((w64 (i4 - 1)).toNat) z_Api_Row).Key).Hour) (((l0.getD ((w64 (i4 - 1)).toNat) z_Api_Row).Key).Dims_0) (((l0.getD ((w64 (i4 - 1)).toNat) z_Api_Row).Key).Dims_1) (((l0.getD ((w64 (i4 - 1)).toNat) z_Api_Row).Key).Dims_2) (((l0.getD ((w64 (i4 - 1)).toNat) z_Api_Row).Key).Dims_3) (((l0.getD i4.toNat z_Api_Row).Key).Hour) (((l0.getD i4.toNat z_Api_Row).Key).Dims_0) (((l0.getD i4.toNat z_Api_Row).Key).Dims_1) (((l0.getD i4.toNat z_Api_Row).Key).Dims_2) (((l0.getD i4.toNat z_Api_Row).Key).Dims_3) _ h54)) rfl rfl (onlyT_spec (k0 := 14) rfl rfl rfl)
     ·exact fun done hi hc hcu => draw_value (i := 15) (t := 25) (v := (Value.bool (decide (0 ≤ x54)))) rfl rfl (wanted_on rfl rfl rfl (decide_eq_true c191)) (fun a => (hasA_cons (k := 2) rfl (done_of (j := 2) hcu rfl (by decide) rfl) (hasA_cons (k := 14) rfl (done_of (j := 14) hcu rfl (by decide) rfl) hasA_base))) (ov_bin rfl rfl (b_geq _ _ _)) rfl rfl (onlyT_spec (k0 := 15) rfl rfl rfl)
     ·exact fun done hi hc hcu => draw_value (i := 16) (t := 26) (v := (Value.bool (decide (0 ≤ x54)))) rfl rfl (wanted_none rfl) (fun a => (hasA_cons (k := 15) rfl (done_of (j := 15) hcu rfl (by decide) rfl) (hasA_cons (k := 2) rfl (done_of (j := 2) hcu rfl (by decide) rfl) hasA_base))) (ov_pick rfl rfl rfl (pick_t (decide_eq_true c191))) rfl rfl (onlyT_spec (k0 := 16) rfl rfl rfl)
     ·exact fun done hi hc hcu => draw_value (i := 17) (t := 27) (v := (Value.bool (decide (0 ≤ x54)))) rfl rfl (wanted_none rfl) (fun a => (hasA_cons (k := 16) rfl (done_of (j := 16) hcu rfl (by decide) rfl) hasA_base)) (ov_move rfl) rfl rfl (onlyT_spec (k0 := 17) rfl rfl rfl)
     ·exact fun done hi hc hcu => draw_value (i := 18) (t := 28) (v := sv0) rfl rfl (wanted_on rfl rfl rfl (decide_eq_false c195)) (fun a => (hasA_cons (k := 17) rfl (done_of (j := 17) hcu rfl (by decide) rfl) hasA_base)) (ov_move rfl) rfl rfl (onlyT_spec (k0 := 18) rfl rfl rfl)
     ·exact fun done hi hc hcu => draw_value (i := 19) (t := 29) (v := (I i4)) rfl rfl (wanted_on rfl rfl rfl (decide_eq_false c195)) (fun a => (hasA_cons (k := 17) rfl (done_of (j := 17) hcu rfl (by decide) rfl) hasA_base)) (ov_move rfl) rfl rfl (onlyT_spec (k0 := 19) rfl rfl rfl)
     ·exact fun done hi hc hcu => draw_value (i := 20) (t := 30) (v := (eptr sv0 (i4.toNat * 9))) rfl rfl (wanted_on rfl rfl rfl (decide_eq_false c195)) (fun a => (hasA_cons (k := 17) rfl (done_of (j := 17) hcu rfl (by decide) rfl) (hasA_cons (k := 19) rfl (done_of (j := 19) hcu rfl (by decide) rfl) (hasA_cons (k := 18) rfl (done_of (j := 18) hcu rfl (by decide) rfl) hasA_base)))) (ov_indexAddr (sz := 8) 0 rfl rfl F_slice_22 F_size_44 rfl hA0 c194 c180) rfl rfl (onlyT_spec (k0 := 20) rfl rfl rfl)
     ·exact fun done hi hc hcu => draw_value (i := 21) (t := 31) (v := (eptr sv0 (i4.toNat * 9 + 5))) rfl rfl (wanted_on rfl rfl rfl (decide_eq_false c195)) (fun a => (hasA_cons (k := 17) rfl (done_of (j := 17) hcu rfl (by decide) rfl) (hasA_cons (k := 20) rfl (done_of (j := 20) hcu rfl (by decide) rfl) hasA_base))) (ov_fieldAddrE (sz := 3) (k0 := i4.toNat * 9) (off := 5) 0 rfl F_field_44_1 F_size_39 rfl hA0 (fl_pos enc_Api_Row_len (ix_lt c194 c180))) rfl rfl (onlyT_spec (k0 := 21) rfl rfl rfl)
     ·exact fun done hi hc hcu => draw_value (i := 22) (t := 32) (v := (eptr sv0 (i4.toNat * 9 + 5))) rfl rfl (wanted_on rfl rfl rfl (decide_eq_false c195)) (fun a => (hasA_cons (k := 17) rfl (done_of (j := 17) hcu rfl (by decide) rfl) (hasA_cons (k := 21) rfl (done_of (j := 21) hcu rfl (by decide) rfl) hasA_base))) (ov_fieldAddrE (sz := 0) (k0 := i4.toNat * 9 + 5) (off := 0) 0 rfl F_field_39_0 F_size_2 rfl hA0 (fl_pos enc_Api_Row_len (ix_lt c194 c180))) rfl rfl (onlyT_spec (k0 := 22) rfl rfl rfl)
     ·exact fun done hi hc hcu => draw_value (i := 23) (t := 33) (v := (I (((l0.getD i4.toNat z_Api_Row).Cell).Count))) rfl rfl (wanted_on rfl rfl rfl (decide_eq_false c195)) (fun a => (hasA_cons (k := 17) rfl (done_of (j := 17) hcu rfl (by decide) rfl) (hasA_cons (k := 22) rfl (done_of (j := 22) hcu rfl (by decide) rfl) hasA_base))) (ov_load (v := (I (((l0.getD i4.toNat z_Api_Row).Cell).Count))) rfl F_agg_2 (reads_rd (i := 0) rfl hA0 (by simp [C3_,C2_,C1_,C0_]) (fl_read (off := 5) enc_Api_Row_len (ix_lt c194 c180) rfl))) rfl rfl (onlyT_spec (k0 := 23) rfl rfl rfl)
     ·exact fun done hi hc hcu => draw_value (i := 24) (t := 34) (v := (Value.bool (decide ((((l0.getD i4.toNat z_Api_Row).Cell).Count) < 1)))) rfl rfl (wanted_on rfl rfl rfl (decide_eq_false c195)) (fun a => (hasA_cons (k := 17) rfl (done_of (j := 17) hcu rfl (by decide) rfl) (hasA_cons (k := 23) rfl (done_of (j := 23) hcu rfl (by decide) rfl) hasA_base))) (ov_bin rfl rfl (b_lss _ _ _)) rfl rfl (onlyT_spec (k0 := 24) rfl rfl rfl)
     ·exact fun done hi hc hcu => draw_value (i := 25) (t := 35) (v := (Value.bool (decide ((((l0.getD i4.toNat z_Api_Row).Cell).Count) < 1)))) rfl rfl (wanted_none rfl) (fun a => (hasA_cons (k := 24) rfl (done_of (j := 24) hcu rfl (by decide) rfl) (hasA_cons (k := 17) rfl (done_of (j := 17) hcu rfl (by decide) rfl) hasA_base))) (ov_pick rfl rfl rfl (pick_f (decide_eq_false c195))) rfl rfl (onlyT_spec (k0 := 25) rfl rfl rfl)
     ·exact fun done hi hc hcu => draw_value (i := 26) (t := 36) (v := (Value.bool (decide ((((l0.getD i4.toNat z_Api_Row).Cell).Count) < 1)))) rfl rfl (wanted_none rfl) (fun a => (hasA_cons (k := 25) rfl (done_of (j := 25) hcu rfl (by decide) rfl) hasA_base)) (ov_move rfl) rfl rfl (onlyT_spec (k0 := 26) rfl rfl rfl)
     ·exact fun done hi hc hcu => draw_off (i := 27) (t := 37) rfl rfl (wanted_off rfl rfl rfl (decide_eq_true c196)) (fun a => (hasA_cons (k := 26) rfl (done_of (j := 26) hcu rfl (by decide) rfl) hasA_base)) rfl rfl (onlyT_spec (k0 := 27) rfl rfl rfl)
     ·exact fun done hi hc hcu => draw_off (i := 28) (t := 38) rfl rfl (wanted_off rfl rfl rfl (decide_eq_true c196)) (fun a => (hasA_cons (k := 26) rfl (done_of (j := 26) hcu rfl (by decide) rfl) hasA_base)) rfl rfl (onlyT_spec (k0 := 28) rfl rfl rfl)
     ·exact fun done hi hc hcu => draw_off (i := 29) (t := 39) rfl rfl (wanted_off rfl rfl rfl (decide_eq_true c196)) (fun a => (hasA_cons (k := 26) rfl (done_of (j := 26) hcu rfl (by decide) rfl) hasA_base)) rfl rfl (onlyT_spec (k0 := 29) rfl rfl rfl)
     ·exact fun done hi hc hcu => draw_off (i := 30) (t := 40) rfl rfl (wanted_off rfl rfl rfl (decide_eq_true c196)) (fun a => (hasA_cons (k := 26) rfl (done_of (j := 26) hcu rfl (by decide) rfl) hasA_base)) rfl rfl (onlyT_spec (k0 := 30) rfl rfl rfl)
     ·exact fun done hi hc hcu => draw_off (i := 31) (t := 41) rfl rfl (wanted_off rfl rfl rfl (decide_eq_true c196)) (fun a => (hasA_cons (k := 26) rfl (done_of (j := 26) hcu rfl (by decide) rfl) hasA_base)) rfl rfl (onlyT_spec (k0 := 31) rfl rfl rfl)
     ·exact fun done hi hc hcu => draw_off (i := 32) (t := 42) rfl rfl (wanted_off rfl rfl rfl (decide_eq_true c196)) (fun a => (hasA_cons (k := 26) rfl (done_of (j := 26) hcu rfl (by decide) rfl) hasA_base)) rfl rfl (onlyT_spec (k0 := 32) rfl rfl rfl)
     ·exact fun done hi hc hcu => draw_off (i := 33) (t := 43) rfl rfl (wanted_off rfl rfl rfl (decide_eq_true c196)) (fun a => (hasA_cons (k := 26) rfl (done_of (j := 26) hcu rfl (by decide) rfl) hasA_base)) rfl rfl (onlyT_spec (k0 := 33) rfl rfl rfl)
     ·exact fun done hi hc hcu => draw_value (i := 34) (t := 44) (v := (bool true)) rfl rfl (wanted_none rfl) (fun a => (hasA_cons (k := 33) rfl (done_of (j := 33) hcu rfl (by decide) rfl) (hasA_cons (k := 26) rfl (done_of (j := 26) hcu rfl (by decide) rfl) hasA_base))) (ov_pick rfl rfl rfl (pick_t (decide_eq_true c196))) rfl rfl (onlyT_spec (k0 := 34) rfl rfl rfl)
    ·intro done hall
     refine draw_endL [A0] rfl (fun a => (hasA_cons (k := 0) rfl (hall 0 (by decide)) (hasA_cons (k := 1) rfl (hall 1 (by decide)) (hasA_cons (k := 2) rfl (hall 2 (by decide)) (hasA_cons (k := 3) rfl (hall 3 (by decide)) (hasA_cons (k := 4) rfl (hall 4 (by decide)) (hasA_cons (k := 5) rfl (hall 5 (by decide)) (hasA_cons (k := 6) rfl (hall 6 (by decide)) (hasA_cons (k := 7) rfl (hall 7 (by decide)) (hasA_cons (k := 8) rfl (hall 8 (by decide)) (hasA_cons (k := 9) rfl (hall 9 (by decide)) (hasA_cons (k := 10) rfl (hall 10 (by decide)) (hasA_cons (k := 11) rfl (hall 11 (by decide)) (hasA_cons (k := 12) rfl (hall 12 (by decide)) (hasA_cons (k := 13) rfl (hall 13 (by decide)) (hasA_cons (k := 14) rfl (hall 14 (by decide)) (hasA_cons (k := 15) rfl (hall 15 (by decide)) (hasA_cons (k := 16) rfl (hall 16 (by decide)) (hasA_cons (k := 17) rfl (hall 17 (by decide)) (hasA_cons (k := 18) rfl (hall 18 (by decide)) (hasA_cons (k := 19) rfl (hall 19 (by decide)) (hasA_cons (k := 20) rfl (hall 20 (by decide)) (hasA_cons (k := 21) rfl (hall 21 (by decide)) (hasA_cons (k := 22) rfl (hall 22 (by decide)) (hasA_cons (k := 23) rfl (hall 23 (by decide)) (hasA_cons (k := 24) rfl (hall 24 (by decide)) (hasA_cons (k := 25) rfl (hall 25 (by decide)) (hasA_cons (k := 26) rfl (hall 26 (by decide)) (hasA_cons (k := 27) rfl (hall 27 (by decide)) (hasA_cons (k := 28) rfl (hall 28 (by decide)) (hasA_cons (k := 29) rfl (hall 29 (by decide)) (hasA_cons (k := 30) rfl (hall 30 (by decide)) (hasA_cons (k := 31) rfl (hall 31 (by decide)) (hasA_cons (k := 32) rfl (hall 32 (by decide)) (hasA_cons (k := 33) rfl (hall 33 (by decide)) (hasA_cons (k := 34) rfl (hall 34 (by decide)) hasA_base)))))))))))))))))))))))))))))))))))) ?_
     refine ent_cond_true rfl rfl (ent_seq (ent_region (ent_value (ov_assign rfl) rfl rfl rfl (ent_nil (ent_retc ?_)))))
     cases H4
     refine ent_pick [0] (by decide) rfl ?_
     exact ret_tmp rfl rfl ⟨rfl,rfl⟩
   obtain ⟨x55,h55,H4⟩ := thn_elim H4
   refine ent_drawm 35 rfl (fun done a w => StD 45 w0 F [(0,sv0),(3,I i4),(4,I i4),(5,sv0),(6,I (l0.length : Int)),(7,Value.bool (decide (i4 < (l0.length : Int))))] [(0,10,I i4),(1,11,Value.bool (decide (0 < i4))),(2,12,Value.bool (decide (0 < i4))),(3,13,sv0),(4,14,I i4),(5,15,I (w64 (i4 - 1))),(6,16,(eptr sv0 (((w64 (i4 - 1)).toNat) * 9))),(7,17,(eptr sv0 (((w64 (i4 - 1)).toNat) * 9 + 0))),(8,18,agg #[I (((l0.getD ((w64 (i4 - 1)).toNat) z_Api_Row).Key).Hour),str (((l0.getD ((w64 (i4 - 1)).toNat) z_Api_Row).Key).Dims_0),str (((l0.getD ((w64 (i4 - 1)).toNat) z_Api_Row).Key).Dims_1),str (((l0.getD ((w64 (i4 - 1)).toNat) z_Api_Row).Key).Dims_2),str (((l0.getD ((w64 (i4 - 1)).toNat) z_Api_Row).Key).Dims_3)]),(9,19,sv0),(10,20,I i4),(11,21,(eptr sv0 (i4.toNat * 9))),(12,22,(eptr sv0 (i4.toNat * 9 + 0))),(13,23,C0_),(14,24,I x54),(15,25,Value.bool (decide (0 ≤ x54))),(16,26,Value.bool (decide (0 ≤ x54))),(17,27,Value.bool (decide (0 ≤ x54))),(18,28,sv0),(19,29,I i4),(20,30,(eptr sv0 (i4.toNat * 9))),(21,31,(eptr sv0 (i4.toNat * 9 + 5))),(22,32,(eptr sv0 (i4.toNat * 9 + 5))),(23,33,I (((l0.getD i4.toNat z_Api_Row).Cell).Count)),(24,34,Value.bool (decide ((((l0.getD i4.toNat z_Api_Row).Cell).Count) < 1))),(25,35,Value.bool (decide ((((l0.getD i4.toNat z_Api_Row).Cell).Count) < 1))),(26,36,Value.bool (decide ((((l0.getD i4.toNat z_Api_Row).Cell).Count) < 1))),(27,37,sv0),(28,38,I i4),(29,39,(eptr sv0 (i4.toNat * 9))),(30,40,(eptr sv0 (i4.toNat * 9 + 5))),(31,41,C1_),(32,42,bool x55),(33,43,bool (!x55)),(34,44,bool (!x55))] done [A0] a w) (by kernel_rfl) (by kernel_rfl) (draw_startL (sub_cons (t := 0) rfl (sub_cons (t := 3) rfl (sub_cons (t := 4) rfl (sub_cons (t := 5) rfl (sub_cons (t := 6) rfl (sub_cons (t := 7) rfl (sub_nil _))))))) rfl) ?_ ?_
   ·refine ⟨?_,?_,?_,?_,?_,?_,?_,?_,?_,?_,?_,?_,?_,?_,?_,?_,?_,?_,?_,?_,?_,?_,?_,?_,?_,?_,?_,?_,?_,?_,?_,?_,?_,?_,?_,trivial⟩
    ·exact fun done hi hc hcu => draw_value (i := 0) (t := 10) (v := (I i4)) rfl rfl (wanted_none rfl) (fun a => hasA_base) (ov_move rfl) rfl rfl (onlyT_spec (k0 := 0) rfl rfl rfl)
    ·exact fun done hi hc hcu => draw_value (i := 1) (t := 11) (v := (Value.bool (decide (0 < i4)))) rfl rfl (wanted_none rfl) (fun a => (hasA_cons (k := 0) rfl (done_of (j := 0) hcu rfl (by decide) rfl) hasA_base)) (ov_bin rfl rfl (b_gtr _ _ _)) rfl rfl (onlyT_spec (k0 := 1) rfl rfl rfl)
    ·exact fun done hi hc hcu => draw_value (i := 2) (t := 12) (v := (Value.bool (decide (0 < i4)))) rfl rfl (wanted_none rfl) (fun a => (hasA_cons (k := 1) rfl (done_of (j := 1) hcu rfl (by decide) rfl) hasA_base)) (ov_move rfl) rfl rfl (onlyT_spec (k0 := 2) rfl rfl rfl)
    ·exact fun done hi hc hcu => draw_value (i := 3) (t := 13) (v := sv0) rfl rfl (wanted_on rfl rfl rfl (decide_eq_true c191)) (fun a => (hasA_cons (k := 2) rfl (done_of (j := 2) hcu rfl (by decide) rfl) hasA_base)) (ov_move rfl) rfl rfl (onlyT_spec (k0 := 3) rfl rfl rfl)
    ·exact fun done hi hc hcu => draw_value (i := 4) (t := 14) (v := (I i4)) rfl rfl (wanted_on rfl rfl rfl (decide_eq_true c191)) (fun a => (hasA_cons (k := 2) rfl (done_of (j := 2) hcu rfl (by decide) rfl) hasA_base)) (ov_move rfl) rfl rfl (onlyT_spec (k0 := 4) rfl rfl rfl)
    ·exact fun done hi hc hcu => draw_value (i := 5) (t := 15) (v := (I (w64 (i4 - 1)))) rfl rfl (wanted_on rfl rfl rfl (decide_eq_true c191)) (fun a => (hasA_cons (k := 2) rfl (done_of (j := 2) hcu rfl (by decide) rfl) (hasA_cons (k := 4) rfl (done_of (j := 4) hcu rfl (by decide) rfl) hasA_base))) (ov_bin rfl rfl (b_sub _ _ _) ) rfl rfl (onlyT_spec (k0 := 5) rfl rfl rfl)
    ·exact fun done hi hc hcu => draw_value (i := 6) (t := 16) (v := (eptr sv0 (((w64 (i4 - 1)).toNat) * 9))) rfl rfl (wanted_on rfl rfl rfl (decide_eq_true c191)) (fun a => (hasA_cons (k := 2) rfl (done_of (j := 2) hcu rfl (by decide) rfl) (hasA_cons (k := 5) rfl (done_of (j := 5) hcu rfl (by decide) rfl) (hasA_cons (k := 3) rfl (done_of (j := 3) hcu rfl (by decide) rfl) hasA_base)))) (ov_indexAddr (sz := 8) 0 rfl rfl F_slice_22 F_size_44 rfl hA0 c192 c193) rfl rfl (onlyT_spec (k0 := 6) rfl rfl rfl)
    ·exact fun done hi hc hcu => draw_value (i := 7) (t := 17) (v := (eptr sv0 (((w64 (i4 - 1)).toNat) * 9 + 0))) rfl rfl (wanted_on rfl rfl rfl (decide_eq_true c191)) (fun a => (hasA_cons (k := 2) rfl (done_of (j := 2) hcu rfl (by decide) rfl) (hasA_cons (k := 6) rfl (done_of (j := 6) hcu rfl (by decide) rfl) hasA_base))) (ov_fieldAddrE (sz := 4) (k0 := ((w64 (i4 - 1)).toNat) * 9) (off := 0) 0 rfl F_field_44_0 F_size_42 rfl hA0 (fl_pos enc_Api_Row_len (ix_lt c192 c193))) rfl rfl (onlyT_spec (k0 := 7) rfl rfl rfl)
    ·exact fun done hi hc hcu => draw_value (i := 8) (t := 18) (v := (agg #[I (((l0.getD ((w64 (i4 - 1)).toNat) z_Api_Row).Key).Hour),str (((l0.getD ((w64 (i4 - 1)).toNat) z_Api_Row).Key).Dims_0),str (((l0.getD ((w64 (i4 - 1)).toNat) z_Api_Row).Key).Dims_1),str (((l0.getD ((w64 (i4 - 1)).toNat) z_Api_Row).Key).Dims_2),str (((l0.getD ((w64 (i4 - 1)).toNat) z_Api_Row).Key).Dims_3)])) rfl rfl (wanted_on rfl rfl rfl (decide_eq_true c191)) (fun a => (hasA_cons (k := 2) rfl (done_of (j := 2) hcu rfl (by decide) rfl) (hasA_cons (k := 7) rfl (done_of (j := 7) hcu rfl (by decide) rfl) hasA_base))) (ov_load_agg (vs := [I (((l0.getD ((w64 (i4 - 1)).toNat) z_Api_Row).Key).Hour),str (((l0.getD ((w64 (i4 - 1)).toNat) z_Api_Row).Key).Dims_0),str (((l0.getD ((w64 (i4 - 1)).toNat) z_Api_Row).Key).Dims_1),str (((l0.getD ((w64 (i4 - 1)).toNat) z_Api_Row).Key).Dims_2),str (((l0.getD ((w64 (i4 - 1)).toNat) z_Api_Row).Key).Dims_3)]) rfl F_agg_42 F_size_42 (reads_rd (i := 0) rfl hA0 (by simp [C3_,C2_,C1_,C0_]) (fl_read (off := 0) enc_Api_Row_len (ix_lt c192 c193) rfl))) rfl rfl (onlyT_spec (k0 := 8) rfl rfl rfl)
    ·exact fun done hi hc hcu => draw_value (i := 9) (t := 19) (v := sv0) rfl rfl (wanted_on rfl rfl rfl (decide_eq_true c191)) (fun a => (hasA_cons (k := 2) rfl (done_of (j := 2) hcu rfl (by decide) rfl) hasA_base)) (ov_move rfl) rfl rfl (onlyT_spec (k0 := 9) rfl rfl rfl)
    ·exact fun done hi hc hcu => draw_value (i := 10) (t := 20) (v := (I i4)) rfl rfl (wanted_on rfl rfl rfl (decide_eq_true c191)) (fun a => (hasA_cons (k := 2) rfl (done_of (j := 2) hcu rfl (by decide) rfl) hasA_base)) (ov_move rfl) rfl rfl (onlyT_spec (k0 := 10) rfl rfl rfl)
    ·exact fun done hi hc hcu => draw_value (i := 11) (t := 21) (v := (eptr sv0 (i4.toNat * 9))) rfl rfl (wanted_on rfl rfl rfl (decide_eq_true c191)) (fun a => (hasA_cons (k := 2) rfl (done_of (j := 2) hcu rfl (by decide) rfl) (hasA_cons (k := 10) rfl (done_of (j := 10) hcu rfl (by decide) rfl) (hasA_cons (k := 9) rfl (done_of (j := 9) hcu rfl (by decide) rfl) hasA_base)))) (ov_indexAddr (sz := 8) 0 rfl rfl F_slice_22 F_size_44 rfl hA0 c194 c180) rfl rfl (onlyT_spec (k0 := 11) rfl rfl rfl)
    ·exact fun done hi hc hcu => draw_value (i := 12) (t := 22) (v := (eptr sv0 (i4.toNat * 9 + 0))) rfl rfl (wanted_on rfl rfl rfl (decide_eq_true c191)) (fun a => (hasA_cons (k := 2) rfl (done_of (j := 2) hcu rfl (by decide) rfl) (hasA_cons (k := 11) rfl (done_of (j := 11) hcu rfl (by decide) rfl) hasA_base))) (ov_fieldAddrE (sz := 4) (k0 := i4.toNat * 9) (off := 0) 0 rfl F_field_44_0 F_size_42 rfl hA0 (fl_pos enc_Api_Row_len (ix_lt c194 c180))) rfl rfl (onlyT_spec (k0 := 12) rfl rfl rfl)
    ·exact fun done hi hc hcu => draw_value (i := 13) (t := 23) (v := (C0_)) rfl rfl (wanted_on rfl rfl rfl (decide_eq_true c191)) (fun a => (hasA_cons (k := 2) rfl (done_of (j := 2) hcu rfl (by decide) rfl) (hasA_cons (k := 12) rfl (done_of (j := 12) hcu rfl (by decide) rfl) hasA_base))) (ov_load_agg (vs := C2_) rfl F_agg_42 F_size_42 (reads_rd (i := 0) rfl hA0 (by simp [C3_,C2_,C1_,C0_]) (fl_read (off := 0) enc_Api_Row_len (ix_lt c194 c180) rfl))) rfl rfl (onlyT_spec (k0 := 13) rfl rfl rfl)
    ·exact fun done hi hc hcu => draw_same (i := 14) (t := 24) (v := (I x54)) rfl rfl (wanted_on rfl rfl rfl (decide_eq_true c191)) (fun a => (hasA_cons (k := 2) rfl (done_of (j := 2) hcu rfl (by decide) rfl) (hasA_cons (k := 13) rfl (done_of (j := 13) hcu rfl (by decide) rfl) (hasA_cons (k := 8) rfl (done_of (j := 8) hcu rfl (by decide) rfl) hasA_base)))) (ot_call0 (first := []) (cap := []) (xs := [.tmp 18,.tmp 23]) rfl rfl F_call_29 rfl (ossuaryref09_Compare.spec K (((l0.getD ((w64 (i4 - 1)).toNat) z_Api_Row).Key).Hour) (((l0.getD ((w64 (i4 - 1)).toNat) z_Api_Row).Key).Dims_0) (((l0.getD ((w64 (i4 - 1)).toNat) z_Api_Row).Key).Dims_1) (((l0.getD ((w64 (i4 - 1)).toNat) z_Api_Row).Key).Dims_2) (((l0.getD ((w64 (i4 - 1)).toNat) z_Api_Row).Key).Dims_3) (((l0.getD i4.toNat z_Api_Row).Key).Hour) (((l0.getD i4.toNat z_Api_Row).Key).Dims_0) (((l0.getD i4.toNat z_Api_Row).Key).Dims_1) (((l0.getD i4.toNat z_Api_Row).Key).Dims_2) (((l0.getD i4.toNat z_Api_Row).Key).Dims_3) _ h54)) rfl rfl (onlyT_spec (k0 := 14) rfl rfl rfl)
    ·exact fun done hi hc hcu => draw_value (i := 15) (t := 25) (v := (Value.bool (decide (0 ≤ x54)))) rfl rfl (wanted_on rfl rfl rfl (decide_eq_true c191)) (fun a => (hasA_cons (k := 2) rfl (done_of (j := 2) hcu rfl (by decide) rfl) (hasA_cons (k := 14) rfl (done_of (j := 14) hcu rfl (by decide) rfl) hasA_base))) (ov_bin rfl rfl (b_geq _ _ _)) rfl rfl (onlyT_spec (k0 := 15) rfl rfl rfl)
    ·exact fun done hi hc hcu => draw_value (i := 16) (t := 26) (v := (Value.bool (decide (0 ≤ x54)))) rfl rfl (wanted_none rfl) (fun a => (hasA_cons (k := 15) rfl (done_of (j := 15) hcu rfl (by decide) rfl) (hasA_cons (k := 2) rfl (done_of (j := 2) hcu rfl (by decide) rfl) hasA_base))) (ov_pick rfl rfl rfl (pick_t (decide_eq_true c191))) rfl rfl (onlyT_spec (k0 := 16) rfl rfl rfl)
    ·exact fun done hi hc hcu => draw_value (i := 17) (t := 27) (v := (Value.bool (decide (0 ≤ x54)))) rfl rfl (wanted_none rfl) (fun a => (hasA_cons (k := 16) rfl (done_of (j := 16) hcu rfl (by decide) rfl) hasA_base)) (ov_move rfl) rfl rfl (onlyT_spec (k0 := 17) rfl rfl rfl)
    ·exact fun done hi hc hcu => draw_value (i := 18) (t := 28) (v := sv0) rfl rfl (wanted_on rfl rfl rfl (decide_eq_false c195)) (fun a => (hasA_cons (k := 17) rfl (done_of (j := 17) hcu rfl (by decide) rfl) hasA_base)) (ov_move rfl) rfl rfl (onlyT_spec (k0 := 18) rfl rfl rfl)
    ·exact fun done hi hc hcu => draw_value (i := 19) (t := 29) (v := (I i4)) rfl rfl (wanted_on rfl rfl rfl (decide_eq_false c195)) (fun a => (hasA_cons (k := 17) rfl (done_of (j := 17) hcu rfl (by decide) rfl) hasA_base)) (ov_move rfl) rfl rfl (onlyT_spec (k0 := 19) rfl rfl rfl)
    ·exact fun done hi hc hcu => draw_value (i := 20) (t := 30) (v := (eptr sv0 (i4.toNat * 9))) rfl rfl (wanted_on rfl rfl rfl (decide_eq_false c195)) (fun a => (hasA_cons (k := 17) rfl (done_of (j := 17) hcu rfl (by decide) rfl) (hasA_cons (k := 19) rfl (done_of (j := 19) hcu rfl (by decide) rfl) (hasA_cons (k := 18) rfl (done_of (j := 18) hcu rfl (by decide) rfl) hasA_base)))) (ov_indexAddr (sz := 8) 0 rfl rfl F_slice_22 F_size_44 rfl hA0 c194 c180) rfl rfl (onlyT_spec (k0 := 20) rfl rfl rfl)
    ·exact fun done hi hc hcu => draw_value (i := 21) (t := 31) (v := (eptr sv0 (i4.toNat * 9 + 5))) rfl rfl (wanted_on rfl rfl rfl (decide_eq_false c195)) (fun a => (hasA_cons (k := 17) rfl (done_of (j := 17) hcu rfl (by decide) rfl) (hasA_cons (k := 20) rfl (done_of (j := 20) hcu rfl (by decide) rfl) hasA_base))) (ov_fieldAddrE (sz := 3) (k0 := i4.toNat * 9) (off := 5) 0 rfl F_field_44_1 F_size_39 rfl hA0 (fl_pos enc_Api_Row_len (ix_lt c194 c180))) rfl rfl (onlyT_spec (k0 := 21) rfl rfl rfl)
    ·exact fun done hi hc hcu => draw_value (i := 22) (t := 32) (v := (eptr sv0 (i4.toNat * 9 + 5))) rfl rfl (wanted_on rfl rfl rfl (decide_eq_false c195)) (fun a => (hasA_cons (k := 17) rfl (done_of (j := 17) hcu rfl (by decide) rfl) (hasA_cons (k := 21) rfl (done_of (j := 21) hcu rfl (by decide) rfl) hasA_base))) (ov_fieldAddrE (sz := 0) (k0 := i4.toNat * 9 + 5) (off := 0) 0 rfl F_field_39_0 F_size_2 rfl hA0 (fl_pos enc_Api_Row_len (ix_lt c194 c180))) rfl rfl (onlyT_spec (k0 := 22) rfl rfl rfl)
    ·exact fun done hi hc hcu => draw_value (i := 23) (t := 33) (v := (I (((l0.getD i4.toNat z_Api_Row).Cell).Count))) rfl rfl (wanted_on rfl rfl rfl (decide_eq_false c195)) (fun a => (hasA_cons (k := 17) rfl (done_of (j := 17) hcu rfl (by decide) rfl) (hasA_cons (k := 22) rfl (done_of (j := 22) hcu rfl (by decide) rfl) hasA_base))) (ov_load (v := (I (((l0.getD i4.toNat z_Api_Row).Cell).Count))) rfl F_agg_2 (reads_rd (i := 0) rfl hA0 (by simp [C3_,C2_,C1_,C0_]) (fl_read (off := 5) enc_Api_Row_len (ix_lt c194 c180) rfl))) rfl rfl (onlyT_spec (k0 := 23) rfl rfl rfl)
    ·exact fun done hi hc hcu => draw_value (i := 24) (t := 34) (v := (Value.bool (decide ((((l0.getD i4.toNat z_Api_Row).Cell).Count) < 1)))) rfl rfl (wanted_on rfl rfl rfl (decide_eq_false c195)) (fun a => (hasA_cons (k := 17) rfl (done_of (j := 17) hcu rfl (by decide) rfl) (hasA_cons (k := 23) rfl (done_of (j := 23) hcu rfl (by decide) rfl) hasA_base))) (ov_bin rfl rfl (b_lss _ _ _)) rfl rfl (onlyT_spec (k0 := 24) rfl rfl rfl)
    ·exact fun done hi hc hcu => draw_value (i := 25) (t := 35) (v := (Value.bool (decide ((((l0.getD i4.toNat z_Api_Row).Cell).Count) < 1)))) rfl rfl (wanted_none rfl) (fun a => (hasA_cons (k := 24) rfl (done_of (j := 24) hcu rfl (by decide) rfl) (hasA_cons (k := 17) rfl (done_of (j := 17) hcu rfl (by decide) rfl) hasA_base))) (ov_pick rfl rfl rfl (pick_f (decide_eq_false c195))) rfl rfl (onlyT_spec (k0 := 25) rfl rfl rfl)
    ·exact fun done hi hc hcu => draw_value (i := 26) (t := 36) (v := (Value.bool (decide ((((l0.getD i4.toNat z_Api_Row).Cell).Count) < 1)))) rfl rfl (wanted_none rfl) (fun a => (hasA_cons (k := 25) rfl (done_of (j := 25) hcu rfl (by decide) rfl) hasA_base)) (ov_move rfl) rfl rfl (onlyT_spec (k0 := 26) rfl rfl rfl)
    ·exact fun done hi hc hcu => draw_value (i := 27) (t := 37) (v := sv0) rfl rfl (wanted_on rfl rfl rfl (decide_eq_false c196)) (fun a => (hasA_cons (k := 26) rfl (done_of (j := 26) hcu rfl (by decide) rfl) hasA_base)) (ov_move rfl) rfl rfl (onlyT_spec (k0 := 27) rfl rfl rfl)
    ·exact fun done hi hc hcu => draw_value (i := 28) (t := 38) (v := (I i4)) rfl rfl (wanted_on rfl rfl rfl (decide_eq_false c196)) (fun a => (hasA_cons (k := 26) rfl (done_of (j := 26) hcu rfl (by decide) rfl) hasA_base)) (ov_move rfl) rfl rfl (onlyT_spec (k0 := 28) rfl rfl rfl)
    ·exact fun done hi hc hcu => draw_value (i := 29) (t := 39) (v := (eptr sv0 (i4.toNat * 9))) rfl rfl (wanted_on rfl rfl rfl (decide_eq_false c196)) (fun a => (hasA_cons (k := 26) rfl (done_of (j := 26) hcu rfl (by decide) rfl) (hasA_cons (k := 28) rfl (done_of (j := 28) hcu rfl (by decide) rfl) (hasA_cons (k := 27) rfl (done_of (j := 27) hcu rfl (by decide) rfl) hasA_base)))) (ov_indexAddr (sz := 8) 0 rfl rfl F_slice_22 F_size_44 rfl hA0 c194 c180) rfl rfl (onlyT_spec (k0 := 29) rfl rfl rfl)
    ·exact fun done hi hc hcu => draw_value (i := 30) (t := 40) (v := (eptr sv0 (i4.toNat * 9 + 5))) rfl rfl (wanted_on rfl rfl rfl (decide_eq_false c196)) (fun a => (hasA_cons (k := 26) rfl (done_of (j := 26) hcu rfl (by decide) rfl) (hasA_cons (k := 29) rfl (done_of (j := 29) hcu rfl (by decide) rfl) hasA_base))) (ov_fieldAddrE (sz := 3) (k0 := i4.toNat * 9) (off := 5) 0 rfl F_field_44_1 F_size_39 rfl hA0 (fl_pos enc_Api_Row_len (ix_lt c194 c180))) rfl rfl (onlyT_spec (k0 := 30) rfl rfl rfl)
    ·exact fun done hi hc hcu => draw_value (i := 31) (t := 41) (v := (C1_)) rfl rfl (wanted_on rfl rfl rfl (decide_eq_false c196)) (fun a => (hasA_cons (k := 26) rfl (done_of (j := 26) hcu rfl (by decide) rfl) (hasA_cons (k := 30) rfl (done_of (j := 30) hcu rfl (by decide) rfl) hasA_base))) (ov_load_agg (vs := C3_) rfl F_agg_39 F_size_39 (reads_rd (i := 0) rfl hA0 (by simp [C3_,C2_,C1_,C0_]) (fl_read (off := 5) enc_Api_Row_len (ix_lt c194 c180) rfl))) rfl rfl (onlyT_spec (k0 := 31) rfl rfl rfl)
    ·exact fun done hi hc hcu => draw_same (i := 32) (t := 42) (v := (bool x55)) rfl rfl (wanted_on rfl rfl rfl (decide_eq_false c196)) (fun a => (hasA_cons (k := 26) rfl (done_of (j := 26) hcu rfl (by decide) rfl) (hasA_cons (k := 31) rfl (done_of (j := 31) hcu rfl (by decide) rfl) hasA_base))) (ot_call0 (first := []) (cap := []) (xs := [.tmp 41]) rfl rfl F_call_30 rfl (ossuaryref05_Right.spec (((l0.getD i4.toNat z_Api_Row).Cell).Count) (((l0.getD i4.toNat z_Api_Row).Cell).Sum) (((l0.getD i4.toNat z_Api_Row).Cell).Min) (((l0.getD i4.toNat z_Api_Row).Cell).Max) _ h55)) rfl rfl (onlyT_spec (k0 := 32) rfl rfl rfl)
    ·exact fun done hi hc hcu => draw_value (i := 33) (t := 43) (v := (bool (!x55))) rfl rfl (wanted_on rfl rfl rfl (decide_eq_false c196)) (fun a => (hasA_cons (k := 26) rfl (done_of (j := 26) hcu rfl (by decide) rfl) (hasA_cons (k := 32) rfl (done_of (j := 32) hcu rfl (by decide) rfl) hasA_base))) (ov_un rfl (u_not _)) rfl rfl (onlyT_spec (k0 := 33) rfl rfl rfl)
    ·exact fun done hi hc hcu => draw_value (i := 34) (t := 44) (v := (bool (!x55))) rfl rfl (wanted_none rfl) (fun a => (hasA_cons (k := 33) rfl (done_of (j := 33) hcu rfl (by decide) rfl) (hasA_cons (k := 26) rfl (done_of (j := 26) hcu rfl (by decide) rfl) hasA_base))) (ov_pick rfl rfl rfl (pick_f (decide_eq_false c196))) rfl rfl (onlyT_spec (k0 := 34) rfl rfl rfl)
   ·intro done hall
    refine draw_endL [A0] rfl (fun a => (hasA_cons (k := 0) rfl (hall 0 (by decide)) (hasA_cons (k := 1) rfl (hall 1 (by decide)) (hasA_cons (k := 2) rfl (hall 2 (by decide)) (hasA_cons (k := 3) rfl (hall 3 (by decide)) (hasA_cons (k := 4) rfl (hall 4 (by decide)) (hasA_cons (k := 5) rfl (hall 5 (by decide)) (hasA_cons (k := 6) rfl (hall 6 (by decide)) (hasA_cons (k := 7) rfl (hall 7 (by decide)) (hasA_cons (k := 8) rfl (hall 8 (by decide)) (hasA_cons (k := 9) rfl (hall 9 (by decide)) (hasA_cons (k := 10) rfl (hall 10 (by decide)) (hasA_cons (k := 11) rfl (hall 11 (by decide)) (hasA_cons (k := 12) rfl (hall 12 (by decide)) (hasA_cons (k := 13) rfl (hall 13 (by decide)) (hasA_cons (k := 14) rfl (hall 14 (by decide)) (hasA_cons (k := 15) rfl (hall 15 (by decide)) (hasA_cons (k := 16) rfl (hall 16 (by decide)) (hasA_cons (k := 17) rfl (hall 17 (by decide)) (hasA_cons (k := 18) rfl (hall 18 (by decide)) (hasA_cons (k := 19) rfl (hall 19 (by decide)) (hasA_cons (k := 20) rfl (hall 20 (by decide)) (hasA_cons (k := 21) rfl (hall 21 (by decide)) (hasA_cons (k := 22) rfl (hall 22 (by decide)) (hasA_cons (k := 23) rfl (hall 23 (by decide)) (hasA_cons (k := 24) rfl (hall 24 (by decide)) (hasA_cons (k := 25) rfl (hall 25 (by decide)) (hasA_cons (k := 26) rfl (hall 26 (by decide)) (hasA_cons (k := 27) rfl (hall 27 (by decide)) (hasA_cons (k := 28) rfl (hall 28 (by decide)) (hasA_cons (k := 29) rfl (hall 29 (by decide)) (hasA_cons (k := 30) rfl (hall 30 (by decide)) (hasA_cons (k := 31) rfl (hall 31 (by decide)) (hasA_cons (k := 32) rfl (hall 32 (by decide)) (hasA_cons (k := 33) rfl (hall 33 (by decide)) (hasA_cons (k := 34) rfl (hall 34 (by decide)) hasA_base)))))))))))))))))))))))))))))))))))) ?_
    refine htT H4 (fun c197 H4 => ?_) fun c197 H4 => ?_
    ·refine ent_cond_true rfl c197 (ent_seq (ent_region (ent_value (ov_assign rfl) rfl rfl rfl (ent_nil (ent_retc ?_)))))
     cases H4
     refine ent_pick [0] (by decide) rfl ?_
     exact ret_tmp rfl rfl ⟨rfl,rfl⟩
    refine ent_cond_false rfl (Bool.eq_false_iff.2 c197) (ent_skip (ent_region (ent_value (ov_move rfl) rfl rfl rfl (ent_value (ov_bin rfl rfl (b_add _ _ _) ) rfl rfl rfl (ent_value (ov_assign rfl) rfl rfl rfl (ent_nil ?_))))))
    exact ent_fin [0] (by decide) rfl (sub_cons (t := 0) rfl (sub_cons (t := 3) rfl (sub_nil _))) fun a w h => ⟨k,Nat.lt_succ_self k,_,H4,h⟩

theorem stat_Buckets_R.spec (K : Nat) (sv0 : Value) (A0 : HP) (l0 : List Int) (hA0 : IsRd A0 sv0 l0.length 1 (fl (eI .i64) l0)) (r : Nat → Int) (H : stat_Buckets_R K l0 = some r) : FnSpec Try.prog 10 [sv0] [A0] (fun v M => v = (agg (arrF (eI .i64) 65 r).toArray) ∧ M = [A0]) := by
 unfold stat_Buckets_R at H
 refine spec_of Try.func10 rfl 27 rfl (Nat.le_of_ble_eq_true rfl) fun F w0 => ?_
 show Ent (St 27 w0 F [(0,sv0)] [A0]) _
 refine ent_seq (ent_region ?_)
 refine ent_op (ot_alloc F_zero_28) rfl rfl rfl ?_
 rintro _ _ ⟨b2,rfl,rfl⟩
 refine ent_nil (ent_seq (ent_seq (ent_region (ent_value (ov_move rfl) rfl rfl rfl (ent_value (ov_len 1 rfl F_slice_23 rfl hA0) rfl rfl rfl (ent_value (ov_move rfl) rfl rfl rfl (ent_nil (ent_block ?_))))))))
 refine ent_loop (fun k a w => ∃ i4,∃ j4,stat_Buckets_R_l0 K l0 k i4 j4 = some r ∧ St 27 w0 F [(2,pt b2 0),(6,sv0),(7,I (l0.length : Int)),(8,I i4)] [A0,box b2 28 (arrF (eI .i64) 65 j4)] a w) K ?_ ?_
 ·exact ent_fin [1,0] (by decide) rfl (sub_cons (t := 2) rfl (sub_cons (t := 6) rfl (sub_cons (t := 7) rfl (sub_cons (t := 8) rfl (sub_nil _))))) fun a w h => ⟨_,_,H,h⟩
 ·refine fun k => ent_exi fun i4 => ent_exi fun j4 => ent_and fun H4 => ?_
  cases k with
  | zero => exact absurd H4 (by simp [stat_Buckets_R_l0])
  | succ k =>
   rw [stat_Buckets_R_l0] at H4
   refine ent_seq (ent_region (ent_value (ov_bin rfl rfl (b_lss _ _ _)) rfl rfl rfl (ent_nil (ent_seq ?_))))
   refine htF H4 (fun c82 H4 => ?_) fun c82 H4 => ?_
   ·refine ent_cond_false rfl (decide_eq_false c82) (ent_exit (ent_seq (ent_region (ent_value (ov_load_agg (vs := (arrF (eI .i64) 65 j4)) rfl F_agg_28 (size_arrF F_size_28 (eI_len _) rfl) (reads_boxW (i := 1) rfl)) rfl rfl rfl ?_))))
    refine ent_op0 (ot_storeW (cs := (arrF (eI .i64) 65 j4)) (us := (arrF (eI .i64) 65 j4)) (L' := [A0,box b2 28 (arrF (eI .i64) 65 j4)]) 1 rfl rfl rfl (arrF_one (eI_one _)) (size_arrF F_size_28 (eI_len _) rfl) rfl (arrF_same (eI_len _)) rfl) rfl rfl ?_
    rintro _ _ rfl
    refine ent_nil (ent_retc ?_)
    first | (have e_ := Option.some.inj (show some _ = some _ from H4); subst e_) | subst H4
    exact ret_memp [0] (by decide) rfl (vs := [agg (arrF (eI .i64) 65 j4).toArray]) rfl ⟨⟨_,(arrF (eI .i64) 65 j4),rfl,reads_boxW (i := 1) rfl,.inl ⟨F_agg_28,(size_arrF F_size_28 (eI_len _) rfl),rfl⟩⟩,trivial⟩ _ rfl ⟨rfl,rfl⟩
   refine ent_cond_true rfl (decide_eq_true c82) (ent_skip (ent_seq (ent_block (ent_seq (ent_region ?_)))))
   obtain ⟨c86,H4⟩ := gdT H4
   refine ent_value (ov_indexAddr (sz := 0) 0 rfl rfl F_slice_23 F_size_2 rfl hA0 c86 c82) rfl rfl rfl ?_
   refine ent_value (ov_load (v := (I (l0.getD i4.toNat 0))) rfl F_agg_2 (reads_rd (i := 0) rfl hA0 (by simp) (fl_read0 (eI_len _) (ix_lt c86 c82) rfl))) rfl rfl rfl ?_
   refine ent_value (ov_assign rfl) rfl rfl rfl (ent_nil (ent_seq (ent_region (ent_value (ov_move rfl) rfl rfl rfl ?_))))
   refine ent_value (ov_bin rfl rfl fun w => b_shr _ _ _ _ w (by decide)) rfl rfl rfl ?_
   refine ent_value (ov_assign rfl) rfl rfl rfl (ent_nil (ent_region (ent_value (ov_move rfl) rfl rfl rfl (ent_value (ov_move rfl) rfl rfl rfl (ent_value (ov_bin rfl rfl (b_xor _ _ _)) rfl rfl rfl (ent_value (ov_move rfl) rfl rfl rfl (ent_value (ov_bin rfl rfl (b_sub _ _ _) ) rfl rfl rfl (ent_value (ov_convert rfl (c_int Try.underlying2 Try.underlying78)) rfl rfl rfl ?_))))))))
   obtain ⟨x24,h24,H4⟩ := Option.bind_eq_some_iff.1 H4
   refine ent_op (ot_call0 (first := []) (cap := []) (xs := [.tmp 19]) rfl rfl F_call_33 rfl (bits_Len64.spec (wu64 (w64 ((bXor .i64 (l0.getD i4.toNat 0) (bShr .i64 (l0.getD i4.toNat 0) 63)) - (bShr .i64 (l0.getD i4.toNat 0) 63)))) _ h24)) rfl rfl rfl ?_
   rintro _ _ ⟨rfl,rfl⟩
   obtain ⟨c87,H4⟩ := gdT H4
   obtain ⟨c88,H4⟩ := gdT H4
   refine ent_value (ov_indexArr (o := 0) rfl rfl F_array_28 F_size_3 c87 c88) rfl rfl rfl (ent_value (ov_load (v := (I (j4 x24.toNat))) rfl F_agg_3 (reads_boxF (i := 1) rfl (eI_len _) (ix_lt c87 c88))) rfl rfl rfl (ent_value (ov_bin rfl rfl (b_add _ _ _) ) rfl rfl rfl (ent_value (ov_indexArr (o := 0) rfl rfl F_array_28 F_size_3 c87 c88) rfl rfl rfl ?_)))
   refine ent_op0 (ot_store (cs := (arrF (eI .i64) 65 j4)) (cs' := (arrF (eI .i64) 65 (updF j4 x24.toNat (w64 ((j4 x24.toNat) + 1))))) (us := [I (w64 ((j4 x24.toNat) + 1))]) (L' := [A0,box b2 28 (arrF (eI .i64) 65 (updF j4 x24.toNat (w64 ((j4 x24.toNat) + 1))))]) 1 rfl rfl rfl (all_one rfl) F_size_3 rfl (arrF_set (eI_len _) (ix_lt c87 c88) rfl) (arrF_room (eI_len _) (ix_lt c87 c88) rfl) rfl) rfl rfl ?_
   rintro _ _ rfl
   refine ent_nil (ent_region (ent_value (ov_bin rfl rfl (b_add _ _ _) ) rfl rfl rfl (ent_value (ov_move rfl) rfl rfl rfl (ent_nil ?_))))
   exact ent_fin [0,1] (by decide) rfl (sub_cons (t := 2) rfl (sub_cons (t := 6) rfl (sub_cons (t := 7) rfl (sub_cons (t := 8) rfl (sub_nil _))))) fun a w h => ⟨k,Nat.lt_succ_self k,_,_,H4,h⟩

theorem omap_New__string__int.spec (r : Unit) (H : omap_New__string__int = r) : FnSpec Try.prog 88 [] [] (fun v M => ∃ b2 : Nat,v = (pt b2 0) ∧ M = [box b2 177 [L0]]) := by
 unfold omap_New__string__int at H
 refine spec_of Try.func88 rfl 3 rfl (Nat.le_of_ble_eq_true rfl) fun F w0 => ?_
 show Ent (St 3 w0 F [] []) _
 refine ent_seq (ent_region (ent_value (ov_assign rfl) rfl rfl rfl (ent_nil (ent_seq (ent_region (ent_value (ov_build (is := []) (xs := []) (vs := []) rfl rfl (build_struct (cs := [L0]) F_zero_177 F_places_177 rfl)) rfl rfl rfl ?_))))))
 refine ent_op (ot_box (cs := [L0]) rfl rfl) rfl rfl rfl ?_
 rintro _ _ ⟨b3,rfl,rfl⟩
 refine ent_value (ov_assign rfl) rfl rfl rfl (ent_nil (ent_retc ?_))
 cases H
 refine ent_pick [0] (by decide) rfl ?_
 exact ret_tmp rfl rfl ⟨_,rfl,rfl⟩

end Go.Proofs.Ytndeodpckfjakaa.StatSums
