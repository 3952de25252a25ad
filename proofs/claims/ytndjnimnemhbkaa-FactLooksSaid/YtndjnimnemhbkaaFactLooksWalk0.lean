/- Printed by gen.py: that the machine's calls do what the plain functions of FactLooks say. -/
import Derived.Test.YtndjnimnemhbkaaESq
import Derived.Test.YtndjnimnemhbkaaProg
import Derived.Test.YtndjnimnemhbkaaEBun
import Derived.Test.YtndjnimnemhbkaaFactLooksCmp
import Derived.Test.YtndjnimnemhbkaaESortFAt
import Derived.Test.YtndjnimnemhbkaaESortAt
import Derived.Test.YtndjnimnemhbkaaFactLooksPure
set_option linter.unusedVariables false
set_option linter.unusedSimpArgs false
set_option maxHeartbeats 8000000
set_option maxRecDepth 100000
namespace Go.Proofs.Ytndjnimnemhbkaa.FactLooks
open Go Go.RowKit E
open Go.Value (int bool slice agg)

def enc_Api_Key (x : Api_Key) : List Value := [(Value.int .i64 x.Hour), (str x.Dims_0), (str x.Dims_1), (str x.Dims_2), (str x.Dims_3)]
theorem enc_Api_Key_one (x : Api_Key) : (enc_Api_Key x).all (·.oneCell') = true := rfl
theorem enc_Api_Key_len (x : Api_Key) : (enc_Api_Key x).length = 5 := rfl
def enc_Api_Fact (x : Api_Fact) : List Value := [(Value.int .i64 x.Key.Hour), (str x.Key.Dims_0), (str x.Key.Dims_1), (str x.Key.Dims_2), (str x.Key.Dims_3), (Value.int .i64 x.Value)]
theorem enc_Api_Fact_one (x : Api_Fact) : (enc_Api_Fact x).all (·.oneCell') = true := rfl
theorem enc_Api_Fact_len (x : Api_Fact) : (enc_Api_Fact x).length = 6 := rfl
theorem F_slice_22 : sliceB Try.prog 22 = some 52 := by kernel_rfl
theorem F_size_52 : sizeB Try.prog 52 = some 6 := by kernel_rfl
theorem F_field_52_0 : fieldB Try.prog 52 0 = some (0, 50) := by kernel_rfl
theorem F_size_50 : sizeB Try.prog 50 = some 5 := by kernel_rfl
theorem F_field_50_1 : fieldB Try.prog 50 1 = some (1, 48) := by kernel_rfl
theorem F_size_48 : sizeB Try.prog 48 = some 4 := by kernel_rfl
theorem F_array_48 : arrayB Try.prog 48 = some (4, 9) := by kernel_rfl
theorem F_size_9 : sizeB Try.prog 9 = some 1 := by kernel_rfl
theorem F_agg_9 : aggB Try.prog 9 = some false := by kernel_rfl
theorem F_call_5 : callB Try.prog 5 = true := by kernel_rfl
theorem F_zero_48 : zeroB Try.prog 48 = some [(str ([] : List UInt8)), (str ([] : List UInt8)), (str ([] : List UInt8)), (str ([] : List UInt8))] := by kernel_rfl
theorem F_zero_50 : zeroB Try.prog 50 = some [(Value.int .i64 0), (str ([] : List UInt8)), (str ([] : List UInt8)), (str ([] : List UInt8)), (str ([] : List UInt8))] := by kernel_rfl
theorem F_places_50 : placesB Try.prog 50 = some [(0, 1), (1, 4)] := by kernel_rfl
theorem F_zero_52 : zeroB Try.prog 52 = some [(Value.int .i64 0), (str ([] : List UInt8)), (str ([] : List UInt8)), (str ([] : List UInt8)), (str ([] : List UInt8)), (Value.int .i64 0)] := by kernel_rfl
theorem F_places_52 : placesB Try.prog 52 = some [(0, 5), (5, 1)] := by kernel_rfl
theorem F_call_66 : callB Try.prog 66 = true := by kernel_rfl
theorem F_agg_52 : aggB Try.prog 52 = some true := by kernel_rfl
theorem F_field_50_0 : fieldB Try.prog 50 0 = some (0, 2) := by kernel_rfl
theorem F_size_2 : sizeB Try.prog 2 = some 1 := by kernel_rfl
theorem F_agg_2 : aggB Try.prog 2 = some false := by kernel_rfl
theorem F_field_52_1 : fieldB Try.prog 52 1 = some (5, 2) := by kernel_rfl
theorem F_agg_48 : aggB Try.prog 48 = some true := by kernel_rfl
theorem F_call_67 : callB Try.prog 67 = true := by kernel_rfl
theorem F_call_47 : callB Try.prog 47 = true := by kernel_rfl
theorem F_zero_84 : zeroB Try.prog 84 = some [(Value.slice none 0 0)] := by kernel_rfl
theorem F_places_84 : placesB Try.prog 84 = some [(0, 1)] := by kernel_rfl
theorem F_field_84_0 : fieldB Try.prog 84 0 = some (0, 53) := by kernel_rfl
theorem F_size_53 : sizeB Try.prog 53 = some 1 := by kernel_rfl
theorem F_agg_53 : aggB Try.prog 53 = some false := by kernel_rfl
theorem F_slice_53 : sliceB Try.prog 53 = some 5 := by kernel_rfl
theorem F_size_5 : sizeB Try.prog 5 = some 1 := by kernel_rfl
theorem F_zero_5 : zeroB Try.prog 5 = some [(Value.int .u8 0)] := by kernel_rfl
theorem F_bytes_5 : bytesB Try.prog 5 = some 1 := by kernel_rfl
theorem F_call_48 : callB Try.prog 48 = true := by kernel_rfl
theorem F_slice_89 : sliceB Try.prog 89 = some 9 := by kernel_rfl
theorem F_zero1_5 : zero1B Try.prog 5 = some (.int .u8 0) := by kernel_rfl
theorem F_call_49 : callB Try.prog 49 = true := by kernel_rfl
theorem F_call_50 : callB Try.prog 50 = true := by kernel_rfl
theorem F_call_68 : callB Try.prog 68 = true := by kernel_rfl
theorem F_call_51 : callB Try.prog 51 = true := by kernel_rfl
theorem F_call_26 : callB Try.prog 26 = true := by kernel_rfl
theorem F_agg_5 : aggB Try.prog 5 = some false := by kernel_rfl
theorem F_call_6 : callB Try.prog 6 = true := by kernel_rfl
theorem F_slice_28 : sliceB Try.prog 28 = some 2 := by kernel_rfl
theorem F_zero_2 : zeroB Try.prog 2 = some [(Value.int .i64 0)] := by kernel_rfl
theorem F_bytes_2 : bytesB Try.prog 2 = some 8 := by kernel_rfl
theorem F_call_52 : callB Try.prog 52 = true := by kernel_rfl
theorem F_call_27 : callB Try.prog 27 = true := by kernel_rfl
theorem F_call_7 : callB Try.prog 7 = true := by kernel_rfl
theorem F_call_53 : callB Try.prog 53 = true := by kernel_rfl
theorem F_call_28 : callB Try.prog 28 = true := by kernel_rfl
theorem F_call_8 : callB Try.prog 8 = true := by kernel_rfl
theorem F_call_29 : callB Try.prog 29 = true := by kernel_rfl
theorem F_call_30 : callB Try.prog 30 = true := by kernel_rfl
theorem F_call_10 : callB Try.prog 10 = true := by kernel_rfl
theorem F_call_11 : callB Try.prog 11 = true := by kernel_rfl
theorem F_call_9 : callB Try.prog 9 = true := by kernel_rfl
theorem F_bytes_52 : bytesB Try.prog 52 = some 80 := by kernel_rfl
theorem F_call_31 : callB Try.prog 31 = true := by kernel_rfl
theorem F_agg_50 : aggB Try.prog 50 = some true := by kernel_rfl
theorem F_call_58 : callB Try.prog 58 = true := by kernel_rfl
theorem F_call_36 : callB Try.prog 36 = true := by kernel_rfl
theorem F_call_102 : callB Try.prog 102 = true := by kernel_rfl
theorem F_call_88 : callB Try.prog 88 = true := by kernel_rfl
theorem F_call_57 : callB Try.prog 57 = true := by kernel_rfl
theorem F_slice_97 : sliceB Try.prog 97 = some 3 := by kernel_rfl
theorem F_size_3 : sizeB Try.prog 3 = some 1 := by kernel_rfl
theorem F_zero_3 : zeroB Try.prog 3 = some [(Value.int .i64 0)] := by kernel_rfl
theorem F_agg_3 : aggB Try.prog 3 = some false := by kernel_rfl
theorem F_call_34 : callB Try.prog 34 = true := by kernel_rfl
theorem F_call_35 : callB Try.prog 35 = true := by kernel_rfl
theorem F_call_32 : callB Try.prog 32 = true := by kernel_rfl
theorem F_call_13 : callB Try.prog 13 = true := by kernel_rfl
theorem F_call_59 : callB Try.prog 59 = true := by kernel_rfl
theorem F_call_37 : callB Try.prog 37 = true := by kernel_rfl
theorem F_call_14 : callB Try.prog 14 = true := by kernel_rfl
theorem F_guard_52 : Try.prog.eqGuardType Try.prog.depth 52 = false := by kernel_rfl
theorem same_52 {x y : Operand} (x0 : Int) (x1 : List UInt8) (x2 : List UInt8) (x3 : List UInt8) (x4 : List UInt8) (x5 : Int) (y0 : Int) (y1 : List UInt8) (y2 : List UInt8) (y3 : List UInt8) (y4 : List UInt8) (y5 : Int) (w : World) : (do eqGuard .eql 52 x y (.agg #[(Value.int .i64 x0), (str x1), (str x2), (str x3), (str x4), (Value.int .i64 x5)]) (.agg #[(Value.int .i64 y0), (str y1), (str y2), (str y3), (str y4), (Value.int .i64 y5)]); binOp .eql 52 (.agg #[(Value.int .i64 x0), (str x1), (str x2), (str x3), (str x4), (Value.int .i64 x5)]) (.agg #[(Value.int .i64 y0), (str y1), (str y2), (str y3), (str y4), (Value.int .i64 y5)])).run Try.prog w = .ok (.bool (((x0 == y0) && (((x1 == y1) && ((x2 == y2) && ((x3 == y3) && ((x4 == y4) && true)))) && true)) && ((x5 == y5) && true))) w :=
  b_eql_agg F_guard_52 (eq_struct Try.underlying52 (by kernel_rfl) (eqf_cons rfl (part_agg F_agg_50 F_size_50) (part_agg F_agg_50 F_size_50) (eq_struct Try.underlying50 (by kernel_rfl) (eqf_cons rfl (part_cell F_agg_2 rfl) (part_cell F_agg_2 rfl) (eq_int Try.underlying2 _ _) (eqf_cons rfl (part_agg F_agg_48 F_size_48) (part_agg F_agg_48 F_size_48) (eq_arr4 F_array_48 F_size_9 (part_cell F_agg_9 rfl) (part_cell F_agg_9 rfl) (part_cell F_agg_9 rfl) (part_cell F_agg_9 rfl) (part_cell F_agg_9 rfl) (part_cell F_agg_9 rfl) (part_cell F_agg_9 rfl) (part_cell F_agg_9 rfl) (eq_str Try.underlying9 _ _) (eq_str Try.underlying9 _ _) (eq_str Try.underlying9 _ _) (eq_str Try.underlying9 _ _)) eqf_nil))) (eqf_cons rfl (part_cell F_agg_2 rfl) (part_cell F_agg_2 rfl) (eq_int Try.underlying2 _ _) eqf_nil))) w
theorem same_52_n {x y : Operand} (x0 : Int) (x1 : List UInt8) (x2 : List UInt8) (x3 : List UInt8) (x4 : List UInt8) (x5 : Int) (y0 : Int) (y1 : List UInt8) (y2 : List UInt8) (y3 : List UInt8) (y4 : List UInt8) (y5 : Int) (w : World) : (do eqGuard .neq 52 x y (.agg #[(Value.int .i64 x0), (str x1), (str x2), (str x3), (str x4), (Value.int .i64 x5)]) (.agg #[(Value.int .i64 y0), (str y1), (str y2), (str y3), (str y4), (Value.int .i64 y5)]); binOp .neq 52 (.agg #[(Value.int .i64 x0), (str x1), (str x2), (str x3), (str x4), (Value.int .i64 x5)]) (.agg #[(Value.int .i64 y0), (str y1), (str y2), (str y3), (str y4), (Value.int .i64 y5)])).run Try.prog w = .ok (.bool (!(((x0 == y0) && (((x1 == y1) && ((x2 == y2) && ((x3 == y3) && ((x4 == y4) && true)))) && true)) && ((x5 == y5) && true)))) w :=
  b_neq_agg F_guard_52 (eq_struct Try.underlying52 (by kernel_rfl) (eqf_cons rfl (part_agg F_agg_50 F_size_50) (part_agg F_agg_50 F_size_50) (eq_struct Try.underlying50 (by kernel_rfl) (eqf_cons rfl (part_cell F_agg_2 rfl) (part_cell F_agg_2 rfl) (eq_int Try.underlying2 _ _) (eqf_cons rfl (part_agg F_agg_48 F_size_48) (part_agg F_agg_48 F_size_48) (eq_arr4 F_array_48 F_size_9 (part_cell F_agg_9 rfl) (part_cell F_agg_9 rfl) (part_cell F_agg_9 rfl) (part_cell F_agg_9 rfl) (part_cell F_agg_9 rfl) (part_cell F_agg_9 rfl) (part_cell F_agg_9 rfl) (part_cell F_agg_9 rfl) (eq_str Try.underlying9 _ _) (eq_str Try.underlying9 _ _) (eq_str Try.underlying9 _ _) (eq_str Try.underlying9 _ _)) eqf_nil))) (eqf_cons rfl (part_cell F_agg_2 rfl) (part_cell F_agg_2 rfl) (eq_int Try.underlying2 _ _) eqf_nil))) w
theorem F_call_12 : callB Try.prog 12 = true := by kernel_rfl
theorem ossuarylaw09_Light_R.spec (K : Nat) (sv0 : Value) (A0 : HP) (l0 : List Api_Fact) (hA0 : IsRd A0 sv0 l0.length 6 (fl enc_Api_Fact l0)) (r : Bool) (H : ossuarylaw09_Light_R K l0 = some r) : FnSpec Try.prog 5 [sv0] [A0] (fun v M => v = (bool r) ∧ M = [A0]) := by
 unfold ossuarylaw09_Light_R at H
 refine spec_of Try.func5 rfl 28 rfl (Nat.le_of_ble_eq_true rfl) fun F w0 => ?_
 show Ent (St 28 w0 F [(0,sv0)] [A0]) _
 refine ent_seq (ent_region (ent_value (ov_assign rfl) rfl rfl rfl (ent_nil (ent_seq (ent_seq (ent_region (ent_value (ov_move rfl) rfl rfl rfl (ent_value (ov_len 0 rfl F_slice_22 rfl hA0) rfl rfl rfl (ent_value (ov_bin rfl rfl (b_gtr _ _ _)) rfl rfl rfl (ent_nil ?_))))))))))
 refine htT H (fun c304 H => ?_) fun c304 H => ?_
 ·refine ent_cond_true rfl (decide_eq_true c304) (ent_seq (ent_region (ent_value (ov_assign rfl) rfl rfl rfl (ent_nil (ent_retc ?_)))))
  cases H
  refine ent_pick [0] (by decide) rfl ?_
  exact ret_tmp rfl rfl ⟨rfl,rfl⟩
 refine ent_cond_false rfl (decide_eq_false c304) (ent_skip (ent_seq (ent_seq (ent_region (ent_value (ov_assign rfl) rfl rfl rfl (ent_nil (ent_block ?_)))))))
 refine ent_loop (fun k a w => ∃ i24,ossuarylaw09_Light_R_l0 K l0 k i24 = some r ∧ St 28 w0 F [(0,sv0),(3,I i24)] [A0] a w) K ?_ ?_
 ·exact ent_fin [0] (by decide) rfl (sub_cons (t := 0) rfl (sub_cons (t := 3) rfl (sub_nil _))) fun a w h => ⟨_,H,h⟩
 ·refine fun k => ent_exi fun i24 => ent_and fun H48 => ?_
  cases k with
  | zero => exact absurd H48 (by simp [ossuarylaw09_Light_R_l0])
  | succ k =>
   rw [ossuarylaw09_Light_R_l0] at H48
   refine ent_seq (ent_seq (ent_region (ent_value (ov_move rfl) rfl rfl rfl (ent_value (ov_move rfl) rfl rfl rfl (ent_value (ov_len 0 rfl F_slice_22 rfl hA0) rfl rfl rfl (ent_value (ov_bin rfl rfl (b_lss _ _ _)) rfl rfl rfl (ent_nil ?_)))))))
   refine htF H48 (fun c552 H48 => ?_) fun c552 H48 => ?_
   ·refine ent_cond_false rfl (decide_eq_false c552) (ent_exit (ent_seq (ent_region (ent_value (ov_assign rfl) rfl rfl rfl (ent_nil (ent_retc ?_))))))
    cases H48
    refine ent_pick [0] (by decide) rfl ?_
    exact ret_tmp rfl rfl ⟨rfl,rfl⟩
   refine ent_cond_true rfl (decide_eq_true c552) (ent_skip ?_)
   obtain ⟨x12,H50,H48⟩ := Option.bind_eq_some_iff.1 H48
   refine ent_seq_cut (fun a w => ∃ v12,x12 = Sum.inl v12 ∧ St 28 w0 F [(0,sv0),(3,I i24)] [A0] a w) ?_ ?_
   ·refine ent_block (ent_seq (ent_region (ent_value (ov_assign rfl) rfl rfl rfl (ent_nil (ent_block ?_)))))
    refine ent_loop (fun k a w => ∃ i28,ossuarylaw09_Light_R_l1 K l0 i24 k i28 = some x12 ∧ St 28 w0 F [(0,sv0),(3,I i24),(4,I i28)] [A0] a w) K ?_ ?_
    ·exact ent_fin [0] (by decide) rfl (sub_cons (t := 0) rfl (sub_cons (t := 3) rfl (sub_cons (t := 4) rfl (sub_nil _)))) fun a w h => ⟨_,H50,h⟩
    ·refine fun k => ent_exi fun i28 => ent_and fun H51 => ?_
     cases k with
     | zero => exact absurd H51 (by simp [ossuarylaw09_Light_R_l1])
     | succ k =>
      rw [ossuarylaw09_Light_R_l1] at H51
      refine ent_seq (ent_seq (ent_region (ent_value (ov_move rfl) rfl rfl rfl (ent_value (ov_bin rfl rfl (b_lss _ _ _)) rfl rfl rfl (ent_nil ?_)))))
      refine htF H51 (fun c596 H51 => ?_) fun c596 H51 => ?_
      ·refine ent_cond_false rfl (decide_eq_false c596) (ent_exit ?_)
       cases H51
       exact ent_fin [0] (by decide) rfl (sub_cons (t := 0) rfl (sub_cons (t := 3) rfl (sub_nil _))) fun a w h => ⟨_,rfl,h⟩
      refine ent_cond_true rfl (decide_eq_true c596) (ent_skip (ent_seq (ent_block (ent_seq (ent_region (ent_value (ov_move rfl) rfl rfl rfl (ent_value (ov_move rfl) rfl rfl rfl (ent_value (ov_move rfl) rfl rfl rfl ?_))))))))
      obtain ⟨c601,H51⟩ := gdT H51
      refine ent_value (ov_indexAddr (sz := 5) 0 rfl rfl F_slice_22 F_size_52 rfl hA0 c601 c552) rfl rfl rfl (ent_value (ov_fieldAddrE (sz := 4) (k0 := i24.toNat * 6) (off := 0) 0 rfl F_field_52_0 F_size_50 rfl hA0 (fl_pos enc_Api_Fact_len (ix_lt c601 c552))) rfl rfl rfl (ent_value (ov_fieldAddrE (sz := 3) (k0 := i24.toNat * 6 + 0) (off := 1) 0 rfl F_field_50_1 F_size_48 rfl hA0 (fl_pos enc_Api_Fact_len (ix_lt c601 c552))) rfl rfl rfl ?_))
      obtain ⟨c602,H51⟩ := gdT H51
      obtain ⟨c603,H51⟩ := gdT H51
      refine ent_value (ov_indexArrE 0 rfl rfl F_array_48 F_size_9 rfl hA0 (fl_pos enc_Api_Fact_len (ix_lt c601 c552)) c602 c603) rfl rfl rfl ?_
      refine ent_value (ov_load (v := (str ([((l0.getD i24.toNat z_Api_Fact).Key).Dims_0,((l0.getD i24.toNat z_Api_Fact).Key).Dims_1,((l0.getD i24.toNat z_Api_Fact).Key).Dims_2,((l0.getD i24.toNat z_Api_Fact).Key).Dims_3].getD i28.toNat []))) rfl F_agg_9 (reads_rd (i := 0) rfl hA0 (by simp) (fl_readA enc_Api_Fact_len (ix_lt c601 c552) (fl_sub (enc := eS) (z := []) (ys := [((l0.getD i24.toNat z_Api_Fact).Key).Dims_0,((l0.getD i24.toNat z_Api_Fact).Key).Dims_1,((l0.getD i24.toNat z_Api_Fact).Key).Dims_2,((l0.getD i24.toNat z_Api_Fact).Key).Dims_3]) eS_len rfl (ix_lt c602 c603))))) rfl rfl rfl ?_
      refine ent_value (ov_lenS rfl Try.underlying9) rfl rfl rfl (ent_value (ov_bin rfl rfl (b_gtr _ _ _)) rfl rfl rfl (ent_nil ?_))
      refine htT H51 (fun c604 H51 => ?_) fun c604 H51 => ?_
      ·refine ent_cond_true rfl (decide_eq_true c604) (ent_seq (ent_region (ent_value (ov_assign rfl) rfl rfl rfl (ent_nil (ent_retc ?_)))))
       cases H51
       have H52 := Option.some.inj (show some _ = some _ from H48)
       cases H52
       refine ent_pick [0] (by decide) rfl ?_
       exact ret_tmp rfl rfl ⟨rfl,rfl⟩
      refine ent_cond_false rfl (decide_eq_false c604) (ent_skip (ent_region (ent_value (ov_move rfl) rfl rfl rfl (ent_value (ov_bin rfl rfl (b_add _ _ _) ) rfl rfl rfl (ent_value (ov_assign rfl) rfl rfl rfl (ent_nil ?_))))))
      exact ent_fin [0] (by decide) rfl (sub_cons (t := 0) rfl (sub_cons (t := 3) rfl (sub_cons (t := 4) rfl (sub_nil _)))) fun a w h => ⟨k,Nat.lt_succ_self k,_,H51,h⟩
   ·refine ent_exi fun v12 => ent_and fun e_ => ?_
    subst e_
    rw [cas_inl] at H48
    refine ent_region (ent_value (ov_move rfl) rfl rfl rfl (ent_value (ov_bin rfl rfl (b_add _ _ _) ) rfl rfl rfl (ent_value (ov_assign rfl) rfl rfl rfl (ent_nil ?_))))
    exact ent_fin [0] (by decide) rfl (sub_cons (t := 0) rfl (sub_cons (t := 3) rfl (sub_nil _))) fun a w h => ⟨k,Nat.lt_succ_self k,_,H48,h⟩

theorem fact_many.spec (a0 : Int) (r : Bool) (H : fact_many a0 = r) : FnSpec Try.prog 66 [I a0] [] (fun v M => v = (bool r) ∧ M = []) := by
 unfold fact_many at H
 refine spec_of Try.func66 rfl 9 rfl (Nat.le_of_ble_eq_true rfl) fun F w0 => ?_
 show Ent (St 9 w0 F [(0,I a0)] []) _
 refine ent_seq (ent_region (ent_value (ov_assign rfl) rfl rfl rfl (ent_nil (ent_seq (ent_region (ent_value (ov_move rfl) rfl rfl rfl (ent_value (ov_bin rfl rfl (b_geq _ _ _)) rfl rfl rfl (ent_value (ov_move rfl) rfl rfl rfl ?_))))))))
 refine htF H (fun c2 H => ?_) fun c2 H => ?_
 ·refine ent_off rfl rfl rfl (decide_eq_false c2) rfl rfl ?_
  refine ent_off rfl rfl rfl (decide_eq_false c2) rfl rfl ?_
  refine ent_value (ov_pick rfl rfl rfl (pick_f (decide_eq_false c2))) rfl rfl rfl (ent_value (ov_assign rfl) rfl rfl rfl (ent_nil (ent_retc ?_)))
  cases H
  refine ent_pick [] (by decide) rfl ?_
  exact ret_tmp rfl rfl ⟨rfl,rfl⟩
 refine ent_value_on (ov_move rfl) rfl rfl rfl (decide_eq_true c2) rfl rfl ?_
 refine ent_value_on (ov_bin rfl rfl (b_leq _ _ _)) rfl rfl rfl (decide_eq_true c2) rfl rfl ?_
 refine ent_value (ov_pick rfl rfl rfl (pick_t (decide_eq_true c2))) rfl rfl rfl (ent_value (ov_assign rfl) rfl rfl rfl (ent_nil (ent_retc ?_)))
 cases H
 refine ent_pick [] (by decide) rfl ?_
 exact ret_tmp rfl rfl ⟨rfl,rfl⟩

theorem fact_Check.spec (K : Nat) (a0_0 : Int) (a0_1 : List UInt8) (a0_2 : List UInt8) (a0_3 : List UInt8) (a0_4 : List UInt8) (a0_5 a1 r : Int) (H : fact_Check K a0_0 a0_1 a0_2 a0_3 a0_4 a0_5 a1 = some r) : FnSpec Try.prog 67 [agg #[I a0_0,str a0_1,str a0_2,str a0_3,str a0_4,I a0_5],I a1] [] (fun v M => v = (I r) ∧ M = []) := by
 unfold fact_Check at H
 refine spec_of Try.func67 rfl 52 rfl (Nat.le_of_ble_eq_true rfl) fun F w0 => ?_
 show Ent (St 52 w0 F [(0,agg #[I a0_0,str a0_1,str a0_2,str a0_3,str a0_4,I a0_5]),(1,I a1)] []) _
 refine ent_seq (ent_region ?_)
 refine ent_op (ot_box (cs := [I a0_0,str a0_1,str a0_2,str a0_3,str a0_4,I a0_5]) rfl rfl) rfl rfl rfl ?_
 rintro _ _ ⟨b2,rfl,rfl⟩
 refine ent_value (ov_assign rfl) rfl rfl rfl (ent_nil (ent_seq (ent_block (ent_seq (ent_region (ent_value (ov_move rfl) rfl rfl rfl ?_))))))
 obtain ⟨x4,h4,H⟩ := thn_elim H
 refine ent_op (ot_call0 (first := []) (cap := []) (xs := [.tmp 8]) rfl rfl F_call_66 rfl (fact_many.spec a1 _ h4)) rfl rfl rfl ?_
 rintro _ _ ⟨rfl,rfl⟩
 refine ent_value (ov_un rfl (u_not _)) rfl rfl rfl (ent_value (ov_assign rfl) rfl rfl rfl (ent_nil ?_))
 refine htT H (fun c80 H => ?_) fun c80 H => ?_
 ·refine ent_cond_true rfl c80 (ent_seq (ent_region (ent_value (ov_assign rfl) rfl rfl rfl (ent_nil (ent_retc ?_)))))
  cases H
  refine ent_pick [] (by decide) rfl ?_
  exact ret_tmp rfl rfl ⟨rfl,rfl⟩
 refine ent_cond_false rfl (Bool.eq_false_iff.2 c80) (ent_seq (ent_region (ent_value (ov_fieldAddr (sz := 4) (o := 0) rfl F_field_52_0 F_size_50) rfl rfl rfl (ent_value (ov_fieldAddr (sz := 0) (o := 0) rfl F_field_50_0 F_size_2) rfl rfl rfl (ent_value (ov_load (v := (I a0_0)) rfl F_agg_2 (reads_box1 (i := 0) rfl rfl)) rfl rfl rfl (ent_value (ov_bin rfl rfl (b_lss _ _ _)) rfl rfl rfl (ent_value (ov_move rfl) rfl rfl rfl ?_)))))))
 refine htT H (fun c81 H => ?_) fun c81 H => ?_
 ·refine ent_off rfl rfl rfl (decide_eq_true c81) rfl rfl ?_
  refine ent_off rfl rfl rfl (decide_eq_true c81) rfl rfl ?_
  refine ent_off rfl rfl rfl (decide_eq_true c81) rfl rfl ?_
  refine ent_off rfl rfl rfl (decide_eq_true c81) rfl rfl ?_
  refine ent_value (ov_pick rfl rfl rfl (pick_t (decide_eq_true c81))) rfl rfl rfl (ent_value (ov_move rfl) rfl rfl rfl ?_)
  refine ent_off rfl rfl rfl rfl rfl rfl ?_
  refine ent_off rfl rfl rfl rfl rfl rfl ?_
  refine ent_off rfl rfl rfl rfl rfl rfl ?_
  refine ent_value (ov_pick rfl rfl rfl rfl) rfl rfl rfl (ent_value (ov_move rfl) rfl rfl rfl ?_)
  refine ent_off rfl rfl rfl rfl rfl rfl ?_
  refine ent_off rfl rfl rfl rfl rfl rfl ?_
  refine ent_off rfl rfl rfl rfl rfl rfl ?_
  refine ent_value (ov_pick rfl rfl rfl rfl) rfl rfl rfl (ent_value (ov_assign rfl) rfl rfl rfl (ent_nil (ent_cond_true rfl rfl (ent_seq (ent_region (ent_value (ov_assign rfl) rfl rfl rfl (ent_nil (ent_retc ?_))))))))
  cases H
  refine ent_pick [] (by decide) rfl ?_
  exact ret_tmp rfl rfl ⟨rfl,rfl⟩
 refine ent_value_on (ov_fieldAddr (sz := 4) (o := 0) rfl F_field_52_0 F_size_50) rfl rfl rfl (decide_eq_false c81) rfl rfl ?_
 refine ent_value_on (ov_fieldAddr (sz := 0) (o := 0) rfl F_field_50_0 F_size_2) rfl rfl rfl (decide_eq_false c81) rfl rfl ?_
 refine ent_value_on (ov_load (v := (I a0_0)) rfl F_agg_2 (reads_box1 (i := 0) rfl rfl)) rfl rfl rfl (decide_eq_false c81) rfl rfl ?_
 refine ent_value_on (ov_bin rfl rfl (b_gtr _ _ _)) rfl rfl rfl (decide_eq_false c81) rfl rfl ?_
 refine ent_value (ov_pick rfl rfl rfl (pick_f (decide_eq_false c81))) rfl rfl rfl (ent_value (ov_move rfl) rfl rfl rfl ?_)
 refine htT H (fun c82 H => ?_) fun c82 H => ?_
 ·refine ent_off rfl rfl rfl (decide_eq_true c82) rfl rfl ?_
  refine ent_off rfl rfl rfl (decide_eq_true c82) rfl rfl ?_
  refine ent_off rfl rfl rfl (decide_eq_true c82) rfl rfl ?_
  refine ent_value (ov_pick rfl rfl rfl (pick_t (decide_eq_true c82))) rfl rfl rfl (ent_value (ov_move rfl) rfl rfl rfl ?_)
  refine ent_off rfl rfl rfl rfl rfl rfl ?_
  refine ent_off rfl rfl rfl rfl rfl rfl ?_
  refine ent_off rfl rfl rfl rfl rfl rfl ?_
  refine ent_value (ov_pick rfl rfl rfl rfl) rfl rfl rfl (ent_value (ov_assign rfl) rfl rfl rfl (ent_nil (ent_cond_true rfl rfl (ent_seq (ent_region (ent_value (ov_assign rfl) rfl rfl rfl (ent_nil (ent_retc ?_))))))))
  cases H
  refine ent_pick [] (by decide) rfl ?_
  exact ret_tmp rfl rfl ⟨rfl,rfl⟩
 refine ent_value_on (ov_fieldAddr (sz := 0) (o := 0) rfl F_field_52_1 F_size_2) rfl rfl rfl (decide_eq_false c82) rfl rfl ?_
 refine ent_value_on (ov_load (v := (I a0_5)) rfl F_agg_2 (reads_box1 (i := 0) rfl rfl)) rfl rfl rfl (decide_eq_false c82) rfl rfl ?_
 refine ent_value_on (ov_bin rfl rfl (b_gtr _ _ _)) rfl rfl rfl (decide_eq_false c82) rfl rfl ?_
 refine ent_value (ov_pick rfl rfl rfl (pick_f (decide_eq_false c82))) rfl rfl rfl (ent_value (ov_move rfl) rfl rfl rfl ?_)
 refine htT H (fun c83 H => ?_) fun c83 H => ?_
 ·refine ent_off rfl rfl rfl (decide_eq_true c83) rfl rfl ?_
  refine ent_off rfl rfl rfl (decide_eq_true c83) rfl rfl ?_
  refine ent_off rfl rfl rfl (decide_eq_true c83) rfl rfl ?_
  refine ent_value (ov_pick rfl rfl rfl (pick_t (decide_eq_true c83))) rfl rfl rfl (ent_value (ov_assign rfl) rfl rfl rfl (ent_nil (ent_cond_true rfl rfl (ent_seq (ent_region (ent_value (ov_assign rfl) rfl rfl rfl (ent_nil (ent_retc ?_))))))))
  cases H
  refine ent_pick [] (by decide) rfl ?_
  exact ret_tmp rfl rfl ⟨rfl,rfl⟩
 refine ent_value_on (ov_fieldAddr (sz := 0) (o := 0) rfl F_field_52_1 F_size_2) rfl rfl rfl (decide_eq_false c83) rfl rfl ?_
 refine ent_value_on (ov_load (v := (I a0_5)) rfl F_agg_2 (reads_box1 (i := 0) rfl rfl)) rfl rfl rfl (decide_eq_false c83) rfl rfl ?_
 refine ent_value_on (ov_bin rfl rfl (b_lss _ _ _)) rfl rfl rfl (decide_eq_false c83) rfl rfl ?_
 refine ent_value (ov_pick rfl rfl rfl (pick_f (decide_eq_false c83))) rfl rfl rfl (ent_value (ov_assign rfl) rfl rfl rfl (ent_nil ?_))
 refine htT H (fun c84 H => ?_) fun c84 H => ?_
 ·refine ent_cond_true rfl (decide_eq_true c84) (ent_seq (ent_region (ent_value (ov_assign rfl) rfl rfl rfl (ent_nil (ent_retc ?_)))))
  cases H
  refine ent_pick [] (by decide) rfl ?_
  exact ret_tmp rfl rfl ⟨rfl,rfl⟩
 refine ent_cond_false rfl (decide_eq_false c84) (ent_skip (ent_seq (ent_seq (ent_region (ent_value (ov_fieldAddr (sz := 4) (o := 0) rfl F_field_52_0 F_size_50) rfl rfl rfl (ent_value (ov_fieldAddr (sz := 3) (o := 0) rfl F_field_50_1 F_size_48) rfl rfl rfl (ent_value (ov_load_agg (vs := [str a0_1,str a0_2,str a0_3,str a0_4]) rfl F_agg_48 F_size_48 (reads_boxN (i := 0) rfl rfl)) rfl rfl rfl (ent_value (ov_move rfl) rfl rfl rfl (ent_nil (ent_block ?_))))))))))
 refine ent_loop (fun k a w => ∃ i5,fact_Check_l0 K a0_1 a0_2 a0_3 a0_4 a1 k i5 = some r ∧ St 52 w0 F [(1,I a1),(34,agg #[str a0_1,str a0_2,str a0_3,str a0_4]),(35,I i5)] [] a w) K ?_ ?_
 ·exact ent_fin [] (by decide) rfl (sub_cons (t := 1) rfl (sub_cons (t := 34) rfl (sub_cons (t := 35) rfl (sub_nil _)))) fun a w h => ⟨_,H,h⟩
 ·refine fun k => ent_exi fun i5 => ent_and fun H4 => ?_
  cases k with
  | zero => exact absurd H4 (by simp [fact_Check_l0])
  | succ k =>
   rw [fact_Check_l0] at H4
   refine ent_seq (ent_region (ent_value (ov_bin rfl rfl (b_lss _ _ _)) rfl rfl rfl (ent_nil (ent_seq ?_))))
   refine htF H4 (fun c138 H4 => ?_) fun c138 H4 => ?_
   ·refine ent_cond_false rfl (decide_eq_false c138) (ent_exit (ent_seq (ent_region (ent_value (ov_assign rfl) rfl rfl rfl (ent_nil (ent_retc ?_))))))
    cases H4
    refine ent_pick [] (by decide) rfl ?_
    exact ret_tmp rfl rfl ⟨rfl,rfl⟩
   refine ent_cond_true rfl (decide_eq_true c138) (ent_skip (ent_seq (ent_block (ent_seq (ent_region (ent_value (ov_move rfl) rfl rfl rfl ?_))))))
   obtain ⟨c144,H4⟩ := gdT H4
   obtain ⟨c145,H4⟩ := gdT H4
   refine ent_value (ov_indexAgg rfl rfl F_array_48 F_size_9 F_agg_9 c144 c145 (cases4 (fun i_ => #[str a0_1,str a0_2,str a0_3,str a0_4][i_]? = some (str ([a0_1,a0_2,a0_3,a0_4].getD i_ []))) (ix_lt c144 c145) rfl rfl rfl rfl)) rfl rfl rfl ?_
   refine ent_value (ov_assign rfl) rfl rfl rfl (ent_value (ov_assign rfl) rfl rfl rfl (ent_nil (ent_seq (ent_region (ent_value (ov_move rfl) rfl rfl rfl (ent_value (ov_lenS rfl Try.underlying9) rfl rfl rfl (ent_value (ov_bin rfl rfl (b_gtr _ _ _)) rfl rfl rfl (ent_value (ov_move rfl) rfl rfl rfl ?_))))))))
   refine htT H4 (fun c146 H4 => ?_) fun c146 H4 => ?_
   ·refine ent_off rfl rfl rfl (decide_eq_true c146) rfl rfl ?_
    refine ent_off rfl rfl rfl (decide_eq_true c146) rfl rfl ?_
    refine ent_off rfl rfl rfl (decide_eq_true c146) rfl rfl ?_
    refine ent_off rfl rfl rfl (decide_eq_true c146) rfl rfl ?_
    refine ent_offu rfl rfl rfl rfl rfl ?_
    refine ent_offu rfl rfl rfl rfl rfl ?_
    refine ent_off rfl rfl rfl (decide_eq_true c146) rfl rfl ?_
    refine ent_value (ov_pick rfl rfl rfl (pick_t (decide_eq_true c146))) rfl rfl rfl (ent_nil (ent_cond_true rfl rfl (ent_seq (ent_region (ent_value (ov_assign rfl) rfl rfl rfl (ent_nil (ent_retc ?_)))))))
    cases H4
    refine ent_pick [] (by decide) rfl ?_
    exact ret_tmp rfl rfl ⟨rfl,rfl⟩
   refine ent_value_on (ov_move rfl) rfl rfl rfl (decide_eq_false c146) rfl rfl ?_
   refine ent_value_on (ov_move rfl) rfl rfl rfl (decide_eq_false c146) rfl rfl ?_
   refine ent_value_on (ov_bin rfl rfl (b_geq _ _ _)) rfl rfl rfl (decide_eq_false c146) rfl rfl ?_
   refine ent_value_on (ov_move rfl) rfl rfl rfl (decide_eq_false c146) rfl rfl ?_
   refine htF H4 (fun c147 H4 => ?_) fun c147 H4 => ?_
   ·refine ent_off rfl rfl rfl (decide_eq_false c147) rfl rfl ?_
    refine ent_off rfl rfl rfl (decide_eq_false c147) rfl rfl ?_
    refine ent_value_on (ov_pick rfl rfl rfl (pick_f (decide_eq_false c147))) rfl rfl rfl (decide_eq_false c146) rfl rfl ?_
    refine ent_value (ov_pick rfl rfl rfl (pick_f (decide_eq_false c146))) rfl rfl rfl (ent_nil (ent_cond_false rfl rfl (ent_skip (ent_region (ent_value (ov_bin rfl rfl (b_add _ _ _) ) rfl rfl rfl (ent_value (ov_move rfl) rfl rfl rfl (ent_nil ?_)))))))
    exact ent_fin [] (by decide) rfl (sub_cons (t := 1) rfl (sub_cons (t := 34) rfl (sub_cons (t := 35) rfl (sub_nil _)))) fun a w h => ⟨k,Nat.lt_succ_self k,_,H4,h⟩
   refine ent_value_on (ov_move rfl) rfl rfl rfl (decide_eq_true c147) rfl rfl ?_
   refine ent_value_on (ov_bin rfl rfl (b_neq_str _ _)) rfl rfl rfl (decide_eq_true c147) rfl rfl ?_
   refine ent_value_on (ov_pick rfl rfl rfl (pick_t (decide_eq_true c147))) rfl rfl rfl (decide_eq_false c146) rfl rfl ?_
   refine ent_value (ov_pick rfl rfl rfl (pick_f (decide_eq_false c146))) rfl rfl rfl (ent_nil ?_)
   refine htT H4 (fun c148 H4 => ?_) fun c148 H4 => ?_
   ·refine ent_cond_true rfl (nb_t c148) (ent_seq (ent_region (ent_value (ov_assign rfl) rfl rfl rfl (ent_nil (ent_retc ?_)))))
    cases H4
    refine ent_pick [] (by decide) rfl ?_
    exact ret_tmp rfl rfl ⟨rfl,rfl⟩
   refine ent_cond_false rfl (nb_f c148) (ent_skip (ent_region (ent_value (ov_bin rfl rfl (b_add _ _ _) ) rfl rfl rfl (ent_value (ov_move rfl) rfl rfl rfl (ent_nil ?_)))))
   exact ent_fin [] (by decide) rfl (sub_cons (t := 1) rfl (sub_cons (t := 34) rfl (sub_cons (t := 35) rfl (sub_nil _)))) fun a w h => ⟨k,Nat.lt_succ_self k,_,H4,h⟩

theorem fact_All_R.spec (K : Nat) (sv0 : Value) (A0 : HP) (l0 : List Api_Fact) (a1 : Int) (hA0 : IsRd A0 sv0 l0.length 6 (fl enc_Api_Fact l0)) (r : (Int × Int)) (H : fact_All_R K l0 a1 = some r) : FnSpec Try.prog 47 [sv0,I a1] [A0] (fun v M => v = (tU #[I r.1,I r.2]) ∧ M = [A0]) := by
 unfold fact_All_R at H
 refine spec_of Try.func47 rfl 37 rfl (Nat.le_of_ble_eq_true rfl) fun F w0 => ?_
 show Ent (St 37 w0 F [(0,sv0),(1,I a1)] [A0]) _
 refine ent_seq (ent_region (ent_value (ov_assign rfl) rfl rfl rfl (ent_value (ov_assign rfl) rfl rfl rfl (ent_nil (ent_seq (ent_seq (ent_region (ent_value (ov_move rfl) rfl rfl rfl ?_))))))))
 obtain ⟨x16,h16,H⟩ := thn_elim H
 refine ent_op (ot_call0 (first := []) (cap := []) (xs := [.tmp 9]) rfl rfl F_call_66 rfl (fact_many.spec a1 _ h16)) rfl rfl rfl ?_
 rintro _ _ ⟨rfl,rfl⟩
 refine ent_value (ov_un rfl (u_not _)) rfl rfl rfl (ent_value (ov_move rfl) rfl rfl rfl ?_)
 refine htT H (fun c42 H => ?_) fun c42 H => ?_
 ·refine ent_off rfl rfl rfl c42 rfl rfl ?_
  refine ent_off rfl rfl rfl c42 rfl rfl ?_
  refine ent_off rfl rfl rfl c42 rfl rfl ?_
  refine ent_value (ov_pick rfl rfl rfl (pick_t c42)) rfl rfl rfl (ent_value (ov_move rfl) rfl rfl rfl ?_)
  refine ent_off rfl rfl rfl rfl rfl rfl ?_
  refine ent_off rfl rfl rfl rfl rfl rfl ?_
  refine ent_off rfl rfl rfl rfl rfl rfl ?_
  refine ent_value (ov_pick rfl rfl rfl rfl) rfl rfl rfl (ent_nil (ent_cond_true rfl rfl (ent_seq (ent_region (ent_value (ov_assign rfl) rfl rfl rfl (ent_value (ov_assign rfl) rfl rfl rfl (ent_nil (ent_retc ?_))))))))
  cases H
  refine ent_pick [0] (by decide) rfl ?_
  exact ret_mem (vs := [I 1,I 0]) rfl ⟨rfl,⟨rfl,trivial⟩⟩ _ rfl ⟨rfl,rfl⟩
 refine ent_value_on (ov_move rfl) rfl rfl rfl (Bool.eq_false_iff.2 c42) rfl rfl ?_
 refine ent_value_on (ov_len 0 rfl F_slice_22 rfl hA0) rfl rfl rfl (Bool.eq_false_iff.2 c42) rfl rfl ?_
 refine ent_value_on (ov_bin rfl rfl (b_eql _ _ _)) rfl rfl rfl (Bool.eq_false_iff.2 c42) rfl rfl ?_
 refine ent_value (ov_pick rfl rfl rfl (pick_f (Bool.eq_false_iff.2 c42))) rfl rfl rfl (ent_value (ov_move rfl) rfl rfl rfl ?_)
 refine htT H (fun c43 H => ?_) fun c43 H => ?_
 ·refine ent_off rfl rfl rfl (eq_t c43) rfl rfl ?_
  refine ent_off rfl rfl rfl (eq_t c43) rfl rfl ?_
  refine ent_off rfl rfl rfl (eq_t c43) rfl rfl ?_
  refine ent_value (ov_pick rfl rfl rfl (pick_t (eq_t c43))) rfl rfl rfl (ent_nil (ent_cond_true rfl rfl (ent_seq (ent_region (ent_value (ov_assign rfl) rfl rfl rfl (ent_value (ov_assign rfl) rfl rfl rfl (ent_nil (ent_retc ?_))))))))
  cases H
  refine ent_pick [0] (by decide) rfl ?_
  exact ret_mem (vs := [I 1,I 0]) rfl ⟨rfl,⟨rfl,trivial⟩⟩ _ rfl ⟨rfl,rfl⟩
 refine ent_value_on (ov_move rfl) rfl rfl rfl (eq_f c43) rfl rfl ?_
 refine ent_value_on (ov_len 0 rfl F_slice_22 rfl hA0) rfl rfl rfl (eq_f c43) rfl rfl ?_
 refine ent_value_on (ov_bin rfl rfl (b_gtr _ _ _)) rfl rfl rfl (eq_f c43) rfl rfl ?_
 refine ent_value (ov_pick rfl rfl rfl (pick_f (eq_f c43))) rfl rfl rfl (ent_nil ?_)
 refine htT H (fun c44 H => ?_) fun c44 H => ?_
 ·refine ent_cond_true rfl (decide_eq_true c44) (ent_seq (ent_region (ent_value (ov_assign rfl) rfl rfl rfl (ent_value (ov_assign rfl) rfl rfl rfl (ent_nil (ent_retc ?_))))))
  cases H
  refine ent_pick [0] (by decide) rfl ?_
  exact ret_mem (vs := [I 1,I 0]) rfl ⟨rfl,⟨rfl,trivial⟩⟩ _ rfl ⟨rfl,rfl⟩
 refine ent_cond_false rfl (decide_eq_false c44) (ent_skip (ent_seq (ent_seq (ent_region (ent_value (ov_move rfl) rfl rfl rfl (ent_value (ov_len 0 rfl F_slice_22 rfl hA0) rfl rfl rfl (ent_value (ov_move rfl) rfl rfl rfl (ent_nil (ent_block ?_)))))))))
 refine ent_loop (fun k a w => ∃ i6,fact_All_R_l0 K l0 a1 k i6 = some r ∧ St 37 w0 F [(1,I a1),(22,sv0),(23,I (l0.length : Int)),(24,I i6)] [A0] a w) K ?_ ?_
 ·exact ent_fin [0] (by decide) rfl (sub_cons (t := 1) rfl (sub_cons (t := 22) rfl (sub_cons (t := 23) rfl (sub_cons (t := 24) rfl (sub_nil _))))) fun a w h => ⟨_,H,h⟩
 ·refine fun k => ent_exi fun i6 => ent_and fun H4 => ?_
  let C0_ : List Value := [I (((l0.getD i6.toNat z_Api_Fact).Key).Hour),str (((l0.getD i6.toNat z_Api_Fact).Key).Dims_0),str (((l0.getD i6.toNat z_Api_Fact).Key).Dims_1),str (((l0.getD i6.toNat z_Api_Fact).Key).Dims_2),str (((l0.getD i6.toNat z_Api_Fact).Key).Dims_3),I ((l0.getD i6.toNat z_Api_Fact).Value)]
  cases k with
  | zero => exact absurd H4 (by simp [C0_,fact_All_R_l0])
  | succ k =>
   rw [fact_All_R_l0] at H4
   refine ent_seq (ent_region (ent_value (ov_bin rfl rfl (b_lss _ _ _)) rfl rfl rfl (ent_nil (ent_seq ?_))))
   refine htF H4 (fun c72 H4 => ?_) fun c72 H4 => ?_
   ·refine ent_cond_false rfl (decide_eq_false c72) (ent_exit (ent_seq (ent_region (ent_value (ov_assign rfl) rfl rfl rfl (ent_value (ov_assign rfl) rfl rfl rfl (ent_nil (ent_retc ?_)))))))
    cases H4
    refine ent_pick [0] (by decide) rfl ?_
    exact ret_mem (vs := [I 0,I 0]) rfl ⟨rfl,⟨rfl,trivial⟩⟩ _ rfl ⟨rfl,rfl⟩
   refine ent_cond_true rfl (decide_eq_true c72) (ent_skip (ent_seq (ent_block (ent_seq (ent_region (ent_value (ov_move rfl) rfl rfl rfl ?_))))))
   obtain ⟨c75,H4⟩ := gdT H4
   refine ent_value (ov_indexAddr (sz := 5) 0 rfl rfl F_slice_22 F_size_52 rfl hA0 c75 c72) rfl rfl rfl ?_
   refine ent_value (ov_load_agg (vs := C0_) rfl F_agg_52 F_size_52 (reads_rd (i := 0) rfl hA0 (by simp [C0_]) (fl_read0 enc_Api_Fact_len (ix_lt c75 c72) rfl))) rfl rfl rfl ?_
   refine ent_op (ot_alloc F_zero_52) rfl rfl rfl ?_
   rintro _ _ ⟨b24,rfl,rfl⟩
   refine ent_value (ov_assign rfl) rfl rfl rfl ?_
   refine ent_op0 (ot_storeG (cs := [I 0,S0,S0,S0,S0,I 0]) (cs' := C0_) (us := C0_) (L' := [box b24 52 C0_,A0]) 0 rfl rfl rfl (one_all rfl) F_size_52 rfl rfl (by simp [C0_]) rfl) rfl rfl ?_
   rintro _ _ rfl
   refine ent_nil (ent_seq (ent_region (ent_value (ov_load_agg (vs := C0_) rfl F_agg_52 F_size_52 (reads_boxW (i := 0) rfl)) rfl rfl rfl (ent_value (ov_move rfl) rfl rfl rfl ?_))))
   obtain ⟨x28,h28,H4⟩ := Option.bind_eq_some_iff.1 H4
   refine ent_op (ot_call0 (first := []) (cap := []) (xs := [.tmp 29,.tmp 30]) rfl rfl F_call_67 rfl (fact_Check.spec K (((l0.getD i6.toNat z_Api_Fact).Key).Hour) (((l0.getD i6.toNat z_Api_Fact).Key).Dims_0) (((l0.getD i6.toNat z_Api_Fact).Key).Dims_1) (((l0.getD i6.toNat z_Api_Fact).Key).Dims_2) (((l0.getD i6.toNat z_Api_Fact).Key).Dims_3) ((l0.getD i6.toNat z_Api_Fact).Value) a1 _ h28)) rfl rfl rfl ?_
   rintro _ _ ⟨rfl,rfl⟩
   refine ent_value (ov_assign rfl) rfl rfl rfl (ent_nil (ent_seq (ent_region (ent_value (ov_move rfl) rfl rfl rfl (ent_value (ov_bin rfl rfl (b_neq _ _ _)) rfl rfl rfl (ent_nil ?_))))))
   refine htF H4 (fun c76 H4 => ?_) fun c76 H4 => ?_
   ·refine ent_cond_false rfl (ne_f c76) (ent_skip (ent_region (ent_value (ov_bin rfl rfl (b_add _ _ _) ) rfl rfl rfl (ent_value (ov_move rfl) rfl rfl rfl (ent_nil ?_)))))
    exact ent_fin [1] (by decide) rfl (sub_cons (t := 1) rfl (sub_cons (t := 22) rfl (sub_cons (t := 23) rfl (sub_cons (t := 24) rfl (sub_nil _))))) fun a w h => ⟨k,Nat.lt_succ_self k,_,H4,h⟩
   refine ent_cond_true rfl (ne_t c76) (ent_seq (ent_region (ent_value (ov_move rfl) rfl rfl rfl (ent_value (ov_move rfl) rfl rfl rfl (ent_value (ov_assign rfl) rfl rfl rfl (ent_value (ov_assign rfl) rfl rfl rfl (ent_nil (ent_retc ?_))))))))
   cases H4
   refine ent_pick [1] (by decide) rfl ?_
   exact ret_mem (vs := [I x28,I i6]) rfl ⟨rfl,⟨rfl,trivial⟩⟩ _ rfl ⟨rfl,rfl⟩

theorem pack_Writer_Num_N.spec (K p0 : Nat) (a1 : Int) (r : List Int) (H : pack_Writer_Num_N K a1 = some r) : FnSpec Try.prog 48 [pt p0 0,int .u64 a1] [box p0 84 [L0]] (fun v M => ∃ sv30 : Value,v = (pt p0 0) ∧ M = [box p0 84 [sv30],own sv30 5 1 r.length (fl (eI .u8) r)]) := by
 unfold pack_Writer_Num_N at H
 refine spec_of Try.func48 rfl 35 rfl (Nat.le_of_ble_eq_true rfl) fun F w0 => ?_
 show Ent (St 35 w0 F [(0,pt p0 0),(1,int .u64 a1)] [box p0 84 [L0]]) _
 refine ent_seq (ent_region (ent_value (ov_assign rfl) rfl rfl rfl (ent_nil (ent_seq (ent_seq (ent_region (ent_value (ov_move rfl) rfl rfl rfl ?_)))))))
 refine ent_value (ov_bin rfl rfl (b_eql_of (fun w => rfl) rfl (eq_pn Try.underlying82 _ _))) rfl rfl rfl ?_
 refine ent_nil (ent_cond_false rfl rfl (ent_skip ?_))
 obtain ⟨x2,H5,H⟩ := Option.bind_eq_some_iff.1 H
 refine ent_seq_cut (fun a w => ∃ sv44 : Value,St 35 w0 F [(0,pt p0 0),(1,int .u64 x2.2)] [box p0 84 [sv44],own sv44 5 1 x2.1.length (fl (eI .u8) x2.1)] a w) ?_ ?_
 ·refine ent_block ?_
  refine ent_loop (fun k a w => ∃ i6,∃ l7,∃ sv49 : Value,pack_Writer_Num_N_l0 K k i6 l7 = some x2 ∧ St 35 w0 F [(0,pt p0 0),(1,int .u64 i6)] [box p0 84 [sv49],own sv49 5 1 l7.length (fl (eI .u8) l7)] a w) K ?_ ?_
  ·refine ent_ownnil 5 1 ?_
   exact ent_fin [1,0] (by decide) rfl (sub_cons (t := 0) rfl (sub_cons (t := 1) rfl (sub_nil _))) fun a w h => ⟨_,_,_,H5,h⟩
  ·refine fun k => ent_exi fun i6 => ent_exi fun l7 => ent_exi fun sv49 => ent_and fun H6 => ?_
   cases k with
   | zero => exact absurd H6 (by simp [pack_Writer_Num_N_l0])
   | succ k =>
    rw [pack_Writer_Num_N_l0] at H6
    refine ent_seq (ent_seq (ent_region (ent_value (ov_move rfl) rfl rfl rfl (ent_value (ov_bin rfl rfl (b_geq _ _ _)) rfl rfl rfl (ent_nil ?_)))))
    refine htF H6 (fun c47 H6 => ?_) fun c47 H6 => ?_
    ·refine ent_cond_false rfl (decide_eq_false c47) (ent_exit ?_)
     cases H6
     exact ent_fin [0,1] (by decide) rfl (sub_cons (t := 0) rfl (sub_cons (t := 1) rfl (sub_nil _))) fun a w h => ⟨_,h⟩
    refine ent_cond_true rfl (decide_eq_true c47) (ent_skip (ent_seq (ent_block (ent_region (ent_value (ov_move rfl) rfl rfl rfl (ent_value (ov_move rfl) rfl rfl rfl (ent_value (ov_nilCheck rfl) rfl rfl rfl (ent_value (ov_fieldAddr (sz := 0) (o := 0) rfl F_field_84_0 F_size_53) rfl rfl rfl (ent_value (ov_load (v := sv49) rfl F_agg_53 (reads_box1 (i := 0) rfl rfl)) rfl rfl rfl (ent_value (ov_move rfl) rfl rfl rfl (ent_value (ov_convert rfl (c_int Try.underlying88 Try.underlying5)) rfl rfl rfl ?_)))))))))))
    refine ent_value (ov_bin rfl rfl (b_or _ _ _)) rfl rfl rfl ?_
    refine ent_op (ot_buildSlice (sz := 0) (xs := [.tmp 18]) (cs := fl (eI .u8) [bOr .u8 (wu8 i6) 128]) rfl rfl F_slice_53 F_size_5 F_zero_5 rfl rfl (all_size rfl) rfl (by decide)) rfl rfl rfl ?_
    rintro sv56 _ rfl
    obtain ⟨c49,H6⟩ := gdT H6
    refine ent_op (ot_appendx (sz := 0) (xs := l7) (ys := [bOr .u8 (wu8 i6) 128]) 2 0 rfl rfl F_slice_53 F_size_5 F_zero_5 rfl F_bytes_5 rfl rfl rfl (isRd_ownx 5) rfl (eI_one _) c49) rfl rfl rfl ?_
    rintro sv57 _ rfl
    refine ent_L [own sv56 5 1 [bOr .u8 (wu8 i6) 128].length (fl (eI .u8) [bOr .u8 (wu8 i6) 128]),box p0 84 [sv49],own sv57 5 1 (l7 ++ [bOr .u8 (wu8 i6) 128]).length (fl (eI .u8) (l7 ++ [bOr .u8 (wu8 i6) 128]))] rfl ?_
    refine ent_value (ov_nilCheck rfl) rfl rfl rfl (ent_value (ov_fieldAddr (sz := 0) (o := 0) rfl F_field_84_0 F_size_53) rfl rfl rfl ?_)
    refine ent_op0 (ot_storeS (cs := [sv49]) (cs' := [sv57]) (sv := sv57) (L' := [own sv56 5 1 [bOr .u8 (wu8 i6) 128].length (fl (eI .u8) [bOr .u8 (wu8 i6) 128]),box p0 84 [sv57],own sv57 5 1 (l7 ++ [bOr .u8 (wu8 i6) 128]).length (fl (eI .u8) (l7 ++ [bOr .u8 (wu8 i6) 128]))]) 1 2 rfl rfl F_size_53 rfl rfl (isRd_ownx 5) rfl (by simp) rfl) rfl rfl ?_
    rintro _ _ rfl
    refine ent_nil (ent_region (ent_value (ov_move rfl) rfl rfl rfl ?_))
    refine ent_value (ov_bin rfl rfl fun w => b_shr _ _ _ _ w (by decide)) rfl rfl rfl ?_
    refine ent_value (ov_assign rfl) rfl rfl rfl (ent_nil ?_)
    exact ent_fin [1,2] (by decide) rfl (sub_cons (t := 0) rfl (sub_cons (t := 1) rfl (sub_nil _))) fun a w h => ⟨k,Nat.lt_succ_self k,_,_,_,H6,h⟩
 ·refine ent_exi fun sv44 => ?_
  refine ent_seq (ent_region (ent_value (ov_move rfl) rfl rfl rfl (ent_value (ov_move rfl) rfl rfl rfl (ent_value (ov_nilCheck rfl) rfl rfl rfl (ent_value (ov_fieldAddr (sz := 0) (o := 0) rfl F_field_84_0 F_size_53) rfl rfl rfl (ent_value (ov_load (v := sv44) rfl F_agg_53 (reads_box1 (i := 0) rfl rfl)) rfl rfl rfl (ent_value (ov_move rfl) rfl rfl rfl (ent_value (ov_convert rfl (c_int Try.underlying88 Try.underlying5)) rfl rfl rfl ?_))))))))
  refine ent_op (ot_buildSlice (sz := 0) (xs := [.tmp 29]) (cs := fl (eI .u8) [wu8 x2.2]) rfl rfl F_slice_53 F_size_5 F_zero_5 rfl rfl (all_size rfl) rfl (by decide)) rfl rfl rfl ?_
  rintro sv58 _ rfl
  obtain ⟨c50,H⟩ := gdT H
  refine ent_op (ot_appendx (sz := 0) (xs := x2.1) (ys := [wu8 x2.2]) 2 0 rfl rfl F_slice_53 F_size_5 F_zero_5 rfl F_bytes_5 rfl rfl rfl (isRd_ownx 5) rfl (eI_one _) c50) rfl rfl rfl ?_
  rintro sv59 _ rfl
  refine ent_L [own sv58 5 1 [wu8 x2.2].length (fl (eI .u8) [wu8 x2.2]),box p0 84 [sv44],own sv59 5 1 (x2.1 ++ [wu8 x2.2]).length (fl (eI .u8) (x2.1 ++ [wu8 x2.2]))] rfl ?_
  refine ent_value (ov_nilCheck rfl) rfl rfl rfl (ent_value (ov_fieldAddr (sz := 0) (o := 0) rfl F_field_84_0 F_size_53) rfl rfl rfl ?_)
  refine ent_op0 (ot_storeS (cs := [sv44]) (cs' := [sv59]) (sv := sv59) (L' := [own sv58 5 1 [wu8 x2.2].length (fl (eI .u8) [wu8 x2.2]),box p0 84 [sv59],own sv59 5 1 (x2.1 ++ [wu8 x2.2]).length (fl (eI .u8) (x2.1 ++ [wu8 x2.2]))]) 1 2 rfl rfl F_size_53 rfl rfl (isRd_ownx 5) rfl (by simp) rfl) rfl rfl ?_
  rintro _ _ rfl
  refine ent_nil (ent_seq (ent_region (ent_value (ov_move rfl) rfl rfl rfl (ent_value (ov_assign rfl) rfl rfl rfl (ent_nil (ent_retc ?_))))))
  cases H
  refine ent_pick [1,2] (by decide) rfl ?_
  exact ret_tmp rfl rfl ⟨_,rfl,rfl⟩

theorem pack_Writer_Num_O.spec (K p0 : Nat) (sv0 : Value) (l0 : List Int) (a1 : Int) (r : List Int) (H : pack_Writer_Num_O K l0 a1 = some r) : FnSpec Try.prog 48 [pt p0 0,int .u64 a1] [box p0 84 [sv0],own sv0 5 1 l0.length (fl (eI .u8) l0)] (fun v M => ∃ sv30 : Value,v = (pt p0 0) ∧ M = [box p0 84 [sv30],own sv30 5 1 r.length (fl (eI .u8) r)]) := by
 unfold pack_Writer_Num_O at H
 refine spec_of Try.func48 rfl 35 rfl (Nat.le_of_ble_eq_true rfl) fun F w0 => ?_
 show Ent (St 35 w0 F [(0,pt p0 0),(1,int .u64 a1)] [box p0 84 [sv0],own sv0 5 1 l0.length (fl (eI .u8) l0)]) _
 refine ent_seq (ent_region (ent_value (ov_assign rfl) rfl rfl rfl (ent_nil (ent_seq (ent_seq (ent_region (ent_value (ov_move rfl) rfl rfl rfl ?_)))))))
 refine ent_value (ov_bin rfl rfl (b_eql_of (fun w => rfl) rfl (eq_pn Try.underlying82 _ _))) rfl rfl rfl ?_
 refine ent_nil (ent_cond_false rfl rfl (ent_skip ?_))
 obtain ⟨x2,H5,H⟩ := Option.bind_eq_some_iff.1 H
 refine ent_seq_cut (fun a w => ∃ sv44 : Value,St 35 w0 F [(0,pt p0 0),(1,int .u64 x2.2)] [box p0 84 [sv44],own sv44 5 1 x2.1.length (fl (eI .u8) x2.1)] a w) ?_ ?_
 ·refine ent_block ?_
  refine ent_loop (fun k a w => ∃ i6,∃ l7,∃ sv49 : Value,pack_Writer_Num_O_l0 K k i6 l7 = some x2 ∧ St 35 w0 F [(0,pt p0 0),(1,int .u64 i6)] [box p0 84 [sv49],own sv49 5 1 l7.length (fl (eI .u8) l7)] a w) K ?_ ?_
  ·exact ent_fin [0,1] (by decide) rfl (sub_cons (t := 0) rfl (sub_cons (t := 1) rfl (sub_nil _))) fun a w h => ⟨_,_,_,H5,h⟩
  ·refine fun k => ent_exi fun i6 => ent_exi fun l7 => ent_exi fun sv49 => ent_and fun H6 => ?_
   cases k with
   | zero => exact absurd H6 (by simp [pack_Writer_Num_O_l0])
   | succ k =>
    rw [pack_Writer_Num_O_l0] at H6
    refine ent_seq (ent_seq (ent_region (ent_value (ov_move rfl) rfl rfl rfl (ent_value (ov_bin rfl rfl (b_geq _ _ _)) rfl rfl rfl (ent_nil ?_)))))
    refine htF H6 (fun c47 H6 => ?_) fun c47 H6 => ?_
    ·refine ent_cond_false rfl (decide_eq_false c47) (ent_exit ?_)
     cases H6
     exact ent_fin [0,1] (by decide) rfl (sub_cons (t := 0) rfl (sub_cons (t := 1) rfl (sub_nil _))) fun a w h => ⟨_,h⟩
    refine ent_cond_true rfl (decide_eq_true c47) (ent_skip (ent_seq (ent_block (ent_region (ent_value (ov_move rfl) rfl rfl rfl (ent_value (ov_move rfl) rfl rfl rfl (ent_value (ov_nilCheck rfl) rfl rfl rfl (ent_value (ov_fieldAddr (sz := 0) (o := 0) rfl F_field_84_0 F_size_53) rfl rfl rfl (ent_value (ov_load (v := sv49) rfl F_agg_53 (reads_box1 (i := 0) rfl rfl)) rfl rfl rfl (ent_value (ov_move rfl) rfl rfl rfl (ent_value (ov_convert rfl (c_int Try.underlying88 Try.underlying5)) rfl rfl rfl ?_)))))))))))
    refine ent_value (ov_bin rfl rfl (b_or _ _ _)) rfl rfl rfl ?_
    refine ent_op (ot_buildSlice (sz := 0) (xs := [.tmp 18]) (cs := fl (eI .u8) [bOr .u8 (wu8 i6) 128]) rfl rfl F_slice_53 F_size_5 F_zero_5 rfl rfl (all_size rfl) rfl (by decide)) rfl rfl rfl ?_
    rintro sv56 _ rfl
    obtain ⟨c49,H6⟩ := gdT H6
    refine ent_op (ot_appendx (sz := 0) (xs := l7) (ys := [bOr .u8 (wu8 i6) 128]) 2 0 rfl rfl F_slice_53 F_size_5 F_zero_5 rfl F_bytes_5 rfl rfl rfl (isRd_ownx 5) rfl (eI_one _) c49) rfl rfl rfl ?_
    rintro sv57 _ rfl
    refine ent_L [own sv56 5 1 [bOr .u8 (wu8 i6) 128].length (fl (eI .u8) [bOr .u8 (wu8 i6) 128]),box p0 84 [sv49],own sv57 5 1 (l7 ++ [bOr .u8 (wu8 i6) 128]).length (fl (eI .u8) (l7 ++ [bOr .u8 (wu8 i6) 128]))] rfl ?_
    refine ent_value (ov_nilCheck rfl) rfl rfl rfl (ent_value (ov_fieldAddr (sz := 0) (o := 0) rfl F_field_84_0 F_size_53) rfl rfl rfl ?_)
    refine ent_op0 (ot_storeS (cs := [sv49]) (cs' := [sv57]) (sv := sv57) (L' := [own sv56 5 1 [bOr .u8 (wu8 i6) 128].length (fl (eI .u8) [bOr .u8 (wu8 i6) 128]),box p0 84 [sv57],own sv57 5 1 (l7 ++ [bOr .u8 (wu8 i6) 128]).length (fl (eI .u8) (l7 ++ [bOr .u8 (wu8 i6) 128]))]) 1 2 rfl rfl F_size_53 rfl rfl (isRd_ownx 5) rfl (by simp) rfl) rfl rfl ?_
    rintro _ _ rfl
    refine ent_nil (ent_region (ent_value (ov_move rfl) rfl rfl rfl ?_))
    refine ent_value (ov_bin rfl rfl fun w => b_shr _ _ _ _ w (by decide)) rfl rfl rfl ?_
    refine ent_value (ov_assign rfl) rfl rfl rfl (ent_nil ?_)
    exact ent_fin [1,2] (by decide) rfl (sub_cons (t := 0) rfl (sub_cons (t := 1) rfl (sub_nil _))) fun a w h => ⟨k,Nat.lt_succ_self k,_,_,_,H6,h⟩
 ·refine ent_exi fun sv44 => ?_
  refine ent_seq (ent_region (ent_value (ov_move rfl) rfl rfl rfl (ent_value (ov_move rfl) rfl rfl rfl (ent_value (ov_nilCheck rfl) rfl rfl rfl (ent_value (ov_fieldAddr (sz := 0) (o := 0) rfl F_field_84_0 F_size_53) rfl rfl rfl (ent_value (ov_load (v := sv44) rfl F_agg_53 (reads_box1 (i := 0) rfl rfl)) rfl rfl rfl (ent_value (ov_move rfl) rfl rfl rfl (ent_value (ov_convert rfl (c_int Try.underlying88 Try.underlying5)) rfl rfl rfl ?_))))))))
  refine ent_op (ot_buildSlice (sz := 0) (xs := [.tmp 29]) (cs := fl (eI .u8) [wu8 x2.2]) rfl rfl F_slice_53 F_size_5 F_zero_5 rfl rfl (all_size rfl) rfl (by decide)) rfl rfl rfl ?_
  rintro sv58 _ rfl
  obtain ⟨c50,H⟩ := gdT H
  refine ent_op (ot_appendx (sz := 0) (xs := x2.1) (ys := [wu8 x2.2]) 2 0 rfl rfl F_slice_53 F_size_5 F_zero_5 rfl F_bytes_5 rfl rfl rfl (isRd_ownx 5) rfl (eI_one _) c50) rfl rfl rfl ?_
  rintro sv59 _ rfl
  refine ent_L [own sv58 5 1 [wu8 x2.2].length (fl (eI .u8) [wu8 x2.2]),box p0 84 [sv44],own sv59 5 1 (x2.1 ++ [wu8 x2.2]).length (fl (eI .u8) (x2.1 ++ [wu8 x2.2]))] rfl ?_
  refine ent_value (ov_nilCheck rfl) rfl rfl rfl (ent_value (ov_fieldAddr (sz := 0) (o := 0) rfl F_field_84_0 F_size_53) rfl rfl rfl ?_)
  refine ent_op0 (ot_storeS (cs := [sv44]) (cs' := [sv59]) (sv := sv59) (L' := [own sv58 5 1 [wu8 x2.2].length (fl (eI .u8) [wu8 x2.2]),box p0 84 [sv59],own sv59 5 1 (x2.1 ++ [wu8 x2.2]).length (fl (eI .u8) (x2.1 ++ [wu8 x2.2]))]) 1 2 rfl rfl F_size_53 rfl rfl (isRd_ownx 5) rfl (by simp) rfl) rfl rfl ?_
  rintro _ _ rfl
  refine ent_nil (ent_seq (ent_region (ent_value (ov_move rfl) rfl rfl rfl (ent_value (ov_assign rfl) rfl rfl rfl (ent_nil (ent_retc ?_))))))
  cases H
  refine ent_pick [1,2] (by decide) rfl ?_
  exact ret_tmp rfl rfl ⟨_,rfl,rfl⟩

theorem pack_Writer_Text_O.spec (K p0 : Nat) (sv0 : Value) (l0 : List Int) (a1 : List UInt8) (r : List Int) (H : pack_Writer_Text_O K l0 a1 = some r) : FnSpec Try.prog 49 [pt p0 0,str a1] [box p0 84 [sv0],own sv0 5 1 l0.length (fl (eI .u8) l0)] (fun v M => ∃ sv5 : Value,v = (pt p0 0) ∧ M = [box p0 84 [sv5],own sv5 5 1 r.length (fl (eI .u8) r)]) := by
 unfold pack_Writer_Text_O at H
 refine spec_of Try.func49 rfl 21 rfl (Nat.le_of_ble_eq_true rfl) fun F w0 => ?_
 show Ent (St 21 w0 F [(0,pt p0 0),(1,str a1)] [box p0 84 [sv0],own sv0 5 1 l0.length (fl (eI .u8) l0)]) _
 refine ent_seq (ent_region (ent_value (ov_assign rfl) rfl rfl rfl (ent_nil (ent_seq (ent_seq (ent_region (ent_value (ov_move rfl) rfl rfl rfl (ent_value (ov_move rfl) rfl rfl rfl (ent_value (ov_lenS rfl Try.underlying9) rfl rfl rfl (ent_value (ov_convert rfl (c_int Try.underlying3 Try.underlying88)) rfl rfl rfl ?_))))))))))
 obtain ⟨x4,h4,H⟩ := Option.bind_eq_some_iff.1 H
 refine ent_op (ot_call (Lr := []) (first := []) (cap := []) (xs := [.tmp 5,.tmp 8]) rfl rfl F_call_48 rfl (pack_Writer_Num_O.spec K p0 sv0 l0 (wu64 (a1.length : Int)) _ h4) rfl) rfl rfl rfl ?_
 rintro _ _ ⟨_,⟨sv8,rfl,rfl⟩,rfl⟩
 refine ent_value (ov_bin rfl rfl (b_neq_of (fun w => rfl) rfl (eq_pn Try.underlying82 _ _))) rfl rfl rfl ?_
 refine ent_nil (ent_cond_true rfl rfl (ent_region (ent_value (ov_move rfl) rfl rfl rfl (ent_value (ov_move rfl) rfl rfl rfl (ent_value (ov_nilCheck rfl) rfl rfl rfl (ent_value (ov_fieldAddr (sz := 0) (o := 0) rfl F_field_84_0 F_size_53) rfl rfl rfl (ent_value (ov_load (v := sv8) rfl F_agg_53 (reads_box1 (i := 0) rfl rfl)) rfl rfl rfl (ent_value (ov_move rfl) rfl rfl rfl ?_))))))))
 obtain ⟨c4,H⟩ := gdT H
 refine ent_op (ot_appendS (xs := x4) (s := a1) 1 rfl rfl F_slice_53 Try.underlying9 F_size_5 F_zero1_5 F_bytes_5 rfl c4) rfl rfl rfl ?_
 rintro sv9 _ rfl
 refine ent_L [box p0 84 [sv8],own sv9 5 1 (x4 ++ byts a1).length (fl (eI .u8) (x4 ++ byts a1))] rfl ?_
 refine ent_value (ov_nilCheck rfl) rfl rfl rfl (ent_value (ov_fieldAddr (sz := 0) (o := 0) rfl F_field_84_0 F_size_53) rfl rfl rfl ?_)
 refine ent_op0 (ot_storeS (cs := [sv8]) (cs' := [sv9]) (sv := sv9) (L' := [box p0 84 [sv9],own sv9 5 1 (x4 ++ byts a1).length (fl (eI .u8) (x4 ++ byts a1))]) 0 1 rfl rfl F_size_53 rfl rfl (isRd_ownx 5) rfl (by simp) rfl) rfl rfl ?_
 rintro _ _ rfl
 refine ent_nil (ent_seq (ent_region (ent_value (ov_move rfl) rfl rfl rfl (ent_value (ov_assign rfl) rfl rfl rfl (ent_nil (ent_retc ?_))))))
 cases H
 refine ent_pick [0,1] (by decide) rfl ?_
 exact ret_tmp rfl rfl ⟨_,rfl,rfl⟩

theorem pack_Writer_Int_O.spec (K p0 : Nat) (sv0 : Value) (l0 : List Int) (a1 : Int) (r : List Int) (H : pack_Writer_Int_O K l0 a1 = some r) : FnSpec Try.prog 50 [pt p0 0,I a1] [box p0 84 [sv0],own sv0 5 1 l0.length (fl (eI .u8) l0)] (fun v M => ∃ sv2 : Value,v = (pt p0 0) ∧ M = [box p0 84 [sv2],own sv2 5 1 r.length (fl (eI .u8) r)]) := by
 unfold pack_Writer_Int_O at H
 refine spec_of Try.func50 rfl 14 rfl (Nat.le_of_ble_eq_true rfl) fun F w0 => ?_
 show Ent (St 14 w0 F [(0,pt p0 0),(1,I a1)] [box p0 84 [sv0],own sv0 5 1 l0.length (fl (eI .u8) l0)]) _
 refine ent_seq (ent_region (ent_value (ov_assign rfl) rfl rfl rfl (ent_nil (ent_seq (ent_region (ent_value (ov_move rfl) rfl rfl rfl (ent_value (ov_move rfl) rfl rfl rfl ?_)))))))
 refine ent_value (ov_bin rfl rfl fun w => b_shl _ _ _ _ w (by decide)) rfl rfl rfl ?_
 refine ent_value (ov_convert rfl (c_int Try.underlying2 Try.underlying88)) rfl rfl rfl (ent_value (ov_move rfl) rfl rfl rfl ?_)
 refine ent_value (ov_bin rfl rfl fun w => b_shr _ _ _ _ w (by decide)) rfl rfl rfl ?_
 refine ent_value (ov_convert rfl (c_int Try.underlying2 Try.underlying88)) rfl rfl rfl (ent_value (ov_bin rfl rfl (b_xor _ _ _)) rfl rfl rfl ?_)
 obtain ⟨x2,h2,H⟩ := Option.bind_eq_some_iff.1 H
 refine ent_op (ot_call (Lr := []) (first := []) (cap := []) (xs := [.tmp 5,.tmp 12]) rfl rfl F_call_48 rfl (pack_Writer_Num_O.spec K p0 sv0 l0 (bXor .u64 (wu64 (bShl .i64 a1 1)) (wu64 (bShr .i64 a1 63))) _ h2) rfl) rfl rfl rfl ?_
 rintro _ _ ⟨_,⟨sv3,rfl,rfl⟩,rfl⟩
 refine ent_value (ov_assign rfl) rfl rfl rfl (ent_nil (ent_retc ?_))
 cases H
 refine ent_pick [0,1] (by decide) rfl ?_
 exact ret_tmp rfl rfl ⟨_,rfl,rfl⟩

theorem bytes_Clone_R.spec (sv0 : Value) (A0 : HP) (l0 : List Int) (hA0 : IsRd A0 sv0 l0.length 1 (fl (eI .u8) l0)) (r : List Int) (H : bytes_Clone_R l0 = some r) : FnSpec Try.prog 68 [sv0] [A0] (fun v M => ∃ sv5 : Value,v = sv5 ∧ M = [A0,own sv5 5 1 r.length (fl (eI .u8) r)]) := by
 unfold bytes_Clone_R at H
 refine spec_of Try.func68 rfl 8 rfl (Nat.le_of_ble_eq_true rfl) fun F w0 => ?_
 show Ent (St 8 w0 F [(0,sv0)] [A0]) _
 refine ent_seq (ent_region (ent_value (ov_assign rfl) rfl rfl rfl (ent_nil (ent_seq (ent_seq (ent_region (ent_value (ov_move rfl) rfl rfl rfl ?_)))))))
 refine htT H (fun c9 H => ?_) fun c9 H => ?_
 ·refine ent_value (ov_eqnil 0 rfl rfl Try.underlying53 rfl hA0 rfl c9) rfl rfl rfl (ent_nil (ent_cond_false rfl rfl (ent_skip (ent_seq (ent_region ?_)))))
  refine ent_op (ot_buildSlice (sz := 0) (xs := []) (cs := fl (eI .u8) ([] : List Int)) rfl rfl F_slice_53 F_size_5 F_zero_5 rfl rfl (all_size rfl) rfl (by decide)) rfl rfl rfl ?_
  rintro sv6 _ rfl
  refine ent_value (ov_move rfl) rfl rfl rfl ?_
  obtain ⟨c10,H⟩ := gdT H
  refine ent_op (ot_appendx (sz := 0) (xs := ([] : List Int)) (ys := l0) 0 1 rfl rfl F_slice_53 F_size_5 F_zero_5 rfl F_bytes_5 rfl rfl rfl hA0 rfl (eI_one _) c10) rfl rfl rfl ?_
  rintro sv7 _ rfl
  refine ent_L [own sv7 5 1 (([] : List Int) ++ l0).length (fl (eI .u8) (([] : List Int) ++ l0)),A0] rfl ?_
  refine ent_value (ov_assign rfl) rfl rfl rfl (ent_nil (ent_retc ?_))
  cases H
  refine ent_pick [1,0] (by decide) rfl ?_
  exact ret_tmp rfl rfl ⟨_,rfl,rfl⟩
 by_cases c11 : nilS sv0 = true
 ·replace H : (some (([] : List Int))) = _ := H
  refine ent_value (ov_eqnil0 0 rfl rfl Try.underlying53 rfl hA0 c11) rfl rfl rfl (ent_nil (ent_cond_true rfl rfl (ent_seq (ent_region (ent_value (ov_assign rfl) rfl rfl rfl (ent_nil (ent_retc ?_)))))))
  cases H
  refine ent_ownnil 5 1 ?_
  refine ent_pick [1,0] (by decide) rfl ?_
  exact ret_tmp rfl rfl ⟨_,rfl,rfl⟩
 ·refine ent_value (ov_eqnil0 0 rfl rfl Try.underlying53 rfl hA0 (Bool.eq_false_iff.2 c11)) rfl rfl rfl (ent_nil (ent_cond_false rfl rfl (ent_skip (ent_seq (ent_region ?_)))))
  refine ent_op (ot_buildSlice (sz := 0) (xs := []) (cs := fl (eI .u8) ([] : List Int)) rfl rfl F_slice_53 F_size_5 F_zero_5 rfl rfl (all_size rfl) rfl (by decide)) rfl rfl rfl ?_
  rintro sv8 _ rfl
  refine ent_value (ov_move rfl) rfl rfl rfl ?_
  obtain ⟨c12,H⟩ := gdT H
  refine ent_op (ot_appendx (sz := 0) (xs := ([] : List Int)) (ys := ([] : List Int)) 0 1 rfl rfl F_slice_53 F_size_5 F_zero_5 rfl F_bytes_5 rfl rfl rfl (isRd_zero hA0 c9) rfl (eI_one _) c12) rfl rfl rfl ?_
  rintro sv9 _ rfl
  refine ent_L [own sv9 5 1 (([] : List Int) ++ ([] : List Int)).length (fl (eI .u8) (([] : List Int) ++ ([] : List Int))),A0] rfl ?_
  refine ent_value (ov_assign rfl) rfl rfl rfl (ent_nil (ent_retc ?_))
  cases H
  refine ent_pick [1,0] (by decide) rfl ?_
  exact ret_tmp rfl rfl ⟨_,rfl,rfl⟩

theorem pack_Writer_Bytes_O.spec (p0 : Nat) (sv0 : Value) (l0 : List Int) (r : List Int) (H : pack_Writer_Bytes_O l0 = some r) : FnSpec Try.prog 51 [pt p0 0] [box p0 84 [sv0],own sv0 5 1 l0.length (fl (eI .u8) l0)] (fun v M => ∃ sv2 : Value,v = sv2 ∧ M = [box p0 84 [sv0],own sv0 5 1 l0.length (fl (eI .u8) l0),own sv2 5 1 r.length (fl (eI .u8) r)]) := by
 unfold pack_Writer_Bytes_O at H
 refine spec_of Try.func51 rfl 10 rfl (Nat.le_of_ble_eq_true rfl) fun F w0 => ?_
 show Ent (St 10 w0 F [(0,pt p0 0)] [box p0 84 [sv0],own sv0 5 1 l0.length (fl (eI .u8) l0)]) _
 refine ent_seq (ent_region (ent_value (ov_assign rfl) rfl rfl rfl (ent_nil (ent_seq (ent_seq (ent_region (ent_value (ov_move rfl) rfl rfl rfl ?_)))))))
 refine ent_value (ov_bin rfl rfl (b_eql_of (fun w => rfl) rfl (eq_pn Try.underlying82 _ _))) rfl rfl rfl ?_
 refine ent_nil (ent_cond_false rfl rfl (ent_skip (ent_seq (ent_region (ent_value (ov_move rfl) rfl rfl rfl (ent_value (ov_nilCheck rfl) rfl rfl rfl (ent_value (ov_fieldAddr (sz := 0) (o := 0) rfl F_field_84_0 F_size_53) rfl rfl rfl (ent_value (ov_load (v := sv0) rfl F_agg_53 (reads_box1 (i := 0) rfl rfl)) rfl rfl rfl ?_))))))))
 obtain ⟨x2,h2,H⟩ := Option.bind_eq_some_iff.1 H
 refine ent_pick [1,0] (by decide) rfl ?_
 refine ent_op (ot_call (Lr := [box p0 84 [sv0]]) (first := []) (cap := []) (xs := [.tmp 8]) rfl rfl F_call_68 rfl (bytes_Clone_R.spec sv0 (own sv0 5 1 l0.length (fl (eI .u8) l0)) l0 (isRd_ownx 5) _ h2) rfl) rfl rfl rfl ?_
 rintro sv3 _ ⟨_,⟨_,rfl,rfl⟩,rfl⟩
 refine ent_value (ov_assign rfl) rfl rfl rfl (ent_nil (ent_retc ?_))
 cases H
 refine ent_pick [2,0,1] (by decide) rfl ?_
 exact ret_tmp rfl rfl ⟨_,rfl,rfl⟩

theorem fact_Encode_R.spec (K : Nat) (sv0 : Value) (A0 : HP) (l0 : List Api_Fact) (a1 : Int) (hA0 : IsRd A0 sv0 l0.length 6 (fl enc_Api_Fact l0)) (r : (Int × (List Int))) (H : fact_Encode_R K l0 a1 = some r) : FnSpec Try.prog 26 [sv0,I a1] [A0] (fun v M => ∃ sv215 : Value,v = (tU #[sv215,I r.1]) ∧ M = [A0,own sv215 5 1 r.2.length (fl (eI .u8) r.2)]) := by
 unfold fact_Encode_R at H
 refine spec_of Try.func26 rfl 70 rfl (Nat.le_of_ble_eq_true rfl) fun F w0 => ?_
 show Ent (St 70 w0 F [(0,sv0),(1,I a1)] [A0]) _
 refine ent_seq (ent_region (ent_value (ov_assign rfl) rfl rfl rfl (ent_value (ov_assign rfl) rfl rfl rfl (ent_nil (ent_seq (ent_seq (ent_region (ent_value (ov_move rfl) rfl rfl rfl (ent_value (ov_move rfl) rfl rfl rfl ?_)))))))))
 obtain ⟨x192,h174,H⟩ := Option.bind_eq_some_iff.1 H
 refine ent_op (ot_call_same (Lr := []) [0] [0] (first := []) (cap := []) (xs := [.tmp 17,.tmp 18]) rfl rfl F_call_47 rfl (fact_All_R.spec K sv0 A0 l0 a1 hA0 _ h174) (by decide) rfl (by decide) rfl) rfl rfl rfl ?_
 rintro _ _ ⟨rfl,rfl⟩
 refine ent_value (ov_move rfl) rfl rfl rfl (ent_value (ov_extract rfl rfl) rfl rfl rfl (ent_value (ov_extract rfl rfl) rfl rfl rfl (ent_value (ov_assign rfl) rfl rfl rfl (ent_value (ov_assign rfl) rfl rfl rfl (ent_nil (ent_seq (ent_region (ent_value (ov_move rfl) rfl rfl rfl (ent_value (ov_bin rfl rfl (b_neq _ _ _)) rfl rfl rfl (ent_nil ?_))))))))))
 refine htT H (fun c312 H => ?_) fun c312 H => ?_
 ·refine ent_cond_true rfl (ne_t c312) (ent_seq (ent_region (ent_value (ov_move rfl) rfl rfl rfl (ent_value (ov_assign rfl) rfl rfl rfl (ent_value (ov_assign rfl) rfl rfl rfl (ent_nil (ent_retc ?_)))))))
  cases H
  refine ent_ownnil 5 1 ?_
  refine ent_pick [1,0] (by decide) rfl ?_
  exact ret_mem (vs := [L0,I x192.1]) rfl ⟨rfl,⟨rfl,trivial⟩⟩ _ rfl ⟨_,rfl,rfl⟩
 refine ent_cond_false rfl (ne_f c312) (ent_skip (ent_seq (ent_region (ent_value (ov_build (is := []) (xs := []) (vs := []) rfl rfl (build_struct (cs := [L0]) F_zero_84 F_places_84 rfl)) rfl rfl rfl ?_))))
 refine ent_op (ot_box (cs := [L0]) rfl rfl) rfl rfl rfl ?_
 rintro _ _ ⟨b34,rfl,rfl⟩
 refine ent_value (ov_assign rfl) rfl rfl rfl (ent_nil (ent_seq (ent_region (ent_value (ov_move rfl) rfl rfl rfl (ent_value (ov_makeFunc (first := [.tmp 27]) (cap := []) rfl rfl) rfl rfl rfl (ent_value (ov_move rfl) rfl rfl rfl (ent_value (ov_makeFunc (first := [.tmp 29]) (cap := []) rfl rfl) rfl rfl rfl (ent_value (ov_move rfl) rfl rfl rfl (ent_value (ov_makeFunc (first := [.tmp 31]) (cap := []) rfl rfl) rfl rfl rfl (ent_value (ov_assign rfl) rfl rfl rfl (ent_value (ov_assign rfl) rfl rfl rfl ?_)))))))))))
 refine ent_value (ov_assign rfl) rfl rfl rfl (ent_nil (ent_seq (ent_region (ent_value (ov_move rfl) rfl rfl rfl (ent_value (ov_move rfl) rfl rfl rfl (ent_value (ov_len 1 rfl F_slice_22 rfl hA0) rfl rfl rfl (ent_value (ov_convert rfl (c_int Try.underlying3 Try.underlying88)) rfl rfl rfl ?_)))))))
 obtain ⟨x193,h175,H⟩ := Option.bind_eq_some_iff.1 H
 refine ent_op (ot_call (Lr := [A0]) (first := [pt b34 0]) (cap := []) (xs := [.tmp 36]) rfl rfl F_call_48 rfl (pack_Writer_Num_N.spec K b34 (wu64 (l0.length : Int)) _ h175) rfl) rfl rfl rfl ?_
 rintro _ _ ⟨_,⟨sv216,rfl,rfl⟩,rfl⟩
 refine ent_nil (ent_seq (ent_seq (ent_region (ent_value (ov_move rfl) rfl rfl rfl (ent_value (ov_len 2 rfl F_slice_22 rfl hA0) rfl rfl rfl (ent_value (ov_move rfl) rfl rfl rfl (ent_nil (ent_block ?_))))))))
 refine ent_loop (fun k a w => ∃ i45,∃ l75,∃ b58 : Nat,∃ sv358 : Value,fact_Encode_R_l0 K l0 a1 k i45 l75 = some r ∧ St 70 w0 F [(1,I a1),(8,pt b58 0),(9,(Value.func (.func 48) #[pt b58 0] #[])),(10,(Value.func (.func 49) #[pt b58 0] #[])),(11,(Value.func (.func 50) #[pt b58 0] #[])),(38,sv0),(39,I (l0.length : Int)),(40,I i45)] [A0,box b58 84 [sv358],own sv358 5 1 l75.length (fl (eI .u8) l75)] a w) K ?_ ?_
 ·exact ent_fin [2,0,1] (by decide) rfl (sub_cons (t := 1) rfl (sub_cons (t := 8) rfl (sub_cons (t := 9) rfl (sub_cons (t := 10) rfl (sub_cons (t := 11) rfl (sub_cons (t := 38) rfl (sub_cons (t := 39) rfl (sub_cons (t := 40) rfl (sub_nil _))))))))) fun a w h => ⟨_,_,_,_,H,h⟩
 ·refine fun k => ent_exi fun i45 => ent_exi fun l75 => ent_exi fun b58 => ent_exi fun sv358 => ent_and fun H81 => ?_
  let C0_ : List Value := [I (((l0.getD i45.toNat z_Api_Fact).Key).Hour),str (((l0.getD i45.toNat z_Api_Fact).Key).Dims_0),str (((l0.getD i45.toNat z_Api_Fact).Key).Dims_1),str (((l0.getD i45.toNat z_Api_Fact).Key).Dims_2),str (((l0.getD i45.toNat z_Api_Fact).Key).Dims_3),I ((l0.getD i45.toNat z_Api_Fact).Value)]
  cases k with
  | zero => exact absurd H81 (by simp [C0_,fact_Encode_R_l0])
  | succ k =>
   rw [fact_Encode_R_l0] at H81
   refine ent_seq (ent_region (ent_value (ov_bin rfl rfl (b_lss _ _ _)) rfl rfl rfl (ent_nil (ent_seq ?_))))
   refine htF H81 (fun c570 H81 => ?_) fun c570 H81 => ?_
   ·refine ent_cond_false rfl (decide_eq_false c570) (ent_exit (ent_seq (ent_region (ent_value (ov_move rfl) rfl rfl rfl ?_))))
    obtain ⟨x380,h344,H81⟩ := Option.bind_eq_some_iff.1 H81
    refine ent_pick [1,2,0] (by decide) rfl ?_
    refine ent_op (ot_call (Lr := [A0]) (first := []) (cap := []) (xs := [.tmp 68]) rfl rfl F_call_51 rfl (pack_Writer_Bytes_O.spec b58 sv358 l75 _ h344) rfl) rfl rfl rfl ?_
    rintro sv429 _ ⟨_,⟨_,rfl,rfl⟩,rfl⟩
    refine ent_value (ov_assign rfl) rfl rfl rfl (ent_value (ov_assign rfl) rfl rfl rfl (ent_nil (ent_retc ?_)))
    cases H81
    refine ent_pick [3,2] (by decide) rfl ?_
    exact ret_mem (vs := [sv429,I 0]) rfl ⟨rfl,⟨rfl,trivial⟩⟩ _ rfl ⟨_,rfl,rfl⟩
   refine ent_cond_true rfl (decide_eq_true c570) (ent_skip ?_)
   obtain ⟨x364,H85,H81⟩ := Option.bind_eq_some_iff.1 H81
   refine ent_seq_cut (fun a w => ∃ sv411 : Value,St 70 w0 F [(1,I a1),(8,pt b58 0),(9,(Value.func (.func 48) #[pt b58 0] #[])),(10,(Value.func (.func 49) #[pt b58 0] #[])),(11,(Value.func (.func 50) #[pt b58 0] #[])),(38,sv0),(39,I (l0.length : Int)),(40,I i45)] [A0,box b58 84 [sv411],own sv411 5 1 x364.length (fl (eI .u8) x364)] a w) ?_ ?_
   ·refine ent_block (ent_seq (ent_region ?_))
    obtain ⟨c596,H85⟩ := gdT H85
    refine ent_value (ov_indexAddr (sz := 5) 0 rfl rfl F_slice_22 F_size_52 rfl hA0 c596 c570) rfl rfl rfl ?_
    refine ent_value (ov_load_agg (vs := C0_) rfl F_agg_52 F_size_52 (reads_rd (i := 0) rfl hA0 (by simp [C0_]) (fl_read0 enc_Api_Fact_len (ix_lt c596 c570) rfl))) rfl rfl rfl ?_
    refine ent_op (ot_alloc F_zero_52) rfl rfl rfl ?_
    rintro _ _ ⟨b65,rfl,rfl⟩
    refine ent_op0 (ot_storeG (cs := [I 0,S0,S0,S0,S0,I 0]) (cs' := C0_) (us := C0_) (L' := [box b65 52 C0_,A0,box b58 84 [sv358],own sv358 5 1 l75.length (fl (eI .u8) l75)]) 0 rfl rfl rfl (one_all rfl) F_size_52 rfl rfl (by simp [C0_]) rfl) rfl rfl ?_
    rintro _ _ rfl
    refine ent_nil (ent_seq (ent_region (ent_value (ov_move rfl) rfl rfl rfl (ent_value (ov_fieldAddr (sz := 4) (o := 0) rfl F_field_52_0 F_size_50) rfl rfl rfl (ent_value (ov_fieldAddr (sz := 0) (o := 0) rfl F_field_50_0 F_size_2) rfl rfl rfl (ent_value (ov_load (v := (I (((l0.getD i45.toNat z_Api_Fact).Key).Hour))) rfl F_agg_2 (reads_box1 (i := 0) rfl rfl)) rfl rfl rfl (ent_value (ov_convert rfl (c_int Try.underlying2 Try.underlying88)) rfl rfl rfl ?_)))))))
    obtain ⟨x365,h330,H85⟩ := Option.bind_eq_some_iff.1 H85
    refine ent_pick [2,3,0,1] (by decide) rfl ?_
    refine ent_op (ot_call (Lr := [box b65 52 C0_,A0]) (first := [pt b58 0]) (cap := []) (xs := [.tmp 48]) rfl rfl F_call_48 rfl (pack_Writer_Num_O.spec K b58 sv358 l75 (wu64 (((l0.getD i45.toNat z_Api_Fact).Key).Hour)) _ h330) rfl) rfl rfl rfl ?_
    rintro _ _ ⟨_,⟨sv412,rfl,rfl⟩,rfl⟩
    refine ent_nil ?_
    obtain ⟨x372,H87,H85⟩ := Option.bind_eq_some_iff.1 H85
    refine ent_seq_cut (fun a w => ∃ sv420 : Value,∃ b66 : Nat,St 70 w0 F [(1,I a1),(8,pt b58 0),(9,(Value.func (.func 48) #[pt b58 0] #[])),(10,(Value.func (.func 49) #[pt b58 0] #[])),(11,(Value.func (.func 50) #[pt b58 0] #[])),(13,pt b66 0),(38,sv0),(39,I (l0.length : Int)),(40,I i45)] [A0,box b58 84 [sv420],own sv420 5 1 x372.length (fl (eI .u8) x372),box b66 52 C0_] a w) ?_ ?_
    ·refine ent_seq (ent_region (ent_value (ov_fieldAddr (sz := 4) (o := 0) rfl F_field_52_0 F_size_50) rfl rfl rfl (ent_value (ov_fieldAddr (sz := 3) (o := 0) rfl F_field_50_1 F_size_48) rfl rfl rfl (ent_value (ov_move rfl) rfl rfl rfl ?_))))
     obtain ⟨c609,H87⟩ := gdT H87
     obtain ⟨c610,H87⟩ := gdT H87
     refine ent_value (ov_asl_hi rfl rfl F_array_48 F_size_9 c609 c610) rfl rfl rfl (ent_value (ov_len 2 rfl F_slice_89 rfl (isRd_take eS_len (show IsRd (box b65 52 C0_) (asl b65 1 4) ([((l0.getD i45.toNat z_Api_Fact).Key).Dims_0,((l0.getD i45.toNat z_Api_Fact).Key).Dims_1,((l0.getD i45.toNat z_Api_Fact).Key).Dims_2,((l0.getD i45.toNat z_Api_Fact).Key).Dims_3] : List (List UInt8)).length 1 (fl eS [((l0.getD i45.toNat z_Api_Fact).Key).Dims_0,((l0.getD i45.toNat z_Api_Fact).Key).Dims_1,((l0.getD i45.toNat z_Api_Fact).Key).Dims_2,((l0.getD i45.toNat z_Api_Fact).Key).Dims_3]) from (isRd_box (o := 1) (n := 4) (sz := 1) (ds := fl eS [((l0.getD i45.toNat z_Api_Fact).Key).Dims_0,((l0.getD i45.toNat z_Api_Fact).Key).Dims_1,((l0.getD i45.toNat z_Api_Fact).Key).Dims_2,((l0.getD i45.toNat z_Api_Fact).Key).Dims_3]) rfl (by decide) rfl)) (show a1.toNat ≤ ([((l0.getD i45.toNat z_Api_Fact).Key).Dims_0,((l0.getD i45.toNat z_Api_Fact).Key).Dims_1,((l0.getD i45.toNat z_Api_Fact).Key).Dims_2,((l0.getD i45.toNat z_Api_Fact).Key).Dims_3] : List (List UInt8)).length from nat_le c609 c610))) rfl rfl rfl (ent_value (ov_move rfl) rfl rfl rfl (ent_nil (ent_block ?_))))
     refine ent_loop (fun k a w => ∃ i53,∃ l89,∃ sv423 : Value,fact_Encode_R_l1 K l0 a1 i45 k i53 l89 = some x372 ∧ St 70 w0 F [(1,I a1),(8,pt b58 0),(9,(Value.func (.func 48) #[pt b58 0] #[])),(10,(Value.func (.func 49) #[pt b58 0] #[])),(11,(Value.func (.func 50) #[pt b58 0] #[])),(13,pt b65 0),(38,sv0),(39,I (l0.length : Int)),(40,I i45),(53,(subs (asl b65 1 4) 0 a1.toNat 1)),(54,I (([((l0.getD i45.toNat z_Api_Fact).Key).Dims_0,((l0.getD i45.toNat z_Api_Fact).Key).Dims_1,((l0.getD i45.toNat z_Api_Fact).Key).Dims_2,((l0.getD i45.toNat z_Api_Fact).Key).Dims_3].take a1.toNat).length : Int)),(55,I i53)] [A0,box b58 84 [sv423],own sv423 5 1 l89.length (fl (eI .u8) l89),box b65 52 C0_] a w) K ?_ ?_
     ·exact ent_fin [3,0,1,2] (by decide) rfl (sub_cons (t := 1) rfl (sub_cons (t := 8) rfl (sub_cons (t := 9) rfl (sub_cons (t := 10) rfl (sub_cons (t := 11) rfl (sub_cons (t := 13) rfl (sub_cons (t := 38) rfl (sub_cons (t := 39) rfl (sub_cons (t := 40) rfl (sub_cons (t := 53) rfl (sub_cons (t := 54) rfl (sub_cons (t := 55) rfl (sub_nil _))))))))))))) fun a w h => ⟨_,_,_,H87,h⟩
     ·refine fun k => ent_exi fun i53 => ent_exi fun l89 => ent_exi fun sv423 => ent_and fun H88 => ?_
      cases k with
      | zero => exact absurd H88 (by simp [C0_,fact_Encode_R_l1])
      | succ k =>
       rw [fact_Encode_R_l1] at H88
       refine ent_seq (ent_region (ent_value (ov_bin rfl rfl (b_lss _ _ _)) rfl rfl rfl (ent_nil (ent_seq ?_))))
       refine htF H88 (fun c618 H88 => ?_) fun c618 H88 => ?_
       ·refine ent_cond_false rfl (decide_eq_false c618) (ent_exit ?_)
        cases H88
        exact ent_fin [0,1,2,3] (by decide) rfl (sub_cons (t := 1) rfl (sub_cons (t := 8) rfl (sub_cons (t := 9) rfl (sub_cons (t := 10) rfl (sub_cons (t := 11) rfl (sub_cons (t := 13) rfl (sub_cons (t := 38) rfl (sub_cons (t := 39) rfl (sub_cons (t := 40) rfl (sub_nil _)))))))))) fun a w h => ⟨_,_,h⟩
       refine ent_cond_true rfl (decide_eq_true c618) (ent_skip (ent_seq (ent_block (ent_seq (ent_region ?_)))))
       obtain ⟨c620,H88⟩ := gdT H88
       refine ent_value (ov_indexAddr (sz := 0) 3 rfl rfl F_slice_89 F_size_9 rfl (isRd_take eS_len (show IsRd (box b65 52 C0_) (asl b65 1 4) ([((l0.getD i45.toNat z_Api_Fact).Key).Dims_0,((l0.getD i45.toNat z_Api_Fact).Key).Dims_1,((l0.getD i45.toNat z_Api_Fact).Key).Dims_2,((l0.getD i45.toNat z_Api_Fact).Key).Dims_3] : List (List UInt8)).length 1 (fl eS [((l0.getD i45.toNat z_Api_Fact).Key).Dims_0,((l0.getD i45.toNat z_Api_Fact).Key).Dims_1,((l0.getD i45.toNat z_Api_Fact).Key).Dims_2,((l0.getD i45.toNat z_Api_Fact).Key).Dims_3]) from (isRd_box (o := 1) (n := 4) (sz := 1) (ds := fl eS [((l0.getD i45.toNat z_Api_Fact).Key).Dims_0,((l0.getD i45.toNat z_Api_Fact).Key).Dims_1,((l0.getD i45.toNat z_Api_Fact).Key).Dims_2,((l0.getD i45.toNat z_Api_Fact).Key).Dims_3]) rfl (by decide) rfl)) (show a1.toNat ≤ ([((l0.getD i45.toNat z_Api_Fact).Key).Dims_0,((l0.getD i45.toNat z_Api_Fact).Key).Dims_1,((l0.getD i45.toNat z_Api_Fact).Key).Dims_2,((l0.getD i45.toNat z_Api_Fact).Key).Dims_3] : List (List UInt8)).length from nat_le c609 c610)) c620 c618) rfl rfl rfl ?_
       refine ent_value (ov_load (v := (str (([((l0.getD i45.toNat z_Api_Fact).Key).Dims_0,((l0.getD i45.toNat z_Api_Fact).Key).Dims_1,((l0.getD i45.toNat z_Api_Fact).Key).Dims_2,((l0.getD i45.toNat z_Api_Fact).Key).Dims_3].take a1.toNat).getD i53.toNat []))) rfl F_agg_9 (reads_rd (i := 3) rfl (isRd_take eS_len (show IsRd (box b65 52 C0_) (asl b65 1 4) ([((l0.getD i45.toNat z_Api_Fact).Key).Dims_0,((l0.getD i45.toNat z_Api_Fact).Key).Dims_1,((l0.getD i45.toNat z_Api_Fact).Key).Dims_2,((l0.getD i45.toNat z_Api_Fact).Key).Dims_3] : List (List UInt8)).length 1 (fl eS [((l0.getD i45.toNat z_Api_Fact).Key).Dims_0,((l0.getD i45.toNat z_Api_Fact).Key).Dims_1,((l0.getD i45.toNat z_Api_Fact).Key).Dims_2,((l0.getD i45.toNat z_Api_Fact).Key).Dims_3]) from (isRd_box (o := 1) (n := 4) (sz := 1) (ds := fl eS [((l0.getD i45.toNat z_Api_Fact).Key).Dims_0,((l0.getD i45.toNat z_Api_Fact).Key).Dims_1,((l0.getD i45.toNat z_Api_Fact).Key).Dims_2,((l0.getD i45.toNat z_Api_Fact).Key).Dims_3]) rfl (by decide) rfl)) (show a1.toNat ≤ ([((l0.getD i45.toNat z_Api_Fact).Key).Dims_0,((l0.getD i45.toNat z_Api_Fact).Key).Dims_1,((l0.getD i45.toNat z_Api_Fact).Key).Dims_2,((l0.getD i45.toNat z_Api_Fact).Key).Dims_3] : List (List UInt8)).length from nat_le c609 c610)) (by simp [C0_]) (fl_read0 eS_len (ix_lt c620 c618) rfl))) rfl rfl rfl ?_
       refine ent_value (ov_assign rfl) rfl rfl rfl (ent_nil (ent_region (ent_value (ov_move rfl) rfl rfl rfl (ent_value (ov_move rfl) rfl rfl rfl ?_))))
       obtain ⟨x378,h342,H88⟩ := Option.bind_eq_some_iff.1 H88
       refine ent_pick [1,2,0,3] (by decide) rfl ?_
       refine ent_op (ot_call (Lr := [A0,box b65 52 C0_]) (first := [pt b58 0]) (cap := []) (xs := [.tmp 60]) rfl rfl F_call_49 rfl (pack_Writer_Text_O.spec K b58 sv423 l89 (([((l0.getD i45.toNat z_Api_Fact).Key).Dims_0,((l0.getD i45.toNat z_Api_Fact).Key).Dims_1,((l0.getD i45.toNat z_Api_Fact).Key).Dims_2,((l0.getD i45.toNat z_Api_Fact).Key).Dims_3].take a1.toNat).getD i53.toNat []) _ h342) rfl) rfl rfl rfl ?_
       rintro _ _ ⟨_,⟨sv427,rfl,rfl⟩,rfl⟩
       refine ent_nil (ent_region (ent_value (ov_bin rfl rfl (b_add _ _ _) ) rfl rfl rfl (ent_value (ov_move rfl) rfl rfl rfl (ent_nil ?_))))
       exact ent_fin [2,0,1,3] (by decide) rfl (sub_cons (t := 1) rfl (sub_cons (t := 8) rfl (sub_cons (t := 9) rfl (sub_cons (t := 10) rfl (sub_cons (t := 11) rfl (sub_cons (t := 13) rfl (sub_cons (t := 38) rfl (sub_cons (t := 39) rfl (sub_cons (t := 40) rfl (sub_cons (t := 53) rfl (sub_cons (t := 54) rfl (sub_cons (t := 55) rfl (sub_nil _))))))))))))) fun a w h => ⟨k,Nat.lt_succ_self k,_,_,_,H88,h⟩
    ·refine ent_exi fun sv420 => ent_exi fun b66 => ?_
     refine ent_region (ent_value (ov_move rfl) rfl rfl rfl (ent_value (ov_fieldAddr (sz := 0) (o := 0) rfl F_field_52_1 F_size_2) rfl rfl rfl (ent_value (ov_load (v := (I ((l0.getD i45.toNat z_Api_Fact).Value))) rfl F_agg_2 (reads_box1 (i := 3) rfl rfl)) rfl rfl rfl ?_)))
     obtain ⟨x379,h343,H85⟩ := Option.bind_eq_some_iff.1 H85
     refine ent_pick [1,2,0,3] (by decide) rfl ?_
     refine ent_op (ot_call (Lr := [A0,box b66 52 C0_]) (first := [pt b58 0]) (cap := []) (xs := [.tmp 65]) rfl rfl F_call_50 rfl (pack_Writer_Int_O.spec K b58 sv420 x372 ((l0.getD i45.toNat z_Api_Fact).Value) _ h343) rfl) rfl rfl rfl ?_
     rintro _ _ ⟨_,⟨sv428,rfl,rfl⟩,rfl⟩
     refine ent_nil ?_
     cases H85
     exact ent_fin [2,0,1] (by decide) rfl (sub_cons (t := 1) rfl (sub_cons (t := 8) rfl (sub_cons (t := 9) rfl (sub_cons (t := 10) rfl (sub_cons (t := 11) rfl (sub_cons (t := 38) rfl (sub_cons (t := 39) rfl (sub_cons (t := 40) rfl (sub_nil _))))))))) fun a w h => ⟨_,h⟩
   ·refine ent_exi fun sv411 => ?_
    refine ent_region (ent_value (ov_bin rfl rfl (b_add _ _ _) ) rfl rfl rfl (ent_value (ov_move rfl) rfl rfl rfl (ent_nil ?_)))
    exact ent_fin [0,1,2] (by decide) rfl (sub_cons (t := 1) rfl (sub_cons (t := 8) rfl (sub_cons (t := 9) rfl (sub_cons (t := 10) rfl (sub_cons (t := 11) rfl (sub_cons (t := 38) rfl (sub_cons (t := 39) rfl (sub_cons (t := 40) rfl (sub_nil _))))))))) fun a w h => ⟨k,Nat.lt_succ_self k,_,_,_,_,H81,h⟩

theorem ossuarylaw09_alive.spec (K : Nat) (r : Bool) (H : ossuarylaw09_alive K = some r) : FnSpec Try.prog 6 [] [] (fun v M => v = (bool r) ∧ M = []) := by
 unfold ossuarylaw09_alive at H
 refine spec_of Try.func6 rfl 48 rfl (Nat.le_of_ble_eq_true rfl) fun F w0 => ?_
 show Ent (St 48 w0 F [] []) _
 refine ent_seq (ent_region (ent_value (ov_assign rfl) rfl rfl rfl (ent_nil (ent_seq (ent_region (ent_value (ov_build (is := [0]) (xs := [.const (str ([97] : List UInt8))]) (vs := [str ([97] : List UInt8)]) rfl rfl (build_array (cs := [str ([97] : List UInt8),S0,S0,S0]) F_zero_48 F_array_48 F_size_9 rfl)) rfl rfl rfl (ent_value (ov_build (is := [0,1]) (xs := [.const (I 5),.tmp 4]) (vs := [I 5,agg #[str ([97] : List UInt8),S0,S0,S0]]) rfl rfl (build_struct (cs := [I 5,str ([97] : List UInt8),S0,S0,S0]) F_zero_50 F_places_50 rfl)) rfl rfl rfl ?_)))))))
 refine ent_value (ov_build (is := [0,1]) (xs := [.tmp 5,.const (I (-1))]) (vs := [agg #[I 5,str ([97] : List UInt8),S0,S0,S0],I (-1)]) rfl rfl (build_struct (cs := [I 5,str ([97] : List UInt8),S0,S0,S0,I (-1)]) F_zero_52 F_places_52 (by simp [Instr.fill,cells_int,cells_bool,cells_str,cells_func,cells_slice,cells_ptr,cells_nilFunc,cells_agg,]))) rfl rfl rfl ?_
 refine ent_op (ot_buildSlice (sz := 5) (xs := [.tmp 6]) (cs := fl enc_Api_Fact [(⟨(⟨5,([97] : List UInt8),nB,nB,nB⟩ : Api_Key),(-1)⟩ : Api_Fact)]) rfl rfl F_slice_22 F_size_52 F_zero_52 rfl rfl (all_size rfl) rfl (by decide)) rfl rfl rfl ?_
 rintro sv3 _ rfl
 obtain ⟨x2,h2,H⟩ := Option.bind_eq_some_iff.1 H
 refine ent_op (ot_call (Lr := []) (first := []) (cap := []) (xs := [.tmp 7,.const (I 1)]) rfl rfl F_call_26 rfl (fact_Encode_R.spec K sv3 (own sv3 52 6 [(⟨(⟨5,([97] : List UInt8),nB,nB,nB⟩ : Api_Key),(-1)⟩ : Api_Fact)].length (fl enc_Api_Fact [(⟨(⟨5,([97] : List UInt8),nB,nB,nB⟩ : Api_Key),(-1)⟩ : Api_Fact)])) [(⟨(⟨5,([97] : List UInt8),nB,nB,nB⟩ : Api_Key),(-1)⟩ : Api_Fact)] 1 (isRd_ownx 52) _ h2) rfl) rfl rfl rfl ?_
 rintro _ _ ⟨_,⟨sv4,rfl,rfl⟩,rfl⟩
 refine ent_value (ov_move rfl) rfl rfl rfl (ent_value (ov_extract rfl rfl) rfl rfl rfl (ent_value (ov_extract rfl rfl) rfl rfl rfl (ent_value (ov_assign rfl) rfl rfl rfl (ent_value (ov_assign rfl) rfl rfl rfl (ent_nil (ent_seq (ent_region (ent_value (ov_move rfl) rfl rfl rfl (ent_value (ov_bin rfl rfl (b_eql _ _ _)) rfl rfl rfl (ent_value (ov_move rfl) rfl rfl rfl ?_))))))))))
 refine htF H (fun c12 H => ?_) fun c12 H => ?_
 ·refine ent_off rfl rfl rfl (eq_f c12) rfl rfl ?_
  refine ent_off rfl rfl rfl (eq_f c12) rfl rfl ?_
  refine ent_off rfl rfl rfl (eq_f c12) rfl rfl ?_
  refine ent_value (ov_pick rfl rfl rfl (pick_f (eq_f c12))) rfl rfl rfl (ent_value (ov_move rfl) rfl rfl rfl ?_)
  refine ent_off rfl rfl rfl rfl rfl rfl ?_
  refine ent_off rfl rfl rfl rfl rfl rfl ?_
  refine ent_off rfl rfl rfl rfl rfl rfl ?_
  refine ent_off rfl rfl rfl rfl rfl rfl ?_
  refine ent_value (ov_pick rfl rfl rfl rfl) rfl rfl rfl (ent_value (ov_move rfl) rfl rfl rfl ?_)
  refine ent_off rfl rfl rfl rfl rfl rfl ?_
  refine ent_off rfl rfl rfl rfl rfl rfl ?_
  refine ent_off rfl rfl rfl rfl rfl rfl ?_
  refine ent_off rfl rfl rfl rfl rfl rfl ?_
  refine ent_value (ov_pick rfl rfl rfl rfl) rfl rfl rfl (ent_value (ov_move rfl) rfl rfl rfl ?_)
  refine ent_off rfl rfl rfl rfl rfl rfl ?_
  refine ent_off rfl rfl rfl rfl rfl rfl ?_
  refine ent_off rfl rfl rfl rfl rfl rfl ?_
  refine ent_off rfl rfl rfl rfl rfl rfl ?_
  refine ent_value (ov_pick rfl rfl rfl rfl) rfl rfl rfl (ent_value (ov_move rfl) rfl rfl rfl ?_)
  refine ent_off rfl rfl rfl rfl rfl rfl ?_
  refine ent_off rfl rfl rfl rfl rfl rfl ?_
  refine ent_off rfl rfl rfl rfl rfl rfl ?_
  refine ent_off rfl rfl rfl rfl rfl rfl ?_
  refine ent_value (ov_pick rfl rfl rfl rfl) rfl rfl rfl (ent_value (ov_move rfl) rfl rfl rfl ?_)
  refine ent_off rfl rfl rfl rfl rfl rfl ?_
  refine ent_off rfl rfl rfl rfl rfl rfl ?_
  refine ent_off rfl rfl rfl rfl rfl rfl ?_
  refine ent_off rfl rfl rfl rfl rfl rfl ?_
  refine ent_value (ov_pick rfl rfl rfl rfl) rfl rfl rfl (ent_value (ov_assign rfl) rfl rfl rfl (ent_nil (ent_retc ?_)))
  cases H
  refine ent_pick [] (by decide) rfl ?_
  exact ret_tmp rfl rfl ⟨rfl,rfl⟩
 refine ent_value_on (ov_move rfl) rfl rfl rfl (eq_t c12) rfl rfl ?_
 refine ent_value_on (ov_len 1 rfl F_slice_53 rfl (isRd_ownx 5)) rfl rfl rfl (eq_t c12) rfl rfl ?_
 refine ent_value_on (ov_bin rfl rfl (b_eql _ _ _)) rfl rfl rfl (eq_t c12) rfl rfl ?_
 refine ent_value (ov_pick rfl rfl rfl (pick_t (eq_t c12))) rfl rfl rfl (ent_value (ov_move rfl) rfl rfl rfl ?_)
 refine htF H (fun c13 H => ?_) fun c13 H => ?_
 ·refine ent_off rfl rfl rfl (eq_f c13) rfl rfl ?_
  refine ent_off rfl rfl rfl (eq_f c13) rfl rfl ?_
  refine ent_off rfl rfl rfl (eq_f c13) rfl rfl ?_
  refine ent_off rfl rfl rfl (eq_f c13) rfl rfl ?_
  refine ent_value (ov_pick rfl rfl rfl (pick_f (eq_f c13))) rfl rfl rfl (ent_value (ov_move rfl) rfl rfl rfl ?_)
  refine ent_off rfl rfl rfl rfl rfl rfl ?_
  refine ent_off rfl rfl rfl rfl rfl rfl ?_
  refine ent_off rfl rfl rfl rfl rfl rfl ?_
  refine ent_off rfl rfl rfl rfl rfl rfl ?_
  refine ent_value (ov_pick rfl rfl rfl rfl) rfl rfl rfl (ent_value (ov_move rfl) rfl rfl rfl ?_)
  refine ent_off rfl rfl rfl rfl rfl rfl ?_
  refine ent_off rfl rfl rfl rfl rfl rfl ?_
  refine ent_off rfl rfl rfl rfl rfl rfl ?_
  refine ent_off rfl rfl rfl rfl rfl rfl ?_
  refine ent_value (ov_pick rfl rfl rfl rfl) rfl rfl rfl (ent_value (ov_move rfl) rfl rfl rfl ?_)
  refine ent_off rfl rfl rfl rfl rfl rfl ?_
  refine ent_off rfl rfl rfl rfl rfl rfl ?_
  refine ent_off rfl rfl rfl rfl rfl rfl ?_
  refine ent_off rfl rfl rfl rfl rfl rfl ?_
  refine ent_value (ov_pick rfl rfl rfl rfl) rfl rfl rfl (ent_value (ov_move rfl) rfl rfl rfl ?_)
  refine ent_off rfl rfl rfl rfl rfl rfl ?_
  refine ent_off rfl rfl rfl rfl rfl rfl ?_
  refine ent_off rfl rfl rfl rfl rfl rfl ?_
  refine ent_off rfl rfl rfl rfl rfl rfl ?_
  refine ent_value (ov_pick rfl rfl rfl rfl) rfl rfl rfl (ent_value (ov_assign rfl) rfl rfl rfl (ent_nil (ent_retc ?_)))
  cases H
  refine ent_pick [] (by decide) rfl ?_
  exact ret_tmp rfl rfl ⟨rfl,rfl⟩
 refine ent_value_on (ov_move rfl) rfl rfl rfl (eq_t c13) rfl rfl ?_
 obtain ⟨c14,H⟩ := gdT H
 refine ent_value_on (ov_indexAddr (sz := 0) 1 rfl rfl F_slice_53 F_size_5 rfl (isRd_ownx 5) (by decide) c14) rfl rfl rfl (eq_t c13) rfl rfl ?_
 refine ent_value_on (ov_load (v := (int .u8 (x2.2.getD ((0 : Int).toNat) 0))) rfl F_agg_5 (reads_rd (i := 1) rfl (isRd_ownx 5) (by simp) (fl_read0 (eI_len _) (ix_lt (by decide) c14) rfl))) rfl rfl rfl (eq_t c13) rfl rfl ?_
 refine ent_value_on (ov_bin rfl rfl (b_eql _ _ _)) rfl rfl rfl (eq_t c13) rfl rfl ?_
 refine ent_value (ov_pick rfl rfl rfl (pick_t (eq_t c13))) rfl rfl rfl (ent_value (ov_move rfl) rfl rfl rfl ?_)
 refine htF H (fun c15 H => ?_) fun c15 H => ?_
 ·refine ent_off rfl rfl rfl (eq_f c15) rfl rfl ?_
  refine ent_off rfl rfl rfl (eq_f c15) rfl rfl ?_
  refine ent_off rfl rfl rfl (eq_f c15) rfl rfl ?_
  refine ent_off rfl rfl rfl (eq_f c15) rfl rfl ?_
  refine ent_value (ov_pick rfl rfl rfl (pick_f (eq_f c15))) rfl rfl rfl (ent_value (ov_move rfl) rfl rfl rfl ?_)
  refine ent_off rfl rfl rfl rfl rfl rfl ?_
  refine ent_off rfl rfl rfl rfl rfl rfl ?_
  refine ent_off rfl rfl rfl rfl rfl rfl ?_
  refine ent_off rfl rfl rfl rfl rfl rfl ?_
  refine ent_value (ov_pick rfl rfl rfl rfl) rfl rfl rfl (ent_value (ov_move rfl) rfl rfl rfl ?_)
  refine ent_off rfl rfl rfl rfl rfl rfl ?_
  refine ent_off rfl rfl rfl rfl rfl rfl ?_
  refine ent_off rfl rfl rfl rfl rfl rfl ?_
  refine ent_off rfl rfl rfl rfl rfl rfl ?_
  refine ent_value (ov_pick rfl rfl rfl rfl) rfl rfl rfl (ent_value (ov_move rfl) rfl rfl rfl ?_)
  refine ent_off rfl rfl rfl rfl rfl rfl ?_
  refine ent_off rfl rfl rfl rfl rfl rfl ?_
  refine ent_off rfl rfl rfl rfl rfl rfl ?_
  refine ent_off rfl rfl rfl rfl rfl rfl ?_
  refine ent_value (ov_pick rfl rfl rfl rfl) rfl rfl rfl (ent_value (ov_assign rfl) rfl rfl rfl (ent_nil (ent_retc ?_)))
  cases H
  refine ent_pick [] (by decide) rfl ?_
  exact ret_tmp rfl rfl ⟨rfl,rfl⟩
 refine ent_value_on (ov_move rfl) rfl rfl rfl (eq_t c15) rfl rfl ?_
 obtain ⟨c16,H⟩ := gdT H
 refine ent_value_on (ov_indexAddr (sz := 0) 1 rfl rfl F_slice_53 F_size_5 rfl (isRd_ownx 5) (by decide) c16) rfl rfl rfl (eq_t c15) rfl rfl ?_
 refine ent_value_on (ov_load (v := (int .u8 (x2.2.getD ((1 : Int).toNat) 0))) rfl F_agg_5 (reads_rd (i := 1) rfl (isRd_ownx 5) (by simp) (fl_read0 (eI_len _) (ix_lt (by decide) c16) rfl))) rfl rfl rfl (eq_t c15) rfl rfl ?_
 refine ent_value_on (ov_bin rfl rfl (b_eql _ _ _)) rfl rfl rfl (eq_t c15) rfl rfl ?_
 refine ent_value (ov_pick rfl rfl rfl (pick_t (eq_t c15))) rfl rfl rfl (ent_value (ov_move rfl) rfl rfl rfl ?_)
 refine htF H (fun c17 H => ?_) fun c17 H => ?_
 ·refine ent_off rfl rfl rfl (eq_f c17) rfl rfl ?_
  refine ent_off rfl rfl rfl (eq_f c17) rfl rfl ?_
  refine ent_off rfl rfl rfl (eq_f c17) rfl rfl ?_
  refine ent_off rfl rfl rfl (eq_f c17) rfl rfl ?_
  refine ent_value (ov_pick rfl rfl rfl (pick_f (eq_f c17))) rfl rfl rfl (ent_value (ov_move rfl) rfl rfl rfl ?_)
  refine ent_off rfl rfl rfl rfl rfl rfl ?_
  refine ent_off rfl rfl rfl rfl rfl rfl ?_
  refine ent_off rfl rfl rfl rfl rfl rfl ?_
  refine ent_off rfl rfl rfl rfl rfl rfl ?_
  refine ent_value (ov_pick rfl rfl rfl rfl) rfl rfl rfl (ent_value (ov_move rfl) rfl rfl rfl ?_)
  refine ent_off rfl rfl rfl rfl rfl rfl ?_
  refine ent_off rfl rfl rfl rfl rfl rfl ?_
  refine ent_off rfl rfl rfl rfl rfl rfl ?_
  refine ent_off rfl rfl rfl rfl rfl rfl ?_
  refine ent_value (ov_pick rfl rfl rfl rfl) rfl rfl rfl (ent_value (ov_assign rfl) rfl rfl rfl (ent_nil (ent_retc ?_)))
  cases H
  refine ent_pick [] (by decide) rfl ?_
  exact ret_tmp rfl rfl ⟨rfl,rfl⟩
 refine ent_value_on (ov_move rfl) rfl rfl rfl (eq_t c17) rfl rfl ?_
 obtain ⟨c18,H⟩ := gdT H
 refine ent_value_on (ov_indexAddr (sz := 0) 1 rfl rfl F_slice_53 F_size_5 rfl (isRd_ownx 5) (by decide) c18) rfl rfl rfl (eq_t c17) rfl rfl ?_
 refine ent_value_on (ov_load (v := (int .u8 (x2.2.getD ((2 : Int).toNat) 0))) rfl F_agg_5 (reads_rd (i := 1) rfl (isRd_ownx 5) (by simp) (fl_read0 (eI_len _) (ix_lt (by decide) c18) rfl))) rfl rfl rfl (eq_t c17) rfl rfl ?_
 refine ent_value_on (ov_bin rfl rfl (b_eql _ _ _)) rfl rfl rfl (eq_t c17) rfl rfl ?_
 refine ent_value (ov_pick rfl rfl rfl (pick_t (eq_t c17))) rfl rfl rfl (ent_value (ov_move rfl) rfl rfl rfl ?_)
 refine htF H (fun c19 H => ?_) fun c19 H => ?_
 ·refine ent_off rfl rfl rfl (eq_f c19) rfl rfl ?_
  refine ent_off rfl rfl rfl (eq_f c19) rfl rfl ?_
  refine ent_off rfl rfl rfl (eq_f c19) rfl rfl ?_
  refine ent_off rfl rfl rfl (eq_f c19) rfl rfl ?_
  refine ent_value (ov_pick rfl rfl rfl (pick_f (eq_f c19))) rfl rfl rfl (ent_value (ov_move rfl) rfl rfl rfl ?_)
  refine ent_off rfl rfl rfl rfl rfl rfl ?_
  refine ent_off rfl rfl rfl rfl rfl rfl ?_
  refine ent_off rfl rfl rfl rfl rfl rfl ?_
  refine ent_off rfl rfl rfl rfl rfl rfl ?_
  refine ent_value (ov_pick rfl rfl rfl rfl) rfl rfl rfl (ent_value (ov_assign rfl) rfl rfl rfl (ent_nil (ent_retc ?_)))
  cases H
  refine ent_pick [] (by decide) rfl ?_
  exact ret_tmp rfl rfl ⟨rfl,rfl⟩
 refine ent_value_on (ov_move rfl) rfl rfl rfl (eq_t c19) rfl rfl ?_
 obtain ⟨c20,H⟩ := gdT H
 refine ent_value_on (ov_indexAddr (sz := 0) 1 rfl rfl F_slice_53 F_size_5 rfl (isRd_ownx 5) (by decide) c20) rfl rfl rfl (eq_t c19) rfl rfl ?_
 refine ent_value_on (ov_load (v := (int .u8 (x2.2.getD ((3 : Int).toNat) 0))) rfl F_agg_5 (reads_rd (i := 1) rfl (isRd_ownx 5) (by simp) (fl_read0 (eI_len _) (ix_lt (by decide) c20) rfl))) rfl rfl rfl (eq_t c19) rfl rfl ?_
 refine ent_value_on (ov_bin rfl rfl (b_eql _ _ _)) rfl rfl rfl (eq_t c19) rfl rfl ?_
 refine ent_value (ov_pick rfl rfl rfl (pick_t (eq_t c19))) rfl rfl rfl (ent_value (ov_move rfl) rfl rfl rfl ?_)
 refine htF H (fun c21 H => ?_) fun c21 H => ?_
 ·refine ent_off rfl rfl rfl (eq_f c21) rfl rfl ?_
  refine ent_off rfl rfl rfl (eq_f c21) rfl rfl ?_
  refine ent_off rfl rfl rfl (eq_f c21) rfl rfl ?_
  refine ent_off rfl rfl rfl (eq_f c21) rfl rfl ?_
  refine ent_value (ov_pick rfl rfl rfl (pick_f (eq_f c21))) rfl rfl rfl (ent_value (ov_assign rfl) rfl rfl rfl (ent_nil (ent_retc ?_)))
  cases H
  refine ent_pick [] (by decide) rfl ?_
  exact ret_tmp rfl rfl ⟨rfl,rfl⟩
 refine ent_value_on (ov_move rfl) rfl rfl rfl (eq_t c21) rfl rfl ?_
 obtain ⟨c22,H⟩ := gdT H
 refine ent_value_on (ov_indexAddr (sz := 0) 1 rfl rfl F_slice_53 F_size_5 rfl (isRd_ownx 5) (by decide) c22) rfl rfl rfl (eq_t c21) rfl rfl ?_
 refine ent_value_on (ov_load (v := (int .u8 (x2.2.getD ((4 : Int).toNat) 0))) rfl F_agg_5 (reads_rd (i := 1) rfl (isRd_ownx 5) (by simp) (fl_read0 (eI_len _) (ix_lt (by decide) c22) rfl))) rfl rfl rfl (eq_t c21) rfl rfl ?_
 refine ent_value_on (ov_bin rfl rfl (b_eql _ _ _)) rfl rfl rfl (eq_t c21) rfl rfl ?_
 refine ent_value (ov_pick rfl rfl rfl (pick_t (eq_t c21))) rfl rfl rfl (ent_value (ov_assign rfl) rfl rfl rfl (ent_nil (ent_retc ?_)))
 cases H
 refine ent_pick [] (by decide) rfl ?_
 exact ret_tmp rfl rfl ⟨rfl,rfl⟩

theorem cell_size.spec (a0 r : Int) (H : cell_size a0 = r) : FnSpec Try.prog 52 [I a0] [] (fun v M => v = (int .u64 r) ∧ M = []) := by
 unfold cell_size at H
 refine spec_of Try.func52 rfl 12 rfl (Nat.le_of_ble_eq_true rfl) fun F w0 => ?_
 show Ent (St 12 w0 F [(0,I a0)] []) _
 refine ent_seq (ent_region (ent_value (ov_assign rfl) rfl rfl rfl (ent_nil (ent_seq (ent_region (ent_value (ov_move rfl) rfl rfl rfl ?_))))))
 refine ent_value (ov_bin rfl rfl fun w => b_shr _ _ _ _ w (by decide)) rfl rfl rfl ?_
 refine ent_value (ov_assign rfl) rfl rfl rfl (ent_nil (ent_seq (ent_region (ent_value (ov_move rfl) rfl rfl rfl (ent_value (ov_move rfl) rfl rfl rfl (ent_value (ov_bin rfl rfl (b_xor _ _ _)) rfl rfl rfl (ent_value (ov_move rfl) rfl rfl rfl (ent_value (ov_bin rfl rfl (b_sub _ _ _) ) rfl rfl rfl (ent_value (ov_convert rfl (c_int Try.underlying2 Try.underlying88)) rfl rfl rfl (ent_value (ov_assign rfl) rfl rfl rfl (ent_nil ?_)))))))))))
 refine ent_retc ?_
 cases H
 refine ent_pick [] (by decide) rfl ?_
 exact ret_tmp rfl rfl ⟨rfl,rfl⟩

theorem cell_Weight_R.spec (K : Nat) (sv0 : Value) (A0 : HP) (l0 : List Int) (hA0 : IsRd A0 sv0 l0.length 1 (fl (eI .i64) l0)) (r : (Int × Bool)) (H : cell_Weight_R K l0 = some r) : FnSpec Try.prog 27 [sv0] [A0] (fun v M => v = (tU #[I r.1,bool r.2]) ∧ M = [A0]) := by
 unfold cell_Weight_R at H
 refine spec_of Try.func27 rfl 22 rfl (Nat.le_of_ble_eq_true rfl) fun F w0 => ?_
 show Ent (St 22 w0 F [(0,sv0)] [A0]) _
 refine ent_seq (ent_region (ent_value (ov_assign rfl) rfl rfl rfl (ent_value (ov_assign rfl) rfl rfl rfl (ent_nil (ent_seq (ent_region (ent_value (ov_assign rfl) rfl rfl rfl (ent_nil (ent_seq (ent_seq (ent_region ?_)))))))))))
 refine ent_value (ov_move rfl) rfl rfl rfl (ent_value (ov_len 0 rfl F_slice_28 rfl hA0) rfl rfl rfl (ent_value (ov_move rfl) rfl rfl rfl (ent_nil (ent_block ?_))))
 refine ent_loop (fun k a w => ∃ i8,∃ i9,cell_Weight_R_l0 K l0 k i8 i9 = some r ∧ St 22 w0 F [(4,int .u64 i8),(7,sv0),(8,I (l0.length : Int)),(9,I i9)] [A0] a w) K ?_ ?_
 ·exact ent_fin [0] (by decide) rfl (sub_cons (t := 4) rfl (sub_cons (t := 7) rfl (sub_cons (t := 8) rfl (sub_cons (t := 9) rfl (sub_nil _))))) fun a w h => ⟨_,_,H,h⟩
 ·refine fun k => ent_exi fun i8 => ent_exi fun i9 => ent_and fun H4 => ?_
  cases k with
  | zero => exact absurd H4 (by simp [cell_Weight_R_l0])
  | succ k =>
   rw [cell_Weight_R_l0] at H4
   refine ent_seq (ent_region (ent_value (ov_bin rfl rfl (b_lss _ _ _)) rfl rfl rfl (ent_nil (ent_seq ?_))))
   refine htF H4 (fun c60 H4 => ?_) fun c60 H4 => ?_
   ·refine ent_cond_false rfl (decide_eq_false c60) (ent_exit (ent_seq (ent_region (ent_value (ov_move rfl) rfl rfl rfl (ent_value (ov_convert rfl (c_int Try.underlying88 Try.underlying2)) rfl rfl rfl (ent_value (ov_assign rfl) rfl rfl rfl (ent_value (ov_assign rfl) rfl rfl rfl (ent_nil (ent_retc ?_)))))))))
    cases H4
    refine ent_pick [0] (by decide) rfl ?_
    exact ret_mem (vs := [I (w64 i8),bool true]) rfl ⟨rfl,⟨rfl,trivial⟩⟩ _ rfl ⟨rfl,rfl⟩
   refine ent_cond_true rfl (decide_eq_true c60) (ent_skip (ent_seq (ent_block (ent_seq (ent_region ?_)))))
   obtain ⟨c63,H4⟩ := gdT H4
   refine ent_value (ov_indexAddr (sz := 0) 0 rfl rfl F_slice_28 F_size_2 rfl hA0 c63 c60) rfl rfl rfl ?_
   refine ent_value (ov_load (v := (I (l0.getD i9.toNat 0))) rfl F_agg_2 (reads_rd (i := 0) rfl hA0 (by simp) (fl_read0 (eI_len _) (ix_lt c63 c60) rfl))) rfl rfl rfl ?_
   refine ent_value (ov_assign rfl) rfl rfl rfl (ent_nil (ent_seq (ent_region (ent_value (ov_move rfl) rfl rfl rfl (ent_value (ov_move rfl) rfl rfl rfl ?_)))))
   obtain ⟨x24,h24,H4⟩ := thn_elim H4
   refine ent_op (ot_call0 (first := []) (cap := []) (xs := [.tmp 14]) rfl rfl F_call_52 rfl (cell_size.spec (l0.getD i9.toNat 0) _ h24)) rfl rfl rfl ?_
   rintro _ _ ⟨rfl,rfl⟩
   refine ent_value (ov_bin rfl rfl (b_add _ _ _) ) rfl rfl rfl (ent_value (ov_assign rfl) rfl rfl rfl (ent_nil (ent_seq (ent_region (ent_value (ov_move rfl) rfl rfl rfl (ent_value (ov_bin rfl rfl (b_gtr _ _ _)) rfl rfl rfl (ent_nil ?_)))))))
   refine htT H4 (fun c64 H4 => ?_) fun c64 H4 => ?_
   ·refine ent_cond_true rfl (decide_eq_true c64) (ent_seq (ent_region (ent_value (ov_assign rfl) rfl rfl rfl (ent_value (ov_assign rfl) rfl rfl rfl (ent_nil (ent_retc ?_))))))
    cases H4
    refine ent_pick [0] (by decide) rfl ?_
    exact ret_mem (vs := [I 0,B0]) rfl ⟨rfl,⟨rfl,trivial⟩⟩ _ rfl ⟨rfl,rfl⟩
   refine ent_cond_false rfl (decide_eq_false c64) (ent_skip (ent_region (ent_value (ov_bin rfl rfl (b_add _ _ _) ) rfl rfl rfl (ent_value (ov_move rfl) rfl rfl rfl (ent_nil ?_)))))
   exact ent_fin [0] (by decide) rfl (sub_cons (t := 4) rfl (sub_cons (t := 7) rfl (sub_cons (t := 8) rfl (sub_cons (t := 9) rfl (sub_nil _))))) fun a w h => ⟨k,Nat.lt_succ_self k,_,_,H4,h⟩

theorem fact_Weight_R.spec (K : Nat) (sv0 : Value) (A0 : HP) (l0 : List Api_Fact) (hA0 : IsRd A0 sv0 l0.length 6 (fl enc_Api_Fact l0)) (r : (Int × Bool)) (H : fact_Weight_R K l0 = some r) : FnSpec Try.prog 7 [sv0] [A0] (fun v M => v = (tU #[I r.1,bool r.2]) ∧ M = [A0]) := by
 unfold fact_Weight_R at H
 refine spec_of Try.func7 rfl 23 rfl (Nat.le_of_ble_eq_true rfl) fun F w0 => ?_
 show Ent (St 23 w0 F [(0,sv0)] [A0]) _
 refine ent_seq (ent_region (ent_value (ov_assign rfl) rfl rfl rfl (ent_value (ov_assign rfl) rfl rfl rfl (ent_nil (ent_seq (ent_region (ent_value (ov_assign rfl) rfl rfl rfl (ent_nil ?_))))))))
 obtain ⟨x3,H5,H⟩ := Option.bind_eq_some_iff.1 H
 refine ent_seq_cut (fun a w => ∃ sv41 : Value,St 23 w0 F [(4,sv41)] [A0,own sv41 2 1 x3.length (fl (eI .i64) x3)] a w) ?_ ?_
 ·refine ent_seq (ent_region (ent_value (ov_move rfl) rfl rfl rfl (ent_value (ov_len 0 rfl F_slice_22 rfl hA0) rfl rfl rfl (ent_value (ov_move rfl) rfl rfl rfl (ent_nil (ent_block ?_))))))
  refine ent_loop (fun k a w => ∃ i4,∃ l6,∃ sv46 : Value,fact_Weight_R_l0 K l0 k i4 l6 = some x3 ∧ St 23 w0 F [(4,sv46),(7,sv0),(8,I (l0.length : Int)),(9,I i4)] [A0,own sv46 2 1 l6.length (fl (eI .i64) l6)] a w) K ?_ ?_
  ·refine ent_ownnil 2 1 ?_
   exact ent_fin [1,0] (by decide) rfl (sub_cons (t := 4) rfl (sub_cons (t := 7) rfl (sub_cons (t := 8) rfl (sub_cons (t := 9) rfl (sub_nil _))))) fun a w h => ⟨_,_,_,H5,h⟩
  ·refine fun k => ent_exi fun i4 => ent_exi fun l6 => ent_exi fun sv46 => ent_and fun H6 => ?_
   let C0_ : List Value := [I (((l0.getD i4.toNat z_Api_Fact).Key).Hour),str (((l0.getD i4.toNat z_Api_Fact).Key).Dims_0),str (((l0.getD i4.toNat z_Api_Fact).Key).Dims_1),str (((l0.getD i4.toNat z_Api_Fact).Key).Dims_2),str (((l0.getD i4.toNat z_Api_Fact).Key).Dims_3),I ((l0.getD i4.toNat z_Api_Fact).Value)]
   cases k with
   | zero => exact absurd H6 (by simp [C0_,fact_Weight_R_l0])
   | succ k =>
    rw [fact_Weight_R_l0] at H6
    refine ent_seq (ent_region (ent_value (ov_bin rfl rfl (b_lss _ _ _)) rfl rfl rfl (ent_nil (ent_seq ?_))))
    refine htF H6 (fun c60 H6 => ?_) fun c60 H6 => ?_
    ·refine ent_cond_false rfl (decide_eq_false c60) (ent_exit ?_)
     cases H6
     exact ent_fin [0,1] (by decide) rfl (sub_cons (t := 4) rfl (sub_nil _)) fun a w h => ⟨_,h⟩
    refine ent_cond_true rfl (decide_eq_true c60) (ent_skip (ent_seq (ent_block (ent_seq (ent_region ?_)))))
    obtain ⟨c63,H6⟩ := gdT H6
    refine ent_value (ov_indexAddr (sz := 5) 0 rfl rfl F_slice_22 F_size_52 rfl hA0 c63 c60) rfl rfl rfl ?_
    refine ent_value (ov_load_agg (vs := C0_) rfl F_agg_52 F_size_52 (reads_rd (i := 0) rfl hA0 (by simp [C0_]) (fl_read0 enc_Api_Fact_len (ix_lt c63 c60) rfl))) rfl rfl rfl ?_
    refine ent_op (ot_alloc F_zero_52) rfl rfl rfl ?_
    rintro _ _ ⟨b24,rfl,rfl⟩
    refine ent_op0 (ot_storeG (cs := [I 0,S0,S0,S0,S0,I 0]) (cs' := C0_) (us := C0_) (L' := [box b24 52 C0_,A0,own sv46 2 1 l6.length (fl (eI .i64) l6)]) 0 rfl rfl rfl (one_all rfl) F_size_52 rfl rfl (by simp [C0_]) rfl) rfl rfl ?_
    rintro _ _ rfl
    refine ent_nil (ent_region (ent_value (ov_move rfl) rfl rfl rfl (ent_value (ov_fieldAddr (sz := 0) (o := 0) rfl F_field_52_1 F_size_2) rfl rfl rfl (ent_value (ov_load (v := (I ((l0.getD i4.toNat z_Api_Fact).Value))) rfl F_agg_2 (reads_box1 (i := 0) rfl rfl)) rfl rfl rfl ?_))))
    refine ent_op (ot_buildSlice (sz := 0) (xs := [.tmp 15]) (cs := fl (eI .i64) [(l0.getD i4.toNat z_Api_Fact).Value]) rfl rfl F_slice_28 F_size_2 F_zero_2 rfl rfl (all_size rfl) rfl (by decide)) rfl rfl rfl ?_
    rintro sv53 _ rfl
    obtain ⟨c64,H6⟩ := gdT H6
    refine ent_op (ot_appendx (sz := 0) (xs := l6) (ys := [(l0.getD i4.toNat z_Api_Fact).Value]) 3 0 rfl rfl F_slice_28 F_size_2 F_zero_2 rfl F_bytes_2 rfl rfl rfl (isRd_ownx 2) rfl (eI_one _) c64) rfl rfl rfl ?_
    rintro sv54 _ rfl
    refine ent_L [own sv53 2 1 [(l0.getD i4.toNat z_Api_Fact).Value].length (fl (eI .i64) [(l0.getD i4.toNat z_Api_Fact).Value]),box b24 52 C0_,A0,own sv54 2 1 (l6 ++ [(l0.getD i4.toNat z_Api_Fact).Value]).length (fl (eI .i64) (l6 ++ [(l0.getD i4.toNat z_Api_Fact).Value]))] rfl ?_
    refine ent_value (ov_assign rfl) rfl rfl rfl (ent_nil (ent_region (ent_value (ov_bin rfl rfl (b_add _ _ _) ) rfl rfl rfl (ent_value (ov_move rfl) rfl rfl rfl (ent_nil ?_)))))
    exact ent_fin [2,3] (by decide) rfl (sub_cons (t := 4) rfl (sub_cons (t := 7) rfl (sub_cons (t := 8) rfl (sub_cons (t := 9) rfl (sub_nil _))))) fun a w h => ⟨k,Nat.lt_succ_self k,_,_,_,H6,h⟩
 ·refine ent_exi fun sv41 => ?_
  refine ent_seq (ent_region (ent_value (ov_move rfl) rfl rfl rfl ?_))
  obtain ⟨x4,h2,H⟩ := Option.bind_eq_some_iff.1 H
  refine ent_op (ot_call_same (Lr := [A0]) [1,0] [1,0] (first := []) (cap := []) (xs := [.tmp 19]) rfl rfl F_call_27 rfl (cell_Weight_R.spec K sv41 (own sv41 2 1 x3.length (fl (eI .i64) x3)) x3 (isRd_ownx 2) _ h2) (by decide) rfl (by decide) rfl) rfl rfl rfl ?_
  rintro _ _ ⟨rfl,rfl⟩
  refine ent_value (ov_extract rfl rfl) rfl rfl rfl (ent_value (ov_extract rfl rfl) rfl rfl rfl (ent_value (ov_assign rfl) rfl rfl rfl (ent_value (ov_assign rfl) rfl rfl rfl (ent_nil (ent_retc ?_)))))
  cases H
  refine ent_pick [0] (by decide) rfl ?_
  exact ret_mem (vs := [I x4.1,bool x4.2]) rfl ⟨rfl,⟨rfl,trivial⟩⟩ _ rfl ⟨rfl,rfl⟩

theorem ossuaryref05_Size.spec (a0 r : Int) (H : ossuaryref05_Size a0 = r) : FnSpec Try.prog 53 [I a0] [] (fun v M => v = (I r) ∧ M = []) := by
 unfold ossuaryref05_Size at H
 refine spec_of Try.func53 rfl 14 rfl (Nat.le_of_ble_eq_true rfl) fun F w0 => ?_
 show Ent (St 14 w0 F [(0,I a0)] []) _
 refine ent_seq (ent_region (ent_value (ov_assign rfl) rfl rfl rfl (ent_nil (ent_seq (ent_seq (ent_region (ent_value (ov_move rfl) rfl rfl rfl (ent_value (ov_bin rfl rfl (b_gtr _ _ _)) rfl rfl rfl (ent_value (ov_move rfl) rfl rfl rfl ?_)))))))))
 refine htT H (fun c9 H => ?_) fun c9 H => ?_
 ·refine ent_off rfl rfl rfl (decide_eq_true c9) rfl rfl ?_
  refine ent_off rfl rfl rfl (decide_eq_true c9) rfl rfl ?_
  refine ent_value (ov_pick rfl rfl rfl (pick_t (decide_eq_true c9))) rfl rfl rfl (ent_nil (ent_cond_true rfl rfl (ent_seq (ent_region (ent_value (ov_assign rfl) rfl rfl rfl (ent_nil (ent_retc ?_)))))))
  cases H
  refine ent_pick [] (by decide) rfl ?_
  exact ret_tmp rfl rfl ⟨rfl,rfl⟩
 refine ent_value_on (ov_move rfl) rfl rfl rfl (decide_eq_false c9) rfl rfl ?_
 refine ent_value_on (ov_bin rfl rfl (b_lss _ _ _)) rfl rfl rfl (decide_eq_false c9) rfl rfl ?_
 refine ent_value (ov_pick rfl rfl rfl (pick_f (decide_eq_false c9))) rfl rfl rfl (ent_nil ?_)
 refine htT H (fun c10 H => ?_) fun c10 H => ?_
 ·refine ent_cond_true rfl (decide_eq_true c10) (ent_seq (ent_region (ent_value (ov_assign rfl) rfl rfl rfl (ent_nil (ent_retc ?_)))))
  cases H
  refine ent_pick [] (by decide) rfl ?_
  exact ret_tmp rfl rfl ⟨rfl,rfl⟩
 refine ent_cond_false rfl (decide_eq_false c10) (ent_skip (ent_seq (ent_seq (ent_region (ent_value (ov_move rfl) rfl rfl rfl (ent_value (ov_bin rfl rfl (b_lss _ _ _)) rfl rfl rfl (ent_nil ?_)))))))
 refine htF H (fun c12 H => ?_) fun c12 H => ?_
 ·refine ent_cond_false rfl (decide_eq_false c12) (ent_skip (ent_seq (ent_region (ent_value (ov_move rfl) rfl rfl rfl (ent_value (ov_assign rfl) rfl rfl rfl (ent_nil (ent_retc ?_)))))))
  cases H
  refine ent_pick [] (by decide) rfl ?_
  exact ret_tmp rfl rfl ⟨rfl,rfl⟩
 refine ent_cond_true rfl (decide_eq_true c12) (ent_seq (ent_region (ent_value (ov_move rfl) rfl rfl rfl (ent_value (ov_un rfl (u_neg _ _)) rfl rfl rfl (ent_value (ov_assign rfl) rfl rfl rfl (ent_nil (ent_retc ?_)))))))
 cases H
 refine ent_pick [] (by decide) rfl ?_
 exact ret_tmp rfl rfl ⟨rfl,rfl⟩

theorem ossuaryref05_Weight_R.spec (K : Nat) (sv0 : Value) (A0 : HP) (l0 : List Int) (hA0 : IsRd A0 sv0 l0.length 1 (fl (eI .i64) l0)) (r : (Int × Bool)) (H : ossuaryref05_Weight_R K l0 = some r) : FnSpec Try.prog 28 [sv0] [A0] (fun v M => v = (tU #[I r.1,bool r.2]) ∧ M = [A0]) := by
 unfold ossuaryref05_Weight_R at H
 refine spec_of Try.func28 rfl 28 rfl (Nat.le_of_ble_eq_true rfl) fun F w0 => ?_
 show Ent (St 28 w0 F [(0,sv0)] [A0]) _
 refine ent_seq (ent_region (ent_value (ov_assign rfl) rfl rfl rfl (ent_value (ov_assign rfl) rfl rfl rfl (ent_nil (ent_seq (ent_region (ent_value (ov_assign rfl) rfl rfl rfl (ent_nil (ent_seq (ent_seq (ent_region ?_)))))))))))
 refine ent_value (ov_assign rfl) rfl rfl rfl (ent_nil (ent_block ?_))
 refine ent_loop (fun k a w => ∃ i8,∃ i9,ossuaryref05_Weight_R_l0 K l0 k i8 i9 = some r ∧ St 28 w0 F [(0,sv0),(4,I i8),(5,I i9)] [A0] a w) K ?_ ?_
 ·exact ent_fin [0] (by decide) rfl (sub_cons (t := 0) rfl (sub_cons (t := 4) rfl (sub_cons (t := 5) rfl (sub_nil _)))) fun a w h => ⟨_,_,H,h⟩
 ·refine fun k => ent_exi fun i8 => ent_exi fun i9 => ent_and fun H4 => ?_
  cases k with
  | zero => exact absurd H4 (by simp [ossuaryref05_Weight_R_l0])
  | succ k =>
   rw [ossuaryref05_Weight_R_l0] at H4
   refine ent_seq (ent_seq (ent_region (ent_value (ov_move rfl) rfl rfl rfl (ent_value (ov_move rfl) rfl rfl rfl (ent_value (ov_len 0 rfl F_slice_28 rfl hA0) rfl rfl rfl (ent_value (ov_bin rfl rfl (b_lss _ _ _)) rfl rfl rfl (ent_nil ?_)))))))
   refine htF H4 (fun c96 H4 => ?_) fun c96 H4 => ?_
   ·refine ent_cond_false rfl (decide_eq_false c96) (ent_exit (ent_seq (ent_region (ent_value (ov_move rfl) rfl rfl rfl (ent_value (ov_assign rfl) rfl rfl rfl (ent_value (ov_assign rfl) rfl rfl rfl (ent_nil (ent_retc ?_))))))))
    cases H4
    refine ent_pick [0] (by decide) rfl ?_
    exact ret_mem (vs := [I i8,bool true]) rfl ⟨rfl,⟨rfl,trivial⟩⟩ _ rfl ⟨rfl,rfl⟩
   refine ent_cond_true rfl (decide_eq_true c96) (ent_skip (ent_seq (ent_block (ent_seq (ent_seq (ent_region (ent_value (ov_move rfl) rfl rfl rfl (ent_value (ov_move rfl) rfl rfl rfl ?_))))))))
   obtain ⟨c103,H4⟩ := gdT H4
   refine ent_value (ov_indexAddr (sz := 0) 0 rfl rfl F_slice_28 F_size_2 rfl hA0 c103 c96) rfl rfl rfl ?_
   refine ent_value (ov_load (v := (I (l0.getD i9.toNat 0))) rfl F_agg_2 (reads_rd (i := 0) rfl hA0 (by simp) (fl_read0 (eI_len _) (ix_lt c103 c96) rfl))) rfl rfl rfl ?_
   obtain ⟨x71,h71,H4⟩ := thn_elim H4
   refine ent_op (ot_call0 (first := []) (cap := []) (xs := [.tmp 15]) rfl rfl F_call_53 rfl (ossuaryref05_Size.spec (l0.getD i9.toNat 0) _ h71)) rfl rfl rfl ?_
   rintro _ _ ⟨rfl,rfl⟩
   refine ent_value (ov_move rfl) rfl rfl rfl (ent_value (ov_bin rfl rfl (b_sub _ _ _) ) rfl rfl rfl (ent_value (ov_bin rfl rfl (b_gtr _ _ _)) rfl rfl rfl (ent_nil ?_)))
   refine htT H4 (fun c104 H4 => ?_) fun c104 H4 => ?_
   ·refine ent_cond_true rfl (decide_eq_true c104) (ent_seq (ent_region (ent_value (ov_assign rfl) rfl rfl rfl (ent_value (ov_assign rfl) rfl rfl rfl (ent_nil (ent_retc ?_))))))
    cases H4
    refine ent_pick [0] (by decide) rfl ?_
    exact ret_mem (vs := [I 0,B0]) rfl ⟨rfl,⟨rfl,trivial⟩⟩ _ rfl ⟨rfl,rfl⟩
   refine ent_cond_false rfl (decide_eq_false c104) (ent_skip (ent_region (ent_value (ov_move rfl) rfl rfl rfl (ent_value (ov_move rfl) rfl rfl rfl (ent_value (ov_move rfl) rfl rfl rfl (ent_value (ov_indexAddr (sz := 0) 0 rfl rfl F_slice_28 F_size_2 rfl hA0 c103 c96) rfl rfl rfl ?_))))))
   refine ent_value (ov_load (v := (I (l0.getD i9.toNat 0))) rfl F_agg_2 (reads_rd (i := 0) rfl hA0 (by simp) (fl_read0 (eI_len _) (ix_lt c103 c96) rfl))) rfl rfl rfl ?_
   obtain ⟨x72,h72,H4⟩ := thn_elim H4
   refine ent_op (ot_call0 (first := []) (cap := []) (xs := [.tmp 24]) rfl rfl F_call_53 rfl (ossuaryref05_Size.spec (l0.getD i9.toNat 0) _ h72)) rfl rfl rfl ?_
   rintro _ _ ⟨rfl,rfl⟩
   refine ent_value (ov_bin rfl rfl (b_add _ _ _) ) rfl rfl rfl (ent_value (ov_assign rfl) rfl rfl rfl (ent_nil (ent_region (ent_value (ov_move rfl) rfl rfl rfl (ent_value (ov_bin rfl rfl (b_add _ _ _) ) rfl rfl rfl (ent_value (ov_assign rfl) rfl rfl rfl (ent_nil ?_)))))))
   exact ent_fin [0] (by decide) rfl (sub_cons (t := 0) rfl (sub_cons (t := 4) rfl (sub_cons (t := 5) rfl (sub_nil _)))) fun a w h => ⟨k,Nat.lt_succ_self k,_,_,H4,h⟩

theorem ossuaryref09_Weight_R.spec (K : Nat) (sv0 : Value) (A0 : HP) (l0 : List Api_Fact) (hA0 : IsRd A0 sv0 l0.length 6 (fl enc_Api_Fact l0)) (r : (Int × Bool)) (H : ossuaryref09_Weight_R K l0 = some r) : FnSpec Try.prog 8 [sv0] [A0] (fun v M => v = (tU #[I r.1,bool r.2]) ∧ M = [A0]) := by
 unfold ossuaryref09_Weight_R at H
 refine spec_of Try.func8 rfl 24 rfl (Nat.le_of_ble_eq_true rfl) fun F w0 => ?_
 show Ent (St 24 w0 F [(0,sv0)] [A0]) _
 refine ent_seq (ent_region (ent_value (ov_assign rfl) rfl rfl rfl (ent_value (ov_assign rfl) rfl rfl rfl (ent_nil (ent_seq (ent_region (ent_value (ov_assign rfl) rfl rfl rfl (ent_nil ?_))))))))
 obtain ⟨x3,H5,H⟩ := Option.bind_eq_some_iff.1 H
 refine ent_seq_cut (fun a w => ∃ sv41 : Value,St 24 w0 F [(4,sv41)] [A0,own sv41 2 1 x3.length (fl (eI .i64) x3)] a w) ?_ ?_
 ·refine ent_seq (ent_region (ent_value (ov_assign rfl) rfl rfl rfl (ent_nil (ent_block ?_))))
  refine ent_loop (fun k a w => ∃ i4,∃ l6,∃ sv46 : Value,ossuaryref09_Weight_R_l0 K l0 k i4 l6 = some x3 ∧ St 24 w0 F [(0,sv0),(4,sv46),(5,I i4)] [A0,own sv46 2 1 l6.length (fl (eI .i64) l6)] a w) K ?_ ?_
  ·refine ent_ownnil 2 1 ?_
   exact ent_fin [1,0] (by decide) rfl (sub_cons (t := 0) rfl (sub_cons (t := 4) rfl (sub_cons (t := 5) rfl (sub_nil _)))) fun a w h => ⟨_,_,_,H5,h⟩
  ·refine fun k => ent_exi fun i4 => ent_exi fun l6 => ent_exi fun sv46 => ent_and fun H6 => ?_
   cases k with
   | zero => exact absurd H6 (by simp [ossuaryref09_Weight_R_l0])
   | succ k =>
    rw [ossuaryref09_Weight_R_l0] at H6
    refine ent_seq (ent_seq (ent_region (ent_value (ov_move rfl) rfl rfl rfl (ent_value (ov_move rfl) rfl rfl rfl (ent_value (ov_len 0 rfl F_slice_22 rfl hA0) rfl rfl rfl (ent_value (ov_bin rfl rfl (b_lss _ _ _)) rfl rfl rfl (ent_nil ?_)))))))
    refine htF H6 (fun c60 H6 => ?_) fun c60 H6 => ?_
    ·refine ent_cond_false rfl (decide_eq_false c60) (ent_exit ?_)
     cases H6
     exact ent_fin [0,1] (by decide) rfl (sub_cons (t := 4) rfl (sub_nil _)) fun a w h => ⟨_,h⟩
    refine ent_cond_true rfl (decide_eq_true c60) (ent_skip (ent_seq (ent_block (ent_region (ent_value (ov_move rfl) rfl rfl rfl (ent_value (ov_move rfl) rfl rfl rfl (ent_value (ov_move rfl) rfl rfl rfl ?_)))))))
    obtain ⟨c63,H6⟩ := gdT H6
    refine ent_value (ov_indexAddr (sz := 5) 0 rfl rfl F_slice_22 F_size_52 rfl hA0 c63 c60) rfl rfl rfl (ent_value (ov_fieldAddrE (sz := 0) (k0 := i4.toNat * 6) (off := 5) 0 rfl F_field_52_1 F_size_2 rfl hA0 (fl_pos enc_Api_Fact_len (ix_lt c63 c60))) rfl rfl rfl ?_)
    refine ent_value (ov_load (v := (I ((l0.getD i4.toNat z_Api_Fact).Value))) rfl F_agg_2 (reads_rd (i := 0) rfl hA0 (by simp) (fl_read (off := 5) enc_Api_Fact_len (ix_lt c63 c60) rfl))) rfl rfl rfl ?_
    refine ent_op (ot_buildSlice (sz := 0) (xs := [.tmp 17]) (cs := fl (eI .i64) [(l0.getD i4.toNat z_Api_Fact).Value]) rfl rfl F_slice_28 F_size_2 F_zero_2 rfl rfl (all_size rfl) rfl (by decide)) rfl rfl rfl ?_
    rintro sv53 _ rfl
    obtain ⟨c64,H6⟩ := gdT H6
    refine ent_op (ot_appendx (sz := 0) (xs := l6) (ys := [(l0.getD i4.toNat z_Api_Fact).Value]) 2 0 rfl rfl F_slice_28 F_size_2 F_zero_2 rfl F_bytes_2 rfl rfl rfl (isRd_ownx 2) rfl (eI_one _) c64) rfl rfl rfl ?_
    rintro sv54 _ rfl
    refine ent_L [own sv53 2 1 [(l0.getD i4.toNat z_Api_Fact).Value].length (fl (eI .i64) [(l0.getD i4.toNat z_Api_Fact).Value]),A0,own sv54 2 1 (l6 ++ [(l0.getD i4.toNat z_Api_Fact).Value]).length (fl (eI .i64) (l6 ++ [(l0.getD i4.toNat z_Api_Fact).Value]))] rfl ?_
    refine ent_value (ov_assign rfl) rfl rfl rfl (ent_nil (ent_region (ent_value (ov_move rfl) rfl rfl rfl (ent_value (ov_bin rfl rfl (b_add _ _ _) ) rfl rfl rfl (ent_value (ov_assign rfl) rfl rfl rfl (ent_nil ?_))))))
    exact ent_fin [1,2] (by decide) rfl (sub_cons (t := 0) rfl (sub_cons (t := 4) rfl (sub_cons (t := 5) rfl (sub_nil _)))) fun a w h => ⟨k,Nat.lt_succ_self k,_,_,_,H6,h⟩
 ·refine ent_exi fun sv41 => ?_
  refine ent_seq (ent_region (ent_value (ov_move rfl) rfl rfl rfl ?_))
  obtain ⟨x4,h2,H⟩ := Option.bind_eq_some_iff.1 H
  refine ent_op (ot_call_same (Lr := [A0]) [1,0] [1,0] (first := []) (cap := []) (xs := [.tmp 20]) rfl rfl F_call_28 rfl (ossuaryref05_Weight_R.spec K sv41 (own sv41 2 1 x3.length (fl (eI .i64) x3)) x3 (isRd_ownx 2) _ h2) (by decide) rfl (by decide) rfl) rfl rfl rfl ?_
  rintro _ _ ⟨rfl,rfl⟩
  refine ent_value (ov_extract rfl rfl) rfl rfl rfl (ent_value (ov_extract rfl rfl) rfl rfl rfl (ent_value (ov_assign rfl) rfl rfl rfl (ent_value (ov_assign rfl) rfl rfl rfl (ent_nil (ent_retc ?_)))))
  cases H
  refine ent_pick [0] (by decide) rfl ?_
  exact ret_mem (vs := [I x4.1,bool x4.2]) rfl ⟨rfl,⟨rfl,trivial⟩⟩ _ rfl ⟨rfl,rfl⟩

theorem slices_Sort_____int64__int64.spec (sv0 : Value) (l0 : List Int) (r : List Int) (H : slices_Sort_____int64__int64 l0 = some r) : FnSpec Try.prog 29 [sv0] [own sv0 2 1 l0.length (fl (eI .i64) l0)] (fun v M => v = (tU #[]) ∧ M = [own sv0 2 1 r.length (fl (eI .i64) r)]) := by
 unfold slices_Sort_____int64__int64 at H
 split at H
 ·cases H
  exact sort_at sv0 l0 (by omega)
 ·cases H

theorem slices_Compact_____int64__int64.spec (sv0 : Value) (l0 : List Int) (r : List Int) (H : slices_Compact_____int64__int64 l0 = some r) : FnSpec Try.prog 30 [sv0] [own sv0 2 1 l0.length (fl (eI .i64) l0)] (fun v M => ∃ sv2 : Value,v = sv2 ∧ M = [own sv2 2 1 r.length (fl (eI .i64) r)]) := by
 unfold slices_Compact_____int64__int64 at H
 split at H
 ·cases H
  exact compact_at sv0 l0 (by omega)
 ·cases H

theorem fact_Hours_R.spec (K : Nat) (sv0 : Value) (A0 : HP) (l0 : List Api_Fact) (hA0 : IsRd A0 sv0 l0.length 6 (fl enc_Api_Fact l0)) (r : List Int) (H : fact_Hours_R K l0 = some r) : FnSpec Try.prog 10 [sv0] [A0] (fun v M => ∃ sv29 : Value,v = sv29 ∧ M = [A0,own sv29 2 1 r.length (fl (eI .i64) r)]) := by
 unfold fact_Hours_R at H
 refine spec_of Try.func10 rfl 22 rfl (Nat.le_of_ble_eq_true rfl) fun F w0 => ?_
 show Ent (St 22 w0 F [(0,sv0)] [A0]) _
 refine ent_seq (ent_region (ent_value (ov_assign rfl) rfl rfl rfl (ent_nil ?_)))
 obtain ⟨x4,H5,H⟩ := Option.bind_eq_some_iff.1 H
 refine ent_seq_cut (fun a w => ∃ sv43 : Value,St 22 w0 F [(2,sv43)] [A0,own sv43 2 1 x4.length (fl (eI .i64) x4)] a w) ?_ ?_
 ·refine ent_seq (ent_region (ent_value (ov_move rfl) rfl rfl rfl (ent_value (ov_len 0 rfl F_slice_22 rfl hA0) rfl rfl rfl (ent_value (ov_move rfl) rfl rfl rfl (ent_nil (ent_block ?_))))))
  refine ent_loop (fun k a w => ∃ i4,∃ l7,∃ sv48 : Value,fact_Hours_R_l0 K l0 k i4 l7 = some x4 ∧ St 22 w0 F [(2,sv48),(5,sv0),(6,I (l0.length : Int)),(7,I i4)] [A0,own sv48 2 1 l7.length (fl (eI .i64) l7)] a w) K ?_ ?_
  ·refine ent_ownnil 2 1 ?_
   exact ent_fin [1,0] (by decide) rfl (sub_cons (t := 2) rfl (sub_cons (t := 5) rfl (sub_cons (t := 6) rfl (sub_cons (t := 7) rfl (sub_nil _))))) fun a w h => ⟨_,_,_,H5,h⟩
  ·refine fun k => ent_exi fun i4 => ent_exi fun l7 => ent_exi fun sv48 => ent_and fun H6 => ?_
   let C0_ : List Value := [I (((l0.getD i4.toNat z_Api_Fact).Key).Hour),str (((l0.getD i4.toNat z_Api_Fact).Key).Dims_0),str (((l0.getD i4.toNat z_Api_Fact).Key).Dims_1),str (((l0.getD i4.toNat z_Api_Fact).Key).Dims_2),str (((l0.getD i4.toNat z_Api_Fact).Key).Dims_3),I ((l0.getD i4.toNat z_Api_Fact).Value)]
   cases k with
   | zero => exact absurd H6 (by simp [C0_,fact_Hours_R_l0])
   | succ k =>
    rw [fact_Hours_R_l0] at H6
    refine ent_seq (ent_region (ent_value (ov_bin rfl rfl (b_lss _ _ _)) rfl rfl rfl (ent_nil (ent_seq ?_))))
    refine htF H6 (fun c60 H6 => ?_) fun c60 H6 => ?_
    ·refine ent_cond_false rfl (decide_eq_false c60) (ent_exit ?_)
     cases H6
     exact ent_fin [0,1] (by decide) rfl (sub_cons (t := 2) rfl (sub_nil _)) fun a w h => ⟨_,h⟩
    refine ent_cond_true rfl (decide_eq_true c60) (ent_skip (ent_seq (ent_block (ent_seq (ent_region ?_)))))
    obtain ⟨c63,H6⟩ := gdT H6
    refine ent_value (ov_indexAddr (sz := 5) 0 rfl rfl F_slice_22 F_size_52 rfl hA0 c63 c60) rfl rfl rfl ?_
    refine ent_value (ov_load_agg (vs := C0_) rfl F_agg_52 F_size_52 (reads_rd (i := 0) rfl hA0 (by simp [C0_]) (fl_read0 enc_Api_Fact_len (ix_lt c63 c60) rfl))) rfl rfl rfl ?_
    refine ent_op (ot_alloc F_zero_52) rfl rfl rfl ?_
    rintro _ _ ⟨b24,rfl,rfl⟩
    refine ent_op0 (ot_storeG (cs := [I 0,S0,S0,S0,S0,I 0]) (cs' := C0_) (us := C0_) (L' := [box b24 52 C0_,A0,own sv48 2 1 l7.length (fl (eI .i64) l7)]) 0 rfl rfl rfl (one_all rfl) F_size_52 rfl rfl (by simp [C0_]) rfl) rfl rfl ?_
    rintro _ _ rfl
    refine ent_nil (ent_region (ent_value (ov_move rfl) rfl rfl rfl (ent_value (ov_fieldAddr (sz := 4) (o := 0) rfl F_field_52_0 F_size_50) rfl rfl rfl (ent_value (ov_fieldAddr (sz := 0) (o := 0) rfl F_field_50_0 F_size_2) rfl rfl rfl (ent_value (ov_load (v := (I (((l0.getD i4.toNat z_Api_Fact).Key).Hour))) rfl F_agg_2 (reads_box1 (i := 0) rfl rfl)) rfl rfl rfl ?_)))))
    refine ent_op (ot_buildSlice (sz := 0) (xs := [.tmp 14]) (cs := fl (eI .i64) [((l0.getD i4.toNat z_Api_Fact).Key).Hour]) rfl rfl F_slice_28 F_size_2 F_zero_2 rfl rfl (all_size rfl) rfl (by decide)) rfl rfl rfl ?_
    rintro sv55 _ rfl
    obtain ⟨c64,H6⟩ := gdT H6
    refine ent_op (ot_appendx (sz := 0) (xs := l7) (ys := [((l0.getD i4.toNat z_Api_Fact).Key).Hour]) 3 0 rfl rfl F_slice_28 F_size_2 F_zero_2 rfl F_bytes_2 rfl rfl rfl (isRd_ownx 2) rfl (eI_one _) c64) rfl rfl rfl ?_
    rintro sv56 _ rfl
    refine ent_L [own sv55 2 1 [((l0.getD i4.toNat z_Api_Fact).Key).Hour].length (fl (eI .i64) [((l0.getD i4.toNat z_Api_Fact).Key).Hour]),box b24 52 C0_,A0,own sv56 2 1 (l7 ++ [((l0.getD i4.toNat z_Api_Fact).Key).Hour]).length (fl (eI .i64) (l7 ++ [((l0.getD i4.toNat z_Api_Fact).Key).Hour]))] rfl ?_
    refine ent_value (ov_assign rfl) rfl rfl rfl (ent_nil (ent_region (ent_value (ov_bin rfl rfl (b_add _ _ _) ) rfl rfl rfl (ent_value (ov_move rfl) rfl rfl rfl (ent_nil ?_)))))
    exact ent_fin [2,3] (by decide) rfl (sub_cons (t := 2) rfl (sub_cons (t := 5) rfl (sub_cons (t := 6) rfl (sub_cons (t := 7) rfl (sub_nil _))))) fun a w h => ⟨k,Nat.lt_succ_self k,_,_,_,H6,h⟩
 ·refine ent_exi fun sv43 => ?_
  refine ent_seq (ent_region (ent_value (ov_move rfl) rfl rfl rfl ?_))
  obtain ⟨x5,h3,H⟩ := Option.bind_eq_some_iff.1 H
  refine ent_pick [1,0] (by decide) rfl ?_
  refine ent_op (ot_call (Lr := [A0]) (first := []) (cap := []) (xs := [.tmp 18]) rfl rfl F_call_29 rfl (slices_Sort_____int64__int64.spec sv43 x4 _ h3) rfl) rfl rfl rfl ?_
  rintro _ _ ⟨_,⟨rfl,rfl⟩,rfl⟩
  refine ent_nil (ent_seq (ent_region (ent_value (ov_move rfl) rfl rfl rfl ?_)))
  obtain ⟨x6,h4,H⟩ := Option.bind_eq_some_iff.1 H
  refine ent_op (ot_call (Lr := [A0]) (first := []) (cap := []) (xs := [.tmp 20]) rfl rfl F_call_30 rfl (slices_Compact_____int64__int64.spec sv43 x5 _ h4) rfl) rfl rfl rfl ?_
  rintro sv57 _ ⟨_,⟨_,rfl,rfl⟩,rfl⟩
  refine ent_value (ov_assign rfl) rfl rfl rfl (ent_nil (ent_retc ?_))
  cases H
  refine ent_pick [1,0] (by decide) rfl ?_
  exact ret_tmp rfl rfl ⟨_,rfl,rfl⟩

theorem ossuaryref09_Hours_R.spec (K : Nat) (sv0 : Value) (A0 : HP) (l0 : List Api_Fact) (hA0 : IsRd A0 sv0 l0.length 6 (fl enc_Api_Fact l0)) (r : List Int) (H : ossuaryref09_Hours_R K l0 = some r) : FnSpec Try.prog 11 [sv0] [A0] (fun v M => ∃ sv49 : Value,v = sv49 ∧ M = [A0,own sv49 2 1 r.length (fl (eI .i64) r)]) := by
 unfold ossuaryref09_Hours_R at H
 refine spec_of Try.func11 rfl 58 rfl (Nat.le_of_ble_eq_true rfl) fun F w0 => ?_
 show Ent (St 58 w0 F [(0,sv0)] [A0]) _
 refine ent_seq (ent_region (ent_value (ov_assign rfl) rfl rfl rfl (ent_nil (ent_seq (ent_region (ent_value (ov_assign rfl) rfl rfl rfl (ent_nil (ent_seq (ent_seq (ent_region (ent_value (ov_assign rfl) rfl rfl rfl ?_)))))))))))
 refine ent_nil (ent_block ?_)
 refine ent_loop (fun k a w => ∃ i40,∃ l11,∃ sv79 : Value,ossuaryref09_Hours_R_l0 K l0 k i40 l11 = some r ∧ St 58 w0 F [(0,sv0),(3,sv79),(4,I i40)] [A0,own sv79 2 1 l11.length (fl (eI .i64) l11)] a w) K ?_ ?_
 ·refine ent_ownnil 2 1 ?_
  exact ent_fin [1,0] (by decide) rfl (sub_cons (t := 0) rfl (sub_cons (t := 3) rfl (sub_cons (t := 4) rfl (sub_nil _)))) fun a w h => ⟨_,_,_,H,h⟩
 ·refine fun k => ent_exi fun i40 => ent_exi fun l11 => ent_exi fun sv79 => ent_and fun H81 => ?_
  cases k with
  | zero => exact absurd H81 (by simp [ossuaryref09_Hours_R_l0])
  | succ k =>
   rw [ossuaryref09_Hours_R_l0] at H81
   refine ent_seq (ent_seq (ent_region (ent_value (ov_move rfl) rfl rfl rfl (ent_value (ov_move rfl) rfl rfl rfl (ent_value (ov_len 0 rfl F_slice_22 rfl hA0) rfl rfl rfl (ent_value (ov_bin rfl rfl (b_lss _ _ _)) rfl rfl rfl (ent_nil ?_)))))))
   refine htF H81 (fun c720 H81 => ?_) fun c720 H81 => ?_
   ·refine ent_cond_false rfl (decide_eq_false c720) (ent_exit (ent_seq (ent_region (ent_value (ov_move rfl) rfl rfl rfl (ent_value (ov_assign rfl) rfl rfl rfl (ent_nil (ent_retc ?_)))))))
    cases H81
    refine ent_pick [0,1] (by decide) rfl ?_
    exact ret_tmp rfl rfl ⟨_,rfl,rfl⟩
   refine ent_cond_true rfl (decide_eq_true c720) (ent_skip ?_)
   obtain ⟨x35,H85,H81⟩ := Option.bind_eq_some_iff.1 H81
   refine ent_seq_cut (fun a w => ∃ sv93 : Value,St 58 w0 F [(0,sv0),(3,sv93),(4,I i40)] [A0,own sv93 2 1 x35.length (fl (eI .i64) x35)] a w) ?_ ?_
   ·refine ent_block (ent_seq (ent_region (ent_value (ov_move rfl) rfl rfl rfl (ent_value (ov_move rfl) rfl rfl rfl ?_))))
    obtain ⟨c769,H85⟩ := gdT H85
    refine ent_value (ov_indexAddr (sz := 5) 0 rfl rfl F_slice_22 F_size_52 rfl hA0 c769 c720) rfl rfl rfl (ent_value (ov_fieldAddrE (sz := 4) (k0 := i40.toNat * 6) (off := 0) 0 rfl F_field_52_0 F_size_50 rfl hA0 (fl_pos enc_Api_Fact_len (ix_lt c769 c720))) rfl rfl rfl (ent_value (ov_fieldAddrE (sz := 0) (k0 := i40.toNat * 6 + 0) (off := 0) 0 rfl F_field_50_0 F_size_2 rfl hA0 (fl_pos enc_Api_Fact_len (ix_lt c769 c720))) rfl rfl rfl ?_))
    refine ent_value (ov_load (v := (I (((l0.getD i40.toNat z_Api_Fact).Key).Hour))) rfl F_agg_2 (reads_rd (i := 0) rfl hA0 (by simp) (fl_read (off := 0) enc_Api_Fact_len (ix_lt c769 c720) rfl))) rfl rfl rfl ?_
    refine ent_value (ov_assign rfl) rfl rfl rfl (ent_nil (ent_seq (ent_region (ent_value (ov_assign rfl) rfl rfl rfl (ent_nil ?_)))))
    obtain ⟨x36,H87,H85⟩ := Option.bind_eq_some_iff.1 H85
    refine ent_seq_cut (fun a w => St 58 w0 F [(0,sv0),(3,sv79),(4,I i40),(5,I (((l0.getD i40.toNat z_Api_Fact).Key).Hour)),(6,I x36)] [A0,own sv79 2 1 l11.length (fl (eI .i64) l11)] a w) ?_ ?_
    ·refine ent_block ?_
     refine ent_loop (fun k a w => ∃ i52,ossuaryref09_Hours_R_l1 K l0 i40 l11 k i52 = some x36 ∧ St 58 w0 F [(0,sv0),(3,sv79),(4,I i40),(5,I (((l0.getD i40.toNat z_Api_Fact).Key).Hour)),(6,I i52)] [A0,own sv79 2 1 l11.length (fl (eI .i64) l11)] a w) K ?_ ?_
     ·exact ent_fin [0,1] (by decide) rfl (sub_cons (t := 0) rfl (sub_cons (t := 3) rfl (sub_cons (t := 4) rfl (sub_cons (t := 5) rfl (sub_cons (t := 6) rfl (sub_nil _)))))) fun a w h => ⟨_,H87,h⟩
     ·refine fun k => ent_exi fun i52 => ent_and fun H88 => ?_
      cases k with
      | zero => exact absurd H88 (by simp [ossuaryref09_Hours_R_l1])
      | succ k =>
       rw [ossuaryref09_Hours_R_l1] at H88
       refine ent_seq (ent_seq (ent_region (ent_value (ov_move rfl) rfl rfl rfl (ent_value (ov_move rfl) rfl rfl rfl (ent_value (ov_len 1 rfl F_slice_28 rfl (isRd_ownx 2)) rfl rfl rfl (ent_value (ov_bin rfl rfl (b_lss _ _ _)) rfl rfl rfl (ent_value (ov_move rfl) rfl rfl rfl ?_)))))))
       refine htF H88 (fun c801 H88 => ?_) fun c801 H88 => ?_
       ·refine ent_off rfl rfl rfl (decide_eq_false c801) rfl rfl ?_
        refine ent_off rfl rfl rfl (decide_eq_false c801) rfl rfl ?_
        refine ent_off rfl rfl rfl (decide_eq_false c801) rfl rfl ?_
        refine ent_off rfl rfl rfl (decide_eq_false c801) rfl rfl ?_
        refine ent_off rfl rfl rfl (decide_eq_false c801) rfl rfl ?_
        refine ent_off rfl rfl rfl (decide_eq_false c801) rfl rfl ?_
        refine ent_value (ov_pick rfl rfl rfl (pick_f (decide_eq_false c801))) rfl rfl rfl (ent_nil (ent_cond_false rfl rfl (ent_exit ?_)))
        cases H88
        exact ent_fin [0,1] (by decide) rfl (sub_cons (t := 0) rfl (sub_cons (t := 3) rfl (sub_cons (t := 4) rfl (sub_cons (t := 5) rfl (sub_cons (t := 6) rfl (sub_nil _)))))) fun a w h => h
       refine ent_value_on (ov_move rfl) rfl rfl rfl (decide_eq_true c801) rfl rfl ?_
       refine ent_value_on (ov_move rfl) rfl rfl rfl (decide_eq_true c801) rfl rfl ?_
       obtain ⟨c802,H88⟩ := gdT H88
       refine ent_value_on (ov_indexAddr (sz := 0) 1 rfl rfl F_slice_28 F_size_2 rfl (isRd_ownx 2) c802 c801) rfl rfl rfl (decide_eq_true c801) rfl rfl ?_
       refine ent_value_on (ov_load (v := (I (l11.getD i52.toNat 0))) rfl F_agg_2 (reads_rd (i := 1) rfl (isRd_ownx 2) (by simp) (fl_read0 (eI_len _) (ix_lt c802 c801) rfl))) rfl rfl rfl (decide_eq_true c801) rfl rfl ?_
       refine ent_value_on (ov_move rfl) rfl rfl rfl (decide_eq_true c801) rfl rfl ?_
       refine ent_value_on (ov_bin rfl rfl (b_lss _ _ _)) rfl rfl rfl (decide_eq_true c801) rfl rfl ?_
       refine ent_value (ov_pick rfl rfl rfl (pick_t (decide_eq_true c801))) rfl rfl rfl (ent_nil ?_)
       refine htF H88 (fun c803 H88 => ?_) fun c803 H88 => ?_
       ·refine ent_cond_false rfl (decide_eq_false c803) (ent_exit ?_)
        cases H88
        exact ent_fin [0,1] (by decide) rfl (sub_cons (t := 0) rfl (sub_cons (t := 3) rfl (sub_cons (t := 4) rfl (sub_cons (t := 5) rfl (sub_cons (t := 6) rfl (sub_nil _)))))) fun a w h => h
       refine ent_cond_true rfl (decide_eq_true c803) (ent_skip (ent_block (ent_region (ent_value (ov_move rfl) rfl rfl rfl (ent_value (ov_bin rfl rfl (b_add _ _ _) ) rfl rfl rfl (ent_value (ov_assign rfl) rfl rfl rfl (ent_nil ?_)))))))
       exact ent_fin [0,1] (by decide) rfl (sub_cons (t := 0) rfl (sub_cons (t := 3) rfl (sub_cons (t := 4) rfl (sub_cons (t := 5) rfl (sub_cons (t := 6) rfl (sub_nil _)))))) fun a w h => ⟨k,Nat.lt_succ_self k,_,H88,h⟩
    ·refine ent_seq (ent_region (ent_value (ov_move rfl) rfl rfl rfl (ent_value (ov_move rfl) rfl rfl rfl (ent_value (ov_len 1 rfl F_slice_28 rfl (isRd_ownx 2)) rfl rfl rfl (ent_value (ov_bin rfl rfl (b_eql _ _ _)) rfl rfl rfl (ent_value (ov_move rfl) rfl rfl rfl ?_))))))
     refine htT H85 (fun c804 H85 => ?_) fun c804 H85 => ?_
     ·refine ent_off rfl rfl rfl (eq_t c804) rfl rfl ?_
      refine ent_off rfl rfl rfl (eq_t c804) rfl rfl ?_
      refine ent_off rfl rfl rfl (eq_t c804) rfl rfl ?_
      refine ent_off rfl rfl rfl (eq_t c804) rfl rfl ?_
      refine ent_off rfl rfl rfl (eq_t c804) rfl rfl ?_
      refine ent_off rfl rfl rfl (eq_t c804) rfl rfl ?_
      refine ent_value (ov_pick rfl rfl rfl (pick_t (eq_t c804))) rfl rfl rfl (ent_nil (ent_cond_true rfl rfl ?_))
      obtain ⟨c805,H85⟩ := gdT H85
      obtain ⟨c806,H85⟩ := gdT H85
      obtain ⟨c807,H85⟩ := gdT H85
      obtain ⟨c808,H85⟩ := gdT H85
      obtain ⟨c809,H85⟩ := gdT H85
      let Z39_T : DT := fun ga39 => [(0,45,(ga39 0)),(1,46,sv79),(2,47,I x36),(3,48,(subs sv79 0 x36.toNat 1)),(4,49,(ga39 4)),(5,50,I (((l0.getD i40.toNat z_Api_Fact).Key).Hour)),(6,51,(ga39 6)),(7,52,(ga39 7)),(8,53,sv79),(9,54,I x36),(10,55,(subs sv79 x36.toNat l11.length 1)),(11,56,(ga39 11))]
      let Z39_L : DL := fun ga39 done => [sel (done 6) (own (ga39 6) 2 1 [((l0.getD i40.toNat z_Api_Fact).Key).Hour].length (fl (eI .i64) [((l0.getD i40.toNat z_Api_Fact).Key).Hour])) emp,sel (done 11) (own (ga39 11) 2 1 (((([] : List Int) ++ (l11.take x36.toNat)) ++ [((l0.getD i40.toNat z_Api_Fact).Key).Hour]) ++ (l11.drop x36.toNat)).length (fl (eI .i64) (((([] : List Int) ++ (l11.take x36.toNat)) ++ [((l0.getD i40.toNat z_Api_Fact).Key).Hour]) ++ (l11.drop x36.toNat)))) (sel (done 7) (own (ga39 7) 2 1 ((([] : List Int) ++ (l11.take x36.toNat)) ++ [((l0.getD i40.toNat z_Api_Fact).Key).Hour]).length (fl (eI .i64) ((([] : List Int) ++ (l11.take x36.toNat)) ++ [((l0.getD i40.toNat z_Api_Fact).Key).Hour]))) (sel (done 4) (own (ga39 4) 2 1 (([] : List Int) ++ (l11.take x36.toNat)).length (fl (eI .i64) (([] : List Int) ++ (l11.take x36.toNat)))) (sel (done 0) (own (ga39 0) 2 1 ([] : List Int).length (fl (eI .i64) ([] : List Int))) emp))),A0,own sv79 2 1 l11.length (fl (eI .i64) l11)]
      let Z39_I : DI := fun ga39 done a w => StD 58 w0 F [(0,sv0),(3,sv79),(4,I i40),(5,I (((l0.getD i40.toNat z_Api_Fact).Key).Hour)),(6,I x36),(33,I x36),(34,sv79),(35,I (l11.length : Int)),(36,bool (x36 == (l11.length : Int))),(37,bool (x36 == (l11.length : Int))),(38,undef),(39,undef),(40,undef),(41,undef),(42,undef),(43,undef),(44,bool true)] (Z39_T ga39) done (Z39_L ga39 done) a w
      let Z39_A : (Nat → Bool) → Act → World → Prop := (fun done a w => ∃ ga39 : Nat → Value,Z39_I ga39 done a w)
      let Z39_B : Act → World → Prop := (fun a w => ∃ ga39 : Nat → Value,St 58 w0 F ((3,(ga39 11)) :: [(0,sv0),(4,I i40),(5,I (((l0.getD i40.toNat z_Api_Fact).Key).Hour)),(6,I x36),(33,I x36),(34,sv79),(35,I (l11.length : Int)),(36,bool (x36 == (l11.length : Int))),(37,bool (x36 == (l11.length : Int))),(38,undef),(39,undef),(40,undef),(41,undef),(42,undef),(43,undef),(44,bool true),(45,(ga39 0)),(46,sv79),(47,I x36),(48,(subs sv79 0 x36.toNat 1)),(49,(ga39 4)),(50,I (((l0.getD i40.toNat z_Api_Fact).Key).Hour)),(51,(ga39 6)),(52,(ga39 7)),(53,sv79),(54,I x36),(55,(subs sv79 x36.toNat l11.length 1)),(56,(ga39 11))]) [own (ga39 6) 2 1 [((l0.getD i40.toNat z_Api_Fact).Key).Hour].length (fl (eI .i64) [((l0.getD i40.toNat z_Api_Fact).Key).Hour]),own (ga39 11) 2 1 (((([] : List Int) ++ (l11.take x36.toNat)) ++ [((l0.getD i40.toNat z_Api_Fact).Key).Hour]) ++ (l11.drop x36.toNat)).length (fl (eI .i64) (((([] : List Int) ++ (l11.take x36.toNat)) ++ [((l0.getD i40.toNat z_Api_Fact).Key).Hour]) ++ (l11.drop x36.toNat))),A0,own sv79 2 1 l11.length (fl (eI .i64) l11)] a w)
      refine ent_drawm 13 rfl (two 12 Z39_A Z39_B) (by kernel_rfl) (by kernel_rfl) (two_start (draw_startG (T := Z39_T) (L' := fun ga39 : Nat → Value => [sel false (own (ga39 6) 2 1 [((l0.getD i40.toNat z_Api_Fact).Key).Hour].length (fl (eI .i64) [((l0.getD i40.toNat z_Api_Fact).Key).Hour])) emp,sel false (own (ga39 11) 2 1 (((([] : List Int) ++ (l11.take x36.toNat)) ++ [((l0.getD i40.toNat z_Api_Fact).Key).Hour]) ++ (l11.drop x36.toNat)).length (fl (eI .i64) (((([] : List Int) ++ (l11.take x36.toNat)) ++ [((l0.getD i40.toNat z_Api_Fact).Key).Hour]) ++ (l11.drop x36.toNat)))) (sel false (own (ga39 7) 2 1 ((([] : List Int) ++ (l11.take x36.toNat)) ++ [((l0.getD i40.toNat z_Api_Fact).Key).Hour]).length (fl (eI .i64) ((([] : List Int) ++ (l11.take x36.toNat)) ++ [((l0.getD i40.toNat z_Api_Fact).Key).Hour]))) (sel false (own (ga39 4) 2 1 (([] : List Int) ++ (l11.take x36.toNat)).length (fl (eI .i64) (([] : List Int) ++ (l11.take x36.toNat)))) (sel false (own (ga39 0) 2 1 ([] : List Int).length (fl (eI .i64) ([] : List Int))) emp))),A0,own sv79 2 1 l11.length (fl (eI .i64) l11)]) 2 (sub_cons (t := 0) rfl (sub_cons (t := 3) rfl (sub_cons (t := 4) rfl (sub_cons (t := 5) rfl (sub_cons (t := 6) rfl (sub_cons (t := 33) rfl (sub_cons (t := 34) rfl (sub_cons (t := 35) rfl (sub_cons (t := 36) rfl (sub_cons (t := 37) rfl (sub_cons (t := 38) rfl (sub_cons (t := 39) rfl (sub_cons (t := 40) rfl (sub_cons (t := 41) rfl (sub_cons (t := 42) rfl (sub_cons (t := 43) rfl (sub_cons (t := 44) rfl (sub_nil _)))))))))))))))))) (fun _ => rfl))) ?_ ?_
      ·refine ⟨?_,?_,?_,?_,?_,?_,?_,?_,?_,?_,?_,?_,?_,trivial⟩
       ·intro done hi hc hcu
        have n12 : done 12 = false := notdone_of (m := 12) hc hi rfl rfl
        refine two_step (m := 12) (A := Z39_A) n12 rfl ?_
        refine ent_exi (S := fun ga39 => Z39_I ga39 done) fun ga39 => ?_
        have n4 : done 4 = false := notdone_of (m := 4) hc hi rfl rfl
        have n7 : done 7 = false := notdone_of (m := 7) hc n4 rfl rfl
        have n11 : done 11 = false := notdone_of (m := 11) hc n7 rfl rfl
        refine draw_newV (i := 0) (t := 45) (x := ga39) (L := Z39_L) (T := Z39_T) (L2 := [sel (done 6) (own (ga39 6) 2 1 [((l0.getD i40.toNat z_Api_Fact).Key).Hour].length (fl (eI .i64) [((l0.getD i40.toNat z_Api_Fact).Key).Hour])) emp,emp,A0,own sv79 2 1 l11.length (fl (eI .i64) l11)]) (B := fun v_ => (own v_ 2 1 ([] : List Int).length (fl (eI .i64) ([] : List Int)))) 1 rfl rfl (wanted_none rfl) (fun a => hasA_base) (by simp only [Z39_T,Z39_L,n4,n7,n11,hi,sel]) (ot_buildSlice (sz := 0) (xs := []) (cs := fl (eI .i64) ([] : List Int)) rfl rfl F_slice_28 F_size_2 F_zero_2 rfl rfl (all_size rfl) rfl (by decide)) ?_ rfl (fun v_ => ?_) rfl rfl ?_
        ·rintro _ _ rfl; rfl
        ·simp [Z39_T,Z39_L,up,upb,sel,n4,n7,n11,hi]
        ·rintro _ _ rfl
         exact (tr_this (tr_same rfl rfl (tr_same rfl rfl (tr_same rfl rfl (tr_same rfl rfl (tr_same rfl rfl (tr_same rfl rfl (tr_same rfl rfl (tr_same rfl rfl (tr_same rfl rfl (tr_same rfl rfl (tr_same rfl rfl tr_nil))))))))))))
       ·intro done hi hc hcu
        have n12 : done 12 = false := notdone_of (m := 12) hc hi rfl rfl
        refine two_step (m := 12) (A := Z39_A) n12 rfl ?_
        refine draw_exi (I := Z39_I) fun ga39 => ?_
        exact draw_value (i := 1) (t := 46) (v := sv79) rfl rfl (wanted_none rfl) (fun a => hasA_base) (ov_move rfl) rfl rfl (onlyT_spec (k0 := 1) rfl rfl rfl)
       ·intro done hi hc hcu
        have n12 : done 12 = false := notdone_of (m := 12) hc hi rfl rfl
        refine two_step (m := 12) (A := Z39_A) n12 rfl ?_
        refine draw_exi (I := Z39_I) fun ga39 => ?_
        exact draw_value (i := 2) (t := 47) (v := (I x36)) rfl rfl (wanted_none rfl) (fun a => hasA_base) (ov_move rfl) rfl rfl (onlyT_spec (k0 := 2) rfl rfl rfl)
       ·intro done hi hc hcu
        have n12 : done 12 = false := notdone_of (m := 12) hc hi rfl rfl
        refine two_step (m := 12) (A := Z39_A) n12 rfl ?_
        refine draw_exi (I := Z39_I) fun ga39 => ?_
        have d1 : done 1 = true := done_of (j := 1) hcu rfl (by decide) rfl
        have d2 : done 2 = true := done_of (j := 2) hcu rfl (by decide) rfl
        exact draw_value (i := 3) (t := 48) (v := (subs sv79 0 x36.toNat 1)) rfl rfl (wanted_none rfl) (fun a => (hasA_cons (k := 2) rfl d2 (hasA_cons (k := 1) rfl d1 hasA_base))) (ov_slice_hi 3 rfl rfl F_slice_28 F_size_2 rfl (isRd_ownx 2) c805 c806) rfl rfl (onlyT_spec (k0 := 3) rfl rfl rfl)
       ·intro done hi hc hcu
        have n12 : done 12 = false := notdone_of (m := 12) hc hi rfl rfl
        refine two_step (m := 12) (A := Z39_A) n12 rfl ?_
        refine ent_exi (S := fun ga39 => Z39_I ga39 done) fun ga39 => ?_
        have d0 : done 0 = true := done_of (j := 0) hcu rfl (by decide) rfl
        have d3 : done 3 = true := done_of (j := 3) hcu rfl (by decide) rfl
        have n7 : done 7 = false := notdone_of (m := 7) hc hi rfl rfl
        have n11 : done 11 = false := notdone_of (m := 11) hc n7 rfl rfl
        exact draw_turnI (i := 4) (t := 49) (x := ga39) (L := Z39_L) (T := Z39_T) (L2 := [sel (done 6) (own (ga39 6) 2 1 [((l0.getD i40.toNat z_Api_Fact).Key).Hour].length (fl (eI .i64) [((l0.getD i40.toNat z_Api_Fact).Key).Hour])) emp,own (ga39 0) 2 1 ([] : List Int).length (fl (eI .i64) ([] : List Int)),A0,own sv79 2 1 l11.length (fl (eI .i64) l11)]) rfl rfl (wanted_none rfl) (fun a => (hasA_cons (k := 3) rfl d3 (hasA_cons (k := 0) rfl d0 hasA_base))) (by simp only [Z39_T,Z39_L,d0,n7,n11,hi,sel]) (ot_appendx (sz := 0) (xs := ([] : List Int)) (ys := (l11.take x36.toNat)) 1 3 rfl rfl F_slice_28 F_size_2 F_zero_2 rfl F_bytes_2 rfl rfl rfl (isRd_take (eI_len _) (isRd_ownx 2) (nat_le c805 c806)) rfl (eI_one _) c807) rfl rfl fun v_ M_ hM_ => ⟨upb ga39 4 v_,hM_.trans (show [sel (done 6) (own (ga39 6) 2 1 [((l0.getD i40.toNat z_Api_Fact).Key).Hour].length (fl (eI .i64) [((l0.getD i40.toNat z_Api_Fact).Key).Hour])) emp,own v_ 2 1 (([] : List Int) ++ (l11.take x36.toNat)).length (fl (eI .i64) (([] : List Int) ++ (l11.take x36.toNat))),A0,own sv79 2 1 l11.length (fl (eI .i64) l11)] = _ by simp [Z39_T,Z39_L,up,upb,sel,d0,n7,n11,hi]),(tr_same rfl rfl (tr_same rfl rfl (tr_same rfl rfl (tr_same rfl rfl (tr_this (tr_same rfl rfl (tr_same rfl rfl (tr_same rfl rfl (tr_same rfl rfl (tr_same rfl rfl (tr_same rfl rfl (tr_same rfl rfl tr_nil))))))))))))⟩
       ·intro done hi hc hcu
        have n12 : done 12 = false := notdone_of (m := 12) hc hi rfl rfl
        refine two_step (m := 12) (A := Z39_A) n12 rfl ?_
        refine draw_exi (I := Z39_I) fun ga39 => ?_
        exact draw_value (i := 5) (t := 50) (v := (I (((l0.getD i40.toNat z_Api_Fact).Key).Hour))) rfl rfl (wanted_none rfl) (fun a => hasA_base) (ov_move rfl) rfl rfl (onlyT_spec (k0 := 5) rfl rfl rfl)
       ·intro done hi hc hcu
        have n12 : done 12 = false := notdone_of (m := 12) hc hi rfl rfl
        refine two_step (m := 12) (A := Z39_A) n12 rfl ?_
        refine ent_exi (S := fun ga39 => Z39_I ga39 done) fun ga39 => ?_
        have d5 : done 5 = true := done_of (j := 5) hcu rfl (by decide) rfl
        refine draw_newV (i := 6) (t := 51) (x := ga39) (L := Z39_L) (T := Z39_T) (L2 := [emp,sel (done 11) (own (ga39 11) 2 1 (((([] : List Int) ++ (l11.take x36.toNat)) ++ [((l0.getD i40.toNat z_Api_Fact).Key).Hour]) ++ (l11.drop x36.toNat)).length (fl (eI .i64) (((([] : List Int) ++ (l11.take x36.toNat)) ++ [((l0.getD i40.toNat z_Api_Fact).Key).Hour]) ++ (l11.drop x36.toNat)))) (sel (done 7) (own (ga39 7) 2 1 ((([] : List Int) ++ (l11.take x36.toNat)) ++ [((l0.getD i40.toNat z_Api_Fact).Key).Hour]).length (fl (eI .i64) ((([] : List Int) ++ (l11.take x36.toNat)) ++ [((l0.getD i40.toNat z_Api_Fact).Key).Hour]))) (sel (done 4) (own (ga39 4) 2 1 (([] : List Int) ++ (l11.take x36.toNat)).length (fl (eI .i64) (([] : List Int) ++ (l11.take x36.toNat)))) (sel (done 0) (own (ga39 0) 2 1 ([] : List Int).length (fl (eI .i64) ([] : List Int))) emp))),A0,own sv79 2 1 l11.length (fl (eI .i64) l11)]) (B := fun v_ => (own v_ 2 1 [((l0.getD i40.toNat z_Api_Fact).Key).Hour].length (fl (eI .i64) [((l0.getD i40.toNat z_Api_Fact).Key).Hour]))) 0 rfl rfl (wanted_none rfl) (fun a => (hasA_cons (k := 5) rfl d5 hasA_base)) (by simp only [Z39_T,Z39_L,hi,sel]) (ot_buildSlice (sz := 0) (xs := [.tmp 50]) (cs := fl (eI .i64) [((l0.getD i40.toNat z_Api_Fact).Key).Hour]) rfl rfl F_slice_28 F_size_2 F_zero_2 rfl rfl (all_size rfl) rfl (by decide)) ?_ rfl (fun v_ => ?_) rfl rfl ?_
        ·rintro _ _ rfl; rfl
        ·simp [Z39_T,Z39_L,up,upb,sel,hi]
        ·rintro _ _ rfl
         exact (tr_same rfl rfl (tr_same rfl rfl (tr_same rfl rfl (tr_same rfl rfl (tr_same rfl rfl (tr_same rfl rfl (tr_this (tr_same rfl rfl (tr_same rfl rfl (tr_same rfl rfl (tr_same rfl rfl (tr_same rfl rfl tr_nil))))))))))))
       ·intro done hi hc hcu
        have n12 : done 12 = false := notdone_of (m := 12) hc hi rfl rfl
        refine two_step (m := 12) (A := Z39_A) n12 rfl ?_
        refine ent_exi (S := fun ga39 => Z39_I ga39 done) fun ga39 => ?_
        have d4 : done 4 = true := done_of (j := 4) hcu rfl (by decide) rfl
        have d6 : done 6 = true := done_of (j := 6) hcu rfl (by decide) rfl
        have d0 : done 0 = true := done_step (i := 4) (j := 0) hc d4 rfl rfl
        have n11 : done 11 = false := notdone_of (m := 11) hc hi rfl rfl
        exact draw_turnI (i := 7) (t := 52) (x := ga39) (L := Z39_L) (T := Z39_T) (L2 := [own (ga39 6) 2 1 [((l0.getD i40.toNat z_Api_Fact).Key).Hour].length (fl (eI .i64) [((l0.getD i40.toNat z_Api_Fact).Key).Hour]),own (ga39 4) 2 1 (([] : List Int) ++ (l11.take x36.toNat)).length (fl (eI .i64) (([] : List Int) ++ (l11.take x36.toNat))),A0,own sv79 2 1 l11.length (fl (eI .i64) l11)]) rfl rfl (wanted_none rfl) (fun a => (hasA_cons (k := 6) rfl d6 (hasA_cons (k := 4) rfl d4 hasA_base))) (by simp only [Z39_T,Z39_L,d0,d4,d6,n11,hi,sel]) (ot_appendx (sz := 0) (xs := (([] : List Int) ++ (l11.take x36.toNat))) (ys := [((l0.getD i40.toNat z_Api_Fact).Key).Hour]) 1 0 rfl rfl F_slice_28 F_size_2 F_zero_2 rfl F_bytes_2 rfl rfl rfl (isRd_ownx 2) rfl (eI_one _) c808) rfl rfl fun v_ M_ hM_ => ⟨upb ga39 7 v_,hM_.trans (show [own (ga39 6) 2 1 [((l0.getD i40.toNat z_Api_Fact).Key).Hour].length (fl (eI .i64) [((l0.getD i40.toNat z_Api_Fact).Key).Hour]),own v_ 2 1 ((([] : List Int) ++ (l11.take x36.toNat)) ++ [((l0.getD i40.toNat z_Api_Fact).Key).Hour]).length (fl (eI .i64) ((([] : List Int) ++ (l11.take x36.toNat)) ++ [((l0.getD i40.toNat z_Api_Fact).Key).Hour])),A0,own sv79 2 1 l11.length (fl (eI .i64) l11)] = _ by simp [Z39_T,Z39_L,up,upb,sel,d0,d4,d6,n11,hi]),(tr_same rfl rfl (tr_same rfl rfl (tr_same rfl rfl (tr_same rfl rfl (tr_same rfl rfl (tr_same rfl rfl (tr_same rfl rfl (tr_this (tr_same rfl rfl (tr_same rfl rfl (tr_same rfl rfl (tr_same rfl rfl tr_nil))))))))))))⟩
       ·intro done hi hc hcu
        have n12 : done 12 = false := notdone_of (m := 12) hc hi rfl rfl
        refine two_step (m := 12) (A := Z39_A) n12 rfl ?_
        refine draw_exi (I := Z39_I) fun ga39 => ?_
        exact draw_value (i := 8) (t := 53) (v := sv79) rfl rfl (wanted_none rfl) (fun a => hasA_base) (ov_move rfl) rfl rfl (onlyT_spec (k0 := 8) rfl rfl rfl)
       ·intro done hi hc hcu
        have n12 : done 12 = false := notdone_of (m := 12) hc hi rfl rfl
        refine two_step (m := 12) (A := Z39_A) n12 rfl ?_
        refine draw_exi (I := Z39_I) fun ga39 => ?_
        exact draw_value (i := 9) (t := 54) (v := (I x36)) rfl rfl (wanted_none rfl) (fun a => hasA_base) (ov_move rfl) rfl rfl (onlyT_spec (k0 := 9) rfl rfl rfl)
       ·intro done hi hc hcu
        have n12 : done 12 = false := notdone_of (m := 12) hc hi rfl rfl
        refine two_step (m := 12) (A := Z39_A) n12 rfl ?_
        refine draw_exi (I := Z39_I) fun ga39 => ?_
        have d8 : done 8 = true := done_of (j := 8) hcu rfl (by decide) rfl
        have d9 : done 9 = true := done_of (j := 9) hcu rfl (by decide) rfl
        exact draw_value (i := 10) (t := 55) (v := (subs sv79 x36.toNat l11.length 1)) rfl rfl (wanted_none rfl) (fun a => (hasA_cons (k := 9) rfl d9 (hasA_cons (k := 8) rfl d8 hasA_base))) (ov_slice_lo 3 rfl rfl F_slice_28 F_size_2 rfl (isRd_ownx 2) c805 c806) rfl rfl (onlyT_spec (k0 := 10) rfl rfl rfl)
       ·intro done hi hc hcu
        have n12 : done 12 = false := notdone_of (m := 12) hc hi rfl rfl
        refine two_step (m := 12) (A := Z39_A) n12 rfl ?_
        refine ent_exi (S := fun ga39 => Z39_I ga39 done) fun ga39 => ?_
        have d7 : done 7 = true := done_of (j := 7) hcu rfl (by decide) rfl
        have d10 : done 10 = true := done_of (j := 10) hcu rfl (by decide) rfl
        have d4 : done 4 = true := done_step (i := 7) (j := 4) hc d7 rfl rfl
        have d0 : done 0 = true := done_step (i := 4) (j := 0) hc d4 rfl rfl
        exact draw_turnI (i := 11) (t := 56) (x := ga39) (L := Z39_L) (T := Z39_T) (L2 := [sel (done 6) (own (ga39 6) 2 1 [((l0.getD i40.toNat z_Api_Fact).Key).Hour].length (fl (eI .i64) [((l0.getD i40.toNat z_Api_Fact).Key).Hour])) emp,own (ga39 7) 2 1 ((([] : List Int) ++ (l11.take x36.toNat)) ++ [((l0.getD i40.toNat z_Api_Fact).Key).Hour]).length (fl (eI .i64) ((([] : List Int) ++ (l11.take x36.toNat)) ++ [((l0.getD i40.toNat z_Api_Fact).Key).Hour])),A0,own sv79 2 1 l11.length (fl (eI .i64) l11)]) rfl rfl (wanted_none rfl) (fun a => (hasA_cons (k := 10) rfl d10 (hasA_cons (k := 7) rfl d7 hasA_base))) (by simp only [Z39_T,Z39_L,d0,d4,d7,hi,sel]) (ot_appendx (sz := 0) (xs := ((([] : List Int) ++ (l11.take x36.toNat)) ++ [((l0.getD i40.toNat z_Api_Fact).Key).Hour])) (ys := (l11.drop x36.toNat)) 1 3 rfl rfl F_slice_28 F_size_2 F_zero_2 rfl F_bytes_2 rfl rfl rfl (isRd_drop (eI_len _) (isRd_ownx 2) (nat_le c805 c806)) rfl (eI_one _) c809) rfl rfl fun v_ M_ hM_ => ⟨upb ga39 11 v_,hM_.trans (show [sel (done 6) (own (ga39 6) 2 1 [((l0.getD i40.toNat z_Api_Fact).Key).Hour].length (fl (eI .i64) [((l0.getD i40.toNat z_Api_Fact).Key).Hour])) emp,own v_ 2 1 (((([] : List Int) ++ (l11.take x36.toNat)) ++ [((l0.getD i40.toNat z_Api_Fact).Key).Hour]) ++ (l11.drop x36.toNat)).length (fl (eI .i64) (((([] : List Int) ++ (l11.take x36.toNat)) ++ [((l0.getD i40.toNat z_Api_Fact).Key).Hour]) ++ (l11.drop x36.toNat))),A0,own sv79 2 1 l11.length (fl (eI .i64) l11)] = _ by simp [Z39_T,Z39_L,up,upb,sel,d0,d4,d7,hi]),(tr_same rfl rfl (tr_same rfl rfl (tr_same rfl rfl (tr_same rfl rfl (tr_same rfl rfl (tr_same rfl rfl (tr_same rfl rfl (tr_same rfl rfl (tr_same rfl rfl (tr_same rfl rfl (tr_same rfl rfl (tr_this tr_nil))))))))))))⟩
       ·intro done hi hc hcu
        refine two_last (m := 12) (A := Z39_A) (B := Z39_B) hi ?_
        refine last_exi (A := fun ga39 => Z39_I ga39 done) (B := fun ga39 => St 58 w0 F ((3,(ga39 11)) :: [(0,sv0),(4,I i40),(5,I (((l0.getD i40.toNat z_Api_Fact).Key).Hour)),(6,I x36),(33,I x36),(34,sv79),(35,I (l11.length : Int)),(36,bool (x36 == (l11.length : Int))),(37,bool (x36 == (l11.length : Int))),(38,undef),(39,undef),(40,undef),(41,undef),(42,undef),(43,undef),(44,bool true),(45,(ga39 0)),(46,sv79),(47,I x36),(48,(subs sv79 0 x36.toNat 1)),(49,(ga39 4)),(50,I (((l0.getD i40.toNat z_Api_Fact).Key).Hour)),(51,(ga39 6)),(52,(ga39 7)),(53,sv79),(54,I x36),(55,(subs sv79 x36.toNat l11.length 1)),(56,(ga39 11))]) [own (ga39 6) 2 1 [((l0.getD i40.toNat z_Api_Fact).Key).Hour].length (fl (eI .i64) [((l0.getD i40.toNat z_Api_Fact).Key).Hour]),own (ga39 11) 2 1 (((([] : List Int) ++ (l11.take x36.toNat)) ++ [((l0.getD i40.toNat z_Api_Fact).Key).Hour]) ++ (l11.drop x36.toNat)).length (fl (eI .i64) (((([] : List Int) ++ (l11.take x36.toNat)) ++ [((l0.getD i40.toNat z_Api_Fact).Key).Hour]) ++ (l11.drop x36.toNat))),A0,own sv79 2 1 l11.length (fl (eI .i64) l11)]) fun ga39 => ?_
        have d0 : done 0 = true := done_of (j := 0) hcu rfl (by decide) rfl
        have d1 : done 1 = true := done_of (j := 1) hcu rfl (by decide) rfl
        have d2 : done 2 = true := done_of (j := 2) hcu rfl (by decide) rfl
        have d3 : done 3 = true := done_of (j := 3) hcu rfl (by decide) rfl
        have d4 : done 4 = true := done_of (j := 4) hcu rfl (by decide) rfl
        have d5 : done 5 = true := done_of (j := 5) hcu rfl (by decide) rfl
        have d6 : done 6 = true := done_of (j := 6) hcu rfl (by decide) rfl
        have d7 : done 7 = true := done_of (j := 7) hcu rfl (by decide) rfl
        have d8 : done 8 = true := done_of (j := 8) hcu rfl (by decide) rfl
        have d9 : done 9 = true := done_of (j := 9) hcu rfl (by decide) rfl
        have d10 : done 10 = true := done_of (j := 10) hcu rfl (by decide) rfl
        have d11 : done 11 = true := done_of (j := 11) hcu rfl (by decide) rfl
        exact last_value (i := 12) (t := 3) (v := (ga39 11)) (L2 := [own (ga39 6) 2 1 [((l0.getD i40.toNat z_Api_Fact).Key).Hour].length (fl (eI .i64) [((l0.getD i40.toNat z_Api_Fact).Key).Hour]),own (ga39 11) 2 1 (((([] : List Int) ++ (l11.take x36.toNat)) ++ [((l0.getD i40.toNat z_Api_Fact).Key).Hour]) ++ (l11.drop x36.toNat)).length (fl (eI .i64) (((([] : List Int) ++ (l11.take x36.toNat)) ++ [((l0.getD i40.toNat z_Api_Fact).Key).Hour]) ++ (l11.drop x36.toNat))),A0,own sv79 2 1 l11.length (fl (eI .i64) l11)]) rfl rfl (wanted_none rfl) (by simp only [Z39_T,Z39_L,d0,d4,d6,d7,d11,sel]) (fun a => (hasA_cons (k := 11) rfl d11 hasA_base)) (fun a h_ => (Has.sub (ρ := [(45,(ga39 0)),(46,sv79),(47,I x36),(48,(subs sv79 0 x36.toNat 1)),(49,(ga39 4)),(50,I (((l0.getD i40.toNat z_Api_Fact).Key).Hour)),(51,(ga39 6)),(52,(ga39 7)),(53,sv79),(54,I x36),(55,(subs sv79 x36.toNat l11.length 1)),(56,(ga39 11))] ++ [(0,sv0),(3,sv79),(4,I i40),(5,I (((l0.getD i40.toNat z_Api_Fact).Key).Hour)),(6,I x36),(33,I x36),(34,sv79),(35,I (l11.length : Int)),(36,bool (x36 == (l11.length : Int))),(37,bool (x36 == (l11.length : Int))),(38,undef),(39,undef),(40,undef),(41,undef),(42,undef),(43,undef),(44,bool true)]) (((hasA_cons (k := 0) rfl d0 (hasA_cons (k := 1) rfl d1 (hasA_cons (k := 2) rfl d2 (hasA_cons (k := 3) rfl d3 (hasA_cons (k := 4) rfl d4 (hasA_cons (k := 5) rfl d5 (hasA_cons (k := 6) rfl d6 (hasA_cons (k := 7) rfl d7 (hasA_cons (k := 8) rfl d8 (hasA_cons (k := 9) rfl d9 (hasA_cons (k := 10) rfl d10 (hasA_cons (k := 11) rfl d11 hasA_base)))))))))))) : HasA a _ _ _ → Has a ([(45,(ga39 0)),(46,sv79),(47,I x36),(48,(subs sv79 0 x36.toNat 1)),(49,(ga39 4)),(50,I (((l0.getD i40.toNat z_Api_Fact).Key).Hour)),(51,(ga39 6)),(52,(ga39 7)),(53,sv79),(54,I x36),(55,(subs sv79 x36.toNat l11.length 1)),(56,(ga39 11))] ++ [(0,sv0),(3,sv79),(4,I i40),(5,I (((l0.getD i40.toNat z_Api_Fact).Key).Hour)),(6,I x36),(33,I x36),(34,sv79),(35,I (l11.length : Int)),(36,bool (x36 == (l11.length : Int))),(37,bool (x36 == (l11.length : Int))),(38,undef),(39,undef),(40,undef),(41,undef),(42,undef),(43,undef),(44,bool true)])) h_) (sub_cons (t := 0) rfl (sub_cons (t := 4) rfl (sub_cons (t := 5) rfl (sub_cons (t := 6) rfl (sub_cons (t := 33) rfl (sub_cons (t := 34) rfl (sub_cons (t := 35) rfl (sub_cons (t := 36) rfl (sub_cons (t := 37) rfl (sub_cons (t := 38) rfl (sub_cons (t := 39) rfl (sub_cons (t := 40) rfl (sub_cons (t := 41) rfl (sub_cons (t := 42) rfl (sub_cons (t := 43) rfl (sub_cons (t := 44) rfl (sub_cons (t := 45) rfl (sub_cons (t := 46) rfl (sub_cons (t := 47) rfl (sub_cons (t := 48) rfl (sub_cons (t := 49) rfl (sub_cons (t := 50) rfl (sub_cons (t := 51) rfl (sub_cons (t := 52) rfl (sub_cons (t := 53) rfl (sub_cons (t := 54) rfl (sub_cons (t := 55) rfl (sub_cons (t := 56) rfl (sub_nil _))))))))))))))))))))))))))))))) (ov_assign rfl) rfl
      ·intro done hall
       refine two_end (A := Z39_A) (B := Z39_B) (hall 12 (by decide)) ?_
       refine ent_exi fun ga39 => ?_
       cases H85
       exact ent_fin [2,1] (by decide) rfl (sub_cons (t := 0) rfl (sub_cons (t := 3) rfl (sub_cons (t := 4) rfl (sub_nil _)))) fun a w h => ⟨_,h⟩
     refine ent_value_on (ov_move rfl) rfl rfl rfl (eq_f c804) rfl rfl ?_
     refine ent_value_on (ov_move rfl) rfl rfl rfl (eq_f c804) rfl rfl ?_
     obtain ⟨c810,H85⟩ := gdT H85
     obtain ⟨c811,H85⟩ := gdT H85
     refine ent_value_on (ov_indexAddr (sz := 0) 1 rfl rfl F_slice_28 F_size_2 rfl (isRd_ownx 2) c810 c811) rfl rfl rfl (eq_f c804) rfl rfl ?_
     refine ent_value_on (ov_load (v := (I (l11.getD x36.toNat 0))) rfl F_agg_2 (reads_rd (i := 1) rfl (isRd_ownx 2) (by simp) (fl_read0 (eI_len _) (ix_lt c810 c811) rfl))) rfl rfl rfl (eq_f c804) rfl rfl ?_
     refine ent_value_on (ov_move rfl) rfl rfl rfl (eq_f c804) rfl rfl ?_
     refine ent_value_on (ov_bin rfl rfl (b_neq _ _ _)) rfl rfl rfl (eq_f c804) rfl rfl ?_
     refine ent_value (ov_pick rfl rfl rfl (pick_f (eq_f c804))) rfl rfl rfl (ent_nil ?_)
     refine htF H85 (fun c812 H85 => ?_) fun c812 H85 => ?_
     ·refine ent_cond_false rfl (ne_f c812) (ent_skip ?_)
      cases H85
      exact ent_fin [0,1] (by decide) rfl (sub_cons (t := 0) rfl (sub_cons (t := 3) rfl (sub_cons (t := 4) rfl (sub_nil _)))) fun a w h => ⟨_,h⟩
     refine ent_cond_true rfl (ne_t c812) ?_
     obtain ⟨c813,H85⟩ := gdT H85
     obtain ⟨c814,H85⟩ := gdT H85
     obtain ⟨c815,H85⟩ := gdT H85
     obtain ⟨c816,H85⟩ := gdT H85
     let Z40_T : DT := fun ga40 => [(0,45,(ga40 0)),(1,46,sv79),(2,47,I x36),(3,48,(subs sv79 0 x36.toNat 1)),(4,49,(ga40 4)),(5,50,I (((l0.getD i40.toNat z_Api_Fact).Key).Hour)),(6,51,(ga40 6)),(7,52,(ga40 7)),(8,53,sv79),(9,54,I x36),(10,55,(subs sv79 x36.toNat l11.length 1)),(11,56,(ga40 11))]
     let Z40_L : DL := fun ga40 done => [sel (done 6) (own (ga40 6) 2 1 [((l0.getD i40.toNat z_Api_Fact).Key).Hour].length (fl (eI .i64) [((l0.getD i40.toNat z_Api_Fact).Key).Hour])) emp,sel (done 11) (own (ga40 11) 2 1 (((([] : List Int) ++ (l11.take x36.toNat)) ++ [((l0.getD i40.toNat z_Api_Fact).Key).Hour]) ++ (l11.drop x36.toNat)).length (fl (eI .i64) (((([] : List Int) ++ (l11.take x36.toNat)) ++ [((l0.getD i40.toNat z_Api_Fact).Key).Hour]) ++ (l11.drop x36.toNat)))) (sel (done 7) (own (ga40 7) 2 1 ((([] : List Int) ++ (l11.take x36.toNat)) ++ [((l0.getD i40.toNat z_Api_Fact).Key).Hour]).length (fl (eI .i64) ((([] : List Int) ++ (l11.take x36.toNat)) ++ [((l0.getD i40.toNat z_Api_Fact).Key).Hour]))) (sel (done 4) (own (ga40 4) 2 1 (([] : List Int) ++ (l11.take x36.toNat)).length (fl (eI .i64) (([] : List Int) ++ (l11.take x36.toNat)))) (sel (done 0) (own (ga40 0) 2 1 ([] : List Int).length (fl (eI .i64) ([] : List Int))) emp))),A0,own sv79 2 1 l11.length (fl (eI .i64) l11)]
     let Z40_I : DI := fun ga40 done a w => StD 58 w0 F [(0,sv0),(3,sv79),(4,I i40),(5,I (((l0.getD i40.toNat z_Api_Fact).Key).Hour)),(6,I x36),(33,I x36),(34,sv79),(35,I (l11.length : Int)),(36,bool (x36 == (l11.length : Int))),(37,bool (x36 == (l11.length : Int))),(38,sv79),(39,I x36),(40,(eptr sv79 (x36.toNat * 1))),(41,I (l11.getD x36.toNat 0)),(42,I (((l0.getD i40.toNat z_Api_Fact).Key).Hour)),(43,bool ((l11.getD x36.toNat 0) != (((l0.getD i40.toNat z_Api_Fact).Key).Hour))),(44,bool ((l11.getD x36.toNat 0) != (((l0.getD i40.toNat z_Api_Fact).Key).Hour)))] (Z40_T ga40) done (Z40_L ga40 done) a w
     let Z40_A : (Nat → Bool) → Act → World → Prop := (fun done a w => ∃ ga40 : Nat → Value,Z40_I ga40 done a w)
     let Z40_B : Act → World → Prop := (fun a w => ∃ ga40 : Nat → Value,St 58 w0 F ((3,(ga40 11)) :: [(0,sv0),(4,I i40),(5,I (((l0.getD i40.toNat z_Api_Fact).Key).Hour)),(6,I x36),(33,I x36),(34,sv79),(35,I (l11.length : Int)),(36,bool (x36 == (l11.length : Int))),(37,bool (x36 == (l11.length : Int))),(38,sv79),(39,I x36),(40,(eptr sv79 (x36.toNat * 1))),(41,I (l11.getD x36.toNat 0)),(42,I (((l0.getD i40.toNat z_Api_Fact).Key).Hour)),(43,bool ((l11.getD x36.toNat 0) != (((l0.getD i40.toNat z_Api_Fact).Key).Hour))),(44,bool ((l11.getD x36.toNat 0) != (((l0.getD i40.toNat z_Api_Fact).Key).Hour))),(45,(ga40 0)),(46,sv79),(47,I x36),(48,(subs sv79 0 x36.toNat 1)),(49,(ga40 4)),(50,I (((l0.getD i40.toNat z_Api_Fact).Key).Hour)),(51,(ga40 6)),(52,(ga40 7)),(53,sv79),(54,I x36),(55,(subs sv79 x36.toNat l11.length 1)),(56,(ga40 11))]) [own (ga40 6) 2 1 [((l0.getD i40.toNat z_Api_Fact).Key).Hour].length (fl (eI .i64) [((l0.getD i40.toNat z_Api_Fact).Key).Hour]),own (ga40 11) 2 1 (((([] : List Int) ++ (l11.take x36.toNat)) ++ [((l0.getD i40.toNat z_Api_Fact).Key).Hour]) ++ (l11.drop x36.toNat)).length (fl (eI .i64) (((([] : List Int) ++ (l11.take x36.toNat)) ++ [((l0.getD i40.toNat z_Api_Fact).Key).Hour]) ++ (l11.drop x36.toNat))),A0,own sv79 2 1 l11.length (fl (eI .i64) l11)] a w)
     refine ent_drawm 13 rfl (two 12 Z40_A Z40_B) (by kernel_rfl) (by kernel_rfl) (two_start (draw_startG (T := Z40_T) (L' := fun ga40 : Nat → Value => [sel false (own (ga40 6) 2 1 [((l0.getD i40.toNat z_Api_Fact).Key).Hour].length (fl (eI .i64) [((l0.getD i40.toNat z_Api_Fact).Key).Hour])) emp,sel false (own (ga40 11) 2 1 (((([] : List Int) ++ (l11.take x36.toNat)) ++ [((l0.getD i40.toNat z_Api_Fact).Key).Hour]) ++ (l11.drop x36.toNat)).length (fl (eI .i64) (((([] : List Int) ++ (l11.take x36.toNat)) ++ [((l0.getD i40.toNat z_Api_Fact).Key).Hour]) ++ (l11.drop x36.toNat)))) (sel false (own (ga40 7) 2 1 ((([] : List Int) ++ (l11.take x36.toNat)) ++ [((l0.getD i40.toNat z_Api_Fact).Key).Hour]).length (fl (eI .i64) ((([] : List Int) ++ (l11.take x36.toNat)) ++ [((l0.getD i40.toNat z_Api_Fact).Key).Hour]))) (sel false (own (ga40 4) 2 1 (([] : List Int) ++ (l11.take x36.toNat)).length (fl (eI .i64) (([] : List Int) ++ (l11.take x36.toNat)))) (sel false (own (ga40 0) 2 1 ([] : List Int).length (fl (eI .i64) ([] : List Int))) emp))),A0,own sv79 2 1 l11.length (fl (eI .i64) l11)]) 2 (sub_cons (t := 0) rfl (sub_cons (t := 3) rfl (sub_cons (t := 4) rfl (sub_cons (t := 5) rfl (sub_cons (t := 6) rfl (sub_cons (t := 33) rfl (sub_cons (t := 34) rfl (sub_cons (t := 35) rfl (sub_cons (t := 36) rfl (sub_cons (t := 37) rfl (sub_cons (t := 38) rfl (sub_cons (t := 39) rfl (sub_cons (t := 40) rfl (sub_cons (t := 41) rfl (sub_cons (t := 42) rfl (sub_cons (t := 43) rfl (sub_cons (t := 44) rfl (sub_nil _)))))))))))))))))) (fun _ => rfl))) ?_ ?_
     ·refine ⟨?_,?_,?_,?_,?_,?_,?_,?_,?_,?_,?_,?_,?_,trivial⟩
      ·intro done hi hc hcu
       have n12 : done 12 = false := notdone_of (m := 12) hc hi rfl rfl
       refine two_step (m := 12) (A := Z40_A) n12 rfl ?_
       refine ent_exi (S := fun ga40 => Z40_I ga40 done) fun ga40 => ?_
       have n4 : done 4 = false := notdone_of (m := 4) hc hi rfl rfl
       have n7 : done 7 = false := notdone_of (m := 7) hc n4 rfl rfl
       have n11 : done 11 = false := notdone_of (m := 11) hc n7 rfl rfl
       refine draw_newV (i := 0) (t := 45) (x := ga40) (L := Z40_L) (T := Z40_T) (L2 := [sel (done 6) (own (ga40 6) 2 1 [((l0.getD i40.toNat z_Api_Fact).Key).Hour].length (fl (eI .i64) [((l0.getD i40.toNat z_Api_Fact).Key).Hour])) emp,emp,A0,own sv79 2 1 l11.length (fl (eI .i64) l11)]) (B := fun v_ => (own v_ 2 1 ([] : List Int).length (fl (eI .i64) ([] : List Int)))) 1 rfl rfl (wanted_none rfl) (fun a => hasA_base) (by simp only [Z40_T,Z40_L,n4,n7,n11,hi,sel]) (ot_buildSlice (sz := 0) (xs := []) (cs := fl (eI .i64) ([] : List Int)) rfl rfl F_slice_28 F_size_2 F_zero_2 rfl rfl (all_size rfl) rfl (by decide)) ?_ rfl (fun v_ => ?_) rfl rfl ?_
       ·rintro _ _ rfl; rfl
       ·simp [Z40_T,Z40_L,up,upb,sel,n4,n7,n11,hi]
       ·rintro _ _ rfl
        exact (tr_this (tr_same rfl rfl (tr_same rfl rfl (tr_same rfl rfl (tr_same rfl rfl (tr_same rfl rfl (tr_same rfl rfl (tr_same rfl rfl (tr_same rfl rfl (tr_same rfl rfl (tr_same rfl rfl (tr_same rfl rfl tr_nil))))))))))))
      ·intro done hi hc hcu
       have n12 : done 12 = false := notdone_of (m := 12) hc hi rfl rfl
       refine two_step (m := 12) (A := Z40_A) n12 rfl ?_
       refine draw_exi (I := Z40_I) fun ga40 => ?_
       exact draw_value (i := 1) (t := 46) (v := sv79) rfl rfl (wanted_none rfl) (fun a => hasA_base) (ov_move rfl) rfl rfl (onlyT_spec (k0 := 1) rfl rfl rfl)
      ·intro done hi hc hcu
       have n12 : done 12 = false := notdone_of (m := 12) hc hi rfl rfl
       refine two_step (m := 12) (A := Z40_A) n12 rfl ?_
       refine draw_exi (I := Z40_I) fun ga40 => ?_
       exact draw_value (i := 2) (t := 47) (v := (I x36)) rfl rfl (wanted_none rfl) (fun a => hasA_base) (ov_move rfl) rfl rfl (onlyT_spec (k0 := 2) rfl rfl rfl)
      ·intro done hi hc hcu
       have n12 : done 12 = false := notdone_of (m := 12) hc hi rfl rfl
       refine two_step (m := 12) (A := Z40_A) n12 rfl ?_
       refine draw_exi (I := Z40_I) fun ga40 => ?_
       have d1 : done 1 = true := done_of (j := 1) hcu rfl (by decide) rfl
       have d2 : done 2 = true := done_of (j := 2) hcu rfl (by decide) rfl
       exact draw_value (i := 3) (t := 48) (v := (subs sv79 0 x36.toNat 1)) rfl rfl (wanted_none rfl) (fun a => (hasA_cons (k := 2) rfl d2 (hasA_cons (k := 1) rfl d1 hasA_base))) (ov_slice_hi 3 rfl rfl F_slice_28 F_size_2 rfl (isRd_ownx 2) c810 c813) rfl rfl (onlyT_spec (k0 := 3) rfl rfl rfl)
      ·intro done hi hc hcu
       have n12 : done 12 = false := notdone_of (m := 12) hc hi rfl rfl
       refine two_step (m := 12) (A := Z40_A) n12 rfl ?_
       refine ent_exi (S := fun ga40 => Z40_I ga40 done) fun ga40 => ?_
       have d0 : done 0 = true := done_of (j := 0) hcu rfl (by decide) rfl
       have d3 : done 3 = true := done_of (j := 3) hcu rfl (by decide) rfl
       have n7 : done 7 = false := notdone_of (m := 7) hc hi rfl rfl
       have n11 : done 11 = false := notdone_of (m := 11) hc n7 rfl rfl
       exact draw_turnI (i := 4) (t := 49) (x := ga40) (L := Z40_L) (T := Z40_T) (L2 := [sel (done 6) (own (ga40 6) 2 1 [((l0.getD i40.toNat z_Api_Fact).Key).Hour].length (fl (eI .i64) [((l0.getD i40.toNat z_Api_Fact).Key).Hour])) emp,own (ga40 0) 2 1 ([] : List Int).length (fl (eI .i64) ([] : List Int)),A0,own sv79 2 1 l11.length (fl (eI .i64) l11)]) rfl rfl (wanted_none rfl) (fun a => (hasA_cons (k := 3) rfl d3 (hasA_cons (k := 0) rfl d0 hasA_base))) (by simp only [Z40_T,Z40_L,d0,n7,n11,hi,sel]) (ot_appendx (sz := 0) (xs := ([] : List Int)) (ys := (l11.take x36.toNat)) 1 3 rfl rfl F_slice_28 F_size_2 F_zero_2 rfl F_bytes_2 rfl rfl rfl (isRd_take (eI_len _) (isRd_ownx 2) (nat_le c810 c813)) rfl (eI_one _) c814) rfl rfl fun v_ M_ hM_ => ⟨upb ga40 4 v_,hM_.trans (show [sel (done 6) (own (ga40 6) 2 1 [((l0.getD i40.toNat z_Api_Fact).Key).Hour].length (fl (eI .i64) [((l0.getD i40.toNat z_Api_Fact).Key).Hour])) emp,own v_ 2 1 (([] : List Int) ++ (l11.take x36.toNat)).length (fl (eI .i64) (([] : List Int) ++ (l11.take x36.toNat))),A0,own sv79 2 1 l11.length (fl (eI .i64) l11)] = _ by simp [Z40_T,Z40_L,up,upb,sel,d0,n7,n11,hi]),(tr_same rfl rfl (tr_same rfl rfl (tr_same rfl rfl (tr_same rfl rfl (tr_this (tr_same rfl rfl (tr_same rfl rfl (tr_same rfl rfl (tr_same rfl rfl (tr_same rfl rfl (tr_same rfl rfl (tr_same rfl rfl tr_nil))))))))))))⟩
      ·intro done hi hc hcu
       have n12 : done 12 = false := notdone_of (m := 12) hc hi rfl rfl
       refine two_step (m := 12) (A := Z40_A) n12 rfl ?_
       refine draw_exi (I := Z40_I) fun ga40 => ?_
       exact draw_value (i := 5) (t := 50) (v := (I (((l0.getD i40.toNat z_Api_Fact).Key).Hour))) rfl rfl (wanted_none rfl) (fun a => hasA_base) (ov_move rfl) rfl rfl (onlyT_spec (k0 := 5) rfl rfl rfl)
      ·intro done hi hc hcu
       have n12 : done 12 = false := notdone_of (m := 12) hc hi rfl rfl
       refine two_step (m := 12) (A := Z40_A) n12 rfl ?_
       refine ent_exi (S := fun ga40 => Z40_I ga40 done) fun ga40 => ?_
       have d5 : done 5 = true := done_of (j := 5) hcu rfl (by decide) rfl
       refine draw_newV (i := 6) (t := 51) (x := ga40) (L := Z40_L) (T := Z40_T) (L2 := [emp,sel (done 11) (own (ga40 11) 2 1 (((([] : List Int) ++ (l11.take x36.toNat)) ++ [((l0.getD i40.toNat z_Api_Fact).Key).Hour]) ++ (l11.drop x36.toNat)).length (fl (eI .i64) (((([] : List Int) ++ (l11.take x36.toNat)) ++ [((l0.getD i40.toNat z_Api_Fact).Key).Hour]) ++ (l11.drop x36.toNat)))) (sel (done 7) (own (ga40 7) 2 1 ((([] : List Int) ++ (l11.take x36.toNat)) ++ [((l0.getD i40.toNat z_Api_Fact).Key).Hour]).length (fl (eI .i64) ((([] : List Int) ++ (l11.take x36.toNat)) ++ [((l0.getD i40.toNat z_Api_Fact).Key).Hour]))) (sel (done 4) (own (ga40 4) 2 1 (([] : List Int) ++ (l11.take x36.toNat)).length (fl (eI .i64) (([] : List Int) ++ (l11.take x36.toNat)))) (sel (done 0) (own (ga40 0) 2 1 ([] : List Int).length (fl (eI .i64) ([] : List Int))) emp))),A0,own sv79 2 1 l11.length (fl (eI .i64) l11)]) (B := fun v_ => (own v_ 2 1 [((l0.getD i40.toNat z_Api_Fact).Key).Hour].length (fl (eI .i64) [((l0.getD i40.toNat z_Api_Fact).Key).Hour]))) 0 rfl rfl (wanted_none rfl) (fun a => (hasA_cons (k := 5) rfl d5 hasA_base)) (by simp only [Z40_T,Z40_L,hi,sel]) (ot_buildSlice (sz := 0) (xs := [.tmp 50]) (cs := fl (eI .i64) [((l0.getD i40.toNat z_Api_Fact).Key).Hour]) rfl rfl F_slice_28 F_size_2 F_zero_2 rfl rfl (all_size rfl) rfl (by decide)) ?_ rfl (fun v_ => ?_) rfl rfl ?_
       ·rintro _ _ rfl; rfl
       ·simp [Z40_T,Z40_L,up,upb,sel,hi]
       ·rintro _ _ rfl
        exact (tr_same rfl rfl (tr_same rfl rfl (tr_same rfl rfl (tr_same rfl rfl (tr_same rfl rfl (tr_same rfl rfl (tr_this (tr_same rfl rfl (tr_same rfl rfl (tr_same rfl rfl (tr_same rfl rfl (tr_same rfl rfl tr_nil))))))))))))
      ·intro done hi hc hcu
       have n12 : done 12 = false := notdone_of (m := 12) hc hi rfl rfl
       refine two_step (m := 12) (A := Z40_A) n12 rfl ?_
       refine ent_exi (S := fun ga40 => Z40_I ga40 done) fun ga40 => ?_
       have d4 : done 4 = true := done_of (j := 4) hcu rfl (by decide) rfl
       have d6 : done 6 = true := done_of (j := 6) hcu rfl (by decide) rfl
       have d0 : done 0 = true := done_step (i := 4) (j := 0) hc d4 rfl rfl
       have n11 : done 11 = false := notdone_of (m := 11) hc hi rfl rfl
       exact draw_turnI (i := 7) (t := 52) (x := ga40) (L := Z40_L) (T := Z40_T) (L2 := [own (ga40 6) 2 1 [((l0.getD i40.toNat z_Api_Fact).Key).Hour].length (fl (eI .i64) [((l0.getD i40.toNat z_Api_Fact).Key).Hour]),own (ga40 4) 2 1 (([] : List Int) ++ (l11.take x36.toNat)).length (fl (eI .i64) (([] : List Int) ++ (l11.take x36.toNat))),A0,own sv79 2 1 l11.length (fl (eI .i64) l11)]) rfl rfl (wanted_none rfl) (fun a => (hasA_cons (k := 6) rfl d6 (hasA_cons (k := 4) rfl d4 hasA_base))) (by simp only [Z40_T,Z40_L,d0,d4,d6,n11,hi,sel]) (ot_appendx (sz := 0) (xs := (([] : List Int) ++ (l11.take x36.toNat))) (ys := [((l0.getD i40.toNat z_Api_Fact).Key).Hour]) 1 0 rfl rfl F_slice_28 F_size_2 F_zero_2 rfl F_bytes_2 rfl rfl rfl (isRd_ownx 2) rfl (eI_one _) c815) rfl rfl fun v_ M_ hM_ => ⟨upb ga40 7 v_,hM_.trans (show [own (ga40 6) 2 1 [((l0.getD i40.toNat z_Api_Fact).Key).Hour].length (fl (eI .i64) [((l0.getD i40.toNat z_Api_Fact).Key).Hour]),own v_ 2 1 ((([] : List Int) ++ (l11.take x36.toNat)) ++ [((l0.getD i40.toNat z_Api_Fact).Key).Hour]).length (fl (eI .i64) ((([] : List Int) ++ (l11.take x36.toNat)) ++ [((l0.getD i40.toNat z_Api_Fact).Key).Hour])),A0,own sv79 2 1 l11.length (fl (eI .i64) l11)] = _ by simp [Z40_T,Z40_L,up,upb,sel,d0,d4,d6,n11,hi]),(tr_same rfl rfl (tr_same rfl rfl (tr_same rfl rfl (tr_same rfl rfl (tr_same rfl rfl (tr_same rfl rfl (tr_same rfl rfl (tr_this (tr_same rfl rfl (tr_same rfl rfl (tr_same rfl rfl (tr_same rfl rfl tr_nil))))))))))))⟩
      ·intro done hi hc hcu
       have n12 : done 12 = false := notdone_of (m := 12) hc hi rfl rfl
       refine two_step (m := 12) (A := Z40_A) n12 rfl ?_
       refine draw_exi (I := Z40_I) fun ga40 => ?_
       exact draw_value (i := 8) (t := 53) (v := sv79) rfl rfl (wanted_none rfl) (fun a => hasA_base) (ov_move rfl) rfl rfl (onlyT_spec (k0 := 8) rfl rfl rfl)
      ·intro done hi hc hcu
       have n12 : done 12 = false := notdone_of (m := 12) hc hi rfl rfl
       refine two_step (m := 12) (A := Z40_A) n12 rfl ?_
       refine draw_exi (I := Z40_I) fun ga40 => ?_
       exact draw_value (i := 9) (t := 54) (v := (I x36)) rfl rfl (wanted_none rfl) (fun a => hasA_base) (ov_move rfl) rfl rfl (onlyT_spec (k0 := 9) rfl rfl rfl)
      ·intro done hi hc hcu
       have n12 : done 12 = false := notdone_of (m := 12) hc hi rfl rfl
       refine two_step (m := 12) (A := Z40_A) n12 rfl ?_
       refine draw_exi (I := Z40_I) fun ga40 => ?_
       have d8 : done 8 = true := done_of (j := 8) hcu rfl (by decide) rfl
       have d9 : done 9 = true := done_of (j := 9) hcu rfl (by decide) rfl
       exact draw_value (i := 10) (t := 55) (v := (subs sv79 x36.toNat l11.length 1)) rfl rfl (wanted_none rfl) (fun a => (hasA_cons (k := 9) rfl d9 (hasA_cons (k := 8) rfl d8 hasA_base))) (ov_slice_lo 3 rfl rfl F_slice_28 F_size_2 rfl (isRd_ownx 2) c810 c813) rfl rfl (onlyT_spec (k0 := 10) rfl rfl rfl)
      ·intro done hi hc hcu
       have n12 : done 12 = false := notdone_of (m := 12) hc hi rfl rfl
       refine two_step (m := 12) (A := Z40_A) n12 rfl ?_
       refine ent_exi (S := fun ga40 => Z40_I ga40 done) fun ga40 => ?_
       have d7 : done 7 = true := done_of (j := 7) hcu rfl (by decide) rfl
       have d10 : done 10 = true := done_of (j := 10) hcu rfl (by decide) rfl
       have d4 : done 4 = true := done_step (i := 7) (j := 4) hc d7 rfl rfl
       have d0 : done 0 = true := done_step (i := 4) (j := 0) hc d4 rfl rfl
       exact draw_turnI (i := 11) (t := 56) (x := ga40) (L := Z40_L) (T := Z40_T) (L2 := [sel (done 6) (own (ga40 6) 2 1 [((l0.getD i40.toNat z_Api_Fact).Key).Hour].length (fl (eI .i64) [((l0.getD i40.toNat z_Api_Fact).Key).Hour])) emp,own (ga40 7) 2 1 ((([] : List Int) ++ (l11.take x36.toNat)) ++ [((l0.getD i40.toNat z_Api_Fact).Key).Hour]).length (fl (eI .i64) ((([] : List Int) ++ (l11.take x36.toNat)) ++ [((l0.getD i40.toNat z_Api_Fact).Key).Hour])),A0,own sv79 2 1 l11.length (fl (eI .i64) l11)]) rfl rfl (wanted_none rfl) (fun a => (hasA_cons (k := 10) rfl d10 (hasA_cons (k := 7) rfl d7 hasA_base))) (by simp only [Z40_T,Z40_L,d0,d4,d7,hi,sel]) (ot_appendx (sz := 0) (xs := ((([] : List Int) ++ (l11.take x36.toNat)) ++ [((l0.getD i40.toNat z_Api_Fact).Key).Hour])) (ys := (l11.drop x36.toNat)) 1 3 rfl rfl F_slice_28 F_size_2 F_zero_2 rfl F_bytes_2 rfl rfl rfl (isRd_drop (eI_len _) (isRd_ownx 2) (nat_le c810 c813)) rfl (eI_one _) c816) rfl rfl fun v_ M_ hM_ => ⟨upb ga40 11 v_,hM_.trans (show [sel (done 6) (own (ga40 6) 2 1 [((l0.getD i40.toNat z_Api_Fact).Key).Hour].length (fl (eI .i64) [((l0.getD i40.toNat z_Api_Fact).Key).Hour])) emp,own v_ 2 1 (((([] : List Int) ++ (l11.take x36.toNat)) ++ [((l0.getD i40.toNat z_Api_Fact).Key).Hour]) ++ (l11.drop x36.toNat)).length (fl (eI .i64) (((([] : List Int) ++ (l11.take x36.toNat)) ++ [((l0.getD i40.toNat z_Api_Fact).Key).Hour]) ++ (l11.drop x36.toNat))),A0,own sv79 2 1 l11.length (fl (eI .i64) l11)] = _ by simp [Z40_T,Z40_L,up,upb,sel,d0,d4,d7,hi]),(tr_same rfl rfl (tr_same rfl rfl (tr_same rfl rfl (tr_same rfl rfl (tr_same rfl rfl (tr_same rfl rfl (tr_same rfl rfl (tr_same rfl rfl (tr_same rfl rfl (tr_same rfl rfl (tr_same rfl rfl (tr_this tr_nil))))))))))))⟩
      ·intro done hi hc hcu
       refine two_last (m := 12) (A := Z40_A) (B := Z40_B) hi ?_
       refine last_exi (A := fun ga40 => Z40_I ga40 done) (B := fun ga40 => St 58 w0 F ((3,(ga40 11)) :: [(0,sv0),(4,I i40),(5,I (((l0.getD i40.toNat z_Api_Fact).Key).Hour)),(6,I x36),(33,I x36),(34,sv79),(35,I (l11.length : Int)),(36,bool (x36 == (l11.length : Int))),(37,bool (x36 == (l11.length : Int))),(38,sv79),(39,I x36),(40,(eptr sv79 (x36.toNat * 1))),(41,I (l11.getD x36.toNat 0)),(42,I (((l0.getD i40.toNat z_Api_Fact).Key).Hour)),(43,bool ((l11.getD x36.toNat 0) != (((l0.getD i40.toNat z_Api_Fact).Key).Hour))),(44,bool ((l11.getD x36.toNat 0) != (((l0.getD i40.toNat z_Api_Fact).Key).Hour))),(45,(ga40 0)),(46,sv79),(47,I x36),(48,(subs sv79 0 x36.toNat 1)),(49,(ga40 4)),(50,I (((l0.getD i40.toNat z_Api_Fact).Key).Hour)),(51,(ga40 6)),(52,(ga40 7)),(53,sv79),(54,I x36),(55,(subs sv79 x36.toNat l11.length 1)),(56,(ga40 11))]) [own (ga40 6) 2 1 [((l0.getD i40.toNat z_Api_Fact).Key).Hour].length (fl (eI .i64) [((l0.getD i40.toNat z_Api_Fact).Key).Hour]),own (ga40 11) 2 1 (((([] : List Int) ++ (l11.take x36.toNat)) ++ [((l0.getD i40.toNat z_Api_Fact).Key).Hour]) ++ (l11.drop x36.toNat)).length (fl (eI .i64) (((([] : List Int) ++ (l11.take x36.toNat)) ++ [((l0.getD i40.toNat z_Api_Fact).Key).Hour]) ++ (l11.drop x36.toNat))),A0,own sv79 2 1 l11.length (fl (eI .i64) l11)]) fun ga40 => ?_
       have d0 : done 0 = true := done_of (j := 0) hcu rfl (by decide) rfl
       have d1 : done 1 = true := done_of (j := 1) hcu rfl (by decide) rfl
       have d2 : done 2 = true := done_of (j := 2) hcu rfl (by decide) rfl
       have d3 : done 3 = true := done_of (j := 3) hcu rfl (by decide) rfl
       have d4 : done 4 = true := done_of (j := 4) hcu rfl (by decide) rfl
       have d5 : done 5 = true := done_of (j := 5) hcu rfl (by decide) rfl
       have d6 : done 6 = true := done_of (j := 6) hcu rfl (by decide) rfl
       have d7 : done 7 = true := done_of (j := 7) hcu rfl (by decide) rfl
       have d8 : done 8 = true := done_of (j := 8) hcu rfl (by decide) rfl
       have d9 : done 9 = true := done_of (j := 9) hcu rfl (by decide) rfl
       have d10 : done 10 = true := done_of (j := 10) hcu rfl (by decide) rfl
       have d11 : done 11 = true := done_of (j := 11) hcu rfl (by decide) rfl
       exact last_value (i := 12) (t := 3) (v := (ga40 11)) (L2 := [own (ga40 6) 2 1 [((l0.getD i40.toNat z_Api_Fact).Key).Hour].length (fl (eI .i64) [((l0.getD i40.toNat z_Api_Fact).Key).Hour]),own (ga40 11) 2 1 (((([] : List Int) ++ (l11.take x36.toNat)) ++ [((l0.getD i40.toNat z_Api_Fact).Key).Hour]) ++ (l11.drop x36.toNat)).length (fl (eI .i64) (((([] : List Int) ++ (l11.take x36.toNat)) ++ [((l0.getD i40.toNat z_Api_Fact).Key).Hour]) ++ (l11.drop x36.toNat))),A0,own sv79 2 1 l11.length (fl (eI .i64) l11)]) rfl rfl (wanted_none rfl) (by simp only [Z40_T,Z40_L,d0,d4,d6,d7,d11,sel]) (fun a => (hasA_cons (k := 11) rfl d11 hasA_base)) (fun a h_ => (Has.sub (ρ := [(45,(ga40 0)),(46,sv79),(47,I x36),(48,(subs sv79 0 x36.toNat 1)),(49,(ga40 4)),(50,I (((l0.getD i40.toNat z_Api_Fact).Key).Hour)),(51,(ga40 6)),(52,(ga40 7)),(53,sv79),(54,I x36),(55,(subs sv79 x36.toNat l11.length 1)),(56,(ga40 11))] ++ [(0,sv0),(3,sv79),(4,I i40),(5,I (((l0.getD i40.toNat z_Api_Fact).Key).Hour)),(6,I x36),(33,I x36),(34,sv79),(35,I (l11.length : Int)),(36,bool (x36 == (l11.length : Int))),(37,bool (x36 == (l11.length : Int))),(38,sv79),(39,I x36),(40,(eptr sv79 (x36.toNat * 1))),(41,I (l11.getD x36.toNat 0)),(42,I (((l0.getD i40.toNat z_Api_Fact).Key).Hour)),(43,bool ((l11.getD x36.toNat 0) != (((l0.getD i40.toNat z_Api_Fact).Key).Hour))),(44,bool ((l11.getD x36.toNat 0) != (((l0.getD i40.toNat z_Api_Fact).Key).Hour)))]) (((hasA_cons (k := 0) rfl d0 (hasA_cons (k := 1) rfl d1 (hasA_cons (k := 2) rfl d2 (hasA_cons (k := 3) rfl d3 (hasA_cons (k := 4) rfl d4 (hasA_cons (k := 5) rfl d5 (hasA_cons (k := 6) rfl d6 (hasA_cons (k := 7) rfl d7 (hasA_cons (k := 8) rfl d8 (hasA_cons (k := 9) rfl d9 (hasA_cons (k := 10) rfl d10 (hasA_cons (k := 11) rfl d11 hasA_base)))))))))))) : HasA a _ _ _ → Has a ([(45,(ga40 0)),(46,sv79),(47,I x36),(48,(subs sv79 0 x36.toNat 1)),(49,(ga40 4)),(50,I (((l0.getD i40.toNat z_Api_Fact).Key).Hour)),(51,(ga40 6)),(52,(ga40 7)),(53,sv79),(54,I x36),(55,(subs sv79 x36.toNat l11.length 1)),(56,(ga40 11))] ++ [(0,sv0),(3,sv79),(4,I i40),(5,I (((l0.getD i40.toNat z_Api_Fact).Key).Hour)),(6,I x36),(33,I x36),(34,sv79),(35,I (l11.length : Int)),(36,bool (x36 == (l11.length : Int))),(37,bool (x36 == (l11.length : Int))),(38,sv79),(39,I x36),(40,(eptr sv79 (x36.toNat * 1))),(41,I (l11.getD x36.toNat 0)),(42,I (((l0.getD i40.toNat z_Api_Fact).Key).Hour)),(43,bool ((l11.getD x36.toNat 0) != (((l0.getD i40.toNat z_Api_Fact).Key).Hour))),(44,bool ((l11.getD x36.toNat 0) != (((l0.getD i40.toNat z_Api_Fact).Key).Hour)))])) h_) (sub_cons (t := 0) rfl (sub_cons (t := 4) rfl (sub_cons (t := 5) rfl (sub_cons (t := 6) rfl (sub_cons (t := 33) rfl (sub_cons (t := 34) rfl (sub_cons (t := 35) rfl (sub_cons (t := 36) rfl (sub_cons (t := 37) rfl (sub_cons (t := 38) rfl (sub_cons (t := 39) rfl (sub_cons (t := 40) rfl (sub_cons (t := 41) rfl (sub_cons (t := 42) rfl (sub_cons (t := 43) rfl (sub_cons (t := 44) rfl (sub_cons (t := 45) rfl (sub_cons (t := 46) rfl (sub_cons (t := 47) rfl (sub_cons (t := 48) rfl (sub_cons (t := 49) rfl (sub_cons (t := 50) rfl (sub_cons (t := 51) rfl (sub_cons (t := 52) rfl (sub_cons (t := 53) rfl (sub_cons (t := 54) rfl (sub_cons (t := 55) rfl (sub_cons (t := 56) rfl (sub_nil _))))))))))))))))))))))))))))))) (ov_assign rfl) rfl
     ·intro done hall
      refine two_end (A := Z40_A) (B := Z40_B) (hall 12 (by decide)) ?_
      refine ent_exi fun ga40 => ?_
      cases H85
      exact ent_fin [2,1] (by decide) rfl (sub_cons (t := 0) rfl (sub_cons (t := 3) rfl (sub_cons (t := 4) rfl (sub_nil _)))) fun a w h => ⟨_,h⟩
   ·refine ent_exi fun sv93 => ?_
    refine ent_region (ent_value (ov_move rfl) rfl rfl rfl (ent_value (ov_bin rfl rfl (b_add _ _ _) ) rfl rfl rfl (ent_value (ov_assign rfl) rfl rfl rfl (ent_nil ?_))))
    exact ent_fin [0,1] (by decide) rfl (sub_cons (t := 0) rfl (sub_cons (t := 3) rfl (sub_cons (t := 4) rfl (sub_nil _)))) fun a w h => ⟨k,Nat.lt_succ_self k,_,_,_,H81,h⟩

theorem ossuaryref08_Same_RR.spec (K : Nat) (sv0 : Value) (A0 : HP) (sv1 : Value) (A1 : HP) (l0 : List Int) (l1 : List Int) (hA0 : IsRd A0 sv0 l0.length 1 (fl (eI .i64) l0)) (hA1 : IsRd A1 sv1 l1.length 1 (fl (eI .i64) l1)) (r : Bool) (H : ossuaryref08_Same_RR K l0 l1 = some r) : FnSpec Try.prog 9 [sv0,sv1] [A0,A1] (fun v M => v = (bool r) ∧ M = [A0,A1]) := by
 unfold ossuaryref08_Same_RR at H
 refine spec_of Try.func9 rfl 26 rfl (Nat.le_of_ble_eq_true rfl) fun F w0 => ?_
 show Ent (St 26 w0 F [(0,sv0),(1,sv1)] [A0,A1]) _
 refine ent_seq (ent_region (ent_value (ov_assign rfl) rfl rfl rfl (ent_nil (ent_seq (ent_seq (ent_region (ent_value (ov_move rfl) rfl rfl rfl (ent_value (ov_len 0 rfl F_slice_28 rfl hA0) rfl rfl rfl (ent_value (ov_move rfl) rfl rfl rfl (ent_value (ov_len 1 rfl F_slice_28 rfl hA1) rfl rfl rfl (ent_value (ov_bin rfl rfl (b_neq _ _ _)) rfl rfl rfl ?_)))))))))))
 refine ent_nil ?_
 refine htT H (fun c48 H => ?_) fun c48 H => ?_
 ·refine ent_cond_true rfl (ne_t c48) (ent_seq (ent_region (ent_value (ov_assign rfl) rfl rfl rfl (ent_nil (ent_retc ?_)))))
  cases H
  refine ent_pick [0,1] (by decide) rfl ?_
  exact ret_tmp rfl rfl ⟨rfl,rfl⟩
 refine ent_cond_false rfl (ne_f c48) (ent_skip (ent_seq (ent_seq (ent_region (ent_value (ov_assign rfl) rfl rfl rfl (ent_nil (ent_block ?_)))))))
 refine ent_loop (fun k a w => ∃ i4,ossuaryref08_Same_RR_l0 K l0 l1 k i4 = some r ∧ St 26 w0 F [(0,sv0),(1,sv1),(5,I i4)] [A0,A1] a w) K ?_ ?_
 ·exact ent_fin [0,1] (by decide) rfl (sub_cons (t := 0) rfl (sub_cons (t := 1) rfl (sub_cons (t := 5) rfl (sub_nil _)))) fun a w h => ⟨_,H,h⟩
 ·refine fun k => ent_exi fun i4 => ent_and fun H4 => ?_
  cases k with
  | zero => exact absurd H4 (by simp [ossuaryref08_Same_RR_l0])
  | succ k =>
   rw [ossuaryref08_Same_RR_l0] at H4
   refine ent_seq (ent_seq (ent_region (ent_value (ov_move rfl) rfl rfl rfl (ent_value (ov_move rfl) rfl rfl rfl (ent_value (ov_len 0 rfl F_slice_28 rfl hA0) rfl rfl rfl (ent_value (ov_bin rfl rfl (b_lss _ _ _)) rfl rfl rfl (ent_nil ?_)))))))
   refine htF H4 (fun c86 H4 => ?_) fun c86 H4 => ?_
   ·refine ent_cond_false rfl (decide_eq_false c86) (ent_exit (ent_seq (ent_region (ent_value (ov_assign rfl) rfl rfl rfl (ent_nil (ent_retc ?_))))))
    cases H4
    refine ent_pick [0,1] (by decide) rfl ?_
    exact ret_tmp rfl rfl ⟨rfl,rfl⟩
   refine ent_cond_true rfl (decide_eq_true c86) (ent_skip (ent_seq (ent_block (ent_seq ?_))))
   obtain ⟨c90,H4⟩ := gdT H4
   obtain ⟨c91,H4⟩ := gdT H4
   refine ent_drawm 9 rfl (fun done a w => StD 26 w0 F [(0,sv0),(1,sv1),(5,I i4),(11,I i4),(12,sv0),(13,I (l0.length : Int)),(14,bool (decide (i4 < (l0.length : Int))))] [(0,17,sv0),(1,18,I i4),(2,19,(eptr sv0 (i4.toNat * 1))),(3,20,I (l0.getD i4.toNat 0)),(4,21,sv1),(5,22,I i4),(6,23,(eptr sv1 (i4.toNat * 1))),(7,24,I (l1.getD i4.toNat 0)),(8,25,bool ((l0.getD i4.toNat 0) != (l1.getD i4.toNat 0)))] done [A0,A1] a w) (by kernel_rfl) (by kernel_rfl) (draw_startL (sub_cons (t := 0) rfl (sub_cons (t := 1) rfl (sub_cons (t := 5) rfl (sub_cons (t := 11) rfl (sub_cons (t := 12) rfl (sub_cons (t := 13) rfl (sub_cons (t := 14) rfl (sub_nil _)))))))) rfl) ?_ ?_
   ·refine ⟨?_,?_,?_,?_,?_,?_,?_,?_,?_,trivial⟩
    ·exact fun done hi hc hcu => draw_value (i := 0) (t := 17) (v := sv0) rfl rfl (wanted_none rfl) (fun a => hasA_base) (ov_move rfl) rfl rfl (onlyT_spec (k0 := 0) rfl rfl rfl)
    ·exact fun done hi hc hcu => draw_value (i := 1) (t := 18) (v := (I i4)) rfl rfl (wanted_none rfl) (fun a => hasA_base) (ov_move rfl) rfl rfl (onlyT_spec (k0 := 1) rfl rfl rfl)
    ·exact fun done hi hc hcu => draw_value (i := 2) (t := 19) (v := (eptr sv0 (i4.toNat * 1))) rfl rfl (wanted_none rfl) (fun a => (hasA_cons (k := 1) rfl (done_of (j := 1) hcu rfl (by decide) rfl) (hasA_cons (k := 0) rfl (done_of (j := 0) hcu rfl (by decide) rfl) hasA_base))) (ov_indexAddr (sz := 0) 0 rfl rfl F_slice_28 F_size_2 rfl hA0 c90 c86) rfl rfl (onlyT_spec (k0 := 2) rfl rfl rfl)
    ·exact fun done hi hc hcu => draw_value (i := 3) (t := 20) (v := (I (l0.getD i4.toNat 0))) rfl rfl (wanted_none rfl) (fun a => (hasA_cons (k := 2) rfl (done_of (j := 2) hcu rfl (by decide) rfl) hasA_base)) (ov_load (v := (I (l0.getD i4.toNat 0))) rfl F_agg_2 (reads_rd (i := 0) rfl hA0 (by simp) (fl_read0 (eI_len _) (ix_lt c90 c86) rfl))) rfl rfl (onlyT_spec (k0 := 3) rfl rfl rfl)
    ·exact fun done hi hc hcu => draw_value (i := 4) (t := 21) (v := sv1) rfl rfl (wanted_none rfl) (fun a => hasA_base) (ov_move rfl) rfl rfl (onlyT_spec (k0 := 4) rfl rfl rfl)
    ·exact fun done hi hc hcu => draw_value (i := 5) (t := 22) (v := (I i4)) rfl rfl (wanted_none rfl) (fun a => hasA_base) (ov_move rfl) rfl rfl (onlyT_spec (k0 := 5) rfl rfl rfl)
    ·exact fun done hi hc hcu => draw_value (i := 6) (t := 23) (v := (eptr sv1 (i4.toNat * 1))) rfl rfl (wanted_none rfl) (fun a => (hasA_cons (k := 5) rfl (done_of (j := 5) hcu rfl (by decide) rfl) (hasA_cons (k := 4) rfl (done_of (j := 4) hcu rfl (by decide) rfl) hasA_base))) (ov_indexAddr (sz := 0) 1 rfl rfl F_slice_28 F_size_2 rfl hA1 c90 c91) rfl rfl (onlyT_spec (k0 := 6) rfl rfl rfl)
    ·exact fun done hi hc hcu => draw_value (i := 7) (t := 24) (v := (I (l1.getD i4.toNat 0))) rfl rfl (wanted_none rfl) (fun a => (hasA_cons (k := 6) rfl (done_of (j := 6) hcu rfl (by decide) rfl) hasA_base)) (ov_load (v := (I (l1.getD i4.toNat 0))) rfl F_agg_2 (reads_rd (i := 1) rfl hA1 (by simp) (fl_read0 (eI_len _) (ix_lt c90 c91) rfl))) rfl rfl (onlyT_spec (k0 := 7) rfl rfl rfl)
    ·exact fun done hi hc hcu => draw_value (i := 8) (t := 25) (v := (bool ((l0.getD i4.toNat 0) != (l1.getD i4.toNat 0)))) rfl rfl (wanted_none rfl) (fun a => (hasA_cons (k := 7) rfl (done_of (j := 7) hcu rfl (by decide) rfl) (hasA_cons (k := 3) rfl (done_of (j := 3) hcu rfl (by decide) rfl) hasA_base))) (ov_bin rfl rfl (b_neq _ _ _)) rfl rfl (onlyT_spec (k0 := 8) rfl rfl rfl)
   ·intro done hall
    refine draw_endL [A0,A1] rfl (fun a => (hasA_cons (k := 0) rfl (hall 0 (by decide)) (hasA_cons (k := 1) rfl (hall 1 (by decide)) (hasA_cons (k := 2) rfl (hall 2 (by decide)) (hasA_cons (k := 3) rfl (hall 3 (by decide)) (hasA_cons (k := 4) rfl (hall 4 (by decide)) (hasA_cons (k := 5) rfl (hall 5 (by decide)) (hasA_cons (k := 6) rfl (hall 6 (by decide)) (hasA_cons (k := 7) rfl (hall 7 (by decide)) (hasA_cons (k := 8) rfl (hall 8 (by decide)) hasA_base)))))))))) ?_
    refine htT H4 (fun c92 H4 => ?_) fun c92 H4 => ?_
    ·refine ent_cond_true rfl (ne_t c92) (ent_seq (ent_region (ent_value (ov_assign rfl) rfl rfl rfl (ent_nil (ent_retc ?_)))))
     cases H4
     refine ent_pick [0,1] (by decide) rfl ?_
     exact ret_tmp rfl rfl ⟨rfl,rfl⟩
    refine ent_cond_false rfl (ne_f c92) (ent_skip (ent_region (ent_value (ov_move rfl) rfl rfl rfl (ent_value (ov_bin rfl rfl (b_add _ _ _) ) rfl rfl rfl (ent_value (ov_assign rfl) rfl rfl rfl (ent_nil ?_))))))
    exact ent_fin [0,1] (by decide) rfl (sub_cons (t := 0) rfl (sub_cons (t := 1) rfl (sub_cons (t := 5) rfl (sub_nil _)))) fun a w h => ⟨k,Nat.lt_succ_self k,_,H4,h⟩

theorem slices_Clone____api_Fact__api_Fact_R.spec (sv0 : Value) (A0 : HP) (l0 : List Api_Fact) (hA0 : IsRd A0 sv0 l0.length 6 (fl enc_Api_Fact l0)) (r : List Api_Fact) (H : slices_Clone____api_Fact__api_Fact_R l0 = some r) : FnSpec Try.prog 31 [sv0] [A0] (fun v M => ∃ sv5 : Value,v = sv5 ∧ M = [A0,own sv5 52 6 r.length (fl enc_Api_Fact r)]) := by
 unfold slices_Clone____api_Fact__api_Fact_R at H
 refine spec_of Try.func31 rfl 8 rfl (Nat.le_of_ble_eq_true rfl) fun F w0 => ?_
 show Ent (St 8 w0 F [(0,sv0)] [A0]) _
 refine ent_seq (ent_region (ent_value (ov_assign rfl) rfl rfl rfl (ent_nil (ent_seq (ent_seq (ent_region (ent_value (ov_move rfl) rfl rfl rfl ?_)))))))
 refine htT H (fun c9 H => ?_) fun c9 H => ?_
 ·refine ent_value (ov_eqnil 0 rfl rfl Try.underlying22 rfl hA0 rfl c9) rfl rfl rfl (ent_nil (ent_cond_false rfl rfl (ent_skip (ent_seq (ent_region ?_)))))
  refine ent_op (ot_buildSlice (sz := 5) (xs := []) (cs := fl enc_Api_Fact ([] : List Api_Fact)) rfl rfl F_slice_22 F_size_52 F_zero_52 rfl rfl (all_size rfl) rfl (by decide)) rfl rfl rfl ?_
  rintro sv6 _ rfl
  refine ent_value (ov_move rfl) rfl rfl rfl ?_
  obtain ⟨c10,H⟩ := gdT H
  refine ent_op (ot_appendx (sz := 5) (xs := ([] : List Api_Fact)) (ys := l0) 0 1 rfl rfl F_slice_22 F_size_52 F_zero_52 rfl F_bytes_52 rfl rfl rfl hA0 rfl enc_Api_Fact_one c10) rfl rfl rfl ?_
  rintro sv7 _ rfl
  refine ent_L [own sv7 52 6 (([] : List Api_Fact) ++ l0).length (fl enc_Api_Fact (([] : List Api_Fact) ++ l0)),A0] rfl ?_
  refine ent_value (ov_assign rfl) rfl rfl rfl (ent_nil (ent_retc ?_))
  cases H
  refine ent_pick [1,0] (by decide) rfl ?_
  exact ret_tmp rfl rfl ⟨_,rfl,rfl⟩
 by_cases c11 : nilS sv0 = true
 ·replace H : (some (([] : List Api_Fact))) = _ := H
  refine ent_value (ov_eqnil0 0 rfl rfl Try.underlying22 rfl hA0 c11) rfl rfl rfl (ent_nil (ent_cond_true rfl rfl (ent_seq (ent_region (ent_value (ov_assign rfl) rfl rfl rfl (ent_nil (ent_retc ?_)))))))
  cases H
  refine ent_ownnil 52 6 ?_
  refine ent_pick [1,0] (by decide) rfl ?_
  exact ret_tmp rfl rfl ⟨_,rfl,rfl⟩
 ·refine ent_value (ov_eqnil0 0 rfl rfl Try.underlying22 rfl hA0 (Bool.eq_false_iff.2 c11)) rfl rfl rfl (ent_nil (ent_cond_false rfl rfl (ent_skip (ent_seq (ent_region ?_)))))
  refine ent_op (ot_buildSlice (sz := 5) (xs := []) (cs := fl enc_Api_Fact ([] : List Api_Fact)) rfl rfl F_slice_22 F_size_52 F_zero_52 rfl rfl (all_size rfl) rfl (by decide)) rfl rfl rfl ?_
  rintro sv8 _ rfl
  refine ent_value (ov_move rfl) rfl rfl rfl ?_
  obtain ⟨c12,H⟩ := gdT H
  refine ent_op (ot_appendx (sz := 5) (xs := ([] : List Api_Fact)) (ys := ([] : List Api_Fact)) 0 1 rfl rfl F_slice_22 F_size_52 F_zero_52 rfl F_bytes_52 rfl rfl rfl (isRd_zero hA0 c9) rfl enc_Api_Fact_one c12) rfl rfl rfl ?_
  rintro sv9 _ rfl
  refine ent_L [own sv9 52 6 (([] : List Api_Fact) ++ ([] : List Api_Fact)).length (fl enc_Api_Fact (([] : List Api_Fact) ++ ([] : List Api_Fact))),A0] rfl ?_
  refine ent_value (ov_assign rfl) rfl rfl rfl (ent_nil (ent_retc ?_))
  cases H
  refine ent_pick [1,0] (by decide) rfl ?_
  exact ret_tmp rfl rfl ⟨_,rfl,rfl⟩

theorem cmp_isNaN__int64.spec (a0 : Int) (r : Bool) (H : cmp_isNaN__int64 a0 = r) : FnSpec Try.prog 58 [I a0] [] (fun v M => v = (bool r) ∧ M = []) := by
 unfold cmp_isNaN__int64 at H
 refine spec_of Try.func58 rfl 6 rfl (Nat.le_of_ble_eq_true rfl) fun F w0 => ?_
 show Ent (St 6 w0 F [(0,I a0)] []) _
 refine ent_seq (ent_region (ent_value (ov_assign rfl) rfl rfl rfl (ent_nil (ent_seq (ent_region (ent_value (ov_move rfl) rfl rfl rfl (ent_value (ov_move rfl) rfl rfl rfl (ent_value (ov_bin rfl rfl (b_neq _ _ _)) rfl rfl rfl (ent_value (ov_assign rfl) rfl rfl rfl (ent_nil (ent_retc ?_)))))))))))
 cases H
 refine ent_pick [] (by decide) rfl ?_
 exact ret_tmp rfl rfl ⟨rfl,rfl⟩

theorem cmp_Compare__int64.spec (a0 a1 r : Int) (H : cmp_Compare__int64 a0 a1 = r) : FnSpec Try.prog 36 [I a0,I a1] [] (fun v M => v = (I r) ∧ M = []) := by
 unfold cmp_Compare__int64 at H
 refine spec_of Try.func36 rfl 20 rfl (Nat.le_of_ble_eq_true rfl) fun F w0 => ?_
 show Ent (St 20 w0 F [(0,I a0),(1,I a1)] []) _
 refine ent_seq (ent_region (ent_value (ov_assign rfl) rfl rfl rfl (ent_nil (ent_seq (ent_region (ent_value (ov_move rfl) rfl rfl rfl ?_))))))
 obtain ⟨x3,h3,H⟩ := thn_elim H
 refine ent_op (ot_call0 (first := []) (cap := []) (xs := [.tmp 7]) rfl rfl F_call_58 rfl (cmp_isNaN__int64.spec a0 _ h3)) rfl rfl rfl ?_
 rintro _ _ ⟨rfl,rfl⟩
 refine ent_value (ov_assign rfl) rfl rfl rfl (ent_nil (ent_seq (ent_region (ent_value (ov_move rfl) rfl rfl rfl ?_))))
 obtain ⟨x4,h4,H⟩ := thn_elim H
 refine ent_op (ot_call0 (first := []) (cap := []) (xs := [.tmp 9]) rfl rfl F_call_58 rfl (cmp_isNaN__int64.spec a1 _ h4)) rfl rfl rfl ?_
 rintro _ _ ⟨rfl,rfl⟩
 refine ent_value (ov_assign rfl) rfl rfl rfl (ent_nil (ent_seq (ent_seq (ent_region (ent_value (ov_move rfl) rfl rfl rfl (ent_nil ?_))))))
 refine htT H (fun c16 H => ?_) fun c16 H => ?_
 ·refine ent_cond_true rfl c16 (ent_seq (ent_seq (ent_region (ent_value (ov_move rfl) rfl rfl rfl (ent_nil ?_)))))
  refine htT H (fun c18 H => ?_) fun c18 H => ?_
  ·refine ent_cond_true rfl c18 (ent_seq (ent_region (ent_value (ov_assign rfl) rfl rfl rfl (ent_nil (ent_retc ?_)))))
   cases H
   refine ent_pick [] (by decide) rfl ?_
   exact ret_tmp rfl rfl ⟨rfl,rfl⟩
  refine ent_cond_false rfl (Bool.eq_false_iff.2 c18) (ent_skip (ent_seq (ent_region (ent_value (ov_assign rfl) rfl rfl rfl (ent_nil (ent_retc ?_))))))
  cases H
  refine ent_pick [] (by decide) rfl ?_
  exact ret_tmp rfl rfl ⟨rfl,rfl⟩
 refine ent_cond_false rfl (Bool.eq_false_iff.2 c16) (ent_skip (ent_seq (ent_seq (ent_region (ent_value (ov_move rfl) rfl rfl rfl (ent_nil ?_))))))
 refine htT H (fun c20 H => ?_) fun c20 H => ?_
 ·refine ent_cond_true rfl c20 (ent_seq (ent_region (ent_value (ov_assign rfl) rfl rfl rfl (ent_nil (ent_retc ?_)))))
  cases H
  refine ent_pick [] (by decide) rfl ?_
  exact ret_tmp rfl rfl ⟨rfl,rfl⟩
 refine ent_cond_false rfl (Bool.eq_false_iff.2 c20) (ent_skip (ent_seq (ent_seq (ent_region (ent_value (ov_move rfl) rfl rfl rfl (ent_value (ov_move rfl) rfl rfl rfl (ent_value (ov_bin rfl rfl (b_lss _ _ _)) rfl rfl rfl (ent_nil ?_))))))))
 refine htT H (fun c22 H => ?_) fun c22 H => ?_
 ·refine ent_cond_true rfl (decide_eq_true c22) (ent_seq (ent_region (ent_value (ov_assign rfl) rfl rfl rfl (ent_nil (ent_retc ?_)))))
  cases H
  refine ent_pick [] (by decide) rfl ?_
  exact ret_tmp rfl rfl ⟨rfl,rfl⟩
 refine ent_cond_false rfl (decide_eq_false c22) (ent_skip (ent_seq (ent_seq (ent_region (ent_value (ov_move rfl) rfl rfl rfl (ent_value (ov_move rfl) rfl rfl rfl (ent_value (ov_bin rfl rfl (b_gtr _ _ _)) rfl rfl rfl (ent_nil ?_))))))))
 refine htT H (fun c24 H => ?_) fun c24 H => ?_
 ·refine ent_cond_true rfl (decide_eq_true c24) (ent_seq (ent_region (ent_value (ov_assign rfl) rfl rfl rfl (ent_nil (ent_retc ?_)))))
  cases H
  refine ent_pick [] (by decide) rfl ?_
  exact ret_tmp rfl rfl ⟨rfl,rfl⟩
 refine ent_cond_false rfl (decide_eq_false c24) (ent_skip (ent_seq (ent_region (ent_value (ov_assign rfl) rfl rfl rfl (ent_nil (ent_retc ?_))))))
 cases H
 refine ent_pick [] (by decide) rfl ?_
 exact ret_tmp rfl rfl ⟨rfl,rfl⟩

theorem cmp_isNaN__string.spec (a0 : List UInt8) (r : Bool) (H : cmp_isNaN__string a0 = r) : FnSpec Try.prog 102 [str a0] [] (fun v M => v = (bool r) ∧ M = []) := by
 unfold cmp_isNaN__string at H
 refine spec_of Try.func102 rfl 6 rfl (Nat.le_of_ble_eq_true rfl) fun F w0 => ?_
 show Ent (St 6 w0 F [(0,str a0)] []) _
 refine ent_seq (ent_region (ent_value (ov_assign rfl) rfl rfl rfl (ent_nil (ent_seq (ent_region (ent_value (ov_move rfl) rfl rfl rfl (ent_value (ov_move rfl) rfl rfl rfl (ent_value (ov_bin rfl rfl (b_neq_str _ _)) rfl rfl rfl (ent_value (ov_assign rfl) rfl rfl rfl (ent_nil (ent_retc ?_)))))))))))
 cases H
 refine ent_pick [] (by decide) rfl ?_
 exact ret_tmp rfl rfl ⟨rfl,rfl⟩

theorem cmp_Compare__string.spec (a0 : List UInt8) (a1 : List UInt8) (r : Int) (H : cmp_Compare__string a0 a1 = r) : FnSpec Try.prog 88 [str a0,str a1] [] (fun v M => v = (I r) ∧ M = []) := by
 unfold cmp_Compare__string at H
 refine spec_of Try.func88 rfl 20 rfl (Nat.le_of_ble_eq_true rfl) fun F w0 => ?_
 show Ent (St 20 w0 F [(0,str a0),(1,str a1)] []) _
 refine ent_seq (ent_region (ent_value (ov_assign rfl) rfl rfl rfl (ent_nil (ent_seq (ent_region (ent_value (ov_move rfl) rfl rfl rfl ?_))))))
 obtain ⟨x3,h3,H⟩ := thn_elim H
 refine ent_op (ot_call0 (first := []) (cap := []) (xs := [.tmp 7]) rfl rfl F_call_102 rfl (cmp_isNaN__string.spec a0 _ h3)) rfl rfl rfl ?_
 rintro _ _ ⟨rfl,rfl⟩
 refine ent_value (ov_assign rfl) rfl rfl rfl (ent_nil (ent_seq (ent_region (ent_value (ov_move rfl) rfl rfl rfl ?_))))
 obtain ⟨x4,h4,H⟩ := thn_elim H
 refine ent_op (ot_call0 (first := []) (cap := []) (xs := [.tmp 9]) rfl rfl F_call_102 rfl (cmp_isNaN__string.spec a1 _ h4)) rfl rfl rfl ?_
 rintro _ _ ⟨rfl,rfl⟩
 refine ent_value (ov_assign rfl) rfl rfl rfl (ent_nil (ent_seq (ent_seq (ent_region (ent_value (ov_move rfl) rfl rfl rfl (ent_nil ?_))))))
 refine htT H (fun c16 H => ?_) fun c16 H => ?_
 ·refine ent_cond_true rfl c16 (ent_seq (ent_seq (ent_region (ent_value (ov_move rfl) rfl rfl rfl (ent_nil ?_)))))
  refine htT H (fun c18 H => ?_) fun c18 H => ?_
  ·refine ent_cond_true rfl c18 (ent_seq (ent_region (ent_value (ov_assign rfl) rfl rfl rfl (ent_nil (ent_retc ?_)))))
   cases H
   refine ent_pick [] (by decide) rfl ?_
   exact ret_tmp rfl rfl ⟨rfl,rfl⟩
  refine ent_cond_false rfl (Bool.eq_false_iff.2 c18) (ent_skip (ent_seq (ent_region (ent_value (ov_assign rfl) rfl rfl rfl (ent_nil (ent_retc ?_))))))
  cases H
  refine ent_pick [] (by decide) rfl ?_
  exact ret_tmp rfl rfl ⟨rfl,rfl⟩
 refine ent_cond_false rfl (Bool.eq_false_iff.2 c16) (ent_skip (ent_seq (ent_seq (ent_region (ent_value (ov_move rfl) rfl rfl rfl (ent_nil ?_))))))
 refine htT H (fun c20 H => ?_) fun c20 H => ?_
 ·refine ent_cond_true rfl c20 (ent_seq (ent_region (ent_value (ov_assign rfl) rfl rfl rfl (ent_nil (ent_retc ?_)))))
  cases H
  refine ent_pick [] (by decide) rfl ?_
  exact ret_tmp rfl rfl ⟨rfl,rfl⟩
 refine ent_cond_false rfl (Bool.eq_false_iff.2 c20) (ent_skip (ent_seq (ent_seq (ent_region (ent_value (ov_move rfl) rfl rfl rfl (ent_value (ov_move rfl) rfl rfl rfl (ent_value (ov_bin rfl rfl (b_lss_str _ _)) rfl rfl rfl (ent_nil ?_))))))))
 refine htT H (fun c22 H => ?_) fun c22 H => ?_
 ·refine ent_cond_true rfl (decide_eq_true c22) (ent_seq (ent_region (ent_value (ov_assign rfl) rfl rfl rfl (ent_nil (ent_retc ?_)))))
  cases H
  refine ent_pick [] (by decide) rfl ?_
  exact ret_tmp rfl rfl ⟨rfl,rfl⟩
 refine ent_cond_false rfl (decide_eq_false c22) (ent_skip (ent_seq (ent_seq (ent_region (ent_value (ov_move rfl) rfl rfl rfl (ent_value (ov_move rfl) rfl rfl rfl (ent_value (ov_bin rfl rfl (b_gtr_str _ _)) rfl rfl rfl (ent_nil ?_))))))))
 refine htT H (fun c24 H => ?_) fun c24 H => ?_
 ·refine ent_cond_true rfl (decide_eq_true c24) (ent_seq (ent_region (ent_value (ov_assign rfl) rfl rfl rfl (ent_nil (ent_retc ?_)))))
  cases H
  refine ent_pick [] (by decide) rfl ?_
  exact ret_tmp rfl rfl ⟨rfl,rfl⟩
 refine ent_cond_false rfl (decide_eq_false c24) (ent_skip (ent_seq (ent_region (ent_value (ov_assign rfl) rfl rfl rfl (ent_nil (ent_retc ?_))))))
 cases H
 refine ent_pick [] (by decide) rfl ?_
 exact ret_tmp rfl rfl ⟨rfl,rfl⟩

theorem slices_Compare_____string__string_RR.spec (K : Nat) (sv0 : Value) (A0 : HP) (sv1 : Value) (A1 : HP) (l0 : List (List UInt8)) (l1 : List (List UInt8)) (hA0 : IsRd A0 sv0 l0.length 1 (fl eS l0)) (hA1 : IsRd A1 sv1 l1.length 1 (fl eS l1)) (r : Int) (H : slices_Compare_____string__string_RR K l0 l1 = some r) : FnSpec Try.prog 57 [sv0,sv1] [A0,A1] (fun v M => v = (I r) ∧ M = [A0,A1]) := by
 unfold slices_Compare_____string__string_RR at H
 refine spec_of Try.func57 rfl 36 rfl (Nat.le_of_ble_eq_true rfl) fun F w0 => ?_
 show Ent (St 36 w0 F [(0,sv0),(1,sv1)] [A0,A1]) _
 refine ent_seq (ent_region (ent_value (ov_assign rfl) rfl rfl rfl (ent_nil ?_)))
 obtain ⟨x20,H7,H⟩ := Option.bind_eq_some_iff.1 H
 refine ent_seq_cut (fun a w => ∃ v2,x20 = Sum.inl v2 ∧ St 36 w0 F [(0,sv0),(1,sv1)] [A0,A1] a w) ?_ ?_
 ·refine ent_seq (ent_region (ent_value (ov_move rfl) rfl rfl rfl (ent_value (ov_len 0 rfl F_slice_89 rfl hA0) rfl rfl rfl (ent_value (ov_move rfl) rfl rfl rfl (ent_nil (ent_block ?_))))))
  refine ent_loop (fun k a w => ∃ i5,slices_Compare_____string__string_RR_l0 K l0 l1 k i5 = some x20 ∧ St 36 w0 F [(0,sv0),(1,sv1),(9,sv0),(10,I (l0.length : Int)),(11,I i5)] [A0,A1] a w) K ?_ ?_
  ·exact ent_fin [0,1] (by decide) rfl (sub_cons (t := 0) rfl (sub_cons (t := 1) rfl (sub_cons (t := 9) rfl (sub_cons (t := 10) rfl (sub_cons (t := 11) rfl (sub_nil _)))))) fun a w h => ⟨_,H7,h⟩
  ·refine fun k => ent_exi fun i5 => ent_and fun H8 => ?_
   cases k with
   | zero => exact absurd H8 (by simp [slices_Compare_____string__string_RR_l0])
   | succ k =>
    rw [slices_Compare_____string__string_RR_l0] at H8
    refine ent_seq (ent_region (ent_value (ov_bin rfl rfl (b_lss _ _ _)) rfl rfl rfl (ent_nil (ent_seq ?_))))
    refine htF H8 (fun c128 H8 => ?_) fun c128 H8 => ?_
    ·refine ent_cond_false rfl (decide_eq_false c128) (ent_exit ?_)
     cases H8
     exact ent_fin [0,1] (by decide) rfl (sub_cons (t := 0) rfl (sub_cons (t := 1) rfl (sub_nil _))) fun a w h => ⟨_,rfl,h⟩
    refine ent_cond_true rfl (decide_eq_true c128) (ent_skip (ent_seq (ent_block (ent_seq (ent_region (ent_value (ov_move rfl) rfl rfl rfl ?_))))))
    obtain ⟨c134,H8⟩ := gdT H8
    refine ent_value (ov_indexAddr (sz := 0) 0 rfl rfl F_slice_89 F_size_9 rfl hA0 c134 c128) rfl rfl rfl ?_
    refine ent_value (ov_load (v := (str (l0.getD i5.toNat []))) rfl F_agg_9 (reads_rd (i := 0) rfl hA0 (by simp) (fl_read0 eS_len (ix_lt c134 c128) rfl))) rfl rfl rfl ?_
    refine ent_value (ov_assign rfl) rfl rfl rfl (ent_value (ov_assign rfl) rfl rfl rfl (ent_nil (ent_seq (ent_seq (ent_region (ent_value (ov_move rfl) rfl rfl rfl (ent_value (ov_move rfl) rfl rfl rfl (ent_value (ov_len 1 rfl F_slice_89 rfl hA1) rfl rfl rfl (ent_value (ov_bin rfl rfl (b_geq _ _ _)) rfl rfl rfl (ent_nil ?_))))))))))
    refine htT H8 (fun c136 H8 => ?_) fun c136 H8 => ?_
    ·refine ent_cond_true rfl (decide_eq_true c136) (ent_seq (ent_region (ent_value (ov_assign rfl) rfl rfl rfl (ent_nil (ent_retc ?_)))))
     cases H8
     have H9 := Option.some.inj (show some _ = some _ from H)
     cases H9
     refine ent_pick [0,1] (by decide) rfl ?_
     exact ret_tmp rfl rfl ⟨rfl,rfl⟩
    refine ent_cond_false rfl (decide_eq_false c136) (ent_skip (ent_seq (ent_region (ent_value (ov_move rfl) rfl rfl rfl (ent_value (ov_move rfl) rfl rfl rfl ?_)))))
    obtain ⟨c137,H8⟩ := gdT H8
    refine ent_value (ov_indexAddr (sz := 0) 1 rfl rfl F_slice_89 F_size_9 rfl hA1 c134 c137) rfl rfl rfl ?_
    refine ent_value (ov_load (v := (str (l1.getD i5.toNat []))) rfl F_agg_9 (reads_rd (i := 1) rfl hA1 (by simp) (fl_read0 eS_len (ix_lt c134 c137) rfl))) rfl rfl rfl ?_
    refine ent_value (ov_assign rfl) rfl rfl rfl (ent_nil (ent_seq (ent_region (ent_value (ov_move rfl) rfl rfl rfl (ent_value (ov_move rfl) rfl rfl rfl ?_)))))
    obtain ⟨x26,h24,H8⟩ := thn_elim H8
    refine ent_op (ot_call0 (first := []) (cap := []) (xs := [.tmp 24,.tmp 25]) rfl rfl F_call_88 rfl (cmp_Compare__string.spec (l0.getD i5.toNat []) (l1.getD i5.toNat []) _ h24)) rfl rfl rfl ?_
    rintro _ _ ⟨rfl,rfl⟩
    refine ent_value (ov_assign rfl) rfl rfl rfl (ent_nil (ent_seq (ent_region (ent_value (ov_move rfl) rfl rfl rfl (ent_value (ov_bin rfl rfl (b_neq _ _ _)) rfl rfl rfl (ent_nil ?_))))))
    refine htT H8 (fun c138 H8 => ?_) fun c138 H8 => ?_
    ·refine ent_cond_true rfl (ne_t c138) (ent_seq (ent_region (ent_value (ov_move rfl) rfl rfl rfl (ent_value (ov_assign rfl) rfl rfl rfl (ent_nil (ent_retc ?_))))))
     cases H8
     have H10 := Option.some.inj (show some _ = some _ from H)
     cases H10
     refine ent_pick [0,1] (by decide) rfl ?_
     exact ret_tmp rfl rfl ⟨rfl,rfl⟩
    refine ent_cond_false rfl (ne_f c138) (ent_skip (ent_region (ent_value (ov_bin rfl rfl (b_add _ _ _) ) rfl rfl rfl (ent_value (ov_move rfl) rfl rfl rfl (ent_nil ?_)))))
    exact ent_fin [0,1] (by decide) rfl (sub_cons (t := 0) rfl (sub_cons (t := 1) rfl (sub_cons (t := 9) rfl (sub_cons (t := 10) rfl (sub_cons (t := 11) rfl (sub_nil _)))))) fun a w h => ⟨k,Nat.lt_succ_self k,_,H8,h⟩
 ·refine ent_exi fun v2 => ent_and fun e_ => ?_
  subst e_
  rw [cas_inl] at H
  refine ent_seq (ent_seq (ent_region (ent_value (ov_move rfl) rfl rfl rfl (ent_value (ov_len 0 rfl F_slice_89 rfl hA0) rfl rfl rfl (ent_value (ov_move rfl) rfl rfl rfl (ent_value (ov_len 1 rfl F_slice_89 rfl hA1) rfl rfl rfl (ent_value (ov_bin rfl rfl (b_lss _ _ _)) rfl rfl rfl (ent_nil ?_))))))))
  refine htT H (fun c140 H => ?_) fun c140 H => ?_
  ·refine ent_cond_true rfl (decide_eq_true c140) (ent_seq (ent_region (ent_value (ov_assign rfl) rfl rfl rfl (ent_nil (ent_retc ?_)))))
   cases H
   refine ent_pick [0,1] (by decide) rfl ?_
   exact ret_tmp rfl rfl ⟨rfl,rfl⟩
  refine ent_cond_false rfl (decide_eq_false c140) (ent_skip (ent_seq (ent_region (ent_value (ov_assign rfl) rfl rfl rfl (ent_nil (ent_retc ?_))))))
  cases H
  refine ent_pick [0,1] (by decide) rfl ?_
  exact ret_tmp rfl rfl ⟨rfl,rfl⟩

theorem cmp_Or__int_R.spec (K : Nat) (sv0 : Value) (A0 : HP) (l0 : List Int) (hA0 : IsRd A0 sv0 l0.length 1 (fl (eI .i64) l0)) (r : Int) (H : cmp_Or__int_R K l0 = some r) : FnSpec Try.prog 34 [sv0] [A0] (fun v M => v = (I r) ∧ M = [A0]) := by
 unfold cmp_Or__int_R at H
 refine spec_of Try.func34 rfl 18 rfl (Nat.le_of_ble_eq_true rfl) fun F w0 => ?_
 show Ent (St 18 w0 F [(0,sv0)] [A0]) _
 refine ent_seq (ent_region (ent_value (ov_assign rfl) rfl rfl rfl (ent_nil (ent_seq (ent_region (ent_value (ov_assign rfl) rfl rfl rfl (ent_nil (ent_seq (ent_seq (ent_region (ent_value (ov_move rfl) rfl rfl rfl ?_)))))))))))
 refine ent_value (ov_len 0 rfl F_slice_97 rfl hA0) rfl rfl rfl (ent_value (ov_move rfl) rfl rfl rfl (ent_nil (ent_block ?_)))
 refine ent_loop (fun k a w => ∃ i5,cmp_Or__int_R_l0 K l0 k i5 = some r ∧ St 18 w0 F [(3,I 0),(6,sv0),(7,I (l0.length : Int)),(8,I i5)] [A0] a w) K ?_ ?_
 ·exact ent_fin [0] (by decide) rfl (sub_cons (t := 3) rfl (sub_cons (t := 6) rfl (sub_cons (t := 7) rfl (sub_cons (t := 8) rfl (sub_nil _))))) fun a w h => ⟨_,H,h⟩
 ·refine fun k => ent_exi fun i5 => ent_and fun H4 => ?_
  cases k with
  | zero => exact absurd H4 (by simp [cmp_Or__int_R_l0])
  | succ k =>
   rw [cmp_Or__int_R_l0] at H4
   refine ent_seq (ent_region (ent_value (ov_bin rfl rfl (b_lss _ _ _)) rfl rfl rfl (ent_nil (ent_seq ?_))))
   refine htF H4 (fun c60 H4 => ?_) fun c60 H4 => ?_
   ·refine ent_cond_false rfl (decide_eq_false c60) (ent_exit (ent_seq (ent_region (ent_value (ov_move rfl) rfl rfl rfl (ent_value (ov_assign rfl) rfl rfl rfl (ent_nil (ent_retc ?_)))))))
    cases H4
    refine ent_pick [0] (by decide) rfl ?_
    exact ret_tmp rfl rfl ⟨rfl,rfl⟩
   refine ent_cond_true rfl (decide_eq_true c60) (ent_skip (ent_seq (ent_block (ent_seq (ent_region ?_)))))
   obtain ⟨c63,H4⟩ := gdT H4
   refine ent_value (ov_indexAddr (sz := 0) 0 rfl rfl F_slice_97 F_size_3 rfl hA0 c63 c60) rfl rfl rfl ?_
   refine ent_value (ov_load (v := (I (l0.getD i5.toNat 0))) rfl F_agg_3 (reads_rd (i := 0) rfl hA0 (by simp) (fl_read0 (eI_len _) (ix_lt c63 c60) rfl))) rfl rfl rfl ?_
   refine ent_value (ov_assign rfl) rfl rfl rfl (ent_nil (ent_seq (ent_region (ent_value (ov_move rfl) rfl rfl rfl (ent_value (ov_move rfl) rfl rfl rfl (ent_value (ov_bin rfl rfl (b_neq _ _ _)) rfl rfl rfl (ent_nil ?_)))))))
   refine htT H4 (fun c64 H4 => ?_) fun c64 H4 => ?_
   ·refine ent_cond_true rfl (ne_t c64) (ent_seq (ent_region (ent_value (ov_move rfl) rfl rfl rfl (ent_value (ov_assign rfl) rfl rfl rfl (ent_nil (ent_retc ?_))))))
    cases H4
    refine ent_pick [0] (by decide) rfl ?_
    exact ret_tmp rfl rfl ⟨rfl,rfl⟩
   refine ent_cond_false rfl (ne_f c64) (ent_skip (ent_region (ent_value (ov_bin rfl rfl (b_add _ _ _) ) rfl rfl rfl (ent_value (ov_move rfl) rfl rfl rfl (ent_nil ?_)))))
   exact ent_fin [0] (by decide) rfl (sub_cons (t := 3) rfl (sub_cons (t := 6) rfl (sub_cons (t := 7) rfl (sub_cons (t := 8) rfl (sub_nil _))))) fun a w h => ⟨k,Nat.lt_succ_self k,_,H4,h⟩

theorem fact_Compare.spec (K : Nat) (a0_0 : Int) (a0_1 : List UInt8) (a0_2 : List UInt8) (a0_3 : List UInt8) (a0_4 : List UInt8) (a1_0 : Int) (a1_1 : List UInt8) (a1_2 : List UInt8) (a1_3 : List UInt8) (a1_4 : List UInt8) (r : Int) (H : fact_Compare K a0_0 a0_1 a0_2 a0_3 a0_4 a1_0 a1_1 a1_2 a1_3 a1_4 = some r) : FnSpec Try.prog 35 [agg #[I a0_0,str a0_1,str a0_2,str a0_3,str a0_4],agg #[I a1_0,str a1_1,str a1_2,str a1_3,str a1_4]] [] (fun v M => v = (I r) ∧ M = []) := by
 unfold fact_Compare at H
 refine spec_of Try.func35 rfl 17 rfl (Nat.le_of_ble_eq_true rfl) fun F w0 => ?_
 let C1_ : List Value := [I a1_0,str a1_1,str a1_2,str a1_3,str a1_4]
 let C0_ : List Value := [I a0_0,str a0_1,str a0_2,str a0_3,str a0_4]
 show Ent (St 17 w0 F [(0,agg #[I a0_0,str a0_1,str a0_2,str a0_3,str a0_4]),(1,agg #[I a1_0,str a1_1,str a1_2,str a1_3,str a1_4])] []) _
 refine ent_seq (ent_region ?_)
 refine ent_op (ot_box (cs := C0_) rfl rfl) rfl rfl rfl ?_
 rintro _ _ ⟨b3,rfl,rfl⟩
 refine ent_op (ot_box (cs := C1_) rfl rfl) rfl rfl rfl ?_
 rintro _ _ ⟨b4,rfl,rfl⟩
 refine ent_value (ov_assign rfl) rfl rfl rfl (ent_nil (ent_seq ?_))
 obtain ⟨x4,h4,H⟩ := thn_elim H
 obtain ⟨x5,h5,H⟩ := Option.bind_eq_some_iff.1 H
 obtain ⟨x6,h6,H⟩ := Option.bind_eq_some_iff.1 H
 let Z2_T : DT := fun ga2 => [(0,5,pt b3 0),(1,6,I a0_0),(2,7,pt b4 0),(3,8,I a1_0),(4,9,I x4),(5,10,pt b3 1),(6,11,(subs (asl b3 1 4) 0 4 1)),(7,12,pt b4 1),(8,13,(subs (asl b4 1 4) 0 4 1)),(9,14,I x5),(10,15,(ga2 10)),(11,16,I x6),(12,4,I x6)]
 let Z2_L : DL := fun ga2 done => [sel (done 10) (own (ga2 10) 3 1 [x4,x5].length (fl (eI .i64) [x4,x5])) emp,box b4 50 C1_,box b3 50 C0_]
 let Z2_I : DI := fun ga2 done a w => StD 17 w0 F [(0,agg #[I a0_0,str a0_1,str a0_2,str a0_3,str a0_4]),(1,agg #[I a1_0,str a1_1,str a1_2,str a1_3,str a1_4]),(2,pt b3 0),(3,pt b4 0)] (Z2_T ga2) done (Z2_L ga2 done) a w
 refine ent_drawm 13 rfl (fun done a w => ∃ ga2 : Nat → Value,Z2_I ga2 done a w) (by kernel_rfl) (by kernel_rfl) (draw_startG (T := Z2_T) (L' := fun ga2 : Nat → Value => [sel false (own (ga2 10) 3 1 [x4,x5].length (fl (eI .i64) [x4,x5])) emp,box b4 50 C1_,box b3 50 C0_]) 1 (sub_cons (t := 0) rfl (sub_cons (t := 1) rfl (sub_cons (t := 2) rfl (sub_cons (t := 3) rfl (sub_nil _))))) (fun _ => rfl)) ?_ ?_
 ·refine ⟨?_,?_,?_,?_,?_,?_,?_,?_,?_,?_,?_,?_,?_,trivial⟩
  ·exact fun done hi hc hcu => draw_exi (I := Z2_I) fun ga2 => draw_value (i := 0) (t := 5) (v := (pt b3 0)) rfl rfl (wanted_none rfl) (fun a => hasA_base) (ov_fieldAddr (sz := 0) (o := 0) rfl F_field_50_0 F_size_2) rfl rfl (onlyT_spec (k0 := 0) rfl rfl rfl)
  ·exact fun done hi hc hcu => draw_exi (I := Z2_I) fun ga2 => draw_value (i := 1) (t := 6) (v := (I a0_0)) rfl rfl (wanted_none rfl) (fun a => (hasA_cons (k := 0) rfl (done_of (j := 0) hcu rfl (by decide) rfl) hasA_base)) (ov_load (v := (I a0_0)) rfl F_agg_2 (reads_box1 (i := 2) rfl rfl)) rfl rfl (onlyT_spec (k0 := 1) rfl rfl rfl)
  ·exact fun done hi hc hcu => draw_exi (I := Z2_I) fun ga2 => draw_value (i := 2) (t := 7) (v := (pt b4 0)) rfl rfl (wanted_none rfl) (fun a => hasA_base) (ov_fieldAddr (sz := 0) (o := 0) rfl F_field_50_0 F_size_2) rfl rfl (onlyT_spec (k0 := 2) rfl rfl rfl)
  ·exact fun done hi hc hcu => draw_exi (I := Z2_I) fun ga2 => draw_value (i := 3) (t := 8) (v := (I a1_0)) rfl rfl (wanted_none rfl) (fun a => (hasA_cons (k := 2) rfl (done_of (j := 2) hcu rfl (by decide) rfl) hasA_base)) (ov_load (v := (I a1_0)) rfl F_agg_2 (reads_box1 (i := 1) rfl rfl)) rfl rfl (onlyT_spec (k0 := 3) rfl rfl rfl)
  ·exact fun done hi hc hcu => draw_exi (I := Z2_I) fun ga2 => draw_same (i := 4) (t := 9) (v := (I x4)) rfl rfl (wanted_none rfl) (fun a => (hasA_cons (k := 3) rfl (done_of (j := 3) hcu rfl (by decide) rfl) (hasA_cons (k := 1) rfl (done_of (j := 1) hcu rfl (by decide) rfl) hasA_base))) (ot_call0 (first := []) (cap := []) (xs := [.tmp 6,.tmp 8]) rfl rfl F_call_36 rfl (cmp_Compare__int64.spec a0_0 a1_0 _ h4)) rfl rfl (onlyT_spec (k0 := 4) rfl rfl rfl)
  ·exact fun done hi hc hcu => draw_exi (I := Z2_I) fun ga2 => draw_value (i := 5) (t := 10) (v := (pt b3 1)) rfl rfl (wanted_none rfl) (fun a => hasA_base) (ov_fieldAddr (sz := 3) (o := 0) rfl F_field_50_1 F_size_48) rfl rfl (onlyT_spec (k0 := 5) rfl rfl rfl)
  ·exact fun done hi hc hcu => draw_exi (I := Z2_I) fun ga2 => draw_value (i := 6) (t := 11) (v := (subs (asl b3 1 4) 0 4 1)) rfl rfl (wanted_none rfl) (fun a => (hasA_cons (k := 5) rfl (done_of (j := 5) hcu rfl (by decide) rfl) hasA_base)) (ov_asl_all rfl F_array_48 F_size_9) rfl rfl (onlyT_spec (k0 := 6) rfl rfl rfl)
  ·exact fun done hi hc hcu => draw_exi (I := Z2_I) fun ga2 => draw_value (i := 7) (t := 12) (v := (pt b4 1)) rfl rfl (wanted_none rfl) (fun a => hasA_base) (ov_fieldAddr (sz := 3) (o := 0) rfl F_field_50_1 F_size_48) rfl rfl (onlyT_spec (k0 := 7) rfl rfl rfl)
  ·exact fun done hi hc hcu => draw_exi (I := Z2_I) fun ga2 => draw_value (i := 8) (t := 13) (v := (subs (asl b4 1 4) 0 4 1)) rfl rfl (wanted_none rfl) (fun a => (hasA_cons (k := 7) rfl (done_of (j := 7) hcu rfl (by decide) rfl) hasA_base)) (ov_asl_all rfl F_array_48 F_size_9) rfl rfl (onlyT_spec (k0 := 8) rfl rfl rfl)
  ·exact fun done hi hc hcu => draw_exi (I := Z2_I) fun ga2 => draw_same (i := 9) (t := 14) (v := (I x5)) rfl rfl (wanted_none rfl) (fun a => (hasA_cons (k := 8) rfl (done_of (j := 8) hcu rfl (by decide) rfl) (hasA_cons (k := 6) rfl (done_of (j := 6) hcu rfl (by decide) rfl) hasA_base))) (ot_call_same (Lr := [sel (done 10) (own (ga2 10) 3 1 [x4,x5].length (fl (eI .i64) [x4,x5])) emp]) [2,1,0] [2,1,0] (first := []) (cap := []) (xs := [.tmp 11,.tmp 13]) rfl rfl F_call_57 rfl (slices_Compare_____string__string_RR.spec K (subs (asl b3 1 4) 0 4 1) (box b3 50 C0_) (subs (asl b4 1 4) 0 4 1) (box b4 50 C1_) ([a0_1,a0_2,a0_3,a0_4].take 4) ([a1_1,a1_2,a1_3,a1_4].take 4) (isRd_take eS_len (show IsRd (box b3 50 C0_) (asl b3 1 4) ([a0_1,a0_2,a0_3,a0_4] : List (List UInt8)).length 1 (fl eS [a0_1,a0_2,a0_3,a0_4]) from (isRd_box (o := 1) (n := 4) (sz := 1) (ds := fl eS [a0_1,a0_2,a0_3,a0_4]) rfl (by decide) rfl)) (Nat.le_refl _)) (isRd_take eS_len (show IsRd (box b4 50 C1_) (asl b4 1 4) ([a1_1,a1_2,a1_3,a1_4] : List (List UInt8)).length 1 (fl eS [a1_1,a1_2,a1_3,a1_4]) from (isRd_box (o := 1) (n := 4) (sz := 1) (ds := fl eS [a1_1,a1_2,a1_3,a1_4]) rfl (by decide) rfl)) (Nat.le_refl _)) _ h5) (by decide) rfl (by decide) rfl) rfl rfl (onlyT_spec (k0 := 9) rfl rfl rfl)
  ·refine fun done hi hc hcu => ent_exi (S := fun ga2 => Z2_I ga2 done) fun ga2 => draw_newV (i := 10) (t := 15) (x := ga2) (L := Z2_L) (T := Z2_T) (L2 := [emp,box b4 50 C1_,box b3 50 C0_]) (B := fun v_ => (own v_ 3 1 [x4,x5].length (fl (eI .i64) [x4,x5]))) 0 rfl rfl (wanted_none rfl) (fun a => (hasA_cons (k := 9) rfl (done_of (j := 9) hcu rfl (by decide) rfl) (hasA_cons (k := 4) rfl (done_of (j := 4) hcu rfl (by decide) rfl) hasA_base))) (by simp only [C1_,C0_,Z2_T,Z2_L,hi,sel]) (ot_buildSlice (sz := 0) (xs := [.tmp 9,.tmp 14]) (cs := fl (eI .i64) [x4,x5]) rfl rfl F_slice_97 F_size_3 F_zero_3 rfl rfl (all_size rfl) rfl (by decide)) ?_ rfl (fun v_ => ?_) rfl rfl ?_
   ·rintro _ _ rfl; rfl
   ·simp [C1_,C0_,Z2_T,Z2_L,up,upb,sel,hi]
   ·rintro _ _ rfl
    exact (tr_same rfl rfl (tr_same rfl rfl (tr_same rfl rfl (tr_same rfl rfl (tr_same rfl rfl (tr_same rfl rfl (tr_same rfl rfl (tr_same rfl rfl (tr_same rfl rfl (tr_same rfl rfl (tr_this (tr_same rfl rfl (tr_same rfl rfl tr_nil)))))))))))))
  ·intro done hi hc hcu
   refine draw_exi (I := Z2_I) fun ga2 => ?_
   have d10 : done 10 = true := done_of (j := 10) hcu rfl (by decide) rfl
   exact draw_same (i := 11) (t := 16) (v := (I x6)) rfl rfl (wanted_none rfl) (fun a => (hasA_cons (k := 10) rfl d10 hasA_base)) (ot_L (L2 := [own (ga2 10) 3 1 [x4,x5].length (fl (eI .i64) [x4,x5]),box b4 50 C1_,box b3 50 C0_]) (by simp only [C1_,C0_,Z2_T,Z2_L,d10,sel]) (ot_call_same (Lr := [box b4 50 C1_,box b3 50 C0_]) [0,1,2] [0,1,2] (first := []) (cap := []) (xs := [.tmp 15]) rfl rfl F_call_34 rfl (cmp_Or__int_R.spec K (ga2 10) (own (ga2 10) 3 1 [x4,x5].length (fl (eI .i64) [x4,x5])) [x4,x5] (isRd_ownx 3) _ h6) (by decide) rfl (by decide) rfl)) rfl rfl (onlyT_spec (k0 := 11) rfl rfl rfl)
  ·exact fun done hi hc hcu => draw_exi (I := Z2_I) fun ga2 => draw_value (i := 12) (t := 4) (v := (I x6)) rfl rfl (wanted_none rfl) (fun a => (hasA_cons (k := 11) rfl (done_of (j := 11) hcu rfl (by decide) rfl) hasA_base)) (ov_assign rfl) rfl rfl (onlyT_spec (k0 := 12) rfl rfl rfl)
 ·intro done hall
  refine ent_exi (S := fun ga2 => Z2_I ga2 done) fun ga2 => ?_
  refine draw_endL [own (ga2 10) 3 1 [x4,x5].length (fl (eI .i64) [x4,x5]),box b4 50 C1_,box b3 50 C0_] (by simp only [C1_,C0_,Z2_T,Z2_L,hall 10 (by decide),sel]) (fun a => (hasA_cons (k := 12) rfl (hall 12 (by decide)) (hasA_cons (k := 0) rfl (hall 0 (by decide)) (hasA_cons (k := 1) rfl (hall 1 (by decide)) (hasA_cons (k := 2) rfl (hall 2 (by decide)) (hasA_cons (k := 3) rfl (hall 3 (by decide)) (hasA_cons (k := 4) rfl (hall 4 (by decide)) (hasA_cons (k := 5) rfl (hall 5 (by decide)) (hasA_cons (k := 6) rfl (hall 6 (by decide)) (hasA_cons (k := 7) rfl (hall 7 (by decide)) (hasA_cons (k := 8) rfl (hall 8 (by decide)) (hasA_cons (k := 9) rfl (hall 9 (by decide)) (hasA_cons (k := 10) rfl (hall 10 (by decide)) (hasA_cons (k := 11) rfl (hall 11 (by decide)) hasA_base)))))))))))))) ?_
  refine ent_retc ?_
  cases H
  refine ent_pick [] (by decide) rfl ?_
  exact ret_tmp rfl rfl ⟨rfl,rfl⟩

end Go.Proofs.Ytndjnimnemhbkaa.FactLooks
