/- Printed by gen.py: that the machine's calls do what the plain functions of FactBack say. -/
import Derived.Test.YtmhhjhckbiaidaaProg
import Derived.Test.YtmhhjhckbiaidaaEConv
import Derived.Test.YtmhhjhckbiaidaaFactBackPure
set_option linter.unusedVariables false
set_option linter.unusedSimpArgs false
set_option maxHeartbeats 400000
namespace Go.Proofs.Ytmhhjhckbiaidaa.FactBack
open Go Go.RowKit E

def enc_Api_Key (x : Api_Key) : List Value := [(Value.int .i64 x.Hour), (str x.Dims_0), (str x.Dims_1), (str x.Dims_2), (str x.Dims_3)]
theorem enc_Api_Key_one (x : Api_Key) : (enc_Api_Key x).all (·.oneCell') = true := rfl
theorem enc_Api_Key_len (x : Api_Key) : (enc_Api_Key x).length = 5 := rfl
def enc_Api_Fact (x : Api_Fact) : List Value := [(Value.int .i64 x.Key.Hour), (str x.Key.Dims_0), (str x.Key.Dims_1), (str x.Key.Dims_2), (str x.Key.Dims_3), (Value.int .i64 x.Value)]
theorem enc_Api_Fact_one (x : Api_Fact) : (enc_Api_Fact x).all (·.oneCell') = true := rfl
theorem enc_Api_Fact_len (x : Api_Fact) : (enc_Api_Fact x).length = 6 := rfl
theorem F_slice_35 : sliceB Try.prog 35 = some 43 := by kernel_rfl
theorem F_size_43 : sizeB Try.prog 43 = some 6 := by kernel_rfl
theorem F_field_43_0 : fieldB Try.prog 43 0 = some (0, 41) := by kernel_rfl
theorem F_size_41 : sizeB Try.prog 41 = some 5 := by kernel_rfl
theorem F_field_41_1 : fieldB Try.prog 41 1 = some (1, 39) := by kernel_rfl
theorem F_size_39 : sizeB Try.prog 39 = some 4 := by kernel_rfl
theorem F_array_39 : arrayB Try.prog 39 = some (4, 9) := by kernel_rfl
theorem F_size_9 : sizeB Try.prog 9 = some 1 := by kernel_rfl
theorem F_agg_9 : aggB Try.prog 9 = some false := by kernel_rfl
theorem F_call_25 : callB Try.prog 25 = true := by kernel_rfl
theorem F_zero_39 : zeroB Try.prog 39 = some [(str ([] : List UInt8)), (str ([] : List UInt8)), (str ([] : List UInt8)), (str ([] : List UInt8))] := by kernel_rfl
theorem F_zero_41 : zeroB Try.prog 41 = some [(Value.int .i64 0), (str ([] : List UInt8)), (str ([] : List UInt8)), (str ([] : List UInt8)), (str ([] : List UInt8))] := by kernel_rfl
theorem F_places_41 : placesB Try.prog 41 = some [(0, 1), (1, 4)] := by kernel_rfl
theorem F_zero_43 : zeroB Try.prog 43 = some [(Value.int .i64 0), (str ([] : List UInt8)), (str ([] : List UInt8)), (str ([] : List UInt8)), (str ([] : List UInt8)), (Value.int .i64 0)] := by kernel_rfl
theorem F_places_43 : placesB Try.prog 43 = some [(0, 5), (5, 1)] := by kernel_rfl
theorem F_call_72 : callB Try.prog 72 = true := by kernel_rfl
theorem F_agg_43 : aggB Try.prog 43 = some true := by kernel_rfl
theorem F_field_41_0 : fieldB Try.prog 41 0 = some (0, 2) := by kernel_rfl
theorem F_size_2 : sizeB Try.prog 2 = some 1 := by kernel_rfl
theorem F_agg_2 : aggB Try.prog 2 = some false := by kernel_rfl
theorem F_field_43_1 : fieldB Try.prog 43 1 = some (5, 2) := by kernel_rfl
theorem F_agg_39 : aggB Try.prog 39 = some true := by kernel_rfl
theorem F_call_27 : callB Try.prog 27 = true := by kernel_rfl
theorem F_call_29 : callB Try.prog 29 = true := by kernel_rfl
theorem F_zero_113 : zeroB Try.prog 113 = some [(Value.slice none 0 0)] := by kernel_rfl
theorem F_places_113 : placesB Try.prog 113 = some [(0, 1)] := by kernel_rfl
theorem F_field_113_0 : fieldB Try.prog 113 0 = some (0, 79) := by kernel_rfl
theorem F_size_79 : sizeB Try.prog 79 = some 1 := by kernel_rfl
theorem F_agg_79 : aggB Try.prog 79 = some false := by kernel_rfl
theorem F_slice_79 : sliceB Try.prog 79 = some 5 := by kernel_rfl
theorem F_size_5 : sizeB Try.prog 5 = some 1 := by kernel_rfl
theorem F_zero_5 : zeroB Try.prog 5 = some [(Value.int .u8 0)] := by kernel_rfl
theorem F_bytes_5 : bytesB Try.prog 5 = some 1 := by kernel_rfl
theorem F_call_80 : callB Try.prog 80 = true := by kernel_rfl
theorem F_slice_110 : sliceB Try.prog 110 = some 9 := by kernel_rfl
theorem F_zero1_5 : zero1B Try.prog 5 = some (.int .u8 0) := by kernel_rfl
theorem F_call_81 : callB Try.prog 81 = true := by kernel_rfl
theorem F_call_82 : callB Try.prog 82 = true := by kernel_rfl
theorem F_call_105 : callB Try.prog 105 = true := by kernel_rfl
theorem F_call_83 : callB Try.prog 83 = true := by kernel_rfl
theorem F_call_54 : callB Try.prog 54 = true := by kernel_rfl
theorem F_agg_5 : aggB Try.prog 5 = some false := by kernel_rfl
theorem F_call_26 : callB Try.prog 26 = true := by kernel_rfl
theorem F_zero_145 : zeroB Try.prog 145 = some [(Value.slice none 0 0), (Value.int .i64 0)] := by kernel_rfl
theorem F_places_145 : placesB Try.prog 145 = some [(0, 1), (1, 1)] := by kernel_rfl
theorem F_call_87 : callB Try.prog 87 = true := by kernel_rfl
theorem F_field_145_1 : fieldB Try.prog 145 1 = some (1, 37) := by kernel_rfl
theorem F_size_37 : sizeB Try.prog 37 = some 1 := by kernel_rfl
theorem F_agg_37 : aggB Try.prog 37 = some false := by kernel_rfl
theorem F_field_145_0 : fieldB Try.prog 145 0 = some (0, 79) := by kernel_rfl
theorem F_call_116 : callB Try.prog 116 = true := by kernel_rfl
theorem F_call_115 : callB Try.prog 115 = true := by kernel_rfl
theorem F_call_107 : callB Try.prog 107 = true := by kernel_rfl
theorem F_call_106 : callB Try.prog 106 = true := by kernel_rfl
theorem F_call_88 : callB Try.prog 88 = true := by kernel_rfl
theorem F_call_108 : callB Try.prog 108 = true := by kernel_rfl
theorem F_call_109 : callB Try.prog 109 = true := by kernel_rfl
theorem F_call_89 : callB Try.prog 89 = true := by kernel_rfl
theorem F_call_90 : callB Try.prog 90 = true := by kernel_rfl
theorem F_bytes_43 : bytesB Try.prog 43 = some 80 := by kernel_rfl
theorem F_call_91 : callB Try.prog 91 = true := by kernel_rfl
theorem F_call_56 : callB Try.prog 56 = true := by kernel_rfl
theorem F_agg_41 : aggB Try.prog 41 = some true := by kernel_rfl
theorem F_guard_43 : Try.prog.eqGuardType Try.prog.depth 43 = false := by kernel_rfl
theorem same_43 {x y : Operand} (x0 : Int) (x1 : List UInt8) (x2 : List UInt8) (x3 : List UInt8) (x4 : List UInt8) (x5 : Int) (y0 : Int) (y1 : List UInt8) (y2 : List UInt8) (y3 : List UInt8) (y4 : List UInt8) (y5 : Int) (w : World) : (do eqGuard .eql 43 x y (.agg #[(Value.int .i64 x0), (str x1), (str x2), (str x3), (str x4), (Value.int .i64 x5)]) (.agg #[(Value.int .i64 y0), (str y1), (str y2), (str y3), (str y4), (Value.int .i64 y5)]); binOp .eql 43 (.agg #[(Value.int .i64 x0), (str x1), (str x2), (str x3), (str x4), (Value.int .i64 x5)]) (.agg #[(Value.int .i64 y0), (str y1), (str y2), (str y3), (str y4), (Value.int .i64 y5)])).run Try.prog w = .ok (.bool (((x0 == y0) && (((x1 == y1) && ((x2 == y2) && ((x3 == y3) && ((x4 == y4) && true)))) && true)) && ((x5 == y5) && true))) w :=
  b_eql_agg F_guard_43 (eq_struct Try.underlying43 (by kernel_rfl) (eqf_cons rfl (part_agg F_agg_41 F_size_41) (part_agg F_agg_41 F_size_41) (eq_struct Try.underlying41 (by kernel_rfl) (eqf_cons rfl (part_cell F_agg_2 rfl) (part_cell F_agg_2 rfl) (eq_int Try.underlying2 _ _) (eqf_cons rfl (part_agg F_agg_39 F_size_39) (part_agg F_agg_39 F_size_39) (eq_arr4 F_array_39 F_size_9 (part_cell F_agg_9 rfl) (part_cell F_agg_9 rfl) (part_cell F_agg_9 rfl) (part_cell F_agg_9 rfl) (part_cell F_agg_9 rfl) (part_cell F_agg_9 rfl) (part_cell F_agg_9 rfl) (part_cell F_agg_9 rfl) (eq_str Try.underlying9 _ _) (eq_str Try.underlying9 _ _) (eq_str Try.underlying9 _ _) (eq_str Try.underlying9 _ _)) eqf_nil))) (eqf_cons rfl (part_cell F_agg_2 rfl) (part_cell F_agg_2 rfl) (eq_int Try.underlying2 _ _) eqf_nil))) w
theorem same_43_n {x y : Operand} (x0 : Int) (x1 : List UInt8) (x2 : List UInt8) (x3 : List UInt8) (x4 : List UInt8) (x5 : Int) (y0 : Int) (y1 : List UInt8) (y2 : List UInt8) (y3 : List UInt8) (y4 : List UInt8) (y5 : Int) (w : World) : (do eqGuard .neq 43 x y (.agg #[(Value.int .i64 x0), (str x1), (str x2), (str x3), (str x4), (Value.int .i64 x5)]) (.agg #[(Value.int .i64 y0), (str y1), (str y2), (str y3), (str y4), (Value.int .i64 y5)]); binOp .neq 43 (.agg #[(Value.int .i64 x0), (str x1), (str x2), (str x3), (str x4), (Value.int .i64 x5)]) (.agg #[(Value.int .i64 y0), (str y1), (str y2), (str y3), (str y4), (Value.int .i64 y5)])).run Try.prog w = .ok (.bool (!(((x0 == y0) && (((x1 == y1) && ((x2 == y2) && ((x3 == y3) && ((x4 == y4) && true)))) && true)) && ((x5 == y5) && true)))) w :=
  b_neq_agg F_guard_43 (eq_struct Try.underlying43 (by kernel_rfl) (eqf_cons rfl (part_agg F_agg_41 F_size_41) (part_agg F_agg_41 F_size_41) (eq_struct Try.underlying41 (by kernel_rfl) (eqf_cons rfl (part_cell F_agg_2 rfl) (part_cell F_agg_2 rfl) (eq_int Try.underlying2 _ _) (eqf_cons rfl (part_agg F_agg_39 F_size_39) (part_agg F_agg_39 F_size_39) (eq_arr4 F_array_39 F_size_9 (part_cell F_agg_9 rfl) (part_cell F_agg_9 rfl) (part_cell F_agg_9 rfl) (part_cell F_agg_9 rfl) (part_cell F_agg_9 rfl) (part_cell F_agg_9 rfl) (part_cell F_agg_9 rfl) (part_cell F_agg_9 rfl) (eq_str Try.underlying9 _ _) (eq_str Try.underlying9 _ _) (eq_str Try.underlying9 _ _) (eq_str Try.underlying9 _ _)) eqf_nil))) (eqf_cons rfl (part_cell F_agg_2 rfl) (part_cell F_agg_2 rfl) (eq_int Try.underlying2 _ _) eqf_nil))) w
theorem F_call_59 : callB Try.prog 59 = true := by kernel_rfl
theorem F_call_58 : callB Try.prog 58 = true := by kernel_rfl
set_option maxRecDepth 100000 in
theorem ossuarylaw09_Light.spec (K : Nat) (sv0 : Value) (A0 : HP) (l0 : List Api_Fact) (hA0 : IsRd A0 sv0 l0.length 6 (fl enc_Api_Fact l0)) (r : Bool) (H : ossuarylaw09_Light K l0 = some r) : FnSpec Try.prog 25 [sv0] [A0] (fun v M => v = (Value.bool r) ∧ M = [A0]) := by
  unfold ossuarylaw09_Light at H
  refine spec_of Try.func25 rfl 28 rfl (Nat.le_of_ble_eq_true rfl) fun F w0 => ?_
  show Ent (St 28 w0 F [(0, sv0)] [A0]) _
  refine ent_seq ?_
  refine ent_region ?_
  refine ent_value (ov_assign rfl) rfl rfl rfl ?_
  refine ent_nil ?_
  refine ent_seq ?_
  refine ent_seq ?_
  refine ent_region ?_
  refine ent_value (ov_move rfl) rfl rfl rfl ?_
  refine ent_value (ov_len 0 rfl F_slice_35 rfl hA0) rfl rfl rfl ?_
  refine ent_value (ov_bin rfl rfl (b_gtr _ _ _)) rfl rfl rfl ?_
  refine ent_nil ?_
  by_cases c1 : 100 < (l0.length : Int)
  · rw [if_pos c1] at H
    refine ent_cond_true rfl (decide_eq_true c1) ?_
    refine ent_seq ?_
    refine ent_region ?_
    refine ent_value (ov_assign rfl) rfl rfl rfl ?_
    refine ent_nil ?_
    refine ent_retc ?_
    cases H
    exact ret_tmp rfl rfl ⟨rfl, rfl⟩
  · rw [if_neg c1] at H
    refine ent_cond_false rfl (decide_eq_false c1) ?_
    refine ent_skip ?_
    refine ent_seq ?_
    refine ent_seq ?_
    refine ent_region ?_
    refine ent_value (ov_assign rfl) rfl rfl rfl ?_
    refine ent_nil ?_
    refine ent_block ?_
    refine ent_loop (fun k a w => ∃ i1, ossuarylaw09_Light_l0 K l0 k i1 = some r ∧ St 28 w0 F [(0, sv0), (3, (Value.int .i64 i1))] [A0] a w) K ?_ ?_
    · exact ent_fin [0] (by decide) rfl (sub_cons (t := 0) rfl (sub_cons (t := 3) rfl (sub_nil _))) fun a w h => ⟨_, H, h⟩
    · refine fun k => ent_exi fun i1 => ent_and fun H1 => ?_
      cases k with
      | zero => exact absurd H1 (by simp [ossuarylaw09_Light_l0])
      | succ k =>
        rw [ossuarylaw09_Light_l0] at H1
        refine ent_seq ?_
        refine ent_seq ?_
        refine ent_region ?_
        refine ent_value (ov_move rfl) rfl rfl rfl ?_
        refine ent_value (ov_move rfl) rfl rfl rfl ?_
        refine ent_value (ov_len 0 rfl F_slice_35 rfl hA0) rfl rfl rfl ?_
        refine ent_value (ov_bin rfl rfl (b_lss _ _ _)) rfl rfl rfl ?_
        refine ent_nil ?_
        by_cases c2 : i1 < (l0.length : Int)
        · rw [if_pos c2] at H1
          refine ent_cond_true rfl (decide_eq_true c2) ?_
          refine ent_skip ?_
          obtain ⟨x1, H2, H1⟩ := Option.bind_eq_some_iff.1 H1
          refine ent_seq_cut (fun a w => ∃ v1, x1 = Sum.inl v1 ∧ St 28 w0 F [(0, sv0), (3, (Value.int .i64 i1))] [A0] a w) ?_ ?_
          · refine ent_block ?_
            refine ent_seq ?_
            refine ent_region ?_
            refine ent_value (ov_assign rfl) rfl rfl rfl ?_
            refine ent_nil ?_
            refine ent_block ?_
            refine ent_loop (fun k a w => ∃ i2, ossuarylaw09_Light_l1 K l0 i1 k i2 = some x1 ∧ St 28 w0 F [(0, sv0), (3, (Value.int .i64 i1)), (4, (Value.int .i64 i2))] [A0] a w) K ?_ ?_
            · exact ent_fin [0] (by decide) rfl (sub_cons (t := 0) rfl (sub_cons (t := 3) rfl (sub_cons (t := 4) rfl (sub_nil _)))) fun a w h => ⟨_, H2, h⟩
            · refine fun k => ent_exi fun i2 => ent_and fun H3 => ?_
              cases k with
              | zero => exact absurd H3 (by simp [ossuarylaw09_Light_l1])
              | succ k =>
                rw [ossuarylaw09_Light_l1] at H3
                refine ent_seq ?_
                refine ent_seq ?_
                refine ent_region ?_
                refine ent_value (ov_move rfl) rfl rfl rfl ?_
                refine ent_value (ov_bin rfl rfl (b_lss _ _ _)) rfl rfl rfl ?_
                refine ent_nil ?_
                by_cases c3 : i2 < 4
                · rw [if_pos c3] at H3
                  refine ent_cond_true rfl (decide_eq_true c3) ?_
                  refine ent_skip ?_
                  refine ent_seq ?_
                  refine ent_block ?_
                  refine ent_seq ?_
                  refine ent_region ?_
                  refine ent_value (ov_move rfl) rfl rfl rfl ?_
                  refine ent_value (ov_move rfl) rfl rfl rfl ?_
                  refine ent_value (ov_move rfl) rfl rfl rfl ?_
                  by_cases c4 : 0 ≤ i1
                  · rw [if_pos c4] at H3
                    refine ent_value (ov_indexAddr (sz := 5) 0 rfl rfl F_slice_35 F_size_43 rfl hA0 c4 c2) rfl rfl rfl ?_
                    refine ent_value (ov_fieldAddrE (sz := 4) 0 rfl F_field_43_0 F_size_41 rfl hA0 (fl_pos enc_Api_Fact_len (ix_lt c4 c2))) rfl rfl rfl ?_
                    refine ent_value (ov_fieldAddrE (sz := 3) 0 rfl F_field_41_1 F_size_39 rfl hA0 (fl_pos enc_Api_Fact_len (ix_lt c4 c2))) rfl rfl rfl ?_
                    by_cases c5 : 0 ≤ i2
                    · rw [if_pos c5] at H3
                      by_cases c6 : i2 < (4 : Int)
                      · rw [if_pos c6] at H3
                        refine ent_value (ov_indexArrE 0 rfl rfl F_array_39 F_size_9 rfl hA0 (fl_pos enc_Api_Fact_len (ix_lt c4 c2)) c5 c6) rfl rfl rfl ?_
                        refine ent_value (ov_load (v := (str ([((l0.getD i1.toNat z_Api_Fact).Key).Dims_0, ((l0.getD i1.toNat z_Api_Fact).Key).Dims_1, ((l0.getD i1.toNat z_Api_Fact).Key).Dims_2, ((l0.getD i1.toNat z_Api_Fact).Key).Dims_3].getD i2.toNat []))) rfl F_agg_9 (reads_rd (i := 0) rfl hA0 (by simp) (fl_readA enc_Api_Fact_len (ix_lt c4 c2) (fl_sub (enc := eS) (z := []) (ys := [((l0.getD i1.toNat z_Api_Fact).Key).Dims_0, ((l0.getD i1.toNat z_Api_Fact).Key).Dims_1, ((l0.getD i1.toNat z_Api_Fact).Key).Dims_2, ((l0.getD i1.toNat z_Api_Fact).Key).Dims_3]) eS_len rfl (ix_lt c5 c6))))) rfl rfl rfl ?_
                        refine ent_value (ov_lenS rfl Try.underlying9) rfl rfl rfl ?_
                        refine ent_value (ov_bin rfl rfl (b_gtr _ _ _)) rfl rfl rfl ?_
                        refine ent_nil ?_
                        by_cases c7 : 40 < (([((l0.getD i1.toNat z_Api_Fact).Key).Dims_0, ((l0.getD i1.toNat z_Api_Fact).Key).Dims_1, ((l0.getD i1.toNat z_Api_Fact).Key).Dims_2, ((l0.getD i1.toNat z_Api_Fact).Key).Dims_3].getD i2.toNat []).length : Int)
                        · rw [if_pos c7] at H3
                          refine ent_cond_true rfl (decide_eq_true c7) ?_
                          refine ent_seq ?_
                          refine ent_region ?_
                          refine ent_value (ov_assign rfl) rfl rfl rfl ?_
                          refine ent_nil ?_
                          refine ent_retc ?_
                          cases H3
                          have H4 := Option.some.inj (show some _ = some _ from H1)
                          cases H4
                          exact ret_tmp rfl rfl ⟨rfl, rfl⟩
                        · rw [if_neg c7] at H3
                          refine ent_cond_false rfl (decide_eq_false c7) ?_
                          refine ent_skip ?_
                          refine ent_region ?_
                          refine ent_value (ov_move rfl) rfl rfl rfl ?_
                          refine ent_value (ov_bin rfl rfl (b_add _ _ _) ) rfl rfl rfl ?_
                          refine ent_value (ov_assign rfl) rfl rfl rfl ?_
                          refine ent_nil ?_
                          exact ent_fin [0] (by decide) rfl (sub_cons (t := 0) rfl (sub_cons (t := 3) rfl (sub_cons (t := 4) rfl (sub_nil _)))) fun a w h => ⟨k, Nat.lt_succ_self k, _, H3, h⟩
                      · rw [if_neg c6] at H3
                        cases H3
                    · rw [if_neg c5] at H3
                      cases H3
                  · rw [if_neg c4] at H3
                    cases H3
                · rw [if_neg c3] at H3
                  refine ent_cond_false rfl (decide_eq_false c3) ?_
                  refine ent_exit ?_
                  cases H3
                  exact ent_fin [0] (by decide) rfl (sub_cons (t := 0) rfl (sub_cons (t := 3) rfl (sub_nil _))) fun a w h => ⟨_, rfl, h⟩
          · refine ent_exi fun v1 => ent_and fun e_ => ?_
            subst e_
            rw [cas_inl] at H1
            refine ent_region ?_
            refine ent_value (ov_move rfl) rfl rfl rfl ?_
            refine ent_value (ov_bin rfl rfl (b_add _ _ _) ) rfl rfl rfl ?_
            refine ent_value (ov_assign rfl) rfl rfl rfl ?_
            refine ent_nil ?_
            exact ent_fin [0] (by decide) rfl (sub_cons (t := 0) rfl (sub_cons (t := 3) rfl (sub_nil _))) fun a w h => ⟨k, Nat.lt_succ_self k, _, H1, h⟩
        · rw [if_neg c2] at H1
          refine ent_cond_false rfl (decide_eq_false c2) ?_
          refine ent_exit ?_
          refine ent_seq ?_
          refine ent_region ?_
          refine ent_value (ov_assign rfl) rfl rfl rfl ?_
          refine ent_nil ?_
          refine ent_retc ?_
          cases H1
          exact ret_tmp rfl rfl ⟨rfl, rfl⟩

set_option maxRecDepth 100000 in
theorem fact_many.spec (a0 : Int) (r : Bool) (H : fact_many a0 = r) : FnSpec Try.prog 72 [(Value.int .i64 a0)] [] (fun v M => v = (Value.bool r) ∧ M = []) := by
  unfold fact_many at H
  refine spec_of Try.func72 rfl 9 rfl (Nat.le_of_ble_eq_true rfl) fun F w0 => ?_
  show Ent (St 9 w0 F [(0, (Value.int .i64 a0))] []) _
  refine ent_seq ?_
  refine ent_region ?_
  refine ent_value (ov_assign rfl) rfl rfl rfl ?_
  refine ent_nil ?_
  refine ent_seq ?_
  refine ent_region ?_
  refine ent_value (ov_move rfl) rfl rfl rfl ?_
  refine ent_value (ov_bin rfl rfl (b_geq _ _ _)) rfl rfl rfl ?_
  refine ent_value (ov_move rfl) rfl rfl rfl ?_
  by_cases c1 : 1 ≤ a0
  · rw [if_pos c1] at H
    refine ent_value_on (ov_move rfl) rfl rfl rfl (decide_eq_true c1) rfl rfl ?_
    refine ent_value_on (ov_bin rfl rfl (b_leq _ _ _)) rfl rfl rfl (decide_eq_true c1) rfl rfl ?_
    refine ent_value (ov_pick rfl rfl rfl (pick_t (decide_eq_true c1))) rfl rfl rfl ?_
    refine ent_value (ov_assign rfl) rfl rfl rfl ?_
    refine ent_nil ?_
    refine ent_retc ?_
    cases H
    exact ret_tmp rfl rfl ⟨rfl, rfl⟩
  · rw [if_neg c1] at H
    refine ent_off rfl rfl rfl (decide_eq_false c1) rfl rfl ?_
    refine ent_off rfl rfl rfl (decide_eq_false c1) rfl rfl ?_
    refine ent_value (ov_pick rfl rfl rfl (pick_f (decide_eq_false c1))) rfl rfl rfl ?_
    refine ent_value (ov_assign rfl) rfl rfl rfl ?_
    refine ent_nil ?_
    refine ent_retc ?_
    cases H
    exact ret_tmp rfl rfl ⟨rfl, rfl⟩

set_option maxRecDepth 100000 in
theorem fact_Check.spec (K : Nat) (a0_0 : Int) (a0_1 : List UInt8) (a0_2 : List UInt8) (a0_3 : List UInt8) (a0_4 : List UInt8) (a0_5 : Int) (a1 : Int) (r : Int) (H : fact_Check K a0_0 a0_1 a0_2 a0_3 a0_4 a0_5 a1 = some r) : FnSpec Try.prog 27 [(Value.agg #[(Value.int .i64 a0_0), (str a0_1), (str a0_2), (str a0_3), (str a0_4), (Value.int .i64 a0_5)]), (Value.int .i64 a1)] [] (fun v M => v = (Value.int .i64 r) ∧ M = []) := by
  unfold fact_Check at H
  refine spec_of Try.func27 rfl 52 rfl (Nat.le_of_ble_eq_true rfl) fun F w0 => ?_
  show Ent (St 52 w0 F [(0, (Value.agg #[(Value.int .i64 a0_0), (str a0_1), (str a0_2), (str a0_3), (str a0_4), (Value.int .i64 a0_5)])), (1, (Value.int .i64 a1))] []) _
  refine ent_seq ?_
  refine ent_region ?_
  refine ent_op (ot_box (cs := [(Value.int .i64 a0_0), (str a0_1), (str a0_2), (str a0_3), (str a0_4), (Value.int .i64 a0_5)]) rfl rfl) rfl rfl rfl ?_
  rintro _ _ ⟨b1, rfl, rfl⟩
  refine ent_value (ov_assign rfl) rfl rfl rfl ?_
  refine ent_nil ?_
  refine ent_seq ?_
  refine ent_block ?_
  refine ent_seq ?_
  refine ent_region ?_
  refine ent_value (ov_move rfl) rfl rfl rfl ?_
  obtain ⟨x1, h1, H⟩ := thn_elim H
  refine ent_op (ot_call0 (first := []) (cap := []) (xs := [.tmp 8]) rfl rfl F_call_72 rfl (fact_many.spec a1 _ h1)) rfl rfl rfl ?_
  rintro _ _ ⟨rfl, rfl⟩
  refine ent_value (ov_un rfl (u_not _)) rfl rfl rfl ?_
  refine ent_value (ov_assign rfl) rfl rfl rfl ?_
  refine ent_nil ?_
  by_cases c1 : (!x1) = true
  · rw [if_pos c1] at H
    refine ent_cond_true rfl c1 ?_
    refine ent_seq ?_
    refine ent_region ?_
    refine ent_value (ov_assign rfl) rfl rfl rfl ?_
    refine ent_nil ?_
    refine ent_retc ?_
    cases H
    refine ent_pick [] (by decide) rfl ?_
    exact ret_tmp rfl rfl ⟨rfl, rfl⟩
  · rw [if_neg c1] at H
    refine ent_cond_false rfl (Bool.eq_false_iff.2 c1) ?_
    refine ent_seq ?_
    refine ent_region ?_
    refine ent_value (ov_fieldAddr (sz := 4) (o := 0) rfl F_field_43_0 F_size_41) rfl rfl rfl ?_
    refine ent_value (ov_fieldAddr (sz := 0) (o := 0) rfl F_field_41_0 F_size_2) rfl rfl rfl ?_
    refine ent_value (ov_load (v := (Value.int .i64 a0_0)) rfl F_agg_2 (reads_box1 (i := 0) rfl rfl)) rfl rfl rfl ?_
    refine ent_value (ov_bin rfl rfl (b_lss _ _ _)) rfl rfl rfl ?_
    refine ent_value (ov_move rfl) rfl rfl rfl ?_
    by_cases c2 : a0_0 < 0
    · rw [if_pos c2] at H
      refine ent_off rfl rfl rfl (decide_eq_true c2) rfl rfl ?_
      refine ent_off rfl rfl rfl (decide_eq_true c2) rfl rfl ?_
      refine ent_off rfl rfl rfl (decide_eq_true c2) rfl rfl ?_
      refine ent_off rfl rfl rfl (decide_eq_true c2) rfl rfl ?_
      refine ent_value (ov_pick rfl rfl rfl (pick_t (decide_eq_true c2))) rfl rfl rfl ?_
      refine ent_value (ov_move rfl) rfl rfl rfl ?_
      refine ent_off rfl rfl rfl rfl rfl rfl ?_
      refine ent_off rfl rfl rfl rfl rfl rfl ?_
      refine ent_off rfl rfl rfl rfl rfl rfl ?_
      refine ent_value (ov_pick rfl rfl rfl rfl) rfl rfl rfl ?_
      refine ent_value (ov_move rfl) rfl rfl rfl ?_
      refine ent_off rfl rfl rfl rfl rfl rfl ?_
      refine ent_off rfl rfl rfl rfl rfl rfl ?_
      refine ent_off rfl rfl rfl rfl rfl rfl ?_
      refine ent_value (ov_pick rfl rfl rfl rfl) rfl rfl rfl ?_
      refine ent_value (ov_assign rfl) rfl rfl rfl ?_
      refine ent_nil ?_
      refine ent_cond_true rfl rfl ?_
      refine ent_seq ?_
      refine ent_region ?_
      refine ent_value (ov_assign rfl) rfl rfl rfl ?_
      refine ent_nil ?_
      refine ent_retc ?_
      cases H
      refine ent_pick [] (by decide) rfl ?_
      exact ret_tmp rfl rfl ⟨rfl, rfl⟩
    · rw [if_neg c2] at H
      refine ent_value_on (ov_fieldAddr (sz := 4) (o := 0) rfl F_field_43_0 F_size_41) rfl rfl rfl (decide_eq_false c2) rfl rfl ?_
      refine ent_value_on (ov_fieldAddr (sz := 0) (o := 0) rfl F_field_41_0 F_size_2) rfl rfl rfl (decide_eq_false c2) rfl rfl ?_
      refine ent_value_on (ov_load (v := (Value.int .i64 a0_0)) rfl F_agg_2 (reads_box1 (i := 0) rfl rfl)) rfl rfl rfl (decide_eq_false c2) rfl rfl ?_
      refine ent_value_on (ov_bin rfl rfl (b_gtr _ _ _)) rfl rfl rfl (decide_eq_false c2) rfl rfl ?_
      refine ent_value (ov_pick rfl rfl rfl (pick_f (decide_eq_false c2))) rfl rfl rfl ?_
      refine ent_value (ov_move rfl) rfl rfl rfl ?_
      by_cases c3 : 16777216 < a0_0
      · rw [if_pos c3] at H
        refine ent_off rfl rfl rfl (decide_eq_true c3) rfl rfl ?_
        refine ent_off rfl rfl rfl (decide_eq_true c3) rfl rfl ?_
        refine ent_off rfl rfl rfl (decide_eq_true c3) rfl rfl ?_
        refine ent_value (ov_pick rfl rfl rfl (pick_t (decide_eq_true c3))) rfl rfl rfl ?_
        refine ent_value (ov_move rfl) rfl rfl rfl ?_
        refine ent_off rfl rfl rfl rfl rfl rfl ?_
        refine ent_off rfl rfl rfl rfl rfl rfl ?_
        refine ent_off rfl rfl rfl rfl rfl rfl ?_
        refine ent_value (ov_pick rfl rfl rfl rfl) rfl rfl rfl ?_
        refine ent_value (ov_assign rfl) rfl rfl rfl ?_
        refine ent_nil ?_
        refine ent_cond_true rfl rfl ?_
        refine ent_seq ?_
        refine ent_region ?_
        refine ent_value (ov_assign rfl) rfl rfl rfl ?_
        refine ent_nil ?_
        refine ent_retc ?_
        cases H
        refine ent_pick [] (by decide) rfl ?_
        exact ret_tmp rfl rfl ⟨rfl, rfl⟩
      · rw [if_neg c3] at H
        refine ent_value_on (ov_fieldAddr (sz := 0) (o := 0) rfl F_field_43_1 F_size_2) rfl rfl rfl (decide_eq_false c3) rfl rfl ?_
        refine ent_value_on (ov_load (v := (Value.int .i64 a0_5)) rfl F_agg_2 (reads_box1 (i := 0) rfl rfl)) rfl rfl rfl (decide_eq_false c3) rfl rfl ?_
        refine ent_value_on (ov_bin rfl rfl (b_gtr _ _ _)) rfl rfl rfl (decide_eq_false c3) rfl rfl ?_
        refine ent_value (ov_pick rfl rfl rfl (pick_f (decide_eq_false c3))) rfl rfl rfl ?_
        refine ent_value (ov_move rfl) rfl rfl rfl ?_
        by_cases c4 : 1152921504606846976 < a0_5
        · rw [if_pos c4] at H
          refine ent_off rfl rfl rfl (decide_eq_true c4) rfl rfl ?_
          refine ent_off rfl rfl rfl (decide_eq_true c4) rfl rfl ?_
          refine ent_off rfl rfl rfl (decide_eq_true c4) rfl rfl ?_
          refine ent_value (ov_pick rfl rfl rfl (pick_t (decide_eq_true c4))) rfl rfl rfl ?_
          refine ent_value (ov_assign rfl) rfl rfl rfl ?_
          refine ent_nil ?_
          refine ent_cond_true rfl rfl ?_
          refine ent_seq ?_
          refine ent_region ?_
          refine ent_value (ov_assign rfl) rfl rfl rfl ?_
          refine ent_nil ?_
          refine ent_retc ?_
          cases H
          refine ent_pick [] (by decide) rfl ?_
          exact ret_tmp rfl rfl ⟨rfl, rfl⟩
        · rw [if_neg c4] at H
          refine ent_value_on (ov_fieldAddr (sz := 0) (o := 0) rfl F_field_43_1 F_size_2) rfl rfl rfl (decide_eq_false c4) rfl rfl ?_
          refine ent_value_on (ov_load (v := (Value.int .i64 a0_5)) rfl F_agg_2 (reads_box1 (i := 0) rfl rfl)) rfl rfl rfl (decide_eq_false c4) rfl rfl ?_
          refine ent_value_on (ov_bin rfl rfl (b_lss _ _ _)) rfl rfl rfl (decide_eq_false c4) rfl rfl ?_
          refine ent_value (ov_pick rfl rfl rfl (pick_f (decide_eq_false c4))) rfl rfl rfl ?_
          refine ent_value (ov_assign rfl) rfl rfl rfl ?_
          refine ent_nil ?_
          by_cases c5 : a0_5 < (-1152921504606846976)
          · rw [if_pos c5] at H
            refine ent_cond_true rfl (decide_eq_true c5) ?_
            refine ent_seq ?_
            refine ent_region ?_
            refine ent_value (ov_assign rfl) rfl rfl rfl ?_
            refine ent_nil ?_
            refine ent_retc ?_
            cases H
            refine ent_pick [] (by decide) rfl ?_
            exact ret_tmp rfl rfl ⟨rfl, rfl⟩
          · rw [if_neg c5] at H
            refine ent_cond_false rfl (decide_eq_false c5) ?_
            refine ent_skip ?_
            refine ent_seq ?_
            refine ent_seq ?_
            refine ent_region ?_
            refine ent_value (ov_fieldAddr (sz := 4) (o := 0) rfl F_field_43_0 F_size_41) rfl rfl rfl ?_
            refine ent_value (ov_fieldAddr (sz := 3) (o := 0) rfl F_field_41_1 F_size_39) rfl rfl rfl ?_
            refine ent_value (ov_load_agg (vs := [(str a0_1), (str a0_2), (str a0_3), (str a0_4)]) rfl F_agg_39 F_size_39 (reads_boxN (i := 0) rfl rfl)) rfl rfl rfl ?_
            refine ent_value (ov_move rfl) rfl rfl rfl ?_
            refine ent_nil ?_
            refine ent_block ?_
            refine ent_loop (fun k a w => ∃ i2, fact_Check_l0 K a0_1 a0_2 a0_3 a0_4 a1 k i2 = some r ∧ St 52 w0 F [(1, (Value.int .i64 a1)), (34, (Value.agg #[(str a0_1), (str a0_2), (str a0_3), (str a0_4)])), (35, (Value.int .i64 i2))] [] a w) K ?_ ?_
            · exact ent_fin [] (by decide) rfl (sub_cons (t := 1) rfl (sub_cons (t := 34) rfl (sub_cons (t := 35) rfl (sub_nil _)))) fun a w h => ⟨_, H, h⟩
            · refine fun k => ent_exi fun i2 => ent_and fun H1 => ?_
              cases k with
              | zero => exact absurd H1 (by simp [fact_Check_l0])
              | succ k =>
                rw [fact_Check_l0] at H1
                refine ent_seq ?_
                refine ent_region ?_
                refine ent_value (ov_bin rfl rfl (b_lss _ _ _)) rfl rfl rfl ?_
                refine ent_nil ?_
                refine ent_seq ?_
                by_cases c6 : i2 < 4
                · rw [if_pos c6] at H1
                  refine ent_cond_true rfl (decide_eq_true c6) ?_
                  refine ent_skip ?_
                  refine ent_seq ?_
                  refine ent_block ?_
                  refine ent_seq ?_
                  refine ent_region ?_
                  refine ent_value (ov_move rfl) rfl rfl rfl ?_
                  by_cases c7 : 0 ≤ i2
                  · rw [if_pos c7] at H1
                    by_cases c8 : i2 < (4 : Int)
                    · rw [if_pos c8] at H1
                      refine ent_value (ov_indexAgg rfl rfl F_array_39 F_size_9 F_agg_9 c7 c8 (cases4 (fun i_ => #[(str a0_1), (str a0_2), (str a0_3), (str a0_4)][i_]? = some (str ([a0_1, a0_2, a0_3, a0_4].getD i_ []))) (ix_lt c7 c8) rfl rfl rfl rfl)) rfl rfl rfl ?_
                      refine ent_value (ov_assign rfl) rfl rfl rfl ?_
                      refine ent_value (ov_assign rfl) rfl rfl rfl ?_
                      refine ent_nil ?_
                      refine ent_seq ?_
                      refine ent_region ?_
                      refine ent_value (ov_move rfl) rfl rfl rfl ?_
                      refine ent_value (ov_lenS rfl Try.underlying9) rfl rfl rfl ?_
                      refine ent_value (ov_bin rfl rfl (b_gtr _ _ _)) rfl rfl rfl ?_
                      refine ent_value (ov_move rfl) rfl rfl rfl ?_
                      by_cases c9 : 16 < (([a0_1, a0_2, a0_3, a0_4].getD i2.toNat []).length : Int)
                      · rw [if_pos c9] at H1
                        refine ent_off rfl rfl rfl (decide_eq_true c9) rfl rfl ?_
                        refine ent_off rfl rfl rfl (decide_eq_true c9) rfl rfl ?_
                        refine ent_off rfl rfl rfl (decide_eq_true c9) rfl rfl ?_
                        refine ent_off rfl rfl rfl (decide_eq_true c9) rfl rfl ?_
                        refine ent_offu rfl rfl rfl rfl rfl ?_
                        refine ent_offu rfl rfl rfl rfl rfl ?_
                        refine ent_off rfl rfl rfl (decide_eq_true c9) rfl rfl ?_
                        refine ent_value (ov_pick rfl rfl rfl (pick_t (decide_eq_true c9))) rfl rfl rfl ?_
                        refine ent_nil ?_
                        refine ent_cond_true rfl rfl ?_
                        refine ent_seq ?_
                        refine ent_region ?_
                        refine ent_value (ov_assign rfl) rfl rfl rfl ?_
                        refine ent_nil ?_
                        refine ent_retc ?_
                        cases H1
                        exact ret_tmp rfl rfl ⟨rfl, rfl⟩
                      · rw [if_neg c9] at H1
                        refine ent_value_on (ov_move rfl) rfl rfl rfl (decide_eq_false c9) rfl rfl ?_
                        refine ent_value_on (ov_move rfl) rfl rfl rfl (decide_eq_false c9) rfl rfl ?_
                        refine ent_value_on (ov_bin rfl rfl (b_geq _ _ _)) rfl rfl rfl (decide_eq_false c9) rfl rfl ?_
                        refine ent_value_on (ov_move rfl) rfl rfl rfl (decide_eq_false c9) rfl rfl ?_
                        by_cases c10 : a1 ≤ i2
                        · rw [if_pos c10] at H1
                          refine ent_value_on (ov_move rfl) rfl rfl rfl (decide_eq_true c10) rfl rfl ?_
                          refine ent_value_on (ov_bin rfl rfl (b_neq_str _ _)) rfl rfl rfl (decide_eq_true c10) rfl rfl ?_
                          refine ent_value_on (ov_pick rfl rfl rfl (pick_t (decide_eq_true c10))) rfl rfl rfl (decide_eq_false c9) rfl rfl ?_
                          refine ent_value (ov_pick rfl rfl rfl (pick_f (decide_eq_false c9))) rfl rfl rfl ?_
                          refine ent_nil ?_
                          by_cases c11 : ¬ (([a0_1, a0_2, a0_3, a0_4].getD i2.toNat []) = ([] : List UInt8))
                          · rw [if_pos c11] at H1
                            refine ent_cond_true rfl (nb_t c11) ?_
                            refine ent_seq ?_
                            refine ent_region ?_
                            refine ent_value (ov_assign rfl) rfl rfl rfl ?_
                            refine ent_nil ?_
                            refine ent_retc ?_
                            cases H1
                            exact ret_tmp rfl rfl ⟨rfl, rfl⟩
                          · rw [if_neg c11] at H1
                            refine ent_cond_false rfl (nb_f c11) ?_
                            refine ent_skip ?_
                            refine ent_region ?_
                            refine ent_value (ov_bin rfl rfl (b_add _ _ _) ) rfl rfl rfl ?_
                            refine ent_value (ov_move rfl) rfl rfl rfl ?_
                            refine ent_nil ?_
                            exact ent_fin [] (by decide) rfl (sub_cons (t := 1) rfl (sub_cons (t := 34) rfl (sub_cons (t := 35) rfl (sub_nil _)))) fun a w h => ⟨k, Nat.lt_succ_self k, _, H1, h⟩
                        · rw [if_neg c10] at H1
                          refine ent_off rfl rfl rfl (decide_eq_false c10) rfl rfl ?_
                          refine ent_off rfl rfl rfl (decide_eq_false c10) rfl rfl ?_
                          refine ent_value_on (ov_pick rfl rfl rfl (pick_f (decide_eq_false c10))) rfl rfl rfl (decide_eq_false c9) rfl rfl ?_
                          refine ent_value (ov_pick rfl rfl rfl (pick_f (decide_eq_false c9))) rfl rfl rfl ?_
                          refine ent_nil ?_
                          refine ent_cond_false rfl rfl ?_
                          refine ent_skip ?_
                          refine ent_region ?_
                          refine ent_value (ov_bin rfl rfl (b_add _ _ _) ) rfl rfl rfl ?_
                          refine ent_value (ov_move rfl) rfl rfl rfl ?_
                          refine ent_nil ?_
                          exact ent_fin [] (by decide) rfl (sub_cons (t := 1) rfl (sub_cons (t := 34) rfl (sub_cons (t := 35) rfl (sub_nil _)))) fun a w h => ⟨k, Nat.lt_succ_self k, _, H1, h⟩
                    · rw [if_neg c8] at H1
                      cases H1
                  · rw [if_neg c7] at H1
                    cases H1
                · rw [if_neg c6] at H1
                  refine ent_cond_false rfl (decide_eq_false c6) ?_
                  refine ent_exit ?_
                  refine ent_seq ?_
                  refine ent_region ?_
                  refine ent_value (ov_assign rfl) rfl rfl rfl ?_
                  refine ent_nil ?_
                  refine ent_retc ?_
                  cases H1
                  exact ret_tmp rfl rfl ⟨rfl, rfl⟩

set_option maxRecDepth 100000 in
theorem fact_All.spec (K : Nat) (sv0 : Value) (A0 : HP) (l0 : List Api_Fact) (a1 : Int) (hA0 : IsRd A0 sv0 l0.length 6 (fl enc_Api_Fact l0)) (r : (Int × Int)) (H : fact_All K l0 a1 = some r) : FnSpec Try.prog 29 [sv0, (Value.int .i64 a1)] [A0] (fun v M => v = (Value.tuple #[(Value.int .i64 r.1), (Value.int .i64 r.2)]) ∧ M = [A0]) := by
  unfold fact_All at H
  refine spec_of Try.func29 rfl 37 rfl (Nat.le_of_ble_eq_true rfl) fun F w0 => ?_
  show Ent (St 37 w0 F [(0, sv0), (1, (Value.int .i64 a1))] [A0]) _
  refine ent_seq ?_
  refine ent_region ?_
  refine ent_value (ov_assign rfl) rfl rfl rfl ?_
  refine ent_value (ov_assign rfl) rfl rfl rfl ?_
  refine ent_nil ?_
  refine ent_seq ?_
  refine ent_seq ?_
  refine ent_region ?_
  refine ent_value (ov_move rfl) rfl rfl rfl ?_
  obtain ⟨x1, h1, H⟩ := thn_elim H
  refine ent_op (ot_call0 (first := []) (cap := []) (xs := [.tmp 9]) rfl rfl F_call_72 rfl (fact_many.spec a1 _ h1)) rfl rfl rfl ?_
  rintro _ _ ⟨rfl, rfl⟩
  refine ent_value (ov_un rfl (u_not _)) rfl rfl rfl ?_
  refine ent_value (ov_move rfl) rfl rfl rfl ?_
  by_cases c1 : (!x1) = true
  · rw [if_pos c1] at H
    refine ent_off rfl rfl rfl c1 rfl rfl ?_
    refine ent_off rfl rfl rfl c1 rfl rfl ?_
    refine ent_off rfl rfl rfl c1 rfl rfl ?_
    refine ent_value (ov_pick rfl rfl rfl (pick_t c1)) rfl rfl rfl ?_
    refine ent_value (ov_move rfl) rfl rfl rfl ?_
    refine ent_off rfl rfl rfl rfl rfl rfl ?_
    refine ent_off rfl rfl rfl rfl rfl rfl ?_
    refine ent_off rfl rfl rfl rfl rfl rfl ?_
    refine ent_value (ov_pick rfl rfl rfl rfl) rfl rfl rfl ?_
    refine ent_nil ?_
    refine ent_cond_true rfl rfl ?_
    refine ent_seq ?_
    refine ent_region ?_
    refine ent_value (ov_assign rfl) rfl rfl rfl ?_
    refine ent_value (ov_assign rfl) rfl rfl rfl ?_
    refine ent_nil ?_
    refine ent_retc ?_
    cases H
    exact ret_mem (vs := [(Value.int .i64 1), (Value.int .i64 0)]) rfl ⟨rfl, ⟨rfl, trivial⟩⟩ _ rfl ⟨rfl, rfl⟩
  · rw [if_neg c1] at H
    refine ent_value_on (ov_move rfl) rfl rfl rfl (Bool.eq_false_iff.2 c1) rfl rfl ?_
    refine ent_value_on (ov_len 0 rfl F_slice_35 rfl hA0) rfl rfl rfl (Bool.eq_false_iff.2 c1) rfl rfl ?_
    refine ent_value_on (ov_bin rfl rfl (b_eql _ _ _)) rfl rfl rfl (Bool.eq_false_iff.2 c1) rfl rfl ?_
    refine ent_value (ov_pick rfl rfl rfl (pick_f (Bool.eq_false_iff.2 c1))) rfl rfl rfl ?_
    refine ent_value (ov_move rfl) rfl rfl rfl ?_
    by_cases c2 : (l0.length : Int) = 0
    · rw [if_pos c2] at H
      refine ent_off rfl rfl rfl (eq_t c2) rfl rfl ?_
      refine ent_off rfl rfl rfl (eq_t c2) rfl rfl ?_
      refine ent_off rfl rfl rfl (eq_t c2) rfl rfl ?_
      refine ent_value (ov_pick rfl rfl rfl (pick_t (eq_t c2))) rfl rfl rfl ?_
      refine ent_nil ?_
      refine ent_cond_true rfl rfl ?_
      refine ent_seq ?_
      refine ent_region ?_
      refine ent_value (ov_assign rfl) rfl rfl rfl ?_
      refine ent_value (ov_assign rfl) rfl rfl rfl ?_
      refine ent_nil ?_
      refine ent_retc ?_
      cases H
      exact ret_mem (vs := [(Value.int .i64 1), (Value.int .i64 0)]) rfl ⟨rfl, ⟨rfl, trivial⟩⟩ _ rfl ⟨rfl, rfl⟩
    · rw [if_neg c2] at H
      refine ent_value_on (ov_move rfl) rfl rfl rfl (eq_f c2) rfl rfl ?_
      refine ent_value_on (ov_len 0 rfl F_slice_35 rfl hA0) rfl rfl rfl (eq_f c2) rfl rfl ?_
      refine ent_value_on (ov_bin rfl rfl (b_gtr _ _ _)) rfl rfl rfl (eq_f c2) rfl rfl ?_
      refine ent_value (ov_pick rfl rfl rfl (pick_f (eq_f c2))) rfl rfl rfl ?_
      refine ent_nil ?_
      by_cases c3 : 50 < (l0.length : Int)
      · rw [if_pos c3] at H
        refine ent_cond_true rfl (decide_eq_true c3) ?_
        refine ent_seq ?_
        refine ent_region ?_
        refine ent_value (ov_assign rfl) rfl rfl rfl ?_
        refine ent_value (ov_assign rfl) rfl rfl rfl ?_
        refine ent_nil ?_
        refine ent_retc ?_
        cases H
        exact ret_mem (vs := [(Value.int .i64 1), (Value.int .i64 0)]) rfl ⟨rfl, ⟨rfl, trivial⟩⟩ _ rfl ⟨rfl, rfl⟩
      · rw [if_neg c3] at H
        refine ent_cond_false rfl (decide_eq_false c3) ?_
        refine ent_skip ?_
        refine ent_seq ?_
        refine ent_seq ?_
        refine ent_region ?_
        refine ent_value (ov_move rfl) rfl rfl rfl ?_
        refine ent_value (ov_len 0 rfl F_slice_35 rfl hA0) rfl rfl rfl ?_
        refine ent_value (ov_move rfl) rfl rfl rfl ?_
        refine ent_nil ?_
        refine ent_block ?_
        refine ent_loop (fun k a w => ∃ i3, fact_All_l0 K l0 a1 k i3 = some r ∧ St 37 w0 F [(1, (Value.int .i64 a1)), (22, sv0), (23, (Value.int .i64 (l0.length : Int))), (24, (Value.int .i64 i3))] [A0] a w) K ?_ ?_
        · exact ent_fin [0] (by decide) rfl (sub_cons (t := 1) rfl (sub_cons (t := 22) rfl (sub_cons (t := 23) rfl (sub_cons (t := 24) rfl (sub_nil _))))) fun a w h => ⟨_, H, h⟩
        · refine fun k => ent_exi fun i3 => ent_and fun H1 => ?_
          cases k with
          | zero => exact absurd H1 (by simp [fact_All_l0])
          | succ k =>
            rw [fact_All_l0] at H1
            refine ent_seq ?_
            refine ent_region ?_
            refine ent_value (ov_bin rfl rfl (b_lss _ _ _)) rfl rfl rfl ?_
            refine ent_nil ?_
            refine ent_seq ?_
            by_cases c4 : i3 < (l0.length : Int)
            · rw [if_pos c4] at H1
              refine ent_cond_true rfl (decide_eq_true c4) ?_
              refine ent_skip ?_
              refine ent_seq ?_
              refine ent_block ?_
              refine ent_seq ?_
              refine ent_region ?_
              refine ent_value (ov_move rfl) rfl rfl rfl ?_
              by_cases c5 : 0 ≤ i3
              · rw [if_pos c5] at H1
                refine ent_value (ov_indexAddr (sz := 5) 0 rfl rfl F_slice_35 F_size_43 rfl hA0 c5 c4) rfl rfl rfl ?_
                refine ent_value (ov_load_agg (vs := [(Value.int .i64 (((l0.getD i3.toNat z_Api_Fact).Key).Hour)), (str (((l0.getD i3.toNat z_Api_Fact).Key).Dims_0)), (str (((l0.getD i3.toNat z_Api_Fact).Key).Dims_1)), (str (((l0.getD i3.toNat z_Api_Fact).Key).Dims_2)), (str (((l0.getD i3.toNat z_Api_Fact).Key).Dims_3)), (Value.int .i64 ((l0.getD i3.toNat z_Api_Fact).Value))]) rfl F_agg_43 F_size_43 (reads_rd (i := 0) rfl hA0 (by simp) (fl_read0 enc_Api_Fact_len (ix_lt c5 c4) rfl))) rfl rfl rfl ?_
                refine ent_op (ot_alloc F_zero_43) rfl rfl rfl ?_
                rintro _ _ ⟨b1, rfl, rfl⟩
                refine ent_value (ov_assign rfl) rfl rfl rfl ?_
                refine ent_op0 (ot_storeG (cs := [(Value.int .i64 0), (str ([] : List UInt8)), (str ([] : List UInt8)), (str ([] : List UInt8)), (str ([] : List UInt8)), (Value.int .i64 0)]) (cs' := [(Value.int .i64 (((l0.getD i3.toNat z_Api_Fact).Key).Hour)), (str (((l0.getD i3.toNat z_Api_Fact).Key).Dims_0)), (str (((l0.getD i3.toNat z_Api_Fact).Key).Dims_1)), (str (((l0.getD i3.toNat z_Api_Fact).Key).Dims_2)), (str (((l0.getD i3.toNat z_Api_Fact).Key).Dims_3)), (Value.int .i64 ((l0.getD i3.toNat z_Api_Fact).Value))]) (us := [(Value.int .i64 (((l0.getD i3.toNat z_Api_Fact).Key).Hour)), (str (((l0.getD i3.toNat z_Api_Fact).Key).Dims_0)), (str (((l0.getD i3.toNat z_Api_Fact).Key).Dims_1)), (str (((l0.getD i3.toNat z_Api_Fact).Key).Dims_2)), (str (((l0.getD i3.toNat z_Api_Fact).Key).Dims_3)), (Value.int .i64 ((l0.getD i3.toNat z_Api_Fact).Value))]) (L' := [(box b1 43 [(Value.int .i64 (((l0.getD i3.toNat z_Api_Fact).Key).Hour)), (str (((l0.getD i3.toNat z_Api_Fact).Key).Dims_0)), (str (((l0.getD i3.toNat z_Api_Fact).Key).Dims_1)), (str (((l0.getD i3.toNat z_Api_Fact).Key).Dims_2)), (str (((l0.getD i3.toNat z_Api_Fact).Key).Dims_3)), (Value.int .i64 ((l0.getD i3.toNat z_Api_Fact).Value))]), A0]) 0 rfl rfl rfl (one_all rfl) F_size_43 rfl rfl (by simp) rfl) rfl rfl ?_
                rintro _ _ rfl
                refine ent_nil ?_
                refine ent_seq ?_
                refine ent_region ?_
                refine ent_value (ov_load_agg (vs := [(Value.int .i64 (((l0.getD i3.toNat z_Api_Fact).Key).Hour)), (str (((l0.getD i3.toNat z_Api_Fact).Key).Dims_0)), (str (((l0.getD i3.toNat z_Api_Fact).Key).Dims_1)), (str (((l0.getD i3.toNat z_Api_Fact).Key).Dims_2)), (str (((l0.getD i3.toNat z_Api_Fact).Key).Dims_3)), (Value.int .i64 ((l0.getD i3.toNat z_Api_Fact).Value))]) rfl F_agg_43 F_size_43 (reads_boxW (i := 0) rfl)) rfl rfl rfl ?_
                refine ent_value (ov_move rfl) rfl rfl rfl ?_
                obtain ⟨x2, h2, H1⟩ := Option.bind_eq_some_iff.1 H1
                refine ent_op (ot_call0 (first := []) (cap := []) (xs := [.tmp 29, .tmp 30]) rfl rfl F_call_27 rfl (fact_Check.spec K (((l0.getD i3.toNat z_Api_Fact).Key).Hour) (((l0.getD i3.toNat z_Api_Fact).Key).Dims_0) (((l0.getD i3.toNat z_Api_Fact).Key).Dims_1) (((l0.getD i3.toNat z_Api_Fact).Key).Dims_2) (((l0.getD i3.toNat z_Api_Fact).Key).Dims_3) ((l0.getD i3.toNat z_Api_Fact).Value) a1 _ h2)) rfl rfl rfl ?_
                rintro _ _ ⟨rfl, rfl⟩
                refine ent_value (ov_assign rfl) rfl rfl rfl ?_
                refine ent_nil ?_
                refine ent_seq ?_
                refine ent_region ?_
                refine ent_value (ov_move rfl) rfl rfl rfl ?_
                refine ent_value (ov_bin rfl rfl (b_neq _ _ _)) rfl rfl rfl ?_
                refine ent_nil ?_
                by_cases c6 : ¬ (x2 = 0)
                · rw [if_pos c6] at H1
                  refine ent_cond_true rfl (ne_t c6) ?_
                  refine ent_seq ?_
                  refine ent_region ?_
                  refine ent_value (ov_move rfl) rfl rfl rfl ?_
                  refine ent_value (ov_move rfl) rfl rfl rfl ?_
                  refine ent_value (ov_assign rfl) rfl rfl rfl ?_
                  refine ent_value (ov_assign rfl) rfl rfl rfl ?_
                  refine ent_nil ?_
                  refine ent_retc ?_
                  cases H1
                  refine ent_pick [1] (by decide) rfl ?_
                  exact ret_mem (vs := [(Value.int .i64 x2), (Value.int .i64 i3)]) rfl ⟨rfl, ⟨rfl, trivial⟩⟩ _ rfl ⟨rfl, rfl⟩
                · rw [if_neg c6] at H1
                  refine ent_cond_false rfl (ne_f c6) ?_
                  refine ent_skip ?_
                  refine ent_region ?_
                  refine ent_value (ov_bin rfl rfl (b_add _ _ _) ) rfl rfl rfl ?_
                  refine ent_value (ov_move rfl) rfl rfl rfl ?_
                  refine ent_nil ?_
                  exact ent_fin [1] (by decide) rfl (sub_cons (t := 1) rfl (sub_cons (t := 22) rfl (sub_cons (t := 23) rfl (sub_cons (t := 24) rfl (sub_nil _))))) fun a w h => ⟨k, Nat.lt_succ_self k, _, H1, h⟩
              · rw [if_neg c5] at H1
                cases H1
            · rw [if_neg c4] at H1
              refine ent_cond_false rfl (decide_eq_false c4) ?_
              refine ent_exit ?_
              refine ent_seq ?_
              refine ent_region ?_
              refine ent_value (ov_assign rfl) rfl rfl rfl ?_
              refine ent_value (ov_assign rfl) rfl rfl rfl ?_
              refine ent_nil ?_
              refine ent_retc ?_
              cases H1
              exact ret_mem (vs := [(Value.int .i64 0), (Value.int .i64 0)]) rfl ⟨rfl, ⟨rfl, trivial⟩⟩ _ rfl ⟨rfl, rfl⟩

set_option maxRecDepth 100000 in
theorem pack_Writer_Num.spec (K : Nat) (p0 : Nat) (a1 : Int) (r : List Int) (H : pack_Writer_Num K a1 = some r) : FnSpec Try.prog 80 [(pt p0 0), (Value.int .u64 a1)] [(box p0 113 [(Value.slice none 0 0)])] (fun v M => ∃ sv1 : Value, v = (pt p0 0) ∧ M = [(box p0 113 [sv1]), (own sv1 5 1 r.length (fl (eI .u8) r))]) := by
  unfold pack_Writer_Num at H
  refine spec_of Try.func80 rfl 35 rfl (Nat.le_of_ble_eq_true rfl) fun F w0 => ?_
  show Ent (St 35 w0 F [(0, (pt p0 0)), (1, (Value.int .u64 a1))] [(box p0 113 [(Value.slice none 0 0)])]) _
  refine ent_seq ?_
  refine ent_region ?_
  refine ent_value (ov_assign rfl) rfl rfl rfl ?_
  refine ent_nil ?_
  refine ent_seq ?_
  refine ent_seq ?_
  refine ent_region ?_
  refine ent_value (ov_move rfl) rfl rfl rfl ?_
  refine ent_value (ov_bin rfl rfl (b_eql_of (fun w => rfl) rfl (eq_pn Try.underlying111 _ _))) rfl rfl rfl ?_
  refine ent_nil ?_
  refine ent_cond_false rfl rfl ?_
  refine ent_skip ?_
  obtain ⟨x1, H1, H⟩ := Option.bind_eq_some_iff.1 H
  refine ent_seq_cut (fun a w => ∃ sv2 : Value, St 35 w0 F [(0, (pt p0 0)), (1, (Value.int .u64 x1.2))] [(box p0 113 [sv2]), (own sv2 5 1 x1.1.length (fl (eI .u8) x1.1))] a w) ?_ ?_
  · refine ent_block ?_
    refine ent_loop (fun k a w => ∃ i2, ∃ l3, ∃ sv3 : Value, pack_Writer_Num_l0 K k i2 l3 = some x1 ∧ St 35 w0 F [(0, (pt p0 0)), (1, (Value.int .u64 i2))] [(box p0 113 [sv3]), (own sv3 5 1 l3.length (fl (eI .u8) l3))] a w) K ?_ ?_
    · refine ent_ownnil 5 1 ?_
      exact ent_fin [1, 0] (by decide) rfl (sub_cons (t := 0) rfl (sub_cons (t := 1) rfl (sub_nil _))) fun a w h => ⟨_, _, _, H1, h⟩
    · refine fun k => ent_exi fun i2 => ent_exi fun l3 => ent_exi fun sv3 => ent_and fun H2 => ?_
      cases k with
      | zero => exact absurd H2 (by simp [pack_Writer_Num_l0])
      | succ k =>
        rw [pack_Writer_Num_l0] at H2
        refine ent_seq ?_
        refine ent_seq ?_
        refine ent_region ?_
        refine ent_value (ov_move rfl) rfl rfl rfl ?_
        refine ent_value (ov_bin rfl rfl (b_geq _ _ _)) rfl rfl rfl ?_
        refine ent_nil ?_
        by_cases c1 : 128 ≤ i2
        · rw [if_pos c1] at H2
          refine ent_cond_true rfl (decide_eq_true c1) ?_
          refine ent_skip ?_
          refine ent_seq ?_
          refine ent_block ?_
          refine ent_region ?_
          refine ent_value (ov_move rfl) rfl rfl rfl ?_
          refine ent_value (ov_move rfl) rfl rfl rfl ?_
          refine ent_value (ov_nilCheck rfl) rfl rfl rfl ?_
          refine ent_value (ov_fieldAddr (sz := 0) (o := 0) rfl F_field_113_0 F_size_79) rfl rfl rfl ?_
          refine ent_value (ov_load (v := sv3) rfl F_agg_79 (reads_box1 (i := 0) rfl rfl)) rfl rfl rfl ?_
          refine ent_value (ov_move rfl) rfl rfl rfl ?_
          refine ent_value (ov_convert rfl (c_int Try.underlying90 Try.underlying5)) rfl rfl rfl ?_
          refine ent_value (ov_bin rfl rfl (b_or _ _ _)) rfl rfl rfl ?_
          refine ent_op (ot_buildSlice (sz := 0) (xs := [.tmp 18]) (cs := fl (eI .u8) [bOr .u8 (wu8 i2) 128]) rfl rfl F_slice_79 F_size_5 F_zero_5 rfl rfl (all_size rfl) rfl (by decide)) rfl rfl rfl ?_
          rintro sv4 _ rfl
          by_cases c2 : (l3.length + [bOr .u8 (wu8 i2) 128].length) * 1 ≤ 140737488355328
          · rw [if_pos c2] at H2
            refine ent_op (ot_appendx (sz := 0) (xs := l3) (ys := [bOr .u8 (wu8 i2) 128]) 2 0 rfl rfl F_slice_79 F_size_5 F_zero_5 rfl F_bytes_5 rfl rfl rfl (isRd_ownx 5) rfl (eI_one _) c2) rfl rfl rfl ?_
            rintro sv5 _ rfl
            refine ent_L [(own sv4 5 1 [bOr .u8 (wu8 i2) 128].length (fl (eI .u8) [bOr .u8 (wu8 i2) 128])), (box p0 113 [sv3]), (own sv5 5 1 (l3 ++ [bOr .u8 (wu8 i2) 128]).length (fl (eI .u8) (l3 ++ [bOr .u8 (wu8 i2) 128])))] rfl ?_
            refine ent_value (ov_nilCheck rfl) rfl rfl rfl ?_
            refine ent_value (ov_fieldAddr (sz := 0) (o := 0) rfl F_field_113_0 F_size_79) rfl rfl rfl ?_
            refine ent_op0 (ot_storeS (cs := [sv3]) (cs' := [sv5]) (sv := sv5) (L' := [(own sv4 5 1 [bOr .u8 (wu8 i2) 128].length (fl (eI .u8) [bOr .u8 (wu8 i2) 128])), (box p0 113 [sv5]), (own sv5 5 1 (l3 ++ [bOr .u8 (wu8 i2) 128]).length (fl (eI .u8) (l3 ++ [bOr .u8 (wu8 i2) 128])))]) 1 2 rfl rfl F_size_79 rfl rfl (isRd_ownx 5) rfl (by simp) rfl) rfl rfl ?_
            rintro _ _ rfl
            refine ent_nil ?_
            refine ent_region ?_
            refine ent_value (ov_move rfl) rfl rfl rfl ?_
            refine ent_value (ov_bin rfl rfl fun w => b_shr _ _ _ _ w (by decide)) rfl rfl rfl ?_
            refine ent_value (ov_assign rfl) rfl rfl rfl ?_
            refine ent_nil ?_
            exact ent_fin [1, 2] (by decide) rfl (sub_cons (t := 0) rfl (sub_cons (t := 1) rfl (sub_nil _))) fun a w h => ⟨k, Nat.lt_succ_self k, _, _, _, H2, h⟩
          · rw [if_neg c2] at H2
            cases H2
        · rw [if_neg c1] at H2
          refine ent_cond_false rfl (decide_eq_false c1) ?_
          refine ent_exit ?_
          cases H2
          exact ent_fin [0, 1] (by decide) rfl (sub_cons (t := 0) rfl (sub_cons (t := 1) rfl (sub_nil _))) fun a w h => ⟨_, h⟩
  · refine ent_exi fun sv2 => ?_
    refine ent_seq ?_
    refine ent_region ?_
    refine ent_value (ov_move rfl) rfl rfl rfl ?_
    refine ent_value (ov_move rfl) rfl rfl rfl ?_
    refine ent_value (ov_nilCheck rfl) rfl rfl rfl ?_
    refine ent_value (ov_fieldAddr (sz := 0) (o := 0) rfl F_field_113_0 F_size_79) rfl rfl rfl ?_
    refine ent_value (ov_load (v := sv2) rfl F_agg_79 (reads_box1 (i := 0) rfl rfl)) rfl rfl rfl ?_
    refine ent_value (ov_move rfl) rfl rfl rfl ?_
    refine ent_value (ov_convert rfl (c_int Try.underlying90 Try.underlying5)) rfl rfl rfl ?_
    refine ent_op (ot_buildSlice (sz := 0) (xs := [.tmp 29]) (cs := fl (eI .u8) [wu8 x1.2]) rfl rfl F_slice_79 F_size_5 F_zero_5 rfl rfl (all_size rfl) rfl (by decide)) rfl rfl rfl ?_
    rintro sv6 _ rfl
    by_cases c3 : (x1.1.length + [wu8 x1.2].length) * 1 ≤ 140737488355328
    · rw [if_pos c3] at H
      refine ent_op (ot_appendx (sz := 0) (xs := x1.1) (ys := [wu8 x1.2]) 2 0 rfl rfl F_slice_79 F_size_5 F_zero_5 rfl F_bytes_5 rfl rfl rfl (isRd_ownx 5) rfl (eI_one _) c3) rfl rfl rfl ?_
      rintro sv7 _ rfl
      refine ent_L [(own sv6 5 1 [wu8 x1.2].length (fl (eI .u8) [wu8 x1.2])), (box p0 113 [sv2]), (own sv7 5 1 (x1.1 ++ [wu8 x1.2]).length (fl (eI .u8) (x1.1 ++ [wu8 x1.2])))] rfl ?_
      refine ent_value (ov_nilCheck rfl) rfl rfl rfl ?_
      refine ent_value (ov_fieldAddr (sz := 0) (o := 0) rfl F_field_113_0 F_size_79) rfl rfl rfl ?_
      refine ent_op0 (ot_storeS (cs := [sv2]) (cs' := [sv7]) (sv := sv7) (L' := [(own sv6 5 1 [wu8 x1.2].length (fl (eI .u8) [wu8 x1.2])), (box p0 113 [sv7]), (own sv7 5 1 (x1.1 ++ [wu8 x1.2]).length (fl (eI .u8) (x1.1 ++ [wu8 x1.2])))]) 1 2 rfl rfl F_size_79 rfl rfl (isRd_ownx 5) rfl (by simp) rfl) rfl rfl ?_
      rintro _ _ rfl
      refine ent_nil ?_
      refine ent_seq ?_
      refine ent_region ?_
      refine ent_value (ov_move rfl) rfl rfl rfl ?_
      refine ent_value (ov_assign rfl) rfl rfl rfl ?_
      refine ent_nil ?_
      refine ent_retc ?_
      cases H
      refine ent_pick [1, 2] (by decide) rfl ?_
      exact ret_tmp rfl rfl ⟨_, rfl, rfl⟩
    · rw [if_neg c3] at H
      cases H

set_option maxRecDepth 100000 in
theorem pack_Writer_Num_2.spec (K : Nat) (p0 : Nat) (sv0 : Value) (l0 : List Int) (a1 : Int) (r : List Int) (H : pack_Writer_Num_2 K l0 a1 = some r) : FnSpec Try.prog 80 [(pt p0 0), (Value.int .u64 a1)] [(box p0 113 [sv0]), (own sv0 5 1 l0.length (fl (eI .u8) l0))] (fun v M => ∃ sv1 : Value, v = (pt p0 0) ∧ M = [(box p0 113 [sv1]), (own sv1 5 1 r.length (fl (eI .u8) r))]) := by
  unfold pack_Writer_Num_2 at H
  refine spec_of Try.func80 rfl 35 rfl (Nat.le_of_ble_eq_true rfl) fun F w0 => ?_
  show Ent (St 35 w0 F [(0, (pt p0 0)), (1, (Value.int .u64 a1))] [(box p0 113 [sv0]), (own sv0 5 1 l0.length (fl (eI .u8) l0))]) _
  refine ent_seq ?_
  refine ent_region ?_
  refine ent_value (ov_assign rfl) rfl rfl rfl ?_
  refine ent_nil ?_
  refine ent_seq ?_
  refine ent_seq ?_
  refine ent_region ?_
  refine ent_value (ov_move rfl) rfl rfl rfl ?_
  refine ent_value (ov_bin rfl rfl (b_eql_of (fun w => rfl) rfl (eq_pn Try.underlying111 _ _))) rfl rfl rfl ?_
  refine ent_nil ?_
  refine ent_cond_false rfl rfl ?_
  refine ent_skip ?_
  obtain ⟨x1, H1, H⟩ := Option.bind_eq_some_iff.1 H
  refine ent_seq_cut (fun a w => ∃ sv2 : Value, St 35 w0 F [(0, (pt p0 0)), (1, (Value.int .u64 x1.2))] [(box p0 113 [sv2]), (own sv2 5 1 x1.1.length (fl (eI .u8) x1.1))] a w) ?_ ?_
  · refine ent_block ?_
    refine ent_loop (fun k a w => ∃ i2, ∃ l3, ∃ sv3 : Value, pack_Writer_Num_2_l0 K k i2 l3 = some x1 ∧ St 35 w0 F [(0, (pt p0 0)), (1, (Value.int .u64 i2))] [(box p0 113 [sv3]), (own sv3 5 1 l3.length (fl (eI .u8) l3))] a w) K ?_ ?_
    · exact ent_fin [0, 1] (by decide) rfl (sub_cons (t := 0) rfl (sub_cons (t := 1) rfl (sub_nil _))) fun a w h => ⟨_, _, _, H1, h⟩
    · refine fun k => ent_exi fun i2 => ent_exi fun l3 => ent_exi fun sv3 => ent_and fun H2 => ?_
      cases k with
      | zero => exact absurd H2 (by simp [pack_Writer_Num_2_l0])
      | succ k =>
        rw [pack_Writer_Num_2_l0] at H2
        refine ent_seq ?_
        refine ent_seq ?_
        refine ent_region ?_
        refine ent_value (ov_move rfl) rfl rfl rfl ?_
        refine ent_value (ov_bin rfl rfl (b_geq _ _ _)) rfl rfl rfl ?_
        refine ent_nil ?_
        by_cases c1 : 128 ≤ i2
        · rw [if_pos c1] at H2
          refine ent_cond_true rfl (decide_eq_true c1) ?_
          refine ent_skip ?_
          refine ent_seq ?_
          refine ent_block ?_
          refine ent_region ?_
          refine ent_value (ov_move rfl) rfl rfl rfl ?_
          refine ent_value (ov_move rfl) rfl rfl rfl ?_
          refine ent_value (ov_nilCheck rfl) rfl rfl rfl ?_
          refine ent_value (ov_fieldAddr (sz := 0) (o := 0) rfl F_field_113_0 F_size_79) rfl rfl rfl ?_
          refine ent_value (ov_load (v := sv3) rfl F_agg_79 (reads_box1 (i := 0) rfl rfl)) rfl rfl rfl ?_
          refine ent_value (ov_move rfl) rfl rfl rfl ?_
          refine ent_value (ov_convert rfl (c_int Try.underlying90 Try.underlying5)) rfl rfl rfl ?_
          refine ent_value (ov_bin rfl rfl (b_or _ _ _)) rfl rfl rfl ?_
          refine ent_op (ot_buildSlice (sz := 0) (xs := [.tmp 18]) (cs := fl (eI .u8) [bOr .u8 (wu8 i2) 128]) rfl rfl F_slice_79 F_size_5 F_zero_5 rfl rfl (all_size rfl) rfl (by decide)) rfl rfl rfl ?_
          rintro sv4 _ rfl
          by_cases c2 : (l3.length + [bOr .u8 (wu8 i2) 128].length) * 1 ≤ 140737488355328
          · rw [if_pos c2] at H2
            refine ent_op (ot_appendx (sz := 0) (xs := l3) (ys := [bOr .u8 (wu8 i2) 128]) 2 0 rfl rfl F_slice_79 F_size_5 F_zero_5 rfl F_bytes_5 rfl rfl rfl (isRd_ownx 5) rfl (eI_one _) c2) rfl rfl rfl ?_
            rintro sv5 _ rfl
            refine ent_L [(own sv4 5 1 [bOr .u8 (wu8 i2) 128].length (fl (eI .u8) [bOr .u8 (wu8 i2) 128])), (box p0 113 [sv3]), (own sv5 5 1 (l3 ++ [bOr .u8 (wu8 i2) 128]).length (fl (eI .u8) (l3 ++ [bOr .u8 (wu8 i2) 128])))] rfl ?_
            refine ent_value (ov_nilCheck rfl) rfl rfl rfl ?_
            refine ent_value (ov_fieldAddr (sz := 0) (o := 0) rfl F_field_113_0 F_size_79) rfl rfl rfl ?_
            refine ent_op0 (ot_storeS (cs := [sv3]) (cs' := [sv5]) (sv := sv5) (L' := [(own sv4 5 1 [bOr .u8 (wu8 i2) 128].length (fl (eI .u8) [bOr .u8 (wu8 i2) 128])), (box p0 113 [sv5]), (own sv5 5 1 (l3 ++ [bOr .u8 (wu8 i2) 128]).length (fl (eI .u8) (l3 ++ [bOr .u8 (wu8 i2) 128])))]) 1 2 rfl rfl F_size_79 rfl rfl (isRd_ownx 5) rfl (by simp) rfl) rfl rfl ?_
            rintro _ _ rfl
            refine ent_nil ?_
            refine ent_region ?_
            refine ent_value (ov_move rfl) rfl rfl rfl ?_
            refine ent_value (ov_bin rfl rfl fun w => b_shr _ _ _ _ w (by decide)) rfl rfl rfl ?_
            refine ent_value (ov_assign rfl) rfl rfl rfl ?_
            refine ent_nil ?_
            exact ent_fin [1, 2] (by decide) rfl (sub_cons (t := 0) rfl (sub_cons (t := 1) rfl (sub_nil _))) fun a w h => ⟨k, Nat.lt_succ_self k, _, _, _, H2, h⟩
          · rw [if_neg c2] at H2
            cases H2
        · rw [if_neg c1] at H2
          refine ent_cond_false rfl (decide_eq_false c1) ?_
          refine ent_exit ?_
          cases H2
          exact ent_fin [0, 1] (by decide) rfl (sub_cons (t := 0) rfl (sub_cons (t := 1) rfl (sub_nil _))) fun a w h => ⟨_, h⟩
  · refine ent_exi fun sv2 => ?_
    refine ent_seq ?_
    refine ent_region ?_
    refine ent_value (ov_move rfl) rfl rfl rfl ?_
    refine ent_value (ov_move rfl) rfl rfl rfl ?_
    refine ent_value (ov_nilCheck rfl) rfl rfl rfl ?_
    refine ent_value (ov_fieldAddr (sz := 0) (o := 0) rfl F_field_113_0 F_size_79) rfl rfl rfl ?_
    refine ent_value (ov_load (v := sv2) rfl F_agg_79 (reads_box1 (i := 0) rfl rfl)) rfl rfl rfl ?_
    refine ent_value (ov_move rfl) rfl rfl rfl ?_
    refine ent_value (ov_convert rfl (c_int Try.underlying90 Try.underlying5)) rfl rfl rfl ?_
    refine ent_op (ot_buildSlice (sz := 0) (xs := [.tmp 29]) (cs := fl (eI .u8) [wu8 x1.2]) rfl rfl F_slice_79 F_size_5 F_zero_5 rfl rfl (all_size rfl) rfl (by decide)) rfl rfl rfl ?_
    rintro sv6 _ rfl
    by_cases c3 : (x1.1.length + [wu8 x1.2].length) * 1 ≤ 140737488355328
    · rw [if_pos c3] at H
      refine ent_op (ot_appendx (sz := 0) (xs := x1.1) (ys := [wu8 x1.2]) 2 0 rfl rfl F_slice_79 F_size_5 F_zero_5 rfl F_bytes_5 rfl rfl rfl (isRd_ownx 5) rfl (eI_one _) c3) rfl rfl rfl ?_
      rintro sv7 _ rfl
      refine ent_L [(own sv6 5 1 [wu8 x1.2].length (fl (eI .u8) [wu8 x1.2])), (box p0 113 [sv2]), (own sv7 5 1 (x1.1 ++ [wu8 x1.2]).length (fl (eI .u8) (x1.1 ++ [wu8 x1.2])))] rfl ?_
      refine ent_value (ov_nilCheck rfl) rfl rfl rfl ?_
      refine ent_value (ov_fieldAddr (sz := 0) (o := 0) rfl F_field_113_0 F_size_79) rfl rfl rfl ?_
      refine ent_op0 (ot_storeS (cs := [sv2]) (cs' := [sv7]) (sv := sv7) (L' := [(own sv6 5 1 [wu8 x1.2].length (fl (eI .u8) [wu8 x1.2])), (box p0 113 [sv7]), (own sv7 5 1 (x1.1 ++ [wu8 x1.2]).length (fl (eI .u8) (x1.1 ++ [wu8 x1.2])))]) 1 2 rfl rfl F_size_79 rfl rfl (isRd_ownx 5) rfl (by simp) rfl) rfl rfl ?_
      rintro _ _ rfl
      refine ent_nil ?_
      refine ent_seq ?_
      refine ent_region ?_
      refine ent_value (ov_move rfl) rfl rfl rfl ?_
      refine ent_value (ov_assign rfl) rfl rfl rfl ?_
      refine ent_nil ?_
      refine ent_retc ?_
      cases H
      refine ent_pick [1, 2] (by decide) rfl ?_
      exact ret_tmp rfl rfl ⟨_, rfl, rfl⟩
    · rw [if_neg c3] at H
      cases H

set_option maxRecDepth 100000 in
theorem pack_Writer_Text.spec (K : Nat) (p0 : Nat) (sv0 : Value) (l0 : List Int) (a1 : List UInt8) (r : List Int) (H : pack_Writer_Text K l0 a1 = some r) : FnSpec Try.prog 81 [(pt p0 0), (str a1)] [(box p0 113 [sv0]), (own sv0 5 1 l0.length (fl (eI .u8) l0))] (fun v M => ∃ sv1 : Value, v = (pt p0 0) ∧ M = [(box p0 113 [sv1]), (own sv1 5 1 r.length (fl (eI .u8) r))]) := by
  unfold pack_Writer_Text at H
  refine spec_of Try.func81 rfl 21 rfl (Nat.le_of_ble_eq_true rfl) fun F w0 => ?_
  show Ent (St 21 w0 F [(0, (pt p0 0)), (1, (str a1))] [(box p0 113 [sv0]), (own sv0 5 1 l0.length (fl (eI .u8) l0))]) _
  refine ent_seq ?_
  refine ent_region ?_
  refine ent_value (ov_assign rfl) rfl rfl rfl ?_
  refine ent_nil ?_
  refine ent_seq ?_
  refine ent_seq ?_
  refine ent_region ?_
  refine ent_value (ov_move rfl) rfl rfl rfl ?_
  refine ent_value (ov_move rfl) rfl rfl rfl ?_
  refine ent_value (ov_lenS rfl Try.underlying9) rfl rfl rfl ?_
  refine ent_value (ov_convert rfl (c_int Try.underlying3 Try.underlying90)) rfl rfl rfl ?_
  obtain ⟨x1, h1, H⟩ := Option.bind_eq_some_iff.1 H
  refine ent_op (ot_call (Lr := []) (first := []) (cap := []) (xs := [.tmp 5, .tmp 8]) rfl rfl F_call_80 rfl (pack_Writer_Num_2.spec K p0 sv0 l0 (wu64 (a1.length : Int)) _ h1) rfl) rfl rfl rfl ?_
  rintro _ _ ⟨_, ⟨sv2, rfl, rfl⟩, rfl⟩
  refine ent_value (ov_bin rfl rfl (b_neq_of (fun w => rfl) rfl (eq_pn Try.underlying111 _ _))) rfl rfl rfl ?_
  refine ent_nil ?_
  refine ent_cond_true rfl rfl ?_
  refine ent_region ?_
  refine ent_value (ov_move rfl) rfl rfl rfl ?_
  refine ent_value (ov_move rfl) rfl rfl rfl ?_
  refine ent_value (ov_nilCheck rfl) rfl rfl rfl ?_
  refine ent_value (ov_fieldAddr (sz := 0) (o := 0) rfl F_field_113_0 F_size_79) rfl rfl rfl ?_
  refine ent_value (ov_load (v := sv2) rfl F_agg_79 (reads_box1 (i := 0) rfl rfl)) rfl rfl rfl ?_
  refine ent_value (ov_move rfl) rfl rfl rfl ?_
  by_cases c1 : (x1.length + a1.length) * 1 ≤ 140737488355328
  · rw [if_pos c1] at H
    refine ent_op (ot_appendS (xs := x1) (s := a1) 1 rfl rfl F_slice_79 Try.underlying9 F_size_5 F_zero1_5 F_bytes_5 rfl c1) rfl rfl rfl ?_
    rintro sv3 _ rfl
    refine ent_L [(box p0 113 [sv2]), (own sv3 5 1 (x1 ++ byts a1).length (fl (eI .u8) (x1 ++ byts a1)))] rfl ?_
    refine ent_value (ov_nilCheck rfl) rfl rfl rfl ?_
    refine ent_value (ov_fieldAddr (sz := 0) (o := 0) rfl F_field_113_0 F_size_79) rfl rfl rfl ?_
    refine ent_op0 (ot_storeS (cs := [sv2]) (cs' := [sv3]) (sv := sv3) (L' := [(box p0 113 [sv3]), (own sv3 5 1 (x1 ++ byts a1).length (fl (eI .u8) (x1 ++ byts a1)))]) 0 1 rfl rfl F_size_79 rfl rfl (isRd_ownx 5) rfl (by simp) rfl) rfl rfl ?_
    rintro _ _ rfl
    refine ent_nil ?_
    refine ent_seq ?_
    refine ent_region ?_
    refine ent_value (ov_move rfl) rfl rfl rfl ?_
    refine ent_value (ov_assign rfl) rfl rfl rfl ?_
    refine ent_nil ?_
    refine ent_retc ?_
    cases H
    exact ret_tmp rfl rfl ⟨_, rfl, rfl⟩
  · rw [if_neg c1] at H
    cases H

set_option maxRecDepth 100000 in
theorem pack_Writer_Int.spec (K : Nat) (p0 : Nat) (sv0 : Value) (l0 : List Int) (a1 : Int) (r : List Int) (H : pack_Writer_Int K l0 a1 = some r) : FnSpec Try.prog 82 [(pt p0 0), (Value.int .i64 a1)] [(box p0 113 [sv0]), (own sv0 5 1 l0.length (fl (eI .u8) l0))] (fun v M => ∃ sv1 : Value, v = (pt p0 0) ∧ M = [(box p0 113 [sv1]), (own sv1 5 1 r.length (fl (eI .u8) r))]) := by
  unfold pack_Writer_Int at H
  refine spec_of Try.func82 rfl 14 rfl (Nat.le_of_ble_eq_true rfl) fun F w0 => ?_
  show Ent (St 14 w0 F [(0, (pt p0 0)), (1, (Value.int .i64 a1))] [(box p0 113 [sv0]), (own sv0 5 1 l0.length (fl (eI .u8) l0))]) _
  refine ent_seq ?_
  refine ent_region ?_
  refine ent_value (ov_assign rfl) rfl rfl rfl ?_
  refine ent_nil ?_
  refine ent_seq ?_
  refine ent_region ?_
  refine ent_value (ov_move rfl) rfl rfl rfl ?_
  refine ent_value (ov_move rfl) rfl rfl rfl ?_
  refine ent_value (ov_bin rfl rfl fun w => b_shl _ _ _ _ w (by decide)) rfl rfl rfl ?_
  refine ent_value (ov_convert rfl (c_int Try.underlying2 Try.underlying90)) rfl rfl rfl ?_
  refine ent_value (ov_move rfl) rfl rfl rfl ?_
  refine ent_value (ov_bin rfl rfl fun w => b_shr _ _ _ _ w (by decide)) rfl rfl rfl ?_
  refine ent_value (ov_convert rfl (c_int Try.underlying2 Try.underlying90)) rfl rfl rfl ?_
  refine ent_value (ov_bin rfl rfl (b_xor _ _ _)) rfl rfl rfl ?_
  obtain ⟨x1, h1, H⟩ := Option.bind_eq_some_iff.1 H
  refine ent_op (ot_call (Lr := []) (first := []) (cap := []) (xs := [.tmp 5, .tmp 12]) rfl rfl F_call_80 rfl (pack_Writer_Num_2.spec K p0 sv0 l0 (bXor .u64 (wu64 (bShl .i64 a1 1)) (wu64 (bShr .i64 a1 63))) _ h1) rfl) rfl rfl rfl ?_
  rintro _ _ ⟨_, ⟨sv2, rfl, rfl⟩, rfl⟩
  refine ent_value (ov_assign rfl) rfl rfl rfl ?_
  refine ent_nil ?_
  refine ent_retc ?_
  cases H
  exact ret_tmp rfl rfl ⟨_, rfl, rfl⟩

set_option maxRecDepth 100000 in
theorem bytes_Clone.spec (sv0 : Value) (A0 : HP) (l0 : List Int) (hA0 : IsRd A0 sv0 l0.length 1 (fl (eI .u8) l0)) (r : List Int) (H : bytes_Clone l0 = some r) : FnSpec Try.prog 105 [sv0] [A0] (fun v M => ∃ sv1 : Value, v = sv1 ∧ M = [A0, (own sv1 5 1 r.length (fl (eI .u8) r))]) := by
  unfold bytes_Clone at H
  refine spec_of Try.func105 rfl 8 rfl (Nat.le_of_ble_eq_true rfl) fun F w0 => ?_
  show Ent (St 8 w0 F [(0, sv0)] [A0]) _
  refine ent_seq ?_
  refine ent_region ?_
  refine ent_value (ov_assign rfl) rfl rfl rfl ?_
  refine ent_nil ?_
  refine ent_seq ?_
  refine ent_seq ?_
  refine ent_region ?_
  refine ent_value (ov_move rfl) rfl rfl rfl ?_
  by_cases c1 : 0 < l0.length
  · rw [if_pos c1] at H
    refine ent_value (ov_eqnil 0 rfl rfl Try.underlying79 rfl hA0 rfl c1) rfl rfl rfl ?_
    refine ent_nil ?_
    refine ent_cond_false rfl rfl ?_
    refine ent_skip ?_
    refine ent_seq ?_
    refine ent_region ?_
    refine ent_op (ot_buildSlice (sz := 0) (xs := []) (cs := fl (eI .u8) ([] : List Int)) rfl rfl F_slice_79 F_size_5 F_zero_5 rfl rfl (all_size rfl) rfl (by decide)) rfl rfl rfl ?_
    rintro sv2 _ rfl
    refine ent_value (ov_move rfl) rfl rfl rfl ?_
    by_cases c2 : (([] : List Int).length + l0.length) * 1 ≤ 140737488355328
    · rw [if_pos c2] at H
      refine ent_op (ot_appendx (sz := 0) (xs := ([] : List Int)) (ys := l0) 0 1 rfl rfl F_slice_79 F_size_5 F_zero_5 rfl F_bytes_5 rfl rfl rfl hA0 rfl (eI_one _) c2) rfl rfl rfl ?_
      rintro sv3 _ rfl
      refine ent_L [(own sv3 5 1 (([] : List Int) ++ l0).length (fl (eI .u8) (([] : List Int) ++ l0))), A0] rfl ?_
      refine ent_value (ov_assign rfl) rfl rfl rfl ?_
      refine ent_nil ?_
      refine ent_retc ?_
      cases H
      refine ent_pick [1, 0] (by decide) rfl ?_
      exact ret_tmp rfl rfl ⟨_, rfl, rfl⟩
    · rw [if_neg c2] at H
      cases H
  · rw [if_neg c1] at H
    by_cases c3 : nilS sv0 = true
    · replace H : (some (([] : List Int))) = _ := H
      refine ent_value (ov_eqnil0 0 rfl rfl Try.underlying79 rfl hA0 c3) rfl rfl rfl ?_
      refine ent_nil ?_
      refine ent_cond_true rfl rfl ?_
      refine ent_seq ?_
      refine ent_region ?_
      refine ent_value (ov_assign rfl) rfl rfl rfl ?_
      refine ent_nil ?_
      refine ent_retc ?_
      cases H
      refine ent_ownnil 5 1 ?_
      refine ent_pick [1, 0] (by decide) rfl ?_
      exact ret_tmp rfl rfl ⟨_, rfl, rfl⟩
    · refine ent_value (ov_eqnil0 0 rfl rfl Try.underlying79 rfl hA0 (Bool.eq_false_iff.2 c3)) rfl rfl rfl ?_
      refine ent_nil ?_
      refine ent_cond_false rfl rfl ?_
      refine ent_skip ?_
      refine ent_seq ?_
      refine ent_region ?_
      refine ent_op (ot_buildSlice (sz := 0) (xs := []) (cs := fl (eI .u8) ([] : List Int)) rfl rfl F_slice_79 F_size_5 F_zero_5 rfl rfl (all_size rfl) rfl (by decide)) rfl rfl rfl ?_
      rintro sv4 _ rfl
      refine ent_value (ov_move rfl) rfl rfl rfl ?_
      by_cases c4 : (([] : List Int).length + ([] : List Int).length) * 1 ≤ 140737488355328
      · rw [if_pos c4] at H
        refine ent_op (ot_appendx (sz := 0) (xs := ([] : List Int)) (ys := ([] : List Int)) 0 1 rfl rfl F_slice_79 F_size_5 F_zero_5 rfl F_bytes_5 rfl rfl rfl (isRd_zero hA0 c1) rfl (eI_one _) c4) rfl rfl rfl ?_
        rintro sv5 _ rfl
        refine ent_L [(own sv5 5 1 (([] : List Int) ++ ([] : List Int)).length (fl (eI .u8) (([] : List Int) ++ ([] : List Int)))), A0] rfl ?_
        refine ent_value (ov_assign rfl) rfl rfl rfl ?_
        refine ent_nil ?_
        refine ent_retc ?_
        cases H
        refine ent_pick [1, 0] (by decide) rfl ?_
        exact ret_tmp rfl rfl ⟨_, rfl, rfl⟩
      · rw [if_neg c4] at H
        cases H

set_option maxRecDepth 100000 in
theorem pack_Writer_Bytes.spec (p0 : Nat) (sv0 : Value) (l0 : List Int) (r : List Int) (H : pack_Writer_Bytes l0 = some r) : FnSpec Try.prog 83 [(pt p0 0)] [(box p0 113 [sv0]), (own sv0 5 1 l0.length (fl (eI .u8) l0))] (fun v M => ∃ sv1 : Value, v = sv1 ∧ M = [(box p0 113 [sv0]), (own sv0 5 1 l0.length (fl (eI .u8) l0)), (own sv1 5 1 r.length (fl (eI .u8) r))]) := by
  unfold pack_Writer_Bytes at H
  refine spec_of Try.func83 rfl 10 rfl (Nat.le_of_ble_eq_true rfl) fun F w0 => ?_
  show Ent (St 10 w0 F [(0, (pt p0 0))] [(box p0 113 [sv0]), (own sv0 5 1 l0.length (fl (eI .u8) l0))]) _
  refine ent_seq ?_
  refine ent_region ?_
  refine ent_value (ov_assign rfl) rfl rfl rfl ?_
  refine ent_nil ?_
  refine ent_seq ?_
  refine ent_seq ?_
  refine ent_region ?_
  refine ent_value (ov_move rfl) rfl rfl rfl ?_
  refine ent_value (ov_bin rfl rfl (b_eql_of (fun w => rfl) rfl (eq_pn Try.underlying111 _ _))) rfl rfl rfl ?_
  refine ent_nil ?_
  refine ent_cond_false rfl rfl ?_
  refine ent_skip ?_
  refine ent_seq ?_
  refine ent_region ?_
  refine ent_value (ov_move rfl) rfl rfl rfl ?_
  refine ent_value (ov_nilCheck rfl) rfl rfl rfl ?_
  refine ent_value (ov_fieldAddr (sz := 0) (o := 0) rfl F_field_113_0 F_size_79) rfl rfl rfl ?_
  refine ent_value (ov_load (v := sv0) rfl F_agg_79 (reads_box1 (i := 0) rfl rfl)) rfl rfl rfl ?_
  obtain ⟨x1, h1, H⟩ := Option.bind_eq_some_iff.1 H
  refine ent_pick [1, 0] (by decide) rfl ?_
  refine ent_op (ot_call (Lr := [(box p0 113 [sv0])]) (first := []) (cap := []) (xs := [.tmp 8]) rfl rfl F_call_105 rfl (bytes_Clone.spec sv0 (own sv0 5 1 l0.length (fl (eI .u8) l0)) l0 (isRd_ownx 5) _ h1) rfl) rfl rfl rfl ?_
  rintro sv2 _ ⟨_, ⟨_, rfl, rfl⟩, rfl⟩
  refine ent_value (ov_assign rfl) rfl rfl rfl ?_
  refine ent_nil ?_
  refine ent_retc ?_
  cases H
  refine ent_pick [2, 0, 1] (by decide) rfl ?_
  exact ret_tmp rfl rfl ⟨_, rfl, rfl⟩

set_option maxRecDepth 100000 in
theorem fact_Encode.spec (K : Nat) (sv0 : Value) (A0 : HP) (l0 : List Api_Fact) (a1 : Int) (hA0 : IsRd A0 sv0 l0.length 6 (fl enc_Api_Fact l0)) (r : (Int × (List Int))) (H : fact_Encode K l0 a1 = some r) : FnSpec Try.prog 54 [sv0, (Value.int .i64 a1)] [A0] (fun v M => ∃ sv1 : Value, v = (Value.tuple #[sv1, (Value.int .i64 r.1)]) ∧ M = [A0, (own sv1 5 1 r.2.length (fl (eI .u8) r.2))]) := by
  unfold fact_Encode at H
  refine spec_of Try.func54 rfl 70 rfl (Nat.le_of_ble_eq_true rfl) fun F w0 => ?_
  show Ent (St 70 w0 F [(0, sv0), (1, (Value.int .i64 a1))] [A0]) _
  refine ent_seq ?_
  refine ent_region ?_
  refine ent_value (ov_assign rfl) rfl rfl rfl ?_
  refine ent_value (ov_assign rfl) rfl rfl rfl ?_
  refine ent_nil ?_
  refine ent_seq ?_
  refine ent_seq ?_
  refine ent_region ?_
  refine ent_value (ov_move rfl) rfl rfl rfl ?_
  refine ent_value (ov_move rfl) rfl rfl rfl ?_
  obtain ⟨x1, h1, H⟩ := Option.bind_eq_some_iff.1 H
  refine ent_op (ot_call_same (Lr := []) [0] [0] (first := []) (cap := []) (xs := [.tmp 17, .tmp 18]) rfl rfl F_call_29 rfl (fact_All.spec K sv0 A0 l0 a1 hA0 _ h1) (by decide) rfl (by decide) rfl) rfl rfl rfl ?_
  rintro _ _ ⟨rfl, rfl⟩
  refine ent_value (ov_move rfl) rfl rfl rfl ?_
  refine ent_value (ov_extract rfl rfl) rfl rfl rfl ?_
  refine ent_value (ov_extract rfl rfl) rfl rfl rfl ?_
  refine ent_value (ov_assign rfl) rfl rfl rfl ?_
  refine ent_value (ov_assign rfl) rfl rfl rfl ?_
  refine ent_nil ?_
  refine ent_seq ?_
  refine ent_region ?_
  refine ent_value (ov_move rfl) rfl rfl rfl ?_
  refine ent_value (ov_bin rfl rfl (b_neq _ _ _)) rfl rfl rfl ?_
  refine ent_nil ?_
  by_cases c1 : ¬ (x1.1 = 0)
  · rw [if_pos c1] at H
    refine ent_cond_true rfl (ne_t c1) ?_
    refine ent_seq ?_
    refine ent_region ?_
    refine ent_value (ov_move rfl) rfl rfl rfl ?_
    refine ent_value (ov_assign rfl) rfl rfl rfl ?_
    refine ent_value (ov_assign rfl) rfl rfl rfl ?_
    refine ent_nil ?_
    refine ent_retc ?_
    cases H
    refine ent_ownnil 5 1 ?_
    refine ent_pick [1, 0] (by decide) rfl ?_
    exact ret_mem (vs := [(Value.slice none 0 0), (Value.int .i64 x1.1)]) rfl ⟨rfl, ⟨rfl, trivial⟩⟩ _ rfl ⟨_, rfl, rfl⟩
  · rw [if_neg c1] at H
    refine ent_cond_false rfl (ne_f c1) ?_
    refine ent_skip ?_
    refine ent_seq ?_
    refine ent_region ?_
    refine ent_value (ov_build (is := []) (xs := []) (vs := []) rfl rfl (build_struct (cs := [(Value.slice none 0 0)]) F_zero_113 F_places_113 rfl)) rfl rfl rfl ?_
    refine ent_op (ot_box (cs := [(Value.slice none 0 0)]) rfl rfl) rfl rfl rfl ?_
    rintro _ _ ⟨b1, rfl, rfl⟩
    refine ent_value (ov_assign rfl) rfl rfl rfl ?_
    refine ent_nil ?_
    refine ent_seq ?_
    refine ent_region ?_
    refine ent_value (ov_move rfl) rfl rfl rfl ?_
    refine ent_value (ov_makeFunc (first := [.tmp 27]) (cap := []) rfl rfl) rfl rfl rfl ?_
    refine ent_value (ov_move rfl) rfl rfl rfl ?_
    refine ent_value (ov_makeFunc (first := [.tmp 29]) (cap := []) rfl rfl) rfl rfl rfl ?_
    refine ent_value (ov_move rfl) rfl rfl rfl ?_
    refine ent_value (ov_makeFunc (first := [.tmp 31]) (cap := []) rfl rfl) rfl rfl rfl ?_
    refine ent_value (ov_assign rfl) rfl rfl rfl ?_
    refine ent_value (ov_assign rfl) rfl rfl rfl ?_
    refine ent_value (ov_assign rfl) rfl rfl rfl ?_
    refine ent_nil ?_
    refine ent_seq ?_
    refine ent_region ?_
    refine ent_value (ov_move rfl) rfl rfl rfl ?_
    refine ent_value (ov_move rfl) rfl rfl rfl ?_
    refine ent_value (ov_len 1 rfl F_slice_35 rfl hA0) rfl rfl rfl ?_
    refine ent_value (ov_convert rfl (c_int Try.underlying3 Try.underlying90)) rfl rfl rfl ?_
    obtain ⟨x2, h2, H⟩ := Option.bind_eq_some_iff.1 H
    refine ent_op (ot_call (Lr := [A0]) (first := [(pt b1 0)]) (cap := []) (xs := [.tmp 36]) rfl rfl F_call_80 rfl (pack_Writer_Num.spec K b1 (wu64 (l0.length : Int)) _ h2) rfl) rfl rfl rfl ?_
    rintro _ _ ⟨_, ⟨sv2, rfl, rfl⟩, rfl⟩
    refine ent_nil ?_
    refine ent_seq ?_
    refine ent_seq ?_
    refine ent_region ?_
    refine ent_value (ov_move rfl) rfl rfl rfl ?_
    refine ent_value (ov_len 2 rfl F_slice_35 rfl hA0) rfl rfl rfl ?_
    refine ent_value (ov_move rfl) rfl rfl rfl ?_
    refine ent_nil ?_
    refine ent_block ?_
    refine ent_loop (fun k a w => ∃ i2, ∃ l2, ∃ b2 : Nat, ∃ sv3 : Value, fact_Encode_l0 K l0 a1 k i2 l2 = some r ∧ St 70 w0 F [(1, (Value.int .i64 a1)), (8, (pt b2 0)), (9, (Value.func (.func 80) #[(pt b2 0)] #[])), (10, (Value.func (.func 81) #[(pt b2 0)] #[])), (11, (Value.func (.func 82) #[(pt b2 0)] #[])), (38, sv0), (39, (Value.int .i64 (l0.length : Int))), (40, (Value.int .i64 i2))] [A0, (box b2 113 [sv3]), (own sv3 5 1 l2.length (fl (eI .u8) l2))] a w) K ?_ ?_
    · exact ent_fin [2, 0, 1] (by decide) rfl (sub_cons (t := 1) rfl (sub_cons (t := 8) rfl (sub_cons (t := 9) rfl (sub_cons (t := 10) rfl (sub_cons (t := 11) rfl (sub_cons (t := 38) rfl (sub_cons (t := 39) rfl (sub_cons (t := 40) rfl (sub_nil _))))))))) fun a w h => ⟨_, _, _, _, H, h⟩
    · refine fun k => ent_exi fun i2 => ent_exi fun l2 => ent_exi fun b2 => ent_exi fun sv3 => ent_and fun H1 => ?_
      cases k with
      | zero => exact absurd H1 (by simp [fact_Encode_l0])
      | succ k =>
        rw [fact_Encode_l0] at H1
        refine ent_seq ?_
        refine ent_region ?_
        refine ent_value (ov_bin rfl rfl (b_lss _ _ _)) rfl rfl rfl ?_
        refine ent_nil ?_
        refine ent_seq ?_
        by_cases c2 : i2 < (l0.length : Int)
        · rw [if_pos c2] at H1
          refine ent_cond_true rfl (decide_eq_true c2) ?_
          refine ent_skip ?_
          obtain ⟨x3, H2, H1⟩ := Option.bind_eq_some_iff.1 H1
          refine ent_seq_cut (fun a w => ∃ sv4 : Value, St 70 w0 F [(1, (Value.int .i64 a1)), (8, (pt b2 0)), (9, (Value.func (.func 80) #[(pt b2 0)] #[])), (10, (Value.func (.func 81) #[(pt b2 0)] #[])), (11, (Value.func (.func 82) #[(pt b2 0)] #[])), (38, sv0), (39, (Value.int .i64 (l0.length : Int))), (40, (Value.int .i64 i2))] [A0, (box b2 113 [sv4]), (own sv4 5 1 x3.length (fl (eI .u8) x3))] a w) ?_ ?_
          · refine ent_block ?_
            refine ent_seq ?_
            refine ent_region ?_
            by_cases c3 : 0 ≤ i2
            · rw [if_pos c3] at H2
              refine ent_value (ov_indexAddr (sz := 5) 0 rfl rfl F_slice_35 F_size_43 rfl hA0 c3 c2) rfl rfl rfl ?_
              refine ent_value (ov_load_agg (vs := [(Value.int .i64 (((l0.getD i2.toNat z_Api_Fact).Key).Hour)), (str (((l0.getD i2.toNat z_Api_Fact).Key).Dims_0)), (str (((l0.getD i2.toNat z_Api_Fact).Key).Dims_1)), (str (((l0.getD i2.toNat z_Api_Fact).Key).Dims_2)), (str (((l0.getD i2.toNat z_Api_Fact).Key).Dims_3)), (Value.int .i64 ((l0.getD i2.toNat z_Api_Fact).Value))]) rfl F_agg_43 F_size_43 (reads_rd (i := 0) rfl hA0 (by simp) (fl_read0 enc_Api_Fact_len (ix_lt c3 c2) rfl))) rfl rfl rfl ?_
              refine ent_op (ot_alloc F_zero_43) rfl rfl rfl ?_
              rintro _ _ ⟨b3, rfl, rfl⟩
              refine ent_op0 (ot_storeG (cs := [(Value.int .i64 0), (str ([] : List UInt8)), (str ([] : List UInt8)), (str ([] : List UInt8)), (str ([] : List UInt8)), (Value.int .i64 0)]) (cs' := [(Value.int .i64 (((l0.getD i2.toNat z_Api_Fact).Key).Hour)), (str (((l0.getD i2.toNat z_Api_Fact).Key).Dims_0)), (str (((l0.getD i2.toNat z_Api_Fact).Key).Dims_1)), (str (((l0.getD i2.toNat z_Api_Fact).Key).Dims_2)), (str (((l0.getD i2.toNat z_Api_Fact).Key).Dims_3)), (Value.int .i64 ((l0.getD i2.toNat z_Api_Fact).Value))]) (us := [(Value.int .i64 (((l0.getD i2.toNat z_Api_Fact).Key).Hour)), (str (((l0.getD i2.toNat z_Api_Fact).Key).Dims_0)), (str (((l0.getD i2.toNat z_Api_Fact).Key).Dims_1)), (str (((l0.getD i2.toNat z_Api_Fact).Key).Dims_2)), (str (((l0.getD i2.toNat z_Api_Fact).Key).Dims_3)), (Value.int .i64 ((l0.getD i2.toNat z_Api_Fact).Value))]) (L' := [(box b3 43 [(Value.int .i64 (((l0.getD i2.toNat z_Api_Fact).Key).Hour)), (str (((l0.getD i2.toNat z_Api_Fact).Key).Dims_0)), (str (((l0.getD i2.toNat z_Api_Fact).Key).Dims_1)), (str (((l0.getD i2.toNat z_Api_Fact).Key).Dims_2)), (str (((l0.getD i2.toNat z_Api_Fact).Key).Dims_3)), (Value.int .i64 ((l0.getD i2.toNat z_Api_Fact).Value))]), A0, (box b2 113 [sv3]), (own sv3 5 1 l2.length (fl (eI .u8) l2))]) 0 rfl rfl rfl (one_all rfl) F_size_43 rfl rfl (by simp) rfl) rfl rfl ?_
              rintro _ _ rfl
              refine ent_nil ?_
              refine ent_seq ?_
              refine ent_region ?_
              refine ent_value (ov_move rfl) rfl rfl rfl ?_
              refine ent_value (ov_fieldAddr (sz := 4) (o := 0) rfl F_field_43_0 F_size_41) rfl rfl rfl ?_
              refine ent_value (ov_fieldAddr (sz := 0) (o := 0) rfl F_field_41_0 F_size_2) rfl rfl rfl ?_
              refine ent_value (ov_load (v := (Value.int .i64 (((l0.getD i2.toNat z_Api_Fact).Key).Hour))) rfl F_agg_2 (reads_box1 (i := 0) rfl rfl)) rfl rfl rfl ?_
              refine ent_value (ov_convert rfl (c_int Try.underlying2 Try.underlying90)) rfl rfl rfl ?_
              obtain ⟨x4, h3, H2⟩ := Option.bind_eq_some_iff.1 H2
              refine ent_pick [2, 3, 0, 1] (by decide) rfl ?_
              refine ent_op (ot_call (Lr := [(box b3 43 [(Value.int .i64 (((l0.getD i2.toNat z_Api_Fact).Key).Hour)), (str (((l0.getD i2.toNat z_Api_Fact).Key).Dims_0)), (str (((l0.getD i2.toNat z_Api_Fact).Key).Dims_1)), (str (((l0.getD i2.toNat z_Api_Fact).Key).Dims_2)), (str (((l0.getD i2.toNat z_Api_Fact).Key).Dims_3)), (Value.int .i64 ((l0.getD i2.toNat z_Api_Fact).Value))]), A0]) (first := [(pt b2 0)]) (cap := []) (xs := [.tmp 48]) rfl rfl F_call_80 rfl (pack_Writer_Num_2.spec K b2 sv3 l2 (wu64 (((l0.getD i2.toNat z_Api_Fact).Key).Hour)) _ h3) rfl) rfl rfl rfl ?_
              rintro _ _ ⟨_, ⟨sv5, rfl, rfl⟩, rfl⟩
              refine ent_nil ?_
              obtain ⟨x5, H3, H2⟩ := Option.bind_eq_some_iff.1 H2
              refine ent_seq_cut (fun a w => ∃ sv6 : Value, ∃ b4 : Nat, St 70 w0 F [(1, (Value.int .i64 a1)), (8, (pt b2 0)), (9, (Value.func (.func 80) #[(pt b2 0)] #[])), (10, (Value.func (.func 81) #[(pt b2 0)] #[])), (11, (Value.func (.func 82) #[(pt b2 0)] #[])), (13, (pt b4 0)), (38, sv0), (39, (Value.int .i64 (l0.length : Int))), (40, (Value.int .i64 i2))] [A0, (box b2 113 [sv6]), (own sv6 5 1 x5.length (fl (eI .u8) x5)), (box b4 43 [(Value.int .i64 (((l0.getD i2.toNat z_Api_Fact).Key).Hour)), (str (((l0.getD i2.toNat z_Api_Fact).Key).Dims_0)), (str (((l0.getD i2.toNat z_Api_Fact).Key).Dims_1)), (str (((l0.getD i2.toNat z_Api_Fact).Key).Dims_2)), (str (((l0.getD i2.toNat z_Api_Fact).Key).Dims_3)), (Value.int .i64 ((l0.getD i2.toNat z_Api_Fact).Value))])] a w) ?_ ?_
              · refine ent_seq ?_
                refine ent_region ?_
                refine ent_value (ov_fieldAddr (sz := 4) (o := 0) rfl F_field_43_0 F_size_41) rfl rfl rfl ?_
                refine ent_value (ov_fieldAddr (sz := 3) (o := 0) rfl F_field_41_1 F_size_39) rfl rfl rfl ?_
                refine ent_value (ov_move rfl) rfl rfl rfl ?_
                by_cases c4 : 0 ≤ a1
                · rw [if_pos c4] at H3
                  by_cases c5 : a1 ≤ (4 : Nat)
                  · rw [if_pos c5] at H3
                    refine ent_value (ov_asl_hi rfl rfl F_array_39 F_size_9 c4 c5) rfl rfl rfl ?_
                    refine ent_value (ov_len 2 rfl F_slice_110 rfl (isRd_take eS_len (show IsRd (box b3 43 [(Value.int .i64 (((l0.getD i2.toNat z_Api_Fact).Key).Hour)), (str (((l0.getD i2.toNat z_Api_Fact).Key).Dims_0)), (str (((l0.getD i2.toNat z_Api_Fact).Key).Dims_1)), (str (((l0.getD i2.toNat z_Api_Fact).Key).Dims_2)), (str (((l0.getD i2.toNat z_Api_Fact).Key).Dims_3)), (Value.int .i64 ((l0.getD i2.toNat z_Api_Fact).Value))]) (asl b3 1 4) ([((l0.getD i2.toNat z_Api_Fact).Key).Dims_0, ((l0.getD i2.toNat z_Api_Fact).Key).Dims_1, ((l0.getD i2.toNat z_Api_Fact).Key).Dims_2, ((l0.getD i2.toNat z_Api_Fact).Key).Dims_3] : List (List UInt8)).length 1 (fl eS [((l0.getD i2.toNat z_Api_Fact).Key).Dims_0, ((l0.getD i2.toNat z_Api_Fact).Key).Dims_1, ((l0.getD i2.toNat z_Api_Fact).Key).Dims_2, ((l0.getD i2.toNat z_Api_Fact).Key).Dims_3]) from (isRd_box (o := 1) (n := 4) (sz := 1) (ds := fl eS [((l0.getD i2.toNat z_Api_Fact).Key).Dims_0, ((l0.getD i2.toNat z_Api_Fact).Key).Dims_1, ((l0.getD i2.toNat z_Api_Fact).Key).Dims_2, ((l0.getD i2.toNat z_Api_Fact).Key).Dims_3]) rfl (by decide) rfl)) (show a1.toNat ≤ ([((l0.getD i2.toNat z_Api_Fact).Key).Dims_0, ((l0.getD i2.toNat z_Api_Fact).Key).Dims_1, ((l0.getD i2.toNat z_Api_Fact).Key).Dims_2, ((l0.getD i2.toNat z_Api_Fact).Key).Dims_3] : List (List UInt8)).length from nat_le c4 c5))) rfl rfl rfl ?_
                    refine ent_value (ov_move rfl) rfl rfl rfl ?_
                    refine ent_nil ?_
                    refine ent_block ?_
                    refine ent_loop (fun k a w => ∃ i3, ∃ l5, ∃ sv7 : Value, fact_Encode_l1 K l0 a1 i2 k i3 l5 = some x5 ∧ St 70 w0 F [(1, (Value.int .i64 a1)), (8, (pt b2 0)), (9, (Value.func (.func 80) #[(pt b2 0)] #[])), (10, (Value.func (.func 81) #[(pt b2 0)] #[])), (11, (Value.func (.func 82) #[(pt b2 0)] #[])), (13, (pt b3 0)), (38, sv0), (39, (Value.int .i64 (l0.length : Int))), (40, (Value.int .i64 i2)), (53, (subs (asl b3 1 4) 0 a1.toNat 1)), (54, (Value.int .i64 (([((l0.getD i2.toNat z_Api_Fact).Key).Dims_0, ((l0.getD i2.toNat z_Api_Fact).Key).Dims_1, ((l0.getD i2.toNat z_Api_Fact).Key).Dims_2, ((l0.getD i2.toNat z_Api_Fact).Key).Dims_3].take a1.toNat).length : Int))), (55, (Value.int .i64 i3))] [A0, (box b2 113 [sv7]), (own sv7 5 1 l5.length (fl (eI .u8) l5)), (box b3 43 [(Value.int .i64 (((l0.getD i2.toNat z_Api_Fact).Key).Hour)), (str (((l0.getD i2.toNat z_Api_Fact).Key).Dims_0)), (str (((l0.getD i2.toNat z_Api_Fact).Key).Dims_1)), (str (((l0.getD i2.toNat z_Api_Fact).Key).Dims_2)), (str (((l0.getD i2.toNat z_Api_Fact).Key).Dims_3)), (Value.int .i64 ((l0.getD i2.toNat z_Api_Fact).Value))])] a w) K ?_ ?_
                    · exact ent_fin [3, 0, 1, 2] (by decide) rfl (sub_cons (t := 1) rfl (sub_cons (t := 8) rfl (sub_cons (t := 9) rfl (sub_cons (t := 10) rfl (sub_cons (t := 11) rfl (sub_cons (t := 13) rfl (sub_cons (t := 38) rfl (sub_cons (t := 39) rfl (sub_cons (t := 40) rfl (sub_cons (t := 53) rfl (sub_cons (t := 54) rfl (sub_cons (t := 55) rfl (sub_nil _))))))))))))) fun a w h => ⟨_, _, _, H3, h⟩
                    · refine fun k => ent_exi fun i3 => ent_exi fun l5 => ent_exi fun sv7 => ent_and fun H4 => ?_
                      cases k with
                      | zero => exact absurd H4 (by simp [fact_Encode_l1])
                      | succ k =>
                        rw [fact_Encode_l1] at H4
                        refine ent_seq ?_
                        refine ent_region ?_
                        refine ent_value (ov_bin rfl rfl (b_lss _ _ _)) rfl rfl rfl ?_
                        refine ent_nil ?_
                        refine ent_seq ?_
                        by_cases c6 : i3 < (([((l0.getD i2.toNat z_Api_Fact).Key).Dims_0, ((l0.getD i2.toNat z_Api_Fact).Key).Dims_1, ((l0.getD i2.toNat z_Api_Fact).Key).Dims_2, ((l0.getD i2.toNat z_Api_Fact).Key).Dims_3].take a1.toNat).length : Int)
                        · rw [if_pos c6] at H4
                          refine ent_cond_true rfl (decide_eq_true c6) ?_
                          refine ent_skip ?_
                          refine ent_seq ?_
                          refine ent_block ?_
                          refine ent_seq ?_
                          refine ent_region ?_
                          by_cases c7 : 0 ≤ i3
                          · rw [if_pos c7] at H4
                            refine ent_value (ov_indexAddr (sz := 0) 3 rfl rfl F_slice_110 F_size_9 rfl (isRd_take eS_len (show IsRd (box b3 43 [(Value.int .i64 (((l0.getD i2.toNat z_Api_Fact).Key).Hour)), (str (((l0.getD i2.toNat z_Api_Fact).Key).Dims_0)), (str (((l0.getD i2.toNat z_Api_Fact).Key).Dims_1)), (str (((l0.getD i2.toNat z_Api_Fact).Key).Dims_2)), (str (((l0.getD i2.toNat z_Api_Fact).Key).Dims_3)), (Value.int .i64 ((l0.getD i2.toNat z_Api_Fact).Value))]) (asl b3 1 4) ([((l0.getD i2.toNat z_Api_Fact).Key).Dims_0, ((l0.getD i2.toNat z_Api_Fact).Key).Dims_1, ((l0.getD i2.toNat z_Api_Fact).Key).Dims_2, ((l0.getD i2.toNat z_Api_Fact).Key).Dims_3] : List (List UInt8)).length 1 (fl eS [((l0.getD i2.toNat z_Api_Fact).Key).Dims_0, ((l0.getD i2.toNat z_Api_Fact).Key).Dims_1, ((l0.getD i2.toNat z_Api_Fact).Key).Dims_2, ((l0.getD i2.toNat z_Api_Fact).Key).Dims_3]) from (isRd_box (o := 1) (n := 4) (sz := 1) (ds := fl eS [((l0.getD i2.toNat z_Api_Fact).Key).Dims_0, ((l0.getD i2.toNat z_Api_Fact).Key).Dims_1, ((l0.getD i2.toNat z_Api_Fact).Key).Dims_2, ((l0.getD i2.toNat z_Api_Fact).Key).Dims_3]) rfl (by decide) rfl)) (show a1.toNat ≤ ([((l0.getD i2.toNat z_Api_Fact).Key).Dims_0, ((l0.getD i2.toNat z_Api_Fact).Key).Dims_1, ((l0.getD i2.toNat z_Api_Fact).Key).Dims_2, ((l0.getD i2.toNat z_Api_Fact).Key).Dims_3] : List (List UInt8)).length from nat_le c4 c5)) c7 c6) rfl rfl rfl ?_
                            refine ent_value (ov_load (v := (str (([((l0.getD i2.toNat z_Api_Fact).Key).Dims_0, ((l0.getD i2.toNat z_Api_Fact).Key).Dims_1, ((l0.getD i2.toNat z_Api_Fact).Key).Dims_2, ((l0.getD i2.toNat z_Api_Fact).Key).Dims_3].take a1.toNat).getD i3.toNat []))) rfl F_agg_9 (reads_rd (i := 3) rfl (isRd_take eS_len (show IsRd (box b3 43 [(Value.int .i64 (((l0.getD i2.toNat z_Api_Fact).Key).Hour)), (str (((l0.getD i2.toNat z_Api_Fact).Key).Dims_0)), (str (((l0.getD i2.toNat z_Api_Fact).Key).Dims_1)), (str (((l0.getD i2.toNat z_Api_Fact).Key).Dims_2)), (str (((l0.getD i2.toNat z_Api_Fact).Key).Dims_3)), (Value.int .i64 ((l0.getD i2.toNat z_Api_Fact).Value))]) (asl b3 1 4) ([((l0.getD i2.toNat z_Api_Fact).Key).Dims_0, ((l0.getD i2.toNat z_Api_Fact).Key).Dims_1, ((l0.getD i2.toNat z_Api_Fact).Key).Dims_2, ((l0.getD i2.toNat z_Api_Fact).Key).Dims_3] : List (List UInt8)).length 1 (fl eS [((l0.getD i2.toNat z_Api_Fact).Key).Dims_0, ((l0.getD i2.toNat z_Api_Fact).Key).Dims_1, ((l0.getD i2.toNat z_Api_Fact).Key).Dims_2, ((l0.getD i2.toNat z_Api_Fact).Key).Dims_3]) from (isRd_box (o := 1) (n := 4) (sz := 1) (ds := fl eS [((l0.getD i2.toNat z_Api_Fact).Key).Dims_0, ((l0.getD i2.toNat z_Api_Fact).Key).Dims_1, ((l0.getD i2.toNat z_Api_Fact).Key).Dims_2, ((l0.getD i2.toNat z_Api_Fact).Key).Dims_3]) rfl (by decide) rfl)) (show a1.toNat ≤ ([((l0.getD i2.toNat z_Api_Fact).Key).Dims_0, ((l0.getD i2.toNat z_Api_Fact).Key).Dims_1, ((l0.getD i2.toNat z_Api_Fact).Key).Dims_2, ((l0.getD i2.toNat z_Api_Fact).Key).Dims_3] : List (List UInt8)).length from nat_le c4 c5)) (by simp) (fl_read0 eS_len (ix_lt c7 c6) rfl))) rfl rfl rfl ?_
                            refine ent_value (ov_assign rfl) rfl rfl rfl ?_
                            refine ent_nil ?_
                            refine ent_region ?_
                            refine ent_value (ov_move rfl) rfl rfl rfl ?_
                            refine ent_value (ov_move rfl) rfl rfl rfl ?_
                            obtain ⟨x6, h4, H4⟩ := Option.bind_eq_some_iff.1 H4
                            refine ent_pick [1, 2, 0, 3] (by decide) rfl ?_
                            refine ent_op (ot_call (Lr := [A0, (box b3 43 [(Value.int .i64 (((l0.getD i2.toNat z_Api_Fact).Key).Hour)), (str (((l0.getD i2.toNat z_Api_Fact).Key).Dims_0)), (str (((l0.getD i2.toNat z_Api_Fact).Key).Dims_1)), (str (((l0.getD i2.toNat z_Api_Fact).Key).Dims_2)), (str (((l0.getD i2.toNat z_Api_Fact).Key).Dims_3)), (Value.int .i64 ((l0.getD i2.toNat z_Api_Fact).Value))])]) (first := [(pt b2 0)]) (cap := []) (xs := [.tmp 60]) rfl rfl F_call_81 rfl (pack_Writer_Text.spec K b2 sv7 l5 (([((l0.getD i2.toNat z_Api_Fact).Key).Dims_0, ((l0.getD i2.toNat z_Api_Fact).Key).Dims_1, ((l0.getD i2.toNat z_Api_Fact).Key).Dims_2, ((l0.getD i2.toNat z_Api_Fact).Key).Dims_3].take a1.toNat).getD i3.toNat []) _ h4) rfl) rfl rfl rfl ?_
                            rintro _ _ ⟨_, ⟨sv8, rfl, rfl⟩, rfl⟩
                            refine ent_nil ?_
                            refine ent_region ?_
                            refine ent_value (ov_bin rfl rfl (b_add _ _ _) ) rfl rfl rfl ?_
                            refine ent_value (ov_move rfl) rfl rfl rfl ?_
                            refine ent_nil ?_
                            exact ent_fin [2, 0, 1, 3] (by decide) rfl (sub_cons (t := 1) rfl (sub_cons (t := 8) rfl (sub_cons (t := 9) rfl (sub_cons (t := 10) rfl (sub_cons (t := 11) rfl (sub_cons (t := 13) rfl (sub_cons (t := 38) rfl (sub_cons (t := 39) rfl (sub_cons (t := 40) rfl (sub_cons (t := 53) rfl (sub_cons (t := 54) rfl (sub_cons (t := 55) rfl (sub_nil _))))))))))))) fun a w h => ⟨k, Nat.lt_succ_self k, _, _, _, H4, h⟩
                          · rw [if_neg c7] at H4
                            cases H4
                        · rw [if_neg c6] at H4
                          refine ent_cond_false rfl (decide_eq_false c6) ?_
                          refine ent_exit ?_
                          cases H4
                          exact ent_fin [0, 1, 2, 3] (by decide) rfl (sub_cons (t := 1) rfl (sub_cons (t := 8) rfl (sub_cons (t := 9) rfl (sub_cons (t := 10) rfl (sub_cons (t := 11) rfl (sub_cons (t := 13) rfl (sub_cons (t := 38) rfl (sub_cons (t := 39) rfl (sub_cons (t := 40) rfl (sub_nil _)))))))))) fun a w h => ⟨_, _, h⟩
                  · rw [if_neg c5] at H3
                    cases H3
                · rw [if_neg c4] at H3
                  cases H3
              · refine ent_exi fun sv6 => ent_exi fun b4 => ?_
                refine ent_region ?_
                refine ent_value (ov_move rfl) rfl rfl rfl ?_
                refine ent_value (ov_fieldAddr (sz := 0) (o := 0) rfl F_field_43_1 F_size_2) rfl rfl rfl ?_
                refine ent_value (ov_load (v := (Value.int .i64 ((l0.getD i2.toNat z_Api_Fact).Value))) rfl F_agg_2 (reads_box1 (i := 3) rfl rfl)) rfl rfl rfl ?_
                obtain ⟨x7, h5, H2⟩ := Option.bind_eq_some_iff.1 H2
                refine ent_pick [1, 2, 0, 3] (by decide) rfl ?_
                refine ent_op (ot_call (Lr := [A0, (box b4 43 [(Value.int .i64 (((l0.getD i2.toNat z_Api_Fact).Key).Hour)), (str (((l0.getD i2.toNat z_Api_Fact).Key).Dims_0)), (str (((l0.getD i2.toNat z_Api_Fact).Key).Dims_1)), (str (((l0.getD i2.toNat z_Api_Fact).Key).Dims_2)), (str (((l0.getD i2.toNat z_Api_Fact).Key).Dims_3)), (Value.int .i64 ((l0.getD i2.toNat z_Api_Fact).Value))])]) (first := [(pt b2 0)]) (cap := []) (xs := [.tmp 65]) rfl rfl F_call_82 rfl (pack_Writer_Int.spec K b2 sv6 x5 ((l0.getD i2.toNat z_Api_Fact).Value) _ h5) rfl) rfl rfl rfl ?_
                rintro _ _ ⟨_, ⟨sv9, rfl, rfl⟩, rfl⟩
                refine ent_nil ?_
                cases H2
                exact ent_fin [2, 0, 1] (by decide) rfl (sub_cons (t := 1) rfl (sub_cons (t := 8) rfl (sub_cons (t := 9) rfl (sub_cons (t := 10) rfl (sub_cons (t := 11) rfl (sub_cons (t := 38) rfl (sub_cons (t := 39) rfl (sub_cons (t := 40) rfl (sub_nil _))))))))) fun a w h => ⟨_, h⟩
            · rw [if_neg c3] at H2
              cases H2
          · refine ent_exi fun sv4 => ?_
            refine ent_region ?_
            refine ent_value (ov_bin rfl rfl (b_add _ _ _) ) rfl rfl rfl ?_
            refine ent_value (ov_move rfl) rfl rfl rfl ?_
            refine ent_nil ?_
            exact ent_fin [0, 1, 2] (by decide) rfl (sub_cons (t := 1) rfl (sub_cons (t := 8) rfl (sub_cons (t := 9) rfl (sub_cons (t := 10) rfl (sub_cons (t := 11) rfl (sub_cons (t := 38) rfl (sub_cons (t := 39) rfl (sub_cons (t := 40) rfl (sub_nil _))))))))) fun a w h => ⟨k, Nat.lt_succ_self k, _, _, _, _, H1, h⟩
        · rw [if_neg c2] at H1
          refine ent_cond_false rfl (decide_eq_false c2) ?_
          refine ent_exit ?_
          refine ent_seq ?_
          refine ent_region ?_
          refine ent_value (ov_move rfl) rfl rfl rfl ?_
          obtain ⟨x8, h6, H1⟩ := Option.bind_eq_some_iff.1 H1
          refine ent_pick [1, 2, 0] (by decide) rfl ?_
          refine ent_op (ot_call (Lr := [A0]) (first := []) (cap := []) (xs := [.tmp 68]) rfl rfl F_call_83 rfl (pack_Writer_Bytes.spec b2 sv3 l2 _ h6) rfl) rfl rfl rfl ?_
          rintro sv10 _ ⟨_, ⟨_, rfl, rfl⟩, rfl⟩
          refine ent_value (ov_assign rfl) rfl rfl rfl ?_
          refine ent_value (ov_assign rfl) rfl rfl rfl ?_
          refine ent_nil ?_
          refine ent_retc ?_
          cases H1
          refine ent_pick [3, 2] (by decide) rfl ?_
          exact ret_mem (vs := [sv10, (Value.int .i64 0)]) rfl ⟨rfl, ⟨rfl, trivial⟩⟩ _ rfl ⟨_, rfl, rfl⟩

set_option maxRecDepth 100000 in
theorem ossuarylaw09_alive.spec (K : Nat) (r : Bool) (H : ossuarylaw09_alive K = some r) : FnSpec Try.prog 26 [] [] (fun v M => v = (Value.bool r) ∧ M = []) := by
  unfold ossuarylaw09_alive at H
  refine spec_of Try.func26 rfl 48 rfl (Nat.le_of_ble_eq_true rfl) fun F w0 => ?_
  show Ent (St 48 w0 F [] []) _
  refine ent_seq ?_
  refine ent_region ?_
  refine ent_value (ov_assign rfl) rfl rfl rfl ?_
  refine ent_nil ?_
  refine ent_seq ?_
  refine ent_region ?_
  refine ent_value (ov_build (is := [0]) (xs := [.const (str ([97] : List UInt8))]) (vs := [(str ([97] : List UInt8))]) rfl rfl (build_array (cs := [(str ([97] : List UInt8)), (str ([] : List UInt8)), (str ([] : List UInt8)), (str ([] : List UInt8))]) F_zero_39 F_array_39 F_size_9 rfl)) rfl rfl rfl ?_
  refine ent_value (ov_build (is := [0, 1]) (xs := [.const (Value.int .i64 5), .tmp 4]) (vs := [(Value.int .i64 5), (Value.agg #[(str ([97] : List UInt8)), (str ([] : List UInt8)), (str ([] : List UInt8)), (str ([] : List UInt8))])]) rfl rfl (build_struct (cs := [(Value.int .i64 5), (str ([97] : List UInt8)), (str ([] : List UInt8)), (str ([] : List UInt8)), (str ([] : List UInt8))]) F_zero_41 F_places_41 rfl)) rfl rfl rfl ?_
  refine ent_value (ov_build (is := [0, 1]) (xs := [.tmp 5, .const (Value.int .i64 (-1))]) (vs := [(Value.agg #[(Value.int .i64 5), (str ([97] : List UInt8)), (str ([] : List UInt8)), (str ([] : List UInt8)), (str ([] : List UInt8))]), (Value.int .i64 (-1))]) rfl rfl (build_struct (cs := [(Value.int .i64 5), (str ([97] : List UInt8)), (str ([] : List UInt8)), (str ([] : List UInt8)), (str ([] : List UInt8)), (Value.int .i64 (-1))]) F_zero_43 F_places_43 rfl)) rfl rfl rfl ?_
  refine ent_op (ot_buildSlice (sz := 5) (xs := [.tmp 6]) (cs := fl enc_Api_Fact [(⟨(⟨5, ([97] : List UInt8), ([] : List UInt8), ([] : List UInt8), ([] : List UInt8)⟩ : Api_Key), (-1)⟩ : Api_Fact)]) rfl rfl F_slice_35 F_size_43 F_zero_43 rfl rfl (all_size rfl) rfl (by decide)) rfl rfl rfl ?_
  rintro sv1 _ rfl
  obtain ⟨x1, h1, H⟩ := Option.bind_eq_some_iff.1 H
  refine ent_op (ot_call (Lr := []) (first := []) (cap := []) (xs := [.tmp 7, .const (Value.int .i64 1)]) rfl rfl F_call_54 rfl (fact_Encode.spec K sv1 (own sv1 43 6 [(⟨(⟨5, ([97] : List UInt8), ([] : List UInt8), ([] : List UInt8), ([] : List UInt8)⟩ : Api_Key), (-1)⟩ : Api_Fact)].length (fl enc_Api_Fact [(⟨(⟨5, ([97] : List UInt8), ([] : List UInt8), ([] : List UInt8), ([] : List UInt8)⟩ : Api_Key), (-1)⟩ : Api_Fact)])) [(⟨(⟨5, ([97] : List UInt8), ([] : List UInt8), ([] : List UInt8), ([] : List UInt8)⟩ : Api_Key), (-1)⟩ : Api_Fact)] 1 (isRd_ownx 43) _ h1) rfl) rfl rfl rfl ?_
  rintro _ _ ⟨_, ⟨sv2, rfl, rfl⟩, rfl⟩
  refine ent_value (ov_move rfl) rfl rfl rfl ?_
  refine ent_value (ov_extract rfl rfl) rfl rfl rfl ?_
  refine ent_value (ov_extract rfl rfl) rfl rfl rfl ?_
  refine ent_value (ov_assign rfl) rfl rfl rfl ?_
  refine ent_value (ov_assign rfl) rfl rfl rfl ?_
  refine ent_nil ?_
  refine ent_seq ?_
  refine ent_region ?_
  refine ent_value (ov_move rfl) rfl rfl rfl ?_
  refine ent_value (ov_bin rfl rfl (b_eql _ _ _)) rfl rfl rfl ?_
  refine ent_value (ov_move rfl) rfl rfl rfl ?_
  by_cases c1 : x1.1 = 0
  · rw [if_pos c1] at H
    refine ent_value_on (ov_move rfl) rfl rfl rfl (eq_t c1) rfl rfl ?_
    refine ent_value_on (ov_len 1 rfl F_slice_79 rfl (isRd_ownx 5)) rfl rfl rfl (eq_t c1) rfl rfl ?_
    refine ent_value_on (ov_bin rfl rfl (b_eql _ _ _)) rfl rfl rfl (eq_t c1) rfl rfl ?_
    refine ent_value (ov_pick rfl rfl rfl (pick_t (eq_t c1))) rfl rfl rfl ?_
    refine ent_value (ov_move rfl) rfl rfl rfl ?_
    by_cases c2 : (x1.2.length : Int) = 5
    · rw [if_pos c2] at H
      refine ent_value_on (ov_move rfl) rfl rfl rfl (eq_t c2) rfl rfl ?_
      by_cases c3 : 0 < (x1.2.length : Int)
      · rw [if_pos c3] at H
        refine ent_value_on (ov_indexAddr (sz := 0) 1 rfl rfl F_slice_79 F_size_5 rfl (isRd_ownx 5) (by decide) c3) rfl rfl rfl (eq_t c2) rfl rfl ?_
        refine ent_value_on (ov_load (v := (Value.int .u8 (x1.2.getD ((0 : Int).toNat) 0))) rfl F_agg_5 (reads_rd (i := 1) rfl (isRd_ownx 5) (by simp) (fl_read0 (eI_len _) (ix_lt (by decide) c3) rfl))) rfl rfl rfl (eq_t c2) rfl rfl ?_
        refine ent_value_on (ov_bin rfl rfl (b_eql _ _ _)) rfl rfl rfl (eq_t c2) rfl rfl ?_
        refine ent_value (ov_pick rfl rfl rfl (pick_t (eq_t c2))) rfl rfl rfl ?_
        refine ent_value (ov_move rfl) rfl rfl rfl ?_
        by_cases c4 : (x1.2.getD ((0 : Int).toNat) 0) = 1
        · rw [if_pos c4] at H
          refine ent_value_on (ov_move rfl) rfl rfl rfl (eq_t c4) rfl rfl ?_
          by_cases c5 : 1 < (x1.2.length : Int)
          · rw [if_pos c5] at H
            refine ent_value_on (ov_indexAddr (sz := 0) 1 rfl rfl F_slice_79 F_size_5 rfl (isRd_ownx 5) (by decide) c5) rfl rfl rfl (eq_t c4) rfl rfl ?_
            refine ent_value_on (ov_load (v := (Value.int .u8 (x1.2.getD ((1 : Int).toNat) 0))) rfl F_agg_5 (reads_rd (i := 1) rfl (isRd_ownx 5) (by simp) (fl_read0 (eI_len _) (ix_lt (by decide) c5) rfl))) rfl rfl rfl (eq_t c4) rfl rfl ?_
            refine ent_value_on (ov_bin rfl rfl (b_eql _ _ _)) rfl rfl rfl (eq_t c4) rfl rfl ?_
            refine ent_value (ov_pick rfl rfl rfl (pick_t (eq_t c4))) rfl rfl rfl ?_
            refine ent_value (ov_move rfl) rfl rfl rfl ?_
            by_cases c6 : (x1.2.getD ((1 : Int).toNat) 0) = 5
            · rw [if_pos c6] at H
              refine ent_value_on (ov_move rfl) rfl rfl rfl (eq_t c6) rfl rfl ?_
              by_cases c7 : 2 < (x1.2.length : Int)
              · rw [if_pos c7] at H
                refine ent_value_on (ov_indexAddr (sz := 0) 1 rfl rfl F_slice_79 F_size_5 rfl (isRd_ownx 5) (by decide) c7) rfl rfl rfl (eq_t c6) rfl rfl ?_
                refine ent_value_on (ov_load (v := (Value.int .u8 (x1.2.getD ((2 : Int).toNat) 0))) rfl F_agg_5 (reads_rd (i := 1) rfl (isRd_ownx 5) (by simp) (fl_read0 (eI_len _) (ix_lt (by decide) c7) rfl))) rfl rfl rfl (eq_t c6) rfl rfl ?_
                refine ent_value_on (ov_bin rfl rfl (b_eql _ _ _)) rfl rfl rfl (eq_t c6) rfl rfl ?_
                refine ent_value (ov_pick rfl rfl rfl (pick_t (eq_t c6))) rfl rfl rfl ?_
                refine ent_value (ov_move rfl) rfl rfl rfl ?_
                by_cases c8 : (x1.2.getD ((2 : Int).toNat) 0) = 1
                · rw [if_pos c8] at H
                  refine ent_value_on (ov_move rfl) rfl rfl rfl (eq_t c8) rfl rfl ?_
                  by_cases c9 : 3 < (x1.2.length : Int)
                  · rw [if_pos c9] at H
                    refine ent_value_on (ov_indexAddr (sz := 0) 1 rfl rfl F_slice_79 F_size_5 rfl (isRd_ownx 5) (by decide) c9) rfl rfl rfl (eq_t c8) rfl rfl ?_
                    refine ent_value_on (ov_load (v := (Value.int .u8 (x1.2.getD ((3 : Int).toNat) 0))) rfl F_agg_5 (reads_rd (i := 1) rfl (isRd_ownx 5) (by simp) (fl_read0 (eI_len _) (ix_lt (by decide) c9) rfl))) rfl rfl rfl (eq_t c8) rfl rfl ?_
                    refine ent_value_on (ov_bin rfl rfl (b_eql _ _ _)) rfl rfl rfl (eq_t c8) rfl rfl ?_
                    refine ent_value (ov_pick rfl rfl rfl (pick_t (eq_t c8))) rfl rfl rfl ?_
                    refine ent_value (ov_move rfl) rfl rfl rfl ?_
                    by_cases c10 : (x1.2.getD ((3 : Int).toNat) 0) = 97
                    · rw [if_pos c10] at H
                      refine ent_value_on (ov_move rfl) rfl rfl rfl (eq_t c10) rfl rfl ?_
                      by_cases c11 : 4 < (x1.2.length : Int)
                      · rw [if_pos c11] at H
                        refine ent_value_on (ov_indexAddr (sz := 0) 1 rfl rfl F_slice_79 F_size_5 rfl (isRd_ownx 5) (by decide) c11) rfl rfl rfl (eq_t c10) rfl rfl ?_
                        refine ent_value_on (ov_load (v := (Value.int .u8 (x1.2.getD ((4 : Int).toNat) 0))) rfl F_agg_5 (reads_rd (i := 1) rfl (isRd_ownx 5) (by simp) (fl_read0 (eI_len _) (ix_lt (by decide) c11) rfl))) rfl rfl rfl (eq_t c10) rfl rfl ?_
                        refine ent_value_on (ov_bin rfl rfl (b_eql _ _ _)) rfl rfl rfl (eq_t c10) rfl rfl ?_
                        refine ent_value (ov_pick rfl rfl rfl (pick_t (eq_t c10))) rfl rfl rfl ?_
                        refine ent_value (ov_assign rfl) rfl rfl rfl ?_
                        refine ent_nil ?_
                        refine ent_retc ?_
                        cases H
                        refine ent_pick [] (by decide) rfl ?_
                        exact ret_tmp rfl rfl ⟨rfl, rfl⟩
                      · rw [if_neg c11] at H
                        cases H
                    · rw [if_neg c10] at H
                      refine ent_off rfl rfl rfl (eq_f c10) rfl rfl ?_
                      refine ent_off rfl rfl rfl (eq_f c10) rfl rfl ?_
                      refine ent_off rfl rfl rfl (eq_f c10) rfl rfl ?_
                      refine ent_off rfl rfl rfl (eq_f c10) rfl rfl ?_
                      refine ent_value (ov_pick rfl rfl rfl (pick_f (eq_f c10))) rfl rfl rfl ?_
                      refine ent_value (ov_assign rfl) rfl rfl rfl ?_
                      refine ent_nil ?_
                      refine ent_retc ?_
                      cases H
                      refine ent_pick [] (by decide) rfl ?_
                      exact ret_tmp rfl rfl ⟨rfl, rfl⟩
                  · rw [if_neg c9] at H
                    cases H
                · rw [if_neg c8] at H
                  refine ent_off rfl rfl rfl (eq_f c8) rfl rfl ?_
                  refine ent_off rfl rfl rfl (eq_f c8) rfl rfl ?_
                  refine ent_off rfl rfl rfl (eq_f c8) rfl rfl ?_
                  refine ent_off rfl rfl rfl (eq_f c8) rfl rfl ?_
                  refine ent_value (ov_pick rfl rfl rfl (pick_f (eq_f c8))) rfl rfl rfl ?_
                  refine ent_value (ov_move rfl) rfl rfl rfl ?_
                  refine ent_off rfl rfl rfl rfl rfl rfl ?_
                  refine ent_off rfl rfl rfl rfl rfl rfl ?_
                  refine ent_off rfl rfl rfl rfl rfl rfl ?_
                  refine ent_off rfl rfl rfl rfl rfl rfl ?_
                  refine ent_value (ov_pick rfl rfl rfl rfl) rfl rfl rfl ?_
                  refine ent_value (ov_assign rfl) rfl rfl rfl ?_
                  refine ent_nil ?_
                  refine ent_retc ?_
                  cases H
                  refine ent_pick [] (by decide) rfl ?_
                  exact ret_tmp rfl rfl ⟨rfl, rfl⟩
              · rw [if_neg c7] at H
                cases H
            · rw [if_neg c6] at H
              refine ent_off rfl rfl rfl (eq_f c6) rfl rfl ?_
              refine ent_off rfl rfl rfl (eq_f c6) rfl rfl ?_
              refine ent_off rfl rfl rfl (eq_f c6) rfl rfl ?_
              refine ent_off rfl rfl rfl (eq_f c6) rfl rfl ?_
              refine ent_value (ov_pick rfl rfl rfl (pick_f (eq_f c6))) rfl rfl rfl ?_
              refine ent_value (ov_move rfl) rfl rfl rfl ?_
              refine ent_off rfl rfl rfl rfl rfl rfl ?_
              refine ent_off rfl rfl rfl rfl rfl rfl ?_
              refine ent_off rfl rfl rfl rfl rfl rfl ?_
              refine ent_off rfl rfl rfl rfl rfl rfl ?_
              refine ent_value (ov_pick rfl rfl rfl rfl) rfl rfl rfl ?_
              refine ent_value (ov_move rfl) rfl rfl rfl ?_
              refine ent_off rfl rfl rfl rfl rfl rfl ?_
              refine ent_off rfl rfl rfl rfl rfl rfl ?_
              refine ent_off rfl rfl rfl rfl rfl rfl ?_
              refine ent_off rfl rfl rfl rfl rfl rfl ?_
              refine ent_value (ov_pick rfl rfl rfl rfl) rfl rfl rfl ?_
              refine ent_value (ov_assign rfl) rfl rfl rfl ?_
              refine ent_nil ?_
              refine ent_retc ?_
              cases H
              refine ent_pick [] (by decide) rfl ?_
              exact ret_tmp rfl rfl ⟨rfl, rfl⟩
          · rw [if_neg c5] at H
            cases H
        · rw [if_neg c4] at H
          refine ent_off rfl rfl rfl (eq_f c4) rfl rfl ?_
          refine ent_off rfl rfl rfl (eq_f c4) rfl rfl ?_
          refine ent_off rfl rfl rfl (eq_f c4) rfl rfl ?_
          refine ent_off rfl rfl rfl (eq_f c4) rfl rfl ?_
          refine ent_value (ov_pick rfl rfl rfl (pick_f (eq_f c4))) rfl rfl rfl ?_
          refine ent_value (ov_move rfl) rfl rfl rfl ?_
          refine ent_off rfl rfl rfl rfl rfl rfl ?_
          refine ent_off rfl rfl rfl rfl rfl rfl ?_
          refine ent_off rfl rfl rfl rfl rfl rfl ?_
          refine ent_off rfl rfl rfl rfl rfl rfl ?_
          refine ent_value (ov_pick rfl rfl rfl rfl) rfl rfl rfl ?_
          refine ent_value (ov_move rfl) rfl rfl rfl ?_
          refine ent_off rfl rfl rfl rfl rfl rfl ?_
          refine ent_off rfl rfl rfl rfl rfl rfl ?_
          refine ent_off rfl rfl rfl rfl rfl rfl ?_
          refine ent_off rfl rfl rfl rfl rfl rfl ?_
          refine ent_value (ov_pick rfl rfl rfl rfl) rfl rfl rfl ?_
          refine ent_value (ov_move rfl) rfl rfl rfl ?_
          refine ent_off rfl rfl rfl rfl rfl rfl ?_
          refine ent_off rfl rfl rfl rfl rfl rfl ?_
          refine ent_off rfl rfl rfl rfl rfl rfl ?_
          refine ent_off rfl rfl rfl rfl rfl rfl ?_
          refine ent_value (ov_pick rfl rfl rfl rfl) rfl rfl rfl ?_
          refine ent_value (ov_assign rfl) rfl rfl rfl ?_
          refine ent_nil ?_
          refine ent_retc ?_
          cases H
          refine ent_pick [] (by decide) rfl ?_
          exact ret_tmp rfl rfl ⟨rfl, rfl⟩
      · rw [if_neg c3] at H
        cases H
    · rw [if_neg c2] at H
      refine ent_off rfl rfl rfl (eq_f c2) rfl rfl ?_
      refine ent_off rfl rfl rfl (eq_f c2) rfl rfl ?_
      refine ent_off rfl rfl rfl (eq_f c2) rfl rfl ?_
      refine ent_off rfl rfl rfl (eq_f c2) rfl rfl ?_
      refine ent_value (ov_pick rfl rfl rfl (pick_f (eq_f c2))) rfl rfl rfl ?_
      refine ent_value (ov_move rfl) rfl rfl rfl ?_
      refine ent_off rfl rfl rfl rfl rfl rfl ?_
      refine ent_off rfl rfl rfl rfl rfl rfl ?_
      refine ent_off rfl rfl rfl rfl rfl rfl ?_
      refine ent_off rfl rfl rfl rfl rfl rfl ?_
      refine ent_value (ov_pick rfl rfl rfl rfl) rfl rfl rfl ?_
      refine ent_value (ov_move rfl) rfl rfl rfl ?_
      refine ent_off rfl rfl rfl rfl rfl rfl ?_
      refine ent_off rfl rfl rfl rfl rfl rfl ?_
      refine ent_off rfl rfl rfl rfl rfl rfl ?_
      refine ent_off rfl rfl rfl rfl rfl rfl ?_
      refine ent_value (ov_pick rfl rfl rfl rfl) rfl rfl rfl ?_
      refine ent_value (ov_move rfl) rfl rfl rfl ?_
      refine ent_off rfl rfl rfl rfl rfl rfl ?_
      refine ent_off rfl rfl rfl rfl rfl rfl ?_
      refine ent_off rfl rfl rfl rfl rfl rfl ?_
      refine ent_off rfl rfl rfl rfl rfl rfl ?_
      refine ent_value (ov_pick rfl rfl rfl rfl) rfl rfl rfl ?_
      refine ent_value (ov_move rfl) rfl rfl rfl ?_
      refine ent_off rfl rfl rfl rfl rfl rfl ?_
      refine ent_off rfl rfl rfl rfl rfl rfl ?_
      refine ent_off rfl rfl rfl rfl rfl rfl ?_
      refine ent_off rfl rfl rfl rfl rfl rfl ?_
      refine ent_value (ov_pick rfl rfl rfl rfl) rfl rfl rfl ?_
      refine ent_value (ov_assign rfl) rfl rfl rfl ?_
      refine ent_nil ?_
      refine ent_retc ?_
      cases H
      refine ent_pick [] (by decide) rfl ?_
      exact ret_tmp rfl rfl ⟨rfl, rfl⟩
  · rw [if_neg c1] at H
    refine ent_off rfl rfl rfl (eq_f c1) rfl rfl ?_
    refine ent_off rfl rfl rfl (eq_f c1) rfl rfl ?_
    refine ent_off rfl rfl rfl (eq_f c1) rfl rfl ?_
    refine ent_value (ov_pick rfl rfl rfl (pick_f (eq_f c1))) rfl rfl rfl ?_
    refine ent_value (ov_move rfl) rfl rfl rfl ?_
    refine ent_off rfl rfl rfl rfl rfl rfl ?_
    refine ent_off rfl rfl rfl rfl rfl rfl ?_
    refine ent_off rfl rfl rfl rfl rfl rfl ?_
    refine ent_off rfl rfl rfl rfl rfl rfl ?_
    refine ent_value (ov_pick rfl rfl rfl rfl) rfl rfl rfl ?_
    refine ent_value (ov_move rfl) rfl rfl rfl ?_
    refine ent_off rfl rfl rfl rfl rfl rfl ?_
    refine ent_off rfl rfl rfl rfl rfl rfl ?_
    refine ent_off rfl rfl rfl rfl rfl rfl ?_
    refine ent_off rfl rfl rfl rfl rfl rfl ?_
    refine ent_value (ov_pick rfl rfl rfl rfl) rfl rfl rfl ?_
    refine ent_value (ov_move rfl) rfl rfl rfl ?_
    refine ent_off rfl rfl rfl rfl rfl rfl ?_
    refine ent_off rfl rfl rfl rfl rfl rfl ?_
    refine ent_off rfl rfl rfl rfl rfl rfl ?_
    refine ent_off rfl rfl rfl rfl rfl rfl ?_
    refine ent_value (ov_pick rfl rfl rfl rfl) rfl rfl rfl ?_
    refine ent_value (ov_move rfl) rfl rfl rfl ?_
    refine ent_off rfl rfl rfl rfl rfl rfl ?_
    refine ent_off rfl rfl rfl rfl rfl rfl ?_
    refine ent_off rfl rfl rfl rfl rfl rfl ?_
    refine ent_off rfl rfl rfl rfl rfl rfl ?_
    refine ent_value (ov_pick rfl rfl rfl rfl) rfl rfl rfl ?_
    refine ent_value (ov_move rfl) rfl rfl rfl ?_
    refine ent_off rfl rfl rfl rfl rfl rfl ?_
    refine ent_off rfl rfl rfl rfl rfl rfl ?_
    refine ent_off rfl rfl rfl rfl rfl rfl ?_
    refine ent_off rfl rfl rfl rfl rfl rfl ?_
    refine ent_value (ov_pick rfl rfl rfl rfl) rfl rfl rfl ?_
    refine ent_value (ov_assign rfl) rfl rfl rfl ?_
    refine ent_nil ?_
    refine ent_retc ?_
    cases H
    refine ent_pick [] (by decide) rfl ?_
    exact ret_tmp rfl rfl ⟨rfl, rfl⟩

set_option maxRecDepth 100000 in
theorem pack_NewReader.spec (sv0 : Value) (A0 : HP) (l0 : List Int) (hA0 : IsRd A0 sv0 l0.length 1 (fl (eI .u8) l0)) (r : ((List Int) × Int)) (H : pack_NewReader l0 = some r) : FnSpec Try.prog 87 [sv0] [A0] (fun v M => ∃ b1 : Nat, ∃ sv1 : Value, v = (pt b1 0) ∧ M = [A0, (box b1 145 [sv1, (Value.int .i64 r.2)]), (own sv1 5 1 r.1.length (fl (eI .u8) r.1))]) := by
  unfold pack_NewReader at H
  refine spec_of Try.func87 rfl 7 rfl (Nat.le_of_ble_eq_true rfl) fun F w0 => ?_
  show Ent (St 7 w0 F [(0, sv0)] [A0]) _
  refine ent_seq ?_
  refine ent_region ?_
  refine ent_value (ov_assign rfl) rfl rfl rfl ?_
  refine ent_nil ?_
  refine ent_seq ?_
  refine ent_region ?_
  refine ent_value (ov_move rfl) rfl rfl rfl ?_
  obtain ⟨x1, h1, H⟩ := Option.bind_eq_some_iff.1 H
  refine ent_op (ot_call (Lr := []) (first := []) (cap := []) (xs := [.tmp 3]) rfl rfl F_call_105 rfl (bytes_Clone.spec sv0 A0 l0 hA0 _ h1) rfl) rfl rfl rfl ?_
  rintro sv2 _ ⟨_, ⟨_, rfl, rfl⟩, rfl⟩
  refine ent_value (ov_sl 1 rfl (isRd_ownx 5) fun hc0_ => (ov_build (is := [0]) (xs := [.tmp 4]) (vs := [sv2]) rfl rfl (build_struct (cs := [sv2, (Value.int .i64 0)]) F_zero_145 F_places_145 (by simp [Instr.fill, cells_int, cells_bool, cells_str, cells_func, cells_slice, cells_ptr, cells_nilFunc, cells_agg, hc0_])))) rfl rfl rfl ?_
  refine ent_op (ot_box (cs := [sv2, (Value.int .i64 0)]) rfl rfl) rfl rfl rfl ?_
  rintro _ _ ⟨b2, rfl, rfl⟩
  refine ent_value (ov_assign rfl) rfl rfl rfl ?_
  refine ent_nil ?_
  refine ent_retc ?_
  cases H
  refine ent_pick [1, 0, 2] (by decide) rfl ?_
  exact ret_tmp rfl rfl ⟨_, _, rfl, rfl⟩

set_option maxRecDepth 100000 in
theorem pack_Reader_take_2.spec (p0 : Nat) (sv0 : Value) (A0 : HP) (l0 : List Int) (p0_1 : Int) (a1 : Int) (hA0 : IsRd A0 sv0 l0.length 1 (fl (eI .u8) l0)) (r : (Int × Bool × (List Int) × (List Int))) (H : pack_Reader_take_2 l0 p0_1 a1 = some r) : FnSpec Try.prog 116 [(pt p0 0), (Value.int .u64 a1)] [(box p0 145 [sv0, (Value.int .i64 p0_1)]), A0] (fun v M => ∃ sv1 : Value, ∃ sv2 : Value, IsRd A0 sv2 r.2.2.2.length 1 (fl (eI .u8) r.2.2.2) ∧ IsRd A0 sv1 r.2.2.1.length 1 (fl (eI .u8) r.2.2.1) ∧ v = (Value.tuple #[sv2, (Value.bool r.2.1)]) ∧ M = [(box p0 145 [sv1, (Value.int .i64 r.1)]), A0]) := by
  unfold pack_Reader_take_2 at H
  refine spec_of Try.func116 rfl 45 rfl (Nat.le_of_ble_eq_true rfl) fun F w0 => ?_
  show Ent (St 45 w0 F [(0, (pt p0 0)), (1, (Value.int .u64 a1))] [(box p0 145 [sv0, (Value.int .i64 p0_1)]), A0]) _
  refine ent_seq ?_
  refine ent_region ?_
  refine ent_value (ov_assign rfl) rfl rfl rfl ?_
  refine ent_value (ov_assign rfl) rfl rfl rfl ?_
  refine ent_nil ?_
  refine ent_seq ?_
  refine ent_block ?_
  refine ent_seq ?_
  refine ent_region ?_
  refine ent_value (ov_move rfl) rfl rfl rfl ?_
  refine ent_value (ov_bin rfl rfl (b_eql_of (fun w => rfl) rfl (eq_pn Try.underlying121 _ _))) rfl rfl rfl ?_
  refine ent_value (ov_move rfl) rfl rfl rfl ?_
  refine ent_value_on (ov_move rfl) rfl rfl rfl rfl rfl rfl ?_
  refine ent_value_on (ov_nilCheck rfl) rfl rfl rfl rfl rfl rfl ?_
  refine ent_value_on (ov_fieldAddr (sz := 0) (o := 0) rfl F_field_145_1 F_size_37) rfl rfl rfl rfl rfl rfl ?_
  refine ent_value_on (ov_load (v := (Value.int .i64 p0_1)) rfl F_agg_37 (reads_box1 (i := 0) rfl rfl)) rfl rfl rfl rfl rfl rfl ?_
  refine ent_value_on (ov_bin rfl rfl (b_neq _ _ _)) rfl rfl rfl rfl rfl rfl ?_
  refine ent_value (ov_pick rfl rfl rfl rfl) rfl rfl rfl ?_
  refine ent_value (ov_assign rfl) rfl rfl rfl ?_
  refine ent_nil ?_
  by_cases c1 : ¬ (p0_1 = 0)
  · rw [if_pos c1] at H
    refine ent_cond_true rfl (ne_t c1) ?_
    refine ent_seq ?_
    refine ent_region ?_
    refine ent_value (ov_assign rfl) rfl rfl rfl ?_
    refine ent_value (ov_assign rfl) rfl rfl rfl ?_
    refine ent_nil ?_
    refine ent_retc ?_
    cases H
    exact ret_mem (vs := [(Value.slice none 0 0), (Value.bool false)]) rfl ⟨rfl, ⟨rfl, trivial⟩⟩ _ rfl ⟨_, _, (isRd_nilA _ _), hA0, rfl, rfl⟩
  · rw [if_neg c1] at H
    refine ent_cond_false rfl (ne_f c1) ?_
    refine ent_seq ?_
    refine ent_region ?_
    refine ent_value (ov_move rfl) rfl rfl rfl ?_
    refine ent_value (ov_move rfl) rfl rfl rfl ?_
    refine ent_value (ov_nilCheck rfl) rfl rfl rfl ?_
    refine ent_value (ov_fieldAddr (sz := 0) (o := 0) rfl F_field_145_0 F_size_79) rfl rfl rfl ?_
    refine ent_value (ov_load (v := sv0) rfl F_agg_79 (reads_box1 (i := 0) rfl rfl)) rfl rfl rfl ?_
    refine ent_value (ov_len 1 rfl F_slice_79 rfl hA0) rfl rfl rfl ?_
    refine ent_value (ov_convert rfl (c_int Try.underlying3 Try.underlying90)) rfl rfl rfl ?_
    refine ent_value (ov_bin rfl rfl (b_gtr _ _ _)) rfl rfl rfl ?_
    refine ent_value (ov_assign rfl) rfl rfl rfl ?_
    refine ent_nil ?_
    by_cases c2 : (wu64 (l0.length : Int)) < a1
    · rw [if_pos c2] at H
      refine ent_cond_true rfl (decide_eq_true c2) ?_
      refine ent_seq ?_
      refine ent_region ?_
      refine ent_value (ov_move rfl) rfl rfl rfl ?_
      refine ent_value (ov_nilCheck rfl) rfl rfl rfl ?_
      refine ent_value (ov_fieldAddr (sz := 0) (o := 0) rfl F_field_145_1 F_size_37) rfl rfl rfl ?_
      refine ent_op0 (ot_storeG (cs := [sv0, (Value.int .i64 p0_1)]) (cs' := [sv0, (Value.int .i64 3)]) (us := [(Value.int .i64 3)]) (L' := [(box p0 145 [sv0, (Value.int .i64 3)]), A0]) 0 rfl rfl rfl (one_all rfl) F_size_37 rfl rfl (by simp) rfl) rfl rfl ?_
      rintro _ _ rfl
      refine ent_nil ?_
      refine ent_seq ?_
      refine ent_region ?_
      refine ent_value (ov_assign rfl) rfl rfl rfl ?_
      refine ent_value (ov_assign rfl) rfl rfl rfl ?_
      refine ent_nil ?_
      refine ent_retc ?_
      cases H
      exact ret_mem (vs := [(Value.slice none 0 0), (Value.bool false)]) rfl ⟨rfl, ⟨rfl, trivial⟩⟩ _ rfl ⟨_, _, (isRd_nilA _ _), hA0, rfl, rfl⟩
    · rw [if_neg c2] at H
      refine ent_cond_false rfl (decide_eq_false c2) ?_
      refine ent_skip ?_
      refine ent_seq ?_
      refine ent_region ?_
      refine ent_value (ov_move rfl) rfl rfl rfl ?_
      refine ent_value (ov_nilCheck rfl) rfl rfl rfl ?_
      refine ent_value (ov_fieldAddr (sz := 0) (o := 0) rfl F_field_145_0 F_size_79) rfl rfl rfl ?_
      refine ent_value (ov_load (v := sv0) rfl F_agg_79 (reads_box1 (i := 0) rfl rfl)) rfl rfl rfl ?_
      refine ent_value (ov_move rfl) rfl rfl rfl ?_
      by_cases c3 : 0 ≤ a1
      · rw [if_pos c3] at H
        by_cases c4 : a1 ≤ (l0.length : Int)
        · rw [if_pos c4] at H
          refine ent_value (ov_slice_hi 1 rfl rfl F_slice_79 F_size_5 rfl hA0 c3 c4) rfl rfl rfl ?_
          refine ent_value (ov_assign rfl) rfl rfl rfl ?_
          refine ent_nil ?_
          refine ent_seq ?_
          refine ent_region ?_
          refine ent_value (ov_move rfl) rfl rfl rfl ?_
          refine ent_value (ov_move rfl) rfl rfl rfl ?_
          refine ent_value (ov_nilCheck rfl) rfl rfl rfl ?_
          refine ent_value (ov_fieldAddr (sz := 0) (o := 0) rfl F_field_145_0 F_size_79) rfl rfl rfl ?_
          refine ent_value (ov_load (v := sv0) rfl F_agg_79 (reads_box1 (i := 0) rfl rfl)) rfl rfl rfl ?_
          refine ent_value (ov_move rfl) rfl rfl rfl ?_
          refine ent_value (ov_slice_lo 1 rfl rfl F_slice_79 F_size_5 rfl hA0 c3 c4) rfl rfl rfl ?_
          refine ent_value (ov_nilCheck rfl) rfl rfl rfl ?_
          refine ent_value (ov_fieldAddr (sz := 0) (o := 0) rfl F_field_145_0 F_size_79) rfl rfl rfl ?_
          refine ent_op0 (ot_storeS (cs := [sv0, (Value.int .i64 p0_1)]) (cs' := [(subs sv0 a1.toNat l0.length 1), (Value.int .i64 p0_1)]) (sv := (subs sv0 a1.toNat l0.length 1)) (L' := [(box p0 145 [(subs sv0 a1.toNat l0.length 1), (Value.int .i64 p0_1)]), A0]) 0 1 rfl rfl F_size_79 rfl rfl (isRd_drop (eI_len _) hA0 (nat_le c3 c4)) rfl (by simp) rfl) rfl rfl ?_
          rintro _ _ rfl
          refine ent_nil ?_
          refine ent_seq ?_
          refine ent_region ?_
          refine ent_value (ov_move rfl) rfl rfl rfl ?_
          refine ent_value (ov_assign rfl) rfl rfl rfl ?_
          refine ent_value (ov_assign rfl) rfl rfl rfl ?_
          refine ent_nil ?_
          refine ent_retc ?_
          cases H
          exact ret_mem (vs := [(subs sv0 0 a1.toNat 1), (Value.bool true)]) rfl ⟨rfl, ⟨rfl, trivial⟩⟩ _ rfl ⟨_, _, (isRd_take (eI_len _) hA0 (nat_le c3 c4)), (isRd_drop (eI_len _) hA0 (nat_le c3 c4)), rfl, rfl⟩
        · rw [if_neg c4] at H
          cases H
      · rw [if_neg c3] at H
        cases H

set_option maxRecDepth 100000 in
theorem pack_Reader_bad.spec (p0 : Nat) (sv0 : Value) (A0 : HP) (l0 : List Int) (p0_1 : Int) (hA0 : IsRd A0 sv0 l0.length 1 (fl (eI .u8) l0)) (r : Int) (H : pack_Reader_bad l0 p0_1 = r) : FnSpec Try.prog 115 [(pt p0 0)] [(box p0 145 [sv0, (Value.int .i64 p0_1)]), A0] (fun v M => v = (Value.tuple #[]) ∧ M = [(box p0 145 [sv0, (Value.int .i64 r)]), A0]) := by
  unfold pack_Reader_bad at H
  refine spec_of Try.func115 rfl 14 rfl (Nat.le_of_ble_eq_true rfl) fun F w0 => ?_
  show Ent (St 14 w0 F [(0, (pt p0 0))] [(box p0 145 [sv0, (Value.int .i64 p0_1)]), A0]) _
  refine ent_seq ?_
  refine ent_region ?_
  refine ent_value (ov_move rfl) rfl rfl rfl ?_
  refine ent_value (ov_bin rfl rfl (b_neq_of (fun w => rfl) rfl (eq_pn Try.underlying121 _ _))) rfl rfl rfl ?_
  refine ent_value (ov_move rfl) rfl rfl rfl ?_
  refine ent_value_on (ov_move rfl) rfl rfl rfl rfl rfl rfl ?_
  refine ent_value_on (ov_nilCheck rfl) rfl rfl rfl rfl rfl rfl ?_
  refine ent_value_on (ov_fieldAddr (sz := 0) (o := 0) rfl F_field_145_1 F_size_37) rfl rfl rfl rfl rfl rfl ?_
  refine ent_value_on (ov_load (v := (Value.int .i64 p0_1)) rfl F_agg_37 (reads_box1 (i := 0) rfl rfl)) rfl rfl rfl rfl rfl rfl ?_
  refine ent_value_on (ov_bin rfl rfl (b_eql _ _ _)) rfl rfl rfl rfl rfl rfl ?_
  refine ent_value (ov_pick rfl rfl rfl rfl) rfl rfl rfl ?_
  refine ent_nil ?_
  by_cases c1 : p0_1 = 0
  · rw [if_pos c1] at H
    refine ent_cond_true rfl (eq_t c1) ?_
    refine ent_region ?_
    refine ent_value (ov_move rfl) rfl rfl rfl ?_
    refine ent_value (ov_nilCheck rfl) rfl rfl rfl ?_
    refine ent_value (ov_fieldAddr (sz := 0) (o := 0) rfl F_field_145_1 F_size_37) rfl rfl rfl ?_
    refine ent_op0 (ot_storeG (cs := [sv0, (Value.int .i64 p0_1)]) (cs' := [sv0, (Value.int .i64 4)]) (us := [(Value.int .i64 4)]) (L' := [(box p0 145 [sv0, (Value.int .i64 4)]), A0]) 0 rfl rfl rfl (one_all rfl) F_size_37 rfl rfl (by simp) rfl) rfl rfl ?_
    rintro _ _ rfl
    refine ent_nil ?_
    cases H
    refine ret_normal ?_
    exact ret_none rfl ⟨rfl, rfl⟩
  · rw [if_neg c1] at H
    refine ent_cond_false rfl (eq_f c1) ?_
    refine ent_skip ?_
    cases H
    refine ret_normal ?_
    exact ret_none rfl ⟨rfl, rfl⟩

set_option maxRecDepth 100000 in
theorem pack_Reader_Num.spec (K : Nat) (p0 : Nat) (sv0 : Value) (l0 : List Int) (p0_1 : Int) (r : (Int × (List Int) × Int)) (H : pack_Reader_Num K l0 p0_1 = some r) : FnSpec Try.prog 107 [(pt p0 0)] [(box p0 145 [sv0, (Value.int .i64 p0_1)]), (own sv0 5 1 l0.length (fl (eI .u8) l0))] (fun v M => ∃ sv1 : Value, IsRd (own sv0 5 1 l0.length (fl (eI .u8) l0)) sv1 r.2.1.length 1 (fl (eI .u8) r.2.1) ∧ v = (Value.int .u64 r.1) ∧ M = [(box p0 145 [sv1, (Value.int .i64 r.2.2)]), (own sv0 5 1 l0.length (fl (eI .u8) l0))]) := by
  unfold pack_Reader_Num at H
  refine spec_of Try.func107 rfl 59 rfl (Nat.le_of_ble_eq_true rfl) fun F w0 => ?_
  show Ent (St 59 w0 F [(0, (pt p0 0))] [(box p0 145 [sv0, (Value.int .i64 p0_1)]), (own sv0 5 1 l0.length (fl (eI .u8) l0))]) _
  refine ent_seq ?_
  refine ent_region ?_
  refine ent_value (ov_assign rfl) rfl rfl rfl ?_
  refine ent_nil ?_
  refine ent_scope ?_
  refine ent_seq ?_
  refine ent_region ?_
  refine ent_value (ov_move rfl) rfl rfl rfl ?_
  refine ent_value (ov_makeFunc (first := [.tmp 8]) (cap := []) rfl rfl) rfl rfl rfl ?_
  refine ent_value (ov_assign rfl) rfl rfl rfl ?_
  refine ent_nil ?_
  refine ent_seq ?_
  refine ent_label ?_
  obtain ⟨x1, H1, H⟩ := Option.bind_eq_some_iff.1 H
  refine ent_seq_cut (fun a w => ∃ v1, x1 = Sum.inl v1 ∧ ∃ sv2 : Value, IsRd (own sv0 5 1 l0.length (fl (eI .u8) l0)) sv2 v1.1.length 1 (fl (eI .u8) v1.1) ∧ St 59 w0 F [(0, (pt p0 0))] [(box p0 145 [sv2, (Value.int .i64 v1.2)]), (own sv0 5 1 l0.length (fl (eI .u8) l0))] a w) ?_ ?_
  · refine ent_seq ?_
    refine ent_region ?_
    refine ent_value (ov_move rfl) rfl rfl rfl ?_
    refine ent_nil ?_
    refine ent_block ?_
    refine ent_loop (fun k a w => ∃ i4, ∃ i5, ∃ l3, ∃ i6, ∃ sv3 : Value, IsRd (own sv0 5 1 l0.length (fl (eI .u8) l0)) sv3 l3.length 1 (fl (eI .u8) l3) ∧ pack_Reader_Num_l0 K k i4 i5 l3 i6 = some x1 ∧ St 59 w0 F [(0, (pt p0 0)), (2, (Value.int .u64 i4)), (3, (Value.func (.func 116) #[(pt p0 0)] #[])), (10, (Value.int .i64 i5))] [(box p0 145 [sv3, (Value.int .i64 i6)]), (own sv0 5 1 l0.length (fl (eI .u8) l0))] a w) K ?_ ?_
    · exact ent_fin [0, 1] (by decide) rfl (sub_cons (t := 0) rfl (sub_cons (t := 2) rfl (sub_cons (t := 3) rfl (sub_cons (t := 10) rfl (sub_nil _))))) fun a w h => ⟨_, _, _, _, _, (isRd_ownx _), H1, h⟩
    · refine fun k => ent_exi fun i4 => ent_exi fun i5 => ent_exi fun l3 => ent_exi fun i6 => ent_exi fun sv3 => ent_and fun hr3 => ent_and fun H2 => ?_
      cases k with
      | zero => exact absurd H2 (by simp [pack_Reader_Num_l0])
      | succ k =>
        rw [pack_Reader_Num_l0] at H2
        refine ent_seq ?_
        refine ent_region ?_
        refine ent_value (ov_bin rfl rfl (b_lss _ _ _)) rfl rfl rfl ?_
        refine ent_nil ?_
        refine ent_seq ?_
        by_cases c1 : i5 < 10
        · rw [if_pos c1] at H2
          refine ent_cond_true rfl (decide_eq_true c1) ?_
          refine ent_skip ?_
          refine ent_seq ?_
          refine ent_block ?_
          refine ent_seq ?_
          refine ent_region ?_
          refine ent_value (ov_move rfl) rfl rfl rfl ?_
          refine ent_value (ov_assign rfl) rfl rfl rfl ?_
          refine ent_nil ?_
          refine ent_seq ?_
          refine ent_region ?_
          refine ent_value (ov_move rfl) rfl rfl rfl ?_
          obtain ⟨x2, h1, H2⟩ := Option.bind_eq_some_iff.1 H2
          refine ent_op (ot_call (Lr := []) (first := [(pt p0 0)]) (cap := []) (xs := [.const (Value.int .u64 1)]) rfl rfl F_call_116 rfl (pack_Reader_take_2.spec p0 sv3 (own sv0 5 1 l0.length (fl (eI .u8) l0)) l3 i6 1 hr3 _ h1) rfl) rfl rfl rfl ?_
          rintro _ _ ⟨_, ⟨sv4, sv5, hr4, hr5, rfl, rfl⟩, rfl⟩
          refine ent_value (ov_move rfl) rfl rfl rfl ?_
          refine ent_value (ov_extract rfl rfl) rfl rfl rfl ?_
          refine ent_value (ov_extract rfl rfl) rfl rfl rfl ?_
          refine ent_value (ov_assign rfl) rfl rfl rfl ?_
          refine ent_value (ov_assign rfl) rfl rfl rfl ?_
          refine ent_nil ?_
          refine ent_seq ?_
          refine ent_seq ?_
          refine ent_region ?_
          refine ent_value (ov_move rfl) rfl rfl rfl ?_
          refine ent_value (ov_un rfl (u_not _)) rfl rfl rfl ?_
          refine ent_nil ?_
          by_cases c2 : (!x2.2.1) = true
          · rw [if_pos c2] at H2
            refine ent_cond_true rfl c2 ?_
            refine ent_seq ?_
            refine ent_region ?_
            refine ent_value (ov_assign rfl) rfl rfl rfl ?_
            refine ent_nil ?_
            refine ent_retc ?_
            cases H2
            have H3 := Option.some.inj (show some _ = some _ from H)
            cases H3
            exact ret_tmp rfl rfl ⟨_, hr5, rfl, rfl⟩
          · rw [if_neg c2] at H2
            refine ent_cond_false rfl (Bool.eq_false_iff.2 c2) ?_
            refine ent_skip ?_
            refine ent_seq ?_
            refine ent_region ?_
            refine ent_value (ov_move rfl) rfl rfl rfl ?_
            by_cases c3 : 0 < (x2.2.2.2.length : Int)
            · rw [if_pos c3] at H2
              refine ent_value (ov_indexAddr (sz := 0) 1 rfl rfl F_slice_79 F_size_5 rfl hr4 (by decide) c3) rfl rfl rfl ?_
              refine ent_value (ov_load (v := (Value.int .u8 (x2.2.2.2.getD ((0 : Int).toNat) 0))) rfl F_agg_5 (reads_rd (i := 1) rfl hr4 (by simp) (fl_read0 (eI_len _) (ix_lt (by decide) c3) rfl))) rfl rfl rfl ?_
              refine ent_value (ov_bin rfl rfl (b_andNot _ _ _)) rfl rfl rfl ?_
              refine ent_value (ov_assign rfl) rfl rfl rfl ?_
              refine ent_nil ?_
              obtain ⟨x3, H4, H2⟩ := thn_elim H2
              refine ent_seq_cut (fun a w => ∃ v2, x3 = Sum.inl v2 ∧ ∃ sv6 : Value, ∃ sv7 : Value, IsRd (own sv0 5 1 l0.length (fl (eI .u8) l0)) sv7 v2.2.1.length 1 (fl (eI .u8) v2.2.1) ∧ IsRd (own sv0 5 1 l0.length (fl (eI .u8) l0)) sv6 v2.1.length 1 (fl (eI .u8) v2.1) ∧ St 59 w0 F [(0, (pt p0 0)), (2, (Value.int .u64 i4)), (3, (Value.func (.func 116) #[(pt p0 0)] #[])), (4, (Value.int .i64 i5)), (5, sv7), (7, (Value.int .u8 v2.2.2)), (10, (Value.int .i64 i5))] [(box p0 145 [sv6, (Value.int .i64 x2.1)]), (own sv0 5 1 l0.length (fl (eI .u8) l0))] a w) ?_ ?_
              · refine ent_block ?_
                refine ent_seq ?_
                refine ent_region ?_
                refine ent_value (ov_move rfl) rfl rfl rfl ?_
                refine ent_value (ov_bin rfl rfl (b_eql _ _ _)) rfl rfl rfl ?_
                refine ent_value (ov_move rfl) rfl rfl rfl ?_
                by_cases c4 : i5 = 9
                · rw [if_pos c4] at H4
                  refine ent_value_on (ov_move rfl) rfl rfl rfl (eq_t c4) rfl rfl ?_
                  refine ent_value_on (ov_bin rfl rfl (b_gtr _ _ _)) rfl rfl rfl (eq_t c4) rfl rfl ?_
                  refine ent_value (ov_pick rfl rfl rfl (pick_t (eq_t c4))) rfl rfl rfl ?_
                  refine ent_value (ov_assign rfl) rfl rfl rfl ?_
                  refine ent_nil ?_
                  by_cases c5 : 1 < (bAndNot .u8 (x2.2.2.2.getD ((0 : Int).toNat) 0) 128)
                  · rw [if_pos c5] at H4
                    refine ent_cond_true rfl (decide_eq_true c5) ?_
                    refine ent_exit ?_
                    subst H4
                    have H5 := Option.some.inj (show some _ = some _ from H2)
                    cases H5
                    exact ent_fin [0, 1] (by decide) rfl (sub_cons (t := 0) rfl (sub_nil _)) fun a w h => ⟨_, rfl, _, hr5, h⟩
                  · rw [if_neg c5] at H4
                    refine ent_cond_false rfl (decide_eq_false c5) ?_
                    refine ent_seq ?_
                    refine ent_region ?_
                    refine ent_value (ov_move rfl) rfl rfl rfl ?_
                    refine ent_value (ov_indexAddr (sz := 0) 1 rfl rfl F_slice_79 F_size_5 rfl hr4 (by decide) c3) rfl rfl rfl ?_
                    refine ent_value (ov_load (v := (Value.int .u8 (x2.2.2.2.getD ((0 : Int).toNat) 0))) rfl F_agg_5 (reads_rd (i := 1) rfl hr4 (by simp) (fl_read0 (eI_len _) (ix_lt (by decide) c3) rfl))) rfl rfl rfl ?_
                    refine ent_value (ov_bin rfl rfl (b_lss _ _ _)) rfl rfl rfl ?_
                    refine ent_value (ov_move rfl) rfl rfl rfl ?_
                    by_cases c6 : (x2.2.2.2.getD ((0 : Int).toNat) 0) < 128
                    · rw [if_pos c6] at H4
                      refine ent_value_on (ov_move rfl) rfl rfl rfl (decide_eq_true c6) rfl rfl ?_
                      refine ent_value_on (ov_bin rfl rfl (b_eql _ _ _)) rfl rfl rfl (decide_eq_true c6) rfl rfl ?_
                      refine ent_value (ov_pick rfl rfl rfl (pick_t (decide_eq_true c6))) rfl rfl rfl ?_
                      refine ent_value (ov_move rfl) rfl rfl rfl ?_
                      by_cases c7 : (bAndNot .u8 (x2.2.2.2.getD ((0 : Int).toNat) 0) 128) = 0
                      · rw [if_pos c7] at H4
                        refine ent_value_on (ov_move rfl) rfl rfl rfl (eq_t c7) rfl rfl ?_
                        refine ent_value_on (ov_bin rfl rfl (b_gtr _ _ _)) rfl rfl rfl (eq_t c7) rfl rfl ?_
                        refine ent_value (ov_pick rfl rfl rfl (pick_t (eq_t c7))) rfl rfl rfl ?_
                        refine ent_value (ov_assign rfl) rfl rfl rfl ?_
                        refine ent_nil ?_
                        by_cases c8 : 0 < i5
                        · rw [if_pos c8] at H4
                          refine ent_cond_true rfl (decide_eq_true c8) ?_
                          refine ent_exit ?_
                          subst H4
                          have H6 := Option.some.inj (show some _ = some _ from H2)
                          cases H6
                          exact ent_fin [0, 1] (by decide) rfl (sub_cons (t := 0) rfl (sub_nil _)) fun a w h => ⟨_, rfl, _, hr5, h⟩
                        · rw [if_neg c8] at H4
                          refine ent_cond_false rfl (decide_eq_false c8) ?_
                          refine ent_skip ?_
                          cases H4
                          exact ent_fin [0, 1] (by decide) rfl (sub_cons (t := 0) rfl (sub_cons (t := 2) rfl (sub_cons (t := 3) rfl (sub_cons (t := 4) rfl (sub_cons (t := 5) rfl (sub_cons (t := 7) rfl (sub_cons (t := 10) rfl (sub_nil _)))))))) fun a w h => ⟨_, rfl, _, _, hr4, hr5, h⟩
                      · rw [if_neg c7] at H4
                        refine ent_off rfl rfl rfl (eq_f c7) rfl rfl ?_
                        refine ent_off rfl rfl rfl (eq_f c7) rfl rfl ?_
                        refine ent_value (ov_pick rfl rfl rfl (pick_f (eq_f c7))) rfl rfl rfl ?_
                        refine ent_value (ov_assign rfl) rfl rfl rfl ?_
                        refine ent_nil ?_
                        refine ent_cond_false rfl rfl ?_
                        refine ent_skip ?_
                        cases H4
                        exact ent_fin [0, 1] (by decide) rfl (sub_cons (t := 0) rfl (sub_cons (t := 2) rfl (sub_cons (t := 3) rfl (sub_cons (t := 4) rfl (sub_cons (t := 5) rfl (sub_cons (t := 7) rfl (sub_cons (t := 10) rfl (sub_nil _)))))))) fun a w h => ⟨_, rfl, _, _, hr4, hr5, h⟩
                    · rw [if_neg c6] at H4
                      refine ent_off rfl rfl rfl (decide_eq_false c6) rfl rfl ?_
                      refine ent_off rfl rfl rfl (decide_eq_false c6) rfl rfl ?_
                      refine ent_value (ov_pick rfl rfl rfl (pick_f (decide_eq_false c6))) rfl rfl rfl ?_
                      refine ent_value (ov_move rfl) rfl rfl rfl ?_
                      refine ent_off rfl rfl rfl rfl rfl rfl ?_
                      refine ent_off rfl rfl rfl rfl rfl rfl ?_
                      refine ent_value (ov_pick rfl rfl rfl rfl) rfl rfl rfl ?_
                      refine ent_value (ov_assign rfl) rfl rfl rfl ?_
                      refine ent_nil ?_
                      refine ent_cond_false rfl rfl ?_
                      refine ent_skip ?_
                      cases H4
                      exact ent_fin [0, 1] (by decide) rfl (sub_cons (t := 0) rfl (sub_cons (t := 2) rfl (sub_cons (t := 3) rfl (sub_cons (t := 4) rfl (sub_cons (t := 5) rfl (sub_cons (t := 7) rfl (sub_cons (t := 10) rfl (sub_nil _)))))))) fun a w h => ⟨_, rfl, _, _, hr4, hr5, h⟩
                · rw [if_neg c4] at H4
                  refine ent_off rfl rfl rfl (eq_f c4) rfl rfl ?_
                  refine ent_off rfl rfl rfl (eq_f c4) rfl rfl ?_
                  refine ent_value (ov_pick rfl rfl rfl (pick_f (eq_f c4))) rfl rfl rfl ?_
                  refine ent_value (ov_assign rfl) rfl rfl rfl ?_
                  refine ent_nil ?_
                  refine ent_cond_false rfl rfl ?_
                  refine ent_seq ?_
                  refine ent_region ?_
                  refine ent_value (ov_move rfl) rfl rfl rfl ?_
                  refine ent_value (ov_indexAddr (sz := 0) 1 rfl rfl F_slice_79 F_size_5 rfl hr4 (by decide) c3) rfl rfl rfl ?_
                  refine ent_value (ov_load (v := (Value.int .u8 (x2.2.2.2.getD ((0 : Int).toNat) 0))) rfl F_agg_5 (reads_rd (i := 1) rfl hr4 (by simp) (fl_read0 (eI_len _) (ix_lt (by decide) c3) rfl))) rfl rfl rfl ?_
                  refine ent_value (ov_bin rfl rfl (b_lss _ _ _)) rfl rfl rfl ?_
                  refine ent_value (ov_move rfl) rfl rfl rfl ?_
                  by_cases c9 : (x2.2.2.2.getD ((0 : Int).toNat) 0) < 128
                  · rw [if_pos c9] at H4
                    refine ent_value_on (ov_move rfl) rfl rfl rfl (decide_eq_true c9) rfl rfl ?_
                    refine ent_value_on (ov_bin rfl rfl (b_eql _ _ _)) rfl rfl rfl (decide_eq_true c9) rfl rfl ?_
                    refine ent_value (ov_pick rfl rfl rfl (pick_t (decide_eq_true c9))) rfl rfl rfl ?_
                    refine ent_value (ov_move rfl) rfl rfl rfl ?_
                    by_cases c10 : (bAndNot .u8 (x2.2.2.2.getD ((0 : Int).toNat) 0) 128) = 0
                    · rw [if_pos c10] at H4
                      refine ent_value_on (ov_move rfl) rfl rfl rfl (eq_t c10) rfl rfl ?_
                      refine ent_value_on (ov_bin rfl rfl (b_gtr _ _ _)) rfl rfl rfl (eq_t c10) rfl rfl ?_
                      refine ent_value (ov_pick rfl rfl rfl (pick_t (eq_t c10))) rfl rfl rfl ?_
                      refine ent_value (ov_assign rfl) rfl rfl rfl ?_
                      refine ent_nil ?_
                      by_cases c11 : 0 < i5
                      · rw [if_pos c11] at H4
                        refine ent_cond_true rfl (decide_eq_true c11) ?_
                        refine ent_exit ?_
                        subst H4
                        have H7 := Option.some.inj (show some _ = some _ from H2)
                        cases H7
                        exact ent_fin [0, 1] (by decide) rfl (sub_cons (t := 0) rfl (sub_nil _)) fun a w h => ⟨_, rfl, _, hr5, h⟩
                      · rw [if_neg c11] at H4
                        refine ent_cond_false rfl (decide_eq_false c11) ?_
                        refine ent_skip ?_
                        cases H4
                        exact ent_fin [0, 1] (by decide) rfl (sub_cons (t := 0) rfl (sub_cons (t := 2) rfl (sub_cons (t := 3) rfl (sub_cons (t := 4) rfl (sub_cons (t := 5) rfl (sub_cons (t := 7) rfl (sub_cons (t := 10) rfl (sub_nil _)))))))) fun a w h => ⟨_, rfl, _, _, hr4, hr5, h⟩
                    · rw [if_neg c10] at H4
                      refine ent_off rfl rfl rfl (eq_f c10) rfl rfl ?_
                      refine ent_off rfl rfl rfl (eq_f c10) rfl rfl ?_
                      refine ent_value (ov_pick rfl rfl rfl (pick_f (eq_f c10))) rfl rfl rfl ?_
                      refine ent_value (ov_assign rfl) rfl rfl rfl ?_
                      refine ent_nil ?_
                      refine ent_cond_false rfl rfl ?_
                      refine ent_skip ?_
                      cases H4
                      exact ent_fin [0, 1] (by decide) rfl (sub_cons (t := 0) rfl (sub_cons (t := 2) rfl (sub_cons (t := 3) rfl (sub_cons (t := 4) rfl (sub_cons (t := 5) rfl (sub_cons (t := 7) rfl (sub_cons (t := 10) rfl (sub_nil _)))))))) fun a w h => ⟨_, rfl, _, _, hr4, hr5, h⟩
                  · rw [if_neg c9] at H4
                    refine ent_off rfl rfl rfl (decide_eq_false c9) rfl rfl ?_
                    refine ent_off rfl rfl rfl (decide_eq_false c9) rfl rfl ?_
                    refine ent_value (ov_pick rfl rfl rfl (pick_f (decide_eq_false c9))) rfl rfl rfl ?_
                    refine ent_value (ov_move rfl) rfl rfl rfl ?_
                    refine ent_off rfl rfl rfl rfl rfl rfl ?_
                    refine ent_off rfl rfl rfl rfl rfl rfl ?_
                    refine ent_value (ov_pick rfl rfl rfl rfl) rfl rfl rfl ?_
                    refine ent_value (ov_assign rfl) rfl rfl rfl ?_
                    refine ent_nil ?_
                    refine ent_cond_false rfl rfl ?_
                    refine ent_skip ?_
                    cases H4
                    exact ent_fin [0, 1] (by decide) rfl (sub_cons (t := 0) rfl (sub_cons (t := 2) rfl (sub_cons (t := 3) rfl (sub_cons (t := 4) rfl (sub_cons (t := 5) rfl (sub_cons (t := 7) rfl (sub_cons (t := 10) rfl (sub_nil _)))))))) fun a w h => ⟨_, rfl, _, _, hr4, hr5, h⟩
              · refine ent_exi fun v2 => ent_and fun e_ => ?_
                subst e_
                rw [cas_inl] at H2
                refine ent_exi fun sv6 => ent_exi fun sv7 => ent_and fun hr7 => ent_and fun hr6 => ?_
                refine ent_seq ?_
                refine ent_region ?_
                refine ent_value (ov_move rfl) rfl rfl rfl ?_
                refine ent_value (ov_move rfl) rfl rfl rfl ?_
                refine ent_value (ov_convert rfl (c_int Try.underlying5 Try.underlying90)) rfl rfl rfl ?_
                refine ent_value (ov_move rfl) rfl rfl rfl ?_
                refine ent_value (ov_bin rfl rfl (b_mul _ _ _) ) rfl rfl rfl ?_
                by_cases c12 : 0 ≤ (w64 (7 * i5))
                · rw [if_pos c12] at H2
                  refine ent_value (ov_bin rfl rfl fun w => b_shl _ _ _ _ w c12) rfl rfl rfl ?_
                  refine ent_value (ov_bin rfl rfl (b_or _ _ _)) rfl rfl rfl ?_
                  refine ent_value (ov_assign rfl) rfl rfl rfl ?_
                  refine ent_nil ?_
                  refine ent_seq ?_
                  refine ent_region ?_
                  refine ent_value (ov_move rfl) rfl rfl rfl ?_
                  by_cases c13 : 0 < (v2.2.1.length : Int)
                  · rw [if_pos c13] at H2
                    refine ent_value (ov_indexAddr (sz := 0) 1 rfl rfl F_slice_79 F_size_5 rfl hr7 (by decide) c13) rfl rfl rfl ?_
                    refine ent_value (ov_load (v := (Value.int .u8 (v2.2.1.getD ((0 : Int).toNat) 0))) rfl F_agg_5 (reads_rd (i := 1) rfl hr7 (by simp) (fl_read0 (eI_len _) (ix_lt (by decide) c13) rfl))) rfl rfl rfl ?_
                    refine ent_value (ov_bin rfl rfl (b_lss _ _ _)) rfl rfl rfl ?_
                    refine ent_nil ?_
                    by_cases c14 : (v2.2.1.getD ((0 : Int).toNat) 0) < 128
                    · rw [if_pos c14] at H2
                      refine ent_cond_true rfl (decide_eq_true c14) ?_
                      refine ent_seq ?_
                      refine ent_region ?_
                      refine ent_value (ov_move rfl) rfl rfl rfl ?_
                      refine ent_value (ov_assign rfl) rfl rfl rfl ?_
                      refine ent_nil ?_
                      refine ent_retc ?_
                      cases H2
                      have H8 := Option.some.inj (show some _ = some _ from H)
                      cases H8
                      exact ret_tmp rfl rfl ⟨_, hr6, rfl, rfl⟩
                    · rw [if_neg c14] at H2
                      refine ent_cond_false rfl (decide_eq_false c14) ?_
                      refine ent_skip ?_
                      refine ent_region ?_
                      refine ent_value (ov_bin rfl rfl (b_add _ _ _) ) rfl rfl rfl ?_
                      refine ent_value (ov_move rfl) rfl rfl rfl ?_
                      refine ent_nil ?_
                      exact ent_fin [0, 1] (by decide) rfl (sub_cons (t := 0) rfl (sub_cons (t := 2) rfl (sub_cons (t := 3) rfl (sub_cons (t := 10) rfl (sub_nil _))))) fun a w h => ⟨k, Nat.lt_succ_self k, _, _, _, _, _, hr6, H2, h⟩
                  · rw [if_neg c13] at H2
                    cases H2
                · rw [if_neg c12] at H2
                  cases H2
            · rw [if_neg c3] at H2
              cases H2
        · rw [if_neg c1] at H2
          refine ent_cond_false rfl (decide_eq_false c1) ?_
          refine ent_exit ?_
          cases H2
          exact ent_fin [0, 1] (by decide) rfl (sub_cons (t := 0) rfl (sub_nil _)) fun a w h => ⟨_, rfl, _, hr3, h⟩
  · refine ent_exi fun v1 => ent_and fun e_ => ?_
    subst e_
    rw [cas_inl] at H
    refine ent_exi fun sv2 => ent_and fun hr2 => ?_
    refine ent_seq ?_
    refine ent_region ?_
    refine ent_value (ov_move rfl) rfl rfl rfl ?_
    obtain ⟨x4, h2, H⟩ := thn_elim H
    refine ent_op (ot_call (Lr := []) (first := []) (cap := []) (xs := [.tmp 57]) rfl rfl F_call_115 rfl (pack_Reader_bad.spec p0 sv2 (own sv0 5 1 l0.length (fl (eI .u8) l0)) v1.1 v1.2 hr2 _ h2) rfl) rfl rfl rfl ?_
    rintro _ _ ⟨_, ⟨rfl, rfl⟩, rfl⟩
    refine ent_nil ?_
    refine ent_seq ?_
    refine ent_region ?_
    refine ent_value (ov_assign rfl) rfl rfl rfl ?_
    refine ent_nil ?_
    refine ent_retc ?_
    cases H
    exact ret_tmp rfl rfl ⟨_, hr2, rfl, rfl⟩

set_option maxRecDepth 100000 in
theorem pack_Reader_within.spec (K : Nat) (p0 : Nat) (sv0 : Value) (l0 : List Int) (p0_1 : Int) (a1 : Int) (r : (Int × Int × (List Int))) (H : pack_Reader_within K l0 p0_1 a1 = some r) : FnSpec Try.prog 106 [(pt p0 0), (Value.int .i64 a1)] [(box p0 145 [sv0, (Value.int .i64 p0_1)]), (own sv0 5 1 l0.length (fl (eI .u8) l0))] (fun v M => ∃ sv1 : Value, IsRd (own sv0 5 1 l0.length (fl (eI .u8) l0)) sv1 r.2.2.length 1 (fl (eI .u8) r.2.2) ∧ v = (Value.int .u64 r.1) ∧ M = [(box p0 145 [sv1, (Value.int .i64 r.2.1)]), (own sv0 5 1 l0.length (fl (eI .u8) l0))]) := by
  unfold pack_Reader_within at H
  refine spec_of Try.func106 rfl 16 rfl (Nat.le_of_ble_eq_true rfl) fun F w0 => ?_
  show Ent (St 16 w0 F [(0, (pt p0 0)), (1, (Value.int .i64 a1))] [(box p0 145 [sv0, (Value.int .i64 p0_1)]), (own sv0 5 1 l0.length (fl (eI .u8) l0))]) _
  refine ent_seq ?_
  refine ent_region ?_
  refine ent_value (ov_assign rfl) rfl rfl rfl ?_
  refine ent_nil ?_
  refine ent_seq ?_
  refine ent_region ?_
  refine ent_value (ov_move rfl) rfl rfl rfl ?_
  obtain ⟨x1, h1, H⟩ := Option.bind_eq_some_iff.1 H
  refine ent_op (ot_call (Lr := []) (first := []) (cap := []) (xs := [.tmp 6]) rfl rfl F_call_107 rfl (pack_Reader_Num.spec K p0 sv0 l0 p0_1 _ h1) rfl) rfl rfl rfl ?_
  rintro _ _ ⟨_, ⟨sv2, hr2, rfl, rfl⟩, rfl⟩
  refine ent_value (ov_assign rfl) rfl rfl rfl ?_
  refine ent_nil ?_
  refine ent_seq ?_
  refine ent_seq ?_
  refine ent_region ?_
  refine ent_value (ov_move rfl) rfl rfl rfl ?_
  refine ent_value (ov_move rfl) rfl rfl rfl ?_
  refine ent_value (ov_max2 rfl rfl) rfl rfl rfl ?_
  refine ent_value (ov_convert rfl (c_int Try.underlying3 Try.underlying90)) rfl rfl rfl ?_
  refine ent_value (ov_bin rfl rfl (b_gtr _ _ _)) rfl rfl rfl ?_
  refine ent_nil ?_
  by_cases c1 : (wu64 (mx a1 0)) < x1.1
  · rw [if_pos c1] at H
    refine ent_cond_true rfl (decide_eq_true c1) ?_
    refine ent_seq ?_
    refine ent_region ?_
    refine ent_value (ov_move rfl) rfl rfl rfl ?_
    obtain ⟨x2, h2, H⟩ := thn_elim H
    refine ent_op (ot_call (Lr := []) (first := []) (cap := []) (xs := [.tmp 13]) rfl rfl F_call_115 rfl (pack_Reader_bad.spec p0 sv2 (own sv0 5 1 l0.length (fl (eI .u8) l0)) x1.2.1 x1.2.2 hr2 _ h2) rfl) rfl rfl rfl ?_
    rintro _ _ ⟨_, ⟨rfl, rfl⟩, rfl⟩
    refine ent_nil ?_
    refine ent_seq ?_
    refine ent_region ?_
    refine ent_value (ov_assign rfl) rfl rfl rfl ?_
    refine ent_nil ?_
    refine ent_retc ?_
    cases H
    exact ret_tmp rfl rfl ⟨_, hr2, rfl, rfl⟩
  · rw [if_neg c1] at H
    refine ent_cond_false rfl (decide_eq_false c1) ?_
    refine ent_skip ?_
    refine ent_seq ?_
    refine ent_region ?_
    refine ent_value (ov_move rfl) rfl rfl rfl ?_
    refine ent_value (ov_assign rfl) rfl rfl rfl ?_
    refine ent_nil ?_
    refine ent_retc ?_
    cases H
    exact ret_tmp rfl rfl ⟨_, hr2, rfl, rfl⟩

set_option maxRecDepth 100000 in
theorem pack_Reader_Count.spec (K : Nat) (p0 : Nat) (sv0 : Value) (l0 : List Int) (p0_1 : Int) (a1 : Int) (r : ((List Int) × Int × Int)) (H : pack_Reader_Count K l0 p0_1 a1 = some r) : FnSpec Try.prog 88 [(pt p0 0), (Value.int .i64 a1)] [(box p0 145 [sv0, (Value.int .i64 p0_1)]), (own sv0 5 1 l0.length (fl (eI .u8) l0))] (fun v M => ∃ sv1 : Value, IsRd (own sv0 5 1 l0.length (fl (eI .u8) l0)) sv1 r.1.length 1 (fl (eI .u8) r.1) ∧ v = (Value.int .i64 r.2.2) ∧ M = [(box p0 145 [sv1, (Value.int .i64 r.2.1)]), (own sv0 5 1 l0.length (fl (eI .u8) l0))]) := by
  unfold pack_Reader_Count at H
  refine spec_of Try.func88 rfl 9 rfl (Nat.le_of_ble_eq_true rfl) fun F w0 => ?_
  show Ent (St 9 w0 F [(0, (pt p0 0)), (1, (Value.int .i64 a1))] [(box p0 145 [sv0, (Value.int .i64 p0_1)]), (own sv0 5 1 l0.length (fl (eI .u8) l0))]) _
  refine ent_seq ?_
  refine ent_region ?_
  refine ent_value (ov_assign rfl) rfl rfl rfl ?_
  refine ent_nil ?_
  refine ent_seq ?_
  refine ent_region ?_
  refine ent_value (ov_move rfl) rfl rfl rfl ?_
  refine ent_value (ov_move rfl) rfl rfl rfl ?_
  obtain ⟨x1, h1, H⟩ := Option.bind_eq_some_iff.1 H
  refine ent_op (ot_call (Lr := []) (first := []) (cap := []) (xs := [.tmp 5, .tmp 6]) rfl rfl F_call_106 rfl (pack_Reader_within.spec K p0 sv0 l0 p0_1 a1 _ h1) rfl) rfl rfl rfl ?_
  rintro _ _ ⟨_, ⟨sv2, hr2, rfl, rfl⟩, rfl⟩
  refine ent_value (ov_convert rfl (c_int Try.underlying90 Try.underlying3)) rfl rfl rfl ?_
  refine ent_value (ov_assign rfl) rfl rfl rfl ?_
  refine ent_nil ?_
  refine ent_retc ?_
  cases H
  exact ret_tmp rfl rfl ⟨_, hr2, rfl, rfl⟩

set_option maxRecDepth 100000 in
theorem pack_Reader_Num_2.spec (K : Nat) (p0 : Nat) (sv0 : Value) (A0 : HP) (l0 : List Int) (p0_1 : Int) (hA0 : IsRd A0 sv0 l0.length 1 (fl (eI .u8) l0)) (r : (Int × (List Int) × Int)) (H : pack_Reader_Num_2 K l0 p0_1 = some r) : FnSpec Try.prog 107 [(pt p0 0)] [(box p0 145 [sv0, (Value.int .i64 p0_1)]), A0] (fun v M => ∃ sv1 : Value, IsRd A0 sv1 r.2.1.length 1 (fl (eI .u8) r.2.1) ∧ v = (Value.int .u64 r.1) ∧ M = [(box p0 145 [sv1, (Value.int .i64 r.2.2)]), A0]) := by
  unfold pack_Reader_Num_2 at H
  refine spec_of Try.func107 rfl 59 rfl (Nat.le_of_ble_eq_true rfl) fun F w0 => ?_
  show Ent (St 59 w0 F [(0, (pt p0 0))] [(box p0 145 [sv0, (Value.int .i64 p0_1)]), A0]) _
  refine ent_seq ?_
  refine ent_region ?_
  refine ent_value (ov_assign rfl) rfl rfl rfl ?_
  refine ent_nil ?_
  refine ent_scope ?_
  refine ent_seq ?_
  refine ent_region ?_
  refine ent_value (ov_move rfl) rfl rfl rfl ?_
  refine ent_value (ov_makeFunc (first := [.tmp 8]) (cap := []) rfl rfl) rfl rfl rfl ?_
  refine ent_value (ov_assign rfl) rfl rfl rfl ?_
  refine ent_nil ?_
  refine ent_seq ?_
  refine ent_label ?_
  obtain ⟨x1, H1, H⟩ := Option.bind_eq_some_iff.1 H
  refine ent_seq_cut (fun a w => ∃ v1, x1 = Sum.inl v1 ∧ ∃ sv2 : Value, IsRd A0 sv2 v1.1.length 1 (fl (eI .u8) v1.1) ∧ St 59 w0 F [(0, (pt p0 0))] [(box p0 145 [sv2, (Value.int .i64 v1.2)]), A0] a w) ?_ ?_
  · refine ent_seq ?_
    refine ent_region ?_
    refine ent_value (ov_move rfl) rfl rfl rfl ?_
    refine ent_nil ?_
    refine ent_block ?_
    refine ent_loop (fun k a w => ∃ i4, ∃ i5, ∃ l3, ∃ i6, ∃ sv3 : Value, IsRd A0 sv3 l3.length 1 (fl (eI .u8) l3) ∧ pack_Reader_Num_2_l0 K k i4 i5 l3 i6 = some x1 ∧ St 59 w0 F [(0, (pt p0 0)), (2, (Value.int .u64 i4)), (3, (Value.func (.func 116) #[(pt p0 0)] #[])), (10, (Value.int .i64 i5))] [(box p0 145 [sv3, (Value.int .i64 i6)]), A0] a w) K ?_ ?_
    · exact ent_fin [0, 1] (by decide) rfl (sub_cons (t := 0) rfl (sub_cons (t := 2) rfl (sub_cons (t := 3) rfl (sub_cons (t := 10) rfl (sub_nil _))))) fun a w h => ⟨_, _, _, _, _, hA0, H1, h⟩
    · refine fun k => ent_exi fun i4 => ent_exi fun i5 => ent_exi fun l3 => ent_exi fun i6 => ent_exi fun sv3 => ent_and fun hr3 => ent_and fun H2 => ?_
      cases k with
      | zero => exact absurd H2 (by simp [pack_Reader_Num_2_l0])
      | succ k =>
        rw [pack_Reader_Num_2_l0] at H2
        refine ent_seq ?_
        refine ent_region ?_
        refine ent_value (ov_bin rfl rfl (b_lss _ _ _)) rfl rfl rfl ?_
        refine ent_nil ?_
        refine ent_seq ?_
        by_cases c1 : i5 < 10
        · rw [if_pos c1] at H2
          refine ent_cond_true rfl (decide_eq_true c1) ?_
          refine ent_skip ?_
          refine ent_seq ?_
          refine ent_block ?_
          refine ent_seq ?_
          refine ent_region ?_
          refine ent_value (ov_move rfl) rfl rfl rfl ?_
          refine ent_value (ov_assign rfl) rfl rfl rfl ?_
          refine ent_nil ?_
          refine ent_seq ?_
          refine ent_region ?_
          refine ent_value (ov_move rfl) rfl rfl rfl ?_
          obtain ⟨x2, h1, H2⟩ := Option.bind_eq_some_iff.1 H2
          refine ent_op (ot_call (Lr := []) (first := [(pt p0 0)]) (cap := []) (xs := [.const (Value.int .u64 1)]) rfl rfl F_call_116 rfl (pack_Reader_take_2.spec p0 sv3 A0 l3 i6 1 hr3 _ h1) rfl) rfl rfl rfl ?_
          rintro _ _ ⟨_, ⟨sv4, sv5, hr4, hr5, rfl, rfl⟩, rfl⟩
          refine ent_value (ov_move rfl) rfl rfl rfl ?_
          refine ent_value (ov_extract rfl rfl) rfl rfl rfl ?_
          refine ent_value (ov_extract rfl rfl) rfl rfl rfl ?_
          refine ent_value (ov_assign rfl) rfl rfl rfl ?_
          refine ent_value (ov_assign rfl) rfl rfl rfl ?_
          refine ent_nil ?_
          refine ent_seq ?_
          refine ent_seq ?_
          refine ent_region ?_
          refine ent_value (ov_move rfl) rfl rfl rfl ?_
          refine ent_value (ov_un rfl (u_not _)) rfl rfl rfl ?_
          refine ent_nil ?_
          by_cases c2 : (!x2.2.1) = true
          · rw [if_pos c2] at H2
            refine ent_cond_true rfl c2 ?_
            refine ent_seq ?_
            refine ent_region ?_
            refine ent_value (ov_assign rfl) rfl rfl rfl ?_
            refine ent_nil ?_
            refine ent_retc ?_
            cases H2
            have H3 := Option.some.inj (show some _ = some _ from H)
            cases H3
            exact ret_tmp rfl rfl ⟨_, hr5, rfl, rfl⟩
          · rw [if_neg c2] at H2
            refine ent_cond_false rfl (Bool.eq_false_iff.2 c2) ?_
            refine ent_skip ?_
            refine ent_seq ?_
            refine ent_region ?_
            refine ent_value (ov_move rfl) rfl rfl rfl ?_
            by_cases c3 : 0 < (x2.2.2.2.length : Int)
            · rw [if_pos c3] at H2
              refine ent_value (ov_indexAddr (sz := 0) 1 rfl rfl F_slice_79 F_size_5 rfl hr4 (by decide) c3) rfl rfl rfl ?_
              refine ent_value (ov_load (v := (Value.int .u8 (x2.2.2.2.getD ((0 : Int).toNat) 0))) rfl F_agg_5 (reads_rd (i := 1) rfl hr4 (by simp) (fl_read0 (eI_len _) (ix_lt (by decide) c3) rfl))) rfl rfl rfl ?_
              refine ent_value (ov_bin rfl rfl (b_andNot _ _ _)) rfl rfl rfl ?_
              refine ent_value (ov_assign rfl) rfl rfl rfl ?_
              refine ent_nil ?_
              obtain ⟨x3, H4, H2⟩ := thn_elim H2
              refine ent_seq_cut (fun a w => ∃ v2, x3 = Sum.inl v2 ∧ ∃ sv6 : Value, ∃ sv7 : Value, IsRd A0 sv7 v2.2.1.length 1 (fl (eI .u8) v2.2.1) ∧ IsRd A0 sv6 v2.1.length 1 (fl (eI .u8) v2.1) ∧ St 59 w0 F [(0, (pt p0 0)), (2, (Value.int .u64 i4)), (3, (Value.func (.func 116) #[(pt p0 0)] #[])), (4, (Value.int .i64 i5)), (5, sv7), (7, (Value.int .u8 v2.2.2)), (10, (Value.int .i64 i5))] [(box p0 145 [sv6, (Value.int .i64 x2.1)]), A0] a w) ?_ ?_
              · refine ent_block ?_
                refine ent_seq ?_
                refine ent_region ?_
                refine ent_value (ov_move rfl) rfl rfl rfl ?_
                refine ent_value (ov_bin rfl rfl (b_eql _ _ _)) rfl rfl rfl ?_
                refine ent_value (ov_move rfl) rfl rfl rfl ?_
                by_cases c4 : i5 = 9
                · rw [if_pos c4] at H4
                  refine ent_value_on (ov_move rfl) rfl rfl rfl (eq_t c4) rfl rfl ?_
                  refine ent_value_on (ov_bin rfl rfl (b_gtr _ _ _)) rfl rfl rfl (eq_t c4) rfl rfl ?_
                  refine ent_value (ov_pick rfl rfl rfl (pick_t (eq_t c4))) rfl rfl rfl ?_
                  refine ent_value (ov_assign rfl) rfl rfl rfl ?_
                  refine ent_nil ?_
                  by_cases c5 : 1 < (bAndNot .u8 (x2.2.2.2.getD ((0 : Int).toNat) 0) 128)
                  · rw [if_pos c5] at H4
                    refine ent_cond_true rfl (decide_eq_true c5) ?_
                    refine ent_exit ?_
                    subst H4
                    have H5 := Option.some.inj (show some _ = some _ from H2)
                    cases H5
                    exact ent_fin [0, 1] (by decide) rfl (sub_cons (t := 0) rfl (sub_nil _)) fun a w h => ⟨_, rfl, _, hr5, h⟩
                  · rw [if_neg c5] at H4
                    refine ent_cond_false rfl (decide_eq_false c5) ?_
                    refine ent_seq ?_
                    refine ent_region ?_
                    refine ent_value (ov_move rfl) rfl rfl rfl ?_
                    refine ent_value (ov_indexAddr (sz := 0) 1 rfl rfl F_slice_79 F_size_5 rfl hr4 (by decide) c3) rfl rfl rfl ?_
                    refine ent_value (ov_load (v := (Value.int .u8 (x2.2.2.2.getD ((0 : Int).toNat) 0))) rfl F_agg_5 (reads_rd (i := 1) rfl hr4 (by simp) (fl_read0 (eI_len _) (ix_lt (by decide) c3) rfl))) rfl rfl rfl ?_
                    refine ent_value (ov_bin rfl rfl (b_lss _ _ _)) rfl rfl rfl ?_
                    refine ent_value (ov_move rfl) rfl rfl rfl ?_
                    by_cases c6 : (x2.2.2.2.getD ((0 : Int).toNat) 0) < 128
                    · rw [if_pos c6] at H4
                      refine ent_value_on (ov_move rfl) rfl rfl rfl (decide_eq_true c6) rfl rfl ?_
                      refine ent_value_on (ov_bin rfl rfl (b_eql _ _ _)) rfl rfl rfl (decide_eq_true c6) rfl rfl ?_
                      refine ent_value (ov_pick rfl rfl rfl (pick_t (decide_eq_true c6))) rfl rfl rfl ?_
                      refine ent_value (ov_move rfl) rfl rfl rfl ?_
                      by_cases c7 : (bAndNot .u8 (x2.2.2.2.getD ((0 : Int).toNat) 0) 128) = 0
                      · rw [if_pos c7] at H4
                        refine ent_value_on (ov_move rfl) rfl rfl rfl (eq_t c7) rfl rfl ?_
                        refine ent_value_on (ov_bin rfl rfl (b_gtr _ _ _)) rfl rfl rfl (eq_t c7) rfl rfl ?_
                        refine ent_value (ov_pick rfl rfl rfl (pick_t (eq_t c7))) rfl rfl rfl ?_
                        refine ent_value (ov_assign rfl) rfl rfl rfl ?_
                        refine ent_nil ?_
                        by_cases c8 : 0 < i5
                        · rw [if_pos c8] at H4
                          refine ent_cond_true rfl (decide_eq_true c8) ?_
                          refine ent_exit ?_
                          subst H4
                          have H6 := Option.some.inj (show some _ = some _ from H2)
                          cases H6
                          exact ent_fin [0, 1] (by decide) rfl (sub_cons (t := 0) rfl (sub_nil _)) fun a w h => ⟨_, rfl, _, hr5, h⟩
                        · rw [if_neg c8] at H4
                          refine ent_cond_false rfl (decide_eq_false c8) ?_
                          refine ent_skip ?_
                          cases H4
                          exact ent_fin [0, 1] (by decide) rfl (sub_cons (t := 0) rfl (sub_cons (t := 2) rfl (sub_cons (t := 3) rfl (sub_cons (t := 4) rfl (sub_cons (t := 5) rfl (sub_cons (t := 7) rfl (sub_cons (t := 10) rfl (sub_nil _)))))))) fun a w h => ⟨_, rfl, _, _, hr4, hr5, h⟩
                      · rw [if_neg c7] at H4
                        refine ent_off rfl rfl rfl (eq_f c7) rfl rfl ?_
                        refine ent_off rfl rfl rfl (eq_f c7) rfl rfl ?_
                        refine ent_value (ov_pick rfl rfl rfl (pick_f (eq_f c7))) rfl rfl rfl ?_
                        refine ent_value (ov_assign rfl) rfl rfl rfl ?_
                        refine ent_nil ?_
                        refine ent_cond_false rfl rfl ?_
                        refine ent_skip ?_
                        cases H4
                        exact ent_fin [0, 1] (by decide) rfl (sub_cons (t := 0) rfl (sub_cons (t := 2) rfl (sub_cons (t := 3) rfl (sub_cons (t := 4) rfl (sub_cons (t := 5) rfl (sub_cons (t := 7) rfl (sub_cons (t := 10) rfl (sub_nil _)))))))) fun a w h => ⟨_, rfl, _, _, hr4, hr5, h⟩
                    · rw [if_neg c6] at H4
                      refine ent_off rfl rfl rfl (decide_eq_false c6) rfl rfl ?_
                      refine ent_off rfl rfl rfl (decide_eq_false c6) rfl rfl ?_
                      refine ent_value (ov_pick rfl rfl rfl (pick_f (decide_eq_false c6))) rfl rfl rfl ?_
                      refine ent_value (ov_move rfl) rfl rfl rfl ?_
                      refine ent_off rfl rfl rfl rfl rfl rfl ?_
                      refine ent_off rfl rfl rfl rfl rfl rfl ?_
                      refine ent_value (ov_pick rfl rfl rfl rfl) rfl rfl rfl ?_
                      refine ent_value (ov_assign rfl) rfl rfl rfl ?_
                      refine ent_nil ?_
                      refine ent_cond_false rfl rfl ?_
                      refine ent_skip ?_
                      cases H4
                      exact ent_fin [0, 1] (by decide) rfl (sub_cons (t := 0) rfl (sub_cons (t := 2) rfl (sub_cons (t := 3) rfl (sub_cons (t := 4) rfl (sub_cons (t := 5) rfl (sub_cons (t := 7) rfl (sub_cons (t := 10) rfl (sub_nil _)))))))) fun a w h => ⟨_, rfl, _, _, hr4, hr5, h⟩
                · rw [if_neg c4] at H4
                  refine ent_off rfl rfl rfl (eq_f c4) rfl rfl ?_
                  refine ent_off rfl rfl rfl (eq_f c4) rfl rfl ?_
                  refine ent_value (ov_pick rfl rfl rfl (pick_f (eq_f c4))) rfl rfl rfl ?_
                  refine ent_value (ov_assign rfl) rfl rfl rfl ?_
                  refine ent_nil ?_
                  refine ent_cond_false rfl rfl ?_
                  refine ent_seq ?_
                  refine ent_region ?_
                  refine ent_value (ov_move rfl) rfl rfl rfl ?_
                  refine ent_value (ov_indexAddr (sz := 0) 1 rfl rfl F_slice_79 F_size_5 rfl hr4 (by decide) c3) rfl rfl rfl ?_
                  refine ent_value (ov_load (v := (Value.int .u8 (x2.2.2.2.getD ((0 : Int).toNat) 0))) rfl F_agg_5 (reads_rd (i := 1) rfl hr4 (by simp) (fl_read0 (eI_len _) (ix_lt (by decide) c3) rfl))) rfl rfl rfl ?_
                  refine ent_value (ov_bin rfl rfl (b_lss _ _ _)) rfl rfl rfl ?_
                  refine ent_value (ov_move rfl) rfl rfl rfl ?_
                  by_cases c9 : (x2.2.2.2.getD ((0 : Int).toNat) 0) < 128
                  · rw [if_pos c9] at H4
                    refine ent_value_on (ov_move rfl) rfl rfl rfl (decide_eq_true c9) rfl rfl ?_
                    refine ent_value_on (ov_bin rfl rfl (b_eql _ _ _)) rfl rfl rfl (decide_eq_true c9) rfl rfl ?_
                    refine ent_value (ov_pick rfl rfl rfl (pick_t (decide_eq_true c9))) rfl rfl rfl ?_
                    refine ent_value (ov_move rfl) rfl rfl rfl ?_
                    by_cases c10 : (bAndNot .u8 (x2.2.2.2.getD ((0 : Int).toNat) 0) 128) = 0
                    · rw [if_pos c10] at H4
                      refine ent_value_on (ov_move rfl) rfl rfl rfl (eq_t c10) rfl rfl ?_
                      refine ent_value_on (ov_bin rfl rfl (b_gtr _ _ _)) rfl rfl rfl (eq_t c10) rfl rfl ?_
                      refine ent_value (ov_pick rfl rfl rfl (pick_t (eq_t c10))) rfl rfl rfl ?_
                      refine ent_value (ov_assign rfl) rfl rfl rfl ?_
                      refine ent_nil ?_
                      by_cases c11 : 0 < i5
                      · rw [if_pos c11] at H4
                        refine ent_cond_true rfl (decide_eq_true c11) ?_
                        refine ent_exit ?_
                        subst H4
                        have H7 := Option.some.inj (show some _ = some _ from H2)
                        cases H7
                        exact ent_fin [0, 1] (by decide) rfl (sub_cons (t := 0) rfl (sub_nil _)) fun a w h => ⟨_, rfl, _, hr5, h⟩
                      · rw [if_neg c11] at H4
                        refine ent_cond_false rfl (decide_eq_false c11) ?_
                        refine ent_skip ?_
                        cases H4
                        exact ent_fin [0, 1] (by decide) rfl (sub_cons (t := 0) rfl (sub_cons (t := 2) rfl (sub_cons (t := 3) rfl (sub_cons (t := 4) rfl (sub_cons (t := 5) rfl (sub_cons (t := 7) rfl (sub_cons (t := 10) rfl (sub_nil _)))))))) fun a w h => ⟨_, rfl, _, _, hr4, hr5, h⟩
                    · rw [if_neg c10] at H4
                      refine ent_off rfl rfl rfl (eq_f c10) rfl rfl ?_
                      refine ent_off rfl rfl rfl (eq_f c10) rfl rfl ?_
                      refine ent_value (ov_pick rfl rfl rfl (pick_f (eq_f c10))) rfl rfl rfl ?_
                      refine ent_value (ov_assign rfl) rfl rfl rfl ?_
                      refine ent_nil ?_
                      refine ent_cond_false rfl rfl ?_
                      refine ent_skip ?_
                      cases H4
                      exact ent_fin [0, 1] (by decide) rfl (sub_cons (t := 0) rfl (sub_cons (t := 2) rfl (sub_cons (t := 3) rfl (sub_cons (t := 4) rfl (sub_cons (t := 5) rfl (sub_cons (t := 7) rfl (sub_cons (t := 10) rfl (sub_nil _)))))))) fun a w h => ⟨_, rfl, _, _, hr4, hr5, h⟩
                  · rw [if_neg c9] at H4
                    refine ent_off rfl rfl rfl (decide_eq_false c9) rfl rfl ?_
                    refine ent_off rfl rfl rfl (decide_eq_false c9) rfl rfl ?_
                    refine ent_value (ov_pick rfl rfl rfl (pick_f (decide_eq_false c9))) rfl rfl rfl ?_
                    refine ent_value (ov_move rfl) rfl rfl rfl ?_
                    refine ent_off rfl rfl rfl rfl rfl rfl ?_
                    refine ent_off rfl rfl rfl rfl rfl rfl ?_
                    refine ent_value (ov_pick rfl rfl rfl rfl) rfl rfl rfl ?_
                    refine ent_value (ov_assign rfl) rfl rfl rfl ?_
                    refine ent_nil ?_
                    refine ent_cond_false rfl rfl ?_
                    refine ent_skip ?_
                    cases H4
                    exact ent_fin [0, 1] (by decide) rfl (sub_cons (t := 0) rfl (sub_cons (t := 2) rfl (sub_cons (t := 3) rfl (sub_cons (t := 4) rfl (sub_cons (t := 5) rfl (sub_cons (t := 7) rfl (sub_cons (t := 10) rfl (sub_nil _)))))))) fun a w h => ⟨_, rfl, _, _, hr4, hr5, h⟩
              · refine ent_exi fun v2 => ent_and fun e_ => ?_
                subst e_
                rw [cas_inl] at H2
                refine ent_exi fun sv6 => ent_exi fun sv7 => ent_and fun hr7 => ent_and fun hr6 => ?_
                refine ent_seq ?_
                refine ent_region ?_
                refine ent_value (ov_move rfl) rfl rfl rfl ?_
                refine ent_value (ov_move rfl) rfl rfl rfl ?_
                refine ent_value (ov_convert rfl (c_int Try.underlying5 Try.underlying90)) rfl rfl rfl ?_
                refine ent_value (ov_move rfl) rfl rfl rfl ?_
                refine ent_value (ov_bin rfl rfl (b_mul _ _ _) ) rfl rfl rfl ?_
                by_cases c12 : 0 ≤ (w64 (7 * i5))
                · rw [if_pos c12] at H2
                  refine ent_value (ov_bin rfl rfl fun w => b_shl _ _ _ _ w c12) rfl rfl rfl ?_
                  refine ent_value (ov_bin rfl rfl (b_or _ _ _)) rfl rfl rfl ?_
                  refine ent_value (ov_assign rfl) rfl rfl rfl ?_
                  refine ent_nil ?_
                  refine ent_seq ?_
                  refine ent_region ?_
                  refine ent_value (ov_move rfl) rfl rfl rfl ?_
                  by_cases c13 : 0 < (v2.2.1.length : Int)
                  · rw [if_pos c13] at H2
                    refine ent_value (ov_indexAddr (sz := 0) 1 rfl rfl F_slice_79 F_size_5 rfl hr7 (by decide) c13) rfl rfl rfl ?_
                    refine ent_value (ov_load (v := (Value.int .u8 (v2.2.1.getD ((0 : Int).toNat) 0))) rfl F_agg_5 (reads_rd (i := 1) rfl hr7 (by simp) (fl_read0 (eI_len _) (ix_lt (by decide) c13) rfl))) rfl rfl rfl ?_
                    refine ent_value (ov_bin rfl rfl (b_lss _ _ _)) rfl rfl rfl ?_
                    refine ent_nil ?_
                    by_cases c14 : (v2.2.1.getD ((0 : Int).toNat) 0) < 128
                    · rw [if_pos c14] at H2
                      refine ent_cond_true rfl (decide_eq_true c14) ?_
                      refine ent_seq ?_
                      refine ent_region ?_
                      refine ent_value (ov_move rfl) rfl rfl rfl ?_
                      refine ent_value (ov_assign rfl) rfl rfl rfl ?_
                      refine ent_nil ?_
                      refine ent_retc ?_
                      cases H2
                      have H8 := Option.some.inj (show some _ = some _ from H)
                      cases H8
                      exact ret_tmp rfl rfl ⟨_, hr6, rfl, rfl⟩
                    · rw [if_neg c14] at H2
                      refine ent_cond_false rfl (decide_eq_false c14) ?_
                      refine ent_skip ?_
                      refine ent_region ?_
                      refine ent_value (ov_bin rfl rfl (b_add _ _ _) ) rfl rfl rfl ?_
                      refine ent_value (ov_move rfl) rfl rfl rfl ?_
                      refine ent_nil ?_
                      exact ent_fin [0, 1] (by decide) rfl (sub_cons (t := 0) rfl (sub_cons (t := 2) rfl (sub_cons (t := 3) rfl (sub_cons (t := 10) rfl (sub_nil _))))) fun a w h => ⟨k, Nat.lt_succ_self k, _, _, _, _, _, hr6, H2, h⟩
                  · rw [if_neg c13] at H2
                    cases H2
                · rw [if_neg c12] at H2
                  cases H2
            · rw [if_neg c3] at H2
              cases H2
        · rw [if_neg c1] at H2
          refine ent_cond_false rfl (decide_eq_false c1) ?_
          refine ent_exit ?_
          cases H2
          exact ent_fin [0, 1] (by decide) rfl (sub_cons (t := 0) rfl (sub_nil _)) fun a w h => ⟨_, rfl, _, hr3, h⟩
  · refine ent_exi fun v1 => ent_and fun e_ => ?_
    subst e_
    rw [cas_inl] at H
    refine ent_exi fun sv2 => ent_and fun hr2 => ?_
    refine ent_seq ?_
    refine ent_region ?_
    refine ent_value (ov_move rfl) rfl rfl rfl ?_
    obtain ⟨x4, h2, H⟩ := thn_elim H
    refine ent_op (ot_call (Lr := []) (first := []) (cap := []) (xs := [.tmp 57]) rfl rfl F_call_115 rfl (pack_Reader_bad.spec p0 sv2 A0 v1.1 v1.2 hr2 _ h2) rfl) rfl rfl rfl ?_
    rintro _ _ ⟨_, ⟨rfl, rfl⟩, rfl⟩
    refine ent_nil ?_
    refine ent_seq ?_
    refine ent_region ?_
    refine ent_value (ov_assign rfl) rfl rfl rfl ?_
    refine ent_nil ?_
    refine ent_retc ?_
    cases H
    exact ret_tmp rfl rfl ⟨_, hr2, rfl, rfl⟩

set_option maxRecDepth 100000 in
theorem pack_Reader_within_2.spec (K : Nat) (p0 : Nat) (sv0 : Value) (A0 : HP) (l0 : List Int) (p0_1 : Int) (a1 : Int) (hA0 : IsRd A0 sv0 l0.length 1 (fl (eI .u8) l0)) (r : (Int × Int × (List Int))) (H : pack_Reader_within_2 K l0 p0_1 a1 = some r) : FnSpec Try.prog 106 [(pt p0 0), (Value.int .i64 a1)] [(box p0 145 [sv0, (Value.int .i64 p0_1)]), A0] (fun v M => ∃ sv1 : Value, IsRd A0 sv1 r.2.2.length 1 (fl (eI .u8) r.2.2) ∧ v = (Value.int .u64 r.1) ∧ M = [(box p0 145 [sv1, (Value.int .i64 r.2.1)]), A0]) := by
  unfold pack_Reader_within_2 at H
  refine spec_of Try.func106 rfl 16 rfl (Nat.le_of_ble_eq_true rfl) fun F w0 => ?_
  show Ent (St 16 w0 F [(0, (pt p0 0)), (1, (Value.int .i64 a1))] [(box p0 145 [sv0, (Value.int .i64 p0_1)]), A0]) _
  refine ent_seq ?_
  refine ent_region ?_
  refine ent_value (ov_assign rfl) rfl rfl rfl ?_
  refine ent_nil ?_
  refine ent_seq ?_
  refine ent_region ?_
  refine ent_value (ov_move rfl) rfl rfl rfl ?_
  obtain ⟨x1, h1, H⟩ := Option.bind_eq_some_iff.1 H
  refine ent_op (ot_call (Lr := []) (first := []) (cap := []) (xs := [.tmp 6]) rfl rfl F_call_107 rfl (pack_Reader_Num_2.spec K p0 sv0 A0 l0 p0_1 hA0 _ h1) rfl) rfl rfl rfl ?_
  rintro _ _ ⟨_, ⟨sv2, hr2, rfl, rfl⟩, rfl⟩
  refine ent_value (ov_assign rfl) rfl rfl rfl ?_
  refine ent_nil ?_
  refine ent_seq ?_
  refine ent_seq ?_
  refine ent_region ?_
  refine ent_value (ov_move rfl) rfl rfl rfl ?_
  refine ent_value (ov_move rfl) rfl rfl rfl ?_
  refine ent_value (ov_max2 rfl rfl) rfl rfl rfl ?_
  refine ent_value (ov_convert rfl (c_int Try.underlying3 Try.underlying90)) rfl rfl rfl ?_
  refine ent_value (ov_bin rfl rfl (b_gtr _ _ _)) rfl rfl rfl ?_
  refine ent_nil ?_
  by_cases c1 : (wu64 (mx a1 0)) < x1.1
  · rw [if_pos c1] at H
    refine ent_cond_true rfl (decide_eq_true c1) ?_
    refine ent_seq ?_
    refine ent_region ?_
    refine ent_value (ov_move rfl) rfl rfl rfl ?_
    obtain ⟨x2, h2, H⟩ := thn_elim H
    refine ent_op (ot_call (Lr := []) (first := []) (cap := []) (xs := [.tmp 13]) rfl rfl F_call_115 rfl (pack_Reader_bad.spec p0 sv2 A0 x1.2.1 x1.2.2 hr2 _ h2) rfl) rfl rfl rfl ?_
    rintro _ _ ⟨_, ⟨rfl, rfl⟩, rfl⟩
    refine ent_nil ?_
    refine ent_seq ?_
    refine ent_region ?_
    refine ent_value (ov_assign rfl) rfl rfl rfl ?_
    refine ent_nil ?_
    refine ent_retc ?_
    cases H
    exact ret_tmp rfl rfl ⟨_, hr2, rfl, rfl⟩
  · rw [if_neg c1] at H
    refine ent_cond_false rfl (decide_eq_false c1) ?_
    refine ent_skip ?_
    refine ent_seq ?_
    refine ent_region ?_
    refine ent_value (ov_move rfl) rfl rfl rfl ?_
    refine ent_value (ov_assign rfl) rfl rfl rfl ?_
    refine ent_nil ?_
    refine ent_retc ?_
    cases H
    exact ret_tmp rfl rfl ⟨_, hr2, rfl, rfl⟩

set_option maxRecDepth 100000 in
theorem pack_Reader_Text.spec (K : Nat) (p0 : Nat) (sv0 : Value) (A0 : HP) (l0 : List Int) (p0_1 : Int) (a1 : Int) (hA0 : IsRd A0 sv0 l0.length 1 (fl (eI .u8) l0)) (r : ((List Int) × Int × (List UInt8))) (H : pack_Reader_Text K l0 p0_1 a1 = some r) : FnSpec Try.prog 108 [(pt p0 0), (Value.int .i64 a1)] [(box p0 145 [sv0, (Value.int .i64 p0_1)]), A0] (fun v M => ∃ sv1 : Value, IsRd A0 sv1 r.1.length 1 (fl (eI .u8) r.1) ∧ v = (str r.2.2) ∧ M = [(box p0 145 [sv1, (Value.int .i64 r.2.1)]), A0]) := by
  unfold pack_Reader_Text at H
  refine spec_of Try.func108 rfl 17 rfl (Nat.le_of_ble_eq_true rfl) fun F w0 => ?_
  show Ent (St 17 w0 F [(0, (pt p0 0)), (1, (Value.int .i64 a1))] [(box p0 145 [sv0, (Value.int .i64 p0_1)]), A0]) _
  refine ent_seq ?_
  refine ent_region ?_
  refine ent_value (ov_assign rfl) rfl rfl rfl ?_
  refine ent_nil ?_
  refine ent_seq ?_
  refine ent_region ?_
  refine ent_value (ov_move rfl) rfl rfl rfl ?_
  refine ent_value (ov_move rfl) rfl rfl rfl ?_
  refine ent_value (ov_move rfl) rfl rfl rfl ?_
  obtain ⟨x1, h1, H⟩ := Option.bind_eq_some_iff.1 H
  refine ent_op (ot_call (Lr := []) (first := []) (cap := []) (xs := [.tmp 9, .tmp 10]) rfl rfl F_call_106 rfl (pack_Reader_within_2.spec K p0 sv0 A0 l0 p0_1 a1 hA0 _ h1) rfl) rfl rfl rfl ?_
  rintro _ _ ⟨_, ⟨sv2, hr2, rfl, rfl⟩, rfl⟩
  obtain ⟨x2, h2, H⟩ := Option.bind_eq_some_iff.1 H
  refine ent_op (ot_call (Lr := []) (first := []) (cap := []) (xs := [.tmp 8, .tmp 11]) rfl rfl F_call_116 rfl (pack_Reader_take_2.spec p0 sv2 A0 x1.2.2 x1.2.1 x1.1 hr2 _ h2) rfl) rfl rfl rfl ?_
  rintro _ _ ⟨_, ⟨sv3, sv4, hr3, hr4, rfl, rfl⟩, rfl⟩
  refine ent_value (ov_move rfl) rfl rfl rfl ?_
  refine ent_value (ov_extract rfl rfl) rfl rfl rfl ?_
  refine ent_value (ov_extract rfl rfl) rfl rfl rfl ?_
  refine ent_value (ov_assign rfl) rfl rfl rfl ?_
  refine ent_value (ov_assign rfl) rfl rfl rfl ?_
  refine ent_nil ?_
  refine ent_seq ?_
  refine ent_region ?_
  refine ent_value (ov_move rfl) rfl rfl rfl ?_
  refine ent_value (ov_b2s 1 rfl F_slice_79 Try.underlying5 Try.underlying9 rfl hr3) rfl rfl rfl ?_
  refine ent_value (ov_assign rfl) rfl rfl rfl ?_
  refine ent_nil ?_
  refine ent_retc ?_
  cases H
  exact ret_tmp rfl rfl ⟨_, hr4, rfl, rfl⟩

set_option maxRecDepth 100000 in
theorem pack_Reader_Int.spec (K : Nat) (p0 : Nat) (sv0 : Value) (A0 : HP) (l0 : List Int) (p0_1 : Int) (hA0 : IsRd A0 sv0 l0.length 1 (fl (eI .u8) l0)) (r : ((List Int) × Int × Int)) (H : pack_Reader_Int K l0 p0_1 = some r) : FnSpec Try.prog 109 [(pt p0 0)] [(box p0 145 [sv0, (Value.int .i64 p0_1)]), A0] (fun v M => ∃ sv1 : Value, IsRd A0 sv1 r.1.length 1 (fl (eI .u8) r.1) ∧ v = (Value.int .i64 r.2.2) ∧ M = [(box p0 145 [sv1, (Value.int .i64 r.2.1)]), A0]) := by
  unfold pack_Reader_Int at H
  refine spec_of Try.func109 rfl 14 rfl (Nat.le_of_ble_eq_true rfl) fun F w0 => ?_
  show Ent (St 14 w0 F [(0, (pt p0 0))] [(box p0 145 [sv0, (Value.int .i64 p0_1)]), A0]) _
  refine ent_seq ?_
  refine ent_region ?_
  refine ent_value (ov_assign rfl) rfl rfl rfl ?_
  refine ent_nil ?_
  refine ent_seq ?_
  refine ent_region ?_
  refine ent_value (ov_move rfl) rfl rfl rfl ?_
  obtain ⟨x1, h1, H⟩ := Option.bind_eq_some_iff.1 H
  refine ent_op (ot_call (Lr := []) (first := []) (cap := []) (xs := [.tmp 4]) rfl rfl F_call_107 rfl (pack_Reader_Num_2.spec K p0 sv0 A0 l0 p0_1 hA0 _ h1) rfl) rfl rfl rfl ?_
  rintro _ _ ⟨_, ⟨sv2, hr2, rfl, rfl⟩, rfl⟩
  refine ent_value (ov_assign rfl) rfl rfl rfl ?_
  refine ent_nil ?_
  refine ent_seq ?_
  refine ent_region ?_
  refine ent_value (ov_move rfl) rfl rfl rfl ?_
  refine ent_value (ov_bin rfl rfl fun w => b_shr _ _ _ _ w (by decide)) rfl rfl rfl ?_
  refine ent_value (ov_convert rfl (c_int Try.underlying90 Try.underlying2)) rfl rfl rfl ?_
  refine ent_value (ov_move rfl) rfl rfl rfl ?_
  refine ent_value (ov_bin rfl rfl (b_and _ _ _)) rfl rfl rfl ?_
  refine ent_value (ov_convert rfl (c_int Try.underlying90 Try.underlying2)) rfl rfl rfl ?_
  refine ent_value (ov_un rfl (u_neg _ _)) rfl rfl rfl ?_
  refine ent_value (ov_bin rfl rfl (b_xor _ _ _)) rfl rfl rfl ?_
  refine ent_value (ov_assign rfl) rfl rfl rfl ?_
  refine ent_nil ?_
  refine ent_retc ?_
  cases H
  exact ret_tmp rfl rfl ⟨_, hr2, rfl, rfl⟩

set_option maxRecDepth 100000 in
theorem fact_one.spec (K : Nat) (p0 : Nat) (sv0 : Value) (A0 : HP) (l0 : List Int) (p0_1 : Int) (a1 : Int) (hA0 : IsRd A0 sv0 l0.length 1 (fl (eI .u8) l0)) (r : (Int × (List UInt8) × (List UInt8) × (List UInt8) × (List UInt8) × Int × Bool × (List Int) × Int)) (H : fact_one K l0 p0_1 a1 = some r) : FnSpec Try.prog 89 [(pt p0 0), (Value.int .i64 a1)] [(box p0 145 [sv0, (Value.int .i64 p0_1)]), A0] (fun v M => ∃ sv1 : Value, IsRd A0 sv1 r.2.2.2.2.2.2.2.1.length 1 (fl (eI .u8) r.2.2.2.2.2.2.2.1) ∧ v = (Value.tuple #[(Value.agg #[(Value.int .i64 r.1), (str r.2.1), (str r.2.2.1), (str r.2.2.2.1), (str r.2.2.2.2.1), (Value.int .i64 r.2.2.2.2.2.1)]), (Value.bool r.2.2.2.2.2.2.1)]) ∧ M = [(box p0 145 [sv1, (Value.int .i64 r.2.2.2.2.2.2.2.2)]), A0]) := by
  unfold fact_one at H
  refine spec_of Try.func89 rfl 32 rfl (Nat.le_of_ble_eq_true rfl) fun F w0 => ?_
  show Ent (St 32 w0 F [(0, (pt p0 0)), (1, (Value.int .i64 a1))] [(box p0 145 [sv0, (Value.int .i64 p0_1)]), A0]) _
  refine ent_seq ?_
  refine ent_region ?_
  refine ent_op (ot_alloc F_zero_43) rfl rfl rfl ?_
  rintro _ _ ⟨b1, rfl, rfl⟩
  refine ent_value (ov_assign rfl) rfl rfl rfl ?_
  refine ent_nil ?_
  refine ent_seq ?_
  refine ent_region ?_
  refine ent_value (ov_move rfl) rfl rfl rfl ?_
  obtain ⟨x1, h1, H⟩ := Option.bind_eq_some_iff.1 H
  refine ent_pick [1, 2, 0] (by decide) rfl ?_
  refine ent_op (ot_call (Lr := [(box b1 43 [(Value.int .i64 0), (str ([] : List UInt8)), (str ([] : List UInt8)), (str ([] : List UInt8)), (str ([] : List UInt8)), (Value.int .i64 0)])]) (first := []) (cap := []) (xs := [.tmp 8]) rfl rfl F_call_107 rfl (pack_Reader_Num_2.spec K p0 sv0 A0 l0 p0_1 hA0 _ h1) rfl) rfl rfl rfl ?_
  rintro _ _ ⟨_, ⟨sv2, hr2, rfl, rfl⟩, rfl⟩
  refine ent_value (ov_assign rfl) rfl rfl rfl ?_
  refine ent_nil ?_
  refine ent_seq ?_
  refine ent_seq ?_
  refine ent_region ?_
  refine ent_value (ov_move rfl) rfl rfl rfl ?_
  refine ent_value (ov_bin rfl rfl (b_gtr _ _ _)) rfl rfl rfl ?_
  refine ent_nil ?_
  by_cases c1 : 16777216 < x1.1
  · rw [if_pos c1] at H
    refine ent_cond_true rfl (decide_eq_true c1) ?_
    refine ent_seq ?_
    refine ent_region ?_
    refine ent_value (ov_load_agg (vs := [(Value.int .i64 0), (str ([] : List UInt8)), (str ([] : List UInt8)), (str ([] : List UInt8)), (str ([] : List UInt8)), (Value.int .i64 0)]) rfl F_agg_43 F_size_43 (reads_boxW (i := 2) rfl)) rfl rfl rfl ?_
    refine ent_op0 (ot_storeG (cs := [(Value.int .i64 0), (str ([] : List UInt8)), (str ([] : List UInt8)), (str ([] : List UInt8)), (str ([] : List UInt8)), (Value.int .i64 0)]) (cs' := [(Value.int .i64 0), (str ([] : List UInt8)), (str ([] : List UInt8)), (str ([] : List UInt8)), (str ([] : List UInt8)), (Value.int .i64 0)]) (us := [(Value.int .i64 0), (str ([] : List UInt8)), (str ([] : List UInt8)), (str ([] : List UInt8)), (str ([] : List UInt8)), (Value.int .i64 0)]) (L' := [(box p0 145 [sv2, (Value.int .i64 x1.2.2)]), A0, (box b1 43 [(Value.int .i64 0), (str ([] : List UInt8)), (str ([] : List UInt8)), (str ([] : List UInt8)), (str ([] : List UInt8)), (Value.int .i64 0)])]) 2 rfl rfl rfl (one_all rfl) F_size_43 rfl rfl (by simp) rfl) rfl rfl ?_
    rintro _ _ rfl
    refine ent_value (ov_assign rfl) rfl rfl rfl ?_
    refine ent_nil ?_
    refine ent_retc ?_
    cases H
    exact ret_memp [0, 1] (by decide) rfl (vs := [(Value.agg #[(Value.int .i64 0), (str ([] : List UInt8)), (str ([] : List UInt8)), (str ([] : List UInt8)), (str ([] : List UInt8)), (Value.int .i64 0)]), (Value.bool false)]) rfl ⟨⟨_, [(Value.int .i64 0), (str ([] : List UInt8)), (str ([] : List UInt8)), (str ([] : List UInt8)), (str ([] : List UInt8)), (Value.int .i64 0)], rfl, reads_boxW (i := 2) rfl, .inl ⟨F_agg_43, F_size_43, rfl⟩⟩, ⟨rfl, trivial⟩⟩ _ rfl ⟨_, hr2, rfl, rfl⟩
  · rw [if_neg c1] at H
    refine ent_cond_false rfl (decide_eq_false c1) ?_
    refine ent_skip ?_
    refine ent_seq ?_
    refine ent_region ?_
    refine ent_value (ov_move rfl) rfl rfl rfl ?_
    refine ent_value (ov_convert rfl (c_int Try.underlying90 Try.underlying2)) rfl rfl rfl ?_
    refine ent_value (ov_fieldAddr (sz := 4) (o := 0) rfl F_field_43_0 F_size_41) rfl rfl rfl ?_
    refine ent_value (ov_fieldAddr (sz := 0) (o := 0) rfl F_field_41_0 F_size_2) rfl rfl rfl ?_
    refine ent_op0 (ot_storeG (cs := [(Value.int .i64 0), (str ([] : List UInt8)), (str ([] : List UInt8)), (str ([] : List UInt8)), (str ([] : List UInt8)), (Value.int .i64 0)]) (cs' := [(Value.int .i64 (w64 x1.1)), (str ([] : List UInt8)), (str ([] : List UInt8)), (str ([] : List UInt8)), (str ([] : List UInt8)), (Value.int .i64 0)]) (us := [(Value.int .i64 (w64 x1.1))]) (L' := [(box p0 145 [sv2, (Value.int .i64 x1.2.2)]), A0, (box b1 43 [(Value.int .i64 (w64 x1.1)), (str ([] : List UInt8)), (str ([] : List UInt8)), (str ([] : List UInt8)), (str ([] : List UInt8)), (Value.int .i64 0)])]) 2 rfl rfl rfl (one_all rfl) F_size_2 rfl rfl (by simp) rfl) rfl rfl ?_
    rintro _ _ rfl
    refine ent_nil ?_
    obtain ⟨x2, H1, H⟩ := Option.bind_eq_some_iff.1 H
    refine ent_seq_cut (fun a w => ∃ b2 : Nat, ∃ sv3 : Value, IsRd A0 sv3 x2.1.length 1 (fl (eI .u8) x2.1) ∧ St 32 w0 F [(0, (pt p0 0)), (4, (pt b2 0))] [(box p0 145 [sv3, (Value.int .i64 x2.2.1)]), A0, (box b2 43 [(Value.int .i64 x2.2.2.1), (str x2.2.2.2.1), (str x2.2.2.2.2.1), (str x2.2.2.2.2.2.1), (str x2.2.2.2.2.2.2), (Value.int .i64 0)])] a w) ?_ ?_
    · refine ent_seq ?_
      refine ent_region ?_
      refine ent_value (ov_move rfl) rfl rfl rfl ?_
      refine ent_value (ov_move rfl) rfl rfl rfl ?_
      refine ent_nil ?_
      refine ent_block ?_
      refine ent_loop (fun k a w => ∃ i6, ∃ l3, ∃ i7, ∃ t9, ∃ t10, ∃ t11, ∃ t12, ∃ sv4 : Value, IsRd A0 sv4 l3.length 1 (fl (eI .u8) l3) ∧ fact_one_l0 K a1 x1 k i6 l3 i7 t9 t10 t11 t12 = some x2 ∧ St 32 w0 F [(0, (pt p0 0)), (4, (pt b1 0)), (17, (Value.int .i64 a1)), (18, (Value.int .i64 i6))] [(box p0 145 [sv4, (Value.int .i64 i7)]), A0, (box b1 43 [(Value.int .i64 (w64 x1.1)), (str t9), (str t10), (str t11), (str t12), (Value.int .i64 0)])] a w) K ?_ ?_
      · exact ent_fin [0, 1, 2] (by decide) rfl (sub_cons (t := 0) rfl (sub_cons (t := 4) rfl (sub_cons (t := 17) rfl (sub_cons (t := 18) rfl (sub_nil _))))) fun a w h => ⟨_, _, _, _, _, _, _, _, hr2, H1, h⟩
      · refine fun k => ent_exi fun i6 => ent_exi fun l3 => ent_exi fun i7 => ent_exi fun t9 => ent_exi fun t10 => ent_exi fun t11 => ent_exi fun t12 => ent_exi fun sv4 => ent_and fun hr4 => ent_and fun H2 => ?_
        cases k with
        | zero => exact absurd H2 (by simp [fact_one_l0])
        | succ k =>
          rw [fact_one_l0] at H2
          refine ent_seq ?_
          refine ent_region ?_
          refine ent_value (ov_bin rfl rfl (b_lss _ _ _)) rfl rfl rfl ?_
          refine ent_nil ?_
          refine ent_seq ?_
          by_cases c2 : i6 < a1
          · rw [if_pos c2] at H2
            refine ent_cond_true rfl (decide_eq_true c2) ?_
            refine ent_skip ?_
            refine ent_seq ?_
            refine ent_block ?_
            refine ent_seq ?_
            refine ent_region ?_
            refine ent_value (ov_move rfl) rfl rfl rfl ?_
            refine ent_value (ov_assign rfl) rfl rfl rfl ?_
            refine ent_nil ?_
            refine ent_region ?_
            refine ent_value (ov_move rfl) rfl rfl rfl ?_
            refine ent_value (ov_move rfl) rfl rfl rfl ?_
            obtain ⟨x3, h2, H2⟩ := Option.bind_eq_some_iff.1 H2
            refine ent_op (ot_call (Lr := [(box b1 43 [(Value.int .i64 (w64 x1.1)), (str t9), (str t10), (str t11), (str t12), (Value.int .i64 0)])]) (first := []) (cap := []) (xs := [.tmp 22, .const (Value.int .i64 16)]) rfl rfl F_call_108 rfl (pack_Reader_Text.spec K p0 sv4 A0 l3 i7 16 hr4 _ h2) rfl) rfl rfl rfl ?_
            rintro _ _ ⟨_, ⟨sv5, hr5, rfl, rfl⟩, rfl⟩
            refine ent_value (ov_fieldAddr (sz := 4) (o := 0) rfl F_field_43_0 F_size_41) rfl rfl rfl ?_
            refine ent_value (ov_fieldAddr (sz := 3) (o := 0) rfl F_field_41_1 F_size_39) rfl rfl rfl ?_
            by_cases c3 : 0 ≤ i6
            · rw [if_pos c3] at H2
              by_cases c4 : i6 < (4 : Int)
              · rw [if_pos c4] at H2
                refine ent_value (ov_indexArr (o := 1) rfl rfl F_array_39 F_size_9 c3 c4) rfl rfl rfl ?_
                refine ent_op0 (ot_store (cs := [(Value.int .i64 (w64 x1.1)), (str t9), (str t10), (str t11), (str t12), (Value.int .i64 0)]) (cs' := [(Value.int .i64 (w64 x1.1)), (str (if i6.toNat = 0 then x3.2.2 else t9)), (str (if i6.toNat = 1 then x3.2.2 else t10)), (str (if i6.toNat = 2 then x3.2.2 else t11)), (str (if i6.toNat = 3 then x3.2.2 else t12)), (Value.int .i64 0)]) (us := [(str x3.2.2)]) (L' := [(box p0 145 [sv5, (Value.int .i64 x3.2.1)]), A0, (box b1 43 [(Value.int .i64 (w64 x1.1)), (str (if i6.toNat = 0 then x3.2.2 else t9)), (str (if i6.toNat = 1 then x3.2.2 else t10)), (str (if i6.toNat = 2 then x3.2.2 else t11)), (str (if i6.toNat = 3 then x3.2.2 else t12)), (Value.int .i64 0)])]) 2 rfl rfl rfl (all_one rfl) F_size_9 rfl (cases4 (fun i_ => List.take (1 + i_ * 1) [(Value.int .i64 (w64 x1.1)), (str t9), (str t10), (str t11), (str t12), (Value.int .i64 0)] ++ [(str x3.2.2)] ++ List.drop (1 + i_ * 1 + List.length [(str x3.2.2)]) [(Value.int .i64 (w64 x1.1)), (str t9), (str t10), (str t11), (str t12), (Value.int .i64 0)] = [(Value.int .i64 (w64 x1.1)), (str (if i_ = 0 then x3.2.2 else t9)), (str (if i_ = 1 then x3.2.2 else t10)), (str (if i_ = 2 then x3.2.2 else t11)), (str (if i_ = 3 then x3.2.2 else t12)), (Value.int .i64 0)]) (ix_lt c3 c4) rfl rfl rfl rfl) (cases4 (fun i_ => 1 + i_ * 1 + List.length [(str x3.2.2)] ≤ List.length [(Value.int .i64 (w64 x1.1)), (str t9), (str t10), (str t11), (str t12), (Value.int .i64 0)]) (ix_lt c3 c4) (Nat.le_of_ble_eq_true rfl) (Nat.le_of_ble_eq_true rfl) (Nat.le_of_ble_eq_true rfl) (Nat.le_of_ble_eq_true rfl)) rfl) rfl rfl ?_
                rintro _ _ rfl
                refine ent_nil ?_
                refine ent_region ?_
                refine ent_value (ov_bin rfl rfl (b_add _ _ _) ) rfl rfl rfl ?_
                refine ent_value (ov_move rfl) rfl rfl rfl ?_
                refine ent_nil ?_
                exact ent_fin [0, 1, 2] (by decide) rfl (sub_cons (t := 0) rfl (sub_cons (t := 4) rfl (sub_cons (t := 17) rfl (sub_cons (t := 18) rfl (sub_nil _))))) fun a w h => ⟨k, Nat.lt_succ_self k, _, _, _, _, _, _, _, _, hr5, H2, h⟩
              · rw [if_neg c4] at H2
                cases H2
            · rw [if_neg c3] at H2
              cases H2
          · rw [if_neg c2] at H2
            refine ent_cond_false rfl (decide_eq_false c2) ?_
            refine ent_exit ?_
            cases H2
            exact ent_fin [0, 1, 2] (by decide) rfl (sub_cons (t := 0) rfl (sub_cons (t := 4) rfl (sub_nil _))) fun a w h => ⟨_, _, hr4, h⟩
    · refine ent_exi fun b2 => ent_exi fun sv3 => ent_and fun hr3 => ?_
      refine ent_seq ?_
      refine ent_region ?_
      refine ent_value (ov_move rfl) rfl rfl rfl ?_
      obtain ⟨x4, h3, H⟩ := Option.bind_eq_some_iff.1 H
      refine ent_op (ot_call (Lr := [(box b2 43 [(Value.int .i64 x2.2.2.1), (str x2.2.2.2.1), (str x2.2.2.2.2.1), (str x2.2.2.2.2.2.1), (str x2.2.2.2.2.2.2), (Value.int .i64 0)])]) (first := []) (cap := []) (xs := [.tmp 28]) rfl rfl F_call_109 rfl (pack_Reader_Int.spec K p0 sv3 A0 x2.1 x2.2.1 hr3 _ h3) rfl) rfl rfl rfl ?_
      rintro _ _ ⟨_, ⟨sv6, hr6, rfl, rfl⟩, rfl⟩
      refine ent_value (ov_fieldAddr (sz := 0) (o := 0) rfl F_field_43_1 F_size_2) rfl rfl rfl ?_
      refine ent_op0 (ot_storeG (cs := [(Value.int .i64 x2.2.2.1), (str x2.2.2.2.1), (str x2.2.2.2.2.1), (str x2.2.2.2.2.2.1), (str x2.2.2.2.2.2.2), (Value.int .i64 0)]) (cs' := [(Value.int .i64 x2.2.2.1), (str x2.2.2.2.1), (str x2.2.2.2.2.1), (str x2.2.2.2.2.2.1), (str x2.2.2.2.2.2.2), (Value.int .i64 x4.2.2)]) (us := [(Value.int .i64 x4.2.2)]) (L' := [(box p0 145 [sv6, (Value.int .i64 x4.2.1)]), A0, (box b2 43 [(Value.int .i64 x2.2.2.1), (str x2.2.2.2.1), (str x2.2.2.2.2.1), (str x2.2.2.2.2.2.1), (str x2.2.2.2.2.2.2), (Value.int .i64 x4.2.2)])]) 2 rfl rfl rfl (one_all rfl) F_size_2 rfl rfl (by simp) rfl) rfl rfl ?_
      rintro _ _ rfl
      refine ent_nil ?_
      refine ent_seq ?_
      refine ent_region ?_
      refine ent_value (ov_load_agg (vs := [(Value.int .i64 x2.2.2.1), (str x2.2.2.2.1), (str x2.2.2.2.2.1), (str x2.2.2.2.2.2.1), (str x2.2.2.2.2.2.2), (Value.int .i64 x4.2.2)]) rfl F_agg_43 F_size_43 (reads_boxW (i := 2) rfl)) rfl rfl rfl ?_
      refine ent_op0 (ot_storeG (cs := [(Value.int .i64 x2.2.2.1), (str x2.2.2.2.1), (str x2.2.2.2.2.1), (str x2.2.2.2.2.2.1), (str x2.2.2.2.2.2.2), (Value.int .i64 x4.2.2)]) (cs' := [(Value.int .i64 x2.2.2.1), (str x2.2.2.2.1), (str x2.2.2.2.2.1), (str x2.2.2.2.2.2.1), (str x2.2.2.2.2.2.2), (Value.int .i64 x4.2.2)]) (us := [(Value.int .i64 x2.2.2.1), (str x2.2.2.2.1), (str x2.2.2.2.2.1), (str x2.2.2.2.2.2.1), (str x2.2.2.2.2.2.2), (Value.int .i64 x4.2.2)]) (L' := [(box p0 145 [sv6, (Value.int .i64 x4.2.1)]), A0, (box b2 43 [(Value.int .i64 x2.2.2.1), (str x2.2.2.2.1), (str x2.2.2.2.2.1), (str x2.2.2.2.2.2.1), (str x2.2.2.2.2.2.2), (Value.int .i64 x4.2.2)])]) 2 rfl rfl rfl (one_all rfl) F_size_43 rfl rfl (by simp) rfl) rfl rfl ?_
      rintro _ _ rfl
      refine ent_value (ov_assign rfl) rfl rfl rfl ?_
      refine ent_nil ?_
      refine ent_retc ?_
      cases H
      exact ret_memp [0, 1] (by decide) rfl (vs := [(Value.agg #[(Value.int .i64 x2.2.2.1), (str x2.2.2.2.1), (str x2.2.2.2.2.1), (str x2.2.2.2.2.2.1), (str x2.2.2.2.2.2.2), (Value.int .i64 x4.2.2)]), (Value.bool true)]) rfl ⟨⟨_, [(Value.int .i64 x2.2.2.1), (str x2.2.2.2.1), (str x2.2.2.2.2.1), (str x2.2.2.2.2.2.1), (str x2.2.2.2.2.2.2), (Value.int .i64 x4.2.2)], rfl, reads_boxW (i := 2) rfl, .inl ⟨F_agg_43, F_size_43, rfl⟩⟩, ⟨rfl, trivial⟩⟩ _ rfl ⟨_, hr6, rfl, rfl⟩

set_option maxRecDepth 100000 in
theorem pack_Reader_Fault.spec (p0 : Nat) (sv0 : Value) (A0 : HP) (l0 : List Int) (p0_1 : Int) (hA0 : IsRd A0 sv0 l0.length 1 (fl (eI .u8) l0)) (r : Int) (H : pack_Reader_Fault l0 p0_1 = r) : FnSpec Try.prog 90 [(pt p0 0)] [(box p0 145 [sv0, (Value.int .i64 p0_1)]), A0] (fun v M => v = (Value.int .i64 r) ∧ M = [(box p0 145 [sv0, (Value.int .i64 p0_1)]), A0]) := by
  unfold pack_Reader_Fault at H
  refine spec_of Try.func90 rfl 9 rfl (Nat.le_of_ble_eq_true rfl) fun F w0 => ?_
  show Ent (St 9 w0 F [(0, (pt p0 0))] [(box p0 145 [sv0, (Value.int .i64 p0_1)]), A0]) _
  refine ent_seq ?_
  refine ent_region ?_
  refine ent_value (ov_assign rfl) rfl rfl rfl ?_
  refine ent_nil ?_
  refine ent_seq ?_
  refine ent_seq ?_
  refine ent_region ?_
  refine ent_value (ov_move rfl) rfl rfl rfl ?_
  refine ent_value (ov_bin rfl rfl (b_eql_of (fun w => rfl) rfl (eq_pn Try.underlying121 _ _))) rfl rfl rfl ?_
  refine ent_nil ?_
  refine ent_cond_false rfl rfl ?_
  refine ent_skip ?_
  refine ent_seq ?_
  refine ent_region ?_
  refine ent_value (ov_move rfl) rfl rfl rfl ?_
  refine ent_value (ov_nilCheck rfl) rfl rfl rfl ?_
  refine ent_value (ov_fieldAddr (sz := 0) (o := 0) rfl F_field_145_1 F_size_37) rfl rfl rfl ?_
  refine ent_value (ov_load (v := (Value.int .i64 p0_1)) rfl F_agg_37 (reads_box1 (i := 0) rfl rfl)) rfl rfl rfl ?_
  refine ent_value (ov_assign rfl) rfl rfl rfl ?_
  refine ent_nil ?_
  refine ent_retc ?_
  cases H
  exact ret_tmp rfl rfl ⟨rfl, rfl⟩

set_option maxRecDepth 100000 in
theorem pack_Reader_Left.spec (p0 : Nat) (sv0 : Value) (A0 : HP) (l0 : List Int) (p0_1 : Int) (hA0 : IsRd A0 sv0 l0.length 1 (fl (eI .u8) l0)) (r : Int) (H : pack_Reader_Left l0 p0_1 = r) : FnSpec Try.prog 91 [(pt p0 0)] [(box p0 145 [sv0, (Value.int .i64 p0_1)]), A0] (fun v M => v = (Value.int .i64 r) ∧ M = [(box p0 145 [sv0, (Value.int .i64 p0_1)]), A0]) := by
  unfold pack_Reader_Left at H
  refine spec_of Try.func91 rfl 10 rfl (Nat.le_of_ble_eq_true rfl) fun F w0 => ?_
  show Ent (St 10 w0 F [(0, (pt p0 0))] [(box p0 145 [sv0, (Value.int .i64 p0_1)]), A0]) _
  refine ent_seq ?_
  refine ent_region ?_
  refine ent_value (ov_assign rfl) rfl rfl rfl ?_
  refine ent_nil ?_
  refine ent_seq ?_
  refine ent_seq ?_
  refine ent_region ?_
  refine ent_value (ov_move rfl) rfl rfl rfl ?_
  refine ent_value (ov_bin rfl rfl (b_eql_of (fun w => rfl) rfl (eq_pn Try.underlying121 _ _))) rfl rfl rfl ?_
  refine ent_nil ?_
  refine ent_cond_false rfl rfl ?_
  refine ent_skip ?_
  refine ent_seq ?_
  refine ent_region ?_
  refine ent_value (ov_move rfl) rfl rfl rfl ?_
  refine ent_value (ov_nilCheck rfl) rfl rfl rfl ?_
  refine ent_value (ov_fieldAddr (sz := 0) (o := 0) rfl F_field_145_0 F_size_79) rfl rfl rfl ?_
  refine ent_value (ov_load (v := sv0) rfl F_agg_79 (reads_box1 (i := 0) rfl rfl)) rfl rfl rfl ?_
  refine ent_value (ov_len 1 rfl F_slice_79 rfl hA0) rfl rfl rfl ?_
  refine ent_value (ov_assign rfl) rfl rfl rfl ?_
  refine ent_nil ?_
  refine ent_retc ?_
  cases H
  exact ret_tmp rfl rfl ⟨rfl, rfl⟩

set_option maxRecDepth 100000 in
theorem fact_Read.spec (K : Nat) (sv0 : Value) (A0 : HP) (l0 : List Int) (a1 : Int) (hA0 : IsRd A0 sv0 l0.length 1 (fl (eI .u8) l0)) (r : (Int × (List Api_Fact))) (H : fact_Read K l0 a1 = some r) : FnSpec Try.prog 56 [sv0, (Value.int .i64 a1)] [A0] (fun v M => ∃ sv1 : Value, v = (Value.tuple #[sv1, (Value.int .i64 r.1)]) ∧ M = [A0, (own sv1 43 6 r.2.length (fl enc_Api_Fact r.2))]) := by
  unfold fact_Read at H
  refine spec_of Try.func56 rfl 60 rfl (Nat.le_of_ble_eq_true rfl) fun F w0 => ?_
  show Ent (St 60 w0 F [(0, sv0), (1, (Value.int .i64 a1))] [A0]) _
  refine ent_seq ?_
  refine ent_region ?_
  refine ent_value (ov_assign rfl) rfl rfl rfl ?_
  refine ent_value (ov_assign rfl) rfl rfl rfl ?_
  refine ent_nil ?_
  refine ent_seq ?_
  refine ent_seq ?_
  refine ent_region ?_
  refine ent_value (ov_move rfl) rfl rfl rfl ?_
  obtain ⟨x1, h1, H⟩ := thn_elim H
  refine ent_op (ot_call0 (first := []) (cap := []) (xs := [.tmp 11]) rfl rfl F_call_72 rfl (fact_many.spec a1 _ h1)) rfl rfl rfl ?_
  rintro _ _ ⟨rfl, rfl⟩
  refine ent_value (ov_un rfl (u_not _)) rfl rfl rfl ?_
  refine ent_nil ?_
  by_cases c1 : (!x1) = true
  · rw [if_pos c1] at H
    refine ent_cond_true rfl c1 ?_
    refine ent_seq ?_
    refine ent_region ?_
    refine ent_value (ov_assign rfl) rfl rfl rfl ?_
    refine ent_value (ov_assign rfl) rfl rfl rfl ?_
    refine ent_nil ?_
    refine ent_retc ?_
    cases H
    refine ent_ownnil 43 6 ?_
    refine ent_pick [1, 0] (by decide) rfl ?_
    exact ret_mem (vs := [(Value.slice none 0 0), (Value.int .i64 1)]) rfl ⟨rfl, ⟨rfl, trivial⟩⟩ _ rfl ⟨_, rfl, rfl⟩
  · rw [if_neg c1] at H
    refine ent_cond_false rfl (Bool.eq_false_iff.2 c1) ?_
    refine ent_skip ?_
    refine ent_seq ?_
    refine ent_region ?_
    refine ent_value (ov_move rfl) rfl rfl rfl ?_
    obtain ⟨x2, h2, H⟩ := Option.bind_eq_some_iff.1 H
    refine ent_op (ot_call (Lr := []) (first := []) (cap := []) (xs := [.tmp 14]) rfl rfl F_call_87 rfl (pack_NewReader.spec sv0 A0 l0 hA0 _ h2) rfl) rfl rfl rfl ?_
    rintro _ _ ⟨_, ⟨b1, sv2, rfl, rfl⟩, rfl⟩
    refine ent_value (ov_assign rfl) rfl rfl rfl ?_
    refine ent_nil ?_
    obtain ⟨x3, H1, H⟩ := Option.bind_eq_some_iff.1 H
    refine ent_seq_cut (fun a w => ∃ v1, x3 = Sum.inl v1 ∧ ∃ sv3 : Value, ∃ sv4 : Value, IsRd (own sv2 5 1 x2.1.length (fl (eI .u8) x2.1)) sv4 v1.2.1.length 1 (fl (eI .u8) v1.2.1) ∧ St 60 w0 F [(1, (Value.int .i64 a1)), (4, sv3), (6, (pt b1 0))] [A0, (own sv3 43 6 v1.1.length (fl enc_Api_Fact v1.1)), (box b1 145 [sv4, (Value.int .i64 v1.2.2)]), (own sv2 5 1 x2.1.length (fl (eI .u8) x2.1))] a w) ?_ ?_
    · refine ent_seq ?_
      refine ent_region ?_
      refine ent_value (ov_move rfl) rfl rfl rfl ?_
      obtain ⟨x4, h3, H1⟩ := Option.bind_eq_some_iff.1 H1
      refine ent_pick [1, 2, 0] (by decide) rfl ?_
      refine ent_op (ot_call (Lr := [A0]) (first := []) (cap := []) (xs := [.tmp 16, .const (Value.int .i64 50)]) rfl rfl F_call_88 rfl (pack_Reader_Count.spec K b1 sv2 x2.1 x2.2 50 _ h3) rfl) rfl rfl rfl ?_
      rintro _ _ ⟨_, ⟨sv5, hr2, rfl, rfl⟩, rfl⟩
      refine ent_value (ov_move rfl) rfl rfl rfl ?_
      refine ent_nil ?_
      refine ent_block ?_
      refine ent_loop (fun k a w => ∃ i3, ∃ l4, ∃ l5, ∃ i4, ∃ sv6 : Value, ∃ sv7 : Value, IsRd (own sv2 5 1 x2.1.length (fl (eI .u8) x2.1)) sv7 l5.length 1 (fl (eI .u8) l5) ∧ fact_Read_l0 K a1 x4 k i3 l4 l5 i4 = some x3 ∧ St 60 w0 F [(1, (Value.int .i64 a1)), (4, sv6), (6, (pt b1 0)), (17, (Value.int .i64 x4.2.2)), (18, (Value.int .i64 i3))] [A0, (own sv6 43 6 l4.length (fl enc_Api_Fact l4)), (box b1 145 [sv7, (Value.int .i64 i4)]), (own sv2 5 1 x2.1.length (fl (eI .u8) x2.1))] a w) K ?_ ?_
      · refine ent_ownnil 43 6 ?_
        exact ent_fin [3, 0, 1, 2] (by decide) rfl (sub_cons (t := 1) rfl (sub_cons (t := 4) rfl (sub_cons (t := 6) rfl (sub_cons (t := 17) rfl (sub_cons (t := 18) rfl (sub_nil _)))))) fun a w h => ⟨_, _, _, _, _, _, hr2, H1, h⟩
      · refine fun k => ent_exi fun i3 => ent_exi fun l4 => ent_exi fun l5 => ent_exi fun i4 => ent_exi fun sv6 => ent_exi fun sv7 => ent_and fun hr3 => ent_and fun H2 => ?_
        cases k with
        | zero => exact absurd H2 (by simp [fact_Read_l0])
        | succ k =>
          rw [fact_Read_l0] at H2
          refine ent_seq ?_
          refine ent_region ?_
          refine ent_value (ov_bin rfl rfl (b_lss _ _ _)) rfl rfl rfl ?_
          refine ent_nil ?_
          refine ent_seq ?_
          by_cases c2 : i3 < x4.2.2
          · rw [if_pos c2] at H2
            refine ent_cond_true rfl (decide_eq_true c2) ?_
            refine ent_skip ?_
            refine ent_seq ?_
            refine ent_block ?_
            refine ent_seq ?_
            refine ent_region ?_
            refine ent_value (ov_move rfl) rfl rfl rfl ?_
            refine ent_value (ov_move rfl) rfl rfl rfl ?_
            obtain ⟨x5, h4, H2⟩ := Option.bind_eq_some_iff.1 H2
            refine ent_pick [2, 3, 0, 1] (by decide) rfl ?_
            refine ent_op (ot_call (Lr := [A0, (own sv6 43 6 l4.length (fl enc_Api_Fact l4))]) (first := []) (cap := []) (xs := [.tmp 21, .tmp 22]) rfl rfl F_call_89 rfl (fact_one.spec K b1 sv7 (own sv2 5 1 x2.1.length (fl (eI .u8) x2.1)) l5 i4 a1 hr3 _ h4) rfl) rfl rfl rfl ?_
            rintro _ _ ⟨_, ⟨sv8, hr4, rfl, rfl⟩, rfl⟩
            refine ent_value (ov_move rfl) rfl rfl rfl ?_
            refine ent_value (ov_extract rfl rfl) rfl rfl rfl ?_
            refine ent_value (ov_extract rfl rfl) rfl rfl rfl ?_
            refine ent_op (ot_alloc F_zero_43) rfl rfl rfl ?_
            rintro _ _ ⟨b2, rfl, rfl⟩
            refine ent_op0 (ot_storeG (cs := [(Value.int .i64 0), (str ([] : List UInt8)), (str ([] : List UInt8)), (str ([] : List UInt8)), (str ([] : List UInt8)), (Value.int .i64 0)]) (cs' := [(Value.int .i64 x5.1), (str x5.2.1), (str x5.2.2.1), (str x5.2.2.2.1), (str x5.2.2.2.2.1), (Value.int .i64 x5.2.2.2.2.2.1)]) (us := [(Value.int .i64 x5.1), (str x5.2.1), (str x5.2.2.1), (str x5.2.2.2.1), (str x5.2.2.2.2.1), (Value.int .i64 x5.2.2.2.2.2.1)]) (L' := [(box b2 43 [(Value.int .i64 x5.1), (str x5.2.1), (str x5.2.2.1), (str x5.2.2.2.1), (str x5.2.2.2.2.1), (Value.int .i64 x5.2.2.2.2.2.1)]), (box b1 145 [sv8, (Value.int .i64 x5.2.2.2.2.2.2.2.2)]), (own sv2 5 1 x2.1.length (fl (eI .u8) x2.1)), A0, (own sv6 43 6 l4.length (fl enc_Api_Fact l4))]) 0 rfl rfl rfl (one_all rfl) F_size_43 rfl rfl (by simp) rfl) rfl rfl ?_
            rintro _ _ rfl
            refine ent_value (ov_assign rfl) rfl rfl rfl ?_
            refine ent_nil ?_
            refine ent_seq ?_
            refine ent_block ?_
            refine ent_seq ?_
            refine ent_region ?_
            refine ent_value (ov_move rfl) rfl rfl rfl ?_
            refine ent_value (ov_un rfl (u_not _)) rfl rfl rfl ?_
            refine ent_value (ov_assign rfl) rfl rfl rfl ?_
            refine ent_nil ?_
            by_cases c3 : (!x5.2.2.2.2.2.2.1) = true
            · rw [if_pos c3] at H2
              refine ent_cond_true rfl c3 ?_
              refine ent_seq ?_
              refine ent_region ?_
              refine ent_value (ov_assign rfl) rfl rfl rfl ?_
              refine ent_value (ov_assign rfl) rfl rfl rfl ?_
              refine ent_nil ?_
              refine ent_retc ?_
              cases H2
              have H3 := Option.some.inj (show some _ = some _ from H)
              cases H3
              refine ent_ownnil 43 6 ?_
              refine ent_pick [4, 0] (by decide) rfl ?_
              exact ret_mem (vs := [(Value.slice none 0 0), (Value.int .i64 2)]) rfl ⟨rfl, ⟨rfl, trivial⟩⟩ _ rfl ⟨_, rfl, rfl⟩
            · rw [if_neg c3] at H2
              refine ent_cond_false rfl (Bool.eq_false_iff.2 c3) ?_
              refine ent_seq ?_
              refine ent_region ?_
              refine ent_value (ov_move rfl) rfl rfl rfl ?_
              obtain ⟨x6, h5, H2⟩ := thn_elim H2
              refine ent_op (ot_call_same (Lr := [(box b2 43 [(Value.int .i64 x5.1), (str x5.2.1), (str x5.2.2.1), (str x5.2.2.2.1), (str x5.2.2.2.2.1), (Value.int .i64 x5.2.2.2.2.2.1)]), A0, (own sv6 43 6 l4.length (fl enc_Api_Fact l4))]) [1, 2, 0, 3, 4] [2, 0, 1, 3, 4] (first := []) (cap := []) (xs := [.tmp 30]) rfl rfl F_call_90 rfl (pack_Reader_Fault.spec b1 sv8 (own sv2 5 1 x2.1.length (fl (eI .u8) x2.1)) x5.2.2.2.2.2.2.2.1 x5.2.2.2.2.2.2.2.2 hr4 _ h5) (by decide) rfl (by decide) rfl) rfl rfl rfl ?_
              rintro _ _ ⟨rfl, rfl⟩
              refine ent_value (ov_bin rfl rfl (b_neq _ _ _)) rfl rfl rfl ?_
              refine ent_value (ov_assign rfl) rfl rfl rfl ?_
              refine ent_nil ?_
              by_cases c4 : ¬ (x6 = 0)
              · rw [if_pos c4] at H2
                refine ent_cond_true rfl (ne_t c4) ?_
                refine ent_seq ?_
                refine ent_region ?_
                refine ent_value (ov_move rfl) rfl rfl rfl ?_
                obtain ⟨x7, h6, H2⟩ := thn_elim H2
                refine ent_op (ot_call_same (Lr := [(box b2 43 [(Value.int .i64 x5.1), (str x5.2.1), (str x5.2.2.1), (str x5.2.2.2.1), (str x5.2.2.2.2.1), (Value.int .i64 x5.2.2.2.2.2.1)]), A0, (own sv6 43 6 l4.length (fl enc_Api_Fact l4))]) [1, 2, 0, 3, 4] [2, 0, 1, 3, 4] (first := []) (cap := []) (xs := [.tmp 33]) rfl rfl F_call_90 rfl (pack_Reader_Fault.spec b1 sv8 (own sv2 5 1 x2.1.length (fl (eI .u8) x2.1)) x5.2.2.2.2.2.2.2.1 x5.2.2.2.2.2.2.2.2 hr4 _ h6) (by decide) rfl (by decide) rfl) rfl rfl rfl ?_
                rintro _ _ ⟨rfl, rfl⟩
                refine ent_value (ov_assign rfl) rfl rfl rfl ?_
                refine ent_value (ov_assign rfl) rfl rfl rfl ?_
                refine ent_nil ?_
                refine ent_retc ?_
                cases H2
                have H4 := Option.some.inj (show some _ = some _ from H)
                cases H4
                refine ent_ownnil 43 6 ?_
                refine ent_pick [4, 0] (by decide) rfl ?_
                exact ret_mem (vs := [(Value.slice none 0 0), (Value.int .i64 x7)]) rfl ⟨rfl, ⟨rfl, trivial⟩⟩ _ rfl ⟨_, rfl, rfl⟩
              · rw [if_neg c4] at H2
                refine ent_cond_false rfl (ne_f c4) ?_
                refine ent_skip ?_
                refine ent_region ?_
                refine ent_value (ov_move rfl) rfl rfl rfl ?_
                refine ent_value (ov_load_agg (vs := [(Value.int .i64 x5.1), (str x5.2.1), (str x5.2.2.1), (str x5.2.2.2.1), (str x5.2.2.2.2.1), (Value.int .i64 x5.2.2.2.2.2.1)]) rfl F_agg_43 F_size_43 (reads_boxW (i := 0) rfl)) rfl rfl rfl ?_
                refine ent_op (ot_buildSlice (sz := 5) (xs := [.tmp 36]) (cs := fl enc_Api_Fact [(⟨(⟨x5.1, x5.2.1, x5.2.2.1, x5.2.2.2.1, x5.2.2.2.2.1⟩ : Api_Key), x5.2.2.2.2.2.1⟩ : Api_Fact)]) rfl rfl F_slice_35 F_size_43 F_zero_43 rfl rfl (all_size rfl) rfl (by decide)) rfl rfl rfl ?_
                rintro sv9 _ rfl
                by_cases c5 : (l4.length + [(⟨(⟨x5.1, x5.2.1, x5.2.2.1, x5.2.2.2.1, x5.2.2.2.2.1⟩ : Api_Key), x5.2.2.2.2.2.1⟩ : Api_Fact)].length) * 80 ≤ 140737488355328
                · rw [if_pos c5] at H2
                  refine ent_op (ot_appendx (sz := 5) (xs := l4) (ys := [(⟨(⟨x5.1, x5.2.1, x5.2.2.1, x5.2.2.2.1, x5.2.2.2.2.1⟩ : Api_Key), x5.2.2.2.2.2.1⟩ : Api_Fact)]) 5 0 rfl rfl F_slice_35 F_size_43 F_zero_43 rfl F_bytes_43 rfl rfl rfl (isRd_ownx 43) rfl enc_Api_Fact_one c5) rfl rfl rfl ?_
                  rintro sv10 _ rfl
                  refine ent_L [(own sv9 43 6 [(⟨(⟨x5.1, x5.2.1, x5.2.2.1, x5.2.2.2.1, x5.2.2.2.2.1⟩ : Api_Key), x5.2.2.2.2.2.1⟩ : Api_Fact)].length (fl enc_Api_Fact [(⟨(⟨x5.1, x5.2.1, x5.2.2.1, x5.2.2.2.1, x5.2.2.2.2.1⟩ : Api_Key), x5.2.2.2.2.2.1⟩ : Api_Fact)])), (box b2 43 [(Value.int .i64 x5.1), (str x5.2.1), (str x5.2.2.1), (str x5.2.2.2.1), (str x5.2.2.2.2.1), (Value.int .i64 x5.2.2.2.2.2.1)]), (box b1 145 [sv8, (Value.int .i64 x5.2.2.2.2.2.2.2.2)]), (own sv2 5 1 x2.1.length (fl (eI .u8) x2.1)), A0, (own sv10 43 6 (l4 ++ [(⟨(⟨x5.1, x5.2.1, x5.2.2.1, x5.2.2.2.1, x5.2.2.2.2.1⟩ : Api_Key), x5.2.2.2.2.2.1⟩ : Api_Fact)]).length (fl enc_Api_Fact (l4 ++ [(⟨(⟨x5.1, x5.2.1, x5.2.2.1, x5.2.2.2.1, x5.2.2.2.2.1⟩ : Api_Key), x5.2.2.2.2.2.1⟩ : Api_Fact)])))] rfl ?_
                  refine ent_value (ov_assign rfl) rfl rfl rfl ?_
                  refine ent_nil ?_
                  refine ent_region ?_
                  refine ent_value (ov_bin rfl rfl (b_add _ _ _) ) rfl rfl rfl ?_
                  refine ent_value (ov_move rfl) rfl rfl rfl ?_
                  refine ent_nil ?_
                  exact ent_fin [4, 5, 2, 3] (by decide) rfl (sub_cons (t := 1) rfl (sub_cons (t := 4) rfl (sub_cons (t := 6) rfl (sub_cons (t := 17) rfl (sub_cons (t := 18) rfl (sub_nil _)))))) fun a w h => ⟨k, Nat.lt_succ_self k, _, _, _, _, _, _, hr4, H2, h⟩
                · rw [if_neg c5] at H2
                  cases H2
          · rw [if_neg c2] at H2
            refine ent_cond_false rfl (decide_eq_false c2) ?_
            refine ent_exit ?_
            cases H2
            exact ent_fin [0, 1, 2, 3] (by decide) rfl (sub_cons (t := 1) rfl (sub_cons (t := 4) rfl (sub_cons (t := 6) rfl (sub_nil _)))) fun a w h => ⟨_, rfl, _, _, hr3, h⟩
    · refine ent_exi fun v1 => ent_and fun e_ => ?_
      subst e_
      rw [cas_inl] at H
      refine ent_exi fun sv3 => ent_exi fun sv4 => ent_and fun hr1 => ?_
      refine ent_seq ?_
      refine ent_block ?_
      refine ent_seq ?_
      refine ent_region ?_
      refine ent_value (ov_move rfl) rfl rfl rfl ?_
      obtain ⟨x8, h7, H⟩ := thn_elim H
      refine ent_op (ot_call_same (Lr := [A0, (own sv3 43 6 v1.1.length (fl enc_Api_Fact v1.1))]) [2, 3, 0, 1] [2, 3, 0, 1] (first := []) (cap := []) (xs := [.tmp 41]) rfl rfl F_call_90 rfl (pack_Reader_Fault.spec b1 sv4 (own sv2 5 1 x2.1.length (fl (eI .u8) x2.1)) v1.2.1 v1.2.2 hr1 _ h7) (by decide) rfl (by decide) rfl) rfl rfl rfl ?_
      rintro _ _ ⟨rfl, rfl⟩
      refine ent_value (ov_bin rfl rfl (b_neq _ _ _)) rfl rfl rfl ?_
      refine ent_value (ov_assign rfl) rfl rfl rfl ?_
      refine ent_nil ?_
      by_cases c6 : ¬ (x8 = 0)
      · rw [if_pos c6] at H
        refine ent_cond_true rfl (ne_t c6) ?_
        refine ent_seq ?_
        refine ent_region ?_
        refine ent_value (ov_move rfl) rfl rfl rfl ?_
        obtain ⟨x9, h8, H⟩ := thn_elim H
        refine ent_op (ot_call_same (Lr := [A0, (own sv3 43 6 v1.1.length (fl enc_Api_Fact v1.1))]) [2, 3, 0, 1] [2, 3, 0, 1] (first := []) (cap := []) (xs := [.tmp 44]) rfl rfl F_call_90 rfl (pack_Reader_Fault.spec b1 sv4 (own sv2 5 1 x2.1.length (fl (eI .u8) x2.1)) v1.2.1 v1.2.2 hr1 _ h8) (by decide) rfl (by decide) rfl) rfl rfl rfl ?_
        rintro _ _ ⟨rfl, rfl⟩
        refine ent_value (ov_assign rfl) rfl rfl rfl ?_
        refine ent_value (ov_assign rfl) rfl rfl rfl ?_
        refine ent_nil ?_
        refine ent_retc ?_
        cases H
        refine ent_ownnil 43 6 ?_
        refine ent_pick [1, 0] (by decide) rfl ?_
        exact ret_mem (vs := [(Value.slice none 0 0), (Value.int .i64 x9)]) rfl ⟨rfl, ⟨rfl, trivial⟩⟩ _ rfl ⟨_, rfl, rfl⟩
      · rw [if_neg c6] at H
        refine ent_cond_false rfl (ne_f c6) ?_
        refine ent_seq ?_
        refine ent_region ?_
        refine ent_value (ov_move rfl) rfl rfl rfl ?_
        obtain ⟨x10, h9, H⟩ := thn_elim H
        refine ent_op (ot_call_same (Lr := [A0, (own sv3 43 6 v1.1.length (fl enc_Api_Fact v1.1))]) [2, 3, 0, 1] [2, 3, 0, 1] (first := []) (cap := []) (xs := [.tmp 47]) rfl rfl F_call_91 rfl (pack_Reader_Left.spec b1 sv4 (own sv2 5 1 x2.1.length (fl (eI .u8) x2.1)) v1.2.1 v1.2.2 hr1 _ h9) (by decide) rfl (by decide) rfl) rfl rfl rfl ?_
        rintro _ _ ⟨rfl, rfl⟩
        refine ent_value (ov_bin rfl rfl (b_gtr _ _ _)) rfl rfl rfl ?_
        refine ent_value (ov_assign rfl) rfl rfl rfl ?_
        refine ent_nil ?_
        by_cases c7 : 0 < x10
        · rw [if_pos c7] at H
          refine ent_cond_true rfl (decide_eq_true c7) ?_
          refine ent_seq ?_
          refine ent_region ?_
          refine ent_value (ov_assign rfl) rfl rfl rfl ?_
          refine ent_value (ov_assign rfl) rfl rfl rfl ?_
          refine ent_nil ?_
          refine ent_retc ?_
          cases H
          refine ent_ownnil 43 6 ?_
          refine ent_pick [1, 0] (by decide) rfl ?_
          exact ret_mem (vs := [(Value.slice none 0 0), (Value.int .i64 4)]) rfl ⟨rfl, ⟨rfl, trivial⟩⟩ _ rfl ⟨_, rfl, rfl⟩
        · rw [if_neg c7] at H
          refine ent_cond_false rfl (decide_eq_false c7) ?_
          refine ent_skip ?_
          refine ent_seq ?_
          refine ent_seq ?_
          refine ent_region ?_
          refine ent_value (ov_move rfl) rfl rfl rfl ?_
          refine ent_value (ov_move rfl) rfl rfl rfl ?_
          obtain ⟨x11, h10, H⟩ := Option.bind_eq_some_iff.1 H
          refine ent_op (ot_call_same (Lr := [A0, (box b1 145 [sv4, (Value.int .i64 v1.2.2)]), (own sv2 5 1 x2.1.length (fl (eI .u8) x2.1))]) [1, 0, 2, 3] [1, 0, 2, 3] (first := []) (cap := []) (xs := [.tmp 51, .tmp 52]) rfl rfl F_call_29 rfl (fact_All.spec K sv3 (own sv3 43 6 v1.1.length (fl enc_Api_Fact v1.1)) v1.1 a1 (isRd_ownx 43) _ h10) (by decide) rfl (by decide) rfl) rfl rfl rfl ?_
          rintro _ _ ⟨rfl, rfl⟩
          refine ent_value (ov_move rfl) rfl rfl rfl ?_
          refine ent_value (ov_extract rfl rfl) rfl rfl rfl ?_
          refine ent_value (ov_extract rfl rfl) rfl rfl rfl ?_
          refine ent_value (ov_assign rfl) rfl rfl rfl ?_
          refine ent_value (ov_assign rfl) rfl rfl rfl ?_
          refine ent_nil ?_
          refine ent_seq ?_
          refine ent_region ?_
          refine ent_value (ov_move rfl) rfl rfl rfl ?_
          refine ent_value (ov_bin rfl rfl (b_neq _ _ _)) rfl rfl rfl ?_
          refine ent_nil ?_
          by_cases c8 : ¬ (x11.1 = 0)
          · rw [if_pos c8] at H
            refine ent_cond_true rfl (ne_t c8) ?_
            refine ent_seq ?_
            refine ent_region ?_
            refine ent_value (ov_move rfl) rfl rfl rfl ?_
            refine ent_value (ov_assign rfl) rfl rfl rfl ?_
            refine ent_value (ov_assign rfl) rfl rfl rfl ?_
            refine ent_nil ?_
            refine ent_retc ?_
            cases H
            refine ent_ownnil 43 6 ?_
            refine ent_pick [1, 0] (by decide) rfl ?_
            exact ret_mem (vs := [(Value.slice none 0 0), (Value.int .i64 x11.1)]) rfl ⟨rfl, ⟨rfl, trivial⟩⟩ _ rfl ⟨_, rfl, rfl⟩
          · rw [if_neg c8] at H
            refine ent_cond_false rfl (ne_f c8) ?_
            refine ent_skip ?_
            refine ent_seq ?_
            refine ent_region ?_
            refine ent_value (ov_move rfl) rfl rfl rfl ?_
            refine ent_value (ov_assign rfl) rfl rfl rfl ?_
            refine ent_value (ov_assign rfl) rfl rfl rfl ?_
            refine ent_nil ?_
            refine ent_retc ?_
            cases H
            refine ent_pick [0, 1] (by decide) rfl ?_
            exact ret_mem (vs := [sv3, (Value.int .i64 0)]) rfl ⟨rfl, ⟨rfl, trivial⟩⟩ _ rfl ⟨_, rfl, rfl⟩

set_option maxRecDepth 100000 in
theorem ossuaryref09_Same.spec (K : Nat) (sv0 : Value) (A0 : HP) (sv1 : Value) (A1 : HP) (l0 : List Api_Fact) (l1 : List Api_Fact) (hA0 : IsRd A0 sv0 l0.length 6 (fl enc_Api_Fact l0)) (hA1 : IsRd A1 sv1 l1.length 6 (fl enc_Api_Fact l1)) (r : Bool) (H : ossuaryref09_Same K l0 l1 = some r) : FnSpec Try.prog 59 [sv0, sv1] [A0, A1] (fun v M => v = (Value.bool r) ∧ M = [A0, A1]) := by
  unfold ossuaryref09_Same at H
  refine spec_of Try.func59 rfl 26 rfl (Nat.le_of_ble_eq_true rfl) fun F w0 => ?_
  show Ent (St 26 w0 F [(0, sv0), (1, sv1)] [A0, A1]) _
  refine ent_seq ?_
  refine ent_region ?_
  refine ent_value (ov_assign rfl) rfl rfl rfl ?_
  refine ent_nil ?_
  refine ent_seq ?_
  refine ent_seq ?_
  refine ent_region ?_
  refine ent_value (ov_move rfl) rfl rfl rfl ?_
  refine ent_value (ov_len 0 rfl F_slice_35 rfl hA0) rfl rfl rfl ?_
  refine ent_value (ov_move rfl) rfl rfl rfl ?_
  refine ent_value (ov_len 1 rfl F_slice_35 rfl hA1) rfl rfl rfl ?_
  refine ent_value (ov_bin rfl rfl (b_neq _ _ _)) rfl rfl rfl ?_
  refine ent_nil ?_
  by_cases c1 : ¬ ((l0.length : Int) = (l1.length : Int))
  · rw [if_pos c1] at H
    refine ent_cond_true rfl (ne_t c1) ?_
    refine ent_seq ?_
    refine ent_region ?_
    refine ent_value (ov_assign rfl) rfl rfl rfl ?_
    refine ent_nil ?_
    refine ent_retc ?_
    cases H
    exact ret_tmp rfl rfl ⟨rfl, rfl⟩
  · rw [if_neg c1] at H
    refine ent_cond_false rfl (ne_f c1) ?_
    refine ent_skip ?_
    refine ent_seq ?_
    refine ent_seq ?_
    refine ent_region ?_
    refine ent_value (ov_assign rfl) rfl rfl rfl ?_
    refine ent_nil ?_
    refine ent_block ?_
    refine ent_loop (fun k a w => ∃ i1, ossuaryref09_Same_l0 K l0 l1 k i1 = some r ∧ St 26 w0 F [(0, sv0), (1, sv1), (5, (Value.int .i64 i1))] [A0, A1] a w) K ?_ ?_
    · exact ent_fin [0, 1] (by decide) rfl (sub_cons (t := 0) rfl (sub_cons (t := 1) rfl (sub_cons (t := 5) rfl (sub_nil _)))) fun a w h => ⟨_, H, h⟩
    · refine fun k => ent_exi fun i1 => ent_and fun H1 => ?_
      cases k with
      | zero => exact absurd H1 (by simp [ossuaryref09_Same_l0])
      | succ k =>
        rw [ossuaryref09_Same_l0] at H1
        refine ent_seq ?_
        refine ent_seq ?_
        refine ent_region ?_
        refine ent_value (ov_move rfl) rfl rfl rfl ?_
        refine ent_value (ov_move rfl) rfl rfl rfl ?_
        refine ent_value (ov_len 0 rfl F_slice_35 rfl hA0) rfl rfl rfl ?_
        refine ent_value (ov_bin rfl rfl (b_lss _ _ _)) rfl rfl rfl ?_
        refine ent_nil ?_
        by_cases c2 : i1 < (l0.length : Int)
        · rw [if_pos c2] at H1
          refine ent_cond_true rfl (decide_eq_true c2) ?_
          refine ent_skip ?_
          refine ent_seq ?_
          refine ent_block ?_
          refine ent_seq ?_
          by_cases c3 : 0 ≤ i1
          · rw [if_pos c3] at H1
            by_cases c4 : i1 < (l1.length : Int)
            · rw [if_pos c4] at H1
              refine ent_drawm 9 rfl (fun done a w => StD 26 w0 F [(0, sv0), (1, sv1), (5, (Value.int .i64 i1)), (11, (Value.int .i64 i1)), (12, sv0), (13, (Value.int .i64 (l0.length : Int))), (14, (Value.bool (decide (i1 < (l0.length : Int)))))] [(0, 17, sv0), (1, 18, (Value.int .i64 i1)), (2, 19, (eptr sv0 (i1.toNat * 6))), (3, 20, (Value.agg #[(Value.int .i64 (((l0.getD i1.toNat z_Api_Fact).Key).Hour)), (str (((l0.getD i1.toNat z_Api_Fact).Key).Dims_0)), (str (((l0.getD i1.toNat z_Api_Fact).Key).Dims_1)), (str (((l0.getD i1.toNat z_Api_Fact).Key).Dims_2)), (str (((l0.getD i1.toNat z_Api_Fact).Key).Dims_3)), (Value.int .i64 ((l0.getD i1.toNat z_Api_Fact).Value))])), (4, 21, sv1), (5, 22, (Value.int .i64 i1)), (6, 23, (eptr sv1 (i1.toNat * 6))), (7, 24, (Value.agg #[(Value.int .i64 (((l1.getD i1.toNat z_Api_Fact).Key).Hour)), (str (((l1.getD i1.toNat z_Api_Fact).Key).Dims_0)), (str (((l1.getD i1.toNat z_Api_Fact).Key).Dims_1)), (str (((l1.getD i1.toNat z_Api_Fact).Key).Dims_2)), (str (((l1.getD i1.toNat z_Api_Fact).Key).Dims_3)), (Value.int .i64 ((l1.getD i1.toNat z_Api_Fact).Value))])), (8, 25, (Value.bool (!((((((l0.getD i1.toNat z_Api_Fact).Key).Hour) == (((l1.getD i1.toNat z_Api_Fact).Key).Hour)) && ((((((l0.getD i1.toNat z_Api_Fact).Key).Dims_0) == (((l1.getD i1.toNat z_Api_Fact).Key).Dims_0)) && (((((l0.getD i1.toNat z_Api_Fact).Key).Dims_1) == (((l1.getD i1.toNat z_Api_Fact).Key).Dims_1)) && (((((l0.getD i1.toNat z_Api_Fact).Key).Dims_2) == (((l1.getD i1.toNat z_Api_Fact).Key).Dims_2)) && (((((l0.getD i1.toNat z_Api_Fact).Key).Dims_3) == (((l1.getD i1.toNat z_Api_Fact).Key).Dims_3)) && true)))) && true)) && ((((l0.getD i1.toNat z_Api_Fact).Value) == ((l1.getD i1.toNat z_Api_Fact).Value)) && true)))))] done [A0, A1] a w) (by kernel_rfl) (by kernel_rfl) (draw_startL (sub_cons (t := 0) rfl (sub_cons (t := 1) rfl (sub_cons (t := 5) rfl (sub_cons (t := 11) rfl (sub_cons (t := 12) rfl (sub_cons (t := 13) rfl (sub_cons (t := 14) rfl (sub_nil _)))))))) rfl) ?_ ?_
              · refine ⟨?_, ?_, ?_, ?_, ?_, ?_, ?_, ?_, ?_, trivial⟩
                · intro done hi hc hcu
                  exact draw_value (i := 0) (t := 17) (v := sv0) rfl rfl (wanted_none rfl) (fun a => hasA_base) (ov_move rfl) rfl rfl (onlyT_spec (k0 := 0) rfl rfl rfl)
                · intro done hi hc hcu
                  exact draw_value (i := 1) (t := 18) (v := (Value.int .i64 i1)) rfl rfl (wanted_none rfl) (fun a => hasA_base) (ov_move rfl) rfl rfl (onlyT_spec (k0 := 1) rfl rfl rfl)
                · intro done hi hc hcu
                  have d0 : done 0 = true := done_of (j := 0) hcu rfl (by decide) rfl
                  have d1 : done 1 = true := done_of (j := 1) hcu rfl (by decide) rfl
                  exact draw_value (i := 2) (t := 19) (v := (eptr sv0 (i1.toNat * 6))) rfl rfl (wanted_none rfl) (fun a => (hasA_cons (k := 1) rfl d1 (hasA_cons (k := 0) rfl d0 hasA_base))) (ov_indexAddr (sz := 5) 0 rfl rfl F_slice_35 F_size_43 rfl hA0 c3 c2) rfl rfl (onlyT_spec (k0 := 2) rfl rfl rfl)
                · intro done hi hc hcu
                  have d2 : done 2 = true := done_of (j := 2) hcu rfl (by decide) rfl
                  exact draw_value (i := 3) (t := 20) (v := (Value.agg #[(Value.int .i64 (((l0.getD i1.toNat z_Api_Fact).Key).Hour)), (str (((l0.getD i1.toNat z_Api_Fact).Key).Dims_0)), (str (((l0.getD i1.toNat z_Api_Fact).Key).Dims_1)), (str (((l0.getD i1.toNat z_Api_Fact).Key).Dims_2)), (str (((l0.getD i1.toNat z_Api_Fact).Key).Dims_3)), (Value.int .i64 ((l0.getD i1.toNat z_Api_Fact).Value))])) rfl rfl (wanted_none rfl) (fun a => (hasA_cons (k := 2) rfl d2 hasA_base)) (ov_load_agg (vs := [(Value.int .i64 (((l0.getD i1.toNat z_Api_Fact).Key).Hour)), (str (((l0.getD i1.toNat z_Api_Fact).Key).Dims_0)), (str (((l0.getD i1.toNat z_Api_Fact).Key).Dims_1)), (str (((l0.getD i1.toNat z_Api_Fact).Key).Dims_2)), (str (((l0.getD i1.toNat z_Api_Fact).Key).Dims_3)), (Value.int .i64 ((l0.getD i1.toNat z_Api_Fact).Value))]) rfl F_agg_43 F_size_43 (reads_rd (i := 0) rfl hA0 (by simp) (fl_read0 enc_Api_Fact_len (ix_lt c3 c2) rfl))) rfl rfl (onlyT_spec (k0 := 3) rfl rfl rfl)
                · intro done hi hc hcu
                  exact draw_value (i := 4) (t := 21) (v := sv1) rfl rfl (wanted_none rfl) (fun a => hasA_base) (ov_move rfl) rfl rfl (onlyT_spec (k0 := 4) rfl rfl rfl)
                · intro done hi hc hcu
                  exact draw_value (i := 5) (t := 22) (v := (Value.int .i64 i1)) rfl rfl (wanted_none rfl) (fun a => hasA_base) (ov_move rfl) rfl rfl (onlyT_spec (k0 := 5) rfl rfl rfl)
                · intro done hi hc hcu
                  have d4 : done 4 = true := done_of (j := 4) hcu rfl (by decide) rfl
                  have d5 : done 5 = true := done_of (j := 5) hcu rfl (by decide) rfl
                  exact draw_value (i := 6) (t := 23) (v := (eptr sv1 (i1.toNat * 6))) rfl rfl (wanted_none rfl) (fun a => (hasA_cons (k := 5) rfl d5 (hasA_cons (k := 4) rfl d4 hasA_base))) (ov_indexAddr (sz := 5) 1 rfl rfl F_slice_35 F_size_43 rfl hA1 c3 c4) rfl rfl (onlyT_spec (k0 := 6) rfl rfl rfl)
                · intro done hi hc hcu
                  have d6 : done 6 = true := done_of (j := 6) hcu rfl (by decide) rfl
                  exact draw_value (i := 7) (t := 24) (v := (Value.agg #[(Value.int .i64 (((l1.getD i1.toNat z_Api_Fact).Key).Hour)), (str (((l1.getD i1.toNat z_Api_Fact).Key).Dims_0)), (str (((l1.getD i1.toNat z_Api_Fact).Key).Dims_1)), (str (((l1.getD i1.toNat z_Api_Fact).Key).Dims_2)), (str (((l1.getD i1.toNat z_Api_Fact).Key).Dims_3)), (Value.int .i64 ((l1.getD i1.toNat z_Api_Fact).Value))])) rfl rfl (wanted_none rfl) (fun a => (hasA_cons (k := 6) rfl d6 hasA_base)) (ov_load_agg (vs := [(Value.int .i64 (((l1.getD i1.toNat z_Api_Fact).Key).Hour)), (str (((l1.getD i1.toNat z_Api_Fact).Key).Dims_0)), (str (((l1.getD i1.toNat z_Api_Fact).Key).Dims_1)), (str (((l1.getD i1.toNat z_Api_Fact).Key).Dims_2)), (str (((l1.getD i1.toNat z_Api_Fact).Key).Dims_3)), (Value.int .i64 ((l1.getD i1.toNat z_Api_Fact).Value))]) rfl F_agg_43 F_size_43 (reads_rd (i := 1) rfl hA1 (by simp) (fl_read0 enc_Api_Fact_len (ix_lt c3 c4) rfl))) rfl rfl (onlyT_spec (k0 := 7) rfl rfl rfl)
                · intro done hi hc hcu
                  have d3 : done 3 = true := done_of (j := 3) hcu rfl (by decide) rfl
                  have d7 : done 7 = true := done_of (j := 7) hcu rfl (by decide) rfl
                  exact draw_value (i := 8) (t := 25) (v := (Value.bool (!((((((l0.getD i1.toNat z_Api_Fact).Key).Hour) == (((l1.getD i1.toNat z_Api_Fact).Key).Hour)) && ((((((l0.getD i1.toNat z_Api_Fact).Key).Dims_0) == (((l1.getD i1.toNat z_Api_Fact).Key).Dims_0)) && (((((l0.getD i1.toNat z_Api_Fact).Key).Dims_1) == (((l1.getD i1.toNat z_Api_Fact).Key).Dims_1)) && (((((l0.getD i1.toNat z_Api_Fact).Key).Dims_2) == (((l1.getD i1.toNat z_Api_Fact).Key).Dims_2)) && (((((l0.getD i1.toNat z_Api_Fact).Key).Dims_3) == (((l1.getD i1.toNat z_Api_Fact).Key).Dims_3)) && true)))) && true)) && ((((l0.getD i1.toNat z_Api_Fact).Value) == ((l1.getD i1.toNat z_Api_Fact).Value)) && true))))) rfl rfl (wanted_none rfl) (fun a => (hasA_cons (k := 7) rfl d7 (hasA_cons (k := 3) rfl d3 hasA_base))) (ov_bin rfl rfl (same_43_n _ _ _ _ _ _ _ _ _ _ _ _)) rfl rfl (onlyT_spec (k0 := 8) rfl rfl rfl)
              · intro done hall
                refine draw_endL [A0, A1] rfl (fun a => (hasA_cons (k := 0) rfl (hall 0 (by decide)) (hasA_cons (k := 1) rfl (hall 1 (by decide)) (hasA_cons (k := 2) rfl (hall 2 (by decide)) (hasA_cons (k := 3) rfl (hall 3 (by decide)) (hasA_cons (k := 4) rfl (hall 4 (by decide)) (hasA_cons (k := 5) rfl (hall 5 (by decide)) (hasA_cons (k := 6) rfl (hall 6 (by decide)) (hasA_cons (k := 7) rfl (hall 7 (by decide)) (hasA_cons (k := 8) rfl (hall 8 (by decide)) hasA_base)))))))))) ?_
                by_cases c5 : (!((((((l0.getD i1.toNat z_Api_Fact).Key).Hour) == (((l1.getD i1.toNat z_Api_Fact).Key).Hour)) && ((((((l0.getD i1.toNat z_Api_Fact).Key).Dims_0) == (((l1.getD i1.toNat z_Api_Fact).Key).Dims_0)) && (((((l0.getD i1.toNat z_Api_Fact).Key).Dims_1) == (((l1.getD i1.toNat z_Api_Fact).Key).Dims_1)) && (((((l0.getD i1.toNat z_Api_Fact).Key).Dims_2) == (((l1.getD i1.toNat z_Api_Fact).Key).Dims_2)) && (((((l0.getD i1.toNat z_Api_Fact).Key).Dims_3) == (((l1.getD i1.toNat z_Api_Fact).Key).Dims_3)) && true)))) && true)) && ((((l0.getD i1.toNat z_Api_Fact).Value) == ((l1.getD i1.toNat z_Api_Fact).Value)) && true))) = true
                · rw [if_pos c5] at H1
                  refine ent_cond_true rfl c5 ?_
                  refine ent_seq ?_
                  refine ent_region ?_
                  refine ent_value (ov_assign rfl) rfl rfl rfl ?_
                  refine ent_nil ?_
                  refine ent_retc ?_
                  cases H1
                  exact ret_tmp rfl rfl ⟨rfl, rfl⟩
                · rw [if_neg c5] at H1
                  refine ent_cond_false rfl (Bool.eq_false_iff.2 c5) ?_
                  refine ent_skip ?_
                  refine ent_region ?_
                  refine ent_value (ov_move rfl) rfl rfl rfl ?_
                  refine ent_value (ov_bin rfl rfl (b_add _ _ _) ) rfl rfl rfl ?_
                  refine ent_value (ov_assign rfl) rfl rfl rfl ?_
                  refine ent_nil ?_
                  exact ent_fin [0, 1] (by decide) rfl (sub_cons (t := 0) rfl (sub_cons (t := 1) rfl (sub_cons (t := 5) rfl (sub_nil _)))) fun a w h => ⟨k, Nat.lt_succ_self k, _, H1, h⟩
            · rw [if_neg c4] at H1
              cases H1
          · rw [if_neg c3] at H1
            cases H1
        · rw [if_neg c2] at H1
          refine ent_cond_false rfl (decide_eq_false c2) ?_
          refine ent_exit ?_
          refine ent_seq ?_
          refine ent_region ?_
          refine ent_value (ov_assign rfl) rfl rfl rfl ?_
          refine ent_nil ?_
          refine ent_retc ?_
          cases H1
          exact ret_tmp rfl rfl ⟨rfl, rfl⟩

set_option maxRecDepth 100000 in
theorem ossuaryref01_Same.spec (sv0 : Value) (A0 : HP) (sv1 : Value) (A1 : HP) (l0 : List Int) (l1 : List Int) (hA0 : IsRd A0 sv0 l0.length 1 (fl (eI .u8) l0)) (hA1 : IsRd A1 sv1 l1.length 1 (fl (eI .u8) l1)) (r : Bool) (H : ossuaryref01_Same l0 l1 = r) : FnSpec Try.prog 58 [sv0, sv1] [A0, A1] (fun v M => v = (Value.bool r) ∧ M = [A0, A1]) := by
  unfold ossuaryref01_Same at H
  refine spec_of Try.func58 rfl 10 rfl (Nat.le_of_ble_eq_true rfl) fun F w0 => ?_
  show Ent (St 10 w0 F [(0, sv0), (1, sv1)] [A0, A1]) _
  refine ent_seq ?_
  refine ent_region ?_
  refine ent_value (ov_assign rfl) rfl rfl rfl ?_
  refine ent_nil ?_
  refine ent_seq ?_
  refine ent_region ?_
  refine ent_value (ov_move rfl) rfl rfl rfl ?_
  refine ent_value (ov_b2s 0 rfl F_slice_79 Try.underlying5 Try.underlying9 rfl hA0) rfl rfl rfl ?_
  refine ent_value (ov_move rfl) rfl rfl rfl ?_
  refine ent_value (ov_b2s 1 rfl F_slice_79 Try.underlying5 Try.underlying9 rfl hA1) rfl rfl rfl ?_
  refine ent_value (ov_bin rfl rfl (b_eql_str _ _)) rfl rfl rfl ?_
  refine ent_value (ov_assign rfl) rfl rfl rfl ?_
  refine ent_nil ?_
  refine ent_retc ?_
  cases H
  exact ret_tmp rfl rfl ⟨rfl, rfl⟩

end Go.Proofs.Ytmhhjhckbiaidaa.FactBack
