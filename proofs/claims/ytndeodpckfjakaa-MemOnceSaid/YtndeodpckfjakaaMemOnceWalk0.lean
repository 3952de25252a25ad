/- Printed by gen.py: that the machine's calls do what the plain functions of MemOnce say. -/
import Derived.Test.YtndeodpckfjakaaESq
import Derived.Test.YtndeodpckfjakaaProg
import Derived.Test.YtndeodpckfjakaaEBun
import Derived.Test.YtndeodpckfjakaaEClear
import Derived.Test.YtndeodpckfjakaaESortFAt
import Derived.Test.YtndeodpckfjakaaESortAt
import Derived.Test.YtndeodpckfjakaaEJag
import Derived.Test.YtndeodpckfjakaaMemOncePure
set_option linter.unusedVariables false
set_option linter.unusedSimpArgs false
set_option maxHeartbeats 8000000
set_option maxRecDepth 100000
namespace Go.Proofs.Ytndeodpckfjakaa.MemOnce
open Go Go.RowKit E
open Go.Value (int bool slice agg)

def enc_Api_Key (x : Api_Key) : List Value := [(Value.int .i64 x.Hour), (str x.Dims_0), (str x.Dims_1), (str x.Dims_2), (str x.Dims_3)]
theorem enc_Api_Key_one (x : Api_Key) : (enc_Api_Key x).all (·.oneCell') = true := rfl
theorem enc_Api_Key_len (x : Api_Key) : (enc_Api_Key x).length = 5 := rfl
def enc_Api_Fact (x : Api_Fact) : List Value := [(Value.int .i64 x.Key.Hour), (str x.Key.Dims_0), (str x.Key.Dims_1), (str x.Key.Dims_2), (str x.Key.Dims_3), (Value.int .i64 x.Value)]
theorem enc_Api_Fact_one (x : Api_Fact) : (enc_Api_Fact x).all (·.oneCell') = true := rfl
theorem enc_Api_Fact_len (x : Api_Fact) : (enc_Api_Fact x).length = 6 := rfl
def enc_Ossuaryref17_Batch (x : Ossuaryref17_Batch) : List Value := [(Value.int .i64 x.Seq), (Value.int .i64 x.Tick), (Value.int .i64 x.Budget), x.Facts.v]
theorem enc_Ossuaryref17_Batch_len (x : Ossuaryref17_Batch) : (enc_Ossuaryref17_Batch x).length = 4 := rfl
def enc_Wal_Batch (x : Wal_Batch) (v : Value) : List Value := [(Value.int .i64 x.Seq), (Value.int .i64 x.Tick), (Value.int .i64 x.Budget), v]
theorem enc_Wal_Batch_len (x : Wal_Batch) (v : Value) : (enc_Wal_Batch x v).length = 4 := rfl
theorem enc_Wal_Batch_one (x : Wal_Batch) (v : Value) (h : v.oneCell' = true) : ∀ u ∈ enc_Wal_Batch x v, u.oneCell' = true := List.all_eq_true.1 (by simp only [enc_Wal_Batch, List.all_cons, List.all_nil, h, Bool.and_true]; rfl)
def jlen_Wal_Batch (x : Wal_Batch) : Nat := x.Facts.length
def jics_Wal_Batch (x : Wal_Batch) : List Value := fl enc_Api_Fact x.Facts
theorem F_slice_59 : sliceB Try.prog 59 = some 68 := by kernel_rfl
theorem F_size_68 : sizeB Try.prog 68 = some 4 := by kernel_rfl
theorem F_field_68_3 : fieldB Try.prog 68 3 = some (3, 46) := by kernel_rfl
theorem F_size_46 : sizeB Try.prog 46 = some 1 := by kernel_rfl
theorem F_agg_46 : aggB Try.prog 46 = some false := by kernel_rfl
theorem F_slice_46 : sliceB Try.prog 46 = some 93 := by kernel_rfl
theorem F_size_93 : sizeB Try.prog 93 = some 6 := by kernel_rfl
theorem F_field_93_0 : fieldB Try.prog 93 0 = some (0, 42) := by kernel_rfl
theorem F_size_42 : sizeB Try.prog 42 = some 5 := by kernel_rfl
theorem F_field_42_1 : fieldB Try.prog 42 1 = some (1, 40) := by kernel_rfl
theorem F_size_40 : sizeB Try.prog 40 = some 4 := by kernel_rfl
theorem F_array_40 : arrayB Try.prog 40 = some (4, 9) := by kernel_rfl
theorem F_size_9 : sizeB Try.prog 9 = some 1 := by kernel_rfl
theorem F_agg_9 : aggB Try.prog 9 = some false := by kernel_rfl
theorem F_call_12 : callB Try.prog 12 = true := by kernel_rfl
theorem F_call_19 : callB Try.prog 19 = true := by kernel_rfl
theorem F_zero_118 : zeroB Try.prog 118 = some [(Value.int .i64 0), (Value.slice none 0 0), (Value.int .i64 0)] := by kernel_rfl
theorem F_places_118 : placesB Try.prog 118 = some [(0, 1), (1, 1), (2, 1)] := by kernel_rfl
theorem F_call_21 : callB Try.prog 21 = true := by kernel_rfl
theorem F_zero_42 : zeroB Try.prog 42 = some [(Value.int .i64 0), (str ([] : List UInt8)), (str ([] : List UInt8)), (str ([] : List UInt8)), (str ([] : List UInt8))] := by kernel_rfl
theorem F_places_42 : placesB Try.prog 42 = some [(0, 1), (1, 4)] := by kernel_rfl
theorem F_zero_93 : zeroB Try.prog 93 = some [(Value.int .i64 0), (str ([] : List UInt8)), (str ([] : List UInt8)), (str ([] : List UInt8)), (str ([] : List UInt8)), (Value.int .i64 0)] := by kernel_rfl
theorem F_places_93 : placesB Try.prog 93 = some [(0, 5), (5, 1)] := by kernel_rfl
theorem F_zero_68 : zeroB Try.prog 68 = some [(Value.int .i64 0), (Value.int .i64 0), (Value.int .i64 0), (Value.slice none 0 0)] := by kernel_rfl
theorem F_places_68 : placesB Try.prog 68 = some [(0, 1), (1, 1), (2, 1), (3, 1)] := by kernel_rfl
theorem F_zero_66 : zeroB Try.prog 66 = some [(Value.int .i64 0), (Value.int .i64 0), (Value.int .i64 0), (Value.slice none 0 0)] := by kernel_rfl
theorem F_field_68_0 : fieldB Try.prog 68 0 = some (0, 2) := by kernel_rfl
theorem F_size_2 : sizeB Try.prog 2 = some 1 := by kernel_rfl
theorem F_agg_2 : aggB Try.prog 2 = some false := by kernel_rfl
theorem F_field_68_1 : fieldB Try.prog 68 1 = some (1, 2) := by kernel_rfl
theorem F_field_68_2 : fieldB Try.prog 68 2 = some (2, 2) := by kernel_rfl
theorem F_places_66 : placesB Try.prog 66 = some [(0, 1), (1, 1), (2, 1), (3, 1)] := by kernel_rfl
theorem F_size_66 : sizeB Try.prog 66 = some 4 := by kernel_rfl
theorem F_agg_66 : aggB Try.prog 66 = some true := by kernel_rfl
theorem F_call_23 : callB Try.prog 23 = true := by kernel_rfl
theorem F_field_118_0 : fieldB Try.prog 118 0 = some (0, 3) := by kernel_rfl
theorem F_size_3 : sizeB Try.prog 3 = some 1 := by kernel_rfl
theorem F_agg_3 : aggB Try.prog 3 = some false := by kernel_rfl
theorem F_field_66_3 : fieldB Try.prog 66 3 = some (3, 46) := by kernel_rfl
theorem F_call_109 : callB Try.prog 109 = true := by kernel_rfl
theorem F_agg_93 : aggB Try.prog 93 = some true := by kernel_rfl
theorem F_field_42_0 : fieldB Try.prog 42 0 = some (0, 2) := by kernel_rfl
theorem F_field_93_1 : fieldB Try.prog 93 1 = some (5, 2) := by kernel_rfl
theorem F_agg_40 : aggB Try.prog 40 = some true := by kernel_rfl
theorem F_call_110 : callB Try.prog 110 = true := by kernel_rfl
theorem F_call_83 : callB Try.prog 83 = true := by kernel_rfl
theorem F_field_66_0 : fieldB Try.prog 66 0 = some (0, 2) := by kernel_rfl
theorem F_field_66_1 : fieldB Try.prog 66 1 = some (1, 2) := by kernel_rfl
theorem F_field_66_2 : fieldB Try.prog 66 2 = some (2, 2) := by kernel_rfl
theorem F_call_84 : callB Try.prog 84 = true := by kernel_rfl
theorem F_call_53 : callB Try.prog 53 = true := by kernel_rfl
theorem F_field_118_2 : fieldB Try.prog 118 2 = some (2, 2) := by kernel_rfl
theorem F_bytes_93 : bytesB Try.prog 93 = some 80 := by kernel_rfl
theorem F_call_54 : callB Try.prog 54 = true := by kernel_rfl
theorem F_field_118_1 : fieldB Try.prog 118 1 = some (1, 72) := by kernel_rfl
theorem F_size_72 : sizeB Try.prog 72 = some 1 := by kernel_rfl
theorem F_agg_72 : aggB Try.prog 72 = some false := by kernel_rfl
theorem F_slice_72 : sliceB Try.prog 72 = some 66 := by kernel_rfl
theorem F_bytes_66 : bytesB Try.prog 66 = some 48 := by kernel_rfl
theorem F_call_22 : callB Try.prog 22 = true := by kernel_rfl
theorem F_call_56 : callB Try.prog 56 = true := by kernel_rfl
theorem F_call_55 : callB Try.prog 55 = true := by kernel_rfl
theorem F_call_24 : callB Try.prog 24 = true := by kernel_rfl
theorem F_slice_23 : sliceB Try.prog 23 = some 2 := by kernel_rfl
theorem F_zero_2 : zeroB Try.prog 2 = some [(Value.int .i64 0)] := by kernel_rfl
theorem F_bytes_2 : bytesB Try.prog 2 = some 8 := by kernel_rfl
theorem F_call_107 : callB Try.prog 107 = true := by kernel_rfl
theorem F_call_108 : callB Try.prog 108 = true := by kernel_rfl
theorem F_call_82 : callB Try.prog 82 = true := by kernel_rfl
theorem F_call_52 : callB Try.prog 52 = true := by kernel_rfl
theorem F_agg_123 : aggB Try.prog 123 = some false := by kernel_rfl
theorem F_call_58 : callB Try.prog 58 = true := by kernel_rfl
theorem F_call_86 : callB Try.prog 86 = true := by kernel_rfl
theorem F_call_111 : callB Try.prog 111 = true := by kernel_rfl
theorem F_call_85 : callB Try.prog 85 = true := by kernel_rfl
theorem F_call_57 : callB Try.prog 57 = true := by kernel_rfl
theorem F_call_25 : callB Try.prog 25 = true := by kernel_rfl
theorem F_call_26 : callB Try.prog 26 = true := by kernel_rfl
theorem F_call_20 : callB Try.prog 20 = true := by kernel_rfl
theorem F_agg_68 : aggB Try.prog 68 = some true := by kernel_rfl
theorem F_call_27 : callB Try.prog 27 = true := by kernel_rfl
theorem F_zero_205 : zeroB Try.prog 205 = some [(Value.slice none 0 0)] := by kernel_rfl
theorem F_places_205 : placesB Try.prog 205 = some [(0, 1)] := by kernel_rfl
theorem F_field_205_0 : fieldB Try.prog 205 0 = some (0, 124) := by kernel_rfl
theorem F_size_124 : sizeB Try.prog 124 = some 1 := by kernel_rfl
theorem F_agg_124 : aggB Try.prog 124 = some false := by kernel_rfl
theorem F_slice_124 : sliceB Try.prog 124 = some 5 := by kernel_rfl
theorem F_size_5 : sizeB Try.prog 5 = some 1 := by kernel_rfl
theorem F_zero_5 : zeroB Try.prog 5 = some [(Value.int .u8 0)] := by kernel_rfl
theorem F_bytes_5 : bytesB Try.prog 5 = some 1 := by kernel_rfl
theorem F_call_112 : callB Try.prog 112 = true := by kernel_rfl
theorem F_slice_30 : sliceB Try.prog 30 = some 9 := by kernel_rfl
theorem F_zero1_5 : zero1B Try.prog 5 = some (.int .u8 0) := by kernel_rfl
theorem F_call_136 : callB Try.prog 136 = true := by kernel_rfl
theorem F_call_137 : callB Try.prog 137 = true := by kernel_rfl
theorem F_call_139 : callB Try.prog 139 = true := by kernel_rfl
theorem F_call_115 : callB Try.prog 115 = true := by kernel_rfl
theorem F_call_113 : callB Try.prog 113 = true := by kernel_rfl
theorem F_zero_242 : zeroB Try.prog 242 = some [(Value.int .u32 0)] := by kernel_rfl
theorem F_size_242 : sizeB Try.prog 242 = some 1 := by kernel_rfl
theorem F_agg_5 : aggB Try.prog 5 = some false := by kernel_rfl
theorem F_agg_242 : aggB Try.prog 242 = some false := by kernel_rfl
theorem F_call_183 : callB Try.prog 183 = true := by kernel_rfl
theorem F_call_178 : callB Try.prog 178 = true := by kernel_rfl
theorem F_call_166 : callB Try.prog 166 = true := by kernel_rfl
theorem F_call_138 : callB Try.prog 138 = true := by kernel_rfl
theorem F_call_114 : callB Try.prog 114 = true := by kernel_rfl
theorem F_call_87 : callB Try.prog 87 = true := by kernel_rfl
theorem F_call_59 : callB Try.prog 59 = true := by kernel_rfl
theorem F_call_28 : callB Try.prog 28 = true := by kernel_rfl
theorem ossuarylaw09_Light_R.spec (K : Nat) (sv0 : Value) (A0 : HP) (l0 : List Api_Fact) (hA0 : IsRd A0 sv0 l0.length 6 (fl enc_Api_Fact l0)) (r : Bool) (H : ossuarylaw09_Light_R K l0 = some r) : FnSpec Try.prog 12 [sv0] [A0] (fun v M => v = (bool r) ∧ M = [A0]) := by
 unfold ossuarylaw09_Light_R at H
 refine spec_of Try.func12 rfl 28 rfl (Nat.le_of_ble_eq_true rfl) fun F w0 => ?_
 show Ent (St 28 w0 F [(0,sv0)] [A0]) _
 refine ent_seq (ent_region (ent_value (ov_assign rfl) rfl rfl rfl (ent_nil (ent_seq (ent_seq (ent_region (ent_value (ov_move rfl) rfl rfl rfl (ent_value (ov_len 0 rfl F_slice_46 rfl hA0) rfl rfl rfl (ent_value (ov_bin rfl rfl (b_gtr _ _ _)) rfl rfl rfl (ent_nil ?_))))))))))
 refine htT H (fun c304 H => ?_) fun c304 H => ?_
 ·refine ent_cond_true rfl (decide_eq_true c304) (ent_seq (ent_region (ent_value (ov_assign rfl) rfl rfl rfl (ent_nil (ent_retc ?_)))))
  cases H
  refine ent_pick [0] (by decide) rfl ?_
  exact ret_tmp rfl rfl ⟨rfl,rfl⟩
 refine ent_cond_false rfl (decide_eq_false c304) (ent_skip (ent_seq (ent_seq (ent_region (ent_value (ov_assign rfl) rfl rfl rfl (ent_nil (ent_block ?_)))))))
 refine ent_loop (fun k a w => ∃ i24,ossuarylaw09_Light_R_l0 K l0 k i24 = some r ∧ St 28 w0 F [(0,sv0),(3,I i24)] [A0] a w) K ?_ ?_
 ·exact ent_fin [0] (by decide) rfl (sub_cons (t := 0) rfl (sub_cons (t := 3) rfl (sub_nil _))) fun a w h => ⟨_,H,h⟩
 ·refine fun k => ent_exi fun i24 => ent_and fun H48 => ?_
  cases k with
  | zero => exact absurd H48 (by simp [ossuarylaw09_Light_R_l0])
  | succ k =>
   rw [ossuarylaw09_Light_R_l0] at H48
   refine ent_seq (ent_seq (ent_region (ent_value (ov_move rfl) rfl rfl rfl (ent_value (ov_move rfl) rfl rfl rfl (ent_value (ov_len 0 rfl F_slice_46 rfl hA0) rfl rfl rfl (ent_value (ov_bin rfl rfl (b_lss _ _ _)) rfl rfl rfl (ent_nil ?_)))))))
   refine htF H48 (fun c552 H48 => ?_) fun c552 H48 => ?_
   ·refine ent_cond_false rfl (decide_eq_false c552) (ent_exit (ent_seq (ent_region (ent_value (ov_assign rfl) rfl rfl rfl (ent_nil (ent_retc ?_))))))
    cases H48
    refine ent_pick [0] (by decide) rfl ?_
    exact ret_tmp rfl rfl ⟨rfl,rfl⟩
   refine ent_cond_true rfl (decide_eq_true c552) (ent_skip ?_)
   obtain ⟨x12,H50,H48⟩ := Option.bind_eq_some_iff.1 H48
   refine ent_seq_cut (fun a w => ∃ v12,x12 = Sum.inl v12 ∧ St 28 w0 F [(0,sv0),(3,I i24)] [A0] a w) ?_ ?_
   ·refine ent_block (ent_seq (ent_region (ent_value (ov_assign rfl) rfl rfl rfl (ent_nil (ent_block ?_)))))
    refine ent_loop (fun k a w => ∃ i28,ossuarylaw09_Light_R_l1 K l0 i24 k i28 = some x12 ∧ St 28 w0 F [(0,sv0),(3,I i24),(4,I i28)] [A0] a w) K ?_ ?_
    ·exact ent_fin [0] (by decide) rfl (sub_cons (t := 0) rfl (sub_cons (t := 3) rfl (sub_cons (t := 4) rfl (sub_nil _)))) fun a w h => ⟨_,H50,h⟩
    ·refine fun k => ent_exi fun i28 => ent_and fun H51 => ?_
     cases k with
     | zero => exact absurd H51 (by simp [ossuarylaw09_Light_R_l1])
     | succ k =>
      rw [ossuarylaw09_Light_R_l1] at H51
      refine ent_seq (ent_seq (ent_region (ent_value (ov_move rfl) rfl rfl rfl (ent_value (ov_bin rfl rfl (b_lss _ _ _)) rfl rfl rfl (ent_nil ?_)))))
      refine htF H51 (fun c596 H51 => ?_) fun c596 H51 => ?_
      ·refine ent_cond_false rfl (decide_eq_false c596) (ent_exit ?_)
       cases H51
       exact ent_fin [0] (by decide) rfl (sub_cons (t := 0) rfl (sub_cons (t := 3) rfl (sub_nil _))) fun a w h => ⟨_,rfl,h⟩
      refine ent_cond_true rfl (decide_eq_true c596) (ent_skip (ent_seq (ent_block (ent_seq (ent_region (ent_value (ov_move rfl) rfl rfl rfl (ent_value (ov_move rfl) rfl rfl rfl (ent_value (ov_move rfl) rfl rfl rfl ?_))))))))
      obtain ⟨c601,H51⟩ := gdT H51
      refine ent_value (ov_indexAddr (sz := 5) 0 rfl rfl F_slice_46 F_size_93 rfl hA0 c601 c552) rfl rfl rfl (ent_value (ov_fieldAddrE (sz := 4) (k0 := i24.toNat * 6) (off := 0) 0 rfl F_field_93_0 F_size_42 rfl hA0 (fl_pos enc_Api_Fact_len (ix_lt c601 c552))) rfl rfl rfl (ent_value (ov_fieldAddrE (sz := 3) (k0 := i24.toNat * 6 + 0) (off := 1) 0 rfl F_field_42_1 F_size_40 rfl hA0 (fl_pos enc_Api_Fact_len (ix_lt c601 c552))) rfl rfl rfl ?_))
      obtain ⟨c602,H51⟩ := gdT H51
      obtain ⟨c603,H51⟩ := gdT H51
      refine ent_value (ov_indexArrE 0 rfl rfl F_array_40 F_size_9 rfl hA0 (fl_pos enc_Api_Fact_len (ix_lt c601 c552)) c602 c603) rfl rfl rfl ?_
      refine ent_value (ov_load (v := (str ([((l0.getD i24.toNat z_Api_Fact).Key).Dims_0,((l0.getD i24.toNat z_Api_Fact).Key).Dims_1,((l0.getD i24.toNat z_Api_Fact).Key).Dims_2,((l0.getD i24.toNat z_Api_Fact).Key).Dims_3].getD i28.toNat []))) rfl F_agg_9 (reads_rd (i := 0) rfl hA0 (by simp) (fl_readA enc_Api_Fact_len (ix_lt c601 c552) (fl_sub (enc := eS) (z := []) (ys := [((l0.getD i24.toNat z_Api_Fact).Key).Dims_0,((l0.getD i24.toNat z_Api_Fact).Key).Dims_1,((l0.getD i24.toNat z_Api_Fact).Key).Dims_2,((l0.getD i24.toNat z_Api_Fact).Key).Dims_3]) eS_len rfl (ix_lt c602 c603))))) rfl rfl rfl ?_
      refine ent_value (ov_lenS rfl Try.underlying9) rfl rfl rfl (ent_value (ov_bin rfl rfl (b_gtr _ _ _)) rfl rfl rfl (ent_nil ?_))
      refine htT H51 (fun c604 H51 => ?_) fun c604 H51 => ?_
      ·refine ent_cond_true rfl (decide_eq_true c604) (ent_seq (ent_region (ent_value (ov_assign rfl) rfl rfl rfl (ent_nil (ent_retc ?_)))))
       cases H51
       have H52 := Option.some.inj (show some _ = some _ from H48)
       cases H52
       refine ent_pick [0] (by decide) rfl ?_
       exact ret_tmp rfl rfl ⟨rfl,rfl⟩
      refine ent_cond_false rfl (decide_eq_false c604) (ent_skip (ent_region (ent_value (ov_move rfl) rfl rfl rfl (ent_value (ov_bin rfl rfl (b_add _ _ _) ) rfl rfl rfl (ent_value (ov_assign rfl) rfl rfl rfl (ent_nil ?_))))))
      exact ent_fin [0] (by decide) rfl (sub_cons (t := 0) rfl (sub_cons (t := 3) rfl (sub_cons (t := 4) rfl (sub_nil _)))) fun a w h => ⟨k,Nat.lt_succ_self k,_,H51,h⟩
   ·refine ent_exi fun v12 => ent_and fun e_ => ?_
    subst e_
    rw [cas_inl] at H48
    refine ent_region (ent_value (ov_move rfl) rfl rfl rfl (ent_value (ov_bin rfl rfl (b_add _ _ _) ) rfl rfl rfl (ent_value (ov_assign rfl) rfl rfl rfl (ent_nil ?_))))
    exact ent_fin [0] (by decide) rfl (sub_cons (t := 0) rfl (sub_cons (t := 3) rfl (sub_nil _))) fun a w h => ⟨k,Nat.lt_succ_self k,_,H48,h⟩

theorem ossuarylaw17_Light_R.spec (K : Nat) (sv0 : Value) (A0 : HP) (l0 : List Ossuaryref17_Batch) (hA0 : IsRd A0 sv0 l0.length 4 (fl enc_Ossuaryref17_Batch l0)) (hJ0 : ∀ x ∈ l0,IsRd A0 x.Facts.v x.Facts.xs.length 6 (fl enc_Api_Fact x.Facts.xs)) (r : Bool) (H : ossuarylaw17_Light_R K l0 = some r) : FnSpec Try.prog 19 [sv0] [A0] (fun v M => v = (bool r) ∧ M = [A0]) := by
 unfold ossuarylaw17_Light_R at H
 refine spec_of Try.func19 rfl 20 rfl (Nat.le_of_ble_eq_true rfl) fun F w0 => ?_
 show Ent (St 20 w0 F [(0,sv0)] [A0]) _
 refine ent_seq (ent_region (ent_value (ov_assign rfl) rfl rfl rfl (ent_nil (ent_seq (ent_seq (ent_region (ent_value (ov_move rfl) rfl rfl rfl (ent_value (ov_len 0 rfl F_slice_59 rfl hA0) rfl rfl rfl (ent_value (ov_bin rfl rfl (b_gtr _ _ _)) rfl rfl rfl (ent_nil ?_))))))))))
 refine htT H (fun c36 H => ?_) fun c36 H => ?_
 ·refine ent_cond_true rfl (decide_eq_true c36) (ent_seq (ent_region (ent_value (ov_assign rfl) rfl rfl rfl (ent_nil (ent_retc ?_)))))
  cases H
  refine ent_pick [0] (by decide) rfl ?_
  exact ret_tmp rfl rfl ⟨rfl,rfl⟩
 refine ent_cond_false rfl (decide_eq_false c36) (ent_skip (ent_seq (ent_seq (ent_region (ent_value (ov_assign rfl) rfl rfl rfl (ent_nil (ent_block ?_)))))))
 refine ent_loop (fun k a w => ∃ i4,ossuarylaw17_Light_R_l0 K l0 k i4 = some r ∧ St 20 w0 F [(0,sv0),(3,I i4)] [A0] a w) K ?_ ?_
 ·exact ent_fin [0] (by decide) rfl (sub_cons (t := 0) rfl (sub_cons (t := 3) rfl (sub_nil _))) fun a w h => ⟨_,H,h⟩
 ·refine fun k => ent_exi fun i4 => ent_and fun H4 => ?_
  cases k with
  | zero => exact absurd H4 (by simp [ossuarylaw17_Light_R_l0])
  | succ k =>
   rw [ossuarylaw17_Light_R_l0] at H4
   refine ent_seq (ent_seq (ent_region (ent_value (ov_move rfl) rfl rfl rfl (ent_value (ov_move rfl) rfl rfl rfl (ent_value (ov_len 0 rfl F_slice_59 rfl hA0) rfl rfl rfl (ent_value (ov_bin rfl rfl (b_lss _ _ _)) rfl rfl rfl (ent_nil ?_)))))))
   refine htF H4 (fun c64 H4 => ?_) fun c64 H4 => ?_
   ·refine ent_cond_false rfl (decide_eq_false c64) (ent_exit (ent_seq (ent_region (ent_value (ov_assign rfl) rfl rfl rfl (ent_nil (ent_retc ?_))))))
    cases H4
    refine ent_pick [0] (by decide) rfl ?_
    exact ret_tmp rfl rfl ⟨rfl,rfl⟩
   refine ent_cond_true rfl (decide_eq_true c64) (ent_skip (ent_seq (ent_block (ent_seq (ent_region (ent_value (ov_move rfl) rfl rfl rfl (ent_value (ov_move rfl) rfl rfl rfl ?_)))))))
   obtain ⟨c67,H4⟩ := gdT H4
   refine ent_value (ov_indexAddr (sz := 3) 0 rfl rfl F_slice_59 F_size_68 rfl hA0 c67 c64) rfl rfl rfl (ent_value (ov_fieldAddrE (sz := 0) (k0 := i4.toNat * 4) (off := 3) 0 rfl F_field_68_3 F_size_46 rfl hA0 (fl_pos enc_Ossuaryref17_Batch_len (ix_lt c67 c64))) rfl rfl rfl ?_)
   refine ent_value (ov_load (v := ((l0.getD i4.toNat z_Ossuaryref17_Batch).Facts).v) rfl F_agg_46 (reads_rd (i := 0) rfl hA0 (by simp) (fl_read (off := 3) enc_Ossuaryref17_Batch_len (ix_lt c67 c64) rfl))) rfl rfl rfl ?_
   obtain ⟨x24,h24,H4⟩ := Option.bind_eq_some_iff.1 H4
   refine ent_op (ot_call_same (Lr := []) [0] [0] (first := []) (cap := []) (xs := [.tmp 17]) rfl rfl F_call_12 rfl (ossuarylaw09_Light_R.spec K (((l0.getD i4.toNat z_Ossuaryref17_Batch).Facts).v) A0 (((l0.getD i4.toNat z_Ossuaryref17_Batch).Facts).xs) (hJ0 _ (getD_mem_ z_Ossuaryref17_Batch (ix_lt c67 c64))) _ h24) (by decide) rfl (by decide) rfl) rfl rfl rfl ?_
   rintro _ _ ⟨rfl,rfl⟩
   refine ent_value (ov_un rfl (u_not _)) rfl rfl rfl (ent_nil ?_)
   refine htT H4 (fun c68 H4 => ?_) fun c68 H4 => ?_
   ·refine ent_cond_true rfl c68 (ent_seq (ent_region (ent_value (ov_assign rfl) rfl rfl rfl (ent_nil (ent_retc ?_)))))
    cases H4
    refine ent_pick [0] (by decide) rfl ?_
    exact ret_tmp rfl rfl ⟨rfl,rfl⟩
   refine ent_cond_false rfl (Bool.eq_false_iff.2 c68) (ent_skip (ent_region (ent_value (ov_move rfl) rfl rfl rfl (ent_value (ov_bin rfl rfl (b_add _ _ _) ) rfl rfl rfl (ent_value (ov_assign rfl) rfl rfl rfl (ent_nil ?_))))))
   exact ent_fin [0] (by decide) rfl (sub_cons (t := 0) rfl (sub_cons (t := 3) rfl (sub_nil _))) fun a w h => ⟨k,Nat.lt_succ_self k,_,H4,h⟩

theorem mem_New.spec (r : (Int × Int × Int)) (H : mem_New = r) : FnSpec Try.prog 21 [I 1] [] (fun v M => ∃ b2 : Nat,v = (tU #[pt b2 0,I r.2.2]) ∧ M = [box b2 118 [I r.1,L0,I r.2.1]]) := by
 unfold mem_New at H
 refine spec_of Try.func21 rfl 13 rfl (Nat.le_of_ble_eq_true rfl) fun F w0 => ?_
 show Ent (St 13 w0 F [(0,I 1)] []) _
 refine ent_seq (ent_region (ent_value (ov_assign rfl) rfl rfl rfl (ent_value (ov_assign rfl) rfl rfl rfl (ent_nil (ent_seq (ent_seq (ent_region (ent_value (ov_move rfl) rfl rfl rfl (ent_value (ov_bin rfl rfl (b_lss _ _ _)) rfl rfl rfl (ent_value (ov_move rfl) rfl rfl rfl ?_))))))))))
 refine ent_value_on (ov_move rfl) rfl rfl rfl rfl rfl rfl ?_
 refine ent_value_on (ov_bin rfl rfl (b_gtr _ _ _)) rfl rfl rfl rfl rfl rfl ?_
 refine ent_value (ov_pick rfl rfl rfl rfl) rfl rfl rfl (ent_nil (ent_cond_false rfl rfl (ent_skip (ent_seq (ent_region (ent_value (ov_move rfl) rfl rfl rfl (ent_value (ov_build (is := [0]) (xs := [.tmp 10]) (vs := [I 1]) rfl rfl (build_struct (cs := [I 1,L0,I 0]) F_zero_118 F_places_118 rfl)) rfl rfl rfl ?_)))))))
 refine ent_op (ot_box (cs := [I 1,L0,I 0]) rfl rfl) rfl rfl rfl ?_
 rintro _ _ ⟨b3,rfl,rfl⟩
 refine ent_value (ov_assign rfl) rfl rfl rfl (ent_value (ov_assign rfl) rfl rfl rfl (ent_nil (ent_retc ?_)))
 cases H
 refine ent_pick [0] (by decide) rfl ?_
 exact ret_mem (vs := [pt b3 0,I 0]) rfl ⟨rfl,⟨rfl,trivial⟩⟩ _ rfl ⟨_,rfl,rfl⟩

theorem ossuarylaw17_Own_O.spec (sv0 : Value) (a0_0 a0_1 a0_2 : Int) (l0 : List Api_Fact) (r : (Int × Int × Int)) (H : ossuarylaw17_Own_O a0_0 a0_1 a0_2 l0 = r) : FnSpec Try.prog 23 [agg #[I a0_0,I a0_1,I a0_2,sv0]] [own sv0 93 6 l0.length (fl enc_Api_Fact l0)] (fun v M => v = (agg #[I r.1,I r.2.1,I r.2.2,sv0]) ∧ M = [own sv0 93 6 l0.length (fl enc_Api_Fact l0)]) := by
 unfold ossuarylaw17_Own_O at H
 refine spec_of Try.func23 rfl 12 rfl (Nat.le_of_ble_eq_true rfl) fun F w0 => ?_
 show Ent (St 12 w0 F [(0,agg #[I a0_0,I a0_1,I a0_2,sv0])] [own sv0 93 6 l0.length (fl enc_Api_Fact l0)]) _
 refine ent_seq (ent_region ?_)
 refine ent_op (ot_box (cs := [I a0_0,I a0_1,I a0_2,sv0]) rfl rfl) rfl rfl rfl ?_
 rintro _ _ ⟨b3,rfl,rfl⟩
 refine ent_op (ot_alloc F_zero_66) rfl rfl rfl ?_
 rintro _ _ ⟨b4,rfl,rfl⟩
 refine ent_nil (ent_seq (ent_region (ent_value (ov_fieldAddr (sz := 0) (o := 0) rfl F_field_68_0 F_size_2) rfl rfl rfl (ent_value (ov_load (v := (I a0_0)) rfl F_agg_2 (reads_box1 (i := 1) rfl rfl)) rfl rfl rfl (ent_value (ov_fieldAddr (sz := 0) (o := 0) rfl F_field_68_1 F_size_2) rfl rfl rfl (ent_value (ov_load (v := (I a0_1)) rfl F_agg_2 (reads_box1 (i := 1) rfl rfl)) rfl rfl rfl (ent_value (ov_fieldAddr (sz := 0) (o := 0) rfl F_field_68_2 F_size_2) rfl rfl rfl (ent_value (ov_load (v := (I a0_2)) rfl F_agg_2 (reads_box1 (i := 1) rfl rfl)) rfl rfl rfl (ent_value (ov_fieldAddr (sz := 0) (o := 0) rfl F_field_68_3 F_size_46) rfl rfl rfl (ent_value (ov_load (v := sv0) rfl F_agg_46 (reads_box1 (i := 1) rfl rfl)) rfl rfl rfl ?_))))))))))
 refine ent_value (ov_sl 2 rfl (isRd_ownx 93) fun hc0_ => (ov_build (is := [0,1,2,3]) (xs := [.tmp 4,.tmp 6,.tmp 8,.tmp 10]) (vs := [I a0_0,I a0_1,I a0_2,sv0]) rfl rfl (build_struct (cs := [I a0_0,I a0_1,I a0_2,sv0]) F_zero_66 F_places_66 (by simp [Instr.fill,cells_int,cells_bool,cells_str,cells_func,cells_slice,cells_ptr,cells_nilFunc,cells_agg,hc0_])))) rfl rfl rfl ?_
 refine ent_op0 (ot_storeG (cs := [I 0,I 0,I 0,L0]) (cs' := [I a0_0,I a0_1,I a0_2,sv0]) (us := [I a0_0,I a0_1,I a0_2,sv0]) (L' := [box b4 66 [I a0_0,I a0_1,I a0_2,sv0],box b3 68 [I a0_0,I a0_1,I a0_2,sv0],own sv0 93 6 l0.length (fl enc_Api_Fact l0)]) 0 rfl rfl rfl (one_cons rfl (one_cons rfl (one_cons rfl (one_sl 2 rfl (isRd_ownx 93) one_nil)))) F_size_66 rfl rfl (by simp) rfl) rfl rfl ?_
 rintro _ _ rfl
 refine ent_nil (ent_retc ?_)
 subst H
 exact ret_memp [2] (by decide) rfl (vs := [agg #[I a0_0,I a0_1,I a0_2,sv0]]) rfl ⟨⟨_,[I a0_0,I a0_1,I a0_2,sv0],rfl,reads_boxW (i := 0) rfl,.inl ⟨F_agg_66,F_size_66,rfl⟩⟩,trivial⟩ _ rfl ⟨rfl,rfl⟩

theorem fact_many.spec (a0 : Int) (r : Bool) (H : fact_many a0 = r) : FnSpec Try.prog 109 [I a0] [] (fun v M => v = (bool r) ∧ M = []) := by
 unfold fact_many at H
 refine spec_of Try.func109 rfl 9 rfl (Nat.le_of_ble_eq_true rfl) fun F w0 => ?_
 show Ent (St 9 w0 F [(0,I a0)] []) _
 refine ent_seq (ent_region (ent_value (ov_assign rfl) rfl rfl rfl (ent_nil (ent_seq (ent_region (ent_value (ov_move rfl) rfl rfl rfl (ent_value (ov_bin rfl rfl (b_geq _ _ _)) rfl rfl rfl (ent_value (ov_move rfl) rfl rfl rfl ?_))))))))
 refine htF H (fun c2 H => ?_) fun c2 H => ?_
 ·refine ent_off rfl rfl rfl (decide_eq_false c2) rfl rfl ?_
  refine ent_off rfl rfl rfl (decide_eq_false c2) rfl rfl ?_
  refine ent_value (ov_pick rfl rfl rfl (pick_f (decide_eq_false c2))) rfl rfl rfl (ent_value (ov_assign rfl) rfl rfl rfl (ent_nil (ent_retc ?_)))
  cases H
  refine ent_pick [] (by decide) rfl ?_
  exact ret_tmp rfl rfl ⟨rfl,rfl⟩
 refine ent_value_on (ov_move rfl) rfl rfl rfl (decide_eq_true c2) rfl rfl ?_
 refine ent_value_on (ov_bin rfl rfl (b_leq _ _ _)) rfl rfl rfl (decide_eq_true c2) rfl rfl ?_
 refine ent_value (ov_pick rfl rfl rfl (pick_t (decide_eq_true c2))) rfl rfl rfl (ent_value (ov_assign rfl) rfl rfl rfl (ent_nil (ent_retc ?_)))
 cases H
 refine ent_pick [] (by decide) rfl ?_
 exact ret_tmp rfl rfl ⟨rfl,rfl⟩

theorem fact_Check.spec (K : Nat) (a0_0 : Int) (a0_1 : List UInt8) (a0_2 : List UInt8) (a0_3 : List UInt8) (a0_4 : List UInt8) (a0_5 a1 r : Int) (H : fact_Check K a0_0 a0_1 a0_2 a0_3 a0_4 a0_5 a1 = some r) : FnSpec Try.prog 110 [agg #[I a0_0,str a0_1,str a0_2,str a0_3,str a0_4,I a0_5],I a1] [] (fun v M => v = (I r) ∧ M = []) := by
 unfold fact_Check at H
 refine spec_of Try.func110 rfl 52 rfl (Nat.le_of_ble_eq_true rfl) fun F w0 => ?_
 show Ent (St 52 w0 F [(0,agg #[I a0_0,str a0_1,str a0_2,str a0_3,str a0_4,I a0_5]),(1,I a1)] []) _
 refine ent_seq (ent_region ?_)
 refine ent_op (ot_box (cs := [I a0_0,str a0_1,str a0_2,str a0_3,str a0_4,I a0_5]) rfl rfl) rfl rfl rfl ?_
 rintro _ _ ⟨b2,rfl,rfl⟩
 refine ent_value (ov_assign rfl) rfl rfl rfl (ent_nil (ent_seq (ent_block (ent_seq (ent_region (ent_value (ov_move rfl) rfl rfl rfl ?_))))))
 obtain ⟨x4,h4,H⟩ := thn_elim H
 refine ent_op (ot_call0 (first := []) (cap := []) (xs := [.tmp 8]) rfl rfl F_call_109 rfl (fact_many.spec a1 _ h4)) rfl rfl rfl ?_
 rintro _ _ ⟨rfl,rfl⟩
 refine ent_value (ov_un rfl (u_not _)) rfl rfl rfl (ent_value (ov_assign rfl) rfl rfl rfl (ent_nil ?_))
 refine htT H (fun c80 H => ?_) fun c80 H => ?_
 ·refine ent_cond_true rfl c80 (ent_seq (ent_region (ent_value (ov_assign rfl) rfl rfl rfl (ent_nil (ent_retc ?_)))))
  cases H
  refine ent_pick [] (by decide) rfl ?_
  exact ret_tmp rfl rfl ⟨rfl,rfl⟩
 refine ent_cond_false rfl (Bool.eq_false_iff.2 c80) (ent_seq (ent_region (ent_value (ov_fieldAddr (sz := 4) (o := 0) rfl F_field_93_0 F_size_42) rfl rfl rfl (ent_value (ov_fieldAddr (sz := 0) (o := 0) rfl F_field_42_0 F_size_2) rfl rfl rfl (ent_value (ov_load (v := (I a0_0)) rfl F_agg_2 (reads_box1 (i := 0) rfl rfl)) rfl rfl rfl (ent_value (ov_bin rfl rfl (b_lss _ _ _)) rfl rfl rfl (ent_value (ov_move rfl) rfl rfl rfl ?_)))))))
 refine htT H (fun c81 H => ?_) fun c81 H => ?_
 ·refine ent_off rfl rfl rfl (decide_eq_true c81) rfl rfl ?_
  refine ent_off rfl rfl rfl (decide_eq_true c81) rfl rfl ?_
  refine ent_off rfl rfl rfl (decide_eq_true c81) rfl rfl ?_
  refine ent_off rfl rfl rfl (decide_eq_true c81) rfl rfl ?_
  refine ent_value (ov_pick rfl rfl rfl (pick_t (decide_eq_true c81))) rfl rfl rfl (ent_value (ov_move rfl) rfl rfl rfl ?_)
  refine ent_off rfl rfl rfl rfl rfl rfl ?_
  refine ent_off rfl rfl rfl rfl rfl rfl ?_
  refine ent_off rfl rfl rfl rfl rfl rfl ?_
  refine ent_value (ov_pick rfl rfl rfl rfl) rfl rfl rfl (ent_value (ov_move rfl) rfl rfl rfl ?_)
  refine ent_off rfl rfl rfl rfl rfl rfl ?_
  refine ent_off rfl rfl rfl rfl rfl rfl ?_
  refine ent_off rfl rfl rfl rfl rfl rfl ?_
  refine ent_value (ov_pick rfl rfl rfl rfl) rfl rfl rfl (ent_value (ov_assign rfl) rfl rfl rfl (ent_nil (ent_cond_true rfl rfl (ent_seq (ent_region (ent_value (ov_assign rfl) rfl rfl rfl (ent_nil (ent_retc ?_))))))))
  cases H
  refine ent_pick [] (by decide) rfl ?_
  exact ret_tmp rfl rfl ⟨rfl,rfl⟩
 refine ent_value_on (ov_fieldAddr (sz := 4) (o := 0) rfl F_field_93_0 F_size_42) rfl rfl rfl (decide_eq_false c81) rfl rfl ?_
 refine ent_value_on (ov_fieldAddr (sz := 0) (o := 0) rfl F_field_42_0 F_size_2) rfl rfl rfl (decide_eq_false c81) rfl rfl ?_
 refine ent_value_on (ov_load (v := (I a0_0)) rfl F_agg_2 (reads_box1 (i := 0) rfl rfl)) rfl rfl rfl (decide_eq_false c81) rfl rfl ?_
 refine ent_value_on (ov_bin rfl rfl (b_gtr _ _ _)) rfl rfl rfl (decide_eq_false c81) rfl rfl ?_
 refine ent_value (ov_pick rfl rfl rfl (pick_f (decide_eq_false c81))) rfl rfl rfl (ent_value (ov_move rfl) rfl rfl rfl ?_)
 refine htT H (fun c82 H => ?_) fun c82 H => ?_
 ·refine ent_off rfl rfl rfl (decide_eq_true c82) rfl rfl ?_
  refine ent_off rfl rfl rfl (decide_eq_true c82) rfl rfl ?_
  refine ent_off rfl rfl rfl (decide_eq_true c82) rfl rfl ?_
  refine ent_value (ov_pick rfl rfl rfl (pick_t (decide_eq_true c82))) rfl rfl rfl (ent_value (ov_move rfl) rfl rfl rfl ?_)
  refine ent_off rfl rfl rfl rfl rfl rfl ?_
  refine ent_off rfl rfl rfl rfl rfl rfl ?_
  refine ent_off rfl rfl rfl rfl rfl rfl ?_
  refine ent_value (ov_pick rfl rfl rfl rfl) rfl rfl rfl (ent_value (ov_assign rfl) rfl rfl rfl (ent_nil (ent_cond_true rfl rfl (ent_seq (ent_region (ent_value (ov_assign rfl) rfl rfl rfl (ent_nil (ent_retc ?_))))))))
  cases H
  refine ent_pick [] (by decide) rfl ?_
  exact ret_tmp rfl rfl ⟨rfl,rfl⟩
 refine ent_value_on (ov_fieldAddr (sz := 0) (o := 0) rfl F_field_93_1 F_size_2) rfl rfl rfl (decide_eq_false c82) rfl rfl ?_
 refine ent_value_on (ov_load (v := (I a0_5)) rfl F_agg_2 (reads_box1 (i := 0) rfl rfl)) rfl rfl rfl (decide_eq_false c82) rfl rfl ?_
 refine ent_value_on (ov_bin rfl rfl (b_gtr _ _ _)) rfl rfl rfl (decide_eq_false c82) rfl rfl ?_
 refine ent_value (ov_pick rfl rfl rfl (pick_f (decide_eq_false c82))) rfl rfl rfl (ent_value (ov_move rfl) rfl rfl rfl ?_)
 refine htT H (fun c83 H => ?_) fun c83 H => ?_
 ·refine ent_off rfl rfl rfl (decide_eq_true c83) rfl rfl ?_
  refine ent_off rfl rfl rfl (decide_eq_true c83) rfl rfl ?_
  refine ent_off rfl rfl rfl (decide_eq_true c83) rfl rfl ?_
  refine ent_value (ov_pick rfl rfl rfl (pick_t (decide_eq_true c83))) rfl rfl rfl (ent_value (ov_assign rfl) rfl rfl rfl (ent_nil (ent_cond_true rfl rfl (ent_seq (ent_region (ent_value (ov_assign rfl) rfl rfl rfl (ent_nil (ent_retc ?_))))))))
  cases H
  refine ent_pick [] (by decide) rfl ?_
  exact ret_tmp rfl rfl ⟨rfl,rfl⟩
 refine ent_value_on (ov_fieldAddr (sz := 0) (o := 0) rfl F_field_93_1 F_size_2) rfl rfl rfl (decide_eq_false c83) rfl rfl ?_
 refine ent_value_on (ov_load (v := (I a0_5)) rfl F_agg_2 (reads_box1 (i := 0) rfl rfl)) rfl rfl rfl (decide_eq_false c83) rfl rfl ?_
 refine ent_value_on (ov_bin rfl rfl (b_lss _ _ _)) rfl rfl rfl (decide_eq_false c83) rfl rfl ?_
 refine ent_value (ov_pick rfl rfl rfl (pick_f (decide_eq_false c83))) rfl rfl rfl (ent_value (ov_assign rfl) rfl rfl rfl (ent_nil ?_))
 refine htT H (fun c84 H => ?_) fun c84 H => ?_
 ·refine ent_cond_true rfl (decide_eq_true c84) (ent_seq (ent_region (ent_value (ov_assign rfl) rfl rfl rfl (ent_nil (ent_retc ?_)))))
  cases H
  refine ent_pick [] (by decide) rfl ?_
  exact ret_tmp rfl rfl ⟨rfl,rfl⟩
 refine ent_cond_false rfl (decide_eq_false c84) (ent_skip (ent_seq (ent_seq (ent_region (ent_value (ov_fieldAddr (sz := 4) (o := 0) rfl F_field_93_0 F_size_42) rfl rfl rfl (ent_value (ov_fieldAddr (sz := 3) (o := 0) rfl F_field_42_1 F_size_40) rfl rfl rfl (ent_value (ov_load_agg (vs := [str a0_1,str a0_2,str a0_3,str a0_4]) rfl F_agg_40 F_size_40 (reads_boxN (i := 0) rfl rfl)) rfl rfl rfl (ent_value (ov_move rfl) rfl rfl rfl (ent_nil (ent_block ?_))))))))))
 refine ent_loop (fun k a w => ∃ i5,fact_Check_l0 K a0_1 a0_2 a0_3 a0_4 a1 k i5 = some r ∧ St 52 w0 F [(1,I a1),(34,agg #[str a0_1,str a0_2,str a0_3,str a0_4]),(35,I i5)] [] a w) K ?_ ?_
 ·exact ent_fin [] (by decide) rfl (sub_cons (t := 1) rfl (sub_cons (t := 34) rfl (sub_cons (t := 35) rfl (sub_nil _)))) fun a w h => ⟨_,H,h⟩
 ·refine fun k => ent_exi fun i5 => ent_and fun H4 => ?_
  cases k with
  | zero => exact absurd H4 (by simp [fact_Check_l0])
  | succ k =>
   rw [fact_Check_l0] at H4
   refine ent_seq (ent_region (ent_value (ov_bin rfl rfl (b_lss _ _ _)) rfl rfl rfl (ent_nil (ent_seq ?_))))
   refine htF H4 (fun c138 H4 => ?_) fun c138 H4 => ?_
   ·refine ent_cond_false rfl (decide_eq_false c138) (ent_exit (ent_seq (ent_region (ent_value (ov_assign rfl) rfl rfl rfl (ent_nil (ent_retc ?_))))))
    cases H4
    refine ent_pick [] (by decide) rfl ?_
    exact ret_tmp rfl rfl ⟨rfl,rfl⟩
   refine ent_cond_true rfl (decide_eq_true c138) (ent_skip (ent_seq (ent_block (ent_seq (ent_region (ent_value (ov_move rfl) rfl rfl rfl ?_))))))
   obtain ⟨c144,H4⟩ := gdT H4
   obtain ⟨c145,H4⟩ := gdT H4
   refine ent_value (ov_indexAgg rfl rfl F_array_40 F_size_9 F_agg_9 c144 c145 (cases4 (fun i_ => #[str a0_1,str a0_2,str a0_3,str a0_4][i_]? = some (str ([a0_1,a0_2,a0_3,a0_4].getD i_ []))) (ix_lt c144 c145) rfl rfl rfl rfl)) rfl rfl rfl ?_
   refine ent_value (ov_assign rfl) rfl rfl rfl (ent_value (ov_assign rfl) rfl rfl rfl (ent_nil (ent_seq (ent_region (ent_value (ov_move rfl) rfl rfl rfl (ent_value (ov_lenS rfl Try.underlying9) rfl rfl rfl (ent_value (ov_bin rfl rfl (b_gtr _ _ _)) rfl rfl rfl (ent_value (ov_move rfl) rfl rfl rfl ?_))))))))
   refine htT H4 (fun c146 H4 => ?_) fun c146 H4 => ?_
   ·refine ent_off rfl rfl rfl (decide_eq_true c146) rfl rfl ?_
    refine ent_off rfl rfl rfl (decide_eq_true c146) rfl rfl ?_
    refine ent_off rfl rfl rfl (decide_eq_true c146) rfl rfl ?_
    refine ent_off rfl rfl rfl (decide_eq_true c146) rfl rfl ?_
    refine ent_offu rfl rfl rfl rfl rfl ?_
    refine ent_offu rfl rfl rfl rfl rfl ?_
    refine ent_off rfl rfl rfl (decide_eq_true c146) rfl rfl ?_
    refine ent_value (ov_pick rfl rfl rfl (pick_t (decide_eq_true c146))) rfl rfl rfl (ent_nil (ent_cond_true rfl rfl (ent_seq (ent_region (ent_value (ov_assign rfl) rfl rfl rfl (ent_nil (ent_retc ?_)))))))
    cases H4
    refine ent_pick [] (by decide) rfl ?_
    exact ret_tmp rfl rfl ⟨rfl,rfl⟩
   refine ent_value_on (ov_move rfl) rfl rfl rfl (decide_eq_false c146) rfl rfl ?_
   refine ent_value_on (ov_move rfl) rfl rfl rfl (decide_eq_false c146) rfl rfl ?_
   refine ent_value_on (ov_bin rfl rfl (b_geq _ _ _)) rfl rfl rfl (decide_eq_false c146) rfl rfl ?_
   refine ent_value_on (ov_move rfl) rfl rfl rfl (decide_eq_false c146) rfl rfl ?_
   refine htF H4 (fun c147 H4 => ?_) fun c147 H4 => ?_
   ·refine ent_off rfl rfl rfl (decide_eq_false c147) rfl rfl ?_
    refine ent_off rfl rfl rfl (decide_eq_false c147) rfl rfl ?_
    refine ent_value_on (ov_pick rfl rfl rfl (pick_f (decide_eq_false c147))) rfl rfl rfl (decide_eq_false c146) rfl rfl ?_
    refine ent_value (ov_pick rfl rfl rfl (pick_f (decide_eq_false c146))) rfl rfl rfl (ent_nil (ent_cond_false rfl rfl (ent_skip (ent_region (ent_value (ov_bin rfl rfl (b_add _ _ _) ) rfl rfl rfl (ent_value (ov_move rfl) rfl rfl rfl (ent_nil ?_)))))))
    exact ent_fin [] (by decide) rfl (sub_cons (t := 1) rfl (sub_cons (t := 34) rfl (sub_cons (t := 35) rfl (sub_nil _)))) fun a w h => ⟨k,Nat.lt_succ_self k,_,H4,h⟩
   refine ent_value_on (ov_move rfl) rfl rfl rfl (decide_eq_true c147) rfl rfl ?_
   refine ent_value_on (ov_bin rfl rfl (b_neq_str _ _)) rfl rfl rfl (decide_eq_true c147) rfl rfl ?_
   refine ent_value_on (ov_pick rfl rfl rfl (pick_t (decide_eq_true c147))) rfl rfl rfl (decide_eq_false c146) rfl rfl ?_
   refine ent_value (ov_pick rfl rfl rfl (pick_f (decide_eq_false c146))) rfl rfl rfl (ent_nil ?_)
   refine htT H4 (fun c148 H4 => ?_) fun c148 H4 => ?_
   ·refine ent_cond_true rfl (nb_t c148) (ent_seq (ent_region (ent_value (ov_assign rfl) rfl rfl rfl (ent_nil (ent_retc ?_)))))
    cases H4
    refine ent_pick [] (by decide) rfl ?_
    exact ret_tmp rfl rfl ⟨rfl,rfl⟩
   refine ent_cond_false rfl (nb_f c148) (ent_skip (ent_region (ent_value (ov_bin rfl rfl (b_add _ _ _) ) rfl rfl rfl (ent_value (ov_move rfl) rfl rfl rfl (ent_nil ?_)))))
   exact ent_fin [] (by decide) rfl (sub_cons (t := 1) rfl (sub_cons (t := 34) rfl (sub_cons (t := 35) rfl (sub_nil _)))) fun a w h => ⟨k,Nat.lt_succ_self k,_,H4,h⟩

theorem fact_All_R.spec (K : Nat) (sv0 : Value) (A0 : HP) (l0 : List Api_Fact) (a1 : Int) (hA0 : IsRd A0 sv0 l0.length 6 (fl enc_Api_Fact l0)) (r : (Int × Int)) (H : fact_All_R K l0 a1 = some r) : FnSpec Try.prog 83 [sv0,I a1] [A0] (fun v M => v = (tU #[I r.1,I r.2]) ∧ M = [A0]) := by
 unfold fact_All_R at H
 refine spec_of Try.func83 rfl 37 rfl (Nat.le_of_ble_eq_true rfl) fun F w0 => ?_
 show Ent (St 37 w0 F [(0,sv0),(1,I a1)] [A0]) _
 refine ent_seq (ent_region (ent_value (ov_assign rfl) rfl rfl rfl (ent_value (ov_assign rfl) rfl rfl rfl (ent_nil (ent_seq (ent_seq (ent_region (ent_value (ov_move rfl) rfl rfl rfl ?_))))))))
 obtain ⟨x16,h16,H⟩ := thn_elim H
 refine ent_op (ot_call0 (first := []) (cap := []) (xs := [.tmp 9]) rfl rfl F_call_109 rfl (fact_many.spec a1 _ h16)) rfl rfl rfl ?_
 rintro _ _ ⟨rfl,rfl⟩
 refine ent_value (ov_un rfl (u_not _)) rfl rfl rfl (ent_value (ov_move rfl) rfl rfl rfl ?_)
 refine htT H (fun c42 H => ?_) fun c42 H => ?_
 ·refine ent_off rfl rfl rfl c42 rfl rfl ?_
  refine ent_off rfl rfl rfl c42 rfl rfl ?_
  refine ent_off rfl rfl rfl c42 rfl rfl ?_
  refine ent_value (ov_pick rfl rfl rfl (pick_t c42)) rfl rfl rfl (ent_value (ov_move rfl) rfl rfl rfl ?_)
  refine ent_off rfl rfl rfl rfl rfl rfl ?_
  refine ent_off rfl rfl rfl rfl rfl rfl ?_
  refine ent_off rfl rfl rfl rfl rfl rfl ?_
  refine ent_value (ov_pick rfl rfl rfl rfl) rfl rfl rfl (ent_nil (ent_cond_true rfl rfl (ent_seq (ent_region (ent_value (ov_assign rfl) rfl rfl rfl (ent_value (ov_assign rfl) rfl rfl rfl (ent_nil (ent_retc ?_))))))))
  cases H
  refine ent_pick [0] (by decide) rfl ?_
  exact ret_mem (vs := [I 1,I 0]) rfl ⟨rfl,⟨rfl,trivial⟩⟩ _ rfl ⟨rfl,rfl⟩
 refine ent_value_on (ov_move rfl) rfl rfl rfl (Bool.eq_false_iff.2 c42) rfl rfl ?_
 refine ent_value_on (ov_len 0 rfl F_slice_46 rfl hA0) rfl rfl rfl (Bool.eq_false_iff.2 c42) rfl rfl ?_
 refine ent_value_on (ov_bin rfl rfl (b_eql _ _ _)) rfl rfl rfl (Bool.eq_false_iff.2 c42) rfl rfl ?_
 refine ent_value (ov_pick rfl rfl rfl (pick_f (Bool.eq_false_iff.2 c42))) rfl rfl rfl (ent_value (ov_move rfl) rfl rfl rfl ?_)
 refine htT H (fun c43 H => ?_) fun c43 H => ?_
 ·refine ent_off rfl rfl rfl (eq_t c43) rfl rfl ?_
  refine ent_off rfl rfl rfl (eq_t c43) rfl rfl ?_
  refine ent_off rfl rfl rfl (eq_t c43) rfl rfl ?_
  refine ent_value (ov_pick rfl rfl rfl (pick_t (eq_t c43))) rfl rfl rfl (ent_nil (ent_cond_true rfl rfl (ent_seq (ent_region (ent_value (ov_assign rfl) rfl rfl rfl (ent_value (ov_assign rfl) rfl rfl rfl (ent_nil (ent_retc ?_))))))))
  cases H
  refine ent_pick [0] (by decide) rfl ?_
  exact ret_mem (vs := [I 1,I 0]) rfl ⟨rfl,⟨rfl,trivial⟩⟩ _ rfl ⟨rfl,rfl⟩
 refine ent_value_on (ov_move rfl) rfl rfl rfl (eq_f c43) rfl rfl ?_
 refine ent_value_on (ov_len 0 rfl F_slice_46 rfl hA0) rfl rfl rfl (eq_f c43) rfl rfl ?_
 refine ent_value_on (ov_bin rfl rfl (b_gtr _ _ _)) rfl rfl rfl (eq_f c43) rfl rfl ?_
 refine ent_value (ov_pick rfl rfl rfl (pick_f (eq_f c43))) rfl rfl rfl (ent_nil ?_)
 refine htT H (fun c44 H => ?_) fun c44 H => ?_
 ·refine ent_cond_true rfl (decide_eq_true c44) (ent_seq (ent_region (ent_value (ov_assign rfl) rfl rfl rfl (ent_value (ov_assign rfl) rfl rfl rfl (ent_nil (ent_retc ?_))))))
  cases H
  refine ent_pick [0] (by decide) rfl ?_
  exact ret_mem (vs := [I 1,I 0]) rfl ⟨rfl,⟨rfl,trivial⟩⟩ _ rfl ⟨rfl,rfl⟩
 refine ent_cond_false rfl (decide_eq_false c44) (ent_skip (ent_seq (ent_seq (ent_region (ent_value (ov_move rfl) rfl rfl rfl (ent_value (ov_len 0 rfl F_slice_46 rfl hA0) rfl rfl rfl (ent_value (ov_move rfl) rfl rfl rfl (ent_nil (ent_block ?_)))))))))
 refine ent_loop (fun k a w => ∃ i6,fact_All_R_l0 K l0 a1 k i6 = some r ∧ St 37 w0 F [(1,I a1),(22,sv0),(23,I (l0.length : Int)),(24,I i6)] [A0] a w) K ?_ ?_
 ·exact ent_fin [0] (by decide) rfl (sub_cons (t := 1) rfl (sub_cons (t := 22) rfl (sub_cons (t := 23) rfl (sub_cons (t := 24) rfl (sub_nil _))))) fun a w h => ⟨_,H,h⟩
 ·refine fun k => ent_exi fun i6 => ent_and fun H4 => ?_
  let C0_ : List Value := [I (((l0.getD i6.toNat z_Api_Fact).Key).Hour),str (((l0.getD i6.toNat z_Api_Fact).Key).Dims_0),str (((l0.getD i6.toNat z_Api_Fact).Key).Dims_1),str (((l0.getD i6.toNat z_Api_Fact).Key).Dims_2),str (((l0.getD i6.toNat z_Api_Fact).Key).Dims_3),I ((l0.getD i6.toNat z_Api_Fact).Value)]
  cases k with
  | zero => exact absurd H4 (by simp [C0_,fact_All_R_l0])
  | succ k =>
   rw [fact_All_R_l0] at H4
   refine ent_seq (ent_region (ent_value (ov_bin rfl rfl (b_lss _ _ _)) rfl rfl rfl (ent_nil (ent_seq ?_))))
   refine htF H4 (fun c72 H4 => ?_) fun c72 H4 => ?_
   ·refine ent_cond_false rfl (decide_eq_false c72) (ent_exit (ent_seq (ent_region (ent_value (ov_assign rfl) rfl rfl rfl (ent_value (ov_assign rfl) rfl rfl rfl (ent_nil (ent_retc ?_)))))))
    cases H4
    refine ent_pick [0] (by decide) rfl ?_
    exact ret_mem (vs := [I 0,I 0]) rfl ⟨rfl,⟨rfl,trivial⟩⟩ _ rfl ⟨rfl,rfl⟩
   refine ent_cond_true rfl (decide_eq_true c72) (ent_skip (ent_seq (ent_block (ent_seq (ent_region (ent_value (ov_move rfl) rfl rfl rfl ?_))))))
   obtain ⟨c75,H4⟩ := gdT H4
   refine ent_value (ov_indexAddr (sz := 5) 0 rfl rfl F_slice_46 F_size_93 rfl hA0 c75 c72) rfl rfl rfl ?_
   refine ent_value (ov_load_agg (vs := C0_) rfl F_agg_93 F_size_93 (reads_rd (i := 0) rfl hA0 (by simp [C0_]) (fl_read0 enc_Api_Fact_len (ix_lt c75 c72) rfl))) rfl rfl rfl ?_
   refine ent_op (ot_alloc F_zero_93) rfl rfl rfl ?_
   rintro _ _ ⟨b24,rfl,rfl⟩
   refine ent_value (ov_assign rfl) rfl rfl rfl ?_
   refine ent_op0 (ot_storeG (cs := [I 0,S0,S0,S0,S0,I 0]) (cs' := C0_) (us := C0_) (L' := [box b24 93 C0_,A0]) 0 rfl rfl rfl (one_all rfl) F_size_93 rfl rfl (by simp [C0_]) rfl) rfl rfl ?_
   rintro _ _ rfl
   refine ent_nil (ent_seq (ent_region (ent_value (ov_load_agg (vs := C0_) rfl F_agg_93 F_size_93 (reads_boxW (i := 0) rfl)) rfl rfl rfl (ent_value (ov_move rfl) rfl rfl rfl ?_))))
   obtain ⟨x28,h28,H4⟩ := Option.bind_eq_some_iff.1 H4
   refine ent_op (ot_call0 (first := []) (cap := []) (xs := [.tmp 29,.tmp 30]) rfl rfl F_call_110 rfl (fact_Check.spec K (((l0.getD i6.toNat z_Api_Fact).Key).Hour) (((l0.getD i6.toNat z_Api_Fact).Key).Dims_0) (((l0.getD i6.toNat z_Api_Fact).Key).Dims_1) (((l0.getD i6.toNat z_Api_Fact).Key).Dims_2) (((l0.getD i6.toNat z_Api_Fact).Key).Dims_3) ((l0.getD i6.toNat z_Api_Fact).Value) a1 _ h28)) rfl rfl rfl ?_
   rintro _ _ ⟨rfl,rfl⟩
   refine ent_value (ov_assign rfl) rfl rfl rfl (ent_nil (ent_seq (ent_region (ent_value (ov_move rfl) rfl rfl rfl (ent_value (ov_bin rfl rfl (b_neq _ _ _)) rfl rfl rfl (ent_nil ?_))))))
   refine htF H4 (fun c76 H4 => ?_) fun c76 H4 => ?_
   ·refine ent_cond_false rfl (ne_f c76) (ent_skip (ent_region (ent_value (ov_bin rfl rfl (b_add _ _ _) ) rfl rfl rfl (ent_value (ov_move rfl) rfl rfl rfl (ent_nil ?_)))))
    exact ent_fin [1] (by decide) rfl (sub_cons (t := 1) rfl (sub_cons (t := 22) rfl (sub_cons (t := 23) rfl (sub_cons (t := 24) rfl (sub_nil _))))) fun a w h => ⟨k,Nat.lt_succ_self k,_,H4,h⟩
   refine ent_cond_true rfl (ne_t c76) (ent_seq (ent_region (ent_value (ov_move rfl) rfl rfl rfl (ent_value (ov_move rfl) rfl rfl rfl (ent_value (ov_assign rfl) rfl rfl rfl (ent_value (ov_assign rfl) rfl rfl rfl (ent_nil (ent_retc ?_))))))))
   cases H4
   refine ent_pick [1] (by decide) rfl ?_
   exact ret_mem (vs := [I x28,I i6]) rfl ⟨rfl,⟨rfl,trivial⟩⟩ _ rfl ⟨rfl,rfl⟩

theorem wal_numbers.spec (a0 a1 a2 : Int) (r : Bool) (H : wal_numbers a0 a1 a2 = r) : FnSpec Try.prog 84 [int .u64 a0,int .u64 a1,int .u64 a2] [] (fun v M => v = (bool r) ∧ M = []) := by
 unfold wal_numbers at H
 refine spec_of Try.func84 rfl 21 rfl (Nat.le_of_ble_eq_true rfl) fun F w0 => ?_
 show Ent (St 21 w0 F [(0,int .u64 a0),(1,int .u64 a1),(2,int .u64 a2)] []) _
 refine ent_seq (ent_region (ent_value (ov_assign rfl) rfl rfl rfl (ent_nil (ent_seq (ent_region (ent_value (ov_move rfl) rfl rfl rfl (ent_value (ov_bin rfl rfl (b_geq _ _ _)) rfl rfl rfl (ent_value (ov_move rfl) rfl rfl rfl ?_))))))))
 refine htF H (fun c4 H => ?_) fun c4 H => ?_
 ·refine ent_off rfl rfl rfl (decide_eq_false c4) rfl rfl ?_
  refine ent_off rfl rfl rfl (decide_eq_false c4) rfl rfl ?_
  refine ent_value (ov_pick rfl rfl rfl (pick_f (decide_eq_false c4))) rfl rfl rfl (ent_value (ov_move rfl) rfl rfl rfl ?_)
  refine ent_off rfl rfl rfl rfl rfl rfl ?_
  refine ent_off rfl rfl rfl rfl rfl rfl ?_
  refine ent_value (ov_pick rfl rfl rfl rfl) rfl rfl rfl (ent_value (ov_move rfl) rfl rfl rfl ?_)
  refine ent_off rfl rfl rfl rfl rfl rfl ?_
  refine ent_off rfl rfl rfl rfl rfl rfl ?_
  refine ent_value (ov_pick rfl rfl rfl rfl) rfl rfl rfl (ent_value (ov_assign rfl) rfl rfl rfl (ent_nil (ent_retc ?_)))
  cases H
  refine ent_pick [] (by decide) rfl ?_
  exact ret_tmp rfl rfl ⟨rfl,rfl⟩
 refine ent_value_on (ov_move rfl) rfl rfl rfl (decide_eq_true c4) rfl rfl ?_
 refine ent_value_on (ov_bin rfl rfl (b_leq _ _ _)) rfl rfl rfl (decide_eq_true c4) rfl rfl ?_
 refine ent_value (ov_pick rfl rfl rfl (pick_t (decide_eq_true c4))) rfl rfl rfl (ent_value (ov_move rfl) rfl rfl rfl ?_)
 refine htF H (fun c5 H => ?_) fun c5 H => ?_
 ·refine ent_off rfl rfl rfl (decide_eq_false c5) rfl rfl ?_
  refine ent_off rfl rfl rfl (decide_eq_false c5) rfl rfl ?_
  refine ent_value (ov_pick rfl rfl rfl (pick_f (decide_eq_false c5))) rfl rfl rfl (ent_value (ov_move rfl) rfl rfl rfl ?_)
  refine ent_off rfl rfl rfl rfl rfl rfl ?_
  refine ent_off rfl rfl rfl rfl rfl rfl ?_
  refine ent_value (ov_pick rfl rfl rfl rfl) rfl rfl rfl (ent_value (ov_assign rfl) rfl rfl rfl (ent_nil (ent_retc ?_)))
  cases H
  refine ent_pick [] (by decide) rfl ?_
  exact ret_tmp rfl rfl ⟨rfl,rfl⟩
 refine ent_value_on (ov_move rfl) rfl rfl rfl (decide_eq_true c5) rfl rfl ?_
 refine ent_value_on (ov_bin rfl rfl (b_leq _ _ _)) rfl rfl rfl (decide_eq_true c5) rfl rfl ?_
 refine ent_value (ov_pick rfl rfl rfl (pick_t (decide_eq_true c5))) rfl rfl rfl (ent_value (ov_move rfl) rfl rfl rfl ?_)
 refine htF H (fun c6 H => ?_) fun c6 H => ?_
 ·refine ent_off rfl rfl rfl (decide_eq_false c6) rfl rfl ?_
  refine ent_off rfl rfl rfl (decide_eq_false c6) rfl rfl ?_
  refine ent_value (ov_pick rfl rfl rfl (pick_f (decide_eq_false c6))) rfl rfl rfl (ent_value (ov_assign rfl) rfl rfl rfl (ent_nil (ent_retc ?_)))
  cases H
  refine ent_pick [] (by decide) rfl ?_
  exact ret_tmp rfl rfl ⟨rfl,rfl⟩
 refine ent_value_on (ov_move rfl) rfl rfl rfl (decide_eq_true c6) rfl rfl ?_
 refine ent_value_on (ov_bin rfl rfl (b_leq _ _ _)) rfl rfl rfl (decide_eq_true c6) rfl rfl ?_
 refine ent_value (ov_pick rfl rfl rfl (pick_t (decide_eq_true c6))) rfl rfl rfl (ent_value (ov_assign rfl) rfl rfl rfl (ent_nil (ent_retc ?_)))
 cases H
 refine ent_pick [] (by decide) rfl ?_
 exact ret_tmp rfl rfl ⟨rfl,rfl⟩

theorem wal_Right_O.spec (K : Nat) (sv0 : Value) (a0_0 a0_1 a0_2 : Int) (l0 : List Api_Fact) (a1 : Int) (r : Bool) (H : wal_Right_O K a0_0 a0_1 a0_2 l0 a1 = some r) : FnSpec Try.prog 53 [agg #[I a0_0,I a0_1,I a0_2,sv0],I a1] [own sv0 93 6 l0.length (fl enc_Api_Fact l0)] (fun v M => v = (bool r) ∧ M = [own sv0 93 6 l0.length (fl enc_Api_Fact l0)]) := by
 unfold wal_Right_O at H
 refine spec_of Try.func53 rfl 28 rfl (Nat.le_of_ble_eq_true rfl) fun F w0 => ?_
 show Ent (St 28 w0 F [(0,agg #[I a0_0,I a0_1,I a0_2,sv0]),(1,I a1)] [own sv0 93 6 l0.length (fl enc_Api_Fact l0)]) _
 refine ent_seq (ent_region ?_)
 refine ent_op (ot_box (cs := [I a0_0,I a0_1,I a0_2,sv0]) rfl rfl) rfl rfl rfl ?_
 rintro _ _ ⟨b2,rfl,rfl⟩
 refine ent_value (ov_assign rfl) rfl rfl rfl (ent_nil (ent_seq (ent_region (ent_value (ov_fieldAddr (sz := 0) (o := 0) rfl F_field_66_3 F_size_46) rfl rfl rfl (ent_value (ov_load (v := sv0) rfl F_agg_46 (reads_box1 (i := 0) rfl rfl)) rfl rfl rfl (ent_value (ov_move rfl) rfl rfl rfl ?_))))))
 obtain ⟨x3,h3,H⟩ := Option.bind_eq_some_iff.1 H
 refine ent_op (ot_call_same (Lr := [box b2 66 [I a0_0,I a0_1,I a0_2,sv0]]) [1,0] [1,0] (first := []) (cap := []) (xs := [.tmp 9,.tmp 10]) rfl rfl F_call_83 rfl (fact_All_R.spec K sv0 (own sv0 93 6 l0.length (fl enc_Api_Fact l0)) l0 a1 (isRd_ownx 93) _ h3) (by decide) rfl (by decide) rfl) rfl rfl rfl ?_
 rintro _ _ ⟨rfl,rfl⟩
 refine ent_value (ov_move rfl) rfl rfl rfl (ent_value (ov_extract rfl rfl) rfl rfl rfl (ent_value (ov_extract rfl rfl) rfl rfl rfl (ent_value (ov_assign rfl) rfl rfl rfl (ent_value (ov_assign rfl) rfl rfl rfl (ent_nil (ent_seq (ent_region (ent_value (ov_move rfl) rfl rfl rfl (ent_value (ov_bin rfl rfl (b_eql _ _ _)) rfl rfl rfl (ent_value (ov_move rfl) rfl rfl rfl ?_))))))))))
 refine htF H (fun c2 H => ?_) fun c2 H => ?_
 ·refine ent_off rfl rfl rfl (eq_f c2) rfl rfl ?_
  refine ent_off rfl rfl rfl (eq_f c2) rfl rfl ?_
  refine ent_off rfl rfl rfl (eq_f c2) rfl rfl ?_
  refine ent_off rfl rfl rfl (eq_f c2) rfl rfl ?_
  refine ent_off rfl rfl rfl (eq_f c2) rfl rfl ?_
  refine ent_off rfl rfl rfl (eq_f c2) rfl rfl ?_
  refine ent_off rfl rfl rfl (eq_f c2) rfl rfl ?_
  refine ent_off rfl rfl rfl (eq_f c2) rfl rfl ?_
  refine ent_off rfl rfl rfl (eq_f c2) rfl rfl ?_
  refine ent_off rfl rfl rfl (eq_f c2) rfl rfl ?_
  refine ent_value (ov_pick rfl rfl rfl (pick_f (eq_f c2))) rfl rfl rfl (ent_value (ov_assign rfl) rfl rfl rfl (ent_nil (ent_retc ?_)))
  cases H
  refine ent_pick [1] (by decide) rfl ?_
  exact ret_tmp rfl rfl ⟨rfl,rfl⟩
 refine ent_value_on (ov_fieldAddr (sz := 0) (o := 0) rfl F_field_66_0 F_size_2) rfl rfl rfl (eq_t c2) rfl rfl ?_
 refine ent_value_on (ov_load (v := (I a0_0)) rfl F_agg_2 (reads_box1 (i := 0) rfl rfl)) rfl rfl rfl (eq_t c2) rfl rfl ?_
 refine ent_value_on (ov_convert rfl (c_int Try.underlying2 Try.underlying78)) rfl rfl rfl (eq_t c2) rfl rfl ?_
 refine ent_value_on (ov_fieldAddr (sz := 0) (o := 0) rfl F_field_66_1 F_size_2) rfl rfl rfl (eq_t c2) rfl rfl ?_
 refine ent_value_on (ov_load (v := (I a0_1)) rfl F_agg_2 (reads_box1 (i := 0) rfl rfl)) rfl rfl rfl (eq_t c2) rfl rfl ?_
 refine ent_value_on (ov_convert rfl (c_int Try.underlying2 Try.underlying78)) rfl rfl rfl (eq_t c2) rfl rfl ?_
 refine ent_value_on (ov_fieldAddr (sz := 0) (o := 0) rfl F_field_66_2 F_size_2) rfl rfl rfl (eq_t c2) rfl rfl ?_
 refine ent_value_on (ov_load (v := (I a0_2)) rfl F_agg_2 (reads_box1 (i := 0) rfl rfl)) rfl rfl rfl (eq_t c2) rfl rfl ?_
 refine ent_value_on (ov_convert rfl (c_int Try.underlying2 Try.underlying78)) rfl rfl rfl (eq_t c2) rfl rfl ?_
 obtain ⟨x4,h4,H⟩ := thn_elim H
 refine ent_op_on (ot_call0 (first := []) (cap := []) (xs := [.tmp 19,.tmp 22,.tmp 25]) rfl rfl F_call_84 rfl (wal_numbers.spec (wu64 a0_0) (wu64 a0_1) (wu64 a0_2) _ h4)) rfl rfl rfl (eq_t c2) rfl rfl ?_
 rintro _ _ ⟨rfl,rfl⟩
 refine ent_value (ov_pick rfl rfl rfl (pick_t (eq_t c2))) rfl rfl rfl (ent_value (ov_assign rfl) rfl rfl rfl (ent_nil (ent_retc ?_)))
 cases H
 refine ent_pick [1] (by decide) rfl ?_
 exact ret_tmp rfl rfl ⟨rfl,rfl⟩

theorem slices_Clone____api_Fact__api_Fact_R.spec (sv0 : Value) (A0 : HP) (l0 : List Api_Fact) (hA0 : IsRd A0 sv0 l0.length 6 (fl enc_Api_Fact l0)) (r : List Api_Fact) (H : slices_Clone____api_Fact__api_Fact_R l0 = some r) : FnSpec Try.prog 54 [sv0] [A0] (fun v M => ∃ sv5 : Value,v = sv5 ∧ M = [A0,own sv5 93 6 r.length (fl enc_Api_Fact r)]) := by
 unfold slices_Clone____api_Fact__api_Fact_R at H
 refine spec_of Try.func54 rfl 8 rfl (Nat.le_of_ble_eq_true rfl) fun F w0 => ?_
 show Ent (St 8 w0 F [(0,sv0)] [A0]) _
 refine ent_seq (ent_region (ent_value (ov_assign rfl) rfl rfl rfl (ent_nil (ent_seq (ent_seq (ent_region (ent_value (ov_move rfl) rfl rfl rfl ?_)))))))
 refine htT H (fun c9 H => ?_) fun c9 H => ?_
 ·refine ent_value (ov_eqnil 0 rfl rfl Try.underlying46 rfl hA0 rfl c9) rfl rfl rfl (ent_nil (ent_cond_false rfl rfl (ent_skip (ent_seq (ent_region ?_)))))
  refine ent_op (ot_buildSlice (sz := 5) (xs := []) (cs := fl enc_Api_Fact ([] : List Api_Fact)) rfl rfl F_slice_46 F_size_93 F_zero_93 rfl rfl (all_size rfl) rfl (by decide)) rfl rfl rfl ?_
  rintro sv6 _ rfl
  refine ent_value (ov_move rfl) rfl rfl rfl ?_
  obtain ⟨c10,H⟩ := gdT H
  refine ent_op (ot_appendx (sz := 5) (xs := ([] : List Api_Fact)) (ys := l0) 0 1 rfl rfl F_slice_46 F_size_93 F_zero_93 rfl F_bytes_93 rfl rfl rfl hA0 rfl enc_Api_Fact_one c10) rfl rfl rfl ?_
  rintro sv7 _ rfl
  refine ent_L [own sv7 93 6 (([] : List Api_Fact) ++ l0).length (fl enc_Api_Fact (([] : List Api_Fact) ++ l0)),A0] rfl ?_
  refine ent_value (ov_assign rfl) rfl rfl rfl (ent_nil (ent_retc ?_))
  cases H
  refine ent_pick [1,0] (by decide) rfl ?_
  exact ret_tmp rfl rfl ⟨_,rfl,rfl⟩
 by_cases c11 : nilS sv0 = true
 ·replace H : (some (([] : List Api_Fact))) = _ := H
  refine ent_value (ov_eqnil0 0 rfl rfl Try.underlying46 rfl hA0 c11) rfl rfl rfl (ent_nil (ent_cond_true rfl rfl (ent_seq (ent_region (ent_value (ov_assign rfl) rfl rfl rfl (ent_nil (ent_retc ?_)))))))
  cases H
  refine ent_ownnil 93 6 ?_
  refine ent_pick [1,0] (by decide) rfl ?_
  exact ret_tmp rfl rfl ⟨_,rfl,rfl⟩
 ·refine ent_value (ov_eqnil0 0 rfl rfl Try.underlying46 rfl hA0 (Bool.eq_false_iff.2 c11)) rfl rfl rfl (ent_nil (ent_cond_false rfl rfl (ent_skip (ent_seq (ent_region ?_)))))
  refine ent_op (ot_buildSlice (sz := 5) (xs := []) (cs := fl enc_Api_Fact ([] : List Api_Fact)) rfl rfl F_slice_46 F_size_93 F_zero_93 rfl rfl (all_size rfl) rfl (by decide)) rfl rfl rfl ?_
  rintro sv8 _ rfl
  refine ent_value (ov_move rfl) rfl rfl rfl ?_
  obtain ⟨c12,H⟩ := gdT H
  refine ent_op (ot_appendx (sz := 5) (xs := ([] : List Api_Fact)) (ys := ([] : List Api_Fact)) 0 1 rfl rfl F_slice_46 F_size_93 F_zero_93 rfl F_bytes_93 rfl rfl rfl (isRd_zero hA0 c9) rfl enc_Api_Fact_one c12) rfl rfl rfl ?_
  rintro sv9 _ rfl
  refine ent_L [own sv9 93 6 (([] : List Api_Fact) ++ ([] : List Api_Fact)).length (fl enc_Api_Fact (([] : List Api_Fact) ++ ([] : List Api_Fact))),A0] rfl ?_
  refine ent_value (ov_assign rfl) rfl rfl rfl (ent_nil (ent_retc ?_))
  cases H
  refine ent_pick [1,0] (by decide) rfl ?_
  exact ret_tmp rfl rfl ⟨_,rfl,rfl⟩

theorem mem_Mem_Add_NO.spec (K p0 : Nat) (sv0 : Value) (p0_0 p0_2 : Int) (a1_0 a1_1 a1_2 : Int) (l0 : List Api_Fact) (r : (Int × (List Wal_Batch) × Int)) (H : mem_Mem_Add_NO K p0_0 p0_2 a1_0 a1_1 a1_2 l0 = some r) : FnSpec Try.prog 22 [pt p0 0,agg #[I a1_0,I a1_1,I a1_2,sv0]] [box p0 118 [I p0_0,L0,I p0_2],own sv0 93 6 l0.length (fl enc_Api_Fact l0)] (fun v M => ∃ sv5 : JG,v = (I r.1) ∧ M = [box p0 118 [I p0_0,sv5.sv,I r.2.2],(jown sv5 66 4 enc_Wal_Batch 93 6 jlen_Wal_Batch jics_Wal_Batch r.2.1),own sv0 93 6 l0.length (fl enc_Api_Fact l0)]) := by
 unfold mem_Mem_Add_NO at H
 refine spec_of Try.func22 rfl 44 rfl (Nat.le_of_ble_eq_true rfl) fun F w0 => ?_
 show Ent (St 44 w0 F [(0,pt p0 0),(1,agg #[I a1_0,I a1_1,I a1_2,sv0])] [box p0 118 [I p0_0,L0,I p0_2],own sv0 93 6 l0.length (fl enc_Api_Fact l0)]) _
 refine ent_seq (ent_region ?_)
 refine ent_op (ot_box (cs := [I a1_0,I a1_1,I a1_2,sv0]) rfl rfl) rfl rfl rfl ?_
 rintro _ _ ⟨b2,rfl,rfl⟩
 let C0_ : List HP := [box b2 66 [I a1_0,I a1_1,I a1_2,sv0],box p0 118 [I p0_0,L0,I p0_2],own sv0 93 6 l0.length (fl enc_Api_Fact l0)]
 refine ent_value (ov_assign rfl) rfl rfl rfl (ent_nil (ent_seq (ent_block (ent_seq ?_))))
 obtain ⟨x5,h5,H⟩ := Option.bind_eq_some_iff.1 H
 refine ent_drawm 12 rfl (fun done a w => StD 44 w0 F [(0,pt p0 0),(1,agg #[I a1_0,I a1_1,I a1_2,sv0]),(3,pt b2 0),(4,I 0)] [(0,6,pt p0 0),(1,7,B0),(2,8,B0),(3,9,agg #[I a1_0,I a1_1,I a1_2,sv0]),(4,10,pt p0 0),(5,11,pt p0 0),(6,12,pt p0 0),(7,13,I p0_0),(8,14,bool x5),(9,15,bool (!x5)),(10,16,bool (!x5)),(11,5,bool (!x5))] done C0_ a w) (by kernel_rfl) (by kernel_rfl) (draw_startL (sub_cons (t := 0) rfl (sub_cons (t := 1) rfl (sub_cons (t := 3) rfl (sub_cons (t := 4) rfl (sub_nil _))))) rfl) ?_ ?_
 ·refine ⟨?_,?_,?_,?_,?_,?_,?_,?_,?_,?_,?_,?_,trivial⟩
  ·exact fun done hi hc hcu => draw_value (i := 0) (t := 6) (v := (pt p0 0)) rfl rfl (wanted_none rfl) (fun a => hasA_base) (ov_move rfl) rfl rfl (onlyT_spec (k0 := 0) rfl rfl rfl)
  ·exact fun done hi hc hcu => draw_value (i := 1) (t := 7) (v := B0) rfl rfl (wanted_none rfl) (fun a => (hasA_cons (k := 0) rfl (done_of (j := 0) hcu rfl (by decide) rfl) hasA_base)) (ov_bin rfl rfl (b_eql_of (fun w => rfl) rfl (eq_pn Try.underlying61 _ _))) rfl rfl (onlyT_spec (k0 := 1) rfl rfl rfl)
  ·exact fun done hi hc hcu => draw_value (i := 2) (t := 8) (v := B0) rfl rfl (wanted_none rfl) (fun a => (hasA_cons (k := 1) rfl (done_of (j := 1) hcu rfl (by decide) rfl) hasA_base)) (ov_move rfl) rfl rfl (onlyT_spec (k0 := 2) rfl rfl rfl)
  ·exact fun done hi hc hcu => draw_value (i := 3) (t := 9) (v := (agg #[I a1_0,I a1_1,I a1_2,sv0])) rfl rfl (wanted_on rfl rfl rfl rfl) (fun a => (hasA_cons (k := 2) rfl (done_of (j := 2) hcu rfl (by decide) rfl) hasA_base)) (ov_load_agg (vs := [I a1_0,I a1_1,I a1_2,sv0]) rfl F_agg_66 F_size_66 (reads_boxW (i := 0) rfl)) rfl rfl (onlyT_spec (k0 := 3) rfl rfl rfl)
  ·exact fun done hi hc hcu => draw_value (i := 4) (t := 10) (v := (pt p0 0)) rfl rfl (wanted_on rfl rfl rfl rfl) (fun a => (hasA_cons (k := 2) rfl (done_of (j := 2) hcu rfl (by decide) rfl) hasA_base)) (ov_move rfl) rfl rfl (onlyT_spec (k0 := 4) rfl rfl rfl)
  ·exact fun done hi hc hcu => draw_value (i := 5) (t := 11) (v := (pt p0 0)) rfl rfl (wanted_on rfl rfl rfl rfl) (fun a => (hasA_cons (k := 2) rfl (done_of (j := 2) hcu rfl (by decide) rfl) (hasA_cons (k := 4) rfl (done_of (j := 4) hcu rfl (by decide) rfl) hasA_base))) (ov_nilCheck rfl) rfl rfl (onlyT_spec (k0 := 5) rfl rfl rfl)
  ·exact fun done hi hc hcu => draw_value (i := 6) (t := 12) (v := (pt p0 0)) rfl rfl (wanted_on rfl rfl rfl rfl) (fun a => (hasA_cons (k := 2) rfl (done_of (j := 2) hcu rfl (by decide) rfl) (hasA_cons (k := 5) rfl (done_of (j := 5) hcu rfl (by decide) rfl) hasA_base))) (ov_fieldAddr (sz := 0) (o := 0) rfl F_field_118_0 F_size_3) rfl rfl (onlyT_spec (k0 := 6) rfl rfl rfl)
  ·exact fun done hi hc hcu => draw_value (i := 7) (t := 13) (v := (I p0_0)) rfl rfl (wanted_on rfl rfl rfl rfl) (fun a => (hasA_cons (k := 2) rfl (done_of (j := 2) hcu rfl (by decide) rfl) (hasA_cons (k := 6) rfl (done_of (j := 6) hcu rfl (by decide) rfl) hasA_base))) (ov_load (v := (I p0_0)) rfl F_agg_3 (reads_box1 (i := 1) rfl rfl)) rfl rfl (onlyT_spec (k0 := 7) rfl rfl rfl)
  ·exact fun done hi hc hcu => draw_same (i := 8) (t := 14) (v := (bool x5)) rfl rfl (wanted_on rfl rfl rfl rfl) (fun a => (hasA_cons (k := 2) rfl (done_of (j := 2) hcu rfl (by decide) rfl) (hasA_cons (k := 7) rfl (done_of (j := 7) hcu rfl (by decide) rfl) (hasA_cons (k := 3) rfl (done_of (j := 3) hcu rfl (by decide) rfl) hasA_base)))) (ot_call_same (Lr := [box b2 66 [I a1_0,I a1_1,I a1_2,sv0],box p0 118 [I p0_0,L0,I p0_2]]) [2,0,1] [1,2,0] (first := []) (cap := []) (xs := [.tmp 9,.tmp 13]) rfl rfl F_call_53 rfl (wal_Right_O.spec K sv0 a1_0 a1_1 a1_2 l0 p0_0 _ h5) (by decide) rfl (by decide) rfl) rfl rfl (onlyT_spec (k0 := 8) rfl rfl rfl)
  ·exact fun done hi hc hcu => draw_value (i := 9) (t := 15) (v := (bool (!x5))) rfl rfl (wanted_on rfl rfl rfl rfl) (fun a => (hasA_cons (k := 2) rfl (done_of (j := 2) hcu rfl (by decide) rfl) (hasA_cons (k := 8) rfl (done_of (j := 8) hcu rfl (by decide) rfl) hasA_base))) (ov_un rfl (u_not _)) rfl rfl (onlyT_spec (k0 := 9) rfl rfl rfl)
  ·exact fun done hi hc hcu => draw_value (i := 10) (t := 16) (v := (bool (!x5))) rfl rfl (wanted_none rfl) (fun a => (hasA_cons (k := 9) rfl (done_of (j := 9) hcu rfl (by decide) rfl) (hasA_cons (k := 2) rfl (done_of (j := 2) hcu rfl (by decide) rfl) hasA_base))) (ov_pick rfl rfl rfl rfl) rfl rfl (onlyT_spec (k0 := 10) rfl rfl rfl)
  ·exact fun done hi hc hcu => draw_value (i := 11) (t := 5) (v := (bool (!x5))) rfl rfl (wanted_none rfl) (fun a => (hasA_cons (k := 10) rfl (done_of (j := 10) hcu rfl (by decide) rfl) hasA_base)) (ov_assign rfl) rfl rfl (onlyT_spec (k0 := 11) rfl rfl rfl)
 ·intro done hall
  refine draw_endL C0_ rfl (fun a => (hasA_cons (k := 11) rfl (hall 11 (by decide)) (hasA_cons (k := 0) rfl (hall 0 (by decide)) (hasA_cons (k := 1) rfl (hall 1 (by decide)) (hasA_cons (k := 2) rfl (hall 2 (by decide)) (hasA_cons (k := 3) rfl (hall 3 (by decide)) (hasA_cons (k := 4) rfl (hall 4 (by decide)) (hasA_cons (k := 5) rfl (hall 5 (by decide)) (hasA_cons (k := 6) rfl (hall 6 (by decide)) (hasA_cons (k := 7) rfl (hall 7 (by decide)) (hasA_cons (k := 8) rfl (hall 8 (by decide)) (hasA_cons (k := 9) rfl (hall 9 (by decide)) (hasA_cons (k := 10) rfl (hall 10 (by decide)) hasA_base))))))))))))) ?_
  refine htT H (fun c8 H => ?_) fun c8 H => ?_
  ·refine ent_cond_true rfl c8 (ent_seq (ent_region (ent_value (ov_assign rfl) rfl rfl rfl (ent_nil (ent_retc ?_)))))
   cases H
   refine ent_jnil 66 4 enc_Wal_Batch 93 6 jlen_Wal_Batch jics_Wal_Batch ?_
   refine ent_pick [2,0,3] (by decide) rfl ?_
   exact ret_tmp rfl rfl ⟨jnil,rfl,rfl⟩
  refine ent_cond_false rfl (Bool.eq_false_iff.2 c8) (ent_seq ?_)
  refine ent_drawm 8 rfl (fun done a w => StD 44 w0 F [(0,pt p0 0),(1,agg #[I a1_0,I a1_1,I a1_2,sv0]),(3,pt b2 0),(4,I 0),(5,bool (!x5)),(6,pt p0 0),(7,B0),(8,B0),(9,agg #[I a1_0,I a1_1,I a1_2,sv0]),(10,pt p0 0),(11,pt p0 0),(12,pt p0 0),(13,I p0_0),(14,bool x5),(15,bool (!x5)),(16,bool (!x5))] [(0,18,pt b2 0),(1,19,I a1_0),(2,20,pt p0 0),(3,21,pt p0 0),(4,22,pt p0 2),(5,23,I p0_2),(6,24,Value.bool (decide (a1_0 ≤ p0_2))),(7,17,Value.bool (decide (a1_0 ≤ p0_2)))] done C0_ a w) (by kernel_rfl) (by kernel_rfl) (draw_startL (sub_cons (t := 0) rfl (sub_cons (t := 1) rfl (sub_cons (t := 3) rfl (sub_cons (t := 4) rfl (sub_cons (t := 5) rfl (sub_cons (t := 6) rfl (sub_cons (t := 7) rfl (sub_cons (t := 8) rfl (sub_cons (t := 9) rfl (sub_cons (t := 10) rfl (sub_cons (t := 11) rfl (sub_cons (t := 12) rfl (sub_cons (t := 13) rfl (sub_cons (t := 14) rfl (sub_cons (t := 15) rfl (sub_cons (t := 16) rfl (sub_nil _))))))))))))))))) rfl) ?_ ?_
  ·refine ⟨?_,?_,?_,?_,?_,?_,?_,?_,trivial⟩
   ·exact fun done hi hc hcu => draw_value (i := 0) (t := 18) (v := (pt b2 0)) rfl rfl (wanted_none rfl) (fun a => hasA_base) (ov_fieldAddr (sz := 0) (o := 0) rfl F_field_66_0 F_size_2) rfl rfl (onlyT_spec (k0 := 0) rfl rfl rfl)
   ·exact fun done hi hc hcu => draw_value (i := 1) (t := 19) (v := (I a1_0)) rfl rfl (wanted_none rfl) (fun a => (hasA_cons (k := 0) rfl (done_of (j := 0) hcu rfl (by decide) rfl) hasA_base)) (ov_load (v := (I a1_0)) rfl F_agg_2 (reads_box1 (i := 0) rfl rfl)) rfl rfl (onlyT_spec (k0 := 1) rfl rfl rfl)
   ·exact fun done hi hc hcu => draw_value (i := 2) (t := 20) (v := (pt p0 0)) rfl rfl (wanted_none rfl) (fun a => hasA_base) (ov_move rfl) rfl rfl (onlyT_spec (k0 := 2) rfl rfl rfl)
   ·exact fun done hi hc hcu => draw_value (i := 3) (t := 21) (v := (pt p0 0)) rfl rfl (wanted_none rfl) (fun a => (hasA_cons (k := 2) rfl (done_of (j := 2) hcu rfl (by decide) rfl) hasA_base)) (ov_nilCheck rfl) rfl rfl (onlyT_spec (k0 := 3) rfl rfl rfl)
   ·exact fun done hi hc hcu => draw_value (i := 4) (t := 22) (v := (pt p0 2)) rfl rfl (wanted_none rfl) (fun a => (hasA_cons (k := 3) rfl (done_of (j := 3) hcu rfl (by decide) rfl) hasA_base)) (ov_fieldAddr (sz := 0) (o := 0) rfl F_field_118_2 F_size_2) rfl rfl (onlyT_spec (k0 := 4) rfl rfl rfl)
   ·exact fun done hi hc hcu => draw_value (i := 5) (t := 23) (v := (I p0_2)) rfl rfl (wanted_none rfl) (fun a => (hasA_cons (k := 4) rfl (done_of (j := 4) hcu rfl (by decide) rfl) hasA_base)) (ov_load (v := (I p0_2)) rfl F_agg_2 (reads_box1 (i := 1) rfl rfl)) rfl rfl (onlyT_spec (k0 := 5) rfl rfl rfl)
   ·exact fun done hi hc hcu => draw_value (i := 6) (t := 24) (v := (Value.bool (decide (a1_0 ≤ p0_2)))) rfl rfl (wanted_none rfl) (fun a => (hasA_cons (k := 5) rfl (done_of (j := 5) hcu rfl (by decide) rfl) (hasA_cons (k := 1) rfl (done_of (j := 1) hcu rfl (by decide) rfl) hasA_base))) (ov_bin rfl rfl (b_leq _ _ _)) rfl rfl (onlyT_spec (k0 := 6) rfl rfl rfl)
   ·exact fun done hi hc hcu => draw_value (i := 7) (t := 17) (v := (Value.bool (decide (a1_0 ≤ p0_2)))) rfl rfl (wanted_none rfl) (fun a => (hasA_cons (k := 6) rfl (done_of (j := 6) hcu rfl (by decide) rfl) hasA_base)) (ov_assign rfl) rfl rfl (onlyT_spec (k0 := 7) rfl rfl rfl)
  ·intro done hall
   refine draw_endL C0_ rfl (fun a => (hasA_cons (k := 7) rfl (hall 7 (by decide)) (hasA_cons (k := 0) rfl (hall 0 (by decide)) (hasA_cons (k := 1) rfl (hall 1 (by decide)) (hasA_cons (k := 2) rfl (hall 2 (by decide)) (hasA_cons (k := 3) rfl (hall 3 (by decide)) (hasA_cons (k := 4) rfl (hall 4 (by decide)) (hasA_cons (k := 5) rfl (hall 5 (by decide)) (hasA_cons (k := 6) rfl (hall 6 (by decide)) hasA_base))))))))) ?_
   refine htT H (fun c9 H => ?_) fun c9 H => ?_
   ·refine ent_cond_true rfl (decide_eq_true c9) (ent_seq (ent_region (ent_value (ov_assign rfl) rfl rfl rfl (ent_nil (ent_retc ?_)))))
    cases H
    refine ent_jnil 66 4 enc_Wal_Batch 93 6 jlen_Wal_Batch jics_Wal_Batch ?_
    refine ent_pick [2,0,3] (by decide) rfl ?_
    exact ret_tmp rfl rfl ⟨jnil,rfl,rfl⟩
   refine ent_cond_false rfl (decide_eq_false c9) (ent_skip (ent_seq (ent_region (ent_value (ov_move rfl) rfl rfl rfl (ent_value (ov_fieldAddr (sz := 0) (o := 0) rfl F_field_66_0 F_size_2) rfl rfl rfl (ent_value (ov_load (v := (I a1_0)) rfl F_agg_2 (reads_box1 (i := 0) rfl rfl)) rfl rfl rfl (ent_value (ov_nilCheck rfl) rfl rfl rfl (ent_value (ov_fieldAddr (sz := 0) (o := 0) rfl F_field_118_2 F_size_2) rfl rfl rfl ?_))))))))
   refine ent_op0 (ot_storeG (cs := [I p0_0,L0,I p0_2]) (cs' := [I p0_0,L0,I a1_0]) (us := [I a1_0]) (L' := [box b2 66 [I a1_0,I a1_1,I a1_2,sv0],box p0 118 [I p0_0,L0,I a1_0],own sv0 93 6 l0.length (fl enc_Api_Fact l0)]) 1 rfl rfl rfl (one_all rfl) F_size_2 rfl rfl (by simp [C0_]) rfl) rfl rfl ?_
   rintro _ _ rfl
   refine ent_nil (ent_seq (ent_region (ent_value (ov_fieldAddr (sz := 0) (o := 0) rfl F_field_66_3 F_size_46) rfl rfl rfl (ent_value (ov_load (v := sv0) rfl F_agg_46 (reads_box1 (i := 0) rfl rfl)) rfl rfl rfl ?_))))
   obtain ⟨x6,h6,H⟩ := Option.bind_eq_some_iff.1 H
   refine ent_pick [2,0,1] (by decide) rfl ?_
   refine ent_op (ot_call (Lr := [box b2 66 [I a1_0,I a1_1,I a1_2,sv0],box p0 118 [I p0_0,L0,I a1_0]]) (first := []) (cap := []) (xs := [.tmp 31]) rfl rfl F_call_54 rfl (slices_Clone____api_Fact__api_Fact_R.spec sv0 (own sv0 93 6 l0.length (fl enc_Api_Fact l0)) l0 (isRd_ownx 93) _ h6) rfl) rfl rfl rfl ?_
   rintro sv6 _ ⟨_,⟨_,rfl,rfl⟩,rfl⟩
   refine ent_value (ov_fieldAddr (sz := 0) (o := 0) rfl F_field_66_3 F_size_46) rfl rfl rfl ?_
   refine ent_op0 (ot_storeS (cs := [I a1_0,I a1_1,I a1_2,sv0]) (cs' := [I a1_0,I a1_1,I a1_2,sv6]) (sv := sv6) (L' := [own sv0 93 6 l0.length (fl enc_Api_Fact l0),own sv6 93 6 x6.length (fl enc_Api_Fact x6),box b2 66 [I a1_0,I a1_1,I a1_2,sv6],box p0 118 [I p0_0,L0,I a1_0]]) 2 1 rfl rfl F_size_46 rfl rfl (isRd_ownx 93) rfl (by simp [C0_]) rfl) rfl rfl ?_
   rintro _ _ rfl
   refine ent_nil (ent_seq ?_)
   obtain ⟨c10,H⟩ := gdT H
   refine ent_jnil 66 4 enc_Wal_Batch 93 6 jlen_Wal_Batch jics_Wal_Batch ?_
   let Z8_T : DT := fun ga3 => [(0,34,pt p0 0),(1,35,pt p0 0),(2,36,pt p0 0),(3,37,pt p0 1),(4,38,L0),(5,39,agg #[I a1_0,I a1_1,I a1_2,sv6]),(6,40,(ga3 6)),(7,41,(ga3 7)),(8,42,pt p0 0),(9,43,pt p0 1)]
   let Z8_L : DL := fun ga3 done => [sel (done 7) emp (sel (done 6) (own (ga3 6) 66 4 1 (enc_Wal_Batch (⟨a1_0,a1_1,a1_2,x6⟩ : Wal_Batch) sv6)) emp),sel (done 7) (hown (ga3 7) 66 4 enc_Wal_Batch 93 6 jlen_Wal_Batch jics_Wal_Batch (([] : List Wal_Batch) ++ [(⟨a1_0,a1_1,a1_2,x6⟩ : Wal_Batch)])) (jown jnil 66 4 enc_Wal_Batch 93 6 jlen_Wal_Batch jics_Wal_Batch ([] : List Wal_Batch)),own sv0 93 6 l0.length (fl enc_Api_Fact l0),sel (done 7) emp (own sv6 93 6 x6.length (fl enc_Api_Fact x6)),box b2 66 [I a1_0,I a1_1,I a1_2,sv6],sel (done 10) (box p0 118 [I p0_0,(ga3 7),I a1_0]) (box p0 118 [I p0_0,L0,I a1_0])]
   let Z8_I : DI := fun ga3 done a w => StD 44 w0 F [(0,pt p0 0),(1,agg #[I a1_0,I a1_1,I a1_2,sv0]),(3,pt b2 0),(4,I 0),(5,bool (!x5)),(6,pt p0 0),(7,B0),(8,B0),(9,agg #[I a1_0,I a1_1,I a1_2,sv0]),(10,pt p0 0),(11,pt p0 0),(12,pt p0 0),(13,I p0_0),(14,bool x5),(15,bool (!x5)),(16,bool (!x5)),(17,Value.bool (decide (a1_0 ≤ p0_2))),(18,pt b2 0),(19,I a1_0),(20,pt p0 0),(21,pt p0 0),(22,pt p0 2),(23,I p0_2),(24,Value.bool (decide (a1_0 ≤ p0_2))),(25,pt p0 0),(26,pt b2 0),(27,I a1_0),(28,pt p0 0),(29,pt p0 2),(30,pt b2 3),(31,sv0),(32,sv6),(33,pt b2 3)] (Z8_T ga3) done (Z8_L ga3 done) a w
   refine ent_drawm 11 rfl (fun done a w => ∃ ga3 : Nat → Value,Z8_I ga3 done a w) (by kernel_rfl) (by kernel_rfl) (draw_startG (T := Z8_T) (L' := fun ga3 : Nat → Value => [sel false emp (sel false (own (ga3 6) 66 4 1 (enc_Wal_Batch (⟨a1_0,a1_1,a1_2,x6⟩ : Wal_Batch) sv6)) emp),sel false (hown (ga3 7) 66 4 enc_Wal_Batch 93 6 jlen_Wal_Batch jics_Wal_Batch (([] : List Wal_Batch) ++ [(⟨a1_0,a1_1,a1_2,x6⟩ : Wal_Batch)])) (jown jnil 66 4 enc_Wal_Batch 93 6 jlen_Wal_Batch jics_Wal_Batch ([] : List Wal_Batch)),own sv0 93 6 l0.length (fl enc_Api_Fact l0),sel false emp (own sv6 93 6 x6.length (fl enc_Api_Fact x6)),box b2 66 [I a1_0,I a1_1,I a1_2,sv6],sel false (box p0 118 [I p0_0,(ga3 7),I a1_0]) (box p0 118 [I p0_0,L0,I a1_0])]) 1 (sub_cons (t := 0) rfl (sub_cons (t := 1) rfl (sub_cons (t := 3) rfl (sub_cons (t := 4) rfl (sub_cons (t := 5) rfl (sub_cons (t := 6) rfl (sub_cons (t := 7) rfl (sub_cons (t := 8) rfl (sub_cons (t := 9) rfl (sub_cons (t := 10) rfl (sub_cons (t := 11) rfl (sub_cons (t := 12) rfl (sub_cons (t := 13) rfl (sub_cons (t := 14) rfl (sub_cons (t := 15) rfl (sub_cons (t := 16) rfl (sub_cons (t := 17) rfl (sub_cons (t := 18) rfl (sub_cons (t := 19) rfl (sub_cons (t := 20) rfl (sub_cons (t := 21) rfl (sub_cons (t := 22) rfl (sub_cons (t := 23) rfl (sub_cons (t := 24) rfl (sub_cons (t := 25) rfl (sub_cons (t := 26) rfl (sub_cons (t := 27) rfl (sub_cons (t := 28) rfl (sub_cons (t := 29) rfl (sub_cons (t := 30) rfl (sub_cons (t := 31) rfl (sub_cons (t := 32) rfl (sub_cons (t := 33) rfl (sub_nil _)))))))))))))))))))))))))))))))))) (fun _ => rfl)) ?_ ?_
   ·refine ⟨?_,?_,?_,?_,?_,?_,?_,?_,?_,?_,?_,trivial⟩
    ·exact fun done hi hc hcu => draw_exi (I := Z8_I) fun ga3 => draw_value (i := 0) (t := 34) (v := (pt p0 0)) rfl rfl (wanted_none rfl) (fun a => hasA_base) (ov_move rfl) rfl rfl (onlyT_spec (k0 := 0) rfl rfl rfl)
    ·exact fun done hi hc hcu => draw_exi (I := Z8_I) fun ga3 => draw_value (i := 1) (t := 35) (v := (pt p0 0)) rfl rfl (wanted_none rfl) (fun a => hasA_base) (ov_move rfl) rfl rfl (onlyT_spec (k0 := 1) rfl rfl rfl)
    ·intro done hi hc hcu
     refine draw_exi (I := Z8_I) fun ga3 => ?_
     have d1 : done 1 = true := done_of (j := 1) hcu rfl (by decide) rfl
     have n10 : done 10 = false := notdone_of (m := 10) hc hi rfl rfl
     exact draw_value (i := 2) (t := 36) (v := (pt p0 0)) rfl rfl (wanted_none rfl) (fun a => (hasA_cons (k := 1) rfl d1 hasA_base)) (ov_L (L2 := [sel (done 7) emp (sel (done 6) (own (ga3 6) 66 4 1 (enc_Wal_Batch (⟨a1_0,a1_1,a1_2,x6⟩ : Wal_Batch) sv6)) emp),sel (done 7) (hown (ga3 7) 66 4 enc_Wal_Batch 93 6 jlen_Wal_Batch jics_Wal_Batch (([] : List Wal_Batch) ++ [(⟨a1_0,a1_1,a1_2,x6⟩ : Wal_Batch)])) (jown jnil 66 4 enc_Wal_Batch 93 6 jlen_Wal_Batch jics_Wal_Batch ([] : List Wal_Batch)),own sv0 93 6 l0.length (fl enc_Api_Fact l0),sel (done 7) emp (own sv6 93 6 x6.length (fl enc_Api_Fact x6)),box b2 66 [I a1_0,I a1_1,I a1_2,sv6],box p0 118 [I p0_0,L0,I a1_0]]) (by simp only [C0_,Z8_T,Z8_L,n10,sel]) (ov_nilCheck rfl)) rfl rfl (onlyT_spec (k0 := 2) rfl rfl rfl)
    ·intro done hi hc hcu
     refine draw_exi (I := Z8_I) fun ga3 => ?_
     have d2 : done 2 = true := done_of (j := 2) hcu rfl (by decide) rfl
     have n10 : done 10 = false := notdone_of (m := 10) hc hi rfl rfl
     exact draw_value (i := 3) (t := 37) (v := (pt p0 1)) rfl rfl (wanted_none rfl) (fun a => (hasA_cons (k := 2) rfl d2 hasA_base)) (ov_L (L2 := [sel (done 7) emp (sel (done 6) (own (ga3 6) 66 4 1 (enc_Wal_Batch (⟨a1_0,a1_1,a1_2,x6⟩ : Wal_Batch) sv6)) emp),sel (done 7) (hown (ga3 7) 66 4 enc_Wal_Batch 93 6 jlen_Wal_Batch jics_Wal_Batch (([] : List Wal_Batch) ++ [(⟨a1_0,a1_1,a1_2,x6⟩ : Wal_Batch)])) (jown jnil 66 4 enc_Wal_Batch 93 6 jlen_Wal_Batch jics_Wal_Batch ([] : List Wal_Batch)),own sv0 93 6 l0.length (fl enc_Api_Fact l0),sel (done 7) emp (own sv6 93 6 x6.length (fl enc_Api_Fact x6)),box b2 66 [I a1_0,I a1_1,I a1_2,sv6],box p0 118 [I p0_0,L0,I a1_0]]) (by simp only [C0_,Z8_T,Z8_L,n10,sel]) (ov_fieldAddr (sz := 0) (o := 0) rfl F_field_118_1 F_size_72)) rfl rfl (onlyT_spec (k0 := 3) rfl rfl rfl)
    ·intro done hi hc hcu
     refine draw_exi (I := Z8_I) fun ga3 => ?_
     have d3 : done 3 = true := done_of (j := 3) hcu rfl (by decide) rfl
     have n10 : done 10 = false := notdone_of (m := 10) hc hi rfl rfl
     exact draw_value (i := 4) (t := 38) (v := L0) rfl rfl (wanted_none rfl) (fun a => (hasA_cons (k := 3) rfl d3 hasA_base)) (ov_L (L2 := [sel (done 7) emp (sel (done 6) (own (ga3 6) 66 4 1 (enc_Wal_Batch (⟨a1_0,a1_1,a1_2,x6⟩ : Wal_Batch) sv6)) emp),sel (done 7) (hown (ga3 7) 66 4 enc_Wal_Batch 93 6 jlen_Wal_Batch jics_Wal_Batch (([] : List Wal_Batch) ++ [(⟨a1_0,a1_1,a1_2,x6⟩ : Wal_Batch)])) (jown jnil 66 4 enc_Wal_Batch 93 6 jlen_Wal_Batch jics_Wal_Batch ([] : List Wal_Batch)),own sv0 93 6 l0.length (fl enc_Api_Fact l0),sel (done 7) emp (own sv6 93 6 x6.length (fl enc_Api_Fact x6)),box b2 66 [I a1_0,I a1_1,I a1_2,sv6],box p0 118 [I p0_0,L0,I a1_0]]) (by simp only [C0_,Z8_T,Z8_L,n10,sel]) (ov_load (v := L0) rfl F_agg_72 (reads_box1 (i := 5) rfl rfl))) rfl rfl (onlyT_spec (k0 := 4) rfl rfl rfl)
    ·exact fun done hi hc hcu => draw_exi (I := Z8_I) fun ga3 => draw_value (i := 5) (t := 39) (v := (agg #[I a1_0,I a1_1,I a1_2,sv6])) rfl rfl (wanted_none rfl) (fun a => hasA_base) (ov_load_agg (vs := [I a1_0,I a1_1,I a1_2,sv6]) rfl F_agg_66 F_size_66 (reads_boxW (i := 4) rfl)) rfl rfl (onlyT_spec (k0 := 5) rfl rfl rfl)
    ·intro done hi hc hcu
     refine ent_exi (S := fun ga3 => Z8_I ga3 done) fun ga3 => ?_
     have d5 : done 5 = true := done_of (j := 5) hcu rfl (by decide) rfl
     have n7 : done 7 = false := notdone_of (m := 7) hc hi rfl rfl
     refine draw_newV (i := 6) (t := 40) (x := ga3) (L := Z8_L) (T := Z8_T) (L2 := [emp,sel (done 7) (hown (ga3 7) 66 4 enc_Wal_Batch 93 6 jlen_Wal_Batch jics_Wal_Batch (([] : List Wal_Batch) ++ [(⟨a1_0,a1_1,a1_2,x6⟩ : Wal_Batch)])) (jown jnil 66 4 enc_Wal_Batch 93 6 jlen_Wal_Batch jics_Wal_Batch ([] : List Wal_Batch)),own sv0 93 6 l0.length (fl enc_Api_Fact l0),sel (done 7) emp (own sv6 93 6 x6.length (fl enc_Api_Fact x6)),box b2 66 [I a1_0,I a1_1,I a1_2,sv6],sel (done 10) (box p0 118 [I p0_0,(ga3 7),I a1_0]) (box p0 118 [I p0_0,L0,I a1_0])]) (B := fun v_ => (own v_ 66 4 1 (enc_Wal_Batch (⟨a1_0,a1_1,a1_2,x6⟩ : Wal_Batch) sv6))) 0 rfl rfl (wanted_none rfl) (fun a => (hasA_cons (k := 5) rfl d5 hasA_base)) (by simp only [C0_,Z8_T,Z8_L,n7,hi,sel]) (ot_buildSlice (sz := 3) (xs := [.tmp 39]) (cs := enc_Wal_Batch (⟨a1_0,a1_1,a1_2,x6⟩ : Wal_Batch) sv6) rfl rfl F_slice_72 F_size_66 F_zero_66 rfl rfl (all_size rfl) rfl (by decide)) ?_ rfl (fun v_ => ?_) rfl rfl ?_
     ·rintro _ _ rfl; rfl
     ·simp [C0_,Z8_T,Z8_L,up,upb,sel,n7,hi]
     ·rintro _ _ rfl
      exact (tr_same rfl rfl (tr_same rfl rfl (tr_same rfl rfl (tr_same rfl rfl (tr_same rfl rfl (tr_same rfl rfl (tr_this (tr_same rfl rfl (tr_same rfl rfl (tr_same rfl rfl tr_nil))))))))))
    ·intro done hi hc hcu
     refine ent_exi (S := fun ga3 => Z8_I ga3 done) fun ga3 => ?_
     have d4 : done 4 = true := done_of (j := 4) hcu rfl (by decide) rfl
     have d6 : done 6 = true := done_of (j := 6) hcu rfl (by decide) rfl
     have n10 : done 10 = false := notdone_of (m := 10) hc hi rfl rfl
     exact draw_turnI (i := 7) (t := 41) (x := ga3) (L := Z8_L) (T := Z8_T) (L2 := [own (ga3 6) 66 4 1 (enc_Wal_Batch (⟨a1_0,a1_1,a1_2,x6⟩ : Wal_Batch) sv6),(jown jnil 66 4 enc_Wal_Batch 93 6 jlen_Wal_Batch jics_Wal_Batch ([] : List Wal_Batch)),own sv0 93 6 l0.length (fl enc_Api_Fact l0),own sv6 93 6 x6.length (fl enc_Api_Fact x6),box b2 66 [I a1_0,I a1_1,I a1_2,sv6],box p0 118 [I p0_0,L0,I a1_0]]) rfl rfl (wanted_none rfl) (fun a => (hasA_cons (k := 6) rfl d6 (hasA_cons (k := 4) rfl d4 hasA_base))) (by simp only [C0_,Z8_T,Z8_L,d6,n10,hi,sel]) (ot_appendH (sz := 3) (fun v_ => [emp,(hown v_ 66 4 enc_Wal_Batch 93 6 jlen_Wal_Batch jics_Wal_Batch (([] : List Wal_Batch) ++ [(⟨a1_0,a1_1,a1_2,x6⟩ : Wal_Batch)])),own sv0 93 6 l0.length (fl enc_Api_Fact l0),emp,box b2 66 [I a1_0,I a1_1,I a1_2,sv6],box p0 118 [I p0_0,L0,I a1_0]]) [1,0,3,2,4,5] [1,0,3,2,4,5] (by decide) (by decide) rfl (fun _ => rfl) rfl rfl F_slice_72 F_size_66 F_zero_66 rfl F_bytes_66 rfl (enc_Wal_Batch_one _ _) c10) rfl rfl fun v_ M_ hM_ => ⟨upb ga3 7 v_,hM_.trans (show [emp,(hown v_ 66 4 enc_Wal_Batch 93 6 jlen_Wal_Batch jics_Wal_Batch (([] : List Wal_Batch) ++ [(⟨a1_0,a1_1,a1_2,x6⟩ : Wal_Batch)])),own sv0 93 6 l0.length (fl enc_Api_Fact l0),emp,box b2 66 [I a1_0,I a1_1,I a1_2,sv6],box p0 118 [I p0_0,L0,I a1_0]] = _ by simp [C0_,Z8_T,Z8_L,up,upb,sel,d6,n10,n10,hi]),(tr_same rfl rfl (tr_same rfl rfl (tr_same rfl rfl (tr_same rfl rfl (tr_same rfl rfl (tr_same rfl rfl (tr_same rfl rfl (tr_this (tr_same rfl rfl (tr_same rfl rfl tr_nil))))))))))⟩
    ·intro done hi hc hcu
     refine draw_exi (I := Z8_I) fun ga3 => ?_
     have d0 : done 0 = true := done_of (j := 0) hcu rfl (by decide) rfl
     have n9 : done 9 = false := notdone_of (m := 9) hc hi rfl rfl
     have n10 : done 10 = false := notdone_of (m := 10) hc n9 rfl rfl
     exact draw_value (i := 8) (t := 42) (v := (pt p0 0)) rfl rfl (wanted_none rfl) (fun a => (hasA_cons (k := 0) rfl d0 hasA_base)) (ov_L (L2 := [sel (done 7) emp (sel (done 6) (own (ga3 6) 66 4 1 (enc_Wal_Batch (⟨a1_0,a1_1,a1_2,x6⟩ : Wal_Batch) sv6)) emp),sel (done 7) (hown (ga3 7) 66 4 enc_Wal_Batch 93 6 jlen_Wal_Batch jics_Wal_Batch (([] : List Wal_Batch) ++ [(⟨a1_0,a1_1,a1_2,x6⟩ : Wal_Batch)])) (jown jnil 66 4 enc_Wal_Batch 93 6 jlen_Wal_Batch jics_Wal_Batch ([] : List Wal_Batch)),own sv0 93 6 l0.length (fl enc_Api_Fact l0),sel (done 7) emp (own sv6 93 6 x6.length (fl enc_Api_Fact x6)),box b2 66 [I a1_0,I a1_1,I a1_2,sv6],box p0 118 [I p0_0,L0,I a1_0]]) (by simp only [C0_,Z8_T,Z8_L,n10,sel]) (ov_nilCheck rfl)) rfl rfl (onlyT_spec (k0 := 8) rfl rfl rfl)
    ·intro done hi hc hcu
     refine draw_exi (I := Z8_I) fun ga3 => ?_
     have d8 : done 8 = true := done_of (j := 8) hcu rfl (by decide) rfl
     have n10 : done 10 = false := notdone_of (m := 10) hc hi rfl rfl
     exact draw_value (i := 9) (t := 43) (v := (pt p0 1)) rfl rfl (wanted_none rfl) (fun a => (hasA_cons (k := 8) rfl d8 hasA_base)) (ov_L (L2 := [sel (done 7) emp (sel (done 6) (own (ga3 6) 66 4 1 (enc_Wal_Batch (⟨a1_0,a1_1,a1_2,x6⟩ : Wal_Batch) sv6)) emp),sel (done 7) (hown (ga3 7) 66 4 enc_Wal_Batch 93 6 jlen_Wal_Batch jics_Wal_Batch (([] : List Wal_Batch) ++ [(⟨a1_0,a1_1,a1_2,x6⟩ : Wal_Batch)])) (jown jnil 66 4 enc_Wal_Batch 93 6 jlen_Wal_Batch jics_Wal_Batch ([] : List Wal_Batch)),own sv0 93 6 l0.length (fl enc_Api_Fact l0),sel (done 7) emp (own sv6 93 6 x6.length (fl enc_Api_Fact x6)),box b2 66 [I a1_0,I a1_1,I a1_2,sv6],box p0 118 [I p0_0,L0,I a1_0]]) (by simp only [C0_,Z8_T,Z8_L,n10,sel]) (ov_fieldAddr (sz := 0) (o := 0) rfl F_field_118_1 F_size_72)) rfl rfl (onlyT_spec (k0 := 9) rfl rfl rfl)
    ·intro done hi hc hcu
     refine draw_exi (I := Z8_I) fun ga3 => ?_
     have d9 : done 9 = true := done_of (j := 9) hcu rfl (by decide) rfl
     have d7 : done 7 = true := done_of (j := 7) hcu rfl (by decide) rfl
     exact draw_store (i := 10) (L2 := [sel (done 7) emp (sel (done 6) (own (ga3 6) 66 4 1 (enc_Wal_Batch (⟨a1_0,a1_1,a1_2,x6⟩ : Wal_Batch) sv6)) emp),(hown (ga3 7) 66 4 enc_Wal_Batch 93 6 jlen_Wal_Batch jics_Wal_Batch (([] : List Wal_Batch) ++ [(⟨a1_0,a1_1,a1_2,x6⟩ : Wal_Batch)])),own sv0 93 6 l0.length (fl enc_Api_Fact l0),sel (done 7) emp (own sv6 93 6 x6.length (fl enc_Api_Fact x6)),box b2 66 [I a1_0,I a1_1,I a1_2,sv6],box p0 118 [I p0_0,L0,I a1_0]]) (L3 := [sel (done 7) emp (sel (done 6) (own (ga3 6) 66 4 1 (enc_Wal_Batch (⟨a1_0,a1_1,a1_2,x6⟩ : Wal_Batch) sv6)) emp),(hown (ga3 7) 66 4 enc_Wal_Batch 93 6 jlen_Wal_Batch jics_Wal_Batch (([] : List Wal_Batch) ++ [(⟨a1_0,a1_1,a1_2,x6⟩ : Wal_Batch)])),own sv0 93 6 l0.length (fl enc_Api_Fact l0),sel (done 7) emp (own sv6 93 6 x6.length (fl enc_Api_Fact x6)),box b2 66 [I a1_0,I a1_1,I a1_2,sv6],box p0 118 [I p0_0,(ga3 7),I a1_0]]) rfl rfl (wanted_none rfl) (fun a => (hasA_cons (k := 7) rfl d7 (hasA_cons (k := 9) rfl d9 hasA_base))) (by simp only [C0_,Z8_T,Z8_L,d7,hi,sel]) (by simp [C0_,Z8_T,Z8_L,up,d7,sel]) (ot_storeS (cs := [I p0_0,L0,I a1_0]) (cs' := [I p0_0,(ga3 7),I a1_0]) (sv := (ga3 7)) (L' := [sel (done 7) emp (sel (done 6) (own (ga3 6) 66 4 1 (enc_Wal_Batch (⟨a1_0,a1_1,a1_2,x6⟩ : Wal_Batch) sv6)) emp),(hown (ga3 7) 66 4 enc_Wal_Batch 93 6 jlen_Wal_Batch jics_Wal_Batch (([] : List Wal_Batch) ++ [(⟨a1_0,a1_1,a1_2,x6⟩ : Wal_Batch)])),own sv0 93 6 l0.length (fl enc_Api_Fact l0),sel (done 7) emp (own sv6 93 6 x6.length (fl enc_Api_Fact x6)),box b2 66 [I a1_0,I a1_1,I a1_2,sv6],box p0 118 [I p0_0,(ga3 7),I a1_0]]) 5 1 rfl rfl F_size_72 rfl rfl isRd_hout rfl (by simp [C0_,Z8_T,Z8_L]) rfl) (offT_spec rfl)
   ·intro done hall
    refine ent_exi (S := fun ga3 => Z8_I ga3 done) fun ga3 => ?_
    refine draw_endL [emp,(hown (ga3 7) 66 4 enc_Wal_Batch 93 6 jlen_Wal_Batch jics_Wal_Batch (([] : List Wal_Batch) ++ [(⟨a1_0,a1_1,a1_2,x6⟩ : Wal_Batch)])),own sv0 93 6 l0.length (fl enc_Api_Fact l0),emp,box b2 66 [I a1_0,I a1_1,I a1_2,sv6],box p0 118 [I p0_0,(ga3 7),I a1_0]] (by simp only [C0_,Z8_T,Z8_L,hall 6 (by decide),hall 7 (by decide),hall 10 (by decide),sel]) (fun a => (hasA_cons (k := 0) rfl (hall 0 (by decide)) (hasA_cons (k := 1) rfl (hall 1 (by decide)) (hasA_cons (k := 2) rfl (hall 2 (by decide)) (hasA_cons (k := 3) rfl (hall 3 (by decide)) (hasA_cons (k := 4) rfl (hall 4 (by decide)) (hasA_cons (k := 5) rfl (hall 5 (by decide)) (hasA_cons (k := 6) rfl (hall 6 (by decide)) (hasA_cons (k := 7) rfl (hall 7 (by decide)) (hasA_cons (k := 8) rfl (hall 8 (by decide)) (hasA_cons (k := 9) rfl (hall 9 (by decide)) hasA_base))))))))))) ?_
    refine ent_unh 1 rfl fun sv8 hsv8 => ?_
    rw [← hsv8]
    refine ent_L [emp,(jown sv8 66 4 enc_Wal_Batch 93 6 jlen_Wal_Batch jics_Wal_Batch (([] : List Wal_Batch) ++ [(⟨a1_0,a1_1,a1_2,x6⟩ : Wal_Batch)])),own sv0 93 6 l0.length (fl enc_Api_Fact l0),emp,box b2 66 [I a1_0,I a1_1,I a1_2,sv6],box p0 118 [I p0_0,sv8.sv,I a1_0]] rfl ?_
    refine ent_seq (ent_region (ent_value (ov_assign rfl) rfl rfl rfl (ent_nil (ent_retc ?_))))
    cases H
    refine ent_pick [5,1,2] (by decide) rfl ?_
    exact ret_tmp rfl rfl ⟨sv8,rfl,rfl⟩

theorem mem_Mem_batches_O.spec (p0 : Nat) (sv0 : JG) (p0_0 : Int) (l0 : List Wal_Batch) (p0_2 : Int) (r : Unit) (H : mem_Mem_batches_O p0_0 l0 p0_2 = r) : FnSpec Try.prog 56 [pt p0 0] [box p0 118 [I p0_0,sv0.sv,I p0_2],(jown sv0 66 4 enc_Wal_Batch 93 6 jlen_Wal_Batch jics_Wal_Batch l0)] (fun v M => v = sv0.sv ∧ M = [box p0 118 [I p0_0,sv0.sv,I p0_2],(jown sv0 66 4 enc_Wal_Batch 93 6 jlen_Wal_Batch jics_Wal_Batch l0)]) := by
 unfold mem_Mem_batches_O at H
 refine spec_of Try.func56 rfl 9 rfl (Nat.le_of_ble_eq_true rfl) fun F w0 => ?_
 show Ent (St 9 w0 F [(0,pt p0 0)] [box p0 118 [I p0_0,sv0.sv,I p0_2],(jown sv0 66 4 enc_Wal_Batch 93 6 jlen_Wal_Batch jics_Wal_Batch l0)]) _
 refine ent_seq (ent_region (ent_value (ov_assign rfl) rfl rfl rfl (ent_nil (ent_seq (ent_seq (ent_region (ent_value (ov_move rfl) rfl rfl rfl ?_)))))))
 refine ent_value (ov_bin rfl rfl (b_eql_of (fun w => rfl) rfl (eq_pn Try.underlying61 _ _))) rfl rfl rfl ?_
 refine ent_nil (ent_cond_false rfl rfl (ent_skip (ent_seq (ent_region (ent_value (ov_move rfl) rfl rfl rfl (ent_value (ov_nilCheck rfl) rfl rfl rfl (ent_value (ov_fieldAddr (sz := 0) (o := 0) rfl F_field_118_1 F_size_72) rfl rfl rfl (ent_value (ov_load (v := sv0.sv) rfl F_agg_72 (reads_box1 (i := 0) rfl rfl)) rfl rfl rfl (ent_value (ov_assign rfl) rfl rfl rfl (ent_nil (ent_retc ?_)))))))))))
 cases H
 refine ent_pick [0,1] (by decide) rfl ?_
 exact ret_tmp rfl rfl ⟨rfl,rfl⟩

theorem wal_Facts_O.spec (K : Nat) (sv0 : JG) (l0 : List Wal_Batch) (a1 a2 : Int) (r : List Api_Fact) (H : wal_Facts_O K l0 a1 a2 = some r) : FnSpec Try.prog 55 [sv0.sv,I a1,I a2] [(jown sv0 66 4 enc_Wal_Batch 93 6 jlen_Wal_Batch jics_Wal_Batch l0)] (fun v M => ∃ sv165 : Value,v = sv165 ∧ M = [(jown sv0 66 4 enc_Wal_Batch 93 6 jlen_Wal_Batch jics_Wal_Batch l0),own sv165 93 6 r.length (fl enc_Api_Fact r)]) := by
 unfold wal_Facts_O at H
 refine spec_of Try.func55 rfl 43 rfl (Nat.le_of_ble_eq_true rfl) fun F w0 => ?_
 show Ent (St 43 w0 F [(0,sv0.sv),(1,I a1),(2,I a2)] [(jown sv0 66 4 enc_Wal_Batch 93 6 jlen_Wal_Batch jics_Wal_Batch l0)]) _
 refine ent_seq (ent_region (ent_value (ov_assign rfl) rfl rfl rfl (ent_nil (ent_seq (ent_seq (ent_region (ent_value (ov_move rfl) rfl rfl rfl (ent_value (ov_len 0 rfl F_slice_72 rfl isRd_jout) rfl rfl rfl (ent_value (ov_move rfl) rfl rfl rfl (ent_nil (ent_block ?_)))))))))))
 refine ent_loop (fun k a w => ∃ i24,∃ l35,∃ sv275 : Value,wal_Facts_O_l0 K l0 a1 a2 k i24 l35 = some r ∧ St 43 w0 F [(1,I a1),(2,I a2),(6,sv275),(11,sv0.sv),(12,I (l0.length : Int)),(13,I i24)] [(jown sv0 66 4 enc_Wal_Batch 93 6 jlen_Wal_Batch jics_Wal_Batch l0),own sv275 93 6 l35.length (fl enc_Api_Fact l35)] a w) K ?_ ?_
 ·refine ent_ownnil 93 6 ?_
  exact ent_fin [1,0] (by decide) rfl (sub_cons (t := 1) rfl (sub_cons (t := 2) rfl (sub_cons (t := 6) rfl (sub_cons (t := 11) rfl (sub_cons (t := 12) rfl (sub_cons (t := 13) rfl (sub_nil _))))))) fun a w h => ⟨_,_,_,H,h⟩
 ·refine fun k => ent_exi fun i24 => ent_exi fun l35 => ent_exi fun sv275 => ent_and fun H37 => ?_
  let C1_ : List Value := [I ((l0.getD i24.toNat z_Wal_Batch).Seq),I ((l0.getD i24.toNat z_Wal_Batch).Tick),I ((l0.getD i24.toNat z_Wal_Batch).Budget),(sv0.vs i24.toNat)]
  cases k with
  | zero => exact absurd H37 (by simp [C1_,wal_Facts_O_l0])
  | succ k =>
   rw [wal_Facts_O_l0] at H37
   refine ent_seq (ent_region (ent_value (ov_bin rfl rfl (b_lss _ _ _)) rfl rfl rfl (ent_nil (ent_seq ?_))))
   refine htF H37 (fun c654 H37 => ?_) fun c654 H37 => ?_
   ·refine ent_cond_false rfl (decide_eq_false c654) (ent_exit (ent_seq (ent_region (ent_value (ov_move rfl) rfl rfl rfl (ent_value (ov_assign rfl) rfl rfl rfl (ent_nil (ent_retc ?_)))))))
    cases H37
    refine ent_pick [0,1] (by decide) rfl ?_
    exact ret_tmp rfl rfl ⟨_,rfl,rfl⟩
   refine ent_cond_true rfl (decide_eq_true c654) (ent_skip ?_)
   obtain ⟨x12,H39,H37⟩ := Option.bind_eq_some_iff.1 H37
   refine ent_seq_cut (fun a w => ∃ sv316 : Value,St 43 w0 F [(1,I a1),(2,I a2),(6,sv316),(11,sv0.sv),(12,I (l0.length : Int)),(13,I i24)] [(jown sv0 66 4 enc_Wal_Batch 93 6 jlen_Wal_Batch jics_Wal_Batch l0),own sv316 93 6 x12.length (fl enc_Api_Fact x12)] a w) ?_ ?_
   ·refine ent_block (ent_seq (ent_region ?_))
    obtain ⟨c684,H39⟩ := gdT H39
    refine ent_value (ov_indexAddr (sz := 3) 0 rfl rfl F_slice_72 F_size_66 rfl isRd_jout c684 c654) rfl rfl rfl ?_
    refine ent_value (ov_load_agg (vs := C1_) rfl F_agg_66 F_size_66 (reads_rd (i := 0) rfl isRd_jout (by simp [C1_]) (flJ_rd0 enc_Wal_Batch_len (ix_lt c684 c654) rfl))) rfl rfl rfl ?_
    refine ent_op (ot_alloc F_zero_66) rfl rfl rfl ?_
    rintro _ _ ⟨b162,rfl,rfl⟩
    refine ent_op0 (ot_storeG (cs := [I 0,I 0,I 0,L0]) (cs' := C1_) (us := C1_) (L' := [box b162 66 C1_,(jown sv0 66 4 enc_Wal_Batch 93 6 jlen_Wal_Batch jics_Wal_Batch l0),own sv275 93 6 l35.length (fl enc_Api_Fact l35)]) 0 rfl rfl rfl (one_cons rfl (one_cons rfl (one_cons rfl (one_sl 1 rfl (show IsRd _ _ ((l0.getD i24.toNat z_Wal_Batch).Facts).length 6 (fl enc_Api_Fact ((l0.getD i24.toNat z_Wal_Batch).Facts)) from isRd_jin (z := z_Wal_Batch) (ix_lt c684 c654)) one_nil)))) F_size_66 rfl rfl (by simp [C1_]) rfl) rfl rfl ?_
    rintro _ _ rfl
    refine ent_nil (ent_seq (ent_region (ent_value (ov_fieldAddr (sz := 0) (o := 0) rfl F_field_66_3 F_size_46) rfl rfl rfl (ent_value (ov_load (v := (sv0.vs i24.toNat)) rfl F_agg_46 (reads_box1 (i := 0) rfl rfl)) rfl rfl rfl (ent_value (ov_len 1 rfl F_slice_46 rfl (show IsRd _ _ ((l0.getD i24.toNat z_Wal_Batch).Facts).length 6 (fl enc_Api_Fact ((l0.getD i24.toNat z_Wal_Batch).Facts)) from isRd_jin (z := z_Wal_Batch) (ix_lt c684 c654))) rfl rfl rfl (ent_value (ov_move rfl) rfl rfl rfl (ent_nil (ent_block ?_))))))))
    refine ent_loop (fun k a w => ∃ i28,∃ l41,∃ sv321 : Value,wal_Facts_O_l1 K l0 a1 a2 i24 k i28 l41 = some x12 ∧ St 43 w0 F [(1,I a1),(2,I a2),(6,sv321),(11,sv0.sv),(12,I (l0.length : Int)),(13,I i24),(18,(sv0.vs i24.toNat)),(19,I (((l0.getD i24.toNat z_Wal_Batch).Facts).length : Int)),(20,I i28)] [(jown sv0 66 4 enc_Wal_Batch 93 6 jlen_Wal_Batch jics_Wal_Batch l0),own sv321 93 6 l41.length (fl enc_Api_Fact l41)] a w) K ?_ ?_
    ·exact ent_fin [1,2] (by decide) rfl (sub_cons (t := 1) rfl (sub_cons (t := 2) rfl (sub_cons (t := 6) rfl (sub_cons (t := 11) rfl (sub_cons (t := 12) rfl (sub_cons (t := 13) rfl (sub_cons (t := 18) rfl (sub_cons (t := 19) rfl (sub_cons (t := 20) rfl (sub_nil _)))))))))) fun a w h => ⟨_,_,_,H39,h⟩
    ·refine fun k => ent_exi fun i28 => ent_exi fun l41 => ent_exi fun sv321 => ent_and fun H40 => ?_
     let C0_ : List Value := [I (((((l0.getD i24.toNat z_Wal_Batch).Facts).getD i28.toNat z_Api_Fact).Key).Hour),str (((((l0.getD i24.toNat z_Wal_Batch).Facts).getD i28.toNat z_Api_Fact).Key).Dims_0),str (((((l0.getD i24.toNat z_Wal_Batch).Facts).getD i28.toNat z_Api_Fact).Key).Dims_1),str (((((l0.getD i24.toNat z_Wal_Batch).Facts).getD i28.toNat z_Api_Fact).Key).Dims_2),str (((((l0.getD i24.toNat z_Wal_Batch).Facts).getD i28.toNat z_Api_Fact).Key).Dims_3),I ((((l0.getD i24.toNat z_Wal_Batch).Facts).getD i28.toNat z_Api_Fact).Value)]
     cases k with
     | zero => exact absurd H40 (by simp [C1_,C0_,wal_Facts_O_l1])
     | succ k =>
      rw [wal_Facts_O_l1] at H40
      refine ent_seq (ent_region (ent_value (ov_bin rfl rfl (b_lss _ _ _)) rfl rfl rfl (ent_nil (ent_seq ?_))))
      refine htF H40 (fun c704 H40 => ?_) fun c704 H40 => ?_
      ·refine ent_cond_false rfl (decide_eq_false c704) (ent_exit ?_)
       cases H40
       exact ent_fin [0,1] (by decide) rfl (sub_cons (t := 1) rfl (sub_cons (t := 2) rfl (sub_cons (t := 6) rfl (sub_cons (t := 11) rfl (sub_cons (t := 12) rfl (sub_cons (t := 13) rfl (sub_nil _))))))) fun a w h => ⟨_,h⟩
      refine ent_cond_true rfl (decide_eq_true c704) (ent_skip (ent_seq (ent_block (ent_seq (ent_region ?_)))))
      obtain ⟨c709,H40⟩ := gdT H40
      refine ent_value (ov_indexAddr (sz := 5) 0 rfl rfl F_slice_46 F_size_93 rfl (show IsRd _ _ ((l0.getD i24.toNat z_Wal_Batch).Facts).length 6 (fl enc_Api_Fact ((l0.getD i24.toNat z_Wal_Batch).Facts)) from isRd_jin (z := z_Wal_Batch) (ix_lt c684 c654)) c709 c704) rfl rfl rfl ?_
      refine ent_value (ov_load_agg (vs := C0_) rfl F_agg_93 F_size_93 (reads_rd (i := 0) rfl (show IsRd _ _ ((l0.getD i24.toNat z_Wal_Batch).Facts).length 6 (fl enc_Api_Fact ((l0.getD i24.toNat z_Wal_Batch).Facts)) from isRd_jin (z := z_Wal_Batch) (ix_lt c684 c654)) (by simp [C1_,C0_]) (fl_read0 enc_Api_Fact_len (ix_lt c709 c704) rfl))) rfl rfl rfl ?_
      refine ent_op (ot_alloc F_zero_93) rfl rfl rfl ?_
      rintro _ _ ⟨b168,rfl,rfl⟩
      refine ent_op0 (ot_storeG (cs := [I 0,S0,S0,S0,S0,I 0]) (cs' := C0_) (us := C0_) (L' := [box b168 93 C0_,(jown sv0 66 4 enc_Wal_Batch 93 6 jlen_Wal_Batch jics_Wal_Batch l0),own sv321 93 6 l41.length (fl enc_Api_Fact l41)]) 0 rfl rfl rfl (one_all rfl) F_size_93 rfl rfl (by simp [C1_,C0_]) rfl) rfl rfl ?_
      rintro _ _ rfl
      refine ent_nil (ent_seq (ent_region (ent_value (ov_fieldAddr (sz := 4) (o := 0) rfl F_field_93_0 F_size_42) rfl rfl rfl (ent_value (ov_fieldAddr (sz := 0) (o := 0) rfl F_field_42_0 F_size_2) rfl rfl rfl (ent_value (ov_load (v := (I (((((l0.getD i24.toNat z_Wal_Batch).Facts).getD i28.toNat z_Api_Fact).Key).Hour))) rfl F_agg_2 (reads_box1 (i := 0) rfl rfl)) rfl rfl rfl (ent_value (ov_move rfl) rfl rfl rfl (ent_value (ov_bin rfl rfl (b_geq _ _ _)) rfl rfl rfl (ent_value (ov_move rfl) rfl rfl rfl ?_))))))))
      refine htF H40 (fun c710 H40 => ?_) fun c710 H40 => ?_
      ·refine ent_off rfl rfl rfl (decide_eq_false c710) rfl rfl ?_
       refine ent_off rfl rfl rfl (decide_eq_false c710) rfl rfl ?_
       refine ent_off rfl rfl rfl (decide_eq_false c710) rfl rfl ?_
       refine ent_off rfl rfl rfl (decide_eq_false c710) rfl rfl ?_
       refine ent_off rfl rfl rfl (decide_eq_false c710) rfl rfl ?_
       refine ent_value (ov_pick rfl rfl rfl (pick_f (decide_eq_false c710))) rfl rfl rfl (ent_nil (ent_cond_false rfl rfl (ent_skip (ent_region (ent_value (ov_bin rfl rfl (b_add _ _ _) ) rfl rfl rfl (ent_value (ov_move rfl) rfl rfl rfl (ent_nil ?_)))))))
       exact ent_fin [1,2] (by decide) rfl (sub_cons (t := 1) rfl (sub_cons (t := 2) rfl (sub_cons (t := 6) rfl (sub_cons (t := 11) rfl (sub_cons (t := 12) rfl (sub_cons (t := 13) rfl (sub_cons (t := 18) rfl (sub_cons (t := 19) rfl (sub_cons (t := 20) rfl (sub_nil _)))))))))) fun a w h => ⟨k,Nat.lt_succ_self k,_,_,_,H40,h⟩
      refine ent_value_on (ov_fieldAddr (sz := 4) (o := 0) rfl F_field_93_0 F_size_42) rfl rfl rfl (decide_eq_true c710) rfl rfl ?_
      refine ent_value_on (ov_fieldAddr (sz := 0) (o := 0) rfl F_field_42_0 F_size_2) rfl rfl rfl (decide_eq_true c710) rfl rfl ?_
      refine ent_value_on (ov_load (v := (I (((((l0.getD i24.toNat z_Wal_Batch).Facts).getD i28.toNat z_Api_Fact).Key).Hour))) rfl F_agg_2 (reads_box1 (i := 0) rfl rfl)) rfl rfl rfl (decide_eq_true c710) rfl rfl ?_
      refine ent_value_on (ov_move rfl) rfl rfl rfl (decide_eq_true c710) rfl rfl ?_
      refine ent_value_on (ov_bin rfl rfl (b_lss _ _ _)) rfl rfl rfl (decide_eq_true c710) rfl rfl ?_
      refine ent_value (ov_pick rfl rfl rfl (pick_t (decide_eq_true c710))) rfl rfl rfl (ent_nil ?_)
      refine htF H40 (fun c711 H40 => ?_) fun c711 H40 => ?_
      ·refine ent_cond_false rfl (decide_eq_false c711) (ent_skip (ent_region (ent_value (ov_bin rfl rfl (b_add _ _ _) ) rfl rfl rfl (ent_value (ov_move rfl) rfl rfl rfl (ent_nil ?_)))))
       exact ent_fin [1,2] (by decide) rfl (sub_cons (t := 1) rfl (sub_cons (t := 2) rfl (sub_cons (t := 6) rfl (sub_cons (t := 11) rfl (sub_cons (t := 12) rfl (sub_cons (t := 13) rfl (sub_cons (t := 18) rfl (sub_cons (t := 19) rfl (sub_cons (t := 20) rfl (sub_nil _)))))))))) fun a w h => ⟨k,Nat.lt_succ_self k,_,_,_,H40,h⟩
      refine ent_cond_true rfl (decide_eq_true c711) (ent_region (ent_value (ov_move rfl) rfl rfl rfl (ent_value (ov_load_agg (vs := C0_) rfl F_agg_93 F_size_93 (reads_boxW (i := 0) rfl)) rfl rfl rfl ?_)))
      refine ent_op (ot_buildSlice (sz := 5) (xs := [.tmp 37]) (cs := fl enc_Api_Fact [(⟨(⟨((((l0.getD i24.toNat z_Wal_Batch).Facts).getD i28.toNat z_Api_Fact).Key).Hour,((((l0.getD i24.toNat z_Wal_Batch).Facts).getD i28.toNat z_Api_Fact).Key).Dims_0,((((l0.getD i24.toNat z_Wal_Batch).Facts).getD i28.toNat z_Api_Fact).Key).Dims_1,((((l0.getD i24.toNat z_Wal_Batch).Facts).getD i28.toNat z_Api_Fact).Key).Dims_2,((((l0.getD i24.toNat z_Wal_Batch).Facts).getD i28.toNat z_Api_Fact).Key).Dims_3⟩ : Api_Key),(((l0.getD i24.toNat z_Wal_Batch).Facts).getD i28.toNat z_Api_Fact).Value⟩ : Api_Fact)]) rfl rfl F_slice_46 F_size_93 F_zero_93 rfl rfl (all_size rfl) rfl (by decide)) rfl rfl rfl ?_
      rintro sv328 _ rfl
      obtain ⟨c712,H40⟩ := gdT H40
      refine ent_op (ot_appendx (sz := 5) (xs := l41) (ys := [(⟨(⟨((((l0.getD i24.toNat z_Wal_Batch).Facts).getD i28.toNat z_Api_Fact).Key).Hour,((((l0.getD i24.toNat z_Wal_Batch).Facts).getD i28.toNat z_Api_Fact).Key).Dims_0,((((l0.getD i24.toNat z_Wal_Batch).Facts).getD i28.toNat z_Api_Fact).Key).Dims_1,((((l0.getD i24.toNat z_Wal_Batch).Facts).getD i28.toNat z_Api_Fact).Key).Dims_2,((((l0.getD i24.toNat z_Wal_Batch).Facts).getD i28.toNat z_Api_Fact).Key).Dims_3⟩ : Api_Key),(((l0.getD i24.toNat z_Wal_Batch).Facts).getD i28.toNat z_Api_Fact).Value⟩ : Api_Fact)]) 3 0 rfl rfl F_slice_46 F_size_93 F_zero_93 rfl F_bytes_93 rfl rfl rfl (isRd_ownx 93) rfl enc_Api_Fact_one c712) rfl rfl rfl ?_
      rintro sv329 _ rfl
      refine ent_L [own sv328 93 6 [(⟨(⟨((((l0.getD i24.toNat z_Wal_Batch).Facts).getD i28.toNat z_Api_Fact).Key).Hour,((((l0.getD i24.toNat z_Wal_Batch).Facts).getD i28.toNat z_Api_Fact).Key).Dims_0,((((l0.getD i24.toNat z_Wal_Batch).Facts).getD i28.toNat z_Api_Fact).Key).Dims_1,((((l0.getD i24.toNat z_Wal_Batch).Facts).getD i28.toNat z_Api_Fact).Key).Dims_2,((((l0.getD i24.toNat z_Wal_Batch).Facts).getD i28.toNat z_Api_Fact).Key).Dims_3⟩ : Api_Key),(((l0.getD i24.toNat z_Wal_Batch).Facts).getD i28.toNat z_Api_Fact).Value⟩ : Api_Fact)].length (fl enc_Api_Fact [(⟨(⟨((((l0.getD i24.toNat z_Wal_Batch).Facts).getD i28.toNat z_Api_Fact).Key).Hour,((((l0.getD i24.toNat z_Wal_Batch).Facts).getD i28.toNat z_Api_Fact).Key).Dims_0,((((l0.getD i24.toNat z_Wal_Batch).Facts).getD i28.toNat z_Api_Fact).Key).Dims_1,((((l0.getD i24.toNat z_Wal_Batch).Facts).getD i28.toNat z_Api_Fact).Key).Dims_2,((((l0.getD i24.toNat z_Wal_Batch).Facts).getD i28.toNat z_Api_Fact).Key).Dims_3⟩ : Api_Key),(((l0.getD i24.toNat z_Wal_Batch).Facts).getD i28.toNat z_Api_Fact).Value⟩ : Api_Fact)]),box b168 93 C0_,(jown sv0 66 4 enc_Wal_Batch 93 6 jlen_Wal_Batch jics_Wal_Batch l0),own sv329 93 6 (l41 ++ [(⟨(⟨((((l0.getD i24.toNat z_Wal_Batch).Facts).getD i28.toNat z_Api_Fact).Key).Hour,((((l0.getD i24.toNat z_Wal_Batch).Facts).getD i28.toNat z_Api_Fact).Key).Dims_0,((((l0.getD i24.toNat z_Wal_Batch).Facts).getD i28.toNat z_Api_Fact).Key).Dims_1,((((l0.getD i24.toNat z_Wal_Batch).Facts).getD i28.toNat z_Api_Fact).Key).Dims_2,((((l0.getD i24.toNat z_Wal_Batch).Facts).getD i28.toNat z_Api_Fact).Key).Dims_3⟩ : Api_Key),(((l0.getD i24.toNat z_Wal_Batch).Facts).getD i28.toNat z_Api_Fact).Value⟩ : Api_Fact)]).length (fl enc_Api_Fact (l41 ++ [(⟨(⟨((((l0.getD i24.toNat z_Wal_Batch).Facts).getD i28.toNat z_Api_Fact).Key).Hour,((((l0.getD i24.toNat z_Wal_Batch).Facts).getD i28.toNat z_Api_Fact).Key).Dims_0,((((l0.getD i24.toNat z_Wal_Batch).Facts).getD i28.toNat z_Api_Fact).Key).Dims_1,((((l0.getD i24.toNat z_Wal_Batch).Facts).getD i28.toNat z_Api_Fact).Key).Dims_2,((((l0.getD i24.toNat z_Wal_Batch).Facts).getD i28.toNat z_Api_Fact).Key).Dims_3⟩ : Api_Key),(((l0.getD i24.toNat z_Wal_Batch).Facts).getD i28.toNat z_Api_Fact).Value⟩ : Api_Fact)]))] rfl ?_
      refine ent_value (ov_assign rfl) rfl rfl rfl (ent_nil (ent_region (ent_value (ov_bin rfl rfl (b_add _ _ _) ) rfl rfl rfl (ent_value (ov_move rfl) rfl rfl rfl (ent_nil ?_)))))
      exact ent_fin [2,3] (by decide) rfl (sub_cons (t := 1) rfl (sub_cons (t := 2) rfl (sub_cons (t := 6) rfl (sub_cons (t := 11) rfl (sub_cons (t := 12) rfl (sub_cons (t := 13) rfl (sub_cons (t := 18) rfl (sub_cons (t := 19) rfl (sub_cons (t := 20) rfl (sub_nil _)))))))))) fun a w h => ⟨k,Nat.lt_succ_self k,_,_,_,H40,h⟩
   ·refine ent_exi fun sv316 => ?_
    refine ent_region (ent_value (ov_bin rfl rfl (b_add _ _ _) ) rfl rfl rfl (ent_value (ov_move rfl) rfl rfl rfl (ent_nil ?_)))
    exact ent_fin [0,1] (by decide) rfl (sub_cons (t := 1) rfl (sub_cons (t := 2) rfl (sub_cons (t := 6) rfl (sub_cons (t := 11) rfl (sub_cons (t := 12) rfl (sub_cons (t := 13) rfl (sub_nil _))))))) fun a w h => ⟨k,Nat.lt_succ_self k,_,_,_,H37,h⟩

theorem mem_Mem_Facts_O.spec (K p0 : Nat) (sv0 : JG) (p0_0 : Int) (l0 : List Wal_Batch) (p0_2 a1 a2 : Int) (r : List Api_Fact) (H : mem_Mem_Facts_O K p0_0 l0 p0_2 a1 a2 = some r) : FnSpec Try.prog 24 [pt p0 0,I a1,I a2] [box p0 118 [I p0_0,sv0.sv,I p0_2],(jown sv0 66 4 enc_Wal_Batch 93 6 jlen_Wal_Batch jics_Wal_Batch l0)] (fun v M => ∃ sv2 : Value,v = sv2 ∧ M = [box p0 118 [I p0_0,sv0.sv,I p0_2],(jown sv0 66 4 enc_Wal_Batch 93 6 jlen_Wal_Batch jics_Wal_Batch l0),own sv2 93 6 r.length (fl enc_Api_Fact r)]) := by
 unfold mem_Mem_Facts_O at H
 refine spec_of Try.func24 rfl 12 rfl (Nat.le_of_ble_eq_true rfl) fun F w0 => ?_
 show Ent (St 12 w0 F [(0,pt p0 0),(1,I a1),(2,I a2)] [box p0 118 [I p0_0,sv0.sv,I p0_2],(jown sv0 66 4 enc_Wal_Batch 93 6 jlen_Wal_Batch jics_Wal_Batch l0)]) _
 refine ent_seq (ent_region (ent_value (ov_assign rfl) rfl rfl rfl (ent_nil (ent_seq (ent_region (ent_value (ov_move rfl) rfl rfl rfl ?_))))))
 obtain ⟨u2,h3,H⟩ := thn_elim H
 refine ent_op (ot_call_same (Lr := []) [0,1] [0,1] (first := []) (cap := []) (xs := [.tmp 7]) rfl rfl F_call_56 rfl (mem_Mem_batches_O.spec p0 sv0 p0_0 l0 p0_2 _ h3) (by decide) rfl (by decide) rfl) rfl rfl rfl ?_
 rintro _ _ ⟨rfl,rfl⟩
 refine ent_value (ov_move rfl) rfl rfl rfl (ent_value (ov_move rfl) rfl rfl rfl ?_)
 obtain ⟨x2,h4,H⟩ := Option.bind_eq_some_iff.1 H
 refine ent_pick [1,0] (by decide) rfl ?_
 refine ent_op (ot_call (Lr := [box p0 118 [I p0_0,sv0.sv,I p0_2]]) (first := []) (cap := []) (xs := [.tmp 8,.tmp 9,.tmp 10]) rfl rfl F_call_55 rfl (wal_Facts_O.spec K sv0 l0 a1 a2 _ h4) rfl) rfl rfl rfl ?_
 rintro sv3 _ ⟨_,⟨_,rfl,rfl⟩,rfl⟩
 refine ent_value (ov_assign rfl) rfl rfl rfl (ent_nil (ent_retc ?_))
 cases H
 refine ent_pick [2,0,1] (by decide) rfl ?_
 exact ret_tmp rfl rfl ⟨_,rfl,rfl⟩

theorem slices_Sort_____int64__int64.spec (sv0 : Value) (l0 : List Int) (r : List Int) (H : slices_Sort_____int64__int64 l0 = some r) : FnSpec Try.prog 107 [sv0] [own sv0 2 1 l0.length (fl (eI .i64) l0)] (fun v M => v = (tU #[]) ∧ M = [own sv0 2 1 r.length (fl (eI .i64) r)]) := by
 unfold slices_Sort_____int64__int64 at H
 split at H
 ·cases H
  exact sort_at sv0 l0 (by omega)
 ·cases H

theorem slices_Compact_____int64__int64.spec (sv0 : Value) (l0 : List Int) (r : List Int) (H : slices_Compact_____int64__int64 l0 = some r) : FnSpec Try.prog 108 [sv0] [own sv0 2 1 l0.length (fl (eI .i64) l0)] (fun v M => ∃ sv2 : Value,v = sv2 ∧ M = [own sv2 2 1 r.length (fl (eI .i64) r)]) := by
 unfold slices_Compact_____int64__int64 at H
 split at H
 ·cases H
  exact compact_at sv0 l0 (by omega)
 ·cases H

theorem fact_Hours_R.spec (K : Nat) (sv0 : Value) (A0 : HP) (l0 : List Api_Fact) (hA0 : IsRd A0 sv0 l0.length 6 (fl enc_Api_Fact l0)) (r : List Int) (H : fact_Hours_R K l0 = some r) : FnSpec Try.prog 82 [sv0] [A0] (fun v M => ∃ sv29 : Value,v = sv29 ∧ M = [A0,own sv29 2 1 r.length (fl (eI .i64) r)]) := by
 unfold fact_Hours_R at H
 refine spec_of Try.func82 rfl 22 rfl (Nat.le_of_ble_eq_true rfl) fun F w0 => ?_
 show Ent (St 22 w0 F [(0,sv0)] [A0]) _
 refine ent_seq (ent_region (ent_value (ov_assign rfl) rfl rfl rfl (ent_nil ?_)))
 obtain ⟨x4,H5,H⟩ := Option.bind_eq_some_iff.1 H
 refine ent_seq_cut (fun a w => ∃ sv43 : Value,St 22 w0 F [(2,sv43)] [A0,own sv43 2 1 x4.length (fl (eI .i64) x4)] a w) ?_ ?_
 ·refine ent_seq (ent_region (ent_value (ov_move rfl) rfl rfl rfl (ent_value (ov_len 0 rfl F_slice_46 rfl hA0) rfl rfl rfl (ent_value (ov_move rfl) rfl rfl rfl (ent_nil (ent_block ?_))))))
  refine ent_loop (fun k a w => ∃ i4,∃ l7,∃ sv48 : Value,fact_Hours_R_l0 K l0 k i4 l7 = some x4 ∧ St 22 w0 F [(2,sv48),(5,sv0),(6,I (l0.length : Int)),(7,I i4)] [A0,own sv48 2 1 l7.length (fl (eI .i64) l7)] a w) K ?_ ?_
  ·refine ent_ownnil 2 1 ?_
   exact ent_fin [1,0] (by decide) rfl (sub_cons (t := 2) rfl (sub_cons (t := 5) rfl (sub_cons (t := 6) rfl (sub_cons (t := 7) rfl (sub_nil _))))) fun a w h => ⟨_,_,_,H5,h⟩
  ·refine fun k => ent_exi fun i4 => ent_exi fun l7 => ent_exi fun sv48 => ent_and fun H6 => ?_
   let C0_ : List Value := [I (((l0.getD i4.toNat z_Api_Fact).Key).Hour),str (((l0.getD i4.toNat z_Api_Fact).Key).Dims_0),str (((l0.getD i4.toNat z_Api_Fact).Key).Dims_1),str (((l0.getD i4.toNat z_Api_Fact).Key).Dims_2),str (((l0.getD i4.toNat z_Api_Fact).Key).Dims_3),I ((l0.getD i4.toNat z_Api_Fact).Value)]
   cases k with
   | zero => exact absurd H6 (by simp [C0_,fact_Hours_R_l0])
   | succ k =>
    rw [fact_Hours_R_l0] at H6
    refine ent_seq (ent_region (ent_value (ov_bin rfl rfl (b_lss _ _ _)) rfl rfl rfl (ent_nil (ent_seq ?_))))
    refine htF H6 (fun c60 H6 => ?_) fun c60 H6 => ?_
    ·refine ent_cond_false rfl (decide_eq_false c60) (ent_exit ?_)
     cases H6
     exact ent_fin [0,1] (by decide) rfl (sub_cons (t := 2) rfl (sub_nil _)) fun a w h => ⟨_,h⟩
    refine ent_cond_true rfl (decide_eq_true c60) (ent_skip (ent_seq (ent_block (ent_seq (ent_region ?_)))))
    obtain ⟨c63,H6⟩ := gdT H6
    refine ent_value (ov_indexAddr (sz := 5) 0 rfl rfl F_slice_46 F_size_93 rfl hA0 c63 c60) rfl rfl rfl ?_
    refine ent_value (ov_load_agg (vs := C0_) rfl F_agg_93 F_size_93 (reads_rd (i := 0) rfl hA0 (by simp [C0_]) (fl_read0 enc_Api_Fact_len (ix_lt c63 c60) rfl))) rfl rfl rfl ?_
    refine ent_op (ot_alloc F_zero_93) rfl rfl rfl ?_
    rintro _ _ ⟨b24,rfl,rfl⟩
    refine ent_op0 (ot_storeG (cs := [I 0,S0,S0,S0,S0,I 0]) (cs' := C0_) (us := C0_) (L' := [box b24 93 C0_,A0,own sv48 2 1 l7.length (fl (eI .i64) l7)]) 0 rfl rfl rfl (one_all rfl) F_size_93 rfl rfl (by simp [C0_]) rfl) rfl rfl ?_
    rintro _ _ rfl
    refine ent_nil (ent_region (ent_value (ov_move rfl) rfl rfl rfl (ent_value (ov_fieldAddr (sz := 4) (o := 0) rfl F_field_93_0 F_size_42) rfl rfl rfl (ent_value (ov_fieldAddr (sz := 0) (o := 0) rfl F_field_42_0 F_size_2) rfl rfl rfl (ent_value (ov_load (v := (I (((l0.getD i4.toNat z_Api_Fact).Key).Hour))) rfl F_agg_2 (reads_box1 (i := 0) rfl rfl)) rfl rfl rfl ?_)))))
    refine ent_op (ot_buildSlice (sz := 0) (xs := [.tmp 14]) (cs := fl (eI .i64) [((l0.getD i4.toNat z_Api_Fact).Key).Hour]) rfl rfl F_slice_23 F_size_2 F_zero_2 rfl rfl (all_size rfl) rfl (by decide)) rfl rfl rfl ?_
    rintro sv55 _ rfl
    obtain ⟨c64,H6⟩ := gdT H6
    refine ent_op (ot_appendx (sz := 0) (xs := l7) (ys := [((l0.getD i4.toNat z_Api_Fact).Key).Hour]) 3 0 rfl rfl F_slice_23 F_size_2 F_zero_2 rfl F_bytes_2 rfl rfl rfl (isRd_ownx 2) rfl (eI_one _) c64) rfl rfl rfl ?_
    rintro sv56 _ rfl
    refine ent_L [own sv55 2 1 [((l0.getD i4.toNat z_Api_Fact).Key).Hour].length (fl (eI .i64) [((l0.getD i4.toNat z_Api_Fact).Key).Hour]),box b24 93 C0_,A0,own sv56 2 1 (l7 ++ [((l0.getD i4.toNat z_Api_Fact).Key).Hour]).length (fl (eI .i64) (l7 ++ [((l0.getD i4.toNat z_Api_Fact).Key).Hour]))] rfl ?_
    refine ent_value (ov_assign rfl) rfl rfl rfl (ent_nil (ent_region (ent_value (ov_bin rfl rfl (b_add _ _ _) ) rfl rfl rfl (ent_value (ov_move rfl) rfl rfl rfl (ent_nil ?_)))))
    exact ent_fin [2,3] (by decide) rfl (sub_cons (t := 2) rfl (sub_cons (t := 5) rfl (sub_cons (t := 6) rfl (sub_cons (t := 7) rfl (sub_nil _))))) fun a w h => ⟨k,Nat.lt_succ_self k,_,_,_,H6,h⟩
 ·refine ent_exi fun sv43 => ?_
  refine ent_seq (ent_region (ent_value (ov_move rfl) rfl rfl rfl ?_))
  obtain ⟨x5,h3,H⟩ := Option.bind_eq_some_iff.1 H
  refine ent_pick [1,0] (by decide) rfl ?_
  refine ent_op (ot_call (Lr := [A0]) (first := []) (cap := []) (xs := [.tmp 18]) rfl rfl F_call_107 rfl (slices_Sort_____int64__int64.spec sv43 x4 _ h3) rfl) rfl rfl rfl ?_
  rintro _ _ ⟨_,⟨rfl,rfl⟩,rfl⟩
  refine ent_nil (ent_seq (ent_region (ent_value (ov_move rfl) rfl rfl rfl ?_)))
  obtain ⟨x6,h4,H⟩ := Option.bind_eq_some_iff.1 H
  refine ent_op (ot_call (Lr := [A0]) (first := []) (cap := []) (xs := [.tmp 20]) rfl rfl F_call_108 rfl (slices_Compact_____int64__int64.spec sv43 x5 _ h4) rfl) rfl rfl rfl ?_
  rintro sv57 _ ⟨_,⟨_,rfl,rfl⟩,rfl⟩
  refine ent_value (ov_assign rfl) rfl rfl rfl (ent_nil (ent_retc ?_))
  cases H
  refine ent_pick [1,0] (by decide) rfl ?_
  exact ret_tmp rfl rfl ⟨_,rfl,rfl⟩

theorem mem_Mem_Hours_O.spec (K p0 : Nat) (sv0 : JG) (p0_0 : Int) (l0 : List Wal_Batch) (p0_2 : Int) (r : List Int) (H : mem_Mem_Hours_O K p0_0 l0 p0_2 = some r) : FnSpec Try.prog 52 [pt p0 0] [box p0 118 [I p0_0,sv0.sv,I p0_2],(jown sv0 66 4 enc_Wal_Batch 93 6 jlen_Wal_Batch jics_Wal_Batch l0)] (fun v M => ∃ sv3 : Value,v = sv3 ∧ M = [box p0 118 [I p0_0,sv0.sv,I p0_2],(jown sv0 66 4 enc_Wal_Batch 93 6 jlen_Wal_Batch jics_Wal_Batch l0),own sv3 2 1 r.length (fl (eI .i64) r)]) := by
 unfold mem_Mem_Hours_O at H
 refine spec_of Try.func52 rfl 6 rfl (Nat.le_of_ble_eq_true rfl) fun F w0 => ?_
 let C0_ : List HP := [box p0 118 [I p0_0,sv0.sv,I p0_2],(jown sv0 66 4 enc_Wal_Batch 93 6 jlen_Wal_Batch jics_Wal_Batch l0)]
 show Ent (St 6 w0 F [(0,pt p0 0)] C0_) _
 refine ent_seq (ent_region (ent_value (ov_assign rfl) rfl rfl rfl (ent_nil (ent_seq (ent_region (ent_value (ov_move rfl) rfl rfl rfl ?_))))))
 obtain ⟨x3,h3,H⟩ := Option.bind_eq_some_iff.1 H
 refine ent_op (ot_call (Lr := []) (first := []) (cap := []) (xs := [.tmp 3,.const (I 0),.const (I 4611686018427387904)]) rfl rfl F_call_24 rfl (mem_Mem_Facts_O.spec K p0 sv0 p0_0 l0 p0_2 0 4611686018427387904 _ h3) rfl) rfl rfl rfl ?_
 rintro sv4 _ ⟨_,⟨_,rfl,rfl⟩,rfl⟩
 obtain ⟨x4,h4,H⟩ := Option.bind_eq_some_iff.1 H
 refine ent_pick [2,0,1] (by decide) rfl ?_
 refine ent_op (ot_call (Lr := C0_) (first := []) (cap := []) (xs := [.tmp 4]) rfl rfl F_call_82 rfl (fact_Hours_R.spec K sv4 (own sv4 93 6 x3.length (fl enc_Api_Fact x3)) x3 (isRd_ownx 93) _ h4) rfl) rfl rfl rfl ?_
 rintro sv5 _ ⟨_,⟨_,rfl,rfl⟩,rfl⟩
 refine ent_value (ov_assign rfl) rfl rfl rfl (ent_nil (ent_retc ?_))
 cases H
 refine ent_pick [2,3,1] (by decide) rfl ?_
 exact ret_tmp rfl rfl ⟨_,rfl,rfl⟩

theorem mem_Mem_Drop_1.spec (p0 p1 : Nat) (a0 a1_0 : Int) (a1_1 : List UInt8) (a1_2 : List UInt8) (a1_3 : List UInt8) (a1_4 : List UInt8) (a1_5 p0_0 p1_0 : Int) (r : Bool) (H : mem_Mem_Drop_1 a0 a1_0 a1_1 a1_2 a1_3 a1_4 a1_5 p0_0 p1_0 = r) : FnSpec Try.prog 58 [I a0,agg #[I a1_0,str a1_1,str a1_2,str a1_3,str a1_4,I a1_5],pt p0 0,pt p1 0] [box p0 2 [I p0_0],box p1 2 [I p1_0]] (fun v M => v = (bool r) ∧ M = [box p0 2 [I p0_0],box p1 2 [I p1_0]]) := by
 unfold mem_Mem_Drop_1 at H
 refine spec_of Try.func58 rfl 19 rfl (Nat.le_of_ble_eq_true rfl) fun F w0 => ?_
 show Ent (St 19 w0 F [(0,I a0),(1,agg #[I a1_0,str a1_1,str a1_2,str a1_3,str a1_4,I a1_5]),(2,pt p0 0),(3,pt p1 0)] [box p0 2 [I p0_0],box p1 2 [I p1_0]]) _
 refine ent_seq (ent_region ?_)
 refine ent_op (ot_box (cs := [I a1_0,str a1_1,str a1_2,str a1_3,str a1_4,I a1_5]) rfl rfl) rfl rfl rfl ?_
 rintro _ _ ⟨b2,rfl,rfl⟩
 refine ent_value (ov_assign rfl) rfl rfl rfl (ent_nil (ent_seq (ent_region (ent_value (ov_fieldAddr (sz := 4) (o := 0) rfl F_field_93_0 F_size_42) rfl rfl rfl (ent_value (ov_fieldAddr (sz := 0) (o := 0) rfl F_field_42_0 F_size_2) rfl rfl rfl (ent_value (ov_load (v := (I a1_0)) rfl F_agg_2 (reads_box1 (i := 0) rfl rfl)) rfl rfl rfl (ent_value (ov_load (v := (I p0_0)) rfl F_agg_2 (reads_box1 (i := 1) rfl rfl)) rfl rfl rfl (ent_value (ov_bin rfl rfl (b_geq _ _ _)) rfl rfl rfl (ent_value (ov_move rfl) rfl rfl rfl ?_)))))))))
 refine htF H (fun c2 H => ?_) fun c2 H => ?_
 ·refine ent_off rfl rfl rfl (decide_eq_false c2) rfl rfl ?_
  refine ent_off rfl rfl rfl (decide_eq_false c2) rfl rfl ?_
  refine ent_off rfl rfl rfl (decide_eq_false c2) rfl rfl ?_
  refine ent_off rfl rfl rfl (decide_eq_false c2) rfl rfl ?_
  refine ent_off rfl rfl rfl (decide_eq_false c2) rfl rfl ?_
  refine ent_value (ov_pick rfl rfl rfl (pick_f (decide_eq_false c2))) rfl rfl rfl (ent_value (ov_assign rfl) rfl rfl rfl (ent_nil (ent_retc ?_)))
  cases H
  refine ent_pick [1,2] (by decide) rfl ?_
  exact ret_tmp rfl rfl ⟨rfl,rfl⟩
 refine ent_value_on (ov_fieldAddr (sz := 4) (o := 0) rfl F_field_93_0 F_size_42) rfl rfl rfl (decide_eq_true c2) rfl rfl ?_
 refine ent_value_on (ov_fieldAddr (sz := 0) (o := 0) rfl F_field_42_0 F_size_2) rfl rfl rfl (decide_eq_true c2) rfl rfl ?_
 refine ent_value_on (ov_load (v := (I a1_0)) rfl F_agg_2 (reads_box1 (i := 0) rfl rfl)) rfl rfl rfl (decide_eq_true c2) rfl rfl ?_
 refine ent_value_on (ov_load (v := (I p1_0)) rfl F_agg_2 (reads_box1 (i := 2) rfl rfl)) rfl rfl rfl (decide_eq_true c2) rfl rfl ?_
 refine ent_value_on (ov_bin rfl rfl (b_lss _ _ _)) rfl rfl rfl (decide_eq_true c2) rfl rfl ?_
 refine ent_value (ov_pick rfl rfl rfl (pick_t (decide_eq_true c2))) rfl rfl rfl (ent_value (ov_assign rfl) rfl rfl rfl (ent_nil (ent_retc ?_)))
 cases H
 refine ent_pick [1,2] (by decide) rfl ?_
 exact ret_tmp rfl rfl ⟨rfl,rfl⟩

theorem mem_Mem_cut_1_R.spec (p0 p1 : Nat) (p2 p3 : Nat) (sv0 : Value) (A0 : HP) (a0_0 : Int) (a0_1 : List UInt8) (a0_2 : List UInt8) (a0_3 : List UInt8) (a0_4 : List UInt8) (a0_5 p1_0 : Int) (p2_0 p3_0 : Int) (p3_1 p3_2 : Int) (l0 : List Api_Fact) (hA0 : IsRd A0 sv0 l0.length 6 (fl enc_Api_Fact l0)) (r : Bool) (H : mem_Mem_cut_1_R a0_0 a0_1 a0_2 a0_3 a0_4 a0_5 p1_0 p2_0 p3_0 p3_1 p3_2 l0 = r) : FnSpec Try.prog 86 [agg #[I a0_0,str a0_1,str a0_2,str a0_3,str a0_4,I a0_5],pt p0 0,pt p3 0] [box p0 123 [(Value.func (.func 58) #[] #[pt p1 0,pt p2 0])],box p1 2 [I p1_0],box p2 2 [I p2_0],box p3 66 [I p3_0,I p3_1,I p3_2,sv0],A0] (fun v M => v = (bool r) ∧ M = [box p0 123 [(Value.func (.func 58) #[] #[pt p1 0,pt p2 0])],box p1 2 [I p1_0],box p2 2 [I p2_0],box p3 66 [I p3_0,I p3_1,I p3_2,sv0],A0]) := by
 unfold mem_Mem_cut_1_R at H
 refine spec_of Try.func86 rfl 10 rfl (Nat.le_of_ble_eq_true rfl) fun F w0 => ?_
 let C0_ : List Value := [I a0_0,str a0_1,str a0_2,str a0_3,str a0_4,I a0_5]
 show Ent (St 10 w0 F [(0,agg #[I a0_0,str a0_1,str a0_2,str a0_3,str a0_4,I a0_5]),(1,pt p0 0),(2,pt p3 0)] [box p0 123 [(Value.func (.func 58) #[] #[pt p1 0,pt p2 0])],box p1 2 [I p1_0],box p2 2 [I p2_0],box p3 66 [I p3_0,I p3_1,I p3_2,sv0],A0]) _
 refine ent_seq (ent_region ?_)
 refine ent_op (ot_box (cs := C0_) rfl rfl) rfl rfl rfl ?_
 rintro _ _ ⟨b2,rfl,rfl⟩
 refine ent_value (ov_assign rfl) rfl rfl rfl (ent_nil (ent_seq (ent_region ?_)))
 refine ent_value (ov_load (v := (Value.func (.func 58) #[] #[pt p1 0,pt p2 0])) rfl F_agg_123 (reads_box1 (i := 1) rfl rfl)) rfl rfl rfl ?_
 refine ent_value (ov_fieldAddr (sz := 0) (o := 0) rfl F_field_66_0 F_size_2) rfl rfl rfl (ent_value (ov_load (v := (I p3_0)) rfl F_agg_2 (reads_box1 (i := 4) rfl rfl)) rfl rfl rfl (ent_value (ov_load_agg (vs := C0_) rfl F_agg_93 F_size_93 (reads_boxW (i := 0) rfl)) rfl rfl rfl ?_))
 obtain ⟨x2,h2,H⟩ := thn_elim H
 refine ent_op (ot_call_same (Lr := [box b2 93 C0_,box p0 123 [(Value.func (.func 58) #[] #[pt p1 0,pt p2 0])],box p3 66 [I p3_0,I p3_1,I p3_2,sv0],A0]) [2,3,0,1,4,5] [2,3,0,1,4,5] (first := []) (cap := [pt p1 0,pt p2 0]) (xs := [.tmp 7,.tmp 8]) rfl rfl F_call_58 rfl (mem_Mem_Drop_1.spec p1 p2 p3_0 a0_0 a0_1 a0_2 a0_3 a0_4 a0_5 p1_0 p2_0 _ h2) (by decide) rfl (by decide) rfl) rfl rfl rfl ?_
 rintro _ _ ⟨rfl,rfl⟩
 refine ent_value (ov_assign rfl) rfl rfl rfl (ent_nil (ent_retc ?_))
 cases H
 refine ent_pick [1,2,3,4,5] (by decide) rfl ?_
 exact ret_tmp rfl rfl ⟨rfl,rfl⟩

theorem slices_IndexFunc____api_Fact__api_Fact_RR.spec (K : Nat) (sv0 : Value) (A0 : HP) (p0 p1 : Nat) (p2 p3 : Nat) (sv1 : Value) (A1 : HP) (l0 : List Api_Fact) (p1_0 p2_0 : Int) (p3_0 p3_1 p3_2 : Int) (l1 : List Api_Fact) (hA0 : IsRd A0 sv0 l0.length 6 (fl enc_Api_Fact l0)) (hA1 : IsRd A1 sv1 l1.length 6 (fl enc_Api_Fact l1)) (r : Int) (H : slices_IndexFunc____api_Fact__api_Fact_RR K l0 p1_0 p2_0 p3_0 p3_1 p3_2 l1 = some r) : FnSpec Try.prog 111 [sv0,(Value.func (.func 86) #[] #[pt p0 0,pt p3 0])] [A0,box p0 123 [(Value.func (.func 58) #[] #[pt p1 0,pt p2 0])],box p1 2 [I p1_0],box p2 2 [I p2_0],box p3 66 [I p3_0,I p3_1,I p3_2,sv1],A1] (fun v M => v = (I r) ∧ M = [A0,box p0 123 [(Value.func (.func 58) #[] #[pt p1 0,pt p2 0])],box p1 2 [I p1_0],box p2 2 [I p2_0],box p3 66 [I p3_0,I p3_1,I p3_2,sv1],A1]) := by
 unfold slices_IndexFunc____api_Fact__api_Fact_RR at H
 refine spec_of Try.func111 rfl 19 rfl (Nat.le_of_ble_eq_true rfl) fun F w0 => ?_
 show Ent (St 19 w0 F [(0,sv0),(1,(Value.func (.func 86) #[] #[pt p0 0,pt p3 0]))] [A0,box p0 123 [(Value.func (.func 58) #[] #[pt p1 0,pt p2 0])],box p1 2 [I p1_0],box p2 2 [I p2_0],box p3 66 [I p3_0,I p3_1,I p3_2,sv1],A1]) _
 refine ent_seq (ent_region (ent_value (ov_assign rfl) rfl rfl rfl (ent_nil (ent_seq (ent_seq (ent_region (ent_value (ov_move rfl) rfl rfl rfl (ent_value (ov_len 0 rfl F_slice_46 rfl hA0) rfl rfl rfl (ent_value (ov_move rfl) rfl rfl rfl (ent_nil (ent_block ?_)))))))))))
 refine ent_loop (fun k a w => ∃ i5,slices_IndexFunc____api_Fact__api_Fact_RR_l0 K l0 p1_0 p2_0 p3_0 p3_1 p3_2 l1 k i5 = some r ∧ St 19 w0 F [(0,sv0),(1,(Value.func (.func 86) #[] #[pt p0 0,pt p3 0])),(7,I (l0.length : Int)),(8,I i5)] [A0,box p0 123 [(Value.func (.func 58) #[] #[pt p1 0,pt p2 0])],box p1 2 [I p1_0],box p2 2 [I p2_0],box p3 66 [I p3_0,I p3_1,I p3_2,sv1],A1] a w) K ?_ ?_
 ·exact ent_fin [0,1,2,3,4,5] (by decide) rfl (sub_cons (t := 0) rfl (sub_cons (t := 1) rfl (sub_cons (t := 7) rfl (sub_cons (t := 8) rfl (sub_nil _))))) fun a w h => ⟨_,H,h⟩
 ·refine fun k => ent_exi fun i5 => ent_and fun H4 => ?_
  cases k with
  | zero => exact absurd H4 (by simp [slices_IndexFunc____api_Fact__api_Fact_RR_l0])
  | succ k =>
   rw [slices_IndexFunc____api_Fact__api_Fact_RR_l0] at H4
   refine ent_seq (ent_region (ent_value (ov_bin rfl rfl (b_lss _ _ _)) rfl rfl rfl (ent_nil (ent_seq ?_))))
   refine htF H4 (fun c60 H4 => ?_) fun c60 H4 => ?_
   ·refine ent_cond_false rfl (decide_eq_false c60) (ent_exit (ent_seq (ent_region (ent_value (ov_assign rfl) rfl rfl rfl (ent_nil (ent_retc ?_))))))
    cases H4
    refine ent_pick [0,1,2,3,4,5] (by decide) rfl ?_
    exact ret_tmp rfl rfl ⟨rfl,rfl⟩
   refine ent_cond_true rfl (decide_eq_true c60) (ent_skip (ent_seq (ent_block (ent_seq (ent_region (ent_value (ov_move rfl) rfl rfl rfl (ent_value (ov_assign rfl) rfl rfl rfl (ent_nil (ent_seq (ent_region (ent_value (ov_move rfl) rfl rfl rfl ?_)))))))))))
   refine ent_value (ov_move rfl) rfl rfl rfl (ent_value (ov_move rfl) rfl rfl rfl ?_)
   obtain ⟨c63,H4⟩ := gdT H4
   refine ent_value (ov_indexAddr (sz := 5) 0 rfl rfl F_slice_46 F_size_93 rfl hA0 c63 c60) rfl rfl rfl ?_
   refine ent_value (ov_load_agg (vs := [I (((l0.getD i5.toNat z_Api_Fact).Key).Hour),str (((l0.getD i5.toNat z_Api_Fact).Key).Dims_0),str (((l0.getD i5.toNat z_Api_Fact).Key).Dims_1),str (((l0.getD i5.toNat z_Api_Fact).Key).Dims_2),str (((l0.getD i5.toNat z_Api_Fact).Key).Dims_3),I ((l0.getD i5.toNat z_Api_Fact).Value)]) rfl F_agg_93 F_size_93 (reads_rd (i := 0) rfl hA0 (by simp) (fl_read0 enc_Api_Fact_len (ix_lt c63 c60) rfl))) rfl rfl rfl ?_
   obtain ⟨x24,h24,H4⟩ := thn_elim H4
   refine ent_op (ot_call_same (Lr := [A0]) [1,2,3,4,5,0] [5,0,1,2,3,4] (first := []) (cap := [pt p0 0,pt p3 0]) (xs := [.tmp 15]) rfl rfl F_call_86 rfl (mem_Mem_cut_1_R.spec p0 p1 p2 p3 sv1 A1 (((l0.getD i5.toNat z_Api_Fact).Key).Hour) (((l0.getD i5.toNat z_Api_Fact).Key).Dims_0) (((l0.getD i5.toNat z_Api_Fact).Key).Dims_1) (((l0.getD i5.toNat z_Api_Fact).Key).Dims_2) (((l0.getD i5.toNat z_Api_Fact).Key).Dims_3) ((l0.getD i5.toNat z_Api_Fact).Value) p1_0 p2_0 p3_0 p3_1 p3_2 l1 hA1 _ h24) (by decide) rfl (by decide) rfl) rfl rfl rfl ?_
   rintro _ _ ⟨rfl,rfl⟩
   refine ent_nil ?_
   refine htT H4 (fun c64 H4 => ?_) fun c64 H4 => ?_
   ·refine ent_cond_true rfl c64 (ent_seq (ent_region (ent_value (ov_move rfl) rfl rfl rfl (ent_value (ov_assign rfl) rfl rfl rfl (ent_nil (ent_retc ?_))))))
    cases H4
    refine ent_pick [0,1,2,3,4,5] (by decide) rfl ?_
    exact ret_tmp rfl rfl ⟨rfl,rfl⟩
   refine ent_cond_false rfl (Bool.eq_false_iff.2 c64) (ent_skip (ent_region (ent_value (ov_bin rfl rfl (b_add _ _ _) ) rfl rfl rfl (ent_value (ov_move rfl) rfl rfl rfl (ent_nil ?_)))))
   exact ent_fin [0,1,2,3,4,5] (by decide) rfl (sub_cons (t := 0) rfl (sub_cons (t := 1) rfl (sub_cons (t := 7) rfl (sub_cons (t := 8) rfl (sub_nil _))))) fun a w h => ⟨k,Nat.lt_succ_self k,_,H4,h⟩

theorem slices_DeleteFunc____api_Fact__api_Fact_OR.spec (K : Nat) (sv0 : Value) (p0 p1 : Nat) (p2 p3 : Nat) (sv1 : Value) (A1 : HP) (l0 : List Api_Fact) (p1_0 p2_0 : Int) (p3_0 p3_1 p3_2 : Int) (l1 : List Api_Fact) (hA1 : IsRd A1 sv1 l1.length 6 (fl enc_Api_Fact l1)) (r : List Api_Fact) (H : slices_DeleteFunc____api_Fact__api_Fact_OR K l0 p1_0 p2_0 p3_0 p3_1 p3_2 l1 = some r) : FnSpec Try.prog 85 [sv0,(Value.func (.func 86) #[] #[pt p0 0,pt p3 0])] [own sv0 93 6 l0.length (fl enc_Api_Fact l0),box p0 123 [(Value.func (.func 58) #[] #[pt p1 0,pt p2 0])],box p1 2 [I p1_0],box p2 2 [I p2_0],box p3 66 [I p3_0,I p3_1,I p3_2,sv1],A1] (fun v M => ∃ sv2 : Value,v = sv2 ∧ M = [box p0 123 [(Value.func (.func 58) #[] #[pt p1 0,pt p2 0])],box p1 2 [I p1_0],box p2 2 [I p2_0],box p3 66 [I p3_0,I p3_1,I p3_2,sv1],A1,own sv2 93 6 r.length (fl enc_Api_Fact r)]) := by
 unfold slices_DeleteFunc____api_Fact__api_Fact_OR at H
 refine spec_of Try.func85 rfl 42 rfl (Nat.le_of_ble_eq_true rfl) fun F w0 => ?_
 show Ent (St 42 w0 F [(0,sv0),(1,(Value.func (.func 86) #[] #[pt p0 0,pt p3 0]))] [own sv0 93 6 l0.length (fl enc_Api_Fact l0),box p0 123 [(Value.func (.func 58) #[] #[pt p1 0,pt p2 0])],box p1 2 [I p1_0],box p2 2 [I p2_0],box p3 66 [I p3_0,I p3_1,I p3_2,sv1],A1]) _
 refine ent_seq (ent_region (ent_value (ov_assign rfl) rfl rfl rfl (ent_nil (ent_seq (ent_region (ent_value (ov_move rfl) rfl rfl rfl (ent_value (ov_move rfl) rfl rfl rfl ?_)))))))
 obtain ⟨x15,h14,H⟩ := Option.bind_eq_some_iff.1 H
 refine ent_op (ot_call_same (Lr := []) [0,1,2,3,4,5] [0,1,2,3,4,5] (first := []) (cap := []) (xs := [.tmp 8,.tmp 9]) rfl rfl F_call_111 rfl (slices_IndexFunc____api_Fact__api_Fact_RR.spec K sv0 (own sv0 93 6 l0.length (fl enc_Api_Fact l0)) p0 p1 p2 p3 sv1 A1 l0 p1_0 p2_0 p3_0 p3_1 p3_2 l1 (isRd_ownx 93) hA1 _ h14) (by decide) rfl (by decide) rfl) rfl rfl rfl ?_
 rintro _ _ ⟨rfl,rfl⟩
 refine ent_value (ov_assign rfl) rfl rfl rfl (ent_nil (ent_seq (ent_seq (ent_region (ent_value (ov_move rfl) rfl rfl rfl (ent_value (ov_bin rfl rfl (b_eql _ _ _)) rfl rfl rfl (ent_nil ?_)))))))
 refine htT H (fun c67 H => ?_) fun c67 H => ?_
 ·refine ent_cond_true rfl (eq_t c67) (ent_seq (ent_region (ent_value (ov_move rfl) rfl rfl rfl (ent_value (ov_assign rfl) rfl rfl rfl (ent_nil (ent_retc ?_))))))
  cases H
  refine ent_pick [1,2,3,4,5,0] (by decide) rfl ?_
  exact ret_tmp rfl rfl ⟨_,rfl,rfl⟩
 refine ent_cond_false rfl (eq_f c67) (ent_skip ?_)
 obtain ⟨x22,H5,H⟩ := Option.bind_eq_some_iff.1 H
 refine ent_seq_cut (fun a w => St 42 w0 F [(0,sv0),(5,I x22.2)] [own sv0 93 6 x22.1.length (fl enc_Api_Fact x22.1),box p0 123 [(Value.func (.func 58) #[] #[pt p1 0,pt p2 0])],box p1 2 [I p1_0],box p2 2 [I p2_0],box p3 66 [I p3_0,I p3_1,I p3_2,sv1],A1] a w) ?_ ?_
 ·refine ent_seq (ent_region (ent_value (ov_move rfl) rfl rfl rfl (ent_value (ov_bin rfl rfl (b_add _ _ _) ) rfl rfl rfl (ent_value (ov_assign rfl) rfl rfl rfl (ent_nil (ent_block ?_))))))
  refine ent_loop (fun k a w => ∃ i9,∃ i10,∃ l8,slices_DeleteFunc____api_Fact__api_Fact_OR_l0 K p1_0 p2_0 p3_0 p3_1 p3_2 l1 k i9 i10 l8 = some x22 ∧ St 42 w0 F [(0,sv0),(1,(Value.func (.func 86) #[] #[pt p0 0,pt p3 0])),(5,I i9),(6,I i10)] [own sv0 93 6 l8.length (fl enc_Api_Fact l8),box p0 123 [(Value.func (.func 58) #[] #[pt p1 0,pt p2 0])],box p1 2 [I p1_0],box p2 2 [I p2_0],box p3 66 [I p3_0,I p3_1,I p3_2,sv1],A1] a w) K ?_ ?_
  ·exact ent_fin [0,1,2,3,4,5] (by decide) rfl (sub_cons (t := 0) rfl (sub_cons (t := 1) rfl (sub_cons (t := 5) rfl (sub_cons (t := 6) rfl (sub_nil _))))) fun a w h => ⟨_,_,_,H5,h⟩
  ·refine fun k => ent_exi fun i9 => ent_exi fun i10 => ent_exi fun l8 => ent_and fun H6 => ?_
   let C0_ : List Value := [I (((l8.getD i10.toNat z_Api_Fact).Key).Hour),str (((l8.getD i10.toNat z_Api_Fact).Key).Dims_0),str (((l8.getD i10.toNat z_Api_Fact).Key).Dims_1),str (((l8.getD i10.toNat z_Api_Fact).Key).Dims_2),str (((l8.getD i10.toNat z_Api_Fact).Key).Dims_3),I ((l8.getD i10.toNat z_Api_Fact).Value)]
   cases k with
   | zero => exact absurd H6 (by simp [C0_,slices_DeleteFunc____api_Fact__api_Fact_OR_l0])
   | succ k =>
    rw [slices_DeleteFunc____api_Fact__api_Fact_OR_l0] at H6
    refine ent_seq (ent_seq (ent_region (ent_value (ov_move rfl) rfl rfl rfl (ent_value (ov_move rfl) rfl rfl rfl (ent_value (ov_len 0 rfl F_slice_46 rfl (isRd_ownx 93)) rfl rfl rfl (ent_value (ov_bin rfl rfl (b_lss _ _ _)) rfl rfl rfl (ent_nil ?_)))))))
    refine htF H6 (fun c119 H6 => ?_) fun c119 H6 => ?_
    ·refine ent_cond_false rfl (decide_eq_false c119) (ent_exit ?_)
     cases H6
     exact ent_fin [0,1,2,3,4,5] (by decide) rfl (sub_cons (t := 0) rfl (sub_cons (t := 5) rfl (sub_nil _))) fun a w h => h
    refine ent_cond_true rfl (decide_eq_true c119) (ent_skip (ent_seq (ent_block (ent_seq (ent_region (ent_value (ov_move rfl) rfl rfl rfl (ent_value (ov_move rfl) rfl rfl rfl ?_)))))))
    obtain ⟨c124,H6⟩ := gdT H6
    refine ent_value (ov_indexAddr (sz := 5) 0 rfl rfl F_slice_46 F_size_93 rfl (isRd_ownx 93) c124 c119) rfl rfl rfl ?_
    refine ent_value (ov_load_agg (vs := C0_) rfl F_agg_93 F_size_93 (reads_rd (i := 0) rfl (isRd_ownx 93) (by simp [C0_]) (fl_read0 enc_Api_Fact_len (ix_lt c124 c119) rfl))) rfl rfl rfl ?_
    refine ent_op (ot_alloc F_zero_93) rfl rfl rfl ?_
    rintro _ _ ⟨b24,rfl,rfl⟩
    refine ent_op0 (ot_storeG (cs := [I 0,S0,S0,S0,S0,I 0]) (cs' := C0_) (us := C0_) (L' := [box b24 93 C0_,own sv0 93 6 l8.length (fl enc_Api_Fact l8),box p0 123 [(Value.func (.func 58) #[] #[pt p1 0,pt p2 0])],box p1 2 [I p1_0],box p2 2 [I p2_0],box p3 66 [I p3_0,I p3_1,I p3_2,sv1],A1]) 0 rfl rfl rfl (one_all rfl) F_size_93 rfl rfl (by simp [C0_]) rfl) rfl rfl ?_
    rintro _ _ rfl
    refine ent_nil (ent_seq (ent_region (ent_value (ov_move rfl) rfl rfl rfl (ent_value (ov_load_agg (vs := C0_) rfl F_agg_93 F_size_93 (reads_boxW (i := 0) rfl)) rfl rfl rfl ?_))))
    obtain ⟨x28,h26,H6⟩ := thn_elim H6
    refine ent_op (ot_call_same (Lr := [box b24 93 C0_,own sv0 93 6 l8.length (fl enc_Api_Fact l8)]) [2,3,4,5,6,0,1] [5,6,0,1,2,3,4] (first := []) (cap := [pt p0 0,pt p3 0]) (xs := [.tmp 27]) rfl rfl F_call_86 rfl (mem_Mem_cut_1_R.spec p0 p1 p2 p3 sv1 A1 (((l8.getD i10.toNat z_Api_Fact).Key).Hour) (((l8.getD i10.toNat z_Api_Fact).Key).Dims_0) (((l8.getD i10.toNat z_Api_Fact).Key).Dims_1) (((l8.getD i10.toNat z_Api_Fact).Key).Dims_2) (((l8.getD i10.toNat z_Api_Fact).Key).Dims_3) ((l8.getD i10.toNat z_Api_Fact).Value) p1_0 p2_0 p3_0 p3_1 p3_2 l1 hA1 _ h26) (by decide) rfl (by decide) rfl) rfl rfl rfl ?_
    rintro _ _ ⟨rfl,rfl⟩
    refine ent_value (ov_un rfl (u_not _)) rfl rfl rfl (ent_nil ?_)
    refine htF H6 (fun c125 H6 => ?_) fun c125 H6 => ?_
    ·refine ent_cond_false rfl (Bool.eq_false_iff.2 c125) (ent_skip (ent_region (ent_value (ov_move rfl) rfl rfl rfl (ent_value (ov_bin rfl rfl (b_add _ _ _) ) rfl rfl rfl (ent_value (ov_assign rfl) rfl rfl rfl (ent_nil ?_))))))
     exact ent_fin [1,2,3,4,5,6] (by decide) rfl (sub_cons (t := 0) rfl (sub_cons (t := 1) rfl (sub_cons (t := 5) rfl (sub_cons (t := 6) rfl (sub_nil _))))) fun a w h => ⟨k,Nat.lt_succ_self k,_,_,_,H6,h⟩
    refine ent_cond_true rfl c125 (ent_seq (ent_region (ent_value (ov_move rfl) rfl rfl rfl (ent_value (ov_move rfl) rfl rfl rfl (ent_value (ov_load_agg (vs := C0_) rfl F_agg_93 F_size_93 (reads_boxW (i := 0) rfl)) rfl rfl rfl ?_)))))
    obtain ⟨c126,H6⟩ := gdT H6
    obtain ⟨c127,H6⟩ := gdT H6
    refine ent_value (ov_indexAddr (sz := 5) 1 rfl rfl F_slice_46 F_size_93 rfl (isRd_ownx 93) c126 c127) rfl rfl rfl ?_
    refine ent_op0 (ot_storeEx0 (z := z_Api_Fact) (y := (⟨(⟨((l8.getD i10.toNat z_Api_Fact).Key).Hour,((l8.getD i10.toNat z_Api_Fact).Key).Dims_0,((l8.getD i10.toNat z_Api_Fact).Key).Dims_1,((l8.getD i10.toNat z_Api_Fact).Key).Dims_2,((l8.getD i10.toNat z_Api_Fact).Key).Dims_3⟩ : Api_Key),(l8.getD i10.toNat z_Api_Fact).Value⟩ : Api_Fact)) (us := C0_) (L' := [box b24 93 C0_,own sv0 93 6 (l8.set i9.toNat (⟨(⟨((l8.getD i10.toNat z_Api_Fact).Key).Hour,((l8.getD i10.toNat z_Api_Fact).Key).Dims_0,((l8.getD i10.toNat z_Api_Fact).Key).Dims_1,((l8.getD i10.toNat z_Api_Fact).Key).Dims_2,((l8.getD i10.toNat z_Api_Fact).Key).Dims_3⟩ : Api_Key),(l8.getD i10.toNat z_Api_Fact).Value⟩ : Api_Fact)).length (fl enc_Api_Fact (l8.set i9.toNat (⟨(⟨((l8.getD i10.toNat z_Api_Fact).Key).Hour,((l8.getD i10.toNat z_Api_Fact).Key).Dims_0,((l8.getD i10.toNat z_Api_Fact).Key).Dims_1,((l8.getD i10.toNat z_Api_Fact).Key).Dims_2,((l8.getD i10.toNat z_Api_Fact).Key).Dims_3⟩ : Api_Key),(l8.getD i10.toNat z_Api_Fact).Value⟩ : Api_Fact))),box p0 123 [(Value.func (.func 58) #[] #[pt p1 0,pt p2 0])],box p1 2 [I p1_0],box p2 2 [I p2_0],box p3 66 [I p3_0,I p3_1,I p3_2,sv1],A1]) 1 rfl rfl rfl (all_one rfl) F_size_93 enc_Api_Fact_len (ix_lt c126 c127) rfl rfl rfl rfl rfl) rfl rfl ?_
    rintro _ _ rfl
    refine ent_nil (ent_region (ent_value (ov_move rfl) rfl rfl rfl (ent_value (ov_bin rfl rfl (b_add _ _ _) ) rfl rfl rfl (ent_value (ov_assign rfl) rfl rfl rfl (ent_nil (ent_region (ent_value (ov_move rfl) rfl rfl rfl (ent_value (ov_bin rfl rfl (b_add _ _ _) ) rfl rfl rfl (ent_value (ov_assign rfl) rfl rfl rfl (ent_nil ?_))))))))))
    exact ent_fin [1,2,3,4,5,6] (by decide) rfl (sub_cons (t := 0) rfl (sub_cons (t := 1) rfl (sub_cons (t := 5) rfl (sub_cons (t := 6) rfl (sub_nil _))))) fun a w h => ⟨k,Nat.lt_succ_self k,_,_,_,H6,h⟩
 ·refine ent_seq (ent_region (ent_value (ov_move rfl) rfl rfl rfl (ent_value (ov_move rfl) rfl rfl rfl ?_)))
  obtain ⟨c128,H⟩ := gdT H
  obtain ⟨c129,H⟩ := gdT H
  refine ent_value (ov_slice_lo 0 rfl rfl F_slice_46 F_size_93 rfl (isRd_ownx 93) c128 c129) rfl rfl rfl ?_
  refine ent_op0 (ot_clearS (sz := 5) (lo := x22.2.toNat) (z := z_Api_Fact) 0 rfl F_slice_46 F_zero_93 rfl enc_Api_Fact_len rfl rfl rfl (nat_le c128 c129)) rfl rfl ?_
  rintro _ _ rfl
  refine ent_L [own sv0 93 6 (x22.1.take x22.2.toNat ++ List.replicate (x22.1.length - x22.2.toNat) z_Api_Fact).length (fl enc_Api_Fact (x22.1.take x22.2.toNat ++ List.replicate (x22.1.length - x22.2.toNat) z_Api_Fact)),box p0 123 [(Value.func (.func 58) #[] #[pt p1 0,pt p2 0])],box p1 2 [I p1_0],box p2 2 [I p2_0],box p3 66 [I p3_0,I p3_1,I p3_2,sv1],A1] rfl ?_
  refine ent_nil (ent_seq (ent_region (ent_value (ov_move rfl) rfl rfl rfl (ent_value (ov_move rfl) rfl rfl rfl ?_))))
  obtain ⟨c130,H⟩ := gdT H
  refine ent_value (ov_slice_hi 0 rfl rfl F_slice_46 F_size_93 rfl (isRd_ownx 93) c128 c130) rfl rfl rfl (ent_value (ov_assign rfl) rfl rfl rfl (ent_nil (ent_retc ?_)))
  refine ent_conv 0 _ (own (subs sv0 0 x22.2.toNat 6) 93 6 ((x22.1.take x22.2.toNat ++ List.replicate (x22.1.length - x22.2.toNat) z_Api_Fact).take x22.2.toNat).length (fl enc_Api_Fact ((x22.1.take x22.2.toNat ++ List.replicate (x22.1.length - x22.2.toNat) z_Api_Fact).take x22.2.toNat))) rfl (own_takex enc_Api_Fact_len (nat_le c128 c130)) rfl ?_
  refine ent_L [own (subs sv0 0 x22.2.toNat 6) 93 6 ((x22.1.take x22.2.toNat ++ List.replicate (x22.1.length - x22.2.toNat) z_Api_Fact).take x22.2.toNat).length (fl enc_Api_Fact ((x22.1.take x22.2.toNat ++ List.replicate (x22.1.length - x22.2.toNat) z_Api_Fact).take x22.2.toNat)),box p0 123 [(Value.func (.func 58) #[] #[pt p1 0,pt p2 0])],box p1 2 [I p1_0],box p2 2 [I p2_0],box p3 66 [I p3_0,I p3_1,I p3_2,sv1],A1] rfl ?_
  cases H
  refine ent_pick [1,2,3,4,5,0] (by decide) rfl ?_
  exact ret_tmp rfl rfl ⟨_,rfl,rfl⟩

theorem mem_Mem_cut_O.spec (K p0 : Nat) (sv0 : JG) (p1 p2 : Nat) (p0_0 : Int) (l0 : List Wal_Batch) (p0_2 p1_0 p2_0 : Int) (r : ((List Wal_Batch) × Int)) (H : mem_Mem_cut_O K p0_0 l0 p0_2 p1_0 p2_0 = some r) : FnSpec Try.prog 57 [pt p0 0,(Value.func (.func 58) #[] #[pt p1 0,pt p2 0])] [box p0 118 [I p0_0,sv0.sv,I p0_2],(jown sv0 66 4 enc_Wal_Batch 93 6 jlen_Wal_Batch jics_Wal_Batch l0),box p1 2 [I p1_0],box p2 2 [I p2_0]] (fun v M => ∃ sv52 : JG,v = (I r.2) ∧ M = [box p0 118 [I p0_0,sv52.sv,I p0_2],(jown sv52 66 4 enc_Wal_Batch 93 6 jlen_Wal_Batch jics_Wal_Batch r.1),(jown sv0 66 4 enc_Wal_Batch 93 6 jlen_Wal_Batch jics_Wal_Batch l0),box p1 2 [I p1_0],box p2 2 [I p2_0]]) := by
 unfold mem_Mem_cut_O at H
 refine spec_of Try.func57 rfl 48 rfl (Nat.le_of_ble_eq_true rfl) fun F w0 => ?_
 show Ent (St 48 w0 F [(0,pt p0 0),(1,(Value.func (.func 58) #[] #[pt p1 0,pt p2 0]))] [box p0 118 [I p0_0,sv0.sv,I p0_2],(jown sv0 66 4 enc_Wal_Batch 93 6 jlen_Wal_Batch jics_Wal_Batch l0),box p1 2 [I p1_0],box p2 2 [I p2_0]]) _
 refine ent_seq (ent_region ?_)
 refine ent_op (ot_box (cs := [(Value.func (.func 58) #[] #[pt p1 0,pt p2 0])]) rfl rfl) rfl rfl rfl ?_
 rintro _ _ ⟨b14,rfl,rfl⟩
 refine ent_value (ov_assign rfl) rfl rfl rfl (ent_nil (ent_seq (ent_region (ent_value (ov_assign rfl) rfl rfl rfl (ent_nil ?_)))))
 obtain ⟨x38,H5,H⟩ := Option.bind_eq_some_iff.1 H
 refine ent_seq_cut (fun a w => ∃ sv78 : JG,St 48 w0 F [(0,pt p0 0),(4,I x38.2),(5,sv78.sv)] [box p0 118 [I p0_0,sv0.sv,I p0_2],(jown sv0 66 4 enc_Wal_Batch 93 6 jlen_Wal_Batch jics_Wal_Batch l0),box p1 2 [I p1_0],box p2 2 [I p2_0],(jown sv78 66 4 enc_Wal_Batch 93 6 jlen_Wal_Batch jics_Wal_Batch x38.1)] a w) ?_ ?_
 ·refine ent_seq (ent_region (ent_value (ov_move rfl) rfl rfl rfl ?_))
  obtain ⟨u4,h40,H5⟩ := thn_elim H5
  refine ent_op (ot_call_same (Lr := [box b14 123 [(Value.func (.func 58) #[] #[pt p1 0,pt p2 0])],box p1 2 [I p1_0],box p2 2 [I p2_0]]) [1,2,0,3,4] [2,0,1,3,4] (first := []) (cap := []) (xs := [.tmp 9]) rfl rfl F_call_56 rfl (mem_Mem_batches_O.spec p0 sv0 p0_0 l0 p0_2 _ h40) (by decide) rfl (by decide) rfl) rfl rfl rfl ?_
  rintro _ _ ⟨rfl,rfl⟩
  refine ent_value (ov_len 2 rfl F_slice_72 rfl isRd_jout) rfl rfl rfl (ent_value (ov_move rfl) rfl rfl rfl (ent_nil (ent_block ?_)))
  refine ent_loop (fun k a w => ∃ i9,∃ i10,∃ l7,∃ sv87 : JG,mem_Mem_cut_O_l0 K l0 p1_0 p2_0 k i9 i10 l7 = some x38 ∧ St 48 w0 F [(0,pt p0 0),(3,pt b14 0),(4,I i9),(5,sv87.sv),(10,sv0.sv),(11,I (l0.length : Int)),(12,I i10)] [box p0 118 [I p0_0,sv0.sv,I p0_2],(jown sv0 66 4 enc_Wal_Batch 93 6 jlen_Wal_Batch jics_Wal_Batch l0),box p1 2 [I p1_0],box p2 2 [I p2_0],box b14 123 [(Value.func (.func 58) #[] #[pt p1 0,pt p2 0])],(jown sv87 66 4 enc_Wal_Batch 93 6 jlen_Wal_Batch jics_Wal_Batch l7)] a w) K ?_ ?_
  ·refine ent_jnil 66 4 enc_Wal_Batch 93 6 jlen_Wal_Batch jics_Wal_Batch ?_
   exact ent_fin [2,3,4,5,1,0] (by decide) rfl (sub_cons (t := 0) rfl (sub_cons (t := 3) rfl (sub_cons (t := 4) rfl (sub_cons (t := 5) rfl (sub_cons (t := 10) rfl (sub_cons (t := 11) rfl (sub_cons (t := 12) rfl (sub_nil _)))))))) fun a w h => ⟨_,_,_,jnil,H5,h⟩
  ·refine fun k => ent_exi fun i9 => ent_exi fun i10 => ent_exi fun l7 => ent_exi fun sv87 => ent_and fun H6 => ?_
   let C0_ : List Value := [I ((l0.getD i10.toNat z_Wal_Batch).Seq),I ((l0.getD i10.toNat z_Wal_Batch).Tick),I ((l0.getD i10.toNat z_Wal_Batch).Budget),(sv0.vs i10.toNat)]
   cases k with
   | zero => exact absurd H6 (by simp [C0_,mem_Mem_cut_O_l0])
   | succ k =>
    rw [mem_Mem_cut_O_l0] at H6
    refine ent_seq (ent_region (ent_value (ov_bin rfl rfl (b_lss _ _ _)) rfl rfl rfl (ent_nil (ent_seq ?_))))
    refine htF H6 (fun c82 H6 => ?_) fun c82 H6 => ?_
    ·refine ent_cond_false rfl (decide_eq_false c82) (ent_exit ?_)
     cases H6
     exact ent_fin [0,1,2,3,5] (by decide) rfl (sub_cons (t := 0) rfl (sub_cons (t := 4) rfl (sub_cons (t := 5) rfl (sub_nil _)))) fun a w h => ⟨sv87,h⟩
    refine ent_cond_true rfl (decide_eq_true c82) (ent_skip (ent_seq (ent_block (ent_seq (ent_region ?_)))))
    obtain ⟨c86,H6⟩ := gdT H6
    refine ent_value (ov_indexAddr (sz := 3) 1 rfl rfl F_slice_72 F_size_66 rfl isRd_jout c86 c82) rfl rfl rfl ?_
    refine ent_value (ov_load_agg (vs := C0_) rfl F_agg_66 F_size_66 (reads_rd (i := 1) rfl isRd_jout (by simp [C0_]) (flJ_rd0 enc_Wal_Batch_len (ix_lt c86 c82) rfl))) rfl rfl rfl ?_
    refine ent_op (ot_alloc F_zero_66) rfl rfl rfl ?_
    rintro _ _ ⟨b26,rfl,rfl⟩
    refine ent_op0 (ot_storeG (cs := [I 0,I 0,I 0,L0]) (cs' := C0_) (us := C0_) (L' := [box b26 66 C0_,box p0 118 [I p0_0,sv0.sv,I p0_2],(jown sv0 66 4 enc_Wal_Batch 93 6 jlen_Wal_Batch jics_Wal_Batch l0),box p1 2 [I p1_0],box p2 2 [I p2_0],box b14 123 [(Value.func (.func 58) #[] #[pt p1 0,pt p2 0])],(jown sv87 66 4 enc_Wal_Batch 93 6 jlen_Wal_Batch jics_Wal_Batch l7)]) 0 rfl rfl rfl (one_cons rfl (one_cons rfl (one_cons rfl (one_sl 2 rfl (show IsRd _ _ ((l0.getD i10.toNat z_Wal_Batch).Facts).length 6 (fl enc_Api_Fact ((l0.getD i10.toNat z_Wal_Batch).Facts)) from isRd_jin (z := z_Wal_Batch) (ix_lt c86 c82)) one_nil)))) F_size_66 rfl rfl (by simp [C0_]) rfl) rfl rfl ?_
    rintro _ _ rfl
    refine ent_nil (ent_seq (ent_region (ent_value (ov_fieldAddr (sz := 0) (o := 0) rfl F_field_66_3 F_size_46) rfl rfl rfl (ent_value (ov_load (v := (sv0.vs i10.toNat)) rfl F_agg_46 (reads_box1 (i := 0) rfl rfl)) rfl rfl rfl (ent_value (ov_len 2 rfl F_slice_46 rfl (show IsRd _ _ ((l0.getD i10.toNat z_Wal_Batch).Facts).length 6 (fl enc_Api_Fact ((l0.getD i10.toNat z_Wal_Batch).Facts)) from isRd_jin (z := z_Wal_Batch) (ix_lt c86 c82))) rfl rfl rfl (ent_value (ov_assign rfl) rfl rfl rfl (ent_nil (ent_seq (ent_region (ent_value (ov_fieldAddr (sz := 0) (o := 0) rfl F_field_66_3 F_size_46) rfl rfl rfl (ent_value (ov_load (v := (sv0.vs i10.toNat)) rfl F_agg_46 (reads_box1 (i := 0) rfl rfl)) rfl rfl rfl ?_)))))))))))
    obtain ⟨x49,h51,H6⟩ := Option.bind_eq_some_iff.1 H6
    refine ent_pick [2,0,1,3,4,5,6] (by decide) rfl ?_
    refine ent_op (ot_call (Lr := [box b26 66 C0_,box p0 118 [I p0_0,sv0.sv,I p0_2],box p1 2 [I p1_0],box p2 2 [I p2_0],box b14 123 [(Value.func (.func 58) #[] #[pt p1 0,pt p2 0])],(jown sv87 66 4 enc_Wal_Batch 93 6 jlen_Wal_Batch jics_Wal_Batch l7)]) (first := []) (cap := []) (xs := [.tmp 20]) rfl rfl F_call_54 rfl (slices_Clone____api_Fact__api_Fact_R.spec (sv0.vs i10.toNat) (jown sv0 66 4 enc_Wal_Batch 93 6 jlen_Wal_Batch jics_Wal_Batch l0) ((l0.getD i10.toNat z_Wal_Batch).Facts) (show IsRd _ _ ((l0.getD i10.toNat z_Wal_Batch).Facts).length 6 (fl enc_Api_Fact ((l0.getD i10.toNat z_Wal_Batch).Facts)) from isRd_jin (z := z_Wal_Batch) (ix_lt c86 c82)) _ h51) rfl) rfl rfl rfl ?_
    rintro sv100 _ ⟨_,⟨_,rfl,rfl⟩,rfl⟩
    refine ent_value (ov_makeFunc (first := []) (cap := [.tmp 3,.tmp 7]) rfl rfl) rfl rfl rfl ?_
    obtain ⟨x50,h52,H6⟩ := Option.bind_eq_some_iff.1 H6
    refine ent_pick [1,6,4,5,2,0,3,7] (by decide) rfl ?_
    refine ent_op (ot_call (Lr := [box p0 118 [I p0_0,sv0.sv,I p0_2],(jown sv87 66 4 enc_Wal_Batch 93 6 jlen_Wal_Batch jics_Wal_Batch l7)]) (first := []) (cap := []) (xs := [.tmp 21,.tmp 22]) rfl rfl F_call_85 rfl (slices_DeleteFunc____api_Fact__api_Fact_OR.spec K sv100 b14 p1 p2 b26 (sv0.vs i10.toNat) (jown sv0 66 4 enc_Wal_Batch 93 6 jlen_Wal_Batch jics_Wal_Batch l0) x49 p1_0 p2_0 ((l0.getD i10.toNat z_Wal_Batch).Seq) ((l0.getD i10.toNat z_Wal_Batch).Tick) ((l0.getD i10.toNat z_Wal_Batch).Budget) ((l0.getD i10.toNat z_Wal_Batch).Facts) (show IsRd _ _ ((l0.getD i10.toNat z_Wal_Batch).Facts).length 6 (fl enc_Api_Fact ((l0.getD i10.toNat z_Wal_Batch).Facts)) from isRd_jin (z := z_Wal_Batch) (ix_lt c86 c82)) _ h52) rfl) rfl rfl rfl ?_
    rintro sv101 _ ⟨_,⟨_,rfl,rfl⟩,rfl⟩
    let C1_ : List Value := [I ((l0.getD i10.toNat z_Wal_Batch).Seq),I ((l0.getD i10.toNat z_Wal_Batch).Tick),I ((l0.getD i10.toNat z_Wal_Batch).Budget),sv101]
    refine ent_value (ov_fieldAddr (sz := 0) (o := 0) rfl F_field_66_3 F_size_46) rfl rfl rfl ?_
    refine ent_op0 (ot_storeS (cs := C0_) (cs' := C1_) (sv := sv101) (L' := [box b14 123 [(Value.func (.func 58) #[] #[pt p1 0,pt p2 0])],box p1 2 [I p1_0],box p2 2 [I p2_0],box b26 66 C1_,(jown sv0 66 4 enc_Wal_Batch 93 6 jlen_Wal_Batch jics_Wal_Batch l0),own sv101 93 6 x50.length (fl enc_Api_Fact x50),box p0 118 [I p0_0,sv0.sv,I p0_2],(jown sv87 66 4 enc_Wal_Batch 93 6 jlen_Wal_Batch jics_Wal_Batch l7)]) 3 5 rfl rfl F_size_46 rfl rfl (isRd_ownx 93) rfl (by simp [C0_,C1_]) rfl) rfl rfl ?_
    rintro _ _ rfl
    refine ent_nil (ent_seq (ent_region (ent_value (ov_move rfl) rfl rfl rfl (ent_value (ov_move rfl) rfl rfl rfl (ent_value (ov_fieldAddr (sz := 0) (o := 0) rfl F_field_66_3 F_size_46) rfl rfl rfl (ent_value (ov_load (v := sv101) rfl F_agg_46 (reads_box1 (i := 3) rfl rfl)) rfl rfl rfl (ent_value (ov_len 5 rfl F_slice_46 rfl (isRd_ownx 93)) rfl rfl rfl (ent_value (ov_bin rfl rfl (b_sub _ _ _) ) rfl rfl rfl (ent_value (ov_bin rfl rfl (b_add _ _ _) ) rfl rfl rfl (ent_value (ov_assign rfl) rfl rfl rfl (ent_nil ?_)))))))))))
    refine ent_seq (ent_region (ent_value (ov_fieldAddr (sz := 0) (o := 0) rfl F_field_66_3 F_size_46) rfl rfl rfl (ent_value (ov_load (v := sv101) rfl F_agg_46 (reads_box1 (i := 3) rfl rfl)) rfl rfl rfl (ent_value (ov_len 5 rfl F_slice_46 rfl (isRd_ownx 93)) rfl rfl rfl (ent_value (ov_bin rfl rfl (b_gtr _ _ _)) rfl rfl rfl (ent_nil ?_))))))
    refine htF H6 (fun c87 H6 => ?_) fun c87 H6 => ?_
    ·refine ent_cond_false rfl (decide_eq_false c87) (ent_skip (ent_region (ent_value (ov_bin rfl rfl (b_add _ _ _) ) rfl rfl rfl (ent_value (ov_move rfl) rfl rfl rfl (ent_nil ?_)))))
     exact ent_fin [6,4,1,2,0,7] (by decide) rfl (sub_cons (t := 0) rfl (sub_cons (t := 3) rfl (sub_cons (t := 4) rfl (sub_cons (t := 5) rfl (sub_cons (t := 10) rfl (sub_cons (t := 11) rfl (sub_cons (t := 12) rfl (sub_nil _)))))))) fun a w h => ⟨k,Nat.lt_succ_self k,_,_,_,sv87,H6,h⟩
    refine ent_cond_true rfl (decide_eq_true c87) (ent_region (ent_value (ov_move rfl) rfl rfl rfl (ent_value (ov_load_agg (vs := C1_) rfl F_agg_66 F_size_66 (reads_boxW (i := 3) rfl)) rfl rfl rfl ?_)))
    refine ent_op (ot_buildSlice (sz := 3) (xs := [.tmp 37]) (cs := enc_Wal_Batch (⟨(l0.getD i10.toNat z_Wal_Batch).Seq,(l0.getD i10.toNat z_Wal_Batch).Tick,(l0.getD i10.toNat z_Wal_Batch).Budget,x50⟩ : Wal_Batch) sv101) rfl rfl F_slice_72 F_size_66 F_zero_66 rfl rfl (all_size rfl) rfl (by decide)) rfl rfl rfl ?_
    rintro sv102 _ rfl
    refine ent_L [own sv102 66 4 1 (enc_Wal_Batch (⟨(l0.getD i10.toNat z_Wal_Batch).Seq,(l0.getD i10.toNat z_Wal_Batch).Tick,(l0.getD i10.toNat z_Wal_Batch).Budget,x50⟩ : Wal_Batch) sv101),box b14 123 [(Value.func (.func 58) #[] #[pt p1 0,pt p2 0])],box p1 2 [I p1_0],box p2 2 [I p2_0],box b26 66 C1_,(jown sv0 66 4 enc_Wal_Batch 93 6 jlen_Wal_Batch jics_Wal_Batch l0),own sv101 93 6 x50.length (fl enc_Api_Fact x50),box p0 118 [I p0_0,sv0.sv,I p0_2],(jown sv87 66 4 enc_Wal_Batch 93 6 jlen_Wal_Batch jics_Wal_Batch l7)] rfl ?_
    obtain ⟨c88,H6⟩ := gdT H6
    refine ent_op (ot_appendJ (sz := 3) [8,0,6,1,2,3,4,5,7] (by decide) rfl rfl rfl F_slice_72 F_size_66 F_zero_66 rfl F_bytes_66 rfl (enc_Wal_Batch_one _ _) c88) rfl rfl rfl ?_
    rintro _ _ ⟨sv103,rfl,rfl⟩
    refine ent_L [(jown sv103 66 4 enc_Wal_Batch 93 6 jlen_Wal_Batch jics_Wal_Batch (l7 ++ [(⟨(l0.getD i10.toNat z_Wal_Batch).Seq,(l0.getD i10.toNat z_Wal_Batch).Tick,(l0.getD i10.toNat z_Wal_Batch).Budget,x50⟩ : Wal_Batch)])),box b14 123 [(Value.func (.func 58) #[] #[pt p1 0,pt p2 0])],box p1 2 [I p1_0],box p2 2 [I p2_0],box b26 66 C1_,(jown sv0 66 4 enc_Wal_Batch 93 6 jlen_Wal_Batch jics_Wal_Batch l0),box p0 118 [I p0_0,sv0.sv,I p0_2]] rfl ?_
    refine ent_value (ov_assign rfl) rfl rfl rfl (ent_nil (ent_region (ent_value (ov_bin rfl rfl (b_add _ _ _) ) rfl rfl rfl (ent_value (ov_move rfl) rfl rfl rfl (ent_nil ?_)))))
    exact ent_fin [6,5,2,3,1,0] (by decide) rfl (sub_cons (t := 0) rfl (sub_cons (t := 3) rfl (sub_cons (t := 4) rfl (sub_cons (t := 5) rfl (sub_cons (t := 10) rfl (sub_cons (t := 11) rfl (sub_cons (t := 12) rfl (sub_nil _)))))))) fun a w h => ⟨k,Nat.lt_succ_self k,_,_,_,sv103,H6,h⟩
 ·refine ent_exi fun sv78 => ?_
  refine ent_seq (ent_seq (ent_region (ent_value (ov_move rfl) rfl rfl rfl ?_)))
  refine ent_value (ov_bin rfl rfl (b_neq_of (fun w => rfl) rfl (eq_pn Try.underlying61 _ _))) rfl rfl rfl ?_
  refine ent_nil (ent_cond_true rfl rfl (ent_region (ent_value (ov_move rfl) rfl rfl rfl (ent_value (ov_move rfl) rfl rfl rfl (ent_value (ov_nilCheck rfl) rfl rfl rfl (ent_value (ov_fieldAddr (sz := 0) (o := 0) rfl F_field_118_1 F_size_72) rfl rfl rfl ?_))))))
  refine ent_op0 (ot_storeS (cs := [I p0_0,sv0.sv,I p0_2]) (cs' := [I p0_0,sv78.sv,I p0_2]) (sv := sv78.sv) (L' := [box p0 118 [I p0_0,sv78.sv,I p0_2],(jown sv0 66 4 enc_Wal_Batch 93 6 jlen_Wal_Batch jics_Wal_Batch l0),box p1 2 [I p1_0],box p2 2 [I p2_0],(jown sv78 66 4 enc_Wal_Batch 93 6 jlen_Wal_Batch jics_Wal_Batch x38.1)]) 0 4 rfl rfl F_size_72 rfl rfl isRd_jout rfl (by simp) rfl) rfl rfl ?_
  rintro _ _ rfl
  refine ent_nil (ent_seq (ent_region (ent_value (ov_move rfl) rfl rfl rfl (ent_value (ov_assign rfl) rfl rfl rfl (ent_nil (ent_retc ?_))))))
  cases H
  refine ent_pick [0,4,1,2,3] (by decide) rfl ?_
  exact ret_tmp rfl rfl ⟨sv78,rfl,rfl⟩

theorem mem_Mem_Drop_O.spec (K p0 : Nat) (sv0 : JG) (p0_0 : Int) (l0 : List Wal_Batch) (p0_2 a1 a2 : Int) (r : ((List Wal_Batch) × Int)) (H : mem_Mem_Drop_O K p0_0 l0 p0_2 a1 a2 = some r) : FnSpec Try.prog 25 [pt p0 0,I a1,I a2] [box p0 118 [I p0_0,sv0.sv,I p0_2],(jown sv0 66 4 enc_Wal_Batch 93 6 jlen_Wal_Batch jics_Wal_Batch l0)] (fun v M => ∃ sv2 : JG,v = (I r.2) ∧ M = [box p0 118 [I p0_0,sv2.sv,I p0_2],(jown sv2 66 4 enc_Wal_Batch 93 6 jlen_Wal_Batch jics_Wal_Batch r.1),(jown sv0 66 4 enc_Wal_Batch 93 6 jlen_Wal_Batch jics_Wal_Batch l0)]) := by
 unfold mem_Mem_Drop_O at H
 refine spec_of Try.func25 rfl 10 rfl (Nat.le_of_ble_eq_true rfl) fun F w0 => ?_
 show Ent (St 10 w0 F [(0,pt p0 0),(1,I a1),(2,I a2)] [box p0 118 [I p0_0,sv0.sv,I p0_2],(jown sv0 66 4 enc_Wal_Batch 93 6 jlen_Wal_Batch jics_Wal_Batch l0)]) _
 refine ent_seq (ent_region ?_)
 refine ent_op (ot_box (cs := [I a1]) rfl rfl) rfl rfl rfl ?_
 rintro _ _ ⟨b3,rfl,rfl⟩
 refine ent_op (ot_box (cs := [I a2]) rfl rfl) rfl rfl rfl ?_
 rintro _ _ ⟨b4,rfl,rfl⟩
 refine ent_value (ov_assign rfl) rfl rfl rfl (ent_nil (ent_seq (ent_region (ent_value (ov_move rfl) rfl rfl rfl (ent_value (ov_makeFunc (first := []) (cap := [.tmp 4,.tmp 5]) rfl rfl) rfl rfl rfl ?_)))))
 obtain ⟨x2,h2,H⟩ := Option.bind_eq_some_iff.1 H
 refine ent_pick [2,3,1,0] (by decide) rfl ?_
 refine ent_op (ot_call (Lr := []) (first := []) (cap := []) (xs := [.tmp 7,.tmp 8]) rfl rfl F_call_57 rfl (mem_Mem_cut_O.spec K p0 sv0 b3 b4 p0_0 l0 p0_2 a1 a2 _ h2) rfl) rfl rfl rfl ?_
 rintro _ _ ⟨_,⟨sv3,rfl,rfl⟩,rfl⟩
 refine ent_value (ov_assign rfl) rfl rfl rfl (ent_nil (ent_retc ?_))
 cases H
 refine ent_pick [0,1,2] (by decide) rfl ?_
 exact ret_tmp rfl rfl ⟨sv3,rfl,rfl⟩
theorem mem_Mem_Drop_O.spech (K p0 : Nat) (sv0 : JG) (p0_0 : Int) (l0 : List Wal_Batch) (p0_2 a1 a2 : Int) (r : ((List Wal_Batch) × Int)) (H : mem_Mem_Drop_O K p0_0 l0 p0_2 a1 a2 = some r) : FnSpec Try.prog 25 [pt p0 0,I a1,I a2] [box p0 118 [I p0_0,sv0.sv,I p0_2],(jown sv0 66 4 enc_Wal_Batch 93 6 jlen_Wal_Batch jics_Wal_Batch l0)] (fun v M => ∃ sv2 : Value,v = (I r.2) ∧ M = [box p0 118 [I p0_0,sv2,I p0_2],(hown sv2 66 4 enc_Wal_Batch 93 6 jlen_Wal_Batch jics_Wal_Batch r.1),(jown sv0 66 4 enc_Wal_Batch 93 6 jlen_Wal_Batch jics_Wal_Batch l0)]) := by
 refine FnSpec.hide (mem_Mem_Drop_O.spec K p0 sv0 p0_0 l0 p0_2 a1 a2 r H) ?_
 rintro v M ⟨sv2,rfl,rfl⟩
 exact ⟨_,⟨sv2.sv,rfl,rfl⟩,fun w X h => (h.conv 1 _ (hown sv2.sv 66 4 enc_Wal_Batch 93 6 jlen_Wal_Batch jics_Wal_Batch r.1) rfl fun o s q => ⟨_,rfl,q⟩)⟩

theorem mem_Mem_Has_O.spec (K p0 : Nat) (sv0 : JG) (p0_0 : Int) (l0 : List Wal_Batch) (p0_2 a1 a2 : Int) (r : Bool) (H : mem_Mem_Has_O K p0_0 l0 p0_2 a1 a2 = some r) : FnSpec Try.prog 26 [pt p0 0,I a1,I a2] [box p0 118 [I p0_0,sv0.sv,I p0_2],(jown sv0 66 4 enc_Wal_Batch 93 6 jlen_Wal_Batch jics_Wal_Batch l0)] (fun v M => v = (bool r) ∧ M = [box p0 118 [I p0_0,sv0.sv,I p0_2],(jown sv0 66 4 enc_Wal_Batch 93 6 jlen_Wal_Batch jics_Wal_Batch l0)]) := by
 unfold mem_Mem_Has_O at H
 refine spec_of Try.func26 rfl 13 rfl (Nat.le_of_ble_eq_true rfl) fun F w0 => ?_
 show Ent (St 13 w0 F [(0,pt p0 0),(1,I a1),(2,I a2)] [box p0 118 [I p0_0,sv0.sv,I p0_2],(jown sv0 66 4 enc_Wal_Batch 93 6 jlen_Wal_Batch jics_Wal_Batch l0)]) _
 refine ent_seq (ent_region (ent_value (ov_assign rfl) rfl rfl rfl (ent_nil (ent_seq (ent_region (ent_value (ov_move rfl) rfl rfl rfl (ent_value (ov_move rfl) rfl rfl rfl (ent_value (ov_move rfl) rfl rfl rfl ?_))))))))
 obtain ⟨x2,h2,H⟩ := Option.bind_eq_some_iff.1 H
 refine ent_op (ot_call (Lr := []) (first := []) (cap := []) (xs := [.tmp 7,.tmp 8,.tmp 9]) rfl rfl F_call_24 rfl (mem_Mem_Facts_O.spec K p0 sv0 p0_0 l0 p0_2 a1 a2 _ h2) rfl) rfl rfl rfl ?_
 rintro sv2 _ ⟨_,⟨_,rfl,rfl⟩,rfl⟩
 refine ent_value (ov_len 2 rfl F_slice_46 rfl (isRd_ownx 93)) rfl rfl rfl (ent_value (ov_bin rfl rfl (b_gtr _ _ _)) rfl rfl rfl (ent_value (ov_assign rfl) rfl rfl rfl (ent_nil (ent_retc ?_))))
 cases H
 refine ent_pick [0,1] (by decide) rfl ?_
 exact ret_tmp rfl rfl ⟨rfl,rfl⟩
theorem mem_Mem_Has_O.specg (K p0 : Nat) (sv0 : Value) (p0_0 : Int) (l0 : List Wal_Batch) (p0_2 a1 a2 : Int) (r : Bool) (H : mem_Mem_Has_O K p0_0 l0 p0_2 a1 a2 = some r) : FnSpec Try.prog 26 [pt p0 0,I a1,I a2] [box p0 118 [I p0_0,sv0,I p0_2],(hown sv0 66 4 enc_Wal_Batch 93 6 jlen_Wal_Batch jics_Wal_Batch l0)] (fun v M => v = (bool r) ∧ M = [box p0 118 [I p0_0,sv0,I p0_2],(hown sv0 66 4 enc_Wal_Batch 93 6 jlen_Wal_Batch jics_Wal_Batch l0)]) := by
 intro F w hs
 obtain ⟨sv0,rfl,hs⟩ := Sat.unh 1 rfl hs
 refine FnSpec.hide (mem_Mem_Has_O.spec K p0 sv0 p0_0 l0 p0_2 a1 a2 r H) ?_ F w hs
 rintro v M ⟨rfl,rfl⟩
 exact ⟨_,⟨rfl,rfl⟩,fun w X h => (h.conv 1 _ (hown sv0.sv 66 4 enc_Wal_Batch 93 6 jlen_Wal_Batch jics_Wal_Batch l0) rfl fun o s q => ⟨_,rfl,q⟩)⟩

theorem ossuarylaw22_alive.spec (K : Nat) (r : Bool) (H : ossuarylaw22_alive K = some r) : FnSpec Try.prog 20 [] [] (fun v M => v = (bool r) ∧ M = []) := by
 unfold ossuarylaw22_alive at H
 refine spec_of Try.func20 rfl 59 rfl (Nat.le_of_ble_eq_true rfl) fun F w0 => ?_
 show Ent (St 59 w0 F [] []) _
 refine ent_seq (ent_region (ent_value (ov_assign rfl) rfl rfl rfl (ent_nil (ent_seq (ent_region ?_)))))
 obtain ⟨x8,h8,H⟩ := thn_elim H
 refine ent_op (ot_call (Lr := []) (first := []) (cap := []) (xs := [.const (I 1)]) rfl rfl F_call_21 rfl (mem_New.spec _ h8) rfl) rfl rfl rfl ?_
 rintro _ _ ⟨_,⟨b2,rfl,rfl⟩,rfl⟩
 refine ent_value (ov_move rfl) rfl rfl rfl (ent_value (ov_extract rfl rfl) rfl rfl rfl (ent_value (ov_extract rfl rfl) rfl rfl rfl (ent_value (ov_assign rfl) rfl rfl rfl (ent_value (ov_assign rfl) rfl rfl rfl (ent_nil (ent_seq (ent_region (ent_value (ov_move rfl) rfl rfl rfl (ent_value (ov_build (is := [0]) (xs := [.const (I 3)]) (vs := [I 3]) rfl rfl (build_struct (cs := [I 3,S0,S0,S0,S0]) F_zero_42 F_places_42 rfl)) rfl rfl rfl ?_)))))))))
 refine ent_value (ov_build (is := [0]) (xs := [.tmp 11]) (vs := [agg #[I 3,S0,S0,S0,S0]]) rfl rfl (build_struct (cs := [I 3,S0,S0,S0,S0,I 0]) F_zero_93 F_places_93 (by simp [Instr.fill,cells_int,cells_bool,cells_str,cells_func,cells_slice,cells_ptr,cells_nilFunc,cells_agg,]))) rfl rfl rfl ?_
 refine ent_value (ov_build (is := [0]) (xs := [.const (I 5)]) (vs := [I 5]) rfl rfl (build_struct (cs := [I 5,S0,S0,S0,S0]) F_zero_42 F_places_42 rfl)) rfl rfl rfl ?_
 refine ent_value (ov_build (is := [0]) (xs := [.tmp 13]) (vs := [agg #[I 5,S0,S0,S0,S0]]) rfl rfl (build_struct (cs := [I 5,S0,S0,S0,S0,I 0]) F_zero_93 F_places_93 (by simp [Instr.fill,cells_int,cells_bool,cells_str,cells_func,cells_slice,cells_ptr,cells_nilFunc,cells_agg,]))) rfl rfl rfl ?_
 refine ent_op (ot_buildSlice (sz := 5) (xs := [.tmp 12,.tmp 14]) (cs := fl enc_Api_Fact [(⟨(⟨3,nB,nB,nB,nB⟩ : Api_Key),0⟩ : Api_Fact),(⟨(⟨5,nB,nB,nB,nB⟩ : Api_Key),0⟩ : Api_Fact)]) rfl rfl F_slice_46 F_size_93 F_zero_93 rfl rfl (all_size rfl) rfl (by decide)) rfl rfl rfl ?_
 rintro sv5 _ rfl
 refine ent_value (ov_sl 0 rfl (isRd_ownx 93) fun hc0_ => (ov_build (is := [0,3]) (xs := [.const (I 1),.tmp 15]) (vs := [I 1,sv5]) rfl rfl (build_struct (cs := [I 1,I 0,I 0,sv5]) F_zero_68 F_places_68 (by simp [Instr.fill,cells_int,cells_bool,cells_str,cells_func,cells_slice,cells_ptr,cells_nilFunc,cells_agg,hc0_])))) rfl rfl rfl ?_
 obtain ⟨x9,h9,H⟩ := thn_elim H
 refine ent_op (ot_call_same (Lr := [box b2 118 [I x8.1,L0,I x8.2.1]]) [0,1] [0,1] (first := []) (cap := []) (xs := [.tmp 16]) rfl rfl F_call_23 rfl (ossuarylaw17_Own_O.spec sv5 1 0 0 [(⟨(⟨3,nB,nB,nB,nB⟩ : Api_Key),0⟩ : Api_Fact),(⟨(⟨5,nB,nB,nB,nB⟩ : Api_Key),0⟩ : Api_Fact)] _ h9) (by decide) rfl (by decide) rfl) rfl rfl rfl ?_
 rintro _ _ ⟨rfl,rfl⟩
 obtain ⟨x10,h10,H⟩ := Option.bind_eq_some_iff.1 H
 refine ent_pick [1,0] (by decide) rfl ?_
 refine ent_op (ot_call (Lr := []) (first := []) (cap := []) (xs := [.tmp 10,.tmp 17]) rfl rfl F_call_22 rfl (mem_Mem_Add_NO.spec K b2 sv5 x8.1 x8.2.1 x9.1 x9.2.1 x9.2.2 [(⟨(⟨3,nB,nB,nB,nB⟩ : Api_Key),0⟩ : Api_Fact),(⟨(⟨5,nB,nB,nB,nB⟩ : Api_Key),0⟩ : Api_Fact)] _ h10) rfl) rfl rfl rfl ?_
 rintro _ _ ⟨_,⟨sv6,rfl,rfl⟩,rfl⟩
 refine ent_value (ov_assign rfl) rfl rfl rfl (ent_nil (ent_seq (ent_region (ent_value (ov_move rfl) rfl rfl rfl ?_))))
 obtain ⟨x11,h11,H⟩ := Option.bind_eq_some_iff.1 H
 refine ent_op (ot_call (Lr := [own sv5 93 6 [(⟨(⟨3,nB,nB,nB,nB⟩ : Api_Key),0⟩ : Api_Fact),(⟨(⟨5,nB,nB,nB,nB⟩ : Api_Key),0⟩ : Api_Fact)].length (fl enc_Api_Fact [(⟨(⟨3,nB,nB,nB,nB⟩ : Api_Key),0⟩ : Api_Fact),(⟨(⟨5,nB,nB,nB,nB⟩ : Api_Key),0⟩ : Api_Fact)])]) (first := []) (cap := []) (xs := [.tmp 19]) rfl rfl F_call_52 rfl (mem_Mem_Hours_O.spec K b2 sv6 x8.1 x10.2.1 x10.2.2 _ h11) rfl) rfl rfl rfl ?_
 rintro sv7 _ ⟨_,⟨_,rfl,rfl⟩,rfl⟩
 refine ent_value (ov_assign rfl) rfl rfl rfl (ent_nil (ent_seq (ent_region (ent_value (ov_move rfl) rfl rfl rfl ?_))))
 obtain ⟨x12,h12,H⟩ := Option.bind_eq_some_iff.1 H
 refine ent_op (ot_call (Lr := [own sv7 2 1 x11.length (fl (eI .i64) x11),own sv5 93 6 [(⟨(⟨3,nB,nB,nB,nB⟩ : Api_Key),0⟩ : Api_Fact),(⟨(⟨5,nB,nB,nB,nB⟩ : Api_Key),0⟩ : Api_Fact)].length (fl enc_Api_Fact [(⟨(⟨3,nB,nB,nB,nB⟩ : Api_Key),0⟩ : Api_Fact),(⟨(⟨5,nB,nB,nB,nB⟩ : Api_Key),0⟩ : Api_Fact)])]) (first := []) (cap := []) (xs := [.tmp 21,.const (I 0),.const (I 4)]) rfl rfl F_call_25 rfl (mem_Mem_Drop_O.spec K b2 sv6 x8.1 x10.2.1 x10.2.2 0 4 _ h12) rfl) rfl rfl rfl ?_
 rintro _ _ ⟨_,⟨sv8,rfl,rfl⟩,rfl⟩
 refine ent_value (ov_assign rfl) rfl rfl rfl (ent_nil (ent_seq (ent_region (ent_value (ov_move rfl) rfl rfl rfl (ent_value (ov_bin rfl rfl (b_eql _ _ _)) rfl rfl rfl (ent_value (ov_move rfl) rfl rfl rfl ?_))))))
 refine htF H (fun c10 H => ?_) fun c10 H => ?_
 ·refine ent_off rfl rfl rfl (eq_f c10) rfl rfl ?_
  refine ent_off rfl rfl rfl (eq_f c10) rfl rfl ?_
  refine ent_value (ov_pick rfl rfl rfl (pick_f (eq_f c10))) rfl rfl rfl (ent_value (ov_move rfl) rfl rfl rfl ?_)
  refine ent_off rfl rfl rfl rfl rfl rfl ?_
  refine ent_off rfl rfl rfl rfl rfl rfl ?_
  refine ent_off rfl rfl rfl rfl rfl rfl ?_
  refine ent_value (ov_pick rfl rfl rfl rfl) rfl rfl rfl (ent_value (ov_move rfl) rfl rfl rfl ?_)
  refine ent_off rfl rfl rfl rfl rfl rfl ?_
  refine ent_off rfl rfl rfl rfl rfl rfl ?_
  refine ent_off rfl rfl rfl rfl rfl rfl ?_
  refine ent_off rfl rfl rfl rfl rfl rfl ?_
  refine ent_value (ov_pick rfl rfl rfl rfl) rfl rfl rfl (ent_value (ov_move rfl) rfl rfl rfl ?_)
  refine ent_off rfl rfl rfl rfl rfl rfl ?_
  refine ent_off rfl rfl rfl rfl rfl rfl ?_
  refine ent_off rfl rfl rfl rfl rfl rfl ?_
  refine ent_off rfl rfl rfl rfl rfl rfl ?_
  refine ent_value (ov_pick rfl rfl rfl rfl) rfl rfl rfl (ent_value (ov_move rfl) rfl rfl rfl ?_)
  refine ent_off rfl rfl rfl rfl rfl rfl ?_
  refine ent_off rfl rfl rfl rfl rfl rfl ?_
  refine ent_value (ov_pick rfl rfl rfl rfl) rfl rfl rfl (ent_value (ov_move rfl) rfl rfl rfl ?_)
  refine ent_off rfl rfl rfl rfl rfl rfl ?_
  refine ent_off rfl rfl rfl rfl rfl rfl ?_
  refine ent_value (ov_pick rfl rfl rfl rfl) rfl rfl rfl (ent_value (ov_move rfl) rfl rfl rfl ?_)
  refine ent_off rfl rfl rfl rfl rfl rfl ?_
  refine ent_off rfl rfl rfl rfl rfl rfl ?_
  refine ent_off rfl rfl rfl rfl rfl rfl ?_
  refine ent_value (ov_pick rfl rfl rfl rfl) rfl rfl rfl (ent_value (ov_assign rfl) rfl rfl rfl (ent_nil (ent_retc ?_)))
  cases H
  refine ent_pick [] (by decide) rfl ?_
  exact ret_tmp rfl rfl ⟨rfl,rfl⟩
 refine ent_value_on (ov_move rfl) rfl rfl rfl (eq_t c10) rfl rfl ?_
 refine ent_value_on (ov_bin rfl rfl (b_eql _ _ _)) rfl rfl rfl (eq_t c10) rfl rfl ?_
 refine ent_value (ov_pick rfl rfl rfl (pick_t (eq_t c10))) rfl rfl rfl (ent_value (ov_move rfl) rfl rfl rfl ?_)
 refine htF H (fun c11 H => ?_) fun c11 H => ?_
 ·refine ent_off rfl rfl rfl (eq_f c11) rfl rfl ?_
  refine ent_off rfl rfl rfl (eq_f c11) rfl rfl ?_
  refine ent_off rfl rfl rfl (eq_f c11) rfl rfl ?_
  refine ent_value (ov_pick rfl rfl rfl (pick_f (eq_f c11))) rfl rfl rfl (ent_value (ov_move rfl) rfl rfl rfl ?_)
  refine ent_off rfl rfl rfl rfl rfl rfl ?_
  refine ent_off rfl rfl rfl rfl rfl rfl ?_
  refine ent_off rfl rfl rfl rfl rfl rfl ?_
  refine ent_off rfl rfl rfl rfl rfl rfl ?_
  refine ent_value (ov_pick rfl rfl rfl rfl) rfl rfl rfl (ent_value (ov_move rfl) rfl rfl rfl ?_)
  refine ent_off rfl rfl rfl rfl rfl rfl ?_
  refine ent_off rfl rfl rfl rfl rfl rfl ?_
  refine ent_off rfl rfl rfl rfl rfl rfl ?_
  refine ent_off rfl rfl rfl rfl rfl rfl ?_
  refine ent_value (ov_pick rfl rfl rfl rfl) rfl rfl rfl (ent_value (ov_move rfl) rfl rfl rfl ?_)
  refine ent_off rfl rfl rfl rfl rfl rfl ?_
  refine ent_off rfl rfl rfl rfl rfl rfl ?_
  refine ent_value (ov_pick rfl rfl rfl rfl) rfl rfl rfl (ent_value (ov_move rfl) rfl rfl rfl ?_)
  refine ent_off rfl rfl rfl rfl rfl rfl ?_
  refine ent_off rfl rfl rfl rfl rfl rfl ?_
  refine ent_value (ov_pick rfl rfl rfl rfl) rfl rfl rfl (ent_value (ov_move rfl) rfl rfl rfl ?_)
  refine ent_off rfl rfl rfl rfl rfl rfl ?_
  refine ent_off rfl rfl rfl rfl rfl rfl ?_
  refine ent_off rfl rfl rfl rfl rfl rfl ?_
  refine ent_value (ov_pick rfl rfl rfl rfl) rfl rfl rfl (ent_value (ov_assign rfl) rfl rfl rfl (ent_nil (ent_retc ?_)))
  cases H
  refine ent_pick [] (by decide) rfl ?_
  exact ret_tmp rfl rfl ⟨rfl,rfl⟩
 refine ent_value_on (ov_move rfl) rfl rfl rfl (eq_t c11) rfl rfl ?_
 refine ent_value_on (ov_len 3 rfl F_slice_23 rfl (isRd_ownx 2)) rfl rfl rfl (eq_t c11) rfl rfl ?_
 refine ent_value_on (ov_bin rfl rfl (b_eql _ _ _)) rfl rfl rfl (eq_t c11) rfl rfl ?_
 refine ent_value (ov_pick rfl rfl rfl (pick_t (eq_t c11))) rfl rfl rfl (ent_value (ov_move rfl) rfl rfl rfl ?_)
 refine htF H (fun c12 H => ?_) fun c12 H => ?_
 ·refine ent_off rfl rfl rfl (eq_f c12) rfl rfl ?_
  refine ent_off rfl rfl rfl (eq_f c12) rfl rfl ?_
  refine ent_off rfl rfl rfl (eq_f c12) rfl rfl ?_
  refine ent_off rfl rfl rfl (eq_f c12) rfl rfl ?_
  refine ent_value (ov_pick rfl rfl rfl (pick_f (eq_f c12))) rfl rfl rfl (ent_value (ov_move rfl) rfl rfl rfl ?_)
  refine ent_off rfl rfl rfl rfl rfl rfl ?_
  refine ent_off rfl rfl rfl rfl rfl rfl ?_
  refine ent_off rfl rfl rfl rfl rfl rfl ?_
  refine ent_off rfl rfl rfl rfl rfl rfl ?_
  refine ent_value (ov_pick rfl rfl rfl rfl) rfl rfl rfl (ent_value (ov_move rfl) rfl rfl rfl ?_)
  refine ent_off rfl rfl rfl rfl rfl rfl ?_
  refine ent_off rfl rfl rfl rfl rfl rfl ?_
  refine ent_value (ov_pick rfl rfl rfl rfl) rfl rfl rfl (ent_value (ov_move rfl) rfl rfl rfl ?_)
  refine ent_off rfl rfl rfl rfl rfl rfl ?_
  refine ent_off rfl rfl rfl rfl rfl rfl ?_
  refine ent_value (ov_pick rfl rfl rfl rfl) rfl rfl rfl (ent_value (ov_move rfl) rfl rfl rfl ?_)
  refine ent_off rfl rfl rfl rfl rfl rfl ?_
  refine ent_off rfl rfl rfl rfl rfl rfl ?_
  refine ent_off rfl rfl rfl rfl rfl rfl ?_
  refine ent_value (ov_pick rfl rfl rfl rfl) rfl rfl rfl (ent_value (ov_assign rfl) rfl rfl rfl (ent_nil (ent_retc ?_)))
  cases H
  refine ent_pick [] (by decide) rfl ?_
  exact ret_tmp rfl rfl ⟨rfl,rfl⟩
 refine ent_value_on (ov_move rfl) rfl rfl rfl (eq_t c12) rfl rfl ?_
 obtain ⟨c13,H⟩ := gdT H
 refine ent_value_on (ov_indexAddr (sz := 0) 3 rfl rfl F_slice_23 F_size_2 rfl (isRd_ownx 2) (by decide) c13) rfl rfl rfl (eq_t c12) rfl rfl ?_
 refine ent_value_on (ov_load (v := (I (x11.getD ((0 : Int).toNat) 0))) rfl F_agg_2 (reads_rd (i := 3) rfl (isRd_ownx 2) (by simp) (fl_read0 (eI_len _) (ix_lt (by decide) c13) rfl))) rfl rfl rfl (eq_t c12) rfl rfl ?_
 refine ent_value_on (ov_bin rfl rfl (b_eql _ _ _)) rfl rfl rfl (eq_t c12) rfl rfl ?_
 refine ent_value (ov_pick rfl rfl rfl (pick_t (eq_t c12))) rfl rfl rfl (ent_value (ov_move rfl) rfl rfl rfl ?_)
 refine htF H (fun c14 H => ?_) fun c14 H => ?_
 ·refine ent_off rfl rfl rfl (eq_f c14) rfl rfl ?_
  refine ent_off rfl rfl rfl (eq_f c14) rfl rfl ?_
  refine ent_off rfl rfl rfl (eq_f c14) rfl rfl ?_
  refine ent_off rfl rfl rfl (eq_f c14) rfl rfl ?_
  refine ent_value (ov_pick rfl rfl rfl (pick_f (eq_f c14))) rfl rfl rfl (ent_value (ov_move rfl) rfl rfl rfl ?_)
  refine ent_off rfl rfl rfl rfl rfl rfl ?_
  refine ent_off rfl rfl rfl rfl rfl rfl ?_
  refine ent_value (ov_pick rfl rfl rfl rfl) rfl rfl rfl (ent_value (ov_move rfl) rfl rfl rfl ?_)
  refine ent_off rfl rfl rfl rfl rfl rfl ?_
  refine ent_off rfl rfl rfl rfl rfl rfl ?_
  refine ent_value (ov_pick rfl rfl rfl rfl) rfl rfl rfl (ent_value (ov_move rfl) rfl rfl rfl ?_)
  refine ent_off rfl rfl rfl rfl rfl rfl ?_
  refine ent_off rfl rfl rfl rfl rfl rfl ?_
  refine ent_off rfl rfl rfl rfl rfl rfl ?_
  refine ent_value (ov_pick rfl rfl rfl rfl) rfl rfl rfl (ent_value (ov_assign rfl) rfl rfl rfl (ent_nil (ent_retc ?_)))
  cases H
  refine ent_pick [] (by decide) rfl ?_
  exact ret_tmp rfl rfl ⟨rfl,rfl⟩
 refine ent_value_on (ov_move rfl) rfl rfl rfl (eq_t c14) rfl rfl ?_
 obtain ⟨c15,H⟩ := gdT H
 refine ent_value_on (ov_indexAddr (sz := 0) 3 rfl rfl F_slice_23 F_size_2 rfl (isRd_ownx 2) (by decide) c15) rfl rfl rfl (eq_t c14) rfl rfl ?_
 refine ent_value_on (ov_load (v := (I (x11.getD ((1 : Int).toNat) 0))) rfl F_agg_2 (reads_rd (i := 3) rfl (isRd_ownx 2) (by simp) (fl_read0 (eI_len _) (ix_lt (by decide) c15) rfl))) rfl rfl rfl (eq_t c14) rfl rfl ?_
 refine ent_value_on (ov_bin rfl rfl (b_eql _ _ _)) rfl rfl rfl (eq_t c14) rfl rfl ?_
 refine ent_value (ov_pick rfl rfl rfl (pick_t (eq_t c14))) rfl rfl rfl (ent_value (ov_move rfl) rfl rfl rfl ?_)
 refine htF H (fun c16 H => ?_) fun c16 H => ?_
 ·refine ent_off rfl rfl rfl (eq_f c16) rfl rfl ?_
  refine ent_off rfl rfl rfl (eq_f c16) rfl rfl ?_
  refine ent_value (ov_pick rfl rfl rfl (pick_f (eq_f c16))) rfl rfl rfl (ent_value (ov_move rfl) rfl rfl rfl ?_)
  refine ent_off rfl rfl rfl rfl rfl rfl ?_
  refine ent_off rfl rfl rfl rfl rfl rfl ?_
  refine ent_value (ov_pick rfl rfl rfl rfl) rfl rfl rfl (ent_value (ov_move rfl) rfl rfl rfl ?_)
  refine ent_off rfl rfl rfl rfl rfl rfl ?_
  refine ent_off rfl rfl rfl rfl rfl rfl ?_
  refine ent_off rfl rfl rfl rfl rfl rfl ?_
  refine ent_value (ov_pick rfl rfl rfl rfl) rfl rfl rfl (ent_value (ov_assign rfl) rfl rfl rfl (ent_nil (ent_retc ?_)))
  cases H
  refine ent_pick [] (by decide) rfl ?_
  exact ret_tmp rfl rfl ⟨rfl,rfl⟩
 refine ent_value_on (ov_move rfl) rfl rfl rfl (eq_t c16) rfl rfl ?_
 refine ent_value_on (ov_bin rfl rfl (b_eql _ _ _)) rfl rfl rfl (eq_t c16) rfl rfl ?_
 refine ent_value (ov_pick rfl rfl rfl (pick_t (eq_t c16))) rfl rfl rfl (ent_value (ov_move rfl) rfl rfl rfl ?_)
 refine htF H (fun c17 H => ?_) fun c17 H => ?_
 ·refine ent_off rfl rfl rfl (eq_f c17) rfl rfl ?_
  refine ent_off rfl rfl rfl (eq_f c17) rfl rfl ?_
  refine ent_value (ov_pick rfl rfl rfl (pick_f (eq_f c17))) rfl rfl rfl (ent_value (ov_move rfl) rfl rfl rfl ?_)
  refine ent_off rfl rfl rfl rfl rfl rfl ?_
  refine ent_off rfl rfl rfl rfl rfl rfl ?_
  refine ent_off rfl rfl rfl rfl rfl rfl ?_
  refine ent_value (ov_pick rfl rfl rfl rfl) rfl rfl rfl (ent_value (ov_assign rfl) rfl rfl rfl (ent_nil (ent_retc ?_)))
  cases H
  refine ent_pick [] (by decide) rfl ?_
  exact ret_tmp rfl rfl ⟨rfl,rfl⟩
 refine ent_value_on (ov_move rfl) rfl rfl rfl (eq_t c17) rfl rfl ?_
 obtain ⟨x13,h13,H⟩ := Option.bind_eq_some_iff.1 H
 refine ent_op_on (ot_call_same (Lr := [(jown sv6 66 4 enc_Wal_Batch 93 6 jlen_Wal_Batch jics_Wal_Batch x10.2.1),own sv7 2 1 x11.length (fl (eI .i64) x11),own sv5 93 6 [(⟨(⟨3,nB,nB,nB,nB⟩ : Api_Key),0⟩ : Api_Fact),(⟨(⟨5,nB,nB,nB,nB⟩ : Api_Key),0⟩ : Api_Fact)].length (fl enc_Api_Fact [(⟨(⟨3,nB,nB,nB,nB⟩ : Api_Key),0⟩ : Api_Fact),(⟨(⟨5,nB,nB,nB,nB⟩ : Api_Key),0⟩ : Api_Fact)])]) [0,1,2,3,4] [0,1,2,3,4] (first := []) (cap := []) (xs := [.tmp 51,.const (I 5),.const (I 6)]) rfl rfl F_call_26 rfl (mem_Mem_Has_O.spec K b2 sv8 x8.1 x12.1 x10.2.2 5 6 _ h13) (by decide) rfl (by decide) rfl) rfl rfl rfl (eq_t c17) rfl rfl ?_
 rintro _ _ ⟨rfl,rfl⟩
 refine ent_value (ov_pick rfl rfl rfl (pick_t (eq_t c17))) rfl rfl rfl (ent_value (ov_move rfl) rfl rfl rfl ?_)
 refine htF H (fun c18 H => ?_) fun c18 H => ?_
 ·refine ent_off rfl rfl rfl (Bool.eq_false_iff.2 c18) rfl rfl ?_
  refine ent_off rfl rfl rfl (Bool.eq_false_iff.2 c18) rfl rfl ?_
  refine ent_off rfl rfl rfl (Bool.eq_false_iff.2 c18) rfl rfl ?_
  refine ent_value (ov_pick rfl rfl rfl (pick_f (Bool.eq_false_iff.2 c18))) rfl rfl rfl (ent_value (ov_assign rfl) rfl rfl rfl (ent_nil (ent_retc ?_)))
  cases H
  refine ent_pick [] (by decide) rfl ?_
  exact ret_tmp rfl rfl ⟨rfl,rfl⟩
 refine ent_value_on (ov_move rfl) rfl rfl rfl c18 rfl rfl ?_
 obtain ⟨x14,h14,H⟩ := Option.bind_eq_some_iff.1 H
 refine ent_op_on (ot_call_same (Lr := [(jown sv6 66 4 enc_Wal_Batch 93 6 jlen_Wal_Batch jics_Wal_Batch x10.2.1),own sv7 2 1 x11.length (fl (eI .i64) x11),own sv5 93 6 [(⟨(⟨3,nB,nB,nB,nB⟩ : Api_Key),0⟩ : Api_Fact),(⟨(⟨5,nB,nB,nB,nB⟩ : Api_Key),0⟩ : Api_Fact)].length (fl enc_Api_Fact [(⟨(⟨3,nB,nB,nB,nB⟩ : Api_Key),0⟩ : Api_Fact),(⟨(⟨5,nB,nB,nB,nB⟩ : Api_Key),0⟩ : Api_Fact)])]) [0,1,2,3,4] [0,1,2,3,4] (first := []) (cap := []) (xs := [.tmp 55,.const (I 3),.const (I 4)]) rfl rfl F_call_26 rfl (mem_Mem_Has_O.spec K b2 sv8 x8.1 x12.1 x10.2.2 3 4 _ h14) (by decide) rfl (by decide) rfl) rfl rfl rfl c18 rfl rfl ?_
 rintro _ _ ⟨rfl,rfl⟩
 refine ent_value_on (ov_un rfl (u_not _)) rfl rfl rfl c18 rfl rfl ?_
 refine ent_value (ov_pick rfl rfl rfl (pick_t c18)) rfl rfl rfl (ent_value (ov_assign rfl) rfl rfl rfl (ent_nil (ent_retc ?_)))
 cases H
 refine ent_pick [] (by decide) rfl ?_
 exact ret_tmp rfl rfl ⟨rfl,rfl⟩

theorem mem_New_2.spec (r : (Int × Int × Int)) (H : mem_New_2 = r) : FnSpec Try.prog 21 [I 2] [] (fun v M => ∃ b2 : Nat,v = (tU #[pt b2 0,I r.2.2]) ∧ M = [box b2 118 [I r.1,L0,I r.2.1]]) := by
 unfold mem_New_2 at H
 refine spec_of Try.func21 rfl 13 rfl (Nat.le_of_ble_eq_true rfl) fun F w0 => ?_
 show Ent (St 13 w0 F [(0,I 2)] []) _
 refine ent_seq (ent_region (ent_value (ov_assign rfl) rfl rfl rfl (ent_value (ov_assign rfl) rfl rfl rfl (ent_nil (ent_seq (ent_seq (ent_region (ent_value (ov_move rfl) rfl rfl rfl (ent_value (ov_bin rfl rfl (b_lss _ _ _)) rfl rfl rfl (ent_value (ov_move rfl) rfl rfl rfl ?_))))))))))
 refine ent_value_on (ov_move rfl) rfl rfl rfl rfl rfl rfl ?_
 refine ent_value_on (ov_bin rfl rfl (b_gtr _ _ _)) rfl rfl rfl rfl rfl rfl ?_
 refine ent_value (ov_pick rfl rfl rfl rfl) rfl rfl rfl (ent_nil (ent_cond_false rfl rfl (ent_skip (ent_seq (ent_region (ent_value (ov_move rfl) rfl rfl rfl (ent_value (ov_build (is := [0]) (xs := [.tmp 10]) (vs := [I 2]) rfl rfl (build_struct (cs := [I 2,L0,I 0]) F_zero_118 F_places_118 rfl)) rfl rfl rfl ?_)))))))
 refine ent_op (ot_box (cs := [I 2,L0,I 0]) rfl rfl) rfl rfl rfl ?_
 rintro _ _ ⟨b3,rfl,rfl⟩
 refine ent_value (ov_assign rfl) rfl rfl rfl (ent_value (ov_assign rfl) rfl rfl rfl (ent_nil (ent_retc ?_)))
 cases H
 refine ent_pick [0] (by decide) rfl ?_
 exact ret_mem (vs := [pt b3 0,I 0]) rfl ⟨rfl,⟨rfl,trivial⟩⟩ _ rfl ⟨_,rfl,rfl⟩

theorem ossuarylaw17_Own_R.spec (sv0 : Value) (A0 : HP) (a0_0 a0_1 a0_2 : Int) (l0 : List Api_Fact) (hA0 : IsRd A0 sv0 l0.length 6 (fl enc_Api_Fact l0)) (r : (Int × Int × Int)) (H : ossuarylaw17_Own_R a0_0 a0_1 a0_2 l0 = r) : FnSpec Try.prog 23 [agg #[I a0_0,I a0_1,I a0_2,sv0]] [A0] (fun v M => v = (agg #[I r.1,I r.2.1,I r.2.2,sv0]) ∧ M = [A0]) := by
 unfold ossuarylaw17_Own_R at H
 refine spec_of Try.func23 rfl 12 rfl (Nat.le_of_ble_eq_true rfl) fun F w0 => ?_
 show Ent (St 12 w0 F [(0,agg #[I a0_0,I a0_1,I a0_2,sv0])] [A0]) _
 refine ent_seq (ent_region ?_)
 refine ent_op (ot_box (cs := [I a0_0,I a0_1,I a0_2,sv0]) rfl rfl) rfl rfl rfl ?_
 rintro _ _ ⟨b3,rfl,rfl⟩
 refine ent_op (ot_alloc F_zero_66) rfl rfl rfl ?_
 rintro _ _ ⟨b4,rfl,rfl⟩
 refine ent_nil (ent_seq (ent_region (ent_value (ov_fieldAddr (sz := 0) (o := 0) rfl F_field_68_0 F_size_2) rfl rfl rfl (ent_value (ov_load (v := (I a0_0)) rfl F_agg_2 (reads_box1 (i := 1) rfl rfl)) rfl rfl rfl (ent_value (ov_fieldAddr (sz := 0) (o := 0) rfl F_field_68_1 F_size_2) rfl rfl rfl (ent_value (ov_load (v := (I a0_1)) rfl F_agg_2 (reads_box1 (i := 1) rfl rfl)) rfl rfl rfl (ent_value (ov_fieldAddr (sz := 0) (o := 0) rfl F_field_68_2 F_size_2) rfl rfl rfl (ent_value (ov_load (v := (I a0_2)) rfl F_agg_2 (reads_box1 (i := 1) rfl rfl)) rfl rfl rfl (ent_value (ov_fieldAddr (sz := 0) (o := 0) rfl F_field_68_3 F_size_46) rfl rfl rfl (ent_value (ov_load (v := sv0) rfl F_agg_46 (reads_box1 (i := 1) rfl rfl)) rfl rfl rfl ?_))))))))))
 refine ent_value (ov_sl 2 rfl hA0 fun hc0_ => (ov_build (is := [0,1,2,3]) (xs := [.tmp 4,.tmp 6,.tmp 8,.tmp 10]) (vs := [I a0_0,I a0_1,I a0_2,sv0]) rfl rfl (build_struct (cs := [I a0_0,I a0_1,I a0_2,sv0]) F_zero_66 F_places_66 (by simp [Instr.fill,cells_int,cells_bool,cells_str,cells_func,cells_slice,cells_ptr,cells_nilFunc,cells_agg,hc0_])))) rfl rfl rfl ?_
 refine ent_op0 (ot_storeG (cs := [I 0,I 0,I 0,L0]) (cs' := [I a0_0,I a0_1,I a0_2,sv0]) (us := [I a0_0,I a0_1,I a0_2,sv0]) (L' := [box b4 66 [I a0_0,I a0_1,I a0_2,sv0],box b3 68 [I a0_0,I a0_1,I a0_2,sv0],A0]) 0 rfl rfl rfl (one_cons rfl (one_cons rfl (one_cons rfl (one_sl 2 rfl hA0 one_nil)))) F_size_66 rfl rfl (by simp) rfl) rfl rfl ?_
 rintro _ _ rfl
 refine ent_nil (ent_retc ?_)
 subst H
 exact ret_memp [2] (by decide) rfl (vs := [agg #[I a0_0,I a0_1,I a0_2,sv0]]) rfl ⟨⟨_,[I a0_0,I a0_1,I a0_2,sv0],rfl,reads_boxW (i := 0) rfl,.inl ⟨F_agg_66,F_size_66,rfl⟩⟩,trivial⟩ _ rfl ⟨rfl,rfl⟩

theorem wal_Right_R.spec (K : Nat) (sv0 : Value) (A0 : HP) (a0_0 a0_1 a0_2 : Int) (l0 : List Api_Fact) (a1 : Int) (hA0 : IsRd A0 sv0 l0.length 6 (fl enc_Api_Fact l0)) (r : Bool) (H : wal_Right_R K a0_0 a0_1 a0_2 l0 a1 = some r) : FnSpec Try.prog 53 [agg #[I a0_0,I a0_1,I a0_2,sv0],I a1] [A0] (fun v M => v = (bool r) ∧ M = [A0]) := by
 unfold wal_Right_R at H
 refine spec_of Try.func53 rfl 28 rfl (Nat.le_of_ble_eq_true rfl) fun F w0 => ?_
 show Ent (St 28 w0 F [(0,agg #[I a0_0,I a0_1,I a0_2,sv0]),(1,I a1)] [A0]) _
 refine ent_seq (ent_region ?_)
 refine ent_op (ot_box (cs := [I a0_0,I a0_1,I a0_2,sv0]) rfl rfl) rfl rfl rfl ?_
 rintro _ _ ⟨b2,rfl,rfl⟩
 refine ent_value (ov_assign rfl) rfl rfl rfl (ent_nil (ent_seq (ent_region (ent_value (ov_fieldAddr (sz := 0) (o := 0) rfl F_field_66_3 F_size_46) rfl rfl rfl (ent_value (ov_load (v := sv0) rfl F_agg_46 (reads_box1 (i := 0) rfl rfl)) rfl rfl rfl (ent_value (ov_move rfl) rfl rfl rfl ?_))))))
 obtain ⟨x3,h3,H⟩ := Option.bind_eq_some_iff.1 H
 refine ent_op (ot_call_same (Lr := [box b2 66 [I a0_0,I a0_1,I a0_2,sv0]]) [1,0] [1,0] (first := []) (cap := []) (xs := [.tmp 9,.tmp 10]) rfl rfl F_call_83 rfl (fact_All_R.spec K sv0 A0 l0 a1 hA0 _ h3) (by decide) rfl (by decide) rfl) rfl rfl rfl ?_
 rintro _ _ ⟨rfl,rfl⟩
 refine ent_value (ov_move rfl) rfl rfl rfl (ent_value (ov_extract rfl rfl) rfl rfl rfl (ent_value (ov_extract rfl rfl) rfl rfl rfl (ent_value (ov_assign rfl) rfl rfl rfl (ent_value (ov_assign rfl) rfl rfl rfl (ent_nil (ent_seq (ent_region (ent_value (ov_move rfl) rfl rfl rfl (ent_value (ov_bin rfl rfl (b_eql _ _ _)) rfl rfl rfl (ent_value (ov_move rfl) rfl rfl rfl ?_))))))))))
 refine htF H (fun c2 H => ?_) fun c2 H => ?_
 ·refine ent_off rfl rfl rfl (eq_f c2) rfl rfl ?_
  refine ent_off rfl rfl rfl (eq_f c2) rfl rfl ?_
  refine ent_off rfl rfl rfl (eq_f c2) rfl rfl ?_
  refine ent_off rfl rfl rfl (eq_f c2) rfl rfl ?_
  refine ent_off rfl rfl rfl (eq_f c2) rfl rfl ?_
  refine ent_off rfl rfl rfl (eq_f c2) rfl rfl ?_
  refine ent_off rfl rfl rfl (eq_f c2) rfl rfl ?_
  refine ent_off rfl rfl rfl (eq_f c2) rfl rfl ?_
  refine ent_off rfl rfl rfl (eq_f c2) rfl rfl ?_
  refine ent_off rfl rfl rfl (eq_f c2) rfl rfl ?_
  refine ent_value (ov_pick rfl rfl rfl (pick_f (eq_f c2))) rfl rfl rfl (ent_value (ov_assign rfl) rfl rfl rfl (ent_nil (ent_retc ?_)))
  cases H
  refine ent_pick [1] (by decide) rfl ?_
  exact ret_tmp rfl rfl ⟨rfl,rfl⟩
 refine ent_value_on (ov_fieldAddr (sz := 0) (o := 0) rfl F_field_66_0 F_size_2) rfl rfl rfl (eq_t c2) rfl rfl ?_
 refine ent_value_on (ov_load (v := (I a0_0)) rfl F_agg_2 (reads_box1 (i := 0) rfl rfl)) rfl rfl rfl (eq_t c2) rfl rfl ?_
 refine ent_value_on (ov_convert rfl (c_int Try.underlying2 Try.underlying78)) rfl rfl rfl (eq_t c2) rfl rfl ?_
 refine ent_value_on (ov_fieldAddr (sz := 0) (o := 0) rfl F_field_66_1 F_size_2) rfl rfl rfl (eq_t c2) rfl rfl ?_
 refine ent_value_on (ov_load (v := (I a0_1)) rfl F_agg_2 (reads_box1 (i := 0) rfl rfl)) rfl rfl rfl (eq_t c2) rfl rfl ?_
 refine ent_value_on (ov_convert rfl (c_int Try.underlying2 Try.underlying78)) rfl rfl rfl (eq_t c2) rfl rfl ?_
 refine ent_value_on (ov_fieldAddr (sz := 0) (o := 0) rfl F_field_66_2 F_size_2) rfl rfl rfl (eq_t c2) rfl rfl ?_
 refine ent_value_on (ov_load (v := (I a0_2)) rfl F_agg_2 (reads_box1 (i := 0) rfl rfl)) rfl rfl rfl (eq_t c2) rfl rfl ?_
 refine ent_value_on (ov_convert rfl (c_int Try.underlying2 Try.underlying78)) rfl rfl rfl (eq_t c2) rfl rfl ?_
 obtain ⟨x4,h4,H⟩ := thn_elim H
 refine ent_op_on (ot_call0 (first := []) (cap := []) (xs := [.tmp 19,.tmp 22,.tmp 25]) rfl rfl F_call_84 rfl (wal_numbers.spec (wu64 a0_0) (wu64 a0_1) (wu64 a0_2) _ h4)) rfl rfl rfl (eq_t c2) rfl rfl ?_
 rintro _ _ ⟨rfl,rfl⟩
 refine ent_value (ov_pick rfl rfl rfl (pick_t (eq_t c2))) rfl rfl rfl (ent_value (ov_assign rfl) rfl rfl rfl (ent_nil (ent_retc ?_)))
 cases H
 refine ent_pick [1] (by decide) rfl ?_
 exact ret_tmp rfl rfl ⟨rfl,rfl⟩

theorem mem_Mem_Add_OR.spec (K p0 : Nat) (sv0 : JG) (sv1 : Value) (A1 : HP) (p0_0 : Int) (l0 : List Wal_Batch) (p0_2 a1_0 : Int) (a1_1 a1_2 : Int) (l1 : List Api_Fact) (hA1 : IsRd A1 sv1 l1.length 6 (fl enc_Api_Fact l1)) (r : (Int × (List Wal_Batch) × Int)) (H : mem_Mem_Add_OR K p0_0 l0 p0_2 a1_0 a1_1 a1_2 l1 = some r) : FnSpec Try.prog 22 [pt p0 0,agg #[I a1_0,I a1_1,I a1_2,sv1]] [box p0 118 [I p0_0,sv0.sv,I p0_2],(jown sv0 66 4 enc_Wal_Batch 93 6 jlen_Wal_Batch jics_Wal_Batch l0),A1] (fun v M => ∃ sv5 : JG,v = (I r.1) ∧ M = [box p0 118 [I p0_0,sv5.sv,I r.2.2],(jown sv5 66 4 enc_Wal_Batch 93 6 jlen_Wal_Batch jics_Wal_Batch r.2.1),A1]) := by
 unfold mem_Mem_Add_OR at H
 refine spec_of Try.func22 rfl 44 rfl (Nat.le_of_ble_eq_true rfl) fun F w0 => ?_
 show Ent (St 44 w0 F [(0,pt p0 0),(1,agg #[I a1_0,I a1_1,I a1_2,sv1])] [box p0 118 [I p0_0,sv0.sv,I p0_2],(jown sv0 66 4 enc_Wal_Batch 93 6 jlen_Wal_Batch jics_Wal_Batch l0),A1]) _
 refine ent_seq (ent_region ?_)
 refine ent_op (ot_box (cs := [I a1_0,I a1_1,I a1_2,sv1]) rfl rfl) rfl rfl rfl ?_
 rintro _ _ ⟨b2,rfl,rfl⟩
 let C0_ : List HP := [box b2 66 [I a1_0,I a1_1,I a1_2,sv1],box p0 118 [I p0_0,sv0.sv,I p0_2],(jown sv0 66 4 enc_Wal_Batch 93 6 jlen_Wal_Batch jics_Wal_Batch l0),A1]
 refine ent_value (ov_assign rfl) rfl rfl rfl (ent_nil (ent_seq (ent_block (ent_seq ?_))))
 obtain ⟨x5,h5,H⟩ := Option.bind_eq_some_iff.1 H
 refine ent_drawm 12 rfl (fun done a w => StD 44 w0 F [(0,pt p0 0),(1,agg #[I a1_0,I a1_1,I a1_2,sv1]),(3,pt b2 0),(4,I 0)] [(0,6,pt p0 0),(1,7,B0),(2,8,B0),(3,9,agg #[I a1_0,I a1_1,I a1_2,sv1]),(4,10,pt p0 0),(5,11,pt p0 0),(6,12,pt p0 0),(7,13,I p0_0),(8,14,bool x5),(9,15,bool (!x5)),(10,16,bool (!x5)),(11,5,bool (!x5))] done C0_ a w) (by kernel_rfl) (by kernel_rfl) (draw_startL (sub_cons (t := 0) rfl (sub_cons (t := 1) rfl (sub_cons (t := 3) rfl (sub_cons (t := 4) rfl (sub_nil _))))) rfl) ?_ ?_
 ·refine ⟨?_,?_,?_,?_,?_,?_,?_,?_,?_,?_,?_,?_,trivial⟩
  ·exact fun done hi hc hcu => draw_value (i := 0) (t := 6) (v := (pt p0 0)) rfl rfl (wanted_none rfl) (fun a => hasA_base) (ov_move rfl) rfl rfl (onlyT_spec (k0 := 0) rfl rfl rfl)
  ·exact fun done hi hc hcu => draw_value (i := 1) (t := 7) (v := B0) rfl rfl (wanted_none rfl) (fun a => (hasA_cons (k := 0) rfl (done_of (j := 0) hcu rfl (by decide) rfl) hasA_base)) (ov_bin rfl rfl (b_eql_of (fun w => rfl) rfl (eq_pn Try.underlying61 _ _))) rfl rfl (onlyT_spec (k0 := 1) rfl rfl rfl)
  ·exact fun done hi hc hcu => draw_value (i := 2) (t := 8) (v := B0) rfl rfl (wanted_none rfl) (fun a => (hasA_cons (k := 1) rfl (done_of (j := 1) hcu rfl (by decide) rfl) hasA_base)) (ov_move rfl) rfl rfl (onlyT_spec (k0 := 2) rfl rfl rfl)
  ·exact fun done hi hc hcu => draw_value (i := 3) (t := 9) (v := (agg #[I a1_0,I a1_1,I a1_2,sv1])) rfl rfl (wanted_on rfl rfl rfl rfl) (fun a => (hasA_cons (k := 2) rfl (done_of (j := 2) hcu rfl (by decide) rfl) hasA_base)) (ov_load_agg (vs := [I a1_0,I a1_1,I a1_2,sv1]) rfl F_agg_66 F_size_66 (reads_boxW (i := 0) rfl)) rfl rfl (onlyT_spec (k0 := 3) rfl rfl rfl)
  ·exact fun done hi hc hcu => draw_value (i := 4) (t := 10) (v := (pt p0 0)) rfl rfl (wanted_on rfl rfl rfl rfl) (fun a => (hasA_cons (k := 2) rfl (done_of (j := 2) hcu rfl (by decide) rfl) hasA_base)) (ov_move rfl) rfl rfl (onlyT_spec (k0 := 4) rfl rfl rfl)
  ·exact fun done hi hc hcu => draw_value (i := 5) (t := 11) (v := (pt p0 0)) rfl rfl (wanted_on rfl rfl rfl rfl) (fun a => (hasA_cons (k := 2) rfl (done_of (j := 2) hcu rfl (by decide) rfl) (hasA_cons (k := 4) rfl (done_of (j := 4) hcu rfl (by decide) rfl) hasA_base))) (ov_nilCheck rfl) rfl rfl (onlyT_spec (k0 := 5) rfl rfl rfl)
  ·exact fun done hi hc hcu => draw_value (i := 6) (t := 12) (v := (pt p0 0)) rfl rfl (wanted_on rfl rfl rfl rfl) (fun a => (hasA_cons (k := 2) rfl (done_of (j := 2) hcu rfl (by decide) rfl) (hasA_cons (k := 5) rfl (done_of (j := 5) hcu rfl (by decide) rfl) hasA_base))) (ov_fieldAddr (sz := 0) (o := 0) rfl F_field_118_0 F_size_3) rfl rfl (onlyT_spec (k0 := 6) rfl rfl rfl)
  ·exact fun done hi hc hcu => draw_value (i := 7) (t := 13) (v := (I p0_0)) rfl rfl (wanted_on rfl rfl rfl rfl) (fun a => (hasA_cons (k := 2) rfl (done_of (j := 2) hcu rfl (by decide) rfl) (hasA_cons (k := 6) rfl (done_of (j := 6) hcu rfl (by decide) rfl) hasA_base))) (ov_load (v := (I p0_0)) rfl F_agg_3 (reads_box1 (i := 1) rfl rfl)) rfl rfl (onlyT_spec (k0 := 7) rfl rfl rfl)
  ·exact fun done hi hc hcu => draw_same (i := 8) (t := 14) (v := (bool x5)) rfl rfl (wanted_on rfl rfl rfl rfl) (fun a => (hasA_cons (k := 2) rfl (done_of (j := 2) hcu rfl (by decide) rfl) (hasA_cons (k := 7) rfl (done_of (j := 7) hcu rfl (by decide) rfl) (hasA_cons (k := 3) rfl (done_of (j := 3) hcu rfl (by decide) rfl) hasA_base)))) (ot_call_same (Lr := [box b2 66 [I a1_0,I a1_1,I a1_2,sv1],box p0 118 [I p0_0,sv0.sv,I p0_2],(jown sv0 66 4 enc_Wal_Batch 93 6 jlen_Wal_Batch jics_Wal_Batch l0)]) [3,0,1,2] [1,2,3,0] (first := []) (cap := []) (xs := [.tmp 9,.tmp 13]) rfl rfl F_call_53 rfl (wal_Right_R.spec K sv1 A1 a1_0 a1_1 a1_2 l1 p0_0 hA1 _ h5) (by decide) rfl (by decide) rfl) rfl rfl (onlyT_spec (k0 := 8) rfl rfl rfl)
  ·exact fun done hi hc hcu => draw_value (i := 9) (t := 15) (v := (bool (!x5))) rfl rfl (wanted_on rfl rfl rfl rfl) (fun a => (hasA_cons (k := 2) rfl (done_of (j := 2) hcu rfl (by decide) rfl) (hasA_cons (k := 8) rfl (done_of (j := 8) hcu rfl (by decide) rfl) hasA_base))) (ov_un rfl (u_not _)) rfl rfl (onlyT_spec (k0 := 9) rfl rfl rfl)
  ·exact fun done hi hc hcu => draw_value (i := 10) (t := 16) (v := (bool (!x5))) rfl rfl (wanted_none rfl) (fun a => (hasA_cons (k := 9) rfl (done_of (j := 9) hcu rfl (by decide) rfl) (hasA_cons (k := 2) rfl (done_of (j := 2) hcu rfl (by decide) rfl) hasA_base))) (ov_pick rfl rfl rfl rfl) rfl rfl (onlyT_spec (k0 := 10) rfl rfl rfl)
  ·exact fun done hi hc hcu => draw_value (i := 11) (t := 5) (v := (bool (!x5))) rfl rfl (wanted_none rfl) (fun a => (hasA_cons (k := 10) rfl (done_of (j := 10) hcu rfl (by decide) rfl) hasA_base)) (ov_assign rfl) rfl rfl (onlyT_spec (k0 := 11) rfl rfl rfl)
 ·intro done hall
  refine draw_endL C0_ rfl (fun a => (hasA_cons (k := 11) rfl (hall 11 (by decide)) (hasA_cons (k := 0) rfl (hall 0 (by decide)) (hasA_cons (k := 1) rfl (hall 1 (by decide)) (hasA_cons (k := 2) rfl (hall 2 (by decide)) (hasA_cons (k := 3) rfl (hall 3 (by decide)) (hasA_cons (k := 4) rfl (hall 4 (by decide)) (hasA_cons (k := 5) rfl (hall 5 (by decide)) (hasA_cons (k := 6) rfl (hall 6 (by decide)) (hasA_cons (k := 7) rfl (hall 7 (by decide)) (hasA_cons (k := 8) rfl (hall 8 (by decide)) (hasA_cons (k := 9) rfl (hall 9 (by decide)) (hasA_cons (k := 10) rfl (hall 10 (by decide)) hasA_base))))))))))))) ?_
  refine htT H (fun c8 H => ?_) fun c8 H => ?_
  ·refine ent_cond_true rfl c8 (ent_seq (ent_region (ent_value (ov_assign rfl) rfl rfl rfl (ent_nil (ent_retc ?_)))))
   cases H
   refine ent_pick [1,2,3] (by decide) rfl ?_
   exact ret_tmp rfl rfl ⟨sv0,rfl,rfl⟩
  refine ent_cond_false rfl (Bool.eq_false_iff.2 c8) (ent_seq ?_)
  refine ent_drawm 8 rfl (fun done a w => StD 44 w0 F [(0,pt p0 0),(1,agg #[I a1_0,I a1_1,I a1_2,sv1]),(3,pt b2 0),(4,I 0),(5,bool (!x5)),(6,pt p0 0),(7,B0),(8,B0),(9,agg #[I a1_0,I a1_1,I a1_2,sv1]),(10,pt p0 0),(11,pt p0 0),(12,pt p0 0),(13,I p0_0),(14,bool x5),(15,bool (!x5)),(16,bool (!x5))] [(0,18,pt b2 0),(1,19,I a1_0),(2,20,pt p0 0),(3,21,pt p0 0),(4,22,pt p0 2),(5,23,I p0_2),(6,24,Value.bool (decide (a1_0 ≤ p0_2))),(7,17,Value.bool (decide (a1_0 ≤ p0_2)))] done C0_ a w) (by kernel_rfl) (by kernel_rfl) (draw_startL (sub_cons (t := 0) rfl (sub_cons (t := 1) rfl (sub_cons (t := 3) rfl (sub_cons (t := 4) rfl (sub_cons (t := 5) rfl (sub_cons (t := 6) rfl (sub_cons (t := 7) rfl (sub_cons (t := 8) rfl (sub_cons (t := 9) rfl (sub_cons (t := 10) rfl (sub_cons (t := 11) rfl (sub_cons (t := 12) rfl (sub_cons (t := 13) rfl (sub_cons (t := 14) rfl (sub_cons (t := 15) rfl (sub_cons (t := 16) rfl (sub_nil _))))))))))))))))) rfl) ?_ ?_
  ·refine ⟨?_,?_,?_,?_,?_,?_,?_,?_,trivial⟩
   ·exact fun done hi hc hcu => draw_value (i := 0) (t := 18) (v := (pt b2 0)) rfl rfl (wanted_none rfl) (fun a => hasA_base) (ov_fieldAddr (sz := 0) (o := 0) rfl F_field_66_0 F_size_2) rfl rfl (onlyT_spec (k0 := 0) rfl rfl rfl)
   ·exact fun done hi hc hcu => draw_value (i := 1) (t := 19) (v := (I a1_0)) rfl rfl (wanted_none rfl) (fun a => (hasA_cons (k := 0) rfl (done_of (j := 0) hcu rfl (by decide) rfl) hasA_base)) (ov_load (v := (I a1_0)) rfl F_agg_2 (reads_box1 (i := 0) rfl rfl)) rfl rfl (onlyT_spec (k0 := 1) rfl rfl rfl)
   ·exact fun done hi hc hcu => draw_value (i := 2) (t := 20) (v := (pt p0 0)) rfl rfl (wanted_none rfl) (fun a => hasA_base) (ov_move rfl) rfl rfl (onlyT_spec (k0 := 2) rfl rfl rfl)
   ·exact fun done hi hc hcu => draw_value (i := 3) (t := 21) (v := (pt p0 0)) rfl rfl (wanted_none rfl) (fun a => (hasA_cons (k := 2) rfl (done_of (j := 2) hcu rfl (by decide) rfl) hasA_base)) (ov_nilCheck rfl) rfl rfl (onlyT_spec (k0 := 3) rfl rfl rfl)
   ·exact fun done hi hc hcu => draw_value (i := 4) (t := 22) (v := (pt p0 2)) rfl rfl (wanted_none rfl) (fun a => (hasA_cons (k := 3) rfl (done_of (j := 3) hcu rfl (by decide) rfl) hasA_base)) (ov_fieldAddr (sz := 0) (o := 0) rfl F_field_118_2 F_size_2) rfl rfl (onlyT_spec (k0 := 4) rfl rfl rfl)
   ·exact fun done hi hc hcu => draw_value (i := 5) (t := 23) (v := (I p0_2)) rfl rfl (wanted_none rfl) (fun a => (hasA_cons (k := 4) rfl (done_of (j := 4) hcu rfl (by decide) rfl) hasA_base)) (ov_load (v := (I p0_2)) rfl F_agg_2 (reads_box1 (i := 1) rfl rfl)) rfl rfl (onlyT_spec (k0 := 5) rfl rfl rfl)
   ·exact fun done hi hc hcu => draw_value (i := 6) (t := 24) (v := (Value.bool (decide (a1_0 ≤ p0_2)))) rfl rfl (wanted_none rfl) (fun a => (hasA_cons (k := 5) rfl (done_of (j := 5) hcu rfl (by decide) rfl) (hasA_cons (k := 1) rfl (done_of (j := 1) hcu rfl (by decide) rfl) hasA_base))) (ov_bin rfl rfl (b_leq _ _ _)) rfl rfl (onlyT_spec (k0 := 6) rfl rfl rfl)
   ·exact fun done hi hc hcu => draw_value (i := 7) (t := 17) (v := (Value.bool (decide (a1_0 ≤ p0_2)))) rfl rfl (wanted_none rfl) (fun a => (hasA_cons (k := 6) rfl (done_of (j := 6) hcu rfl (by decide) rfl) hasA_base)) (ov_assign rfl) rfl rfl (onlyT_spec (k0 := 7) rfl rfl rfl)
  ·intro done hall
   refine draw_endL C0_ rfl (fun a => (hasA_cons (k := 7) rfl (hall 7 (by decide)) (hasA_cons (k := 0) rfl (hall 0 (by decide)) (hasA_cons (k := 1) rfl (hall 1 (by decide)) (hasA_cons (k := 2) rfl (hall 2 (by decide)) (hasA_cons (k := 3) rfl (hall 3 (by decide)) (hasA_cons (k := 4) rfl (hall 4 (by decide)) (hasA_cons (k := 5) rfl (hall 5 (by decide)) (hasA_cons (k := 6) rfl (hall 6 (by decide)) hasA_base))))))))) ?_
   refine htT H (fun c9 H => ?_) fun c9 H => ?_
   ·refine ent_cond_true rfl (decide_eq_true c9) (ent_seq (ent_region (ent_value (ov_assign rfl) rfl rfl rfl (ent_nil (ent_retc ?_)))))
    cases H
    refine ent_pick [1,2,3] (by decide) rfl ?_
    exact ret_tmp rfl rfl ⟨sv0,rfl,rfl⟩
   refine ent_cond_false rfl (decide_eq_false c9) (ent_skip (ent_seq (ent_region (ent_value (ov_move rfl) rfl rfl rfl (ent_value (ov_fieldAddr (sz := 0) (o := 0) rfl F_field_66_0 F_size_2) rfl rfl rfl (ent_value (ov_load (v := (I a1_0)) rfl F_agg_2 (reads_box1 (i := 0) rfl rfl)) rfl rfl rfl (ent_value (ov_nilCheck rfl) rfl rfl rfl (ent_value (ov_fieldAddr (sz := 0) (o := 0) rfl F_field_118_2 F_size_2) rfl rfl rfl ?_))))))))
   refine ent_op0 (ot_storeG (cs := [I p0_0,sv0.sv,I p0_2]) (cs' := [I p0_0,sv0.sv,I a1_0]) (us := [I a1_0]) (L' := [box b2 66 [I a1_0,I a1_1,I a1_2,sv1],box p0 118 [I p0_0,sv0.sv,I a1_0],(jown sv0 66 4 enc_Wal_Batch 93 6 jlen_Wal_Batch jics_Wal_Batch l0),A1]) 1 rfl rfl rfl (one_all rfl) F_size_2 rfl rfl (by simp [C0_]) rfl) rfl rfl ?_
   rintro _ _ rfl
   refine ent_nil (ent_seq (ent_region (ent_value (ov_fieldAddr (sz := 0) (o := 0) rfl F_field_66_3 F_size_46) rfl rfl rfl (ent_value (ov_load (v := sv1) rfl F_agg_46 (reads_box1 (i := 0) rfl rfl)) rfl rfl rfl ?_))))
   obtain ⟨x6,h6,H⟩ := Option.bind_eq_some_iff.1 H
   refine ent_pick [3,0,1,2] (by decide) rfl ?_
   refine ent_op (ot_call (Lr := [box b2 66 [I a1_0,I a1_1,I a1_2,sv1],box p0 118 [I p0_0,sv0.sv,I a1_0],(jown sv0 66 4 enc_Wal_Batch 93 6 jlen_Wal_Batch jics_Wal_Batch l0)]) (first := []) (cap := []) (xs := [.tmp 31]) rfl rfl F_call_54 rfl (slices_Clone____api_Fact__api_Fact_R.spec sv1 A1 l1 hA1 _ h6) rfl) rfl rfl rfl ?_
   rintro sv6 _ ⟨_,⟨_,rfl,rfl⟩,rfl⟩
   refine ent_value (ov_fieldAddr (sz := 0) (o := 0) rfl F_field_66_3 F_size_46) rfl rfl rfl ?_
   refine ent_op0 (ot_storeS (cs := [I a1_0,I a1_1,I a1_2,sv1]) (cs' := [I a1_0,I a1_1,I a1_2,sv6]) (sv := sv6) (L' := [A1,own sv6 93 6 x6.length (fl enc_Api_Fact x6),box b2 66 [I a1_0,I a1_1,I a1_2,sv6],box p0 118 [I p0_0,sv0.sv,I a1_0],(jown sv0 66 4 enc_Wal_Batch 93 6 jlen_Wal_Batch jics_Wal_Batch l0)]) 2 1 rfl rfl F_size_46 rfl rfl (isRd_ownx 93) rfl (by simp [C0_]) rfl) rfl rfl ?_
   rintro _ _ rfl
   refine ent_nil (ent_seq ?_)
   obtain ⟨c10,H⟩ := gdT H
   let Z8_T : DT := fun ga2 => [(0,34,pt p0 0),(1,35,pt p0 0),(2,36,pt p0 0),(3,37,pt p0 1),(4,38,sv0.sv),(5,39,agg #[I a1_0,I a1_1,I a1_2,sv6]),(6,40,(ga2 6)),(7,41,(ga2 7)),(8,42,pt p0 0),(9,43,pt p0 1)]
   let Z8_L : DL := fun ga2 done => [sel (done 7) emp (sel (done 6) (own (ga2 6) 66 4 1 (enc_Wal_Batch (⟨a1_0,a1_1,a1_2,x6⟩ : Wal_Batch) sv6)) emp),A1,sel (done 7) emp (own sv6 93 6 x6.length (fl enc_Api_Fact x6)),box b2 66 [I a1_0,I a1_1,I a1_2,sv6],sel (done 10) (box p0 118 [I p0_0,(ga2 7),I a1_0]) (box p0 118 [I p0_0,sv0.sv,I a1_0]),sel (done 7) (hown (ga2 7) 66 4 enc_Wal_Batch 93 6 jlen_Wal_Batch jics_Wal_Batch (l0 ++ [(⟨a1_0,a1_1,a1_2,x6⟩ : Wal_Batch)])) (jown sv0 66 4 enc_Wal_Batch 93 6 jlen_Wal_Batch jics_Wal_Batch l0)]
   let Z8_I : DI := fun ga2 done a w => StD 44 w0 F [(0,pt p0 0),(1,agg #[I a1_0,I a1_1,I a1_2,sv1]),(3,pt b2 0),(4,I 0),(5,bool (!x5)),(6,pt p0 0),(7,B0),(8,B0),(9,agg #[I a1_0,I a1_1,I a1_2,sv1]),(10,pt p0 0),(11,pt p0 0),(12,pt p0 0),(13,I p0_0),(14,bool x5),(15,bool (!x5)),(16,bool (!x5)),(17,Value.bool (decide (a1_0 ≤ p0_2))),(18,pt b2 0),(19,I a1_0),(20,pt p0 0),(21,pt p0 0),(22,pt p0 2),(23,I p0_2),(24,Value.bool (decide (a1_0 ≤ p0_2))),(25,pt p0 0),(26,pt b2 0),(27,I a1_0),(28,pt p0 0),(29,pt p0 2),(30,pt b2 3),(31,sv1),(32,sv6),(33,pt b2 3)] (Z8_T ga2) done (Z8_L ga2 done) a w
   refine ent_drawm 11 rfl (fun done a w => ∃ ga2 : Nat → Value,Z8_I ga2 done a w) (by kernel_rfl) (by kernel_rfl) (draw_startG (T := Z8_T) (L' := fun ga2 : Nat → Value => [sel false emp (sel false (own (ga2 6) 66 4 1 (enc_Wal_Batch (⟨a1_0,a1_1,a1_2,x6⟩ : Wal_Batch) sv6)) emp),A1,sel false emp (own sv6 93 6 x6.length (fl enc_Api_Fact x6)),box b2 66 [I a1_0,I a1_1,I a1_2,sv6],sel false (box p0 118 [I p0_0,(ga2 7),I a1_0]) (box p0 118 [I p0_0,sv0.sv,I a1_0]),sel false (hown (ga2 7) 66 4 enc_Wal_Batch 93 6 jlen_Wal_Batch jics_Wal_Batch (l0 ++ [(⟨a1_0,a1_1,a1_2,x6⟩ : Wal_Batch)])) (jown sv0 66 4 enc_Wal_Batch 93 6 jlen_Wal_Batch jics_Wal_Batch l0)]) 1 (sub_cons (t := 0) rfl (sub_cons (t := 1) rfl (sub_cons (t := 3) rfl (sub_cons (t := 4) rfl (sub_cons (t := 5) rfl (sub_cons (t := 6) rfl (sub_cons (t := 7) rfl (sub_cons (t := 8) rfl (sub_cons (t := 9) rfl (sub_cons (t := 10) rfl (sub_cons (t := 11) rfl (sub_cons (t := 12) rfl (sub_cons (t := 13) rfl (sub_cons (t := 14) rfl (sub_cons (t := 15) rfl (sub_cons (t := 16) rfl (sub_cons (t := 17) rfl (sub_cons (t := 18) rfl (sub_cons (t := 19) rfl (sub_cons (t := 20) rfl (sub_cons (t := 21) rfl (sub_cons (t := 22) rfl (sub_cons (t := 23) rfl (sub_cons (t := 24) rfl (sub_cons (t := 25) rfl (sub_cons (t := 26) rfl (sub_cons (t := 27) rfl (sub_cons (t := 28) rfl (sub_cons (t := 29) rfl (sub_cons (t := 30) rfl (sub_cons (t := 31) rfl (sub_cons (t := 32) rfl (sub_cons (t := 33) rfl (sub_nil _)))))))))))))))))))))))))))))))))) (fun _ => rfl)) ?_ ?_
   ·refine ⟨?_,?_,?_,?_,?_,?_,?_,?_,?_,?_,?_,trivial⟩
    ·exact fun done hi hc hcu => draw_exi (I := Z8_I) fun ga2 => draw_value (i := 0) (t := 34) (v := (pt p0 0)) rfl rfl (wanted_none rfl) (fun a => hasA_base) (ov_move rfl) rfl rfl (onlyT_spec (k0 := 0) rfl rfl rfl)
    ·exact fun done hi hc hcu => draw_exi (I := Z8_I) fun ga2 => draw_value (i := 1) (t := 35) (v := (pt p0 0)) rfl rfl (wanted_none rfl) (fun a => hasA_base) (ov_move rfl) rfl rfl (onlyT_spec (k0 := 1) rfl rfl rfl)
    ·intro done hi hc hcu
     refine draw_exi (I := Z8_I) fun ga2 => ?_
     have d1 : done 1 = true := done_of (j := 1) hcu rfl (by decide) rfl
     have n10 : done 10 = false := notdone_of (m := 10) hc hi rfl rfl
     exact draw_value (i := 2) (t := 36) (v := (pt p0 0)) rfl rfl (wanted_none rfl) (fun a => (hasA_cons (k := 1) rfl d1 hasA_base)) (ov_L (L2 := [sel (done 7) emp (sel (done 6) (own (ga2 6) 66 4 1 (enc_Wal_Batch (⟨a1_0,a1_1,a1_2,x6⟩ : Wal_Batch) sv6)) emp),A1,sel (done 7) emp (own sv6 93 6 x6.length (fl enc_Api_Fact x6)),box b2 66 [I a1_0,I a1_1,I a1_2,sv6],box p0 118 [I p0_0,sv0.sv,I a1_0],sel (done 7) (hown (ga2 7) 66 4 enc_Wal_Batch 93 6 jlen_Wal_Batch jics_Wal_Batch (l0 ++ [(⟨a1_0,a1_1,a1_2,x6⟩ : Wal_Batch)])) (jown sv0 66 4 enc_Wal_Batch 93 6 jlen_Wal_Batch jics_Wal_Batch l0)]) (by simp only [C0_,Z8_T,Z8_L,n10,sel]) (ov_nilCheck rfl)) rfl rfl (onlyT_spec (k0 := 2) rfl rfl rfl)
    ·intro done hi hc hcu
     refine draw_exi (I := Z8_I) fun ga2 => ?_
     have d2 : done 2 = true := done_of (j := 2) hcu rfl (by decide) rfl
     have n10 : done 10 = false := notdone_of (m := 10) hc hi rfl rfl
     exact draw_value (i := 3) (t := 37) (v := (pt p0 1)) rfl rfl (wanted_none rfl) (fun a => (hasA_cons (k := 2) rfl d2 hasA_base)) (ov_L (L2 := [sel (done 7) emp (sel (done 6) (own (ga2 6) 66 4 1 (enc_Wal_Batch (⟨a1_0,a1_1,a1_2,x6⟩ : Wal_Batch) sv6)) emp),A1,sel (done 7) emp (own sv6 93 6 x6.length (fl enc_Api_Fact x6)),box b2 66 [I a1_0,I a1_1,I a1_2,sv6],box p0 118 [I p0_0,sv0.sv,I a1_0],sel (done 7) (hown (ga2 7) 66 4 enc_Wal_Batch 93 6 jlen_Wal_Batch jics_Wal_Batch (l0 ++ [(⟨a1_0,a1_1,a1_2,x6⟩ : Wal_Batch)])) (jown sv0 66 4 enc_Wal_Batch 93 6 jlen_Wal_Batch jics_Wal_Batch l0)]) (by simp only [C0_,Z8_T,Z8_L,n10,sel]) (ov_fieldAddr (sz := 0) (o := 0) rfl F_field_118_1 F_size_72)) rfl rfl (onlyT_spec (k0 := 3) rfl rfl rfl)
    ·intro done hi hc hcu
     refine draw_exi (I := Z8_I) fun ga2 => ?_
     have d3 : done 3 = true := done_of (j := 3) hcu rfl (by decide) rfl
     have n10 : done 10 = false := notdone_of (m := 10) hc hi rfl rfl
     exact draw_value (i := 4) (t := 38) (v := sv0.sv) rfl rfl (wanted_none rfl) (fun a => (hasA_cons (k := 3) rfl d3 hasA_base)) (ov_L (L2 := [sel (done 7) emp (sel (done 6) (own (ga2 6) 66 4 1 (enc_Wal_Batch (⟨a1_0,a1_1,a1_2,x6⟩ : Wal_Batch) sv6)) emp),A1,sel (done 7) emp (own sv6 93 6 x6.length (fl enc_Api_Fact x6)),box b2 66 [I a1_0,I a1_1,I a1_2,sv6],box p0 118 [I p0_0,sv0.sv,I a1_0],sel (done 7) (hown (ga2 7) 66 4 enc_Wal_Batch 93 6 jlen_Wal_Batch jics_Wal_Batch (l0 ++ [(⟨a1_0,a1_1,a1_2,x6⟩ : Wal_Batch)])) (jown sv0 66 4 enc_Wal_Batch 93 6 jlen_Wal_Batch jics_Wal_Batch l0)]) (by simp only [C0_,Z8_T,Z8_L,n10,sel]) (ov_load (v := sv0.sv) rfl F_agg_72 (reads_box1 (i := 4) rfl rfl))) rfl rfl (onlyT_spec (k0 := 4) rfl rfl rfl)
    ·exact fun done hi hc hcu => draw_exi (I := Z8_I) fun ga2 => draw_value (i := 5) (t := 39) (v := (agg #[I a1_0,I a1_1,I a1_2,sv6])) rfl rfl (wanted_none rfl) (fun a => hasA_base) (ov_load_agg (vs := [I a1_0,I a1_1,I a1_2,sv6]) rfl F_agg_66 F_size_66 (reads_boxW (i := 3) rfl)) rfl rfl (onlyT_spec (k0 := 5) rfl rfl rfl)
    ·intro done hi hc hcu
     refine ent_exi (S := fun ga2 => Z8_I ga2 done) fun ga2 => ?_
     have d5 : done 5 = true := done_of (j := 5) hcu rfl (by decide) rfl
     have n7 : done 7 = false := notdone_of (m := 7) hc hi rfl rfl
     refine draw_newV (i := 6) (t := 40) (x := ga2) (L := Z8_L) (T := Z8_T) (L2 := [emp,A1,sel (done 7) emp (own sv6 93 6 x6.length (fl enc_Api_Fact x6)),box b2 66 [I a1_0,I a1_1,I a1_2,sv6],sel (done 10) (box p0 118 [I p0_0,(ga2 7),I a1_0]) (box p0 118 [I p0_0,sv0.sv,I a1_0]),sel (done 7) (hown (ga2 7) 66 4 enc_Wal_Batch 93 6 jlen_Wal_Batch jics_Wal_Batch (l0 ++ [(⟨a1_0,a1_1,a1_2,x6⟩ : Wal_Batch)])) (jown sv0 66 4 enc_Wal_Batch 93 6 jlen_Wal_Batch jics_Wal_Batch l0)]) (B := fun v_ => (own v_ 66 4 1 (enc_Wal_Batch (⟨a1_0,a1_1,a1_2,x6⟩ : Wal_Batch) sv6))) 0 rfl rfl (wanted_none rfl) (fun a => (hasA_cons (k := 5) rfl d5 hasA_base)) (by simp only [C0_,Z8_T,Z8_L,n7,hi,sel]) (ot_buildSlice (sz := 3) (xs := [.tmp 39]) (cs := enc_Wal_Batch (⟨a1_0,a1_1,a1_2,x6⟩ : Wal_Batch) sv6) rfl rfl F_slice_72 F_size_66 F_zero_66 rfl rfl (all_size rfl) rfl (by decide)) ?_ rfl (fun v_ => ?_) rfl rfl ?_
     ·rintro _ _ rfl; rfl
     ·simp [C0_,Z8_T,Z8_L,up,upb,sel,n7,hi]
     ·rintro _ _ rfl
      exact (tr_same rfl rfl (tr_same rfl rfl (tr_same rfl rfl (tr_same rfl rfl (tr_same rfl rfl (tr_same rfl rfl (tr_this (tr_same rfl rfl (tr_same rfl rfl (tr_same rfl rfl tr_nil))))))))))
    ·intro done hi hc hcu
     refine ent_exi (S := fun ga2 => Z8_I ga2 done) fun ga2 => ?_
     have d4 : done 4 = true := done_of (j := 4) hcu rfl (by decide) rfl
     have d6 : done 6 = true := done_of (j := 6) hcu rfl (by decide) rfl
     have n10 : done 10 = false := notdone_of (m := 10) hc hi rfl rfl
     exact draw_turnI (i := 7) (t := 41) (x := ga2) (L := Z8_L) (T := Z8_T) (L2 := [own (ga2 6) 66 4 1 (enc_Wal_Batch (⟨a1_0,a1_1,a1_2,x6⟩ : Wal_Batch) sv6),A1,own sv6 93 6 x6.length (fl enc_Api_Fact x6),box b2 66 [I a1_0,I a1_1,I a1_2,sv6],box p0 118 [I p0_0,sv0.sv,I a1_0],(jown sv0 66 4 enc_Wal_Batch 93 6 jlen_Wal_Batch jics_Wal_Batch l0)]) rfl rfl (wanted_none rfl) (fun a => (hasA_cons (k := 6) rfl d6 (hasA_cons (k := 4) rfl d4 hasA_base))) (by simp only [C0_,Z8_T,Z8_L,d6,n10,hi,sel]) (ot_appendH (sz := 3) (fun v_ => [emp,A1,emp,box b2 66 [I a1_0,I a1_1,I a1_2,sv6],box p0 118 [I p0_0,sv0.sv,I a1_0],(hown v_ 66 4 enc_Wal_Batch 93 6 jlen_Wal_Batch jics_Wal_Batch (l0 ++ [(⟨a1_0,a1_1,a1_2,x6⟩ : Wal_Batch)]))]) [5,0,2,1,3,4] [1,3,2,4,5,0] (by decide) (by decide) rfl (fun _ => rfl) rfl rfl F_slice_72 F_size_66 F_zero_66 rfl F_bytes_66 rfl (enc_Wal_Batch_one _ _) c10) rfl rfl fun v_ M_ hM_ => ⟨upb ga2 7 v_,hM_.trans (show [emp,A1,emp,box b2 66 [I a1_0,I a1_1,I a1_2,sv6],box p0 118 [I p0_0,sv0.sv,I a1_0],(hown v_ 66 4 enc_Wal_Batch 93 6 jlen_Wal_Batch jics_Wal_Batch (l0 ++ [(⟨a1_0,a1_1,a1_2,x6⟩ : Wal_Batch)]))] = _ by simp [C0_,Z8_T,Z8_L,up,upb,sel,d6,n10,n10,hi]),(tr_same rfl rfl (tr_same rfl rfl (tr_same rfl rfl (tr_same rfl rfl (tr_same rfl rfl (tr_same rfl rfl (tr_same rfl rfl (tr_this (tr_same rfl rfl (tr_same rfl rfl tr_nil))))))))))⟩
    ·intro done hi hc hcu
     refine draw_exi (I := Z8_I) fun ga2 => ?_
     have d0 : done 0 = true := done_of (j := 0) hcu rfl (by decide) rfl
     have n9 : done 9 = false := notdone_of (m := 9) hc hi rfl rfl
     have n10 : done 10 = false := notdone_of (m := 10) hc n9 rfl rfl
     exact draw_value (i := 8) (t := 42) (v := (pt p0 0)) rfl rfl (wanted_none rfl) (fun a => (hasA_cons (k := 0) rfl d0 hasA_base)) (ov_L (L2 := [sel (done 7) emp (sel (done 6) (own (ga2 6) 66 4 1 (enc_Wal_Batch (⟨a1_0,a1_1,a1_2,x6⟩ : Wal_Batch) sv6)) emp),A1,sel (done 7) emp (own sv6 93 6 x6.length (fl enc_Api_Fact x6)),box b2 66 [I a1_0,I a1_1,I a1_2,sv6],box p0 118 [I p0_0,sv0.sv,I a1_0],sel (done 7) (hown (ga2 7) 66 4 enc_Wal_Batch 93 6 jlen_Wal_Batch jics_Wal_Batch (l0 ++ [(⟨a1_0,a1_1,a1_2,x6⟩ : Wal_Batch)])) (jown sv0 66 4 enc_Wal_Batch 93 6 jlen_Wal_Batch jics_Wal_Batch l0)]) (by simp only [C0_,Z8_T,Z8_L,n10,sel]) (ov_nilCheck rfl)) rfl rfl (onlyT_spec (k0 := 8) rfl rfl rfl)
    ·intro done hi hc hcu
     refine draw_exi (I := Z8_I) fun ga2 => ?_
     have d8 : done 8 = true := done_of (j := 8) hcu rfl (by decide) rfl
     have n10 : done 10 = false := notdone_of (m := 10) hc hi rfl rfl
     exact draw_value (i := 9) (t := 43) (v := (pt p0 1)) rfl rfl (wanted_none rfl) (fun a => (hasA_cons (k := 8) rfl d8 hasA_base)) (ov_L (L2 := [sel (done 7) emp (sel (done 6) (own (ga2 6) 66 4 1 (enc_Wal_Batch (⟨a1_0,a1_1,a1_2,x6⟩ : Wal_Batch) sv6)) emp),A1,sel (done 7) emp (own sv6 93 6 x6.length (fl enc_Api_Fact x6)),box b2 66 [I a1_0,I a1_1,I a1_2,sv6],box p0 118 [I p0_0,sv0.sv,I a1_0],sel (done 7) (hown (ga2 7) 66 4 enc_Wal_Batch 93 6 jlen_Wal_Batch jics_Wal_Batch (l0 ++ [(⟨a1_0,a1_1,a1_2,x6⟩ : Wal_Batch)])) (jown sv0 66 4 enc_Wal_Batch 93 6 jlen_Wal_Batch jics_Wal_Batch l0)]) (by simp only [C0_,Z8_T,Z8_L,n10,sel]) (ov_fieldAddr (sz := 0) (o := 0) rfl F_field_118_1 F_size_72)) rfl rfl (onlyT_spec (k0 := 9) rfl rfl rfl)
    ·intro done hi hc hcu
     refine draw_exi (I := Z8_I) fun ga2 => ?_
     have d9 : done 9 = true := done_of (j := 9) hcu rfl (by decide) rfl
     have d7 : done 7 = true := done_of (j := 7) hcu rfl (by decide) rfl
     exact draw_store (i := 10) (L2 := [sel (done 7) emp (sel (done 6) (own (ga2 6) 66 4 1 (enc_Wal_Batch (⟨a1_0,a1_1,a1_2,x6⟩ : Wal_Batch) sv6)) emp),A1,sel (done 7) emp (own sv6 93 6 x6.length (fl enc_Api_Fact x6)),box b2 66 [I a1_0,I a1_1,I a1_2,sv6],box p0 118 [I p0_0,sv0.sv,I a1_0],(hown (ga2 7) 66 4 enc_Wal_Batch 93 6 jlen_Wal_Batch jics_Wal_Batch (l0 ++ [(⟨a1_0,a1_1,a1_2,x6⟩ : Wal_Batch)]))]) (L3 := [sel (done 7) emp (sel (done 6) (own (ga2 6) 66 4 1 (enc_Wal_Batch (⟨a1_0,a1_1,a1_2,x6⟩ : Wal_Batch) sv6)) emp),A1,sel (done 7) emp (own sv6 93 6 x6.length (fl enc_Api_Fact x6)),box b2 66 [I a1_0,I a1_1,I a1_2,sv6],box p0 118 [I p0_0,(ga2 7),I a1_0],(hown (ga2 7) 66 4 enc_Wal_Batch 93 6 jlen_Wal_Batch jics_Wal_Batch (l0 ++ [(⟨a1_0,a1_1,a1_2,x6⟩ : Wal_Batch)]))]) rfl rfl (wanted_none rfl) (fun a => (hasA_cons (k := 7) rfl d7 (hasA_cons (k := 9) rfl d9 hasA_base))) (by simp only [C0_,Z8_T,Z8_L,d7,hi,sel]) (by simp [C0_,Z8_T,Z8_L,up,d7,sel]) (ot_storeS (cs := [I p0_0,sv0.sv,I a1_0]) (cs' := [I p0_0,(ga2 7),I a1_0]) (sv := (ga2 7)) (L' := [sel (done 7) emp (sel (done 6) (own (ga2 6) 66 4 1 (enc_Wal_Batch (⟨a1_0,a1_1,a1_2,x6⟩ : Wal_Batch) sv6)) emp),A1,sel (done 7) emp (own sv6 93 6 x6.length (fl enc_Api_Fact x6)),box b2 66 [I a1_0,I a1_1,I a1_2,sv6],box p0 118 [I p0_0,(ga2 7),I a1_0],(hown (ga2 7) 66 4 enc_Wal_Batch 93 6 jlen_Wal_Batch jics_Wal_Batch (l0 ++ [(⟨a1_0,a1_1,a1_2,x6⟩ : Wal_Batch)]))]) 4 5 rfl rfl F_size_72 rfl rfl isRd_hout rfl (by simp [C0_,Z8_T,Z8_L]) rfl) (offT_spec rfl)
   ·intro done hall
    refine ent_exi (S := fun ga2 => Z8_I ga2 done) fun ga2 => ?_
    refine draw_endL [emp,A1,emp,box b2 66 [I a1_0,I a1_1,I a1_2,sv6],box p0 118 [I p0_0,(ga2 7),I a1_0],(hown (ga2 7) 66 4 enc_Wal_Batch 93 6 jlen_Wal_Batch jics_Wal_Batch (l0 ++ [(⟨a1_0,a1_1,a1_2,x6⟩ : Wal_Batch)]))] (by simp only [C0_,Z8_T,Z8_L,hall 6 (by decide),hall 7 (by decide),hall 10 (by decide),sel]) (fun a => (hasA_cons (k := 0) rfl (hall 0 (by decide)) (hasA_cons (k := 1) rfl (hall 1 (by decide)) (hasA_cons (k := 2) rfl (hall 2 (by decide)) (hasA_cons (k := 3) rfl (hall 3 (by decide)) (hasA_cons (k := 4) rfl (hall 4 (by decide)) (hasA_cons (k := 5) rfl (hall 5 (by decide)) (hasA_cons (k := 6) rfl (hall 6 (by decide)) (hasA_cons (k := 7) rfl (hall 7 (by decide)) (hasA_cons (k := 8) rfl (hall 8 (by decide)) (hasA_cons (k := 9) rfl (hall 9 (by decide)) hasA_base))))))))))) ?_
    refine ent_unh 5 rfl fun sv8 hsv8 => ?_
    rw [← hsv8]
    refine ent_L [emp,A1,emp,box b2 66 [I a1_0,I a1_1,I a1_2,sv6],box p0 118 [I p0_0,sv8.sv,I a1_0],(jown sv8 66 4 enc_Wal_Batch 93 6 jlen_Wal_Batch jics_Wal_Batch (l0 ++ [(⟨a1_0,a1_1,a1_2,x6⟩ : Wal_Batch)]))] rfl ?_
    refine ent_seq (ent_region (ent_value (ov_assign rfl) rfl rfl rfl (ent_nil (ent_retc ?_))))
    cases H
    refine ent_pick [4,5,1] (by decide) rfl ?_
    exact ret_tmp rfl rfl ⟨sv8,rfl,rfl⟩

theorem mem_Mem_Batches_O.spec (K p0 : Nat) (sv0 : JG) (p0_0 : Int) (l0 : List Wal_Batch) (p0_2 : Int) (r : List Wal_Batch) (H : mem_Mem_Batches_O K p0_0 l0 p0_2 = some r) : FnSpec Try.prog 27 [pt p0 0] [box p0 118 [I p0_0,sv0.sv,I p0_2],(jown sv0 66 4 enc_Wal_Batch 93 6 jlen_Wal_Batch jics_Wal_Batch l0)] (fun v M => ∃ sv39 : JG,v = sv39.sv ∧ M = [box p0 118 [I p0_0,sv0.sv,I p0_2],(jown sv0 66 4 enc_Wal_Batch 93 6 jlen_Wal_Batch jics_Wal_Batch l0),(jown sv39 66 4 enc_Wal_Batch 93 6 jlen_Wal_Batch jics_Wal_Batch r)]) := by
 unfold mem_Mem_Batches_O at H
 refine spec_of Try.func27 rfl 22 rfl (Nat.le_of_ble_eq_true rfl) fun F w0 => ?_
 show Ent (St 22 w0 F [(0,pt p0 0)] [box p0 118 [I p0_0,sv0.sv,I p0_2],(jown sv0 66 4 enc_Wal_Batch 93 6 jlen_Wal_Batch jics_Wal_Batch l0)]) _
 refine ent_seq (ent_region (ent_value (ov_assign rfl) rfl rfl rfl (ent_nil (ent_seq (ent_seq (ent_region (ent_value (ov_move rfl) rfl rfl rfl ?_)))))))
 obtain ⟨u4,h22,H⟩ := thn_elim H
 refine ent_op (ot_call_same (Lr := []) [0,1] [0,1] (first := []) (cap := []) (xs := [.tmp 5]) rfl rfl F_call_56 rfl (mem_Mem_batches_O.spec p0 sv0 p0_0 l0 p0_2 _ h22) (by decide) rfl (by decide) rfl) rfl rfl rfl ?_
 rintro _ _ ⟨rfl,rfl⟩
 refine ent_value (ov_len 1 rfl F_slice_72 rfl isRd_jout) rfl rfl rfl (ent_value (ov_move rfl) rfl rfl rfl (ent_nil (ent_block ?_)))
 refine ent_loop (fun k a w => ∃ i4,∃ l5,∃ sv65 : JG,mem_Mem_Batches_O_l0 K l0 k i4 l5 = some r ∧ St 22 w0 F [(2,sv65.sv),(6,sv0.sv),(7,I (l0.length : Int)),(8,I i4)] [box p0 118 [I p0_0,sv0.sv,I p0_2],(jown sv0 66 4 enc_Wal_Batch 93 6 jlen_Wal_Batch jics_Wal_Batch l0),(jown sv65 66 4 enc_Wal_Batch 93 6 jlen_Wal_Batch jics_Wal_Batch l5)] a w) K ?_ ?_
 ·refine ent_jnil 66 4 enc_Wal_Batch 93 6 jlen_Wal_Batch jics_Wal_Batch ?_
  exact ent_fin [1,2,0] (by decide) rfl (sub_cons (t := 2) rfl (sub_cons (t := 6) rfl (sub_cons (t := 7) rfl (sub_cons (t := 8) rfl (sub_nil _))))) fun a w h => ⟨_,_,jnil,H,h⟩
 ·refine fun k => ent_exi fun i4 => ent_exi fun l5 => ent_exi fun sv65 => ent_and fun H4 => ?_
  let C0_ : List Value := [I ((l0.getD i4.toNat z_Wal_Batch).Seq),I ((l0.getD i4.toNat z_Wal_Batch).Tick),I ((l0.getD i4.toNat z_Wal_Batch).Budget),(sv0.vs i4.toNat)]
  cases k with
  | zero => exact absurd H4 (by simp [C0_,mem_Mem_Batches_O_l0])
  | succ k =>
   rw [mem_Mem_Batches_O_l0] at H4
   refine ent_seq (ent_region (ent_value (ov_bin rfl rfl (b_lss _ _ _)) rfl rfl rfl (ent_nil (ent_seq ?_))))
   refine htF H4 (fun c60 H4 => ?_) fun c60 H4 => ?_
   ·refine ent_cond_false rfl (decide_eq_false c60) (ent_exit (ent_seq (ent_region (ent_value (ov_move rfl) rfl rfl rfl (ent_value (ov_assign rfl) rfl rfl rfl (ent_nil (ent_retc ?_)))))))
    cases H4
    refine ent_pick [0,1,2] (by decide) rfl ?_
    exact ret_tmp rfl rfl ⟨sv65,rfl,rfl⟩
   refine ent_cond_true rfl (decide_eq_true c60) (ent_skip (ent_seq (ent_block (ent_seq (ent_region ?_)))))
   obtain ⟨c63,H4⟩ := gdT H4
   refine ent_value (ov_indexAddr (sz := 3) 1 rfl rfl F_slice_72 F_size_66 rfl isRd_jout c63 c60) rfl rfl rfl ?_
   refine ent_value (ov_load_agg (vs := C0_) rfl F_agg_66 F_size_66 (reads_rd (i := 1) rfl isRd_jout (by simp [C0_]) (flJ_rd0 enc_Wal_Batch_len (ix_lt c63 c60) rfl))) rfl rfl rfl ?_
   refine ent_op (ot_alloc F_zero_66) rfl rfl rfl ?_
   rintro _ _ ⟨b24,rfl,rfl⟩
   refine ent_op0 (ot_storeG (cs := [I 0,I 0,I 0,L0]) (cs' := C0_) (us := C0_) (L' := [box b24 66 C0_,box p0 118 [I p0_0,sv0.sv,I p0_2],(jown sv0 66 4 enc_Wal_Batch 93 6 jlen_Wal_Batch jics_Wal_Batch l0),(jown sv65 66 4 enc_Wal_Batch 93 6 jlen_Wal_Batch jics_Wal_Batch l5)]) 0 rfl rfl rfl (one_cons rfl (one_cons rfl (one_cons rfl (one_sl 2 rfl (show IsRd _ _ ((l0.getD i4.toNat z_Wal_Batch).Facts).length 6 (fl enc_Api_Fact ((l0.getD i4.toNat z_Wal_Batch).Facts)) from isRd_jin (z := z_Wal_Batch) (ix_lt c63 c60)) one_nil)))) F_size_66 rfl rfl (by simp [C0_]) rfl) rfl rfl ?_
   rintro _ _ rfl
   refine ent_nil (ent_seq (ent_region (ent_value (ov_fieldAddr (sz := 0) (o := 0) rfl F_field_66_3 F_size_46) rfl rfl rfl (ent_value (ov_load (v := (sv0.vs i4.toNat)) rfl F_agg_46 (reads_box1 (i := 0) rfl rfl)) rfl rfl rfl ?_))))
   obtain ⟨x24,h28,H4⟩ := Option.bind_eq_some_iff.1 H4
   refine ent_pick [2,0,1,3] (by decide) rfl ?_
   refine ent_op (ot_call (Lr := [box b24 66 C0_,box p0 118 [I p0_0,sv0.sv,I p0_2],(jown sv65 66 4 enc_Wal_Batch 93 6 jlen_Wal_Batch jics_Wal_Batch l5)]) (first := []) (cap := []) (xs := [.tmp 13]) rfl rfl F_call_54 rfl (slices_Clone____api_Fact__api_Fact_R.spec (sv0.vs i4.toNat) (jown sv0 66 4 enc_Wal_Batch 93 6 jlen_Wal_Batch jics_Wal_Batch l0) ((l0.getD i4.toNat z_Wal_Batch).Facts) (show IsRd _ _ ((l0.getD i4.toNat z_Wal_Batch).Facts).length 6 (fl enc_Api_Fact ((l0.getD i4.toNat z_Wal_Batch).Facts)) from isRd_jin (z := z_Wal_Batch) (ix_lt c63 c60)) _ h28) rfl) rfl rfl rfl ?_
   rintro sv75 _ ⟨_,⟨_,rfl,rfl⟩,rfl⟩
   let C1_ : List Value := [I ((l0.getD i4.toNat z_Wal_Batch).Seq),I ((l0.getD i4.toNat z_Wal_Batch).Tick),I ((l0.getD i4.toNat z_Wal_Batch).Budget),sv75]
   refine ent_value (ov_fieldAddr (sz := 0) (o := 0) rfl F_field_66_3 F_size_46) rfl rfl rfl ?_
   refine ent_op0 (ot_storeS (cs := C0_) (cs' := C1_) (sv := sv75) (L' := [(jown sv0 66 4 enc_Wal_Batch 93 6 jlen_Wal_Batch jics_Wal_Batch l0),own sv75 93 6 x24.length (fl enc_Api_Fact x24),box b24 66 C1_,box p0 118 [I p0_0,sv0.sv,I p0_2],(jown sv65 66 4 enc_Wal_Batch 93 6 jlen_Wal_Batch jics_Wal_Batch l5)]) 2 1 rfl rfl F_size_46 rfl rfl (isRd_ownx 93) rfl (by simp [C0_,C1_]) rfl) rfl rfl ?_
   rintro _ _ rfl
   refine ent_nil (ent_region (ent_value (ov_move rfl) rfl rfl rfl (ent_value (ov_load_agg (vs := C1_) rfl F_agg_66 F_size_66 (reads_boxW (i := 2) rfl)) rfl rfl rfl ?_)))
   refine ent_op (ot_buildSlice (sz := 3) (xs := [.tmp 17]) (cs := enc_Wal_Batch (⟨(l0.getD i4.toNat z_Wal_Batch).Seq,(l0.getD i4.toNat z_Wal_Batch).Tick,(l0.getD i4.toNat z_Wal_Batch).Budget,x24⟩ : Wal_Batch) sv75) rfl rfl F_slice_72 F_size_66 F_zero_66 rfl rfl (all_size rfl) rfl (by decide)) rfl rfl rfl ?_
   rintro sv76 _ rfl
   refine ent_L [own sv76 66 4 1 (enc_Wal_Batch (⟨(l0.getD i4.toNat z_Wal_Batch).Seq,(l0.getD i4.toNat z_Wal_Batch).Tick,(l0.getD i4.toNat z_Wal_Batch).Budget,x24⟩ : Wal_Batch) sv75),(jown sv0 66 4 enc_Wal_Batch 93 6 jlen_Wal_Batch jics_Wal_Batch l0),own sv75 93 6 x24.length (fl enc_Api_Fact x24),box b24 66 C1_,box p0 118 [I p0_0,sv0.sv,I p0_2],(jown sv65 66 4 enc_Wal_Batch 93 6 jlen_Wal_Batch jics_Wal_Batch l5)] rfl ?_
   obtain ⟨c64,H4⟩ := gdT H4
   refine ent_op (ot_appendJ (sz := 3) [5,0,2,1,3,4] (by decide) rfl rfl rfl F_slice_72 F_size_66 F_zero_66 rfl F_bytes_66 rfl (enc_Wal_Batch_one _ _) c64) rfl rfl rfl ?_
   rintro _ _ ⟨sv77,rfl,rfl⟩
   refine ent_L [(jown sv77 66 4 enc_Wal_Batch 93 6 jlen_Wal_Batch jics_Wal_Batch (l5 ++ [(⟨(l0.getD i4.toNat z_Wal_Batch).Seq,(l0.getD i4.toNat z_Wal_Batch).Tick,(l0.getD i4.toNat z_Wal_Batch).Budget,x24⟩ : Wal_Batch)])),(jown sv0 66 4 enc_Wal_Batch 93 6 jlen_Wal_Batch jics_Wal_Batch l0),box b24 66 C1_,box p0 118 [I p0_0,sv0.sv,I p0_2]] rfl ?_
   refine ent_value (ov_assign rfl) rfl rfl rfl (ent_nil (ent_region (ent_value (ov_bin rfl rfl (b_add _ _ _) ) rfl rfl rfl (ent_value (ov_move rfl) rfl rfl rfl (ent_nil ?_)))))
   exact ent_fin [3,1,0] (by decide) rfl (sub_cons (t := 2) rfl (sub_cons (t := 6) rfl (sub_cons (t := 7) rfl (sub_cons (t := 8) rfl (sub_nil _))))) fun a w h => ⟨k,Nat.lt_succ_self k,_,_,sv77,H4,h⟩

end Go.Proofs.Ytndeodpckfjakaa.MemOnce
