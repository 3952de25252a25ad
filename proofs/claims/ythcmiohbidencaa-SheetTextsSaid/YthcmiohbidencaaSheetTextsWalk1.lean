/- Printed by gen.py: that the machine's calls do what the plain functions of SheetTexts say. -/
import Derived.Test.YthcmiohbidencaaSheetTextsWalk0
import Derived.Test.YthcmiohbidencaaProg
import Derived.Test.YthcmiohbidencaaEInsert
import Derived.Test.YthcmiohbidencaaEBuild
import Derived.Test.YthcmiohbidencaaEShelf
import Derived.Test.YthcmiohbidencaaELib
import Derived.Test.YthcmiohbidencaaSheetTextsPure
set_option linter.unusedVariables false
set_option linter.unusedSimpArgs false
set_option maxHeartbeats 1000000
namespace Go.Proofs.Ythcmiohbidencaa.SheetTexts
open Go Go.RowKit E
open Go.Value (int bool slice agg)

set_option maxRecDepth 100000 in
theorem words_Line_NN.spec (K : Nat) (a0_1 : Int) (r : ((List UInt8) × Int)) (H : words_Line_NN K a0_1 = some r) : FnSpec Try.prog 63 [(agg #[(int .i64 4), (int .i64 a0_1), (slice none 0 0), (int .i64 0), (int .i64 0), (bool false), (bool false), (bool false), (bool false), (bool false), (bool false), (bool false), (bool false), (str ([] : List UInt8)), (str ([] : List UInt8)), (str ([] : List UInt8)), (str ([] : List UInt8)), (int .i64 0), (int .i64 0), (int .i64 0), (int .i64 0), (int .i64 0), (int .i64 0), (int .i64 0), (int .i64 0), (int .i64 0), (slice none 0 0)]), (int .i64 1)] [] (fun v M => v = (Value.tuple #[(str r.1), (int .i64 r.2)]) ∧ M = []) := by
 unfold words_Line_NN at H
 refine spec_of Try.func63 rfl 83 rfl (Nat.le_of_ble_eq_true rfl) fun F w0 => ?_
 show Ent (St 83 w0 F [(0, (agg #[(int .i64 4), (int .i64 a0_1), (slice none 0 0), (int .i64 0), (int .i64 0), (bool false), (bool false), (bool false), (bool false), (bool false), (bool false), (bool false), (bool false), (str ([] : List UInt8)), (str ([] : List UInt8)), (str ([] : List UInt8)), (str ([] : List UInt8)), (int .i64 0), (int .i64 0), (int .i64 0), (int .i64 0), (int .i64 0), (int .i64 0), (int .i64 0), (int .i64 0), (int .i64 0), (slice none 0 0)])), (1, (int .i64 1))] []) _
 refine ent_seq ?_
 refine ent_region ?_
 refine ent_op (ot_box (cs := [(int .i64 4), (int .i64 a0_1), (slice none 0 0), (int .i64 0), (int .i64 0), (bool false), (bool false), (bool false), (bool false), (bool false), (bool false), (bool false), (bool false), (str ([] : List UInt8)), (str ([] : List UInt8)), (str ([] : List UInt8)), (str ([] : List UInt8)), (int .i64 0), (int .i64 0), (int .i64 0), (int .i64 0), (int .i64 0), (int .i64 0), (int .i64 0), (int .i64 0), (int .i64 0), (slice none 0 0)]) rfl rfl) rfl rfl rfl ?_
 rintro _ _ ⟨b4, rfl, rfl⟩
 refine ent_value (ov_assign rfl) rfl rfl rfl ?_
 refine ent_value (ov_assign rfl) rfl rfl rfl ?_
 refine ent_nil ?_
 refine ent_seq ?_
 refine ent_seq ?_
 refine ent_region ?_
 refine ent_value (ov_load_agg (vs := [(int .i64 4), (int .i64 a0_1), (slice none 0 0), (int .i64 0), (int .i64 0), (bool false), (bool false), (bool false), (bool false), (bool false), (bool false), (bool false), (bool false), (str ([] : List UInt8)), (str ([] : List UInt8)), (str ([] : List UInt8)), (str ([] : List UInt8)), (int .i64 0), (int .i64 0), (int .i64 0), (int .i64 0), (int .i64 0), (int .i64 0), (int .i64 0), (int .i64 0), (int .i64 0), (slice none 0 0)]) rfl F_agg_108 F_size_108 (reads_boxW (i := 0) rfl)) rfl rfl rfl ?_
 refine ent_value (ov_move rfl) rfl rfl rfl ?_
 obtain ⟨x44, h43, H⟩ := Option.bind_eq_some_iff.1 H
 refine ent_op (ot_call0 (first := []) (cap := []) (xs := [.tmp 12, .tmp 13]) rfl rfl F_call_73 rfl (script_Right_NN.spec K a0_1 _ h43)) rfl rfl rfl ?_
 rintro _ _ ⟨rfl, rfl⟩
 refine ent_value (ov_un rfl (u_not _)) rfl rfl rfl ?_
 refine ent_nil ?_
 by_cases c44 : (!x44) = true
 ·rw [if_pos c44] at H
  refine ent_cond_true rfl c44 ?_
  refine ent_seq ?_
  refine ent_region ?_
  refine ent_value (ov_assign rfl) rfl rfl rfl ?_
  refine ent_value (ov_assign rfl) rfl rfl rfl ?_
  refine ent_nil ?_
  refine ent_retc ?_
  cases H
  refine ent_pick [] (by decide) rfl ?_
  exact ret_mem (vs := [(str ([] : List UInt8)), (int .i64 1)]) rfl ⟨rfl, ⟨rfl, trivial⟩⟩ _ rfl ⟨rfl, rfl⟩
 ·rw [if_neg c44] at H
  refine ent_cond_false rfl (Bool.eq_false_iff.2 c44) ?_
  refine ent_skip ?_
  refine ent_seq ?_
  refine ent_region ?_
  refine ent_op (ot_alloc F_zero_119) rfl rfl rfl ?_
  rintro _ _ ⟨b5, rfl, rfl⟩
  refine ent_nil ?_
  obtain ⟨x64, H5, H⟩ := Option.bind_eq_some_iff.1 H
  refine ent_seq_cut (fun a w => ∃ b6 : Nat, ∃ sv59 : Value, St 83 w0 F [(6, (pt b6 0))] [(box b6 119 [sv59]), (own sv59 9 1 x64.length (fl eS x64))] a w) ?_ ?_
  ·refine ent_seq ?_
   refine ent_region ?_
   refine ent_value (ov_fieldAddr (sz := 0) (o := 0) rfl F_field_108_0 F_size_3) rfl rfl rfl ?_
   refine ent_value (ov_load (v := (int .i64 4)) rfl F_agg_3 (reads_box1 (i := 1) rfl rfl)) rfl rfl rfl ?_
   refine ent_nil ?_
   refine ent_block ?_
   refine ent_seq ?_
   refine ent_region ?_
   refine ent_value (ov_bin rfl rfl (b_eql _ _ _)) rfl rfl rfl ?_
   refine ent_value (ov_assign rfl) rfl rfl rfl ?_
   refine ent_nil ?_
   refine ent_cond_false rfl rfl ?_
   refine ent_seq ?_
   refine ent_region ?_
   refine ent_value (ov_bin rfl rfl (b_eql _ _ _)) rfl rfl rfl ?_
   refine ent_value (ov_assign rfl) rfl rfl rfl ?_
   refine ent_nil ?_
   refine ent_cond_false rfl rfl ?_
   refine ent_seq ?_
   refine ent_region ?_
   refine ent_value (ov_bin rfl rfl (b_eql _ _ _)) rfl rfl rfl ?_
   refine ent_value (ov_assign rfl) rfl rfl rfl ?_
   refine ent_nil ?_
   refine ent_cond_false rfl rfl ?_
   refine ent_seq ?_
   refine ent_region ?_
   refine ent_value (ov_bin rfl rfl (b_eql _ _ _)) rfl rfl rfl ?_
   refine ent_value (ov_assign rfl) rfl rfl rfl ?_
   refine ent_nil ?_
   refine ent_cond_false rfl rfl ?_
   refine ent_seq ?_
   refine ent_region ?_
   refine ent_value (ov_bin rfl rfl (b_eql _ _ _)) rfl rfl rfl ?_
   refine ent_value (ov_assign rfl) rfl rfl rfl ?_
   refine ent_nil ?_
   refine ent_cond_false rfl rfl ?_
   refine ent_seq ?_
   refine ent_region ?_
   obtain ⟨x65, h63, H5⟩ := thn_elim H5
   refine ent_op (ot_call0 (first := []) (cap := []) (xs := []) rfl rfl F_call_80 rfl (words_steps.spec _ h63)) rfl rfl rfl ?_
   rintro _ _ ⟨rfl, rfl⟩
   refine ent_value (ov_move rfl) rfl rfl rfl ?_
   refine ent_nil ?_
   refine ent_block ?_
   refine ent_loop (fun k a w => ∃ i5, ∃ l6, ∃ sv66 : Value, words_Line_NN_l0 K a0_1 x65 k i5 l6 = some x64 ∧ St 83 w0 F [(2, (pt b4 0)), (6, (pt b5 0)), (18, (agg #[(int .i64 x65.1), (int .i64 x65.2.1), (int .i64 x65.2.2.1), (int .i64 x65.2.2.2)])), (19, (int .i64 i5))] [(box b4 108 [(int .i64 4), (int .i64 a0_1), (slice none 0 0), (int .i64 0), (int .i64 0), (bool false), (bool false), (bool false), (bool false), (bool false), (bool false), (bool false), (bool false), (str ([] : List UInt8)), (str ([] : List UInt8)), (str ([] : List UInt8)), (str ([] : List UInt8)), (int .i64 0), (int .i64 0), (int .i64 0), (int .i64 0), (int .i64 0), (int .i64 0), (int .i64 0), (int .i64 0), (int .i64 0), (slice none 0 0)]), (box b5 119 [sv66]), (own sv66 9 1 l6.length (fl eS l6))] a w) K ?_ ?_
   ·refine ent_ownnil 9 1 ?_
    exact ent_fin [2, 1, 0] (by decide) rfl (sub_cons (t := 2) rfl (sub_cons (t := 6) rfl (sub_cons (t := 18) rfl (sub_cons (t := 19) rfl (sub_nil _))))) fun a w h => ⟨_, _, _, H5, h⟩
   ·refine fun k => ent_exi fun i5 => ent_exi fun l6 => ent_exi fun sv66 => ent_and fun H6 => ?_
    cases k with
    | zero => exact absurd H6 (by simp [words_Line_NN_l0])
    | succ k =>
     rw [words_Line_NN_l0] at H6
     refine ent_seq ?_
     refine ent_region ?_
     refine ent_value (ov_bin rfl rfl (b_lss _ _ _)) rfl rfl rfl ?_
     refine ent_nil ?_
     refine ent_seq ?_
     by_cases c78 : i5 < 4
     ·rw [if_pos c78] at H6
      refine ent_cond_true rfl (decide_eq_true c78) ?_
      refine ent_skip ?_
      refine ent_seq ?_
      refine ent_block ?_
      refine ent_seq ?_
      refine ent_region ?_
      refine ent_value (ov_move rfl) rfl rfl rfl ?_
      by_cases c82 : 0 ≤ i5
      ·rw [if_pos c82] at H6
       by_cases c83 : i5 < (4 : Int)
       ·rw [if_pos c83] at H6
        refine ent_value (ov_indexAgg rfl rfl F_array_127 F_size_3 F_agg_3 c82 c83 (cases4 (fun i_ => #[(int .i64 x65.1), (int .i64 x65.2.1), (int .i64 x65.2.2.1), (int .i64 x65.2.2.2)][i_]? = some (int .i64 ([x65.1, x65.2.1, x65.2.2.1, x65.2.2.2].getD i_ 0))) (ix_lt c82 c83) rfl rfl rfl rfl)) rfl rfl rfl ?_
        refine ent_value (ov_assign rfl) rfl rfl rfl ?_
        refine ent_value (ov_assign rfl) rfl rfl rfl ?_
        refine ent_nil ?_
        refine ent_seq ?_
        refine ent_region ?_
        refine ent_value (ov_move rfl) rfl rfl rfl ?_
        refine ent_value (ov_fieldAddr (sz := 0) (o := 0) rfl F_field_108_0 F_size_3) rfl rfl rfl ?_
        refine ent_value (ov_load (v := (int .i64 4)) rfl F_agg_3 (reads_box1 (i := 0) rfl rfl)) rfl rfl rfl ?_
        refine ent_value (ov_bin rfl rfl (b_eql _ _ _)) rfl rfl rfl ?_
        refine ent_nil ?_
        by_cases c84 : ([x65.1, x65.2.1, x65.2.2.1, x65.2.2.2].getD i5.toNat 0) = 4
        ·rw [if_pos c84] at H6
         refine ent_cond_true rfl (eq_t c84) ?_
         refine ent_seq ?_
         refine ent_region ?_
         obtain ⟨x81, h79, H6⟩ := thn_elim H6
         refine ent_op (ot_call0 (first := []) (cap := []) (xs := []) rfl rfl F_call_81 rfl (words_kinds.spec _ h79)) rfl rfl rfl ?_
         rintro _ _ ⟨rfl, rfl⟩
         refine ent_value (ov_move rfl) rfl rfl rfl ?_
         refine ent_value (ov_indexAgg rfl rfl F_array_103 F_size_9 F_agg_9 c82 c83 (cases4 (fun i_ => #[(str x81.1), (str x81.2.1), (str x81.2.2.1), (str x81.2.2.2)][i_]? = some (str ([x81.1, x81.2.1, x81.2.2.1, x81.2.2.2].getD i_ []))) (ix_lt c82 c83) rfl rfl rfl rfl)) rfl rfl rfl ?_
         refine ent_op (ot_buildSlice (sz := 0) (xs := [.tmp 29]) (cs := fl eS [([x81.1, x81.2.1, x81.2.2.1, x81.2.2.2].getD i5.toNat [])]) rfl rfl F_slice_32 F_size_9 F_zero_9 rfl rfl (all_size rfl) rfl (by decide)) rfl rfl rfl ?_
         rintro sv76 _ rfl
         obtain ⟨x82, h80, H6⟩ := Option.bind_eq_some_iff.1 H6
         refine ent_pick [2, 3, 0, 1] (by decide) rfl ?_
         refine ent_op (ot_call (Lr := [(box b4 108 [(int .i64 4), (int .i64 a0_1), (slice none 0 0), (int .i64 0), (int .i64 0), (bool false), (bool false), (bool false), (bool false), (bool false), (bool false), (bool false), (bool false), (str ([] : List UInt8)), (str ([] : List UInt8)), (str ([] : List UInt8)), (str ([] : List UInt8)), (int .i64 0), (int .i64 0), (int .i64 0), (int .i64 0), (int .i64 0), (int .i64 0), (int .i64 0), (int .i64 0), (int .i64 0), (slice none 0 0)])]) (first := []) (cap := []) (xs := [.tmp 6, .tmp 30]) rfl rfl F_call_74 rfl (words_line_put_OR.spec b5 sv66 sv76 (own sv76 9 1 [([x81.1, x81.2.1, x81.2.2.1, x81.2.2.2].getD i5.toNat [])].length (fl eS [([x81.1, x81.2.1, x81.2.2.1, x81.2.2.2].getD i5.toNat [])])) l6 [([x81.1, x81.2.1, x81.2.2.1, x81.2.2.2].getD i5.toNat [])] (isRd_ownx 9) _ h80) rfl) rfl rfl rfl ?_
         rintro _ _ ⟨_, ⟨sv77, rfl, rfl⟩, rfl⟩
         refine ent_nil ?_
         refine ent_region ?_
         refine ent_value (ov_fieldAddr (sz := 0) (o := 0) rfl F_field_108_1 F_size_2) rfl rfl rfl ?_
         refine ent_value (ov_load (v := (int .i64 a0_1)) rfl F_agg_2 (reads_box1 (i := 3) rfl rfl)) rfl rfl rfl ?_
         obtain ⟨x83, h81, H6⟩ := Option.bind_eq_some_iff.1 H6
         refine ent_op (ot_call (Lr := [(own sv76 9 1 [([x81.1, x81.2.1, x81.2.2.1, x81.2.2.2].getD i5.toNat [])].length (fl eS [([x81.1, x81.2.1, x81.2.2.1, x81.2.2.2].getD i5.toNat [])])), (box b4 108 [(int .i64 4), (int .i64 a0_1), (slice none 0 0), (int .i64 0), (int .i64 0), (bool false), (bool false), (bool false), (bool false), (bool false), (bool false), (bool false), (bool false), (str ([] : List UInt8)), (str ([] : List UInt8)), (str ([] : List UInt8)), (str ([] : List UInt8)), (int .i64 0), (int .i64 0), (int .i64 0), (int .i64 0), (int .i64 0), (int .i64 0), (int .i64 0), (int .i64 0), (int .i64 0), (slice none 0 0)])]) (first := []) (cap := []) (xs := [.tmp 6, .tmp 33]) rfl rfl F_call_78 rfl (words_line_num_O.spec K b5 sv77 x82 a0_1 _ h81) rfl) rfl rfl rfl ?_
         rintro _ _ ⟨_, ⟨sv78, rfl, rfl⟩, rfl⟩
         refine ent_nil ?_
         refine ent_region ?_
         refine ent_value (ov_bin rfl rfl (b_add _ _ _) ) rfl rfl rfl ?_
         refine ent_value (ov_move rfl) rfl rfl rfl ?_
         refine ent_nil ?_
         exact ent_fin [3, 0, 1] (by decide) rfl (sub_cons (t := 2) rfl (sub_cons (t := 6) rfl (sub_cons (t := 18) rfl (sub_cons (t := 19) rfl (sub_nil _))))) fun a w h => ⟨k, Nat.lt_succ_self k, _, _, _, H6, h⟩
        ·rw [if_neg c84] at H6
         refine ent_cond_false rfl (eq_f c84) ?_
         refine ent_skip ?_
         refine ent_region ?_
         refine ent_value (ov_bin rfl rfl (b_add _ _ _) ) rfl rfl rfl ?_
         refine ent_value (ov_move rfl) rfl rfl rfl ?_
         refine ent_nil ?_
         exact ent_fin [0, 1, 2] (by decide) rfl (sub_cons (t := 2) rfl (sub_cons (t := 6) rfl (sub_cons (t := 18) rfl (sub_cons (t := 19) rfl (sub_nil _))))) fun a w h => ⟨k, Nat.lt_succ_self k, _, _, _, H6, h⟩
       ·rw [if_neg c83] at H6
        cases H6
      ·rw [if_neg c82] at H6
       cases H6
     ·rw [if_neg c78] at H6
      refine ent_cond_false rfl (decide_eq_false c78) ?_
      refine ent_exit ?_
      cases H6
      exact ent_fin [1, 2] (by decide) rfl (sub_cons (t := 6) rfl (sub_nil _)) fun a w h => ⟨_, _, h⟩
  ·refine ent_exi fun b6 => ent_exi fun sv59 => ?_
   refine ent_seq ?_
   refine ent_region ?_
   refine ent_value (ov_fieldAddr (sz := 0) (o := 0) rfl F_field_119_0 F_size_32) rfl rfl rfl ?_
   refine ent_value (ov_load (v := sv59) rfl F_agg_32 (reads_box1 (i := 0) rfl rfl)) rfl rfl rfl ?_
   obtain ⟨x84, h82, H⟩ := Option.bind_eq_some_iff.1 H
   refine ent_op (ot_call_same (Lr := [(box b6 119 [sv59])]) [1, 0] [1, 0] (first := []) (cap := []) (xs := [.tmp 81, .const (str ([32] : List UInt8))]) rfl rfl F_call_82 rfl (strings_Join.spec sv59 (own sv59 9 1 x64.length (fl eS x64)) x64 ([32] : List UInt8) (isRd_ownx 9) _ h82) (by decide) rfl (by decide) rfl) rfl rfl rfl ?_
   rintro _ _ ⟨rfl, rfl⟩
   refine ent_value (ov_assign rfl) rfl rfl rfl ?_
   refine ent_value (ov_assign rfl) rfl rfl rfl ?_
   refine ent_nil ?_
   refine ent_retc ?_
   cases H
   refine ent_pick [] (by decide) rfl ?_
   exact ret_mem (vs := [(str x84), (int .i64 0)]) rfl ⟨rfl, ⟨rfl, trivial⟩⟩ _ rfl ⟨rfl, rfl⟩

theorem stringslite_Index.spec (a0 a1 : List UInt8) (r : Int) (H : stringslite_Index a0 a1 = some r) : FnSpec Try.prog 70 [(str a0), (str a1)] [] (fun v M => v = (int .i64 r) ∧ M = []) := by
 unfold stringslite_Index at H
 split at H
 ·cases H
  rename_i c
  have := spec_index1 (fun s c w => Try.stringslite_Index_one s c w) a0 c
  rw [idxB_eq] at this
  exact this
 ·cases H

set_option maxRecDepth 100000 in
theorem stringslite_Cut.spec (a0 : List UInt8) (a1 : List UInt8) (r : ((List UInt8) × (List UInt8) × Bool)) (H : stringslite_Cut a0 a1 = some r) : FnSpec Try.prog 57 [(str a0), (str a1)] [] (fun v M => v = (Value.tuple #[(str r.1), (str r.2.1), (bool r.2.2)]) ∧ M = []) := by
 unfold stringslite_Cut at H
 refine spec_of Try.func57 rfl 23 rfl (Nat.le_of_ble_eq_true rfl) fun F w0 => ?_
 show Ent (St 23 w0 F [(0, (str a0)), (1, (str a1))] []) _
 refine ent_seq ?_
 refine ent_region ?_
 refine ent_value (ov_assign rfl) rfl rfl rfl ?_
 refine ent_value (ov_assign rfl) rfl rfl rfl ?_
 refine ent_value (ov_assign rfl) rfl rfl rfl ?_
 refine ent_nil ?_
 refine ent_seq ?_
 refine ent_seq ?_
 refine ent_region ?_
 refine ent_value (ov_move rfl) rfl rfl rfl ?_
 refine ent_value (ov_move rfl) rfl rfl rfl ?_
 obtain ⟨x4, h4, H⟩ := Option.bind_eq_some_iff.1 H
 refine ent_op (ot_call0 (first := []) (cap := []) (xs := [.tmp 8, .tmp 9]) rfl rfl F_call_70 rfl (stringslite_Index.spec a0 a1 _ h4)) rfl rfl rfl ?_
 rintro _ _ ⟨rfl, rfl⟩
 refine ent_value (ov_assign rfl) rfl rfl rfl ?_
 refine ent_nil ?_
 refine ent_seq ?_
 refine ent_region ?_
 refine ent_value (ov_move rfl) rfl rfl rfl ?_
 refine ent_value (ov_bin rfl rfl (b_geq _ _ _)) rfl rfl rfl ?_
 refine ent_nil ?_
 by_cases c13 : 0 ≤ x4
 ·rw [if_pos c13] at H
  refine ent_cond_true rfl (decide_eq_true c13) ?_
  refine ent_seq ?_
  by_cases c14 : x4 ≤ (a0.length : Int)
  ·rw [if_pos c14] at H
   by_cases c15 : 0 ≤ (w64 (x4 + (a1.length : Int)))
   ·rw [if_pos c15] at H
    by_cases c16 : (w64 (x4 + (a1.length : Int))) ≤ (a0.length : Int)
    ·rw [if_pos c16] at H
     refine ent_drawm 12 rfl (fun done a w => StD 23 w0 F [(0, (str a0)), (1, (str a1)), (7, (int .i64 x4)), (8, (str a0)), (9, (str a1)), (10, (int .i64 x4)), (11, (int .i64 x4)), (12, (bool (decide (0 ≤ x4))))] [(0, 13, (str a0)), (1, 14, (int .i64 x4)), (2, 15, (str (a0.take x4.toNat))), (3, 16, (str a0)), (4, 17, (int .i64 x4)), (5, 18, (str a1)), (6, 19, (int .i64 (a1.length : Int))), (7, 20, (int .i64 (w64 (x4 + (a1.length : Int))))), (8, 21, (str (a0.drop (w64 (x4 + (a1.length : Int))).toNat))), (9, 4, (str (a0.take x4.toNat))), (10, 5, (str (a0.drop (w64 (x4 + (a1.length : Int))).toNat))), (11, 6, (bool true))] done [] a w) (by kernel_rfl) (by kernel_rfl) (draw_startL (sub_cons (t := 0) rfl (sub_cons (t := 1) rfl (sub_cons (t := 7) rfl (sub_cons (t := 8) rfl (sub_cons (t := 9) rfl (sub_cons (t := 10) rfl (sub_cons (t := 11) rfl (sub_cons (t := 12) rfl (sub_nil _))))))))) rfl) ?_ ?_
     ·refine ⟨?_, ?_, ?_, ?_, ?_, ?_, ?_, ?_, ?_, ?_, ?_, ?_, trivial⟩
      ·intro done hi hc hcu
       exact draw_value (i := 0) (t := 13) (v := (str a0)) rfl rfl (wanted_none rfl) (fun a => hasA_base) (ov_move rfl) rfl rfl (onlyT_spec (k0 := 0) rfl rfl rfl)
      ·intro done hi hc hcu
       exact draw_value (i := 1) (t := 14) (v := (int .i64 x4)) rfl rfl (wanted_none rfl) (fun a => hasA_base) (ov_move rfl) rfl rfl (onlyT_spec (k0 := 1) rfl rfl rfl)
      ·intro done hi hc hcu
       have d0 : done 0 = true := done_of (j := 0) hcu rfl (by decide) rfl
       have d1 : done 1 = true := done_of (j := 1) hcu rfl (by decide) rfl
       exact draw_value (i := 2) (t := 15) (v := (str (a0.take x4.toNat))) rfl rfl (wanted_none rfl) (fun a => (hasA_cons (k := 1) rfl d1 (hasA_cons (k := 0) rfl d0 hasA_base))) (ov_sls_hi rfl rfl Try.underlying9 c13 c14) rfl rfl (onlyT_spec (k0 := 2) rfl rfl rfl)
      ·intro done hi hc hcu
       exact draw_value (i := 3) (t := 16) (v := (str a0)) rfl rfl (wanted_none rfl) (fun a => hasA_base) (ov_move rfl) rfl rfl (onlyT_spec (k0 := 3) rfl rfl rfl)
      ·intro done hi hc hcu
       exact draw_value (i := 4) (t := 17) (v := (int .i64 x4)) rfl rfl (wanted_none rfl) (fun a => hasA_base) (ov_move rfl) rfl rfl (onlyT_spec (k0 := 4) rfl rfl rfl)
      ·intro done hi hc hcu
       exact draw_value (i := 5) (t := 18) (v := (str a1)) rfl rfl (wanted_none rfl) (fun a => hasA_base) (ov_move rfl) rfl rfl (onlyT_spec (k0 := 5) rfl rfl rfl)
      ·intro done hi hc hcu
       have d5 : done 5 = true := done_of (j := 5) hcu rfl (by decide) rfl
       exact draw_value (i := 6) (t := 19) (v := (int .i64 (a1.length : Int))) rfl rfl (wanted_none rfl) (fun a => (hasA_cons (k := 5) rfl d5 hasA_base)) (ov_lenS rfl Try.underlying9) rfl rfl (onlyT_spec (k0 := 6) rfl rfl rfl)
      ·intro done hi hc hcu
       have d4 : done 4 = true := done_of (j := 4) hcu rfl (by decide) rfl
       have d6 : done 6 = true := done_of (j := 6) hcu rfl (by decide) rfl
       exact draw_value (i := 7) (t := 20) (v := (int .i64 (w64 (x4 + (a1.length : Int))))) rfl rfl (wanted_none rfl) (fun a => (hasA_cons (k := 6) rfl d6 (hasA_cons (k := 4) rfl d4 hasA_base))) (ov_bin rfl rfl (b_add _ _ _) ) rfl rfl (onlyT_spec (k0 := 7) rfl rfl rfl)
      ·intro done hi hc hcu
       have d3 : done 3 = true := done_of (j := 3) hcu rfl (by decide) rfl
       have d7 : done 7 = true := done_of (j := 7) hcu rfl (by decide) rfl
       exact draw_value (i := 8) (t := 21) (v := (str (a0.drop (w64 (x4 + (a1.length : Int))).toNat))) rfl rfl (wanted_none rfl) (fun a => (hasA_cons (k := 7) rfl d7 (hasA_cons (k := 3) rfl d3 hasA_base))) (ov_sls_lo rfl rfl Try.underlying9 c15 c16) rfl rfl (onlyT_spec (k0 := 8) rfl rfl rfl)
      ·intro done hi hc hcu
       have d2 : done 2 = true := done_of (j := 2) hcu rfl (by decide) rfl
       exact draw_value (i := 9) (t := 4) (v := (str (a0.take x4.toNat))) rfl rfl (wanted_none rfl) (fun a => (hasA_cons (k := 2) rfl d2 hasA_base)) (ov_assign rfl) rfl rfl (onlyT_spec (k0 := 9) rfl rfl rfl)
      ·intro done hi hc hcu
       have d8 : done 8 = true := done_of (j := 8) hcu rfl (by decide) rfl
       exact draw_value (i := 10) (t := 5) (v := (str (a0.drop (w64 (x4 + (a1.length : Int))).toNat))) rfl rfl (wanted_none rfl) (fun a => (hasA_cons (k := 8) rfl d8 hasA_base)) (ov_assign rfl) rfl rfl (onlyT_spec (k0 := 10) rfl rfl rfl)
      ·intro done hi hc hcu
       exact draw_value (i := 11) (t := 6) (v := (bool true)) rfl rfl (wanted_none rfl) (fun a => hasA_base) (ov_assign rfl) rfl rfl (onlyT_spec (k0 := 11) rfl rfl rfl)
     ·intro done hall
      refine draw_endL [] rfl (fun a => (hasA_cons (k := 9) rfl (hall 9 (by decide)) (hasA_cons (k := 10) rfl (hall 10 (by decide)) (hasA_cons (k := 11) rfl (hall 11 (by decide)) (hasA_cons (k := 0) rfl (hall 0 (by decide)) (hasA_cons (k := 1) rfl (hall 1 (by decide)) (hasA_cons (k := 2) rfl (hall 2 (by decide)) (hasA_cons (k := 3) rfl (hall 3 (by decide)) (hasA_cons (k := 4) rfl (hall 4 (by decide)) (hasA_cons (k := 5) rfl (hall 5 (by decide)) (hasA_cons (k := 6) rfl (hall 6 (by decide)) (hasA_cons (k := 7) rfl (hall 7 (by decide)) (hasA_cons (k := 8) rfl (hall 8 (by decide)) hasA_base))))))))))))) ?_
      refine ent_retc ?_
      cases H
      refine ent_pick [] (by decide) rfl ?_
      exact ret_mem (vs := [(str (a0.take x4.toNat)), (str (a0.drop (w64 (x4 + (a1.length : Int))).toNat)), (bool true)]) rfl ⟨rfl, ⟨rfl, ⟨rfl, trivial⟩⟩⟩ _ rfl ⟨rfl, rfl⟩
    ·rw [if_neg c16] at H
     cases H
   ·rw [if_neg c15] at H
    cases H
  ·rw [if_neg c14] at H
   cases H
 ·rw [if_neg c13] at H
  refine ent_cond_false rfl (decide_eq_false c13) ?_
  refine ent_skip ?_
  refine ent_seq ?_
  refine ent_region ?_
  refine ent_value (ov_move rfl) rfl rfl rfl ?_
  refine ent_value (ov_assign rfl) rfl rfl rfl ?_
  refine ent_value (ov_assign rfl) rfl rfl rfl ?_
  refine ent_value (ov_assign rfl) rfl rfl rfl ?_
  refine ent_nil ?_
  refine ent_retc ?_
  cases H
  refine ent_pick [] (by decide) rfl ?_
  exact ret_mem (vs := [(str a0), (str ([] : List UInt8)), (bool false)]) rfl ⟨rfl, ⟨rfl, ⟨rfl, trivial⟩⟩⟩ _ rfl ⟨rfl, rfl⟩

set_option maxRecDepth 100000 in
theorem strings_Cut.spec (a0 : List UInt8) (a1 : List UInt8) (r : ((List UInt8) × (List UInt8) × Bool)) (H : strings_Cut a0 a1 = some r) : FnSpec Try.prog 28 [(str a0), (str a1)] [] (fun v M => v = (Value.tuple #[(str r.1), (str r.2.1), (bool r.2.2)]) ∧ M = []) := by
 unfold strings_Cut at H
 refine spec_of Try.func28 rfl 13 rfl (Nat.le_of_ble_eq_true rfl) fun F w0 => ?_
 show Ent (St 13 w0 F [(0, (str a0)), (1, (str a1))] []) _
 refine ent_seq ?_
 refine ent_region ?_
 refine ent_value (ov_assign rfl) rfl rfl rfl ?_
 refine ent_value (ov_assign rfl) rfl rfl rfl ?_
 refine ent_value (ov_assign rfl) rfl rfl rfl ?_
 refine ent_nil ?_
 refine ent_seq ?_
 refine ent_region ?_
 refine ent_value (ov_move rfl) rfl rfl rfl ?_
 refine ent_value (ov_move rfl) rfl rfl rfl ?_
 obtain ⟨x2, h2, H⟩ := Option.bind_eq_some_iff.1 H
 refine ent_op (ot_call0 (first := []) (cap := []) (xs := [.tmp 7, .tmp 8]) rfl rfl F_call_57 rfl (stringslite_Cut.spec a0 a1 _ h2)) rfl rfl rfl ?_
 rintro _ _ ⟨rfl, rfl⟩
 refine ent_value (ov_extract rfl rfl) rfl rfl rfl ?_
 refine ent_value (ov_extract rfl rfl) rfl rfl rfl ?_
 refine ent_value (ov_extract rfl rfl) rfl rfl rfl ?_
 refine ent_value (ov_assign rfl) rfl rfl rfl ?_
 refine ent_value (ov_assign rfl) rfl rfl rfl ?_
 refine ent_value (ov_assign rfl) rfl rfl rfl ?_
 refine ent_nil ?_
 refine ent_retc ?_
 cases H
 refine ent_pick [] (by decide) rfl ?_
 exact ret_mem (vs := [(str x2.1), (str x2.2.1), (bool x2.2.2)]) rfl ⟨rfl, ⟨rfl, ⟨rfl, trivial⟩⟩⟩ _ rfl ⟨rfl, rfl⟩

set_option maxRecDepth 100000 in
theorem sheet_number.spec (K : Nat) (a0 : Int) (r : List UInt8) (H : sheet_number K a0 = some r) : FnSpec Try.prog 40 [(int .i64 a0)] [] (fun v M => v = (str r) ∧ M = []) := by
 unfold sheet_number at H
 refine spec_of Try.func40 rfl 21 rfl (Nat.le_of_ble_eq_true rfl) fun F w0 => ?_
 show Ent (St 21 w0 F [(0, (int .i64 a0))] []) _
 refine ent_seq ?_
 refine ent_region ?_
 refine ent_value (ov_assign rfl) rfl rfl rfl ?_
 refine ent_nil ?_
 refine ent_seq ?_
 refine ent_region ?_
 refine ent_value (ov_move rfl) rfl rfl rfl ?_
 refine ent_value (ov_build (is := [0, 1]) (xs := [.const (int .i64 4), .tmp 9]) (vs := [(int .i64 4), (int .i64 a0)]) rfl rfl (build_struct (cs := [(int .i64 4), (int .i64 a0), (slice none 0 0), (int .i64 0), (int .i64 0), (bool false), (bool false), (bool false), (bool false), (bool false), (bool false), (bool false), (bool false), (str ([] : List UInt8)), (str ([] : List UInt8)), (str ([] : List UInt8)), (str ([] : List UInt8)), (int .i64 0), (int .i64 0), (int .i64 0), (int .i64 0), (int .i64 0), (int .i64 0), (int .i64 0), (int .i64 0), (int .i64 0), (slice none 0 0)]) F_zero_108 F_places_108 rfl)) rfl rfl rfl ?_
 obtain ⟨x3, h3, H⟩ := Option.bind_eq_some_iff.1 H
 refine ent_op (ot_call0 (first := []) (cap := []) (xs := [.tmp 10, .const (int .i64 1)]) rfl rfl F_call_63 rfl (words_Line_NN.spec K a0 _ h3)) rfl rfl rfl ?_
 rintro _ _ ⟨rfl, rfl⟩
 refine ent_value (ov_move rfl) rfl rfl rfl ?_
 refine ent_value (ov_extract rfl rfl) rfl rfl rfl ?_
 refine ent_value (ov_extract rfl rfl) rfl rfl rfl ?_
 refine ent_value (ov_assign rfl) rfl rfl rfl ?_
 refine ent_value (ov_assign rfl) rfl rfl rfl ?_
 refine ent_nil ?_
 refine ent_seq ?_
 refine ent_region ?_
 refine ent_value (ov_move rfl) rfl rfl rfl ?_
 obtain ⟨x4, h4, H⟩ := Option.bind_eq_some_iff.1 H
 refine ent_op (ot_call0 (first := []) (cap := []) (xs := [.tmp 15, .const (str ([32] : List UInt8))]) rfl rfl F_call_28 rfl (strings_Cut.spec x3.1 ([32] : List UInt8) _ h4)) rfl rfl rfl ?_
 rintro _ _ ⟨rfl, rfl⟩
 refine ent_value (ov_move rfl) rfl rfl rfl ?_
 refine ent_value (ov_extract rfl rfl) rfl rfl rfl ?_
 refine ent_value (ov_extract rfl rfl) rfl rfl rfl ?_
 refine ent_value (ov_extract rfl rfl) rfl rfl rfl ?_
 refine ent_value (ov_assign rfl) rfl rfl rfl ?_
 refine ent_value (ov_assign rfl) rfl rfl rfl ?_
 refine ent_value (ov_assign rfl) rfl rfl rfl ?_
 refine ent_nil ?_
 refine ent_seq ?_
 refine ent_region ?_
 refine ent_value (ov_move rfl) rfl rfl rfl ?_
 refine ent_value (ov_assign rfl) rfl rfl rfl ?_
 refine ent_nil ?_
 refine ent_retc ?_
 cases H
 refine ent_pick [] (by decide) rfl ?_
 exact ret_tmp rfl rfl ⟨rfl, rfl⟩

theorem strings_Builder_copyCheck.spec (p0 : Nat) (r : Unit) (H : strings_Builder_copyCheck = r) : FnSpec Try.prog 62 [(pt p0 0)] [(box p0 73 [(Value.pointer none), (slice none 0 0)])] (fun v M => v = (Value.tuple #[]) ∧ M = [(box p0 73 [(pt p0 0), (slice none 0 0)])]) :=
 (spec_frame [] (spec_copyFresh (fun b w h1 h2 h3 => Any.Builder_copyCheck_fresh ({ Try.lays156 with } : Lays.n240 Try.prog Try.lays156_ren) Try.Builder_Extra_156.toX72 b w h1 h2 h3) p0 (slice none 0 0))).mono fun v M h => by obtain ⟨M0, ⟨rfl, rfl⟩, rfl⟩ := h; exact ⟨rfl, rfl⟩

set_option maxRecDepth 100000 in
theorem strings_Builder_WriteString_ZN.spec (p0 : Nat) (a1 : List UInt8) (r : ((List Int) × Int)) (H : strings_Builder_WriteString_ZN a1 = some r) : FnSpec Try.prog 39 [(pt p0 0), (str a1)] [(box p0 73 [(Value.pointer none), (slice none 0 0)])] (fun v M => ∃ sv2 : Value, v = (Value.tuple #[(int .i64 r.2), Value.nilIface]) ∧ M = [(box p0 73 [(pt p0 0), sv2]), (own sv2 5 1 r.1.length (fl (eI .u8) r.1))]) := by
 unfold strings_Builder_WriteString_ZN at H
 refine spec_of Try.func39 rfl 19 rfl (Nat.le_of_ble_eq_true rfl) fun F w0 => ?_
 show Ent (St 19 w0 F [(0, (pt p0 0)), (1, (str a1))] [(box p0 73 [(Value.pointer none), (slice none 0 0)])]) _
 refine ent_seq ?_
 refine ent_region ?_
 refine ent_value (ov_assign rfl) rfl rfl rfl ?_
 refine ent_value (ov_assign rfl) rfl rfl rfl ?_
 refine ent_nil ?_
 refine ent_seq ?_
 refine ent_region ?_
 refine ent_value (ov_move rfl) rfl rfl rfl ?_
 obtain ⟨u2, h2, H⟩ := thn_elim H
 refine ent_op (ot_call (Lr := []) (first := []) (cap := []) (xs := [.tmp 6]) rfl rfl F_call_62 rfl (strings_Builder_copyCheck.spec p0 _ h2) rfl) rfl rfl rfl ?_
 rintro _ _ ⟨_, ⟨rfl, rfl⟩, rfl⟩
 refine ent_nil ?_
 refine ent_seq ?_
 refine ent_region ?_
 refine ent_value (ov_move rfl) rfl rfl rfl ?_
 refine ent_value (ov_move rfl) rfl rfl rfl ?_
 refine ent_value (ov_nilCheck rfl) rfl rfl rfl ?_
 refine ent_value (ov_fieldAddr (sz := 0) (o := 0) rfl F_field_73_1 F_size_71) rfl rfl rfl ?_
 refine ent_value (ov_load (v := (slice none 0 0)) rfl F_agg_71 (reads_box1 (i := 0) rfl rfl)) rfl rfl rfl ?_
 refine ent_value (ov_move rfl) rfl rfl rfl ?_
 refine ent_ownnil 5 1 ?_
 by_cases c2 : (([] : List Int).length + a1.length) * 1 ≤ 140737488355328
 ·rw [if_pos c2] at H
  refine ent_op (ot_appendS (xs := ([] : List Int)) (s := a1) 0 rfl rfl F_slice_71 Try.underlying9 F_size_5 F_zero1_5 F_bytes_5 rfl c2) rfl rfl rfl ?_
  rintro sv3 _ rfl
  refine ent_L [(own sv3 5 1 (([] : List Int) ++ byts a1).length (fl (eI .u8) (([] : List Int) ++ byts a1))), (box p0 73 [(pt p0 0), (slice none 0 0)])] rfl ?_
  refine ent_value (ov_nilCheck rfl) rfl rfl rfl ?_
  refine ent_value (ov_fieldAddr (sz := 0) (o := 0) rfl F_field_73_1 F_size_71) rfl rfl rfl ?_
  refine ent_op0 (ot_storeS (cs := [(pt p0 0), (slice none 0 0)]) (cs' := [(pt p0 0), sv3]) (sv := sv3) (L' := [(own sv3 5 1 (([] : List Int) ++ byts a1).length (fl (eI .u8) (([] : List Int) ++ byts a1))), (box p0 73 [(pt p0 0), sv3])]) 1 0 rfl rfl F_size_71 rfl rfl (isRd_ownx 5) rfl (by simp) rfl) rfl rfl ?_
  rintro _ _ rfl
  refine ent_nil ?_
  refine ent_seq ?_
  refine ent_region ?_
  refine ent_value (ov_move rfl) rfl rfl rfl ?_
  refine ent_value (ov_lenS rfl Try.underlying9) rfl rfl rfl ?_
  refine ent_value (ov_assign rfl) rfl rfl rfl ?_
  refine ent_value (ov_assign rfl) rfl rfl rfl ?_
  refine ent_nil ?_
  refine ent_retc ?_
  cases H
  refine ent_pick [1, 0] (by decide) rfl ?_
  exact ret_mem (vs := [(int .i64 (a1.length : Int)), Value.nilIface]) rfl ⟨rfl, ⟨rfl, trivial⟩⟩ _ rfl ⟨_, rfl, rfl⟩
 ·rw [if_neg c2] at H
  cases H

theorem strings_Builder_copyCheck_2.spec (p0 : Nat) (sv0 : Value) (l0 : List Int) (r : Unit) (H : strings_Builder_copyCheck_2 l0 = r) : FnSpec Try.prog 62 [(pt p0 0)] [(box p0 73 [(pt p0 0), sv0]), (own sv0 5 1 l0.length (fl (eI .u8) l0))] (fun v M => v = (Value.tuple #[]) ∧ M = [(box p0 73 [(pt p0 0), sv0]), (own sv0 5 1 l0.length (fl (eI .u8) l0))]) :=
 (spec_frame [(own sv0 5 1 l0.length (fl (eI .u8) l0))] (spec_copyUsed (fun b w h => Any.Builder_copyCheck_used ({ Try.lays156 with } : Lays.n240 Try.prog Try.lays156_ren) Try.Builder_Extra_156.toX72 b w h) p0 sv0)).mono fun v M h => by obtain ⟨M0, ⟨rfl, rfl⟩, rfl⟩ := h; exact ⟨rfl, rfl⟩

set_option maxRecDepth 100000 in
theorem strings_Builder_WriteString_O.spec (p0 : Nat) (sv0 : Value) (l0 : List Int) (a1 : List UInt8) (r : ((List Int) × Int)) (H : strings_Builder_WriteString_O l0 a1 = some r) : FnSpec Try.prog 39 [(pt p0 0), (str a1)] [(box p0 73 [(pt p0 0), sv0]), (own sv0 5 1 l0.length (fl (eI .u8) l0))] (fun v M => ∃ sv2 : Value, v = (Value.tuple #[(int .i64 r.2), Value.nilIface]) ∧ M = [(box p0 73 [(pt p0 0), sv2]), (own sv2 5 1 r.1.length (fl (eI .u8) r.1))]) := by
 unfold strings_Builder_WriteString_O at H
 refine spec_of Try.func39 rfl 19 rfl (Nat.le_of_ble_eq_true rfl) fun F w0 => ?_
 show Ent (St 19 w0 F [(0, (pt p0 0)), (1, (str a1))] [(box p0 73 [(pt p0 0), sv0]), (own sv0 5 1 l0.length (fl (eI .u8) l0))]) _
 refine ent_seq ?_
 refine ent_region ?_
 refine ent_value (ov_assign rfl) rfl rfl rfl ?_
 refine ent_value (ov_assign rfl) rfl rfl rfl ?_
 refine ent_nil ?_
 refine ent_seq ?_
 refine ent_region ?_
 refine ent_value (ov_move rfl) rfl rfl rfl ?_
 obtain ⟨u2, h2, H⟩ := thn_elim H
 refine ent_op (ot_call_same (Lr := []) [0, 1] [0, 1] (first := []) (cap := []) (xs := [.tmp 6]) rfl rfl F_call_62 rfl (strings_Builder_copyCheck_2.spec p0 sv0 l0 _ h2) (by decide) rfl (by decide) rfl) rfl rfl rfl ?_
 rintro _ _ ⟨rfl, rfl⟩
 refine ent_nil ?_
 refine ent_seq ?_
 refine ent_region ?_
 refine ent_value (ov_move rfl) rfl rfl rfl ?_
 refine ent_value (ov_move rfl) rfl rfl rfl ?_
 refine ent_value (ov_nilCheck rfl) rfl rfl rfl ?_
 refine ent_value (ov_fieldAddr (sz := 0) (o := 0) rfl F_field_73_1 F_size_71) rfl rfl rfl ?_
 refine ent_value (ov_load (v := sv0) rfl F_agg_71 (reads_box1 (i := 0) rfl rfl)) rfl rfl rfl ?_
 refine ent_value (ov_move rfl) rfl rfl rfl ?_
 by_cases c2 : (l0.length + a1.length) * 1 ≤ 140737488355328
 ·rw [if_pos c2] at H
  refine ent_op (ot_appendS (xs := l0) (s := a1) 1 rfl rfl F_slice_71 Try.underlying9 F_size_5 F_zero1_5 F_bytes_5 rfl c2) rfl rfl rfl ?_
  rintro sv3 _ rfl
  refine ent_L [(box p0 73 [(pt p0 0), sv0]), (own sv3 5 1 (l0 ++ byts a1).length (fl (eI .u8) (l0 ++ byts a1)))] rfl ?_
  refine ent_value (ov_nilCheck rfl) rfl rfl rfl ?_
  refine ent_value (ov_fieldAddr (sz := 0) (o := 0) rfl F_field_73_1 F_size_71) rfl rfl rfl ?_
  refine ent_op0 (ot_storeS (cs := [(pt p0 0), sv0]) (cs' := [(pt p0 0), sv3]) (sv := sv3) (L' := [(box p0 73 [(pt p0 0), sv3]), (own sv3 5 1 (l0 ++ byts a1).length (fl (eI .u8) (l0 ++ byts a1)))]) 0 1 rfl rfl F_size_71 rfl rfl (isRd_ownx 5) rfl (by simp) rfl) rfl rfl ?_
  rintro _ _ rfl
  refine ent_nil ?_
  refine ent_seq ?_
  refine ent_region ?_
  refine ent_value (ov_move rfl) rfl rfl rfl ?_
  refine ent_value (ov_lenS rfl Try.underlying9) rfl rfl rfl ?_
  refine ent_value (ov_assign rfl) rfl rfl rfl ?_
  refine ent_value (ov_assign rfl) rfl rfl rfl ?_
  refine ent_nil ?_
  refine ent_retc ?_
  cases H
  refine ent_pick [0, 1] (by decide) rfl ?_
  exact ret_mem (vs := [(int .i64 (a1.length : Int)), Value.nilIface]) rfl ⟨rfl, ⟨rfl, trivial⟩⟩ _ rfl ⟨_, rfl, rfl⟩
 ·rw [if_neg c2] at H
  cases H

set_option maxRecDepth 100000 in
theorem strings_Builder_String_O.spec (p0 : Nat) (sv0 : Value) (l0 : List Int) (r : List UInt8) (H : strings_Builder_String_O l0 = some r) : FnSpec Try.prog 41 [(pt p0 0)] [(box p0 73 [(pt p0 0), sv0]), (own sv0 5 1 l0.length (fl (eI .u8) l0))] (fun v M => v = (str r) ∧ M = [(box p0 73 [(pt p0 0), sv0])]) := by
 unfold strings_Builder_String_O at H
 refine spec_of Try.func41 rfl 14 rfl (Nat.le_of_ble_eq_true rfl) fun F w0 => ?_
 show Ent (St 14 w0 F [(0, (pt p0 0))] [(box p0 73 [(pt p0 0), sv0]), (own sv0 5 1 l0.length (fl (eI .u8) l0))]) _
 refine ent_seq ?_
 refine ent_region ?_
 refine ent_value (ov_assign rfl) rfl rfl rfl ?_
 refine ent_nil ?_
 refine ent_seq ?_
 by_cases c3 : 0 < l0.length
 ·rw [if_pos c3] at H
  by_cases c4 : (l0.all fun n => decide (0 ≤ n ∧ n ≤ 255)) = true
  ·rw [if_pos c4] at H
   refine ent_drawm 12 rfl (fun done a w => StD 14 w0 F [(0, (pt p0 0))] [(0, 3, (pt p0 0)), (1, 4, (pt p0 0)), (2, 5, (pt p0 1)), (3, 6, sv0), (4, 7, (eptr sv0 0)), (5, 8, (pt p0 0)), (6, 9, (pt p0 0)), (7, 10, (pt p0 1)), (8, 11, sv0), (9, 12, (int .i64 (l0.length : Int))), (10, 13, (str (strs l0))), (11, 2, (str (strs l0)))] done [(box p0 73 [(pt p0 0), sv0]), (sel (done 10) emp (own sv0 5 1 l0.length (fl (eI .u8) l0)))] a w) (by kernel_rfl) (by kernel_rfl) (draw_startL (sub_cons (t := 0) rfl (sub_nil _)) (by simp only [sel])) ?_ ?_
   ·refine ⟨?_, ?_, ?_, ?_, ?_, ?_, ?_, ?_, ?_, ?_, ?_, ?_, trivial⟩
    ·intro done hi hc hcu
     exact draw_value (i := 0) (t := 3) (v := (pt p0 0)) rfl rfl (wanted_none rfl) (fun a => hasA_base) (ov_move rfl) rfl rfl (onlyT_spec (k0 := 0) rfl rfl rfl)
    ·intro done hi hc hcu
     have d0 : done 0 = true := done_of (j := 0) hcu rfl (by decide) rfl
     exact draw_value (i := 1) (t := 4) (v := (pt p0 0)) rfl rfl (wanted_none rfl) (fun a => (hasA_cons (k := 0) rfl d0 hasA_base)) (ov_nilCheck rfl) rfl rfl (onlyT_spec (k0 := 1) rfl rfl rfl)
    ·intro done hi hc hcu
     have d1 : done 1 = true := done_of (j := 1) hcu rfl (by decide) rfl
     exact draw_value (i := 2) (t := 5) (v := (pt p0 1)) rfl rfl (wanted_none rfl) (fun a => (hasA_cons (k := 1) rfl d1 hasA_base)) (ov_fieldAddr (sz := 0) (o := 0) rfl F_field_73_1 F_size_71) rfl rfl (onlyT_spec (k0 := 2) rfl rfl rfl)
    ·intro done hi hc hcu
     have d2 : done 2 = true := done_of (j := 2) hcu rfl (by decide) rfl
     exact draw_value (i := 3) (t := 6) (v := sv0) rfl rfl (wanted_none rfl) (fun a => (hasA_cons (k := 2) rfl d2 hasA_base)) (ov_load (v := sv0) rfl F_agg_71 (reads_box1 (i := 0) rfl rfl)) rfl rfl (onlyT_spec (k0 := 3) rfl rfl rfl)
    ·intro done hi hc hcu
     have d3 : done 3 = true := done_of (j := 3) hcu rfl (by decide) rfl
     have n10 : done 10 = false := notdone_of (m := 10) hc hi rfl rfl
     exact draw_value (i := 4) (t := 7) (v := (eptr sv0 0)) rfl rfl (wanted_none rfl) (fun a => (hasA_cons (k := 3) rfl d3 hasA_base)) (ov_L (L2 := [(box p0 73 [(pt p0 0), sv0]), (own sv0 5 1 l0.length (fl (eI .u8) l0))]) (by simp only [n10, sel]) (ov_unsafeData 1 rfl rfl c3)) rfl rfl (onlyT_spec (k0 := 4) rfl rfl rfl)
    ·intro done hi hc hcu
     exact draw_value (i := 5) (t := 8) (v := (pt p0 0)) rfl rfl (wanted_none rfl) (fun a => hasA_base) (ov_move rfl) rfl rfl (onlyT_spec (k0 := 5) rfl rfl rfl)
    ·intro done hi hc hcu
     have d5 : done 5 = true := done_of (j := 5) hcu rfl (by decide) rfl
     exact draw_value (i := 6) (t := 9) (v := (pt p0 0)) rfl rfl (wanted_none rfl) (fun a => (hasA_cons (k := 5) rfl d5 hasA_base)) (ov_nilCheck rfl) rfl rfl (onlyT_spec (k0 := 6) rfl rfl rfl)
    ·intro done hi hc hcu
     have d6 : done 6 = true := done_of (j := 6) hcu rfl (by decide) rfl
     exact draw_value (i := 7) (t := 10) (v := (pt p0 1)) rfl rfl (wanted_none rfl) (fun a => (hasA_cons (k := 6) rfl d6 hasA_base)) (ov_fieldAddr (sz := 0) (o := 0) rfl F_field_73_1 F_size_71) rfl rfl (onlyT_spec (k0 := 7) rfl rfl rfl)
    ·intro done hi hc hcu
     have d7 : done 7 = true := done_of (j := 7) hcu rfl (by decide) rfl
     exact draw_value (i := 8) (t := 11) (v := sv0) rfl rfl (wanted_none rfl) (fun a => (hasA_cons (k := 7) rfl d7 hasA_base)) (ov_load (v := sv0) rfl F_agg_71 (reads_box1 (i := 0) rfl rfl)) rfl rfl (onlyT_spec (k0 := 8) rfl rfl rfl)
    ·intro done hi hc hcu
     have d8 : done 8 = true := done_of (j := 8) hcu rfl (by decide) rfl
     have n10 : done 10 = false := notdone_of (m := 10) hc hi rfl rfl
     exact draw_value (i := 9) (t := 12) (v := (int .i64 (l0.length : Int))) rfl rfl (wanted_none rfl) (fun a => (hasA_cons (k := 8) rfl d8 hasA_base)) (ov_L (L2 := [(box p0 73 [(pt p0 0), sv0]), (own sv0 5 1 l0.length (fl (eI .u8) l0))]) (by simp only [n10, sel]) (ov_len 1 rfl F_slice_71 rfl (isRd_ownx 5))) rfl rfl (onlyT_spec (k0 := 9) rfl rfl rfl)
    ·intro done hi hc hcu
     have d4 : done 4 = true := done_of (j := 4) hcu rfl (by decide) rfl
     have d9 : done 9 = true := done_of (j := 9) hcu rfl (by decide) rfl
     exact draw_eff (i := 10) (t := 13) (v := (str (strs l0))) (L2 := [(box p0 73 [(pt p0 0), sv0]), (own sv0 5 1 l0.length (fl (eI .u8) l0))]) (L3 := [(box p0 73 [(pt p0 0), sv0]), emp]) rfl rfl (wanted_none rfl) (fun a => (hasA_cons (k := 9) rfl d9 (hasA_cons (k := 4) rfl d4 hasA_base))) (by simp only [hi, sel]) (by simp [up, sel]) (ot_unsafeString 1 rfl rfl Try.underlying109 (by kernel_rfl) rfl c3 c4) rfl rfl (onlyT_spec (k0 := 10) rfl rfl rfl)
    ·intro done hi hc hcu
     have d10 : done 10 = true := done_of (j := 10) hcu rfl (by decide) rfl
     exact draw_value (i := 11) (t := 2) (v := (str (strs l0))) rfl rfl (wanted_none rfl) (fun a => (hasA_cons (k := 10) rfl d10 hasA_base)) (ov_assign rfl) rfl rfl (onlyT_spec (k0 := 11) rfl rfl rfl)
   ·intro done hall
    refine draw_endL [(box p0 73 [(pt p0 0), sv0]), emp] (by simp only [hall 10 (by decide), sel]) (fun a => (hasA_cons (k := 11) rfl (hall 11 (by decide)) (hasA_cons (k := 0) rfl (hall 0 (by decide)) (hasA_cons (k := 1) rfl (hall 1 (by decide)) (hasA_cons (k := 2) rfl (hall 2 (by decide)) (hasA_cons (k := 3) rfl (hall 3 (by decide)) (hasA_cons (k := 4) rfl (hall 4 (by decide)) (hasA_cons (k := 5) rfl (hall 5 (by decide)) (hasA_cons (k := 6) rfl (hall 6 (by decide)) (hasA_cons (k := 7) rfl (hall 7 (by decide)) (hasA_cons (k := 8) rfl (hall 8 (by decide)) (hasA_cons (k := 9) rfl (hall 9 (by decide)) (hasA_cons (k := 10) rfl (hall 10 (by decide)) hasA_base))))))))))))) ?_
    refine ent_retc ?_
    cases H
    refine ent_pick [0] (by decide) rfl ?_
    exact ret_tmp rfl rfl ⟨rfl, rfl⟩
  ·rw [if_neg c4] at H
   cases H
 ·rw [if_neg c3] at H
  cases H

end Go.Proofs.Ythcmiohbidencaa.SheetTexts
