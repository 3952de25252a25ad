/- Printed by gen.py: that the machine's calls do what the plain functions of SheetTexts say. -/
import Derived.Test.YthcmiohbidencaaSheetTextsWalk2
import Derived.Test.YthcmiohbidencaaProg
import Derived.Test.YthcmiohbidencaaEInsert
import Derived.Test.YthcmiohbidencaaEBuild
import Derived.Test.YthcmiohbidencaaEShelf
import Derived.Test.YthcmiohbidencaaELib
import Derived.Test.YthcmiohbidencaaSheetTextsPure
set_option linter.unusedVariables false
set_option linter.unusedSimpArgs false
set_option maxHeartbeats 1000000
namespace Go.Proofs.Ythcmiohbidencaa.SheetTexts
open Go Go.RowKit E
open Go.Value (int bool slice agg)

set_option maxRecDepth 100000 in
theorem ossuaryref40_Text.spec (K : Nat) (a0_0 : Int) (a0_1 : Int) (a0_2 : Int) (a0_3 : Int) (a0_4 : Int) (a0_5 : Int) (a0_6 : Int) (a0_7 : Int) (a0_8 : Int) (r : ((List UInt8) × Int)) (H : ossuaryref40_Text K a0_0 a0_1 a0_2 a0_3 a0_4 a0_5 a0_6 a0_7 a0_8 = some r) : FnSpec Try.prog 12 [(agg #[(int .i64 a0_0), (int .i64 a0_1), (int .i64 a0_2), (int .i64 a0_3), (int .i64 a0_4), (int .i64 a0_5), (int .i64 a0_6), (int .i64 a0_7), (int .i64 a0_8)])] [] (fun v M => v = (Value.tuple #[(str r.1), (int .i64 r.2)]) ∧ M = []) := by
 unfold ossuaryref40_Text at H
 refine spec_of Try.func12 rfl 34 rfl (Nat.le_of_ble_eq_true rfl) fun F w0 => ?_
 show Ent (St 34 w0 F [(0, (agg #[(int .i64 a0_0), (int .i64 a0_1), (int .i64 a0_2), (int .i64 a0_3), (int .i64 a0_4), (int .i64 a0_5), (int .i64 a0_6), (int .i64 a0_7), (int .i64 a0_8)]))] []) _
 refine ent_seq ?_
 refine ent_region ?_
 refine ent_op (ot_box (cs := [(int .i64 a0_0), (int .i64 a0_1), (int .i64 a0_2), (int .i64 a0_3), (int .i64 a0_4), (int .i64 a0_5), (int .i64 a0_6), (int .i64 a0_7), (int .i64 a0_8)]) rfl rfl) rfl rfl rfl ?_
 rintro _ _ ⟨b2, rfl, rfl⟩
 refine ent_value (ov_assign rfl) rfl rfl rfl ?_
 refine ent_value (ov_assign rfl) rfl rfl rfl ?_
 refine ent_nil ?_
 refine ent_seq ?_
 refine ent_seq ?_
 refine ent_region ?_
 refine ent_value (ov_load_agg (vs := [(int .i64 a0_0), (int .i64 a0_1), (int .i64 a0_2), (int .i64 a0_3), (int .i64 a0_4), (int .i64 a0_5), (int .i64 a0_6), (int .i64 a0_7), (int .i64 a0_8)]) rfl F_agg_24 F_size_24 (reads_boxW (i := 0) rfl)) rfl rfl rfl ?_
 obtain ⟨x30, h30, H⟩ := thn_elim H
 refine ent_op (ot_call0 (first := []) (cap := []) (xs := [.tmp 8]) rfl rfl F_call_35 rfl (ossuaryref18_Check.spec a0_0 a0_1 a0_2 a0_3 a0_4 a0_5 a0_6 a0_7 a0_8 _ h30)) rfl rfl rfl ?_
 rintro _ _ ⟨rfl, rfl⟩
 refine ent_value (ov_assign rfl) rfl rfl rfl ?_
 refine ent_nil ?_
 refine ent_seq ?_
 refine ent_region ?_
 refine ent_value (ov_move rfl) rfl rfl rfl ?_
 refine ent_value (ov_bin rfl rfl (b_neq _ _ _)) rfl rfl rfl ?_
 refine ent_nil ?_
 by_cases c92 : ¬ (x30 = 0)
 ·rw [if_pos c92] at H
  refine ent_cond_true rfl (ne_t c92) ?_
  refine ent_seq ?_
  refine ent_region ?_
  refine ent_value (ov_move rfl) rfl rfl rfl ?_
  refine ent_value (ov_assign rfl) rfl rfl rfl ?_
  refine ent_value (ov_assign rfl) rfl rfl rfl ?_
  refine ent_nil ?_
  refine ent_retc ?_
  cases H
  refine ent_pick [] (by decide) rfl ?_
  exact ret_mem (vs := [(str ([] : List UInt8)), (int .i64 x30)]) rfl ⟨rfl, ⟨rfl, trivial⟩⟩ _ rfl ⟨rfl, rfl⟩
 ·rw [if_neg c92] at H
  refine ent_cond_false rfl (ne_f c92) ?_
  refine ent_skip ?_
  refine ent_seq ?_
  refine ent_region ?_
  refine ent_value (ov_assign rfl) rfl rfl rfl ?_
  refine ent_nil ?_
  refine ent_seq ?_
  refine ent_region ?_
  refine ent_value (ov_load_agg (vs := [(int .i64 a0_0), (int .i64 a0_1), (int .i64 a0_2), (int .i64 a0_3), (int .i64 a0_4), (int .i64 a0_5), (int .i64 a0_6), (int .i64 a0_7), (int .i64 a0_8)]) rfl F_agg_24 F_size_24 (reads_boxW (i := 0) rfl)) rfl rfl rfl ?_
  obtain ⟨x31, h31, H⟩ := thn_elim H
  refine ent_op (ot_call (Lr := [(box b2 24 [(int .i64 a0_0), (int .i64 a0_1), (int .i64 a0_2), (int .i64 a0_3), (int .i64 a0_4), (int .i64 a0_5), (int .i64 a0_6), (int .i64 a0_7), (int .i64 a0_8)])]) (first := []) (cap := []) (xs := [.tmp 13]) rfl rfl F_call_42 rfl (ossuaryref40_numbers.spec a0_0 a0_1 a0_2 a0_3 a0_4 a0_5 a0_6 a0_7 a0_8 _ h31) rfl) rfl rfl rfl ?_
  rintro sv15 _ ⟨_, ⟨_, rfl, rfl⟩, rfl⟩
  refine ent_value (ov_assign rfl) rfl rfl rfl ?_
  refine ent_nil ?_
  refine ent_seq ?_
  refine ent_seq ?_
  refine ent_region ?_
  refine ent_value (ov_assign rfl) rfl rfl rfl ?_
  refine ent_nil ?_
  refine ent_block ?_
  refine ent_loop (fun k a w => ∃ t5, ∃ i5, ossuaryref40_Text_l0 K x31 k t5 i5 = some r ∧ St 34 w0 F [(5, (str t5)), (6, sv15), (7, (int .i64 i5))] [(own sv15 2 1 x31.length (fl (eI .i64) x31))] a w) K ?_ ?_
  ·exact ent_fin [0] (by decide) rfl (sub_cons (t := 5) rfl (sub_cons (t := 6) rfl (sub_cons (t := 7) rfl (sub_nil _)))) fun a w h => ⟨_, _, H, h⟩
  ·refine fun k => ent_exi fun t5 => ent_exi fun i5 => ent_and fun H4 => ?_
   cases k with
   | zero => exact absurd H4 (by simp [ossuaryref40_Text_l0])
   | succ k =>
    rw [ossuaryref40_Text_l0] at H4
    refine ent_seq ?_
    refine ent_seq ?_
    refine ent_region ?_
    refine ent_value (ov_move rfl) rfl rfl rfl ?_
    refine ent_value (ov_bin rfl rfl (b_lss _ _ _)) rfl rfl rfl ?_
    refine ent_nil ?_
    by_cases c166 : i5 < 9
    ·rw [if_pos c166] at H4
     refine ent_cond_true rfl (decide_eq_true c166) ?_
     refine ent_skip ?_
     refine ent_seq ?_
     refine ent_block ?_
     obtain ⟨x54, h54, H4⟩ := thn_elim H4
     by_cases c174 : 0 ≤ i5
     ·rw [if_pos c174] at H4
      by_cases c175 : i5 < (x54.length : Int)
      ·rw [if_pos c175] at H4
       by_cases c176 : (t5.length : Int) + ((x54.getD i5.toNat []).length : Int) ≤ 9223372036854775807
       ·rw [if_pos c176] at H4
        by_cases c177 : ((t5 ++ (x54.getD i5.toNat [])).length : Int) + (([32] : List UInt8).length : Int) ≤ 9223372036854775807
        ·rw [if_pos c177] at H4
         by_cases c178 : i5 < (x31.length : Int)
         ·rw [if_pos c178] at H4
          obtain ⟨x55, h55, H4⟩ := Option.bind_eq_some_iff.1 H4
          by_cases c179 : (((t5 ++ (x54.getD i5.toNat [])) ++ ([32] : List UInt8)).length : Int) + (x55.length : Int) ≤ 9223372036854775807
          ·rw [if_pos c179] at H4
           by_cases c180 : ((((t5 ++ (x54.getD i5.toNat [])) ++ ([32] : List UInt8)) ++ x55).length : Int) + (([10] : List UInt8).length : Int) ≤ 9223372036854775807
           ·rw [if_pos c180] at H4
            let Z24_I : (Nat → Value) → (Nat → Bool) → Act → World → Prop := fun (ga24 : Nat → Value) done a w => StD 34 w0 F [(5, (str t5)), (6, sv15), (7, (int .i64 i5)), (15, (int .i64 i5)), (16, (bool (decide (i5 < 9))))] [(0, 19, (str t5)), (1, 20, (ga24 1)), (2, 21, (int .i64 i5)), (3, 22, (eptr (ga24 1) (i5.toNat * 1))), (4, 23, (str (x54.getD i5.toNat []))), (5, 24, (str (t5 ++ (x54.getD i5.toNat [])))), (6, 25, (str ((t5 ++ (x54.getD i5.toNat [])) ++ ([32] : List UInt8)))), (7, 26, sv15), (8, 27, (int .i64 i5)), (9, 28, (eptr sv15 (i5.toNat * 1))), (10, 29, (int .i64 (x31.getD i5.toNat 0))), (11, 30, (str x55)), (12, 31, (str (((t5 ++ (x54.getD i5.toNat [])) ++ ([32] : List UInt8)) ++ x55))), (13, 32, (str ((((t5 ++ (x54.getD i5.toNat [])) ++ ([32] : List UInt8)) ++ x55) ++ ([10] : List UInt8))))] done [(sel (done 1) (own (ga24 1) 9 1 x54.length (fl eS x54)) emp), (own sv15 2 1 x31.length (fl (eI .i64) x31))] a w
            let Z24_A : (Nat → Bool) → Act → World → Prop := (fun done a w => ∃ ga24 : Nat → Value, Z24_I ga24 done a w)
            let Z24_B : Act → World → Prop := (fun a w => ∃ ga24 : Nat → Value, St 34 w0 F ((5, (str ((((t5 ++ (x54.getD i5.toNat [])) ++ ([32] : List UInt8)) ++ x55) ++ ([10] : List UInt8)))) :: [(6, sv15), (7, (int .i64 i5)), (15, (int .i64 i5)), (16, (bool (decide (i5 < 9)))), (19, (str t5)), (20, (ga24 1)), (21, (int .i64 i5)), (22, (eptr (ga24 1) (i5.toNat * 1))), (23, (str (x54.getD i5.toNat []))), (24, (str (t5 ++ (x54.getD i5.toNat [])))), (25, (str ((t5 ++ (x54.getD i5.toNat [])) ++ ([32] : List UInt8)))), (26, sv15), (27, (int .i64 i5)), (28, (eptr sv15 (i5.toNat * 1))), (29, (int .i64 (x31.getD i5.toNat 0))), (30, (str x55)), (31, (str (((t5 ++ (x54.getD i5.toNat [])) ++ ([32] : List UInt8)) ++ x55))), (32, (str ((((t5 ++ (x54.getD i5.toNat [])) ++ ([32] : List UInt8)) ++ x55) ++ ([10] : List UInt8))))]) [(own (ga24 1) 9 1 x54.length (fl eS x54)), (own sv15 2 1 x31.length (fl (eI .i64) x31))] a w)
            refine ent_drawm 15 rfl (two 14 Z24_A Z24_B) (by kernel_rfl) (by kernel_rfl) (two_start (draw_startG (T := (fun ga24 : Nat → Value => [(0, 19, (str t5)), (1, 20, (ga24 1)), (2, 21, (int .i64 i5)), (3, 22, (eptr (ga24 1) (i5.toNat * 1))), (4, 23, (str (x54.getD i5.toNat []))), (5, 24, (str (t5 ++ (x54.getD i5.toNat [])))), (6, 25, (str ((t5 ++ (x54.getD i5.toNat [])) ++ ([32] : List UInt8)))), (7, 26, sv15), (8, 27, (int .i64 i5)), (9, 28, (eptr sv15 (i5.toNat * 1))), (10, 29, (int .i64 (x31.getD i5.toNat 0))), (11, 30, (str x55)), (12, 31, (str (((t5 ++ (x54.getD i5.toNat [])) ++ ([32] : List UInt8)) ++ x55))), (13, 32, (str ((((t5 ++ (x54.getD i5.toNat [])) ++ ([32] : List UInt8)) ++ x55) ++ ([10] : List UInt8))))])) (L' := fun ga24 : Nat → Value => [(sel false (own (ga24 1) 9 1 x54.length (fl eS x54)) emp), (own sv15 2 1 x31.length (fl (eI .i64) x31))]) 1 (sub_cons (t := 5) rfl (sub_cons (t := 6) rfl (sub_cons (t := 7) rfl (sub_cons (t := 15) rfl (sub_cons (t := 16) rfl (sub_nil _)))))) (fun _ => rfl))) ?_ ?_
            ·refine ⟨?_, ?_, ?_, ?_, ?_, ?_, ?_, ?_, ?_, ?_, ?_, ?_, ?_, ?_, ?_, trivial⟩
             ·intro done hi hc hcu
              have n14 : done 14 = false := notdone_of (m := 14) hc hi rfl rfl
              refine two_step (m := 14) (A := Z24_A) n14 rfl ?_
              refine draw_exi (I := Z24_I) fun ga24 => ?_
              exact draw_value (i := 0) (t := 19) (v := (str t5)) rfl rfl (wanted_none rfl) (fun a => hasA_base) (ov_move rfl) rfl rfl (onlyT_spec (k0 := 0) rfl rfl rfl)
             ·intro done hi hc hcu
              have n14 : done 14 = false := notdone_of (m := 14) hc hi rfl rfl
              refine two_step (m := 14) (A := Z24_A) n14 rfl ?_
              refine ent_exi (S := fun ga24 => Z24_I ga24 done) fun ga24 => ?_
              have n3 : done 3 = false := notdone_of (m := 3) hc hi rfl rfl
              refine draw_turnP (i := 1) (t := 20) (x := ga24) (L := (fun (ga24 : Nat → Value) (done : Nat → Bool) => [(sel (done 1) (own (ga24 1) 9 1 x54.length (fl eS x54)) emp), (own sv15 2 1 x31.length (fl (eI .i64) x31))])) (T := (fun ga24 : Nat → Value => [(0, 19, (str t5)), (1, 20, (ga24 1)), (2, 21, (int .i64 i5)), (3, 22, (eptr (ga24 1) (i5.toNat * 1))), (4, 23, (str (x54.getD i5.toNat []))), (5, 24, (str (t5 ++ (x54.getD i5.toNat [])))), (6, 25, (str ((t5 ++ (x54.getD i5.toNat [])) ++ ([32] : List UInt8)))), (7, 26, sv15), (8, 27, (int .i64 i5)), (9, 28, (eptr sv15 (i5.toNat * 1))), (10, 29, (int .i64 (x31.getD i5.toNat 0))), (11, 30, (str x55)), (12, 31, (str (((t5 ++ (x54.getD i5.toNat [])) ++ ([32] : List UInt8)) ++ x55))), (13, 32, (str ((((t5 ++ (x54.getD i5.toNat [])) ++ ([32] : List UInt8)) ++ x55) ++ ([10] : List UInt8))))])) (L2 := [emp, (own sv15 2 1 x31.length (fl (eI .i64) x31))]) [0, 1] [0, 2] rfl rfl (wanted_none rfl) (fun a => hasA_base) (by simp only [hi, sel]) (by decide) rfl (ot_call (Lr := [emp, (own sv15 2 1 x31.length (fl (eI .i64) x31))]) (first := []) (cap := []) (xs := []) rfl rfl F_call_15 rfl (ossuaryref40_Names.spec _ h54) rfl) (by decide) rfl rfl ?_
              rintro g0_ _ ⟨_, ⟨_, rfl, rfl⟩, rfl⟩
              exact ⟨(upb ga24 1 g0_), show some [(own g0_ 9 1 x54.length (fl eS x54)), (own sv15 2 1 x31.length (fl (eI .i64) x31))] = _ by simp [up, upb, sel, hi], (tr_same rfl rfl (tr_this (tr_same rfl rfl (tr_nd n3 rfl rfl (tr_same rfl rfl (tr_same rfl rfl (tr_same rfl rfl (tr_same rfl rfl (tr_same rfl rfl (tr_same rfl rfl (tr_same rfl rfl (tr_same rfl rfl (tr_same rfl rfl (tr_same rfl rfl tr_nil))))))))))))))⟩
             ·intro done hi hc hcu
              have n14 : done 14 = false := notdone_of (m := 14) hc hi rfl rfl
              refine two_step (m := 14) (A := Z24_A) n14 rfl ?_
              refine draw_exi (I := Z24_I) fun ga24 => ?_
              exact draw_value (i := 2) (t := 21) (v := (int .i64 i5)) rfl rfl (wanted_none rfl) (fun a => hasA_base) (ov_move rfl) rfl rfl (onlyT_spec (k0 := 2) rfl rfl rfl)
             ·intro done hi hc hcu
              have n14 : done 14 = false := notdone_of (m := 14) hc hi rfl rfl
              refine two_step (m := 14) (A := Z24_A) n14 rfl ?_
              refine draw_exi (I := Z24_I) fun ga24 => ?_
              have d1 : done 1 = true := done_of (j := 1) hcu rfl (by decide) rfl
              have d2 : done 2 = true := done_of (j := 2) hcu rfl (by decide) rfl
              exact draw_value (i := 3) (t := 22) (v := (eptr (ga24 1) (i5.toNat * 1))) rfl rfl (wanted_none rfl) (fun a => (hasA_cons (k := 2) rfl d2 (hasA_cons (k := 1) rfl d1 hasA_base))) (ov_L (L2 := [(own (ga24 1) 9 1 x54.length (fl eS x54)), (own sv15 2 1 x31.length (fl (eI .i64) x31))]) (by simp only [d1, sel]) (ov_indexAddr (sz := 0) 0 rfl rfl F_slice_32 F_size_9 rfl (isRd_ownx 9) c174 c175)) rfl rfl (onlyT_spec (k0 := 3) rfl rfl rfl)
             ·intro done hi hc hcu
              have n14 : done 14 = false := notdone_of (m := 14) hc hi rfl rfl
              refine two_step (m := 14) (A := Z24_A) n14 rfl ?_
              refine draw_exi (I := Z24_I) fun ga24 => ?_
              have d3 : done 3 = true := done_of (j := 3) hcu rfl (by decide) rfl
              have d1 : done 1 = true := done_step (i := 3) (j := 1) hc d3 rfl rfl
              exact draw_value (i := 4) (t := 23) (v := (str (x54.getD i5.toNat []))) rfl rfl (wanted_none rfl) (fun a => (hasA_cons (k := 3) rfl d3 hasA_base)) (ov_L (L2 := [(own (ga24 1) 9 1 x54.length (fl eS x54)), (own sv15 2 1 x31.length (fl (eI .i64) x31))]) (by simp only [d1, sel]) (ov_load (v := (str (x54.getD i5.toNat []))) rfl F_agg_9 (reads_rd (i := 0) rfl (isRd_ownx 9) (by simp) (fl_read0 eS_len (ix_lt c174 c175) rfl)))) rfl rfl (onlyT_spec (k0 := 4) rfl rfl rfl)
             ·intro done hi hc hcu
              have n14 : done 14 = false := notdone_of (m := 14) hc hi rfl rfl
              refine two_step (m := 14) (A := Z24_A) n14 rfl ?_
              refine draw_exi (I := Z24_I) fun ga24 => ?_
              have d0 : done 0 = true := done_of (j := 0) hcu rfl (by decide) rfl
              have d4 : done 4 = true := done_of (j := 4) hcu rfl (by decide) rfl
              exact draw_value (i := 5) (t := 24) (v := (str (t5 ++ (x54.getD i5.toNat [])))) rfl rfl (wanted_none rfl) (fun a => (hasA_cons (k := 4) rfl d4 (hasA_cons (k := 0) rfl d0 hasA_base))) (ov_bin rfl rfl fun w => b_add_str _ _ w c176) rfl rfl (onlyT_spec (k0 := 5) rfl rfl rfl)
             ·intro done hi hc hcu
              have n14 : done 14 = false := notdone_of (m := 14) hc hi rfl rfl
              refine two_step (m := 14) (A := Z24_A) n14 rfl ?_
              refine draw_exi (I := Z24_I) fun ga24 => ?_
              have d5 : done 5 = true := done_of (j := 5) hcu rfl (by decide) rfl
              exact draw_value (i := 6) (t := 25) (v := (str ((t5 ++ (x54.getD i5.toNat [])) ++ ([32] : List UInt8)))) rfl rfl (wanted_none rfl) (fun a => (hasA_cons (k := 5) rfl d5 hasA_base)) (ov_bin rfl rfl fun w => b_add_str _ _ w c177) rfl rfl (onlyT_spec (k0 := 6) rfl rfl rfl)
             ·intro done hi hc hcu
              have n14 : done 14 = false := notdone_of (m := 14) hc hi rfl rfl
              refine two_step (m := 14) (A := Z24_A) n14 rfl ?_
              refine draw_exi (I := Z24_I) fun ga24 => ?_
              exact draw_value (i := 7) (t := 26) (v := sv15) rfl rfl (wanted_none rfl) (fun a => hasA_base) (ov_move rfl) rfl rfl (onlyT_spec (k0 := 7) rfl rfl rfl)
             ·intro done hi hc hcu
              have n14 : done 14 = false := notdone_of (m := 14) hc hi rfl rfl
              refine two_step (m := 14) (A := Z24_A) n14 rfl ?_
              refine draw_exi (I := Z24_I) fun ga24 => ?_
              exact draw_value (i := 8) (t := 27) (v := (int .i64 i5)) rfl rfl (wanted_none rfl) (fun a => hasA_base) (ov_move rfl) rfl rfl (onlyT_spec (k0 := 8) rfl rfl rfl)
             ·intro done hi hc hcu
              have n14 : done 14 = false := notdone_of (m := 14) hc hi rfl rfl
              refine two_step (m := 14) (A := Z24_A) n14 rfl ?_
              refine draw_exi (I := Z24_I) fun ga24 => ?_
              have d7 : done 7 = true := done_of (j := 7) hcu rfl (by decide) rfl
              have d8 : done 8 = true := done_of (j := 8) hcu rfl (by decide) rfl
              exact draw_value (i := 9) (t := 28) (v := (eptr sv15 (i5.toNat * 1))) rfl rfl (wanted_none rfl) (fun a => (hasA_cons (k := 8) rfl d8 (hasA_cons (k := 7) rfl d7 hasA_base))) (ov_indexAddr (sz := 0) 1 rfl rfl F_slice_66 F_size_2 rfl (isRd_ownx 2) c174 c178) rfl rfl (onlyT_spec (k0 := 9) rfl rfl rfl)
             ·intro done hi hc hcu
              have n14 : done 14 = false := notdone_of (m := 14) hc hi rfl rfl
              refine two_step (m := 14) (A := Z24_A) n14 rfl ?_
              refine draw_exi (I := Z24_I) fun ga24 => ?_
              have d9 : done 9 = true := done_of (j := 9) hcu rfl (by decide) rfl
              exact draw_value (i := 10) (t := 29) (v := (int .i64 (x31.getD i5.toNat 0))) rfl rfl (wanted_none rfl) (fun a => (hasA_cons (k := 9) rfl d9 hasA_base)) (ov_load (v := (int .i64 (x31.getD i5.toNat 0))) rfl F_agg_2 (reads_rd (i := 1) rfl (isRd_ownx 2) (by simp) (fl_read0 (eI_len _) (ix_lt c174 c178) rfl))) rfl rfl (onlyT_spec (k0 := 10) rfl rfl rfl)
             ·intro done hi hc hcu
              have n14 : done 14 = false := notdone_of (m := 14) hc hi rfl rfl
              refine two_step (m := 14) (A := Z24_A) n14 rfl ?_
              refine draw_exi (I := Z24_I) fun ga24 => ?_
              have d10 : done 10 = true := done_of (j := 10) hcu rfl (by decide) rfl
              exact draw_same (i := 11) (t := 30) (v := (str x55)) rfl rfl (wanted_none rfl) (fun a => (hasA_cons (k := 10) rfl d10 hasA_base)) (ot_call0 (first := []) (cap := []) (xs := [.tmp 29]) rfl rfl F_call_43 rfl (ossuaryref34_Decimal.spec K (x31.getD i5.toNat 0) _ h55)) rfl rfl (onlyT_spec (k0 := 11) rfl rfl rfl)
             ·intro done hi hc hcu
              have n14 : done 14 = false := notdone_of (m := 14) hc hi rfl rfl
              refine two_step (m := 14) (A := Z24_A) n14 rfl ?_
              refine draw_exi (I := Z24_I) fun ga24 => ?_
              have d6 : done 6 = true := done_of (j := 6) hcu rfl (by decide) rfl
              have d11 : done 11 = true := done_of (j := 11) hcu rfl (by decide) rfl
              exact draw_value (i := 12) (t := 31) (v := (str (((t5 ++ (x54.getD i5.toNat [])) ++ ([32] : List UInt8)) ++ x55))) rfl rfl (wanted_none rfl) (fun a => (hasA_cons (k := 11) rfl d11 (hasA_cons (k := 6) rfl d6 hasA_base))) (ov_bin rfl rfl fun w => b_add_str _ _ w c179) rfl rfl (onlyT_spec (k0 := 12) rfl rfl rfl)
             ·intro done hi hc hcu
              have n14 : done 14 = false := notdone_of (m := 14) hc hi rfl rfl
              refine two_step (m := 14) (A := Z24_A) n14 rfl ?_
              refine draw_exi (I := Z24_I) fun ga24 => ?_
              have d12 : done 12 = true := done_of (j := 12) hcu rfl (by decide) rfl
              exact draw_value (i := 13) (t := 32) (v := (str ((((t5 ++ (x54.getD i5.toNat [])) ++ ([32] : List UInt8)) ++ x55) ++ ([10] : List UInt8)))) rfl rfl (wanted_none rfl) (fun a => (hasA_cons (k := 12) rfl d12 hasA_base)) (ov_bin rfl rfl fun w => b_add_str _ _ w c180) rfl rfl (onlyT_spec (k0 := 13) rfl rfl rfl)
             ·intro done hi hc hcu
              refine two_last (m := 14) (A := Z24_A) (B := Z24_B) hi ?_
              refine last_exi (A := fun ga24 => Z24_I ga24 done) (B := fun ga24 => St 34 w0 F ((5, (str ((((t5 ++ (x54.getD i5.toNat [])) ++ ([32] : List UInt8)) ++ x55) ++ ([10] : List UInt8)))) :: [(6, sv15), (7, (int .i64 i5)), (15, (int .i64 i5)), (16, (bool (decide (i5 < 9)))), (19, (str t5)), (20, (ga24 1)), (21, (int .i64 i5)), (22, (eptr (ga24 1) (i5.toNat * 1))), (23, (str (x54.getD i5.toNat []))), (24, (str (t5 ++ (x54.getD i5.toNat [])))), (25, (str ((t5 ++ (x54.getD i5.toNat [])) ++ ([32] : List UInt8)))), (26, sv15), (27, (int .i64 i5)), (28, (eptr sv15 (i5.toNat * 1))), (29, (int .i64 (x31.getD i5.toNat 0))), (30, (str x55)), (31, (str (((t5 ++ (x54.getD i5.toNat [])) ++ ([32] : List UInt8)) ++ x55))), (32, (str ((((t5 ++ (x54.getD i5.toNat [])) ++ ([32] : List UInt8)) ++ x55) ++ ([10] : List UInt8))))]) [(own (ga24 1) 9 1 x54.length (fl eS x54)), (own sv15 2 1 x31.length (fl (eI .i64) x31))]) fun ga24 => ?_
              have d0 : done 0 = true := done_of (j := 0) hcu rfl (by decide) rfl
              have d1 : done 1 = true := done_of (j := 1) hcu rfl (by decide) rfl
              have d2 : done 2 = true := done_of (j := 2) hcu rfl (by decide) rfl
              have d3 : done 3 = true := done_of (j := 3) hcu rfl (by decide) rfl
              have d4 : done 4 = true := done_of (j := 4) hcu rfl (by decide) rfl
              have d5 : done 5 = true := done_of (j := 5) hcu rfl (by decide) rfl
              have d6 : done 6 = true := done_of (j := 6) hcu rfl (by decide) rfl
              have d7 : done 7 = true := done_of (j := 7) hcu rfl (by decide) rfl
              have d8 : done 8 = true := done_of (j := 8) hcu rfl (by decide) rfl
              have d9 : done 9 = true := done_of (j := 9) hcu rfl (by decide) rfl
              have d10 : done 10 = true := done_of (j := 10) hcu rfl (by decide) rfl
              have d11 : done 11 = true := done_of (j := 11) hcu rfl (by decide) rfl
              have d12 : done 12 = true := done_of (j := 12) hcu rfl (by decide) rfl
              have d13 : done 13 = true := done_of (j := 13) hcu rfl (by decide) rfl
              exact last_value (i := 14) (t := 5) (v := (str ((((t5 ++ (x54.getD i5.toNat [])) ++ ([32] : List UInt8)) ++ x55) ++ ([10] : List UInt8)))) (L2 := [(own (ga24 1) 9 1 x54.length (fl eS x54)), (own sv15 2 1 x31.length (fl (eI .i64) x31))]) rfl rfl (wanted_none rfl) (by simp only [d1, sel]) (fun a => (hasA_cons (k := 13) rfl d13 hasA_base)) (fun a h_ => (Has.sub (ρ := [(19, (str t5)), (20, (ga24 1)), (21, (int .i64 i5)), (22, (eptr (ga24 1) (i5.toNat * 1))), (23, (str (x54.getD i5.toNat []))), (24, (str (t5 ++ (x54.getD i5.toNat [])))), (25, (str ((t5 ++ (x54.getD i5.toNat [])) ++ ([32] : List UInt8)))), (26, sv15), (27, (int .i64 i5)), (28, (eptr sv15 (i5.toNat * 1))), (29, (int .i64 (x31.getD i5.toNat 0))), (30, (str x55)), (31, (str (((t5 ++ (x54.getD i5.toNat [])) ++ ([32] : List UInt8)) ++ x55))), (32, (str ((((t5 ++ (x54.getD i5.toNat [])) ++ ([32] : List UInt8)) ++ x55) ++ ([10] : List UInt8))))] ++ [(5, (str t5)), (6, sv15), (7, (int .i64 i5)), (15, (int .i64 i5)), (16, (bool (decide (i5 < 9))))]) (((hasA_cons (k := 0) rfl d0 (hasA_cons (k := 1) rfl d1 (hasA_cons (k := 2) rfl d2 (hasA_cons (k := 3) rfl d3 (hasA_cons (k := 4) rfl d4 (hasA_cons (k := 5) rfl d5 (hasA_cons (k := 6) rfl d6 (hasA_cons (k := 7) rfl d7 (hasA_cons (k := 8) rfl d8 (hasA_cons (k := 9) rfl d9 (hasA_cons (k := 10) rfl d10 (hasA_cons (k := 11) rfl d11 (hasA_cons (k := 12) rfl d12 (hasA_cons (k := 13) rfl d13 hasA_base)))))))))))))) : HasA a _ _ _ → Has a ([(19, (str t5)), (20, (ga24 1)), (21, (int .i64 i5)), (22, (eptr (ga24 1) (i5.toNat * 1))), (23, (str (x54.getD i5.toNat []))), (24, (str (t5 ++ (x54.getD i5.toNat [])))), (25, (str ((t5 ++ (x54.getD i5.toNat [])) ++ ([32] : List UInt8)))), (26, sv15), (27, (int .i64 i5)), (28, (eptr sv15 (i5.toNat * 1))), (29, (int .i64 (x31.getD i5.toNat 0))), (30, (str x55)), (31, (str (((t5 ++ (x54.getD i5.toNat [])) ++ ([32] : List UInt8)) ++ x55))), (32, (str ((((t5 ++ (x54.getD i5.toNat [])) ++ ([32] : List UInt8)) ++ x55) ++ ([10] : List UInt8))))] ++ [(5, (str t5)), (6, sv15), (7, (int .i64 i5)), (15, (int .i64 i5)), (16, (bool (decide (i5 < 9))))])) h_) (sub_cons (t := 6) rfl (sub_cons (t := 7) rfl (sub_cons (t := 15) rfl (sub_cons (t := 16) rfl (sub_cons (t := 19) rfl (sub_cons (t := 20) rfl (sub_cons (t := 21) rfl (sub_cons (t := 22) rfl (sub_cons (t := 23) rfl (sub_cons (t := 24) rfl (sub_cons (t := 25) rfl (sub_cons (t := 26) rfl (sub_cons (t := 27) rfl (sub_cons (t := 28) rfl (sub_cons (t := 29) rfl (sub_cons (t := 30) rfl (sub_cons (t := 31) rfl (sub_cons (t := 32) rfl (sub_nil _))))))))))))))))))))) (ov_assign rfl) rfl
            ·intro done hall
             refine two_end (A := Z24_A) (B := Z24_B) (hall 14 (by decide)) ?_
             refine ent_exi fun ga24 => ?_
             refine ent_region ?_
             refine ent_value (ov_move rfl) rfl rfl rfl ?_
             refine ent_value (ov_bin rfl rfl (b_add _ _ _) ) rfl rfl rfl ?_
             refine ent_value (ov_assign rfl) rfl rfl rfl ?_
             refine ent_nil ?_
             exact ent_fin [1] (by decide) rfl (sub_cons (t := 5) rfl (sub_cons (t := 6) rfl (sub_cons (t := 7) rfl (sub_nil _)))) fun a w h => ⟨k, Nat.lt_succ_self k, _, _, H4, h⟩
           ·rw [if_neg c180] at H4
            cases H4
          ·rw [if_neg c179] at H4
           cases H4
         ·rw [if_neg c178] at H4
          cases H4
        ·rw [if_neg c177] at H4
         cases H4
       ·rw [if_neg c176] at H4
        cases H4
      ·rw [if_neg c175] at H4
       cases H4
     ·rw [if_neg c174] at H4
      cases H4
    ·rw [if_neg c166] at H4
     refine ent_cond_false rfl (decide_eq_false c166) ?_
     refine ent_exit ?_
     refine ent_seq ?_
     refine ent_region ?_
     refine ent_value (ov_move rfl) rfl rfl rfl ?_
     refine ent_value (ov_assign rfl) rfl rfl rfl ?_
     refine ent_value (ov_assign rfl) rfl rfl rfl ?_
     refine ent_nil ?_
     refine ent_retc ?_
     cases H4
     refine ent_pick [] (by decide) rfl ?_
     exact ret_mem (vs := [(str t5), (int .i64 0)]) rfl ⟨rfl, ⟨rfl, trivial⟩⟩ _ rfl ⟨rfl, rfl⟩

set_option maxRecDepth 100000 in
theorem slices_Clone_____string__string_R.spec (sv0 : Value) (A0 : HP) (l0 : List (List UInt8)) (hA0 : IsRd A0 sv0 l0.length 1 (fl eS l0)) (r : List (List UInt8)) (H : slices_Clone_____string__string_R l0 = some r) : FnSpec Try.prog 44 [sv0] [A0] (fun v M => ∃ sv5 : Value, v = sv5 ∧ M = [A0, (own sv5 9 1 r.length (fl eS r))]) := by
 unfold slices_Clone_____string__string_R at H
 refine spec_of Try.func44 rfl 8 rfl (Nat.le_of_ble_eq_true rfl) fun F w0 => ?_
 show Ent (St 8 w0 F [(0, sv0)] [A0]) _
 refine ent_seq ?_
 refine ent_region ?_
 refine ent_value (ov_assign rfl) rfl rfl rfl ?_
 refine ent_nil ?_
 refine ent_seq ?_
 refine ent_seq ?_
 refine ent_region ?_
 refine ent_value (ov_move rfl) rfl rfl rfl ?_
 by_cases c9 : 0 < l0.length
 ·rw [if_pos c9] at H
  refine ent_value (ov_eqnil 0 rfl rfl Try.underlying32 rfl hA0 rfl c9) rfl rfl rfl ?_
  refine ent_nil ?_
  refine ent_cond_false rfl rfl ?_
  refine ent_skip ?_
  refine ent_seq ?_
  refine ent_region ?_
  refine ent_op (ot_buildSlice (sz := 0) (xs := []) (cs := fl eS ([] : List (List UInt8))) rfl rfl F_slice_32 F_size_9 F_zero_9 rfl rfl (all_size rfl) rfl (by decide)) rfl rfl rfl ?_
  rintro sv6 _ rfl
  refine ent_value (ov_move rfl) rfl rfl rfl ?_
  by_cases c10 : (([] : List (List UInt8)).length + l0.length) * 16 ≤ 140737488355328
  ·rw [if_pos c10] at H
   refine ent_op (ot_appendx (sz := 0) (xs := ([] : List (List UInt8))) (ys := l0) 0 1 rfl rfl F_slice_32 F_size_9 F_zero_9 rfl F_bytes_9 rfl rfl rfl hA0 rfl eS_one c10) rfl rfl rfl ?_
   rintro sv7 _ rfl
   refine ent_L [(own sv7 9 1 (([] : List (List UInt8)) ++ l0).length (fl eS (([] : List (List UInt8)) ++ l0))), A0] rfl ?_
   refine ent_value (ov_assign rfl) rfl rfl rfl ?_
   refine ent_nil ?_
   refine ent_retc ?_
   cases H
   refine ent_pick [1, 0] (by decide) rfl ?_
   exact ret_tmp rfl rfl ⟨_, rfl, rfl⟩
  ·rw [if_neg c10] at H
   cases H
 ·rw [if_neg c9] at H
  by_cases c11 : nilS sv0 = true
  ·replace H : (some (([] : List (List UInt8)))) = _ := H
   refine ent_value (ov_eqnil0 0 rfl rfl Try.underlying32 rfl hA0 c11) rfl rfl rfl ?_
   refine ent_nil ?_
   refine ent_cond_true rfl rfl ?_
   refine ent_seq ?_
   refine ent_region ?_
   refine ent_value (ov_assign rfl) rfl rfl rfl ?_
   refine ent_nil ?_
   refine ent_retc ?_
   cases H
   refine ent_ownnil 9 1 ?_
   refine ent_pick [1, 0] (by decide) rfl ?_
   exact ret_tmp rfl rfl ⟨_, rfl, rfl⟩
  ·refine ent_value (ov_eqnil0 0 rfl rfl Try.underlying32 rfl hA0 (Bool.eq_false_iff.2 c11)) rfl rfl rfl ?_
   refine ent_nil ?_
   refine ent_cond_false rfl rfl ?_
   refine ent_skip ?_
   refine ent_seq ?_
   refine ent_region ?_
   refine ent_op (ot_buildSlice (sz := 0) (xs := []) (cs := fl eS ([] : List (List UInt8))) rfl rfl F_slice_32 F_size_9 F_zero_9 rfl rfl (all_size rfl) rfl (by decide)) rfl rfl rfl ?_
   rintro sv8 _ rfl
   refine ent_value (ov_move rfl) rfl rfl rfl ?_
   by_cases c12 : (([] : List (List UInt8)).length + ([] : List (List UInt8)).length) * 16 ≤ 140737488355328
   ·rw [if_pos c12] at H
    refine ent_op (ot_appendx (sz := 0) (xs := ([] : List (List UInt8))) (ys := ([] : List (List UInt8))) 0 1 rfl rfl F_slice_32 F_size_9 F_zero_9 rfl F_bytes_9 rfl rfl rfl (isRd_zero hA0 c9) rfl eS_one c12) rfl rfl rfl ?_
    rintro sv9 _ rfl
    refine ent_L [(own sv9 9 1 (([] : List (List UInt8)) ++ ([] : List (List UInt8))).length (fl eS (([] : List (List UInt8)) ++ ([] : List (List UInt8))))), A0] rfl ?_
    refine ent_value (ov_assign rfl) rfl rfl rfl ?_
    refine ent_nil ?_
    refine ent_retc ?_
    cases H
    refine ent_pick [1, 0] (by decide) rfl ?_
    exact ret_tmp rfl rfl ⟨_, rfl, rfl⟩
   ·rw [if_neg c12] at H
    cases H

set_option maxRecDepth 100000 in
theorem sheet_Names.spec (r : List (List UInt8)) (H : sheet_Names = some r) : FnSpec Try.prog 14 [] [] (fun v M => ∃ sv2 : Value, v = sv2 ∧ M = [(own sv2 9 1 r.length (fl eS r))]) := by
 unfold sheet_Names at H
 refine spec_of Try.func14 rfl 5 rfl (Nat.le_of_ble_eq_true rfl) fun F w0 => ?_
 show Ent (St 5 w0 F [] []) _
 refine ent_seq ?_
 refine ent_region ?_
 refine ent_value (ov_assign rfl) rfl rfl rfl ?_
 refine ent_nil ?_
 refine ent_seq ?_
 refine ent_region ?_
 obtain ⟨x3, h3, H⟩ := thn_elim H
 refine ent_op (ot_call0 (first := []) (cap := []) (xs := []) rfl rfl F_call_27 rfl (sheet_names.spec _ h3)) rfl rfl rfl ?_
 rintro _ _ ⟨rfl, rfl⟩
 refine ent_op (ot_alloc F_zero_55) rfl rfl rfl ?_
 rintro _ _ ⟨b2, rfl, rfl⟩
 refine ent_op0 (ot_storeG (cs := [(str ([] : List UInt8)), (str ([] : List UInt8)), (str ([] : List UInt8)), (str ([] : List UInt8)), (str ([] : List UInt8)), (str ([] : List UInt8)), (str ([] : List UInt8)), (str ([] : List UInt8)), (str ([] : List UInt8))]) (cs' := [(str x3.1), (str x3.2.1), (str x3.2.2.1), (str x3.2.2.2.1), (str x3.2.2.2.2.1), (str x3.2.2.2.2.2.1), (str x3.2.2.2.2.2.2.1), (str x3.2.2.2.2.2.2.2.1), (str x3.2.2.2.2.2.2.2.2)]) (us := [(str x3.1), (str x3.2.1), (str x3.2.2.1), (str x3.2.2.2.1), (str x3.2.2.2.2.1), (str x3.2.2.2.2.2.1), (str x3.2.2.2.2.2.2.1), (str x3.2.2.2.2.2.2.2.1), (str x3.2.2.2.2.2.2.2.2)]) (L' := [(box b2 55 [(str x3.1), (str x3.2.1), (str x3.2.2.1), (str x3.2.2.2.1), (str x3.2.2.2.2.1), (str x3.2.2.2.2.2.1), (str x3.2.2.2.2.2.2.1), (str x3.2.2.2.2.2.2.2.1), (str x3.2.2.2.2.2.2.2.2)])]) 0 rfl rfl rfl (one_all rfl) F_size_55 rfl rfl (by simp) rfl) rfl rfl ?_
 rintro _ _ rfl
 refine ent_nil ?_
 refine ent_seq ?_
 refine ent_region ?_
 refine ent_value (ov_asl_all rfl F_array_55 F_size_9) rfl rfl rfl ?_
 obtain ⟨x4, h4, H⟩ := Option.bind_eq_some_iff.1 H
 refine ent_op (ot_call (Lr := []) (first := []) (cap := []) (xs := [.tmp 3]) rfl rfl F_call_44 rfl (slices_Clone_____string__string_R.spec (subs (asl b2 0 9) 0 9 1) (box b2 55 [(str x3.1), (str x3.2.1), (str x3.2.2.1), (str x3.2.2.2.1), (str x3.2.2.2.2.1), (str x3.2.2.2.2.2.1), (str x3.2.2.2.2.2.2.1), (str x3.2.2.2.2.2.2.2.1), (str x3.2.2.2.2.2.2.2.2)]) ([x3.1, x3.2.1, x3.2.2.1, x3.2.2.2.1, x3.2.2.2.2.1, x3.2.2.2.2.2.1, x3.2.2.2.2.2.2.1, x3.2.2.2.2.2.2.2.1, x3.2.2.2.2.2.2.2.2].take 9) (isRd_take eS_len (show IsRd (box b2 55 [(str x3.1), (str x3.2.1), (str x3.2.2.1), (str x3.2.2.2.1), (str x3.2.2.2.2.1), (str x3.2.2.2.2.2.1), (str x3.2.2.2.2.2.2.1), (str x3.2.2.2.2.2.2.2.1), (str x3.2.2.2.2.2.2.2.2)]) (asl b2 0 9) ([x3.1, x3.2.1, x3.2.2.1, x3.2.2.2.1, x3.2.2.2.2.1, x3.2.2.2.2.2.1, x3.2.2.2.2.2.2.1, x3.2.2.2.2.2.2.2.1, x3.2.2.2.2.2.2.2.2] : List (List UInt8)).length 1 (fl eS [x3.1, x3.2.1, x3.2.2.1, x3.2.2.2.1, x3.2.2.2.2.1, x3.2.2.2.2.2.1, x3.2.2.2.2.2.2.1, x3.2.2.2.2.2.2.2.1, x3.2.2.2.2.2.2.2.2]) from (isRd_box (o := 0) (n := 9) (sz := 1) (ds := fl eS [x3.1, x3.2.1, x3.2.2.1, x3.2.2.2.1, x3.2.2.2.2.1, x3.2.2.2.2.2.1, x3.2.2.2.2.2.2.1, x3.2.2.2.2.2.2.2.1, x3.2.2.2.2.2.2.2.2]) rfl (by decide) rfl)) (Nat.le_refl _)) _ h4) rfl) rfl rfl rfl ?_
 rintro sv3 _ ⟨_, ⟨_, rfl, rfl⟩, rfl⟩
 refine ent_value (ov_assign rfl) rfl rfl rfl ?_
 refine ent_nil ?_
 refine ent_retc ?_
 cases H
 refine ent_pick [1] (by decide) rfl ?_
 exact ret_tmp rfl rfl ⟨_, rfl, rfl⟩

set_option maxRecDepth 100000 in
theorem ossuaryref10_Same_RR.spec (K : Nat) (sv0 : Value) (A0 : HP) (sv1 : Value) (A1 : HP) (l0 : List (List UInt8)) (l1 : List (List UInt8)) (hA0 : IsRd A0 sv0 l0.length 1 (fl eS l0)) (hA1 : IsRd A1 sv1 l1.length 1 (fl eS l1)) (r : Bool) (H : ossuaryref10_Same_RR K l0 l1 = some r) : FnSpec Try.prog 13 [sv0, sv1] [A0, A1] (fun v M => v = (bool r) ∧ M = [A0, A1]) := by
 unfold ossuaryref10_Same_RR at H
 refine spec_of Try.func13 rfl 26 rfl (Nat.le_of_ble_eq_true rfl) fun F w0 => ?_
 show Ent (St 26 w0 F [(0, sv0), (1, sv1)] [A0, A1]) _
 refine ent_seq ?_
 refine ent_region ?_
 refine ent_value (ov_assign rfl) rfl rfl rfl ?_
 refine ent_nil ?_
 refine ent_seq ?_
 refine ent_seq ?_
 refine ent_region ?_
 refine ent_value (ov_move rfl) rfl rfl rfl ?_
 refine ent_value (ov_len 0 rfl F_slice_32 rfl hA0) rfl rfl rfl ?_
 refine ent_value (ov_move rfl) rfl rfl rfl ?_
 refine ent_value (ov_len 1 rfl F_slice_32 rfl hA1) rfl rfl rfl ?_
 refine ent_value (ov_bin rfl rfl (b_neq _ _ _)) rfl rfl rfl ?_
 refine ent_nil ?_
 by_cases c48 : ¬ ((l0.length : Int) = (l1.length : Int))
 ·rw [if_pos c48] at H
  refine ent_cond_true rfl (ne_t c48) ?_
  refine ent_seq ?_
  refine ent_region ?_
  refine ent_value (ov_assign rfl) rfl rfl rfl ?_
  refine ent_nil ?_
  refine ent_retc ?_
  cases H
  refine ent_pick [0, 1] (by decide) rfl ?_
  exact ret_tmp rfl rfl ⟨rfl, rfl⟩
 ·rw [if_neg c48] at H
  refine ent_cond_false rfl (ne_f c48) ?_
  refine ent_skip ?_
  refine ent_seq ?_
  refine ent_seq ?_
  refine ent_region ?_
  refine ent_value (ov_assign rfl) rfl rfl rfl ?_
  refine ent_nil ?_
  refine ent_block ?_
  refine ent_loop (fun k a w => ∃ i4, ossuaryref10_Same_RR_l0 K l0 l1 k i4 = some r ∧ St 26 w0 F [(0, sv0), (1, sv1), (5, (int .i64 i4))] [A0, A1] a w) K ?_ ?_
  ·exact ent_fin [0, 1] (by decide) rfl (sub_cons (t := 0) rfl (sub_cons (t := 1) rfl (sub_cons (t := 5) rfl (sub_nil _)))) fun a w h => ⟨_, H, h⟩
  ·refine fun k => ent_exi fun i4 => ent_and fun H4 => ?_
   cases k with
   | zero => exact absurd H4 (by simp [ossuaryref10_Same_RR_l0])
   | succ k =>
    rw [ossuaryref10_Same_RR_l0] at H4
    refine ent_seq ?_
    refine ent_seq ?_
    refine ent_region ?_
    refine ent_value (ov_move rfl) rfl rfl rfl ?_
    refine ent_value (ov_move rfl) rfl rfl rfl ?_
    refine ent_value (ov_len 0 rfl F_slice_32 rfl hA0) rfl rfl rfl ?_
    refine ent_value (ov_bin rfl rfl (b_lss _ _ _)) rfl rfl rfl ?_
    refine ent_nil ?_
    by_cases c86 : i4 < (l0.length : Int)
    ·rw [if_pos c86] at H4
     refine ent_cond_true rfl (decide_eq_true c86) ?_
     refine ent_skip ?_
     refine ent_seq ?_
     refine ent_block ?_
     refine ent_seq ?_
     by_cases c90 : 0 ≤ i4
     ·rw [if_pos c90] at H4
      by_cases c91 : i4 < (l1.length : Int)
      ·rw [if_pos c91] at H4
       refine ent_drawm 9 rfl (fun done a w => StD 26 w0 F [(0, sv0), (1, sv1), (5, (int .i64 i4)), (11, (int .i64 i4)), (12, sv0), (13, (int .i64 (l0.length : Int))), (14, (bool (decide (i4 < (l0.length : Int)))))] [(0, 17, sv0), (1, 18, (int .i64 i4)), (2, 19, (eptr sv0 (i4.toNat * 1))), (3, 20, (str (l0.getD i4.toNat []))), (4, 21, sv1), (5, 22, (int .i64 i4)), (6, 23, (eptr sv1 (i4.toNat * 1))), (7, 24, (str (l1.getD i4.toNat []))), (8, 25, (bool (!((l0.getD i4.toNat []) == (l1.getD i4.toNat [])))))] done [A0, A1] a w) (by kernel_rfl) (by kernel_rfl) (draw_startL (sub_cons (t := 0) rfl (sub_cons (t := 1) rfl (sub_cons (t := 5) rfl (sub_cons (t := 11) rfl (sub_cons (t := 12) rfl (sub_cons (t := 13) rfl (sub_cons (t := 14) rfl (sub_nil _)))))))) rfl) ?_ ?_
       ·refine ⟨?_, ?_, ?_, ?_, ?_, ?_, ?_, ?_, ?_, trivial⟩
        ·intro done hi hc hcu
         exact draw_value (i := 0) (t := 17) (v := sv0) rfl rfl (wanted_none rfl) (fun a => hasA_base) (ov_move rfl) rfl rfl (onlyT_spec (k0 := 0) rfl rfl rfl)
        ·intro done hi hc hcu
         exact draw_value (i := 1) (t := 18) (v := (int .i64 i4)) rfl rfl (wanted_none rfl) (fun a => hasA_base) (ov_move rfl) rfl rfl (onlyT_spec (k0 := 1) rfl rfl rfl)
        ·intro done hi hc hcu
         have d0 : done 0 = true := done_of (j := 0) hcu rfl (by decide) rfl
         have d1 : done 1 = true := done_of (j := 1) hcu rfl (by decide) rfl
         exact draw_value (i := 2) (t := 19) (v := (eptr sv0 (i4.toNat * 1))) rfl rfl (wanted_none rfl) (fun a => (hasA_cons (k := 1) rfl d1 (hasA_cons (k := 0) rfl d0 hasA_base))) (ov_indexAddr (sz := 0) 0 rfl rfl F_slice_32 F_size_9 rfl hA0 c90 c86) rfl rfl (onlyT_spec (k0 := 2) rfl rfl rfl)
        ·intro done hi hc hcu
         have d2 : done 2 = true := done_of (j := 2) hcu rfl (by decide) rfl
         exact draw_value (i := 3) (t := 20) (v := (str (l0.getD i4.toNat []))) rfl rfl (wanted_none rfl) (fun a => (hasA_cons (k := 2) rfl d2 hasA_base)) (ov_load (v := (str (l0.getD i4.toNat []))) rfl F_agg_9 (reads_rd (i := 0) rfl hA0 (by simp) (fl_read0 eS_len (ix_lt c90 c86) rfl))) rfl rfl (onlyT_spec (k0 := 3) rfl rfl rfl)
        ·intro done hi hc hcu
         exact draw_value (i := 4) (t := 21) (v := sv1) rfl rfl (wanted_none rfl) (fun a => hasA_base) (ov_move rfl) rfl rfl (onlyT_spec (k0 := 4) rfl rfl rfl)
        ·intro done hi hc hcu
         exact draw_value (i := 5) (t := 22) (v := (int .i64 i4)) rfl rfl (wanted_none rfl) (fun a => hasA_base) (ov_move rfl) rfl rfl (onlyT_spec (k0 := 5) rfl rfl rfl)
        ·intro done hi hc hcu
         have d4 : done 4 = true := done_of (j := 4) hcu rfl (by decide) rfl
         have d5 : done 5 = true := done_of (j := 5) hcu rfl (by decide) rfl
         exact draw_value (i := 6) (t := 23) (v := (eptr sv1 (i4.toNat * 1))) rfl rfl (wanted_none rfl) (fun a => (hasA_cons (k := 5) rfl d5 (hasA_cons (k := 4) rfl d4 hasA_base))) (ov_indexAddr (sz := 0) 1 rfl rfl F_slice_32 F_size_9 rfl hA1 c90 c91) rfl rfl (onlyT_spec (k0 := 6) rfl rfl rfl)
        ·intro done hi hc hcu
         have d6 : done 6 = true := done_of (j := 6) hcu rfl (by decide) rfl
         exact draw_value (i := 7) (t := 24) (v := (str (l1.getD i4.toNat []))) rfl rfl (wanted_none rfl) (fun a => (hasA_cons (k := 6) rfl d6 hasA_base)) (ov_load (v := (str (l1.getD i4.toNat []))) rfl F_agg_9 (reads_rd (i := 1) rfl hA1 (by simp) (fl_read0 eS_len (ix_lt c90 c91) rfl))) rfl rfl (onlyT_spec (k0 := 7) rfl rfl rfl)
        ·intro done hi hc hcu
         have d3 : done 3 = true := done_of (j := 3) hcu rfl (by decide) rfl
         have d7 : done 7 = true := done_of (j := 7) hcu rfl (by decide) rfl
         exact draw_value (i := 8) (t := 25) (v := (bool (!((l0.getD i4.toNat []) == (l1.getD i4.toNat []))))) rfl rfl (wanted_none rfl) (fun a => (hasA_cons (k := 7) rfl d7 (hasA_cons (k := 3) rfl d3 hasA_base))) (ov_bin rfl rfl (b_neq_str _ _)) rfl rfl (onlyT_spec (k0 := 8) rfl rfl rfl)
       ·intro done hall
        refine draw_endL [A0, A1] rfl (fun a => (hasA_cons (k := 0) rfl (hall 0 (by decide)) (hasA_cons (k := 1) rfl (hall 1 (by decide)) (hasA_cons (k := 2) rfl (hall 2 (by decide)) (hasA_cons (k := 3) rfl (hall 3 (by decide)) (hasA_cons (k := 4) rfl (hall 4 (by decide)) (hasA_cons (k := 5) rfl (hall 5 (by decide)) (hasA_cons (k := 6) rfl (hall 6 (by decide)) (hasA_cons (k := 7) rfl (hall 7 (by decide)) (hasA_cons (k := 8) rfl (hall 8 (by decide)) hasA_base)))))))))) ?_
        by_cases c92 : ¬ ((l0.getD i4.toNat []) = (l1.getD i4.toNat []))
        ·rw [if_pos c92] at H4
         refine ent_cond_true rfl (nb_t c92) ?_
         refine ent_seq ?_
         refine ent_region ?_
         refine ent_value (ov_assign rfl) rfl rfl rfl ?_
         refine ent_nil ?_
         refine ent_retc ?_
         cases H4
         refine ent_pick [0, 1] (by decide) rfl ?_
         exact ret_tmp rfl rfl ⟨rfl, rfl⟩
        ·rw [if_neg c92] at H4
         refine ent_cond_false rfl (nb_f c92) ?_
         refine ent_skip ?_
         refine ent_region ?_
         refine ent_value (ov_move rfl) rfl rfl rfl ?_
         refine ent_value (ov_bin rfl rfl (b_add _ _ _) ) rfl rfl rfl ?_
         refine ent_value (ov_assign rfl) rfl rfl rfl ?_
         refine ent_nil ?_
         exact ent_fin [0, 1] (by decide) rfl (sub_cons (t := 0) rfl (sub_cons (t := 1) rfl (sub_cons (t := 5) rfl (sub_nil _)))) fun a w h => ⟨k, Nat.lt_succ_self k, _, H4, h⟩
      ·rw [if_neg c91] at H4
       cases H4
     ·rw [if_neg c90] at H4
      cases H4
    ·rw [if_neg c86] at H4
     refine ent_cond_false rfl (decide_eq_false c86) ?_
     refine ent_exit ?_
     refine ent_seq ?_
     refine ent_region ?_
     refine ent_value (ov_assign rfl) rfl rfl rfl ?_
     refine ent_nil ?_
     refine ent_retc ?_
     cases H4
     refine ent_pick [0, 1] (by decide) rfl ?_
     exact ret_tmp rfl rfl ⟨rfl, rfl⟩

set_option maxRecDepth 100000 in
theorem ossuaryref18_Plain.spec (r : (Int × Int × Int × Int × Int × Int × Int × Int × Int)) (H : ossuaryref18_Plain = r) : FnSpec Try.prog 25 [] [] (fun v M => v = (agg #[(int .i64 r.1), (int .i64 r.2.1), (int .i64 r.2.2.1), (int .i64 r.2.2.2.1), (int .i64 r.2.2.2.2.1), (int .i64 r.2.2.2.2.2.1), (int .i64 r.2.2.2.2.2.2.1), (int .i64 r.2.2.2.2.2.2.2.1), (int .i64 r.2.2.2.2.2.2.2.2)]) ∧ M = []) := by
 unfold ossuaryref18_Plain at H
 refine spec_of Try.func25 rfl 2 rfl (Nat.le_of_ble_eq_true rfl) fun F w0 => ?_
 show Ent (St 2 w0 F [] []) _
 refine ent_seq ?_
 refine ent_region ?_
 refine ent_op (ot_alloc F_zero_24) rfl rfl rfl ?_
 rintro _ _ ⟨b2, rfl, rfl⟩
 refine ent_nil ?_
 refine ent_seq ?_
 refine ent_region ?_
 refine ent_value (ov_build (is := [0, 1, 2, 3, 4, 5, 6, 7, 8]) (xs := [.const (int .i64 2000), .const (int .i64 1), .const (int .i64 2), .const (int .i64 24), .const (int .i64 48), .const (int .i64 2), .const (int .i64 60), .const (int .i64 16), .const (int .i64 4000)]) (vs := [(int .i64 2000), (int .i64 1), (int .i64 2), (int .i64 24), (int .i64 48), (int .i64 2), (int .i64 60), (int .i64 16), (int .i64 4000)]) rfl rfl (build_struct (cs := [(int .i64 2000), (int .i64 1), (int .i64 2), (int .i64 24), (int .i64 48), (int .i64 2), (int .i64 60), (int .i64 16), (int .i64 4000)]) F_zero_24 F_places_24 rfl)) rfl rfl rfl ?_
 refine ent_op0 (ot_storeG (cs := [(int .i64 0), (int .i64 0), (int .i64 0), (int .i64 0), (int .i64 0), (int .i64 0), (int .i64 0), (int .i64 0), (int .i64 0)]) (cs' := [(int .i64 2000), (int .i64 1), (int .i64 2), (int .i64 24), (int .i64 48), (int .i64 2), (int .i64 60), (int .i64 16), (int .i64 4000)]) (us := [(int .i64 2000), (int .i64 1), (int .i64 2), (int .i64 24), (int .i64 48), (int .i64 2), (int .i64 60), (int .i64 16), (int .i64 4000)]) (L' := [(box b2 24 [(int .i64 2000), (int .i64 1), (int .i64 2), (int .i64 24), (int .i64 48), (int .i64 2), (int .i64 60), (int .i64 16), (int .i64 4000)])]) 0 rfl rfl rfl (one_all rfl) F_size_24 rfl rfl (by simp) rfl) rfl rfl ?_
 rintro _ _ rfl
 refine ent_nil ?_
 refine ent_retc ?_
 subst H
 exact ret_memp [] (by decide) rfl (vs := [(agg #[(int .i64 2000), (int .i64 1), (int .i64 2), (int .i64 24), (int .i64 48), (int .i64 2), (int .i64 60), (int .i64 16), (int .i64 4000)])]) rfl ⟨⟨_, [(int .i64 2000), (int .i64 1), (int .i64 2), (int .i64 24), (int .i64 48), (int .i64 2), (int .i64 60), (int .i64 16), (int .i64 4000)], rfl, reads_boxW (i := 0) rfl, .inl ⟨F_agg_24, F_size_24, rfl⟩⟩, trivial⟩ _ rfl ⟨rfl, rfl⟩

theorem strings_CutPrefix.spec (a0 a1 : List UInt8) (r : List UInt8 × Bool) (H : strings_CutPrefix a0 a1 = r) : FnSpec Try.prog 29 [(str a0), (str a1)] [] (fun v M => v = (Value.tuple #[(str r.1), (bool r.2)]) ∧ M = []) := by
 subst H
 exact spec_cutPrefix (fun s p w => Try.strings_CutPrefix s p w) a0 a1

set_option maxRecDepth 100000 in
theorem words_Number.spec (K : Nat) (a0 : List UInt8) (r : (Int × Bool)) (H : words_Number K a0 = some r) : FnSpec Try.prog 30 [(str a0)] [] (fun v M => v = (Value.tuple #[(int .i64 r.1), (bool r.2)]) ∧ M = []) := by
 unfold words_Number at H
 refine spec_of Try.func30 rfl 73 rfl (Nat.le_of_ble_eq_true rfl) fun F w0 => ?_
 show Ent (St 73 w0 F [(0, (str a0))] []) _
 refine ent_seq ?_
 refine ent_region ?_
 refine ent_value (ov_assign rfl) rfl rfl rfl ?_
 refine ent_value (ov_assign rfl) rfl rfl rfl ?_
 refine ent_nil ?_
 refine ent_seq ?_
 refine ent_region ?_
 refine ent_value (ov_move rfl) rfl rfl rfl ?_
 obtain ⟨x4, h2, H⟩ := thn_elim H
 refine ent_op (ot_call0 (first := []) (cap := []) (xs := [.tmp 10, .const (str ([45] : List UInt8))]) rfl rfl F_call_29 rfl (strings_CutPrefix.spec a0 ([45] : List UInt8) _ h2)) rfl rfl rfl ?_
 rintro _ _ ⟨rfl, rfl⟩
 refine ent_value (ov_move rfl) rfl rfl rfl ?_
 refine ent_value (ov_extract rfl rfl) rfl rfl rfl ?_
 refine ent_value (ov_extract rfl rfl) rfl rfl rfl ?_
 refine ent_value (ov_assign rfl) rfl rfl rfl ?_
 refine ent_value (ov_assign rfl) rfl rfl rfl ?_
 refine ent_nil ?_
 obtain ⟨x5, H13, H⟩ := Option.bind_eq_some_iff.1 H
 refine ent_seq_cut (fun a w => ∃ v3, x5 = Sum.inl v3 ∧ St 73 w0 F [(2, (int .i64 0)), (4, (str x4.1)), (5, (bool x4.2))] [] a w) ?_ ?_
 ·refine ent_seq ?_
  refine ent_region ?_
  refine ent_value (ov_move rfl) rfl rfl rfl ?_
  refine ent_value (ov_bin rfl rfl (b_eql_str _ _)) rfl rfl rfl ?_
  refine ent_value (ov_move rfl) rfl rfl rfl ?_
  by_cases c139 : x4.1 = ([] : List UInt8)
  ·rw [if_pos c139] at H13
   refine ent_off rfl rfl rfl (eq_t c139) rfl rfl ?_
   refine ent_off rfl rfl rfl (eq_t c139) rfl rfl ?_
   refine ent_off rfl rfl rfl (eq_t c139) rfl rfl ?_
   refine ent_off rfl rfl rfl (eq_t c139) rfl rfl ?_
   refine ent_offu rfl rfl rfl rfl rfl ?_
   refine ent_offu rfl rfl rfl rfl rfl ?_
   refine ent_offu rfl rfl rfl rfl rfl ?_
   refine ent_off rfl rfl rfl (eq_t c139) rfl rfl ?_
   refine ent_value (ov_pick rfl rfl rfl (pick_t (eq_t c139))) rfl rfl rfl ?_
   refine ent_value (ov_move rfl) rfl rfl rfl ?_
   refine ent_off rfl rfl rfl rfl rfl rfl ?_
   refine ent_off rfl rfl rfl rfl rfl rfl ?_
   refine ent_offu rfl rfl rfl rfl rfl ?_
   refine ent_offu rfl rfl rfl rfl rfl ?_
   refine ent_off rfl rfl rfl rfl rfl rfl ?_
   refine ent_value (ov_pick rfl rfl rfl rfl) rfl rfl rfl ?_
   refine ent_nil ?_
   refine ent_cond_true rfl rfl ?_
   refine ent_seq ?_
   refine ent_region ?_
   refine ent_value (ov_assign rfl) rfl rfl rfl ?_
   refine ent_value (ov_assign rfl) rfl rfl rfl ?_
   refine ent_nil ?_
   refine ent_retc ?_
   cases H13
   have H14 := Option.some.inj (show some _ = some _ from H)
   cases H14
   refine ent_pick [] (by decide) rfl ?_
   exact ret_mem (vs := [(int .i64 0), (bool false)]) rfl ⟨rfl, ⟨rfl, trivial⟩⟩ _ rfl ⟨rfl, rfl⟩
  ·rw [if_neg c139] at H13
   refine ent_value_on (ov_move rfl) rfl rfl rfl (eq_f c139) rfl rfl ?_
   refine ent_value_on (ov_lenS rfl Try.underlying9) rfl rfl rfl (eq_f c139) rfl rfl ?_
   refine ent_value_on (ov_bin rfl rfl (b_gtr _ _ _)) rfl rfl rfl (eq_f c139) rfl rfl ?_
   refine ent_value_on (ov_move rfl) rfl rfl rfl (eq_f c139) rfl rfl ?_
   by_cases c140 : 1 < (x4.1.length : Int)
   ·rw [if_pos c140] at H13
    refine ent_value_on (ov_move rfl) rfl rfl rfl (decide_eq_true c140) rfl rfl ?_
    by_cases c141 : 0 < (x4.1.length : Int)
    ·rw [if_pos c141] at H13
     refine ent_value_on (ov_indexS rfl rfl Try.underlying9 (by decide) c141) rfl rfl rfl (decide_eq_true c140) rfl rfl ?_
     refine ent_value_on (ov_bin rfl rfl (b_eql _ _ _)) rfl rfl rfl (decide_eq_true c140) rfl rfl ?_
     refine ent_value_on (ov_pick rfl rfl rfl (pick_t (decide_eq_true c140))) rfl rfl rfl (eq_f c139) rfl rfl ?_
     refine ent_value (ov_pick rfl rfl rfl (pick_f (eq_f c139))) rfl rfl rfl ?_
     refine ent_value (ov_move rfl) rfl rfl rfl ?_
     by_cases c142 : ((x4.1.getD (0 : Int).toNat 0).toNat : Int) = 48
     ·rw [if_pos c142] at H13
      refine ent_off rfl rfl rfl (eq_t c142) rfl rfl ?_
      refine ent_off rfl rfl rfl (eq_t c142) rfl rfl ?_
      refine ent_offu rfl rfl rfl rfl rfl ?_
      refine ent_offu rfl rfl rfl rfl rfl ?_
      refine ent_off rfl rfl rfl (eq_t c142) rfl rfl ?_
      refine ent_value (ov_pick rfl rfl rfl (pick_t (eq_t c142))) rfl rfl rfl ?_
      refine ent_nil ?_
      refine ent_cond_true rfl rfl ?_
      refine ent_seq ?_
      refine ent_region ?_
      refine ent_value (ov_assign rfl) rfl rfl rfl ?_
      refine ent_value (ov_assign rfl) rfl rfl rfl ?_
      refine ent_nil ?_
      refine ent_retc ?_
      cases H13
      have H15 := Option.some.inj (show some _ = some _ from H)
      cases H15
      refine ent_pick [] (by decide) rfl ?_
      exact ret_mem (vs := [(int .i64 0), (bool false)]) rfl ⟨rfl, ⟨rfl, trivial⟩⟩ _ rfl ⟨rfl, rfl⟩
     ·rw [if_neg c142] at H13
      refine ent_value_on (ov_move rfl) rfl rfl rfl (eq_f c142) rfl rfl ?_
      refine ent_value_on (ov_move rfl) rfl rfl rfl (eq_f c142) rfl rfl ?_
      by_cases c143 : x4.2 = true
      ·rw [if_pos c143] at H13
       refine ent_value_on (ov_move rfl) rfl rfl rfl c143 rfl rfl ?_
       refine ent_value_on (ov_bin rfl rfl (b_eql_str _ _)) rfl rfl rfl c143 rfl rfl ?_
       refine ent_value_on (ov_pick rfl rfl rfl (pick_t c143)) rfl rfl rfl (eq_f c142) rfl rfl ?_
       refine ent_value (ov_pick rfl rfl rfl (pick_f (eq_f c142))) rfl rfl rfl ?_
       refine ent_nil ?_
       by_cases c144 : x4.1 = ([48] : List UInt8)
       ·rw [if_pos c144] at H13
        refine ent_cond_true rfl (eq_t c144) ?_
        refine ent_seq ?_
        refine ent_region ?_
        refine ent_value (ov_assign rfl) rfl rfl rfl ?_
        refine ent_value (ov_assign rfl) rfl rfl rfl ?_
        refine ent_nil ?_
        refine ent_retc ?_
        cases H13
        have H16 := Option.some.inj (show some _ = some _ from H)
        cases H16
        refine ent_pick [] (by decide) rfl ?_
        exact ret_mem (vs := [(int .i64 0), (bool false)]) rfl ⟨rfl, ⟨rfl, trivial⟩⟩ _ rfl ⟨rfl, rfl⟩
       ·rw [if_neg c144] at H13
        refine ent_cond_false rfl (eq_f c144) ?_
        refine ent_skip ?_
        cases H13
        exact ent_fin [] (by decide) rfl (sub_cons (t := 2) rfl (sub_cons (t := 4) rfl (sub_cons (t := 5) rfl (sub_nil _)))) fun a w h => ⟨_, rfl, h⟩
      ·rw [if_neg c143] at H13
       refine ent_off rfl rfl rfl (Bool.eq_false_iff.2 c143) rfl rfl ?_
       refine ent_off rfl rfl rfl (Bool.eq_false_iff.2 c143) rfl rfl ?_
       refine ent_value_on (ov_pick rfl rfl rfl (pick_f (Bool.eq_false_iff.2 c143))) rfl rfl rfl (eq_f c142) rfl rfl ?_
       refine ent_value (ov_pick rfl rfl rfl (pick_f (eq_f c142))) rfl rfl rfl ?_
       refine ent_nil ?_
       refine ent_cond_false rfl rfl ?_
       refine ent_skip ?_
       cases H13
       exact ent_fin [] (by decide) rfl (sub_cons (t := 2) rfl (sub_cons (t := 4) rfl (sub_cons (t := 5) rfl (sub_nil _)))) fun a w h => ⟨_, rfl, h⟩
    ·rw [if_neg c141] at H13
     cases H13
   ·rw [if_neg c140] at H13
    refine ent_off rfl rfl rfl (decide_eq_false c140) rfl rfl ?_
    refine ent_off rfl rfl rfl (decide_eq_false c140) rfl rfl ?_
    refine ent_off rfl rfl rfl (decide_eq_false c140) rfl rfl ?_
    refine ent_value_on (ov_pick rfl rfl rfl (pick_f (decide_eq_false c140))) rfl rfl rfl (eq_f c139) rfl rfl ?_
    refine ent_value (ov_pick rfl rfl rfl (pick_f (eq_f c139))) rfl rfl rfl ?_
    refine ent_value (ov_move rfl) rfl rfl rfl ?_
    refine ent_value_on (ov_move rfl) rfl rfl rfl rfl rfl rfl ?_
    refine ent_value_on (ov_move rfl) rfl rfl rfl rfl rfl rfl ?_
    by_cases c145 : x4.2 = true
    ·rw [if_pos c145] at H13
     refine ent_value_on (ov_move rfl) rfl rfl rfl c145 rfl rfl ?_
     refine ent_value_on (ov_bin rfl rfl (b_eql_str _ _)) rfl rfl rfl c145 rfl rfl ?_
     refine ent_value_on (ov_pick rfl rfl rfl (pick_t c145)) rfl rfl rfl rfl rfl rfl ?_
     refine ent_value (ov_pick rfl rfl rfl rfl) rfl rfl rfl ?_
     refine ent_nil ?_
     by_cases c146 : x4.1 = ([48] : List UInt8)
     ·rw [if_pos c146] at H13
      refine ent_cond_true rfl (eq_t c146) ?_
      refine ent_seq ?_
      refine ent_region ?_
      refine ent_value (ov_assign rfl) rfl rfl rfl ?_
      refine ent_value (ov_assign rfl) rfl rfl rfl ?_
      refine ent_nil ?_
      refine ent_retc ?_
      cases H13
      have H17 := Option.some.inj (show some _ = some _ from H)
      cases H17
      refine ent_pick [] (by decide) rfl ?_
      exact ret_mem (vs := [(int .i64 0), (bool false)]) rfl ⟨rfl, ⟨rfl, trivial⟩⟩ _ rfl ⟨rfl, rfl⟩
     ·rw [if_neg c146] at H13
      refine ent_cond_false rfl (eq_f c146) ?_
      refine ent_skip ?_
      cases H13
      exact ent_fin [] (by decide) rfl (sub_cons (t := 2) rfl (sub_cons (t := 4) rfl (sub_cons (t := 5) rfl (sub_nil _)))) fun a w h => ⟨_, rfl, h⟩
    ·rw [if_neg c145] at H13
     refine ent_off rfl rfl rfl (Bool.eq_false_iff.2 c145) rfl rfl ?_
     refine ent_off rfl rfl rfl (Bool.eq_false_iff.2 c145) rfl rfl ?_
     refine ent_value_on (ov_pick rfl rfl rfl (pick_f (Bool.eq_false_iff.2 c145))) rfl rfl rfl rfl rfl rfl ?_
     refine ent_value (ov_pick rfl rfl rfl rfl) rfl rfl rfl ?_
     refine ent_nil ?_
     refine ent_cond_false rfl rfl ?_
     refine ent_skip ?_
     cases H13
     exact ent_fin [] (by decide) rfl (sub_cons (t := 2) rfl (sub_cons (t := 4) rfl (sub_cons (t := 5) rfl (sub_nil _)))) fun a w h => ⟨_, rfl, h⟩
 ·refine ent_exi fun v3 => ent_and fun e_ => ?_
  subst e_
  rw [cas_inl] at H
  obtain ⟨x6, H19, H⟩ := Option.bind_eq_some_iff.1 H
  refine ent_seq_cut (fun a w => ∃ v4, x6 = Sum.inl v4 ∧ St 73 w0 F [(2, (int .i64 v4)), (5, (bool x4.2))] [] a w) ?_ ?_
  ·refine ent_seq ?_
   refine ent_region ?_
   refine ent_value (ov_move rfl) rfl rfl rfl ?_
   by_cases c202 : x4.1.length ≤ 9223372036854775807
   ·rw [if_pos c202] at H19
    refine ent_op (ot_s2b rfl Try.underlying9 F_slice_71 Try.underlying5 c202) rfl rfl rfl ?_
    rintro sv4 _ rfl
    refine ent_value (ov_len 0 rfl F_slice_71 rfl (isRd_frzx 5)) rfl rfl rfl ?_
    refine ent_value (ov_move rfl) rfl rfl rfl ?_
    refine ent_nil ?_
    refine ent_block ?_
    refine ent_loop (fun k a w => ∃ i10, ∃ i11, words_Number_l0 K x4 k i10 i11 = some x6 ∧ St 73 w0 F [(2, (int .i64 i10)), (5, (bool x4.2)), (34, sv4), (35, (int .i64 ((byts x4.1).length : Int))), (36, (int .i64 i11))] [(frz sv4 5 (byts x4.1).length (fl (eI .u8) (byts x4.1)))] a w) K ?_ ?_
    ·exact ent_fin [0] (by decide) rfl (sub_cons (t := 2) rfl (sub_cons (t := 5) rfl (sub_cons (t := 34) rfl (sub_cons (t := 35) rfl (sub_cons (t := 36) rfl (sub_nil _)))))) fun a w h => ⟨_, _, H19, h⟩
    ·refine fun k => ent_exi fun i10 => ent_exi fun i11 => ent_and fun H20 => ?_
     cases k with
     | zero => exact absurd H20 (by simp [words_Number_l0])
     | succ k =>
      rw [words_Number_l0] at H20
      refine ent_seq ?_
      refine ent_region ?_
      refine ent_value (ov_bin rfl rfl (b_lss _ _ _)) rfl rfl rfl ?_
      refine ent_nil ?_
      refine ent_seq ?_
      by_cases c238 : i11 < ((byts x4.1).length : Int)
      ·rw [if_pos c238] at H20
       refine ent_cond_true rfl (decide_eq_true c238) ?_
       refine ent_skip ?_
       refine ent_seq ?_
       refine ent_block ?_
       refine ent_seq ?_
       refine ent_region ?_
       by_cases c248 : 0 ≤ i11
       ·rw [if_pos c248] at H20
        refine ent_value (ov_indexAddr (sz := 0) 0 rfl rfl F_slice_71 F_size_5 rfl (isRd_frzx 5) c248 c238) rfl rfl rfl ?_
        refine ent_value (ov_load (v := (int .u8 ((byts x4.1).getD i11.toNat 0))) rfl F_agg_5 (reads_rd (i := 0) rfl (isRd_frzx 5) (by simp) (fl_read0 (eI_len _) (ix_lt c248 c238) rfl))) rfl rfl rfl ?_
        refine ent_value (ov_assign rfl) rfl rfl rfl ?_
        refine ent_nil ?_
        refine ent_seq ?_
        refine ent_region ?_
        refine ent_value (ov_move rfl) rfl rfl rfl ?_
        refine ent_value (ov_convert rfl (c_int Try.underlying5 Try.underlying2)) rfl rfl rfl ?_
        refine ent_value (ov_bin rfl rfl (b_sub _ _ _) ) rfl rfl rfl ?_
        refine ent_value (ov_assign rfl) rfl rfl rfl ?_
        refine ent_nil ?_
        refine ent_seq ?_
        refine ent_seq ?_
        refine ent_region ?_
        refine ent_value (ov_move rfl) rfl rfl rfl ?_
        refine ent_value (ov_bin rfl rfl (b_lss _ _ _)) rfl rfl rfl ?_
        refine ent_value (ov_move rfl) rfl rfl rfl ?_
        by_cases c253 : (w64 ((w64 ((byts x4.1).getD i11.toNat 0)) - 48)) < 0
        ·rw [if_pos c253] at H20
         refine ent_off rfl rfl rfl (decide_eq_true c253) rfl rfl ?_
         refine ent_off rfl rfl rfl (decide_eq_true c253) rfl rfl ?_
         refine ent_value (ov_pick rfl rfl rfl (pick_t (decide_eq_true c253))) rfl rfl rfl ?_
         refine ent_value (ov_move rfl) rfl rfl rfl ?_
         refine ent_off rfl rfl rfl rfl rfl rfl ?_
         refine ent_off rfl rfl rfl rfl rfl rfl ?_
         refine ent_value (ov_pick rfl rfl rfl rfl) rfl rfl rfl ?_
         refine ent_value (ov_move rfl) rfl rfl rfl ?_
         refine ent_off rfl rfl rfl rfl rfl rfl ?_
         refine ent_off rfl rfl rfl rfl rfl rfl ?_
         refine ent_off rfl rfl rfl rfl rfl rfl ?_
         refine ent_off rfl rfl rfl rfl rfl rfl ?_
         refine ent_off rfl rfl rfl rfl rfl rfl ?_
         refine ent_value (ov_pick rfl rfl rfl rfl) rfl rfl rfl ?_
         refine ent_nil ?_
         refine ent_cond_true rfl rfl ?_
         refine ent_seq ?_
         refine ent_region ?_
         refine ent_value (ov_assign rfl) rfl rfl rfl ?_
         refine ent_value (ov_assign rfl) rfl rfl rfl ?_
         refine ent_nil ?_
         refine ent_retc ?_
         cases H20
         have H21 := Option.some.inj (show some _ = some _ from H)
         cases H21
         refine ent_pick [] (by decide) rfl ?_
         exact ret_mem (vs := [(int .i64 0), (bool false)]) rfl ⟨rfl, ⟨rfl, trivial⟩⟩ _ rfl ⟨rfl, rfl⟩
        ·rw [if_neg c253] at H20
         refine ent_value_on (ov_move rfl) rfl rfl rfl (decide_eq_false c253) rfl rfl ?_
         refine ent_value_on (ov_bin rfl rfl (b_gtr _ _ _)) rfl rfl rfl (decide_eq_false c253) rfl rfl ?_
         refine ent_value (ov_pick rfl rfl rfl (pick_f (decide_eq_false c253))) rfl rfl rfl ?_
         refine ent_value (ov_move rfl) rfl rfl rfl ?_
         by_cases c254 : 9 < (w64 ((w64 ((byts x4.1).getD i11.toNat 0)) - 48))
         ·rw [if_pos c254] at H20
          refine ent_off rfl rfl rfl (decide_eq_true c254) rfl rfl ?_
          refine ent_off rfl rfl rfl (decide_eq_true c254) rfl rfl ?_
          refine ent_value (ov_pick rfl rfl rfl (pick_t (decide_eq_true c254))) rfl rfl rfl ?_
          refine ent_value (ov_move rfl) rfl rfl rfl ?_
          refine ent_off rfl rfl rfl rfl rfl rfl ?_
          refine ent_off rfl rfl rfl rfl rfl rfl ?_
          refine ent_off rfl rfl rfl rfl rfl rfl ?_
          refine ent_off rfl rfl rfl rfl rfl rfl ?_
          refine ent_off rfl rfl rfl rfl rfl rfl ?_
          refine ent_value (ov_pick rfl rfl rfl rfl) rfl rfl rfl ?_
          refine ent_nil ?_
          refine ent_cond_true rfl rfl ?_
          refine ent_seq ?_
          refine ent_region ?_
          refine ent_value (ov_assign rfl) rfl rfl rfl ?_
          refine ent_value (ov_assign rfl) rfl rfl rfl ?_
          refine ent_nil ?_
          refine ent_retc ?_
          cases H20
          have H22 := Option.some.inj (show some _ = some _ from H)
          cases H22
          refine ent_pick [] (by decide) rfl ?_
          exact ret_mem (vs := [(int .i64 0), (bool false)]) rfl ⟨rfl, ⟨rfl, trivial⟩⟩ _ rfl ⟨rfl, rfl⟩
         ·rw [if_neg c254] at H20
          refine ent_value_on (ov_move rfl) rfl rfl rfl (decide_eq_false c254) rfl rfl ?_
          refine ent_value_on (ov_bin rfl rfl (b_lss _ _ _)) rfl rfl rfl (decide_eq_false c254) rfl rfl ?_
          refine ent_value (ov_pick rfl rfl rfl (pick_f (decide_eq_false c254))) rfl rfl rfl ?_
          refine ent_value (ov_move rfl) rfl rfl rfl ?_
          by_cases c255 : i10 < (-922337203685477580)
          ·rw [if_pos c255] at H20
           refine ent_off rfl rfl rfl (decide_eq_true c255) rfl rfl ?_
           refine ent_off rfl rfl rfl (decide_eq_true c255) rfl rfl ?_
           refine ent_off rfl rfl rfl (decide_eq_true c255) rfl rfl ?_
           refine ent_off rfl rfl rfl (decide_eq_true c255) rfl rfl ?_
           refine ent_off rfl rfl rfl (decide_eq_true c255) rfl rfl ?_
           refine ent_value (ov_pick rfl rfl rfl (pick_t (decide_eq_true c255))) rfl rfl rfl ?_
           refine ent_nil ?_
           refine ent_cond_true rfl rfl ?_
           refine ent_seq ?_
           refine ent_region ?_
           refine ent_value (ov_assign rfl) rfl rfl rfl ?_
           refine ent_value (ov_assign rfl) rfl rfl rfl ?_
           refine ent_nil ?_
           refine ent_retc ?_
           cases H20
           have H23 := Option.some.inj (show some _ = some _ from H)
           cases H23
           refine ent_pick [] (by decide) rfl ?_
           exact ret_mem (vs := [(int .i64 0), (bool false)]) rfl ⟨rfl, ⟨rfl, trivial⟩⟩ _ rfl ⟨rfl, rfl⟩
          ·rw [if_neg c255] at H20
           refine ent_value_on (ov_move rfl) rfl rfl rfl (decide_eq_false c255) rfl rfl ?_
           refine ent_value_on (ov_bin rfl rfl (b_mul _ _ _) ) rfl rfl rfl (decide_eq_false c255) rfl rfl ?_
           refine ent_value_on (ov_move rfl) rfl rfl rfl (decide_eq_false c255) rfl rfl ?_
           refine ent_value_on (ov_bin rfl rfl (b_add _ _ _) ) rfl rfl rfl (decide_eq_false c255) rfl rfl ?_
           refine ent_value_on (ov_bin rfl rfl (b_lss _ _ _)) rfl rfl rfl (decide_eq_false c255) rfl rfl ?_
           refine ent_value (ov_pick rfl rfl rfl (pick_f (decide_eq_false c255))) rfl rfl rfl ?_
           refine ent_nil ?_
           by_cases c256 : (w64 (i10 * 10)) < (w64 ((-9223372036854775808) + (w64 ((w64 ((byts x4.1).getD i11.toNat 0)) - 48))))
           ·rw [if_pos c256] at H20
            refine ent_cond_true rfl (decide_eq_true c256) ?_
            refine ent_seq ?_
            refine ent_region ?_
            refine ent_value (ov_assign rfl) rfl rfl rfl ?_
            refine ent_value (ov_assign rfl) rfl rfl rfl ?_
            refine ent_nil ?_
            refine ent_retc ?_
            cases H20
            have H24 := Option.some.inj (show some _ = some _ from H)
            cases H24
            refine ent_pick [] (by decide) rfl ?_
            exact ret_mem (vs := [(int .i64 0), (bool false)]) rfl ⟨rfl, ⟨rfl, trivial⟩⟩ _ rfl ⟨rfl, rfl⟩
           ·rw [if_neg c256] at H20
            refine ent_cond_false rfl (decide_eq_false c256) ?_
            refine ent_skip ?_
            refine ent_region ?_
            refine ent_value (ov_move rfl) rfl rfl rfl ?_
            refine ent_value (ov_bin rfl rfl (b_mul _ _ _) ) rfl rfl rfl ?_
            refine ent_value (ov_move rfl) rfl rfl rfl ?_
            refine ent_value (ov_bin rfl rfl (b_sub _ _ _) ) rfl rfl rfl ?_
            refine ent_value (ov_assign rfl) rfl rfl rfl ?_
            refine ent_nil ?_
            refine ent_region ?_
            refine ent_value (ov_bin rfl rfl (b_add _ _ _) ) rfl rfl rfl ?_
            refine ent_value (ov_move rfl) rfl rfl rfl ?_
            refine ent_nil ?_
            exact ent_fin [0] (by decide) rfl (sub_cons (t := 2) rfl (sub_cons (t := 5) rfl (sub_cons (t := 34) rfl (sub_cons (t := 35) rfl (sub_cons (t := 36) rfl (sub_nil _)))))) fun a w h => ⟨k, Nat.lt_succ_self k, _, _, H20, h⟩
       ·rw [if_neg c248] at H20
        cases H20
      ·rw [if_neg c238] at H20
       refine ent_cond_false rfl (decide_eq_false c238) ?_
       refine ent_exit ?_
       cases H20
       exact ent_fin [] (by decide) rfl (sub_cons (t := 2) rfl (sub_cons (t := 5) rfl (sub_nil _))) fun a w h => ⟨_, rfl, h⟩
   ·rw [if_neg c202] at H19
    cases H19
  ·refine ent_exi fun v4 => ent_and fun e_ => ?_
   subst e_
   rw [cas_inl] at H
   refine ent_seq ?_
   refine ent_block ?_
   refine ent_seq ?_
   refine ent_region ?_
   refine ent_value (ov_move rfl) rfl rfl rfl ?_
   refine ent_value (ov_assign rfl) rfl rfl rfl ?_
   refine ent_nil ?_
   by_cases c259 : x4.2 = true
   ·rw [if_pos c259] at H
    refine ent_cond_true rfl c259 ?_
    refine ent_seq ?_
    refine ent_region ?_
    refine ent_value (ov_move rfl) rfl rfl rfl ?_
    refine ent_value (ov_assign rfl) rfl rfl rfl ?_
    refine ent_value (ov_assign rfl) rfl rfl rfl ?_
    refine ent_nil ?_
    refine ent_retc ?_
    cases H
    refine ent_pick [] (by decide) rfl ?_
    exact ret_mem (vs := [(int .i64 v4), (bool true)]) rfl ⟨rfl, ⟨rfl, trivial⟩⟩ _ rfl ⟨rfl, rfl⟩
   ·rw [if_neg c259] at H
    refine ent_cond_false rfl (Bool.eq_false_iff.2 c259) ?_
    refine ent_seq ?_
    refine ent_region ?_
    refine ent_value (ov_move rfl) rfl rfl rfl ?_
    refine ent_value (ov_bin rfl rfl (b_eql _ _ _)) rfl rfl rfl ?_
    refine ent_value (ov_assign rfl) rfl rfl rfl ?_
    refine ent_nil ?_
    by_cases c260 : v4 = (-9223372036854775808)
    ·rw [if_pos c260] at H
     refine ent_cond_true rfl (eq_t c260) ?_
     refine ent_seq ?_
     refine ent_region ?_
     refine ent_value (ov_assign rfl) rfl rfl rfl ?_
     refine ent_value (ov_assign rfl) rfl rfl rfl ?_
     refine ent_nil ?_
     refine ent_retc ?_
     cases H
     refine ent_pick [] (by decide) rfl ?_
     exact ret_mem (vs := [(int .i64 0), (bool false)]) rfl ⟨rfl, ⟨rfl, trivial⟩⟩ _ rfl ⟨rfl, rfl⟩
    ·rw [if_neg c260] at H
     refine ent_cond_false rfl (eq_f c260) ?_
     refine ent_skip ?_
     refine ent_seq ?_
     refine ent_region ?_
     refine ent_value (ov_move rfl) rfl rfl rfl ?_
     refine ent_value (ov_un rfl (u_neg _ _)) rfl rfl rfl ?_
     refine ent_value (ov_assign rfl) rfl rfl rfl ?_
     refine ent_value (ov_assign rfl) rfl rfl rfl ?_
     refine ent_nil ?_
     refine ent_retc ?_
     cases H
     refine ent_pick [] (by decide) rfl ?_
     exact ret_mem (vs := [(int .i64 (w64 (0 - v4))), (bool true)]) rfl ⟨rfl, ⟨rfl, trivial⟩⟩ _ rfl ⟨rfl, rfl⟩

set_option maxRecDepth 100000 in
theorem sheet_sheet_done.spec (p0 : Nat) (p0_0 : Int) (p0_1 : Int) (p0_2 : Int) (p0_3 : Int) (p0_4 : Int) (p0_5 : Int) (p0_6 : Int) (p0_7 : Int) (p0_8 : Int) (p0_9 : Int) (r : (Int × Int × Int × Int × Int × Int × Int × Int × Int × Int × Int)) (H : sheet_sheet_done p0_0 p0_1 p0_2 p0_3 p0_4 p0_5 p0_6 p0_7 p0_8 p0_9 = some r) : FnSpec Try.prog 31 [(pt p0 0)] [(box p0 51 [(int .i64 p0_0), (int .i64 p0_1), (int .i64 p0_2), (int .i64 p0_3), (int .i64 p0_4), (int .i64 p0_5), (int .i64 p0_6), (int .i64 p0_7), (int .i64 p0_8), (int .i64 p0_9)])] (fun v M => v = (Value.tuple #[(agg #[(int .i64 r.2.2.1), (int .i64 r.2.2.2.1), (int .i64 r.2.2.2.2.1), (int .i64 r.2.2.2.2.2.1), (int .i64 r.2.2.2.2.2.2.1), (int .i64 r.2.2.2.2.2.2.2.1), (int .i64 r.2.2.2.2.2.2.2.2.1), (int .i64 r.2.2.2.2.2.2.2.2.2.1), (int .i64 r.2.2.2.2.2.2.2.2.2.2)]), (int .i64 r.1)]) ∧ M = [(box p0 51 [(int .i64 p0_0), (int .i64 p0_1), (int .i64 p0_2), (int .i64 p0_3), (int .i64 p0_4), (int .i64 p0_5), (int .i64 p0_6), (int .i64 r.2.1), (int .i64 p0_8), (int .i64 p0_9)])]) := by
 unfold sheet_sheet_done at H
 refine spec_of Try.func31 rfl 39 rfl (Nat.le_of_ble_eq_true rfl) fun F w0 => ?_
 show Ent (St 39 w0 F [(0, (pt p0 0))] [(box p0 51 [(int .i64 p0_0), (int .i64 p0_1), (int .i64 p0_2), (int .i64 p0_3), (int .i64 p0_4), (int .i64 p0_5), (int .i64 p0_6), (int .i64 p0_7), (int .i64 p0_8), (int .i64 p0_9)])]) _
 refine ent_seq ?_
 refine ent_region ?_
 refine ent_op (ot_alloc F_zero_24) rfl rfl rfl ?_
 rintro _ _ ⟨b2, rfl, rfl⟩
 refine ent_value (ov_assign rfl) rfl rfl rfl ?_
 refine ent_nil ?_
 refine ent_seq ?_
 refine ent_seq ?_
 refine ent_region ?_
 refine ent_value (ov_move rfl) rfl rfl rfl ?_
 refine ent_value (ov_nilCheck rfl) rfl rfl rfl ?_
 refine ent_value (ov_fieldAddr (sz := 0) (o := 0) rfl F_field_51_1 F_size_2) rfl rfl rfl ?_
 refine ent_value (ov_load (v := (int .i64 p0_9)) rfl F_agg_2 (reads_box1 (i := 1) rfl rfl)) rfl rfl rfl ?_
 refine ent_value (ov_bin rfl rfl (b_gtr _ _ _)) rfl rfl rfl ?_
 refine ent_value (ov_move rfl) rfl rfl rfl ?_
 by_cases c9 : 2147483648 < p0_9
 ·rw [if_pos c9] at H
  refine ent_off rfl rfl rfl (decide_eq_true c9) rfl rfl ?_
  refine ent_off rfl rfl rfl (decide_eq_true c9) rfl rfl ?_
  refine ent_off rfl rfl rfl (decide_eq_true c9) rfl rfl ?_
  refine ent_off rfl rfl rfl (decide_eq_true c9) rfl rfl ?_
  refine ent_off rfl rfl rfl (decide_eq_true c9) rfl rfl ?_
  refine ent_value (ov_pick rfl rfl rfl (pick_t (decide_eq_true c9))) rfl rfl rfl ?_
  refine ent_nil ?_
  refine ent_cond_true rfl rfl ?_
  refine ent_seq ?_
  refine ent_region ?_
  refine ent_value (ov_build (is := []) (xs := []) (vs := []) rfl rfl (build_struct (cs := [(int .i64 0), (int .i64 0), (int .i64 0), (int .i64 0), (int .i64 0), (int .i64 0), (int .i64 0), (int .i64 0), (int .i64 0)]) F_zero_24 F_places_24 rfl)) rfl rfl rfl ?_
  refine ent_op0 (ot_storeG (cs := [(int .i64 0), (int .i64 0), (int .i64 0), (int .i64 0), (int .i64 0), (int .i64 0), (int .i64 0), (int .i64 0), (int .i64 0)]) (cs' := [(int .i64 0), (int .i64 0), (int .i64 0), (int .i64 0), (int .i64 0), (int .i64 0), (int .i64 0), (int .i64 0), (int .i64 0)]) (us := [(int .i64 0), (int .i64 0), (int .i64 0), (int .i64 0), (int .i64 0), (int .i64 0), (int .i64 0), (int .i64 0), (int .i64 0)]) (L' := [(box b2 24 [(int .i64 0), (int .i64 0), (int .i64 0), (int .i64 0), (int .i64 0), (int .i64 0), (int .i64 0), (int .i64 0), (int .i64 0)]), (box p0 51 [(int .i64 p0_0), (int .i64 p0_1), (int .i64 p0_2), (int .i64 p0_3), (int .i64 p0_4), (int .i64 p0_5), (int .i64 p0_6), (int .i64 p0_7), (int .i64 p0_8), (int .i64 p0_9)])]) 0 rfl rfl rfl (one_all rfl) F_size_24 rfl rfl (by simp) rfl) rfl rfl ?_
  rintro _ _ rfl
  refine ent_value (ov_assign rfl) rfl rfl rfl ?_
  refine ent_nil ?_
  refine ent_retc ?_
  first | (have e_ := Option.some.inj (show some _ = some _ from H); subst e_) | subst H
  exact ret_memp [1] (by decide) rfl (vs := [(agg #[(int .i64 0), (int .i64 0), (int .i64 0), (int .i64 0), (int .i64 0), (int .i64 0), (int .i64 0), (int .i64 0), (int .i64 0)]), (int .i64 2)]) rfl ⟨⟨_, [(int .i64 0), (int .i64 0), (int .i64 0), (int .i64 0), (int .i64 0), (int .i64 0), (int .i64 0), (int .i64 0), (int .i64 0)], rfl, reads_boxW (i := 0) rfl, .inl ⟨F_agg_24, F_size_24, rfl⟩⟩, ⟨rfl, trivial⟩⟩ _ rfl ⟨rfl, rfl⟩
 ·rw [if_neg c9] at H
  refine ent_value_on (ov_move rfl) rfl rfl rfl (decide_eq_false c9) rfl rfl ?_
  refine ent_value_on (ov_nilCheck rfl) rfl rfl rfl (decide_eq_false c9) rfl rfl ?_
  refine ent_value_on (ov_fieldAddr (sz := 0) (o := 0) rfl F_field_51_1 F_size_2) rfl rfl rfl (decide_eq_false c9) rfl rfl ?_
  refine ent_value_on (ov_load (v := (int .i64 p0_9)) rfl F_agg_2 (reads_box1 (i := 1) rfl rfl)) rfl rfl rfl (decide_eq_false c9) rfl rfl ?_
  refine ent_value_on (ov_bin rfl rfl (b_lss _ _ _)) rfl rfl rfl (decide_eq_false c9) rfl rfl ?_
  refine ent_value (ov_pick rfl rfl rfl (pick_f (decide_eq_false c9))) rfl rfl rfl ?_
  refine ent_nil ?_
  by_cases c10 : p0_9 < (-2147483648)
  ·rw [if_pos c10] at H
   refine ent_cond_true rfl (decide_eq_true c10) ?_
   refine ent_seq ?_
   refine ent_region ?_
   refine ent_value (ov_build (is := []) (xs := []) (vs := []) rfl rfl (build_struct (cs := [(int .i64 0), (int .i64 0), (int .i64 0), (int .i64 0), (int .i64 0), (int .i64 0), (int .i64 0), (int .i64 0), (int .i64 0)]) F_zero_24 F_places_24 rfl)) rfl rfl rfl ?_
   refine ent_op0 (ot_storeG (cs := [(int .i64 0), (int .i64 0), (int .i64 0), (int .i64 0), (int .i64 0), (int .i64 0), (int .i64 0), (int .i64 0), (int .i64 0)]) (cs' := [(int .i64 0), (int .i64 0), (int .i64 0), (int .i64 0), (int .i64 0), (int .i64 0), (int .i64 0), (int .i64 0), (int .i64 0)]) (us := [(int .i64 0), (int .i64 0), (int .i64 0), (int .i64 0), (int .i64 0), (int .i64 0), (int .i64 0), (int .i64 0), (int .i64 0)]) (L' := [(box b2 24 [(int .i64 0), (int .i64 0), (int .i64 0), (int .i64 0), (int .i64 0), (int .i64 0), (int .i64 0), (int .i64 0), (int .i64 0)]), (box p0 51 [(int .i64 p0_0), (int .i64 p0_1), (int .i64 p0_2), (int .i64 p0_3), (int .i64 p0_4), (int .i64 p0_5), (int .i64 p0_6), (int .i64 p0_7), (int .i64 p0_8), (int .i64 p0_9)])]) 0 rfl rfl rfl (one_all rfl) F_size_24 rfl rfl (by simp) rfl) rfl rfl ?_
   rintro _ _ rfl
   refine ent_value (ov_assign rfl) rfl rfl rfl ?_
   refine ent_nil ?_
   refine ent_retc ?_
   first | (have e_ := Option.some.inj (show some _ = some _ from H); subst e_) | subst H
   exact ret_memp [1] (by decide) rfl (vs := [(agg #[(int .i64 0), (int .i64 0), (int .i64 0), (int .i64 0), (int .i64 0), (int .i64 0), (int .i64 0), (int .i64 0), (int .i64 0)]), (int .i64 2)]) rfl ⟨⟨_, [(int .i64 0), (int .i64 0), (int .i64 0), (int .i64 0), (int .i64 0), (int .i64 0), (int .i64 0), (int .i64 0), (int .i64 0)], rfl, reads_boxW (i := 0) rfl, .inl ⟨F_agg_24, F_size_24, rfl⟩⟩, ⟨rfl, trivial⟩⟩ _ rfl ⟨rfl, rfl⟩
  ·rw [if_neg c10] at H
   refine ent_cond_false rfl (decide_eq_false c10) ?_
   refine ent_skip ?_
   refine ent_seq ?_
   refine ent_region ?_
   refine ent_value (ov_move rfl) rfl rfl rfl ?_
   refine ent_value (ov_move rfl) rfl rfl rfl ?_
   refine ent_value (ov_nilCheck rfl) rfl rfl rfl ?_
   refine ent_value (ov_fieldAddr (sz := 0) (o := 0) rfl F_field_51_1 F_size_2) rfl rfl rfl ?_
   refine ent_value (ov_load (v := (int .i64 p0_9)) rfl F_agg_2 (reads_box1 (i := 1) rfl rfl)) rfl rfl rfl ?_
   refine ent_value (ov_nilCheck rfl) rfl rfl rfl ?_
   refine ent_value (ov_fieldAddr (sz := 8) (o := 0) rfl F_field_51_0 F_size_24) rfl rfl rfl ?_
   refine ent_value (ov_fieldAddr (sz := 0) (o := 0) rfl F_field_24_7 F_size_3) rfl rfl rfl ?_
   refine ent_op0 (ot_storeG (cs := [(int .i64 p0_0), (int .i64 p0_1), (int .i64 p0_2), (int .i64 p0_3), (int .i64 p0_4), (int .i64 p0_5), (int .i64 p0_6), (int .i64 p0_7), (int .i64 p0_8), (int .i64 p0_9)]) (cs' := [(int .i64 p0_0), (int .i64 p0_1), (int .i64 p0_2), (int .i64 p0_3), (int .i64 p0_4), (int .i64 p0_5), (int .i64 p0_6), (int .i64 p0_9), (int .i64 p0_8), (int .i64 p0_9)]) (us := [(int .i64 p0_9)]) (L' := [(box b2 24 [(int .i64 0), (int .i64 0), (int .i64 0), (int .i64 0), (int .i64 0), (int .i64 0), (int .i64 0), (int .i64 0), (int .i64 0)]), (box p0 51 [(int .i64 p0_0), (int .i64 p0_1), (int .i64 p0_2), (int .i64 p0_3), (int .i64 p0_4), (int .i64 p0_5), (int .i64 p0_6), (int .i64 p0_9), (int .i64 p0_8), (int .i64 p0_9)])]) 1 rfl rfl rfl (one_all rfl) F_size_3 rfl rfl (by simp) rfl) rfl rfl ?_
   rintro _ _ rfl
   refine ent_nil ?_
   refine ent_seq ?_
   refine ent_seq ?_
   refine ent_region ?_
   refine ent_value (ov_move rfl) rfl rfl rfl ?_
   refine ent_value (ov_nilCheck rfl) rfl rfl rfl ?_
   refine ent_value (ov_fieldAddr (sz := 8) (o := 0) rfl F_field_51_0 F_size_24) rfl rfl rfl ?_
   refine ent_value (ov_load_agg (vs := [(int .i64 p0_0), (int .i64 p0_1), (int .i64 p0_2), (int .i64 p0_3), (int .i64 p0_4), (int .i64 p0_5), (int .i64 p0_6), (int .i64 p0_9), (int .i64 p0_8)]) rfl F_agg_24 F_size_24 (reads_boxN (i := 1) rfl rfl)) rfl rfl rfl ?_
   obtain ⟨x4, h4, H⟩ := Option.bind_eq_some_iff.1 H
   refine ent_op (ot_call0 (first := []) (cap := []) (xs := [.tmp 29]) rfl rfl F_call_37 rfl (policy_Check.spec p0_0 p0_1 p0_2 p0_3 p0_4 p0_5 p0_6 p0_9 p0_8 _ h4)) rfl rfl rfl ?_
   rintro _ _ ⟨rfl, rfl⟩
   refine ent_value (ov_assign rfl) rfl rfl rfl ?_
   refine ent_nil ?_
   refine ent_seq ?_
   refine ent_region ?_
   refine ent_value (ov_move rfl) rfl rfl rfl ?_
   refine ent_value (ov_bin rfl rfl (b_neq _ _ _)) rfl rfl rfl ?_
   refine ent_nil ?_
   by_cases c12 : ¬ (x4 = 0)
   ·rw [if_pos c12] at H
    refine ent_cond_true rfl (ne_t c12) ?_
    refine ent_seq ?_
    refine ent_region ?_
    refine ent_value (ov_build (is := []) (xs := []) (vs := []) rfl rfl (build_struct (cs := [(int .i64 0), (int .i64 0), (int .i64 0), (int .i64 0), (int .i64 0), (int .i64 0), (int .i64 0), (int .i64 0), (int .i64 0)]) F_zero_24 F_places_24 rfl)) rfl rfl rfl ?_
    refine ent_value (ov_move rfl) rfl rfl rfl ?_
    refine ent_op0 (ot_storeG (cs := [(int .i64 0), (int .i64 0), (int .i64 0), (int .i64 0), (int .i64 0), (int .i64 0), (int .i64 0), (int .i64 0), (int .i64 0)]) (cs' := [(int .i64 0), (int .i64 0), (int .i64 0), (int .i64 0), (int .i64 0), (int .i64 0), (int .i64 0), (int .i64 0), (int .i64 0)]) (us := [(int .i64 0), (int .i64 0), (int .i64 0), (int .i64 0), (int .i64 0), (int .i64 0), (int .i64 0), (int .i64 0), (int .i64 0)]) (L' := [(box b2 24 [(int .i64 0), (int .i64 0), (int .i64 0), (int .i64 0), (int .i64 0), (int .i64 0), (int .i64 0), (int .i64 0), (int .i64 0)]), (box p0 51 [(int .i64 p0_0), (int .i64 p0_1), (int .i64 p0_2), (int .i64 p0_3), (int .i64 p0_4), (int .i64 p0_5), (int .i64 p0_6), (int .i64 p0_9), (int .i64 p0_8), (int .i64 p0_9)])]) 0 rfl rfl rfl (one_all rfl) F_size_24 rfl rfl (by simp) rfl) rfl rfl ?_
    rintro _ _ rfl
    refine ent_value (ov_assign rfl) rfl rfl rfl ?_
    refine ent_nil ?_
    refine ent_retc ?_
    first | (have e_ := Option.some.inj (show some _ = some _ from H); subst e_) | subst H
    exact ret_memp [1] (by decide) rfl (vs := [(agg #[(int .i64 0), (int .i64 0), (int .i64 0), (int .i64 0), (int .i64 0), (int .i64 0), (int .i64 0), (int .i64 0), (int .i64 0)]), (int .i64 x4)]) rfl ⟨⟨_, [(int .i64 0), (int .i64 0), (int .i64 0), (int .i64 0), (int .i64 0), (int .i64 0), (int .i64 0), (int .i64 0), (int .i64 0)], rfl, reads_boxW (i := 0) rfl, .inl ⟨F_agg_24, F_size_24, rfl⟩⟩, ⟨rfl, trivial⟩⟩ _ rfl ⟨rfl, rfl⟩
   ·rw [if_neg c12] at H
    refine ent_cond_false rfl (ne_f c12) ?_
    refine ent_skip ?_
    refine ent_seq ?_
    refine ent_region ?_
    refine ent_value (ov_move rfl) rfl rfl rfl ?_
    refine ent_value (ov_nilCheck rfl) rfl rfl rfl ?_
    refine ent_value (ov_fieldAddr (sz := 8) (o := 0) rfl F_field_51_0 F_size_24) rfl rfl rfl ?_
    refine ent_value (ov_load_agg (vs := [(int .i64 p0_0), (int .i64 p0_1), (int .i64 p0_2), (int .i64 p0_3), (int .i64 p0_4), (int .i64 p0_5), (int .i64 p0_6), (int .i64 p0_9), (int .i64 p0_8)]) rfl F_agg_24 F_size_24 (reads_boxN (i := 1) rfl rfl)) rfl rfl rfl ?_
    refine ent_op0 (ot_storeG (cs := [(int .i64 0), (int .i64 0), (int .i64 0), (int .i64 0), (int .i64 0), (int .i64 0), (int .i64 0), (int .i64 0), (int .i64 0)]) (cs' := [(int .i64 p0_0), (int .i64 p0_1), (int .i64 p0_2), (int .i64 p0_3), (int .i64 p0_4), (int .i64 p0_5), (int .i64 p0_6), (int .i64 p0_9), (int .i64 p0_8)]) (us := [(int .i64 p0_0), (int .i64 p0_1), (int .i64 p0_2), (int .i64 p0_3), (int .i64 p0_4), (int .i64 p0_5), (int .i64 p0_6), (int .i64 p0_9), (int .i64 p0_8)]) (L' := [(box b2 24 [(int .i64 p0_0), (int .i64 p0_1), (int .i64 p0_2), (int .i64 p0_3), (int .i64 p0_4), (int .i64 p0_5), (int .i64 p0_6), (int .i64 p0_9), (int .i64 p0_8)]), (box p0 51 [(int .i64 p0_0), (int .i64 p0_1), (int .i64 p0_2), (int .i64 p0_3), (int .i64 p0_4), (int .i64 p0_5), (int .i64 p0_6), (int .i64 p0_9), (int .i64 p0_8), (int .i64 p0_9)])]) 0 rfl rfl rfl (one_all rfl) F_size_24 rfl rfl (by simp) rfl) rfl rfl ?_
    rintro _ _ rfl
    refine ent_value (ov_assign rfl) rfl rfl rfl ?_
    refine ent_nil ?_
    refine ent_retc ?_
    first | (have e_ := Option.some.inj (show some _ = some _ from H); subst e_) | subst H
    exact ret_memp [1] (by decide) rfl (vs := [(agg #[(int .i64 p0_0), (int .i64 p0_1), (int .i64 p0_2), (int .i64 p0_3), (int .i64 p0_4), (int .i64 p0_5), (int .i64 p0_6), (int .i64 p0_9), (int .i64 p0_8)]), (int .i64 0)]) rfl ⟨⟨_, [(int .i64 p0_0), (int .i64 p0_1), (int .i64 p0_2), (int .i64 p0_3), (int .i64 p0_4), (int .i64 p0_5), (int .i64 p0_6), (int .i64 p0_9), (int .i64 p0_8)], rfl, reads_boxW (i := 0) rfl, .inl ⟨F_agg_24, F_size_24, rfl⟩⟩, ⟨rfl, trivial⟩⟩ _ rfl ⟨rfl, rfl⟩

end Go.Proofs.Ythcmiohbidencaa.SheetTexts
