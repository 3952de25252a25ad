/- Printed by gen.py: that the machine's calls do what the plain functions of BuildEdits say. -/
import Derived.Test.YthdggcleffadeaaBuildEditsWalk0
import Derived.Test.YthdggcleffadeaaProg
import Derived.Test.YthdggcleffadeaaEInsert
import Derived.Test.YthdggcleffadeaaESortAt
import Derived.Test.YthdggcleffadeaaBuildEditsPure
set_option linter.unusedVariables false
set_option linter.unusedSimpArgs false
set_option maxHeartbeats 1000000
namespace Go.Proofs.Ythdggcleffadeaa.BuildEdits
open Go Go.RowKit E
open Go.Value (int bool slice agg)

set_option maxRecDepth 100000 in
theorem slices_Insert____omap_pair__int64__api_Entry__omap_pair__int64__api_Entry.spec (sv0 sv1 : Value) (l0 : List Omap_pair__int64__api_Entry) (a1 : Int) (l1 : List Omap_pair__int64__api_Entry) (r : List Omap_pair__int64__api_Entry) (H : slices_Insert____omap_pair__int64__api_Entry__omap_pair__int64__api_Entry l0 a1 l1 = some r) : FnSpec Try.prog 169 [sv0, (int .i64 a1), sv1] [(own sv0 196 7 l0.length (fl enc_Omap_pair__int64__api_Entry l0)), (own sv1 196 7 l1.length (fl enc_Omap_pair__int64__api_Entry l1))] (fun v M => ∃ sv2 : Value, v = sv2 ∧ M = [(own sv2 196 7 r.length (fl enc_Omap_pair__int64__api_Entry r)), (own sv1 196 7 l1.length (fl enc_Omap_pair__int64__api_Entry l1))]) := by
 obtain ⟨i, y, rfl, rfl, hin, hroom, rfl⟩ := insL_inv H
 have hbig : l0.length + 1 ≤ 140737488355328 := by omega
 have hml : maxLen = 9223372036854775807 := rfl
 have hfy : (fl enc_Omap_pair__int64__api_Entry [y]).length = 7 := by rw [fl_length enc_Omap_pair__int64__api_Entry_len]; simp
 have hfd : (fl enc_Omap_pair__int64__api_Entry (l0.drop i)).length = (l0.length - i) * 7 := by rw [fl_length enc_Omap_pair__int64__api_Entry_len]; simp
 refine spec_of Try.func169 rfl 95 rfl (Nat.le_of_ble_eq_true rfl) fun F w0 => ?_
 show Ent (St 95 w0 F [(0, sv0), (1, (int .i64 (i : Int))), (2, sv1)] [(own sv0 196 7 l0.length (fl enc_Omap_pair__int64__api_Entry l0)), (own sv1 196 7 ([y] : List Omap_pair__int64__api_Entry).length (fl enc_Omap_pair__int64__api_Entry [y]))]) _
 refine ent_seq ?_
 refine ent_region ?_
 refine ent_value (ov_assign rfl) rfl rfl rfl ?_
 refine ent_nil ?_
 refine ent_seq ?_
 refine ent_region ?_
 refine ent_value (ov_move rfl) rfl rfl rfl ?_
 refine ent_value (ov_move rfl) rfl rfl rfl ?_
 by_cases c1 : 0 ≤ (((i) : Nat) : Int)
 ·by_cases c2 : (((i) : Nat) : Int) ≤ (l0.length : Int)
  ·refine ent_value (ov_slice_lo 0 rfl rfl F_slice_190 F_size_196 rfl (isRd_ownx 196) c1 c2) rfl rfl rfl ?_
   refine ent_nil ?_
   refine ent_seq ?_
   refine ent_region ?_
   refine ent_value (ov_move rfl) rfl rfl rfl ?_
   refine ent_value (ov_len (m := 1) 1 rfl F_slice_190 rfl (isRd_ownx 196)) rfl rfl rfl ?_
   refine ent_value (ov_assign rfl) rfl rfl rfl ?_
   refine ent_nil ?_
   refine ent_seq ?_
   refine ent_seq ?_
   refine ent_region ?_
   refine ent_value (ov_move rfl) rfl rfl rfl ?_
   refine ent_value (ov_bin rfl rfl (b_eql _ _ _)) rfl rfl rfl ?_
   refine ent_nil ?_
   refine ent_cond_false rfl rfl ?_
   refine ent_skip ?_
   refine ent_seq ?_
   refine ent_region ?_
   refine ent_value (ov_move rfl) rfl rfl rfl ?_
   refine ent_value (ov_len 0 rfl F_slice_190 rfl (isRd_ownx 196)) rfl rfl rfl ?_
   refine ent_value (ov_assign rfl) rfl rfl rfl ?_
   refine ent_nil ?_
   refine ent_seq ?_
   refine ent_seq ?_
   refine ent_region ?_
   refine ent_value (ov_move rfl) rfl rfl rfl ?_
   refine ent_value (ov_move rfl) rfl rfl rfl ?_
   refine ent_value (ov_bin rfl rfl (b_eql _ _ _)) rfl rfl rfl ?_
   refine ent_nil ?_
   by_cases c3 : (((i) : Nat) : Int) = (l0.length : Int)
   ·refine ent_cond_true rfl (eq_t c3) ?_
    refine ent_seq ?_
    refine ent_region ?_
    refine ent_value (ov_move rfl) rfl rfl rfl ?_
    refine ent_value (ov_move rfl) rfl rfl rfl ?_
    by_cases c4 : (l0.length + [y].length) * 56 ≤ 140737488355328
    ·refine ent_op (ot_appendx (sz := 6) (xs := l0) (ys := [y]) 0 1 rfl rfl F_slice_190 F_size_196 F_zero_196 rfl F_bytes_196 rfl rfl rfl (isRd_ownx 196) rfl enc_Omap_pair__int64__api_Entry_one c4) rfl rfl rfl ?_
     rintro sv2 _ rfl
     refine ent_L [(own sv2 196 7 (l0 ++ [y]).length (fl enc_Omap_pair__int64__api_Entry (l0 ++ [y]))), (own sv1 196 7 [y].length (fl enc_Omap_pair__int64__api_Entry [y]))] rfl ?_
     refine ent_value (ov_assign rfl) rfl rfl rfl ?_
     refine ent_nil ?_
     refine ent_retc ?_
     have e_ : l0.insertIdx i y = l0 ++ [y] := by
      have e2_ : i = l0.length := by omega
      rw [e2_]; exact ins_end l0 y
     rw [e_]
     refine ent_pick [0, 1] (by decide) rfl ?_
     exact ret_tmp rfl rfl ⟨_, rfl, rfl⟩
    ·first | omega | (simp only [List.length_cons, List.length_nil] at *; omega)
   ·refine ent_cond_false rfl (eq_f c3) ?_
    refine ent_skip ?_
    refine ent_seq ?_
    refine ent_seq ?_
    refine ent_region ?_
    refine ent_value (ov_move rfl) rfl rfl rfl ?_
    refine ent_value (ov_move rfl) rfl rfl rfl ?_
    refine ent_value (ov_binL (m' := (((l0.length + 1) : Nat) : Int)) rfl rfl (b_add _ _ _) (by rewrite [IntKind.wrap_i64]; omega)) rfl rfl rfl ?_
    refine ent_value (ov_move rfl) rfl rfl rfl ?_
    refine ent_open 0 rfl (by omega) ?_
    rintro b1 cap1 cur1 rfl hx1 hx2 hx3 hx4
    refine ent_open 1 rfl (Nat.zero_lt_one) ?_
    rintro b2 cap2 cur2 rfl hx5 hx6 hx7 hx8
    refine ent_L [(box b1 196 cur1), (box b2 196 cur2)] rfl ?_
    refine ent_value (ov_cap rfl F_slice_190) rfl rfl rfl ?_
    refine ent_value (ov_bin rfl rfl (b_gtr _ _ _)) rfl rfl rfl ?_
    refine ent_nil ?_
    by_cases c5 : (((cap1) : Nat) : Int) < (((l0.length + 1) : Nat) : Int)
    ·refine ent_cond_true rfl (decide_eq_true c5) ?_
     refine ent_seq ?_
     refine ent_region ?_
     refine ent_value (ov_move rfl) rfl rfl rfl ?_
     refine ent_value (ov_move rfl) rfl rfl rfl ?_
     refine ent_value (ov_sliceHi (h := i) rfl rfl (by omega) F_slice_190 F_size_196 (by omega)) rfl rfl rfl ?_
     refine ent_value (ov_move rfl) rfl rfl rfl ?_
     refine ent_value (ov_move rfl) rfl rfl rfl ?_
     refine ent_value (ov_binL (m' := (((l0.length + 1) : Nat) : Int)) rfl rfl (b_add _ _ _) (by rewrite [IntKind.wrap_i64]; omega)) rfl rfl rfl ?_
     refine ent_value (ov_move rfl) rfl rfl rfl ?_
     refine ent_value (ov_binL (m' := (((l0.length + 1 - i) : Nat) : Int)) rfl rfl (b_sub _ _ _) (by rewrite [IntKind.wrap_i64]; omega)) rfl rfl rfl ?_
     refine ent_op (ot_appendMake (m := l0.length + 1) 0 rfl rfl (j := (((l0.length + 1 - i) : Nat) : Int)) (k := l0.length + 1 - i) rfl F_slice_190 Try.underlying3 F_size_196 F_zero_196 rfl F_bytes_196 rfl rfl hx3 (by omega) (by omega) (by omega) (by omega) hroom) rfl rfl rfl ?_
     rintro _ _ ⟨b3, cap3, row1, rfl, rfl, hx9, hx10, hx11, hx12⟩
     refine ent_value (ov_assign rfl) rfl rfl rfl ?_
     refine ent_nil ?_
     refine ent_seq ?_
     refine ent_region ?_
     refine ent_value (ov_move rfl) rfl rfl rfl ?_
     refine ent_value (ov_move rfl) rfl rfl rfl ?_
     refine ent_value (ov_sliceLo (l := i) rfl rfl (by omega) F_slice_190 F_size_196 (by omega) (by omega) (by omega)) rfl rfl rfl ?_
     refine ent_value (ov_move rfl) rfl rfl rfl ?_
     refine ent_op (ot_copy (L' := [(box b3 196 (row1.take (0 + (i) * 7) ++ (fl enc_Omap_pair__int64__api_Entry [y]) ++ row1.drop (0 + (i) * 7 + (fl enc_Omap_pair__int64__api_Entry [y]).length))), (box b1 196 cur1), (box b2 196 cur2)]) (cs := (fl enc_Omap_pair__int64__api_Entry [y])) 0 2 rfl rfl F_slice_190 F_size_196 rfl rfl (ins_one enc_Omap_pair__int64__api_Entry_len hx8) (ins_min (k := 1) (Nat.le_refl 1) (by omega) (.inl rfl) (by omega)) (by simp only [List.length_append, List.length_take, List.length_drop, hfy, hfd]; omega) (one_fl enc_Omap_pair__int64__api_Entry_one _) rfl) rfl rfl rfl ?_
     rintro _ _ ⟨rfl, rfl⟩
     refine ent_nil ?_
     refine ent_seq ?_
     let Z1_A : (Nat → Bool) → Act → World → Prop := (fun done a w => StD 95 w0 F [(0, (slice (some ⟨b1, 0, none⟩) (l0.length) (cap1))), (1, (int .i64 (((i) : Nat) : Int))), (2, (slice (some ⟨b2, 0, none⟩) (1) (cap2))), (6, (slice none 0 0)), (7, (int .i64 1)), (8, (int .i64 (l0.length : Int))), (9, (slice (some ⟨b3, 0, none⟩) (l0.length + 1) (cap3))), (10, (slice (some ⟨b1, 0, none⟩) (l0.length) (cap1))), (11, (int .i64 (((i) : Nat) : Int))), (12, (subs (slice (some ⟨b1, 0, none⟩) (l0.length) (cap1)) (((i) : Nat) : Int).toNat l0.length 7)), (13, (slice (some ⟨b2, 0, none⟩) (1) (cap2))), (14, (int .i64 1)), (15, (int .i64 1)), (16, (bool false)), (18, (slice (some ⟨b1, 0, none⟩) (l0.length) (cap1))), (19, (int .i64 (l0.length : Int))), (20, (int .i64 (((i) : Nat) : Int))), (21, (int .i64 (l0.length : Int))), (22, (bool ((((i) : Nat) : Int) == (l0.length : Int)))), (26, (int .i64 (l0.length : Int))), (27, (int .i64 1)), (28, (int .i64 (((l0.length + 1) : Nat) : Int))), (29, (slice (some ⟨b1, 0, none⟩) (l0.length) (cap1))), (30, (int .i64 (((cap1) : Nat) : Int))), (31, (bool (decide ((((cap1) : Nat) : Int) < (((l0.length + 1) : Nat) : Int))))), (32, (slice (some ⟨b1, 0, none⟩) (l0.length) (cap1))), (33, (int .i64 (((i) : Nat) : Int))), (34, (slice (some ⟨b1, 0, none⟩) (i) (cap1))), (35, (int .i64 (l0.length : Int))), (36, (int .i64 1)), (37, (int .i64 (((l0.length + 1) : Nat) : Int))), (38, (int .i64 (((i) : Nat) : Int))), (39, (int .i64 (((l0.length + 1 - i) : Nat) : Int))), (40, (slice (some ⟨b3, 0, none⟩) (l0.length + 1) (cap3))), (41, (slice (some ⟨b3, 0, none⟩) (l0.length + 1) (cap3))), (42, (int .i64 (((i) : Nat) : Int))), (43, (slice (some ⟨b3, 0 + (i) * 7, none⟩) (l0.length + 1 - (i)) (cap3 - (i)))), (44, (slice (some ⟨b2, 0, none⟩) (1) (cap2))), (45, (goInt (Nat.min (1) (l0.length + 1 - (i)))))] [(0, 46, (slice (some ⟨b3, 0, none⟩) (l0.length + 1) (cap3))), (1, 47, (int .i64 (((i) : Nat) : Int))), (2, 48, (int .i64 1)), (3, 49, (int .i64 (((i + 1) : Nat) : Int))), (4, 50, (slice (some ⟨b3, 0 + (i + 1) * 7, none⟩) (l0.length + 1 - (i + 1)) (cap3 - (i + 1)))), (5, 51, (slice (some ⟨b1, 0, none⟩) (l0.length) (cap1))), (6, 52, (int .i64 (((i) : Nat) : Int))), (7, 53, (slice (some ⟨b1, 0 + (i) * 7, none⟩) (l0.length - (i)) (cap1 - (i))))] done [(box b3 196 (row1.take (0 + (i) * 7) ++ (fl enc_Omap_pair__int64__api_Entry [y]) ++ row1.drop (0 + (i) * 7 + (fl enc_Omap_pair__int64__api_Entry [y]).length))), (box b1 196 cur1), (box b2 196 cur2)] a w)
     let Z1_B : Act → World → Prop := (fun a w => St 95 w0 F [(0, (slice (some ⟨b1, 0, none⟩) (l0.length) (cap1))), (1, (int .i64 (((i) : Nat) : Int))), (2, (slice (some ⟨b2, 0, none⟩) (1) (cap2))), (6, (slice none 0 0)), (7, (int .i64 1)), (8, (int .i64 (l0.length : Int))), (9, (slice (some ⟨b3, 0, none⟩) (l0.length + 1) (cap3))), (10, (slice (some ⟨b1, 0, none⟩) (l0.length) (cap1))), (11, (int .i64 (((i) : Nat) : Int))), (12, (subs (slice (some ⟨b1, 0, none⟩) (l0.length) (cap1)) (((i) : Nat) : Int).toNat l0.length 7)), (13, (slice (some ⟨b2, 0, none⟩) (1) (cap2))), (14, (int .i64 1)), (15, (int .i64 1)), (16, (bool false)), (18, (slice (some ⟨b1, 0, none⟩) (l0.length) (cap1))), (19, (int .i64 (l0.length : Int))), (20, (int .i64 (((i) : Nat) : Int))), (21, (int .i64 (l0.length : Int))), (22, (bool ((((i) : Nat) : Int) == (l0.length : Int)))), (26, (int .i64 (l0.length : Int))), (27, (int .i64 1)), (28, (int .i64 (((l0.length + 1) : Nat) : Int))), (29, (slice (some ⟨b1, 0, none⟩) (l0.length) (cap1))), (30, (int .i64 (((cap1) : Nat) : Int))), (31, (bool (decide ((((cap1) : Nat) : Int) < (((l0.length + 1) : Nat) : Int))))), (32, (slice (some ⟨b1, 0, none⟩) (l0.length) (cap1))), (33, (int .i64 (((i) : Nat) : Int))), (34, (slice (some ⟨b1, 0, none⟩) (i) (cap1))), (35, (int .i64 (l0.length : Int))), (36, (int .i64 1)), (37, (int .i64 (((l0.length + 1) : Nat) : Int))), (38, (int .i64 (((i) : Nat) : Int))), (39, (int .i64 (((l0.length + 1 - i) : Nat) : Int))), (40, (slice (some ⟨b3, 0, none⟩) (l0.length + 1) (cap3))), (41, (slice (some ⟨b3, 0, none⟩) (l0.length + 1) (cap3))), (42, (int .i64 (((i) : Nat) : Int))), (43, (slice (some ⟨b3, 0 + (i) * 7, none⟩) (l0.length + 1 - (i)) (cap3 - (i)))), (44, (slice (some ⟨b2, 0, none⟩) (1) (cap2))), (45, (goInt (Nat.min (1) (l0.length + 1 - (i))))), (46, (slice (some ⟨b3, 0, none⟩) (l0.length + 1) (cap3))), (47, (int .i64 (((i) : Nat) : Int))), (48, (int .i64 1)), (49, (int .i64 (((i + 1) : Nat) : Int))), (50, (slice (some ⟨b3, 0 + (i + 1) * 7, none⟩) (l0.length + 1 - (i + 1)) (cap3 - (i + 1)))), (51, (slice (some ⟨b1, 0, none⟩) (l0.length) (cap1))), (52, (int .i64 (((i) : Nat) : Int))), (53, (slice (some ⟨b1, 0 + (i) * 7, none⟩) (l0.length - (i)) (cap1 - (i)))), (54, (goInt (Nat.min (l0.length - (i)) (l0.length + 1 - (i + 1)))))] [(box b3 196 ((row1.take (0 + (i) * 7) ++ (fl enc_Omap_pair__int64__api_Entry [y]) ++ row1.drop (0 + (i) * 7 + (fl enc_Omap_pair__int64__api_Entry [y]).length)).take (0 + (i + 1) * 7) ++ (fl enc_Omap_pair__int64__api_Entry (l0.drop i)) ++ (row1.take (0 + (i) * 7) ++ (fl enc_Omap_pair__int64__api_Entry [y]) ++ row1.drop (0 + (i) * 7 + (fl enc_Omap_pair__int64__api_Entry [y]).length)).drop (0 + (i + 1) * 7 + (fl enc_Omap_pair__int64__api_Entry (l0.drop i)).length))), (box b1 196 cur1), (box b2 196 cur2)] a w)
     refine ent_drawm 9 rfl (two 8 Z1_A Z1_B) (by kernel_rfl) (by kernel_rfl) (two_start (draw_startL (sub_cons (t := 0) rfl (sub_cons (t := 1) rfl (sub_cons (t := 2) rfl (sub_cons (t := 6) rfl (sub_cons (t := 7) rfl (sub_cons (t := 8) rfl (sub_cons (t := 9) rfl (sub_cons (t := 10) rfl (sub_cons (t := 11) rfl (sub_cons (t := 12) rfl (sub_cons (t := 13) rfl (sub_cons (t := 14) rfl (sub_cons (t := 15) rfl (sub_cons (t := 16) rfl (sub_cons (t := 18) rfl (sub_cons (t := 19) rfl (sub_cons (t := 20) rfl (sub_cons (t := 21) rfl (sub_cons (t := 22) rfl (sub_cons (t := 26) rfl (sub_cons (t := 27) rfl (sub_cons (t := 28) rfl (sub_cons (t := 29) rfl (sub_cons (t := 30) rfl (sub_cons (t := 31) rfl (sub_cons (t := 32) rfl (sub_cons (t := 33) rfl (sub_cons (t := 34) rfl (sub_cons (t := 35) rfl (sub_cons (t := 36) rfl (sub_cons (t := 37) rfl (sub_cons (t := 38) rfl (sub_cons (t := 39) rfl (sub_cons (t := 40) rfl (sub_cons (t := 41) rfl (sub_cons (t := 42) rfl (sub_cons (t := 43) rfl (sub_cons (t := 44) rfl (sub_cons (t := 45) rfl (sub_nil _)))))))))))))))))))))))))))))))))))))))) rfl)) ?_ ?_
     ·refine ⟨?_, ?_, ?_, ?_, ?_, ?_, ?_, ?_, ?_, trivial⟩
      ·intro done hi hc hcu
       have n4 : done 4 = false := notdone_of (m := 4) hc hi rfl rfl
       have n8 : done 8 = false := notdone_of (m := 8) hc n4 rfl rfl
       refine two_step (m := 8) (A := Z1_A) n8 rfl ?_
       exact draw_value (i := 0) (t := 46) (v := (slice (some ⟨b3, 0, none⟩) (l0.length + 1) (cap3))) rfl rfl (wanted_none rfl) (fun a => hasA_base) (ov_move rfl) rfl rfl (onlyT_spec (k0 := 0) rfl rfl rfl)
      ·intro done hi hc hcu
       have n3 : done 3 = false := notdone_of (m := 3) hc hi rfl rfl
       have n4 : done 4 = false := notdone_of (m := 4) hc n3 rfl rfl
       have n8 : done 8 = false := notdone_of (m := 8) hc n4 rfl rfl
       refine two_step (m := 8) (A := Z1_A) n8 rfl ?_
       exact draw_value (i := 1) (t := 47) (v := (int .i64 (((i) : Nat) : Int))) rfl rfl (wanted_none rfl) (fun a => hasA_base) (ov_move rfl) rfl rfl (onlyT_spec (k0 := 1) rfl rfl rfl)
      ·intro done hi hc hcu
       have n3 : done 3 = false := notdone_of (m := 3) hc hi rfl rfl
       have n4 : done 4 = false := notdone_of (m := 4) hc n3 rfl rfl
       have n8 : done 8 = false := notdone_of (m := 8) hc n4 rfl rfl
       refine two_step (m := 8) (A := Z1_A) n8 rfl ?_
       exact draw_value (i := 2) (t := 48) (v := (int .i64 1)) rfl rfl (wanted_none rfl) (fun a => hasA_base) (ov_move rfl) rfl rfl (onlyT_spec (k0 := 2) rfl rfl rfl)
      ·intro done hi hc hcu
       have n4 : done 4 = false := notdone_of (m := 4) hc hi rfl rfl
       have n8 : done 8 = false := notdone_of (m := 8) hc n4 rfl rfl
       refine two_step (m := 8) (A := Z1_A) n8 rfl ?_
       have d1 : done 1 = true := done_of (j := 1) hcu rfl (by decide) rfl
       have d2 : done 2 = true := done_of (j := 2) hcu rfl (by decide) rfl
       exact draw_value (i := 3) (t := 49) (v := (int .i64 (((i + 1) : Nat) : Int))) rfl rfl (wanted_none rfl) (fun a => (hasA_cons (k := 2) rfl d2 (hasA_cons (k := 1) rfl d1 hasA_base))) (ov_binL (m' := (((i + 1) : Nat) : Int)) rfl rfl (b_add _ _ _) (by rewrite [IntKind.wrap_i64]; omega)) rfl rfl (onlyT_spec (k0 := 3) rfl rfl rfl)
      ·intro done hi hc hcu
       have n8 : done 8 = false := notdone_of (m := 8) hc hi rfl rfl
       refine two_step (m := 8) (A := Z1_A) n8 rfl ?_
       have d0 : done 0 = true := done_of (j := 0) hcu rfl (by decide) rfl
       have d3 : done 3 = true := done_of (j := 3) hcu rfl (by decide) rfl
       exact draw_value (i := 4) (t := 50) (v := (slice (some ⟨b3, 0 + (i + 1) * 7, none⟩) (l0.length + 1 - (i + 1)) (cap3 - (i + 1)))) rfl rfl (wanted_none rfl) (fun a => (hasA_cons (k := 3) rfl d3 (hasA_cons (k := 0) rfl d0 hasA_base))) (ov_sliceLo (l := i + 1) rfl rfl (by omega) F_slice_190 F_size_196 (by omega) (by omega) (by omega)) rfl rfl (onlyT_spec (k0 := 4) rfl rfl rfl)
      ·intro done hi hc hcu
       have n7 : done 7 = false := notdone_of (m := 7) hc hi rfl rfl
       have n8 : done 8 = false := notdone_of (m := 8) hc n7 rfl rfl
       refine two_step (m := 8) (A := Z1_A) n8 rfl ?_
       exact draw_value (i := 5) (t := 51) (v := (slice (some ⟨b1, 0, none⟩) (l0.length) (cap1))) rfl rfl (wanted_none rfl) (fun a => hasA_base) (ov_move rfl) rfl rfl (onlyT_spec (k0 := 5) rfl rfl rfl)
      ·intro done hi hc hcu
       have n7 : done 7 = false := notdone_of (m := 7) hc hi rfl rfl
       have n8 : done 8 = false := notdone_of (m := 8) hc n7 rfl rfl
       refine two_step (m := 8) (A := Z1_A) n8 rfl ?_
       exact draw_value (i := 6) (t := 52) (v := (int .i64 (((i) : Nat) : Int))) rfl rfl (wanted_none rfl) (fun a => hasA_base) (ov_move rfl) rfl rfl (onlyT_spec (k0 := 6) rfl rfl rfl)
      ·intro done hi hc hcu
       have n8 : done 8 = false := notdone_of (m := 8) hc hi rfl rfl
       refine two_step (m := 8) (A := Z1_A) n8 rfl ?_
       have d5 : done 5 = true := done_of (j := 5) hcu rfl (by decide) rfl
       have d6 : done 6 = true := done_of (j := 6) hcu rfl (by decide) rfl
       exact draw_value (i := 7) (t := 53) (v := (slice (some ⟨b1, 0 + (i) * 7, none⟩) (l0.length - (i)) (cap1 - (i)))) rfl rfl (wanted_none rfl) (fun a => (hasA_cons (k := 6) rfl d6 (hasA_cons (k := 5) rfl d5 hasA_base))) (ov_sliceLo (l := i) rfl rfl (by omega) F_slice_190 F_size_196 (by omega) (by omega) (by omega)) rfl rfl (onlyT_spec (k0 := 7) rfl rfl rfl)
      ·intro done hi hc hcu
       refine two_last (m := 8) (A := Z1_A) (B := Z1_B) hi ?_
       have d4 : done 4 = true := done_of (j := 4) hcu rfl (by decide) rfl
       have d7 : done 7 = true := done_of (j := 7) hcu rfl (by decide) rfl
       have d6 : done 6 = true := done_step (i := 7) (j := 6) hc d7 rfl rfl
       have d5 : done 5 = true := done_step (i := 7) (j := 5) hc d7 rfl rfl
       have d3 : done 3 = true := done_step (i := 4) (j := 3) hc d4 rfl rfl
       have d2 : done 2 = true := done_step (i := 3) (j := 2) hc d3 rfl rfl
       have d1 : done 1 = true := done_step (i := 3) (j := 1) hc d3 rfl rfl
       have d0 : done 0 = true := done_step (i := 4) (j := 0) hc d4 rfl rfl
       refine draw_endL [(box b3 196 (row1.take (0 + (i) * 7) ++ (fl enc_Omap_pair__int64__api_Entry [y]) ++ row1.drop (0 + (i) * 7 + (fl enc_Omap_pair__int64__api_Entry [y]).length))), (box b1 196 cur1), (box b2 196 cur2)] rfl (fun a => (hasA_cons (k := 0) rfl d0 (hasA_cons (k := 1) rfl d1 (hasA_cons (k := 2) rfl d2 (hasA_cons (k := 3) rfl d3 (hasA_cons (k := 4) rfl d4 (hasA_cons (k := 5) rfl d5 (hasA_cons (k := 6) rfl d6 (hasA_cons (k := 7) rfl d7 hasA_base))))))))) ?_
       refine last_op rfl rfl rfl rfl (ot_copy (L' := [(box b3 196 ((row1.take (0 + (i) * 7) ++ (fl enc_Omap_pair__int64__api_Entry [y]) ++ row1.drop (0 + (i) * 7 + (fl enc_Omap_pair__int64__api_Entry [y]).length)).take (0 + (i + 1) * 7) ++ (fl enc_Omap_pair__int64__api_Entry (l0.drop i)) ++ (row1.take (0 + (i) * 7) ++ (fl enc_Omap_pair__int64__api_Entry [y]) ++ row1.drop (0 + (i) * 7 + (fl enc_Omap_pair__int64__api_Entry [y]).length)).drop (0 + (i + 1) * 7 + (fl enc_Omap_pair__int64__api_Entry (l0.drop i)).length))), (box b1 196 cur1), (box b2 196 cur2)]) (cs := (fl enc_Omap_pair__int64__api_Entry (l0.drop i))) 0 1 rfl rfl F_slice_190 F_size_196 rfl rfl (ins_rest enc_Omap_pair__int64__api_Entry_len (by omega) hx4 (by omega)) (ins_min (k := l0.length - i) (by omega) (by omega) (by omega) hfd) (by simp only [List.length_append, List.length_take, List.length_drop, hfy, hfd]; omega) (one_fl enc_Omap_pair__int64__api_Entry_one _) rfl) ?_
       rintro _ _ ⟨rfl, rfl⟩
       exact ent_fin [0, 1, 2] (by decide) rfl (sub_cons (t := 0) rfl (sub_cons (t := 1) rfl (sub_cons (t := 2) rfl (sub_cons (t := 6) rfl (sub_cons (t := 7) rfl (sub_cons (t := 8) rfl (sub_cons (t := 9) rfl (sub_cons (t := 10) rfl (sub_cons (t := 11) rfl (sub_cons (t := 12) rfl (sub_cons (t := 13) rfl (sub_cons (t := 14) rfl (sub_cons (t := 15) rfl (sub_cons (t := 16) rfl (sub_cons (t := 18) rfl (sub_cons (t := 19) rfl (sub_cons (t := 20) rfl (sub_cons (t := 21) rfl (sub_cons (t := 22) rfl (sub_cons (t := 26) rfl (sub_cons (t := 27) rfl (sub_cons (t := 28) rfl (sub_cons (t := 29) rfl (sub_cons (t := 30) rfl (sub_cons (t := 31) rfl (sub_cons (t := 32) rfl (sub_cons (t := 33) rfl (sub_cons (t := 34) rfl (sub_cons (t := 35) rfl (sub_cons (t := 36) rfl (sub_cons (t := 37) rfl (sub_cons (t := 38) rfl (sub_cons (t := 39) rfl (sub_cons (t := 40) rfl (sub_cons (t := 41) rfl (sub_cons (t := 42) rfl (sub_cons (t := 43) rfl (sub_cons (t := 44) rfl (sub_cons (t := 45) rfl (sub_cons (t := 46) rfl (sub_cons (t := 47) rfl (sub_cons (t := 48) rfl (sub_cons (t := 49) rfl (sub_cons (t := 50) rfl (sub_cons (t := 51) rfl (sub_cons (t := 52) rfl (sub_cons (t := 53) rfl (sub_cons (t := 54) rfl (sub_nil _))))))))))))))))))))))))))))))))))))))))))))))))) fun a w h => h
     ·intro done hall
      refine two_end (A := Z1_A) (B := Z1_B) (hall 8 (by decide)) ?_
      refine ent_seq ?_
      refine ent_region ?_
      refine ent_value (ov_move rfl) rfl rfl rfl ?_
      refine ent_value (ov_assign rfl) rfl rfl rfl ?_
      refine ent_nil ?_
      refine ent_retc ?_
      have hpre : cur1.take (i * 7) = (fl enc_Omap_pair__int64__api_Entry l0).take (i * 7) := by
       rw [← hx4, List.take_take, Nat.min_eq_left (by omega)]
      refine ent_pick [0, 2] (by decide) rfl ?_
      refine ent_conv 0 _ (own (slice (some ⟨b3, 0, none⟩) (l0.length + 1) (cap3)) 196 7 (l0.insertIdx i y).length (fl enc_Omap_pair__int64__api_Entry (l0.insertIdx i y))) rfl (ins_close1 enc_Omap_pair__int64__api_Entry_len (row := row1) (i := i) (v := y) (by omega) hx9 hx10 hx11 (hx12.trans hpre) (by omega) (by omega) rfl) rfl ?_
      refine ent_conv 1 _ (own (slice (some ⟨b2, 0, none⟩) ([y] : List _).length (cap2)) 196 7 ([y] : List _).length (fl enc_Omap_pair__int64__api_Entry [y])) rfl (fun o s h => own_close h hx5 hx6 hx7 hx8) rfl ?_
      exact ret_tmp rfl rfl ⟨_, rfl, rfl⟩
    ·refine ent_cond_false rfl (decide_eq_false c5) ?_
     refine ent_skip ?_
     refine ent_seq ?_
     refine ent_region ?_
     refine ent_value (ov_move rfl) rfl rfl rfl ?_
     refine ent_value (ov_move rfl) rfl rfl rfl ?_
     refine ent_value (ov_move rfl) rfl rfl rfl ?_
     refine ent_value (ov_binL (m' := (((l0.length + 1) : Nat) : Int)) rfl rfl (b_add _ _ _) (by rewrite [IntKind.wrap_i64]; omega)) rfl rfl rfl ?_
     refine ent_value (ov_sliceHi (h := l0.length + 1) rfl rfl (by omega) F_slice_190 F_size_196 (by omega)) rfl rfl rfl ?_
     refine ent_value (ov_assign rfl) rfl rfl rfl ?_
     refine ent_nil ?_
     refine ent_seq ?_
     refine ent_seq ?_
     refine ent_region ?_
     refine ent_value (ov_move rfl) rfl rfl rfl ?_
     refine ent_value (ov_move rfl) rfl rfl rfl ?_
     refine ent_value (ov_move rfl) rfl rfl rfl ?_
     refine ent_value (ov_move rfl) rfl rfl rfl ?_
     refine ent_value (ov_binL (m' := (((i + 1) : Nat) : Int)) rfl rfl (b_add _ _ _) (by rewrite [IntKind.wrap_i64]; omega)) rfl rfl rfl ?_
     refine ent_value (ov_sliceLo (l := i + 1) rfl rfl (by omega) F_slice_190 F_size_196 (by omega) (by omega) (by omega)) rfl rfl rfl ?_
     refine ent_op (ot_overlaps (tr := 4) 0 1 rfl rfl (show Try.prog.funcs[207]? = some Try.f207 from Try.func207) (by kernel_rfl) (by kernel_rfl) (by kernel_rfl) (by kernel_rfl) F_slice_190 F_size_196 rfl rfl rfl (by omega)) rfl rfl rfl ?_
     rintro _ _ ⟨rfl, rfl⟩
     refine ent_value (ov_un rfl (u_not _)) rfl rfl rfl ?_
     refine ent_nil ?_
     refine ent_cond_true rfl rfl ?_
     refine ent_seq ?_
     let Z2_A : (Nat → Bool) → Act → World → Prop := (fun done a w => StD 95 w0 F [(0, (slice (some ⟨b1, 0, none⟩) (l0.length + 1) (cap1))), (1, (int .i64 (((i) : Nat) : Int))), (2, (slice (some ⟨b2, 0, none⟩) (1) (cap2))), (6, (slice none 0 0)), (7, (int .i64 1)), (8, (int .i64 (l0.length : Int))), (10, (slice (some ⟨b1, 0, none⟩) (l0.length) (cap1))), (11, (int .i64 (((i) : Nat) : Int))), (12, (subs (slice (some ⟨b1, 0, none⟩) (l0.length) (cap1)) (((i) : Nat) : Int).toNat l0.length 7)), (13, (slice (some ⟨b2, 0, none⟩) (1) (cap2))), (14, (int .i64 1)), (15, (int .i64 1)), (16, (bool false)), (18, (slice (some ⟨b1, 0, none⟩) (l0.length) (cap1))), (19, (int .i64 (l0.length : Int))), (20, (int .i64 (((i) : Nat) : Int))), (21, (int .i64 (l0.length : Int))), (22, (bool ((((i) : Nat) : Int) == (l0.length : Int)))), (26, (int .i64 (l0.length : Int))), (27, (int .i64 1)), (28, (int .i64 (((l0.length + 1) : Nat) : Int))), (29, (slice (some ⟨b1, 0, none⟩) (l0.length) (cap1))), (30, (int .i64 (((cap1) : Nat) : Int))), (31, (bool (decide ((((cap1) : Nat) : Int) < (((l0.length + 1) : Nat) : Int))))), (56, (slice (some ⟨b1, 0, none⟩) (l0.length) (cap1))), (57, (int .i64 (l0.length : Int))), (58, (int .i64 1)), (59, (int .i64 (((l0.length + 1) : Nat) : Int))), (60, (slice (some ⟨b1, 0, none⟩) (l0.length + 1) (cap1))), (61, (slice (some ⟨b2, 0, none⟩) (1) (cap2))), (62, (slice (some ⟨b1, 0, none⟩) (l0.length + 1) (cap1))), (63, (int .i64 (((i) : Nat) : Int))), (64, (int .i64 1)), (65, (int .i64 (((i + 1) : Nat) : Int))), (66, (slice (some ⟨b1, 0 + (i + 1) * 7, none⟩) (l0.length + 1 - (i + 1)) (cap1 - (i + 1)))), (67, (bool false)), (68, (bool true))] [(0, 69, (slice (some ⟨b1, 0, none⟩) (l0.length + 1) (cap1))), (1, 70, (int .i64 (((i) : Nat) : Int))), (2, 71, (int .i64 1)), (3, 72, (int .i64 (((i + 1) : Nat) : Int))), (4, 73, (slice (some ⟨b1, 0 + (i + 1) * 7, none⟩) (l0.length + 1 - (i + 1)) (cap1 - (i + 1)))), (5, 74, (slice (some ⟨b1, 0, none⟩) (l0.length + 1) (cap1))), (6, 75, (int .i64 (((i) : Nat) : Int))), (7, 76, (slice (some ⟨b1, 0 + (i) * 7, none⟩) (l0.length + 1 - (i)) (cap1 - (i))))] done [(box b1 196 cur1), (box b2 196 cur2)] a w)
     let Z2_B : Act → World → Prop := (fun a w => St 95 w0 F [(0, (slice (some ⟨b1, 0, none⟩) (l0.length + 1) (cap1))), (1, (int .i64 (((i) : Nat) : Int))), (2, (slice (some ⟨b2, 0, none⟩) (1) (cap2))), (6, (slice none 0 0)), (7, (int .i64 1)), (8, (int .i64 (l0.length : Int))), (10, (slice (some ⟨b1, 0, none⟩) (l0.length) (cap1))), (11, (int .i64 (((i) : Nat) : Int))), (12, (subs (slice (some ⟨b1, 0, none⟩) (l0.length) (cap1)) (((i) : Nat) : Int).toNat l0.length 7)), (13, (slice (some ⟨b2, 0, none⟩) (1) (cap2))), (14, (int .i64 1)), (15, (int .i64 1)), (16, (bool false)), (18, (slice (some ⟨b1, 0, none⟩) (l0.length) (cap1))), (19, (int .i64 (l0.length : Int))), (20, (int .i64 (((i) : Nat) : Int))), (21, (int .i64 (l0.length : Int))), (22, (bool ((((i) : Nat) : Int) == (l0.length : Int)))), (26, (int .i64 (l0.length : Int))), (27, (int .i64 1)), (28, (int .i64 (((l0.length + 1) : Nat) : Int))), (29, (slice (some ⟨b1, 0, none⟩) (l0.length) (cap1))), (30, (int .i64 (((cap1) : Nat) : Int))), (31, (bool (decide ((((cap1) : Nat) : Int) < (((l0.length + 1) : Nat) : Int))))), (56, (slice (some ⟨b1, 0, none⟩) (l0.length) (cap1))), (57, (int .i64 (l0.length : Int))), (58, (int .i64 1)), (59, (int .i64 (((l0.length + 1) : Nat) : Int))), (60, (slice (some ⟨b1, 0, none⟩) (l0.length + 1) (cap1))), (61, (slice (some ⟨b2, 0, none⟩) (1) (cap2))), (62, (slice (some ⟨b1, 0, none⟩) (l0.length + 1) (cap1))), (63, (int .i64 (((i) : Nat) : Int))), (64, (int .i64 1)), (65, (int .i64 (((i + 1) : Nat) : Int))), (66, (slice (some ⟨b1, 0 + (i + 1) * 7, none⟩) (l0.length + 1 - (i + 1)) (cap1 - (i + 1)))), (67, (bool false)), (68, (bool true)), (69, (slice (some ⟨b1, 0, none⟩) (l0.length + 1) (cap1))), (70, (int .i64 (((i) : Nat) : Int))), (71, (int .i64 1)), (72, (int .i64 (((i + 1) : Nat) : Int))), (73, (slice (some ⟨b1, 0 + (i + 1) * 7, none⟩) (l0.length + 1 - (i + 1)) (cap1 - (i + 1)))), (74, (slice (some ⟨b1, 0, none⟩) (l0.length + 1) (cap1))), (75, (int .i64 (((i) : Nat) : Int))), (76, (slice (some ⟨b1, 0 + (i) * 7, none⟩) (l0.length + 1 - (i)) (cap1 - (i)))), (77, (goInt (Nat.min (l0.length + 1 - (i)) (l0.length + 1 - (i + 1)))))] [(box b1 196 (cur1.take (0 + (i + 1) * 7) ++ (fl enc_Omap_pair__int64__api_Entry (l0.drop i)) ++ cur1.drop (0 + (i + 1) * 7 + (fl enc_Omap_pair__int64__api_Entry (l0.drop i)).length))), (box b2 196 cur2)] a w)
     refine ent_drawm 9 rfl (two 8 Z2_A Z2_B) (by kernel_rfl) (by kernel_rfl) (two_start (draw_startL (sub_cons (t := 0) rfl (sub_cons (t := 1) rfl (sub_cons (t := 2) rfl (sub_cons (t := 6) rfl (sub_cons (t := 7) rfl (sub_cons (t := 8) rfl (sub_cons (t := 10) rfl (sub_cons (t := 11) rfl (sub_cons (t := 12) rfl (sub_cons (t := 13) rfl (sub_cons (t := 14) rfl (sub_cons (t := 15) rfl (sub_cons (t := 16) rfl (sub_cons (t := 18) rfl (sub_cons (t := 19) rfl (sub_cons (t := 20) rfl (sub_cons (t := 21) rfl (sub_cons (t := 22) rfl (sub_cons (t := 26) rfl (sub_cons (t := 27) rfl (sub_cons (t := 28) rfl (sub_cons (t := 29) rfl (sub_cons (t := 30) rfl (sub_cons (t := 31) rfl (sub_cons (t := 56) rfl (sub_cons (t := 57) rfl (sub_cons (t := 58) rfl (sub_cons (t := 59) rfl (sub_cons (t := 60) rfl (sub_cons (t := 61) rfl (sub_cons (t := 62) rfl (sub_cons (t := 63) rfl (sub_cons (t := 64) rfl (sub_cons (t := 65) rfl (sub_cons (t := 66) rfl (sub_cons (t := 67) rfl (sub_cons (t := 68) rfl (sub_nil _)))))))))))))))))))))))))))))))))))))) rfl)) ?_ ?_
     ·refine ⟨?_, ?_, ?_, ?_, ?_, ?_, ?_, ?_, ?_, trivial⟩
      ·intro done hi hc hcu
       have n4 : done 4 = false := notdone_of (m := 4) hc hi rfl rfl
       have n8 : done 8 = false := notdone_of (m := 8) hc n4 rfl rfl
       refine two_step (m := 8) (A := Z2_A) n8 rfl ?_
       exact draw_value (i := 0) (t := 69) (v := (slice (some ⟨b1, 0, none⟩) (l0.length + 1) (cap1))) rfl rfl (wanted_none rfl) (fun a => hasA_base) (ov_move rfl) rfl rfl (onlyT_spec (k0 := 0) rfl rfl rfl)
      ·intro done hi hc hcu
       have n3 : done 3 = false := notdone_of (m := 3) hc hi rfl rfl
       have n4 : done 4 = false := notdone_of (m := 4) hc n3 rfl rfl
       have n8 : done 8 = false := notdone_of (m := 8) hc n4 rfl rfl
       refine two_step (m := 8) (A := Z2_A) n8 rfl ?_
       exact draw_value (i := 1) (t := 70) (v := (int .i64 (((i) : Nat) : Int))) rfl rfl (wanted_none rfl) (fun a => hasA_base) (ov_move rfl) rfl rfl (onlyT_spec (k0 := 1) rfl rfl rfl)
      ·intro done hi hc hcu
       have n3 : done 3 = false := notdone_of (m := 3) hc hi rfl rfl
       have n4 : done 4 = false := notdone_of (m := 4) hc n3 rfl rfl
       have n8 : done 8 = false := notdone_of (m := 8) hc n4 rfl rfl
       refine two_step (m := 8) (A := Z2_A) n8 rfl ?_
       exact draw_value (i := 2) (t := 71) (v := (int .i64 1)) rfl rfl (wanted_none rfl) (fun a => hasA_base) (ov_move rfl) rfl rfl (onlyT_spec (k0 := 2) rfl rfl rfl)
      ·intro done hi hc hcu
       have n4 : done 4 = false := notdone_of (m := 4) hc hi rfl rfl
       have n8 : done 8 = false := notdone_of (m := 8) hc n4 rfl rfl
       refine two_step (m := 8) (A := Z2_A) n8 rfl ?_
       have d1 : done 1 = true := done_of (j := 1) hcu rfl (by decide) rfl
       have d2 : done 2 = true := done_of (j := 2) hcu rfl (by decide) rfl
       exact draw_value (i := 3) (t := 72) (v := (int .i64 (((i + 1) : Nat) : Int))) rfl rfl (wanted_none rfl) (fun a => (hasA_cons (k := 2) rfl d2 (hasA_cons (k := 1) rfl d1 hasA_base))) (ov_binL (m' := (((i + 1) : Nat) : Int)) rfl rfl (b_add _ _ _) (by rewrite [IntKind.wrap_i64]; omega)) rfl rfl (onlyT_spec (k0 := 3) rfl rfl rfl)
      ·intro done hi hc hcu
       have n8 : done 8 = false := notdone_of (m := 8) hc hi rfl rfl
       refine two_step (m := 8) (A := Z2_A) n8 rfl ?_
       have d0 : done 0 = true := done_of (j := 0) hcu rfl (by decide) rfl
       have d3 : done 3 = true := done_of (j := 3) hcu rfl (by decide) rfl
       exact draw_value (i := 4) (t := 73) (v := (slice (some ⟨b1, 0 + (i + 1) * 7, none⟩) (l0.length + 1 - (i + 1)) (cap1 - (i + 1)))) rfl rfl (wanted_none rfl) (fun a => (hasA_cons (k := 3) rfl d3 (hasA_cons (k := 0) rfl d0 hasA_base))) (ov_sliceLo (l := i + 1) rfl rfl (by omega) F_slice_190 F_size_196 (by omega) (by omega) (by omega)) rfl rfl (onlyT_spec (k0 := 4) rfl rfl rfl)
      ·intro done hi hc hcu
       have n7 : done 7 = false := notdone_of (m := 7) hc hi rfl rfl
       have n8 : done 8 = false := notdone_of (m := 8) hc n7 rfl rfl
       refine two_step (m := 8) (A := Z2_A) n8 rfl ?_
       exact draw_value (i := 5) (t := 74) (v := (slice (some ⟨b1, 0, none⟩) (l0.length + 1) (cap1))) rfl rfl (wanted_none rfl) (fun a => hasA_base) (ov_move rfl) rfl rfl (onlyT_spec (k0 := 5) rfl rfl rfl)
      ·intro done hi hc hcu
       have n7 : done 7 = false := notdone_of (m := 7) hc hi rfl rfl
       have n8 : done 8 = false := notdone_of (m := 8) hc n7 rfl rfl
       refine two_step (m := 8) (A := Z2_A) n8 rfl ?_
       exact draw_value (i := 6) (t := 75) (v := (int .i64 (((i) : Nat) : Int))) rfl rfl (wanted_none rfl) (fun a => hasA_base) (ov_move rfl) rfl rfl (onlyT_spec (k0 := 6) rfl rfl rfl)
      ·intro done hi hc hcu
       have n8 : done 8 = false := notdone_of (m := 8) hc hi rfl rfl
       refine two_step (m := 8) (A := Z2_A) n8 rfl ?_
       have d5 : done 5 = true := done_of (j := 5) hcu rfl (by decide) rfl
       have d6 : done 6 = true := done_of (j := 6) hcu rfl (by decide) rfl
       exact draw_value (i := 7) (t := 76) (v := (slice (some ⟨b1, 0 + (i) * 7, none⟩) (l0.length + 1 - (i)) (cap1 - (i)))) rfl rfl (wanted_none rfl) (fun a => (hasA_cons (k := 6) rfl d6 (hasA_cons (k := 5) rfl d5 hasA_base))) (ov_sliceLo (l := i) rfl rfl (by omega) F_slice_190 F_size_196 (by omega) (by omega) (by omega)) rfl rfl (onlyT_spec (k0 := 7) rfl rfl rfl)
      ·intro done hi hc hcu
       refine two_last (m := 8) (A := Z2_A) (B := Z2_B) hi ?_
       have d4 : done 4 = true := done_of (j := 4) hcu rfl (by decide) rfl
       have d7 : done 7 = true := done_of (j := 7) hcu rfl (by decide) rfl
       have d6 : done 6 = true := done_step (i := 7) (j := 6) hc d7 rfl rfl
       have d5 : done 5 = true := done_step (i := 7) (j := 5) hc d7 rfl rfl
       have d3 : done 3 = true := done_step (i := 4) (j := 3) hc d4 rfl rfl
       have d2 : done 2 = true := done_step (i := 3) (j := 2) hc d3 rfl rfl
       have d1 : done 1 = true := done_step (i := 3) (j := 1) hc d3 rfl rfl
       have d0 : done 0 = true := done_step (i := 4) (j := 0) hc d4 rfl rfl
       refine draw_endL [(box b1 196 cur1), (box b2 196 cur2)] rfl (fun a => (hasA_cons (k := 0) rfl d0 (hasA_cons (k := 1) rfl d1 (hasA_cons (k := 2) rfl d2 (hasA_cons (k := 3) rfl d3 (hasA_cons (k := 4) rfl d4 (hasA_cons (k := 5) rfl d5 (hasA_cons (k := 6) rfl d6 (hasA_cons (k := 7) rfl d7 hasA_base))))))))) ?_
       refine last_op rfl rfl rfl rfl (ot_copy (L' := [(box b1 196 (cur1.take (0 + (i + 1) * 7) ++ (fl enc_Omap_pair__int64__api_Entry (l0.drop i)) ++ cur1.drop (0 + (i + 1) * 7 + (fl enc_Omap_pair__int64__api_Entry (l0.drop i)).length))), (box b2 196 cur2)]) (cs := (fl enc_Omap_pair__int64__api_Entry (l0.drop i))) 0 0 rfl rfl F_slice_190 F_size_196 rfl rfl (ins_rest enc_Omap_pair__int64__api_Entry_len (by omega) hx4 (by omega)) (ins_min (k := l0.length - i) (by omega) (by omega) (by omega) hfd) (by simp only [List.length_append, List.length_take, List.length_drop, hfy, hfd]; omega) (one_fl enc_Omap_pair__int64__api_Entry_one _) rfl) ?_
       rintro _ _ ⟨rfl, rfl⟩
       exact ent_fin [0, 1] (by decide) rfl (sub_cons (t := 0) rfl (sub_cons (t := 1) rfl (sub_cons (t := 2) rfl (sub_cons (t := 6) rfl (sub_cons (t := 7) rfl (sub_cons (t := 8) rfl (sub_cons (t := 10) rfl (sub_cons (t := 11) rfl (sub_cons (t := 12) rfl (sub_cons (t := 13) rfl (sub_cons (t := 14) rfl (sub_cons (t := 15) rfl (sub_cons (t := 16) rfl (sub_cons (t := 18) rfl (sub_cons (t := 19) rfl (sub_cons (t := 20) rfl (sub_cons (t := 21) rfl (sub_cons (t := 22) rfl (sub_cons (t := 26) rfl (sub_cons (t := 27) rfl (sub_cons (t := 28) rfl (sub_cons (t := 29) rfl (sub_cons (t := 30) rfl (sub_cons (t := 31) rfl (sub_cons (t := 56) rfl (sub_cons (t := 57) rfl (sub_cons (t := 58) rfl (sub_cons (t := 59) rfl (sub_cons (t := 60) rfl (sub_cons (t := 61) rfl (sub_cons (t := 62) rfl (sub_cons (t := 63) rfl (sub_cons (t := 64) rfl (sub_cons (t := 65) rfl (sub_cons (t := 66) rfl (sub_cons (t := 67) rfl (sub_cons (t := 68) rfl (sub_cons (t := 69) rfl (sub_cons (t := 70) rfl (sub_cons (t := 71) rfl (sub_cons (t := 72) rfl (sub_cons (t := 73) rfl (sub_cons (t := 74) rfl (sub_cons (t := 75) rfl (sub_cons (t := 76) rfl (sub_cons (t := 77) rfl (sub_nil _))))))))))))))))))))))))))))))))))))))))))))))) fun a w h => h
     ·intro done hall
      refine two_end (A := Z2_A) (B := Z2_B) (hall 8 (by decide)) ?_
      refine ent_seq ?_
      refine ent_region ?_
      refine ent_value (ov_move rfl) rfl rfl rfl ?_
      refine ent_value (ov_move rfl) rfl rfl rfl ?_
      refine ent_value (ov_sliceLo (l := i) rfl rfl (by omega) F_slice_190 F_size_196 (by omega) (by omega) (by omega)) rfl rfl rfl ?_
      refine ent_value (ov_move rfl) rfl rfl rfl ?_
      refine ent_op (ot_copy (L' := [(box b1 196 ((cur1.take (0 + (i + 1) * 7) ++ (fl enc_Omap_pair__int64__api_Entry (l0.drop i)) ++ cur1.drop (0 + (i + 1) * 7 + (fl enc_Omap_pair__int64__api_Entry (l0.drop i)).length)).take (0 + (i) * 7) ++ (fl enc_Omap_pair__int64__api_Entry [y]) ++ (cur1.take (0 + (i + 1) * 7) ++ (fl enc_Omap_pair__int64__api_Entry (l0.drop i)) ++ cur1.drop (0 + (i + 1) * 7 + (fl enc_Omap_pair__int64__api_Entry (l0.drop i)).length)).drop (0 + (i) * 7 + (fl enc_Omap_pair__int64__api_Entry [y]).length))), (box b2 196 cur2)]) (cs := (fl enc_Omap_pair__int64__api_Entry [y])) 0 1 rfl rfl F_slice_190 F_size_196 rfl rfl (ins_one enc_Omap_pair__int64__api_Entry_len hx8) (ins_min (k := 1) (Nat.le_refl 1) (by omega) (.inl rfl) (by omega)) (by simp only [List.length_append, List.length_take, List.length_drop, hfy, hfd]; omega) (one_fl enc_Omap_pair__int64__api_Entry_one _) rfl) rfl rfl rfl ?_
      rintro _ _ ⟨rfl, rfl⟩
      refine ent_nil ?_
      refine ent_seq ?_
      refine ent_region ?_
      refine ent_value (ov_move rfl) rfl rfl rfl ?_
      refine ent_value (ov_assign rfl) rfl rfl rfl ?_
      refine ent_nil ?_
      refine ent_retc ?_
      refine ent_pick [0, 1] (by decide) rfl ?_
      refine ent_conv 0 _ (own (slice (some ⟨b1, 0, none⟩) (l0.length + 1) (cap1)) 196 7 (l0.insertIdx i y).length (fl enc_Omap_pair__int64__api_Entry (l0.insertIdx i y))) rfl (ins_close2 enc_Omap_pair__int64__api_Entry_len (row := cur1) (i := i) (v := y) (by omega) (by omega) hx2 hx3 hx4 (by omega) (by omega) rfl) rfl ?_
      refine ent_conv 1 _ (own (slice (some ⟨b2, 0, none⟩) ([y] : List _).length (cap2)) 196 7 ([y] : List _).length (fl enc_Omap_pair__int64__api_Entry [y])) rfl (fun o s h => own_close h hx5 hx6 hx7 hx8) rfl ?_
      exact ret_tmp rfl rfl ⟨_, rfl, rfl⟩
  ·first | omega | (simp only [List.length_cons, List.length_nil] at *; omega)
 ·first | omega | (simp only [List.length_cons, List.length_nil] at *; omega)

set_option maxRecDepth 100000 in
theorem omap_Map__int64__api_Entry_Put_O.spec (K : Nat) (p0 : Nat) (sv0 : Value) (l0 : List Omap_pair__int64__api_Entry) (a1 : Int) (a2_0 : Int) (a2_1 : Int) (a2_2 : Int) (a2_3 : Int) (a2_4 : Int) (a2_5 : Bool) (r : (Bool × (List Omap_pair__int64__api_Entry))) (H : omap_Map__int64__api_Entry_Put_O K l0 a1 a2_0 a2_1 a2_2 a2_3 a2_4 a2_5 = some r) : FnSpec Try.prog 134 [(pt p0 0), (int .i64 a1), (agg #[(int .i64 a2_0), (int .i64 a2_1), (int .i64 a2_2), (int .i64 a2_3), (int .i64 a2_4), (bool a2_5)])] [(box p0 192 [sv0]), (own sv0 196 7 l0.length (fl enc_Omap_pair__int64__api_Entry l0))] (fun v M => ∃ sv3 : Value, v = (bool r.1) ∧ M = [(box p0 192 [sv3]), (own sv3 196 7 r.2.length (fl enc_Omap_pair__int64__api_Entry r.2))]) := by
 unfold omap_Map__int64__api_Entry_Put_O at H
 refine spec_of Try.func134 rfl 39 rfl (Nat.le_of_ble_eq_true rfl) fun F w0 => ?_
 show Ent (St 39 w0 F [(0, (pt p0 0)), (1, (int .i64 a1)), (2, (agg #[(int .i64 a2_0), (int .i64 a2_1), (int .i64 a2_2), (int .i64 a2_3), (int .i64 a2_4), (bool a2_5)]))] [(box p0 192 [sv0]), (own sv0 196 7 l0.length (fl enc_Omap_pair__int64__api_Entry l0))]) _
 refine ent_seq ?_
 refine ent_region ?_
 refine ent_op (ot_box (cs := [(int .i64 a2_0), (int .i64 a2_1), (int .i64 a2_2), (int .i64 a2_3), (int .i64 a2_4), (bool a2_5)]) rfl rfl) rfl rfl rfl ?_
 rintro _ _ ⟨b2, rfl, rfl⟩
 refine ent_value (ov_assign rfl) rfl rfl rfl ?_
 refine ent_nil ?_
 refine ent_seq ?_
 refine ent_seq ?_
 refine ent_region ?_
 refine ent_value (ov_move rfl) rfl rfl rfl ?_
 refine ent_value (ov_bin rfl rfl (b_eql_of (fun w => rfl) rfl (eq_pn Try.underlying136 _ _))) rfl rfl rfl ?_
 refine ent_nil ?_
 refine ent_cond_false rfl rfl ?_
 refine ent_skip ?_
 refine ent_seq ?_
 refine ent_region ?_
 refine ent_value (ov_move rfl) rfl rfl rfl ?_
 refine ent_value (ov_move rfl) rfl rfl rfl ?_
 obtain ⟨x3, h3, H⟩ := Option.bind_eq_some_iff.1 H
 refine ent_op (ot_call_same (Lr := [(box b2 65 [(int .i64 a2_0), (int .i64 a2_1), (int .i64 a2_2), (int .i64 a2_3), (int .i64 a2_4), (bool a2_5)])]) [1, 2, 0] [2, 0, 1] (first := []) (cap := []) (xs := [.tmp 12, .tmp 13]) rfl rfl F_call_132 rfl (omap_Map__int64__api_Entry_place_O.spec K p0 sv0 l0 a1 _ h3) (by decide) rfl (by decide) rfl) rfl rfl rfl ?_
 rintro _ _ ⟨rfl, rfl⟩
 refine ent_value (ov_move rfl) rfl rfl rfl ?_
 refine ent_value (ov_extract rfl rfl) rfl rfl rfl ?_
 refine ent_value (ov_extract rfl rfl) rfl rfl rfl ?_
 refine ent_value (ov_assign rfl) rfl rfl rfl ?_
 refine ent_value (ov_assign rfl) rfl rfl rfl ?_
 refine ent_nil ?_
 refine ent_seq ?_
 refine ent_seq ?_
 refine ent_region ?_
 refine ent_value (ov_move rfl) rfl rfl rfl ?_
 refine ent_nil ?_
 by_cases c10 : x3.1 = true
 ·rw [if_pos c10] at H
  refine ent_cond_true rfl c10 ?_
  refine ent_seq ?_
  by_cases c11 : 0 ≤ x3.2
  ·rw [if_pos c11] at H
   by_cases c12 : x3.2 < (l0.length : Int)
   ·rw [if_pos c12] at H
    refine ent_drawm 9 rfl (fun done a w => StD 39 w0 F [(0, (pt p0 0)), (1, (int .i64 a1)), (2, (agg #[(int .i64 a2_0), (int .i64 a2_1), (int .i64 a2_2), (int .i64 a2_3), (int .i64 a2_4), (bool a2_5)])), (5, (pt b2 0)), (6, (bool false)), (7, (int .i64 x3.2)), (8, (bool x3.1)), (9, (pt p0 0)), (10, (bool false)), (11, (Value.tuple #[(int .i64 x3.2), (bool x3.1)])), (12, (pt p0 0)), (13, (int .i64 a1)), (14, (Value.tuple #[(int .i64 x3.2), (bool x3.1)])), (15, (int .i64 x3.2)), (16, (bool x3.1)), (17, (bool x3.1))] [(0, 18, (pt p0 0)), (1, 19, (pt p0 0)), (2, 20, (pt p0 0)), (3, 21, sv0), (4, 22, (int .i64 x3.2)), (5, 23, (agg #[(int .i64 a2_0), (int .i64 a2_1), (int .i64 a2_2), (int .i64 a2_3), (int .i64 a2_4), (bool a2_5)])), (6, 24, (eptr sv0 (x3.2.toNat * 7))), (7, 25, (eptr sv0 (x3.2.toNat * 7 + 1)))] done [(box b2 65 [(int .i64 a2_0), (int .i64 a2_1), (int .i64 a2_2), (int .i64 a2_3), (int .i64 a2_4), (bool a2_5)]), (box p0 192 [sv0]), (sel (done 8) (own sv0 196 7 (l0.set x3.2.toNat (⟨(l0.getD x3.2.toNat z_Omap_pair__int64__api_Entry).k, (⟨(⟨a2_0, a2_1⟩ : Api_Part), a2_2, a2_3, a2_4, a2_5⟩ : Api_Entry)⟩ : Omap_pair__int64__api_Entry)).length (fl enc_Omap_pair__int64__api_Entry (l0.set x3.2.toNat (⟨(l0.getD x3.2.toNat z_Omap_pair__int64__api_Entry).k, (⟨(⟨a2_0, a2_1⟩ : Api_Part), a2_2, a2_3, a2_4, a2_5⟩ : Api_Entry)⟩ : Omap_pair__int64__api_Entry)))) (own sv0 196 7 l0.length (fl enc_Omap_pair__int64__api_Entry l0)))] a w) (by kernel_rfl) (by kernel_rfl) (draw_startL (sub_cons (t := 0) rfl (sub_cons (t := 1) rfl (sub_cons (t := 2) rfl (sub_cons (t := 5) rfl (sub_cons (t := 6) rfl (sub_cons (t := 7) rfl (sub_cons (t := 8) rfl (sub_cons (t := 9) rfl (sub_cons (t := 10) rfl (sub_cons (t := 11) rfl (sub_cons (t := 12) rfl (sub_cons (t := 13) rfl (sub_cons (t := 14) rfl (sub_cons (t := 15) rfl (sub_cons (t := 16) rfl (sub_cons (t := 17) rfl (sub_nil _))))))))))))))))) (by simp only [sel])) ?_ ?_
    ·refine ⟨?_, ?_, ?_, ?_, ?_, ?_, ?_, ?_, ?_, trivial⟩
     ·intro done hi hc hcu
      exact draw_value (i := 0) (t := 18) (v := (pt p0 0)) rfl rfl (wanted_none rfl) (fun a => hasA_base) (ov_move rfl) rfl rfl (onlyT_spec (k0 := 0) rfl rfl rfl)
     ·intro done hi hc hcu
      have d0 : done 0 = true := done_of (j := 0) hcu rfl (by decide) rfl
      exact draw_value (i := 1) (t := 19) (v := (pt p0 0)) rfl rfl (wanted_none rfl) (fun a => (hasA_cons (k := 0) rfl d0 hasA_base)) (ov_nilCheck rfl) rfl rfl (onlyT_spec (k0 := 1) rfl rfl rfl)
     ·intro done hi hc hcu
      have d1 : done 1 = true := done_of (j := 1) hcu rfl (by decide) rfl
      exact draw_value (i := 2) (t := 20) (v := (pt p0 0)) rfl rfl (wanted_none rfl) (fun a => (hasA_cons (k := 1) rfl d1 hasA_base)) (ov_fieldAddr (sz := 0) (o := 0) rfl F_field_192_0 F_size_190) rfl rfl (onlyT_spec (k0 := 2) rfl rfl rfl)
     ·intro done hi hc hcu
      have d2 : done 2 = true := done_of (j := 2) hcu rfl (by decide) rfl
      exact draw_value (i := 3) (t := 21) (v := sv0) rfl rfl (wanted_none rfl) (fun a => (hasA_cons (k := 2) rfl d2 hasA_base)) (ov_load (v := sv0) rfl F_agg_190 (reads_box1 (i := 1) rfl rfl)) rfl rfl (onlyT_spec (k0 := 3) rfl rfl rfl)
     ·intro done hi hc hcu
      exact draw_value (i := 4) (t := 22) (v := (int .i64 x3.2)) rfl rfl (wanted_none rfl) (fun a => hasA_base) (ov_move rfl) rfl rfl (onlyT_spec (k0 := 4) rfl rfl rfl)
     ·intro done hi hc hcu
      exact draw_value (i := 5) (t := 23) (v := (agg #[(int .i64 a2_0), (int .i64 a2_1), (int .i64 a2_2), (int .i64 a2_3), (int .i64 a2_4), (bool a2_5)])) rfl rfl (wanted_none rfl) (fun a => hasA_base) (ov_load_agg (vs := [(int .i64 a2_0), (int .i64 a2_1), (int .i64 a2_2), (int .i64 a2_3), (int .i64 a2_4), (bool a2_5)]) rfl F_agg_65 F_size_65 (reads_boxW (i := 0) rfl)) rfl rfl (onlyT_spec (k0 := 5) rfl rfl rfl)
     ·intro done hi hc hcu
      have d3 : done 3 = true := done_of (j := 3) hcu rfl (by decide) rfl
      have d4 : done 4 = true := done_of (j := 4) hcu rfl (by decide) rfl
      have n7 : done 7 = false := notdone_of (m := 7) hc hi rfl rfl
      have n8 : done 8 = false := notdone_of (m := 8) hc n7 rfl rfl
      exact draw_value (i := 6) (t := 24) (v := (eptr sv0 (x3.2.toNat * 7))) rfl rfl (wanted_none rfl) (fun a => (hasA_cons (k := 4) rfl d4 (hasA_cons (k := 3) rfl d3 hasA_base))) (ov_L (L2 := [(box b2 65 [(int .i64 a2_0), (int .i64 a2_1), (int .i64 a2_2), (int .i64 a2_3), (int .i64 a2_4), (bool a2_5)]), (box p0 192 [sv0]), (own sv0 196 7 l0.length (fl enc_Omap_pair__int64__api_Entry l0))]) (by simp only [n8, sel]) (ov_indexAddr (sz := 6) 2 rfl rfl F_slice_190 F_size_196 rfl (isRd_ownx 196) c11 c12)) rfl rfl (onlyT_spec (k0 := 6) rfl rfl rfl)
     ·intro done hi hc hcu
      have d6 : done 6 = true := done_of (j := 6) hcu rfl (by decide) rfl
      have n8 : done 8 = false := notdone_of (m := 8) hc hi rfl rfl
      exact draw_value (i := 7) (t := 25) (v := (eptr sv0 (x3.2.toNat * 7 + 1))) rfl rfl (wanted_none rfl) (fun a => (hasA_cons (k := 6) rfl d6 hasA_base)) (ov_L (L2 := [(box b2 65 [(int .i64 a2_0), (int .i64 a2_1), (int .i64 a2_2), (int .i64 a2_3), (int .i64 a2_4), (bool a2_5)]), (box p0 192 [sv0]), (own sv0 196 7 l0.length (fl enc_Omap_pair__int64__api_Entry l0))]) (by simp only [n8, sel]) (ov_fieldAddrE (sz := 5) (k0 := x3.2.toNat * 7) (off := 1) 2 rfl F_field_196_1 F_size_65 rfl (isRd_ownx 196) (fl_pos enc_Omap_pair__int64__api_Entry_len (ix_lt c11 c12)))) rfl rfl (onlyT_spec (k0 := 7) rfl rfl rfl)
     ·intro done hi hc hcu
      have d7 : done 7 = true := done_of (j := 7) hcu rfl (by decide) rfl
      have d5 : done 5 = true := done_of (j := 5) hcu rfl (by decide) rfl
      exact draw_store (i := 8) (L2 := [(box b2 65 [(int .i64 a2_0), (int .i64 a2_1), (int .i64 a2_2), (int .i64 a2_3), (int .i64 a2_4), (bool a2_5)]), (box p0 192 [sv0]), (own sv0 196 7 l0.length (fl enc_Omap_pair__int64__api_Entry l0))]) (L3 := [(box b2 65 [(int .i64 a2_0), (int .i64 a2_1), (int .i64 a2_2), (int .i64 a2_3), (int .i64 a2_4), (bool a2_5)]), (box p0 192 [sv0]), (own sv0 196 7 (l0.set x3.2.toNat (⟨(l0.getD x3.2.toNat z_Omap_pair__int64__api_Entry).k, (⟨(⟨a2_0, a2_1⟩ : Api_Part), a2_2, a2_3, a2_4, a2_5⟩ : Api_Entry)⟩ : Omap_pair__int64__api_Entry)).length (fl enc_Omap_pair__int64__api_Entry (l0.set x3.2.toNat (⟨(l0.getD x3.2.toNat z_Omap_pair__int64__api_Entry).k, (⟨(⟨a2_0, a2_1⟩ : Api_Part), a2_2, a2_3, a2_4, a2_5⟩ : Api_Entry)⟩ : Omap_pair__int64__api_Entry))))]) rfl rfl (wanted_none rfl) (fun a => (hasA_cons (k := 5) rfl d5 (hasA_cons (k := 7) rfl d7 hasA_base))) (by simp only [hi, sel]) (by simp [up, sel]) (ot_storeEx (z := z_Omap_pair__int64__api_Entry) (y := (⟨(l0.getD x3.2.toNat z_Omap_pair__int64__api_Entry).k, (⟨(⟨a2_0, a2_1⟩ : Api_Part), a2_2, a2_3, a2_4, a2_5⟩ : Api_Entry)⟩ : Omap_pair__int64__api_Entry)) (us := [(int .i64 a2_0), (int .i64 a2_1), (int .i64 a2_2), (int .i64 a2_3), (int .i64 a2_4), (bool a2_5)]) (L' := [(box b2 65 [(int .i64 a2_0), (int .i64 a2_1), (int .i64 a2_2), (int .i64 a2_3), (int .i64 a2_4), (bool a2_5)]), (box p0 192 [sv0]), (own sv0 196 7 (l0.set x3.2.toNat (⟨(l0.getD x3.2.toNat z_Omap_pair__int64__api_Entry).k, (⟨(⟨a2_0, a2_1⟩ : Api_Part), a2_2, a2_3, a2_4, a2_5⟩ : Api_Entry)⟩ : Omap_pair__int64__api_Entry)).length (fl enc_Omap_pair__int64__api_Entry (l0.set x3.2.toNat (⟨(l0.getD x3.2.toNat z_Omap_pair__int64__api_Entry).k, (⟨(⟨a2_0, a2_1⟩ : Api_Part), a2_2, a2_3, a2_4, a2_5⟩ : Api_Entry)⟩ : Omap_pair__int64__api_Entry))))]) 2 rfl rfl rfl (all_one rfl) F_size_65 enc_Omap_pair__int64__api_Entry_len (ix_lt c11 c12) rfl rfl rfl rfl rfl) (offT_spec rfl)
    ·intro done hall
     refine draw_endL [(box b2 65 [(int .i64 a2_0), (int .i64 a2_1), (int .i64 a2_2), (int .i64 a2_3), (int .i64 a2_4), (bool a2_5)]), (box p0 192 [sv0]), (own sv0 196 7 (l0.set x3.2.toNat (⟨(l0.getD x3.2.toNat z_Omap_pair__int64__api_Entry).k, (⟨(⟨a2_0, a2_1⟩ : Api_Part), a2_2, a2_3, a2_4, a2_5⟩ : Api_Entry)⟩ : Omap_pair__int64__api_Entry)).length (fl enc_Omap_pair__int64__api_Entry (l0.set x3.2.toNat (⟨(l0.getD x3.2.toNat z_Omap_pair__int64__api_Entry).k, (⟨(⟨a2_0, a2_1⟩ : Api_Part), a2_2, a2_3, a2_4, a2_5⟩ : Api_Entry)⟩ : Omap_pair__int64__api_Entry))))] (by simp only [hall 8 (by decide), sel]) (fun a => (hasA_cons (k := 0) rfl (hall 0 (by decide)) (hasA_cons (k := 1) rfl (hall 1 (by decide)) (hasA_cons (k := 2) rfl (hall 2 (by decide)) (hasA_cons (k := 3) rfl (hall 3 (by decide)) (hasA_cons (k := 4) rfl (hall 4 (by decide)) (hasA_cons (k := 5) rfl (hall 5 (by decide)) (hasA_cons (k := 6) rfl (hall 6 (by decide)) (hasA_cons (k := 7) rfl (hall 7 (by decide)) hasA_base))))))))) ?_
     refine ent_seq ?_
     refine ent_region ?_
     refine ent_value (ov_assign rfl) rfl rfl rfl ?_
     refine ent_nil ?_
     refine ent_retc ?_
     cases H
     refine ent_pick [1, 2] (by decide) rfl ?_
     exact ret_tmp rfl rfl ⟨_, rfl, rfl⟩
   ·rw [if_neg c12] at H
    cases H
  ·rw [if_neg c11] at H
   cases H
 ·rw [if_neg c10] at H
  refine ent_cond_false rfl (Bool.eq_false_iff.2 c10) ?_
  refine ent_skip ?_
  refine ent_seq ?_
  obtain ⟨x4, h4, H⟩ := Option.bind_eq_some_iff.1 H
  let Z6_I : (Nat → Value) → (Nat → Bool) → Act → World → Prop := fun (ga2 : Nat → Value) done a w => StD 39 w0 F [(0, (pt p0 0)), (1, (int .i64 a1)), (2, (agg #[(int .i64 a2_0), (int .i64 a2_1), (int .i64 a2_2), (int .i64 a2_3), (int .i64 a2_4), (bool a2_5)])), (5, (pt b2 0)), (6, (bool false)), (7, (int .i64 x3.2)), (8, (bool x3.1)), (9, (pt p0 0)), (10, (bool false)), (11, (Value.tuple #[(int .i64 x3.2), (bool x3.1)])), (12, (pt p0 0)), (13, (int .i64 a1)), (14, (Value.tuple #[(int .i64 x3.2), (bool x3.1)])), (15, (int .i64 x3.2)), (16, (bool x3.1)), (17, (bool x3.1))] [(0, 26, (pt p0 0)), (1, 27, (pt p0 0)), (2, 28, (pt p0 0)), (3, 29, (pt p0 0)), (4, 30, sv0), (5, 31, (int .i64 x3.2)), (6, 32, (int .i64 a1)), (7, 33, (agg #[(int .i64 a2_0), (int .i64 a2_1), (int .i64 a2_2), (int .i64 a2_3), (int .i64 a2_4), (bool a2_5)])), (8, 34, (agg #[(int .i64 a1), (int .i64 a2_0), (int .i64 a2_1), (int .i64 a2_2), (int .i64 a2_3), (int .i64 a2_4), (bool a2_5)])), (9, 35, (ga2 9)), (10, 36, (ga2 10)), (11, 37, (pt p0 0)), (12, 38, (pt p0 0))] done [(sel (done 9) (own (ga2 9) 196 7 [(⟨a1, (⟨(⟨a2_0, a2_1⟩ : Api_Part), a2_2, a2_3, a2_4, a2_5⟩ : Api_Entry)⟩ : Omap_pair__int64__api_Entry)].length (fl enc_Omap_pair__int64__api_Entry [(⟨a1, (⟨(⟨a2_0, a2_1⟩ : Api_Part), a2_2, a2_3, a2_4, a2_5⟩ : Api_Entry)⟩ : Omap_pair__int64__api_Entry)])) emp), (box b2 65 [(int .i64 a2_0), (int .i64 a2_1), (int .i64 a2_2), (int .i64 a2_3), (int .i64 a2_4), (bool a2_5)]), (sel (done 13) (box p0 192 [(ga2 10)]) (box p0 192 [sv0])), (sel (done 10) (own (ga2 10) 196 7 x4.length (fl enc_Omap_pair__int64__api_Entry x4)) (own sv0 196 7 l0.length (fl enc_Omap_pair__int64__api_Entry l0)))] a w
  refine ent_drawm 14 rfl (fun done a w => ∃ ga2 : Nat → Value, Z6_I ga2 done a w) (by kernel_rfl) (by kernel_rfl) (draw_startG (T := (fun ga2 : Nat → Value => [(0, 26, (pt p0 0)), (1, 27, (pt p0 0)), (2, 28, (pt p0 0)), (3, 29, (pt p0 0)), (4, 30, sv0), (5, 31, (int .i64 x3.2)), (6, 32, (int .i64 a1)), (7, 33, (agg #[(int .i64 a2_0), (int .i64 a2_1), (int .i64 a2_2), (int .i64 a2_3), (int .i64 a2_4), (bool a2_5)])), (8, 34, (agg #[(int .i64 a1), (int .i64 a2_0), (int .i64 a2_1), (int .i64 a2_2), (int .i64 a2_3), (int .i64 a2_4), (bool a2_5)])), (9, 35, (ga2 9)), (10, 36, (ga2 10)), (11, 37, (pt p0 0)), (12, 38, (pt p0 0))])) (L' := fun ga2 : Nat → Value => [(sel false (own (ga2 9) 196 7 [(⟨a1, (⟨(⟨a2_0, a2_1⟩ : Api_Part), a2_2, a2_3, a2_4, a2_5⟩ : Api_Entry)⟩ : Omap_pair__int64__api_Entry)].length (fl enc_Omap_pair__int64__api_Entry [(⟨a1, (⟨(⟨a2_0, a2_1⟩ : Api_Part), a2_2, a2_3, a2_4, a2_5⟩ : Api_Entry)⟩ : Omap_pair__int64__api_Entry)])) emp), (box b2 65 [(int .i64 a2_0), (int .i64 a2_1), (int .i64 a2_2), (int .i64 a2_3), (int .i64 a2_4), (bool a2_5)]), (sel false (box p0 192 [(ga2 10)]) (box p0 192 [sv0])), (sel false (own (ga2 10) 196 7 x4.length (fl enc_Omap_pair__int64__api_Entry x4)) (own sv0 196 7 l0.length (fl enc_Omap_pair__int64__api_Entry l0)))]) 1 (sub_cons (t := 0) rfl (sub_cons (t := 1) rfl (sub_cons (t := 2) rfl (sub_cons (t := 5) rfl (sub_cons (t := 6) rfl (sub_cons (t := 7) rfl (sub_cons (t := 8) rfl (sub_cons (t := 9) rfl (sub_cons (t := 10) rfl (sub_cons (t := 11) rfl (sub_cons (t := 12) rfl (sub_cons (t := 13) rfl (sub_cons (t := 14) rfl (sub_cons (t := 15) rfl (sub_cons (t := 16) rfl (sub_cons (t := 17) rfl (sub_nil _))))))))))))))))) (fun _ => rfl)) ?_ ?_
  ·refine ⟨?_, ?_, ?_, ?_, ?_, ?_, ?_, ?_, ?_, ?_, ?_, ?_, ?_, ?_, trivial⟩
   ·intro done hi hc hcu
    refine draw_exi (I := Z6_I) fun ga2 => ?_
    exact draw_value (i := 0) (t := 26) (v := (pt p0 0)) rfl rfl (wanted_none rfl) (fun a => hasA_base) (ov_move rfl) rfl rfl (onlyT_spec (k0 := 0) rfl rfl rfl)
   ·intro done hi hc hcu
    refine draw_exi (I := Z6_I) fun ga2 => ?_
    exact draw_value (i := 1) (t := 27) (v := (pt p0 0)) rfl rfl (wanted_none rfl) (fun a => hasA_base) (ov_move rfl) rfl rfl (onlyT_spec (k0 := 1) rfl rfl rfl)
   ·intro done hi hc hcu
    refine draw_exi (I := Z6_I) fun ga2 => ?_
    have d1 : done 1 = true := done_of (j := 1) hcu rfl (by decide) rfl
    have n13 : done 13 = false := notdone_of (m := 13) hc hi rfl rfl
    exact draw_value (i := 2) (t := 28) (v := (pt p0 0)) rfl rfl (wanted_none rfl) (fun a => (hasA_cons (k := 1) rfl d1 hasA_base)) (ov_L (L2 := [(sel (done 9) (own (ga2 9) 196 7 [(⟨a1, (⟨(⟨a2_0, a2_1⟩ : Api_Part), a2_2, a2_3, a2_4, a2_5⟩ : Api_Entry)⟩ : Omap_pair__int64__api_Entry)].length (fl enc_Omap_pair__int64__api_Entry [(⟨a1, (⟨(⟨a2_0, a2_1⟩ : Api_Part), a2_2, a2_3, a2_4, a2_5⟩ : Api_Entry)⟩ : Omap_pair__int64__api_Entry)])) emp), (box b2 65 [(int .i64 a2_0), (int .i64 a2_1), (int .i64 a2_2), (int .i64 a2_3), (int .i64 a2_4), (bool a2_5)]), (box p0 192 [sv0]), (sel (done 10) (own (ga2 10) 196 7 x4.length (fl enc_Omap_pair__int64__api_Entry x4)) (own sv0 196 7 l0.length (fl enc_Omap_pair__int64__api_Entry l0)))]) (by simp only [n13, sel]) (ov_nilCheck rfl)) rfl rfl (onlyT_spec (k0 := 2) rfl rfl rfl)
   ·intro done hi hc hcu
    refine draw_exi (I := Z6_I) fun ga2 => ?_
    have d2 : done 2 = true := done_of (j := 2) hcu rfl (by decide) rfl
    have n13 : done 13 = false := notdone_of (m := 13) hc hi rfl rfl
    exact draw_value (i := 3) (t := 29) (v := (pt p0 0)) rfl rfl (wanted_none rfl) (fun a => (hasA_cons (k := 2) rfl d2 hasA_base)) (ov_L (L2 := [(sel (done 9) (own (ga2 9) 196 7 [(⟨a1, (⟨(⟨a2_0, a2_1⟩ : Api_Part), a2_2, a2_3, a2_4, a2_5⟩ : Api_Entry)⟩ : Omap_pair__int64__api_Entry)].length (fl enc_Omap_pair__int64__api_Entry [(⟨a1, (⟨(⟨a2_0, a2_1⟩ : Api_Part), a2_2, a2_3, a2_4, a2_5⟩ : Api_Entry)⟩ : Omap_pair__int64__api_Entry)])) emp), (box b2 65 [(int .i64 a2_0), (int .i64 a2_1), (int .i64 a2_2), (int .i64 a2_3), (int .i64 a2_4), (bool a2_5)]), (box p0 192 [sv0]), (sel (done 10) (own (ga2 10) 196 7 x4.length (fl enc_Omap_pair__int64__api_Entry x4)) (own sv0 196 7 l0.length (fl enc_Omap_pair__int64__api_Entry l0)))]) (by simp only [n13, sel]) (ov_fieldAddr (sz := 0) (o := 0) rfl F_field_192_0 F_size_190)) rfl rfl (onlyT_spec (k0 := 3) rfl rfl rfl)
   ·intro done hi hc hcu
    refine draw_exi (I := Z6_I) fun ga2 => ?_
    have d3 : done 3 = true := done_of (j := 3) hcu rfl (by decide) rfl
    have n13 : done 13 = false := notdone_of (m := 13) hc hi rfl rfl
    exact draw_value (i := 4) (t := 30) (v := sv0) rfl rfl (wanted_none rfl) (fun a => (hasA_cons (k := 3) rfl d3 hasA_base)) (ov_L (L2 := [(sel (done 9) (own (ga2 9) 196 7 [(⟨a1, (⟨(⟨a2_0, a2_1⟩ : Api_Part), a2_2, a2_3, a2_4, a2_5⟩ : Api_Entry)⟩ : Omap_pair__int64__api_Entry)].length (fl enc_Omap_pair__int64__api_Entry [(⟨a1, (⟨(⟨a2_0, a2_1⟩ : Api_Part), a2_2, a2_3, a2_4, a2_5⟩ : Api_Entry)⟩ : Omap_pair__int64__api_Entry)])) emp), (box b2 65 [(int .i64 a2_0), (int .i64 a2_1), (int .i64 a2_2), (int .i64 a2_3), (int .i64 a2_4), (bool a2_5)]), (box p0 192 [sv0]), (sel (done 10) (own (ga2 10) 196 7 x4.length (fl enc_Omap_pair__int64__api_Entry x4)) (own sv0 196 7 l0.length (fl enc_Omap_pair__int64__api_Entry l0)))]) (by simp only [n13, sel]) (ov_load (v := sv0) rfl F_agg_190 (reads_box1 (i := 2) rfl rfl))) rfl rfl (onlyT_spec (k0 := 4) rfl rfl rfl)
   ·intro done hi hc hcu
    refine draw_exi (I := Z6_I) fun ga2 => ?_
    exact draw_value (i := 5) (t := 31) (v := (int .i64 x3.2)) rfl rfl (wanted_none rfl) (fun a => hasA_base) (ov_move rfl) rfl rfl (onlyT_spec (k0 := 5) rfl rfl rfl)
   ·intro done hi hc hcu
    refine draw_exi (I := Z6_I) fun ga2 => ?_
    exact draw_value (i := 6) (t := 32) (v := (int .i64 a1)) rfl rfl (wanted_none rfl) (fun a => hasA_base) (ov_move rfl) rfl rfl (onlyT_spec (k0 := 6) rfl rfl rfl)
   ·intro done hi hc hcu
    refine draw_exi (I := Z6_I) fun ga2 => ?_
    exact draw_value (i := 7) (t := 33) (v := (agg #[(int .i64 a2_0), (int .i64 a2_1), (int .i64 a2_2), (int .i64 a2_3), (int .i64 a2_4), (bool a2_5)])) rfl rfl (wanted_none rfl) (fun a => hasA_base) (ov_load_agg (vs := [(int .i64 a2_0), (int .i64 a2_1), (int .i64 a2_2), (int .i64 a2_3), (int .i64 a2_4), (bool a2_5)]) rfl F_agg_65 F_size_65 (reads_boxW (i := 1) rfl)) rfl rfl (onlyT_spec (k0 := 7) rfl rfl rfl)
   ·intro done hi hc hcu
    refine draw_exi (I := Z6_I) fun ga2 => ?_
    have d6 : done 6 = true := done_of (j := 6) hcu rfl (by decide) rfl
    have d7 : done 7 = true := done_of (j := 7) hcu rfl (by decide) rfl
    exact draw_value (i := 8) (t := 34) (v := (agg #[(int .i64 a1), (int .i64 a2_0), (int .i64 a2_1), (int .i64 a2_2), (int .i64 a2_3), (int .i64 a2_4), (bool a2_5)])) rfl rfl (wanted_none rfl) (fun a => (hasA_cons (k := 7) rfl d7 (hasA_cons (k := 6) rfl d6 hasA_base))) (ov_build (is := [0, 1]) (xs := [.tmp 32, .tmp 33]) (vs := [(int .i64 a1), (agg #[(int .i64 a2_0), (int .i64 a2_1), (int .i64 a2_2), (int .i64 a2_3), (int .i64 a2_4), (bool a2_5)])]) rfl rfl (build_struct (cs := [(int .i64 a1), (int .i64 a2_0), (int .i64 a2_1), (int .i64 a2_2), (int .i64 a2_3), (int .i64 a2_4), (bool a2_5)]) F_zero_196 F_places_196 (by simp [Instr.fill, cells_int, cells_bool, cells_str, cells_func, cells_slice, cells_ptr, cells_nilFunc, cells_agg, ]))) rfl rfl (onlyT_spec (k0 := 8) rfl rfl rfl)
   ·intro done hi hc hcu
    refine ent_exi (S := fun ga2 => Z6_I ga2 done) fun ga2 => ?_
    have d8 : done 8 = true := done_of (j := 8) hcu rfl (by decide) rfl
    refine draw_newV (i := 9) (t := 35) (x := ga2) (L := (fun (ga2 : Nat → Value) (done : Nat → Bool) => [(sel (done 9) (own (ga2 9) 196 7 [(⟨a1, (⟨(⟨a2_0, a2_1⟩ : Api_Part), a2_2, a2_3, a2_4, a2_5⟩ : Api_Entry)⟩ : Omap_pair__int64__api_Entry)].length (fl enc_Omap_pair__int64__api_Entry [(⟨a1, (⟨(⟨a2_0, a2_1⟩ : Api_Part), a2_2, a2_3, a2_4, a2_5⟩ : Api_Entry)⟩ : Omap_pair__int64__api_Entry)])) emp), (box b2 65 [(int .i64 a2_0), (int .i64 a2_1), (int .i64 a2_2), (int .i64 a2_3), (int .i64 a2_4), (bool a2_5)]), (sel (done 13) (box p0 192 [(ga2 10)]) (box p0 192 [sv0])), (sel (done 10) (own (ga2 10) 196 7 x4.length (fl enc_Omap_pair__int64__api_Entry x4)) (own sv0 196 7 l0.length (fl enc_Omap_pair__int64__api_Entry l0)))])) (T := (fun ga2 : Nat → Value => [(0, 26, (pt p0 0)), (1, 27, (pt p0 0)), (2, 28, (pt p0 0)), (3, 29, (pt p0 0)), (4, 30, sv0), (5, 31, (int .i64 x3.2)), (6, 32, (int .i64 a1)), (7, 33, (agg #[(int .i64 a2_0), (int .i64 a2_1), (int .i64 a2_2), (int .i64 a2_3), (int .i64 a2_4), (bool a2_5)])), (8, 34, (agg #[(int .i64 a1), (int .i64 a2_0), (int .i64 a2_1), (int .i64 a2_2), (int .i64 a2_3), (int .i64 a2_4), (bool a2_5)])), (9, 35, (ga2 9)), (10, 36, (ga2 10)), (11, 37, (pt p0 0)), (12, 38, (pt p0 0))])) (L2 := [emp, (box b2 65 [(int .i64 a2_0), (int .i64 a2_1), (int .i64 a2_2), (int .i64 a2_3), (int .i64 a2_4), (bool a2_5)]), (sel (done 13) (box p0 192 [(ga2 10)]) (box p0 192 [sv0])), (sel (done 10) (own (ga2 10) 196 7 x4.length (fl enc_Omap_pair__int64__api_Entry x4)) (own sv0 196 7 l0.length (fl enc_Omap_pair__int64__api_Entry l0)))]) (B := fun v_ => (own v_ 196 7 [(⟨a1, (⟨(⟨a2_0, a2_1⟩ : Api_Part), a2_2, a2_3, a2_4, a2_5⟩ : Api_Entry)⟩ : Omap_pair__int64__api_Entry)].length (fl enc_Omap_pair__int64__api_Entry [(⟨a1, (⟨(⟨a2_0, a2_1⟩ : Api_Part), a2_2, a2_3, a2_4, a2_5⟩ : Api_Entry)⟩ : Omap_pair__int64__api_Entry)]))) 0 rfl rfl (wanted_none rfl) (fun a => (hasA_cons (k := 8) rfl d8 hasA_base)) (by simp only [hi, sel]) (ot_buildSlice (sz := 6) (xs := [.tmp 34]) (cs := fl enc_Omap_pair__int64__api_Entry [(⟨a1, (⟨(⟨a2_0, a2_1⟩ : Api_Part), a2_2, a2_3, a2_4, a2_5⟩ : Api_Entry)⟩ : Omap_pair__int64__api_Entry)]) rfl rfl F_slice_190 F_size_196 F_zero_196 rfl rfl (all_size rfl) rfl (by decide)) ?_ rfl (fun v_ => ?_) rfl rfl ?_
    ·rintro _ _ rfl; rfl
    ·simp [up, upb, sel, hi]
    ·rintro _ _ rfl
     exact (tr_same rfl rfl (tr_same rfl rfl (tr_same rfl rfl (tr_same rfl rfl (tr_same rfl rfl (tr_same rfl rfl (tr_same rfl rfl (tr_same rfl rfl (tr_same rfl rfl (tr_this (tr_same rfl rfl (tr_same rfl rfl (tr_same rfl rfl tr_nil)))))))))))))
   ·intro done hi hc hcu
    refine ent_exi (S := fun ga2 => Z6_I ga2 done) fun ga2 => ?_
    have d4 : done 4 = true := done_of (j := 4) hcu rfl (by decide) rfl
    have d5 : done 5 = true := done_of (j := 5) hcu rfl (by decide) rfl
    have d9 : done 9 = true := done_of (j := 9) hcu rfl (by decide) rfl
    have n13 : done 13 = false := notdone_of (m := 13) hc hi rfl rfl
    refine draw_turnP (i := 10) (t := 36) (x := ga2) (L := (fun (ga2 : Nat → Value) (done : Nat → Bool) => [(sel (done 9) (own (ga2 9) 196 7 [(⟨a1, (⟨(⟨a2_0, a2_1⟩ : Api_Part), a2_2, a2_3, a2_4, a2_5⟩ : Api_Entry)⟩ : Omap_pair__int64__api_Entry)].length (fl enc_Omap_pair__int64__api_Entry [(⟨a1, (⟨(⟨a2_0, a2_1⟩ : Api_Part), a2_2, a2_3, a2_4, a2_5⟩ : Api_Entry)⟩ : Omap_pair__int64__api_Entry)])) emp), (box b2 65 [(int .i64 a2_0), (int .i64 a2_1), (int .i64 a2_2), (int .i64 a2_3), (int .i64 a2_4), (bool a2_5)]), (sel (done 13) (box p0 192 [(ga2 10)]) (box p0 192 [sv0])), (sel (done 10) (own (ga2 10) 196 7 x4.length (fl enc_Omap_pair__int64__api_Entry x4)) (own sv0 196 7 l0.length (fl enc_Omap_pair__int64__api_Entry l0)))])) (T := (fun ga2 : Nat → Value => [(0, 26, (pt p0 0)), (1, 27, (pt p0 0)), (2, 28, (pt p0 0)), (3, 29, (pt p0 0)), (4, 30, sv0), (5, 31, (int .i64 x3.2)), (6, 32, (int .i64 a1)), (7, 33, (agg #[(int .i64 a2_0), (int .i64 a2_1), (int .i64 a2_2), (int .i64 a2_3), (int .i64 a2_4), (bool a2_5)])), (8, 34, (agg #[(int .i64 a1), (int .i64 a2_0), (int .i64 a2_1), (int .i64 a2_2), (int .i64 a2_3), (int .i64 a2_4), (bool a2_5)])), (9, 35, (ga2 9)), (10, 36, (ga2 10)), (11, 37, (pt p0 0)), (12, 38, (pt p0 0))])) (L2 := [(own (ga2 9) 196 7 [(⟨a1, (⟨(⟨a2_0, a2_1⟩ : Api_Part), a2_2, a2_3, a2_4, a2_5⟩ : Api_Entry)⟩ : Omap_pair__int64__api_Entry)].length (fl enc_Omap_pair__int64__api_Entry [(⟨a1, (⟨(⟨a2_0, a2_1⟩ : Api_Part), a2_2, a2_3, a2_4, a2_5⟩ : Api_Entry)⟩ : Omap_pair__int64__api_Entry)])), (box b2 65 [(int .i64 a2_0), (int .i64 a2_1), (int .i64 a2_2), (int .i64 a2_3), (int .i64 a2_4), (bool a2_5)]), (box p0 192 [sv0]), (own sv0 196 7 l0.length (fl enc_Omap_pair__int64__api_Entry l0))]) [3, 0, 1, 2] [1, 2, 3, 0] rfl rfl (wanted_none rfl) (fun a => (hasA_cons (k := 9) rfl d9 (hasA_cons (k := 5) rfl d5 (hasA_cons (k := 4) rfl d4 hasA_base)))) (by simp only [d9, n13, hi, sel]) (by decide) rfl (ot_call (Lr := [(box b2 65 [(int .i64 a2_0), (int .i64 a2_1), (int .i64 a2_2), (int .i64 a2_3), (int .i64 a2_4), (bool a2_5)]), (box p0 192 [sv0])]) (first := []) (cap := []) (xs := [.tmp 30, .tmp 31, .tmp 35]) rfl rfl F_call_169 rfl (slices_Insert____omap_pair__int64__api_Entry__omap_pair__int64__api_Entry.spec sv0 (ga2 9) l0 x3.2 [(⟨a1, (⟨(⟨a2_0, a2_1⟩ : Api_Part), a2_2, a2_3, a2_4, a2_5⟩ : Api_Entry)⟩ : Omap_pair__int64__api_Entry)] _ h4) rfl) (by decide) rfl rfl ?_
    rintro g0_ _ ⟨_, ⟨_, rfl, rfl⟩, rfl⟩
    exact ⟨(upb ga2 10 g0_), show some [(own (ga2 9) 196 7 [(⟨a1, (⟨(⟨a2_0, a2_1⟩ : Api_Part), a2_2, a2_3, a2_4, a2_5⟩ : Api_Entry)⟩ : Omap_pair__int64__api_Entry)].length (fl enc_Omap_pair__int64__api_Entry [(⟨a1, (⟨(⟨a2_0, a2_1⟩ : Api_Part), a2_2, a2_3, a2_4, a2_5⟩ : Api_Entry)⟩ : Omap_pair__int64__api_Entry)])), (box b2 65 [(int .i64 a2_0), (int .i64 a2_1), (int .i64 a2_2), (int .i64 a2_3), (int .i64 a2_4), (bool a2_5)]), (box p0 192 [sv0]), (own g0_ 196 7 x4.length (fl enc_Omap_pair__int64__api_Entry x4))] = _ by simp [up, upb, sel, d9, n13, n13, hi], (tr_same rfl rfl (tr_same rfl rfl (tr_same rfl rfl (tr_same rfl rfl (tr_same rfl rfl (tr_same rfl rfl (tr_same rfl rfl (tr_same rfl rfl (tr_same rfl rfl (tr_same rfl rfl (tr_this (tr_same rfl rfl (tr_same rfl rfl tr_nil)))))))))))))⟩
   ·intro done hi hc hcu
    refine draw_exi (I := Z6_I) fun ga2 => ?_
    have d0 : done 0 = true := done_of (j := 0) hcu rfl (by decide) rfl
    have n12 : done 12 = false := notdone_of (m := 12) hc hi rfl rfl
    have n13 : done 13 = false := notdone_of (m := 13) hc n12 rfl rfl
    exact draw_value (i := 11) (t := 37) (v := (pt p0 0)) rfl rfl (wanted_none rfl) (fun a => (hasA_cons (k := 0) rfl d0 hasA_base)) (ov_L (L2 := [(sel (done 9) (own (ga2 9) 196 7 [(⟨a1, (⟨(⟨a2_0, a2_1⟩ : Api_Part), a2_2, a2_3, a2_4, a2_5⟩ : Api_Entry)⟩ : Omap_pair__int64__api_Entry)].length (fl enc_Omap_pair__int64__api_Entry [(⟨a1, (⟨(⟨a2_0, a2_1⟩ : Api_Part), a2_2, a2_3, a2_4, a2_5⟩ : Api_Entry)⟩ : Omap_pair__int64__api_Entry)])) emp), (box b2 65 [(int .i64 a2_0), (int .i64 a2_1), (int .i64 a2_2), (int .i64 a2_3), (int .i64 a2_4), (bool a2_5)]), (box p0 192 [sv0]), (sel (done 10) (own (ga2 10) 196 7 x4.length (fl enc_Omap_pair__int64__api_Entry x4)) (own sv0 196 7 l0.length (fl enc_Omap_pair__int64__api_Entry l0)))]) (by simp only [n13, sel]) (ov_nilCheck rfl)) rfl rfl (onlyT_spec (k0 := 11) rfl rfl rfl)
   ·intro done hi hc hcu
    refine draw_exi (I := Z6_I) fun ga2 => ?_
    have d11 : done 11 = true := done_of (j := 11) hcu rfl (by decide) rfl
    have n13 : done 13 = false := notdone_of (m := 13) hc hi rfl rfl
    exact draw_value (i := 12) (t := 38) (v := (pt p0 0)) rfl rfl (wanted_none rfl) (fun a => (hasA_cons (k := 11) rfl d11 hasA_base)) (ov_L (L2 := [(sel (done 9) (own (ga2 9) 196 7 [(⟨a1, (⟨(⟨a2_0, a2_1⟩ : Api_Part), a2_2, a2_3, a2_4, a2_5⟩ : Api_Entry)⟩ : Omap_pair__int64__api_Entry)].length (fl enc_Omap_pair__int64__api_Entry [(⟨a1, (⟨(⟨a2_0, a2_1⟩ : Api_Part), a2_2, a2_3, a2_4, a2_5⟩ : Api_Entry)⟩ : Omap_pair__int64__api_Entry)])) emp), (box b2 65 [(int .i64 a2_0), (int .i64 a2_1), (int .i64 a2_2), (int .i64 a2_3), (int .i64 a2_4), (bool a2_5)]), (box p0 192 [sv0]), (sel (done 10) (own (ga2 10) 196 7 x4.length (fl enc_Omap_pair__int64__api_Entry x4)) (own sv0 196 7 l0.length (fl enc_Omap_pair__int64__api_Entry l0)))]) (by simp only [n13, sel]) (ov_fieldAddr (sz := 0) (o := 0) rfl F_field_192_0 F_size_190)) rfl rfl (onlyT_spec (k0 := 12) rfl rfl rfl)
   ·intro done hi hc hcu
    refine draw_exi (I := Z6_I) fun ga2 => ?_
    have d12 : done 12 = true := done_of (j := 12) hcu rfl (by decide) rfl
    have d10 : done 10 = true := done_of (j := 10) hcu rfl (by decide) rfl
    exact draw_store (i := 13) (L2 := [(sel (done 9) (own (ga2 9) 196 7 [(⟨a1, (⟨(⟨a2_0, a2_1⟩ : Api_Part), a2_2, a2_3, a2_4, a2_5⟩ : Api_Entry)⟩ : Omap_pair__int64__api_Entry)].length (fl enc_Omap_pair__int64__api_Entry [(⟨a1, (⟨(⟨a2_0, a2_1⟩ : Api_Part), a2_2, a2_3, a2_4, a2_5⟩ : Api_Entry)⟩ : Omap_pair__int64__api_Entry)])) emp), (box b2 65 [(int .i64 a2_0), (int .i64 a2_1), (int .i64 a2_2), (int .i64 a2_3), (int .i64 a2_4), (bool a2_5)]), (box p0 192 [sv0]), (own (ga2 10) 196 7 x4.length (fl enc_Omap_pair__int64__api_Entry x4))]) (L3 := [(sel (done 9) (own (ga2 9) 196 7 [(⟨a1, (⟨(⟨a2_0, a2_1⟩ : Api_Part), a2_2, a2_3, a2_4, a2_5⟩ : Api_Entry)⟩ : Omap_pair__int64__api_Entry)].length (fl enc_Omap_pair__int64__api_Entry [(⟨a1, (⟨(⟨a2_0, a2_1⟩ : Api_Part), a2_2, a2_3, a2_4, a2_5⟩ : Api_Entry)⟩ : Omap_pair__int64__api_Entry)])) emp), (box b2 65 [(int .i64 a2_0), (int .i64 a2_1), (int .i64 a2_2), (int .i64 a2_3), (int .i64 a2_4), (bool a2_5)]), (box p0 192 [(ga2 10)]), (own (ga2 10) 196 7 x4.length (fl enc_Omap_pair__int64__api_Entry x4))]) rfl rfl (wanted_none rfl) (fun a => (hasA_cons (k := 10) rfl d10 (hasA_cons (k := 12) rfl d12 hasA_base))) (by simp only [d10, hi, sel]) (by simp [up, d10, sel]) (ot_storeS (cs := [sv0]) (cs' := [(ga2 10)]) (sv := (ga2 10)) (L' := [(sel (done 9) (own (ga2 9) 196 7 [(⟨a1, (⟨(⟨a2_0, a2_1⟩ : Api_Part), a2_2, a2_3, a2_4, a2_5⟩ : Api_Entry)⟩ : Omap_pair__int64__api_Entry)].length (fl enc_Omap_pair__int64__api_Entry [(⟨a1, (⟨(⟨a2_0, a2_1⟩ : Api_Part), a2_2, a2_3, a2_4, a2_5⟩ : Api_Entry)⟩ : Omap_pair__int64__api_Entry)])) emp), (box b2 65 [(int .i64 a2_0), (int .i64 a2_1), (int .i64 a2_2), (int .i64 a2_3), (int .i64 a2_4), (bool a2_5)]), (box p0 192 [(ga2 10)]), (own (ga2 10) 196 7 x4.length (fl enc_Omap_pair__int64__api_Entry x4))]) 2 3 rfl rfl F_size_190 rfl rfl (isRd_ownx 196) rfl (by simp) rfl) (offT_spec rfl)
  ·intro done hall
   refine ent_exi (S := fun ga2 => Z6_I ga2 done) fun ga2 => ?_
   refine draw_endL [(own (ga2 9) 196 7 [(⟨a1, (⟨(⟨a2_0, a2_1⟩ : Api_Part), a2_2, a2_3, a2_4, a2_5⟩ : Api_Entry)⟩ : Omap_pair__int64__api_Entry)].length (fl enc_Omap_pair__int64__api_Entry [(⟨a1, (⟨(⟨a2_0, a2_1⟩ : Api_Part), a2_2, a2_3, a2_4, a2_5⟩ : Api_Entry)⟩ : Omap_pair__int64__api_Entry)])), (box b2 65 [(int .i64 a2_0), (int .i64 a2_1), (int .i64 a2_2), (int .i64 a2_3), (int .i64 a2_4), (bool a2_5)]), (box p0 192 [(ga2 10)]), (own (ga2 10) 196 7 x4.length (fl enc_Omap_pair__int64__api_Entry x4))] (by simp only [hall 9 (by decide), hall 10 (by decide), hall 13 (by decide), sel]) (fun a => (hasA_cons (k := 0) rfl (hall 0 (by decide)) (hasA_cons (k := 1) rfl (hall 1 (by decide)) (hasA_cons (k := 2) rfl (hall 2 (by decide)) (hasA_cons (k := 3) rfl (hall 3 (by decide)) (hasA_cons (k := 4) rfl (hall 4 (by decide)) (hasA_cons (k := 5) rfl (hall 5 (by decide)) (hasA_cons (k := 6) rfl (hall 6 (by decide)) (hasA_cons (k := 7) rfl (hall 7 (by decide)) (hasA_cons (k := 8) rfl (hall 8 (by decide)) (hasA_cons (k := 9) rfl (hall 9 (by decide)) (hasA_cons (k := 10) rfl (hall 10 (by decide)) (hasA_cons (k := 11) rfl (hall 11 (by decide)) (hasA_cons (k := 12) rfl (hall 12 (by decide)) hasA_base)))))))))))))) ?_
   refine ent_seq ?_
   refine ent_region ?_
   refine ent_value (ov_assign rfl) rfl rfl rfl ?_
   refine ent_nil ?_
   refine ent_retc ?_
   cases H
   refine ent_pick [2, 3] (by decide) rfl ?_
   exact ret_tmp rfl rfl ⟨_, rfl, rfl⟩

set_option maxRecDepth 100000 in
theorem catalog_Catalog_put_O.spec (K : Nat) (p0 : Nat) (p1 : Nat) (sv0 : Value) (l0 : List Omap_pair__int64__api_Entry) (a1_0 : Int) (a1_1 : Int) (a1_2 : Int) (a1_3 : Int) (a1_4 : Int) (a1_5 : Bool) (r : (Int × (List Omap_pair__int64__api_Entry))) (H : catalog_Catalog_put_O K l0 a1_0 a1_1 a1_2 a1_3 a1_4 a1_5 = some r) : FnSpec Try.prog 84 [(pt p0 0), (agg #[(int .i64 a1_0), (int .i64 a1_1), (int .i64 a1_2), (int .i64 a1_3), (int .i64 a1_4), (bool a1_5)])] [(box p0 139 [(pt p1 0)]), (box p1 192 [sv0]), (own sv0 196 7 l0.length (fl enc_Omap_pair__int64__api_Entry l0))] (fun v M => ∃ sv5 : Value, v = (int .i64 r.1) ∧ M = [(box p0 139 [(pt p1 0)]), (box p1 192 [sv5]), (own sv5 196 7 r.2.length (fl enc_Omap_pair__int64__api_Entry r.2))]) := by
 unfold catalog_Catalog_put_O at H
 refine spec_of Try.func84 rfl 29 rfl (Nat.le_of_ble_eq_true rfl) fun F w0 => ?_
 show Ent (St 29 w0 F [(0, (pt p0 0)), (1, (agg #[(int .i64 a1_0), (int .i64 a1_1), (int .i64 a1_2), (int .i64 a1_3), (int .i64 a1_4), (bool a1_5)]))] [(box p0 139 [(pt p1 0)]), (box p1 192 [sv0]), (own sv0 196 7 l0.length (fl enc_Omap_pair__int64__api_Entry l0))]) _
 refine ent_seq ?_
 refine ent_region ?_
 refine ent_op (ot_box (cs := [(int .i64 a1_0), (int .i64 a1_1), (int .i64 a1_2), (int .i64 a1_3), (int .i64 a1_4), (bool a1_5)]) rfl rfl) rfl rfl rfl ?_
 rintro _ _ ⟨b2, rfl, rfl⟩
 refine ent_value (ov_assign rfl) rfl rfl rfl ?_
 refine ent_nil ?_
 refine ent_seq ?_
 refine ent_seq ?_
 refine ent_region ?_
 refine ent_value (ov_load_agg (vs := [(int .i64 a1_0), (int .i64 a1_1), (int .i64 a1_2), (int .i64 a1_3), (int .i64 a1_4), (bool a1_5)]) rfl F_agg_65 F_size_65 (reads_boxW (i := 0) rfl)) rfl rfl rfl ?_
 obtain ⟨x9, h9, H⟩ := thn_elim H
 refine ent_op (ot_call0 (first := []) (cap := []) (xs := [.tmp 7]) rfl rfl F_call_92 rfl (catalog_Right.spec a1_0 a1_1 a1_2 a1_3 a1_4 a1_5 _ h9)) rfl rfl rfl ?_
 rintro _ _ ⟨rfl, rfl⟩
 refine ent_value (ov_un rfl (u_not _)) rfl rfl rfl ?_
 refine ent_nil ?_
 by_cases c6 : (!x9) = true
 ·rw [if_pos c6] at H
  refine ent_cond_true rfl c6 ?_
  refine ent_seq ?_
  refine ent_region ?_
  refine ent_value (ov_assign rfl) rfl rfl rfl ?_
  refine ent_nil ?_
  refine ent_retc ?_
  cases H
  refine ent_pick [1, 2, 3] (by decide) rfl ?_
  exact ret_tmp rfl rfl ⟨_, rfl, rfl⟩
 ·rw [if_neg c6] at H
  refine ent_cond_false rfl (Bool.eq_false_iff.2 c6) ?_
  refine ent_skip ?_
  refine ent_seq ?_
  refine ent_region ?_
  refine ent_value (ov_fieldAddr (sz := 1) (o := 0) rfl F_field_65_0 F_size_63) rfl rfl rfl ?_
  refine ent_value (ov_load_agg (vs := [(int .i64 a1_0), (int .i64 a1_1)]) rfl F_agg_63 F_size_63 (reads_boxN (i := 0) rfl rfl)) rfl rfl rfl ?_
  obtain ⟨x10, h10, H⟩ := thn_elim H
  refine ent_op (ot_call0 (first := []) (cap := []) (xs := [.tmp 12]) rfl rfl F_call_35 rfl (part_Span.spec a1_0 a1_1 _ h10)) rfl rfl rfl ?_
  rintro _ _ ⟨rfl, rfl⟩
  refine ent_value (ov_move rfl) rfl rfl rfl ?_
  refine ent_value (ov_extract rfl rfl) rfl rfl rfl ?_
  refine ent_value (ov_extract rfl rfl) rfl rfl rfl ?_
  refine ent_value (ov_assign rfl) rfl rfl rfl ?_
  refine ent_value (ov_assign rfl) rfl rfl rfl ?_
  refine ent_nil ?_
  refine ent_seq ?_
  refine ent_seq ?_
  refine ent_region ?_
  refine ent_value (ov_move rfl) rfl rfl rfl ?_
  refine ent_value (ov_move rfl) rfl rfl rfl ?_
  refine ent_value (ov_move rfl) rfl rfl rfl ?_
  obtain ⟨x12, h12, H⟩ := Option.bind_eq_some_iff.1 H
  refine ent_pick [1, 2, 3, 0] (by decide) rfl ?_
  refine ent_op (ot_call (Lr := [(box b2 65 [(int .i64 a1_0), (int .i64 a1_1), (int .i64 a1_2), (int .i64 a1_3), (int .i64 a1_4), (bool a1_5)])]) (first := []) (cap := []) (xs := [.tmp 16, .tmp 17, .tmp 18]) rfl rfl F_call_36 rfl (catalog_Catalog_Over_O.spec K p0 p1 sv0 l0 x10.1 x10.2 _ h12) rfl) rfl rfl rfl ?_
  rintro sv7 _ ⟨_, ⟨_, rfl, rfl⟩, rfl⟩
  refine ent_value (ov_len 3 rfl F_slice_53 rfl (isRd_ownx 65)) rfl rfl rfl ?_
  refine ent_value (ov_bin rfl rfl (b_gtr _ _ _)) rfl rfl rfl ?_
  refine ent_nil ?_
  by_cases c8 : 0 < (x12.length : Int)
  ·rw [if_pos c8] at H
   refine ent_cond_true rfl (decide_eq_true c8) ?_
   refine ent_seq ?_
   refine ent_region ?_
   refine ent_value (ov_assign rfl) rfl rfl rfl ?_
   refine ent_nil ?_
   refine ent_retc ?_
   cases H
   refine ent_pick [0, 1, 2] (by decide) rfl ?_
   exact ret_tmp rfl rfl ⟨_, rfl, rfl⟩
  ·rw [if_neg c8] at H
   refine ent_cond_false rfl (decide_eq_false c8) ?_
   refine ent_skip ?_
   refine ent_seq ?_
   obtain ⟨x13, h13, H⟩ := Option.bind_eq_some_iff.1 H
   let Z2_I : (Nat → Value) → (Nat → Bool) → Act → World → Prop := fun (ga2 : Nat → Value) done a w => StD 29 w0 F [(0, (pt p0 0)), (1, (agg #[(int .i64 a1_0), (int .i64 a1_1), (int .i64 a1_2), (int .i64 a1_3), (int .i64 a1_4), (bool a1_5)])), (3, (pt b2 0)), (4, (int .i64 0)), (5, (int .i64 x10.1)), (6, (int .i64 x10.2)), (7, (agg #[(int .i64 a1_0), (int .i64 a1_1), (int .i64 a1_2), (int .i64 a1_3), (int .i64 a1_4), (bool a1_5)])), (8, (bool x9)), (9, (bool (!x9))), (10, (Value.tuple #[(int .i64 x10.1), (int .i64 x10.2)])), (11, (pt b2 0)), (12, (agg #[(int .i64 a1_0), (int .i64 a1_1)])), (13, (Value.tuple #[(int .i64 x10.1), (int .i64 x10.2)])), (14, (int .i64 x10.1)), (15, (int .i64 x10.2)), (16, (pt p0 0)), (17, (int .i64 x10.1)), (18, (int .i64 x10.2)), (19, sv7), (20, (int .i64 (x12.length : Int))), (21, (bool (decide (0 < (x12.length : Int)))))] [(0, 22, (pt p0 0)), (1, 23, (pt p0 0)), (2, 24, (pt p0 0)), (3, 25, (pt p1 0)), (4, 26, (int .i64 x10.1)), (5, 27, (agg #[(int .i64 a1_0), (int .i64 a1_1), (int .i64 a1_2), (int .i64 a1_3), (int .i64 a1_4), (bool a1_5)])), (6, 28, (bool x13.1))] done [(box p0 139 [(pt p1 0)]), (sel (done 6) (box p1 192 [(ga2 6)]) (box p1 192 [sv0])), (sel (done 6) (own (ga2 6) 196 7 x13.2.length (fl enc_Omap_pair__int64__api_Entry x13.2)) (own sv0 196 7 l0.length (fl enc_Omap_pair__int64__api_Entry l0))), (own sv7 65 6 x12.length (fl enc_Api_Entry x12)), (box b2 65 [(int .i64 a1_0), (int .i64 a1_1), (int .i64 a1_2), (int .i64 a1_3), (int .i64 a1_4), (bool a1_5)])] a w
   refine ent_drawm 7 rfl (fun done a w => ∃ ga2 : Nat → Value, Z2_I ga2 done a w) (by kernel_rfl) (by kernel_rfl) (draw_startG (T := (fun ga2 : Nat → Value => [(0, 22, (pt p0 0)), (1, 23, (pt p0 0)), (2, 24, (pt p0 0)), (3, 25, (pt p1 0)), (4, 26, (int .i64 x10.1)), (5, 27, (agg #[(int .i64 a1_0), (int .i64 a1_1), (int .i64 a1_2), (int .i64 a1_3), (int .i64 a1_4), (bool a1_5)])), (6, 28, (bool x13.1))])) (L' := fun ga2 : Nat → Value => [(box p0 139 [(pt p1 0)]), (sel false (box p1 192 [(ga2 6)]) (box p1 192 [sv0])), (sel false (own (ga2 6) 196 7 x13.2.length (fl enc_Omap_pair__int64__api_Entry x13.2)) (own sv0 196 7 l0.length (fl enc_Omap_pair__int64__api_Entry l0))), (own sv7 65 6 x12.length (fl enc_Api_Entry x12)), (box b2 65 [(int .i64 a1_0), (int .i64 a1_1), (int .i64 a1_2), (int .i64 a1_3), (int .i64 a1_4), (bool a1_5)])]) 0 (sub_cons (t := 0) rfl (sub_cons (t := 1) rfl (sub_cons (t := 3) rfl (sub_cons (t := 4) rfl (sub_cons (t := 5) rfl (sub_cons (t := 6) rfl (sub_cons (t := 7) rfl (sub_cons (t := 8) rfl (sub_cons (t := 9) rfl (sub_cons (t := 10) rfl (sub_cons (t := 11) rfl (sub_cons (t := 12) rfl (sub_cons (t := 13) rfl (sub_cons (t := 14) rfl (sub_cons (t := 15) rfl (sub_cons (t := 16) rfl (sub_cons (t := 17) rfl (sub_cons (t := 18) rfl (sub_cons (t := 19) rfl (sub_cons (t := 20) rfl (sub_cons (t := 21) rfl (sub_nil _)))))))))))))))))))))) (fun _ => rfl)) ?_ ?_
   ·refine ⟨?_, ?_, ?_, ?_, ?_, ?_, ?_, trivial⟩
    ·intro done hi hc hcu
     refine draw_exi (I := Z2_I) fun ga2 => ?_
     exact draw_value (i := 0) (t := 22) (v := (pt p0 0)) rfl rfl (wanted_none rfl) (fun a => hasA_base) (ov_move rfl) rfl rfl (onlyT_spec (k0 := 0) rfl rfl rfl)
    ·intro done hi hc hcu
     refine draw_exi (I := Z2_I) fun ga2 => ?_
     have d0 : done 0 = true := done_of (j := 0) hcu rfl (by decide) rfl
     exact draw_value (i := 1) (t := 23) (v := (pt p0 0)) rfl rfl (wanted_none rfl) (fun a => (hasA_cons (k := 0) rfl d0 hasA_base)) (ov_nilCheck rfl) rfl rfl (onlyT_spec (k0 := 1) rfl rfl rfl)
    ·intro done hi hc hcu
     refine draw_exi (I := Z2_I) fun ga2 => ?_
     have d1 : done 1 = true := done_of (j := 1) hcu rfl (by decide) rfl
     exact draw_value (i := 2) (t := 24) (v := (pt p0 0)) rfl rfl (wanted_none rfl) (fun a => (hasA_cons (k := 1) rfl d1 hasA_base)) (ov_fieldAddr (sz := 0) (o := 0) rfl F_field_139_0 F_size_136) rfl rfl (onlyT_spec (k0 := 2) rfl rfl rfl)
    ·intro done hi hc hcu
     refine draw_exi (I := Z2_I) fun ga2 => ?_
     have d2 : done 2 = true := done_of (j := 2) hcu rfl (by decide) rfl
     exact draw_value (i := 3) (t := 25) (v := (pt p1 0)) rfl rfl (wanted_none rfl) (fun a => (hasA_cons (k := 2) rfl d2 hasA_base)) (ov_load (v := (pt p1 0)) rfl F_agg_136 (reads_box1 (i := 0) rfl rfl)) rfl rfl (onlyT_spec (k0 := 3) rfl rfl rfl)
    ·intro done hi hc hcu
     refine draw_exi (I := Z2_I) fun ga2 => ?_
     exact draw_value (i := 4) (t := 26) (v := (int .i64 x10.1)) rfl rfl (wanted_none rfl) (fun a => hasA_base) (ov_move rfl) rfl rfl (onlyT_spec (k0 := 4) rfl rfl rfl)
    ·intro done hi hc hcu
     refine draw_exi (I := Z2_I) fun ga2 => ?_
     exact draw_value (i := 5) (t := 27) (v := (agg #[(int .i64 a1_0), (int .i64 a1_1), (int .i64 a1_2), (int .i64 a1_3), (int .i64 a1_4), (bool a1_5)])) rfl rfl (wanted_none rfl) (fun a => hasA_base) (ov_load_agg (vs := [(int .i64 a1_0), (int .i64 a1_1), (int .i64 a1_2), (int .i64 a1_3), (int .i64 a1_4), (bool a1_5)]) rfl F_agg_65 F_size_65 (reads_boxW (i := 4) rfl)) rfl rfl (onlyT_spec (k0 := 5) rfl rfl rfl)
    ·intro done hi hc hcu
     refine ent_exi (S := fun ga2 => Z2_I ga2 done) fun ga2 => ?_
     have d3 : done 3 = true := done_of (j := 3) hcu rfl (by decide) rfl
     have d4 : done 4 = true := done_of (j := 4) hcu rfl (by decide) rfl
     have d5 : done 5 = true := done_of (j := 5) hcu rfl (by decide) rfl
     refine draw_turnP (i := 6) (t := 28) (x := ga2) (L := (fun (ga2 : Nat → Value) (done : Nat → Bool) => [(box p0 139 [(pt p1 0)]), (sel (done 6) (box p1 192 [(ga2 6)]) (box p1 192 [sv0])), (sel (done 6) (own (ga2 6) 196 7 x13.2.length (fl enc_Omap_pair__int64__api_Entry x13.2)) (own sv0 196 7 l0.length (fl enc_Omap_pair__int64__api_Entry l0))), (own sv7 65 6 x12.length (fl enc_Api_Entry x12)), (box b2 65 [(int .i64 a1_0), (int .i64 a1_1), (int .i64 a1_2), (int .i64 a1_3), (int .i64 a1_4), (bool a1_5)])])) (T := (fun ga2 : Nat → Value => [(0, 22, (pt p0 0)), (1, 23, (pt p0 0)), (2, 24, (pt p0 0)), (3, 25, (pt p1 0)), (4, 26, (int .i64 x10.1)), (5, 27, (agg #[(int .i64 a1_0), (int .i64 a1_1), (int .i64 a1_2), (int .i64 a1_3), (int .i64 a1_4), (bool a1_5)])), (6, 28, (bool x13.1))])) (L2 := [(box p0 139 [(pt p1 0)]), (box p1 192 [sv0]), (own sv0 196 7 l0.length (fl enc_Omap_pair__int64__api_Entry l0)), (own sv7 65 6 x12.length (fl enc_Api_Entry x12)), (box b2 65 [(int .i64 a1_0), (int .i64 a1_1), (int .i64 a1_2), (int .i64 a1_3), (int .i64 a1_4), (bool a1_5)])]) [1, 2, 0, 3, 4] [2, 0, 1, 3, 4] rfl rfl (wanted_none rfl) (fun a => (hasA_cons (k := 5) rfl d5 (hasA_cons (k := 4) rfl d4 (hasA_cons (k := 3) rfl d3 hasA_base)))) (by simp only [hi, sel]) (by decide) rfl (ot_call (Lr := [(box p0 139 [(pt p1 0)]), (own sv7 65 6 x12.length (fl enc_Api_Entry x12)), (box b2 65 [(int .i64 a1_0), (int .i64 a1_1), (int .i64 a1_2), (int .i64 a1_3), (int .i64 a1_4), (bool a1_5)])]) (first := []) (cap := []) (xs := [.tmp 25, .tmp 26, .tmp 27]) rfl rfl F_call_134 rfl (omap_Map__int64__api_Entry_Put_O.spec K p1 sv0 l0 x10.1 a1_0 a1_1 a1_2 a1_3 a1_4 a1_5 _ h13) rfl) (by decide) rfl rfl ?_
     rintro _ _ ⟨_, ⟨g0_, rfl, rfl⟩, rfl⟩
     exact ⟨(upb ga2 6 g0_), show some [(box p0 139 [(pt p1 0)]), (box p1 192 [g0_]), (own g0_ 196 7 x13.2.length (fl enc_Omap_pair__int64__api_Entry x13.2)), (own sv7 65 6 x12.length (fl enc_Api_Entry x12)), (box b2 65 [(int .i64 a1_0), (int .i64 a1_1), (int .i64 a1_2), (int .i64 a1_3), (int .i64 a1_4), (bool a1_5)])] = _ by simp [up, upb, sel, hi], (tr_same rfl rfl (tr_same rfl rfl (tr_same rfl rfl (tr_same rfl rfl (tr_same rfl rfl (tr_same rfl rfl (tr_this tr_nil)))))))⟩
   ·intro done hall
    refine ent_exi (S := fun ga2 => Z2_I ga2 done) fun ga2 => ?_
    refine draw_endL [(box p0 139 [(pt p1 0)]), (box p1 192 [(ga2 6)]), (own (ga2 6) 196 7 x13.2.length (fl enc_Omap_pair__int64__api_Entry x13.2)), (own sv7 65 6 x12.length (fl enc_Api_Entry x12)), (box b2 65 [(int .i64 a1_0), (int .i64 a1_1), (int .i64 a1_2), (int .i64 a1_3), (int .i64 a1_4), (bool a1_5)])] (by simp only [hall 6 (by decide), sel]) (fun a => (hasA_cons (k := 0) rfl (hall 0 (by decide)) (hasA_cons (k := 1) rfl (hall 1 (by decide)) (hasA_cons (k := 2) rfl (hall 2 (by decide)) (hasA_cons (k := 3) rfl (hall 3 (by decide)) (hasA_cons (k := 4) rfl (hall 4 (by decide)) (hasA_cons (k := 5) rfl (hall 5 (by decide)) (hasA_cons (k := 6) rfl (hall 6 (by decide)) hasA_base)))))))) ?_
    refine ent_seq ?_
    refine ent_region ?_
    refine ent_value (ov_assign rfl) rfl rfl rfl ?_
    refine ent_nil ?_
    refine ent_retc ?_
    cases H
    refine ent_pick [0, 1, 2] (by decide) rfl ?_
    exact ret_tmp rfl rfl ⟨_, rfl, rfl⟩

set_option maxRecDepth 100000 in
theorem catalog_Catalog_Apply_NNO.spec (K : Nat) (p0 : Nat) (p1 : Nat) (sv0 : Value) (l0 : List Api_Entry) (r : (Int × (List Omap_pair__int64__api_Entry))) (H : catalog_Catalog_Apply_NNO K l0 = some r) : FnSpec Try.prog 25 [(pt p0 0), (agg #[(slice none 0 0), sv0])] [(box p0 139 [(pt p1 0)]), (box p1 192 [(slice none 0 0)]), (own sv0 65 6 l0.length (fl enc_Api_Entry l0))] (fun v M => ∃ b34 : Nat, ∃ sv34 : Value, v = (int .i64 r.1) ∧ M = [(box p0 139 [(pt b34 0)]), (box b34 192 [sv34]), (own sv34 196 7 r.2.length (fl enc_Omap_pair__int64__api_Entry r.2)), (own sv0 65 6 l0.length (fl enc_Api_Entry l0))]) := by
 unfold catalog_Catalog_Apply_NNO at H
 refine spec_of Try.func25 rfl 67 rfl (Nat.le_of_ble_eq_true rfl) fun F w0 => ?_
 show Ent (St 67 w0 F [(0, (pt p0 0)), (1, (agg #[(slice none 0 0), sv0]))] [(box p0 139 [(pt p1 0)]), (box p1 192 [(slice none 0 0)]), (own sv0 65 6 l0.length (fl enc_Api_Entry l0))]) _
 refine ent_seq ?_
 refine ent_region ?_
 refine ent_op (ot_box (cs := [(slice none 0 0), sv0]) rfl rfl) rfl rfl rfl ?_
 rintro _ _ ⟨b35, rfl, rfl⟩
 refine ent_value (ov_assign rfl) rfl rfl rfl ?_
 refine ent_nil ?_
 refine ent_seq ?_
 refine ent_seq ?_
 refine ent_region ?_
 refine ent_value (ov_move rfl) rfl rfl rfl ?_
 refine ent_value (ov_bin rfl rfl (b_eql_of (fun w => rfl) rfl (eq_pn Try.underlying51 _ _))) rfl rfl rfl ?_
 refine ent_nil ?_
 refine ent_cond_false rfl rfl ?_
 refine ent_skip ?_
 refine ent_seq ?_
 refine ent_region ?_
 refine ent_value (ov_move rfl) rfl rfl rfl ?_
 obtain ⟨x31, h27, H⟩ := Option.bind_eq_some_iff.1 H
 refine ent_pick [1, 2, 0, 3] (by decide) rfl ?_
 refine ent_op (ot_call (Lr := [(box b35 59 [(slice none 0 0), sv0]), (own sv0 65 6 l0.length (fl enc_Api_Entry l0))]) (first := []) (cap := []) (xs := [.tmp 17]) rfl rfl F_call_30 rfl (catalog_Catalog_Copy_N.spec K p0 p1 _ h27) rfl) rfl rfl rfl ?_
 rintro _ _ ⟨_, ⟨b36, b37, sv35, rfl, rfl⟩, rfl⟩
 refine ent_value (ov_assign rfl) rfl rfl rfl ?_
 refine ent_nil ?_
 obtain ⟨x32, H16, H⟩ := Option.bind_eq_some_iff.1 H
 refine ent_seq_cut (fun a w => ∃ b38 : Nat, St 67 w0 F [(0, (pt p0 0)), (3, (pt b38 0)), (5, (pt b36 0))] [(box p0 139 [(pt p1 0)]), (box p1 192 [(slice none 0 0)]), (own sv0 65 6 l0.length (fl enc_Api_Entry l0)), (box b38 59 [(slice none 0 0), sv0]), (box b36 139 [(pt b37 0)]), (box b37 192 [sv35]), (own sv35 196 7 x31.length (fl enc_Omap_pair__int64__api_Entry x31))] a w) ?_ ?_
 ·refine ent_seq ?_
  refine ent_region ?_
  refine ent_value (ov_fieldAddr (sz := 0) (o := 0) rfl F_field_59_0 F_size_56) rfl rfl rfl ?_
  refine ent_value (ov_load (v := (slice none 0 0)) rfl F_agg_56 (reads_box1 (i := 5) rfl rfl)) rfl rfl rfl ?_
  refine ent_value (ov_len0 rfl F_slice_56) rfl rfl rfl ?_
  refine ent_value (ov_move rfl) rfl rfl rfl ?_
  refine ent_nil ?_
  refine ent_block ?_
  refine ent_loop (fun k a w => catalog_Catalog_Apply_NNO_l0 K k = some x32 ∧ St 67 w0 F [(0, (pt p0 0)), (3, (pt b35 0)), (5, (pt b36 0)), (20, (slice none 0 0)), (21, (int .i64 0)), (22, (int .i64 0))] [(box p0 139 [(pt p1 0)]), (box p1 192 [(slice none 0 0)]), (own sv0 65 6 l0.length (fl enc_Api_Entry l0)), (box b35 59 [(slice none 0 0), sv0]), (box b36 139 [(pt b37 0)]), (box b37 192 [sv35]), (own sv35 196 7 x31.length (fl enc_Omap_pair__int64__api_Entry x31))] a w) K ?_ ?_
  ·exact ent_fin [0, 1, 6, 5, 2, 3, 4] (by decide) rfl (sub_cons (t := 0) rfl (sub_cons (t := 3) rfl (sub_cons (t := 5) rfl (sub_cons (t := 20) rfl (sub_cons (t := 21) rfl (sub_cons (t := 22) rfl (sub_nil _))))))) fun a w h => ⟨H16, h⟩
  ·refine fun k => ent_and fun H17 => ?_
   cases k with
   | zero => exact absurd H17 (by simp [catalog_Catalog_Apply_NNO_l0])
   | succ k =>
    rw [catalog_Catalog_Apply_NNO_l0] at H17
    refine ent_seq ?_
    refine ent_region ?_
    refine ent_value (ov_bin rfl rfl (b_lss _ _ _)) rfl rfl rfl ?_
    refine ent_nil ?_
    refine ent_seq ?_
    refine ent_cond_false rfl rfl ?_
    refine ent_exit ?_
    cases H17
    exact ent_fin [0, 1, 2, 3, 4, 5, 6] (by decide) rfl (sub_cons (t := 0) rfl (sub_cons (t := 3) rfl (sub_cons (t := 5) rfl (sub_nil _)))) fun a w h => ⟨_, h⟩
 ·refine ent_exi fun b38 => ?_
  obtain ⟨x39, H19, H⟩ := Option.bind_eq_some_iff.1 H
  refine ent_seq_cut (fun a w => ∃ v3, x39 = Sum.inl v3 ∧ ∃ sv43 : Value, St 67 w0 F [(0, (pt p0 0)), (5, (pt b36 0))] [(box p0 139 [(pt p1 0)]), (box p1 192 [(slice none 0 0)]), (own sv0 65 6 l0.length (fl enc_Api_Entry l0)), (box b36 139 [(pt b37 0)]), (box b37 192 [sv43]), (own sv43 196 7 v3.length (fl enc_Omap_pair__int64__api_Entry v3))] a w) ?_ ?_
  ·refine ent_seq ?_
   refine ent_region ?_
   refine ent_value (ov_fieldAddr (sz := 0) (o := 0) rfl F_field_59_1 F_size_53) rfl rfl rfl ?_
   refine ent_value (ov_load (v := sv0) rfl F_agg_53 (reads_box1 (i := 3) rfl rfl)) rfl rfl rfl ?_
   refine ent_value (ov_len 2 rfl F_slice_53 rfl (isRd_ownx 65)) rfl rfl rfl ?_
   refine ent_value (ov_move rfl) rfl rfl rfl ?_
   refine ent_nil ?_
   refine ent_block ?_
   refine ent_loop (fun k a w => ∃ i8, ∃ l11, ∃ sv46 : Value, catalog_Catalog_Apply_NNO_l1 K l0 k i8 l11 = some x39 ∧ St 67 w0 F [(0, (pt p0 0)), (5, (pt b36 0)), (47, sv0), (48, (int .i64 (l0.length : Int))), (49, (int .i64 i8))] [(box p0 139 [(pt p1 0)]), (box p1 192 [(slice none 0 0)]), (own sv0 65 6 l0.length (fl enc_Api_Entry l0)), (box b36 139 [(pt b37 0)]), (box b37 192 [sv46]), (own sv46 196 7 l11.length (fl enc_Omap_pair__int64__api_Entry l11))] a w) K ?_ ?_
   ·exact ent_fin [0, 1, 2, 4, 5, 6] (by decide) rfl (sub_cons (t := 0) rfl (sub_cons (t := 5) rfl (sub_cons (t := 47) rfl (sub_cons (t := 48) rfl (sub_cons (t := 49) rfl (sub_nil _)))))) fun a w h => ⟨_, _, _, H19, h⟩
   ·refine fun k => ent_exi fun i8 => ent_exi fun l11 => ent_exi fun sv46 => ent_and fun H20 => ?_
    cases k with
    | zero => exact absurd H20 (by simp [catalog_Catalog_Apply_NNO_l1])
    | succ k =>
     rw [catalog_Catalog_Apply_NNO_l1] at H20
     refine ent_seq ?_
     refine ent_region ?_
     refine ent_value (ov_bin rfl rfl (b_lss _ _ _)) rfl rfl rfl ?_
     refine ent_nil ?_
     refine ent_seq ?_
     by_cases c92 : i8 < (l0.length : Int)
     ·rw [if_pos c92] at H20
      refine ent_cond_true rfl (decide_eq_true c92) ?_
      refine ent_skip ?_
      refine ent_seq ?_
      refine ent_block ?_
      refine ent_seq ?_
      refine ent_region ?_
      by_cases c95 : 0 ≤ i8
      ·rw [if_pos c95] at H20
       refine ent_value (ov_indexAddr (sz := 5) 2 rfl rfl F_slice_53 F_size_65 rfl (isRd_ownx 65) c95 c92) rfl rfl rfl ?_
       refine ent_value (ov_load_agg (vs := [(int .i64 (((l0.getD i8.toNat z_Api_Entry).Part).Tier)), (int .i64 (((l0.getD i8.toNat z_Api_Entry).Part).Index)), (int .i64 ((l0.getD i8.toNat z_Api_Entry).Seg)), (int .i64 ((l0.getD i8.toNat z_Api_Entry).Mark)), (int .i64 ((l0.getD i8.toNat z_Api_Entry).Rows)), (bool ((l0.getD i8.toNat z_Api_Entry).Cold))]) rfl F_agg_65 F_size_65 (reads_rd (i := 2) rfl (isRd_ownx 65) (by simp) (fl_read0 enc_Api_Entry_len (ix_lt c95 c92) rfl))) rfl rfl rfl ?_
       refine ent_op (ot_alloc F_zero_65) rfl rfl rfl ?_
       rintro _ _ ⟨b50, rfl, rfl⟩
       refine ent_op0 (ot_storeG (cs := [(int .i64 0), (int .i64 0), (int .i64 0), (int .i64 0), (int .i64 0), (bool false)]) (cs' := [(int .i64 (((l0.getD i8.toNat z_Api_Entry).Part).Tier)), (int .i64 (((l0.getD i8.toNat z_Api_Entry).Part).Index)), (int .i64 ((l0.getD i8.toNat z_Api_Entry).Seg)), (int .i64 ((l0.getD i8.toNat z_Api_Entry).Mark)), (int .i64 ((l0.getD i8.toNat z_Api_Entry).Rows)), (bool ((l0.getD i8.toNat z_Api_Entry).Cold))]) (us := [(int .i64 (((l0.getD i8.toNat z_Api_Entry).Part).Tier)), (int .i64 (((l0.getD i8.toNat z_Api_Entry).Part).Index)), (int .i64 ((l0.getD i8.toNat z_Api_Entry).Seg)), (int .i64 ((l0.getD i8.toNat z_Api_Entry).Mark)), (int .i64 ((l0.getD i8.toNat z_Api_Entry).Rows)), (bool ((l0.getD i8.toNat z_Api_Entry).Cold))]) (L' := [(box b50 65 [(int .i64 (((l0.getD i8.toNat z_Api_Entry).Part).Tier)), (int .i64 (((l0.getD i8.toNat z_Api_Entry).Part).Index)), (int .i64 ((l0.getD i8.toNat z_Api_Entry).Seg)), (int .i64 ((l0.getD i8.toNat z_Api_Entry).Mark)), (int .i64 ((l0.getD i8.toNat z_Api_Entry).Rows)), (bool ((l0.getD i8.toNat z_Api_Entry).Cold))]), (box p0 139 [(pt p1 0)]), (box p1 192 [(slice none 0 0)]), (own sv0 65 6 l0.length (fl enc_Api_Entry l0)), (box b36 139 [(pt b37 0)]), (box b37 192 [sv46]), (own sv46 196 7 l11.length (fl enc_Omap_pair__int64__api_Entry l11))]) 0 rfl rfl rfl (one_all rfl) F_size_65 rfl rfl (by simp) rfl) rfl rfl ?_
       rintro _ _ rfl
       refine ent_nil ?_
       refine ent_seq ?_
       refine ent_region ?_
       refine ent_value (ov_move rfl) rfl rfl rfl ?_
       refine ent_value (ov_load_agg (vs := [(int .i64 (((l0.getD i8.toNat z_Api_Entry).Part).Tier)), (int .i64 (((l0.getD i8.toNat z_Api_Entry).Part).Index)), (int .i64 ((l0.getD i8.toNat z_Api_Entry).Seg)), (int .i64 ((l0.getD i8.toNat z_Api_Entry).Mark)), (int .i64 ((l0.getD i8.toNat z_Api_Entry).Rows)), (bool ((l0.getD i8.toNat z_Api_Entry).Cold))]) rfl F_agg_65 F_size_65 (reads_boxW (i := 0) rfl)) rfl rfl rfl ?_
       obtain ⟨x45, h39, H20⟩ := Option.bind_eq_some_iff.1 H20
       refine ent_pick [4, 5, 6, 0, 1, 2, 3] (by decide) rfl ?_
       refine ent_op (ot_call (Lr := [(box b50 65 [(int .i64 (((l0.getD i8.toNat z_Api_Entry).Part).Tier)), (int .i64 (((l0.getD i8.toNat z_Api_Entry).Part).Index)), (int .i64 ((l0.getD i8.toNat z_Api_Entry).Seg)), (int .i64 ((l0.getD i8.toNat z_Api_Entry).Mark)), (int .i64 ((l0.getD i8.toNat z_Api_Entry).Rows)), (bool ((l0.getD i8.toNat z_Api_Entry).Cold))]), (box p0 139 [(pt p1 0)]), (box p1 192 [(slice none 0 0)]), (own sv0 65 6 l0.length (fl enc_Api_Entry l0))]) (first := []) (cap := []) (xs := [.tmp 53, .tmp 54]) rfl rfl F_call_84 rfl (catalog_Catalog_put_O.spec K b36 b37 sv46 l11 (((l0.getD i8.toNat z_Api_Entry).Part).Tier) (((l0.getD i8.toNat z_Api_Entry).Part).Index) ((l0.getD i8.toNat z_Api_Entry).Seg) ((l0.getD i8.toNat z_Api_Entry).Mark) ((l0.getD i8.toNat z_Api_Entry).Rows) ((l0.getD i8.toNat z_Api_Entry).Cold) _ h39) rfl) rfl rfl rfl ?_
       rintro _ _ ⟨_, ⟨sv50, rfl, rfl⟩, rfl⟩
       refine ent_value (ov_assign rfl) rfl rfl rfl ?_
       refine ent_nil ?_
       refine ent_seq ?_
       refine ent_region ?_
       refine ent_value (ov_move rfl) rfl rfl rfl ?_
       refine ent_value (ov_bin rfl rfl (b_neq _ _ _)) rfl rfl rfl ?_
       refine ent_nil ?_
       by_cases c96 : ¬ (x45.1 = 0)
       ·rw [if_pos c96] at H20
        refine ent_cond_true rfl (ne_t c96) ?_
        refine ent_seq ?_
        refine ent_region ?_
        refine ent_value (ov_move rfl) rfl rfl rfl ?_
        refine ent_value (ov_assign rfl) rfl rfl rfl ?_
        refine ent_nil ?_
        refine ent_retc ?_
        cases H20
        have H21 := Option.some.inj (show some _ = some _ from H)
        cases H21
        refine ent_ownnil 196 7 ?_
        refine ent_pick [5, 6, 0, 7] (by decide) rfl ?_
        exact ret_tmp rfl rfl ⟨_, _, rfl, rfl⟩
       ·rw [if_neg c96] at H20
        refine ent_cond_false rfl (ne_f c96) ?_
        refine ent_skip ?_
        refine ent_region ?_
        refine ent_value (ov_bin rfl rfl (b_add _ _ _) ) rfl rfl rfl ?_
        refine ent_value (ov_move rfl) rfl rfl rfl ?_
        refine ent_nil ?_
        exact ent_fin [4, 5, 6, 0, 1, 2] (by decide) rfl (sub_cons (t := 0) rfl (sub_cons (t := 5) rfl (sub_cons (t := 47) rfl (sub_cons (t := 48) rfl (sub_cons (t := 49) rfl (sub_nil _)))))) fun a w h => ⟨k, Nat.lt_succ_self k, _, _, _, H20, h⟩
      ·rw [if_neg c95] at H20
       cases H20
     ·rw [if_neg c92] at H20
      refine ent_cond_false rfl (decide_eq_false c92) ?_
      refine ent_exit ?_
      cases H20
      exact ent_fin [0, 1, 2, 3, 4, 5] (by decide) rfl (sub_cons (t := 0) rfl (sub_cons (t := 5) rfl (sub_nil _))) fun a w h => ⟨_, rfl, _, h⟩
  ·refine ent_exi fun v3 => ent_and fun e_ => ?_
   subst e_
   rw [cas_inl] at H
   refine ent_exi fun sv43 => ?_
   refine ent_seq ?_
   refine ent_region ?_
   refine ent_value (ov_move rfl) rfl rfl rfl ?_
   refine ent_value (ov_move rfl) rfl rfl rfl ?_
   refine ent_value (ov_nilCheck rfl) rfl rfl rfl ?_
   refine ent_value (ov_fieldAddr (sz := 0) (o := 0) rfl F_field_139_0 F_size_136) rfl rfl rfl ?_
   refine ent_value (ov_load (v := (pt b37 0)) rfl F_agg_136 (reads_box1 (i := 3) rfl rfl)) rfl rfl rfl ?_
   refine ent_value (ov_nilCheck rfl) rfl rfl rfl ?_
   refine ent_value (ov_fieldAddr (sz := 0) (o := 0) rfl F_field_139_0 F_size_136) rfl rfl rfl ?_
   refine ent_op0 (ot_storeG (cs := [(pt p1 0)]) (cs' := [(pt b37 0)]) (us := [(pt b37 0)]) (L' := [(box p0 139 [(pt b37 0)]), (box p1 192 [(slice none 0 0)]), (own sv0 65 6 l0.length (fl enc_Api_Entry l0)), (box b36 139 [(pt b37 0)]), (box b37 192 [sv43]), (own sv43 196 7 v3.length (fl enc_Omap_pair__int64__api_Entry v3))]) 0 rfl rfl rfl (one_all rfl) F_size_136 rfl rfl (by simp) rfl) rfl rfl ?_
   rintro _ _ rfl
   refine ent_nil ?_
   refine ent_seq ?_
   refine ent_region ?_
   refine ent_value (ov_assign rfl) rfl rfl rfl ?_
   refine ent_nil ?_
   refine ent_retc ?_
   cases H
   refine ent_pick [0, 4, 5, 2] (by decide) rfl ?_
   exact ret_tmp rfl rfl ⟨_, _, rfl, rfl⟩

set_option maxRecDepth 100000 in
theorem build_Sources_O.spec (K : Nat) (p0 : Nat) (p1 : Nat) (sv0 : Value) (l0 : List Omap_pair__int64__api_Entry) (a1_0 : Int) (a1_1 : Int) (r : List Api_Entry) (H : build_Sources_O K l0 a1_0 a1_1 = some r) : FnSpec Try.prog 51 [(pt p0 0), (agg #[(int .i64 a1_0), (int .i64 a1_1)])] [(box p0 139 [(pt p1 0)]), (box p1 192 [sv0]), (own sv0 196 7 l0.length (fl enc_Omap_pair__int64__api_Entry l0))] (fun v M => ∃ sv2 : Value, v = sv2 ∧ M = [(box p0 139 [(pt p1 0)]), (box p1 192 [sv0]), (own sv0 196 7 l0.length (fl enc_Omap_pair__int64__api_Entry l0)), (own sv2 65 6 r.length (fl enc_Api_Entry r))]) := by
 unfold build_Sources_O at H
 refine spec_of Try.func51 rfl 11 rfl (Nat.le_of_ble_eq_true rfl) fun F w0 => ?_
 show Ent (St 11 w0 F [(0, (pt p0 0)), (1, (agg #[(int .i64 a1_0), (int .i64 a1_1)]))] [(box p0 139 [(pt p1 0)]), (box p1 192 [sv0]), (own sv0 196 7 l0.length (fl enc_Omap_pair__int64__api_Entry l0))]) _
 refine ent_seq ?_
 refine ent_region ?_
 refine ent_op (ot_box (cs := [(int .i64 a1_0), (int .i64 a1_1)]) rfl rfl) rfl rfl rfl ?_
 rintro _ _ ⟨b2, rfl, rfl⟩
 refine ent_value (ov_assign rfl) rfl rfl rfl ?_
 refine ent_nil ?_
 refine ent_seq ?_
 refine ent_region ?_
 refine ent_value (ov_move rfl) rfl rfl rfl ?_
 refine ent_value (ov_load_agg (vs := [(int .i64 a1_0), (int .i64 a1_1)]) rfl F_agg_63 F_size_63 (reads_boxW (i := 0) rfl)) rfl rfl rfl ?_
 obtain ⟨x3, h3, H⟩ := thn_elim H
 refine ent_op (ot_call0 (first := []) (cap := []) (xs := [.tmp 6]) rfl rfl F_call_35 rfl (part_Span.spec a1_0 a1_1 _ h3)) rfl rfl rfl ?_
 rintro _ _ ⟨rfl, rfl⟩
 refine ent_value (ov_extract rfl rfl) rfl rfl rfl ?_
 refine ent_value (ov_extract rfl rfl) rfl rfl rfl ?_
 obtain ⟨x4, h4, H⟩ := Option.bind_eq_some_iff.1 H
 refine ent_pick [1, 2, 3, 0] (by decide) rfl ?_
 refine ent_op (ot_call (Lr := [(box b2 63 [(int .i64 a1_0), (int .i64 a1_1)])]) (first := []) (cap := []) (xs := [.tmp 5, .tmp 8, .tmp 9]) rfl rfl F_call_36 rfl (catalog_Catalog_Over_O.spec K p0 p1 sv0 l0 x3.1 x3.2 _ h4) rfl) rfl rfl rfl ?_
 rintro sv3 _ ⟨_, ⟨_, rfl, rfl⟩, rfl⟩
 refine ent_value (ov_assign rfl) rfl rfl rfl ?_
 refine ent_nil ?_
 refine ent_retc ?_
 cases H
 refine ent_pick [0, 1, 2, 3] (by decide) rfl ?_
 exact ret_tmp rfl rfl ⟨_, rfl, rfl⟩

set_option maxRecDepth 100000 in
theorem ossuarylaw28_alive.spec (K : Nat) (r : Bool) (H : ossuarylaw28_alive K = some r) : FnSpec Try.prog 32 [] [] (fun v M => v = (bool r) ∧ M = []) := by
 unfold ossuarylaw28_alive at H
 refine spec_of Try.func32 rfl 21 rfl (Nat.le_of_ble_eq_true rfl) fun F w0 => ?_
 show Ent (St 21 w0 F [] []) _
 refine ent_seq ?_
 refine ent_region ?_
 refine ent_value (ov_assign rfl) rfl rfl rfl ?_
 refine ent_nil ?_
 refine ent_seq ?_
 refine ent_region ?_
 obtain ⟨u2, h4, H⟩ := thn_elim H
 refine ent_op (ot_call (Lr := []) (first := []) (cap := []) (xs := []) rfl rfl F_call_23 rfl (catalog_New.spec _ h4) rfl) rfl rfl rfl ?_
 rintro _ _ ⟨_, ⟨b4, b5, rfl, rfl⟩, rfl⟩
 refine ent_value (ov_assign rfl) rfl rfl rfl ?_
 refine ent_nil ?_
 refine ent_seq ?_
 refine ent_region ?_
 refine ent_value (ov_move rfl) rfl rfl rfl ?_
 refine ent_value (ov_build (is := [0, 1]) (xs := [.const (int .i64 1), .const (int .i64 24)]) (vs := [(int .i64 1), (int .i64 24)]) rfl rfl (build_struct (cs := [(int .i64 1), (int .i64 24)]) F_zero_63 F_places_63 rfl)) rfl rfl rfl ?_
 refine ent_value (ov_build (is := [0, 1, 3]) (xs := [.tmp 5, .const (int .i64 1), .const (int .i64 1)]) (vs := [(agg #[(int .i64 1), (int .i64 24)]), (int .i64 1), (int .i64 1)]) rfl rfl (build_struct (cs := [(int .i64 1), (int .i64 24), (int .i64 1), (int .i64 0), (int .i64 1), (bool false)]) F_zero_65 F_places_65 rfl)) rfl rfl rfl ?_
 refine ent_value (ov_build (is := [0, 1]) (xs := [.const (int .i64 1), .const (int .i64 30)]) (vs := [(int .i64 1), (int .i64 30)]) rfl rfl (build_struct (cs := [(int .i64 1), (int .i64 30)]) F_zero_63 F_places_63 rfl)) rfl rfl rfl ?_
 refine ent_value (ov_build (is := [0, 1, 3]) (xs := [.tmp 7, .const (int .i64 2), .const (int .i64 1)]) (vs := [(agg #[(int .i64 1), (int .i64 30)]), (int .i64 2), (int .i64 1)]) rfl rfl (build_struct (cs := [(int .i64 1), (int .i64 30), (int .i64 2), (int .i64 0), (int .i64 1), (bool false)]) F_zero_65 F_places_65 rfl)) rfl rfl rfl ?_
 refine ent_op (ot_buildSlice (sz := 5) (xs := [.tmp 6, .tmp 8]) (cs := fl enc_Api_Entry [(⟨(⟨1, 24⟩ : Api_Part), 1, 0, 1, false⟩ : Api_Entry), (⟨(⟨1, 30⟩ : Api_Part), 2, 0, 1, false⟩ : Api_Entry)]) rfl rfl F_slice_53 F_size_65 F_zero_65 rfl rfl (all_size rfl) rfl (by decide)) rfl rfl rfl ?_
 rintro sv4 _ rfl
 refine ent_value (ov_sl 0 rfl (isRd_ownx 65) fun hc0_ => (ov_build (is := [1]) (xs := [.tmp 9]) (vs := [sv4]) rfl rfl (build_struct (cs := [(slice none 0 0), sv4]) F_zero_59 F_places_59 (by simp [Instr.fill, cells_int, cells_bool, cells_str, cells_func, cells_slice, cells_ptr, cells_nilFunc, cells_agg, hc0_])))) rfl rfl rfl ?_
 obtain ⟨x3, h5, H⟩ := Option.bind_eq_some_iff.1 H
 refine ent_pick [1, 2, 0] (by decide) rfl ?_
 refine ent_op (ot_call (Lr := []) (first := []) (cap := []) (xs := [.tmp 4, .tmp 10]) rfl rfl F_call_25 rfl (catalog_Catalog_Apply_NNO.spec K b4 b5 sv4 [(⟨(⟨1, 24⟩ : Api_Part), 1, 0, 1, false⟩ : Api_Entry), (⟨(⟨1, 30⟩ : Api_Part), 2, 0, 1, false⟩ : Api_Entry)] _ h5) rfl) rfl rfl rfl ?_
 rintro _ _ ⟨_, ⟨b6, sv5, rfl, rfl⟩, rfl⟩
 refine ent_value (ov_assign rfl) rfl rfl rfl ?_
 refine ent_nil ?_
 refine ent_seq ?_
 refine ent_region ?_
 refine ent_value (ov_move rfl) rfl rfl rfl ?_
 refine ent_value (ov_bin rfl rfl (b_eql _ _ _)) rfl rfl rfl ?_
 refine ent_value (ov_move rfl) rfl rfl rfl ?_
 by_cases c2 : x3.1 = 0
 ·rw [if_pos c2] at H
  refine ent_value_on (ov_move rfl) rfl rfl rfl (eq_t c2) rfl rfl ?_
  refine ent_value_on (ov_build (is := [0, 1]) (xs := [.const (int .i64 2), .const (int .i64 1)]) (vs := [(int .i64 2), (int .i64 1)]) rfl rfl (build_struct (cs := [(int .i64 2), (int .i64 1)]) F_zero_63 F_places_63 rfl)) rfl rfl rfl (eq_t c2) rfl rfl ?_
  obtain ⟨x4, h6, H⟩ := Option.bind_eq_some_iff.1 H
  refine ent_op_on (ot_call (Lr := [(own sv4 65 6 [(⟨(⟨1, 24⟩ : Api_Part), 1, 0, 1, false⟩ : Api_Entry), (⟨(⟨1, 30⟩ : Api_Part), 2, 0, 1, false⟩ : Api_Entry)].length (fl enc_Api_Entry [(⟨(⟨1, 24⟩ : Api_Part), 1, 0, 1, false⟩ : Api_Entry), (⟨(⟨1, 30⟩ : Api_Part), 2, 0, 1, false⟩ : Api_Entry)]))]) (first := []) (cap := []) (xs := [.tmp 15, .tmp 16]) rfl rfl F_call_51 rfl (build_Sources_O.spec K b4 b6 sv5 x3.2 2 1 _ h6) rfl) rfl rfl rfl (eq_t c2) rfl rfl ?_
  rintro sv6 _ ⟨_, ⟨_, rfl, rfl⟩, rfl⟩
  refine ent_value_on (ov_len 3 rfl F_slice_53 rfl (isRd_ownx 65)) rfl rfl rfl (eq_t c2) rfl rfl ?_
  refine ent_value_on (ov_bin rfl rfl (b_eql _ _ _)) rfl rfl rfl (eq_t c2) rfl rfl ?_
  refine ent_value (ov_pick rfl rfl rfl (pick_t (eq_t c2))) rfl rfl rfl ?_
  refine ent_value (ov_assign rfl) rfl rfl rfl ?_
  refine ent_nil ?_
  refine ent_retc ?_
  cases H
  refine ent_pick [] (by decide) rfl ?_
  exact ret_tmp rfl rfl ⟨rfl, rfl⟩
 ·rw [if_neg c2] at H
  refine ent_off rfl rfl rfl (eq_f c2) rfl rfl ?_
  refine ent_off rfl rfl rfl (eq_f c2) rfl rfl ?_
  refine ent_off rfl rfl rfl (eq_f c2) rfl rfl ?_
  refine ent_off rfl rfl rfl (eq_f c2) rfl rfl ?_
  refine ent_off rfl rfl rfl (eq_f c2) rfl rfl ?_
  refine ent_value (ov_pick rfl rfl rfl (pick_f (eq_f c2))) rfl rfl rfl ?_
  refine ent_value (ov_assign rfl) rfl rfl rfl ?_
  refine ent_nil ?_
  refine ent_retc ?_
  cases H
  refine ent_pick [] (by decide) rfl ?_
  exact ret_tmp rfl rfl ⟨rfl, rfl⟩

set_option maxRecDepth 100000 in
theorem ossuaryref04_Leap.spec (a0 : Int) (r : Bool) (H : ossuaryref04_Leap a0 = r) : FnSpec Try.prog 211 [(int .i64 a0)] [] (fun v M => v = (bool r) ∧ M = []) := by
 unfold ossuaryref04_Leap at H
 refine spec_of Try.func211 rfl 16 rfl (Nat.le_of_ble_eq_true rfl) fun F w0 => ?_
 show Ent (St 16 w0 F [(0, (int .i64 a0))] []) _
 refine ent_seq ?_
 refine ent_region ?_
 refine ent_value (ov_assign rfl) rfl rfl rfl ?_
 refine ent_nil ?_
 refine ent_seq ?_
 refine ent_region ?_
 refine ent_value (ov_move rfl) rfl rfl rfl ?_
 refine ent_value (ov_bin rfl rfl fun w => b_rem _ _ _ w (by decide)) rfl rfl rfl ?_
 refine ent_value (ov_bin rfl rfl (b_eql _ _ _)) rfl rfl rfl ?_
 refine ent_value (ov_move rfl) rfl rfl rfl ?_
 by_cases c3 : (Int.tmod a0 4) = 0
 ·rw [if_pos c3] at H
  refine ent_value_on (ov_move rfl) rfl rfl rfl (eq_t c3) rfl rfl ?_
  refine ent_value_on (ov_bin rfl rfl fun w => b_rem _ _ _ w (by decide)) rfl rfl rfl (eq_t c3) rfl rfl ?_
  refine ent_value_on (ov_bin rfl rfl (b_neq _ _ _)) rfl rfl rfl (eq_t c3) rfl rfl ?_
  refine ent_value_on (ov_move rfl) rfl rfl rfl (eq_t c3) rfl rfl ?_
  by_cases c4 : ¬ ((Int.tmod a0 100) = 0)
  ·rw [if_pos c4] at H
   refine ent_off rfl rfl rfl (ne_t c4) rfl rfl ?_
   refine ent_off rfl rfl rfl (ne_t c4) rfl rfl ?_
   refine ent_off rfl rfl rfl (ne_t c4) rfl rfl ?_
   refine ent_value_on (ov_pick rfl rfl rfl (pick_t (ne_t c4))) rfl rfl rfl (eq_t c3) rfl rfl ?_
   refine ent_value (ov_pick rfl rfl rfl (pick_t (eq_t c3))) rfl rfl rfl ?_
   refine ent_value (ov_assign rfl) rfl rfl rfl ?_
   refine ent_nil ?_
   refine ent_retc ?_
   cases H
   refine ent_pick [] (by decide) rfl ?_
   exact ret_tmp rfl rfl ⟨rfl, rfl⟩
  ·rw [if_neg c4] at H
   refine ent_value_on (ov_move rfl) rfl rfl rfl (ne_f c4) rfl rfl ?_
   refine ent_value_on (ov_bin rfl rfl fun w => b_rem _ _ _ w (by decide)) rfl rfl rfl (ne_f c4) rfl rfl ?_
   refine ent_value_on (ov_bin rfl rfl (b_eql _ _ _)) rfl rfl rfl (ne_f c4) rfl rfl ?_
   refine ent_value_on (ov_pick rfl rfl rfl (pick_f (ne_f c4))) rfl rfl rfl (eq_t c3) rfl rfl ?_
   refine ent_value (ov_pick rfl rfl rfl (pick_t (eq_t c3))) rfl rfl rfl ?_
   refine ent_value (ov_assign rfl) rfl rfl rfl ?_
   refine ent_nil ?_
   refine ent_retc ?_
   cases H
   refine ent_pick [] (by decide) rfl ?_
   exact ret_tmp rfl rfl ⟨rfl, rfl⟩
 ·rw [if_neg c3] at H
  refine ent_off rfl rfl rfl (eq_f c3) rfl rfl ?_
  refine ent_off rfl rfl rfl (eq_f c3) rfl rfl ?_
  refine ent_off rfl rfl rfl (eq_f c3) rfl rfl ?_
  refine ent_off rfl rfl rfl (eq_f c3) rfl rfl ?_
  refine ent_offu rfl rfl rfl rfl rfl ?_
  refine ent_offu rfl rfl rfl rfl rfl ?_
  refine ent_offu rfl rfl rfl rfl rfl ?_
  refine ent_off rfl rfl rfl (eq_f c3) rfl rfl ?_
  refine ent_value (ov_pick rfl rfl rfl (pick_f (eq_f c3))) rfl rfl rfl ?_
  refine ent_value (ov_assign rfl) rfl rfl rfl ?_
  refine ent_nil ?_
  refine ent_retc ?_
  cases H
  refine ent_pick [] (by decide) rfl ?_
  exact ret_tmp rfl rfl ⟨rfl, rfl⟩

set_option maxRecDepth 100000 in
theorem ossuaryref04_days.spec (a0 : Int) (r : Int) (H : ossuaryref04_days a0 = r) : FnSpec Try.prog 210 [(int .i64 a0)] [] (fun v M => v = (int .i64 r) ∧ M = []) := by
 unfold ossuaryref04_days at H
 refine spec_of Try.func210 rfl 5 rfl (Nat.le_of_ble_eq_true rfl) fun F w0 => ?_
 show Ent (St 5 w0 F [(0, (int .i64 a0))] []) _
 refine ent_seq ?_
 refine ent_region ?_
 refine ent_value (ov_assign rfl) rfl rfl rfl ?_
 refine ent_nil ?_
 refine ent_seq ?_
 refine ent_seq ?_
 refine ent_region ?_
 refine ent_value (ov_move rfl) rfl rfl rfl ?_
 obtain ⟨x4, h4, H⟩ := thn_elim H
 refine ent_op (ot_call0 (first := []) (cap := []) (xs := [.tmp 3]) rfl rfl F_call_211 rfl (ossuaryref04_Leap.spec a0 _ h4)) rfl rfl rfl ?_
 rintro _ _ ⟨rfl, rfl⟩
 refine ent_nil ?_
 by_cases c4 : x4 = true
 ·rw [if_pos c4] at H
  refine ent_cond_true rfl c4 ?_
  refine ent_seq ?_
  refine ent_region ?_
  refine ent_value (ov_assign rfl) rfl rfl rfl ?_
  refine ent_nil ?_
  refine ent_retc ?_
  cases H
  refine ent_pick [] (by decide) rfl ?_
  exact ret_tmp rfl rfl ⟨rfl, rfl⟩
 ·rw [if_neg c4] at H
  refine ent_cond_false rfl (Bool.eq_false_iff.2 c4) ?_
  refine ent_skip ?_
  refine ent_seq ?_
  refine ent_region ?_
  refine ent_value (ov_assign rfl) rfl rfl rfl ?_
  refine ent_nil ?_
  refine ent_retc ?_
  cases H
  refine ent_pick [] (by decide) rfl ?_
  exact ret_tmp rfl rfl ⟨rfl, rfl⟩

set_option maxRecDepth 100000 in
theorem ossuaryref04_Length.spec (a0 : Int) (a1 : Int) (r : Int) (H : ossuaryref04_Length a0 a1 = r) : FnSpec Try.prog 172 [(int .i64 a0), (int .i64 a1)] [] (fun v M => v = (int .i64 r) ∧ M = []) := by
 unfold ossuaryref04_Length at H
 refine spec_of Try.func172 rfl 23 rfl (Nat.le_of_ble_eq_true rfl) fun F w0 => ?_
 show Ent (St 23 w0 F [(0, (int .i64 a0)), (1, (int .i64 a1))] []) _
 refine ent_seq ?_
 refine ent_region ?_
 refine ent_value (ov_assign rfl) rfl rfl rfl ?_
 refine ent_nil ?_
 refine ent_seq ?_
 refine ent_seq ?_
 refine ent_region ?_
 refine ent_value (ov_move rfl) rfl rfl rfl ?_
 refine ent_nil ?_
 refine ent_block ?_
 refine ent_seq ?_
 refine ent_region ?_
 refine ent_value (ov_bin rfl rfl (b_eql _ _ _)) rfl rfl rfl ?_
 refine ent_value (ov_assign rfl) rfl rfl rfl ?_
 refine ent_nil ?_
 by_cases c70 : a1 = 2
 ·rw [if_pos c70] at H
  refine ent_cond_true rfl (eq_t c70) ?_
  refine ent_seq ?_
  refine ent_seq ?_
  refine ent_region ?_
  refine ent_value (ov_move rfl) rfl rfl rfl ?_
  obtain ⟨x14, h8, H⟩ := thn_elim H
  refine ent_op (ot_call0 (first := []) (cap := []) (xs := [.tmp 8]) rfl rfl F_call_211 rfl (ossuaryref04_Leap.spec a0 _ h8)) rfl rfl rfl ?_
  rintro _ _ ⟨rfl, rfl⟩
  refine ent_nil ?_
  by_cases c72 : x14 = true
  ·rw [if_pos c72] at H
   refine ent_cond_true rfl c72 ?_
   refine ent_seq ?_
   refine ent_region ?_
   refine ent_value (ov_assign rfl) rfl rfl rfl ?_
   refine ent_nil ?_
   refine ent_retc ?_
   cases H
   refine ent_pick [] (by decide) rfl ?_
   exact ret_tmp rfl rfl ⟨rfl, rfl⟩
  ·rw [if_neg c72] at H
   refine ent_cond_false rfl (Bool.eq_false_iff.2 c72) ?_
   refine ent_skip ?_
   refine ent_seq ?_
   refine ent_region ?_
   refine ent_value (ov_assign rfl) rfl rfl rfl ?_
   refine ent_nil ?_
   refine ent_retc ?_
   cases H
   refine ent_pick [] (by decide) rfl ?_
   exact ret_tmp rfl rfl ⟨rfl, rfl⟩
 ·rw [if_neg c70] at H
  refine ent_cond_false rfl (eq_f c70) ?_
  obtain ⟨x15, H7, H⟩ := thn_elim H
  refine ent_seq_cut (fun a w => St 23 w0 F [(5, (int .i64 a1)), (10, (bool x15))] [] a w) ?_ ?_
  ·refine ent_seq ?_
   refine ent_region ?_
   refine ent_value (ov_bin rfl rfl (b_eql _ _ _)) rfl rfl rfl ?_
   refine ent_value (ov_assign rfl) rfl rfl rfl ?_
   refine ent_nil ?_
   by_cases c76 : a1 = 4
   ·rw [if_pos c76] at H7
    refine ent_cond_true rfl (eq_t c76) ?_
    refine ent_skip ?_
    cases H7
    exact ent_fin [] (by decide) rfl (sub_cons (t := 5) rfl (sub_cons (t := 10) rfl (sub_nil _))) fun a w h => h
   ·rw [if_neg c76] at H7
    refine ent_cond_false rfl (eq_f c76) ?_
    refine ent_seq ?_
    refine ent_region ?_
    refine ent_value (ov_bin rfl rfl (b_eql _ _ _)) rfl rfl rfl ?_
    refine ent_value (ov_assign rfl) rfl rfl rfl ?_
    refine ent_nil ?_
    by_cases c77 : a1 = 6
    ·rw [if_pos c77] at H7
     refine ent_cond_true rfl (eq_t c77) ?_
     refine ent_skip ?_
     cases H7
     exact ent_fin [] (by decide) rfl (sub_cons (t := 5) rfl (sub_cons (t := 10) rfl (sub_nil _))) fun a w h => h
    ·rw [if_neg c77] at H7
     refine ent_cond_false rfl (eq_f c77) ?_
     refine ent_seq ?_
     refine ent_region ?_
     refine ent_value (ov_bin rfl rfl (b_eql _ _ _)) rfl rfl rfl ?_
     refine ent_value (ov_assign rfl) rfl rfl rfl ?_
     refine ent_nil ?_
     by_cases c78 : a1 = 9
     ·rw [if_pos c78] at H7
      refine ent_cond_true rfl (eq_t c78) ?_
      refine ent_skip ?_
      cases H7
      exact ent_fin [] (by decide) rfl (sub_cons (t := 5) rfl (sub_cons (t := 10) rfl (sub_nil _))) fun a w h => h
     ·rw [if_neg c78] at H7
      refine ent_cond_false rfl (eq_f c78) ?_
      refine ent_region ?_
      refine ent_value (ov_bin rfl rfl (b_eql _ _ _)) rfl rfl rfl ?_
      refine ent_value (ov_assign rfl) rfl rfl rfl ?_
      refine ent_nil ?_
      cases H7
      exact ent_fin [] (by decide) rfl (sub_cons (t := 5) rfl (sub_cons (t := 10) rfl (sub_nil _))) fun a w h => h
  ·by_cases c79 : x15 = true
   ·rw [if_pos c79] at H
    refine ent_cond_true rfl c79 ?_
    refine ent_seq ?_
    refine ent_region ?_
    refine ent_value (ov_assign rfl) rfl rfl rfl ?_
    refine ent_nil ?_
    refine ent_retc ?_
    cases H
    refine ent_pick [] (by decide) rfl ?_
    exact ret_tmp rfl rfl ⟨rfl, rfl⟩
   ·rw [if_neg c79] at H
    refine ent_cond_false rfl (Bool.eq_false_iff.2 c79) ?_
    obtain ⟨x16, H8, H⟩ := thn_elim H
    refine ent_seq_cut (fun a w => St 23 w0 F [(15, (bool x16))] [] a w) ?_ ?_
    ·refine ent_seq ?_
     refine ent_region ?_
     refine ent_value (ov_bin rfl rfl (b_eql _ _ _)) rfl rfl rfl ?_
     refine ent_value (ov_assign rfl) rfl rfl rfl ?_
     refine ent_nil ?_
     by_cases c86 : a1 = 1
     ·rw [if_pos c86] at H8
      refine ent_cond_true rfl (eq_t c86) ?_
      refine ent_skip ?_
      cases H8
      exact ent_fin [] (by decide) rfl (sub_cons (t := 15) rfl (sub_nil _)) fun a w h => h
     ·rw [if_neg c86] at H8
      refine ent_cond_false rfl (eq_f c86) ?_
      refine ent_seq ?_
      refine ent_region ?_
      refine ent_value (ov_bin rfl rfl (b_eql _ _ _)) rfl rfl rfl ?_
      refine ent_value (ov_assign rfl) rfl rfl rfl ?_
      refine ent_nil ?_
      by_cases c87 : a1 = 3
      ·rw [if_pos c87] at H8
       refine ent_cond_true rfl (eq_t c87) ?_
       refine ent_skip ?_
       cases H8
       exact ent_fin [] (by decide) rfl (sub_cons (t := 15) rfl (sub_nil _)) fun a w h => h
      ·rw [if_neg c87] at H8
       refine ent_cond_false rfl (eq_f c87) ?_
       refine ent_seq ?_
       refine ent_region ?_
       refine ent_value (ov_bin rfl rfl (b_eql _ _ _)) rfl rfl rfl ?_
       refine ent_value (ov_assign rfl) rfl rfl rfl ?_
       refine ent_nil ?_
       by_cases c88 : a1 = 5
       ·rw [if_pos c88] at H8
        refine ent_cond_true rfl (eq_t c88) ?_
        refine ent_skip ?_
        cases H8
        exact ent_fin [] (by decide) rfl (sub_cons (t := 15) rfl (sub_nil _)) fun a w h => h
       ·rw [if_neg c88] at H8
        refine ent_cond_false rfl (eq_f c88) ?_
        refine ent_seq ?_
        refine ent_region ?_
        refine ent_value (ov_bin rfl rfl (b_eql _ _ _)) rfl rfl rfl ?_
        refine ent_value (ov_assign rfl) rfl rfl rfl ?_
        refine ent_nil ?_
        by_cases c89 : a1 = 7
        ·rw [if_pos c89] at H8
         refine ent_cond_true rfl (eq_t c89) ?_
         refine ent_skip ?_
         cases H8
         exact ent_fin [] (by decide) rfl (sub_cons (t := 15) rfl (sub_nil _)) fun a w h => h
        ·rw [if_neg c89] at H8
         refine ent_cond_false rfl (eq_f c89) ?_
         refine ent_seq ?_
         refine ent_region ?_
         refine ent_value (ov_bin rfl rfl (b_eql _ _ _)) rfl rfl rfl ?_
         refine ent_value (ov_assign rfl) rfl rfl rfl ?_
         refine ent_nil ?_
         by_cases c90 : a1 = 8
         ·rw [if_pos c90] at H8
          refine ent_cond_true rfl (eq_t c90) ?_
          refine ent_skip ?_
          cases H8
          exact ent_fin [] (by decide) rfl (sub_cons (t := 15) rfl (sub_nil _)) fun a w h => h
         ·rw [if_neg c90] at H8
          refine ent_cond_false rfl (eq_f c90) ?_
          refine ent_seq ?_
          refine ent_region ?_
          refine ent_value (ov_bin rfl rfl (b_eql _ _ _)) rfl rfl rfl ?_
          refine ent_value (ov_assign rfl) rfl rfl rfl ?_
          refine ent_nil ?_
          by_cases c91 : a1 = 10
          ·rw [if_pos c91] at H8
           refine ent_cond_true rfl (eq_t c91) ?_
           refine ent_skip ?_
           cases H8
           exact ent_fin [] (by decide) rfl (sub_cons (t := 15) rfl (sub_nil _)) fun a w h => h
          ·rw [if_neg c91] at H8
           refine ent_cond_false rfl (eq_f c91) ?_
           refine ent_region ?_
           refine ent_value (ov_bin rfl rfl (b_eql _ _ _)) rfl rfl rfl ?_
           refine ent_value (ov_assign rfl) rfl rfl rfl ?_
           refine ent_nil ?_
           cases H8
           exact ent_fin [] (by decide) rfl (sub_cons (t := 15) rfl (sub_nil _)) fun a w h => h
    ·by_cases c92 : x16 = true
     ·rw [if_pos c92] at H
      refine ent_cond_true rfl c92 ?_
      refine ent_seq ?_
      refine ent_region ?_
      refine ent_value (ov_assign rfl) rfl rfl rfl ?_
      refine ent_nil ?_
      refine ent_retc ?_
      cases H
      refine ent_pick [] (by decide) rfl ?_
      exact ret_tmp rfl rfl ⟨rfl, rfl⟩
     ·rw [if_neg c92] at H
      refine ent_cond_false rfl (Bool.eq_false_iff.2 c92) ?_
      refine ent_skip ?_
      refine ent_seq ?_
      refine ent_region ?_
      refine ent_value (ov_assign rfl) rfl rfl rfl ?_
      refine ent_nil ?_
      refine ent_retc ?_
      cases H
      refine ent_pick [] (by decide) rfl ?_
      exact ret_tmp rfl rfl ⟨rfl, rfl⟩

set_option maxRecDepth 100000 in
theorem ossuaryref04_Date.spec (K : Nat) (a0 : Int) (r : (Int × Int × Int)) (H : ossuaryref04_Date K a0 = some r) : FnSpec Try.prog 228 [(int .i64 a0)] [] (fun v M => v = (Value.tuple #[(int .i64 r.1), (int .i64 r.2.1), (int .i64 r.2.2)]) ∧ M = []) := by
 unfold ossuaryref04_Date at H
 refine spec_of Try.func228 rfl 41 rfl (Nat.le_of_ble_eq_true rfl) fun F w0 => ?_
 show Ent (St 41 w0 F [(0, (int .i64 a0))] []) _
 refine ent_seq ?_
 refine ent_region ?_
 refine ent_value (ov_assign rfl) rfl rfl rfl ?_
 refine ent_value (ov_assign rfl) rfl rfl rfl ?_
 refine ent_value (ov_assign rfl) rfl rfl rfl ?_
 refine ent_nil ?_
 refine ent_seq ?_
 refine ent_region ?_
 refine ent_value (ov_assign rfl) rfl rfl rfl ?_
 refine ent_nil ?_
 obtain ⟨x48, H8, H⟩ := Option.bind_eq_some_iff.1 H
 refine ent_seq_cut (fun a w => St 41 w0 F [(0, (int .i64 x48.1)), (5, (int .i64 x48.2))] [] a w) ?_ ?_
 ·refine ent_block ?_
  refine ent_loop (fun k a w => ∃ i17, ∃ i18, ossuaryref04_Date_l0 K k i17 i18 = some x48 ∧ St 41 w0 F [(0, (int .i64 i17)), (5, (int .i64 i18))] [] a w) K ?_ ?_
  ·exact ent_fin [] (by decide) rfl (sub_cons (t := 0) rfl (sub_cons (t := 5) rfl (sub_nil _))) fun a w h => ⟨_, _, H8, h⟩
  ·refine fun k => ent_exi fun i17 => ent_exi fun i18 => ent_and fun H9 => ?_
   cases k with
   | zero => exact absurd H9 (by simp [ossuaryref04_Date_l0])
   | succ k =>
    rw [ossuaryref04_Date_l0] at H9
    refine ent_seq ?_
    refine ent_seq ?_
    refine ent_region ?_
    refine ent_value (ov_move rfl) rfl rfl rfl ?_
    refine ent_value (ov_move rfl) rfl rfl rfl ?_
    obtain ⟨x56, h53, H9⟩ := thn_elim H9
    refine ent_op (ot_call0 (first := []) (cap := []) (xs := [.tmp 8]) rfl rfl F_call_210 rfl (ossuaryref04_days.spec i18 _ h53)) rfl rfl rfl ?_
    rintro _ _ ⟨rfl, rfl⟩
    refine ent_value (ov_bin rfl rfl (b_geq _ _ _)) rfl rfl rfl ?_
    refine ent_value (ov_move rfl) rfl rfl rfl ?_
    by_cases c59 : x56 ≤ i17
    ·rw [if_pos c59] at H9
     refine ent_value_on (ov_move rfl) rfl rfl rfl (decide_eq_true c59) rfl rfl ?_
     refine ent_value_on (ov_bin rfl rfl (b_lss _ _ _)) rfl rfl rfl (decide_eq_true c59) rfl rfl ?_
     refine ent_value (ov_pick rfl rfl rfl (pick_t (decide_eq_true c59))) rfl rfl rfl ?_
     refine ent_nil ?_
     by_cases c60 : i18 < 5000
     ·rw [if_pos c60] at H9
      refine ent_cond_true rfl (decide_eq_true c60) ?_
      refine ent_skip ?_
      refine ent_block ?_
      refine ent_seq ?_
      refine ent_region ?_
      refine ent_value (ov_move rfl) rfl rfl rfl ?_
      refine ent_value (ov_move rfl) rfl rfl rfl ?_
      obtain ⟨x57, h54, H9⟩ := thn_elim H9
      refine ent_op (ot_call0 (first := []) (cap := []) (xs := [.tmp 16]) rfl rfl F_call_210 rfl (ossuaryref04_days.spec i18 _ h54)) rfl rfl rfl ?_
      rintro _ _ ⟨rfl, rfl⟩
      refine ent_value (ov_bin rfl rfl (b_sub _ _ _) ) rfl rfl rfl ?_
      refine ent_value (ov_assign rfl) rfl rfl rfl ?_
      refine ent_nil ?_
      refine ent_region ?_
      refine ent_value (ov_move rfl) rfl rfl rfl ?_
      refine ent_value (ov_bin rfl rfl (b_add _ _ _) ) rfl rfl rfl ?_
      refine ent_value (ov_assign rfl) rfl rfl rfl ?_
      refine ent_nil ?_
      exact ent_fin [] (by decide) rfl (sub_cons (t := 0) rfl (sub_cons (t := 5) rfl (sub_nil _))) fun a w h => ⟨k, Nat.lt_succ_self k, _, _, H9, h⟩
     ·rw [if_neg c60] at H9
      refine ent_cond_false rfl (decide_eq_false c60) ?_
      refine ent_exit ?_
      cases H9
      exact ent_fin [] (by decide) rfl (sub_cons (t := 0) rfl (sub_cons (t := 5) rfl (sub_nil _))) fun a w h => h
    ·rw [if_neg c59] at H9
     refine ent_off rfl rfl rfl (decide_eq_false c59) rfl rfl ?_
     refine ent_off rfl rfl rfl (decide_eq_false c59) rfl rfl ?_
     refine ent_value (ov_pick rfl rfl rfl (pick_f (decide_eq_false c59))) rfl rfl rfl ?_
     refine ent_nil ?_
     refine ent_cond_false rfl rfl ?_
     refine ent_exit ?_
     cases H9
     exact ent_fin [] (by decide) rfl (sub_cons (t := 0) rfl (sub_cons (t := 5) rfl (sub_nil _))) fun a w h => h
 ·refine ent_seq ?_
  refine ent_region ?_
  refine ent_value (ov_assign rfl) rfl rfl rfl ?_
  refine ent_nil ?_
  obtain ⟨x67, H11, H⟩ := Option.bind_eq_some_iff.1 H
  refine ent_seq_cut (fun a w => St 41 w0 F [(0, (int .i64 x67.1)), (5, (int .i64 x48.2)), (6, (int .i64 x67.2))] [] a w) ?_ ?_
  ·refine ent_block ?_
   refine ent_loop (fun k a w => ∃ i23, ∃ i24, ossuaryref04_Date_l1 K x48 k i23 i24 = some x67 ∧ St 41 w0 F [(0, (int .i64 i23)), (5, (int .i64 x48.2)), (6, (int .i64 i24))] [] a w) K ?_ ?_
   ·exact ent_fin [] (by decide) rfl (sub_cons (t := 0) rfl (sub_cons (t := 5) rfl (sub_cons (t := 6) rfl (sub_nil _)))) fun a w h => ⟨_, _, H11, h⟩
   ·refine fun k => ent_exi fun i23 => ent_exi fun i24 => ent_and fun H12 => ?_
    cases k with
    | zero => exact absurd H12 (by simp [ossuaryref04_Date_l1])
    | succ k =>
     rw [ossuaryref04_Date_l1] at H12
     refine ent_seq ?_
     refine ent_seq ?_
     refine ent_region ?_
     refine ent_value (ov_move rfl) rfl rfl rfl ?_
     refine ent_value (ov_bin rfl rfl (b_lss _ _ _)) rfl rfl rfl ?_
     refine ent_value (ov_move rfl) rfl rfl rfl ?_
     by_cases c79 : i24 < 12
     ·rw [if_pos c79] at H12
      refine ent_value_on (ov_move rfl) rfl rfl rfl (decide_eq_true c79) rfl rfl ?_
      refine ent_value_on (ov_move rfl) rfl rfl rfl (decide_eq_true c79) rfl rfl ?_
      refine ent_value_on (ov_move rfl) rfl rfl rfl (decide_eq_true c79) rfl rfl ?_
      obtain ⟨x75, h71, H12⟩ := thn_elim H12
      refine ent_op_on (ot_call0 (first := []) (cap := []) (xs := [.tmp 25, .tmp 26]) rfl rfl F_call_172 rfl (ossuaryref04_Length.spec x48.2 i24 _ h71)) rfl rfl rfl (decide_eq_true c79) rfl rfl ?_
      rintro _ _ ⟨rfl, rfl⟩
      refine ent_value_on (ov_bin rfl rfl (b_geq _ _ _)) rfl rfl rfl (decide_eq_true c79) rfl rfl ?_
      refine ent_value (ov_pick rfl rfl rfl (pick_t (decide_eq_true c79))) rfl rfl rfl ?_
      refine ent_nil ?_
      by_cases c80 : x75 ≤ i23
      ·rw [if_pos c80] at H12
       refine ent_cond_true rfl (decide_eq_true c80) ?_
       refine ent_skip ?_
       refine ent_block ?_
       refine ent_seq ?_
       refine ent_region ?_
       refine ent_value (ov_move rfl) rfl rfl rfl ?_
       refine ent_value (ov_move rfl) rfl rfl rfl ?_
       refine ent_value (ov_move rfl) rfl rfl rfl ?_
       obtain ⟨x76, h72, H12⟩ := thn_elim H12
       refine ent_op (ot_call0 (first := []) (cap := []) (xs := [.tmp 31, .tmp 32]) rfl rfl F_call_172 rfl (ossuaryref04_Length.spec x48.2 i24 _ h72)) rfl rfl rfl ?_
       rintro _ _ ⟨rfl, rfl⟩
       refine ent_value (ov_bin rfl rfl (b_sub _ _ _) ) rfl rfl rfl ?_
       refine ent_value (ov_assign rfl) rfl rfl rfl ?_
       refine ent_nil ?_
       refine ent_region ?_
       refine ent_value (ov_move rfl) rfl rfl rfl ?_
       refine ent_value (ov_bin rfl rfl (b_add _ _ _) ) rfl rfl rfl ?_
       refine ent_value (ov_assign rfl) rfl rfl rfl ?_
       refine ent_nil ?_
       exact ent_fin [] (by decide) rfl (sub_cons (t := 0) rfl (sub_cons (t := 5) rfl (sub_cons (t := 6) rfl (sub_nil _)))) fun a w h => ⟨k, Nat.lt_succ_self k, _, _, H12, h⟩
      ·rw [if_neg c80] at H12
       refine ent_cond_false rfl (decide_eq_false c80) ?_
       refine ent_exit ?_
       cases H12
       exact ent_fin [] (by decide) rfl (sub_cons (t := 0) rfl (sub_cons (t := 5) rfl (sub_cons (t := 6) rfl (sub_nil _)))) fun a w h => h
     ·rw [if_neg c79] at H12
      refine ent_off rfl rfl rfl (decide_eq_false c79) rfl rfl ?_
      refine ent_off rfl rfl rfl (decide_eq_false c79) rfl rfl ?_
      refine ent_off rfl rfl rfl (decide_eq_false c79) rfl rfl ?_
      refine ent_off rfl rfl rfl (decide_eq_false c79) rfl rfl ?_
      refine ent_off rfl rfl rfl (decide_eq_false c79) rfl rfl ?_
      refine ent_value (ov_pick rfl rfl rfl (pick_f (decide_eq_false c79))) rfl rfl rfl ?_
      refine ent_nil ?_
      refine ent_cond_false rfl rfl ?_
      refine ent_exit ?_
      cases H12
      exact ent_fin [] (by decide) rfl (sub_cons (t := 0) rfl (sub_cons (t := 5) rfl (sub_cons (t := 6) rfl (sub_nil _)))) fun a w h => h
  ·refine ent_seq ?_
   refine ent_region ?_
   refine ent_value (ov_move rfl) rfl rfl rfl ?_
   refine ent_value (ov_move rfl) rfl rfl rfl ?_
   refine ent_value (ov_move rfl) rfl rfl rfl ?_
   refine ent_value (ov_bin rfl rfl (b_add _ _ _) ) rfl rfl rfl ?_
   refine ent_value (ov_assign rfl) rfl rfl rfl ?_
   refine ent_value (ov_assign rfl) rfl rfl rfl ?_
   refine ent_value (ov_assign rfl) rfl rfl rfl ?_
   refine ent_nil ?_
   refine ent_retc ?_
   cases H
   refine ent_pick [] (by decide) rfl ?_
   exact ret_mem (vs := [(int .i64 x48.2), (int .i64 x67.2), (int .i64 (w64 (x67.1 + 1)))]) rfl ⟨rfl, ⟨rfl, ⟨rfl, trivial⟩⟩⟩ _ rfl ⟨rfl, rfl⟩

set_option maxRecDepth 100000 in
theorem ossuaryref04_MonthOf.spec (K : Nat) (a0 : Int) (r : Int) (H : ossuaryref04_MonthOf K a0 = some r) : FnSpec Try.prog 209 [(int .i64 a0)] [] (fun v M => v = (int .i64 r) ∧ M = []) := by
 unfold ossuaryref04_MonthOf at H
 refine spec_of Try.func209 rfl 18 rfl (Nat.le_of_ble_eq_true rfl) fun F w0 => ?_
 show Ent (St 18 w0 F [(0, (int .i64 a0))] []) _
 refine ent_seq ?_
 refine ent_region ?_
 refine ent_value (ov_assign rfl) rfl rfl rfl ?_
 refine ent_nil ?_
 refine ent_seq ?_
 refine ent_region ?_
 refine ent_value (ov_move rfl) rfl rfl rfl ?_
 obtain ⟨x2, h2, H⟩ := Option.bind_eq_some_iff.1 H
 refine ent_op (ot_call0 (first := []) (cap := []) (xs := [.tmp 7]) rfl rfl F_call_228 rfl (ossuaryref04_Date.spec K a0 _ h2)) rfl rfl rfl ?_
 rintro _ _ ⟨rfl, rfl⟩
 refine ent_value (ov_move rfl) rfl rfl rfl ?_
 refine ent_value (ov_extract rfl rfl) rfl rfl rfl ?_
 refine ent_value (ov_extract rfl rfl) rfl rfl rfl ?_
 refine ent_value (ov_extract rfl rfl) rfl rfl rfl ?_
 refine ent_value (ov_assign rfl) rfl rfl rfl ?_
 refine ent_value (ov_assign rfl) rfl rfl rfl ?_
 refine ent_value (ov_assign rfl) rfl rfl rfl ?_
 refine ent_nil ?_
 refine ent_seq ?_
 refine ent_region ?_
 refine ent_value (ov_move rfl) rfl rfl rfl ?_
 refine ent_value (ov_bin rfl rfl (b_sub _ _ _) ) rfl rfl rfl ?_
 refine ent_value (ov_bin rfl rfl (b_mul _ _ _) ) rfl rfl rfl ?_
 refine ent_value (ov_move rfl) rfl rfl rfl ?_
 refine ent_value (ov_bin rfl rfl (b_add _ _ _) ) rfl rfl rfl ?_
 refine ent_value (ov_bin rfl rfl (b_sub _ _ _) ) rfl rfl rfl ?_
 refine ent_value (ov_assign rfl) rfl rfl rfl ?_
 refine ent_nil ?_
 refine ent_retc ?_
 cases H
 refine ent_pick [] (by decide) rfl ?_
 exact ret_tmp rfl rfl ⟨rfl, rfl⟩

set_option maxRecDepth 100000 in
theorem ossuaryref19_most.spec (K : Nat) (a0 : Int) (r : Int) (H : ossuaryref19_most K a0 = some r) : FnSpec Try.prog 170 [(int .i64 a0)] [] (fun v M => v = (int .i64 r) ∧ M = []) := by
 unfold ossuaryref19_most at H
 refine spec_of Try.func170 rfl 11 rfl (Nat.le_of_ble_eq_true rfl) fun F w0 => ?_
 show Ent (St 11 w0 F [(0, (int .i64 a0))] []) _
 refine ent_seq ?_
 refine ent_region ?_
 refine ent_value (ov_assign rfl) rfl rfl rfl ?_
 refine ent_nil ?_
 refine ent_seq ?_
 refine ent_seq ?_
 refine ent_region ?_
 refine ent_value (ov_move rfl) rfl rfl rfl ?_
 refine ent_nil ?_
 refine ent_block ?_
 refine ent_seq ?_
 refine ent_region ?_
 refine ent_value (ov_bin rfl rfl (b_eql _ _ _)) rfl rfl rfl ?_
 refine ent_value (ov_assign rfl) rfl rfl rfl ?_
 refine ent_nil ?_
 by_cases c10 : a0 = 1
 ·rw [if_pos c10] at H
  refine ent_cond_true rfl (eq_t c10) ?_
  refine ent_seq ?_
  refine ent_region ?_
  refine ent_value (ov_assign rfl) rfl rfl rfl ?_
  refine ent_nil ?_
  refine ent_retc ?_
  cases H
  refine ent_pick [] (by decide) rfl ?_
  exact ret_tmp rfl rfl ⟨rfl, rfl⟩
 ·rw [if_neg c10] at H
  refine ent_cond_false rfl (eq_f c10) ?_
  refine ent_seq ?_
  refine ent_region ?_
  refine ent_value (ov_bin rfl rfl (b_eql _ _ _)) rfl rfl rfl ?_
  refine ent_value (ov_assign rfl) rfl rfl rfl ?_
  refine ent_nil ?_
  by_cases c11 : a0 = 2
  ·rw [if_pos c11] at H
   refine ent_cond_true rfl (eq_t c11) ?_
   refine ent_seq ?_
   refine ent_region ?_
   refine ent_value (ov_assign rfl) rfl rfl rfl ?_
   refine ent_nil ?_
   refine ent_retc ?_
   cases H
   refine ent_pick [] (by decide) rfl ?_
   exact ret_tmp rfl rfl ⟨rfl, rfl⟩
  ·rw [if_neg c11] at H
   refine ent_cond_false rfl (eq_f c11) ?_
   refine ent_seq ?_
   refine ent_region ?_
   refine ent_value (ov_bin rfl rfl (b_eql _ _ _)) rfl rfl rfl ?_
   refine ent_value (ov_assign rfl) rfl rfl rfl ?_
   refine ent_nil ?_
   by_cases c12 : a0 = 3
   ·rw [if_pos c12] at H
    refine ent_cond_true rfl (eq_t c12) ?_
    refine ent_seq ?_
    refine ent_region ?_
    obtain ⟨x4, h4, H⟩ := Option.bind_eq_some_iff.1 H
    refine ent_op (ot_call0 (first := []) (cap := []) (xs := [.const (int .i64 699050)]) rfl rfl F_call_209 rfl (ossuaryref04_MonthOf.spec K 699050 _ h4)) rfl rfl rfl ?_
    rintro _ _ ⟨rfl, rfl⟩
    refine ent_value (ov_assign rfl) rfl rfl rfl ?_
    refine ent_nil ?_
    refine ent_retc ?_
    cases H
    refine ent_pick [] (by decide) rfl ?_
    exact ret_tmp rfl rfl ⟨rfl, rfl⟩
   ·rw [if_neg c12] at H
    refine ent_cond_false rfl (eq_f c12) ?_
    refine ent_skip ?_
    refine ent_seq ?_
    refine ent_region ?_
    refine ent_value (ov_assign rfl) rfl rfl rfl ?_
    refine ent_nil ?_
    refine ent_retc ?_
    cases H
    refine ent_pick [] (by decide) rfl ?_
    exact ret_tmp rfl rfl ⟨rfl, rfl⟩

set_option maxRecDepth 100000 in
theorem ossuaryref19_Right.spec (K : Nat) (a0_0 : Int) (a0_1 : Int) (r : Bool) (H : ossuaryref19_Right K a0_0 a0_1 = some r) : FnSpec Try.prog 135 [(agg #[(int .i64 a0_0), (int .i64 a0_1)])] [] (fun v M => v = (bool r) ∧ M = []) := by
 unfold ossuaryref19_Right at H
 refine spec_of Try.func135 rfl 14 rfl (Nat.le_of_ble_eq_true rfl) fun F w0 => ?_
 show Ent (St 14 w0 F [(0, (agg #[(int .i64 a0_0), (int .i64 a0_1)]))] []) _
 refine ent_seq ?_
 refine ent_region ?_
 refine ent_op (ot_box (cs := [(int .i64 a0_0), (int .i64 a0_1)]) rfl rfl) rfl rfl rfl ?_
 rintro _ _ ⟨b2, rfl, rfl⟩
 refine ent_value (ov_assign rfl) rfl rfl rfl ?_
 refine ent_nil ?_
 refine ent_seq ?_
 by_cases c2 : 0 ≤ a0_1
 ·rw [if_pos c2] at H
  obtain ⟨x2, h2, H⟩ := Option.bind_eq_some_iff.1 H
  refine ent_drawm 12 rfl (fun done a w => StD 14 w0 F [(0, (agg #[(int .i64 a0_0), (int .i64 a0_1)])), (1, (pt b2 0))] [(0, 3, (pt b2 1)), (1, 4, (int .i64 a0_1)), (2, 5, (bool (decide (0 ≤ a0_1)))), (3, 6, (bool (decide (0 ≤ a0_1)))), (4, 7, (pt b2 1)), (5, 8, (int .i64 a0_1)), (6, 9, (pt b2 0)), (7, 10, (int .i64 a0_0)), (8, 11, (int .i64 x2)), (9, 12, (bool (decide (a0_1 ≤ x2)))), (10, 13, (bool (decide (a0_1 ≤ x2)))), (11, 2, (bool (decide (a0_1 ≤ x2))))] done [(box b2 63 [(int .i64 a0_0), (int .i64 a0_1)])] a w) (by kernel_rfl) (by kernel_rfl) (draw_startL (sub_cons (t := 0) rfl (sub_cons (t := 1) rfl (sub_nil _))) rfl) ?_ ?_
  ·refine ⟨?_, ?_, ?_, ?_, ?_, ?_, ?_, ?_, ?_, ?_, ?_, ?_, trivial⟩
   ·intro done hi hc hcu
    exact draw_value (i := 0) (t := 3) (v := (pt b2 1)) rfl rfl (wanted_none rfl) (fun a => hasA_base) (ov_fieldAddr (sz := 0) (o := 0) rfl F_field_63_1 F_size_2) rfl rfl (onlyT_spec (k0 := 0) rfl rfl rfl)
   ·intro done hi hc hcu
    have d0 : done 0 = true := done_of (j := 0) hcu rfl (by decide) rfl
    exact draw_value (i := 1) (t := 4) (v := (int .i64 a0_1)) rfl rfl (wanted_none rfl) (fun a => (hasA_cons (k := 0) rfl d0 hasA_base)) (ov_load (v := (int .i64 a0_1)) rfl F_agg_2 (reads_box1 (i := 0) rfl rfl)) rfl rfl (onlyT_spec (k0 := 1) rfl rfl rfl)
   ·intro done hi hc hcu
    have d1 : done 1 = true := done_of (j := 1) hcu rfl (by decide) rfl
    exact draw_value (i := 2) (t := 5) (v := (bool (decide (0 ≤ a0_1)))) rfl rfl (wanted_none rfl) (fun a => (hasA_cons (k := 1) rfl d1 hasA_base)) (ov_bin rfl rfl (b_geq _ _ _)) rfl rfl (onlyT_spec (k0 := 2) rfl rfl rfl)
   ·intro done hi hc hcu
    have d2 : done 2 = true := done_of (j := 2) hcu rfl (by decide) rfl
    exact draw_value (i := 3) (t := 6) (v := (bool (decide (0 ≤ a0_1)))) rfl rfl (wanted_none rfl) (fun a => (hasA_cons (k := 2) rfl d2 hasA_base)) (ov_move rfl) rfl rfl (onlyT_spec (k0 := 3) rfl rfl rfl)
   ·intro done hi hc hcu
    have d3 : done 3 = true := done_of (j := 3) hcu rfl (by decide) rfl
    exact draw_value (i := 4) (t := 7) (v := (pt b2 1)) rfl rfl (wanted_on rfl rfl rfl (decide_eq_true c2)) (fun a => (hasA_cons (k := 3) rfl d3 hasA_base)) (ov_fieldAddr (sz := 0) (o := 0) rfl F_field_63_1 F_size_2) rfl rfl (onlyT_spec (k0 := 4) rfl rfl rfl)
   ·intro done hi hc hcu
    have d4 : done 4 = true := done_of (j := 4) hcu rfl (by decide) rfl
    have d3 : done 3 = true := done_of (j := 3) hcu rfl (by decide) rfl
    exact draw_value (i := 5) (t := 8) (v := (int .i64 a0_1)) rfl rfl (wanted_on rfl rfl rfl (decide_eq_true c2)) (fun a => (hasA_cons (k := 3) rfl d3 (hasA_cons (k := 4) rfl d4 hasA_base))) (ov_load (v := (int .i64 a0_1)) rfl F_agg_2 (reads_box1 (i := 0) rfl rfl)) rfl rfl (onlyT_spec (k0 := 5) rfl rfl rfl)
   ·intro done hi hc hcu
    have d3 : done 3 = true := done_of (j := 3) hcu rfl (by decide) rfl
    exact draw_value (i := 6) (t := 9) (v := (pt b2 0)) rfl rfl (wanted_on rfl rfl rfl (decide_eq_true c2)) (fun a => (hasA_cons (k := 3) rfl d3 hasA_base)) (ov_fieldAddr (sz := 0) (o := 0) rfl F_field_63_0 F_size_3) rfl rfl (onlyT_spec (k0 := 6) rfl rfl rfl)
   ·intro done hi hc hcu
    have d6 : done 6 = true := done_of (j := 6) hcu rfl (by decide) rfl
    have d3 : done 3 = true := done_of (j := 3) hcu rfl (by decide) rfl
    exact draw_value (i := 7) (t := 10) (v := (int .i64 a0_0)) rfl rfl (wanted_on rfl rfl rfl (decide_eq_true c2)) (fun a => (hasA_cons (k := 3) rfl d3 (hasA_cons (k := 6) rfl d6 hasA_base))) (ov_load (v := (int .i64 a0_0)) rfl F_agg_3 (reads_box1 (i := 0) rfl rfl)) rfl rfl (onlyT_spec (k0 := 7) rfl rfl rfl)
   ·intro done hi hc hcu
    have d7 : done 7 = true := done_of (j := 7) hcu rfl (by decide) rfl
    have d3 : done 3 = true := done_of (j := 3) hcu rfl (by decide) rfl
    exact draw_same (i := 8) (t := 11) (v := (int .i64 x2)) rfl rfl (wanted_on rfl rfl rfl (decide_eq_true c2)) (fun a => (hasA_cons (k := 3) rfl d3 (hasA_cons (k := 7) rfl d7 hasA_base))) (ot_call0 (first := []) (cap := []) (xs := [.tmp 10]) rfl rfl F_call_170 rfl (ossuaryref19_most.spec K a0_0 _ h2)) rfl rfl (onlyT_spec (k0 := 8) rfl rfl rfl)
   ·intro done hi hc hcu
    have d5 : done 5 = true := done_of (j := 5) hcu rfl (by decide) rfl
    have d8 : done 8 = true := done_of (j := 8) hcu rfl (by decide) rfl
    have d3 : done 3 = true := done_of (j := 3) hcu rfl (by decide) rfl
    exact draw_value (i := 9) (t := 12) (v := (bool (decide (a0_1 ≤ x2)))) rfl rfl (wanted_on rfl rfl rfl (decide_eq_true c2)) (fun a => (hasA_cons (k := 3) rfl d3 (hasA_cons (k := 8) rfl d8 (hasA_cons (k := 5) rfl d5 hasA_base)))) (ov_bin rfl rfl (b_leq _ _ _)) rfl rfl (onlyT_spec (k0 := 9) rfl rfl rfl)
   ·intro done hi hc hcu
    have d3 : done 3 = true := done_of (j := 3) hcu rfl (by decide) rfl
    have d9 : done 9 = true := done_of (j := 9) hcu rfl (by decide) rfl
    exact draw_value (i := 10) (t := 13) (v := (bool (decide (a0_1 ≤ x2)))) rfl rfl (wanted_none rfl) (fun a => (hasA_cons (k := 9) rfl d9 (hasA_cons (k := 3) rfl d3 hasA_base))) (ov_pick rfl rfl rfl (pick_t (decide_eq_true c2))) rfl rfl (onlyT_spec (k0 := 10) rfl rfl rfl)
   ·intro done hi hc hcu
    have d10 : done 10 = true := done_of (j := 10) hcu rfl (by decide) rfl
    exact draw_value (i := 11) (t := 2) (v := (bool (decide (a0_1 ≤ x2)))) rfl rfl (wanted_none rfl) (fun a => (hasA_cons (k := 10) rfl d10 hasA_base)) (ov_assign rfl) rfl rfl (onlyT_spec (k0 := 11) rfl rfl rfl)
  ·intro done hall
   refine draw_endL [(box b2 63 [(int .i64 a0_0), (int .i64 a0_1)])] rfl (fun a => (hasA_cons (k := 11) rfl (hall 11 (by decide)) (hasA_cons (k := 0) rfl (hall 0 (by decide)) (hasA_cons (k := 1) rfl (hall 1 (by decide)) (hasA_cons (k := 2) rfl (hall 2 (by decide)) (hasA_cons (k := 3) rfl (hall 3 (by decide)) (hasA_cons (k := 4) rfl (hall 4 (by decide)) (hasA_cons (k := 5) rfl (hall 5 (by decide)) (hasA_cons (k := 6) rfl (hall 6 (by decide)) (hasA_cons (k := 7) rfl (hall 7 (by decide)) (hasA_cons (k := 8) rfl (hall 8 (by decide)) (hasA_cons (k := 9) rfl (hall 9 (by decide)) (hasA_cons (k := 10) rfl (hall 10 (by decide)) hasA_base))))))))))))) ?_
   refine ent_retc ?_
   cases H
   refine ent_pick [] (by decide) rfl ?_
   exact ret_tmp rfl rfl ⟨rfl, rfl⟩
 ·rw [if_neg c2] at H
  refine ent_drawm 12 rfl (fun done a w => StD 14 w0 F [(0, (agg #[(int .i64 a0_0), (int .i64 a0_1)])), (1, (pt b2 0))] [(0, 3, (pt b2 1)), (1, 4, (int .i64 a0_1)), (2, 5, (bool (decide (0 ≤ a0_1)))), (3, 6, (bool (decide (0 ≤ a0_1)))), (4, 7, undef), (5, 8, undef), (6, 9, undef), (7, 10, undef), (8, 11, undef), (9, 12, undef), (10, 13, (bool false)), (11, 2, (bool false))] done [(box b2 63 [(int .i64 a0_0), (int .i64 a0_1)])] a w) (by kernel_rfl) (by kernel_rfl) (draw_startL (sub_cons (t := 0) rfl (sub_cons (t := 1) rfl (sub_nil _))) rfl) ?_ ?_
  ·refine ⟨?_, ?_, ?_, ?_, ?_, ?_, ?_, ?_, ?_, ?_, ?_, ?_, trivial⟩
   ·intro done hi hc hcu
    exact draw_value (i := 0) (t := 3) (v := (pt b2 1)) rfl rfl (wanted_none rfl) (fun a => hasA_base) (ov_fieldAddr (sz := 0) (o := 0) rfl F_field_63_1 F_size_2) rfl rfl (onlyT_spec (k0 := 0) rfl rfl rfl)
   ·intro done hi hc hcu
    have d0 : done 0 = true := done_of (j := 0) hcu rfl (by decide) rfl
    exact draw_value (i := 1) (t := 4) (v := (int .i64 a0_1)) rfl rfl (wanted_none rfl) (fun a => (hasA_cons (k := 0) rfl d0 hasA_base)) (ov_load (v := (int .i64 a0_1)) rfl F_agg_2 (reads_box1 (i := 0) rfl rfl)) rfl rfl (onlyT_spec (k0 := 1) rfl rfl rfl)
   ·intro done hi hc hcu
    have d1 : done 1 = true := done_of (j := 1) hcu rfl (by decide) rfl
    exact draw_value (i := 2) (t := 5) (v := (bool (decide (0 ≤ a0_1)))) rfl rfl (wanted_none rfl) (fun a => (hasA_cons (k := 1) rfl d1 hasA_base)) (ov_bin rfl rfl (b_geq _ _ _)) rfl rfl (onlyT_spec (k0 := 2) rfl rfl rfl)
   ·intro done hi hc hcu
    have d2 : done 2 = true := done_of (j := 2) hcu rfl (by decide) rfl
    exact draw_value (i := 3) (t := 6) (v := (bool (decide (0 ≤ a0_1)))) rfl rfl (wanted_none rfl) (fun a => (hasA_cons (k := 2) rfl d2 hasA_base)) (ov_move rfl) rfl rfl (onlyT_spec (k0 := 3) rfl rfl rfl)
   ·intro done hi hc hcu
    have d3 : done 3 = true := done_of (j := 3) hcu rfl (by decide) rfl
    exact draw_off (i := 4) (t := 7) rfl rfl (wanted_off rfl rfl rfl (decide_eq_false c2)) (fun a => (hasA_cons (k := 3) rfl d3 hasA_base)) rfl rfl (onlyT_spec (k0 := 4) rfl rfl rfl)
   ·intro done hi hc hcu
    have d3 : done 3 = true := done_of (j := 3) hcu rfl (by decide) rfl
    exact draw_off (i := 5) (t := 8) rfl rfl (wanted_off rfl rfl rfl (decide_eq_false c2)) (fun a => (hasA_cons (k := 3) rfl d3 hasA_base)) rfl rfl (onlyT_spec (k0 := 5) rfl rfl rfl)
   ·intro done hi hc hcu
    have d3 : done 3 = true := done_of (j := 3) hcu rfl (by decide) rfl
    exact draw_off (i := 6) (t := 9) rfl rfl (wanted_off rfl rfl rfl (decide_eq_false c2)) (fun a => (hasA_cons (k := 3) rfl d3 hasA_base)) rfl rfl (onlyT_spec (k0 := 6) rfl rfl rfl)
   ·intro done hi hc hcu
    have d3 : done 3 = true := done_of (j := 3) hcu rfl (by decide) rfl
    exact draw_off (i := 7) (t := 10) rfl rfl (wanted_off rfl rfl rfl (decide_eq_false c2)) (fun a => (hasA_cons (k := 3) rfl d3 hasA_base)) rfl rfl (onlyT_spec (k0 := 7) rfl rfl rfl)
   ·intro done hi hc hcu
    have d3 : done 3 = true := done_of (j := 3) hcu rfl (by decide) rfl
    exact draw_off (i := 8) (t := 11) rfl rfl (wanted_off rfl rfl rfl (decide_eq_false c2)) (fun a => (hasA_cons (k := 3) rfl d3 hasA_base)) rfl rfl (onlyT_spec (k0 := 8) rfl rfl rfl)
   ·intro done hi hc hcu
    have d3 : done 3 = true := done_of (j := 3) hcu rfl (by decide) rfl
    exact draw_off (i := 9) (t := 12) rfl rfl (wanted_off rfl rfl rfl (decide_eq_false c2)) (fun a => (hasA_cons (k := 3) rfl d3 hasA_base)) rfl rfl (onlyT_spec (k0 := 9) rfl rfl rfl)
   ·intro done hi hc hcu
    have d3 : done 3 = true := done_of (j := 3) hcu rfl (by decide) rfl
    have d9 : done 9 = true := done_of (j := 9) hcu rfl (by decide) rfl
    exact draw_value (i := 10) (t := 13) (v := (bool false)) rfl rfl (wanted_none rfl) (fun a => (hasA_cons (k := 9) rfl d9 (hasA_cons (k := 3) rfl d3 hasA_base))) (ov_pick rfl rfl rfl (pick_f (decide_eq_false c2))) rfl rfl (onlyT_spec (k0 := 10) rfl rfl rfl)
   ·intro done hi hc hcu
    have d10 : done 10 = true := done_of (j := 10) hcu rfl (by decide) rfl
    exact draw_value (i := 11) (t := 2) (v := (bool false)) rfl rfl (wanted_none rfl) (fun a => (hasA_cons (k := 10) rfl d10 hasA_base)) (ov_assign rfl) rfl rfl (onlyT_spec (k0 := 11) rfl rfl rfl)
  ·intro done hall
   refine draw_endL [(box b2 63 [(int .i64 a0_0), (int .i64 a0_1)])] rfl (fun a => (hasA_cons (k := 11) rfl (hall 11 (by decide)) (hasA_cons (k := 0) rfl (hall 0 (by decide)) (hasA_cons (k := 1) rfl (hall 1 (by decide)) (hasA_cons (k := 2) rfl (hall 2 (by decide)) (hasA_cons (k := 3) rfl (hall 3 (by decide)) (hasA_cons (k := 4) rfl (hall 4 (by decide)) (hasA_cons (k := 5) rfl (hall 5 (by decide)) (hasA_cons (k := 6) rfl (hall 6 (by decide)) (hasA_cons (k := 7) rfl (hall 7 (by decide)) (hasA_cons (k := 8) rfl (hall 8 (by decide)) (hasA_cons (k := 9) rfl (hall 9 (by decide)) (hasA_cons (k := 10) rfl (hall 10 (by decide)) hasA_base))))))))))))) ?_
   refine ent_retc ?_
   cases H
   refine ent_pick [] (by decide) rfl ?_
   exact ret_tmp rfl rfl ⟨rfl, rfl⟩

set_option maxRecDepth 100000 in
theorem ossuaryref20_in.spec (a0 : Int) (a1 : Int) (a2 : Int) (r : Bool) (H : ossuaryref20_in a0 a1 a2 = r) : FnSpec Try.prog 150 [(int .i64 a0), (int .i64 a1), (int .i64 a2)] [] (fun v M => v = (bool r) ∧ M = []) := by
 unfold ossuaryref20_in at H
 refine spec_of Try.func150 rfl 15 rfl (Nat.le_of_ble_eq_true rfl) fun F w0 => ?_
 show Ent (St 15 w0 F [(0, (int .i64 a0)), (1, (int .i64 a1)), (2, (int .i64 a2))] []) _
 refine ent_seq ?_
 refine ent_region ?_
 refine ent_value (ov_assign rfl) rfl rfl rfl ?_
 refine ent_nil ?_
 refine ent_seq ?_
 refine ent_region ?_
 refine ent_value (ov_move rfl) rfl rfl rfl ?_
 refine ent_value (ov_move rfl) rfl rfl rfl ?_
 refine ent_value (ov_bin rfl rfl (b_geq _ _ _)) rfl rfl rfl ?_
 refine ent_value (ov_move rfl) rfl rfl rfl ?_
 by_cases c2 : a1 ≤ a0
 ·rw [if_pos c2] at H
  refine ent_value_on (ov_move rfl) rfl rfl rfl (decide_eq_true c2) rfl rfl ?_
  refine ent_value_on (ov_move rfl) rfl rfl rfl (decide_eq_true c2) rfl rfl ?_
  refine ent_value_on (ov_bin rfl rfl (b_leq _ _ _)) rfl rfl rfl (decide_eq_true c2) rfl rfl ?_
  refine ent_value (ov_pick rfl rfl rfl (pick_t (decide_eq_true c2))) rfl rfl rfl ?_
  refine ent_value (ov_assign rfl) rfl rfl rfl ?_
  refine ent_nil ?_
  refine ent_retc ?_
  cases H
  refine ent_pick [] (by decide) rfl ?_
  exact ret_tmp rfl rfl ⟨rfl, rfl⟩
 ·rw [if_neg c2] at H
  refine ent_off rfl rfl rfl (decide_eq_false c2) rfl rfl ?_
  refine ent_off rfl rfl rfl (decide_eq_false c2) rfl rfl ?_
  refine ent_off rfl rfl rfl (decide_eq_false c2) rfl rfl ?_
  refine ent_value (ov_pick rfl rfl rfl (pick_f (decide_eq_false c2))) rfl rfl rfl ?_
  refine ent_value (ov_assign rfl) rfl rfl rfl ?_
  refine ent_nil ?_
  refine ent_retc ?_
  cases H
  refine ent_pick [] (by decide) rfl ?_
  exact ret_tmp rfl rfl ⟨rfl, rfl⟩

set_option maxRecDepth 100000 in
theorem ossuaryref20_Right.spec (K : Nat) (a0_0 : Int) (a0_1 : Int) (a0_2 : Int) (a0_3 : Int) (a0_4 : Int) (a0_5 : Bool) (r : Bool) (H : ossuaryref20_Right K a0_0 a0_1 a0_2 a0_3 a0_4 a0_5 = some r) : FnSpec Try.prog 106 [(agg #[(int .i64 a0_0), (int .i64 a0_1), (int .i64 a0_2), (int .i64 a0_3), (int .i64 a0_4), (bool a0_5)])] [] (fun v M => v = (bool r) ∧ M = []) := by
 unfold ossuaryref20_Right at H
 refine spec_of Try.func106 rfl 32 rfl (Nat.le_of_ble_eq_true rfl) fun F w0 => ?_
 show Ent (St 32 w0 F [(0, (agg #[(int .i64 a0_0), (int .i64 a0_1), (int .i64 a0_2), (int .i64 a0_3), (int .i64 a0_4), (bool a0_5)]))] []) _
 refine ent_seq ?_
 refine ent_region ?_
 refine ent_op (ot_box (cs := [(int .i64 a0_0), (int .i64 a0_1), (int .i64 a0_2), (int .i64 a0_3), (int .i64 a0_4), (bool a0_5)]) rfl rfl) rfl rfl rfl ?_
 rintro _ _ ⟨b2, rfl, rfl⟩
 refine ent_value (ov_assign rfl) rfl rfl rfl ?_
 refine ent_nil ?_
 refine ent_seq ?_
 refine ent_region ?_
 refine ent_value (ov_fieldAddr (sz := 1) (o := 0) rfl F_field_65_0 F_size_63) rfl rfl rfl ?_
 refine ent_value (ov_load_agg (vs := [(int .i64 a0_0), (int .i64 a0_1)]) rfl F_agg_63 F_size_63 (reads_boxN (i := 0) rfl rfl)) rfl rfl rfl ?_
 obtain ⟨x5, h5, H⟩ := Option.bind_eq_some_iff.1 H
 refine ent_op (ot_call0 (first := []) (cap := []) (xs := [.tmp 4]) rfl rfl F_call_135 rfl (ossuaryref19_Right.spec K a0_0 a0_1 _ h5)) rfl rfl rfl ?_
 rintro _ _ ⟨rfl, rfl⟩
 refine ent_value (ov_move rfl) rfl rfl rfl ?_
 by_cases c6 : x5 = true
 ·rw [if_pos c6] at H
  refine ent_value_on (ov_fieldAddr (sz := 0) (o := 0) rfl F_field_65_1 F_size_2) rfl rfl rfl c6 rfl rfl ?_
  refine ent_value_on (ov_load (v := (int .i64 a0_2)) rfl F_agg_2 (reads_box1 (i := 0) rfl rfl)) rfl rfl rfl c6 rfl rfl ?_
  obtain ⟨x6, h6, H⟩ := thn_elim H
  refine ent_op_on (ot_call0 (first := []) (cap := []) (xs := [.tmp 8, .const (int .i64 1), .const (int .i64 4611686018427387904)]) rfl rfl F_call_150 rfl (ossuaryref20_in.spec a0_2 1 4611686018427387904 _ h6)) rfl rfl rfl c6 rfl rfl ?_
  rintro _ _ ⟨rfl, rfl⟩
  refine ent_value (ov_pick rfl rfl rfl (pick_t c6)) rfl rfl rfl ?_
  refine ent_value (ov_move rfl) rfl rfl rfl ?_
  by_cases c7 : x6 = true
  ·rw [if_pos c7] at H
   refine ent_value_on (ov_fieldAddr (sz := 0) (o := 0) rfl F_field_65_3 F_size_2) rfl rfl rfl c7 rfl rfl ?_
   refine ent_value_on (ov_load (v := (int .i64 a0_4)) rfl F_agg_2 (reads_box1 (i := 0) rfl rfl)) rfl rfl rfl c7 rfl rfl ?_
   obtain ⟨x7, h7, H⟩ := thn_elim H
   refine ent_op_on (ot_call0 (first := []) (cap := []) (xs := [.tmp 13, .const (int .i64 1), .const (int .i64 4611686018427387904)]) rfl rfl F_call_150 rfl (ossuaryref20_in.spec a0_4 1 4611686018427387904 _ h7)) rfl rfl rfl c7 rfl rfl ?_
   rintro _ _ ⟨rfl, rfl⟩
   refine ent_value (ov_pick rfl rfl rfl (pick_t c7)) rfl rfl rfl ?_
   refine ent_value (ov_move rfl) rfl rfl rfl ?_
   by_cases c8 : x7 = true
   ·rw [if_pos c8] at H
    refine ent_value_on (ov_fieldAddr (sz := 0) (o := 0) rfl F_field_65_2 F_size_2) rfl rfl rfl c8 rfl rfl ?_
    refine ent_value_on (ov_load (v := (int .i64 a0_3)) rfl F_agg_2 (reads_box1 (i := 0) rfl rfl)) rfl rfl rfl c8 rfl rfl ?_
    obtain ⟨x8, h8, H⟩ := thn_elim H
    refine ent_op_on (ot_call0 (first := []) (cap := []) (xs := [.tmp 18, .const (int .i64 0), .const (int .i64 4611686018427387904)]) rfl rfl F_call_150 rfl (ossuaryref20_in.spec a0_3 0 4611686018427387904 _ h8)) rfl rfl rfl c8 rfl rfl ?_
    rintro _ _ ⟨rfl, rfl⟩
    refine ent_value (ov_pick rfl rfl rfl (pick_t c8)) rfl rfl rfl ?_
    refine ent_value (ov_move rfl) rfl rfl rfl ?_
    by_cases c9 : x8 = true
    ·rw [if_pos c9] at H
     refine ent_value_on (ov_fieldAddr (sz := 0) (o := 0) rfl F_field_65_4 F_size_4) rfl rfl rfl c9 rfl rfl ?_
     refine ent_value_on (ov_load (v := (bool a0_5)) rfl F_agg_4 (reads_box1 (i := 0) rfl rfl)) rfl rfl rfl c9 rfl rfl ?_
     refine ent_value_on (ov_un rfl (u_not _)) rfl rfl rfl c9 rfl rfl ?_
     refine ent_value_on (ov_move rfl) rfl rfl rfl c9 rfl rfl ?_
     by_cases c10 : (!a0_5) = true
     ·rw [if_pos c10] at H
      refine ent_off rfl rfl rfl c10 rfl rfl ?_
      refine ent_off rfl rfl rfl c10 rfl rfl ?_
      refine ent_off rfl rfl rfl c10 rfl rfl ?_
      refine ent_off rfl rfl rfl c10 rfl rfl ?_
      refine ent_value_on (ov_pick rfl rfl rfl (pick_t c10)) rfl rfl rfl c9 rfl rfl ?_
      refine ent_value (ov_pick rfl rfl rfl (pick_t c9)) rfl rfl rfl ?_
      refine ent_value (ov_assign rfl) rfl rfl rfl ?_
      refine ent_nil ?_
      refine ent_retc ?_
      cases H
      refine ent_pick [] (by decide) rfl ?_
      exact ret_tmp rfl rfl ⟨rfl, rfl⟩
     ·rw [if_neg c10] at H
      refine ent_value_on (ov_fieldAddr (sz := 1) (o := 0) rfl F_field_65_0 F_size_63) rfl rfl rfl (Bool.eq_false_iff.2 c10) rfl rfl ?_
      refine ent_value_on (ov_fieldAddr (sz := 0) (o := 0) rfl F_field_63_0 F_size_3) rfl rfl rfl (Bool.eq_false_iff.2 c10) rfl rfl ?_
      refine ent_value_on (ov_load (v := (int .i64 a0_0)) rfl F_agg_3 (reads_box1 (i := 0) rfl rfl)) rfl rfl rfl (Bool.eq_false_iff.2 c10) rfl rfl ?_
      refine ent_value_on (ov_bin rfl rfl (b_eql _ _ _)) rfl rfl rfl (Bool.eq_false_iff.2 c10) rfl rfl ?_
      refine ent_value_on (ov_pick rfl rfl rfl (pick_f (Bool.eq_false_iff.2 c10))) rfl rfl rfl c9 rfl rfl ?_
      refine ent_value (ov_pick rfl rfl rfl (pick_t c9)) rfl rfl rfl ?_
      refine ent_value (ov_assign rfl) rfl rfl rfl ?_
      refine ent_nil ?_
      refine ent_retc ?_
      cases H
      refine ent_pick [] (by decide) rfl ?_
      exact ret_tmp rfl rfl ⟨rfl, rfl⟩
    ·rw [if_neg c9] at H
     refine ent_off rfl rfl rfl (Bool.eq_false_iff.2 c9) rfl rfl ?_
     refine ent_off rfl rfl rfl (Bool.eq_false_iff.2 c9) rfl rfl ?_
     refine ent_off rfl rfl rfl (Bool.eq_false_iff.2 c9) rfl rfl ?_
     refine ent_off rfl rfl rfl (Bool.eq_false_iff.2 c9) rfl rfl ?_
     refine ent_offu rfl rfl rfl rfl rfl ?_
     refine ent_offu rfl rfl rfl rfl rfl ?_
     refine ent_offu rfl rfl rfl rfl rfl ?_
     refine ent_offu rfl rfl rfl rfl rfl ?_
     refine ent_off rfl rfl rfl (Bool.eq_false_iff.2 c9) rfl rfl ?_
     refine ent_value (ov_pick rfl rfl rfl (pick_f (Bool.eq_false_iff.2 c9))) rfl rfl rfl ?_
     refine ent_value (ov_assign rfl) rfl rfl rfl ?_
     refine ent_nil ?_
     refine ent_retc ?_
     cases H
     refine ent_pick [] (by decide) rfl ?_
     exact ret_tmp rfl rfl ⟨rfl, rfl⟩
   ·rw [if_neg c8] at H
    refine ent_off rfl rfl rfl (Bool.eq_false_iff.2 c8) rfl rfl ?_
    refine ent_off rfl rfl rfl (Bool.eq_false_iff.2 c8) rfl rfl ?_
    refine ent_off rfl rfl rfl (Bool.eq_false_iff.2 c8) rfl rfl ?_
    refine ent_value (ov_pick rfl rfl rfl (pick_f (Bool.eq_false_iff.2 c8))) rfl rfl rfl ?_
    refine ent_value (ov_move rfl) rfl rfl rfl ?_
    refine ent_off rfl rfl rfl rfl rfl rfl ?_
    refine ent_off rfl rfl rfl rfl rfl rfl ?_
    refine ent_off rfl rfl rfl rfl rfl rfl ?_
    refine ent_off rfl rfl rfl rfl rfl rfl ?_
    refine ent_offu rfl rfl rfl rfl rfl ?_
    refine ent_offu rfl rfl rfl rfl rfl ?_
    refine ent_offu rfl rfl rfl rfl rfl ?_
    refine ent_offu rfl rfl rfl rfl rfl ?_
    refine ent_off rfl rfl rfl rfl rfl rfl ?_
    refine ent_value (ov_pick rfl rfl rfl rfl) rfl rfl rfl ?_
    refine ent_value (ov_assign rfl) rfl rfl rfl ?_
    refine ent_nil ?_
    refine ent_retc ?_
    cases H
    refine ent_pick [] (by decide) rfl ?_
    exact ret_tmp rfl rfl ⟨rfl, rfl⟩
  ·rw [if_neg c7] at H
   refine ent_off rfl rfl rfl (Bool.eq_false_iff.2 c7) rfl rfl ?_
   refine ent_off rfl rfl rfl (Bool.eq_false_iff.2 c7) rfl rfl ?_
   refine ent_off rfl rfl rfl (Bool.eq_false_iff.2 c7) rfl rfl ?_
   refine ent_value (ov_pick rfl rfl rfl (pick_f (Bool.eq_false_iff.2 c7))) rfl rfl rfl ?_
   refine ent_value (ov_move rfl) rfl rfl rfl ?_
   refine ent_off rfl rfl rfl rfl rfl rfl ?_
   refine ent_off rfl rfl rfl rfl rfl rfl ?_
   refine ent_off rfl rfl rfl rfl rfl rfl ?_
   refine ent_value (ov_pick rfl rfl rfl rfl) rfl rfl rfl ?_
   refine ent_value (ov_move rfl) rfl rfl rfl ?_
   refine ent_off rfl rfl rfl rfl rfl rfl ?_
   refine ent_off rfl rfl rfl rfl rfl rfl ?_
   refine ent_off rfl rfl rfl rfl rfl rfl ?_
   refine ent_off rfl rfl rfl rfl rfl rfl ?_
   refine ent_offu rfl rfl rfl rfl rfl ?_
   refine ent_offu rfl rfl rfl rfl rfl ?_
   refine ent_offu rfl rfl rfl rfl rfl ?_
   refine ent_offu rfl rfl rfl rfl rfl ?_
   refine ent_off rfl rfl rfl rfl rfl rfl ?_
   refine ent_value (ov_pick rfl rfl rfl rfl) rfl rfl rfl ?_
   refine ent_value (ov_assign rfl) rfl rfl rfl ?_
   refine ent_nil ?_
   refine ent_retc ?_
   cases H
   refine ent_pick [] (by decide) rfl ?_
   exact ret_tmp rfl rfl ⟨rfl, rfl⟩
 ·rw [if_neg c6] at H
  refine ent_off rfl rfl rfl (Bool.eq_false_iff.2 c6) rfl rfl ?_
  refine ent_off rfl rfl rfl (Bool.eq_false_iff.2 c6) rfl rfl ?_
  refine ent_off rfl rfl rfl (Bool.eq_false_iff.2 c6) rfl rfl ?_
  refine ent_value (ov_pick rfl rfl rfl (pick_f (Bool.eq_false_iff.2 c6))) rfl rfl rfl ?_
  refine ent_value (ov_move rfl) rfl rfl rfl ?_
  refine ent_off rfl rfl rfl rfl rfl rfl ?_
  refine ent_off rfl rfl rfl rfl rfl rfl ?_
  refine ent_off rfl rfl rfl rfl rfl rfl ?_
  refine ent_value (ov_pick rfl rfl rfl rfl) rfl rfl rfl ?_
  refine ent_value (ov_move rfl) rfl rfl rfl ?_
  refine ent_off rfl rfl rfl rfl rfl rfl ?_
  refine ent_off rfl rfl rfl rfl rfl rfl ?_
  refine ent_off rfl rfl rfl rfl rfl rfl ?_
  refine ent_value (ov_pick rfl rfl rfl rfl) rfl rfl rfl ?_
  refine ent_value (ov_move rfl) rfl rfl rfl ?_
  refine ent_off rfl rfl rfl rfl rfl rfl ?_
  refine ent_off rfl rfl rfl rfl rfl rfl ?_
  refine ent_off rfl rfl rfl rfl rfl rfl ?_
  refine ent_off rfl rfl rfl rfl rfl rfl ?_
  refine ent_offu rfl rfl rfl rfl rfl ?_
  refine ent_offu rfl rfl rfl rfl rfl ?_
  refine ent_offu rfl rfl rfl rfl rfl ?_
  refine ent_offu rfl rfl rfl rfl rfl ?_
  refine ent_off rfl rfl rfl rfl rfl rfl ?_
  refine ent_value (ov_pick rfl rfl rfl rfl) rfl rfl rfl ?_
  refine ent_value (ov_assign rfl) rfl rfl rfl ?_
  refine ent_nil ?_
  refine ent_retc ?_
  cases H
  refine ent_pick [] (by decide) rfl ?_
  exact ret_tmp rfl rfl ⟨rfl, rfl⟩

set_option maxRecDepth 100000 in
theorem ossuaryref04_Number.spec (K : Nat) (a0 : Int) (a1 : Int) (a2 : Int) (r : (Int × Bool)) (H : ossuaryref04_Number K a0 a1 a2 = some r) : FnSpec Try.prog 171 [(int .i64 a0), (int .i64 a1), (int .i64 a2)] [] (fun v M => v = (Value.tuple #[(int .i64 r.1), (bool r.2)]) ∧ M = []) := by
 unfold ossuaryref04_Number at H
 refine spec_of Try.func171 rfl 51 rfl (Nat.le_of_ble_eq_true rfl) fun F w0 => ?_
 show Ent (St 51 w0 F [(0, (int .i64 a0)), (1, (int .i64 a1)), (2, (int .i64 a2))] []) _
 refine ent_seq ?_
 refine ent_region ?_
 refine ent_value (ov_assign rfl) rfl rfl rfl ?_
 refine ent_value (ov_assign rfl) rfl rfl rfl ?_
 refine ent_nil ?_
 refine ent_seq ?_
 refine ent_seq ?_
 refine ent_region ?_
 refine ent_value (ov_move rfl) rfl rfl rfl ?_
 refine ent_value (ov_bin rfl rfl (b_lss _ _ _)) rfl rfl rfl ?_
 refine ent_value (ov_move rfl) rfl rfl rfl ?_
 by_cases c37 : a0 < 1970
 ·rw [if_pos c37] at H
  refine ent_off rfl rfl rfl (decide_eq_true c37) rfl rfl ?_
  refine ent_off rfl rfl rfl (decide_eq_true c37) rfl rfl ?_
  refine ent_value (ov_pick rfl rfl rfl (pick_t (decide_eq_true c37))) rfl rfl rfl ?_
  refine ent_value (ov_move rfl) rfl rfl rfl ?_
  refine ent_off rfl rfl rfl rfl rfl rfl ?_
  refine ent_off rfl rfl rfl rfl rfl rfl ?_
  refine ent_value (ov_pick rfl rfl rfl rfl) rfl rfl rfl ?_
  refine ent_value (ov_move rfl) rfl rfl rfl ?_
  refine ent_off rfl rfl rfl rfl rfl rfl ?_
  refine ent_off rfl rfl rfl rfl rfl rfl ?_
  refine ent_off rfl rfl rfl rfl rfl rfl ?_
  refine ent_off rfl rfl rfl rfl rfl rfl ?_
  refine ent_off rfl rfl rfl rfl rfl rfl ?_
  refine ent_value (ov_pick rfl rfl rfl rfl) rfl rfl rfl ?_
  refine ent_nil ?_
  refine ent_cond_true rfl rfl ?_
  refine ent_seq ?_
  refine ent_region ?_
  refine ent_value (ov_assign rfl) rfl rfl rfl ?_
  refine ent_value (ov_assign rfl) rfl rfl rfl ?_
  refine ent_nil ?_
  refine ent_retc ?_
  cases H
  refine ent_pick [] (by decide) rfl ?_
  exact ret_mem (vs := [(int .i64 0), (bool false)]) rfl ⟨rfl, ⟨rfl, trivial⟩⟩ _ rfl ⟨rfl, rfl⟩
 ·rw [if_neg c37] at H
  refine ent_value_on (ov_move rfl) rfl rfl rfl (decide_eq_false c37) rfl rfl ?_
  refine ent_value_on (ov_bin rfl rfl (b_gtr _ _ _)) rfl rfl rfl (decide_eq_false c37) rfl rfl ?_
  refine ent_value (ov_pick rfl rfl rfl (pick_f (decide_eq_false c37))) rfl rfl rfl ?_
  refine ent_value (ov_move rfl) rfl rfl rfl ?_
  by_cases c38 : 4900 < a0
  ·rw [if_pos c38] at H
   refine ent_off rfl rfl rfl (decide_eq_true c38) rfl rfl ?_
   refine ent_off rfl rfl rfl (decide_eq_true c38) rfl rfl ?_
   refine ent_value (ov_pick rfl rfl rfl (pick_t (decide_eq_true c38))) rfl rfl rfl ?_
   refine ent_value (ov_move rfl) rfl rfl rfl ?_
   refine ent_off rfl rfl rfl rfl rfl rfl ?_
   refine ent_off rfl rfl rfl rfl rfl rfl ?_
   refine ent_off rfl rfl rfl rfl rfl rfl ?_
   refine ent_off rfl rfl rfl rfl rfl rfl ?_
   refine ent_off rfl rfl rfl rfl rfl rfl ?_
   refine ent_value (ov_pick rfl rfl rfl rfl) rfl rfl rfl ?_
   refine ent_nil ?_
   refine ent_cond_true rfl rfl ?_
   refine ent_seq ?_
   refine ent_region ?_
   refine ent_value (ov_assign rfl) rfl rfl rfl ?_
   refine ent_value (ov_assign rfl) rfl rfl rfl ?_
   refine ent_nil ?_
   refine ent_retc ?_
   cases H
   refine ent_pick [] (by decide) rfl ?_
   exact ret_mem (vs := [(int .i64 0), (bool false)]) rfl ⟨rfl, ⟨rfl, trivial⟩⟩ _ rfl ⟨rfl, rfl⟩
  ·rw [if_neg c38] at H
   refine ent_value_on (ov_move rfl) rfl rfl rfl (decide_eq_false c38) rfl rfl ?_
   refine ent_value_on (ov_bin rfl rfl (b_lss _ _ _)) rfl rfl rfl (decide_eq_false c38) rfl rfl ?_
   refine ent_value (ov_pick rfl rfl rfl (pick_f (decide_eq_false c38))) rfl rfl rfl ?_
   refine ent_value (ov_move rfl) rfl rfl rfl ?_
   by_cases c39 : a2 < 1
   ·rw [if_pos c39] at H
    refine ent_off rfl rfl rfl (decide_eq_true c39) rfl rfl ?_
    refine ent_off rfl rfl rfl (decide_eq_true c39) rfl rfl ?_
    refine ent_off rfl rfl rfl (decide_eq_true c39) rfl rfl ?_
    refine ent_off rfl rfl rfl (decide_eq_true c39) rfl rfl ?_
    refine ent_off rfl rfl rfl (decide_eq_true c39) rfl rfl ?_
    refine ent_value (ov_pick rfl rfl rfl (pick_t (decide_eq_true c39))) rfl rfl rfl ?_
    refine ent_nil ?_
    refine ent_cond_true rfl rfl ?_
    refine ent_seq ?_
    refine ent_region ?_
    refine ent_value (ov_assign rfl) rfl rfl rfl ?_
    refine ent_value (ov_assign rfl) rfl rfl rfl ?_
    refine ent_nil ?_
    refine ent_retc ?_
    cases H
    refine ent_pick [] (by decide) rfl ?_
    exact ret_mem (vs := [(int .i64 0), (bool false)]) rfl ⟨rfl, ⟨rfl, trivial⟩⟩ _ rfl ⟨rfl, rfl⟩
   ·rw [if_neg c39] at H
    refine ent_value_on (ov_move rfl) rfl rfl rfl (decide_eq_false c39) rfl rfl ?_
    refine ent_value_on (ov_move rfl) rfl rfl rfl (decide_eq_false c39) rfl rfl ?_
    refine ent_value_on (ov_move rfl) rfl rfl rfl (decide_eq_false c39) rfl rfl ?_
    obtain ⟨x30, h28, H⟩ := thn_elim H
    refine ent_op_on (ot_call0 (first := []) (cap := []) (xs := [.tmp 23, .tmp 24]) rfl rfl F_call_172 rfl (ossuaryref04_Length.spec a0 a1 _ h28)) rfl rfl rfl (decide_eq_false c39) rfl rfl ?_
    rintro _ _ ⟨rfl, rfl⟩
    refine ent_value_on (ov_bin rfl rfl (b_gtr _ _ _)) rfl rfl rfl (decide_eq_false c39) rfl rfl ?_
    refine ent_value (ov_pick rfl rfl rfl (pick_f (decide_eq_false c39))) rfl rfl rfl ?_
    refine ent_nil ?_
    by_cases c40 : x30 < a2
    ·rw [if_pos c40] at H
     refine ent_cond_true rfl (decide_eq_true c40) ?_
     refine ent_seq ?_
     refine ent_region ?_
     refine ent_value (ov_assign rfl) rfl rfl rfl ?_
     refine ent_value (ov_assign rfl) rfl rfl rfl ?_
     refine ent_nil ?_
     refine ent_retc ?_
     cases H
     refine ent_pick [] (by decide) rfl ?_
     exact ret_mem (vs := [(int .i64 0), (bool false)]) rfl ⟨rfl, ⟨rfl, trivial⟩⟩ _ rfl ⟨rfl, rfl⟩
    ·rw [if_neg c40] at H
     refine ent_cond_false rfl (decide_eq_false c40) ?_
     refine ent_skip ?_
     refine ent_seq ?_
     refine ent_region ?_
     refine ent_value (ov_assign rfl) rfl rfl rfl ?_
     refine ent_nil ?_
     obtain ⟨x37, H8, H⟩ := Option.bind_eq_some_iff.1 H
     refine ent_seq_cut (fun a w => St 51 w0 F [(0, (int .i64 a0)), (1, (int .i64 a1)), (2, (int .i64 a2)), (8, (int .i64 x37))] [] a w) ?_ ?_
     ·refine ent_seq ?_
      refine ent_region ?_
      refine ent_value (ov_assign rfl) rfl rfl rfl ?_
      refine ent_nil ?_
      refine ent_block ?_
      refine ent_loop (fun k a w => ∃ i15, ∃ i16, ossuaryref04_Number_l0 K a0 k i15 i16 = some x37 ∧ St 51 w0 F [(0, (int .i64 a0)), (1, (int .i64 a1)), (2, (int .i64 a2)), (8, (int .i64 i15)), (9, (int .i64 i16))] [] a w) K ?_ ?_
      ·exact ent_fin [] (by decide) rfl (sub_cons (t := 0) rfl (sub_cons (t := 1) rfl (sub_cons (t := 2) rfl (sub_cons (t := 8) rfl (sub_cons (t := 9) rfl (sub_nil _)))))) fun a w h => ⟨_, _, H8, h⟩
      ·refine fun k => ent_exi fun i15 => ent_exi fun i16 => ent_and fun H9 => ?_
       cases k with
       | zero => exact absurd H9 (by simp [ossuaryref04_Number_l0])
       | succ k =>
        rw [ossuaryref04_Number_l0] at H9
        refine ent_seq ?_
        refine ent_seq ?_
        refine ent_region ?_
        refine ent_value (ov_move rfl) rfl rfl rfl ?_
        refine ent_value (ov_move rfl) rfl rfl rfl ?_
        refine ent_value (ov_bin rfl rfl (b_lss _ _ _)) rfl rfl rfl ?_
        refine ent_nil ?_
        by_cases c52 : i16 < a0
        ·rw [if_pos c52] at H9
         refine ent_cond_true rfl (decide_eq_true c52) ?_
         refine ent_skip ?_
         refine ent_seq ?_
         refine ent_block ?_
         refine ent_region ?_
         refine ent_value (ov_move rfl) rfl rfl rfl ?_
         refine ent_value (ov_move rfl) rfl rfl rfl ?_
         obtain ⟨x43, h40, H9⟩ := thn_elim H9
         refine ent_op (ot_call0 (first := []) (cap := []) (xs := [.tmp 34]) rfl rfl F_call_210 rfl (ossuaryref04_days.spec i16 _ h40)) rfl rfl rfl ?_
         rintro _ _ ⟨rfl, rfl⟩
         refine ent_value (ov_bin rfl rfl (b_add _ _ _) ) rfl rfl rfl ?_
         refine ent_value (ov_assign rfl) rfl rfl rfl ?_
         refine ent_nil ?_
         refine ent_region ?_
         refine ent_value (ov_move rfl) rfl rfl rfl ?_
         refine ent_value (ov_bin rfl rfl (b_add _ _ _) ) rfl rfl rfl ?_
         refine ent_value (ov_assign rfl) rfl rfl rfl ?_
         refine ent_nil ?_
         exact ent_fin [] (by decide) rfl (sub_cons (t := 0) rfl (sub_cons (t := 1) rfl (sub_cons (t := 2) rfl (sub_cons (t := 8) rfl (sub_cons (t := 9) rfl (sub_nil _)))))) fun a w h => ⟨k, Nat.lt_succ_self k, _, _, H9, h⟩
        ·rw [if_neg c52] at H9
         refine ent_cond_false rfl (decide_eq_false c52) ?_
         refine ent_exit ?_
         cases H9
         exact ent_fin [] (by decide) rfl (sub_cons (t := 0) rfl (sub_cons (t := 1) rfl (sub_cons (t := 2) rfl (sub_cons (t := 8) rfl (sub_nil _))))) fun a w h => h
     ·obtain ⟨x50, H11, H⟩ := Option.bind_eq_some_iff.1 H
      refine ent_seq_cut (fun a w => St 51 w0 F [(2, (int .i64 a2)), (8, (int .i64 x50))] [] a w) ?_ ?_
      ·refine ent_seq ?_
       refine ent_region ?_
       refine ent_value (ov_assign rfl) rfl rfl rfl ?_
       refine ent_nil ?_
       refine ent_block ?_
       refine ent_loop (fun k a w => ∃ i20, ∃ i21, ossuaryref04_Number_l1 K a0 a1 k i20 i21 = some x50 ∧ St 51 w0 F [(0, (int .i64 a0)), (1, (int .i64 a1)), (2, (int .i64 a2)), (8, (int .i64 i20)), (10, (int .i64 i21))] [] a w) K ?_ ?_
       ·exact ent_fin [] (by decide) rfl (sub_cons (t := 0) rfl (sub_cons (t := 1) rfl (sub_cons (t := 2) rfl (sub_cons (t := 8) rfl (sub_cons (t := 10) rfl (sub_nil _)))))) fun a w h => ⟨_, _, H11, h⟩
       ·refine fun k => ent_exi fun i20 => ent_exi fun i21 => ent_and fun H12 => ?_
        cases k with
        | zero => exact absurd H12 (by simp [ossuaryref04_Number_l1])
        | succ k =>
         rw [ossuaryref04_Number_l1] at H12
         refine ent_seq ?_
         refine ent_seq ?_
         refine ent_region ?_
         refine ent_value (ov_move rfl) rfl rfl rfl ?_
         refine ent_value (ov_move rfl) rfl rfl rfl ?_
         refine ent_value (ov_bin rfl rfl (b_lss _ _ _)) rfl rfl rfl ?_
         refine ent_nil ?_
         by_cases c64 : i21 < a1
         ·rw [if_pos c64] at H12
          refine ent_cond_true rfl (decide_eq_true c64) ?_
          refine ent_skip ?_
          refine ent_seq ?_
          refine ent_block ?_
          refine ent_region ?_
          refine ent_value (ov_move rfl) rfl rfl rfl ?_
          refine ent_value (ov_move rfl) rfl rfl rfl ?_
          refine ent_value (ov_move rfl) rfl rfl rfl ?_
          obtain ⟨x56, h52, H12⟩ := thn_elim H12
          refine ent_op (ot_call0 (first := []) (cap := []) (xs := [.tmp 43, .tmp 44]) rfl rfl F_call_172 rfl (ossuaryref04_Length.spec a0 i21 _ h52)) rfl rfl rfl ?_
          rintro _ _ ⟨rfl, rfl⟩
          refine ent_value (ov_bin rfl rfl (b_add _ _ _) ) rfl rfl rfl ?_
          refine ent_value (ov_assign rfl) rfl rfl rfl ?_
          refine ent_nil ?_
          refine ent_region ?_
          refine ent_value (ov_move rfl) rfl rfl rfl ?_
          refine ent_value (ov_bin rfl rfl (b_add _ _ _) ) rfl rfl rfl ?_
          refine ent_value (ov_assign rfl) rfl rfl rfl ?_
          refine ent_nil ?_
          exact ent_fin [] (by decide) rfl (sub_cons (t := 0) rfl (sub_cons (t := 1) rfl (sub_cons (t := 2) rfl (sub_cons (t := 8) rfl (sub_cons (t := 10) rfl (sub_nil _)))))) fun a w h => ⟨k, Nat.lt_succ_self k, _, _, H12, h⟩
         ·rw [if_neg c64] at H12
          refine ent_cond_false rfl (decide_eq_false c64) ?_
          refine ent_exit ?_
          cases H12
          exact ent_fin [] (by decide) rfl (sub_cons (t := 2) rfl (sub_cons (t := 8) rfl (sub_nil _))) fun a w h => h
      ·refine ent_seq ?_
       refine ent_region ?_
       refine ent_value (ov_move rfl) rfl rfl rfl ?_
       refine ent_value (ov_move rfl) rfl rfl rfl ?_
       refine ent_value (ov_bin rfl rfl (b_add _ _ _) ) rfl rfl rfl ?_
       refine ent_value (ov_bin rfl rfl (b_sub _ _ _) ) rfl rfl rfl ?_
       refine ent_value (ov_assign rfl) rfl rfl rfl ?_
       refine ent_value (ov_assign rfl) rfl rfl rfl ?_
       refine ent_nil ?_
       refine ent_retc ?_
       cases H
       refine ent_pick [] (by decide) rfl ?_
       exact ret_mem (vs := [(int .i64 (w64 ((w64 (x50 + a2)) - 1))), (bool true)]) rfl ⟨rfl, ⟨rfl, trivial⟩⟩ _ rfl ⟨rfl, rfl⟩

set_option maxRecDepth 100000 in
theorem ossuaryref04_Span.spec (K : Nat) (a0 : Int) (r : (Int × Int)) (H : ossuaryref04_Span K a0 = some r) : FnSpec Try.prog 136 [(int .i64 a0)] [] (fun v M => v = (Value.tuple #[(int .i64 r.1), (int .i64 r.2)]) ∧ M = []) := by
 unfold ossuaryref04_Span at H
 refine spec_of Try.func136 rfl 26 rfl (Nat.le_of_ble_eq_true rfl) fun F w0 => ?_
 show Ent (St 26 w0 F [(0, (int .i64 a0))] []) _
 refine ent_seq ?_
 refine ent_region ?_
 refine ent_value (ov_assign rfl) rfl rfl rfl ?_
 refine ent_value (ov_assign rfl) rfl rfl rfl ?_
 refine ent_nil ?_
 refine ent_seq ?_
 refine ent_region ?_
 refine ent_value (ov_move rfl) rfl rfl rfl ?_
 refine ent_value (ov_bin rfl rfl fun w => b_quo _ _ _ w (by decide)) rfl rfl rfl ?_
 refine ent_value (ov_bin rfl rfl (b_add _ _ _) ) rfl rfl rfl ?_
 refine ent_value (ov_assign rfl) rfl rfl rfl ?_
 refine ent_nil ?_
 refine ent_seq ?_
 refine ent_region ?_
 refine ent_value (ov_move rfl) rfl rfl rfl ?_
 refine ent_value (ov_bin rfl rfl fun w => b_rem _ _ _ w (by decide)) rfl rfl rfl ?_
 refine ent_value (ov_bin rfl rfl (b_add _ _ _) ) rfl rfl rfl ?_
 refine ent_value (ov_assign rfl) rfl rfl rfl ?_
 refine ent_nil ?_
 refine ent_seq ?_
 refine ent_region ?_
 refine ent_value (ov_move rfl) rfl rfl rfl ?_
 refine ent_value (ov_move rfl) rfl rfl rfl ?_
 obtain ⟨x3, h3, H⟩ := Option.bind_eq_some_iff.1 H
 refine ent_op (ot_call0 (first := []) (cap := []) (xs := [.tmp 15, .tmp 16, .const (int .i64 1)]) rfl rfl F_call_171 rfl (ossuaryref04_Number.spec K (w64 (1970 + (w64 (Int.tdiv a0 12)))) (w64 ((Int.tmod a0 12) + 1)) 1 _ h3)) rfl rfl rfl ?_
 rintro _ _ ⟨rfl, rfl⟩
 refine ent_value (ov_move rfl) rfl rfl rfl ?_
 refine ent_value (ov_extract rfl rfl) rfl rfl rfl ?_
 refine ent_value (ov_extract rfl rfl) rfl rfl rfl ?_
 refine ent_value (ov_assign rfl) rfl rfl rfl ?_
 refine ent_value (ov_assign rfl) rfl rfl rfl ?_
 refine ent_nil ?_
 refine ent_seq ?_
 refine ent_region ?_
 refine ent_value (ov_move rfl) rfl rfl rfl ?_
 refine ent_value (ov_move rfl) rfl rfl rfl ?_
 refine ent_value (ov_move rfl) rfl rfl rfl ?_
 refine ent_value (ov_move rfl) rfl rfl rfl ?_
 obtain ⟨x4, h4, H⟩ := thn_elim H
 refine ent_op (ot_call0 (first := []) (cap := []) (xs := [.tmp 22, .tmp 23]) rfl rfl F_call_172 rfl (ossuaryref04_Length.spec (w64 (1970 + (w64 (Int.tdiv a0 12)))) (w64 ((Int.tmod a0 12) + 1)) _ h4)) rfl rfl rfl ?_
 rintro _ _ ⟨rfl, rfl⟩
 refine ent_value (ov_bin rfl rfl (b_add _ _ _) ) rfl rfl rfl ?_
 refine ent_value (ov_assign rfl) rfl rfl rfl ?_
 refine ent_value (ov_assign rfl) rfl rfl rfl ?_
 refine ent_nil ?_
 refine ent_retc ?_
 cases H
 refine ent_pick [] (by decide) rfl ?_
 exact ret_mem (vs := [(int .i64 x3.1), (int .i64 (w64 (x3.1 + x4)))]) rfl ⟨rfl, ⟨rfl, trivial⟩⟩ _ rfl ⟨rfl, rfl⟩

set_option maxRecDepth 100000 in
theorem ossuaryref19_Span.spec (K : Nat) (a0_0 : Int) (a0_1 : Int) (r : (Int × Int)) (H : ossuaryref19_Span K a0_0 a0_1 = some r) : FnSpec Try.prog 85 [(agg #[(int .i64 a0_0), (int .i64 a0_1)])] [] (fun v M => v = (Value.tuple #[(int .i64 r.1), (int .i64 r.2)]) ∧ M = []) := by
 unfold ossuaryref19_Span at H
 refine spec_of Try.func85 rfl 37 rfl (Nat.le_of_ble_eq_true rfl) fun F w0 => ?_
 show Ent (St 37 w0 F [(0, (agg #[(int .i64 a0_0), (int .i64 a0_1)]))] []) _
 refine ent_seq ?_
 refine ent_region ?_
 refine ent_op (ot_box (cs := [(int .i64 a0_0), (int .i64 a0_1)]) rfl rfl) rfl rfl rfl ?_
 rintro _ _ ⟨b2, rfl, rfl⟩
 refine ent_value (ov_assign rfl) rfl rfl rfl ?_
 refine ent_value (ov_assign rfl) rfl rfl rfl ?_
 refine ent_nil ?_
 refine ent_seq ?_
 refine ent_seq ?_
 refine ent_region ?_
 refine ent_value (ov_load_agg (vs := [(int .i64 a0_0), (int .i64 a0_1)]) rfl F_agg_63 F_size_63 (reads_boxW (i := 0) rfl)) rfl rfl rfl ?_
 obtain ⟨x5, h5, H⟩ := Option.bind_eq_some_iff.1 H
 refine ent_op (ot_call0 (first := []) (cap := []) (xs := [.tmp 6]) rfl rfl F_call_135 rfl (ossuaryref19_Right.spec K a0_0 a0_1 _ h5)) rfl rfl rfl ?_
 rintro _ _ ⟨rfl, rfl⟩
 refine ent_value (ov_un rfl (u_not _)) rfl rfl rfl ?_
 refine ent_nil ?_
 by_cases c8 : (!x5) = true
 ·rw [if_pos c8] at H
  refine ent_cond_true rfl c8 ?_
  refine ent_seq ?_
  refine ent_region ?_
  refine ent_value (ov_assign rfl) rfl rfl rfl ?_
  refine ent_value (ov_assign rfl) rfl rfl rfl ?_
  refine ent_nil ?_
  refine ent_retc ?_
  cases H
  refine ent_pick [] (by decide) rfl ?_
  exact ret_mem (vs := [(int .i64 0), (int .i64 0)]) rfl ⟨rfl, ⟨rfl, trivial⟩⟩ _ rfl ⟨rfl, rfl⟩
 ·rw [if_neg c8] at H
  refine ent_cond_false rfl (Bool.eq_false_iff.2 c8) ?_
  refine ent_skip ?_
  refine ent_seq ?_
  refine ent_seq ?_
  refine ent_region ?_
  refine ent_value (ov_fieldAddr (sz := 0) (o := 0) rfl F_field_63_0 F_size_3) rfl rfl rfl ?_
  refine ent_value (ov_load (v := (int .i64 a0_0)) rfl F_agg_3 (reads_box1 (i := 0) rfl rfl)) rfl rfl rfl ?_
  refine ent_nil ?_
  refine ent_block ?_
  refine ent_seq ?_
  refine ent_region ?_
  refine ent_value (ov_bin rfl rfl (b_eql _ _ _)) rfl rfl rfl ?_
  refine ent_value (ov_assign rfl) rfl rfl rfl ?_
  refine ent_nil ?_
  by_cases c11 : a0_0 = 1
  ·rw [if_pos c11] at H
   refine ent_cond_true rfl (eq_t c11) ?_
   refine ent_seq ?_
   refine ent_drawm 7 rfl (fun done a w => StD 37 w0 F [(0, (agg #[(int .i64 a0_0), (int .i64 a0_1)])), (1, (pt b2 0)), (6, (agg #[(int .i64 a0_0), (int .i64 a0_1)])), (7, (bool x5)), (8, (bool (!x5))), (9, (pt b2 0)), (10, (int .i64 a0_0)), (11, (bool (a0_0 == 1))), (12, (bool (a0_0 == 1)))] [(0, 13, (pt b2 1)), (1, 14, (int .i64 a0_1)), (2, 15, (pt b2 1)), (3, 16, (int .i64 a0_1)), (4, 17, (int .i64 (w64 (a0_1 + 1)))), (5, 2, (int .i64 a0_1)), (6, 3, (int .i64 (w64 (a0_1 + 1))))] done [(box b2 63 [(int .i64 a0_0), (int .i64 a0_1)])] a w) (by kernel_rfl) (by kernel_rfl) (draw_startL (sub_cons (t := 0) rfl (sub_cons (t := 1) rfl (sub_cons (t := 6) rfl (sub_cons (t := 7) rfl (sub_cons (t := 8) rfl (sub_cons (t := 9) rfl (sub_cons (t := 10) rfl (sub_cons (t := 11) rfl (sub_cons (t := 12) rfl (sub_nil _)))))))))) rfl) ?_ ?_
   ·refine ⟨?_, ?_, ?_, ?_, ?_, ?_, ?_, trivial⟩
    ·intro done hi hc hcu
     exact draw_value (i := 0) (t := 13) (v := (pt b2 1)) rfl rfl (wanted_none rfl) (fun a => hasA_base) (ov_fieldAddr (sz := 0) (o := 0) rfl F_field_63_1 F_size_2) rfl rfl (onlyT_spec (k0 := 0) rfl rfl rfl)
    ·intro done hi hc hcu
     have d0 : done 0 = true := done_of (j := 0) hcu rfl (by decide) rfl
     exact draw_value (i := 1) (t := 14) (v := (int .i64 a0_1)) rfl rfl (wanted_none rfl) (fun a => (hasA_cons (k := 0) rfl d0 hasA_base)) (ov_load (v := (int .i64 a0_1)) rfl F_agg_2 (reads_box1 (i := 0) rfl rfl)) rfl rfl (onlyT_spec (k0 := 1) rfl rfl rfl)
    ·intro done hi hc hcu
     exact draw_value (i := 2) (t := 15) (v := (pt b2 1)) rfl rfl (wanted_none rfl) (fun a => hasA_base) (ov_fieldAddr (sz := 0) (o := 0) rfl F_field_63_1 F_size_2) rfl rfl (onlyT_spec (k0 := 2) rfl rfl rfl)
    ·intro done hi hc hcu
     have d2 : done 2 = true := done_of (j := 2) hcu rfl (by decide) rfl
     exact draw_value (i := 3) (t := 16) (v := (int .i64 a0_1)) rfl rfl (wanted_none rfl) (fun a => (hasA_cons (k := 2) rfl d2 hasA_base)) (ov_load (v := (int .i64 a0_1)) rfl F_agg_2 (reads_box1 (i := 0) rfl rfl)) rfl rfl (onlyT_spec (k0 := 3) rfl rfl rfl)
    ·intro done hi hc hcu
     have d3 : done 3 = true := done_of (j := 3) hcu rfl (by decide) rfl
     exact draw_value (i := 4) (t := 17) (v := (int .i64 (w64 (a0_1 + 1)))) rfl rfl (wanted_none rfl) (fun a => (hasA_cons (k := 3) rfl d3 hasA_base)) (ov_bin rfl rfl (b_add _ _ _) ) rfl rfl (onlyT_spec (k0 := 4) rfl rfl rfl)
    ·intro done hi hc hcu
     have d1 : done 1 = true := done_of (j := 1) hcu rfl (by decide) rfl
     exact draw_value (i := 5) (t := 2) (v := (int .i64 a0_1)) rfl rfl (wanted_none rfl) (fun a => (hasA_cons (k := 1) rfl d1 hasA_base)) (ov_assign rfl) rfl rfl (onlyT_spec (k0 := 5) rfl rfl rfl)
    ·intro done hi hc hcu
     have d4 : done 4 = true := done_of (j := 4) hcu rfl (by decide) rfl
     exact draw_value (i := 6) (t := 3) (v := (int .i64 (w64 (a0_1 + 1)))) rfl rfl (wanted_none rfl) (fun a => (hasA_cons (k := 4) rfl d4 hasA_base)) (ov_assign rfl) rfl rfl (onlyT_spec (k0 := 6) rfl rfl rfl)
   ·intro done hall
    refine draw_endL [(box b2 63 [(int .i64 a0_0), (int .i64 a0_1)])] rfl (fun a => (hasA_cons (k := 5) rfl (hall 5 (by decide)) (hasA_cons (k := 6) rfl (hall 6 (by decide)) (hasA_cons (k := 0) rfl (hall 0 (by decide)) (hasA_cons (k := 1) rfl (hall 1 (by decide)) (hasA_cons (k := 2) rfl (hall 2 (by decide)) (hasA_cons (k := 3) rfl (hall 3 (by decide)) (hasA_cons (k := 4) rfl (hall 4 (by decide)) hasA_base)))))))) ?_
    refine ent_retc ?_
    cases H
    refine ent_pick [] (by decide) rfl ?_
    exact ret_mem (vs := [(int .i64 a0_1), (int .i64 (w64 (a0_1 + 1)))]) rfl ⟨rfl, ⟨rfl, trivial⟩⟩ _ rfl ⟨rfl, rfl⟩
  ·rw [if_neg c11] at H
   refine ent_cond_false rfl (eq_f c11) ?_
   refine ent_seq ?_
   refine ent_region ?_
   refine ent_value (ov_bin rfl rfl (b_eql _ _ _)) rfl rfl rfl ?_
   refine ent_value (ov_assign rfl) rfl rfl rfl ?_
   refine ent_nil ?_
   by_cases c12 : a0_0 = 2
   ·rw [if_pos c12] at H
    refine ent_cond_true rfl (eq_t c12) ?_
    refine ent_seq ?_
    refine ent_drawm 9 rfl (fun done a w => StD 37 w0 F [(0, (agg #[(int .i64 a0_0), (int .i64 a0_1)])), (1, (pt b2 0)), (6, (agg #[(int .i64 a0_0), (int .i64 a0_1)])), (7, (bool x5)), (8, (bool (!x5))), (9, (pt b2 0)), (10, (int .i64 a0_0)), (11, (bool (a0_0 == 1))), (12, (bool (a0_0 == 1))), (18, (bool (a0_0 == 2))), (19, (bool (a0_0 == 2)))] [(0, 20, (pt b2 1)), (1, 21, (int .i64 a0_1)), (2, 22, (int .i64 (w64 (24 * a0_1)))), (3, 23, (pt b2 1)), (4, 24, (int .i64 a0_1)), (5, 25, (int .i64 (w64 (a0_1 + 1)))), (6, 26, (int .i64 (w64 (24 * (w64 (a0_1 + 1)))))), (7, 2, (int .i64 (w64 (24 * a0_1)))), (8, 3, (int .i64 (w64 (24 * (w64 (a0_1 + 1))))))] done [(box b2 63 [(int .i64 a0_0), (int .i64 a0_1)])] a w) (by kernel_rfl) (by kernel_rfl) (draw_startL (sub_cons (t := 0) rfl (sub_cons (t := 1) rfl (sub_cons (t := 6) rfl (sub_cons (t := 7) rfl (sub_cons (t := 8) rfl (sub_cons (t := 9) rfl (sub_cons (t := 10) rfl (sub_cons (t := 11) rfl (sub_cons (t := 12) rfl (sub_cons (t := 18) rfl (sub_cons (t := 19) rfl (sub_nil _)))))))))))) rfl) ?_ ?_
    ·refine ⟨?_, ?_, ?_, ?_, ?_, ?_, ?_, ?_, ?_, trivial⟩
     ·intro done hi hc hcu
      exact draw_value (i := 0) (t := 20) (v := (pt b2 1)) rfl rfl (wanted_none rfl) (fun a => hasA_base) (ov_fieldAddr (sz := 0) (o := 0) rfl F_field_63_1 F_size_2) rfl rfl (onlyT_spec (k0 := 0) rfl rfl rfl)
     ·intro done hi hc hcu
      have d0 : done 0 = true := done_of (j := 0) hcu rfl (by decide) rfl
      exact draw_value (i := 1) (t := 21) (v := (int .i64 a0_1)) rfl rfl (wanted_none rfl) (fun a => (hasA_cons (k := 0) rfl d0 hasA_base)) (ov_load (v := (int .i64 a0_1)) rfl F_agg_2 (reads_box1 (i := 0) rfl rfl)) rfl rfl (onlyT_spec (k0 := 1) rfl rfl rfl)
     ·intro done hi hc hcu
      have d1 : done 1 = true := done_of (j := 1) hcu rfl (by decide) rfl
      exact draw_value (i := 2) (t := 22) (v := (int .i64 (w64 (24 * a0_1)))) rfl rfl (wanted_none rfl) (fun a => (hasA_cons (k := 1) rfl d1 hasA_base)) (ov_bin rfl rfl (b_mul _ _ _) ) rfl rfl (onlyT_spec (k0 := 2) rfl rfl rfl)
     ·intro done hi hc hcu
      exact draw_value (i := 3) (t := 23) (v := (pt b2 1)) rfl rfl (wanted_none rfl) (fun a => hasA_base) (ov_fieldAddr (sz := 0) (o := 0) rfl F_field_63_1 F_size_2) rfl rfl (onlyT_spec (k0 := 3) rfl rfl rfl)
     ·intro done hi hc hcu
      have d3 : done 3 = true := done_of (j := 3) hcu rfl (by decide) rfl
      exact draw_value (i := 4) (t := 24) (v := (int .i64 a0_1)) rfl rfl (wanted_none rfl) (fun a => (hasA_cons (k := 3) rfl d3 hasA_base)) (ov_load (v := (int .i64 a0_1)) rfl F_agg_2 (reads_box1 (i := 0) rfl rfl)) rfl rfl (onlyT_spec (k0 := 4) rfl rfl rfl)
     ·intro done hi hc hcu
      have d4 : done 4 = true := done_of (j := 4) hcu rfl (by decide) rfl
      exact draw_value (i := 5) (t := 25) (v := (int .i64 (w64 (a0_1 + 1)))) rfl rfl (wanted_none rfl) (fun a => (hasA_cons (k := 4) rfl d4 hasA_base)) (ov_bin rfl rfl (b_add _ _ _) ) rfl rfl (onlyT_spec (k0 := 5) rfl rfl rfl)
     ·intro done hi hc hcu
      have d5 : done 5 = true := done_of (j := 5) hcu rfl (by decide) rfl
      exact draw_value (i := 6) (t := 26) (v := (int .i64 (w64 (24 * (w64 (a0_1 + 1)))))) rfl rfl (wanted_none rfl) (fun a => (hasA_cons (k := 5) rfl d5 hasA_base)) (ov_bin rfl rfl (b_mul _ _ _) ) rfl rfl (onlyT_spec (k0 := 6) rfl rfl rfl)
     ·intro done hi hc hcu
      have d2 : done 2 = true := done_of (j := 2) hcu rfl (by decide) rfl
      exact draw_value (i := 7) (t := 2) (v := (int .i64 (w64 (24 * a0_1)))) rfl rfl (wanted_none rfl) (fun a => (hasA_cons (k := 2) rfl d2 hasA_base)) (ov_assign rfl) rfl rfl (onlyT_spec (k0 := 7) rfl rfl rfl)
     ·intro done hi hc hcu
      have d6 : done 6 = true := done_of (j := 6) hcu rfl (by decide) rfl
      exact draw_value (i := 8) (t := 3) (v := (int .i64 (w64 (24 * (w64 (a0_1 + 1)))))) rfl rfl (wanted_none rfl) (fun a => (hasA_cons (k := 6) rfl d6 hasA_base)) (ov_assign rfl) rfl rfl (onlyT_spec (k0 := 8) rfl rfl rfl)
    ·intro done hall
     refine draw_endL [(box b2 63 [(int .i64 a0_0), (int .i64 a0_1)])] rfl (fun a => (hasA_cons (k := 7) rfl (hall 7 (by decide)) (hasA_cons (k := 8) rfl (hall 8 (by decide)) (hasA_cons (k := 0) rfl (hall 0 (by decide)) (hasA_cons (k := 1) rfl (hall 1 (by decide)) (hasA_cons (k := 2) rfl (hall 2 (by decide)) (hasA_cons (k := 3) rfl (hall 3 (by decide)) (hasA_cons (k := 4) rfl (hall 4 (by decide)) (hasA_cons (k := 5) rfl (hall 5 (by decide)) (hasA_cons (k := 6) rfl (hall 6 (by decide)) hasA_base)))))))))) ?_
     refine ent_retc ?_
     cases H
     refine ent_pick [] (by decide) rfl ?_
     exact ret_mem (vs := [(int .i64 (w64 (24 * a0_1))), (int .i64 (w64 (24 * (w64 (a0_1 + 1)))))]) rfl ⟨rfl, ⟨rfl, trivial⟩⟩ _ rfl ⟨rfl, rfl⟩
   ·rw [if_neg c12] at H
    refine ent_cond_false rfl (eq_f c12) ?_
    refine ent_skip ?_
    refine ent_seq ?_
    refine ent_region ?_
    refine ent_value (ov_fieldAddr (sz := 0) (o := 0) rfl F_field_63_1 F_size_2) rfl rfl rfl ?_
    refine ent_value (ov_load (v := (int .i64 a0_1)) rfl F_agg_2 (reads_box1 (i := 0) rfl rfl)) rfl rfl rfl ?_
    obtain ⟨x6, h6, H⟩ := Option.bind_eq_some_iff.1 H
    refine ent_op (ot_call0 (first := []) (cap := []) (xs := [.tmp 29]) rfl rfl F_call_136 rfl (ossuaryref04_Span.spec K a0_1 _ h6)) rfl rfl rfl ?_
    rintro _ _ ⟨rfl, rfl⟩
    refine ent_value (ov_move rfl) rfl rfl rfl ?_
    refine ent_value (ov_extract rfl rfl) rfl rfl rfl ?_
    refine ent_value (ov_extract rfl rfl) rfl rfl rfl ?_
    refine ent_value (ov_assign rfl) rfl rfl rfl ?_
    refine ent_value (ov_assign rfl) rfl rfl rfl ?_
    refine ent_nil ?_
    refine ent_seq ?_
    refine ent_region ?_
    refine ent_value (ov_move rfl) rfl rfl rfl ?_
    refine ent_value (ov_bin rfl rfl (b_mul _ _ _) ) rfl rfl rfl ?_
    refine ent_value (ov_move rfl) rfl rfl rfl ?_
    refine ent_value (ov_bin rfl rfl (b_mul _ _ _) ) rfl rfl rfl ?_
    refine ent_value (ov_assign rfl) rfl rfl rfl ?_
    refine ent_value (ov_assign rfl) rfl rfl rfl ?_
    refine ent_nil ?_
    refine ent_retc ?_
    cases H
    refine ent_pick [] (by decide) rfl ?_
    exact ret_mem (vs := [(int .i64 (w64 (24 * x6.1))), (int .i64 (w64 (24 * x6.2)))]) rfl ⟨rfl, ⟨rfl, trivial⟩⟩ _ rfl ⟨rfl, rfl⟩

set_option maxRecDepth 100000 in
theorem ossuaryref19_Meets.spec (K : Nat) (a0_0 : Int) (a0_1 : Int) (a1_0 : Int) (a1_1 : Int) (r : Bool) (H : ossuaryref19_Meets K a0_0 a0_1 a1_0 a1_1 = some r) : FnSpec Try.prog 108 [(agg #[(int .i64 a0_0), (int .i64 a0_1)]), (agg #[(int .i64 a1_0), (int .i64 a1_1)])] [] (fun v M => v = (bool r) ∧ M = []) := by
 unfold ossuaryref19_Meets at H
 refine spec_of Try.func108 rfl 35 rfl (Nat.le_of_ble_eq_true rfl) fun F w0 => ?_
 show Ent (St 35 w0 F [(0, (agg #[(int .i64 a0_0), (int .i64 a0_1)])), (1, (agg #[(int .i64 a1_0), (int .i64 a1_1)]))] []) _
 refine ent_seq ?_
 refine ent_region ?_
 refine ent_op (ot_box (cs := [(int .i64 a0_0), (int .i64 a0_1)]) rfl rfl) rfl rfl rfl ?_
 rintro _ _ ⟨b3, rfl, rfl⟩
 refine ent_op (ot_box (cs := [(int .i64 a1_0), (int .i64 a1_1)]) rfl rfl) rfl rfl rfl ?_
 rintro _ _ ⟨b4, rfl, rfl⟩
 refine ent_value (ov_assign rfl) rfl rfl rfl ?_
 refine ent_nil ?_
 refine ent_seq ?_
 refine ent_region ?_
 refine ent_value (ov_load_agg (vs := [(int .i64 a0_0), (int .i64 a0_1)]) rfl F_agg_63 F_size_63 (reads_boxW (i := 1) rfl)) rfl rfl rfl ?_
 obtain ⟨x5, h5, H⟩ := Option.bind_eq_some_iff.1 H
 refine ent_op (ot_call0 (first := []) (cap := []) (xs := [.tmp 10]) rfl rfl F_call_85 rfl (ossuaryref19_Span.spec K a0_0 a0_1 _ h5)) rfl rfl rfl ?_
 rintro _ _ ⟨rfl, rfl⟩
 refine ent_value (ov_move rfl) rfl rfl rfl ?_
 refine ent_value (ov_extract rfl rfl) rfl rfl rfl ?_
 refine ent_value (ov_extract rfl rfl) rfl rfl rfl ?_
 refine ent_value (ov_assign rfl) rfl rfl rfl ?_
 refine ent_value (ov_assign rfl) rfl rfl rfl ?_
 refine ent_nil ?_
 refine ent_seq ?_
 refine ent_region ?_
 refine ent_value (ov_load_agg (vs := [(int .i64 a1_0), (int .i64 a1_1)]) rfl F_agg_63 F_size_63 (reads_boxW (i := 0) rfl)) rfl rfl rfl ?_
 obtain ⟨x6, h6, H⟩ := Option.bind_eq_some_iff.1 H
 refine ent_op (ot_call0 (first := []) (cap := []) (xs := [.tmp 15]) rfl rfl F_call_85 rfl (ossuaryref19_Span.spec K a1_0 a1_1 _ h6)) rfl rfl rfl ?_
 rintro _ _ ⟨rfl, rfl⟩
 refine ent_value (ov_move rfl) rfl rfl rfl ?_
 refine ent_value (ov_extract rfl rfl) rfl rfl rfl ?_
 refine ent_value (ov_extract rfl rfl) rfl rfl rfl ?_
 refine ent_value (ov_assign rfl) rfl rfl rfl ?_
 refine ent_value (ov_assign rfl) rfl rfl rfl ?_
 refine ent_nil ?_
 refine ent_seq ?_
 refine ent_region ?_
 refine ent_value (ov_load_agg (vs := [(int .i64 a0_0), (int .i64 a0_1)]) rfl F_agg_63 F_size_63 (reads_boxW (i := 1) rfl)) rfl rfl rfl ?_
 obtain ⟨x7, h7, H⟩ := Option.bind_eq_some_iff.1 H
 refine ent_op (ot_call0 (first := []) (cap := []) (xs := [.tmp 19]) rfl rfl F_call_135 rfl (ossuaryref19_Right.spec K a0_0 a0_1 _ h7)) rfl rfl rfl ?_
 rintro _ _ ⟨rfl, rfl⟩
 refine ent_value (ov_move rfl) rfl rfl rfl ?_
 by_cases c4 : x7 = true
 ·rw [if_pos c4] at H
  refine ent_value_on (ov_load_agg (vs := [(int .i64 a1_0), (int .i64 a1_1)]) rfl F_agg_63 F_size_63 (reads_boxW (i := 0) rfl)) rfl rfl rfl c4 rfl rfl ?_
  obtain ⟨x8, h8, H⟩ := Option.bind_eq_some_iff.1 H
  refine ent_op_on (ot_call0 (first := []) (cap := []) (xs := [.tmp 22]) rfl rfl F_call_135 rfl (ossuaryref19_Right.spec K a1_0 a1_1 _ h8)) rfl rfl rfl c4 rfl rfl ?_
  rintro _ _ ⟨rfl, rfl⟩
  refine ent_value (ov_pick rfl rfl rfl (pick_t c4)) rfl rfl rfl ?_
  refine ent_value (ov_move rfl) rfl rfl rfl ?_
  by_cases c5 : x8 = true
  ·rw [if_pos c5] at H
   refine ent_value_on (ov_move rfl) rfl rfl rfl c5 rfl rfl ?_
   refine ent_value_on (ov_move rfl) rfl rfl rfl c5 rfl rfl ?_
   refine ent_value_on (ov_bin rfl rfl (b_lss _ _ _)) rfl rfl rfl c5 rfl rfl ?_
   refine ent_value (ov_pick rfl rfl rfl (pick_t c5)) rfl rfl rfl ?_
   refine ent_value (ov_move rfl) rfl rfl rfl ?_
   by_cases c6 : x5.1 < x6.2
   ·rw [if_pos c6] at H
    refine ent_value_on (ov_move rfl) rfl rfl rfl (decide_eq_true c6) rfl rfl ?_
    refine ent_value_on (ov_move rfl) rfl rfl rfl (decide_eq_true c6) rfl rfl ?_
    refine ent_value_on (ov_bin rfl rfl (b_lss _ _ _)) rfl rfl rfl (decide_eq_true c6) rfl rfl ?_
    refine ent_value (ov_pick rfl rfl rfl (pick_t (decide_eq_true c6))) rfl rfl rfl ?_
    refine ent_value (ov_assign rfl) rfl rfl rfl ?_
    refine ent_nil ?_
    refine ent_retc ?_
    cases H
    refine ent_pick [] (by decide) rfl ?_
    exact ret_tmp rfl rfl ⟨rfl, rfl⟩
   ·rw [if_neg c6] at H
    refine ent_off rfl rfl rfl (decide_eq_false c6) rfl rfl ?_
    refine ent_off rfl rfl rfl (decide_eq_false c6) rfl rfl ?_
    refine ent_off rfl rfl rfl (decide_eq_false c6) rfl rfl ?_
    refine ent_value (ov_pick rfl rfl rfl (pick_f (decide_eq_false c6))) rfl rfl rfl ?_
    refine ent_value (ov_assign rfl) rfl rfl rfl ?_
    refine ent_nil ?_
    refine ent_retc ?_
    cases H
    refine ent_pick [] (by decide) rfl ?_
    exact ret_tmp rfl rfl ⟨rfl, rfl⟩
  ·rw [if_neg c5] at H
   refine ent_off rfl rfl rfl (Bool.eq_false_iff.2 c5) rfl rfl ?_
   refine ent_off rfl rfl rfl (Bool.eq_false_iff.2 c5) rfl rfl ?_
   refine ent_off rfl rfl rfl (Bool.eq_false_iff.2 c5) rfl rfl ?_
   refine ent_value (ov_pick rfl rfl rfl (pick_f (Bool.eq_false_iff.2 c5))) rfl rfl rfl ?_
   refine ent_value (ov_move rfl) rfl rfl rfl ?_
   refine ent_off rfl rfl rfl rfl rfl rfl ?_
   refine ent_off rfl rfl rfl rfl rfl rfl ?_
   refine ent_off rfl rfl rfl rfl rfl rfl ?_
   refine ent_value (ov_pick rfl rfl rfl rfl) rfl rfl rfl ?_
   refine ent_value (ov_assign rfl) rfl rfl rfl ?_
   refine ent_nil ?_
   refine ent_retc ?_
   cases H
   refine ent_pick [] (by decide) rfl ?_
   exact ret_tmp rfl rfl ⟨rfl, rfl⟩
 ·rw [if_neg c4] at H
  refine ent_off rfl rfl rfl (Bool.eq_false_iff.2 c4) rfl rfl ?_
  refine ent_off rfl rfl rfl (Bool.eq_false_iff.2 c4) rfl rfl ?_
  refine ent_value (ov_pick rfl rfl rfl (pick_f (Bool.eq_false_iff.2 c4))) rfl rfl rfl ?_
  refine ent_value (ov_move rfl) rfl rfl rfl ?_
  refine ent_off rfl rfl rfl rfl rfl rfl ?_
  refine ent_off rfl rfl rfl rfl rfl rfl ?_
  refine ent_off rfl rfl rfl rfl rfl rfl ?_
  refine ent_value (ov_pick rfl rfl rfl rfl) rfl rfl rfl ?_
  refine ent_value (ov_move rfl) rfl rfl rfl ?_
  refine ent_off rfl rfl rfl rfl rfl rfl ?_
  refine ent_off rfl rfl rfl rfl rfl rfl ?_
  refine ent_off rfl rfl rfl rfl rfl rfl ?_
  refine ent_value (ov_pick rfl rfl rfl rfl) rfl rfl rfl ?_
  refine ent_value (ov_assign rfl) rfl rfl rfl ?_
  refine ent_nil ?_
  refine ent_retc ?_
  cases H
  refine ent_pick [] (by decide) rfl ?_
  exact ret_tmp rfl rfl ⟨rfl, rfl⟩

set_option maxRecDepth 100000 in
theorem ossuaryref19_Less.spec (K : Nat) (a0_0 : Int) (a0_1 : Int) (a1_0 : Int) (a1_1 : Int) (r : Bool) (H : ossuaryref19_Less K a0_0 a0_1 a1_0 a1_1 = some r) : FnSpec Try.prog 175 [(agg #[(int .i64 a0_0), (int .i64 a0_1)]), (agg #[(int .i64 a1_0), (int .i64 a1_1)])] [] (fun v M => v = (bool r) ∧ M = []) := by
 unfold ossuaryref19_Less at H
 refine spec_of Try.func175 rfl 42 rfl (Nat.le_of_ble_eq_true rfl) fun F w0 => ?_
 show Ent (St 42 w0 F [(0, (agg #[(int .i64 a0_0), (int .i64 a0_1)])), (1, (agg #[(int .i64 a1_0), (int .i64 a1_1)]))] []) _
 refine ent_seq ?_
 refine ent_region ?_
 refine ent_op (ot_box (cs := [(int .i64 a0_0), (int .i64 a0_1)]) rfl rfl) rfl rfl rfl ?_
 rintro _ _ ⟨b3, rfl, rfl⟩
 refine ent_op (ot_box (cs := [(int .i64 a1_0), (int .i64 a1_1)]) rfl rfl) rfl rfl rfl ?_
 rintro _ _ ⟨b4, rfl, rfl⟩
 refine ent_value (ov_assign rfl) rfl rfl rfl ?_
 refine ent_nil ?_
 refine ent_seq ?_
 refine ent_region ?_
 refine ent_value (ov_load_agg (vs := [(int .i64 a0_0), (int .i64 a0_1)]) rfl F_agg_63 F_size_63 (reads_boxW (i := 1) rfl)) rfl rfl rfl ?_
 obtain ⟨x5, h5, H⟩ := Option.bind_eq_some_iff.1 H
 refine ent_op (ot_call0 (first := []) (cap := []) (xs := [.tmp 10]) rfl rfl F_call_85 rfl (ossuaryref19_Span.spec K a0_0 a0_1 _ h5)) rfl rfl rfl ?_
 rintro _ _ ⟨rfl, rfl⟩
 refine ent_value (ov_move rfl) rfl rfl rfl ?_
 refine ent_value (ov_extract rfl rfl) rfl rfl rfl ?_
 refine ent_value (ov_extract rfl rfl) rfl rfl rfl ?_
 refine ent_value (ov_assign rfl) rfl rfl rfl ?_
 refine ent_value (ov_assign rfl) rfl rfl rfl ?_
 refine ent_nil ?_
 refine ent_seq ?_
 refine ent_region ?_
 refine ent_value (ov_load_agg (vs := [(int .i64 a1_0), (int .i64 a1_1)]) rfl F_agg_63 F_size_63 (reads_boxW (i := 0) rfl)) rfl rfl rfl ?_
 obtain ⟨x6, h6, H⟩ := Option.bind_eq_some_iff.1 H
 refine ent_op (ot_call0 (first := []) (cap := []) (xs := [.tmp 15]) rfl rfl F_call_85 rfl (ossuaryref19_Span.spec K a1_0 a1_1 _ h6)) rfl rfl rfl ?_
 rintro _ _ ⟨rfl, rfl⟩
 refine ent_value (ov_move rfl) rfl rfl rfl ?_
 refine ent_value (ov_extract rfl rfl) rfl rfl rfl ?_
 refine ent_value (ov_extract rfl rfl) rfl rfl rfl ?_
 refine ent_value (ov_assign rfl) rfl rfl rfl ?_
 refine ent_value (ov_assign rfl) rfl rfl rfl ?_
 refine ent_nil ?_
 refine ent_seq ?_
 refine ent_region ?_
 refine ent_value (ov_load_agg (vs := [(int .i64 a0_0), (int .i64 a0_1)]) rfl F_agg_63 F_size_63 (reads_boxW (i := 1) rfl)) rfl rfl rfl ?_
 obtain ⟨x7, h7, H⟩ := Option.bind_eq_some_iff.1 H
 refine ent_op (ot_call0 (first := []) (cap := []) (xs := [.tmp 19]) rfl rfl F_call_135 rfl (ossuaryref19_Right.spec K a0_0 a0_1 _ h7)) rfl rfl rfl ?_
 rintro _ _ ⟨rfl, rfl⟩
 refine ent_value (ov_move rfl) rfl rfl rfl ?_
 by_cases c5 : x7 = true
 ·rw [if_pos c5] at H
  refine ent_value_on (ov_load_agg (vs := [(int .i64 a1_0), (int .i64 a1_1)]) rfl F_agg_63 F_size_63 (reads_boxW (i := 0) rfl)) rfl rfl rfl c5 rfl rfl ?_
  obtain ⟨x8, h8, H⟩ := Option.bind_eq_some_iff.1 H
  refine ent_op_on (ot_call0 (first := []) (cap := []) (xs := [.tmp 22]) rfl rfl F_call_135 rfl (ossuaryref19_Right.spec K a1_0 a1_1 _ h8)) rfl rfl rfl c5 rfl rfl ?_
  rintro _ _ ⟨rfl, rfl⟩
  refine ent_value (ov_pick rfl rfl rfl (pick_t c5)) rfl rfl rfl ?_
  refine ent_value (ov_move rfl) rfl rfl rfl ?_
  by_cases c6 : x8 = true
  ·rw [if_pos c6] at H
   refine ent_value_on (ov_move rfl) rfl rfl rfl c6 rfl rfl ?_
   refine ent_value_on (ov_move rfl) rfl rfl rfl c6 rfl rfl ?_
   refine ent_value_on (ov_bin rfl rfl (b_lss _ _ _)) rfl rfl rfl c6 rfl rfl ?_
   refine ent_value_on (ov_move rfl) rfl rfl rfl c6 rfl rfl ?_
   by_cases c7 : x5.1 < x6.1
   ·rw [if_pos c7] at H
    refine ent_off rfl rfl rfl (decide_eq_true c7) rfl rfl ?_
    refine ent_off rfl rfl rfl (decide_eq_true c7) rfl rfl ?_
    refine ent_off rfl rfl rfl (decide_eq_true c7) rfl rfl ?_
    refine ent_off rfl rfl rfl (decide_eq_true c7) rfl rfl ?_
    refine ent_offu rfl rfl rfl rfl rfl ?_
    refine ent_offu rfl rfl rfl rfl rfl ?_
    refine ent_offu rfl rfl rfl rfl rfl ?_
    refine ent_offu rfl rfl rfl rfl rfl ?_
    refine ent_offu rfl rfl rfl rfl rfl ?_
    refine ent_off rfl rfl rfl (decide_eq_true c7) rfl rfl ?_
    refine ent_value_on (ov_pick rfl rfl rfl (pick_t (decide_eq_true c7))) rfl rfl rfl c6 rfl rfl ?_
    refine ent_value (ov_pick rfl rfl rfl (pick_t c6)) rfl rfl rfl ?_
    refine ent_value (ov_assign rfl) rfl rfl rfl ?_
    refine ent_nil ?_
    refine ent_retc ?_
    cases H
    refine ent_pick [] (by decide) rfl ?_
    exact ret_tmp rfl rfl ⟨rfl, rfl⟩
   ·rw [if_neg c7] at H
    refine ent_value_on (ov_move rfl) rfl rfl rfl (decide_eq_false c7) rfl rfl ?_
    refine ent_value_on (ov_move rfl) rfl rfl rfl (decide_eq_false c7) rfl rfl ?_
    refine ent_value_on (ov_bin rfl rfl (b_eql _ _ _)) rfl rfl rfl (decide_eq_false c7) rfl rfl ?_
    refine ent_value_on (ov_move rfl) rfl rfl rfl (decide_eq_false c7) rfl rfl ?_
    by_cases c8 : x5.1 = x6.1
    ·rw [if_pos c8] at H
     refine ent_value_on (ov_fieldAddr (sz := 0) (o := 0) rfl F_field_63_0 F_size_3) rfl rfl rfl (eq_t c8) rfl rfl ?_
     refine ent_value_on (ov_load (v := (int .i64 a0_0)) rfl F_agg_3 (reads_box1 (i := 1) rfl rfl)) rfl rfl rfl (eq_t c8) rfl rfl ?_
     refine ent_value_on (ov_fieldAddr (sz := 0) (o := 0) rfl F_field_63_0 F_size_3) rfl rfl rfl (eq_t c8) rfl rfl ?_
     refine ent_value_on (ov_load (v := (int .i64 a1_0)) rfl F_agg_3 (reads_box1 (i := 0) rfl rfl)) rfl rfl rfl (eq_t c8) rfl rfl ?_
     refine ent_value_on (ov_bin rfl rfl (b_lss _ _ _)) rfl rfl rfl (eq_t c8) rfl rfl ?_
     refine ent_value_on (ov_pick rfl rfl rfl (pick_t (eq_t c8))) rfl rfl rfl (decide_eq_false c7) rfl rfl ?_
     refine ent_value_on (ov_pick rfl rfl rfl (pick_f (decide_eq_false c7))) rfl rfl rfl c6 rfl rfl ?_
     refine ent_value (ov_pick rfl rfl rfl (pick_t c6)) rfl rfl rfl ?_
     refine ent_value (ov_assign rfl) rfl rfl rfl ?_
     refine ent_nil ?_
     refine ent_retc ?_
     cases H
     refine ent_pick [] (by decide) rfl ?_
     exact ret_tmp rfl rfl ⟨rfl, rfl⟩
    ·rw [if_neg c8] at H
     refine ent_off rfl rfl rfl (eq_f c8) rfl rfl ?_
     refine ent_off rfl rfl rfl (eq_f c8) rfl rfl ?_
     refine ent_off rfl rfl rfl (eq_f c8) rfl rfl ?_
     refine ent_off rfl rfl rfl (eq_f c8) rfl rfl ?_
     refine ent_off rfl rfl rfl (eq_f c8) rfl rfl ?_
     refine ent_value_on (ov_pick rfl rfl rfl (pick_f (eq_f c8))) rfl rfl rfl (decide_eq_false c7) rfl rfl ?_
     refine ent_value_on (ov_pick rfl rfl rfl (pick_f (decide_eq_false c7))) rfl rfl rfl c6 rfl rfl ?_
     refine ent_value (ov_pick rfl rfl rfl (pick_t c6)) rfl rfl rfl ?_
     refine ent_value (ov_assign rfl) rfl rfl rfl ?_
     refine ent_nil ?_
     refine ent_retc ?_
     cases H
     refine ent_pick [] (by decide) rfl ?_
     exact ret_tmp rfl rfl ⟨rfl, rfl⟩
  ·rw [if_neg c6] at H
   refine ent_off rfl rfl rfl (Bool.eq_false_iff.2 c6) rfl rfl ?_
   refine ent_off rfl rfl rfl (Bool.eq_false_iff.2 c6) rfl rfl ?_
   refine ent_off rfl rfl rfl (Bool.eq_false_iff.2 c6) rfl rfl ?_
   refine ent_off rfl rfl rfl (Bool.eq_false_iff.2 c6) rfl rfl ?_
   refine ent_offu rfl rfl rfl rfl rfl ?_
   refine ent_offu rfl rfl rfl rfl rfl ?_
   refine ent_offu rfl rfl rfl rfl rfl ?_
   refine ent_offu rfl rfl rfl rfl rfl ?_
   refine ent_offu rfl rfl rfl rfl rfl ?_
   refine ent_offu rfl rfl rfl rfl rfl ?_
   refine ent_offu rfl rfl rfl rfl rfl ?_
   refine ent_offu rfl rfl rfl rfl rfl ?_
   refine ent_offu rfl rfl rfl rfl rfl ?_
   refine ent_offu rfl rfl rfl rfl rfl ?_
   refine ent_off rfl rfl rfl (Bool.eq_false_iff.2 c6) rfl rfl ?_
   refine ent_value (ov_pick rfl rfl rfl (pick_f (Bool.eq_false_iff.2 c6))) rfl rfl rfl ?_
   refine ent_value (ov_assign rfl) rfl rfl rfl ?_
   refine ent_nil ?_
   refine ent_retc ?_
   cases H
   refine ent_pick [] (by decide) rfl ?_
   exact ret_tmp rfl rfl ⟨rfl, rfl⟩
 ·rw [if_neg c5] at H
  refine ent_off rfl rfl rfl (Bool.eq_false_iff.2 c5) rfl rfl ?_
  refine ent_off rfl rfl rfl (Bool.eq_false_iff.2 c5) rfl rfl ?_
  refine ent_value (ov_pick rfl rfl rfl (pick_f (Bool.eq_false_iff.2 c5))) rfl rfl rfl ?_
  refine ent_value (ov_move rfl) rfl rfl rfl ?_
  refine ent_off rfl rfl rfl rfl rfl rfl ?_
  refine ent_off rfl rfl rfl rfl rfl rfl ?_
  refine ent_off rfl rfl rfl rfl rfl rfl ?_
  refine ent_off rfl rfl rfl rfl rfl rfl ?_
  refine ent_offu rfl rfl rfl rfl rfl ?_
  refine ent_offu rfl rfl rfl rfl rfl ?_
  refine ent_offu rfl rfl rfl rfl rfl ?_
  refine ent_offu rfl rfl rfl rfl rfl ?_
  refine ent_offu rfl rfl rfl rfl rfl ?_
  refine ent_offu rfl rfl rfl rfl rfl ?_
  refine ent_offu rfl rfl rfl rfl rfl ?_
  refine ent_offu rfl rfl rfl rfl rfl ?_
  refine ent_offu rfl rfl rfl rfl rfl ?_
  refine ent_offu rfl rfl rfl rfl rfl ?_
  refine ent_off rfl rfl rfl rfl rfl rfl ?_
  refine ent_value (ov_pick rfl rfl rfl rfl) rfl rfl rfl ?_
  refine ent_value (ov_assign rfl) rfl rfl rfl ?_
  refine ent_nil ?_
  refine ent_retc ?_
  cases H
  refine ent_pick [] (by decide) rfl ?_
  exact ret_tmp rfl rfl ⟨rfl, rfl⟩

end Go.Proofs.Ythdggcleffadeaa.BuildEdits
