/- Printed by gen.py: that the machine's calls do what the plain functions of CatalogEach say. -/
import Derived.Test.YthdggcleffadeaaCatalogEachWalk0
import Derived.Test.YthdggcleffadeaaProg
import Derived.Test.YthdggcleffadeaaEInsert
import Derived.Test.YthdggcleffadeaaCatalogEachPure
set_option linter.unusedVariables false
set_option linter.unusedSimpArgs false
set_option maxHeartbeats 1000000
namespace Go.Proofs.Ythdggcleffadeaa.CatalogEach
open Go Go.RowKit E
open Go.Value (int bool slice agg)

set_option maxRecDepth 100000 in
theorem slices_Insert____omap_pair__int64__api_Entry__omap_pair__int64__api_Entry.spec (sv0 sv1 : Value) (l0 : List Omap_pair__int64__api_Entry) (a1 : Int) (l1 : List Omap_pair__int64__api_Entry) (r : List Omap_pair__int64__api_Entry) (H : slices_Insert____omap_pair__int64__api_Entry__omap_pair__int64__api_Entry l0 a1 l1 = some r) : FnSpec Try.prog 169 [sv0, (int .i64 a1), sv1] [(own sv0 196 7 l0.length (fl enc_Omap_pair__int64__api_Entry l0)), (own sv1 196 7 l1.length (fl enc_Omap_pair__int64__api_Entry l1))] (fun v M => ∃ sv2 : Value, v = sv2 ∧ M = [(own sv2 196 7 r.length (fl enc_Omap_pair__int64__api_Entry r)), (own sv1 196 7 l1.length (fl enc_Omap_pair__int64__api_Entry l1))]) := by
 obtain ⟨i, y, rfl, rfl, hin, hroom, rfl⟩ := insL_inv H
 have hbig : l0.length + 1 ≤ 140737488355328 := by omega
 have hml : maxLen = 9223372036854775807 := rfl
 have hfy : (fl enc_Omap_pair__int64__api_Entry [y]).length = 7 := by rw [fl_length enc_Omap_pair__int64__api_Entry_len]; simp
 have hfd : (fl enc_Omap_pair__int64__api_Entry (l0.drop i)).length = (l0.length - i) * 7 := by rw [fl_length enc_Omap_pair__int64__api_Entry_len]; simp
 refine spec_of Try.func169 rfl 95 rfl (Nat.le_of_ble_eq_true rfl) fun F w0 => ?_
 show Ent (St 95 w0 F [(0, sv0), (1, (int .i64 (i : Int))), (2, sv1)] [(own sv0 196 7 l0.length (fl enc_Omap_pair__int64__api_Entry l0)), (own sv1 196 7 ([y] : List Omap_pair__int64__api_Entry).length (fl enc_Omap_pair__int64__api_Entry [y]))]) _
 refine ent_seq ?_
 refine ent_region ?_
 refine ent_value (ov_assign rfl) rfl rfl rfl ?_
 refine ent_nil ?_
 refine ent_seq ?_
 refine ent_region ?_
 refine ent_value (ov_move rfl) rfl rfl rfl ?_
 refine ent_value (ov_move rfl) rfl rfl rfl ?_
 by_cases c1 : 0 ≤ (((i) : Nat) : Int)
 ·by_cases c2 : (((i) : Nat) : Int) ≤ (l0.length : Int)
  ·refine ent_value (ov_slice_lo 0 rfl rfl F_slice_190 F_size_196 rfl (isRd_ownx 196) c1 c2) rfl rfl rfl ?_
   refine ent_nil ?_
   refine ent_seq ?_
   refine ent_region ?_
   refine ent_value (ov_move rfl) rfl rfl rfl ?_
   refine ent_value (ov_len (m := 1) 1 rfl F_slice_190 rfl (isRd_ownx 196)) rfl rfl rfl ?_
   refine ent_value (ov_assign rfl) rfl rfl rfl ?_
   refine ent_nil ?_
   refine ent_seq ?_
   refine ent_seq ?_
   refine ent_region ?_
   refine ent_value (ov_move rfl) rfl rfl rfl ?_
   refine ent_value (ov_bin rfl rfl (b_eql _ _ _)) rfl rfl rfl ?_
   refine ent_nil ?_
   refine ent_cond_false rfl rfl ?_
   refine ent_skip ?_
   refine ent_seq ?_
   refine ent_region ?_
   refine ent_value (ov_move rfl) rfl rfl rfl ?_
   refine ent_value (ov_len 0 rfl F_slice_190 rfl (isRd_ownx 196)) rfl rfl rfl ?_
   refine ent_value (ov_assign rfl) rfl rfl rfl ?_
   refine ent_nil ?_
   refine ent_seq ?_
   refine ent_seq ?_
   refine ent_region ?_
   refine ent_value (ov_move rfl) rfl rfl rfl ?_
   refine ent_value (ov_move rfl) rfl rfl rfl ?_
   refine ent_value (ov_bin rfl rfl (b_eql _ _ _)) rfl rfl rfl ?_
   refine ent_nil ?_
   by_cases c3 : (((i) : Nat) : Int) = (l0.length : Int)
   ·refine ent_cond_true rfl (eq_t c3) ?_
    refine ent_seq ?_
    refine ent_region ?_
    refine ent_value (ov_move rfl) rfl rfl rfl ?_
    refine ent_value (ov_move rfl) rfl rfl rfl ?_
    by_cases c4 : (l0.length + [y].length) * 56 ≤ 140737488355328
    ·refine ent_op (ot_appendx (sz := 6) (xs := l0) (ys := [y]) 0 1 rfl rfl F_slice_190 F_size_196 F_zero_196 rfl F_bytes_196 rfl rfl rfl (isRd_ownx 196) rfl enc_Omap_pair__int64__api_Entry_one c4) rfl rfl rfl ?_
     rintro sv2 _ rfl
     refine ent_L [(own sv2 196 7 (l0 ++ [y]).length (fl enc_Omap_pair__int64__api_Entry (l0 ++ [y]))), (own sv1 196 7 [y].length (fl enc_Omap_pair__int64__api_Entry [y]))] rfl ?_
     refine ent_value (ov_assign rfl) rfl rfl rfl ?_
     refine ent_nil ?_
     refine ent_retc ?_
     have e_ : l0.insertIdx i y = l0 ++ [y] := by
      have e2_ : i = l0.length := by omega
      rw [e2_]; exact ins_end l0 y
     rw [e_]
     refine ent_pick [0, 1] (by decide) rfl ?_
     exact ret_tmp rfl rfl ⟨_, rfl, rfl⟩
    ·first | omega | (simp only [List.length_cons, List.length_nil] at *; omega)
   ·refine ent_cond_false rfl (eq_f c3) ?_
    refine ent_skip ?_
    refine ent_seq ?_
    refine ent_seq ?_
    refine ent_region ?_
    refine ent_value (ov_move rfl) rfl rfl rfl ?_
    refine ent_value (ov_move rfl) rfl rfl rfl ?_
    refine ent_value (ov_binL (m' := (((l0.length + 1) : Nat) : Int)) rfl rfl (b_add _ _ _) (by rewrite [IntKind.wrap_i64]; omega)) rfl rfl rfl ?_
    refine ent_value (ov_move rfl) rfl rfl rfl ?_
    refine ent_open 0 rfl (by omega) ?_
    rintro b1 cap1 cur1 rfl hx1 hx2 hx3 hx4
    refine ent_open 1 rfl (Nat.zero_lt_one) ?_
    rintro b2 cap2 cur2 rfl hx5 hx6 hx7 hx8
    refine ent_L [(box b1 196 cur1), (box b2 196 cur2)] rfl ?_
    refine ent_value (ov_cap rfl F_slice_190) rfl rfl rfl ?_
    refine ent_value (ov_bin rfl rfl (b_gtr _ _ _)) rfl rfl rfl ?_
    refine ent_nil ?_
    by_cases c5 : (((cap1) : Nat) : Int) < (((l0.length + 1) : Nat) : Int)
    ·refine ent_cond_true rfl (decide_eq_true c5) ?_
     refine ent_seq ?_
     refine ent_region ?_
     refine ent_value (ov_move rfl) rfl rfl rfl ?_
     refine ent_value (ov_move rfl) rfl rfl rfl ?_
     refine ent_value (ov_sliceHi (h := i) rfl rfl (by omega) F_slice_190 F_size_196 (by omega)) rfl rfl rfl ?_
     refine ent_value (ov_move rfl) rfl rfl rfl ?_
     refine ent_value (ov_move rfl) rfl rfl rfl ?_
     refine ent_value (ov_binL (m' := (((l0.length + 1) : Nat) : Int)) rfl rfl (b_add _ _ _) (by rewrite [IntKind.wrap_i64]; omega)) rfl rfl rfl ?_
     refine ent_value (ov_move rfl) rfl rfl rfl ?_
     refine ent_value (ov_binL (m' := (((l0.length + 1 - i) : Nat) : Int)) rfl rfl (b_sub _ _ _) (by rewrite [IntKind.wrap_i64]; omega)) rfl rfl rfl ?_
     refine ent_op (ot_appendMake (m := l0.length + 1) 0 rfl rfl (j := (((l0.length + 1 - i) : Nat) : Int)) (k := l0.length + 1 - i) rfl F_slice_190 Try.underlying3 F_size_196 F_zero_196 rfl F_bytes_196 rfl rfl hx3 (by omega) (by omega) (by omega) (by omega) hroom) rfl rfl rfl ?_
     rintro _ _ ⟨b3, cap3, row1, rfl, rfl, hx9, hx10, hx11, hx12⟩
     refine ent_value (ov_assign rfl) rfl rfl rfl ?_
     refine ent_nil ?_
     refine ent_seq ?_
     refine ent_region ?_
     refine ent_value (ov_move rfl) rfl rfl rfl ?_
     refine ent_value (ov_move rfl) rfl rfl rfl ?_
     refine ent_value (ov_sliceLo (l := i) rfl rfl (by omega) F_slice_190 F_size_196 (by omega) (by omega) (by omega)) rfl rfl rfl ?_
     refine ent_value (ov_move rfl) rfl rfl rfl ?_
     refine ent_op (ot_copy (L' := [(box b3 196 (row1.take (0 + (i) * 7) ++ (fl enc_Omap_pair__int64__api_Entry [y]) ++ row1.drop (0 + (i) * 7 + (fl enc_Omap_pair__int64__api_Entry [y]).length))), (box b1 196 cur1), (box b2 196 cur2)]) (cs := (fl enc_Omap_pair__int64__api_Entry [y])) 0 2 rfl rfl F_slice_190 F_size_196 rfl rfl (ins_one enc_Omap_pair__int64__api_Entry_len hx8) (ins_min (k := 1) (Nat.le_refl 1) (by omega) (.inl rfl) (by omega)) (by simp only [List.length_append, List.length_take, List.length_drop, hfy, hfd]; omega) (one_fl enc_Omap_pair__int64__api_Entry_one _) rfl) rfl rfl rfl ?_
     rintro _ _ ⟨rfl, rfl⟩
     refine ent_nil ?_
     refine ent_seq ?_
     let Z1_A : (Nat → Bool) → Act → World → Prop := (fun done a w => StD 95 w0 F [(0, (slice (some ⟨b1, 0, none⟩) (l0.length) (cap1))), (1, (int .i64 (((i) : Nat) : Int))), (2, (slice (some ⟨b2, 0, none⟩) (1) (cap2))), (6, (slice none 0 0)), (7, (int .i64 1)), (8, (int .i64 (l0.length : Int))), (9, (slice (some ⟨b3, 0, none⟩) (l0.length + 1) (cap3))), (10, (slice (some ⟨b1, 0, none⟩) (l0.length) (cap1))), (11, (int .i64 (((i) : Nat) : Int))), (12, (subs (slice (some ⟨b1, 0, none⟩) (l0.length) (cap1)) (((i) : Nat) : Int).toNat l0.length 7)), (13, (slice (some ⟨b2, 0, none⟩) (1) (cap2))), (14, (int .i64 1)), (15, (int .i64 1)), (16, (bool false)), (18, (slice (some ⟨b1, 0, none⟩) (l0.length) (cap1))), (19, (int .i64 (l0.length : Int))), (20, (int .i64 (((i) : Nat) : Int))), (21, (int .i64 (l0.length : Int))), (22, (bool ((((i) : Nat) : Int) == (l0.length : Int)))), (26, (int .i64 (l0.length : Int))), (27, (int .i64 1)), (28, (int .i64 (((l0.length + 1) : Nat) : Int))), (29, (slice (some ⟨b1, 0, none⟩) (l0.length) (cap1))), (30, (int .i64 (((cap1) : Nat) : Int))), (31, (bool (decide ((((cap1) : Nat) : Int) < (((l0.length + 1) : Nat) : Int))))), (32, (slice (some ⟨b1, 0, none⟩) (l0.length) (cap1))), (33, (int .i64 (((i) : Nat) : Int))), (34, (slice (some ⟨b1, 0, none⟩) (i) (cap1))), (35, (int .i64 (l0.length : Int))), (36, (int .i64 1)), (37, (int .i64 (((l0.length + 1) : Nat) : Int))), (38, (int .i64 (((i) : Nat) : Int))), (39, (int .i64 (((l0.length + 1 - i) : Nat) : Int))), (40, (slice (some ⟨b3, 0, none⟩) (l0.length + 1) (cap3))), (41, (slice (some ⟨b3, 0, none⟩) (l0.length + 1) (cap3))), (42, (int .i64 (((i) : Nat) : Int))), (43, (slice (some ⟨b3, 0 + (i) * 7, none⟩) (l0.length + 1 - (i)) (cap3 - (i)))), (44, (slice (some ⟨b2, 0, none⟩) (1) (cap2))), (45, (goInt (Nat.min (1) (l0.length + 1 - (i)))))] [(0, 46, (slice (some ⟨b3, 0, none⟩) (l0.length + 1) (cap3))), (1, 47, (int .i64 (((i) : Nat) : Int))), (2, 48, (int .i64 1)), (3, 49, (int .i64 (((i + 1) : Nat) : Int))), (4, 50, (slice (some ⟨b3, 0 + (i + 1) * 7, none⟩) (l0.length + 1 - (i + 1)) (cap3 - (i + 1)))), (5, 51, (slice (some ⟨b1, 0, none⟩) (l0.length) (cap1))), (6, 52, (int .i64 (((i) : Nat) : Int))), (7, 53, (slice (some ⟨b1, 0 + (i) * 7, none⟩) (l0.length - (i)) (cap1 - (i))))] done [(box b3 196 (row1.take (0 + (i) * 7) ++ (fl enc_Omap_pair__int64__api_Entry [y]) ++ row1.drop (0 + (i) * 7 + (fl enc_Omap_pair__int64__api_Entry [y]).length))), (box b1 196 cur1), (box b2 196 cur2)] a w)
     let Z1_B : Act → World → Prop := (fun a w => St 95 w0 F [(0, (slice (some ⟨b1, 0, none⟩) (l0.length) (cap1))), (1, (int .i64 (((i) : Nat) : Int))), (2, (slice (some ⟨b2, 0, none⟩) (1) (cap2))), (6, (slice none 0 0)), (7, (int .i64 1)), (8, (int .i64 (l0.length : Int))), (9, (slice (some ⟨b3, 0, none⟩) (l0.length + 1) (cap3))), (10, (slice (some ⟨b1, 0, none⟩) (l0.length) (cap1))), (11, (int .i64 (((i) : Nat) : Int))), (12, (subs (slice (some ⟨b1, 0, none⟩) (l0.length) (cap1)) (((i) : Nat) : Int).toNat l0.length 7)), (13, (slice (some ⟨b2, 0, none⟩) (1) (cap2))), (14, (int .i64 1)), (15, (int .i64 1)), (16, (bool false)), (18, (slice (some ⟨b1, 0, none⟩) (l0.length) (cap1))), (19, (int .i64 (l0.length : Int))), (20, (int .i64 (((i) : Nat) : Int))), (21, (int .i64 (l0.length : Int))), (22, (bool ((((i) : Nat) : Int) == (l0.length : Int)))), (26, (int .i64 (l0.length : Int))), (27, (int .i64 1)), (28, (int .i64 (((l0.length + 1) : Nat) : Int))), (29, (slice (some ⟨b1, 0, none⟩) (l0.length) (cap1))), (30, (int .i64 (((cap1) : Nat) : Int))), (31, (bool (decide ((((cap1) : Nat) : Int) < (((l0.length + 1) : Nat) : Int))))), (32, (slice (some ⟨b1, 0, none⟩) (l0.length) (cap1))), (33, (int .i64 (((i) : Nat) : Int))), (34, (slice (some ⟨b1, 0, none⟩) (i) (cap1))), (35, (int .i64 (l0.length : Int))), (36, (int .i64 1)), (37, (int .i64 (((l0.length + 1) : Nat) : Int))), (38, (int .i64 (((i) : Nat) : Int))), (39, (int .i64 (((l0.length + 1 - i) : Nat) : Int))), (40, (slice (some ⟨b3, 0, none⟩) (l0.length + 1) (cap3))), (41, (slice (some ⟨b3, 0, none⟩) (l0.length + 1) (cap3))), (42, (int .i64 (((i) : Nat) : Int))), (43, (slice (some ⟨b3, 0 + (i) * 7, none⟩) (l0.length + 1 - (i)) (cap3 - (i)))), (44, (slice (some ⟨b2, 0, none⟩) (1) (cap2))), (45, (goInt (Nat.min (1) (l0.length + 1 - (i))))), (46, (slice (some ⟨b3, 0, none⟩) (l0.length + 1) (cap3))), (47, (int .i64 (((i) : Nat) : Int))), (48, (int .i64 1)), (49, (int .i64 (((i + 1) : Nat) : Int))), (50, (slice (some ⟨b3, 0 + (i + 1) * 7, none⟩) (l0.length + 1 - (i + 1)) (cap3 - (i + 1)))), (51, (slice (some ⟨b1, 0, none⟩) (l0.length) (cap1))), (52, (int .i64 (((i) : Nat) : Int))), (53, (slice (some ⟨b1, 0 + (i) * 7, none⟩) (l0.length - (i)) (cap1 - (i)))), (54, (goInt (Nat.min (l0.length - (i)) (l0.length + 1 - (i + 1)))))] [(box b3 196 ((row1.take (0 + (i) * 7) ++ (fl enc_Omap_pair__int64__api_Entry [y]) ++ row1.drop (0 + (i) * 7 + (fl enc_Omap_pair__int64__api_Entry [y]).length)).take (0 + (i + 1) * 7) ++ (fl enc_Omap_pair__int64__api_Entry (l0.drop i)) ++ (row1.take (0 + (i) * 7) ++ (fl enc_Omap_pair__int64__api_Entry [y]) ++ row1.drop (0 + (i) * 7 + (fl enc_Omap_pair__int64__api_Entry [y]).length)).drop (0 + (i + 1) * 7 + (fl enc_Omap_pair__int64__api_Entry (l0.drop i)).length))), (box b1 196 cur1), (box b2 196 cur2)] a w)
     refine ent_drawm 9 rfl (two 8 Z1_A Z1_B) (by kernel_rfl) (by kernel_rfl) (two_start (draw_startL (sub_cons (t := 0) rfl (sub_cons (t := 1) rfl (sub_cons (t := 2) rfl (sub_cons (t := 6) rfl (sub_cons (t := 7) rfl (sub_cons (t := 8) rfl (sub_cons (t := 9) rfl (sub_cons (t := 10) rfl (sub_cons (t := 11) rfl (sub_cons (t := 12) rfl (sub_cons (t := 13) rfl (sub_cons (t := 14) rfl (sub_cons (t := 15) rfl (sub_cons (t := 16) rfl (sub_cons (t := 18) rfl (sub_cons (t := 19) rfl (sub_cons (t := 20) rfl (sub_cons (t := 21) rfl (sub_cons (t := 22) rfl (sub_cons (t := 26) rfl (sub_cons (t := 27) rfl (sub_cons (t := 28) rfl (sub_cons (t := 29) rfl (sub_cons (t := 30) rfl (sub_cons (t := 31) rfl (sub_cons (t := 32) rfl (sub_cons (t := 33) rfl (sub_cons (t := 34) rfl (sub_cons (t := 35) rfl (sub_cons (t := 36) rfl (sub_cons (t := 37) rfl (sub_cons (t := 38) rfl (sub_cons (t := 39) rfl (sub_cons (t := 40) rfl (sub_cons (t := 41) rfl (sub_cons (t := 42) rfl (sub_cons (t := 43) rfl (sub_cons (t := 44) rfl (sub_cons (t := 45) rfl (sub_nil _)))))))))))))))))))))))))))))))))))))))) rfl)) ?_ ?_
     ·refine ⟨?_, ?_, ?_, ?_, ?_, ?_, ?_, ?_, ?_, trivial⟩
      ·intro done hi hc hcu
       have n4 : done 4 = false := notdone_of (m := 4) hc hi rfl rfl
       have n8 : done 8 = false := notdone_of (m := 8) hc n4 rfl rfl
       refine two_step (m := 8) (A := Z1_A) n8 rfl ?_
       exact draw_value (i := 0) (t := 46) (v := (slice (some ⟨b3, 0, none⟩) (l0.length + 1) (cap3))) rfl rfl (wanted_none rfl) (fun a => hasA_base) (ov_move rfl) rfl rfl (onlyT_spec (k0 := 0) rfl rfl rfl)
      ·intro done hi hc hcu
       have n3 : done 3 = false := notdone_of (m := 3) hc hi rfl rfl
       have n4 : done 4 = false := notdone_of (m := 4) hc n3 rfl rfl
       have n8 : done 8 = false := notdone_of (m := 8) hc n4 rfl rfl
       refine two_step (m := 8) (A := Z1_A) n8 rfl ?_
       exact draw_value (i := 1) (t := 47) (v := (int .i64 (((i) : Nat) : Int))) rfl rfl (wanted_none rfl) (fun a => hasA_base) (ov_move rfl) rfl rfl (onlyT_spec (k0 := 1) rfl rfl rfl)
      ·intro done hi hc hcu
       have n3 : done 3 = false := notdone_of (m := 3) hc hi rfl rfl
       have n4 : done 4 = false := notdone_of (m := 4) hc n3 rfl rfl
       have n8 : done 8 = false := notdone_of (m := 8) hc n4 rfl rfl
       refine two_step (m := 8) (A := Z1_A) n8 rfl ?_
       exact draw_value (i := 2) (t := 48) (v := (int .i64 1)) rfl rfl (wanted_none rfl) (fun a => hasA_base) (ov_move rfl) rfl rfl (onlyT_spec (k0 := 2) rfl rfl rfl)
      ·intro done hi hc hcu
       have n4 : done 4 = false := notdone_of (m := 4) hc hi rfl rfl
       have n8 : done 8 = false := notdone_of (m := 8) hc n4 rfl rfl
       refine two_step (m := 8) (A := Z1_A) n8 rfl ?_
       have d1 : done 1 = true := done_of (j := 1) hcu rfl (by decide) rfl
       have d2 : done 2 = true := done_of (j := 2) hcu rfl (by decide) rfl
       exact draw_value (i := 3) (t := 49) (v := (int .i64 (((i + 1) : Nat) : Int))) rfl rfl (wanted_none rfl) (fun a => (hasA_cons (k := 2) rfl d2 (hasA_cons (k := 1) rfl d1 hasA_base))) (ov_binL (m' := (((i + 1) : Nat) : Int)) rfl rfl (b_add _ _ _) (by rewrite [IntKind.wrap_i64]; omega)) rfl rfl (onlyT_spec (k0 := 3) rfl rfl rfl)
      ·intro done hi hc hcu
       have n8 : done 8 = false := notdone_of (m := 8) hc hi rfl rfl
       refine two_step (m := 8) (A := Z1_A) n8 rfl ?_
       have d0 : done 0 = true := done_of (j := 0) hcu rfl (by decide) rfl
       have d3 : done 3 = true := done_of (j := 3) hcu rfl (by decide) rfl
       exact draw_value (i := 4) (t := 50) (v := (slice (some ⟨b3, 0 + (i + 1) * 7, none⟩) (l0.length + 1 - (i + 1)) (cap3 - (i + 1)))) rfl rfl (wanted_none rfl) (fun a => (hasA_cons (k := 3) rfl d3 (hasA_cons (k := 0) rfl d0 hasA_base))) (ov_sliceLo (l := i + 1) rfl rfl (by omega) F_slice_190 F_size_196 (by omega) (by omega) (by omega)) rfl rfl (onlyT_spec (k0 := 4) rfl rfl rfl)
      ·intro done hi hc hcu
       have n7 : done 7 = false := notdone_of (m := 7) hc hi rfl rfl
       have n8 : done 8 = false := notdone_of (m := 8) hc n7 rfl rfl
       refine two_step (m := 8) (A := Z1_A) n8 rfl ?_
       exact draw_value (i := 5) (t := 51) (v := (slice (some ⟨b1, 0, none⟩) (l0.length) (cap1))) rfl rfl (wanted_none rfl) (fun a => hasA_base) (ov_move rfl) rfl rfl (onlyT_spec (k0 := 5) rfl rfl rfl)
      ·intro done hi hc hcu
       have n7 : done 7 = false := notdone_of (m := 7) hc hi rfl rfl
       have n8 : done 8 = false := notdone_of (m := 8) hc n7 rfl rfl
       refine two_step (m := 8) (A := Z1_A) n8 rfl ?_
       exact draw_value (i := 6) (t := 52) (v := (int .i64 (((i) : Nat) : Int))) rfl rfl (wanted_none rfl) (fun a => hasA_base) (ov_move rfl) rfl rfl (onlyT_spec (k0 := 6) rfl rfl rfl)
      ·intro done hi hc hcu
       have n8 : done 8 = false := notdone_of (m := 8) hc hi rfl rfl
       refine two_step (m := 8) (A := Z1_A) n8 rfl ?_
       have d5 : done 5 = true := done_of (j := 5) hcu rfl (by decide) rfl
       have d6 : done 6 = true := done_of (j := 6) hcu rfl (by decide) rfl
       exact draw_value (i := 7) (t := 53) (v := (slice (some ⟨b1, 0 + (i) * 7, none⟩) (l0.length - (i)) (cap1 - (i)))) rfl rfl (wanted_none rfl) (fun a => (hasA_cons (k := 6) rfl d6 (hasA_cons (k := 5) rfl d5 hasA_base))) (ov_sliceLo (l := i) rfl rfl (by omega) F_slice_190 F_size_196 (by omega) (by omega) (by omega)) rfl rfl (onlyT_spec (k0 := 7) rfl rfl rfl)
      ·intro done hi hc hcu
       refine two_last (m := 8) (A := Z1_A) (B := Z1_B) hi ?_
       have d4 : done 4 = true := done_of (j := 4) hcu rfl (by decide) rfl
       have d7 : done 7 = true := done_of (j := 7) hcu rfl (by decide) rfl
       have d6 : done 6 = true := done_step (i := 7) (j := 6) hc d7 rfl rfl
       have d5 : done 5 = true := done_step (i := 7) (j := 5) hc d7 rfl rfl
       have d3 : done 3 = true := done_step (i := 4) (j := 3) hc d4 rfl rfl
       have d2 : done 2 = true := done_step (i := 3) (j := 2) hc d3 rfl rfl
       have d1 : done 1 = true := done_step (i := 3) (j := 1) hc d3 rfl rfl
       have d0 : done 0 = true := done_step (i := 4) (j := 0) hc d4 rfl rfl
       refine draw_endL [(box b3 196 (row1.take (0 + (i) * 7) ++ (fl enc_Omap_pair__int64__api_Entry [y]) ++ row1.drop (0 + (i) * 7 + (fl enc_Omap_pair__int64__api_Entry [y]).length))), (box b1 196 cur1), (box b2 196 cur2)] rfl (fun a => (hasA_cons (k := 0) rfl d0 (hasA_cons (k := 1) rfl d1 (hasA_cons (k := 2) rfl d2 (hasA_cons (k := 3) rfl d3 (hasA_cons (k := 4) rfl d4 (hasA_cons (k := 5) rfl d5 (hasA_cons (k := 6) rfl d6 (hasA_cons (k := 7) rfl d7 hasA_base))))))))) ?_
       refine last_op rfl rfl rfl rfl (ot_copy (L' := [(box b3 196 ((row1.take (0 + (i) * 7) ++ (fl enc_Omap_pair__int64__api_Entry [y]) ++ row1.drop (0 + (i) * 7 + (fl enc_Omap_pair__int64__api_Entry [y]).length)).take (0 + (i + 1) * 7) ++ (fl enc_Omap_pair__int64__api_Entry (l0.drop i)) ++ (row1.take (0 + (i) * 7) ++ (fl enc_Omap_pair__int64__api_Entry [y]) ++ row1.drop (0 + (i) * 7 + (fl enc_Omap_pair__int64__api_Entry [y]).length)).drop (0 + (i + 1) * 7 + (fl enc_Omap_pair__int64__api_Entry (l0.drop i)).length))), (box b1 196 cur1), (box b2 196 cur2)]) (cs := (fl enc_Omap_pair__int64__api_Entry (l0.drop i))) 0 1 rfl rfl F_slice_190 F_size_196 rfl rfl (ins_rest enc_Omap_pair__int64__api_Entry_len (by omega) hx4 (by omega)) (ins_min (k := l0.length - i) (by omega) (by omega) (by omega) hfd) (by simp only [List.length_append, List.length_take, List.length_drop, hfy, hfd]; omega) (one_fl enc_Omap_pair__int64__api_Entry_one _) rfl) ?_
       rintro _ _ ⟨rfl, rfl⟩
       exact ent_fin [0, 1, 2] (by decide) rfl (sub_cons (t := 0) rfl (sub_cons (t := 1) rfl (sub_cons (t := 2) rfl (sub_cons (t := 6) rfl (sub_cons (t := 7) rfl (sub_cons (t := 8) rfl (sub_cons (t := 9) rfl (sub_cons (t := 10) rfl (sub_cons (t := 11) rfl (sub_cons (t := 12) rfl (sub_cons (t := 13) rfl (sub_cons (t := 14) rfl (sub_cons (t := 15) rfl (sub_cons (t := 16) rfl (sub_cons (t := 18) rfl (sub_cons (t := 19) rfl (sub_cons (t := 20) rfl (sub_cons (t := 21) rfl (sub_cons (t := 22) rfl (sub_cons (t := 26) rfl (sub_cons (t := 27) rfl (sub_cons (t := 28) rfl (sub_cons (t := 29) rfl (sub_cons (t := 30) rfl (sub_cons (t := 31) rfl (sub_cons (t := 32) rfl (sub_cons (t := 33) rfl (sub_cons (t := 34) rfl (sub_cons (t := 35) rfl (sub_cons (t := 36) rfl (sub_cons (t := 37) rfl (sub_cons (t := 38) rfl (sub_cons (t := 39) rfl (sub_cons (t := 40) rfl (sub_cons (t := 41) rfl (sub_cons (t := 42) rfl (sub_cons (t := 43) rfl (sub_cons (t := 44) rfl (sub_cons (t := 45) rfl (sub_cons (t := 46) rfl (sub_cons (t := 47) rfl (sub_cons (t := 48) rfl (sub_cons (t := 49) rfl (sub_cons (t := 50) rfl (sub_cons (t := 51) rfl (sub_cons (t := 52) rfl (sub_cons (t := 53) rfl (sub_cons (t := 54) rfl (sub_nil _))))))))))))))))))))))))))))))))))))))))))))))))) fun a w h => h
     ·intro done hall
      refine two_end (A := Z1_A) (B := Z1_B) (hall 8 (by decide)) ?_
      refine ent_seq ?_
      refine ent_region ?_
      refine ent_value (ov_move rfl) rfl rfl rfl ?_
      refine ent_value (ov_assign rfl) rfl rfl rfl ?_
      refine ent_nil ?_
      refine ent_retc ?_
      have hpre : cur1.take (i * 7) = (fl enc_Omap_pair__int64__api_Entry l0).take (i * 7) := by
       rw [← hx4, List.take_take, Nat.min_eq_left (by omega)]
      refine ent_pick [0, 2] (by decide) rfl ?_
      refine ent_conv 0 _ (own (slice (some ⟨b3, 0, none⟩) (l0.length + 1) (cap3)) 196 7 (l0.insertIdx i y).length (fl enc_Omap_pair__int64__api_Entry (l0.insertIdx i y))) rfl (ins_close1 enc_Omap_pair__int64__api_Entry_len (row := row1) (i := i) (v := y) (by omega) hx9 hx10 hx11 (hx12.trans hpre) (by omega) (by omega) rfl) rfl ?_
      refine ent_conv 1 _ (own (slice (some ⟨b2, 0, none⟩) ([y] : List _).length (cap2)) 196 7 ([y] : List _).length (fl enc_Omap_pair__int64__api_Entry [y])) rfl (fun o s h => own_close h hx5 hx6 hx7 hx8) rfl ?_
      exact ret_tmp rfl rfl ⟨_, rfl, rfl⟩
    ·refine ent_cond_false rfl (decide_eq_false c5) ?_
     refine ent_skip ?_
     refine ent_seq ?_
     refine ent_region ?_
     refine ent_value (ov_move rfl) rfl rfl rfl ?_
     refine ent_value (ov_move rfl) rfl rfl rfl ?_
     refine ent_value (ov_move rfl) rfl rfl rfl ?_
     refine ent_value (ov_binL (m' := (((l0.length + 1) : Nat) : Int)) rfl rfl (b_add _ _ _) (by rewrite [IntKind.wrap_i64]; omega)) rfl rfl rfl ?_
     refine ent_value (ov_sliceHi (h := l0.length + 1) rfl rfl (by omega) F_slice_190 F_size_196 (by omega)) rfl rfl rfl ?_
     refine ent_value (ov_assign rfl) rfl rfl rfl ?_
     refine ent_nil ?_
     refine ent_seq ?_
     refine ent_seq ?_
     refine ent_region ?_
     refine ent_value (ov_move rfl) rfl rfl rfl ?_
     refine ent_value (ov_move rfl) rfl rfl rfl ?_
     refine ent_value (ov_move rfl) rfl rfl rfl ?_
     refine ent_value (ov_move rfl) rfl rfl rfl ?_
     refine ent_value (ov_binL (m' := (((i + 1) : Nat) : Int)) rfl rfl (b_add _ _ _) (by rewrite [IntKind.wrap_i64]; omega)) rfl rfl rfl ?_
     refine ent_value (ov_sliceLo (l := i + 1) rfl rfl (by omega) F_slice_190 F_size_196 (by omega) (by omega) (by omega)) rfl rfl rfl ?_
     refine ent_op (ot_overlaps (tr := 4) 0 1 rfl rfl (show Try.prog.funcs[207]? = some Try.f207 from Try.func207) (by kernel_rfl) (by kernel_rfl) (by kernel_rfl) (by kernel_rfl) F_slice_190 F_size_196 rfl rfl rfl (by omega)) rfl rfl rfl ?_
     rintro _ _ ⟨rfl, rfl⟩
     refine ent_value (ov_un rfl (u_not _)) rfl rfl rfl ?_
     refine ent_nil ?_
     refine ent_cond_true rfl rfl ?_
     refine ent_seq ?_
     let Z2_A : (Nat → Bool) → Act → World → Prop := (fun done a w => StD 95 w0 F [(0, (slice (some ⟨b1, 0, none⟩) (l0.length + 1) (cap1))), (1, (int .i64 (((i) : Nat) : Int))), (2, (slice (some ⟨b2, 0, none⟩) (1) (cap2))), (6, (slice none 0 0)), (7, (int .i64 1)), (8, (int .i64 (l0.length : Int))), (10, (slice (some ⟨b1, 0, none⟩) (l0.length) (cap1))), (11, (int .i64 (((i) : Nat) : Int))), (12, (subs (slice (some ⟨b1, 0, none⟩) (l0.length) (cap1)) (((i) : Nat) : Int).toNat l0.length 7)), (13, (slice (some ⟨b2, 0, none⟩) (1) (cap2))), (14, (int .i64 1)), (15, (int .i64 1)), (16, (bool false)), (18, (slice (some ⟨b1, 0, none⟩) (l0.length) (cap1))), (19, (int .i64 (l0.length : Int))), (20, (int .i64 (((i) : Nat) : Int))), (21, (int .i64 (l0.length : Int))), (22, (bool ((((i) : Nat) : Int) == (l0.length : Int)))), (26, (int .i64 (l0.length : Int))), (27, (int .i64 1)), (28, (int .i64 (((l0.length + 1) : Nat) : Int))), (29, (slice (some ⟨b1, 0, none⟩) (l0.length) (cap1))), (30, (int .i64 (((cap1) : Nat) : Int))), (31, (bool (decide ((((cap1) : Nat) : Int) < (((l0.length + 1) : Nat) : Int))))), (56, (slice (some ⟨b1, 0, none⟩) (l0.length) (cap1))), (57, (int .i64 (l0.length : Int))), (58, (int .i64 1)), (59, (int .i64 (((l0.length + 1) : Nat) : Int))), (60, (slice (some ⟨b1, 0, none⟩) (l0.length + 1) (cap1))), (61, (slice (some ⟨b2, 0, none⟩) (1) (cap2))), (62, (slice (some ⟨b1, 0, none⟩) (l0.length + 1) (cap1))), (63, (int .i64 (((i) : Nat) : Int))), (64, (int .i64 1)), (65, (int .i64 (((i + 1) : Nat) : Int))), (66, (slice (some ⟨b1, 0 + (i + 1) * 7, none⟩) (l0.length + 1 - (i + 1)) (cap1 - (i + 1)))), (67, (bool false)), (68, (bool true))] [(0, 69, (slice (some ⟨b1, 0, none⟩) (l0.length + 1) (cap1))), (1, 70, (int .i64 (((i) : Nat) : Int))), (2, 71, (int .i64 1)), (3, 72, (int .i64 (((i + 1) : Nat) : Int))), (4, 73, (slice (some ⟨b1, 0 + (i + 1) * 7, none⟩) (l0.length + 1 - (i + 1)) (cap1 - (i + 1)))), (5, 74, (slice (some ⟨b1, 0, none⟩) (l0.length + 1) (cap1))), (6, 75, (int .i64 (((i) : Nat) : Int))), (7, 76, (slice (some ⟨b1, 0 + (i) * 7, none⟩) (l0.length + 1 - (i)) (cap1 - (i))))] done [(box b1 196 cur1), (box b2 196 cur2)] a w)
     let Z2_B : Act → World → Prop := (fun a w => St 95 w0 F [(0, (slice (some ⟨b1, 0, none⟩) (l0.length + 1) (cap1))), (1, (int .i64 (((i) : Nat) : Int))), (2, (slice (some ⟨b2, 0, none⟩) (1) (cap2))), (6, (slice none 0 0)), (7, (int .i64 1)), (8, (int .i64 (l0.length : Int))), (10, (slice (some ⟨b1, 0, none⟩) (l0.length) (cap1))), (11, (int .i64 (((i) : Nat) : Int))), (12, (subs (slice (some ⟨b1, 0, none⟩) (l0.length) (cap1)) (((i) : Nat) : Int).toNat l0.length 7)), (13, (slice (some ⟨b2, 0, none⟩) (1) (cap2))), (14, (int .i64 1)), (15, (int .i64 1)), (16, (bool false)), (18, (slice (some ⟨b1, 0, none⟩) (l0.length) (cap1))), (19, (int .i64 (l0.length : Int))), (20, (int .i64 (((i) : Nat) : Int))), (21, (int .i64 (l0.length : Int))), (22, (bool ((((i) : Nat) : Int) == (l0.length : Int)))), (26, (int .i64 (l0.length : Int))), (27, (int .i64 1)), (28, (int .i64 (((l0.length + 1) : Nat) : Int))), (29, (slice (some ⟨b1, 0, none⟩) (l0.length) (cap1))), (30, (int .i64 (((cap1) : Nat) : Int))), (31, (bool (decide ((((cap1) : Nat) : Int) < (((l0.length + 1) : Nat) : Int))))), (56, (slice (some ⟨b1, 0, none⟩) (l0.length) (cap1))), (57, (int .i64 (l0.length : Int))), (58, (int .i64 1)), (59, (int .i64 (((l0.length + 1) : Nat) : Int))), (60, (slice (some ⟨b1, 0, none⟩) (l0.length + 1) (cap1))), (61, (slice (some ⟨b2, 0, none⟩) (1) (cap2))), (62, (slice (some ⟨b1, 0, none⟩) (l0.length + 1) (cap1))), (63, (int .i64 (((i) : Nat) : Int))), (64, (int .i64 1)), (65, (int .i64 (((i + 1) : Nat) : Int))), (66, (slice (some ⟨b1, 0 + (i + 1) * 7, none⟩) (l0.length + 1 - (i + 1)) (cap1 - (i + 1)))), (67, (bool false)), (68, (bool true)), (69, (slice (some ⟨b1, 0, none⟩) (l0.length + 1) (cap1))), (70, (int .i64 (((i) : Nat) : Int))), (71, (int .i64 1)), (72, (int .i64 (((i + 1) : Nat) : Int))), (73, (slice (some ⟨b1, 0 + (i + 1) * 7, none⟩) (l0.length + 1 - (i + 1)) (cap1 - (i + 1)))), (74, (slice (some ⟨b1, 0, none⟩) (l0.length + 1) (cap1))), (75, (int .i64 (((i) : Nat) : Int))), (76, (slice (some ⟨b1, 0 + (i) * 7, none⟩) (l0.length + 1 - (i)) (cap1 - (i)))), (77, (goInt (Nat.min (l0.length + 1 - (i)) (l0.length + 1 - (i + 1)))))] [(box b1 196 (cur1.take (0 + (i + 1) * 7) ++ (fl enc_Omap_pair__int64__api_Entry (l0.drop i)) ++ cur1.drop (0 + (i + 1) * 7 + (fl enc_Omap_pair__int64__api_Entry (l0.drop i)).length))), (box b2 196 cur2)] a w)
     refine ent_drawm 9 rfl (two 8 Z2_A Z2_B) (by kernel_rfl) (by kernel_rfl) (two_start (draw_startL (sub_cons (t := 0) rfl (sub_cons (t := 1) rfl (sub_cons (t := 2) rfl (sub_cons (t := 6) rfl (sub_cons (t := 7) rfl (sub_cons (t := 8) rfl (sub_cons (t := 10) rfl (sub_cons (t := 11) rfl (sub_cons (t := 12) rfl (sub_cons (t := 13) rfl (sub_cons (t := 14) rfl (sub_cons (t := 15) rfl (sub_cons (t := 16) rfl (sub_cons (t := 18) rfl (sub_cons (t := 19) rfl (sub_cons (t := 20) rfl (sub_cons (t := 21) rfl (sub_cons (t := 22) rfl (sub_cons (t := 26) rfl (sub_cons (t := 27) rfl (sub_cons (t := 28) rfl (sub_cons (t := 29) rfl (sub_cons (t := 30) rfl (sub_cons (t := 31) rfl (sub_cons (t := 56) rfl (sub_cons (t := 57) rfl (sub_cons (t := 58) rfl (sub_cons (t := 59) rfl (sub_cons (t := 60) rfl (sub_cons (t := 61) rfl (sub_cons (t := 62) rfl (sub_cons (t := 63) rfl (sub_cons (t := 64) rfl (sub_cons (t := 65) rfl (sub_cons (t := 66) rfl (sub_cons (t := 67) rfl (sub_cons (t := 68) rfl (sub_nil _)))))))))))))))))))))))))))))))))))))) rfl)) ?_ ?_
     ·refine ⟨?_, ?_, ?_, ?_, ?_, ?_, ?_, ?_, ?_, trivial⟩
      ·intro done hi hc hcu
       have n4 : done 4 = false := notdone_of (m := 4) hc hi rfl rfl
       have n8 : done 8 = false := notdone_of (m := 8) hc n4 rfl rfl
       refine two_step (m := 8) (A := Z2_A) n8 rfl ?_
       exact draw_value (i := 0) (t := 69) (v := (slice (some ⟨b1, 0, none⟩) (l0.length + 1) (cap1))) rfl rfl (wanted_none rfl) (fun a => hasA_base) (ov_move rfl) rfl rfl (onlyT_spec (k0 := 0) rfl rfl rfl)
      ·intro done hi hc hcu
       have n3 : done 3 = false := notdone_of (m := 3) hc hi rfl rfl
       have n4 : done 4 = false := notdone_of (m := 4) hc n3 rfl rfl
       have n8 : done 8 = false := notdone_of (m := 8) hc n4 rfl rfl
       refine two_step (m := 8) (A := Z2_A) n8 rfl ?_
       exact draw_value (i := 1) (t := 70) (v := (int .i64 (((i) : Nat) : Int))) rfl rfl (wanted_none rfl) (fun a => hasA_base) (ov_move rfl) rfl rfl (onlyT_spec (k0 := 1) rfl rfl rfl)
      ·intro done hi hc hcu
       have n3 : done 3 = false := notdone_of (m := 3) hc hi rfl rfl
       have n4 : done 4 = false := notdone_of (m := 4) hc n3 rfl rfl
       have n8 : done 8 = false := notdone_of (m := 8) hc n4 rfl rfl
       refine two_step (m := 8) (A := Z2_A) n8 rfl ?_
       exact draw_value (i := 2) (t := 71) (v := (int .i64 1)) rfl rfl (wanted_none rfl) (fun a => hasA_base) (ov_move rfl) rfl rfl (onlyT_spec (k0 := 2) rfl rfl rfl)
      ·intro done hi hc hcu
       have n4 : done 4 = false := notdone_of (m := 4) hc hi rfl rfl
       have n8 : done 8 = false := notdone_of (m := 8) hc n4 rfl rfl
       refine two_step (m := 8) (A := Z2_A) n8 rfl ?_
       have d1 : done 1 = true := done_of (j := 1) hcu rfl (by decide) rfl
       have d2 : done 2 = true := done_of (j := 2) hcu rfl (by decide) rfl
       exact draw_value (i := 3) (t := 72) (v := (int .i64 (((i + 1) : Nat) : Int))) rfl rfl (wanted_none rfl) (fun a => (hasA_cons (k := 2) rfl d2 (hasA_cons (k := 1) rfl d1 hasA_base))) (ov_binL (m' := (((i + 1) : Nat) : Int)) rfl rfl (b_add _ _ _) (by rewrite [IntKind.wrap_i64]; omega)) rfl rfl (onlyT_spec (k0 := 3) rfl rfl rfl)
      ·intro done hi hc hcu
       have n8 : done 8 = false := notdone_of (m := 8) hc hi rfl rfl
       refine two_step (m := 8) (A := Z2_A) n8 rfl ?_
       have d0 : done 0 = true := done_of (j := 0) hcu rfl (by decide) rfl
       have d3 : done 3 = true := done_of (j := 3) hcu rfl (by decide) rfl
       exact draw_value (i := 4) (t := 73) (v := (slice (some ⟨b1, 0 + (i + 1) * 7, none⟩) (l0.length + 1 - (i + 1)) (cap1 - (i + 1)))) rfl rfl (wanted_none rfl) (fun a => (hasA_cons (k := 3) rfl d3 (hasA_cons (k := 0) rfl d0 hasA_base))) (ov_sliceLo (l := i + 1) rfl rfl (by omega) F_slice_190 F_size_196 (by omega) (by omega) (by omega)) rfl rfl (onlyT_spec (k0 := 4) rfl rfl rfl)
      ·intro done hi hc hcu
       have n7 : done 7 = false := notdone_of (m := 7) hc hi rfl rfl
       have n8 : done 8 = false := notdone_of (m := 8) hc n7 rfl rfl
       refine two_step (m := 8) (A := Z2_A) n8 rfl ?_
       exact draw_value (i := 5) (t := 74) (v := (slice (some ⟨b1, 0, none⟩) (l0.length + 1) (cap1))) rfl rfl (wanted_none rfl) (fun a => hasA_base) (ov_move rfl) rfl rfl (onlyT_spec (k0 := 5) rfl rfl rfl)
      ·intro done hi hc hcu
       have n7 : done 7 = false := notdone_of (m := 7) hc hi rfl rfl
       have n8 : done 8 = false := notdone_of (m := 8) hc n7 rfl rfl
       refine two_step (m := 8) (A := Z2_A) n8 rfl ?_
       exact draw_value (i := 6) (t := 75) (v := (int .i64 (((i) : Nat) : Int))) rfl rfl (wanted_none rfl) (fun a => hasA_base) (ov_move rfl) rfl rfl (onlyT_spec (k0 := 6) rfl rfl rfl)
      ·intro done hi hc hcu
       have n8 : done 8 = false := notdone_of (m := 8) hc hi rfl rfl
       refine two_step (m := 8) (A := Z2_A) n8 rfl ?_
       have d5 : done 5 = true := done_of (j := 5) hcu rfl (by decide) rfl
       have d6 : done 6 = true := done_of (j := 6) hcu rfl (by decide) rfl
       exact draw_value (i := 7) (t := 76) (v := (slice (some ⟨b1, 0 + (i) * 7, none⟩) (l0.length + 1 - (i)) (cap1 - (i)))) rfl rfl (wanted_none rfl) (fun a => (hasA_cons (k := 6) rfl d6 (hasA_cons (k := 5) rfl d5 hasA_base))) (ov_sliceLo (l := i) rfl rfl (by omega) F_slice_190 F_size_196 (by omega) (by omega) (by omega)) rfl rfl (onlyT_spec (k0 := 7) rfl rfl rfl)
      ·intro done hi hc hcu
       refine two_last (m := 8) (A := Z2_A) (B := Z2_B) hi ?_
       have d4 : done 4 = true := done_of (j := 4) hcu rfl (by decide) rfl
       have d7 : done 7 = true := done_of (j := 7) hcu rfl (by decide) rfl
       have d6 : done 6 = true := done_step (i := 7) (j := 6) hc d7 rfl rfl
       have d5 : done 5 = true := done_step (i := 7) (j := 5) hc d7 rfl rfl
       have d3 : done 3 = true := done_step (i := 4) (j := 3) hc d4 rfl rfl
       have d2 : done 2 = true := done_step (i := 3) (j := 2) hc d3 rfl rfl
       have d1 : done 1 = true := done_step (i := 3) (j := 1) hc d3 rfl rfl
       have d0 : done 0 = true := done_step (i := 4) (j := 0) hc d4 rfl rfl
       refine draw_endL [(box b1 196 cur1), (box b2 196 cur2)] rfl (fun a => (hasA_cons (k := 0) rfl d0 (hasA_cons (k := 1) rfl d1 (hasA_cons (k := 2) rfl d2 (hasA_cons (k := 3) rfl d3 (hasA_cons (k := 4) rfl d4 (hasA_cons (k := 5) rfl d5 (hasA_cons (k := 6) rfl d6 (hasA_cons (k := 7) rfl d7 hasA_base))))))))) ?_
       refine last_op rfl rfl rfl rfl (ot_copy (L' := [(box b1 196 (cur1.take (0 + (i + 1) * 7) ++ (fl enc_Omap_pair__int64__api_Entry (l0.drop i)) ++ cur1.drop (0 + (i + 1) * 7 + (fl enc_Omap_pair__int64__api_Entry (l0.drop i)).length))), (box b2 196 cur2)]) (cs := (fl enc_Omap_pair__int64__api_Entry (l0.drop i))) 0 0 rfl rfl F_slice_190 F_size_196 rfl rfl (ins_rest enc_Omap_pair__int64__api_Entry_len (by omega) hx4 (by omega)) (ins_min (k := l0.length - i) (by omega) (by omega) (by omega) hfd) (by simp only [List.length_append, List.length_take, List.length_drop, hfy, hfd]; omega) (one_fl enc_Omap_pair__int64__api_Entry_one _) rfl) ?_
       rintro _ _ ⟨rfl, rfl⟩
       exact ent_fin [0, 1] (by decide) rfl (sub_cons (t := 0) rfl (sub_cons (t := 1) rfl (sub_cons (t := 2) rfl (sub_cons (t := 6) rfl (sub_cons (t := 7) rfl (sub_cons (t := 8) rfl (sub_cons (t := 10) rfl (sub_cons (t := 11) rfl (sub_cons (t := 12) rfl (sub_cons (t := 13) rfl (sub_cons (t := 14) rfl (sub_cons (t := 15) rfl (sub_cons (t := 16) rfl (sub_cons (t := 18) rfl (sub_cons (t := 19) rfl (sub_cons (t := 20) rfl (sub_cons (t := 21) rfl (sub_cons (t := 22) rfl (sub_cons (t := 26) rfl (sub_cons (t := 27) rfl (sub_cons (t := 28) rfl (sub_cons (t := 29) rfl (sub_cons (t := 30) rfl (sub_cons (t := 31) rfl (sub_cons (t := 56) rfl (sub_cons (t := 57) rfl (sub_cons (t := 58) rfl (sub_cons (t := 59) rfl (sub_cons (t := 60) rfl (sub_cons (t := 61) rfl (sub_cons (t := 62) rfl (sub_cons (t := 63) rfl (sub_cons (t := 64) rfl (sub_cons (t := 65) rfl (sub_cons (t := 66) rfl (sub_cons (t := 67) rfl (sub_cons (t := 68) rfl (sub_cons (t := 69) rfl (sub_cons (t := 70) rfl (sub_cons (t := 71) rfl (sub_cons (t := 72) rfl (sub_cons (t := 73) rfl (sub_cons (t := 74) rfl (sub_cons (t := 75) rfl (sub_cons (t := 76) rfl (sub_cons (t := 77) rfl (sub_nil _))))))))))))))))))))))))))))))))))))))))))))))) fun a w h => h
     ·intro done hall
      refine two_end (A := Z2_A) (B := Z2_B) (hall 8 (by decide)) ?_
      refine ent_seq ?_
      refine ent_region ?_
      refine ent_value (ov_move rfl) rfl rfl rfl ?_
      refine ent_value (ov_move rfl) rfl rfl rfl ?_
      refine ent_value (ov_sliceLo (l := i) rfl rfl (by omega) F_slice_190 F_size_196 (by omega) (by omega) (by omega)) rfl rfl rfl ?_
      refine ent_value (ov_move rfl) rfl rfl rfl ?_
      refine ent_op (ot_copy (L' := [(box b1 196 ((cur1.take (0 + (i + 1) * 7) ++ (fl enc_Omap_pair__int64__api_Entry (l0.drop i)) ++ cur1.drop (0 + (i + 1) * 7 + (fl enc_Omap_pair__int64__api_Entry (l0.drop i)).length)).take (0 + (i) * 7) ++ (fl enc_Omap_pair__int64__api_Entry [y]) ++ (cur1.take (0 + (i + 1) * 7) ++ (fl enc_Omap_pair__int64__api_Entry (l0.drop i)) ++ cur1.drop (0 + (i + 1) * 7 + (fl enc_Omap_pair__int64__api_Entry (l0.drop i)).length)).drop (0 + (i) * 7 + (fl enc_Omap_pair__int64__api_Entry [y]).length))), (box b2 196 cur2)]) (cs := (fl enc_Omap_pair__int64__api_Entry [y])) 0 1 rfl rfl F_slice_190 F_size_196 rfl rfl (ins_one enc_Omap_pair__int64__api_Entry_len hx8) (ins_min (k := 1) (Nat.le_refl 1) (by omega) (.inl rfl) (by omega)) (by simp only [List.length_append, List.length_take, List.length_drop, hfy, hfd]; omega) (one_fl enc_Omap_pair__int64__api_Entry_one _) rfl) rfl rfl rfl ?_
      rintro _ _ ⟨rfl, rfl⟩
      refine ent_nil ?_
      refine ent_seq ?_
      refine ent_region ?_
      refine ent_value (ov_move rfl) rfl rfl rfl ?_
      refine ent_value (ov_assign rfl) rfl rfl rfl ?_
      refine ent_nil ?_
      refine ent_retc ?_
      refine ent_pick [0, 1] (by decide) rfl ?_
      refine ent_conv 0 _ (own (slice (some ⟨b1, 0, none⟩) (l0.length + 1) (cap1)) 196 7 (l0.insertIdx i y).length (fl enc_Omap_pair__int64__api_Entry (l0.insertIdx i y))) rfl (ins_close2 enc_Omap_pair__int64__api_Entry_len (row := cur1) (i := i) (v := y) (by omega) (by omega) hx2 hx3 hx4 (by omega) (by omega) rfl) rfl ?_
      refine ent_conv 1 _ (own (slice (some ⟨b2, 0, none⟩) ([y] : List _).length (cap2)) 196 7 ([y] : List _).length (fl enc_Omap_pair__int64__api_Entry [y])) rfl (fun o s h => own_close h hx5 hx6 hx7 hx8) rfl ?_
      exact ret_tmp rfl rfl ⟨_, rfl, rfl⟩
  ·first | omega | (simp only [List.length_cons, List.length_nil] at *; omega)
 ·first | omega | (simp only [List.length_cons, List.length_nil] at *; omega)

set_option maxRecDepth 100000 in
theorem omap_Map__int64__api_Entry_Put_O.spec (K : Nat) (p0 : Nat) (sv0 : Value) (l0 : List Omap_pair__int64__api_Entry) (a1 : Int) (a2_0 : Int) (a2_1 : Int) (a2_2 : Int) (a2_3 : Int) (a2_4 : Int) (a2_5 : Bool) (r : (Bool × (List Omap_pair__int64__api_Entry))) (H : omap_Map__int64__api_Entry_Put_O K l0 a1 a2_0 a2_1 a2_2 a2_3 a2_4 a2_5 = some r) : FnSpec Try.prog 134 [(pt p0 0), (int .i64 a1), (agg #[(int .i64 a2_0), (int .i64 a2_1), (int .i64 a2_2), (int .i64 a2_3), (int .i64 a2_4), (bool a2_5)])] [(box p0 192 [sv0]), (own sv0 196 7 l0.length (fl enc_Omap_pair__int64__api_Entry l0))] (fun v M => ∃ sv3 : Value, v = (bool r.1) ∧ M = [(box p0 192 [sv3]), (own sv3 196 7 r.2.length (fl enc_Omap_pair__int64__api_Entry r.2))]) := by
 unfold omap_Map__int64__api_Entry_Put_O at H
 refine spec_of Try.func134 rfl 39 rfl (Nat.le_of_ble_eq_true rfl) fun F w0 => ?_
 show Ent (St 39 w0 F [(0, (pt p0 0)), (1, (int .i64 a1)), (2, (agg #[(int .i64 a2_0), (int .i64 a2_1), (int .i64 a2_2), (int .i64 a2_3), (int .i64 a2_4), (bool a2_5)]))] [(box p0 192 [sv0]), (own sv0 196 7 l0.length (fl enc_Omap_pair__int64__api_Entry l0))]) _
 refine ent_seq ?_
 refine ent_region ?_
 refine ent_op (ot_box (cs := [(int .i64 a2_0), (int .i64 a2_1), (int .i64 a2_2), (int .i64 a2_3), (int .i64 a2_4), (bool a2_5)]) rfl rfl) rfl rfl rfl ?_
 rintro _ _ ⟨b2, rfl, rfl⟩
 refine ent_value (ov_assign rfl) rfl rfl rfl ?_
 refine ent_nil ?_
 refine ent_seq ?_
 refine ent_seq ?_
 refine ent_region ?_
 refine ent_value (ov_move rfl) rfl rfl rfl ?_
 refine ent_value (ov_bin rfl rfl (b_eql_of (fun w => rfl) rfl (eq_pn Try.underlying136 _ _))) rfl rfl rfl ?_
 refine ent_nil ?_
 refine ent_cond_false rfl rfl ?_
 refine ent_skip ?_
 refine ent_seq ?_
 refine ent_region ?_
 refine ent_value (ov_move rfl) rfl rfl rfl ?_
 refine ent_value (ov_move rfl) rfl rfl rfl ?_
 obtain ⟨x3, h3, H⟩ := Option.bind_eq_some_iff.1 H
 refine ent_op (ot_call_same (Lr := [(box b2 65 [(int .i64 a2_0), (int .i64 a2_1), (int .i64 a2_2), (int .i64 a2_3), (int .i64 a2_4), (bool a2_5)])]) [1, 2, 0] [2, 0, 1] (first := []) (cap := []) (xs := [.tmp 12, .tmp 13]) rfl rfl F_call_132 rfl (omap_Map__int64__api_Entry_place_O.spec K p0 sv0 l0 a1 _ h3) (by decide) rfl (by decide) rfl) rfl rfl rfl ?_
 rintro _ _ ⟨rfl, rfl⟩
 refine ent_value (ov_move rfl) rfl rfl rfl ?_
 refine ent_value (ov_extract rfl rfl) rfl rfl rfl ?_
 refine ent_value (ov_extract rfl rfl) rfl rfl rfl ?_
 refine ent_value (ov_assign rfl) rfl rfl rfl ?_
 refine ent_value (ov_assign rfl) rfl rfl rfl ?_
 refine ent_nil ?_
 refine ent_seq ?_
 refine ent_seq ?_
 refine ent_region ?_
 refine ent_value (ov_move rfl) rfl rfl rfl ?_
 refine ent_nil ?_
 by_cases c10 : x3.1 = true
 ·rw [if_pos c10] at H
  refine ent_cond_true rfl c10 ?_
  refine ent_seq ?_
  by_cases c11 : 0 ≤ x3.2
  ·rw [if_pos c11] at H
   by_cases c12 : x3.2 < (l0.length : Int)
   ·rw [if_pos c12] at H
    refine ent_drawm 9 rfl (fun done a w => StD 39 w0 F [(0, (pt p0 0)), (1, (int .i64 a1)), (2, (agg #[(int .i64 a2_0), (int .i64 a2_1), (int .i64 a2_2), (int .i64 a2_3), (int .i64 a2_4), (bool a2_5)])), (5, (pt b2 0)), (6, (bool false)), (7, (int .i64 x3.2)), (8, (bool x3.1)), (9, (pt p0 0)), (10, (bool false)), (11, (Value.tuple #[(int .i64 x3.2), (bool x3.1)])), (12, (pt p0 0)), (13, (int .i64 a1)), (14, (Value.tuple #[(int .i64 x3.2), (bool x3.1)])), (15, (int .i64 x3.2)), (16, (bool x3.1)), (17, (bool x3.1))] [(0, 18, (pt p0 0)), (1, 19, (pt p0 0)), (2, 20, (pt p0 0)), (3, 21, sv0), (4, 22, (int .i64 x3.2)), (5, 23, (agg #[(int .i64 a2_0), (int .i64 a2_1), (int .i64 a2_2), (int .i64 a2_3), (int .i64 a2_4), (bool a2_5)])), (6, 24, (eptr sv0 (x3.2.toNat * 7))), (7, 25, (eptr sv0 (x3.2.toNat * 7 + 1)))] done [(box b2 65 [(int .i64 a2_0), (int .i64 a2_1), (int .i64 a2_2), (int .i64 a2_3), (int .i64 a2_4), (bool a2_5)]), (box p0 192 [sv0]), (sel (done 8) (own sv0 196 7 (l0.set x3.2.toNat (⟨(l0.getD x3.2.toNat z_Omap_pair__int64__api_Entry).k, (⟨(⟨a2_0, a2_1⟩ : Api_Part), a2_2, a2_3, a2_4, a2_5⟩ : Api_Entry)⟩ : Omap_pair__int64__api_Entry)).length (fl enc_Omap_pair__int64__api_Entry (l0.set x3.2.toNat (⟨(l0.getD x3.2.toNat z_Omap_pair__int64__api_Entry).k, (⟨(⟨a2_0, a2_1⟩ : Api_Part), a2_2, a2_3, a2_4, a2_5⟩ : Api_Entry)⟩ : Omap_pair__int64__api_Entry)))) (own sv0 196 7 l0.length (fl enc_Omap_pair__int64__api_Entry l0)))] a w) (by kernel_rfl) (by kernel_rfl) (draw_startL (sub_cons (t := 0) rfl (sub_cons (t := 1) rfl (sub_cons (t := 2) rfl (sub_cons (t := 5) rfl (sub_cons (t := 6) rfl (sub_cons (t := 7) rfl (sub_cons (t := 8) rfl (sub_cons (t := 9) rfl (sub_cons (t := 10) rfl (sub_cons (t := 11) rfl (sub_cons (t := 12) rfl (sub_cons (t := 13) rfl (sub_cons (t := 14) rfl (sub_cons (t := 15) rfl (sub_cons (t := 16) rfl (sub_cons (t := 17) rfl (sub_nil _))))))))))))))))) (by simp only [sel])) ?_ ?_
    ·refine ⟨?_, ?_, ?_, ?_, ?_, ?_, ?_, ?_, ?_, trivial⟩
     ·intro done hi hc hcu
      exact draw_value (i := 0) (t := 18) (v := (pt p0 0)) rfl rfl (wanted_none rfl) (fun a => hasA_base) (ov_move rfl) rfl rfl (onlyT_spec (k0 := 0) rfl rfl rfl)
     ·intro done hi hc hcu
      have d0 : done 0 = true := done_of (j := 0) hcu rfl (by decide) rfl
      exact draw_value (i := 1) (t := 19) (v := (pt p0 0)) rfl rfl (wanted_none rfl) (fun a => (hasA_cons (k := 0) rfl d0 hasA_base)) (ov_nilCheck rfl) rfl rfl (onlyT_spec (k0 := 1) rfl rfl rfl)
     ·intro done hi hc hcu
      have d1 : done 1 = true := done_of (j := 1) hcu rfl (by decide) rfl
      exact draw_value (i := 2) (t := 20) (v := (pt p0 0)) rfl rfl (wanted_none rfl) (fun a => (hasA_cons (k := 1) rfl d1 hasA_base)) (ov_fieldAddr (sz := 0) (o := 0) rfl F_field_192_0 F_size_190) rfl rfl (onlyT_spec (k0 := 2) rfl rfl rfl)
     ·intro done hi hc hcu
      have d2 : done 2 = true := done_of (j := 2) hcu rfl (by decide) rfl
      exact draw_value (i := 3) (t := 21) (v := sv0) rfl rfl (wanted_none rfl) (fun a => (hasA_cons (k := 2) rfl d2 hasA_base)) (ov_load (v := sv0) rfl F_agg_190 (reads_box1 (i := 1) rfl rfl)) rfl rfl (onlyT_spec (k0 := 3) rfl rfl rfl)
     ·intro done hi hc hcu
      exact draw_value (i := 4) (t := 22) (v := (int .i64 x3.2)) rfl rfl (wanted_none rfl) (fun a => hasA_base) (ov_move rfl) rfl rfl (onlyT_spec (k0 := 4) rfl rfl rfl)
     ·intro done hi hc hcu
      exact draw_value (i := 5) (t := 23) (v := (agg #[(int .i64 a2_0), (int .i64 a2_1), (int .i64 a2_2), (int .i64 a2_3), (int .i64 a2_4), (bool a2_5)])) rfl rfl (wanted_none rfl) (fun a => hasA_base) (ov_load_agg (vs := [(int .i64 a2_0), (int .i64 a2_1), (int .i64 a2_2), (int .i64 a2_3), (int .i64 a2_4), (bool a2_5)]) rfl F_agg_65 F_size_65 (reads_boxW (i := 0) rfl)) rfl rfl (onlyT_spec (k0 := 5) rfl rfl rfl)
     ·intro done hi hc hcu
      have d3 : done 3 = true := done_of (j := 3) hcu rfl (by decide) rfl
      have d4 : done 4 = true := done_of (j := 4) hcu rfl (by decide) rfl
      have n7 : done 7 = false := notdone_of (m := 7) hc hi rfl rfl
      have n8 : done 8 = false := notdone_of (m := 8) hc n7 rfl rfl
      exact draw_value (i := 6) (t := 24) (v := (eptr sv0 (x3.2.toNat * 7))) rfl rfl (wanted_none rfl) (fun a => (hasA_cons (k := 4) rfl d4 (hasA_cons (k := 3) rfl d3 hasA_base))) (ov_L (L2 := [(box b2 65 [(int .i64 a2_0), (int .i64 a2_1), (int .i64 a2_2), (int .i64 a2_3), (int .i64 a2_4), (bool a2_5)]), (box p0 192 [sv0]), (own sv0 196 7 l0.length (fl enc_Omap_pair__int64__api_Entry l0))]) (by simp only [n8, sel]) (ov_indexAddr (sz := 6) 2 rfl rfl F_slice_190 F_size_196 rfl (isRd_ownx 196) c11 c12)) rfl rfl (onlyT_spec (k0 := 6) rfl rfl rfl)
     ·intro done hi hc hcu
      have d6 : done 6 = true := done_of (j := 6) hcu rfl (by decide) rfl
      have n8 : done 8 = false := notdone_of (m := 8) hc hi rfl rfl
      exact draw_value (i := 7) (t := 25) (v := (eptr sv0 (x3.2.toNat * 7 + 1))) rfl rfl (wanted_none rfl) (fun a => (hasA_cons (k := 6) rfl d6 hasA_base)) (ov_L (L2 := [(box b2 65 [(int .i64 a2_0), (int .i64 a2_1), (int .i64 a2_2), (int .i64 a2_3), (int .i64 a2_4), (bool a2_5)]), (box p0 192 [sv0]), (own sv0 196 7 l0.length (fl enc_Omap_pair__int64__api_Entry l0))]) (by simp only [n8, sel]) (ov_fieldAddrE (sz := 5) (k0 := x3.2.toNat * 7) (off := 1) 2 rfl F_field_196_1 F_size_65 rfl (isRd_ownx 196) (fl_pos enc_Omap_pair__int64__api_Entry_len (ix_lt c11 c12)))) rfl rfl (onlyT_spec (k0 := 7) rfl rfl rfl)
     ·intro done hi hc hcu
      have d7 : done 7 = true := done_of (j := 7) hcu rfl (by decide) rfl
      have d5 : done 5 = true := done_of (j := 5) hcu rfl (by decide) rfl
      exact draw_store (i := 8) (L2 := [(box b2 65 [(int .i64 a2_0), (int .i64 a2_1), (int .i64 a2_2), (int .i64 a2_3), (int .i64 a2_4), (bool a2_5)]), (box p0 192 [sv0]), (own sv0 196 7 l0.length (fl enc_Omap_pair__int64__api_Entry l0))]) (L3 := [(box b2 65 [(int .i64 a2_0), (int .i64 a2_1), (int .i64 a2_2), (int .i64 a2_3), (int .i64 a2_4), (bool a2_5)]), (box p0 192 [sv0]), (own sv0 196 7 (l0.set x3.2.toNat (⟨(l0.getD x3.2.toNat z_Omap_pair__int64__api_Entry).k, (⟨(⟨a2_0, a2_1⟩ : Api_Part), a2_2, a2_3, a2_4, a2_5⟩ : Api_Entry)⟩ : Omap_pair__int64__api_Entry)).length (fl enc_Omap_pair__int64__api_Entry (l0.set x3.2.toNat (⟨(l0.getD x3.2.toNat z_Omap_pair__int64__api_Entry).k, (⟨(⟨a2_0, a2_1⟩ : Api_Part), a2_2, a2_3, a2_4, a2_5⟩ : Api_Entry)⟩ : Omap_pair__int64__api_Entry))))]) rfl rfl (wanted_none rfl) (fun a => (hasA_cons (k := 5) rfl d5 (hasA_cons (k := 7) rfl d7 hasA_base))) (by simp only [hi, sel]) (by simp [up, sel]) (ot_storeEx (z := z_Omap_pair__int64__api_Entry) (y := (⟨(l0.getD x3.2.toNat z_Omap_pair__int64__api_Entry).k, (⟨(⟨a2_0, a2_1⟩ : Api_Part), a2_2, a2_3, a2_4, a2_5⟩ : Api_Entry)⟩ : Omap_pair__int64__api_Entry)) (us := [(int .i64 a2_0), (int .i64 a2_1), (int .i64 a2_2), (int .i64 a2_3), (int .i64 a2_4), (bool a2_5)]) (L' := [(box b2 65 [(int .i64 a2_0), (int .i64 a2_1), (int .i64 a2_2), (int .i64 a2_3), (int .i64 a2_4), (bool a2_5)]), (box p0 192 [sv0]), (own sv0 196 7 (l0.set x3.2.toNat (⟨(l0.getD x3.2.toNat z_Omap_pair__int64__api_Entry).k, (⟨(⟨a2_0, a2_1⟩ : Api_Part), a2_2, a2_3, a2_4, a2_5⟩ : Api_Entry)⟩ : Omap_pair__int64__api_Entry)).length (fl enc_Omap_pair__int64__api_Entry (l0.set x3.2.toNat (⟨(l0.getD x3.2.toNat z_Omap_pair__int64__api_Entry).k, (⟨(⟨a2_0, a2_1⟩ : Api_Part), a2_2, a2_3, a2_4, a2_5⟩ : Api_Entry)⟩ : Omap_pair__int64__api_Entry))))]) 2 rfl rfl rfl (all_one rfl) F_size_65 enc_Omap_pair__int64__api_Entry_len (ix_lt c11 c12) rfl rfl rfl rfl rfl) (offT_spec rfl)
    ·intro done hall
     refine draw_endL [(box b2 65 [(int .i64 a2_0), (int .i64 a2_1), (int .i64 a2_2), (int .i64 a2_3), (int .i64 a2_4), (bool a2_5)]), (box p0 192 [sv0]), (own sv0 196 7 (l0.set x3.2.toNat (⟨(l0.getD x3.2.toNat z_Omap_pair__int64__api_Entry).k, (⟨(⟨a2_0, a2_1⟩ : Api_Part), a2_2, a2_3, a2_4, a2_5⟩ : Api_Entry)⟩ : Omap_pair__int64__api_Entry)).length (fl enc_Omap_pair__int64__api_Entry (l0.set x3.2.toNat (⟨(l0.getD x3.2.toNat z_Omap_pair__int64__api_Entry).k, (⟨(⟨a2_0, a2_1⟩ : Api_Part), a2_2, a2_3, a2_4, a2_5⟩ : Api_Entry)⟩ : Omap_pair__int64__api_Entry))))] (by simp only [hall 8 (by decide), sel]) (fun a => (hasA_cons (k := 0) rfl (hall 0 (by decide)) (hasA_cons (k := 1) rfl (hall 1 (by decide)) (hasA_cons (k := 2) rfl (hall 2 (by decide)) (hasA_cons (k := 3) rfl (hall 3 (by decide)) (hasA_cons (k := 4) rfl (hall 4 (by decide)) (hasA_cons (k := 5) rfl (hall 5 (by decide)) (hasA_cons (k := 6) rfl (hall 6 (by decide)) (hasA_cons (k := 7) rfl (hall 7 (by decide)) hasA_base))))))))) ?_
     refine ent_seq ?_
     refine ent_region ?_
     refine ent_value (ov_assign rfl) rfl rfl rfl ?_
     refine ent_nil ?_
     refine ent_retc ?_
     cases H
     refine ent_pick [1, 2] (by decide) rfl ?_
     exact ret_tmp rfl rfl ⟨_, rfl, rfl⟩
   ·rw [if_neg c12] at H
    cases H
  ·rw [if_neg c11] at H
   cases H
 ·rw [if_neg c10] at H
  refine ent_cond_false rfl (Bool.eq_false_iff.2 c10) ?_
  refine ent_skip ?_
  refine ent_seq ?_
  obtain ⟨x4, h4, H⟩ := Option.bind_eq_some_iff.1 H
  let Z6_I : (Nat → Value) → (Nat → Bool) → Act → World → Prop := fun (ga2 : Nat → Value) done a w => StD 39 w0 F [(0, (pt p0 0)), (1, (int .i64 a1)), (2, (agg #[(int .i64 a2_0), (int .i64 a2_1), (int .i64 a2_2), (int .i64 a2_3), (int .i64 a2_4), (bool a2_5)])), (5, (pt b2 0)), (6, (bool false)), (7, (int .i64 x3.2)), (8, (bool x3.1)), (9, (pt p0 0)), (10, (bool false)), (11, (Value.tuple #[(int .i64 x3.2), (bool x3.1)])), (12, (pt p0 0)), (13, (int .i64 a1)), (14, (Value.tuple #[(int .i64 x3.2), (bool x3.1)])), (15, (int .i64 x3.2)), (16, (bool x3.1)), (17, (bool x3.1))] [(0, 26, (pt p0 0)), (1, 27, (pt p0 0)), (2, 28, (pt p0 0)), (3, 29, (pt p0 0)), (4, 30, sv0), (5, 31, (int .i64 x3.2)), (6, 32, (int .i64 a1)), (7, 33, (agg #[(int .i64 a2_0), (int .i64 a2_1), (int .i64 a2_2), (int .i64 a2_3), (int .i64 a2_4), (bool a2_5)])), (8, 34, (agg #[(int .i64 a1), (int .i64 a2_0), (int .i64 a2_1), (int .i64 a2_2), (int .i64 a2_3), (int .i64 a2_4), (bool a2_5)])), (9, 35, (ga2 9)), (10, 36, (ga2 10)), (11, 37, (pt p0 0)), (12, 38, (pt p0 0))] done [(sel (done 9) (own (ga2 9) 196 7 [(⟨a1, (⟨(⟨a2_0, a2_1⟩ : Api_Part), a2_2, a2_3, a2_4, a2_5⟩ : Api_Entry)⟩ : Omap_pair__int64__api_Entry)].length (fl enc_Omap_pair__int64__api_Entry [(⟨a1, (⟨(⟨a2_0, a2_1⟩ : Api_Part), a2_2, a2_3, a2_4, a2_5⟩ : Api_Entry)⟩ : Omap_pair__int64__api_Entry)])) emp), (box b2 65 [(int .i64 a2_0), (int .i64 a2_1), (int .i64 a2_2), (int .i64 a2_3), (int .i64 a2_4), (bool a2_5)]), (sel (done 13) (box p0 192 [(ga2 10)]) (box p0 192 [sv0])), (sel (done 10) (own (ga2 10) 196 7 x4.length (fl enc_Omap_pair__int64__api_Entry x4)) (own sv0 196 7 l0.length (fl enc_Omap_pair__int64__api_Entry l0)))] a w
  refine ent_drawm 14 rfl (fun done a w => ∃ ga2 : Nat → Value, Z6_I ga2 done a w) (by kernel_rfl) (by kernel_rfl) (draw_startG (T := (fun ga2 : Nat → Value => [(0, 26, (pt p0 0)), (1, 27, (pt p0 0)), (2, 28, (pt p0 0)), (3, 29, (pt p0 0)), (4, 30, sv0), (5, 31, (int .i64 x3.2)), (6, 32, (int .i64 a1)), (7, 33, (agg #[(int .i64 a2_0), (int .i64 a2_1), (int .i64 a2_2), (int .i64 a2_3), (int .i64 a2_4), (bool a2_5)])), (8, 34, (agg #[(int .i64 a1), (int .i64 a2_0), (int .i64 a2_1), (int .i64 a2_2), (int .i64 a2_3), (int .i64 a2_4), (bool a2_5)])), (9, 35, (ga2 9)), (10, 36, (ga2 10)), (11, 37, (pt p0 0)), (12, 38, (pt p0 0))])) (L' := fun ga2 : Nat → Value => [(sel false (own (ga2 9) 196 7 [(⟨a1, (⟨(⟨a2_0, a2_1⟩ : Api_Part), a2_2, a2_3, a2_4, a2_5⟩ : Api_Entry)⟩ : Omap_pair__int64__api_Entry)].length (fl enc_Omap_pair__int64__api_Entry [(⟨a1, (⟨(⟨a2_0, a2_1⟩ : Api_Part), a2_2, a2_3, a2_4, a2_5⟩ : Api_Entry)⟩ : Omap_pair__int64__api_Entry)])) emp), (box b2 65 [(int .i64 a2_0), (int .i64 a2_1), (int .i64 a2_2), (int .i64 a2_3), (int .i64 a2_4), (bool a2_5)]), (sel false (box p0 192 [(ga2 10)]) (box p0 192 [sv0])), (sel false (own (ga2 10) 196 7 x4.length (fl enc_Omap_pair__int64__api_Entry x4)) (own sv0 196 7 l0.length (fl enc_Omap_pair__int64__api_Entry l0)))]) 1 (sub_cons (t := 0) rfl (sub_cons (t := 1) rfl (sub_cons (t := 2) rfl (sub_cons (t := 5) rfl (sub_cons (t := 6) rfl (sub_cons (t := 7) rfl (sub_cons (t := 8) rfl (sub_cons (t := 9) rfl (sub_cons (t := 10) rfl (sub_cons (t := 11) rfl (sub_cons (t := 12) rfl (sub_cons (t := 13) rfl (sub_cons (t := 14) rfl (sub_cons (t := 15) rfl (sub_cons (t := 16) rfl (sub_cons (t := 17) rfl (sub_nil _))))))))))))))))) (fun _ => rfl)) ?_ ?_
  ·refine ⟨?_, ?_, ?_, ?_, ?_, ?_, ?_, ?_, ?_, ?_, ?_, ?_, ?_, ?_, trivial⟩
   ·intro done hi hc hcu
    refine draw_exi (I := Z6_I) fun ga2 => ?_
    exact draw_value (i := 0) (t := 26) (v := (pt p0 0)) rfl rfl (wanted_none rfl) (fun a => hasA_base) (ov_move rfl) rfl rfl (onlyT_spec (k0 := 0) rfl rfl rfl)
   ·intro done hi hc hcu
    refine draw_exi (I := Z6_I) fun ga2 => ?_
    exact draw_value (i := 1) (t := 27) (v := (pt p0 0)) rfl rfl (wanted_none rfl) (fun a => hasA_base) (ov_move rfl) rfl rfl (onlyT_spec (k0 := 1) rfl rfl rfl)
   ·intro done hi hc hcu
    refine draw_exi (I := Z6_I) fun ga2 => ?_
    have d1 : done 1 = true := done_of (j := 1) hcu rfl (by decide) rfl
    have n13 : done 13 = false := notdone_of (m := 13) hc hi rfl rfl
    exact draw_value (i := 2) (t := 28) (v := (pt p0 0)) rfl rfl (wanted_none rfl) (fun a => (hasA_cons (k := 1) rfl d1 hasA_base)) (ov_L (L2 := [(sel (done 9) (own (ga2 9) 196 7 [(⟨a1, (⟨(⟨a2_0, a2_1⟩ : Api_Part), a2_2, a2_3, a2_4, a2_5⟩ : Api_Entry)⟩ : Omap_pair__int64__api_Entry)].length (fl enc_Omap_pair__int64__api_Entry [(⟨a1, (⟨(⟨a2_0, a2_1⟩ : Api_Part), a2_2, a2_3, a2_4, a2_5⟩ : Api_Entry)⟩ : Omap_pair__int64__api_Entry)])) emp), (box b2 65 [(int .i64 a2_0), (int .i64 a2_1), (int .i64 a2_2), (int .i64 a2_3), (int .i64 a2_4), (bool a2_5)]), (box p0 192 [sv0]), (sel (done 10) (own (ga2 10) 196 7 x4.length (fl enc_Omap_pair__int64__api_Entry x4)) (own sv0 196 7 l0.length (fl enc_Omap_pair__int64__api_Entry l0)))]) (by simp only [n13, sel]) (ov_nilCheck rfl)) rfl rfl (onlyT_spec (k0 := 2) rfl rfl rfl)
   ·intro done hi hc hcu
    refine draw_exi (I := Z6_I) fun ga2 => ?_
    have d2 : done 2 = true := done_of (j := 2) hcu rfl (by decide) rfl
    have n13 : done 13 = false := notdone_of (m := 13) hc hi rfl rfl
    exact draw_value (i := 3) (t := 29) (v := (pt p0 0)) rfl rfl (wanted_none rfl) (fun a => (hasA_cons (k := 2) rfl d2 hasA_base)) (ov_L (L2 := [(sel (done 9) (own (ga2 9) 196 7 [(⟨a1, (⟨(⟨a2_0, a2_1⟩ : Api_Part), a2_2, a2_3, a2_4, a2_5⟩ : Api_Entry)⟩ : Omap_pair__int64__api_Entry)].length (fl enc_Omap_pair__int64__api_Entry [(⟨a1, (⟨(⟨a2_0, a2_1⟩ : Api_Part), a2_2, a2_3, a2_4, a2_5⟩ : Api_Entry)⟩ : Omap_pair__int64__api_Entry)])) emp), (box b2 65 [(int .i64 a2_0), (int .i64 a2_1), (int .i64 a2_2), (int .i64 a2_3), (int .i64 a2_4), (bool a2_5)]), (box p0 192 [sv0]), (sel (done 10) (own (ga2 10) 196 7 x4.length (fl enc_Omap_pair__int64__api_Entry x4)) (own sv0 196 7 l0.length (fl enc_Omap_pair__int64__api_Entry l0)))]) (by simp only [n13, sel]) (ov_fieldAddr (sz := 0) (o := 0) rfl F_field_192_0 F_size_190)) rfl rfl (onlyT_spec (k0 := 3) rfl rfl rfl)
   ·intro done hi hc hcu
    refine draw_exi (I := Z6_I) fun ga2 => ?_
    have d3 : done 3 = true := done_of (j := 3) hcu rfl (by decide) rfl
    have n13 : done 13 = false := notdone_of (m := 13) hc hi rfl rfl
    exact draw_value (i := 4) (t := 30) (v := sv0) rfl rfl (wanted_none rfl) (fun a => (hasA_cons (k := 3) rfl d3 hasA_base)) (ov_L (L2 := [(sel (done 9) (own (ga2 9) 196 7 [(⟨a1, (⟨(⟨a2_0, a2_1⟩ : Api_Part), a2_2, a2_3, a2_4, a2_5⟩ : Api_Entry)⟩ : Omap_pair__int64__api_Entry)].length (fl enc_Omap_pair__int64__api_Entry [(⟨a1, (⟨(⟨a2_0, a2_1⟩ : Api_Part), a2_2, a2_3, a2_4, a2_5⟩ : Api_Entry)⟩ : Omap_pair__int64__api_Entry)])) emp), (box b2 65 [(int .i64 a2_0), (int .i64 a2_1), (int .i64 a2_2), (int .i64 a2_3), (int .i64 a2_4), (bool a2_5)]), (box p0 192 [sv0]), (sel (done 10) (own (ga2 10) 196 7 x4.length (fl enc_Omap_pair__int64__api_Entry x4)) (own sv0 196 7 l0.length (fl enc_Omap_pair__int64__api_Entry l0)))]) (by simp only [n13, sel]) (ov_load (v := sv0) rfl F_agg_190 (reads_box1 (i := 2) rfl rfl))) rfl rfl (onlyT_spec (k0 := 4) rfl rfl rfl)
   ·intro done hi hc hcu
    refine draw_exi (I := Z6_I) fun ga2 => ?_
    exact draw_value (i := 5) (t := 31) (v := (int .i64 x3.2)) rfl rfl (wanted_none rfl) (fun a => hasA_base) (ov_move rfl) rfl rfl (onlyT_spec (k0 := 5) rfl rfl rfl)
   ·intro done hi hc hcu
    refine draw_exi (I := Z6_I) fun ga2 => ?_
    exact draw_value (i := 6) (t := 32) (v := (int .i64 a1)) rfl rfl (wanted_none rfl) (fun a => hasA_base) (ov_move rfl) rfl rfl (onlyT_spec (k0 := 6) rfl rfl rfl)
   ·intro done hi hc hcu
    refine draw_exi (I := Z6_I) fun ga2 => ?_
    exact draw_value (i := 7) (t := 33) (v := (agg #[(int .i64 a2_0), (int .i64 a2_1), (int .i64 a2_2), (int .i64 a2_3), (int .i64 a2_4), (bool a2_5)])) rfl rfl (wanted_none rfl) (fun a => hasA_base) (ov_load_agg (vs := [(int .i64 a2_0), (int .i64 a2_1), (int .i64 a2_2), (int .i64 a2_3), (int .i64 a2_4), (bool a2_5)]) rfl F_agg_65 F_size_65 (reads_boxW (i := 1) rfl)) rfl rfl (onlyT_spec (k0 := 7) rfl rfl rfl)
   ·intro done hi hc hcu
    refine draw_exi (I := Z6_I) fun ga2 => ?_
    have d6 : done 6 = true := done_of (j := 6) hcu rfl (by decide) rfl
    have d7 : done 7 = true := done_of (j := 7) hcu rfl (by decide) rfl
    exact draw_value (i := 8) (t := 34) (v := (agg #[(int .i64 a1), (int .i64 a2_0), (int .i64 a2_1), (int .i64 a2_2), (int .i64 a2_3), (int .i64 a2_4), (bool a2_5)])) rfl rfl (wanted_none rfl) (fun a => (hasA_cons (k := 7) rfl d7 (hasA_cons (k := 6) rfl d6 hasA_base))) (ov_build (is := [0, 1]) (xs := [.tmp 32, .tmp 33]) (vs := [(int .i64 a1), (agg #[(int .i64 a2_0), (int .i64 a2_1), (int .i64 a2_2), (int .i64 a2_3), (int .i64 a2_4), (bool a2_5)])]) rfl rfl (build_struct (cs := [(int .i64 a1), (int .i64 a2_0), (int .i64 a2_1), (int .i64 a2_2), (int .i64 a2_3), (int .i64 a2_4), (bool a2_5)]) F_zero_196 F_places_196 (by simp [Instr.fill, cells_int, cells_bool, cells_str, cells_func, cells_slice, cells_ptr, cells_nilFunc, cells_agg, ]))) rfl rfl (onlyT_spec (k0 := 8) rfl rfl rfl)
   ·intro done hi hc hcu
    refine ent_exi (S := fun ga2 => Z6_I ga2 done) fun ga2 => ?_
    have d8 : done 8 = true := done_of (j := 8) hcu rfl (by decide) rfl
    refine draw_newV (i := 9) (t := 35) (x := ga2) (L := (fun (ga2 : Nat → Value) (done : Nat → Bool) => [(sel (done 9) (own (ga2 9) 196 7 [(⟨a1, (⟨(⟨a2_0, a2_1⟩ : Api_Part), a2_2, a2_3, a2_4, a2_5⟩ : Api_Entry)⟩ : Omap_pair__int64__api_Entry)].length (fl enc_Omap_pair__int64__api_Entry [(⟨a1, (⟨(⟨a2_0, a2_1⟩ : Api_Part), a2_2, a2_3, a2_4, a2_5⟩ : Api_Entry)⟩ : Omap_pair__int64__api_Entry)])) emp), (box b2 65 [(int .i64 a2_0), (int .i64 a2_1), (int .i64 a2_2), (int .i64 a2_3), (int .i64 a2_4), (bool a2_5)]), (sel (done 13) (box p0 192 [(ga2 10)]) (box p0 192 [sv0])), (sel (done 10) (own (ga2 10) 196 7 x4.length (fl enc_Omap_pair__int64__api_Entry x4)) (own sv0 196 7 l0.length (fl enc_Omap_pair__int64__api_Entry l0)))])) (T := (fun ga2 : Nat → Value => [(0, 26, (pt p0 0)), (1, 27, (pt p0 0)), (2, 28, (pt p0 0)), (3, 29, (pt p0 0)), (4, 30, sv0), (5, 31, (int .i64 x3.2)), (6, 32, (int .i64 a1)), (7, 33, (agg #[(int .i64 a2_0), (int .i64 a2_1), (int .i64 a2_2), (int .i64 a2_3), (int .i64 a2_4), (bool a2_5)])), (8, 34, (agg #[(int .i64 a1), (int .i64 a2_0), (int .i64 a2_1), (int .i64 a2_2), (int .i64 a2_3), (int .i64 a2_4), (bool a2_5)])), (9, 35, (ga2 9)), (10, 36, (ga2 10)), (11, 37, (pt p0 0)), (12, 38, (pt p0 0))])) (L2 := [emp, (box b2 65 [(int .i64 a2_0), (int .i64 a2_1), (int .i64 a2_2), (int .i64 a2_3), (int .i64 a2_4), (bool a2_5)]), (sel (done 13) (box p0 192 [(ga2 10)]) (box p0 192 [sv0])), (sel (done 10) (own (ga2 10) 196 7 x4.length (fl enc_Omap_pair__int64__api_Entry x4)) (own sv0 196 7 l0.length (fl enc_Omap_pair__int64__api_Entry l0)))]) (B := fun v_ => (own v_ 196 7 [(⟨a1, (⟨(⟨a2_0, a2_1⟩ : Api_Part), a2_2, a2_3, a2_4, a2_5⟩ : Api_Entry)⟩ : Omap_pair__int64__api_Entry)].length (fl enc_Omap_pair__int64__api_Entry [(⟨a1, (⟨(⟨a2_0, a2_1⟩ : Api_Part), a2_2, a2_3, a2_4, a2_5⟩ : Api_Entry)⟩ : Omap_pair__int64__api_Entry)]))) 0 rfl rfl (wanted_none rfl) (fun a => (hasA_cons (k := 8) rfl d8 hasA_base)) (by simp only [hi, sel]) (ot_buildSlice (sz := 6) (xs := [.tmp 34]) (cs := fl enc_Omap_pair__int64__api_Entry [(⟨a1, (⟨(⟨a2_0, a2_1⟩ : Api_Part), a2_2, a2_3, a2_4, a2_5⟩ : Api_Entry)⟩ : Omap_pair__int64__api_Entry)]) rfl rfl F_slice_190 F_size_196 F_zero_196 rfl rfl (all_size rfl) rfl (by decide)) ?_ rfl (fun v_ => ?_) rfl rfl ?_
    ·rintro _ _ rfl; rfl
    ·simp [up, upb, sel, hi]
    ·rintro _ _ rfl
     exact (tr_same rfl rfl (tr_same rfl rfl (tr_same rfl rfl (tr_same rfl rfl (tr_same rfl rfl (tr_same rfl rfl (tr_same rfl rfl (tr_same rfl rfl (tr_same rfl rfl (tr_this (tr_same rfl rfl (tr_same rfl rfl (tr_same rfl rfl tr_nil)))))))))))))
   ·intro done hi hc hcu
    refine ent_exi (S := fun ga2 => Z6_I ga2 done) fun ga2 => ?_
    have d4 : done 4 = true := done_of (j := 4) hcu rfl (by decide) rfl
    have d5 : done 5 = true := done_of (j := 5) hcu rfl (by decide) rfl
    have d9 : done 9 = true := done_of (j := 9) hcu rfl (by decide) rfl
    have n13 : done 13 = false := notdone_of (m := 13) hc hi rfl rfl
    refine draw_turnP (i := 10) (t := 36) (x := ga2) (L := (fun (ga2 : Nat → Value) (done : Nat → Bool) => [(sel (done 9) (own (ga2 9) 196 7 [(⟨a1, (⟨(⟨a2_0, a2_1⟩ : Api_Part), a2_2, a2_3, a2_4, a2_5⟩ : Api_Entry)⟩ : Omap_pair__int64__api_Entry)].length (fl enc_Omap_pair__int64__api_Entry [(⟨a1, (⟨(⟨a2_0, a2_1⟩ : Api_Part), a2_2, a2_3, a2_4, a2_5⟩ : Api_Entry)⟩ : Omap_pair__int64__api_Entry)])) emp), (box b2 65 [(int .i64 a2_0), (int .i64 a2_1), (int .i64 a2_2), (int .i64 a2_3), (int .i64 a2_4), (bool a2_5)]), (sel (done 13) (box p0 192 [(ga2 10)]) (box p0 192 [sv0])), (sel (done 10) (own (ga2 10) 196 7 x4.length (fl enc_Omap_pair__int64__api_Entry x4)) (own sv0 196 7 l0.length (fl enc_Omap_pair__int64__api_Entry l0)))])) (T := (fun ga2 : Nat → Value => [(0, 26, (pt p0 0)), (1, 27, (pt p0 0)), (2, 28, (pt p0 0)), (3, 29, (pt p0 0)), (4, 30, sv0), (5, 31, (int .i64 x3.2)), (6, 32, (int .i64 a1)), (7, 33, (agg #[(int .i64 a2_0), (int .i64 a2_1), (int .i64 a2_2), (int .i64 a2_3), (int .i64 a2_4), (bool a2_5)])), (8, 34, (agg #[(int .i64 a1), (int .i64 a2_0), (int .i64 a2_1), (int .i64 a2_2), (int .i64 a2_3), (int .i64 a2_4), (bool a2_5)])), (9, 35, (ga2 9)), (10, 36, (ga2 10)), (11, 37, (pt p0 0)), (12, 38, (pt p0 0))])) (L2 := [(own (ga2 9) 196 7 [(⟨a1, (⟨(⟨a2_0, a2_1⟩ : Api_Part), a2_2, a2_3, a2_4, a2_5⟩ : Api_Entry)⟩ : Omap_pair__int64__api_Entry)].length (fl enc_Omap_pair__int64__api_Entry [(⟨a1, (⟨(⟨a2_0, a2_1⟩ : Api_Part), a2_2, a2_3, a2_4, a2_5⟩ : Api_Entry)⟩ : Omap_pair__int64__api_Entry)])), (box b2 65 [(int .i64 a2_0), (int .i64 a2_1), (int .i64 a2_2), (int .i64 a2_3), (int .i64 a2_4), (bool a2_5)]), (box p0 192 [sv0]), (own sv0 196 7 l0.length (fl enc_Omap_pair__int64__api_Entry l0))]) [3, 0, 1, 2] [1, 2, 3, 0] rfl rfl (wanted_none rfl) (fun a => (hasA_cons (k := 9) rfl d9 (hasA_cons (k := 5) rfl d5 (hasA_cons (k := 4) rfl d4 hasA_base)))) (by simp only [d9, n13, hi, sel]) (by decide) rfl (ot_call (Lr := [(box b2 65 [(int .i64 a2_0), (int .i64 a2_1), (int .i64 a2_2), (int .i64 a2_3), (int .i64 a2_4), (bool a2_5)]), (box p0 192 [sv0])]) (first := []) (cap := []) (xs := [.tmp 30, .tmp 31, .tmp 35]) rfl rfl F_call_169 rfl (slices_Insert____omap_pair__int64__api_Entry__omap_pair__int64__api_Entry.spec sv0 (ga2 9) l0 x3.2 [(⟨a1, (⟨(⟨a2_0, a2_1⟩ : Api_Part), a2_2, a2_3, a2_4, a2_5⟩ : Api_Entry)⟩ : Omap_pair__int64__api_Entry)] _ h4) rfl) (by decide) rfl rfl ?_
    rintro g0_ _ ⟨_, ⟨_, rfl, rfl⟩, rfl⟩
    exact ⟨(upb ga2 10 g0_), show some [(own (ga2 9) 196 7 [(⟨a1, (⟨(⟨a2_0, a2_1⟩ : Api_Part), a2_2, a2_3, a2_4, a2_5⟩ : Api_Entry)⟩ : Omap_pair__int64__api_Entry)].length (fl enc_Omap_pair__int64__api_Entry [(⟨a1, (⟨(⟨a2_0, a2_1⟩ : Api_Part), a2_2, a2_3, a2_4, a2_5⟩ : Api_Entry)⟩ : Omap_pair__int64__api_Entry)])), (box b2 65 [(int .i64 a2_0), (int .i64 a2_1), (int .i64 a2_2), (int .i64 a2_3), (int .i64 a2_4), (bool a2_5)]), (box p0 192 [sv0]), (own g0_ 196 7 x4.length (fl enc_Omap_pair__int64__api_Entry x4))] = _ by simp [up, upb, sel, d9, n13, n13, hi], (tr_same rfl rfl (tr_same rfl rfl (tr_same rfl rfl (tr_same rfl rfl (tr_same rfl rfl (tr_same rfl rfl (tr_same rfl rfl (tr_same rfl rfl (tr_same rfl rfl (tr_same rfl rfl (tr_this (tr_same rfl rfl (tr_same rfl rfl tr_nil)))))))))))))⟩
   ·intro done hi hc hcu
    refine draw_exi (I := Z6_I) fun ga2 => ?_
    have d0 : done 0 = true := done_of (j := 0) hcu rfl (by decide) rfl
    have n12 : done 12 = false := notdone_of (m := 12) hc hi rfl rfl
    have n13 : done 13 = false := notdone_of (m := 13) hc n12 rfl rfl
    exact draw_value (i := 11) (t := 37) (v := (pt p0 0)) rfl rfl (wanted_none rfl) (fun a => (hasA_cons (k := 0) rfl d0 hasA_base)) (ov_L (L2 := [(sel (done 9) (own (ga2 9) 196 7 [(⟨a1, (⟨(⟨a2_0, a2_1⟩ : Api_Part), a2_2, a2_3, a2_4, a2_5⟩ : Api_Entry)⟩ : Omap_pair__int64__api_Entry)].length (fl enc_Omap_pair__int64__api_Entry [(⟨a1, (⟨(⟨a2_0, a2_1⟩ : Api_Part), a2_2, a2_3, a2_4, a2_5⟩ : Api_Entry)⟩ : Omap_pair__int64__api_Entry)])) emp), (box b2 65 [(int .i64 a2_0), (int .i64 a2_1), (int .i64 a2_2), (int .i64 a2_3), (int .i64 a2_4), (bool a2_5)]), (box p0 192 [sv0]), (sel (done 10) (own (ga2 10) 196 7 x4.length (fl enc_Omap_pair__int64__api_Entry x4)) (own sv0 196 7 l0.length (fl enc_Omap_pair__int64__api_Entry l0)))]) (by simp only [n13, sel]) (ov_nilCheck rfl)) rfl rfl (onlyT_spec (k0 := 11) rfl rfl rfl)
   ·intro done hi hc hcu
    refine draw_exi (I := Z6_I) fun ga2 => ?_
    have d11 : done 11 = true := done_of (j := 11) hcu rfl (by decide) rfl
    have n13 : done 13 = false := notdone_of (m := 13) hc hi rfl rfl
    exact draw_value (i := 12) (t := 38) (v := (pt p0 0)) rfl rfl (wanted_none rfl) (fun a => (hasA_cons (k := 11) rfl d11 hasA_base)) (ov_L (L2 := [(sel (done 9) (own (ga2 9) 196 7 [(⟨a1, (⟨(⟨a2_0, a2_1⟩ : Api_Part), a2_2, a2_3, a2_4, a2_5⟩ : Api_Entry)⟩ : Omap_pair__int64__api_Entry)].length (fl enc_Omap_pair__int64__api_Entry [(⟨a1, (⟨(⟨a2_0, a2_1⟩ : Api_Part), a2_2, a2_3, a2_4, a2_5⟩ : Api_Entry)⟩ : Omap_pair__int64__api_Entry)])) emp), (box b2 65 [(int .i64 a2_0), (int .i64 a2_1), (int .i64 a2_2), (int .i64 a2_3), (int .i64 a2_4), (bool a2_5)]), (box p0 192 [sv0]), (sel (done 10) (own (ga2 10) 196 7 x4.length (fl enc_Omap_pair__int64__api_Entry x4)) (own sv0 196 7 l0.length (fl enc_Omap_pair__int64__api_Entry l0)))]) (by simp only [n13, sel]) (ov_fieldAddr (sz := 0) (o := 0) rfl F_field_192_0 F_size_190)) rfl rfl (onlyT_spec (k0 := 12) rfl rfl rfl)
   ·intro done hi hc hcu
    refine draw_exi (I := Z6_I) fun ga2 => ?_
    have d12 : done 12 = true := done_of (j := 12) hcu rfl (by decide) rfl
    have d10 : done 10 = true := done_of (j := 10) hcu rfl (by decide) rfl
    exact draw_store (i := 13) (L2 := [(sel (done 9) (own (ga2 9) 196 7 [(⟨a1, (⟨(⟨a2_0, a2_1⟩ : Api_Part), a2_2, a2_3, a2_4, a2_5⟩ : Api_Entry)⟩ : Omap_pair__int64__api_Entry)].length (fl enc_Omap_pair__int64__api_Entry [(⟨a1, (⟨(⟨a2_0, a2_1⟩ : Api_Part), a2_2, a2_3, a2_4, a2_5⟩ : Api_Entry)⟩ : Omap_pair__int64__api_Entry)])) emp), (box b2 65 [(int .i64 a2_0), (int .i64 a2_1), (int .i64 a2_2), (int .i64 a2_3), (int .i64 a2_4), (bool a2_5)]), (box p0 192 [sv0]), (own (ga2 10) 196 7 x4.length (fl enc_Omap_pair__int64__api_Entry x4))]) (L3 := [(sel (done 9) (own (ga2 9) 196 7 [(⟨a1, (⟨(⟨a2_0, a2_1⟩ : Api_Part), a2_2, a2_3, a2_4, a2_5⟩ : Api_Entry)⟩ : Omap_pair__int64__api_Entry)].length (fl enc_Omap_pair__int64__api_Entry [(⟨a1, (⟨(⟨a2_0, a2_1⟩ : Api_Part), a2_2, a2_3, a2_4, a2_5⟩ : Api_Entry)⟩ : Omap_pair__int64__api_Entry)])) emp), (box b2 65 [(int .i64 a2_0), (int .i64 a2_1), (int .i64 a2_2), (int .i64 a2_3), (int .i64 a2_4), (bool a2_5)]), (box p0 192 [(ga2 10)]), (own (ga2 10) 196 7 x4.length (fl enc_Omap_pair__int64__api_Entry x4))]) rfl rfl (wanted_none rfl) (fun a => (hasA_cons (k := 10) rfl d10 (hasA_cons (k := 12) rfl d12 hasA_base))) (by simp only [d10, hi, sel]) (by simp [up, d10, sel]) (ot_storeS (cs := [sv0]) (cs' := [(ga2 10)]) (sv := (ga2 10)) (L' := [(sel (done 9) (own (ga2 9) 196 7 [(⟨a1, (⟨(⟨a2_0, a2_1⟩ : Api_Part), a2_2, a2_3, a2_4, a2_5⟩ : Api_Entry)⟩ : Omap_pair__int64__api_Entry)].length (fl enc_Omap_pair__int64__api_Entry [(⟨a1, (⟨(⟨a2_0, a2_1⟩ : Api_Part), a2_2, a2_3, a2_4, a2_5⟩ : Api_Entry)⟩ : Omap_pair__int64__api_Entry)])) emp), (box b2 65 [(int .i64 a2_0), (int .i64 a2_1), (int .i64 a2_2), (int .i64 a2_3), (int .i64 a2_4), (bool a2_5)]), (box p0 192 [(ga2 10)]), (own (ga2 10) 196 7 x4.length (fl enc_Omap_pair__int64__api_Entry x4))]) 2 3 rfl rfl F_size_190 rfl rfl (isRd_ownx 196) rfl (by simp) rfl) (offT_spec rfl)
  ·intro done hall
   refine ent_exi (S := fun ga2 => Z6_I ga2 done) fun ga2 => ?_
   refine draw_endL [(own (ga2 9) 196 7 [(⟨a1, (⟨(⟨a2_0, a2_1⟩ : Api_Part), a2_2, a2_3, a2_4, a2_5⟩ : Api_Entry)⟩ : Omap_pair__int64__api_Entry)].length (fl enc_Omap_pair__int64__api_Entry [(⟨a1, (⟨(⟨a2_0, a2_1⟩ : Api_Part), a2_2, a2_3, a2_4, a2_5⟩ : Api_Entry)⟩ : Omap_pair__int64__api_Entry)])), (box b2 65 [(int .i64 a2_0), (int .i64 a2_1), (int .i64 a2_2), (int .i64 a2_3), (int .i64 a2_4), (bool a2_5)]), (box p0 192 [(ga2 10)]), (own (ga2 10) 196 7 x4.length (fl enc_Omap_pair__int64__api_Entry x4))] (by simp only [hall 9 (by decide), hall 10 (by decide), hall 13 (by decide), sel]) (fun a => (hasA_cons (k := 0) rfl (hall 0 (by decide)) (hasA_cons (k := 1) rfl (hall 1 (by decide)) (hasA_cons (k := 2) rfl (hall 2 (by decide)) (hasA_cons (k := 3) rfl (hall 3 (by decide)) (hasA_cons (k := 4) rfl (hall 4 (by decide)) (hasA_cons (k := 5) rfl (hall 5 (by decide)) (hasA_cons (k := 6) rfl (hall 6 (by decide)) (hasA_cons (k := 7) rfl (hall 7 (by decide)) (hasA_cons (k := 8) rfl (hall 8 (by decide)) (hasA_cons (k := 9) rfl (hall 9 (by decide)) (hasA_cons (k := 10) rfl (hall 10 (by decide)) (hasA_cons (k := 11) rfl (hall 11 (by decide)) (hasA_cons (k := 12) rfl (hall 12 (by decide)) hasA_base)))))))))))))) ?_
   refine ent_seq ?_
   refine ent_region ?_
   refine ent_value (ov_assign rfl) rfl rfl rfl ?_
   refine ent_nil ?_
   refine ent_retc ?_
   cases H
   refine ent_pick [2, 3] (by decide) rfl ?_
   exact ret_tmp rfl rfl ⟨_, rfl, rfl⟩

set_option maxRecDepth 100000 in
theorem catalog_Catalog_put_O.spec (K : Nat) (p0 : Nat) (p1 : Nat) (sv0 : Value) (l0 : List Omap_pair__int64__api_Entry) (a1_0 : Int) (a1_1 : Int) (a1_2 : Int) (a1_3 : Int) (a1_4 : Int) (a1_5 : Bool) (r : (Int × (List Omap_pair__int64__api_Entry))) (H : catalog_Catalog_put_O K l0 a1_0 a1_1 a1_2 a1_3 a1_4 a1_5 = some r) : FnSpec Try.prog 84 [(pt p0 0), (agg #[(int .i64 a1_0), (int .i64 a1_1), (int .i64 a1_2), (int .i64 a1_3), (int .i64 a1_4), (bool a1_5)])] [(box p0 139 [(pt p1 0)]), (box p1 192 [sv0]), (own sv0 196 7 l0.length (fl enc_Omap_pair__int64__api_Entry l0))] (fun v M => ∃ sv5 : Value, v = (int .i64 r.1) ∧ M = [(box p0 139 [(pt p1 0)]), (box p1 192 [sv5]), (own sv5 196 7 r.2.length (fl enc_Omap_pair__int64__api_Entry r.2))]) := by
 unfold catalog_Catalog_put_O at H
 refine spec_of Try.func84 rfl 29 rfl (Nat.le_of_ble_eq_true rfl) fun F w0 => ?_
 show Ent (St 29 w0 F [(0, (pt p0 0)), (1, (agg #[(int .i64 a1_0), (int .i64 a1_1), (int .i64 a1_2), (int .i64 a1_3), (int .i64 a1_4), (bool a1_5)]))] [(box p0 139 [(pt p1 0)]), (box p1 192 [sv0]), (own sv0 196 7 l0.length (fl enc_Omap_pair__int64__api_Entry l0))]) _
 refine ent_seq ?_
 refine ent_region ?_
 refine ent_op (ot_box (cs := [(int .i64 a1_0), (int .i64 a1_1), (int .i64 a1_2), (int .i64 a1_3), (int .i64 a1_4), (bool a1_5)]) rfl rfl) rfl rfl rfl ?_
 rintro _ _ ⟨b2, rfl, rfl⟩
 refine ent_value (ov_assign rfl) rfl rfl rfl ?_
 refine ent_nil ?_
 refine ent_seq ?_
 refine ent_seq ?_
 refine ent_region ?_
 refine ent_value (ov_load_agg (vs := [(int .i64 a1_0), (int .i64 a1_1), (int .i64 a1_2), (int .i64 a1_3), (int .i64 a1_4), (bool a1_5)]) rfl F_agg_65 F_size_65 (reads_boxW (i := 0) rfl)) rfl rfl rfl ?_
 obtain ⟨x9, h9, H⟩ := thn_elim H
 refine ent_op (ot_call0 (first := []) (cap := []) (xs := [.tmp 7]) rfl rfl F_call_92 rfl (catalog_Right.spec a1_0 a1_1 a1_2 a1_3 a1_4 a1_5 _ h9)) rfl rfl rfl ?_
 rintro _ _ ⟨rfl, rfl⟩
 refine ent_value (ov_un rfl (u_not _)) rfl rfl rfl ?_
 refine ent_nil ?_
 by_cases c6 : (!x9) = true
 ·rw [if_pos c6] at H
  refine ent_cond_true rfl c6 ?_
  refine ent_seq ?_
  refine ent_region ?_
  refine ent_value (ov_assign rfl) rfl rfl rfl ?_
  refine ent_nil ?_
  refine ent_retc ?_
  cases H
  refine ent_pick [1, 2, 3] (by decide) rfl ?_
  exact ret_tmp rfl rfl ⟨_, rfl, rfl⟩
 ·rw [if_neg c6] at H
  refine ent_cond_false rfl (Bool.eq_false_iff.2 c6) ?_
  refine ent_skip ?_
  refine ent_seq ?_
  refine ent_region ?_
  refine ent_value (ov_fieldAddr (sz := 1) (o := 0) rfl F_field_65_0 F_size_63) rfl rfl rfl ?_
  refine ent_value (ov_load_agg (vs := [(int .i64 a1_0), (int .i64 a1_1)]) rfl F_agg_63 F_size_63 (reads_boxN (i := 0) rfl rfl)) rfl rfl rfl ?_
  obtain ⟨x10, h10, H⟩ := thn_elim H
  refine ent_op (ot_call0 (first := []) (cap := []) (xs := [.tmp 12]) rfl rfl F_call_35 rfl (part_Span.spec a1_0 a1_1 _ h10)) rfl rfl rfl ?_
  rintro _ _ ⟨rfl, rfl⟩
  refine ent_value (ov_move rfl) rfl rfl rfl ?_
  refine ent_value (ov_extract rfl rfl) rfl rfl rfl ?_
  refine ent_value (ov_extract rfl rfl) rfl rfl rfl ?_
  refine ent_value (ov_assign rfl) rfl rfl rfl ?_
  refine ent_value (ov_assign rfl) rfl rfl rfl ?_
  refine ent_nil ?_
  refine ent_seq ?_
  refine ent_seq ?_
  refine ent_region ?_
  refine ent_value (ov_move rfl) rfl rfl rfl ?_
  refine ent_value (ov_move rfl) rfl rfl rfl ?_
  refine ent_value (ov_move rfl) rfl rfl rfl ?_
  obtain ⟨x12, h12, H⟩ := Option.bind_eq_some_iff.1 H
  refine ent_pick [1, 2, 3, 0] (by decide) rfl ?_
  refine ent_op (ot_call (Lr := [(box b2 65 [(int .i64 a1_0), (int .i64 a1_1), (int .i64 a1_2), (int .i64 a1_3), (int .i64 a1_4), (bool a1_5)])]) (first := []) (cap := []) (xs := [.tmp 16, .tmp 17, .tmp 18]) rfl rfl F_call_36 rfl (catalog_Catalog_Over_O.spec K p0 p1 sv0 l0 x10.1 x10.2 _ h12) rfl) rfl rfl rfl ?_
  rintro sv7 _ ⟨_, ⟨_, rfl, rfl⟩, rfl⟩
  refine ent_value (ov_len 3 rfl F_slice_53 rfl (isRd_ownx 65)) rfl rfl rfl ?_
  refine ent_value (ov_bin rfl rfl (b_gtr _ _ _)) rfl rfl rfl ?_
  refine ent_nil ?_
  by_cases c8 : 0 < (x12.length : Int)
  ·rw [if_pos c8] at H
   refine ent_cond_true rfl (decide_eq_true c8) ?_
   refine ent_seq ?_
   refine ent_region ?_
   refine ent_value (ov_assign rfl) rfl rfl rfl ?_
   refine ent_nil ?_
   refine ent_retc ?_
   cases H
   refine ent_pick [0, 1, 2] (by decide) rfl ?_
   exact ret_tmp rfl rfl ⟨_, rfl, rfl⟩
  ·rw [if_neg c8] at H
   refine ent_cond_false rfl (decide_eq_false c8) ?_
   refine ent_skip ?_
   refine ent_seq ?_
   obtain ⟨x13, h13, H⟩ := Option.bind_eq_some_iff.1 H
   let Z2_I : (Nat → Value) → (Nat → Bool) → Act → World → Prop := fun (ga2 : Nat → Value) done a w => StD 29 w0 F [(0, (pt p0 0)), (1, (agg #[(int .i64 a1_0), (int .i64 a1_1), (int .i64 a1_2), (int .i64 a1_3), (int .i64 a1_4), (bool a1_5)])), (3, (pt b2 0)), (4, (int .i64 0)), (5, (int .i64 x10.1)), (6, (int .i64 x10.2)), (7, (agg #[(int .i64 a1_0), (int .i64 a1_1), (int .i64 a1_2), (int .i64 a1_3), (int .i64 a1_4), (bool a1_5)])), (8, (bool x9)), (9, (bool (!x9))), (10, (Value.tuple #[(int .i64 x10.1), (int .i64 x10.2)])), (11, (pt b2 0)), (12, (agg #[(int .i64 a1_0), (int .i64 a1_1)])), (13, (Value.tuple #[(int .i64 x10.1), (int .i64 x10.2)])), (14, (int .i64 x10.1)), (15, (int .i64 x10.2)), (16, (pt p0 0)), (17, (int .i64 x10.1)), (18, (int .i64 x10.2)), (19, sv7), (20, (int .i64 (x12.length : Int))), (21, (bool (decide (0 < (x12.length : Int)))))] [(0, 22, (pt p0 0)), (1, 23, (pt p0 0)), (2, 24, (pt p0 0)), (3, 25, (pt p1 0)), (4, 26, (int .i64 x10.1)), (5, 27, (agg #[(int .i64 a1_0), (int .i64 a1_1), (int .i64 a1_2), (int .i64 a1_3), (int .i64 a1_4), (bool a1_5)])), (6, 28, (bool x13.1))] done [(box p0 139 [(pt p1 0)]), (sel (done 6) (box p1 192 [(ga2 6)]) (box p1 192 [sv0])), (sel (done 6) (own (ga2 6) 196 7 x13.2.length (fl enc_Omap_pair__int64__api_Entry x13.2)) (own sv0 196 7 l0.length (fl enc_Omap_pair__int64__api_Entry l0))), (own sv7 65 6 x12.length (fl enc_Api_Entry x12)), (box b2 65 [(int .i64 a1_0), (int .i64 a1_1), (int .i64 a1_2), (int .i64 a1_3), (int .i64 a1_4), (bool a1_5)])] a w
   refine ent_drawm 7 rfl (fun done a w => ∃ ga2 : Nat → Value, Z2_I ga2 done a w) (by kernel_rfl) (by kernel_rfl) (draw_startG (T := (fun ga2 : Nat → Value => [(0, 22, (pt p0 0)), (1, 23, (pt p0 0)), (2, 24, (pt p0 0)), (3, 25, (pt p1 0)), (4, 26, (int .i64 x10.1)), (5, 27, (agg #[(int .i64 a1_0), (int .i64 a1_1), (int .i64 a1_2), (int .i64 a1_3), (int .i64 a1_4), (bool a1_5)])), (6, 28, (bool x13.1))])) (L' := fun ga2 : Nat → Value => [(box p0 139 [(pt p1 0)]), (sel false (box p1 192 [(ga2 6)]) (box p1 192 [sv0])), (sel false (own (ga2 6) 196 7 x13.2.length (fl enc_Omap_pair__int64__api_Entry x13.2)) (own sv0 196 7 l0.length (fl enc_Omap_pair__int64__api_Entry l0))), (own sv7 65 6 x12.length (fl enc_Api_Entry x12)), (box b2 65 [(int .i64 a1_0), (int .i64 a1_1), (int .i64 a1_2), (int .i64 a1_3), (int .i64 a1_4), (bool a1_5)])]) 0 (sub_cons (t := 0) rfl (sub_cons (t := 1) rfl (sub_cons (t := 3) rfl (sub_cons (t := 4) rfl (sub_cons (t := 5) rfl (sub_cons (t := 6) rfl (sub_cons (t := 7) rfl (sub_cons (t := 8) rfl (sub_cons (t := 9) rfl (sub_cons (t := 10) rfl (sub_cons (t := 11) rfl (sub_cons (t := 12) rfl (sub_cons (t := 13) rfl (sub_cons (t := 14) rfl (sub_cons (t := 15) rfl (sub_cons (t := 16) rfl (sub_cons (t := 17) rfl (sub_cons (t := 18) rfl (sub_cons (t := 19) rfl (sub_cons (t := 20) rfl (sub_cons (t := 21) rfl (sub_nil _)))))))))))))))))))))) (fun _ => rfl)) ?_ ?_
   ·refine ⟨?_, ?_, ?_, ?_, ?_, ?_, ?_, trivial⟩
    ·intro done hi hc hcu
     refine draw_exi (I := Z2_I) fun ga2 => ?_
     exact draw_value (i := 0) (t := 22) (v := (pt p0 0)) rfl rfl (wanted_none rfl) (fun a => hasA_base) (ov_move rfl) rfl rfl (onlyT_spec (k0 := 0) rfl rfl rfl)
    ·intro done hi hc hcu
     refine draw_exi (I := Z2_I) fun ga2 => ?_
     have d0 : done 0 = true := done_of (j := 0) hcu rfl (by decide) rfl
     exact draw_value (i := 1) (t := 23) (v := (pt p0 0)) rfl rfl (wanted_none rfl) (fun a => (hasA_cons (k := 0) rfl d0 hasA_base)) (ov_nilCheck rfl) rfl rfl (onlyT_spec (k0 := 1) rfl rfl rfl)
    ·intro done hi hc hcu
     refine draw_exi (I := Z2_I) fun ga2 => ?_
     have d1 : done 1 = true := done_of (j := 1) hcu rfl (by decide) rfl
     exact draw_value (i := 2) (t := 24) (v := (pt p0 0)) rfl rfl (wanted_none rfl) (fun a => (hasA_cons (k := 1) rfl d1 hasA_base)) (ov_fieldAddr (sz := 0) (o := 0) rfl F_field_139_0 F_size_136) rfl rfl (onlyT_spec (k0 := 2) rfl rfl rfl)
    ·intro done hi hc hcu
     refine draw_exi (I := Z2_I) fun ga2 => ?_
     have d2 : done 2 = true := done_of (j := 2) hcu rfl (by decide) rfl
     exact draw_value (i := 3) (t := 25) (v := (pt p1 0)) rfl rfl (wanted_none rfl) (fun a => (hasA_cons (k := 2) rfl d2 hasA_base)) (ov_load (v := (pt p1 0)) rfl F_agg_136 (reads_box1 (i := 0) rfl rfl)) rfl rfl (onlyT_spec (k0 := 3) rfl rfl rfl)
    ·intro done hi hc hcu
     refine draw_exi (I := Z2_I) fun ga2 => ?_
     exact draw_value (i := 4) (t := 26) (v := (int .i64 x10.1)) rfl rfl (wanted_none rfl) (fun a => hasA_base) (ov_move rfl) rfl rfl (onlyT_spec (k0 := 4) rfl rfl rfl)
    ·intro done hi hc hcu
     refine draw_exi (I := Z2_I) fun ga2 => ?_
     exact draw_value (i := 5) (t := 27) (v := (agg #[(int .i64 a1_0), (int .i64 a1_1), (int .i64 a1_2), (int .i64 a1_3), (int .i64 a1_4), (bool a1_5)])) rfl rfl (wanted_none rfl) (fun a => hasA_base) (ov_load_agg (vs := [(int .i64 a1_0), (int .i64 a1_1), (int .i64 a1_2), (int .i64 a1_3), (int .i64 a1_4), (bool a1_5)]) rfl F_agg_65 F_size_65 (reads_boxW (i := 4) rfl)) rfl rfl (onlyT_spec (k0 := 5) rfl rfl rfl)
    ·intro done hi hc hcu
     refine ent_exi (S := fun ga2 => Z2_I ga2 done) fun ga2 => ?_
     have d3 : done 3 = true := done_of (j := 3) hcu rfl (by decide) rfl
     have d4 : done 4 = true := done_of (j := 4) hcu rfl (by decide) rfl
     have d5 : done 5 = true := done_of (j := 5) hcu rfl (by decide) rfl
     refine draw_turnP (i := 6) (t := 28) (x := ga2) (L := (fun (ga2 : Nat → Value) (done : Nat → Bool) => [(box p0 139 [(pt p1 0)]), (sel (done 6) (box p1 192 [(ga2 6)]) (box p1 192 [sv0])), (sel (done 6) (own (ga2 6) 196 7 x13.2.length (fl enc_Omap_pair__int64__api_Entry x13.2)) (own sv0 196 7 l0.length (fl enc_Omap_pair__int64__api_Entry l0))), (own sv7 65 6 x12.length (fl enc_Api_Entry x12)), (box b2 65 [(int .i64 a1_0), (int .i64 a1_1), (int .i64 a1_2), (int .i64 a1_3), (int .i64 a1_4), (bool a1_5)])])) (T := (fun ga2 : Nat → Value => [(0, 22, (pt p0 0)), (1, 23, (pt p0 0)), (2, 24, (pt p0 0)), (3, 25, (pt p1 0)), (4, 26, (int .i64 x10.1)), (5, 27, (agg #[(int .i64 a1_0), (int .i64 a1_1), (int .i64 a1_2), (int .i64 a1_3), (int .i64 a1_4), (bool a1_5)])), (6, 28, (bool x13.1))])) (L2 := [(box p0 139 [(pt p1 0)]), (box p1 192 [sv0]), (own sv0 196 7 l0.length (fl enc_Omap_pair__int64__api_Entry l0)), (own sv7 65 6 x12.length (fl enc_Api_Entry x12)), (box b2 65 [(int .i64 a1_0), (int .i64 a1_1), (int .i64 a1_2), (int .i64 a1_3), (int .i64 a1_4), (bool a1_5)])]) [1, 2, 0, 3, 4] [2, 0, 1, 3, 4] rfl rfl (wanted_none rfl) (fun a => (hasA_cons (k := 5) rfl d5 (hasA_cons (k := 4) rfl d4 (hasA_cons (k := 3) rfl d3 hasA_base)))) (by simp only [hi, sel]) (by decide) rfl (ot_call (Lr := [(box p0 139 [(pt p1 0)]), (own sv7 65 6 x12.length (fl enc_Api_Entry x12)), (box b2 65 [(int .i64 a1_0), (int .i64 a1_1), (int .i64 a1_2), (int .i64 a1_3), (int .i64 a1_4), (bool a1_5)])]) (first := []) (cap := []) (xs := [.tmp 25, .tmp 26, .tmp 27]) rfl rfl F_call_134 rfl (omap_Map__int64__api_Entry_Put_O.spec K p1 sv0 l0 x10.1 a1_0 a1_1 a1_2 a1_3 a1_4 a1_5 _ h13) rfl) (by decide) rfl rfl ?_
     rintro _ _ ⟨_, ⟨g0_, rfl, rfl⟩, rfl⟩
     exact ⟨(upb ga2 6 g0_), show some [(box p0 139 [(pt p1 0)]), (box p1 192 [g0_]), (own g0_ 196 7 x13.2.length (fl enc_Omap_pair__int64__api_Entry x13.2)), (own sv7 65 6 x12.length (fl enc_Api_Entry x12)), (box b2 65 [(int .i64 a1_0), (int .i64 a1_1), (int .i64 a1_2), (int .i64 a1_3), (int .i64 a1_4), (bool a1_5)])] = _ by simp [up, upb, sel, hi], (tr_same rfl rfl (tr_same rfl rfl (tr_same rfl rfl (tr_same rfl rfl (tr_same rfl rfl (tr_same rfl rfl (tr_this tr_nil)))))))⟩
   ·intro done hall
    refine ent_exi (S := fun ga2 => Z2_I ga2 done) fun ga2 => ?_
    refine draw_endL [(box p0 139 [(pt p1 0)]), (box p1 192 [(ga2 6)]), (own (ga2 6) 196 7 x13.2.length (fl enc_Omap_pair__int64__api_Entry x13.2)), (own sv7 65 6 x12.length (fl enc_Api_Entry x12)), (box b2 65 [(int .i64 a1_0), (int .i64 a1_1), (int .i64 a1_2), (int .i64 a1_3), (int .i64 a1_4), (bool a1_5)])] (by simp only [hall 6 (by decide), sel]) (fun a => (hasA_cons (k := 0) rfl (hall 0 (by decide)) (hasA_cons (k := 1) rfl (hall 1 (by decide)) (hasA_cons (k := 2) rfl (hall 2 (by decide)) (hasA_cons (k := 3) rfl (hall 3 (by decide)) (hasA_cons (k := 4) rfl (hall 4 (by decide)) (hasA_cons (k := 5) rfl (hall 5 (by decide)) (hasA_cons (k := 6) rfl (hall 6 (by decide)) hasA_base)))))))) ?_
    refine ent_seq ?_
    refine ent_region ?_
    refine ent_value (ov_assign rfl) rfl rfl rfl ?_
    refine ent_nil ?_
    refine ent_retc ?_
    cases H
    refine ent_pick [0, 1, 2] (by decide) rfl ?_
    exact ret_tmp rfl rfl ⟨_, rfl, rfl⟩

set_option maxRecDepth 100000 in
theorem catalog_Catalog_Apply_NNO.spec (K : Nat) (p0 : Nat) (p1 : Nat) (sv0 : Value) (l0 : List Api_Entry) (r : (Int × (List Omap_pair__int64__api_Entry))) (H : catalog_Catalog_Apply_NNO K l0 = some r) : FnSpec Try.prog 25 [(pt p0 0), (agg #[(slice none 0 0), sv0])] [(box p0 139 [(pt p1 0)]), (box p1 192 [(slice none 0 0)]), (own sv0 65 6 l0.length (fl enc_Api_Entry l0))] (fun v M => ∃ b34 : Nat, ∃ sv34 : Value, v = (int .i64 r.1) ∧ M = [(box p0 139 [(pt b34 0)]), (box b34 192 [sv34]), (own sv34 196 7 r.2.length (fl enc_Omap_pair__int64__api_Entry r.2)), (own sv0 65 6 l0.length (fl enc_Api_Entry l0))]) := by
 unfold catalog_Catalog_Apply_NNO at H
 refine spec_of Try.func25 rfl 67 rfl (Nat.le_of_ble_eq_true rfl) fun F w0 => ?_
 show Ent (St 67 w0 F [(0, (pt p0 0)), (1, (agg #[(slice none 0 0), sv0]))] [(box p0 139 [(pt p1 0)]), (box p1 192 [(slice none 0 0)]), (own sv0 65 6 l0.length (fl enc_Api_Entry l0))]) _
 refine ent_seq ?_
 refine ent_region ?_
 refine ent_op (ot_box (cs := [(slice none 0 0), sv0]) rfl rfl) rfl rfl rfl ?_
 rintro _ _ ⟨b35, rfl, rfl⟩
 refine ent_value (ov_assign rfl) rfl rfl rfl ?_
 refine ent_nil ?_
 refine ent_seq ?_
 refine ent_seq ?_
 refine ent_region ?_
 refine ent_value (ov_move rfl) rfl rfl rfl ?_
 refine ent_value (ov_bin rfl rfl (b_eql_of (fun w => rfl) rfl (eq_pn Try.underlying51 _ _))) rfl rfl rfl ?_
 refine ent_nil ?_
 refine ent_cond_false rfl rfl ?_
 refine ent_skip ?_
 refine ent_seq ?_
 refine ent_region ?_
 refine ent_value (ov_move rfl) rfl rfl rfl ?_
 obtain ⟨x31, h27, H⟩ := Option.bind_eq_some_iff.1 H
 refine ent_pick [1, 2, 0, 3] (by decide) rfl ?_
 refine ent_op (ot_call (Lr := [(box b35 59 [(slice none 0 0), sv0]), (own sv0 65 6 l0.length (fl enc_Api_Entry l0))]) (first := []) (cap := []) (xs := [.tmp 17]) rfl rfl F_call_30 rfl (catalog_Catalog_Copy_N.spec K p0 p1 _ h27) rfl) rfl rfl rfl ?_
 rintro _ _ ⟨_, ⟨b36, b37, sv35, rfl, rfl⟩, rfl⟩
 refine ent_value (ov_assign rfl) rfl rfl rfl ?_
 refine ent_nil ?_
 obtain ⟨x32, H16, H⟩ := Option.bind_eq_some_iff.1 H
 refine ent_seq_cut (fun a w => ∃ b38 : Nat, St 67 w0 F [(0, (pt p0 0)), (3, (pt b38 0)), (5, (pt b36 0))] [(box p0 139 [(pt p1 0)]), (box p1 192 [(slice none 0 0)]), (own sv0 65 6 l0.length (fl enc_Api_Entry l0)), (box b38 59 [(slice none 0 0), sv0]), (box b36 139 [(pt b37 0)]), (box b37 192 [sv35]), (own sv35 196 7 x31.length (fl enc_Omap_pair__int64__api_Entry x31))] a w) ?_ ?_
 ·refine ent_seq ?_
  refine ent_region ?_
  refine ent_value (ov_fieldAddr (sz := 0) (o := 0) rfl F_field_59_0 F_size_56) rfl rfl rfl ?_
  refine ent_value (ov_load (v := (slice none 0 0)) rfl F_agg_56 (reads_box1 (i := 5) rfl rfl)) rfl rfl rfl ?_
  refine ent_value (ov_len0 rfl F_slice_56) rfl rfl rfl ?_
  refine ent_value (ov_move rfl) rfl rfl rfl ?_
  refine ent_nil ?_
  refine ent_block ?_
  refine ent_loop (fun k a w => catalog_Catalog_Apply_NNO_l0 K k = some x32 ∧ St 67 w0 F [(0, (pt p0 0)), (3, (pt b35 0)), (5, (pt b36 0)), (20, (slice none 0 0)), (21, (int .i64 0)), (22, (int .i64 0))] [(box p0 139 [(pt p1 0)]), (box p1 192 [(slice none 0 0)]), (own sv0 65 6 l0.length (fl enc_Api_Entry l0)), (box b35 59 [(slice none 0 0), sv0]), (box b36 139 [(pt b37 0)]), (box b37 192 [sv35]), (own sv35 196 7 x31.length (fl enc_Omap_pair__int64__api_Entry x31))] a w) K ?_ ?_
  ·exact ent_fin [0, 1, 6, 5, 2, 3, 4] (by decide) rfl (sub_cons (t := 0) rfl (sub_cons (t := 3) rfl (sub_cons (t := 5) rfl (sub_cons (t := 20) rfl (sub_cons (t := 21) rfl (sub_cons (t := 22) rfl (sub_nil _))))))) fun a w h => ⟨H16, h⟩
  ·refine fun k => ent_and fun H17 => ?_
   cases k with
   | zero => exact absurd H17 (by simp [catalog_Catalog_Apply_NNO_l0])
   | succ k =>
    rw [catalog_Catalog_Apply_NNO_l0] at H17
    refine ent_seq ?_
    refine ent_region ?_
    refine ent_value (ov_bin rfl rfl (b_lss _ _ _)) rfl rfl rfl ?_
    refine ent_nil ?_
    refine ent_seq ?_
    refine ent_cond_false rfl rfl ?_
    refine ent_exit ?_
    cases H17
    exact ent_fin [0, 1, 2, 3, 4, 5, 6] (by decide) rfl (sub_cons (t := 0) rfl (sub_cons (t := 3) rfl (sub_cons (t := 5) rfl (sub_nil _)))) fun a w h => ⟨_, h⟩
 ·refine ent_exi fun b38 => ?_
  obtain ⟨x39, H19, H⟩ := Option.bind_eq_some_iff.1 H
  refine ent_seq_cut (fun a w => ∃ v3, x39 = Sum.inl v3 ∧ ∃ sv43 : Value, St 67 w0 F [(0, (pt p0 0)), (5, (pt b36 0))] [(box p0 139 [(pt p1 0)]), (box p1 192 [(slice none 0 0)]), (own sv0 65 6 l0.length (fl enc_Api_Entry l0)), (box b36 139 [(pt b37 0)]), (box b37 192 [sv43]), (own sv43 196 7 v3.length (fl enc_Omap_pair__int64__api_Entry v3))] a w) ?_ ?_
  ·refine ent_seq ?_
   refine ent_region ?_
   refine ent_value (ov_fieldAddr (sz := 0) (o := 0) rfl F_field_59_1 F_size_53) rfl rfl rfl ?_
   refine ent_value (ov_load (v := sv0) rfl F_agg_53 (reads_box1 (i := 3) rfl rfl)) rfl rfl rfl ?_
   refine ent_value (ov_len 2 rfl F_slice_53 rfl (isRd_ownx 65)) rfl rfl rfl ?_
   refine ent_value (ov_move rfl) rfl rfl rfl ?_
   refine ent_nil ?_
   refine ent_block ?_
   refine ent_loop (fun k a w => ∃ i8, ∃ l11, ∃ sv46 : Value, catalog_Catalog_Apply_NNO_l1 K l0 k i8 l11 = some x39 ∧ St 67 w0 F [(0, (pt p0 0)), (5, (pt b36 0)), (47, sv0), (48, (int .i64 (l0.length : Int))), (49, (int .i64 i8))] [(box p0 139 [(pt p1 0)]), (box p1 192 [(slice none 0 0)]), (own sv0 65 6 l0.length (fl enc_Api_Entry l0)), (box b36 139 [(pt b37 0)]), (box b37 192 [sv46]), (own sv46 196 7 l11.length (fl enc_Omap_pair__int64__api_Entry l11))] a w) K ?_ ?_
   ·exact ent_fin [0, 1, 2, 4, 5, 6] (by decide) rfl (sub_cons (t := 0) rfl (sub_cons (t := 5) rfl (sub_cons (t := 47) rfl (sub_cons (t := 48) rfl (sub_cons (t := 49) rfl (sub_nil _)))))) fun a w h => ⟨_, _, _, H19, h⟩
   ·refine fun k => ent_exi fun i8 => ent_exi fun l11 => ent_exi fun sv46 => ent_and fun H20 => ?_
    cases k with
    | zero => exact absurd H20 (by simp [catalog_Catalog_Apply_NNO_l1])
    | succ k =>
     rw [catalog_Catalog_Apply_NNO_l1] at H20
     refine ent_seq ?_
     refine ent_region ?_
     refine ent_value (ov_bin rfl rfl (b_lss _ _ _)) rfl rfl rfl ?_
     refine ent_nil ?_
     refine ent_seq ?_
     by_cases c92 : i8 < (l0.length : Int)
     ·rw [if_pos c92] at H20
      refine ent_cond_true rfl (decide_eq_true c92) ?_
      refine ent_skip ?_
      refine ent_seq ?_
      refine ent_block ?_
      refine ent_seq ?_
      refine ent_region ?_
      by_cases c95 : 0 ≤ i8
      ·rw [if_pos c95] at H20
       refine ent_value (ov_indexAddr (sz := 5) 2 rfl rfl F_slice_53 F_size_65 rfl (isRd_ownx 65) c95 c92) rfl rfl rfl ?_
       refine ent_value (ov_load_agg (vs := [(int .i64 (((l0.getD i8.toNat z_Api_Entry).Part).Tier)), (int .i64 (((l0.getD i8.toNat z_Api_Entry).Part).Index)), (int .i64 ((l0.getD i8.toNat z_Api_Entry).Seg)), (int .i64 ((l0.getD i8.toNat z_Api_Entry).Mark)), (int .i64 ((l0.getD i8.toNat z_Api_Entry).Rows)), (bool ((l0.getD i8.toNat z_Api_Entry).Cold))]) rfl F_agg_65 F_size_65 (reads_rd (i := 2) rfl (isRd_ownx 65) (by simp) (fl_read0 enc_Api_Entry_len (ix_lt c95 c92) rfl))) rfl rfl rfl ?_
       refine ent_op (ot_alloc F_zero_65) rfl rfl rfl ?_
       rintro _ _ ⟨b50, rfl, rfl⟩
       refine ent_op0 (ot_storeG (cs := [(int .i64 0), (int .i64 0), (int .i64 0), (int .i64 0), (int .i64 0), (bool false)]) (cs' := [(int .i64 (((l0.getD i8.toNat z_Api_Entry).Part).Tier)), (int .i64 (((l0.getD i8.toNat z_Api_Entry).Part).Index)), (int .i64 ((l0.getD i8.toNat z_Api_Entry).Seg)), (int .i64 ((l0.getD i8.toNat z_Api_Entry).Mark)), (int .i64 ((l0.getD i8.toNat z_Api_Entry).Rows)), (bool ((l0.getD i8.toNat z_Api_Entry).Cold))]) (us := [(int .i64 (((l0.getD i8.toNat z_Api_Entry).Part).Tier)), (int .i64 (((l0.getD i8.toNat z_Api_Entry).Part).Index)), (int .i64 ((l0.getD i8.toNat z_Api_Entry).Seg)), (int .i64 ((l0.getD i8.toNat z_Api_Entry).Mark)), (int .i64 ((l0.getD i8.toNat z_Api_Entry).Rows)), (bool ((l0.getD i8.toNat z_Api_Entry).Cold))]) (L' := [(box b50 65 [(int .i64 (((l0.getD i8.toNat z_Api_Entry).Part).Tier)), (int .i64 (((l0.getD i8.toNat z_Api_Entry).Part).Index)), (int .i64 ((l0.getD i8.toNat z_Api_Entry).Seg)), (int .i64 ((l0.getD i8.toNat z_Api_Entry).Mark)), (int .i64 ((l0.getD i8.toNat z_Api_Entry).Rows)), (bool ((l0.getD i8.toNat z_Api_Entry).Cold))]), (box p0 139 [(pt p1 0)]), (box p1 192 [(slice none 0 0)]), (own sv0 65 6 l0.length (fl enc_Api_Entry l0)), (box b36 139 [(pt b37 0)]), (box b37 192 [sv46]), (own sv46 196 7 l11.length (fl enc_Omap_pair__int64__api_Entry l11))]) 0 rfl rfl rfl (one_all rfl) F_size_65 rfl rfl (by simp) rfl) rfl rfl ?_
       rintro _ _ rfl
       refine ent_nil ?_
       refine ent_seq ?_
       refine ent_region ?_
       refine ent_value (ov_move rfl) rfl rfl rfl ?_
       refine ent_value (ov_load_agg (vs := [(int .i64 (((l0.getD i8.toNat z_Api_Entry).Part).Tier)), (int .i64 (((l0.getD i8.toNat z_Api_Entry).Part).Index)), (int .i64 ((l0.getD i8.toNat z_Api_Entry).Seg)), (int .i64 ((l0.getD i8.toNat z_Api_Entry).Mark)), (int .i64 ((l0.getD i8.toNat z_Api_Entry).Rows)), (bool ((l0.getD i8.toNat z_Api_Entry).Cold))]) rfl F_agg_65 F_size_65 (reads_boxW (i := 0) rfl)) rfl rfl rfl ?_
       obtain ⟨x45, h39, H20⟩ := Option.bind_eq_some_iff.1 H20
       refine ent_pick [4, 5, 6, 0, 1, 2, 3] (by decide) rfl ?_
       refine ent_op (ot_call (Lr := [(box b50 65 [(int .i64 (((l0.getD i8.toNat z_Api_Entry).Part).Tier)), (int .i64 (((l0.getD i8.toNat z_Api_Entry).Part).Index)), (int .i64 ((l0.getD i8.toNat z_Api_Entry).Seg)), (int .i64 ((l0.getD i8.toNat z_Api_Entry).Mark)), (int .i64 ((l0.getD i8.toNat z_Api_Entry).Rows)), (bool ((l0.getD i8.toNat z_Api_Entry).Cold))]), (box p0 139 [(pt p1 0)]), (box p1 192 [(slice none 0 0)]), (own sv0 65 6 l0.length (fl enc_Api_Entry l0))]) (first := []) (cap := []) (xs := [.tmp 53, .tmp 54]) rfl rfl F_call_84 rfl (catalog_Catalog_put_O.spec K b36 b37 sv46 l11 (((l0.getD i8.toNat z_Api_Entry).Part).Tier) (((l0.getD i8.toNat z_Api_Entry).Part).Index) ((l0.getD i8.toNat z_Api_Entry).Seg) ((l0.getD i8.toNat z_Api_Entry).Mark) ((l0.getD i8.toNat z_Api_Entry).Rows) ((l0.getD i8.toNat z_Api_Entry).Cold) _ h39) rfl) rfl rfl rfl ?_
       rintro _ _ ⟨_, ⟨sv50, rfl, rfl⟩, rfl⟩
       refine ent_value (ov_assign rfl) rfl rfl rfl ?_
       refine ent_nil ?_
       refine ent_seq ?_
       refine ent_region ?_
       refine ent_value (ov_move rfl) rfl rfl rfl ?_
       refine ent_value (ov_bin rfl rfl (b_neq _ _ _)) rfl rfl rfl ?_
       refine ent_nil ?_
       by_cases c96 : ¬ (x45.1 = 0)
       ·rw [if_pos c96] at H20
        refine ent_cond_true rfl (ne_t c96) ?_
        refine ent_seq ?_
        refine ent_region ?_
        refine ent_value (ov_move rfl) rfl rfl rfl ?_
        refine ent_value (ov_assign rfl) rfl rfl rfl ?_
        refine ent_nil ?_
        refine ent_retc ?_
        cases H20
        have H21 := Option.some.inj (show some _ = some _ from H)
        cases H21
        refine ent_ownnil 196 7 ?_
        refine ent_pick [5, 6, 0, 7] (by decide) rfl ?_
        exact ret_tmp rfl rfl ⟨_, _, rfl, rfl⟩
       ·rw [if_neg c96] at H20
        refine ent_cond_false rfl (ne_f c96) ?_
        refine ent_skip ?_
        refine ent_region ?_
        refine ent_value (ov_bin rfl rfl (b_add _ _ _) ) rfl rfl rfl ?_
        refine ent_value (ov_move rfl) rfl rfl rfl ?_
        refine ent_nil ?_
        exact ent_fin [4, 5, 6, 0, 1, 2] (by decide) rfl (sub_cons (t := 0) rfl (sub_cons (t := 5) rfl (sub_cons (t := 47) rfl (sub_cons (t := 48) rfl (sub_cons (t := 49) rfl (sub_nil _)))))) fun a w h => ⟨k, Nat.lt_succ_self k, _, _, _, H20, h⟩
      ·rw [if_neg c95] at H20
       cases H20
     ·rw [if_neg c92] at H20
      refine ent_cond_false rfl (decide_eq_false c92) ?_
      refine ent_exit ?_
      cases H20
      exact ent_fin [0, 1, 2, 3, 4, 5] (by decide) rfl (sub_cons (t := 0) rfl (sub_cons (t := 5) rfl (sub_nil _))) fun a w h => ⟨_, rfl, _, h⟩
  ·refine ent_exi fun v3 => ent_and fun e_ => ?_
   subst e_
   rw [cas_inl] at H
   refine ent_exi fun sv43 => ?_
   refine ent_seq ?_
   refine ent_region ?_
   refine ent_value (ov_move rfl) rfl rfl rfl ?_
   refine ent_value (ov_move rfl) rfl rfl rfl ?_
   refine ent_value (ov_nilCheck rfl) rfl rfl rfl ?_
   refine ent_value (ov_fieldAddr (sz := 0) (o := 0) rfl F_field_139_0 F_size_136) rfl rfl rfl ?_
   refine ent_value (ov_load (v := (pt b37 0)) rfl F_agg_136 (reads_box1 (i := 3) rfl rfl)) rfl rfl rfl ?_
   refine ent_value (ov_nilCheck rfl) rfl rfl rfl ?_
   refine ent_value (ov_fieldAddr (sz := 0) (o := 0) rfl F_field_139_0 F_size_136) rfl rfl rfl ?_
   refine ent_op0 (ot_storeG (cs := [(pt p1 0)]) (cs' := [(pt b37 0)]) (us := [(pt b37 0)]) (L' := [(box p0 139 [(pt b37 0)]), (box p1 192 [(slice none 0 0)]), (own sv0 65 6 l0.length (fl enc_Api_Entry l0)), (box b36 139 [(pt b37 0)]), (box b37 192 [sv43]), (own sv43 196 7 v3.length (fl enc_Omap_pair__int64__api_Entry v3))]) 0 rfl rfl rfl (one_all rfl) F_size_136 rfl rfl (by simp) rfl) rfl rfl ?_
   rintro _ _ rfl
   refine ent_nil ?_
   refine ent_seq ?_
   refine ent_region ?_
   refine ent_value (ov_assign rfl) rfl rfl rfl ?_
   refine ent_nil ?_
   refine ent_retc ?_
   cases H
   refine ent_pick [0, 4, 5, 2] (by decide) rfl ?_
   exact ret_tmp rfl rfl ⟨_, _, rfl, rfl⟩

set_option maxRecDepth 100000 in
theorem omap_Map__int64__api_Entry_All_O.spec (p0 : Nat) (sv0 : Value) (l0 : List Omap_pair__int64__api_Entry) (r : Unit) (H : omap_Map__int64__api_Entry_All_O l0 = r) : FnSpec Try.prog 91 [(pt p0 0)] [(box p0 192 [sv0]), (own sv0 196 7 l0.length (fl enc_Omap_pair__int64__api_Entry l0))] (fun v M => ∃ b2 : Nat, v = (Value.func (.func 176) #[] #[(pt b2 0)]) ∧ M = [(box p0 192 [sv0]), (own sv0 196 7 l0.length (fl enc_Omap_pair__int64__api_Entry l0)), (box b2 190 [sv0])]) := by
 unfold omap_Map__int64__api_Entry_All_O at H
 refine spec_of Try.func91 rfl 11 rfl (Nat.le_of_ble_eq_true rfl) fun F w0 => ?_
 show Ent (St 11 w0 F [(0, (pt p0 0))] [(box p0 192 [sv0]), (own sv0 196 7 l0.length (fl enc_Omap_pair__int64__api_Entry l0))]) _
 refine ent_seq ?_
 refine ent_region ?_
 refine ent_value (ov_assign rfl) rfl rfl rfl ?_
 refine ent_nil ?_
 refine ent_seq ?_
 refine ent_seq ?_
 refine ent_region ?_
 refine ent_value (ov_move rfl) rfl rfl rfl ?_
 refine ent_value (ov_bin rfl rfl (b_eql_of (fun w => rfl) rfl (eq_pn Try.underlying136 _ _))) rfl rfl rfl ?_
 refine ent_nil ?_
 refine ent_cond_false rfl rfl ?_
 refine ent_skip ?_
 refine ent_seq ?_
 refine ent_region ?_
 refine ent_value (ov_move rfl) rfl rfl rfl ?_
 refine ent_value (ov_nilCheck rfl) rfl rfl rfl ?_
 refine ent_value (ov_fieldAddr (sz := 0) (o := 0) rfl F_field_192_0 F_size_190) rfl rfl rfl ?_
 refine ent_value (ov_load (v := sv0) rfl F_agg_190 (reads_box1 (i := 0) rfl rfl)) rfl rfl rfl ?_
 obtain ⟨u2, h2, H⟩ := thn_elim H
 refine ent_pick [1, 0] (by decide) rfl ?_
 refine ent_op (ot_call (Lr := [(box p0 192 [sv0])]) (first := []) (cap := []) (xs := [.tmp 9]) rfl rfl F_call_140 rfl (omap_each__int64__api_Entry_R.spec sv0 (own sv0 196 7 l0.length (fl enc_Omap_pair__int64__api_Entry l0)) l0 (isRd_ownx 196) _ h2) rfl) rfl rfl rfl ?_
 rintro _ _ ⟨_, ⟨b3, rfl, rfl⟩, rfl⟩
 refine ent_value (ov_assign rfl) rfl rfl rfl ?_
 refine ent_nil ?_
 refine ent_retc ?_
 cases H
 refine ent_pick [2, 0, 1] (by decide) rfl ?_
 exact ret_tmp rfl rfl ⟨_, rfl, rfl⟩

set_option maxRecDepth 100000 in
theorem omap_Map__int64__api_Entry_Copy_O.spec (K : Nat) (p0 : Nat) (sv0 : Value) (l0 : List Omap_pair__int64__api_Entry) (r : List Omap_pair__int64__api_Entry) (H : omap_Map__int64__api_Entry_Copy_O K l0 = some r) : FnSpec Try.prog 89 [(pt p0 0)] [(box p0 192 [sv0]), (own sv0 196 7 l0.length (fl enc_Omap_pair__int64__api_Entry l0))] (fun v M => ∃ b15 : Nat, ∃ sv10 : Value, v = (pt b15 0) ∧ M = [(box p0 192 [sv0]), (own sv0 196 7 l0.length (fl enc_Omap_pair__int64__api_Entry l0)), (box b15 192 [sv10]), (own sv10 196 7 r.length (fl enc_Omap_pair__int64__api_Entry r))]) := by
 unfold omap_Map__int64__api_Entry_Copy_O at H
 refine spec_of Try.func89 rfl 26 rfl (Nat.le_of_ble_eq_true rfl) fun F w0 => ?_
 show Ent (St 26 w0 F [(0, (pt p0 0))] [(box p0 192 [sv0]), (own sv0 196 7 l0.length (fl enc_Omap_pair__int64__api_Entry l0))]) _
 refine ent_seq ?_
 refine ent_region ?_
 refine ent_value (ov_assign rfl) rfl rfl rfl ?_
 refine ent_nil ?_
 refine ent_seq ?_
 refine ent_seq ?_
 refine ent_region ?_
 refine ent_value (ov_move rfl) rfl rfl rfl ?_
 refine ent_value (ov_bin rfl rfl (b_eql_of (fun w => rfl) rfl (eq_pn Try.underlying136 _ _))) rfl rfl rfl ?_
 refine ent_nil ?_
 refine ent_cond_false rfl rfl ?_
 refine ent_skip ?_
 refine ent_seq ?_
 refine ent_region ?_
 obtain ⟨u4, h6, H⟩ := thn_elim H
 refine ent_op (ot_call (Lr := [(box p0 192 [sv0]), (own sv0 196 7 l0.length (fl enc_Omap_pair__int64__api_Entry l0))]) (first := []) (cap := []) (xs := []) rfl rfl F_call_81 rfl (omap_New__int64__api_Entry.spec _ h6) rfl) rfl rfl rfl ?_
 rintro _ _ ⟨_, ⟨b16, rfl, rfl⟩, rfl⟩
 refine ent_op (ot_alloc F_zero_136) rfl rfl rfl ?_
 rintro _ _ ⟨b17, rfl, rfl⟩
 refine ent_op0 (ot_storeG (cs := [(Value.pointer none)]) (cs' := [(pt b16 0)]) (us := [(pt b16 0)]) (L' := [(box b17 136 [(pt b16 0)]), (box b16 192 [(slice none 0 0)]), (box p0 192 [sv0]), (own sv0 196 7 l0.length (fl enc_Omap_pair__int64__api_Entry l0))]) 0 rfl rfl rfl (one_all rfl) F_size_136 rfl rfl (by simp) rfl) rfl rfl ?_
 rintro _ _ rfl
 refine ent_nil ?_
 refine ent_seq ?_
 refine ent_seq ?_
 refine ent_region ?_
 refine ent_value (ov_move rfl) rfl rfl rfl ?_
 obtain ⟨u6, h9, H⟩ := thn_elim H
 refine ent_pick [2, 3, 0, 1] (by decide) rfl ?_
 refine ent_op (ot_call (Lr := [(box b17 136 [(pt b16 0)]), (box b16 192 [(slice none 0 0)])]) (first := []) (cap := []) (xs := [.tmp 9]) rfl rfl F_call_91 rfl (omap_Map__int64__api_Entry_All_O.spec p0 sv0 l0 _ h9) rfl) rfl rfl rfl ?_
 rintro _ _ ⟨_, ⟨b24, rfl, rfl⟩, rfl⟩
 refine ent_nil ?_
 refine ent_block ?_
 obtain ⟨x4, h10, H⟩ := Option.bind_eq_some_iff.1 H
 refine ent_ownnil 196 7 ?_
 refine ent_rangeY (γ := List Omap_pair__int64__api_Entry) (cap := [(pt b24 0)]) (Lg := [(box b24 190 [sv0]), (own sv0 196 7 l0.length (fl enc_Omap_pair__int64__api_Entry l0))]) (M0 := [(box b17 136 [(pt b16 0)]), (box b16 192 [(slice none 0 0)]), (own (slice none 0 0) 196 7 0 []), (box p0 192 [sv0])]) (x0 := ([] : List Omap_pair__int64__api_Entry)) (x1 := x4) (fun (z4 : List Omap_pair__int64__api_Entry) M => ∃ sv16 : Value, M = [(box b17 136 [(pt b16 0)]), (box b16 192 [sv16]), (own sv16 196 7 z4.length (fl enc_Omap_pair__int64__api_Entry z4)), (box p0 192 [sv0])]) (fun vs z_ r_ => ∃ t0_ : Int, ∃ t1_ : Api_Entry, vs = [(int .i64 t0_), (agg #[(int .i64 t1_.Part.Tier), (int .i64 t1_.Part.Index), (int .i64 t1_.Seg), (int .i64 t1_.Mark), (int .i64 t1_.Rows), (bool t1_.Cold)])] ∧ omap_Map__int64__api_Entry_Copy_O_r0 K t0_ t1_ z_ = some r_) [3, 2, 4, 5, 0, 1] rfl rfl (by decide) rfl (by decide) ⟨_, rfl⟩ ?_ ?_ ?_
 ·rintro l _ z4 r _ ⟨t0_, t1_, rfl, Hl⟩ ⟨sv16, rfl⟩
  unfold omap_Map__int64__api_Entry_Copy_O_r0 at Hl
  refine ⟨rfl, Nat, fun g_ => [(3, (pt b17 0)), (4, (int .i64 t0_)), (5, (pt g_ 0)), (11, (int .i64 t0_)), (12, (agg #[(int .i64 t1_.Part.Tier), (int .i64 t1_.Part.Index), (int .i64 t1_.Seg), (int .i64 t1_.Mark), (int .i64 t1_.Rows), (bool t1_.Cold)]))], fun g_ => [(box g_ 65 [(int .i64 t1_.Part.Tier), (int .i64 t1_.Part.Index), (int .i64 t1_.Seg), (int .i64 t1_.Mark), (int .i64 t1_.Rows), (bool t1_.Cold)]), (box b17 136 [(pt b16 0)]), (box b16 192 [sv16]), (own sv16 196 7 z4.length (fl enc_Omap_pair__int64__api_Entry z4)), (box p0 192 [sv0])], fun F w0 => ?_, ?_⟩
  ·refine ent_seq ?_
   refine ent_region ?_
   refine ent_value (ov_assign rfl) rfl rfl rfl ?_
   refine ent_nil ?_
   refine ent_region ?_
   refine ent_op (ot_alloc F_zero_65) rfl rfl rfl ?_
   rintro _ _ ⟨b29, rfl, rfl⟩
   refine ent_op0 (ot_storeG (cs := [(int .i64 0), (int .i64 0), (int .i64 0), (int .i64 0), (int .i64 0), (bool false)]) (cs' := [(int .i64 t1_.Part.Tier), (int .i64 t1_.Part.Index), (int .i64 t1_.Seg), (int .i64 t1_.Mark), (int .i64 t1_.Rows), (bool t1_.Cold)]) (us := [(int .i64 t1_.Part.Tier), (int .i64 t1_.Part.Index), (int .i64 t1_.Seg), (int .i64 t1_.Mark), (int .i64 t1_.Rows), (bool t1_.Cold)]) (L' := [(box b29 65 [(int .i64 t1_.Part.Tier), (int .i64 t1_.Part.Index), (int .i64 t1_.Seg), (int .i64 t1_.Mark), (int .i64 t1_.Rows), (bool t1_.Cold)]), (box b17 136 [(pt b16 0)]), (box b16 192 [sv16]), (own sv16 196 7 z4.length (fl enc_Omap_pair__int64__api_Entry z4)), (box p0 192 [sv0])]) 0 rfl rfl rfl (one_all rfl) F_size_65 rfl rfl (by simp) rfl) rfl rfl ?_
   rintro _ _ rfl
   refine ent_nil ?_
   exact ent_fin [0, 1, 2, 3, 4] (by decide) rfl (sub_cons (t := 3) rfl (sub_cons (t := 4) rfl (sub_cons (t := 5) rfl (sub_cons (t := 11) rfl (sub_cons (t := 12) rfl (sub_nil _)))))) fun a w h => ⟨b29, h⟩
  ·rintro b29 F w0
   show Ent (St 26 w0 F [(3, (pt b17 0)), (4, (int .i64 t0_)), (5, (pt b29 0)), (11, (int .i64 t0_)), (12, (agg #[(int .i64 t1_.Part.Tier), (int .i64 t1_.Part.Index), (int .i64 t1_.Seg), (int .i64 t1_.Mark), (int .i64 t1_.Rows), (bool t1_.Cold)]))] [(box b29 65 [(int .i64 t1_.Part.Tier), (int .i64 t1_.Part.Index), (int .i64 t1_.Seg), (int .i64 t1_.Mark), (int .i64 t1_.Rows), (bool t1_.Cold)]), (box b17 136 [(pt b16 0)]), (box b16 192 [sv16]), (own sv16 196 7 z4.length (fl enc_Omap_pair__int64__api_Entry z4)), (box p0 192 [sv0])]) _
   refine ent_block ?_
   by_cases c12 : (z4.length + [(⟨t0_, (⟨(⟨t1_.Part.Tier, t1_.Part.Index⟩ : Api_Part), t1_.Seg, t1_.Mark, t1_.Rows, t1_.Cold⟩ : Api_Entry)⟩ : Omap_pair__int64__api_Entry)].length) * 56 ≤ 140737488355328
   ·rw [if_pos c12] at Hl
    refine ent_ownnil 196 7 ?_
    let Z12_I : (Nat → Value) → (Nat → Bool) → Act → World → Prop := fun (ga13 : Nat → Value) done a w => StD 26 w0 F [(3, (pt b17 0)), (4, (int .i64 t0_)), (5, (pt b29 0)), (11, (int .i64 t0_)), (12, (agg #[(int .i64 t1_.Part.Tier), (int .i64 t1_.Part.Index), (int .i64 t1_.Seg), (int .i64 t1_.Mark), (int .i64 t1_.Rows), (bool t1_.Cold)]))] [(0, 13, (pt b16 0)), (1, 14, (pt b16 0)), (2, 15, (pt b16 0)), (3, 16, (pt b16 0)), (4, 17, sv16), (5, 18, (int .i64 t0_)), (6, 19, (agg #[(int .i64 t1_.Part.Tier), (int .i64 t1_.Part.Index), (int .i64 t1_.Seg), (int .i64 t1_.Mark), (int .i64 t1_.Rows), (bool t1_.Cold)])), (7, 20, (agg #[(int .i64 t0_), (int .i64 t1_.Part.Tier), (int .i64 t1_.Part.Index), (int .i64 t1_.Seg), (int .i64 t1_.Mark), (int .i64 t1_.Rows), (bool t1_.Cold)])), (8, 21, (ga13 8)), (9, 22, (ga13 9)), (10, 23, (pt b16 0)), (11, 24, (pt b16 0))] done [(sel (done 8) (own (ga13 8) 196 7 [(⟨t0_, (⟨(⟨t1_.Part.Tier, t1_.Part.Index⟩ : Api_Part), t1_.Seg, t1_.Mark, t1_.Rows, t1_.Cold⟩ : Api_Entry)⟩ : Omap_pair__int64__api_Entry)].length (fl enc_Omap_pair__int64__api_Entry [(⟨t0_, (⟨(⟨t1_.Part.Tier, t1_.Part.Index⟩ : Api_Part), t1_.Seg, t1_.Mark, t1_.Rows, t1_.Cold⟩ : Api_Entry)⟩ : Omap_pair__int64__api_Entry)])) emp), (own (slice none 0 0) 196 7 ([] : List Omap_pair__int64__api_Entry).length (fl enc_Omap_pair__int64__api_Entry ([] : List Omap_pair__int64__api_Entry))), (box b29 65 [(int .i64 t1_.Part.Tier), (int .i64 t1_.Part.Index), (int .i64 t1_.Seg), (int .i64 t1_.Mark), (int .i64 t1_.Rows), (bool t1_.Cold)]), (box b17 136 [(pt b16 0)]), (sel (done 12) (box b16 192 [(ga13 9)]) (box b16 192 [sv16])), (sel (done 9) (own (ga13 9) 196 7 (z4 ++ [(⟨t0_, (⟨(⟨t1_.Part.Tier, t1_.Part.Index⟩ : Api_Part), t1_.Seg, t1_.Mark, t1_.Rows, t1_.Cold⟩ : Api_Entry)⟩ : Omap_pair__int64__api_Entry)]).length (fl enc_Omap_pair__int64__api_Entry (z4 ++ [(⟨t0_, (⟨(⟨t1_.Part.Tier, t1_.Part.Index⟩ : Api_Part), t1_.Seg, t1_.Mark, t1_.Rows, t1_.Cold⟩ : Api_Entry)⟩ : Omap_pair__int64__api_Entry)]))) (own sv16 196 7 z4.length (fl enc_Omap_pair__int64__api_Entry z4))), (box p0 192 [sv0])] a w
    refine ent_drawm 13 rfl (fun done a w => ∃ ga13 : Nat → Value, Z12_I ga13 done a w) (by kernel_rfl) (by kernel_rfl) (draw_startG (T := (fun ga13 : Nat → Value => [(0, 13, (pt b16 0)), (1, 14, (pt b16 0)), (2, 15, (pt b16 0)), (3, 16, (pt b16 0)), (4, 17, sv16), (5, 18, (int .i64 t0_)), (6, 19, (agg #[(int .i64 t1_.Part.Tier), (int .i64 t1_.Part.Index), (int .i64 t1_.Seg), (int .i64 t1_.Mark), (int .i64 t1_.Rows), (bool t1_.Cold)])), (7, 20, (agg #[(int .i64 t0_), (int .i64 t1_.Part.Tier), (int .i64 t1_.Part.Index), (int .i64 t1_.Seg), (int .i64 t1_.Mark), (int .i64 t1_.Rows), (bool t1_.Cold)])), (8, 21, (ga13 8)), (9, 22, (ga13 9)), (10, 23, (pt b16 0)), (11, 24, (pt b16 0))])) (L' := fun ga13 : Nat → Value => [(sel false (own (ga13 8) 196 7 [(⟨t0_, (⟨(⟨t1_.Part.Tier, t1_.Part.Index⟩ : Api_Part), t1_.Seg, t1_.Mark, t1_.Rows, t1_.Cold⟩ : Api_Entry)⟩ : Omap_pair__int64__api_Entry)].length (fl enc_Omap_pair__int64__api_Entry [(⟨t0_, (⟨(⟨t1_.Part.Tier, t1_.Part.Index⟩ : Api_Part), t1_.Seg, t1_.Mark, t1_.Rows, t1_.Cold⟩ : Api_Entry)⟩ : Omap_pair__int64__api_Entry)])) emp), (own (slice none 0 0) 196 7 ([] : List Omap_pair__int64__api_Entry).length (fl enc_Omap_pair__int64__api_Entry ([] : List Omap_pair__int64__api_Entry))), (box b29 65 [(int .i64 t1_.Part.Tier), (int .i64 t1_.Part.Index), (int .i64 t1_.Seg), (int .i64 t1_.Mark), (int .i64 t1_.Rows), (bool t1_.Cold)]), (box b17 136 [(pt b16 0)]), (sel false (box b16 192 [(ga13 9)]) (box b16 192 [sv16])), (sel false (own (ga13 9) 196 7 (z4 ++ [(⟨t0_, (⟨(⟨t1_.Part.Tier, t1_.Part.Index⟩ : Api_Part), t1_.Seg, t1_.Mark, t1_.Rows, t1_.Cold⟩ : Api_Entry)⟩ : Omap_pair__int64__api_Entry)]).length (fl enc_Omap_pair__int64__api_Entry (z4 ++ [(⟨t0_, (⟨(⟨t1_.Part.Tier, t1_.Part.Index⟩ : Api_Part), t1_.Seg, t1_.Mark, t1_.Rows, t1_.Cold⟩ : Api_Entry)⟩ : Omap_pair__int64__api_Entry)]))) (own sv16 196 7 z4.length (fl enc_Omap_pair__int64__api_Entry z4))), (box p0 192 [sv0])]) 1 (sub_cons (t := 3) rfl (sub_cons (t := 4) rfl (sub_cons (t := 5) rfl (sub_cons (t := 11) rfl (sub_cons (t := 12) rfl (sub_nil _)))))) (fun _ => rfl)) ?_ ?_
    ·refine ⟨?_, ?_, ?_, ?_, ?_, ?_, ?_, ?_, ?_, ?_, ?_, ?_, ?_, trivial⟩
     ·intro done hi hc hcu
      refine draw_exi (I := Z12_I) fun ga13 => ?_
      exact draw_value (i := 0) (t := 13) (v := (pt b16 0)) rfl rfl (wanted_none rfl) (fun a => hasA_base) (ov_load (v := (pt b16 0)) rfl F_agg_136 (reads_box1 (i := 3) rfl rfl)) rfl rfl (onlyT_spec (k0 := 0) rfl rfl rfl)
     ·intro done hi hc hcu
      refine draw_exi (I := Z12_I) fun ga13 => ?_
      exact draw_value (i := 1) (t := 14) (v := (pt b16 0)) rfl rfl (wanted_none rfl) (fun a => hasA_base) (ov_load (v := (pt b16 0)) rfl F_agg_136 (reads_box1 (i := 3) rfl rfl)) rfl rfl (onlyT_spec (k0 := 1) rfl rfl rfl)
     ·intro done hi hc hcu
      refine draw_exi (I := Z12_I) fun ga13 => ?_
      have d1 : done 1 = true := done_of (j := 1) hcu rfl (by decide) rfl
      have n12 : done 12 = false := notdone_of (m := 12) hc hi rfl rfl
      exact draw_value (i := 2) (t := 15) (v := (pt b16 0)) rfl rfl (wanted_none rfl) (fun a => (hasA_cons (k := 1) rfl d1 hasA_base)) (ov_L (L2 := [(sel (done 8) (own (ga13 8) 196 7 [(⟨t0_, (⟨(⟨t1_.Part.Tier, t1_.Part.Index⟩ : Api_Part), t1_.Seg, t1_.Mark, t1_.Rows, t1_.Cold⟩ : Api_Entry)⟩ : Omap_pair__int64__api_Entry)].length (fl enc_Omap_pair__int64__api_Entry [(⟨t0_, (⟨(⟨t1_.Part.Tier, t1_.Part.Index⟩ : Api_Part), t1_.Seg, t1_.Mark, t1_.Rows, t1_.Cold⟩ : Api_Entry)⟩ : Omap_pair__int64__api_Entry)])) emp), (own (slice none 0 0) 196 7 ([] : List Omap_pair__int64__api_Entry).length (fl enc_Omap_pair__int64__api_Entry ([] : List Omap_pair__int64__api_Entry))), (box b29 65 [(int .i64 t1_.Part.Tier), (int .i64 t1_.Part.Index), (int .i64 t1_.Seg), (int .i64 t1_.Mark), (int .i64 t1_.Rows), (bool t1_.Cold)]), (box b17 136 [(pt b16 0)]), (box b16 192 [sv16]), (sel (done 9) (own (ga13 9) 196 7 (z4 ++ [(⟨t0_, (⟨(⟨t1_.Part.Tier, t1_.Part.Index⟩ : Api_Part), t1_.Seg, t1_.Mark, t1_.Rows, t1_.Cold⟩ : Api_Entry)⟩ : Omap_pair__int64__api_Entry)]).length (fl enc_Omap_pair__int64__api_Entry (z4 ++ [(⟨t0_, (⟨(⟨t1_.Part.Tier, t1_.Part.Index⟩ : Api_Part), t1_.Seg, t1_.Mark, t1_.Rows, t1_.Cold⟩ : Api_Entry)⟩ : Omap_pair__int64__api_Entry)]))) (own sv16 196 7 z4.length (fl enc_Omap_pair__int64__api_Entry z4))), (box p0 192 [sv0])]) (by simp only [n12, sel]) (ov_nilCheck rfl)) rfl rfl (onlyT_spec (k0 := 2) rfl rfl rfl)
     ·intro done hi hc hcu
      refine draw_exi (I := Z12_I) fun ga13 => ?_
      have d2 : done 2 = true := done_of (j := 2) hcu rfl (by decide) rfl
      have n12 : done 12 = false := notdone_of (m := 12) hc hi rfl rfl
      exact draw_value (i := 3) (t := 16) (v := (pt b16 0)) rfl rfl (wanted_none rfl) (fun a => (hasA_cons (k := 2) rfl d2 hasA_base)) (ov_L (L2 := [(sel (done 8) (own (ga13 8) 196 7 [(⟨t0_, (⟨(⟨t1_.Part.Tier, t1_.Part.Index⟩ : Api_Part), t1_.Seg, t1_.Mark, t1_.Rows, t1_.Cold⟩ : Api_Entry)⟩ : Omap_pair__int64__api_Entry)].length (fl enc_Omap_pair__int64__api_Entry [(⟨t0_, (⟨(⟨t1_.Part.Tier, t1_.Part.Index⟩ : Api_Part), t1_.Seg, t1_.Mark, t1_.Rows, t1_.Cold⟩ : Api_Entry)⟩ : Omap_pair__int64__api_Entry)])) emp), (own (slice none 0 0) 196 7 ([] : List Omap_pair__int64__api_Entry).length (fl enc_Omap_pair__int64__api_Entry ([] : List Omap_pair__int64__api_Entry))), (box b29 65 [(int .i64 t1_.Part.Tier), (int .i64 t1_.Part.Index), (int .i64 t1_.Seg), (int .i64 t1_.Mark), (int .i64 t1_.Rows), (bool t1_.Cold)]), (box b17 136 [(pt b16 0)]), (box b16 192 [sv16]), (sel (done 9) (own (ga13 9) 196 7 (z4 ++ [(⟨t0_, (⟨(⟨t1_.Part.Tier, t1_.Part.Index⟩ : Api_Part), t1_.Seg, t1_.Mark, t1_.Rows, t1_.Cold⟩ : Api_Entry)⟩ : Omap_pair__int64__api_Entry)]).length (fl enc_Omap_pair__int64__api_Entry (z4 ++ [(⟨t0_, (⟨(⟨t1_.Part.Tier, t1_.Part.Index⟩ : Api_Part), t1_.Seg, t1_.Mark, t1_.Rows, t1_.Cold⟩ : Api_Entry)⟩ : Omap_pair__int64__api_Entry)]))) (own sv16 196 7 z4.length (fl enc_Omap_pair__int64__api_Entry z4))), (box p0 192 [sv0])]) (by simp only [n12, sel]) (ov_fieldAddr (sz := 0) (o := 0) rfl F_field_192_0 F_size_190)) rfl rfl (onlyT_spec (k0 := 3) rfl rfl rfl)
     ·intro done hi hc hcu
      refine draw_exi (I := Z12_I) fun ga13 => ?_
      have d3 : done 3 = true := done_of (j := 3) hcu rfl (by decide) rfl
      have n12 : done 12 = false := notdone_of (m := 12) hc hi rfl rfl
      exact draw_value (i := 4) (t := 17) (v := sv16) rfl rfl (wanted_none rfl) (fun a => (hasA_cons (k := 3) rfl d3 hasA_base)) (ov_L (L2 := [(sel (done 8) (own (ga13 8) 196 7 [(⟨t0_, (⟨(⟨t1_.Part.Tier, t1_.Part.Index⟩ : Api_Part), t1_.Seg, t1_.Mark, t1_.Rows, t1_.Cold⟩ : Api_Entry)⟩ : Omap_pair__int64__api_Entry)].length (fl enc_Omap_pair__int64__api_Entry [(⟨t0_, (⟨(⟨t1_.Part.Tier, t1_.Part.Index⟩ : Api_Part), t1_.Seg, t1_.Mark, t1_.Rows, t1_.Cold⟩ : Api_Entry)⟩ : Omap_pair__int64__api_Entry)])) emp), (own (slice none 0 0) 196 7 ([] : List Omap_pair__int64__api_Entry).length (fl enc_Omap_pair__int64__api_Entry ([] : List Omap_pair__int64__api_Entry))), (box b29 65 [(int .i64 t1_.Part.Tier), (int .i64 t1_.Part.Index), (int .i64 t1_.Seg), (int .i64 t1_.Mark), (int .i64 t1_.Rows), (bool t1_.Cold)]), (box b17 136 [(pt b16 0)]), (box b16 192 [sv16]), (sel (done 9) (own (ga13 9) 196 7 (z4 ++ [(⟨t0_, (⟨(⟨t1_.Part.Tier, t1_.Part.Index⟩ : Api_Part), t1_.Seg, t1_.Mark, t1_.Rows, t1_.Cold⟩ : Api_Entry)⟩ : Omap_pair__int64__api_Entry)]).length (fl enc_Omap_pair__int64__api_Entry (z4 ++ [(⟨t0_, (⟨(⟨t1_.Part.Tier, t1_.Part.Index⟩ : Api_Part), t1_.Seg, t1_.Mark, t1_.Rows, t1_.Cold⟩ : Api_Entry)⟩ : Omap_pair__int64__api_Entry)]))) (own sv16 196 7 z4.length (fl enc_Omap_pair__int64__api_Entry z4))), (box p0 192 [sv0])]) (by simp only [n12, sel]) (ov_load (v := sv16) rfl F_agg_190 (reads_box1 (i := 4) rfl rfl))) rfl rfl (onlyT_spec (k0 := 4) rfl rfl rfl)
     ·intro done hi hc hcu
      refine draw_exi (I := Z12_I) fun ga13 => ?_
      exact draw_value (i := 5) (t := 18) (v := (int .i64 t0_)) rfl rfl (wanted_none rfl) (fun a => hasA_base) (ov_move rfl) rfl rfl (onlyT_spec (k0 := 5) rfl rfl rfl)
     ·intro done hi hc hcu
      refine draw_exi (I := Z12_I) fun ga13 => ?_
      exact draw_value (i := 6) (t := 19) (v := (agg #[(int .i64 t1_.Part.Tier), (int .i64 t1_.Part.Index), (int .i64 t1_.Seg), (int .i64 t1_.Mark), (int .i64 t1_.Rows), (bool t1_.Cold)])) rfl rfl (wanted_none rfl) (fun a => hasA_base) (ov_load_agg (vs := [(int .i64 t1_.Part.Tier), (int .i64 t1_.Part.Index), (int .i64 t1_.Seg), (int .i64 t1_.Mark), (int .i64 t1_.Rows), (bool t1_.Cold)]) rfl F_agg_65 F_size_65 (reads_boxW (i := 2) rfl)) rfl rfl (onlyT_spec (k0 := 6) rfl rfl rfl)
     ·intro done hi hc hcu
      refine draw_exi (I := Z12_I) fun ga13 => ?_
      have d5 : done 5 = true := done_of (j := 5) hcu rfl (by decide) rfl
      have d6 : done 6 = true := done_of (j := 6) hcu rfl (by decide) rfl
      exact draw_value (i := 7) (t := 20) (v := (agg #[(int .i64 t0_), (int .i64 t1_.Part.Tier), (int .i64 t1_.Part.Index), (int .i64 t1_.Seg), (int .i64 t1_.Mark), (int .i64 t1_.Rows), (bool t1_.Cold)])) rfl rfl (wanted_none rfl) (fun a => (hasA_cons (k := 6) rfl d6 (hasA_cons (k := 5) rfl d5 hasA_base))) (ov_build (is := [0, 1]) (xs := [.tmp 18, .tmp 19]) (vs := [(int .i64 t0_), (agg #[(int .i64 t1_.Part.Tier), (int .i64 t1_.Part.Index), (int .i64 t1_.Seg), (int .i64 t1_.Mark), (int .i64 t1_.Rows), (bool t1_.Cold)])]) rfl rfl (build_struct (cs := [(int .i64 t0_), (int .i64 t1_.Part.Tier), (int .i64 t1_.Part.Index), (int .i64 t1_.Seg), (int .i64 t1_.Mark), (int .i64 t1_.Rows), (bool t1_.Cold)]) F_zero_196 F_places_196 (by simp [Instr.fill, cells_int, cells_bool, cells_str, cells_func, cells_slice, cells_ptr, cells_nilFunc, cells_agg, ]))) rfl rfl (onlyT_spec (k0 := 7) rfl rfl rfl)
     ·intro done hi hc hcu
      refine ent_exi (S := fun ga13 => Z12_I ga13 done) fun ga13 => ?_
      have d7 : done 7 = true := done_of (j := 7) hcu rfl (by decide) rfl
      refine draw_newV (i := 8) (t := 21) (x := ga13) (L := (fun (ga13 : Nat → Value) (done : Nat → Bool) => [(sel (done 8) (own (ga13 8) 196 7 [(⟨t0_, (⟨(⟨t1_.Part.Tier, t1_.Part.Index⟩ : Api_Part), t1_.Seg, t1_.Mark, t1_.Rows, t1_.Cold⟩ : Api_Entry)⟩ : Omap_pair__int64__api_Entry)].length (fl enc_Omap_pair__int64__api_Entry [(⟨t0_, (⟨(⟨t1_.Part.Tier, t1_.Part.Index⟩ : Api_Part), t1_.Seg, t1_.Mark, t1_.Rows, t1_.Cold⟩ : Api_Entry)⟩ : Omap_pair__int64__api_Entry)])) emp), (own (slice none 0 0) 196 7 ([] : List Omap_pair__int64__api_Entry).length (fl enc_Omap_pair__int64__api_Entry ([] : List Omap_pair__int64__api_Entry))), (box b29 65 [(int .i64 t1_.Part.Tier), (int .i64 t1_.Part.Index), (int .i64 t1_.Seg), (int .i64 t1_.Mark), (int .i64 t1_.Rows), (bool t1_.Cold)]), (box b17 136 [(pt b16 0)]), (sel (done 12) (box b16 192 [(ga13 9)]) (box b16 192 [sv16])), (sel (done 9) (own (ga13 9) 196 7 (z4 ++ [(⟨t0_, (⟨(⟨t1_.Part.Tier, t1_.Part.Index⟩ : Api_Part), t1_.Seg, t1_.Mark, t1_.Rows, t1_.Cold⟩ : Api_Entry)⟩ : Omap_pair__int64__api_Entry)]).length (fl enc_Omap_pair__int64__api_Entry (z4 ++ [(⟨t0_, (⟨(⟨t1_.Part.Tier, t1_.Part.Index⟩ : Api_Part), t1_.Seg, t1_.Mark, t1_.Rows, t1_.Cold⟩ : Api_Entry)⟩ : Omap_pair__int64__api_Entry)]))) (own sv16 196 7 z4.length (fl enc_Omap_pair__int64__api_Entry z4))), (box p0 192 [sv0])])) (T := (fun ga13 : Nat → Value => [(0, 13, (pt b16 0)), (1, 14, (pt b16 0)), (2, 15, (pt b16 0)), (3, 16, (pt b16 0)), (4, 17, sv16), (5, 18, (int .i64 t0_)), (6, 19, (agg #[(int .i64 t1_.Part.Tier), (int .i64 t1_.Part.Index), (int .i64 t1_.Seg), (int .i64 t1_.Mark), (int .i64 t1_.Rows), (bool t1_.Cold)])), (7, 20, (agg #[(int .i64 t0_), (int .i64 t1_.Part.Tier), (int .i64 t1_.Part.Index), (int .i64 t1_.Seg), (int .i64 t1_.Mark), (int .i64 t1_.Rows), (bool t1_.Cold)])), (8, 21, (ga13 8)), (9, 22, (ga13 9)), (10, 23, (pt b16 0)), (11, 24, (pt b16 0))])) (L2 := [emp, (own (slice none 0 0) 196 7 ([] : List Omap_pair__int64__api_Entry).length (fl enc_Omap_pair__int64__api_Entry ([] : List Omap_pair__int64__api_Entry))), (box b29 65 [(int .i64 t1_.Part.Tier), (int .i64 t1_.Part.Index), (int .i64 t1_.Seg), (int .i64 t1_.Mark), (int .i64 t1_.Rows), (bool t1_.Cold)]), (box b17 136 [(pt b16 0)]), (sel (done 12) (box b16 192 [(ga13 9)]) (box b16 192 [sv16])), (sel (done 9) (own (ga13 9) 196 7 (z4 ++ [(⟨t0_, (⟨(⟨t1_.Part.Tier, t1_.Part.Index⟩ : Api_Part), t1_.Seg, t1_.Mark, t1_.Rows, t1_.Cold⟩ : Api_Entry)⟩ : Omap_pair__int64__api_Entry)]).length (fl enc_Omap_pair__int64__api_Entry (z4 ++ [(⟨t0_, (⟨(⟨t1_.Part.Tier, t1_.Part.Index⟩ : Api_Part), t1_.Seg, t1_.Mark, t1_.Rows, t1_.Cold⟩ : Api_Entry)⟩ : Omap_pair__int64__api_Entry)]))) (own sv16 196 7 z4.length (fl enc_Omap_pair__int64__api_Entry z4))), (box p0 192 [sv0])]) (B := fun v_ => (own v_ 196 7 [(⟨t0_, (⟨(⟨t1_.Part.Tier, t1_.Part.Index⟩ : Api_Part), t1_.Seg, t1_.Mark, t1_.Rows, t1_.Cold⟩ : Api_Entry)⟩ : Omap_pair__int64__api_Entry)].length (fl enc_Omap_pair__int64__api_Entry [(⟨t0_, (⟨(⟨t1_.Part.Tier, t1_.Part.Index⟩ : Api_Part), t1_.Seg, t1_.Mark, t1_.Rows, t1_.Cold⟩ : Api_Entry)⟩ : Omap_pair__int64__api_Entry)]))) 0 rfl rfl (wanted_none rfl) (fun a => (hasA_cons (k := 7) rfl d7 hasA_base)) (by simp only [hi, sel]) (ot_buildSlice (sz := 6) (xs := [.tmp 20]) (cs := fl enc_Omap_pair__int64__api_Entry [(⟨t0_, (⟨(⟨t1_.Part.Tier, t1_.Part.Index⟩ : Api_Part), t1_.Seg, t1_.Mark, t1_.Rows, t1_.Cold⟩ : Api_Entry)⟩ : Omap_pair__int64__api_Entry)]) rfl rfl F_slice_190 F_size_196 F_zero_196 rfl rfl (all_size rfl) rfl (by decide)) ?_ rfl (fun v_ => ?_) rfl rfl ?_
      ·rintro _ _ rfl; rfl
      ·simp [up, upb, sel, hi]
      ·rintro _ _ rfl
       exact (tr_same rfl rfl (tr_same rfl rfl (tr_same rfl rfl (tr_same rfl rfl (tr_same rfl rfl (tr_same rfl rfl (tr_same rfl rfl (tr_same rfl rfl (tr_this (tr_same rfl rfl (tr_same rfl rfl (tr_same rfl rfl tr_nil))))))))))))
     ·intro done hi hc hcu
      refine ent_exi (S := fun ga13 => Z12_I ga13 done) fun ga13 => ?_
      have d4 : done 4 = true := done_of (j := 4) hcu rfl (by decide) rfl
      have d8 : done 8 = true := done_of (j := 8) hcu rfl (by decide) rfl
      have n12 : done 12 = false := notdone_of (m := 12) hc hi rfl rfl
      exact draw_turnI (i := 9) (t := 22) (x := ga13) (L := (fun (ga13 : Nat → Value) (done : Nat → Bool) => [(sel (done 8) (own (ga13 8) 196 7 [(⟨t0_, (⟨(⟨t1_.Part.Tier, t1_.Part.Index⟩ : Api_Part), t1_.Seg, t1_.Mark, t1_.Rows, t1_.Cold⟩ : Api_Entry)⟩ : Omap_pair__int64__api_Entry)].length (fl enc_Omap_pair__int64__api_Entry [(⟨t0_, (⟨(⟨t1_.Part.Tier, t1_.Part.Index⟩ : Api_Part), t1_.Seg, t1_.Mark, t1_.Rows, t1_.Cold⟩ : Api_Entry)⟩ : Omap_pair__int64__api_Entry)])) emp), (own (slice none 0 0) 196 7 ([] : List Omap_pair__int64__api_Entry).length (fl enc_Omap_pair__int64__api_Entry ([] : List Omap_pair__int64__api_Entry))), (box b29 65 [(int .i64 t1_.Part.Tier), (int .i64 t1_.Part.Index), (int .i64 t1_.Seg), (int .i64 t1_.Mark), (int .i64 t1_.Rows), (bool t1_.Cold)]), (box b17 136 [(pt b16 0)]), (sel (done 12) (box b16 192 [(ga13 9)]) (box b16 192 [sv16])), (sel (done 9) (own (ga13 9) 196 7 (z4 ++ [(⟨t0_, (⟨(⟨t1_.Part.Tier, t1_.Part.Index⟩ : Api_Part), t1_.Seg, t1_.Mark, t1_.Rows, t1_.Cold⟩ : Api_Entry)⟩ : Omap_pair__int64__api_Entry)]).length (fl enc_Omap_pair__int64__api_Entry (z4 ++ [(⟨t0_, (⟨(⟨t1_.Part.Tier, t1_.Part.Index⟩ : Api_Part), t1_.Seg, t1_.Mark, t1_.Rows, t1_.Cold⟩ : Api_Entry)⟩ : Omap_pair__int64__api_Entry)]))) (own sv16 196 7 z4.length (fl enc_Omap_pair__int64__api_Entry z4))), (box p0 192 [sv0])])) (T := (fun ga13 : Nat → Value => [(0, 13, (pt b16 0)), (1, 14, (pt b16 0)), (2, 15, (pt b16 0)), (3, 16, (pt b16 0)), (4, 17, sv16), (5, 18, (int .i64 t0_)), (6, 19, (agg #[(int .i64 t1_.Part.Tier), (int .i64 t1_.Part.Index), (int .i64 t1_.Seg), (int .i64 t1_.Mark), (int .i64 t1_.Rows), (bool t1_.Cold)])), (7, 20, (agg #[(int .i64 t0_), (int .i64 t1_.Part.Tier), (int .i64 t1_.Part.Index), (int .i64 t1_.Seg), (int .i64 t1_.Mark), (int .i64 t1_.Rows), (bool t1_.Cold)])), (8, 21, (ga13 8)), (9, 22, (ga13 9)), (10, 23, (pt b16 0)), (11, 24, (pt b16 0))])) (L2 := [(own (ga13 8) 196 7 [(⟨t0_, (⟨(⟨t1_.Part.Tier, t1_.Part.Index⟩ : Api_Part), t1_.Seg, t1_.Mark, t1_.Rows, t1_.Cold⟩ : Api_Entry)⟩ : Omap_pair__int64__api_Entry)].length (fl enc_Omap_pair__int64__api_Entry [(⟨t0_, (⟨(⟨t1_.Part.Tier, t1_.Part.Index⟩ : Api_Part), t1_.Seg, t1_.Mark, t1_.Rows, t1_.Cold⟩ : Api_Entry)⟩ : Omap_pair__int64__api_Entry)])), (own (slice none 0 0) 196 7 ([] : List Omap_pair__int64__api_Entry).length (fl enc_Omap_pair__int64__api_Entry ([] : List Omap_pair__int64__api_Entry))), (box b29 65 [(int .i64 t1_.Part.Tier), (int .i64 t1_.Part.Index), (int .i64 t1_.Seg), (int .i64 t1_.Mark), (int .i64 t1_.Rows), (bool t1_.Cold)]), (box b17 136 [(pt b16 0)]), (box b16 192 [sv16]), (own sv16 196 7 z4.length (fl enc_Omap_pair__int64__api_Entry z4)), (box p0 192 [sv0])]) rfl rfl (wanted_none rfl) (fun a => (hasA_cons (k := 8) rfl d8 (hasA_cons (k := 4) rfl d4 hasA_base))) (by simp only [d8, n12, hi, sel]) (ot_appendx (sz := 6) (xs := z4) (ys := [(⟨t0_, (⟨(⟨t1_.Part.Tier, t1_.Part.Index⟩ : Api_Part), t1_.Seg, t1_.Mark, t1_.Rows, t1_.Cold⟩ : Api_Entry)⟩ : Omap_pair__int64__api_Entry)]) 5 0 rfl rfl F_slice_190 F_size_196 F_zero_196 rfl F_bytes_196 rfl rfl rfl (isRd_ownx 196) rfl enc_Omap_pair__int64__api_Entry_one c12) rfl rfl fun v_ M_ hM_ => ⟨upb ga13 9 v_, hM_.trans (show [(own (ga13 8) 196 7 [(⟨t0_, (⟨(⟨t1_.Part.Tier, t1_.Part.Index⟩ : Api_Part), t1_.Seg, t1_.Mark, t1_.Rows, t1_.Cold⟩ : Api_Entry)⟩ : Omap_pair__int64__api_Entry)].length (fl enc_Omap_pair__int64__api_Entry [(⟨t0_, (⟨(⟨t1_.Part.Tier, t1_.Part.Index⟩ : Api_Part), t1_.Seg, t1_.Mark, t1_.Rows, t1_.Cold⟩ : Api_Entry)⟩ : Omap_pair__int64__api_Entry)])), (own (slice none 0 0) 196 7 ([] : List Omap_pair__int64__api_Entry).length (fl enc_Omap_pair__int64__api_Entry ([] : List Omap_pair__int64__api_Entry))), (box b29 65 [(int .i64 t1_.Part.Tier), (int .i64 t1_.Part.Index), (int .i64 t1_.Seg), (int .i64 t1_.Mark), (int .i64 t1_.Rows), (bool t1_.Cold)]), (box b17 136 [(pt b16 0)]), (box b16 192 [sv16]), (own v_ 196 7 (z4 ++ [(⟨t0_, (⟨(⟨t1_.Part.Tier, t1_.Part.Index⟩ : Api_Part), t1_.Seg, t1_.Mark, t1_.Rows, t1_.Cold⟩ : Api_Entry)⟩ : Omap_pair__int64__api_Entry)]).length (fl enc_Omap_pair__int64__api_Entry (z4 ++ [(⟨t0_, (⟨(⟨t1_.Part.Tier, t1_.Part.Index⟩ : Api_Part), t1_.Seg, t1_.Mark, t1_.Rows, t1_.Cold⟩ : Api_Entry)⟩ : Omap_pair__int64__api_Entry)]))), (box p0 192 [sv0])] = _ by simp [up, upb, sel, d8, n12, n12, hi]), (tr_same rfl rfl (tr_same rfl rfl (tr_same rfl rfl (tr_same rfl rfl (tr_same rfl rfl (tr_same rfl rfl (tr_same rfl rfl (tr_same rfl rfl (tr_same rfl rfl (tr_this (tr_same rfl rfl (tr_same rfl rfl tr_nil))))))))))))⟩
     ·intro done hi hc hcu
      refine draw_exi (I := Z12_I) fun ga13 => ?_
      have d0 : done 0 = true := done_of (j := 0) hcu rfl (by decide) rfl
      have n11 : done 11 = false := notdone_of (m := 11) hc hi rfl rfl
      have n12 : done 12 = false := notdone_of (m := 12) hc n11 rfl rfl
      exact draw_value (i := 10) (t := 23) (v := (pt b16 0)) rfl rfl (wanted_none rfl) (fun a => (hasA_cons (k := 0) rfl d0 hasA_base)) (ov_L (L2 := [(sel (done 8) (own (ga13 8) 196 7 [(⟨t0_, (⟨(⟨t1_.Part.Tier, t1_.Part.Index⟩ : Api_Part), t1_.Seg, t1_.Mark, t1_.Rows, t1_.Cold⟩ : Api_Entry)⟩ : Omap_pair__int64__api_Entry)].length (fl enc_Omap_pair__int64__api_Entry [(⟨t0_, (⟨(⟨t1_.Part.Tier, t1_.Part.Index⟩ : Api_Part), t1_.Seg, t1_.Mark, t1_.Rows, t1_.Cold⟩ : Api_Entry)⟩ : Omap_pair__int64__api_Entry)])) emp), (own (slice none 0 0) 196 7 ([] : List Omap_pair__int64__api_Entry).length (fl enc_Omap_pair__int64__api_Entry ([] : List Omap_pair__int64__api_Entry))), (box b29 65 [(int .i64 t1_.Part.Tier), (int .i64 t1_.Part.Index), (int .i64 t1_.Seg), (int .i64 t1_.Mark), (int .i64 t1_.Rows), (bool t1_.Cold)]), (box b17 136 [(pt b16 0)]), (box b16 192 [sv16]), (sel (done 9) (own (ga13 9) 196 7 (z4 ++ [(⟨t0_, (⟨(⟨t1_.Part.Tier, t1_.Part.Index⟩ : Api_Part), t1_.Seg, t1_.Mark, t1_.Rows, t1_.Cold⟩ : Api_Entry)⟩ : Omap_pair__int64__api_Entry)]).length (fl enc_Omap_pair__int64__api_Entry (z4 ++ [(⟨t0_, (⟨(⟨t1_.Part.Tier, t1_.Part.Index⟩ : Api_Part), t1_.Seg, t1_.Mark, t1_.Rows, t1_.Cold⟩ : Api_Entry)⟩ : Omap_pair__int64__api_Entry)]))) (own sv16 196 7 z4.length (fl enc_Omap_pair__int64__api_Entry z4))), (box p0 192 [sv0])]) (by simp only [n12, sel]) (ov_nilCheck rfl)) rfl rfl (onlyT_spec (k0 := 10) rfl rfl rfl)
     ·intro done hi hc hcu
      refine draw_exi (I := Z12_I) fun ga13 => ?_
      have d10 : done 10 = true := done_of (j := 10) hcu rfl (by decide) rfl
      have n12 : done 12 = false := notdone_of (m := 12) hc hi rfl rfl
      exact draw_value (i := 11) (t := 24) (v := (pt b16 0)) rfl rfl (wanted_none rfl) (fun a => (hasA_cons (k := 10) rfl d10 hasA_base)) (ov_L (L2 := [(sel (done 8) (own (ga13 8) 196 7 [(⟨t0_, (⟨(⟨t1_.Part.Tier, t1_.Part.Index⟩ : Api_Part), t1_.Seg, t1_.Mark, t1_.Rows, t1_.Cold⟩ : Api_Entry)⟩ : Omap_pair__int64__api_Entry)].length (fl enc_Omap_pair__int64__api_Entry [(⟨t0_, (⟨(⟨t1_.Part.Tier, t1_.Part.Index⟩ : Api_Part), t1_.Seg, t1_.Mark, t1_.Rows, t1_.Cold⟩ : Api_Entry)⟩ : Omap_pair__int64__api_Entry)])) emp), (own (slice none 0 0) 196 7 ([] : List Omap_pair__int64__api_Entry).length (fl enc_Omap_pair__int64__api_Entry ([] : List Omap_pair__int64__api_Entry))), (box b29 65 [(int .i64 t1_.Part.Tier), (int .i64 t1_.Part.Index), (int .i64 t1_.Seg), (int .i64 t1_.Mark), (int .i64 t1_.Rows), (bool t1_.Cold)]), (box b17 136 [(pt b16 0)]), (box b16 192 [sv16]), (sel (done 9) (own (ga13 9) 196 7 (z4 ++ [(⟨t0_, (⟨(⟨t1_.Part.Tier, t1_.Part.Index⟩ : Api_Part), t1_.Seg, t1_.Mark, t1_.Rows, t1_.Cold⟩ : Api_Entry)⟩ : Omap_pair__int64__api_Entry)]).length (fl enc_Omap_pair__int64__api_Entry (z4 ++ [(⟨t0_, (⟨(⟨t1_.Part.Tier, t1_.Part.Index⟩ : Api_Part), t1_.Seg, t1_.Mark, t1_.Rows, t1_.Cold⟩ : Api_Entry)⟩ : Omap_pair__int64__api_Entry)]))) (own sv16 196 7 z4.length (fl enc_Omap_pair__int64__api_Entry z4))), (box p0 192 [sv0])]) (by simp only [n12, sel]) (ov_fieldAddr (sz := 0) (o := 0) rfl F_field_192_0 F_size_190)) rfl rfl (onlyT_spec (k0 := 11) rfl rfl rfl)
     ·intro done hi hc hcu
      refine draw_exi (I := Z12_I) fun ga13 => ?_
      have d11 : done 11 = true := done_of (j := 11) hcu rfl (by decide) rfl
      have d9 : done 9 = true := done_of (j := 9) hcu rfl (by decide) rfl
      exact draw_store (i := 12) (L2 := [(sel (done 8) (own (ga13 8) 196 7 [(⟨t0_, (⟨(⟨t1_.Part.Tier, t1_.Part.Index⟩ : Api_Part), t1_.Seg, t1_.Mark, t1_.Rows, t1_.Cold⟩ : Api_Entry)⟩ : Omap_pair__int64__api_Entry)].length (fl enc_Omap_pair__int64__api_Entry [(⟨t0_, (⟨(⟨t1_.Part.Tier, t1_.Part.Index⟩ : Api_Part), t1_.Seg, t1_.Mark, t1_.Rows, t1_.Cold⟩ : Api_Entry)⟩ : Omap_pair__int64__api_Entry)])) emp), (own (slice none 0 0) 196 7 ([] : List Omap_pair__int64__api_Entry).length (fl enc_Omap_pair__int64__api_Entry ([] : List Omap_pair__int64__api_Entry))), (box b29 65 [(int .i64 t1_.Part.Tier), (int .i64 t1_.Part.Index), (int .i64 t1_.Seg), (int .i64 t1_.Mark), (int .i64 t1_.Rows), (bool t1_.Cold)]), (box b17 136 [(pt b16 0)]), (box b16 192 [sv16]), (own (ga13 9) 196 7 (z4 ++ [(⟨t0_, (⟨(⟨t1_.Part.Tier, t1_.Part.Index⟩ : Api_Part), t1_.Seg, t1_.Mark, t1_.Rows, t1_.Cold⟩ : Api_Entry)⟩ : Omap_pair__int64__api_Entry)]).length (fl enc_Omap_pair__int64__api_Entry (z4 ++ [(⟨t0_, (⟨(⟨t1_.Part.Tier, t1_.Part.Index⟩ : Api_Part), t1_.Seg, t1_.Mark, t1_.Rows, t1_.Cold⟩ : Api_Entry)⟩ : Omap_pair__int64__api_Entry)]))), (box p0 192 [sv0])]) (L3 := [(sel (done 8) (own (ga13 8) 196 7 [(⟨t0_, (⟨(⟨t1_.Part.Tier, t1_.Part.Index⟩ : Api_Part), t1_.Seg, t1_.Mark, t1_.Rows, t1_.Cold⟩ : Api_Entry)⟩ : Omap_pair__int64__api_Entry)].length (fl enc_Omap_pair__int64__api_Entry [(⟨t0_, (⟨(⟨t1_.Part.Tier, t1_.Part.Index⟩ : Api_Part), t1_.Seg, t1_.Mark, t1_.Rows, t1_.Cold⟩ : Api_Entry)⟩ : Omap_pair__int64__api_Entry)])) emp), (own (slice none 0 0) 196 7 ([] : List Omap_pair__int64__api_Entry).length (fl enc_Omap_pair__int64__api_Entry ([] : List Omap_pair__int64__api_Entry))), (box b29 65 [(int .i64 t1_.Part.Tier), (int .i64 t1_.Part.Index), (int .i64 t1_.Seg), (int .i64 t1_.Mark), (int .i64 t1_.Rows), (bool t1_.Cold)]), (box b17 136 [(pt b16 0)]), (box b16 192 [(ga13 9)]), (own (ga13 9) 196 7 (z4 ++ [(⟨t0_, (⟨(⟨t1_.Part.Tier, t1_.Part.Index⟩ : Api_Part), t1_.Seg, t1_.Mark, t1_.Rows, t1_.Cold⟩ : Api_Entry)⟩ : Omap_pair__int64__api_Entry)]).length (fl enc_Omap_pair__int64__api_Entry (z4 ++ [(⟨t0_, (⟨(⟨t1_.Part.Tier, t1_.Part.Index⟩ : Api_Part), t1_.Seg, t1_.Mark, t1_.Rows, t1_.Cold⟩ : Api_Entry)⟩ : Omap_pair__int64__api_Entry)]))), (box p0 192 [sv0])]) rfl rfl (wanted_none rfl) (fun a => (hasA_cons (k := 9) rfl d9 (hasA_cons (k := 11) rfl d11 hasA_base))) (by simp only [d9, hi, sel]) (by simp [up, d9, sel]) (ot_storeS (cs := [sv16]) (cs' := [(ga13 9)]) (sv := (ga13 9)) (L' := [(sel (done 8) (own (ga13 8) 196 7 [(⟨t0_, (⟨(⟨t1_.Part.Tier, t1_.Part.Index⟩ : Api_Part), t1_.Seg, t1_.Mark, t1_.Rows, t1_.Cold⟩ : Api_Entry)⟩ : Omap_pair__int64__api_Entry)].length (fl enc_Omap_pair__int64__api_Entry [(⟨t0_, (⟨(⟨t1_.Part.Tier, t1_.Part.Index⟩ : Api_Part), t1_.Seg, t1_.Mark, t1_.Rows, t1_.Cold⟩ : Api_Entry)⟩ : Omap_pair__int64__api_Entry)])) emp), (own (slice none 0 0) 196 7 ([] : List Omap_pair__int64__api_Entry).length (fl enc_Omap_pair__int64__api_Entry ([] : List Omap_pair__int64__api_Entry))), (box b29 65 [(int .i64 t1_.Part.Tier), (int .i64 t1_.Part.Index), (int .i64 t1_.Seg), (int .i64 t1_.Mark), (int .i64 t1_.Rows), (bool t1_.Cold)]), (box b17 136 [(pt b16 0)]), (box b16 192 [(ga13 9)]), (own (ga13 9) 196 7 (z4 ++ [(⟨t0_, (⟨(⟨t1_.Part.Tier, t1_.Part.Index⟩ : Api_Part), t1_.Seg, t1_.Mark, t1_.Rows, t1_.Cold⟩ : Api_Entry)⟩ : Omap_pair__int64__api_Entry)]).length (fl enc_Omap_pair__int64__api_Entry (z4 ++ [(⟨t0_, (⟨(⟨t1_.Part.Tier, t1_.Part.Index⟩ : Api_Part), t1_.Seg, t1_.Mark, t1_.Rows, t1_.Cold⟩ : Api_Entry)⟩ : Omap_pair__int64__api_Entry)]))), (box p0 192 [sv0])]) 4 5 rfl rfl F_size_190 rfl rfl (isRd_ownx 196) rfl (by simp) rfl) (offT_spec rfl)
    ·intro done hall
     refine ent_exi (S := fun ga13 => Z12_I ga13 done) fun ga13 => ?_
     refine draw_endL [(own (ga13 8) 196 7 [(⟨t0_, (⟨(⟨t1_.Part.Tier, t1_.Part.Index⟩ : Api_Part), t1_.Seg, t1_.Mark, t1_.Rows, t1_.Cold⟩ : Api_Entry)⟩ : Omap_pair__int64__api_Entry)].length (fl enc_Omap_pair__int64__api_Entry [(⟨t0_, (⟨(⟨t1_.Part.Tier, t1_.Part.Index⟩ : Api_Part), t1_.Seg, t1_.Mark, t1_.Rows, t1_.Cold⟩ : Api_Entry)⟩ : Omap_pair__int64__api_Entry)])), (own (slice none 0 0) 196 7 ([] : List Omap_pair__int64__api_Entry).length (fl enc_Omap_pair__int64__api_Entry ([] : List Omap_pair__int64__api_Entry))), (box b29 65 [(int .i64 t1_.Part.Tier), (int .i64 t1_.Part.Index), (int .i64 t1_.Seg), (int .i64 t1_.Mark), (int .i64 t1_.Rows), (bool t1_.Cold)]), (box b17 136 [(pt b16 0)]), (box b16 192 [(ga13 9)]), (own (ga13 9) 196 7 (z4 ++ [(⟨t0_, (⟨(⟨t1_.Part.Tier, t1_.Part.Index⟩ : Api_Part), t1_.Seg, t1_.Mark, t1_.Rows, t1_.Cold⟩ : Api_Entry)⟩ : Omap_pair__int64__api_Entry)]).length (fl enc_Omap_pair__int64__api_Entry (z4 ++ [(⟨t0_, (⟨(⟨t1_.Part.Tier, t1_.Part.Index⟩ : Api_Part), t1_.Seg, t1_.Mark, t1_.Rows, t1_.Cold⟩ : Api_Entry)⟩ : Omap_pair__int64__api_Entry)]))), (box p0 192 [sv0])] (by simp only [hall 8 (by decide), hall 9 (by decide), hall 12 (by decide), sel]) (fun a => (hasA_cons (k := 0) rfl (hall 0 (by decide)) (hasA_cons (k := 1) rfl (hall 1 (by decide)) (hasA_cons (k := 2) rfl (hall 2 (by decide)) (hasA_cons (k := 3) rfl (hall 3 (by decide)) (hasA_cons (k := 4) rfl (hall 4 (by decide)) (hasA_cons (k := 5) rfl (hall 5 (by decide)) (hasA_cons (k := 6) rfl (hall 6 (by decide)) (hasA_cons (k := 7) rfl (hall 7 (by decide)) (hasA_cons (k := 8) rfl (hall 8 (by decide)) (hasA_cons (k := 9) rfl (hall 9 (by decide)) (hasA_cons (k := 10) rfl (hall 10 (by decide)) (hasA_cons (k := 11) rfl (hall 11 (by decide)) hasA_base))))))))))))) ?_
     cases Hl
     refine ent_pick [3, 4, 5, 6] (by decide) rfl ?_
     refine ent_roundN ?_
     exact ⟨rfl, rfl, _, rfl⟩
   ·rw [if_neg c12] at Hl
    cases Hl
 ·intro Y l hY
  exact (omap_each__int64__api_Entry_1_YR.spec K l b24 sv0 (own sv0 196 7 l0.length (fl enc_Omap_pair__int64__api_Entry l0)) (List Omap_pair__int64__api_Entry) (omap_Map__int64__api_Entry_Copy_O_r0 K) ([] : List Omap_pair__int64__api_Entry) l0 Y (fun t0_ t1_ z_ r_ h_ => hY _ z_ r_ ⟨t0_, t1_, rfl, h_⟩) (isRd_ownx 196) _ h10).mono fun _ _ h_ => h_.2
 ·rintro _ ⟨sv16, rfl⟩
  refine ent_sub [(3, (pt b17 0))] (sub_cons (t := 3) rfl (sub_nil _)) ?_
  refine ent_seq ?_
  refine ent_region ?_
  refine ent_value (ov_load (v := (pt b16 0)) rfl F_agg_136 (reads_box1 (i := 2) rfl rfl)) rfl rfl rfl ?_
  refine ent_value (ov_assign rfl) rfl rfl rfl ?_
  refine ent_nil ?_
  refine ent_retc ?_
  cases H
  refine ent_pick [5, 1, 3, 4] (by decide) rfl ?_
  exact ret_tmp rfl rfl ⟨_, _, rfl, rfl⟩

set_option maxRecDepth 100000 in
theorem catalog_Catalog_Copy_O.spec (K : Nat) (p0 : Nat) (p1 : Nat) (sv0 : Value) (l0 : List Omap_pair__int64__api_Entry) (r : List Omap_pair__int64__api_Entry) (H : catalog_Catalog_Copy_O K l0 = some r) : FnSpec Try.prog 30 [(pt p0 0)] [(box p0 139 [(pt p1 0)]), (box p1 192 [sv0]), (own sv0 196 7 l0.length (fl enc_Omap_pair__int64__api_Entry l0))] (fun v M => ∃ b3 : Nat, ∃ b4 : Nat, ∃ sv2 : Value, v = (pt b3 0) ∧ M = [(box p0 139 [(pt p1 0)]), (box p1 192 [sv0]), (own sv0 196 7 l0.length (fl enc_Omap_pair__int64__api_Entry l0)), (box b3 139 [(pt b4 0)]), (box b4 192 [sv2]), (own sv2 196 7 r.length (fl enc_Omap_pair__int64__api_Entry r))]) := by
 unfold catalog_Catalog_Copy_O at H
 refine spec_of Try.func30 rfl 12 rfl (Nat.le_of_ble_eq_true rfl) fun F w0 => ?_
 show Ent (St 12 w0 F [(0, (pt p0 0))] [(box p0 139 [(pt p1 0)]), (box p1 192 [sv0]), (own sv0 196 7 l0.length (fl enc_Omap_pair__int64__api_Entry l0))]) _
 refine ent_seq ?_
 refine ent_region ?_
 refine ent_value (ov_assign rfl) rfl rfl rfl ?_
 refine ent_nil ?_
 refine ent_seq ?_
 refine ent_seq ?_
 refine ent_region ?_
 refine ent_value (ov_move rfl) rfl rfl rfl ?_
 refine ent_value (ov_bin rfl rfl (b_eql_of (fun w => rfl) rfl (eq_pn Try.underlying51 _ _))) rfl rfl rfl ?_
 refine ent_nil ?_
 refine ent_cond_false rfl rfl ?_
 refine ent_skip ?_
 refine ent_seq ?_
 refine ent_region ?_
 refine ent_value (ov_move rfl) rfl rfl rfl ?_
 refine ent_value (ov_nilCheck rfl) rfl rfl rfl ?_
 refine ent_value (ov_fieldAddr (sz := 0) (o := 0) rfl F_field_139_0 F_size_136) rfl rfl rfl ?_
 refine ent_value (ov_load (v := (pt p1 0)) rfl F_agg_136 (reads_box1 (i := 0) rfl rfl)) rfl rfl rfl ?_
 obtain ⟨x2, h2, H⟩ := Option.bind_eq_some_iff.1 H
 refine ent_pick [1, 2, 0] (by decide) rfl ?_
 refine ent_op (ot_call (Lr := [(box p0 139 [(pt p1 0)])]) (first := []) (cap := []) (xs := [.tmp 8]) rfl rfl F_call_89 rfl (omap_Map__int64__api_Entry_Copy_O.spec K p1 sv0 l0 _ h2) rfl) rfl rfl rfl ?_
 rintro _ _ ⟨_, ⟨b5, sv3, rfl, rfl⟩, rfl⟩
 refine ent_value (ov_build (is := [0]) (xs := [.tmp 9]) (vs := [(pt b5 0)]) rfl rfl (build_struct (cs := [(pt b5 0)]) F_zero_139 F_places_139 rfl)) rfl rfl rfl ?_
 refine ent_op (ot_box (cs := [(pt b5 0)]) rfl rfl) rfl rfl rfl ?_
 rintro _ _ ⟨b6, rfl, rfl⟩
 refine ent_value (ov_assign rfl) rfl rfl rfl ?_
 refine ent_nil ?_
 refine ent_retc ?_
 cases H
 refine ent_pick [5, 1, 2, 0, 3, 4] (by decide) rfl ?_
 exact ret_tmp rfl rfl ⟨_, _, _, rfl, rfl⟩

set_option maxRecDepth 100000 in
theorem catalog_Catalog_Apply_ONO.spec (K : Nat) (p0 : Nat) (p1 : Nat) (sv0 : Value) (sv1 : Value) (l0 : List Omap_pair__int64__api_Entry) (l1 : List Api_Entry) (r : (Int × (List Omap_pair__int64__api_Entry))) (H : catalog_Catalog_Apply_ONO K l0 l1 = some r) : FnSpec Try.prog 25 [(pt p0 0), (agg #[(slice none 0 0), sv1])] [(box p0 139 [(pt p1 0)]), (box p1 192 [sv0]), (own sv0 196 7 l0.length (fl enc_Omap_pair__int64__api_Entry l0)), (own sv1 65 6 l1.length (fl enc_Api_Entry l1))] (fun v M => ∃ b34 : Nat, ∃ sv35 : Value, v = (int .i64 r.1) ∧ M = [(box p0 139 [(pt b34 0)]), (box b34 192 [sv35]), (own sv35 196 7 r.2.length (fl enc_Omap_pair__int64__api_Entry r.2)), (own sv1 65 6 l1.length (fl enc_Api_Entry l1))]) := by
 unfold catalog_Catalog_Apply_ONO at H
 refine spec_of Try.func25 rfl 67 rfl (Nat.le_of_ble_eq_true rfl) fun F w0 => ?_
 show Ent (St 67 w0 F [(0, (pt p0 0)), (1, (agg #[(slice none 0 0), sv1]))] [(box p0 139 [(pt p1 0)]), (box p1 192 [sv0]), (own sv0 196 7 l0.length (fl enc_Omap_pair__int64__api_Entry l0)), (own sv1 65 6 l1.length (fl enc_Api_Entry l1))]) _
 refine ent_seq ?_
 refine ent_region ?_
 refine ent_op (ot_box (cs := [(slice none 0 0), sv1]) rfl rfl) rfl rfl rfl ?_
 rintro _ _ ⟨b35, rfl, rfl⟩
 refine ent_value (ov_assign rfl) rfl rfl rfl ?_
 refine ent_nil ?_
 refine ent_seq ?_
 refine ent_seq ?_
 refine ent_region ?_
 refine ent_value (ov_move rfl) rfl rfl rfl ?_
 refine ent_value (ov_bin rfl rfl (b_eql_of (fun w => rfl) rfl (eq_pn Try.underlying51 _ _))) rfl rfl rfl ?_
 refine ent_nil ?_
 refine ent_cond_false rfl rfl ?_
 refine ent_skip ?_
 refine ent_seq ?_
 refine ent_region ?_
 refine ent_value (ov_move rfl) rfl rfl rfl ?_
 obtain ⟨x31, h27, H⟩ := Option.bind_eq_some_iff.1 H
 refine ent_pick [1, 2, 3, 0, 4] (by decide) rfl ?_
 refine ent_op (ot_call (Lr := [(box b35 59 [(slice none 0 0), sv1]), (own sv1 65 6 l1.length (fl enc_Api_Entry l1))]) (first := []) (cap := []) (xs := [.tmp 17]) rfl rfl F_call_30 rfl (catalog_Catalog_Copy_O.spec K p0 p1 sv0 l0 _ h27) rfl) rfl rfl rfl ?_
 rintro _ _ ⟨_, ⟨b36, b37, sv36, rfl, rfl⟩, rfl⟩
 refine ent_value (ov_assign rfl) rfl rfl rfl ?_
 refine ent_nil ?_
 obtain ⟨x32, H16, H⟩ := Option.bind_eq_some_iff.1 H
 refine ent_seq_cut (fun a w => ∃ b38 : Nat, St 67 w0 F [(0, (pt p0 0)), (3, (pt b38 0)), (5, (pt b36 0))] [(box p0 139 [(pt p1 0)]), (box p1 192 [sv0]), (own sv0 196 7 l0.length (fl enc_Omap_pair__int64__api_Entry l0)), (own sv1 65 6 l1.length (fl enc_Api_Entry l1)), (box b38 59 [(slice none 0 0), sv1]), (box b36 139 [(pt b37 0)]), (box b37 192 [sv36]), (own sv36 196 7 x31.length (fl enc_Omap_pair__int64__api_Entry x31))] a w) ?_ ?_
 ·refine ent_seq ?_
  refine ent_region ?_
  refine ent_value (ov_fieldAddr (sz := 0) (o := 0) rfl F_field_59_0 F_size_56) rfl rfl rfl ?_
  refine ent_value (ov_load (v := (slice none 0 0)) rfl F_agg_56 (reads_box1 (i := 6) rfl rfl)) rfl rfl rfl ?_
  refine ent_value (ov_len0 rfl F_slice_56) rfl rfl rfl ?_
  refine ent_value (ov_move rfl) rfl rfl rfl ?_
  refine ent_nil ?_
  refine ent_block ?_
  refine ent_loop (fun k a w => catalog_Catalog_Apply_ONO_l0 K k = some x32 ∧ St 67 w0 F [(0, (pt p0 0)), (3, (pt b35 0)), (5, (pt b36 0)), (20, (slice none 0 0)), (21, (int .i64 0)), (22, (int .i64 0))] [(box p0 139 [(pt p1 0)]), (box p1 192 [sv0]), (own sv0 196 7 l0.length (fl enc_Omap_pair__int64__api_Entry l0)), (own sv1 65 6 l1.length (fl enc_Api_Entry l1)), (box b35 59 [(slice none 0 0), sv1]), (box b36 139 [(pt b37 0)]), (box b37 192 [sv36]), (own sv36 196 7 x31.length (fl enc_Omap_pair__int64__api_Entry x31))] a w) K ?_ ?_
  ·exact ent_fin [0, 1, 2, 7, 6, 3, 4, 5] (by decide) rfl (sub_cons (t := 0) rfl (sub_cons (t := 3) rfl (sub_cons (t := 5) rfl (sub_cons (t := 20) rfl (sub_cons (t := 21) rfl (sub_cons (t := 22) rfl (sub_nil _))))))) fun a w h => ⟨H16, h⟩
  ·refine fun k => ent_and fun H17 => ?_
   cases k with
   | zero => exact absurd H17 (by simp [catalog_Catalog_Apply_ONO_l0])
   | succ k =>
    rw [catalog_Catalog_Apply_ONO_l0] at H17
    refine ent_seq ?_
    refine ent_region ?_
    refine ent_value (ov_bin rfl rfl (b_lss _ _ _)) rfl rfl rfl ?_
    refine ent_nil ?_
    refine ent_seq ?_
    refine ent_cond_false rfl rfl ?_
    refine ent_exit ?_
    cases H17
    exact ent_fin [0, 1, 2, 3, 4, 5, 6, 7] (by decide) rfl (sub_cons (t := 0) rfl (sub_cons (t := 3) rfl (sub_cons (t := 5) rfl (sub_nil _)))) fun a w h => ⟨_, h⟩
 ·refine ent_exi fun b38 => ?_
  obtain ⟨x39, H19, H⟩ := Option.bind_eq_some_iff.1 H
  refine ent_seq_cut (fun a w => ∃ v3, x39 = Sum.inl v3 ∧ ∃ sv44 : Value, St 67 w0 F [(0, (pt p0 0)), (5, (pt b36 0))] [(box p0 139 [(pt p1 0)]), (box p1 192 [sv0]), (own sv0 196 7 l0.length (fl enc_Omap_pair__int64__api_Entry l0)), (own sv1 65 6 l1.length (fl enc_Api_Entry l1)), (box b36 139 [(pt b37 0)]), (box b37 192 [sv44]), (own sv44 196 7 v3.length (fl enc_Omap_pair__int64__api_Entry v3))] a w) ?_ ?_
  ·refine ent_seq ?_
   refine ent_region ?_
   refine ent_value (ov_fieldAddr (sz := 0) (o := 0) rfl F_field_59_1 F_size_53) rfl rfl rfl ?_
   refine ent_value (ov_load (v := sv1) rfl F_agg_53 (reads_box1 (i := 4) rfl rfl)) rfl rfl rfl ?_
   refine ent_value (ov_len 3 rfl F_slice_53 rfl (isRd_ownx 65)) rfl rfl rfl ?_
   refine ent_value (ov_move rfl) rfl rfl rfl ?_
   refine ent_nil ?_
   refine ent_block ?_
   refine ent_loop (fun k a w => ∃ i8, ∃ l12, ∃ sv47 : Value, catalog_Catalog_Apply_ONO_l1 K l0 l1 k i8 l12 = some x39 ∧ St 67 w0 F [(0, (pt p0 0)), (5, (pt b36 0)), (47, sv1), (48, (int .i64 (l1.length : Int))), (49, (int .i64 i8))] [(box p0 139 [(pt p1 0)]), (box p1 192 [sv0]), (own sv0 196 7 l0.length (fl enc_Omap_pair__int64__api_Entry l0)), (own sv1 65 6 l1.length (fl enc_Api_Entry l1)), (box b36 139 [(pt b37 0)]), (box b37 192 [sv47]), (own sv47 196 7 l12.length (fl enc_Omap_pair__int64__api_Entry l12))] a w) K ?_ ?_
   ·exact ent_fin [0, 1, 2, 3, 5, 6, 7] (by decide) rfl (sub_cons (t := 0) rfl (sub_cons (t := 5) rfl (sub_cons (t := 47) rfl (sub_cons (t := 48) rfl (sub_cons (t := 49) rfl (sub_nil _)))))) fun a w h => ⟨_, _, _, H19, h⟩
   ·refine fun k => ent_exi fun i8 => ent_exi fun l12 => ent_exi fun sv47 => ent_and fun H20 => ?_
    cases k with
    | zero => exact absurd H20 (by simp [catalog_Catalog_Apply_ONO_l1])
    | succ k =>
     rw [catalog_Catalog_Apply_ONO_l1] at H20
     refine ent_seq ?_
     refine ent_region ?_
     refine ent_value (ov_bin rfl rfl (b_lss _ _ _)) rfl rfl rfl ?_
     refine ent_nil ?_
     refine ent_seq ?_
     by_cases c92 : i8 < (l1.length : Int)
     ·rw [if_pos c92] at H20
      refine ent_cond_true rfl (decide_eq_true c92) ?_
      refine ent_skip ?_
      refine ent_seq ?_
      refine ent_block ?_
      refine ent_seq ?_
      refine ent_region ?_
      by_cases c95 : 0 ≤ i8
      ·rw [if_pos c95] at H20
       refine ent_value (ov_indexAddr (sz := 5) 3 rfl rfl F_slice_53 F_size_65 rfl (isRd_ownx 65) c95 c92) rfl rfl rfl ?_
       refine ent_value (ov_load_agg (vs := [(int .i64 (((l1.getD i8.toNat z_Api_Entry).Part).Tier)), (int .i64 (((l1.getD i8.toNat z_Api_Entry).Part).Index)), (int .i64 ((l1.getD i8.toNat z_Api_Entry).Seg)), (int .i64 ((l1.getD i8.toNat z_Api_Entry).Mark)), (int .i64 ((l1.getD i8.toNat z_Api_Entry).Rows)), (bool ((l1.getD i8.toNat z_Api_Entry).Cold))]) rfl F_agg_65 F_size_65 (reads_rd (i := 3) rfl (isRd_ownx 65) (by simp) (fl_read0 enc_Api_Entry_len (ix_lt c95 c92) rfl))) rfl rfl rfl ?_
       refine ent_op (ot_alloc F_zero_65) rfl rfl rfl ?_
       rintro _ _ ⟨b50, rfl, rfl⟩
       refine ent_op0 (ot_storeG (cs := [(int .i64 0), (int .i64 0), (int .i64 0), (int .i64 0), (int .i64 0), (bool false)]) (cs' := [(int .i64 (((l1.getD i8.toNat z_Api_Entry).Part).Tier)), (int .i64 (((l1.getD i8.toNat z_Api_Entry).Part).Index)), (int .i64 ((l1.getD i8.toNat z_Api_Entry).Seg)), (int .i64 ((l1.getD i8.toNat z_Api_Entry).Mark)), (int .i64 ((l1.getD i8.toNat z_Api_Entry).Rows)), (bool ((l1.getD i8.toNat z_Api_Entry).Cold))]) (us := [(int .i64 (((l1.getD i8.toNat z_Api_Entry).Part).Tier)), (int .i64 (((l1.getD i8.toNat z_Api_Entry).Part).Index)), (int .i64 ((l1.getD i8.toNat z_Api_Entry).Seg)), (int .i64 ((l1.getD i8.toNat z_Api_Entry).Mark)), (int .i64 ((l1.getD i8.toNat z_Api_Entry).Rows)), (bool ((l1.getD i8.toNat z_Api_Entry).Cold))]) (L' := [(box b50 65 [(int .i64 (((l1.getD i8.toNat z_Api_Entry).Part).Tier)), (int .i64 (((l1.getD i8.toNat z_Api_Entry).Part).Index)), (int .i64 ((l1.getD i8.toNat z_Api_Entry).Seg)), (int .i64 ((l1.getD i8.toNat z_Api_Entry).Mark)), (int .i64 ((l1.getD i8.toNat z_Api_Entry).Rows)), (bool ((l1.getD i8.toNat z_Api_Entry).Cold))]), (box p0 139 [(pt p1 0)]), (box p1 192 [sv0]), (own sv0 196 7 l0.length (fl enc_Omap_pair__int64__api_Entry l0)), (own sv1 65 6 l1.length (fl enc_Api_Entry l1)), (box b36 139 [(pt b37 0)]), (box b37 192 [sv47]), (own sv47 196 7 l12.length (fl enc_Omap_pair__int64__api_Entry l12))]) 0 rfl rfl rfl (one_all rfl) F_size_65 rfl rfl (by simp) rfl) rfl rfl ?_
       rintro _ _ rfl
       refine ent_nil ?_
       refine ent_seq ?_
       refine ent_region ?_
       refine ent_value (ov_move rfl) rfl rfl rfl ?_
       refine ent_value (ov_load_agg (vs := [(int .i64 (((l1.getD i8.toNat z_Api_Entry).Part).Tier)), (int .i64 (((l1.getD i8.toNat z_Api_Entry).Part).Index)), (int .i64 ((l1.getD i8.toNat z_Api_Entry).Seg)), (int .i64 ((l1.getD i8.toNat z_Api_Entry).Mark)), (int .i64 ((l1.getD i8.toNat z_Api_Entry).Rows)), (bool ((l1.getD i8.toNat z_Api_Entry).Cold))]) rfl F_agg_65 F_size_65 (reads_boxW (i := 0) rfl)) rfl rfl rfl ?_
       obtain ⟨x45, h39, H20⟩ := Option.bind_eq_some_iff.1 H20
       refine ent_pick [5, 6, 7, 0, 1, 2, 3, 4] (by decide) rfl ?_
       refine ent_op (ot_call (Lr := [(box b50 65 [(int .i64 (((l1.getD i8.toNat z_Api_Entry).Part).Tier)), (int .i64 (((l1.getD i8.toNat z_Api_Entry).Part).Index)), (int .i64 ((l1.getD i8.toNat z_Api_Entry).Seg)), (int .i64 ((l1.getD i8.toNat z_Api_Entry).Mark)), (int .i64 ((l1.getD i8.toNat z_Api_Entry).Rows)), (bool ((l1.getD i8.toNat z_Api_Entry).Cold))]), (box p0 139 [(pt p1 0)]), (box p1 192 [sv0]), (own sv0 196 7 l0.length (fl enc_Omap_pair__int64__api_Entry l0)), (own sv1 65 6 l1.length (fl enc_Api_Entry l1))]) (first := []) (cap := []) (xs := [.tmp 53, .tmp 54]) rfl rfl F_call_84 rfl (catalog_Catalog_put_O.spec K b36 b37 sv47 l12 (((l1.getD i8.toNat z_Api_Entry).Part).Tier) (((l1.getD i8.toNat z_Api_Entry).Part).Index) ((l1.getD i8.toNat z_Api_Entry).Seg) ((l1.getD i8.toNat z_Api_Entry).Mark) ((l1.getD i8.toNat z_Api_Entry).Rows) ((l1.getD i8.toNat z_Api_Entry).Cold) _ h39) rfl) rfl rfl rfl ?_
       rintro _ _ ⟨_, ⟨sv51, rfl, rfl⟩, rfl⟩
       refine ent_value (ov_assign rfl) rfl rfl rfl ?_
       refine ent_nil ?_
       refine ent_seq ?_
       refine ent_region ?_
       refine ent_value (ov_move rfl) rfl rfl rfl ?_
       refine ent_value (ov_bin rfl rfl (b_neq _ _ _)) rfl rfl rfl ?_
       refine ent_nil ?_
       by_cases c96 : ¬ (x45.1 = 0)
       ·rw [if_pos c96] at H20
        refine ent_cond_true rfl (ne_t c96) ?_
        refine ent_seq ?_
        refine ent_region ?_
        refine ent_value (ov_move rfl) rfl rfl rfl ?_
        refine ent_value (ov_assign rfl) rfl rfl rfl ?_
        refine ent_nil ?_
        refine ent_retc ?_
        cases H20
        have H21 := Option.some.inj (show some _ = some _ from H)
        cases H21
        refine ent_pick [4, 5, 6, 7] (by decide) rfl ?_
        exact ret_tmp rfl rfl ⟨_, _, rfl, rfl⟩
       ·rw [if_neg c96] at H20
        refine ent_cond_false rfl (ne_f c96) ?_
        refine ent_skip ?_
        refine ent_region ?_
        refine ent_value (ov_bin rfl rfl (b_add _ _ _) ) rfl rfl rfl ?_
        refine ent_value (ov_move rfl) rfl rfl rfl ?_
        refine ent_nil ?_
        exact ent_fin [4, 5, 6, 7, 0, 1, 2] (by decide) rfl (sub_cons (t := 0) rfl (sub_cons (t := 5) rfl (sub_cons (t := 47) rfl (sub_cons (t := 48) rfl (sub_cons (t := 49) rfl (sub_nil _)))))) fun a w h => ⟨k, Nat.lt_succ_self k, _, _, _, H20, h⟩
      ·rw [if_neg c95] at H20
       cases H20
     ·rw [if_neg c92] at H20
      refine ent_cond_false rfl (decide_eq_false c92) ?_
      refine ent_exit ?_
      cases H20
      exact ent_fin [0, 1, 2, 3, 4, 5, 6] (by decide) rfl (sub_cons (t := 0) rfl (sub_cons (t := 5) rfl (sub_nil _))) fun a w h => ⟨_, rfl, _, h⟩
  ·refine ent_exi fun v3 => ent_and fun e_ => ?_
   subst e_
   rw [cas_inl] at H
   refine ent_exi fun sv44 => ?_
   refine ent_seq ?_
   refine ent_region ?_
   refine ent_value (ov_move rfl) rfl rfl rfl ?_
   refine ent_value (ov_move rfl) rfl rfl rfl ?_
   refine ent_value (ov_nilCheck rfl) rfl rfl rfl ?_
   refine ent_value (ov_fieldAddr (sz := 0) (o := 0) rfl F_field_139_0 F_size_136) rfl rfl rfl ?_
   refine ent_value (ov_load (v := (pt b37 0)) rfl F_agg_136 (reads_box1 (i := 4) rfl rfl)) rfl rfl rfl ?_
   refine ent_value (ov_nilCheck rfl) rfl rfl rfl ?_
   refine ent_value (ov_fieldAddr (sz := 0) (o := 0) rfl F_field_139_0 F_size_136) rfl rfl rfl ?_
   refine ent_op0 (ot_storeG (cs := [(pt p1 0)]) (cs' := [(pt b37 0)]) (us := [(pt b37 0)]) (L' := [(box p0 139 [(pt b37 0)]), (box p1 192 [sv0]), (own sv0 196 7 l0.length (fl enc_Omap_pair__int64__api_Entry l0)), (own sv1 65 6 l1.length (fl enc_Api_Entry l1)), (box b36 139 [(pt b37 0)]), (box b37 192 [sv44]), (own sv44 196 7 v3.length (fl enc_Omap_pair__int64__api_Entry v3))]) 0 rfl rfl rfl (one_all rfl) F_size_136 rfl rfl (by simp) rfl) rfl rfl ?_
   rintro _ _ rfl
   refine ent_nil ?_
   refine ent_seq ?_
   refine ent_region ?_
   refine ent_value (ov_assign rfl) rfl rfl rfl ?_
   refine ent_nil ?_
   refine ent_retc ?_
   cases H
   refine ent_pick [0, 5, 6, 3] (by decide) rfl ?_
   exact ret_tmp rfl rfl ⟨_, _, rfl, rfl⟩

set_option maxRecDepth 100000 in
theorem catalog_Catalog_Get_O.spec (K : Nat) (p0 : Nat) (p1 : Nat) (sv0 : Value) (l0 : List Omap_pair__int64__api_Entry) (a1_0 : Int) (a1_1 : Int) (r : (Int × Int × Int × Int × Int × Bool × Bool)) (H : catalog_Catalog_Get_O K l0 a1_0 a1_1 = some r) : FnSpec Try.prog 82 [(pt p0 0), (agg #[(int .i64 a1_0), (int .i64 a1_1)])] [(box p0 139 [(pt p1 0)]), (box p1 192 [sv0]), (own sv0 196 7 l0.length (fl enc_Omap_pair__int64__api_Entry l0))] (fun v M => v = (Value.tuple #[(agg #[(int .i64 r.1), (int .i64 r.2.1), (int .i64 r.2.2.1), (int .i64 r.2.2.2.1), (int .i64 r.2.2.2.2.1), (bool r.2.2.2.2.2.1)]), (bool r.2.2.2.2.2.2)]) ∧ M = [(box p0 139 [(pt p1 0)]), (box p1 192 [sv0]), (own sv0 196 7 l0.length (fl enc_Omap_pair__int64__api_Entry l0))]) := by
 unfold catalog_Catalog_Get_O at H
 refine spec_of Try.func82 rfl 31 rfl (Nat.le_of_ble_eq_true rfl) fun F w0 => ?_
 show Ent (St 31 w0 F [(0, (pt p0 0)), (1, (agg #[(int .i64 a1_0), (int .i64 a1_1)]))] [(box p0 139 [(pt p1 0)]), (box p1 192 [sv0]), (own sv0 196 7 l0.length (fl enc_Omap_pair__int64__api_Entry l0))]) _
 refine ent_seq ?_
 refine ent_region ?_
 refine ent_op (ot_box (cs := [(int .i64 a1_0), (int .i64 a1_1)]) rfl rfl) rfl rfl rfl ?_
 rintro _ _ ⟨b4, rfl, rfl⟩
 refine ent_op (ot_alloc F_zero_65) rfl rfl rfl ?_
 rintro _ _ ⟨b5, rfl, rfl⟩
 refine ent_value (ov_assign rfl) rfl rfl rfl ?_
 refine ent_nil ?_
 refine ent_seq ?_
 refine ent_region ?_
 refine ent_value (ov_load_agg (vs := [(int .i64 a1_0), (int .i64 a1_1)]) rfl F_agg_63 F_size_63 (reads_boxW (i := 1) rfl)) rfl rfl rfl ?_
 obtain ⟨x3, h3, H⟩ := thn_elim H
 refine ent_op (ot_call0 (first := []) (cap := []) (xs := [.tmp 11]) rfl rfl F_call_35 rfl (part_Span.spec a1_0 a1_1 _ h3)) rfl rfl rfl ?_
 rintro _ _ ⟨rfl, rfl⟩
 refine ent_value (ov_move rfl) rfl rfl rfl ?_
 refine ent_value (ov_extract rfl rfl) rfl rfl rfl ?_
 refine ent_value (ov_extract rfl rfl) rfl rfl rfl ?_
 refine ent_value (ov_assign rfl) rfl rfl rfl ?_
 refine ent_value (ov_assign rfl) rfl rfl rfl ?_
 refine ent_nil ?_
 refine ent_seq ?_
 refine ent_region ?_
 refine ent_value (ov_move rfl) rfl rfl rfl ?_
 refine ent_value (ov_move rfl) rfl rfl rfl ?_
 obtain ⟨x4, h4, H⟩ := Option.bind_eq_some_iff.1 H
 refine ent_op (ot_call_same (Lr := [(box b5 65 [(int .i64 0), (int .i64 0), (int .i64 0), (int .i64 0), (int .i64 0), (bool false)]), (box b4 63 [(int .i64 a1_0), (int .i64 a1_1)])]) [2, 3, 4, 0, 1] [3, 4, 0, 1, 2] (first := []) (cap := []) (xs := [.tmp 16, .tmp 17]) rfl rfl F_call_28 rfl (catalog_Catalog_At_O.spec K p0 p1 sv0 l0 x3.1 _ h4) (by decide) rfl (by decide) rfl) rfl rfl rfl ?_
 rintro _ _ ⟨rfl, rfl⟩
 refine ent_value (ov_move rfl) rfl rfl rfl ?_
 refine ent_value (ov_extract rfl rfl) rfl rfl rfl ?_
 refine ent_value (ov_extract rfl rfl) rfl rfl rfl ?_
 refine ent_op (ot_alloc F_zero_65) rfl rfl rfl ?_
 rintro _ _ ⟨b6, rfl, rfl⟩
 refine ent_op0 (ot_storeG (cs := [(int .i64 0), (int .i64 0), (int .i64 0), (int .i64 0), (int .i64 0), (bool false)]) (cs' := [(int .i64 x4.1), (int .i64 x4.2.1), (int .i64 x4.2.2.1), (int .i64 x4.2.2.2.1), (int .i64 x4.2.2.2.2.1), (bool x4.2.2.2.2.2.1)]) (us := [(int .i64 x4.1), (int .i64 x4.2.1), (int .i64 x4.2.2.1), (int .i64 x4.2.2.2.1), (int .i64 x4.2.2.2.2.1), (bool x4.2.2.2.2.2.1)]) (L' := [(box b6 65 [(int .i64 x4.1), (int .i64 x4.2.1), (int .i64 x4.2.2.1), (int .i64 x4.2.2.2.1), (int .i64 x4.2.2.2.2.1), (bool x4.2.2.2.2.2.1)]), (box b5 65 [(int .i64 0), (int .i64 0), (int .i64 0), (int .i64 0), (int .i64 0), (bool false)]), (box b4 63 [(int .i64 a1_0), (int .i64 a1_1)]), (box p0 139 [(pt p1 0)]), (box p1 192 [sv0]), (own sv0 196 7 l0.length (fl enc_Omap_pair__int64__api_Entry l0))]) 0 rfl rfl rfl (one_all rfl) F_size_65 rfl rfl (by simp) rfl) rfl rfl ?_
 rintro _ _ rfl
 refine ent_value (ov_assign rfl) rfl rfl rfl ?_
 refine ent_nil ?_
 refine ent_seq ?_
 refine ent_seq ?_
 refine ent_region ?_
 refine ent_value (ov_move rfl) rfl rfl rfl ?_
 refine ent_value (ov_un rfl (u_not _)) rfl rfl rfl ?_
 refine ent_value (ov_move rfl) rfl rfl rfl ?_
 by_cases c7 : (!x4.2.2.2.2.2.2) = true
 ·rw [if_pos c7] at H
  refine ent_off rfl rfl rfl c7 rfl rfl ?_
  refine ent_off rfl rfl rfl c7 rfl rfl ?_
  refine ent_off rfl rfl rfl c7 rfl rfl ?_
  refine ent_off rfl rfl rfl c7 rfl rfl ?_
  refine ent_value (ov_pick rfl rfl rfl (pick_t c7)) rfl rfl rfl ?_
  refine ent_nil ?_
  refine ent_cond_true rfl rfl ?_
  refine ent_seq ?_
  refine ent_region ?_
  refine ent_value (ov_build (is := []) (xs := []) (vs := []) rfl rfl (build_struct (cs := [(int .i64 0), (int .i64 0), (int .i64 0), (int .i64 0), (int .i64 0), (bool false)]) F_zero_65 F_places_65 rfl)) rfl rfl rfl ?_
  refine ent_op0 (ot_storeG (cs := [(int .i64 0), (int .i64 0), (int .i64 0), (int .i64 0), (int .i64 0), (bool false)]) (cs' := [(int .i64 0), (int .i64 0), (int .i64 0), (int .i64 0), (int .i64 0), (bool false)]) (us := [(int .i64 0), (int .i64 0), (int .i64 0), (int .i64 0), (int .i64 0), (bool false)]) (L' := [(box b6 65 [(int .i64 x4.1), (int .i64 x4.2.1), (int .i64 x4.2.2.1), (int .i64 x4.2.2.2.1), (int .i64 x4.2.2.2.2.1), (bool x4.2.2.2.2.2.1)]), (box b5 65 [(int .i64 0), (int .i64 0), (int .i64 0), (int .i64 0), (int .i64 0), (bool false)]), (box b4 63 [(int .i64 a1_0), (int .i64 a1_1)]), (box p0 139 [(pt p1 0)]), (box p1 192 [sv0]), (own sv0 196 7 l0.length (fl enc_Omap_pair__int64__api_Entry l0))]) 1 rfl rfl rfl (one_all rfl) F_size_65 rfl rfl (by simp) rfl) rfl rfl ?_
  rintro _ _ rfl
  refine ent_value (ov_assign rfl) rfl rfl rfl ?_
  refine ent_nil ?_
  refine ent_retc ?_
  first | (have e_ := Option.some.inj (show some _ = some _ from H); subst e_) | subst H
  exact ret_memp [3, 4, 5] (by decide) rfl (vs := [(agg #[(int .i64 0), (int .i64 0), (int .i64 0), (int .i64 0), (int .i64 0), (bool false)]), (bool false)]) rfl ⟨⟨_, [(int .i64 0), (int .i64 0), (int .i64 0), (int .i64 0), (int .i64 0), (bool false)], rfl, reads_boxW (i := 1) rfl, .inl ⟨F_agg_65, F_size_65, rfl⟩⟩, ⟨rfl, trivial⟩⟩ _ rfl ⟨rfl, rfl⟩
 ·rw [if_neg c7] at H
  refine ent_value_on (ov_fieldAddr (sz := 1) (o := 0) rfl F_field_65_0 F_size_63) rfl rfl rfl (Bool.eq_false_iff.2 c7) rfl rfl ?_
  refine ent_value_on (ov_load_agg (vs := [(int .i64 x4.1), (int .i64 x4.2.1)]) rfl F_agg_63 F_size_63 (reads_boxN (i := 0) rfl rfl)) rfl rfl rfl (Bool.eq_false_iff.2 c7) rfl rfl ?_
  refine ent_value_on (ov_load_agg (vs := [(int .i64 a1_0), (int .i64 a1_1)]) rfl F_agg_63 F_size_63 (reads_boxW (i := 2) rfl)) rfl rfl rfl (Bool.eq_false_iff.2 c7) rfl rfl ?_
  refine ent_value_on (ov_bin rfl rfl (same_63_n _ _ _ _)) rfl rfl rfl (Bool.eq_false_iff.2 c7) rfl rfl ?_
  refine ent_value (ov_pick rfl rfl rfl (pick_f (Bool.eq_false_iff.2 c7))) rfl rfl rfl ?_
  refine ent_nil ?_
  by_cases c8 : (!((x4.1 == a1_0) && ((x4.2.1 == a1_1) && true))) = true
  ·rw [if_pos c8] at H
   refine ent_cond_true rfl c8 ?_
   refine ent_seq ?_
   refine ent_region ?_
   refine ent_value (ov_build (is := []) (xs := []) (vs := []) rfl rfl (build_struct (cs := [(int .i64 0), (int .i64 0), (int .i64 0), (int .i64 0), (int .i64 0), (bool false)]) F_zero_65 F_places_65 rfl)) rfl rfl rfl ?_
   refine ent_op0 (ot_storeG (cs := [(int .i64 0), (int .i64 0), (int .i64 0), (int .i64 0), (int .i64 0), (bool false)]) (cs' := [(int .i64 0), (int .i64 0), (int .i64 0), (int .i64 0), (int .i64 0), (bool false)]) (us := [(int .i64 0), (int .i64 0), (int .i64 0), (int .i64 0), (int .i64 0), (bool false)]) (L' := [(box b6 65 [(int .i64 x4.1), (int .i64 x4.2.1), (int .i64 x4.2.2.1), (int .i64 x4.2.2.2.1), (int .i64 x4.2.2.2.2.1), (bool x4.2.2.2.2.2.1)]), (box b5 65 [(int .i64 0), (int .i64 0), (int .i64 0), (int .i64 0), (int .i64 0), (bool false)]), (box b4 63 [(int .i64 a1_0), (int .i64 a1_1)]), (box p0 139 [(pt p1 0)]), (box p1 192 [sv0]), (own sv0 196 7 l0.length (fl enc_Omap_pair__int64__api_Entry l0))]) 1 rfl rfl rfl (one_all rfl) F_size_65 rfl rfl (by simp) rfl) rfl rfl ?_
   rintro _ _ rfl
   refine ent_value (ov_assign rfl) rfl rfl rfl ?_
   refine ent_nil ?_
   refine ent_retc ?_
   first | (have e_ := Option.some.inj (show some _ = some _ from H); subst e_) | subst H
   exact ret_memp [3, 4, 5] (by decide) rfl (vs := [(agg #[(int .i64 0), (int .i64 0), (int .i64 0), (int .i64 0), (int .i64 0), (bool false)]), (bool false)]) rfl ⟨⟨_, [(int .i64 0), (int .i64 0), (int .i64 0), (int .i64 0), (int .i64 0), (bool false)], rfl, reads_boxW (i := 1) rfl, .inl ⟨F_agg_65, F_size_65, rfl⟩⟩, ⟨rfl, trivial⟩⟩ _ rfl ⟨rfl, rfl⟩
  ·rw [if_neg c8] at H
   refine ent_cond_false rfl (Bool.eq_false_iff.2 c8) ?_
   refine ent_skip ?_
   refine ent_seq ?_
   refine ent_region ?_
   refine ent_value (ov_load_agg (vs := [(int .i64 x4.1), (int .i64 x4.2.1), (int .i64 x4.2.2.1), (int .i64 x4.2.2.2.1), (int .i64 x4.2.2.2.2.1), (bool x4.2.2.2.2.2.1)]) rfl F_agg_65 F_size_65 (reads_boxW (i := 0) rfl)) rfl rfl rfl ?_
   refine ent_op0 (ot_storeG (cs := [(int .i64 0), (int .i64 0), (int .i64 0), (int .i64 0), (int .i64 0), (bool false)]) (cs' := [(int .i64 x4.1), (int .i64 x4.2.1), (int .i64 x4.2.2.1), (int .i64 x4.2.2.2.1), (int .i64 x4.2.2.2.2.1), (bool x4.2.2.2.2.2.1)]) (us := [(int .i64 x4.1), (int .i64 x4.2.1), (int .i64 x4.2.2.1), (int .i64 x4.2.2.2.1), (int .i64 x4.2.2.2.2.1), (bool x4.2.2.2.2.2.1)]) (L' := [(box b6 65 [(int .i64 x4.1), (int .i64 x4.2.1), (int .i64 x4.2.2.1), (int .i64 x4.2.2.2.1), (int .i64 x4.2.2.2.2.1), (bool x4.2.2.2.2.2.1)]), (box b5 65 [(int .i64 x4.1), (int .i64 x4.2.1), (int .i64 x4.2.2.1), (int .i64 x4.2.2.2.1), (int .i64 x4.2.2.2.2.1), (bool x4.2.2.2.2.2.1)]), (box b4 63 [(int .i64 a1_0), (int .i64 a1_1)]), (box p0 139 [(pt p1 0)]), (box p1 192 [sv0]), (own sv0 196 7 l0.length (fl enc_Omap_pair__int64__api_Entry l0))]) 1 rfl rfl rfl (one_all rfl) F_size_65 rfl rfl (by simp) rfl) rfl rfl ?_
   rintro _ _ rfl
   refine ent_value (ov_assign rfl) rfl rfl rfl ?_
   refine ent_nil ?_
   refine ent_retc ?_
   first | (have e_ := Option.some.inj (show some _ = some _ from H); subst e_) | subst H
   exact ret_memp [3, 4, 5] (by decide) rfl (vs := [(agg #[(int .i64 x4.1), (int .i64 x4.2.1), (int .i64 x4.2.2.1), (int .i64 x4.2.2.2.1), (int .i64 x4.2.2.2.2.1), (bool x4.2.2.2.2.2.1)]), (bool true)]) rfl ⟨⟨_, [(int .i64 x4.1), (int .i64 x4.2.1), (int .i64 x4.2.2.1), (int .i64 x4.2.2.2.1), (int .i64 x4.2.2.2.2.1), (bool x4.2.2.2.2.2.1)], rfl, reads_boxW (i := 1) rfl, .inl ⟨F_agg_65, F_size_65, rfl⟩⟩, ⟨rfl, trivial⟩⟩ _ rfl ⟨rfl, rfl⟩

set_option maxRecDepth 100000 in
theorem slices_Delete____omap_pair__int64__api_Entry__omap_pair__int64__api_Entry.spec (sv0 : Value) (l0 : List Omap_pair__int64__api_Entry) (a1 a2 : Int) (r : List Omap_pair__int64__api_Entry) (H : slices_Delete____omap_pair__int64__api_Entry__omap_pair__int64__api_Entry l0 a1 a2 = some r) : FnSpec Try.prog 133 [sv0, (int .i64 a1), (int .i64 a2)] [(own sv0 196 7 l0.length (fl enc_Omap_pair__int64__api_Entry l0))] (fun v M => ∃ sv2 : Value, v = sv2 ∧ M = [(own sv2 196 7 r.length (fl enc_Omap_pair__int64__api_Entry r))]) := by
 obtain ⟨i, j, rfl, rfl, hij, hjn, rfl⟩ := delL_inv H
 have hml : maxLen = 9223372036854775807 := rfl
 have hfd : (fl enc_Omap_pair__int64__api_Entry (l0.drop j)).length = (l0.length - j) * 7 := by rw [fl_length enc_Omap_pair__int64__api_Entry_len]; simp
 refine spec_of Try.func133 rfl 33 rfl (Nat.le_of_ble_eq_true rfl) fun F w0 => ?_
 show Ent (St 33 w0 F [(0, sv0), (1, (int .i64 (i : Int))), (2, (int .i64 (j : Int)))] [(own sv0 196 7 l0.length (fl enc_Omap_pair__int64__api_Entry l0))]) _
 refine ent_seq ?_
 refine ent_region ?_
 refine ent_value (ov_assign rfl) rfl rfl rfl ?_
 refine ent_nil ?_
 refine ent_seq ?_
 refine ent_region ?_
 refine ent_value (ov_move rfl) rfl rfl rfl ?_
 refine ent_value (ov_move rfl) rfl rfl rfl ?_
 refine ent_value (ov_move rfl) rfl rfl rfl ?_
 refine ent_value (ov_move rfl) rfl rfl rfl ?_
 refine ent_value (ov_len 0 rfl F_slice_190 rfl (isRd_ownx 196)) rfl rfl rfl ?_
 refine ent_value (ov_slice3 0 rfl rfl rfl rfl F_slice_190 F_size_196 rfl (isRd_ownx 196) rfl rfl rfl (by omega) (by omega) (by omega)) rfl rfl rfl ?_
 refine ent_nil ?_
 refine ent_seq ?_
 refine ent_seq ?_
 refine ent_region ?_
 refine ent_value (ov_move rfl) rfl rfl rfl ?_
 refine ent_value (ov_move rfl) rfl rfl rfl ?_
 refine ent_value (ov_bin rfl rfl (b_eql _ _ _)) rfl rfl rfl ?_
 refine ent_nil ?_
 by_cases c1 : (((i) : Nat) : Int) = (((j) : Nat) : Int)
 ·refine ent_cond_true rfl (eq_t c1) ?_
  refine ent_seq ?_
  refine ent_region ?_
  refine ent_value (ov_move rfl) rfl rfl rfl ?_
  refine ent_value (ov_assign rfl) rfl rfl rfl ?_
  refine ent_nil ?_
  refine ent_retc ?_
  have e_ : l0.take i ++ l0.drop j = l0 := by
   have e2_ : j = i := by omega
   rw [e2_, List.take_append_drop]
  rw [e_]
  exact ret_tmp rfl rfl ⟨_, rfl, rfl⟩
 ·refine ent_cond_false rfl (eq_f c1) ?_
  refine ent_skip ?_
  refine ent_seq ?_
  refine ent_region ?_
  refine ent_value (ov_move rfl) rfl rfl rfl ?_
  refine ent_value (ov_len 0 rfl F_slice_190 rfl (isRd_ownx 196)) rfl rfl rfl ?_
  refine ent_value (ov_assign rfl) rfl rfl rfl ?_
  refine ent_nil ?_
  refine ent_seq ?_
  refine ent_open 0 rfl (by omega) ?_
  rintro b1 cap1 cur1 rfl hx1 hx2 hx3 hx4
  refine ent_L [(box b1 196 cur1)] rfl ?_
  let Z1_A : (Nat → Bool) → Act → World → Prop := (fun done a w => StD 33 w0 F [(0, (slice (some ⟨b1, 0, none⟩) (l0.length) (cap1))), (1, (int .i64 (((i) : Nat) : Int))), (2, (int .i64 (((j) : Nat) : Int))), (6, (slice none 0 0)), (7, (int .i64 (l0.length : Int))), (8, (slice (some ⟨b1, 0, none⟩) (l0.length) (cap1))), (9, (int .i64 (((i) : Nat) : Int))), (10, (int .i64 (((j) : Nat) : Int))), (11, (slice (some ⟨b1, 0, none⟩) (l0.length) (cap1))), (12, (int .i64 (l0.length : Int))), (13, (subs3 (slice (some ⟨b1, 0, none⟩) (l0.length) (cap1)) i j l0.length 7)), (14, (int .i64 (((i) : Nat) : Int))), (15, (int .i64 (((j) : Nat) : Int))), (16, (bool ((((i) : Nat) : Int) == (((j) : Nat) : Int)))), (18, (slice (some ⟨b1, 0, none⟩) (l0.length) (cap1))), (19, (int .i64 (l0.length : Int)))] [(0, 20, (slice (some ⟨b1, 0, none⟩) (l0.length) (cap1))), (1, 21, (int .i64 (((i) : Nat) : Int))), (2, 22, (slice (some ⟨b1, 0, none⟩) (i) (cap1))), (3, 23, (slice (some ⟨b1, 0, none⟩) (l0.length) (cap1))), (4, 24, (int .i64 (((j) : Nat) : Int))), (5, 25, (slice (some ⟨b1, (if cap1 = j then 0 else 0 + j * 7), none⟩) (l0.length - (j)) (cap1 - (j)))), (6, 26, (slice (some ⟨b1, 0, none⟩) (i + (l0.length - (j))) (cap1)))] done [(sel (done 6) (box b1 196 (cur1.take (0 + (i) * 7) ++ (fl enc_Omap_pair__int64__api_Entry (l0.drop j)) ++ cur1.drop (0 + (i) * 7 + (fl enc_Omap_pair__int64__api_Entry (l0.drop j)).length))) (box b1 196 cur1))] a w)
  let Z1_B : Act → World → Prop := (St 33 w0 F ((0, (slice (some ⟨b1, 0, none⟩) (i + (l0.length - (j))) (cap1))) :: [(1, (int .i64 (((i) : Nat) : Int))), (2, (int .i64 (((j) : Nat) : Int))), (6, (slice none 0 0)), (7, (int .i64 (l0.length : Int))), (8, (slice (some ⟨b1, 0, none⟩) (l0.length) (cap1))), (9, (int .i64 (((i) : Nat) : Int))), (10, (int .i64 (((j) : Nat) : Int))), (11, (slice (some ⟨b1, 0, none⟩) (l0.length) (cap1))), (12, (int .i64 (l0.length : Int))), (13, (subs3 (slice (some ⟨b1, 0, none⟩) (l0.length) (cap1)) i j l0.length 7)), (14, (int .i64 (((i) : Nat) : Int))), (15, (int .i64 (((j) : Nat) : Int))), (16, (bool ((((i) : Nat) : Int) == (((j) : Nat) : Int)))), (18, (slice (some ⟨b1, 0, none⟩) (l0.length) (cap1))), (19, (int .i64 (l0.length : Int))), (20, (slice (some ⟨b1, 0, none⟩) (l0.length) (cap1))), (21, (int .i64 (((i) : Nat) : Int))), (22, (slice (some ⟨b1, 0, none⟩) (i) (cap1))), (23, (slice (some ⟨b1, 0, none⟩) (l0.length) (cap1))), (24, (int .i64 (((j) : Nat) : Int))), (25, (slice (some ⟨b1, (if cap1 = j then 0 else 0 + j * 7), none⟩) (l0.length - (j)) (cap1 - (j)))), (26, (slice (some ⟨b1, 0, none⟩) (i + (l0.length - (j))) (cap1)))]) [(box b1 196 (cur1.take (0 + (i) * 7) ++ (fl enc_Omap_pair__int64__api_Entry (l0.drop j)) ++ cur1.drop (0 + (i) * 7 + (fl enc_Omap_pair__int64__api_Entry (l0.drop j)).length)))])
  refine ent_drawm 8 rfl (two 7 Z1_A Z1_B) (by kernel_rfl) (by kernel_rfl) (two_start (draw_startL (sub_cons (t := 0) rfl (sub_cons (t := 1) rfl (sub_cons (t := 2) rfl (sub_cons (t := 6) rfl (sub_cons (t := 7) rfl (sub_cons (t := 8) rfl (sub_cons (t := 9) rfl (sub_cons (t := 10) rfl (sub_cons (t := 11) rfl (sub_cons (t := 12) rfl (sub_cons (t := 13) rfl (sub_cons (t := 14) rfl (sub_cons (t := 15) rfl (sub_cons (t := 16) rfl (sub_cons (t := 18) rfl (sub_cons (t := 19) rfl (sub_nil _))))))))))))))))) (by simp only [sel]))) ?_ ?_
  ·refine ⟨?_, ?_, ?_, ?_, ?_, ?_, ?_, ?_, trivial⟩
   ·intro done hi hc hcu
    have n7 : done 7 = false := notdone_of (m := 7) hc hi rfl rfl
    refine two_step (m := 7) (A := Z1_A) n7 rfl ?_
    exact draw_value (i := 0) (t := 20) (v := (slice (some ⟨b1, 0, none⟩) (l0.length) (cap1))) rfl rfl (wanted_none rfl) (fun a => hasA_base) (ov_move rfl) rfl rfl (onlyT_spec (k0 := 0) rfl rfl rfl)
   ·intro done hi hc hcu
    have n7 : done 7 = false := notdone_of (m := 7) hc hi rfl rfl
    refine two_step (m := 7) (A := Z1_A) n7 rfl ?_
    exact draw_value (i := 1) (t := 21) (v := (int .i64 (((i) : Nat) : Int))) rfl rfl (wanted_none rfl) (fun a => hasA_base) (ov_move rfl) rfl rfl (onlyT_spec (k0 := 1) rfl rfl rfl)
   ·intro done hi hc hcu
    have n7 : done 7 = false := notdone_of (m := 7) hc hi rfl rfl
    refine two_step (m := 7) (A := Z1_A) n7 rfl ?_
    have d0 : done 0 = true := done_of (j := 0) hcu rfl (by decide) rfl
    have d1 : done 1 = true := done_of (j := 1) hcu rfl (by decide) rfl
    exact draw_value (i := 2) (t := 22) (v := (slice (some ⟨b1, 0, none⟩) (i) (cap1))) rfl rfl (wanted_none rfl) (fun a => (hasA_cons (k := 1) rfl d1 (hasA_cons (k := 0) rfl d0 hasA_base))) (ov_sliceHi (h := i) rfl rfl (by omega) F_slice_190 F_size_196 (by omega)) rfl rfl (onlyT_spec (k0 := 2) rfl rfl rfl)
   ·intro done hi hc hcu
    have n7 : done 7 = false := notdone_of (m := 7) hc hi rfl rfl
    refine two_step (m := 7) (A := Z1_A) n7 rfl ?_
    exact draw_value (i := 3) (t := 23) (v := (slice (some ⟨b1, 0, none⟩) (l0.length) (cap1))) rfl rfl (wanted_none rfl) (fun a => hasA_base) (ov_move rfl) rfl rfl (onlyT_spec (k0 := 3) rfl rfl rfl)
   ·intro done hi hc hcu
    have n7 : done 7 = false := notdone_of (m := 7) hc hi rfl rfl
    refine two_step (m := 7) (A := Z1_A) n7 rfl ?_
    exact draw_value (i := 4) (t := 24) (v := (int .i64 (((j) : Nat) : Int))) rfl rfl (wanted_none rfl) (fun a => hasA_base) (ov_move rfl) rfl rfl (onlyT_spec (k0 := 4) rfl rfl rfl)
   ·intro done hi hc hcu
    have n7 : done 7 = false := notdone_of (m := 7) hc hi rfl rfl
    refine two_step (m := 7) (A := Z1_A) n7 rfl ?_
    have d3 : done 3 = true := done_of (j := 3) hcu rfl (by decide) rfl
    have d4 : done 4 = true := done_of (j := 4) hcu rfl (by decide) rfl
    exact draw_value (i := 5) (t := 25) (v := (slice (some ⟨b1, (if cap1 = j then 0 else 0 + j * 7), none⟩) (l0.length - (j)) (cap1 - (j)))) rfl rfl (wanted_none rfl) (fun a => (hasA_cons (k := 4) rfl d4 (hasA_cons (k := 3) rfl d3 hasA_base))) (ov_sliceLo2 (l := j) rfl rfl (by omega) F_slice_190 F_size_196 (by omega) (by omega)) rfl rfl (onlyT_spec (k0 := 5) rfl rfl rfl)
   ·intro done hi hc hcu
    have n7 : done 7 = false := notdone_of (m := 7) hc hi rfl rfl
    refine two_step (m := 7) (A := Z1_A) n7 rfl ?_
    have d2 : done 2 = true := done_of (j := 2) hcu rfl (by decide) rfl
    have d5 : done 5 = true := done_of (j := 5) hcu rfl (by decide) rfl
    exact draw_eff (i := 6) (t := 26) (v := (slice (some ⟨b1, 0, none⟩) (i + (l0.length - (j))) (cap1))) (L2 := [(box b1 196 cur1)]) (L3 := [(box b1 196 (cur1.take (0 + (i) * 7) ++ (fl enc_Omap_pair__int64__api_Entry (l0.drop j)) ++ cur1.drop (0 + (i) * 7 + (fl enc_Omap_pair__int64__api_Entry (l0.drop j)).length)))]) rfl rfl (wanted_none rfl) (fun a => (hasA_cons (k := 5) rfl d5 (hasA_cons (k := 2) rfl d2 hasA_base))) (by simp only [hi, sel]) (by simp [up, sel]) (ot_appendRoom (L' := [(box b1 196 (cur1.take (0 + (i) * 7) ++ (fl enc_Omap_pair__int64__api_Entry (l0.drop j)) ++ cur1.drop (0 + (i) * 7 + (fl enc_Omap_pair__int64__api_Entry (l0.drop j)).length)))]) (cs := (fl enc_Omap_pair__int64__api_Entry (l0.drop j))) 0 0 rfl rfl F_slice_190 F_size_196 rfl rfl (del_rest2 enc_Omap_pair__int64__api_Entry_len (by omega) (by omega) hx4) hfd (by rw [hfd, hx3]; omega) (by omega) (one_fl enc_Omap_pair__int64__api_Entry_one _) rfl) rfl rfl (onlyT_spec (k0 := 6) rfl rfl rfl)
   ·intro done hi hc hcu
    refine two_last (m := 7) (A := Z1_A) (B := Z1_B) hi ?_
    have d0 : done 0 = true := done_of (j := 0) hcu rfl (by decide) rfl
    have d1 : done 1 = true := done_of (j := 1) hcu rfl (by decide) rfl
    have d2 : done 2 = true := done_of (j := 2) hcu rfl (by decide) rfl
    have d3 : done 3 = true := done_of (j := 3) hcu rfl (by decide) rfl
    have d4 : done 4 = true := done_of (j := 4) hcu rfl (by decide) rfl
    have d5 : done 5 = true := done_of (j := 5) hcu rfl (by decide) rfl
    have d6 : done 6 = true := done_of (j := 6) hcu rfl (by decide) rfl
    exact last_value (i := 7) (t := 0) (v := (slice (some ⟨b1, 0, none⟩) (i + (l0.length - (j))) (cap1))) (L2 := [(box b1 196 (cur1.take (0 + (i) * 7) ++ (fl enc_Omap_pair__int64__api_Entry (l0.drop j)) ++ cur1.drop (0 + (i) * 7 + (fl enc_Omap_pair__int64__api_Entry (l0.drop j)).length)))]) rfl rfl (wanted_none rfl) (by simp only [d6, sel]) (fun a => (hasA_cons (k := 6) rfl d6 hasA_base)) (fun a h_ => (Has.sub (ρ := [(20, (slice (some ⟨b1, 0, none⟩) (l0.length) (cap1))), (21, (int .i64 (((i) : Nat) : Int))), (22, (slice (some ⟨b1, 0, none⟩) (i) (cap1))), (23, (slice (some ⟨b1, 0, none⟩) (l0.length) (cap1))), (24, (int .i64 (((j) : Nat) : Int))), (25, (slice (some ⟨b1, (if cap1 = j then 0 else 0 + j * 7), none⟩) (l0.length - (j)) (cap1 - (j)))), (26, (slice (some ⟨b1, 0, none⟩) (i + (l0.length - (j))) (cap1)))] ++ [(0, (slice (some ⟨b1, 0, none⟩) (l0.length) (cap1))), (1, (int .i64 (((i) : Nat) : Int))), (2, (int .i64 (((j) : Nat) : Int))), (6, (slice none 0 0)), (7, (int .i64 (l0.length : Int))), (8, (slice (some ⟨b1, 0, none⟩) (l0.length) (cap1))), (9, (int .i64 (((i) : Nat) : Int))), (10, (int .i64 (((j) : Nat) : Int))), (11, (slice (some ⟨b1, 0, none⟩) (l0.length) (cap1))), (12, (int .i64 (l0.length : Int))), (13, (subs3 (slice (some ⟨b1, 0, none⟩) (l0.length) (cap1)) i j l0.length 7)), (14, (int .i64 (((i) : Nat) : Int))), (15, (int .i64 (((j) : Nat) : Int))), (16, (bool ((((i) : Nat) : Int) == (((j) : Nat) : Int)))), (18, (slice (some ⟨b1, 0, none⟩) (l0.length) (cap1))), (19, (int .i64 (l0.length : Int)))]) (((hasA_cons (k := 0) rfl d0 (hasA_cons (k := 1) rfl d1 (hasA_cons (k := 2) rfl d2 (hasA_cons (k := 3) rfl d3 (hasA_cons (k := 4) rfl d4 (hasA_cons (k := 5) rfl d5 (hasA_cons (k := 6) rfl d6 hasA_base))))))) : HasA a _ _ _ → Has a ([(20, (slice (some ⟨b1, 0, none⟩) (l0.length) (cap1))), (21, (int .i64 (((i) : Nat) : Int))), (22, (slice (some ⟨b1, 0, none⟩) (i) (cap1))), (23, (slice (some ⟨b1, 0, none⟩) (l0.length) (cap1))), (24, (int .i64 (((j) : Nat) : Int))), (25, (slice (some ⟨b1, (if cap1 = j then 0 else 0 + j * 7), none⟩) (l0.length - (j)) (cap1 - (j)))), (26, (slice (some ⟨b1, 0, none⟩) (i + (l0.length - (j))) (cap1)))] ++ [(0, (slice (some ⟨b1, 0, none⟩) (l0.length) (cap1))), (1, (int .i64 (((i) : Nat) : Int))), (2, (int .i64 (((j) : Nat) : Int))), (6, (slice none 0 0)), (7, (int .i64 (l0.length : Int))), (8, (slice (some ⟨b1, 0, none⟩) (l0.length) (cap1))), (9, (int .i64 (((i) : Nat) : Int))), (10, (int .i64 (((j) : Nat) : Int))), (11, (slice (some ⟨b1, 0, none⟩) (l0.length) (cap1))), (12, (int .i64 (l0.length : Int))), (13, (subs3 (slice (some ⟨b1, 0, none⟩) (l0.length) (cap1)) i j l0.length 7)), (14, (int .i64 (((i) : Nat) : Int))), (15, (int .i64 (((j) : Nat) : Int))), (16, (bool ((((i) : Nat) : Int) == (((j) : Nat) : Int)))), (18, (slice (some ⟨b1, 0, none⟩) (l0.length) (cap1))), (19, (int .i64 (l0.length : Int)))])) h_) (sub_cons (t := 1) rfl (sub_cons (t := 2) rfl (sub_cons (t := 6) rfl (sub_cons (t := 7) rfl (sub_cons (t := 8) rfl (sub_cons (t := 9) rfl (sub_cons (t := 10) rfl (sub_cons (t := 11) rfl (sub_cons (t := 12) rfl (sub_cons (t := 13) rfl (sub_cons (t := 14) rfl (sub_cons (t := 15) rfl (sub_cons (t := 16) rfl (sub_cons (t := 18) rfl (sub_cons (t := 19) rfl (sub_cons (t := 20) rfl (sub_cons (t := 21) rfl (sub_cons (t := 22) rfl (sub_cons (t := 23) rfl (sub_cons (t := 24) rfl (sub_cons (t := 25) rfl (sub_cons (t := 26) rfl (sub_nil _))))))))))))))))))))))))) (ov_assign rfl) rfl
  ·intro done hall
   refine two_end (A := Z1_A) (B := Z1_B) (hall 7 (by decide)) ?_
   refine ent_seq ?_
   refine ent_region ?_
   refine ent_value (ov_move rfl) rfl rfl rfl ?_
   refine ent_value (ov_move rfl) rfl rfl rfl ?_
   refine ent_value (ov_lenX rfl F_slice_190) rfl rfl rfl ?_
   refine ent_value (ov_move rfl) rfl rfl rfl ?_
   refine ent_value (ov_sliceBoth (l := i + (l0.length - (j))) (h := l0.length) rfl rfl rfl (by omega) (by omega) F_slice_190 F_size_196 (by omega) (by omega) (by omega)) rfl rfl rfl ?_
   refine ent_op0 (ot_clear (sz := 6) 0 rfl F_slice_190 F_zero_196 rfl rfl rfl (by omega) (by simp only [List.length_append, List.length_take, List.length_drop, hfd, hx3]; omega)) rfl rfl ?_
   rintro _ _ ⟨zs1, hz1, rfl⟩
   refine ent_nil ?_
   refine ent_seq ?_
   refine ent_region ?_
   refine ent_value (ov_move rfl) rfl rfl rfl ?_
   refine ent_value (ov_assign rfl) rfl rfl rfl ?_
   refine ent_nil ?_
   refine ent_retc ?_
   refine ent_conv 0 _ (own (slice (some ⟨b1, 0, none⟩) (i + (l0.length - (j))) (cap1)) 196 7 (l0.take i ++ l0.drop j).length (fl enc_Omap_pair__int64__api_Entry (l0.take i ++ l0.drop j))) rfl (del_close enc_Omap_pair__int64__api_Entry_len (o1 := 0 + (i) * 7) (o2 := 0 + (i + (l0.length - (j))) * 7) (row := cur1) (i := i) (j := j) (zs := zs1) (by omega) (by omega) hx1 hx2 hx3 hx4 (by omega) (by omega) (by rw [hz1]; omega) (by rw [hz1])) rfl ?_
   exact ret_tmp rfl rfl ⟨_, rfl, rfl⟩

set_option maxRecDepth 100000 in
theorem omap_Map__int64__api_Entry_Drop_O.spec (K : Nat) (p0 : Nat) (sv0 : Value) (l0 : List Omap_pair__int64__api_Entry) (a1 : Int) (r : ((List Omap_pair__int64__api_Entry) × Bool)) (H : omap_Map__int64__api_Entry_Drop_O K l0 a1 = some r) : FnSpec Try.prog 83 [(pt p0 0), (int .i64 a1)] [(box p0 192 [sv0]), (own sv0 196 7 l0.length (fl enc_Omap_pair__int64__api_Entry l0))] (fun v M => ∃ sv3 : Value, v = (bool r.2) ∧ M = [(box p0 192 [sv3]), (own sv3 196 7 r.1.length (fl enc_Omap_pair__int64__api_Entry r.1))]) := by
 unfold omap_Map__int64__api_Entry_Drop_O at H
 refine spec_of Try.func83 rfl 26 rfl (Nat.le_of_ble_eq_true rfl) fun F w0 => ?_
 show Ent (St 26 w0 F [(0, (pt p0 0)), (1, (int .i64 a1))] [(box p0 192 [sv0]), (own sv0 196 7 l0.length (fl enc_Omap_pair__int64__api_Entry l0))]) _
 refine ent_seq ?_
 refine ent_region ?_
 refine ent_value (ov_assign rfl) rfl rfl rfl ?_
 refine ent_nil ?_
 refine ent_seq ?_
 refine ent_region ?_
 refine ent_value (ov_move rfl) rfl rfl rfl ?_
 refine ent_value (ov_move rfl) rfl rfl rfl ?_
 obtain ⟨x4, h4, H⟩ := Option.bind_eq_some_iff.1 H
 refine ent_op (ot_call_same (Lr := []) [0, 1] [0, 1] (first := []) (cap := []) (xs := [.tmp 8, .tmp 9]) rfl rfl F_call_132 rfl (omap_Map__int64__api_Entry_place_O.spec K p0 sv0 l0 a1 _ h4) (by decide) rfl (by decide) rfl) rfl rfl rfl ?_
 rintro _ _ ⟨rfl, rfl⟩
 refine ent_value (ov_move rfl) rfl rfl rfl ?_
 refine ent_value (ov_extract rfl rfl) rfl rfl rfl ?_
 refine ent_value (ov_extract rfl rfl) rfl rfl rfl ?_
 refine ent_value (ov_assign rfl) rfl rfl rfl ?_
 refine ent_value (ov_assign rfl) rfl rfl rfl ?_
 refine ent_nil ?_
 refine ent_seq ?_
 refine ent_seq ?_
 refine ent_region ?_
 refine ent_value (ov_move rfl) rfl rfl rfl ?_
 refine ent_nil ?_
 by_cases c4 : x4.1 = true
 ·rw [if_pos c4] at H
  refine ent_cond_true rfl c4 ?_
  refine ent_region ?_
  refine ent_value (ov_move rfl) rfl rfl rfl ?_
  refine ent_value (ov_move rfl) rfl rfl rfl ?_
  refine ent_value (ov_nilCheck rfl) rfl rfl rfl ?_
  refine ent_value (ov_fieldAddr (sz := 0) (o := 0) rfl F_field_192_0 F_size_190) rfl rfl rfl ?_
  refine ent_value (ov_load (v := sv0) rfl F_agg_190 (reads_box1 (i := 0) rfl rfl)) rfl rfl rfl ?_
  refine ent_value (ov_move rfl) rfl rfl rfl ?_
  refine ent_value (ov_move rfl) rfl rfl rfl ?_
  refine ent_value (ov_bin rfl rfl (b_add _ _ _) ) rfl rfl rfl ?_
  obtain ⟨x6, h6, H⟩ := Option.bind_eq_some_iff.1 H
  refine ent_pick [1, 0] (by decide) rfl ?_
  refine ent_op (ot_call (Lr := [(box p0 192 [sv0])]) (first := []) (cap := []) (xs := [.tmp 18, .tmp 19, .tmp 21]) rfl rfl F_call_133 rfl (slices_Delete____omap_pair__int64__api_Entry__omap_pair__int64__api_Entry.spec sv0 l0 x4.2 (w64 (x4.2 + 1)) _ h6) rfl) rfl rfl rfl ?_
  rintro sv5 _ ⟨_, ⟨_, rfl, rfl⟩, rfl⟩
  refine ent_value (ov_nilCheck rfl) rfl rfl rfl ?_
  refine ent_value (ov_fieldAddr (sz := 0) (o := 0) rfl F_field_192_0 F_size_190) rfl rfl rfl ?_
  refine ent_op0 (ot_storeS (cs := [sv0]) (cs' := [sv5]) (sv := sv5) (L' := [(own sv5 196 7 x6.length (fl enc_Omap_pair__int64__api_Entry x6)), (box p0 192 [sv5])]) 1 0 rfl rfl F_size_190 rfl rfl (isRd_ownx 196) rfl (by simp) rfl) rfl rfl ?_
  rintro _ _ rfl
  refine ent_nil ?_
  refine ent_seq ?_
  refine ent_region ?_
  refine ent_value (ov_move rfl) rfl rfl rfl ?_
  refine ent_value (ov_assign rfl) rfl rfl rfl ?_
  refine ent_nil ?_
  refine ent_retc ?_
  cases H
  refine ent_pick [1, 0] (by decide) rfl ?_
  exact ret_tmp rfl rfl ⟨_, rfl, rfl⟩
 ·rw [if_neg c4] at H
  refine ent_cond_false rfl (Bool.eq_false_iff.2 c4) ?_
  refine ent_skip ?_
  refine ent_seq ?_
  refine ent_region ?_
  refine ent_value (ov_move rfl) rfl rfl rfl ?_
  refine ent_value (ov_assign rfl) rfl rfl rfl ?_
  refine ent_nil ?_
  refine ent_retc ?_
  cases H
  refine ent_pick [0, 1] (by decide) rfl ?_
  exact ret_tmp rfl rfl ⟨_, rfl, rfl⟩

set_option maxRecDepth 100000 in
theorem catalog_Catalog_Apply_OOO.spec (K : Nat) (p0 : Nat) (p1 : Nat) (sv0 : Value) (sv1 : Value) (sv2 : Value) (l0 : List Omap_pair__int64__api_Entry) (l1 : List Api_Part) (l2 : List Api_Entry) (r : (Int × (List Omap_pair__int64__api_Entry))) (H : catalog_Catalog_Apply_OOO K l0 l1 l2 = some r) : FnSpec Try.prog 25 [(pt p0 0), (agg #[sv1, sv2])] [(box p0 139 [(pt p1 0)]), (box p1 192 [sv0]), (own sv0 196 7 l0.length (fl enc_Omap_pair__int64__api_Entry l0)), (own sv1 63 2 l1.length (fl enc_Api_Part l1)), (own sv2 65 6 l2.length (fl enc_Api_Entry l2))] (fun v M => ∃ b106 : Nat, ∃ sv66 : Value, v = (int .i64 r.1) ∧ M = [(box p0 139 [(pt b106 0)]), (box b106 192 [sv66]), (own sv66 196 7 r.2.length (fl enc_Omap_pair__int64__api_Entry r.2)), (own sv1 63 2 l1.length (fl enc_Api_Part l1)), (own sv2 65 6 l2.length (fl enc_Api_Entry l2))]) := by
 unfold catalog_Catalog_Apply_OOO at H
 refine spec_of Try.func25 rfl 67 rfl (Nat.le_of_ble_eq_true rfl) fun F w0 => ?_
 show Ent (St 67 w0 F [(0, (pt p0 0)), (1, (agg #[sv1, sv2]))] [(box p0 139 [(pt p1 0)]), (box p1 192 [sv0]), (own sv0 196 7 l0.length (fl enc_Omap_pair__int64__api_Entry l0)), (own sv1 63 2 l1.length (fl enc_Api_Part l1)), (own sv2 65 6 l2.length (fl enc_Api_Entry l2))]) _
 refine ent_seq ?_
 refine ent_region ?_
 refine ent_op (ot_box (cs := [sv1, sv2]) rfl rfl) rfl rfl rfl ?_
 rintro _ _ ⟨b107, rfl, rfl⟩
 refine ent_value (ov_assign rfl) rfl rfl rfl ?_
 refine ent_nil ?_
 refine ent_seq ?_
 refine ent_seq ?_
 refine ent_region ?_
 refine ent_value (ov_move rfl) rfl rfl rfl ?_
 refine ent_value (ov_bin rfl rfl (b_eql_of (fun w => rfl) rfl (eq_pn Try.underlying51 _ _))) rfl rfl rfl ?_
 refine ent_nil ?_
 refine ent_cond_false rfl rfl ?_
 refine ent_skip ?_
 refine ent_seq ?_
 refine ent_region ?_
 refine ent_value (ov_move rfl) rfl rfl rfl ?_
 obtain ⟨x127, h123, H⟩ := Option.bind_eq_some_iff.1 H
 refine ent_pick [1, 2, 3, 0, 4, 5] (by decide) rfl ?_
 refine ent_op (ot_call (Lr := [(box b107 59 [sv1, sv2]), (own sv1 63 2 l1.length (fl enc_Api_Part l1)), (own sv2 65 6 l2.length (fl enc_Api_Entry l2))]) (first := []) (cap := []) (xs := [.tmp 17]) rfl rfl F_call_30 rfl (catalog_Catalog_Copy_O.spec K p0 p1 sv0 l0 _ h123) rfl) rfl rfl rfl ?_
 rintro _ _ ⟨_, ⟨b108, b109, sv67, rfl, rfl⟩, rfl⟩
 refine ent_value (ov_assign rfl) rfl rfl rfl ?_
 refine ent_nil ?_
 obtain ⟨x152, H18, H⟩ := Option.bind_eq_some_iff.1 H
 refine ent_seq_cut (fun a w => ∃ v5, x152 = Sum.inl v5 ∧ ∃ b128 : Nat, ∃ sv75 : Value, St 67 w0 F [(0, (pt p0 0)), (3, (pt b128 0)), (5, (pt b108 0))] [(box p0 139 [(pt p1 0)]), (box p1 192 [sv0]), (own sv0 196 7 l0.length (fl enc_Omap_pair__int64__api_Entry l0)), (own sv1 63 2 l1.length (fl enc_Api_Part l1)), (own sv2 65 6 l2.length (fl enc_Api_Entry l2)), (box b128 59 [sv1, sv2]), (box b108 139 [(pt b109 0)]), (box b109 192 [sv75]), (own sv75 196 7 v5.length (fl enc_Omap_pair__int64__api_Entry v5))] a w) ?_ ?_
 ·refine ent_seq ?_
  refine ent_region ?_
  refine ent_value (ov_fieldAddr (sz := 0) (o := 0) rfl F_field_59_0 F_size_56) rfl rfl rfl ?_
  refine ent_value (ov_load (v := sv1) rfl F_agg_56 (reads_box1 (i := 6) rfl rfl)) rfl rfl rfl ?_
  refine ent_value (ov_len 7 rfl F_slice_56 rfl (isRd_ownx 63)) rfl rfl rfl ?_
  refine ent_value (ov_move rfl) rfl rfl rfl ?_
  refine ent_nil ?_
  refine ent_block ?_
  refine ent_loop (fun k a w => ∃ i12, ∃ l19, ∃ sv78 : Value, catalog_Catalog_Apply_OOO_l0 K l0 l1 k i12 l19 = some x152 ∧ St 67 w0 F [(0, (pt p0 0)), (3, (pt b107 0)), (5, (pt b108 0)), (20, sv1), (21, (int .i64 (l1.length : Int))), (22, (int .i64 i12))] [(box p0 139 [(pt p1 0)]), (box p1 192 [sv0]), (own sv0 196 7 l0.length (fl enc_Omap_pair__int64__api_Entry l0)), (own sv1 63 2 l1.length (fl enc_Api_Part l1)), (own sv2 65 6 l2.length (fl enc_Api_Entry l2)), (box b107 59 [sv1, sv2]), (box b108 139 [(pt b109 0)]), (box b109 192 [sv78]), (own sv78 196 7 l19.length (fl enc_Omap_pair__int64__api_Entry l19))] a w) K ?_ ?_
  ·exact ent_fin [0, 1, 2, 7, 8, 6, 3, 4, 5] (by decide) rfl (sub_cons (t := 0) rfl (sub_cons (t := 3) rfl (sub_cons (t := 5) rfl (sub_cons (t := 20) rfl (sub_cons (t := 21) rfl (sub_cons (t := 22) rfl (sub_nil _))))))) fun a w h => ⟨_, _, _, H18, h⟩
  ·refine fun k => ent_exi fun i12 => ent_exi fun l19 => ent_exi fun sv78 => ent_and fun H19 => ?_
   cases k with
   | zero => exact absurd H19 (by simp [catalog_Catalog_Apply_OOO_l0])
   | succ k =>
    rw [catalog_Catalog_Apply_OOO_l0] at H19
    refine ent_seq ?_
    refine ent_region ?_
    refine ent_value (ov_bin rfl rfl (b_lss _ _ _)) rfl rfl rfl ?_
    refine ent_nil ?_
    refine ent_seq ?_
    by_cases c190 : i12 < (l1.length : Int)
    ·rw [if_pos c190] at H19
     refine ent_cond_true rfl (decide_eq_true c190) ?_
     refine ent_skip ?_
     refine ent_seq ?_
     refine ent_block ?_
     refine ent_seq ?_
     refine ent_region ?_
     by_cases c194 : 0 ≤ i12
     ·rw [if_pos c194] at H19
      refine ent_value (ov_indexAddr (sz := 1) 3 rfl rfl F_slice_56 F_size_63 rfl (isRd_ownx 63) c194 c190) rfl rfl rfl ?_
      refine ent_value (ov_load_agg (vs := [(int .i64 ((l1.getD i12.toNat z_Api_Part).Tier)), (int .i64 ((l1.getD i12.toNat z_Api_Part).Index))]) rfl F_agg_63 F_size_63 (reads_rd (i := 3) rfl (isRd_ownx 63) (by simp) (fl_read0 enc_Api_Part_len (ix_lt c194 c190) rfl))) rfl rfl rfl ?_
      refine ent_op (ot_alloc F_zero_63) rfl rfl rfl ?_
      rintro _ _ ⟨b144, rfl, rfl⟩
      refine ent_op0 (ot_storeG (cs := [(int .i64 0), (int .i64 0)]) (cs' := [(int .i64 ((l1.getD i12.toNat z_Api_Part).Tier)), (int .i64 ((l1.getD i12.toNat z_Api_Part).Index))]) (us := [(int .i64 ((l1.getD i12.toNat z_Api_Part).Tier)), (int .i64 ((l1.getD i12.toNat z_Api_Part).Index))]) (L' := [(box b144 63 [(int .i64 ((l1.getD i12.toNat z_Api_Part).Tier)), (int .i64 ((l1.getD i12.toNat z_Api_Part).Index))]), (box p0 139 [(pt p1 0)]), (box p1 192 [sv0]), (own sv0 196 7 l0.length (fl enc_Omap_pair__int64__api_Entry l0)), (own sv1 63 2 l1.length (fl enc_Api_Part l1)), (own sv2 65 6 l2.length (fl enc_Api_Entry l2)), (box b107 59 [sv1, sv2]), (box b108 139 [(pt b109 0)]), (box b109 192 [sv78]), (own sv78 196 7 l19.length (fl enc_Omap_pair__int64__api_Entry l19))]) 0 rfl rfl rfl (one_all rfl) F_size_63 rfl rfl (by simp) rfl) rfl rfl ?_
      rintro _ _ rfl
      refine ent_nil ?_
      refine ent_seq ?_
      refine ent_seq ?_
      refine ent_region ?_
      refine ent_value (ov_move rfl) rfl rfl rfl ?_
      refine ent_value (ov_load_agg (vs := [(int .i64 ((l1.getD i12.toNat z_Api_Part).Tier)), (int .i64 ((l1.getD i12.toNat z_Api_Part).Index))]) rfl F_agg_63 F_size_63 (reads_boxW (i := 0) rfl)) rfl rfl rfl ?_
      obtain ⟨x174, h169, H19⟩ := Option.bind_eq_some_iff.1 H19
      refine ent_op (ot_call_same (Lr := [(box b144 63 [(int .i64 ((l1.getD i12.toNat z_Api_Part).Tier)), (int .i64 ((l1.getD i12.toNat z_Api_Part).Index))]), (box p0 139 [(pt p1 0)]), (box p1 192 [sv0]), (own sv0 196 7 l0.length (fl enc_Omap_pair__int64__api_Entry l0)), (own sv1 63 2 l1.length (fl enc_Api_Part l1)), (own sv2 65 6 l2.length (fl enc_Api_Entry l2)), (box b107 59 [sv1, sv2])]) [7, 8, 9, 0, 1, 2, 3, 4, 5, 6] [3, 4, 5, 6, 7, 8, 9, 0, 1, 2] (first := []) (cap := []) (xs := [.tmp 27, .tmp 28]) rfl rfl F_call_82 rfl (catalog_Catalog_Get_O.spec K b108 b109 sv78 l19 ((l1.getD i12.toNat z_Api_Part).Tier) ((l1.getD i12.toNat z_Api_Part).Index) _ h169) (by decide) rfl (by decide) rfl) rfl rfl rfl ?_
      rintro _ _ ⟨rfl, rfl⟩
      refine ent_value (ov_move rfl) rfl rfl rfl ?_
      refine ent_value (ov_extract rfl rfl) rfl rfl rfl ?_
      refine ent_value (ov_extract rfl rfl) rfl rfl rfl ?_
      refine ent_op (ot_alloc F_zero_65) rfl rfl rfl ?_
      rintro _ _ ⟨b146, rfl, rfl⟩
      refine ent_op0 (ot_storeG (cs := [(int .i64 0), (int .i64 0), (int .i64 0), (int .i64 0), (int .i64 0), (bool false)]) (cs' := [(int .i64 x174.1), (int .i64 x174.2.1), (int .i64 x174.2.2.1), (int .i64 x174.2.2.2.1), (int .i64 x174.2.2.2.2.1), (bool x174.2.2.2.2.2.1)]) (us := [(int .i64 x174.1), (int .i64 x174.2.1), (int .i64 x174.2.2.1), (int .i64 x174.2.2.2.1), (int .i64 x174.2.2.2.2.1), (bool x174.2.2.2.2.2.1)]) (L' := [(box b146 65 [(int .i64 x174.1), (int .i64 x174.2.1), (int .i64 x174.2.2.1), (int .i64 x174.2.2.2.1), (int .i64 x174.2.2.2.2.1), (bool x174.2.2.2.2.2.1)]), (box b144 63 [(int .i64 ((l1.getD i12.toNat z_Api_Part).Tier)), (int .i64 ((l1.getD i12.toNat z_Api_Part).Index))]), (box p0 139 [(pt p1 0)]), (box p1 192 [sv0]), (own sv0 196 7 l0.length (fl enc_Omap_pair__int64__api_Entry l0)), (own sv1 63 2 l1.length (fl enc_Api_Part l1)), (own sv2 65 6 l2.length (fl enc_Api_Entry l2)), (box b107 59 [sv1, sv2]), (box b108 139 [(pt b109 0)]), (box b109 192 [sv78]), (own sv78 196 7 l19.length (fl enc_Omap_pair__int64__api_Entry l19))]) 0 rfl rfl rfl (one_all rfl) F_size_65 rfl rfl (by simp) rfl) rfl rfl ?_
      rintro _ _ rfl
      refine ent_value (ov_assign rfl) rfl rfl rfl ?_
      refine ent_nil ?_
      refine ent_seq ?_
      refine ent_region ?_
      refine ent_value (ov_move rfl) rfl rfl rfl ?_
      refine ent_value (ov_un rfl (u_not _)) rfl rfl rfl ?_
      refine ent_nil ?_
      by_cases c196 : (!x174.2.2.2.2.2.2) = true
      ·rw [if_pos c196] at H19
       refine ent_cond_true rfl c196 ?_
       refine ent_seq ?_
       refine ent_region ?_
       refine ent_value (ov_assign rfl) rfl rfl rfl ?_
       refine ent_nil ?_
       refine ent_retc ?_
       cases H19
       have H20 := Option.some.inj (show some _ = some _ from H)
       cases H20
       refine ent_pick [2, 3, 4, 5, 6] (by decide) rfl ?_
       exact ret_tmp rfl rfl ⟨_, _, rfl, rfl⟩
      ·rw [if_neg c196] at H19
       refine ent_cond_false rfl (Bool.eq_false_iff.2 c196) ?_
       refine ent_skip ?_
       refine ent_seq ?_
       refine ent_region ?_
       refine ent_value (ov_load_agg (vs := [(int .i64 ((l1.getD i12.toNat z_Api_Part).Tier)), (int .i64 ((l1.getD i12.toNat z_Api_Part).Index))]) rfl F_agg_63 F_size_63 (reads_boxW (i := 1) rfl)) rfl rfl rfl ?_
       obtain ⟨x175, h170, H19⟩ := thn_elim H19
       refine ent_op (ot_call0 (first := []) (cap := []) (xs := [.tmp 35]) rfl rfl F_call_35 rfl (part_Span.spec ((l1.getD i12.toNat z_Api_Part).Tier) ((l1.getD i12.toNat z_Api_Part).Index) _ h170)) rfl rfl rfl ?_
       rintro _ _ ⟨rfl, rfl⟩
       refine ent_value (ov_move rfl) rfl rfl rfl ?_
       refine ent_value (ov_extract rfl rfl) rfl rfl rfl ?_
       refine ent_value (ov_extract rfl rfl) rfl rfl rfl ?_
       refine ent_value (ov_assign rfl) rfl rfl rfl ?_
       refine ent_value (ov_assign rfl) rfl rfl rfl ?_
       refine ent_nil ?_
       refine ent_region ?_
       refine ent_value (ov_move rfl) rfl rfl rfl ?_
       refine ent_value (ov_nilCheck rfl) rfl rfl rfl ?_
       refine ent_value (ov_fieldAddr (sz := 0) (o := 0) rfl F_field_139_0 F_size_136) rfl rfl rfl ?_
       refine ent_value (ov_load (v := (pt b109 0)) rfl F_agg_136 (reads_box1 (i := 8) rfl rfl)) rfl rfl rfl ?_
       refine ent_value (ov_move rfl) rfl rfl rfl ?_
       obtain ⟨x176, h171, H19⟩ := Option.bind_eq_some_iff.1 H19
       refine ent_pick [9, 10, 0, 1, 2, 3, 4, 5, 6, 7, 8] (by decide) rfl ?_
       refine ent_op (ot_call (Lr := [(box b146 65 [(int .i64 x174.1), (int .i64 x174.2.1), (int .i64 x174.2.2.1), (int .i64 x174.2.2.2.1), (int .i64 x174.2.2.2.2.1), (bool x174.2.2.2.2.2.1)]), (box b144 63 [(int .i64 ((l1.getD i12.toNat z_Api_Part).Tier)), (int .i64 ((l1.getD i12.toNat z_Api_Part).Index))]), (box p0 139 [(pt p1 0)]), (box p1 192 [sv0]), (own sv0 196 7 l0.length (fl enc_Omap_pair__int64__api_Entry l0)), (own sv1 63 2 l1.length (fl enc_Api_Part l1)), (own sv2 65 6 l2.length (fl enc_Api_Entry l2)), (box b107 59 [sv1, sv2]), (box b108 139 [(pt b109 0)])]) (first := []) (cap := []) (xs := [.tmp 42, .tmp 43]) rfl rfl F_call_83 rfl (omap_Map__int64__api_Entry_Drop_O.spec K b109 sv78 l19 x175.1 _ h171) rfl) rfl rfl rfl ?_
       rintro _ _ ⟨_, ⟨sv82, rfl, rfl⟩, rfl⟩
       refine ent_nil ?_
       refine ent_region ?_
       refine ent_value (ov_bin rfl rfl (b_add _ _ _) ) rfl rfl rfl ?_
       refine ent_value (ov_move rfl) rfl rfl rfl ?_
       refine ent_nil ?_
       exact ent_fin [4, 5, 6, 7, 8, 9, 10, 0, 1] (by decide) rfl (sub_cons (t := 0) rfl (sub_cons (t := 3) rfl (sub_cons (t := 5) rfl (sub_cons (t := 20) rfl (sub_cons (t := 21) rfl (sub_cons (t := 22) rfl (sub_nil _))))))) fun a w h => ⟨k, Nat.lt_succ_self k, _, _, _, H19, h⟩
     ·rw [if_neg c194] at H19
      cases H19
    ·rw [if_neg c190] at H19
     refine ent_cond_false rfl (decide_eq_false c190) ?_
     refine ent_exit ?_
     cases H19
     exact ent_fin [0, 1, 2, 3, 4, 5, 6, 7, 8] (by decide) rfl (sub_cons (t := 0) rfl (sub_cons (t := 3) rfl (sub_cons (t := 5) rfl (sub_nil _)))) fun a w h => ⟨_, rfl, _, _, h⟩
 ·refine ent_exi fun v5 => ent_and fun e_ => ?_
  subst e_
  rw [cas_inl] at H
  refine ent_exi fun b128 => ent_exi fun sv75 => ?_
  obtain ⟨x183, H22, H⟩ := Option.bind_eq_some_iff.1 H
  refine ent_seq_cut (fun a w => ∃ v6, x183 = Sum.inl v6 ∧ ∃ sv90 : Value, St 67 w0 F [(0, (pt p0 0)), (5, (pt b108 0))] [(box p0 139 [(pt p1 0)]), (box p1 192 [sv0]), (own sv0 196 7 l0.length (fl enc_Omap_pair__int64__api_Entry l0)), (own sv1 63 2 l1.length (fl enc_Api_Part l1)), (own sv2 65 6 l2.length (fl enc_Api_Entry l2)), (box b108 139 [(pt b109 0)]), (box b109 192 [sv90]), (own sv90 196 7 v6.length (fl enc_Omap_pair__int64__api_Entry v6))] a w) ?_ ?_
  ·refine ent_seq ?_
   refine ent_region ?_
   refine ent_value (ov_fieldAddr (sz := 0) (o := 0) rfl F_field_59_1 F_size_53) rfl rfl rfl ?_
   refine ent_value (ov_load (v := sv2) rfl F_agg_53 (reads_box1 (i := 5) rfl rfl)) rfl rfl rfl ?_
   refine ent_value (ov_len 4 rfl F_slice_53 rfl (isRd_ownx 65)) rfl rfl rfl ?_
   refine ent_value (ov_move rfl) rfl rfl rfl ?_
   refine ent_nil ?_
   refine ent_block ?_
   refine ent_loop (fun k a w => ∃ i14, ∃ l22, ∃ sv93 : Value, catalog_Catalog_Apply_OOO_l1 K l0 l2 k i14 l22 = some x183 ∧ St 67 w0 F [(0, (pt p0 0)), (5, (pt b108 0)), (47, sv2), (48, (int .i64 (l2.length : Int))), (49, (int .i64 i14))] [(box p0 139 [(pt p1 0)]), (box p1 192 [sv0]), (own sv0 196 7 l0.length (fl enc_Omap_pair__int64__api_Entry l0)), (own sv1 63 2 l1.length (fl enc_Api_Part l1)), (own sv2 65 6 l2.length (fl enc_Api_Entry l2)), (box b108 139 [(pt b109 0)]), (box b109 192 [sv93]), (own sv93 196 7 l22.length (fl enc_Omap_pair__int64__api_Entry l22))] a w) K ?_ ?_
   ·exact ent_fin [0, 1, 2, 3, 4, 6, 7, 8] (by decide) rfl (sub_cons (t := 0) rfl (sub_cons (t := 5) rfl (sub_cons (t := 47) rfl (sub_cons (t := 48) rfl (sub_cons (t := 49) rfl (sub_nil _)))))) fun a w h => ⟨_, _, _, H22, h⟩
   ·refine fun k => ent_exi fun i14 => ent_exi fun l22 => ent_exi fun sv93 => ent_and fun H23 => ?_
    cases k with
    | zero => exact absurd H23 (by simp [catalog_Catalog_Apply_OOO_l1])
    | succ k =>
     rw [catalog_Catalog_Apply_OOO_l1] at H23
     refine ent_seq ?_
     refine ent_region ?_
     refine ent_value (ov_bin rfl rfl (b_lss _ _ _)) rfl rfl rfl ?_
     refine ent_nil ?_
     refine ent_seq ?_
     by_cases c224 : i14 < (l2.length : Int)
     ·rw [if_pos c224] at H23
      refine ent_cond_true rfl (decide_eq_true c224) ?_
      refine ent_skip ?_
      refine ent_seq ?_
      refine ent_block ?_
      refine ent_seq ?_
      refine ent_region ?_
      by_cases c227 : 0 ≤ i14
      ·rw [if_pos c227] at H23
       refine ent_value (ov_indexAddr (sz := 5) 4 rfl rfl F_slice_53 F_size_65 rfl (isRd_ownx 65) c227 c224) rfl rfl rfl ?_
       refine ent_value (ov_load_agg (vs := [(int .i64 (((l2.getD i14.toNat z_Api_Entry).Part).Tier)), (int .i64 (((l2.getD i14.toNat z_Api_Entry).Part).Index)), (int .i64 ((l2.getD i14.toNat z_Api_Entry).Seg)), (int .i64 ((l2.getD i14.toNat z_Api_Entry).Mark)), (int .i64 ((l2.getD i14.toNat z_Api_Entry).Rows)), (bool ((l2.getD i14.toNat z_Api_Entry).Cold))]) rfl F_agg_65 F_size_65 (reads_rd (i := 4) rfl (isRd_ownx 65) (by simp) (fl_read0 enc_Api_Entry_len (ix_lt c227 c224) rfl))) rfl rfl rfl ?_
       refine ent_op (ot_alloc F_zero_65) rfl rfl rfl ?_
       rintro _ _ ⟨b158, rfl, rfl⟩
       refine ent_op0 (ot_storeG (cs := [(int .i64 0), (int .i64 0), (int .i64 0), (int .i64 0), (int .i64 0), (bool false)]) (cs' := [(int .i64 (((l2.getD i14.toNat z_Api_Entry).Part).Tier)), (int .i64 (((l2.getD i14.toNat z_Api_Entry).Part).Index)), (int .i64 ((l2.getD i14.toNat z_Api_Entry).Seg)), (int .i64 ((l2.getD i14.toNat z_Api_Entry).Mark)), (int .i64 ((l2.getD i14.toNat z_Api_Entry).Rows)), (bool ((l2.getD i14.toNat z_Api_Entry).Cold))]) (us := [(int .i64 (((l2.getD i14.toNat z_Api_Entry).Part).Tier)), (int .i64 (((l2.getD i14.toNat z_Api_Entry).Part).Index)), (int .i64 ((l2.getD i14.toNat z_Api_Entry).Seg)), (int .i64 ((l2.getD i14.toNat z_Api_Entry).Mark)), (int .i64 ((l2.getD i14.toNat z_Api_Entry).Rows)), (bool ((l2.getD i14.toNat z_Api_Entry).Cold))]) (L' := [(box b158 65 [(int .i64 (((l2.getD i14.toNat z_Api_Entry).Part).Tier)), (int .i64 (((l2.getD i14.toNat z_Api_Entry).Part).Index)), (int .i64 ((l2.getD i14.toNat z_Api_Entry).Seg)), (int .i64 ((l2.getD i14.toNat z_Api_Entry).Mark)), (int .i64 ((l2.getD i14.toNat z_Api_Entry).Rows)), (bool ((l2.getD i14.toNat z_Api_Entry).Cold))]), (box p0 139 [(pt p1 0)]), (box p1 192 [sv0]), (own sv0 196 7 l0.length (fl enc_Omap_pair__int64__api_Entry l0)), (own sv1 63 2 l1.length (fl enc_Api_Part l1)), (own sv2 65 6 l2.length (fl enc_Api_Entry l2)), (box b108 139 [(pt b109 0)]), (box b109 192 [sv93]), (own sv93 196 7 l22.length (fl enc_Omap_pair__int64__api_Entry l22))]) 0 rfl rfl rfl (one_all rfl) F_size_65 rfl rfl (by simp) rfl) rfl rfl ?_
       rintro _ _ rfl
       refine ent_nil ?_
       refine ent_seq ?_
       refine ent_region ?_
       refine ent_value (ov_move rfl) rfl rfl rfl ?_
       refine ent_value (ov_load_agg (vs := [(int .i64 (((l2.getD i14.toNat z_Api_Entry).Part).Tier)), (int .i64 (((l2.getD i14.toNat z_Api_Entry).Part).Index)), (int .i64 ((l2.getD i14.toNat z_Api_Entry).Seg)), (int .i64 ((l2.getD i14.toNat z_Api_Entry).Mark)), (int .i64 ((l2.getD i14.toNat z_Api_Entry).Rows)), (bool ((l2.getD i14.toNat z_Api_Entry).Cold))]) rfl F_agg_65 F_size_65 (reads_boxW (i := 0) rfl)) rfl rfl rfl ?_
       obtain ⟨x189, h183, H23⟩ := Option.bind_eq_some_iff.1 H23
       refine ent_pick [6, 7, 8, 0, 1, 2, 3, 4, 5] (by decide) rfl ?_
       refine ent_op (ot_call (Lr := [(box b158 65 [(int .i64 (((l2.getD i14.toNat z_Api_Entry).Part).Tier)), (int .i64 (((l2.getD i14.toNat z_Api_Entry).Part).Index)), (int .i64 ((l2.getD i14.toNat z_Api_Entry).Seg)), (int .i64 ((l2.getD i14.toNat z_Api_Entry).Mark)), (int .i64 ((l2.getD i14.toNat z_Api_Entry).Rows)), (bool ((l2.getD i14.toNat z_Api_Entry).Cold))]), (box p0 139 [(pt p1 0)]), (box p1 192 [sv0]), (own sv0 196 7 l0.length (fl enc_Omap_pair__int64__api_Entry l0)), (own sv1 63 2 l1.length (fl enc_Api_Part l1)), (own sv2 65 6 l2.length (fl enc_Api_Entry l2))]) (first := []) (cap := []) (xs := [.tmp 53, .tmp 54]) rfl rfl F_call_84 rfl (catalog_Catalog_put_O.spec K b108 b109 sv93 l22 (((l2.getD i14.toNat z_Api_Entry).Part).Tier) (((l2.getD i14.toNat z_Api_Entry).Part).Index) ((l2.getD i14.toNat z_Api_Entry).Seg) ((l2.getD i14.toNat z_Api_Entry).Mark) ((l2.getD i14.toNat z_Api_Entry).Rows) ((l2.getD i14.toNat z_Api_Entry).Cold) _ h183) rfl) rfl rfl rfl ?_
       rintro _ _ ⟨_, ⟨sv97, rfl, rfl⟩, rfl⟩
       refine ent_value (ov_assign rfl) rfl rfl rfl ?_
       refine ent_nil ?_
       refine ent_seq ?_
       refine ent_region ?_
       refine ent_value (ov_move rfl) rfl rfl rfl ?_
       refine ent_value (ov_bin rfl rfl (b_neq _ _ _)) rfl rfl rfl ?_
       refine ent_nil ?_
       by_cases c228 : ¬ (x189.1 = 0)
       ·rw [if_pos c228] at H23
        refine ent_cond_true rfl (ne_t c228) ?_
        refine ent_seq ?_
        refine ent_region ?_
        refine ent_value (ov_move rfl) rfl rfl rfl ?_
        refine ent_value (ov_assign rfl) rfl rfl rfl ?_
        refine ent_nil ?_
        refine ent_retc ?_
        cases H23
        have H24 := Option.some.inj (show some _ = some _ from H)
        cases H24
        refine ent_pick [4, 5, 6, 7, 8] (by decide) rfl ?_
        exact ret_tmp rfl rfl ⟨_, _, rfl, rfl⟩
       ·rw [if_neg c228] at H23
        refine ent_cond_false rfl (ne_f c228) ?_
        refine ent_skip ?_
        refine ent_region ?_
        refine ent_value (ov_bin rfl rfl (b_add _ _ _) ) rfl rfl rfl ?_
        refine ent_value (ov_move rfl) rfl rfl rfl ?_
        refine ent_nil ?_
        exact ent_fin [4, 5, 6, 7, 8, 0, 1, 2] (by decide) rfl (sub_cons (t := 0) rfl (sub_cons (t := 5) rfl (sub_cons (t := 47) rfl (sub_cons (t := 48) rfl (sub_cons (t := 49) rfl (sub_nil _)))))) fun a w h => ⟨k, Nat.lt_succ_self k, _, _, _, H23, h⟩
      ·rw [if_neg c227] at H23
       cases H23
     ·rw [if_neg c224] at H23
      refine ent_cond_false rfl (decide_eq_false c224) ?_
      refine ent_exit ?_
      cases H23
      exact ent_fin [0, 1, 2, 3, 4, 5, 6, 7] (by decide) rfl (sub_cons (t := 0) rfl (sub_cons (t := 5) rfl (sub_nil _))) fun a w h => ⟨_, rfl, _, h⟩
  ·refine ent_exi fun v6 => ent_and fun e_ => ?_
   subst e_
   rw [cas_inl] at H
   refine ent_exi fun sv90 => ?_
   refine ent_seq ?_
   refine ent_region ?_
   refine ent_value (ov_move rfl) rfl rfl rfl ?_
   refine ent_value (ov_move rfl) rfl rfl rfl ?_
   refine ent_value (ov_nilCheck rfl) rfl rfl rfl ?_
   refine ent_value (ov_fieldAddr (sz := 0) (o := 0) rfl F_field_139_0 F_size_136) rfl rfl rfl ?_
   refine ent_value (ov_load (v := (pt b109 0)) rfl F_agg_136 (reads_box1 (i := 5) rfl rfl)) rfl rfl rfl ?_
   refine ent_value (ov_nilCheck rfl) rfl rfl rfl ?_
   refine ent_value (ov_fieldAddr (sz := 0) (o := 0) rfl F_field_139_0 F_size_136) rfl rfl rfl ?_
   refine ent_op0 (ot_storeG (cs := [(pt p1 0)]) (cs' := [(pt b109 0)]) (us := [(pt b109 0)]) (L' := [(box p0 139 [(pt b109 0)]), (box p1 192 [sv0]), (own sv0 196 7 l0.length (fl enc_Omap_pair__int64__api_Entry l0)), (own sv1 63 2 l1.length (fl enc_Api_Part l1)), (own sv2 65 6 l2.length (fl enc_Api_Entry l2)), (box b108 139 [(pt b109 0)]), (box b109 192 [sv90]), (own sv90 196 7 v6.length (fl enc_Omap_pair__int64__api_Entry v6))]) 0 rfl rfl rfl (one_all rfl) F_size_136 rfl rfl (by simp) rfl) rfl rfl ?_
   rintro _ _ rfl
   refine ent_nil ?_
   refine ent_seq ?_
   refine ent_region ?_
   refine ent_value (ov_assign rfl) rfl rfl rfl ?_
   refine ent_nil ?_
   refine ent_retc ?_
   cases H
   refine ent_pick [0, 6, 7, 3, 4] (by decide) rfl ?_
   exact ret_tmp rfl rfl ⟨_, _, rfl, rfl⟩

set_option maxRecDepth 100000 in
theorem omap_Map__int64__api_Entry_Len_O.spec (p0 : Nat) (sv0 : Value) (l0 : List Omap_pair__int64__api_Entry) (r : Int) (H : omap_Map__int64__api_Entry_Len_O l0 = r) : FnSpec Try.prog 97 [(pt p0 0)] [(box p0 192 [sv0]), (own sv0 196 7 l0.length (fl enc_Omap_pair__int64__api_Entry l0))] (fun v M => v = (int .i64 r) ∧ M = [(box p0 192 [sv0]), (own sv0 196 7 l0.length (fl enc_Omap_pair__int64__api_Entry l0))]) := by
 unfold omap_Map__int64__api_Entry_Len_O at H
 refine spec_of Try.func97 rfl 10 rfl (Nat.le_of_ble_eq_true rfl) fun F w0 => ?_
 show Ent (St 10 w0 F [(0, (pt p0 0))] [(box p0 192 [sv0]), (own sv0 196 7 l0.length (fl enc_Omap_pair__int64__api_Entry l0))]) _
 refine ent_seq ?_
 refine ent_region ?_
 refine ent_value (ov_assign rfl) rfl rfl rfl ?_
 refine ent_nil ?_
 refine ent_seq ?_
 refine ent_seq ?_
 refine ent_region ?_
 refine ent_value (ov_move rfl) rfl rfl rfl ?_
 refine ent_value (ov_bin rfl rfl (b_eql_of (fun w => rfl) rfl (eq_pn Try.underlying136 _ _))) rfl rfl rfl ?_
 refine ent_nil ?_
 refine ent_cond_false rfl rfl ?_
 refine ent_skip ?_
 refine ent_seq ?_
 refine ent_region ?_
 refine ent_value (ov_move rfl) rfl rfl rfl ?_
 refine ent_value (ov_nilCheck rfl) rfl rfl rfl ?_
 refine ent_value (ov_fieldAddr (sz := 0) (o := 0) rfl F_field_192_0 F_size_190) rfl rfl rfl ?_
 refine ent_value (ov_load (v := sv0) rfl F_agg_190 (reads_box1 (i := 0) rfl rfl)) rfl rfl rfl ?_
 refine ent_value (ov_len 1 rfl F_slice_190 rfl (isRd_ownx 196)) rfl rfl rfl ?_
 refine ent_value (ov_assign rfl) rfl rfl rfl ?_
 refine ent_nil ?_
 refine ent_retc ?_
 cases H
 refine ent_pick [0, 1] (by decide) rfl ?_
 exact ret_tmp rfl rfl ⟨rfl, rfl⟩

set_option maxRecDepth 100000 in
theorem catalog_Catalog_Len_O.spec (p0 : Nat) (p1 : Nat) (sv0 : Value) (l0 : List Omap_pair__int64__api_Entry) (r : Int) (H : catalog_Catalog_Len_O l0 = r) : FnSpec Try.prog 37 [(pt p0 0)] [(box p0 139 [(pt p1 0)]), (box p1 192 [sv0]), (own sv0 196 7 l0.length (fl enc_Omap_pair__int64__api_Entry l0))] (fun v M => v = (int .i64 r) ∧ M = [(box p0 139 [(pt p1 0)]), (box p1 192 [sv0]), (own sv0 196 7 l0.length (fl enc_Omap_pair__int64__api_Entry l0))]) := by
 unfold catalog_Catalog_Len_O at H
 refine spec_of Try.func37 rfl 10 rfl (Nat.le_of_ble_eq_true rfl) fun F w0 => ?_
 show Ent (St 10 w0 F [(0, (pt p0 0))] [(box p0 139 [(pt p1 0)]), (box p1 192 [sv0]), (own sv0 196 7 l0.length (fl enc_Omap_pair__int64__api_Entry l0))]) _
 refine ent_seq ?_
 refine ent_region ?_
 refine ent_value (ov_assign rfl) rfl rfl rfl ?_
 refine ent_nil ?_
 refine ent_seq ?_
 refine ent_seq ?_
 refine ent_region ?_
 refine ent_value (ov_move rfl) rfl rfl rfl ?_
 refine ent_value (ov_bin rfl rfl (b_eql_of (fun w => rfl) rfl (eq_pn Try.underlying51 _ _))) rfl rfl rfl ?_
 refine ent_nil ?_
 refine ent_cond_false rfl rfl ?_
 refine ent_skip ?_
 refine ent_seq ?_
 refine ent_region ?_
 refine ent_value (ov_move rfl) rfl rfl rfl ?_
 refine ent_value (ov_nilCheck rfl) rfl rfl rfl ?_
 refine ent_value (ov_fieldAddr (sz := 0) (o := 0) rfl F_field_139_0 F_size_136) rfl rfl rfl ?_
 refine ent_value (ov_load (v := (pt p1 0)) rfl F_agg_136 (reads_box1 (i := 0) rfl rfl)) rfl rfl rfl ?_
 obtain ⟨x2, h2, H⟩ := thn_elim H
 refine ent_op (ot_call_same (Lr := [(box p0 139 [(pt p1 0)])]) [1, 2, 0] [2, 0, 1] (first := []) (cap := []) (xs := [.tmp 8]) rfl rfl F_call_97 rfl (omap_Map__int64__api_Entry_Len_O.spec p1 sv0 l0 _ h2) (by decide) rfl (by decide) rfl) rfl rfl rfl ?_
 rintro _ _ ⟨rfl, rfl⟩
 refine ent_value (ov_assign rfl) rfl rfl rfl ?_
 refine ent_nil ?_
 refine ent_retc ?_
 cases H
 refine ent_pick [0, 1, 2] (by decide) rfl ?_
 exact ret_tmp rfl rfl ⟨rfl, rfl⟩

end Go.Proofs.Ythdggcleffadeaa.CatalogEach
