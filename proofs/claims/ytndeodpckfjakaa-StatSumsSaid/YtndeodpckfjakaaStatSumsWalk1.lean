/- Printed by gen.py: that the machine's calls do what the plain functions of StatSums say. -/
import Derived.Test.YtndeodpckfjakaaStatSumsWalk0
import Derived.Test.YtndeodpckfjakaaESq
import Derived.Test.YtndeodpckfjakaaProg
import Derived.Test.YtndeodpckfjakaaEBun
import Derived.Test.YtndeodpckfjakaaERange
import Derived.Test.YtndeodpckfjakaaEMake
import Derived.Test.YtndeodpckfjakaaEJag
import Derived.Test.YtndeodpckfjakaaEInsert
import Derived.Test.YtndeodpckfjakaaStatSumsPure
set_option linter.unusedVariables false
set_option linter.unusedSimpArgs false
set_option maxHeartbeats 8000000
set_option maxRecDepth 100000
namespace Go.Proofs.Ytndeodpckfjakaa.StatSums
open Go Go.RowKit E
open Go.Value (int bool slice agg)

theorem slices_Insert____omap_pair__string___int__omap_pair__string___int.spec (sv0 sv1 : Value) (l0 : List Omap_pair__string___int) (a1 : Int) (l1 : List Omap_pair__string___int) (r : List Omap_pair__string___int) (H : slices_Insert____omap_pair__string___int__omap_pair__string___int l0 a1 l1 = some r) : FnSpec Try.prog 116 [sv0,I a1,sv1] [own sv0 174 2 l0.length (fl enc_Omap_pair__string___int l0),own sv1 174 2 l1.length (fl enc_Omap_pair__string___int l1)] (fun v M => ∃ sv2 : Value,v = sv2 ∧ M = [own sv2 174 2 r.length (fl enc_Omap_pair__string___int r),own sv1 174 2 l1.length (fl enc_Omap_pair__string___int l1)]) := by
 obtain ⟨i,y,rfl,rfl,hin,hroom,rfl⟩ := insL_inv H
 have hbig : l0.length + 1 ≤ 140737488355328 := by omega
 have hml : maxLen = 9223372036854775807 := rfl
 have hfy : (fl enc_Omap_pair__string___int [y]).length = 2 := by rw [fl_length enc_Omap_pair__string___int_len]; simp
 have hfd : (fl enc_Omap_pair__string___int (l0.drop i)).length = (l0.length - i) * 2 := by rw [fl_length enc_Omap_pair__string___int_len]; simp
 refine spec_of Try.func116 rfl 95 rfl (Nat.le_of_ble_eq_true rfl) fun F w0 => ?_
 show Ent (St 95 w0 F [(0,sv0),(1,I (i : Int)),(2,sv1)] [own sv0 174 2 l0.length (fl enc_Omap_pair__string___int l0),own sv1 174 2 ([y] : List Omap_pair__string___int).length (fl enc_Omap_pair__string___int [y])]) _
 refine ent_seq (ent_region (ent_value (ov_assign rfl) rfl rfl rfl (ent_nil (ent_seq (ent_region (ent_value (ov_move rfl) rfl rfl rfl (ent_value (ov_move rfl) rfl rfl rfl ?_)))))))
 by_cases c1 : 0 ≤ (((i) : Nat) : Int)
 ·by_cases c2 : (((i) : Nat) : Int) ≤ (l0.length : Int)
  ·refine ent_value (ov_slice_lo 0 rfl rfl F_slice_175 F_size_174 rfl (isRd_ownx 174) c1 c2) rfl rfl rfl (ent_nil (ent_seq (ent_region (ent_value (ov_move rfl) rfl rfl rfl (ent_value (ov_len (m := 1) 1 rfl F_slice_175 rfl (isRd_ownx 174)) rfl rfl rfl (ent_value (ov_assign rfl) rfl rfl rfl (ent_nil (ent_seq (ent_seq (ent_region (ent_value (ov_move rfl) rfl rfl rfl ?_)))))))))))
   refine ent_value (ov_bin rfl rfl (b_eql _ _ _)) rfl rfl rfl (ent_nil (ent_cond_false rfl rfl (ent_skip (ent_seq (ent_region (ent_value (ov_move rfl) rfl rfl rfl (ent_value (ov_len 0 rfl F_slice_175 rfl (isRd_ownx 174)) rfl rfl rfl (ent_value (ov_assign rfl) rfl rfl rfl (ent_nil (ent_seq (ent_seq ?_)))))))))))
   refine ent_region (ent_value (ov_move rfl) rfl rfl rfl (ent_value (ov_move rfl) rfl rfl rfl (ent_value (ov_bin rfl rfl (b_eql _ _ _)) rfl rfl rfl (ent_nil ?_))))
   by_cases c3 : (((i) : Nat) : Int) = (l0.length : Int)
   ·refine ent_cond_true rfl (eq_t c3) (ent_seq (ent_region (ent_value (ov_move rfl) rfl rfl rfl (ent_value (ov_move rfl) rfl rfl rfl ?_))))
    by_cases c4 : (l0.length + [y].length) * 24 ≤ 140737488355328
    ·refine ent_op (ot_appendx (sz := 1) (xs := l0) (ys := [y]) 0 1 rfl rfl F_slice_175 F_size_174 F_zero_174 rfl F_bytes_174 rfl rfl rfl (isRd_ownx 174) rfl enc_Omap_pair__string___int_one c4) rfl rfl rfl ?_
     rintro sv2 _ rfl
     refine ent_L [own sv2 174 2 (l0 ++ [y]).length (fl enc_Omap_pair__string___int (l0 ++ [y])),own sv1 174 2 [y].length (fl enc_Omap_pair__string___int [y])] rfl ?_
     refine ent_value (ov_assign rfl) rfl rfl rfl (ent_nil (ent_retc ?_))
     have e_ : l0.insertIdx i y = l0 ++ [y] := by
      have e2_ : i = l0.length := by omega
      rw [e2_]; exact ins_end l0 y
     rw [e_]
     refine ent_pick [0,1] (by decide) rfl ?_
     exact ret_tmp rfl rfl ⟨_,rfl,rfl⟩
    ·first | omega | (simp only [List.length_cons,List.length_nil] at *; omega)
   ·refine ent_cond_false rfl (eq_f c3) (ent_skip (ent_seq (ent_seq (ent_region (ent_value (ov_move rfl) rfl rfl rfl (ent_value (ov_move rfl) rfl rfl rfl (ent_value (ov_binL (m' := (((l0.length + 1) : Nat) : Int)) rfl rfl (b_add _ _ _) (by rewrite [IntKind.wrap_i64]; omega)) rfl rfl rfl (ent_value (ov_move rfl) rfl rfl rfl ?_))))))))
    refine ent_open 0 rfl (by omega) ?_
    rintro b1 cap1 cur1 rfl hx1 hx2 hx3 hx4
    refine ent_open 1 rfl (Nat.zero_lt_one) ?_
    rintro b2 cap2 cur2 rfl hx5 hx6 hx7 hx8
    let C2_ : List HP := [box b1 174 (cur1.take (0 + (i + 1) * 2) ++ (fl enc_Omap_pair__string___int (l0.drop i)) ++ cur1.drop (0 + (i + 1) * 2 + (fl enc_Omap_pair__string___int (l0.drop i)).length)),box b2 174 cur2]
    refine ent_L [box b1 174 cur1,box b2 174 cur2] rfl ?_
    refine ent_value (ov_cap rfl F_slice_175) rfl rfl rfl (ent_value (ov_bin rfl rfl (b_gtr _ _ _)) rfl rfl rfl (ent_nil ?_))
    by_cases c5 : (((cap1) : Nat) : Int) < (((l0.length + 1) : Nat) : Int)
    ·refine ent_cond_true rfl (decide_eq_true c5) (ent_seq (ent_region (ent_value (ov_move rfl) rfl rfl rfl (ent_value (ov_move rfl) rfl rfl rfl (ent_value (ov_sliceHi (h := i) rfl rfl (by omega) F_slice_175 F_size_174 (by omega)) rfl rfl rfl (ent_value (ov_move rfl) rfl rfl rfl (ent_value (ov_move rfl) rfl rfl rfl (ent_value (ov_binL (m' := (((l0.length + 1) : Nat) : Int)) rfl rfl (b_add _ _ _) (by rewrite [IntKind.wrap_i64]; omega)) rfl rfl rfl (ent_value (ov_move rfl) rfl rfl rfl (ent_value (ov_binL (m' := (((l0.length + 1 - i) : Nat) : Int)) rfl rfl (b_sub _ _ _) (by rewrite [IntKind.wrap_i64]; omega)) rfl rfl rfl ?_))))))))))
     refine ent_op (ot_appendMake (m := l0.length + 1) 0 rfl rfl (j := (((l0.length + 1 - i) : Nat) : Int)) (k := l0.length + 1 - i) rfl F_slice_175 Try.underlying3 F_size_174 F_zero_174 rfl F_bytes_174 rfl rfl hx3 (by omega) (by omega) (by omega) (by omega) hroom) rfl rfl rfl ?_
     rintro _ _ ⟨b3,cap3,row1,rfl,rfl,hx9,hx10,hx11,hx12⟩
     let C1_ : List HP := [box b3 174 (row1.take (0 + (i) * 2) ++ (fl enc_Omap_pair__string___int [y]) ++ row1.drop (0 + (i) * 2 + (fl enc_Omap_pair__string___int [y]).length)),box b1 174 cur1,box b2 174 cur2]
     let C0_ : List HP := [box b3 174 ((row1.take (0 + (i) * 2) ++ (fl enc_Omap_pair__string___int [y]) ++ row1.drop (0 + (i) * 2 + (fl enc_Omap_pair__string___int [y]).length)).take (0 + (i + 1) * 2) ++ (fl enc_Omap_pair__string___int (l0.drop i)) ++ (row1.take (0 + (i) * 2) ++ (fl enc_Omap_pair__string___int [y]) ++ row1.drop (0 + (i) * 2 + (fl enc_Omap_pair__string___int [y]).length)).drop (0 + (i + 1) * 2 + (fl enc_Omap_pair__string___int (l0.drop i)).length)),box b1 174 cur1,box b2 174 cur2]
     refine ent_value (ov_assign rfl) rfl rfl rfl (ent_nil (ent_seq (ent_region (ent_value (ov_move rfl) rfl rfl rfl (ent_value (ov_move rfl) rfl rfl rfl (ent_value (ov_sliceLo (l := i) rfl rfl (by omega) F_slice_175 F_size_174 (by omega) (by omega) (by omega)) rfl rfl rfl (ent_value (ov_move rfl) rfl rfl rfl ?_)))))))
     refine ent_op (ot_copy (L' := C1_) (cs := (fl enc_Omap_pair__string___int [y])) 0 2 rfl rfl F_slice_175 F_size_174 rfl rfl (ins_one enc_Omap_pair__string___int_len hx8) (ins_min (k := 1) (Nat.le_refl 1) (by omega) (.inl rfl) (by omega)) (by simp only [C2_,C1_,C0_,List.length_append,List.length_take,List.length_drop,hfy,hfd]; omega) (one_fl enc_Omap_pair__string___int_one _) rfl) rfl rfl rfl ?_
     rintro _ _ ⟨rfl,rfl⟩
     refine ent_nil (ent_seq ?_)
     let Z1_A : (Nat → Bool) → Act → World → Prop := (fun done a w => StD 95 w0 F [(0,slice (some ⟨b1,0,none⟩) (l0.length) (cap1)),(1,I (((i) : Nat) : Int)),(2,slice (some ⟨b2,0,none⟩) (1) (cap2)),(6,L0),(7,I 1),(8,I (l0.length : Int)),(9,slice (some ⟨b3,0,none⟩) (l0.length + 1) (cap3)),(10,slice (some ⟨b1,0,none⟩) (l0.length) (cap1)),(11,I (((i) : Nat) : Int)),(12,(subs (slice (some ⟨b1,0,none⟩) (l0.length) (cap1)) (((i) : Nat) : Int).toNat l0.length 2)),(13,slice (some ⟨b2,0,none⟩) (1) (cap2)),(14,I 1),(15,I 1),(16,B0),(18,slice (some ⟨b1,0,none⟩) (l0.length) (cap1)),(19,I (l0.length : Int)),(20,I (((i) : Nat) : Int)),(21,I (l0.length : Int)),(22,bool ((((i) : Nat) : Int) == (l0.length : Int))),(26,I (l0.length : Int)),(27,I 1),(28,I (((l0.length + 1) : Nat) : Int)),(29,slice (some ⟨b1,0,none⟩) (l0.length) (cap1)),(30,I (((cap1) : Nat) : Int)),(31,Value.bool (decide ((((cap1) : Nat) : Int) < (((l0.length + 1) : Nat) : Int)))),(32,slice (some ⟨b1,0,none⟩) (l0.length) (cap1)),(33,I (((i) : Nat) : Int)),(34,slice (some ⟨b1,0,none⟩) (i) (cap1)),(35,I (l0.length : Int)),(36,I 1),(37,I (((l0.length + 1) : Nat) : Int)),(38,I (((i) : Nat) : Int)),(39,I (((l0.length + 1 - i) : Nat) : Int)),(40,slice (some ⟨b3,0,none⟩) (l0.length + 1) (cap3)),(41,slice (some ⟨b3,0,none⟩) (l0.length + 1) (cap3)),(42,I (((i) : Nat) : Int)),(43,slice (some ⟨b3,0 + (i) * 2,none⟩) (l0.length + 1 - (i)) (cap3 - (i))),(44,slice (some ⟨b2,0,none⟩) (1) (cap2)),(45,(goInt (Nat.min (1) (l0.length + 1 - (i)))))] [(0,46,slice (some ⟨b3,0,none⟩) (l0.length + 1) (cap3)),(1,47,I (((i) : Nat) : Int)),(2,48,I 1),(3,49,I (((i + 1) : Nat) : Int)),(4,50,slice (some ⟨b3,0 + (i + 1) * 2,none⟩) (l0.length + 1 - (i + 1)) (cap3 - (i + 1))),(5,51,slice (some ⟨b1,0,none⟩) (l0.length) (cap1)),(6,52,I (((i) : Nat) : Int)),(7,53,slice (some ⟨b1,0 + (i) * 2,none⟩) (l0.length - (i)) (cap1 - (i)))] done C1_ a w)
     let Z1_B : Act → World → Prop := (fun a w => St 95 w0 F [(0,slice (some ⟨b1,0,none⟩) (l0.length) (cap1)),(1,I (((i) : Nat) : Int)),(2,slice (some ⟨b2,0,none⟩) (1) (cap2)),(6,L0),(7,I 1),(8,I (l0.length : Int)),(9,slice (some ⟨b3,0,none⟩) (l0.length + 1) (cap3)),(10,slice (some ⟨b1,0,none⟩) (l0.length) (cap1)),(11,I (((i) : Nat) : Int)),(12,(subs (slice (some ⟨b1,0,none⟩) (l0.length) (cap1)) (((i) : Nat) : Int).toNat l0.length 2)),(13,slice (some ⟨b2,0,none⟩) (1) (cap2)),(14,I 1),(15,I 1),(16,B0),(18,slice (some ⟨b1,0,none⟩) (l0.length) (cap1)),(19,I (l0.length : Int)),(20,I (((i) : Nat) : Int)),(21,I (l0.length : Int)),(22,bool ((((i) : Nat) : Int) == (l0.length : Int))),(26,I (l0.length : Int)),(27,I 1),(28,I (((l0.length + 1) : Nat) : Int)),(29,slice (some ⟨b1,0,none⟩) (l0.length) (cap1)),(30,I (((cap1) : Nat) : Int)),(31,Value.bool (decide ((((cap1) : Nat) : Int) < (((l0.length + 1) : Nat) : Int)))),(32,slice (some ⟨b1,0,none⟩) (l0.length) (cap1)),(33,I (((i) : Nat) : Int)),(34,slice (some ⟨b1,0,none⟩) (i) (cap1)),(35,I (l0.length : Int)),(36,I 1),(37,I (((l0.length + 1) : Nat) : Int)),(38,I (((i) : Nat) : Int)),(39,I (((l0.length + 1 - i) : Nat) : Int)),(40,slice (some ⟨b3,0,none⟩) (l0.length + 1) (cap3)),(41,slice (some ⟨b3,0,none⟩) (l0.length + 1) (cap3)),(42,I (((i) : Nat) : Int)),(43,slice (some ⟨b3,0 + (i) * 2,none⟩) (l0.length + 1 - (i)) (cap3 - (i))),(44,slice (some ⟨b2,0,none⟩) (1) (cap2)),(45,(goInt (Nat.min (1) (l0.length + 1 - (i))))),(46,slice (some ⟨b3,0,none⟩) (l0.length + 1) (cap3)),(47,I (((i) : Nat) : Int)),(48,I 1),(49,I (((i + 1) : Nat) : Int)),(50,slice (some ⟨b3,0 + (i + 1) * 2,none⟩) (l0.length + 1 - (i + 1)) (cap3 - (i + 1))),(51,slice (some ⟨b1,0,none⟩) (l0.length) (cap1)),(52,I (((i) : Nat) : Int)),(53,slice (some ⟨b1,0 + (i) * 2,none⟩) (l0.length - (i)) (cap1 - (i))),(54,(goInt (Nat.min (l0.length - (i)) (l0.length + 1 - (i + 1)))))] C0_ a w)
     refine ent_drawm 9 rfl (two 8 Z1_A Z1_B) (by kernel_rfl) (by kernel_rfl) (two_start (draw_startL (sub_cons (t := 0) rfl (sub_cons (t := 1) rfl (sub_cons (t := 2) rfl (sub_cons (t := 6) rfl (sub_cons (t := 7) rfl (sub_cons (t := 8) rfl (sub_cons (t := 9) rfl (sub_cons (t := 10) rfl (sub_cons (t := 11) rfl (sub_cons (t := 12) rfl (sub_cons (t := 13) rfl (sub_cons (t := 14) rfl (sub_cons (t := 15) rfl (sub_cons (t := 16) rfl (sub_cons (t := 18) rfl (sub_cons (t := 19) rfl (sub_cons (t := 20) rfl (sub_cons (t := 21) rfl (sub_cons (t := 22) rfl (sub_cons (t := 26) rfl (sub_cons (t := 27) rfl (sub_cons (t := 28) rfl (sub_cons (t := 29) rfl (sub_cons (t := 30) rfl (sub_cons (t := 31) rfl (sub_cons (t := 32) rfl (sub_cons (t := 33) rfl (sub_cons (t := 34) rfl (sub_cons (t := 35) rfl (sub_cons (t := 36) rfl (sub_cons (t := 37) rfl (sub_cons (t := 38) rfl (sub_cons (t := 39) rfl (sub_cons (t := 40) rfl (sub_cons (t := 41) rfl (sub_cons (t := 42) rfl (sub_cons (t := 43) rfl (sub_cons (t := 44) rfl (sub_cons (t := 45) rfl (sub_nil _)))))))))))))))))))))))))))))))))))))))) rfl)) ?_ ?_
     ·refine ⟨?_,?_,?_,?_,?_,?_,?_,?_,?_,trivial⟩
      ·intro done hi hc hcu
       have n4 : done 4 = false := notdone_of (m := 4) hc hi rfl rfl
       have n8 : done 8 = false := notdone_of (m := 8) hc n4 rfl rfl
       refine two_step (m := 8) (A := Z1_A) n8 rfl ?_
       exact draw_value (i := 0) (t := 46) (v := (slice (some ⟨b3,0,none⟩) (l0.length + 1) (cap3))) rfl rfl (wanted_none rfl) (fun a => hasA_base) (ov_move rfl) rfl rfl (onlyT_spec (k0 := 0) rfl rfl rfl)
      ·intro done hi hc hcu
       have n3 : done 3 = false := notdone_of (m := 3) hc hi rfl rfl
       have n4 : done 4 = false := notdone_of (m := 4) hc n3 rfl rfl
       have n8 : done 8 = false := notdone_of (m := 8) hc n4 rfl rfl
       refine two_step (m := 8) (A := Z1_A) n8 rfl ?_
       exact draw_value (i := 1) (t := 47) (v := (I (((i) : Nat) : Int))) rfl rfl (wanted_none rfl) (fun a => hasA_base) (ov_move rfl) rfl rfl (onlyT_spec (k0 := 1) rfl rfl rfl)
      ·intro done hi hc hcu
       have n3 : done 3 = false := notdone_of (m := 3) hc hi rfl rfl
       have n4 : done 4 = false := notdone_of (m := 4) hc n3 rfl rfl
       have n8 : done 8 = false := notdone_of (m := 8) hc n4 rfl rfl
       refine two_step (m := 8) (A := Z1_A) n8 rfl ?_
       exact draw_value (i := 2) (t := 48) (v := (I 1)) rfl rfl (wanted_none rfl) (fun a => hasA_base) (ov_move rfl) rfl rfl (onlyT_spec (k0 := 2) rfl rfl rfl)
      ·intro done hi hc hcu
       have n4 : done 4 = false := notdone_of (m := 4) hc hi rfl rfl
       have n8 : done 8 = false := notdone_of (m := 8) hc n4 rfl rfl
       refine two_step (m := 8) (A := Z1_A) n8 rfl ?_
       have d1 : done 1 = true := done_of (j := 1) hcu rfl (by decide) rfl
       have d2 : done 2 = true := done_of (j := 2) hcu rfl (by decide) rfl
       exact draw_value (i := 3) (t := 49) (v := (I (((i + 1) : Nat) : Int))) rfl rfl (wanted_none rfl) (fun a => (hasA_cons (k := 2) rfl d2 (hasA_cons (k := 1) rfl d1 hasA_base))) (ov_binL (m' := (((i + 1) : Nat) : Int)) rfl rfl (b_add _ _ _) (by rewrite [IntKind.wrap_i64]; omega)) rfl rfl (onlyT_spec (k0 := 3) rfl rfl rfl)
      ·intro done hi hc hcu
       have n8 : done 8 = false := notdone_of (m := 8) hc hi rfl rfl
       refine two_step (m := 8) (A := Z1_A) n8 rfl ?_
       have d0 : done 0 = true := done_of (j := 0) hcu rfl (by decide) rfl
       have d3 : done 3 = true := done_of (j := 3) hcu rfl (by decide) rfl
       exact draw_value (i := 4) (t := 50) (v := (slice (some ⟨b3,0 + (i + 1) * 2,none⟩) (l0.length + 1 - (i + 1)) (cap3 - (i + 1)))) rfl rfl (wanted_none rfl) (fun a => (hasA_cons (k := 3) rfl d3 (hasA_cons (k := 0) rfl d0 hasA_base))) (ov_sliceLo (l := i + 1) rfl rfl (by omega) F_slice_175 F_size_174 (by omega) (by omega) (by omega)) rfl rfl (onlyT_spec (k0 := 4) rfl rfl rfl)
      ·intro done hi hc hcu
       have n7 : done 7 = false := notdone_of (m := 7) hc hi rfl rfl
       have n8 : done 8 = false := notdone_of (m := 8) hc n7 rfl rfl
       refine two_step (m := 8) (A := Z1_A) n8 rfl ?_
       exact draw_value (i := 5) (t := 51) (v := (slice (some ⟨b1,0,none⟩) (l0.length) (cap1))) rfl rfl (wanted_none rfl) (fun a => hasA_base) (ov_move rfl) rfl rfl (onlyT_spec (k0 := 5) rfl rfl rfl)
      ·intro done hi hc hcu
       have n7 : done 7 = false := notdone_of (m := 7) hc hi rfl rfl
       have n8 : done 8 = false := notdone_of (m := 8) hc n7 rfl rfl
       refine two_step (m := 8) (A := Z1_A) n8 rfl ?_
       exact draw_value (i := 6) (t := 52) (v := (I (((i) : Nat) : Int))) rfl rfl (wanted_none rfl) (fun a => hasA_base) (ov_move rfl) rfl rfl (onlyT_spec (k0 := 6) rfl rfl rfl)
      ·intro done hi hc hcu
       have n8 : done 8 = false := notdone_of (m := 8) hc hi rfl rfl
       refine two_step (m := 8) (A := Z1_A) n8 rfl ?_
       have d5 : done 5 = true := done_of (j := 5) hcu rfl (by decide) rfl
       have d6 : done 6 = true := done_of (j := 6) hcu rfl (by decide) rfl
       exact draw_value (i := 7) (t := 53) (v := (slice (some ⟨b1,0 + (i) * 2,none⟩) (l0.length - (i)) (cap1 - (i)))) rfl rfl (wanted_none rfl) (fun a => (hasA_cons (k := 6) rfl d6 (hasA_cons (k := 5) rfl d5 hasA_base))) (ov_sliceLo (l := i) rfl rfl (by omega) F_slice_175 F_size_174 (by omega) (by omega) (by omega)) rfl rfl (onlyT_spec (k0 := 7) rfl rfl rfl)
      ·intro done hi hc hcu
       refine two_last (m := 8) (A := Z1_A) (B := Z1_B) hi ?_
       have d4 : done 4 = true := done_of (j := 4) hcu rfl (by decide) rfl
       have d7 : done 7 = true := done_of (j := 7) hcu rfl (by decide) rfl
       have d6 : done 6 = true := done_step (i := 7) (j := 6) hc d7 rfl rfl
       have d5 : done 5 = true := done_step (i := 7) (j := 5) hc d7 rfl rfl
       have d3 : done 3 = true := done_step (i := 4) (j := 3) hc d4 rfl rfl
       have d2 : done 2 = true := done_step (i := 3) (j := 2) hc d3 rfl rfl
       have d1 : done 1 = true := done_step (i := 3) (j := 1) hc d3 rfl rfl
       have d0 : done 0 = true := done_step (i := 4) (j := 0) hc d4 rfl rfl
       refine draw_endL C1_ rfl (fun a => (hasA_cons (k := 0) rfl d0 (hasA_cons (k := 1) rfl d1 (hasA_cons (k := 2) rfl d2 (hasA_cons (k := 3) rfl d3 (hasA_cons (k := 4) rfl d4 (hasA_cons (k := 5) rfl d5 (hasA_cons (k := 6) rfl d6 (hasA_cons (k := 7) rfl d7 hasA_base))))))))) ?_
       refine last_op rfl rfl rfl rfl (ot_copy (L' := C0_) (cs := (fl enc_Omap_pair__string___int (l0.drop i))) 0 1 rfl rfl F_slice_175 F_size_174 rfl rfl (ins_rest enc_Omap_pair__string___int_len (by omega) hx4 (by omega)) (ins_min (k := l0.length - i) (by omega) (by omega) (by omega) hfd) (by simp only [C2_,C1_,C0_,List.length_append,List.length_take,List.length_drop,hfy,hfd]; omega) (one_fl enc_Omap_pair__string___int_one _) rfl) ?_
       rintro _ _ ⟨rfl,rfl⟩
       exact ent_fin [0,1,2] (by decide) rfl (sub_cons (t := 0) rfl (sub_cons (t := 1) rfl (sub_cons (t := 2) rfl (sub_cons (t := 6) rfl (sub_cons (t := 7) rfl (sub_cons (t := 8) rfl (sub_cons (t := 9) rfl (sub_cons (t := 10) rfl (sub_cons (t := 11) rfl (sub_cons (t := 12) rfl (sub_cons (t := 13) rfl (sub_cons (t := 14) rfl (sub_cons (t := 15) rfl (sub_cons (t := 16) rfl (sub_cons (t := 18) rfl (sub_cons (t := 19) rfl (sub_cons (t := 20) rfl (sub_cons (t := 21) rfl (sub_cons (t := 22) rfl (sub_cons (t := 26) rfl (sub_cons (t := 27) rfl (sub_cons (t := 28) rfl (sub_cons (t := 29) rfl (sub_cons (t := 30) rfl (sub_cons (t := 31) rfl (sub_cons (t := 32) rfl (sub_cons (t := 33) rfl (sub_cons (t := 34) rfl (sub_cons (t := 35) rfl (sub_cons (t := 36) rfl (sub_cons (t := 37) rfl (sub_cons (t := 38) rfl (sub_cons (t := 39) rfl (sub_cons (t := 40) rfl (sub_cons (t := 41) rfl (sub_cons (t := 42) rfl (sub_cons (t := 43) rfl (sub_cons (t := 44) rfl (sub_cons (t := 45) rfl (sub_cons (t := 46) rfl (sub_cons (t := 47) rfl (sub_cons (t := 48) rfl (sub_cons (t := 49) rfl (sub_cons (t := 50) rfl (sub_cons (t := 51) rfl (sub_cons (t := 52) rfl (sub_cons (t := 53) rfl (sub_cons (t := 54) rfl (sub_nil _))))))))))))))))))))))))))))))))))))))))))))))))) fun a w h => h
     ·intro done hall
      refine two_end (A := Z1_A) (B := Z1_B) (hall 8 (by decide)) ?_
      refine ent_seq (ent_region (ent_value (ov_move rfl) rfl rfl rfl (ent_value (ov_assign rfl) rfl rfl rfl (ent_nil (ent_retc ?_)))))
      have hpre : cur1.take (i * 2) = (fl enc_Omap_pair__string___int l0).take (i * 2) := by
       rw [← hx4,List.take_take,Nat.min_eq_left (by omega)]
      refine ent_pick [0,2] (by decide) rfl ?_
      refine ent_conv 0 _ (own (slice (some ⟨b3,0,none⟩) (l0.length + 1) (cap3)) 174 2 (l0.insertIdx i y).length (fl enc_Omap_pair__string___int (l0.insertIdx i y))) rfl (ins_close1 enc_Omap_pair__string___int_len (row := row1) (i := i) (v := y) (by omega) hx9 hx10 hx11 (hx12.trans hpre) (by omega) (by omega) rfl) rfl ?_
      refine ent_conv 1 _ (own (slice (some ⟨b2,0,none⟩) ([y] : List _).length (cap2)) 174 2 ([y] : List _).length (fl enc_Omap_pair__string___int [y])) rfl (fun o s h => own_close h hx5 hx6 hx7 hx8) rfl ?_
      exact ret_tmp rfl rfl ⟨_,rfl,rfl⟩
    ·refine ent_cond_false rfl (decide_eq_false c5) (ent_skip (ent_seq (ent_region (ent_value (ov_move rfl) rfl rfl rfl (ent_value (ov_move rfl) rfl rfl rfl (ent_value (ov_move rfl) rfl rfl rfl (ent_value (ov_binL (m' := (((l0.length + 1) : Nat) : Int)) rfl rfl (b_add _ _ _) (by rewrite [IntKind.wrap_i64]; omega)) rfl rfl rfl (ent_value (ov_sliceHi (h := l0.length + 1) rfl rfl (by omega) F_slice_175 F_size_174 (by omega)) rfl rfl rfl (ent_value (ov_assign rfl) rfl rfl rfl (ent_nil (ent_seq ?_)))))))))))
     refine ent_seq (ent_region (ent_value (ov_move rfl) rfl rfl rfl (ent_value (ov_move rfl) rfl rfl rfl (ent_value (ov_move rfl) rfl rfl rfl (ent_value (ov_move rfl) rfl rfl rfl (ent_value (ov_binL (m' := (((i + 1) : Nat) : Int)) rfl rfl (b_add _ _ _) (by rewrite [IntKind.wrap_i64]; omega)) rfl rfl rfl (ent_value (ov_sliceLo (l := i + 1) rfl rfl (by omega) F_slice_175 F_size_174 (by omega) (by omega) (by omega)) rfl rfl rfl ?_)))))))
     refine ent_op (ot_overlaps (tr := 4) 0 1 rfl rfl (show Try.prog.funcs[140]? = some Try.f140 from Try.func140) (by kernel_rfl) (by kernel_rfl) (by kernel_rfl) (by kernel_rfl) F_slice_175 F_size_174 rfl rfl rfl (by omega)) rfl rfl rfl ?_
     rintro _ _ ⟨rfl,rfl⟩
     refine ent_value (ov_un rfl (u_not _)) rfl rfl rfl (ent_nil (ent_cond_true rfl rfl (ent_seq ?_)))
     let Z2_A : (Nat → Bool) → Act → World → Prop := (fun done a w => StD 95 w0 F [(0,slice (some ⟨b1,0,none⟩) (l0.length + 1) (cap1)),(1,I (((i) : Nat) : Int)),(2,slice (some ⟨b2,0,none⟩) (1) (cap2)),(6,L0),(7,I 1),(8,I (l0.length : Int)),(10,slice (some ⟨b1,0,none⟩) (l0.length) (cap1)),(11,I (((i) : Nat) : Int)),(12,(subs (slice (some ⟨b1,0,none⟩) (l0.length) (cap1)) (((i) : Nat) : Int).toNat l0.length 2)),(13,slice (some ⟨b2,0,none⟩) (1) (cap2)),(14,I 1),(15,I 1),(16,B0),(18,slice (some ⟨b1,0,none⟩) (l0.length) (cap1)),(19,I (l0.length : Int)),(20,I (((i) : Nat) : Int)),(21,I (l0.length : Int)),(22,bool ((((i) : Nat) : Int) == (l0.length : Int))),(26,I (l0.length : Int)),(27,I 1),(28,I (((l0.length + 1) : Nat) : Int)),(29,slice (some ⟨b1,0,none⟩) (l0.length) (cap1)),(30,I (((cap1) : Nat) : Int)),(31,Value.bool (decide ((((cap1) : Nat) : Int) < (((l0.length + 1) : Nat) : Int)))),(56,slice (some ⟨b1,0,none⟩) (l0.length) (cap1)),(57,I (l0.length : Int)),(58,I 1),(59,I (((l0.length + 1) : Nat) : Int)),(60,slice (some ⟨b1,0,none⟩) (l0.length + 1) (cap1)),(61,slice (some ⟨b2,0,none⟩) (1) (cap2)),(62,slice (some ⟨b1,0,none⟩) (l0.length + 1) (cap1)),(63,I (((i) : Nat) : Int)),(64,I 1),(65,I (((i + 1) : Nat) : Int)),(66,slice (some ⟨b1,0 + (i + 1) * 2,none⟩) (l0.length + 1 - (i + 1)) (cap1 - (i + 1))),(67,B0),(68,bool true)] [(0,69,slice (some ⟨b1,0,none⟩) (l0.length + 1) (cap1)),(1,70,I (((i) : Nat) : Int)),(2,71,I 1),(3,72,I (((i + 1) : Nat) : Int)),(4,73,slice (some ⟨b1,0 + (i + 1) * 2,none⟩) (l0.length + 1 - (i + 1)) (cap1 - (i + 1))),(5,74,slice (some ⟨b1,0,none⟩) (l0.length + 1) (cap1)),(6,75,I (((i) : Nat) : Int)),(7,76,slice (some ⟨b1,0 + (i) * 2,none⟩) (l0.length + 1 - (i)) (cap1 - (i)))] done [box b1 174 cur1,box b2 174 cur2] a w)
     let Z2_B : Act → World → Prop := (fun a w => St 95 w0 F [(0,slice (some ⟨b1,0,none⟩) (l0.length + 1) (cap1)),(1,I (((i) : Nat) : Int)),(2,slice (some ⟨b2,0,none⟩) (1) (cap2)),(6,L0),(7,I 1),(8,I (l0.length : Int)),(10,slice (some ⟨b1,0,none⟩) (l0.length) (cap1)),(11,I (((i) : Nat) : Int)),(12,(subs (slice (some ⟨b1,0,none⟩) (l0.length) (cap1)) (((i) : Nat) : Int).toNat l0.length 2)),(13,slice (some ⟨b2,0,none⟩) (1) (cap2)),(14,I 1),(15,I 1),(16,B0),(18,slice (some ⟨b1,0,none⟩) (l0.length) (cap1)),(19,I (l0.length : Int)),(20,I (((i) : Nat) : Int)),(21,I (l0.length : Int)),(22,bool ((((i) : Nat) : Int) == (l0.length : Int))),(26,I (l0.length : Int)),(27,I 1),(28,I (((l0.length + 1) : Nat) : Int)),(29,slice (some ⟨b1,0,none⟩) (l0.length) (cap1)),(30,I (((cap1) : Nat) : Int)),(31,Value.bool (decide ((((cap1) : Nat) : Int) < (((l0.length + 1) : Nat) : Int)))),(56,slice (some ⟨b1,0,none⟩) (l0.length) (cap1)),(57,I (l0.length : Int)),(58,I 1),(59,I (((l0.length + 1) : Nat) : Int)),(60,slice (some ⟨b1,0,none⟩) (l0.length + 1) (cap1)),(61,slice (some ⟨b2,0,none⟩) (1) (cap2)),(62,slice (some ⟨b1,0,none⟩) (l0.length + 1) (cap1)),(63,I (((i) : Nat) : Int)),(64,I 1),(65,I (((i + 1) : Nat) : Int)),(66,slice (some ⟨b1,0 + (i + 1) * 2,none⟩) (l0.length + 1 - (i + 1)) (cap1 - (i + 1))),(67,B0),(68,bool true),(69,slice (some ⟨b1,0,none⟩) (l0.length + 1) (cap1)),(70,I (((i) : Nat) : Int)),(71,I 1),(72,I (((i + 1) : Nat) : Int)),(73,slice (some ⟨b1,0 + (i + 1) * 2,none⟩) (l0.length + 1 - (i + 1)) (cap1 - (i + 1))),(74,slice (some ⟨b1,0,none⟩) (l0.length + 1) (cap1)),(75,I (((i) : Nat) : Int)),(76,slice (some ⟨b1,0 + (i) * 2,none⟩) (l0.length + 1 - (i)) (cap1 - (i))),(77,(goInt (Nat.min (l0.length + 1 - (i)) (l0.length + 1 - (i + 1)))))] C2_ a w)
     refine ent_drawm 9 rfl (two 8 Z2_A Z2_B) (by kernel_rfl) (by kernel_rfl) (two_start (draw_startL (sub_cons (t := 0) rfl (sub_cons (t := 1) rfl (sub_cons (t := 2) rfl (sub_cons (t := 6) rfl (sub_cons (t := 7) rfl (sub_cons (t := 8) rfl (sub_cons (t := 10) rfl (sub_cons (t := 11) rfl (sub_cons (t := 12) rfl (sub_cons (t := 13) rfl (sub_cons (t := 14) rfl (sub_cons (t := 15) rfl (sub_cons (t := 16) rfl (sub_cons (t := 18) rfl (sub_cons (t := 19) rfl (sub_cons (t := 20) rfl (sub_cons (t := 21) rfl (sub_cons (t := 22) rfl (sub_cons (t := 26) rfl (sub_cons (t := 27) rfl (sub_cons (t := 28) rfl (sub_cons (t := 29) rfl (sub_cons (t := 30) rfl (sub_cons (t := 31) rfl (sub_cons (t := 56) rfl (sub_cons (t := 57) rfl (sub_cons (t := 58) rfl (sub_cons (t := 59) rfl (sub_cons (t := 60) rfl (sub_cons (t := 61) rfl (sub_cons (t := 62) rfl (sub_cons (t := 63) rfl (sub_cons (t := 64) rfl (sub_cons (t := 65) rfl (sub_cons (t := 66) rfl (sub_cons (t := 67) rfl (sub_cons (t := 68) rfl (sub_nil _)))))))))))))))))))))))))))))))))))))) rfl)) ?_ ?_
     ·refine ⟨?_,?_,?_,?_,?_,?_,?_,?_,?_,trivial⟩
      ·intro done hi hc hcu
       have n4 : done 4 = false := notdone_of (m := 4) hc hi rfl rfl
       have n8 : done 8 = false := notdone_of (m := 8) hc n4 rfl rfl
       refine two_step (m := 8) (A := Z2_A) n8 rfl ?_
       exact draw_value (i := 0) (t := 69) (v := (slice (some ⟨b1,0,none⟩) (l0.length + 1) (cap1))) rfl rfl (wanted_none rfl) (fun a => hasA_base) (ov_move rfl) rfl rfl (onlyT_spec (k0 := 0) rfl rfl rfl)
      ·intro done hi hc hcu
       have n3 : done 3 = false := notdone_of (m := 3) hc hi rfl rfl
       have n4 : done 4 = false := notdone_of (m := 4) hc n3 rfl rfl
       have n8 : done 8 = false := notdone_of (m := 8) hc n4 rfl rfl
       refine two_step (m := 8) (A := Z2_A) n8 rfl ?_
       exact draw_value (i := 1) (t := 70) (v := (I (((i) : Nat) : Int))) rfl rfl (wanted_none rfl) (fun a => hasA_base) (ov_move rfl) rfl rfl (onlyT_spec (k0 := 1) rfl rfl rfl)
      ·intro done hi hc hcu
       have n3 : done 3 = false := notdone_of (m := 3) hc hi rfl rfl
       have n4 : done 4 = false := notdone_of (m := 4) hc n3 rfl rfl
       have n8 : done 8 = false := notdone_of (m := 8) hc n4 rfl rfl
       refine two_step (m := 8) (A := Z2_A) n8 rfl ?_
       exact draw_value (i := 2) (t := 71) (v := (I 1)) rfl rfl (wanted_none rfl) (fun a => hasA_base) (ov_move rfl) rfl rfl (onlyT_spec (k0 := 2) rfl rfl rfl)
      ·intro done hi hc hcu
       have n4 : done 4 = false := notdone_of (m := 4) hc hi rfl rfl
       have n8 : done 8 = false := notdone_of (m := 8) hc n4 rfl rfl
       refine two_step (m := 8) (A := Z2_A) n8 rfl ?_
       have d1 : done 1 = true := done_of (j := 1) hcu rfl (by decide) rfl
       have d2 : done 2 = true := done_of (j := 2) hcu rfl (by decide) rfl
       exact draw_value (i := 3) (t := 72) (v := (I (((i + 1) : Nat) : Int))) rfl rfl (wanted_none rfl) (fun a => (hasA_cons (k := 2) rfl d2 (hasA_cons (k := 1) rfl d1 hasA_base))) (ov_binL (m' := (((i + 1) : Nat) : Int)) rfl rfl (b_add _ _ _) (by rewrite [IntKind.wrap_i64]; omega)) rfl rfl (onlyT_spec (k0 := 3) rfl rfl rfl)
      ·intro done hi hc hcu
       have n8 : done 8 = false := notdone_of (m := 8) hc hi rfl rfl
       refine two_step (m := 8) (A := Z2_A) n8 rfl ?_
       have d0 : done 0 = true := done_of (j := 0) hcu rfl (by decide) rfl
       have d3 : done 3 = true := done_of (j := 3) hcu rfl (by decide) rfl
       exact draw_value (i := 4) (t := 73) (v := (slice (some ⟨b1,0 + (i + 1) * 2,none⟩) (l0.length + 1 - (i + 1)) (cap1 - (i + 1)))) rfl rfl (wanted_none rfl) (fun a => (hasA_cons (k := 3) rfl d3 (hasA_cons (k := 0) rfl d0 hasA_base))) (ov_sliceLo (l := i + 1) rfl rfl (by omega) F_slice_175 F_size_174 (by omega) (by omega) (by omega)) rfl rfl (onlyT_spec (k0 := 4) rfl rfl rfl)
      ·intro done hi hc hcu
       have n7 : done 7 = false := notdone_of (m := 7) hc hi rfl rfl
       have n8 : done 8 = false := notdone_of (m := 8) hc n7 rfl rfl
       refine two_step (m := 8) (A := Z2_A) n8 rfl ?_
       exact draw_value (i := 5) (t := 74) (v := (slice (some ⟨b1,0,none⟩) (l0.length + 1) (cap1))) rfl rfl (wanted_none rfl) (fun a => hasA_base) (ov_move rfl) rfl rfl (onlyT_spec (k0 := 5) rfl rfl rfl)
      ·intro done hi hc hcu
       have n7 : done 7 = false := notdone_of (m := 7) hc hi rfl rfl
       have n8 : done 8 = false := notdone_of (m := 8) hc n7 rfl rfl
       refine two_step (m := 8) (A := Z2_A) n8 rfl ?_
       exact draw_value (i := 6) (t := 75) (v := (I (((i) : Nat) : Int))) rfl rfl (wanted_none rfl) (fun a => hasA_base) (ov_move rfl) rfl rfl (onlyT_spec (k0 := 6) rfl rfl rfl)
      ·intro done hi hc hcu
       have n8 : done 8 = false := notdone_of (m := 8) hc hi rfl rfl
       refine two_step (m := 8) (A := Z2_A) n8 rfl ?_
       have d5 : done 5 = true := done_of (j := 5) hcu rfl (by decide) rfl
       have d6 : done 6 = true := done_of (j := 6) hcu rfl (by decide) rfl
       exact draw_value (i := 7) (t := 76) (v := (slice (some ⟨b1,0 + (i) * 2,none⟩) (l0.length + 1 - (i)) (cap1 - (i)))) rfl rfl (wanted_none rfl) (fun a => (hasA_cons (k := 6) rfl d6 (hasA_cons (k := 5) rfl d5 hasA_base))) (ov_sliceLo (l := i) rfl rfl (by omega) F_slice_175 F_size_174 (by omega) (by omega) (by omega)) rfl rfl (onlyT_spec (k0 := 7) rfl rfl rfl)
      ·intro done hi hc hcu
       refine two_last (m := 8) (A := Z2_A) (B := Z2_B) hi ?_
       have d4 : done 4 = true := done_of (j := 4) hcu rfl (by decide) rfl
       have d7 : done 7 = true := done_of (j := 7) hcu rfl (by decide) rfl
       have d6 : done 6 = true := done_step (i := 7) (j := 6) hc d7 rfl rfl
       have d5 : done 5 = true := done_step (i := 7) (j := 5) hc d7 rfl rfl
       have d3 : done 3 = true := done_step (i := 4) (j := 3) hc d4 rfl rfl
       have d2 : done 2 = true := done_step (i := 3) (j := 2) hc d3 rfl rfl
       have d1 : done 1 = true := done_step (i := 3) (j := 1) hc d3 rfl rfl
       have d0 : done 0 = true := done_step (i := 4) (j := 0) hc d4 rfl rfl
       refine draw_endL [box b1 174 cur1,box b2 174 cur2] rfl (fun a => (hasA_cons (k := 0) rfl d0 (hasA_cons (k := 1) rfl d1 (hasA_cons (k := 2) rfl d2 (hasA_cons (k := 3) rfl d3 (hasA_cons (k := 4) rfl d4 (hasA_cons (k := 5) rfl d5 (hasA_cons (k := 6) rfl d6 (hasA_cons (k := 7) rfl d7 hasA_base))))))))) ?_
       refine last_op rfl rfl rfl rfl (ot_copy (L' := C2_) (cs := (fl enc_Omap_pair__string___int (l0.drop i))) 0 0 rfl rfl F_slice_175 F_size_174 rfl rfl (ins_rest enc_Omap_pair__string___int_len (by omega) hx4 (by omega)) (ins_min (k := l0.length - i) (by omega) (by omega) (by omega) hfd) (by simp only [C2_,List.length_append,List.length_take,List.length_drop,hfy,hfd]; omega) (one_fl enc_Omap_pair__string___int_one _) rfl) ?_
       rintro _ _ ⟨rfl,rfl⟩
       exact ent_fin [0,1] (by decide) rfl (sub_cons (t := 0) rfl (sub_cons (t := 1) rfl (sub_cons (t := 2) rfl (sub_cons (t := 6) rfl (sub_cons (t := 7) rfl (sub_cons (t := 8) rfl (sub_cons (t := 10) rfl (sub_cons (t := 11) rfl (sub_cons (t := 12) rfl (sub_cons (t := 13) rfl (sub_cons (t := 14) rfl (sub_cons (t := 15) rfl (sub_cons (t := 16) rfl (sub_cons (t := 18) rfl (sub_cons (t := 19) rfl (sub_cons (t := 20) rfl (sub_cons (t := 21) rfl (sub_cons (t := 22) rfl (sub_cons (t := 26) rfl (sub_cons (t := 27) rfl (sub_cons (t := 28) rfl (sub_cons (t := 29) rfl (sub_cons (t := 30) rfl (sub_cons (t := 31) rfl (sub_cons (t := 56) rfl (sub_cons (t := 57) rfl (sub_cons (t := 58) rfl (sub_cons (t := 59) rfl (sub_cons (t := 60) rfl (sub_cons (t := 61) rfl (sub_cons (t := 62) rfl (sub_cons (t := 63) rfl (sub_cons (t := 64) rfl (sub_cons (t := 65) rfl (sub_cons (t := 66) rfl (sub_cons (t := 67) rfl (sub_cons (t := 68) rfl (sub_cons (t := 69) rfl (sub_cons (t := 70) rfl (sub_cons (t := 71) rfl (sub_cons (t := 72) rfl (sub_cons (t := 73) rfl (sub_cons (t := 74) rfl (sub_cons (t := 75) rfl (sub_cons (t := 76) rfl (sub_cons (t := 77) rfl (sub_nil _))))))))))))))))))))))))))))))))))))))))))))))) fun a w h => h
     ·intro done hall
      refine two_end (A := Z2_A) (B := Z2_B) (hall 8 (by decide)) ?_
      refine ent_seq (ent_region (ent_value (ov_move rfl) rfl rfl rfl (ent_value (ov_move rfl) rfl rfl rfl (ent_value (ov_sliceLo (l := i) rfl rfl (by omega) F_slice_175 F_size_174 (by omega) (by omega) (by omega)) rfl rfl rfl (ent_value (ov_move rfl) rfl rfl rfl ?_)))))
      refine ent_op (ot_copy (L' := [box b1 174 ((cur1.take (0 + (i + 1) * 2) ++ (fl enc_Omap_pair__string___int (l0.drop i)) ++ cur1.drop (0 + (i + 1) * 2 + (fl enc_Omap_pair__string___int (l0.drop i)).length)).take (0 + (i) * 2) ++ (fl enc_Omap_pair__string___int [y]) ++ (cur1.take (0 + (i + 1) * 2) ++ (fl enc_Omap_pair__string___int (l0.drop i)) ++ cur1.drop (0 + (i + 1) * 2 + (fl enc_Omap_pair__string___int (l0.drop i)).length)).drop (0 + (i) * 2 + (fl enc_Omap_pair__string___int [y]).length)),box b2 174 cur2]) (cs := (fl enc_Omap_pair__string___int [y])) 0 1 rfl rfl F_slice_175 F_size_174 rfl rfl (ins_one enc_Omap_pair__string___int_len hx8) (ins_min (k := 1) (Nat.le_refl 1) (by omega) (.inl rfl) (by omega)) (by simp only [C2_,List.length_append,List.length_take,List.length_drop,hfy,hfd]; omega) (one_fl enc_Omap_pair__string___int_one _) rfl) rfl rfl rfl ?_
      rintro _ _ ⟨rfl,rfl⟩
      refine ent_nil (ent_seq (ent_region (ent_value (ov_move rfl) rfl rfl rfl (ent_value (ov_assign rfl) rfl rfl rfl (ent_nil (ent_retc ?_))))))
      refine ent_pick [0,1] (by decide) rfl ?_
      refine ent_conv 0 _ (own (slice (some ⟨b1,0,none⟩) (l0.length + 1) (cap1)) 174 2 (l0.insertIdx i y).length (fl enc_Omap_pair__string___int (l0.insertIdx i y))) rfl (ins_close2 enc_Omap_pair__string___int_len (row := cur1) (i := i) (v := y) (by omega) (by omega) hx2 hx3 hx4 (by omega) (by omega) rfl) rfl ?_
      refine ent_conv 1 _ (own (slice (some ⟨b2,0,none⟩) ([y] : List _).length (cap2)) 174 2 ([y] : List _).length (fl enc_Omap_pair__string___int [y])) rfl (fun o s h => own_close h hx5 hx6 hx7 hx8) rfl ?_
      exact ret_tmp rfl rfl ⟨_,rfl,rfl⟩
  ·first | omega | (simp only [List.length_cons,List.length_nil] at *; omega)
 ·first | omega | (simp only [List.length_cons,List.length_nil] at *; omega)

theorem omap_Map__string___int_place_1_O.spec (p0 p1 : Nat) (sv0 : Value) (p2 : Nat) (a0 : Int) (l0 : List Omap_pair__string___int) (p2_0 : List UInt8) (r : Bool) (H : omap_Map__string___int_place_1_O a0 l0 p2_0 = some r) : FnSpec Try.prog 119 [I a0,pt p0 0,pt p2 0] [box p0 132 [pt p1 0],box p1 177 [sv0],own sv0 174 2 l0.length (fl enc_Omap_pair__string___int l0),box p2 9 [str p2_0]] (fun v M => v = (bool r) ∧ M = [box p0 132 [pt p1 0],box p1 177 [sv0],own sv0 174 2 l0.length (fl enc_Omap_pair__string___int l0),box p2 9 [str p2_0]]) := by
 unfold omap_Map__string___int_place_1_O at H
 refine spec_of Try.func119 rfl 15 rfl (Nat.le_of_ble_eq_true rfl) fun F w0 => ?_
 let C0_ : List HP := [box p0 132 [pt p1 0],box p1 177 [sv0],own sv0 174 2 l0.length (fl enc_Omap_pair__string___int l0),box p2 9 [str p2_0]]
 show Ent (St 15 w0 F [(0,I a0),(1,pt p0 0),(2,pt p2 0)] C0_) _
 refine ent_seq (ent_region (ent_value (ov_assign rfl) rfl rfl rfl (ent_nil (ent_seq ?_))))
 obtain ⟨c3,H⟩ := gdT H
 obtain ⟨c4,H⟩ := gdT H
 refine ent_drawm 11 rfl (fun done a w => StD 15 w0 F [(0,I a0),(1,pt p0 0),(2,pt p2 0)] [(0,5,pt p1 0),(1,6,pt p1 0),(2,7,pt p1 0),(3,8,sv0),(4,9,I a0),(5,10,(eptr sv0 (a0.toNat * 2))),(6,11,(eptr sv0 (a0.toNat * 2 + 0))),(7,12,str ((l0.getD a0.toNat z_Omap_pair__string___int).k)),(8,13,str p2_0),(9,14,Value.bool (decide (p2_0 ≤ ((l0.getD a0.toNat z_Omap_pair__string___int).k)))),(10,4,Value.bool (decide (p2_0 ≤ ((l0.getD a0.toNat z_Omap_pair__string___int).k))))] done C0_ a w) (by kernel_rfl) (by kernel_rfl) (draw_startL (sub_cons (t := 0) rfl (sub_cons (t := 1) rfl (sub_cons (t := 2) rfl (sub_nil _)))) rfl) ?_ ?_
 ·refine ⟨?_,?_,?_,?_,?_,?_,?_,?_,?_,?_,?_,trivial⟩
  ·exact fun done hi hc hcu => draw_value (i := 0) (t := 5) (v := (pt p1 0)) rfl rfl (wanted_none rfl) (fun a => hasA_base) (ov_load (v := (pt p1 0)) rfl F_agg_132 (reads_box1 (i := 0) rfl rfl)) rfl rfl (onlyT_spec (k0 := 0) rfl rfl rfl)
  ·exact fun done hi hc hcu => draw_value (i := 1) (t := 6) (v := (pt p1 0)) rfl rfl (wanted_none rfl) (fun a => (hasA_cons (k := 0) rfl (done_of (j := 0) hcu rfl (by decide) rfl) hasA_base)) (ov_nilCheck rfl) rfl rfl (onlyT_spec (k0 := 1) rfl rfl rfl)
  ·exact fun done hi hc hcu => draw_value (i := 2) (t := 7) (v := (pt p1 0)) rfl rfl (wanted_none rfl) (fun a => (hasA_cons (k := 1) rfl (done_of (j := 1) hcu rfl (by decide) rfl) hasA_base)) (ov_fieldAddr (sz := 0) (o := 0) rfl F_field_177_0 F_size_175) rfl rfl (onlyT_spec (k0 := 2) rfl rfl rfl)
  ·exact fun done hi hc hcu => draw_value (i := 3) (t := 8) (v := sv0) rfl rfl (wanted_none rfl) (fun a => (hasA_cons (k := 2) rfl (done_of (j := 2) hcu rfl (by decide) rfl) hasA_base)) (ov_load (v := sv0) rfl F_agg_175 (reads_box1 (i := 1) rfl rfl)) rfl rfl (onlyT_spec (k0 := 3) rfl rfl rfl)
  ·exact fun done hi hc hcu => draw_value (i := 4) (t := 9) (v := (I a0)) rfl rfl (wanted_none rfl) (fun a => hasA_base) (ov_move rfl) rfl rfl (onlyT_spec (k0 := 4) rfl rfl rfl)
  ·exact fun done hi hc hcu => draw_value (i := 5) (t := 10) (v := (eptr sv0 (a0.toNat * 2))) rfl rfl (wanted_none rfl) (fun a => (hasA_cons (k := 4) rfl (done_of (j := 4) hcu rfl (by decide) rfl) (hasA_cons (k := 3) rfl (done_of (j := 3) hcu rfl (by decide) rfl) hasA_base))) (ov_indexAddr (sz := 1) 2 rfl rfl F_slice_175 F_size_174 rfl (isRd_ownx 174) c3 c4) rfl rfl (onlyT_spec (k0 := 5) rfl rfl rfl)
  ·exact fun done hi hc hcu => draw_value (i := 6) (t := 11) (v := (eptr sv0 (a0.toNat * 2 + 0))) rfl rfl (wanted_none rfl) (fun a => (hasA_cons (k := 5) rfl (done_of (j := 5) hcu rfl (by decide) rfl) hasA_base)) (ov_fieldAddrE (sz := 0) (k0 := a0.toNat * 2) (off := 0) 2 rfl F_field_174_0 F_size_9 rfl (isRd_ownx 174) (fl_pos enc_Omap_pair__string___int_len (ix_lt c3 c4))) rfl rfl (onlyT_spec (k0 := 6) rfl rfl rfl)
  ·exact fun done hi hc hcu => draw_value (i := 7) (t := 12) (v := (str ((l0.getD a0.toNat z_Omap_pair__string___int).k))) rfl rfl (wanted_none rfl) (fun a => (hasA_cons (k := 6) rfl (done_of (j := 6) hcu rfl (by decide) rfl) hasA_base)) (ov_load (v := (str ((l0.getD a0.toNat z_Omap_pair__string___int).k))) rfl F_agg_9 (reads_rd (i := 2) rfl (isRd_ownx 174) (by simp [C0_]) (fl_read (off := 0) enc_Omap_pair__string___int_len (ix_lt c3 c4) rfl))) rfl rfl (onlyT_spec (k0 := 7) rfl rfl rfl)
  ·exact fun done hi hc hcu => draw_value (i := 8) (t := 13) (v := (str p2_0)) rfl rfl (wanted_none rfl) (fun a => hasA_base) (ov_load (v := (str p2_0)) rfl F_agg_9 (reads_box1 (i := 3) rfl rfl)) rfl rfl (onlyT_spec (k0 := 8) rfl rfl rfl)
  ·exact fun done hi hc hcu => draw_value (i := 9) (t := 14) (v := (Value.bool (decide (p2_0 ≤ ((l0.getD a0.toNat z_Omap_pair__string___int).k))))) rfl rfl (wanted_none rfl) (fun a => (hasA_cons (k := 8) rfl (done_of (j := 8) hcu rfl (by decide) rfl) (hasA_cons (k := 7) rfl (done_of (j := 7) hcu rfl (by decide) rfl) hasA_base))) (ov_bin rfl rfl (b_geq_str _ _)) rfl rfl (onlyT_spec (k0 := 9) rfl rfl rfl)
  ·exact fun done hi hc hcu => draw_value (i := 10) (t := 4) (v := (Value.bool (decide (p2_0 ≤ ((l0.getD a0.toNat z_Omap_pair__string___int).k))))) rfl rfl (wanted_none rfl) (fun a => (hasA_cons (k := 9) rfl (done_of (j := 9) hcu rfl (by decide) rfl) hasA_base)) (ov_assign rfl) rfl rfl (onlyT_spec (k0 := 10) rfl rfl rfl)
 ·intro done hall
  refine draw_endL C0_ rfl (fun a => (hasA_cons (k := 10) rfl (hall 10 (by decide)) (hasA_cons (k := 0) rfl (hall 0 (by decide)) (hasA_cons (k := 1) rfl (hall 1 (by decide)) (hasA_cons (k := 2) rfl (hall 2 (by decide)) (hasA_cons (k := 3) rfl (hall 3 (by decide)) (hasA_cons (k := 4) rfl (hall 4 (by decide)) (hasA_cons (k := 5) rfl (hall 5 (by decide)) (hasA_cons (k := 6) rfl (hall 6 (by decide)) (hasA_cons (k := 7) rfl (hall 7 (by decide)) (hasA_cons (k := 8) rfl (hall 8 (by decide)) (hasA_cons (k := 9) rfl (hall 9 (by decide)) hasA_base)))))))))))) ?_
  refine ent_retc ?_
  cases H
  refine ent_pick [0,1,2,3] (by decide) rfl ?_
  exact ret_tmp rfl rfl ⟨rfl,rfl⟩

theorem sort_Search_O.spec (K p0 p1 : Nat) (sv0 : Value) (p2 : Nat) (a0 : Int) (l0 : List Omap_pair__string___int) (p2_0 : List UInt8) (r : Int) (H : sort_Search_O K a0 l0 p2_0 = some r) : FnSpec Try.prog 118 [I a0,(Value.func (.func 119) #[] #[pt p0 0,pt p2 0])] [box p0 132 [pt p1 0],box p1 177 [sv0],own sv0 174 2 l0.length (fl enc_Omap_pair__string___int l0),box p2 9 [str p2_0]] (fun v M => v = (I r) ∧ M = [box p0 132 [pt p1 0],box p1 177 [sv0],own sv0 174 2 l0.length (fl enc_Omap_pair__string___int l0),box p2 9 [str p2_0]]) := by
 unfold sort_Search_O at H
 refine spec_of Try.func118 rfl 26 rfl (Nat.le_of_ble_eq_true rfl) fun F w0 => ?_
 let C0_ : List HP := [box p0 132 [pt p1 0],box p1 177 [sv0],own sv0 174 2 l0.length (fl enc_Omap_pair__string___int l0),box p2 9 [str p2_0]]
 show Ent (St 26 w0 F [(0,I a0),(1,(Value.func (.func 119) #[] #[pt p0 0,pt p2 0]))] C0_) _
 refine ent_seq (ent_region (ent_value (ov_assign rfl) rfl rfl rfl (ent_nil (ent_seq (ent_region (ent_value (ov_move rfl) rfl rfl rfl (ent_value (ov_assign rfl) rfl rfl rfl (ent_value (ov_assign rfl) rfl rfl rfl (ent_nil (ent_seq (ent_block ?_)))))))))))
 refine ent_loop (fun k a w => ∃ i7,∃ i8,sort_Search_O_l0 K l0 p2_0 k i7 i8 = some r ∧ St 26 w0 F [(1,(Value.func (.func 119) #[] #[pt p0 0,pt p2 0])),(5,I i7),(6,I i8)] C0_ a w) K ?_ ?_
 ·exact ent_fin [0,1,2,3] (by decide) rfl (sub_cons (t := 1) rfl (sub_cons (t := 5) rfl (sub_cons (t := 6) rfl (sub_nil _)))) fun a w h => ⟨_,_,H,h⟩
 ·refine fun k => ent_exi fun i7 => ent_exi fun i8 => ent_and fun H4 => ?_
  cases k with
  | zero => exact absurd H4 (by simp [C0_,sort_Search_O_l0])
  | succ k =>
   rw [sort_Search_O_l0] at H4
   refine ent_seq (ent_seq (ent_region (ent_value (ov_move rfl) rfl rfl rfl (ent_value (ov_move rfl) rfl rfl rfl (ent_value (ov_bin rfl rfl (b_lss _ _ _)) rfl rfl rfl (ent_nil ?_))))))
   refine htF H4 (fun c35 H4 => ?_) fun c35 H4 => ?_
   ·refine ent_cond_false rfl (decide_eq_false c35) (ent_exit (ent_seq (ent_region (ent_value (ov_move rfl) rfl rfl rfl (ent_value (ov_assign rfl) rfl rfl rfl (ent_nil (ent_retc ?_)))))))
    cases H4
    refine ent_pick [0,1,2,3] (by decide) rfl ?_
    exact ret_tmp rfl rfl ⟨rfl,rfl⟩
   refine ent_cond_true rfl (decide_eq_true c35) (ent_skip (ent_block (ent_seq (ent_region (ent_value (ov_move rfl) rfl rfl rfl (ent_value (ov_move rfl) rfl rfl rfl (ent_value (ov_bin rfl rfl (b_add _ _ _) ) rfl rfl rfl (ent_value (ov_convert rfl (c_int Try.underlying3 Try.underlying82)) rfl rfl rfl ?_))))))))
   refine ent_value (ov_bin rfl rfl fun w => b_shr _ _ _ _ w (by decide)) rfl rfl rfl ?_
   refine ent_value (ov_convert rfl (c_int Try.underlying82 Try.underlying3)) rfl rfl rfl (ent_value (ov_assign rfl) rfl rfl rfl (ent_nil (ent_seq (ent_region (ent_value (ov_move rfl) rfl rfl rfl (ent_value (ov_move rfl) rfl rfl rfl ?_))))))
   obtain ⟨x12,h12,H4⟩ := Option.bind_eq_some_iff.1 H4
   refine ent_op (ot_call_same (Lr := []) [0,1,2,3] [0,1,2,3] (first := []) (cap := [pt p0 0,pt p2 0]) (xs := [.tmp 19]) rfl rfl F_call_119 rfl (omap_Map__string___int_place_1_O.spec p0 p1 sv0 p2 (w64 (bShr .u64 (wu64 (w64 (i7 + i8))) 1)) l0 p2_0 _ h12) (by decide) rfl (by decide) rfl) rfl rfl rfl ?_
   rintro _ _ ⟨rfl,rfl⟩
   refine ent_value (ov_un rfl (u_not _)) rfl rfl rfl (ent_nil ?_)
   refine htF H4 (fun c36 H4 => ?_) fun c36 H4 => ?_
   ·refine ent_cond_false rfl (Bool.eq_false_iff.2 c36) (ent_region (ent_value (ov_move rfl) rfl rfl rfl (ent_value (ov_assign rfl) rfl rfl rfl (ent_nil ?_))))
    exact ent_fin [0,1,2,3] (by decide) rfl (sub_cons (t := 1) rfl (sub_cons (t := 5) rfl (sub_cons (t := 6) rfl (sub_nil _)))) fun a w h => ⟨k,Nat.lt_succ_self k,_,_,H4,h⟩
   refine ent_cond_true rfl c36 (ent_region (ent_value (ov_move rfl) rfl rfl rfl (ent_value (ov_bin rfl rfl (b_add _ _ _) ) rfl rfl rfl (ent_value (ov_assign rfl) rfl rfl rfl (ent_nil ?_)))))
   exact ent_fin [0,1,2,3] (by decide) rfl (sub_cons (t := 1) rfl (sub_cons (t := 5) rfl (sub_cons (t := 6) rfl (sub_nil _)))) fun a w h => ⟨k,Nat.lt_succ_self k,_,_,H4,h⟩

theorem omap_Map__string___int_place_O.spec (K p0 : Nat) (sv0 : Value) (l0 : List Omap_pair__string___int) (a1 : List UInt8) (r : (Bool × Int)) (H : omap_Map__string___int_place_O K l0 a1 = some r) : FnSpec Try.prog 91 [pt p0 0,str a1] [box p0 177 [sv0],own sv0 174 2 l0.length (fl enc_Omap_pair__string___int l0)] (fun v M => v = (tU #[I r.2,bool r.1]) ∧ M = [box p0 177 [sv0],own sv0 174 2 l0.length (fl enc_Omap_pair__string___int l0)]) := by
 unfold omap_Map__string___int_place_O at H
 refine spec_of Try.func91 rfl 36 rfl (Nat.le_of_ble_eq_true rfl) fun F w0 => ?_
 show Ent (St 36 w0 F [(0,pt p0 0),(1,str a1)] [box p0 177 [sv0],own sv0 174 2 l0.length (fl enc_Omap_pair__string___int l0)]) _
 refine ent_seq (ent_region ?_)
 refine ent_op (ot_box (cs := [pt p0 0]) rfl rfl) rfl rfl rfl ?_
 rintro _ _ ⟨b3,rfl,rfl⟩
 refine ent_op (ot_box (cs := [str a1]) rfl rfl) rfl rfl rfl ?_
 rintro _ _ ⟨b4,rfl,rfl⟩
 let C0_ : List HP := [box b4 9 [str a1],box b3 132 [pt p0 0],box p0 177 [sv0],own sv0 174 2 l0.length (fl enc_Omap_pair__string___int l0)]
 refine ent_value (ov_assign rfl) rfl rfl rfl (ent_value (ov_assign rfl) rfl rfl rfl (ent_nil (ent_seq (ent_seq (ent_region (ent_value (ov_load (v := (pt p0 0)) rfl F_agg_132 (reads_box1 (i := 1) rfl rfl)) rfl rfl rfl ?_))))))
 refine ent_value (ov_bin rfl rfl (b_eql_of (fun w => rfl) rfl (eq_pn Try.underlying132 _ _))) rfl rfl rfl ?_
 refine ent_nil (ent_cond_false rfl rfl (ent_skip (ent_seq (ent_region (ent_value (ov_load (v := (pt p0 0)) rfl F_agg_132 (reads_box1 (i := 1) rfl rfl)) rfl rfl rfl (ent_value (ov_nilCheck rfl) rfl rfl rfl (ent_value (ov_fieldAddr (sz := 0) (o := 0) rfl F_field_177_0 F_size_175) rfl rfl rfl (ent_value (ov_load (v := sv0) rfl F_agg_175 (reads_box1 (i := 2) rfl rfl)) rfl rfl rfl (ent_value (ov_len 3 rfl F_slice_175 rfl (isRd_ownx 174)) rfl rfl rfl (ent_value (ov_makeFunc (first := []) (cap := [.tmp 2,.tmp 3]) rfl rfl) rfl rfl rfl ?_))))))))))
 obtain ⟨x2,h2,H⟩ := Option.bind_eq_some_iff.1 H
 refine ent_op (ot_call_same (Lr := []) [1,2,3,0] [3,0,1,2] (first := []) (cap := []) (xs := [.tmp 13,.tmp 14]) rfl rfl F_call_118 rfl (sort_Search_O.spec K b3 p0 sv0 b4 (l0.length : Int) l0 a1 _ h2) (by decide) rfl (by decide) rfl) rfl rfl rfl ?_
 rintro _ _ ⟨rfl,rfl⟩
 refine ent_value (ov_assign rfl) rfl rfl rfl (ent_nil (ent_seq ?_))
 refine htF H (fun c3 H => ?_) fun c3 H => ?_
 ·refine ent_drawm 22 rfl (fun done a w => StD 36 w0 F [(0,pt p0 0),(1,str a1),(2,pt b3 0),(3,pt b4 0),(6,I x2),(7,pt p0 0),(8,B0),(9,pt p0 0),(10,pt p0 0),(11,pt p0 0),(12,sv0),(13,I (l0.length : Int)),(14,(Value.func (.func 119) #[] #[pt b3 0,pt b4 0])),(15,I x2)] [(0,16,I x2),(1,17,I x2),(2,18,pt p0 0),(3,19,pt p0 0),(4,20,pt p0 0),(5,21,sv0),(6,22,I (l0.length : Int)),(7,23,Value.bool (decide (x2 < (l0.length : Int)))),(8,24,Value.bool (decide (x2 < (l0.length : Int)))),(9,25,undef),(10,26,undef),(11,27,undef),(12,28,undef),(13,29,undef),(14,30,undef),(15,31,undef),(16,32,undef),(17,33,undef),(18,34,undef),(19,35,B0),(20,4,I x2),(21,5,B0)] done C0_ a w) (by kernel_rfl) (by kernel_rfl) (draw_startL (sub_cons (t := 0) rfl (sub_cons (t := 1) rfl (sub_cons (t := 2) rfl (sub_cons (t := 3) rfl (sub_cons (t := 6) rfl (sub_cons (t := 7) rfl (sub_cons (t := 8) rfl (sub_cons (t := 9) rfl (sub_cons (t := 10) rfl (sub_cons (t := 11) rfl (sub_cons (t := 12) rfl (sub_cons (t := 13) rfl (sub_cons (t := 14) rfl (sub_cons (t := 15) rfl (sub_nil _))))))))))))))) rfl) ?_ ?_
  ·refine ⟨?_,?_,?_,?_,?_,?_,?_,?_,?_,?_,?_,?_,?_,?_,?_,?_,?_,?_,?_,?_,?_,?_,trivial⟩
   ·exact fun done hi hc hcu => draw_value (i := 0) (t := 16) (v := (I x2)) rfl rfl (wanted_none rfl) (fun a => hasA_base) (ov_move rfl) rfl rfl (onlyT_spec (k0 := 0) rfl rfl rfl)
   ·exact fun done hi hc hcu => draw_value (i := 1) (t := 17) (v := (I x2)) rfl rfl (wanted_none rfl) (fun a => hasA_base) (ov_move rfl) rfl rfl (onlyT_spec (k0 := 1) rfl rfl rfl)
   ·exact fun done hi hc hcu => draw_value (i := 2) (t := 18) (v := (pt p0 0)) rfl rfl (wanted_none rfl) (fun a => hasA_base) (ov_load (v := (pt p0 0)) rfl F_agg_132 (reads_box1 (i := 1) rfl rfl)) rfl rfl (onlyT_spec (k0 := 2) rfl rfl rfl)
   ·exact fun done hi hc hcu => draw_value (i := 3) (t := 19) (v := (pt p0 0)) rfl rfl (wanted_none rfl) (fun a => (hasA_cons (k := 2) rfl (done_of (j := 2) hcu rfl (by decide) rfl) hasA_base)) (ov_nilCheck rfl) rfl rfl (onlyT_spec (k0 := 3) rfl rfl rfl)
   ·exact fun done hi hc hcu => draw_value (i := 4) (t := 20) (v := (pt p0 0)) rfl rfl (wanted_none rfl) (fun a => (hasA_cons (k := 3) rfl (done_of (j := 3) hcu rfl (by decide) rfl) hasA_base)) (ov_fieldAddr (sz := 0) (o := 0) rfl F_field_177_0 F_size_175) rfl rfl (onlyT_spec (k0 := 4) rfl rfl rfl)
   ·exact fun done hi hc hcu => draw_value (i := 5) (t := 21) (v := sv0) rfl rfl (wanted_none rfl) (fun a => (hasA_cons (k := 4) rfl (done_of (j := 4) hcu rfl (by decide) rfl) hasA_base)) (ov_load (v := sv0) rfl F_agg_175 (reads_box1 (i := 2) rfl rfl)) rfl rfl (onlyT_spec (k0 := 5) rfl rfl rfl)
   ·exact fun done hi hc hcu => draw_value (i := 6) (t := 22) (v := (I (l0.length : Int))) rfl rfl (wanted_none rfl) (fun a => (hasA_cons (k := 5) rfl (done_of (j := 5) hcu rfl (by decide) rfl) hasA_base)) (ov_len 3 rfl F_slice_175 rfl (isRd_ownx 174)) rfl rfl (onlyT_spec (k0 := 6) rfl rfl rfl)
   ·exact fun done hi hc hcu => draw_value (i := 7) (t := 23) (v := (Value.bool (decide (x2 < (l0.length : Int))))) rfl rfl (wanted_none rfl) (fun a => (hasA_cons (k := 6) rfl (done_of (j := 6) hcu rfl (by decide) rfl) (hasA_cons (k := 1) rfl (done_of (j := 1) hcu rfl (by decide) rfl) hasA_base))) (ov_bin rfl rfl (b_lss _ _ _)) rfl rfl (onlyT_spec (k0 := 7) rfl rfl rfl)
   ·exact fun done hi hc hcu => draw_value (i := 8) (t := 24) (v := (Value.bool (decide (x2 < (l0.length : Int))))) rfl rfl (wanted_none rfl) (fun a => (hasA_cons (k := 7) rfl (done_of (j := 7) hcu rfl (by decide) rfl) hasA_base)) (ov_move rfl) rfl rfl (onlyT_spec (k0 := 8) rfl rfl rfl)
   ·exact fun done hi hc hcu => draw_off (i := 9) (t := 25) rfl rfl (wanted_off rfl rfl rfl (decide_eq_false c3)) (fun a => (hasA_cons (k := 8) rfl (done_of (j := 8) hcu rfl (by decide) rfl) hasA_base)) rfl rfl (onlyT_spec (k0 := 9) rfl rfl rfl)
   ·exact fun done hi hc hcu => draw_off (i := 10) (t := 26) rfl rfl (wanted_off rfl rfl rfl (decide_eq_false c3)) (fun a => (hasA_cons (k := 8) rfl (done_of (j := 8) hcu rfl (by decide) rfl) hasA_base)) rfl rfl (onlyT_spec (k0 := 10) rfl rfl rfl)
   ·exact fun done hi hc hcu => draw_off (i := 11) (t := 27) rfl rfl (wanted_off rfl rfl rfl (decide_eq_false c3)) (fun a => (hasA_cons (k := 8) rfl (done_of (j := 8) hcu rfl (by decide) rfl) hasA_base)) rfl rfl (onlyT_spec (k0 := 11) rfl rfl rfl)
   ·exact fun done hi hc hcu => draw_off (i := 12) (t := 28) rfl rfl (wanted_off rfl rfl rfl (decide_eq_false c3)) (fun a => (hasA_cons (k := 8) rfl (done_of (j := 8) hcu rfl (by decide) rfl) hasA_base)) rfl rfl (onlyT_spec (k0 := 12) rfl rfl rfl)
   ·exact fun done hi hc hcu => draw_off (i := 13) (t := 29) rfl rfl (wanted_off rfl rfl rfl (decide_eq_false c3)) (fun a => (hasA_cons (k := 8) rfl (done_of (j := 8) hcu rfl (by decide) rfl) hasA_base)) rfl rfl (onlyT_spec (k0 := 13) rfl rfl rfl)
   ·exact fun done hi hc hcu => draw_off (i := 14) (t := 30) rfl rfl (wanted_off rfl rfl rfl (decide_eq_false c3)) (fun a => (hasA_cons (k := 8) rfl (done_of (j := 8) hcu rfl (by decide) rfl) hasA_base)) rfl rfl (onlyT_spec (k0 := 14) rfl rfl rfl)
   ·exact fun done hi hc hcu => draw_off (i := 15) (t := 31) rfl rfl (wanted_off rfl rfl rfl (decide_eq_false c3)) (fun a => (hasA_cons (k := 8) rfl (done_of (j := 8) hcu rfl (by decide) rfl) hasA_base)) rfl rfl (onlyT_spec (k0 := 15) rfl rfl rfl)
   ·exact fun done hi hc hcu => draw_off (i := 16) (t := 32) rfl rfl (wanted_off rfl rfl rfl (decide_eq_false c3)) (fun a => (hasA_cons (k := 8) rfl (done_of (j := 8) hcu rfl (by decide) rfl) hasA_base)) rfl rfl (onlyT_spec (k0 := 16) rfl rfl rfl)
   ·exact fun done hi hc hcu => draw_off (i := 17) (t := 33) rfl rfl (wanted_off rfl rfl rfl (decide_eq_false c3)) (fun a => (hasA_cons (k := 8) rfl (done_of (j := 8) hcu rfl (by decide) rfl) hasA_base)) rfl rfl (onlyT_spec (k0 := 17) rfl rfl rfl)
   ·exact fun done hi hc hcu => draw_off (i := 18) (t := 34) rfl rfl (wanted_off rfl rfl rfl (decide_eq_false c3)) (fun a => (hasA_cons (k := 8) rfl (done_of (j := 8) hcu rfl (by decide) rfl) hasA_base)) rfl rfl (onlyT_spec (k0 := 18) rfl rfl rfl)
   ·exact fun done hi hc hcu => draw_value (i := 19) (t := 35) (v := B0) rfl rfl (wanted_none rfl) (fun a => (hasA_cons (k := 18) rfl (done_of (j := 18) hcu rfl (by decide) rfl) (hasA_cons (k := 8) rfl (done_of (j := 8) hcu rfl (by decide) rfl) hasA_base))) (ov_pick rfl rfl rfl (pick_f (decide_eq_false c3))) rfl rfl (onlyT_spec (k0 := 19) rfl rfl rfl)
   ·exact fun done hi hc hcu => draw_value (i := 20) (t := 4) (v := (I x2)) rfl rfl (wanted_none rfl) (fun a => (hasA_cons (k := 0) rfl (done_of (j := 0) hcu rfl (by decide) rfl) hasA_base)) (ov_assign rfl) rfl rfl (onlyT_spec (k0 := 20) rfl rfl rfl)
   ·exact fun done hi hc hcu => draw_value (i := 21) (t := 5) (v := B0) rfl rfl (wanted_none rfl) (fun a => (hasA_cons (k := 19) rfl (done_of (j := 19) hcu rfl (by decide) rfl) hasA_base)) (ov_assign rfl) rfl rfl (onlyT_spec (k0 := 21) rfl rfl rfl)
  ·intro done hall
   refine draw_endL C0_ rfl (fun a => (hasA_cons (k := 20) rfl (hall 20 (by decide)) (hasA_cons (k := 21) rfl (hall 21 (by decide)) (hasA_cons (k := 0) rfl (hall 0 (by decide)) (hasA_cons (k := 1) rfl (hall 1 (by decide)) (hasA_cons (k := 2) rfl (hall 2 (by decide)) (hasA_cons (k := 3) rfl (hall 3 (by decide)) (hasA_cons (k := 4) rfl (hall 4 (by decide)) (hasA_cons (k := 5) rfl (hall 5 (by decide)) (hasA_cons (k := 6) rfl (hall 6 (by decide)) (hasA_cons (k := 7) rfl (hall 7 (by decide)) (hasA_cons (k := 8) rfl (hall 8 (by decide)) (hasA_cons (k := 9) rfl (hall 9 (by decide)) (hasA_cons (k := 10) rfl (hall 10 (by decide)) (hasA_cons (k := 11) rfl (hall 11 (by decide)) (hasA_cons (k := 12) rfl (hall 12 (by decide)) (hasA_cons (k := 13) rfl (hall 13 (by decide)) (hasA_cons (k := 14) rfl (hall 14 (by decide)) (hasA_cons (k := 15) rfl (hall 15 (by decide)) (hasA_cons (k := 16) rfl (hall 16 (by decide)) (hasA_cons (k := 17) rfl (hall 17 (by decide)) (hasA_cons (k := 18) rfl (hall 18 (by decide)) (hasA_cons (k := 19) rfl (hall 19 (by decide)) hasA_base))))))))))))))))))))))) ?_
   refine ent_retc ?_
   cases H
   refine ent_pick [2,3] (by decide) rfl ?_
   exact ret_mem (vs := [I x2,B0]) rfl ⟨rfl,⟨rfl,trivial⟩⟩ _ rfl ⟨rfl,rfl⟩
 obtain ⟨c4,H⟩ := gdT H
 refine ent_drawm 22 rfl (fun done a w => StD 36 w0 F [(0,pt p0 0),(1,str a1),(2,pt b3 0),(3,pt b4 0),(6,I x2),(7,pt p0 0),(8,B0),(9,pt p0 0),(10,pt p0 0),(11,pt p0 0),(12,sv0),(13,I (l0.length : Int)),(14,(Value.func (.func 119) #[] #[pt b3 0,pt b4 0])),(15,I x2)] [(0,16,I x2),(1,17,I x2),(2,18,pt p0 0),(3,19,pt p0 0),(4,20,pt p0 0),(5,21,sv0),(6,22,I (l0.length : Int)),(7,23,Value.bool (decide (x2 < (l0.length : Int)))),(8,24,Value.bool (decide (x2 < (l0.length : Int)))),(9,25,pt p0 0),(10,26,pt p0 0),(11,27,pt p0 0),(12,28,sv0),(13,29,I x2),(14,30,(eptr sv0 (x2.toNat * 2))),(15,31,(eptr sv0 (x2.toNat * 2 + 0))),(16,32,str ((l0.getD x2.toNat z_Omap_pair__string___int).k)),(17,33,str a1),(18,34,bool (((l0.getD x2.toNat z_Omap_pair__string___int).k) == a1)),(19,35,bool (((l0.getD x2.toNat z_Omap_pair__string___int).k) == a1)),(20,4,I x2),(21,5,bool (((l0.getD x2.toNat z_Omap_pair__string___int).k) == a1))] done C0_ a w) (by kernel_rfl) (by kernel_rfl) (draw_startL (sub_cons (t := 0) rfl (sub_cons (t := 1) rfl (sub_cons (t := 2) rfl (sub_cons (t := 3) rfl (sub_cons (t := 6) rfl (sub_cons (t := 7) rfl (sub_cons (t := 8) rfl (sub_cons (t := 9) rfl (sub_cons (t := 10) rfl (sub_cons (t := 11) rfl (sub_cons (t := 12) rfl (sub_cons (t := 13) rfl (sub_cons (t := 14) rfl (sub_cons (t := 15) rfl (sub_nil _))))))))))))))) rfl) ?_ ?_
 ·refine ⟨?_,?_,?_,?_,?_,?_,?_,?_,?_,?_,?_,?_,?_,?_,?_,?_,?_,?_,?_,?_,?_,?_,trivial⟩
  ·exact fun done hi hc hcu => draw_value (i := 0) (t := 16) (v := (I x2)) rfl rfl (wanted_none rfl) (fun a => hasA_base) (ov_move rfl) rfl rfl (onlyT_spec (k0 := 0) rfl rfl rfl)
  ·exact fun done hi hc hcu => draw_value (i := 1) (t := 17) (v := (I x2)) rfl rfl (wanted_none rfl) (fun a => hasA_base) (ov_move rfl) rfl rfl (onlyT_spec (k0 := 1) rfl rfl rfl)
  ·exact fun done hi hc hcu => draw_value (i := 2) (t := 18) (v := (pt p0 0)) rfl rfl (wanted_none rfl) (fun a => hasA_base) (ov_load (v := (pt p0 0)) rfl F_agg_132 (reads_box1 (i := 1) rfl rfl)) rfl rfl (onlyT_spec (k0 := 2) rfl rfl rfl)
  ·exact fun done hi hc hcu => draw_value (i := 3) (t := 19) (v := (pt p0 0)) rfl rfl (wanted_none rfl) (fun a => (hasA_cons (k := 2) rfl (done_of (j := 2) hcu rfl (by decide) rfl) hasA_base)) (ov_nilCheck rfl) rfl rfl (onlyT_spec (k0 := 3) rfl rfl rfl)
  ·exact fun done hi hc hcu => draw_value (i := 4) (t := 20) (v := (pt p0 0)) rfl rfl (wanted_none rfl) (fun a => (hasA_cons (k := 3) rfl (done_of (j := 3) hcu rfl (by decide) rfl) hasA_base)) (ov_fieldAddr (sz := 0) (o := 0) rfl F_field_177_0 F_size_175) rfl rfl (onlyT_spec (k0 := 4) rfl rfl rfl)
  ·exact fun done hi hc hcu => draw_value (i := 5) (t := 21) (v := sv0) rfl rfl (wanted_none rfl) (fun a => (hasA_cons (k := 4) rfl (done_of (j := 4) hcu rfl (by decide) rfl) hasA_base)) (ov_load (v := sv0) rfl F_agg_175 (reads_box1 (i := 2) rfl rfl)) rfl rfl (onlyT_spec (k0 := 5) rfl rfl rfl)
  ·exact fun done hi hc hcu => draw_value (i := 6) (t := 22) (v := (I (l0.length : Int))) rfl rfl (wanted_none rfl) (fun a => (hasA_cons (k := 5) rfl (done_of (j := 5) hcu rfl (by decide) rfl) hasA_base)) (ov_len 3 rfl F_slice_175 rfl (isRd_ownx 174)) rfl rfl (onlyT_spec (k0 := 6) rfl rfl rfl)
  ·exact fun done hi hc hcu => draw_value (i := 7) (t := 23) (v := (Value.bool (decide (x2 < (l0.length : Int))))) rfl rfl (wanted_none rfl) (fun a => (hasA_cons (k := 6) rfl (done_of (j := 6) hcu rfl (by decide) rfl) (hasA_cons (k := 1) rfl (done_of (j := 1) hcu rfl (by decide) rfl) hasA_base))) (ov_bin rfl rfl (b_lss _ _ _)) rfl rfl (onlyT_spec (k0 := 7) rfl rfl rfl)
  ·exact fun done hi hc hcu => draw_value (i := 8) (t := 24) (v := (Value.bool (decide (x2 < (l0.length : Int))))) rfl rfl (wanted_none rfl) (fun a => (hasA_cons (k := 7) rfl (done_of (j := 7) hcu rfl (by decide) rfl) hasA_base)) (ov_move rfl) rfl rfl (onlyT_spec (k0 := 8) rfl rfl rfl)
  ·exact fun done hi hc hcu => draw_value (i := 9) (t := 25) (v := (pt p0 0)) rfl rfl (wanted_on rfl rfl rfl (decide_eq_true c3)) (fun a => (hasA_cons (k := 8) rfl (done_of (j := 8) hcu rfl (by decide) rfl) hasA_base)) (ov_load (v := (pt p0 0)) rfl F_agg_132 (reads_box1 (i := 1) rfl rfl)) rfl rfl (onlyT_spec (k0 := 9) rfl rfl rfl)
  ·exact fun done hi hc hcu => draw_value (i := 10) (t := 26) (v := (pt p0 0)) rfl rfl (wanted_on rfl rfl rfl (decide_eq_true c3)) (fun a => (hasA_cons (k := 8) rfl (done_of (j := 8) hcu rfl (by decide) rfl) (hasA_cons (k := 9) rfl (done_of (j := 9) hcu rfl (by decide) rfl) hasA_base))) (ov_nilCheck rfl) rfl rfl (onlyT_spec (k0 := 10) rfl rfl rfl)
  ·exact fun done hi hc hcu => draw_value (i := 11) (t := 27) (v := (pt p0 0)) rfl rfl (wanted_on rfl rfl rfl (decide_eq_true c3)) (fun a => (hasA_cons (k := 8) rfl (done_of (j := 8) hcu rfl (by decide) rfl) (hasA_cons (k := 10) rfl (done_of (j := 10) hcu rfl (by decide) rfl) hasA_base))) (ov_fieldAddr (sz := 0) (o := 0) rfl F_field_177_0 F_size_175) rfl rfl (onlyT_spec (k0 := 11) rfl rfl rfl)
  ·exact fun done hi hc hcu => draw_value (i := 12) (t := 28) (v := sv0) rfl rfl (wanted_on rfl rfl rfl (decide_eq_true c3)) (fun a => (hasA_cons (k := 8) rfl (done_of (j := 8) hcu rfl (by decide) rfl) (hasA_cons (k := 11) rfl (done_of (j := 11) hcu rfl (by decide) rfl) hasA_base))) (ov_load (v := sv0) rfl F_agg_175 (reads_box1 (i := 2) rfl rfl)) rfl rfl (onlyT_spec (k0 := 12) rfl rfl rfl)
  ·exact fun done hi hc hcu => draw_value (i := 13) (t := 29) (v := (I x2)) rfl rfl (wanted_on rfl rfl rfl (decide_eq_true c3)) (fun a => (hasA_cons (k := 8) rfl (done_of (j := 8) hcu rfl (by decide) rfl) hasA_base)) (ov_move rfl) rfl rfl (onlyT_spec (k0 := 13) rfl rfl rfl)
  ·exact fun done hi hc hcu => draw_value (i := 14) (t := 30) (v := (eptr sv0 (x2.toNat * 2))) rfl rfl (wanted_on rfl rfl rfl (decide_eq_true c3)) (fun a => (hasA_cons (k := 8) rfl (done_of (j := 8) hcu rfl (by decide) rfl) (hasA_cons (k := 13) rfl (done_of (j := 13) hcu rfl (by decide) rfl) (hasA_cons (k := 12) rfl (done_of (j := 12) hcu rfl (by decide) rfl) hasA_base)))) (ov_indexAddr (sz := 1) 3 rfl rfl F_slice_175 F_size_174 rfl (isRd_ownx 174) c4 c3) rfl rfl (onlyT_spec (k0 := 14) rfl rfl rfl)
  ·exact fun done hi hc hcu => draw_value (i := 15) (t := 31) (v := (eptr sv0 (x2.toNat * 2 + 0))) rfl rfl (wanted_on rfl rfl rfl (decide_eq_true c3)) (fun a => (hasA_cons (k := 8) rfl (done_of (j := 8) hcu rfl (by decide) rfl) (hasA_cons (k := 14) rfl (done_of (j := 14) hcu rfl (by decide) rfl) hasA_base))) (ov_fieldAddrE (sz := 0) (k0 := x2.toNat * 2) (off := 0) 3 rfl F_field_174_0 F_size_9 rfl (isRd_ownx 174) (fl_pos enc_Omap_pair__string___int_len (ix_lt c4 c3))) rfl rfl (onlyT_spec (k0 := 15) rfl rfl rfl)
  ·exact fun done hi hc hcu => draw_value (i := 16) (t := 32) (v := (str ((l0.getD x2.toNat z_Omap_pair__string___int).k))) rfl rfl (wanted_on rfl rfl rfl (decide_eq_true c3)) (fun a => (hasA_cons (k := 8) rfl (done_of (j := 8) hcu rfl (by decide) rfl) (hasA_cons (k := 15) rfl (done_of (j := 15) hcu rfl (by decide) rfl) hasA_base))) (ov_load (v := (str ((l0.getD x2.toNat z_Omap_pair__string___int).k))) rfl F_agg_9 (reads_rd (i := 3) rfl (isRd_ownx 174) (by simp [C0_]) (fl_read (off := 0) enc_Omap_pair__string___int_len (ix_lt c4 c3) rfl))) rfl rfl (onlyT_spec (k0 := 16) rfl rfl rfl)
  ·exact fun done hi hc hcu => draw_value (i := 17) (t := 33) (v := (str a1)) rfl rfl (wanted_on rfl rfl rfl (decide_eq_true c3)) (fun a => (hasA_cons (k := 8) rfl (done_of (j := 8) hcu rfl (by decide) rfl) hasA_base)) (ov_load (v := (str a1)) rfl F_agg_9 (reads_box1 (i := 0) rfl rfl)) rfl rfl (onlyT_spec (k0 := 17) rfl rfl rfl)
  ·exact fun done hi hc hcu => draw_value (i := 18) (t := 34) (v := (bool (((l0.getD x2.toNat z_Omap_pair__string___int).k) == a1))) rfl rfl (wanted_on rfl rfl rfl (decide_eq_true c3)) (fun a => (hasA_cons (k := 8) rfl (done_of (j := 8) hcu rfl (by decide) rfl) (hasA_cons (k := 17) rfl (done_of (j := 17) hcu rfl (by decide) rfl) (hasA_cons (k := 16) rfl (done_of (j := 16) hcu rfl (by decide) rfl) hasA_base)))) (ov_bin rfl rfl (b_eql_str _ _)) rfl rfl (onlyT_spec (k0 := 18) rfl rfl rfl)
  ·exact fun done hi hc hcu => draw_value (i := 19) (t := 35) (v := (bool (((l0.getD x2.toNat z_Omap_pair__string___int).k) == a1))) rfl rfl (wanted_none rfl) (fun a => (hasA_cons (k := 18) rfl (done_of (j := 18) hcu rfl (by decide) rfl) (hasA_cons (k := 8) rfl (done_of (j := 8) hcu rfl (by decide) rfl) hasA_base))) (ov_pick rfl rfl rfl (pick_t (decide_eq_true c3))) rfl rfl (onlyT_spec (k0 := 19) rfl rfl rfl)
  ·exact fun done hi hc hcu => draw_value (i := 20) (t := 4) (v := (I x2)) rfl rfl (wanted_none rfl) (fun a => (hasA_cons (k := 0) rfl (done_of (j := 0) hcu rfl (by decide) rfl) hasA_base)) (ov_assign rfl) rfl rfl (onlyT_spec (k0 := 20) rfl rfl rfl)
  ·exact fun done hi hc hcu => draw_value (i := 21) (t := 5) (v := (bool (((l0.getD x2.toNat z_Omap_pair__string___int).k) == a1))) rfl rfl (wanted_none rfl) (fun a => (hasA_cons (k := 19) rfl (done_of (j := 19) hcu rfl (by decide) rfl) hasA_base)) (ov_assign rfl) rfl rfl (onlyT_spec (k0 := 21) rfl rfl rfl)
 ·intro done hall
  refine draw_endL C0_ rfl (fun a => (hasA_cons (k := 20) rfl (hall 20 (by decide)) (hasA_cons (k := 21) rfl (hall 21 (by decide)) (hasA_cons (k := 0) rfl (hall 0 (by decide)) (hasA_cons (k := 1) rfl (hall 1 (by decide)) (hasA_cons (k := 2) rfl (hall 2 (by decide)) (hasA_cons (k := 3) rfl (hall 3 (by decide)) (hasA_cons (k := 4) rfl (hall 4 (by decide)) (hasA_cons (k := 5) rfl (hall 5 (by decide)) (hasA_cons (k := 6) rfl (hall 6 (by decide)) (hasA_cons (k := 7) rfl (hall 7 (by decide)) (hasA_cons (k := 8) rfl (hall 8 (by decide)) (hasA_cons (k := 9) rfl (hall 9 (by decide)) (hasA_cons (k := 10) rfl (hall 10 (by decide)) (hasA_cons (k := 11) rfl (hall 11 (by decide)) (hasA_cons (k := 12) rfl (hall 12 (by decide)) (hasA_cons (k := 13) rfl (hall 13 (by decide)) (hasA_cons (k := 14) rfl (hall 14 (by decide)) (hasA_cons (k := 15) rfl (hall 15 (by decide)) (hasA_cons (k := 16) rfl (hall 16 (by decide)) (hasA_cons (k := 17) rfl (hall 17 (by decide)) (hasA_cons (k := 18) rfl (hall 18 (by decide)) (hasA_cons (k := 19) rfl (hall 19 (by decide)) hasA_base))))))))))))))))))))))) ?_
  refine ent_retc ?_
  cases H
  refine ent_pick [2,3] (by decide) rfl ?_
  exact ret_mem (vs := [I x2,bool (((l0.getD x2.toNat z_Omap_pair__string___int).k) == a1)]) rfl ⟨rfl,⟨rfl,trivial⟩⟩ _ rfl ⟨rfl,rfl⟩

theorem omap_Map__string___int_Put_O.spec (K p0 : Nat) (sv0 : Value) (l0 : List Omap_pair__string___int) (a1 : List UInt8) (a2 : Int) (r : (Bool × (List Omap_pair__string___int))) (H : omap_Map__string___int_Put_O K l0 a1 a2 = some r) : FnSpec Try.prog 89 [pt p0 0,str a1,I a2] [box p0 177 [sv0],own sv0 174 2 l0.length (fl enc_Omap_pair__string___int l0)] (fun v M => ∃ sv3 : Value,v = (bool r.1) ∧ M = [box p0 177 [sv3],own sv3 174 2 r.2.length (fl enc_Omap_pair__string___int r.2)]) := by
 unfold omap_Map__string___int_Put_O at H
 refine spec_of Try.func89 rfl 39 rfl (Nat.le_of_ble_eq_true rfl) fun F w0 => ?_
 show Ent (St 39 w0 F [(0,pt p0 0),(1,str a1),(2,I a2)] [box p0 177 [sv0],own sv0 174 2 l0.length (fl enc_Omap_pair__string___int l0)]) _
 refine ent_seq (ent_region (ent_value (ov_assign rfl) rfl rfl rfl (ent_nil (ent_seq (ent_seq (ent_region (ent_value (ov_move rfl) rfl rfl rfl ?_)))))))
 refine ent_value (ov_bin rfl rfl (b_eql_of (fun w => rfl) rfl (eq_pn Try.underlying132 _ _))) rfl rfl rfl ?_
 refine ent_nil (ent_cond_false rfl rfl (ent_skip (ent_seq (ent_region (ent_value (ov_move rfl) rfl rfl rfl (ent_value (ov_move rfl) rfl rfl rfl ?_))))))
 obtain ⟨x3,h3,H⟩ := Option.bind_eq_some_iff.1 H
 refine ent_op (ot_call_same (Lr := []) [0,1] [0,1] (first := []) (cap := []) (xs := [.tmp 12,.tmp 13]) rfl rfl F_call_91 rfl (omap_Map__string___int_place_O.spec K p0 sv0 l0 a1 _ h3) (by decide) rfl (by decide) rfl) rfl rfl rfl ?_
 rintro _ _ ⟨rfl,rfl⟩
 refine ent_value (ov_move rfl) rfl rfl rfl (ent_value (ov_extract rfl rfl) rfl rfl rfl (ent_value (ov_extract rfl rfl) rfl rfl rfl (ent_value (ov_assign rfl) rfl rfl rfl (ent_value (ov_assign rfl) rfl rfl rfl (ent_nil (ent_seq (ent_seq (ent_region (ent_value (ov_move rfl) rfl rfl rfl (ent_nil ?_))))))))))
 refine htT H (fun c10 H => ?_) fun c10 H => ?_
 ·refine ent_cond_true rfl c10 (ent_seq (ent_region (ent_value (ov_move rfl) rfl rfl rfl (ent_value (ov_nilCheck rfl) rfl rfl rfl (ent_value (ov_fieldAddr (sz := 0) (o := 0) rfl F_field_177_0 F_size_175) rfl rfl rfl (ent_value (ov_load (v := sv0) rfl F_agg_175 (reads_box1 (i := 0) rfl rfl)) rfl rfl rfl (ent_value (ov_move rfl) rfl rfl rfl (ent_value (ov_move rfl) rfl rfl rfl ?_))))))))
  obtain ⟨c11,H⟩ := gdT H
  obtain ⟨c12,H⟩ := gdT H
  refine ent_value (ov_indexAddr (sz := 1) 1 rfl rfl F_slice_175 F_size_174 rfl (isRd_ownx 174) c11 c12) rfl rfl rfl (ent_value (ov_fieldAddrE (sz := 0) (k0 := x3.2.toNat * 2) (off := 1) 1 rfl F_field_174_1 F_size_3 rfl (isRd_ownx 174) (fl_pos enc_Omap_pair__string___int_len (ix_lt c11 c12))) rfl rfl rfl ?_)
  refine ent_op0 (ot_storeEx (z := z_Omap_pair__string___int) (y := (⟨(l0.getD x3.2.toNat z_Omap_pair__string___int).k,a2⟩ : Omap_pair__string___int)) (us := [I a2]) (L' := [box p0 177 [sv0],own sv0 174 2 (l0.set x3.2.toNat (⟨(l0.getD x3.2.toNat z_Omap_pair__string___int).k,a2⟩ : Omap_pair__string___int)).length (fl enc_Omap_pair__string___int (l0.set x3.2.toNat (⟨(l0.getD x3.2.toNat z_Omap_pair__string___int).k,a2⟩ : Omap_pair__string___int)))]) 1 rfl rfl rfl (all_one rfl) F_size_3 enc_Omap_pair__string___int_len (ix_lt c11 c12) rfl rfl rfl rfl rfl) rfl rfl ?_
  rintro _ _ rfl
  refine ent_nil (ent_seq (ent_region (ent_value (ov_assign rfl) rfl rfl rfl (ent_nil (ent_retc ?_)))))
  cases H
  refine ent_pick [0,1] (by decide) rfl ?_
  exact ret_tmp rfl rfl ⟨_,rfl,rfl⟩
 refine ent_cond_false rfl (Bool.eq_false_iff.2 c10) (ent_skip (ent_seq (ent_region (ent_value (ov_move rfl) rfl rfl rfl (ent_value (ov_move rfl) rfl rfl rfl (ent_value (ov_nilCheck rfl) rfl rfl rfl (ent_value (ov_fieldAddr (sz := 0) (o := 0) rfl F_field_177_0 F_size_175) rfl rfl rfl (ent_value (ov_load (v := sv0) rfl F_agg_175 (reads_box1 (i := 0) rfl rfl)) rfl rfl rfl (ent_value (ov_move rfl) rfl rfl rfl (ent_value (ov_move rfl) rfl rfl rfl (ent_value (ov_move rfl) rfl rfl rfl ?_)))))))))))
 refine ent_value (ov_build (is := [0,1]) (xs := [.tmp 32,.tmp 33]) (vs := [str a1,I a2]) rfl rfl (build_struct (cs := [str a1,I a2]) F_zero_174 F_places_174 rfl)) rfl rfl rfl ?_
 refine ent_op (ot_buildSlice (sz := 1) (xs := [.tmp 34]) (cs := fl enc_Omap_pair__string___int [(⟨a1,a2⟩ : Omap_pair__string___int)]) rfl rfl F_slice_175 F_size_174 F_zero_174 rfl rfl (all_size rfl) rfl (by decide)) rfl rfl rfl ?_
 rintro sv4 _ rfl
 obtain ⟨x4,h4,H⟩ := Option.bind_eq_some_iff.1 H
 refine ent_pick [2,0,1] (by decide) rfl ?_
 refine ent_op (ot_call (Lr := [box p0 177 [sv0]]) (first := []) (cap := []) (xs := [.tmp 30,.tmp 31,.tmp 35]) rfl rfl F_call_116 rfl (slices_Insert____omap_pair__string___int__omap_pair__string___int.spec sv0 sv4 l0 x3.2 [(⟨a1,a2⟩ : Omap_pair__string___int)] _ h4) rfl) rfl rfl rfl ?_
 rintro sv5 _ ⟨_,⟨_,rfl,rfl⟩,rfl⟩
 refine ent_value (ov_nilCheck rfl) rfl rfl rfl (ent_value (ov_fieldAddr (sz := 0) (o := 0) rfl F_field_177_0 F_size_175) rfl rfl rfl ?_)
 refine ent_op0 (ot_storeS (cs := [sv0]) (cs' := [sv5]) (sv := sv5) (L' := [own sv5 174 2 x4.length (fl enc_Omap_pair__string___int x4),own sv4 174 2 [(⟨a1,a2⟩ : Omap_pair__string___int)].length (fl enc_Omap_pair__string___int [(⟨a1,a2⟩ : Omap_pair__string___int)]),box p0 177 [sv5]]) 2 0 rfl rfl F_size_175 rfl rfl (isRd_ownx 174) rfl (by simp) rfl) rfl rfl ?_
 rintro _ _ rfl
 refine ent_nil (ent_seq (ent_region (ent_value (ov_assign rfl) rfl rfl rfl (ent_nil (ent_retc ?_)))))
 cases H
 refine ent_pick [2,0] (by decide) rfl ?_
 exact ret_tmp rfl rfl ⟨_,rfl,rfl⟩

theorem omap_each__string__int_R.spec (sv0 : Value) (A0 : HP) (l0 : List Omap_pair__string___int) (hA0 : IsRd A0 sv0 l0.length 2 (fl enc_Omap_pair__string___int l0)) (r : Unit) (H : omap_each__string__int_R l0 = r) : FnSpec Try.prog 117 [sv0] [A0] (fun v M => ∃ b2 : Nat,v = (Value.func (.func 142) #[] #[pt b2 0]) ∧ M = [A0,box b2 175 [sv0]]) := by
 unfold omap_each__string__int_R at H
 refine spec_of Try.func117 rfl 4 rfl (Nat.le_of_ble_eq_true rfl) fun F w0 => ?_
 show Ent (St 4 w0 F [(0,sv0)] [A0]) _
 refine ent_seq (ent_region ?_)
 refine ent_op (ot_boxS 0 rfl rfl hA0) rfl rfl rfl ?_
 rintro _ _ ⟨b3,rfl,rfl⟩
 refine ent_value (ov_assign rfl) rfl rfl rfl (ent_nil (ent_seq (ent_region (ent_value (ov_makeFunc (first := []) (cap := [.tmp 1]) rfl rfl) rfl rfl rfl (ent_value (ov_assign rfl) rfl rfl rfl (ent_nil (ent_retc ?_)))))))
 cases H
 refine ent_pick [1,0] (by decide) rfl ?_
 exact ret_tmp rfl rfl ⟨_,rfl,rfl⟩

theorem omap_Map__string___int_All_O.spec (p0 : Nat) (sv0 : Value) (l0 : List Omap_pair__string___int) (r : Unit) (H : omap_Map__string___int_All_O l0 = r) : FnSpec Try.prog 90 [pt p0 0] [box p0 177 [sv0],own sv0 174 2 l0.length (fl enc_Omap_pair__string___int l0)] (fun v M => ∃ b2 : Nat,v = (Value.func (.func 142) #[] #[pt b2 0]) ∧ M = [box p0 177 [sv0],own sv0 174 2 l0.length (fl enc_Omap_pair__string___int l0),box b2 175 [sv0]]) := by
 unfold omap_Map__string___int_All_O at H
 refine spec_of Try.func90 rfl 11 rfl (Nat.le_of_ble_eq_true rfl) fun F w0 => ?_
 show Ent (St 11 w0 F [(0,pt p0 0)] [box p0 177 [sv0],own sv0 174 2 l0.length (fl enc_Omap_pair__string___int l0)]) _
 refine ent_seq (ent_region (ent_value (ov_assign rfl) rfl rfl rfl (ent_nil (ent_seq (ent_seq (ent_region (ent_value (ov_move rfl) rfl rfl rfl ?_)))))))
 refine ent_value (ov_bin rfl rfl (b_eql_of (fun w => rfl) rfl (eq_pn Try.underlying132 _ _))) rfl rfl rfl ?_
 refine ent_nil (ent_cond_false rfl rfl (ent_skip (ent_seq (ent_region (ent_value (ov_move rfl) rfl rfl rfl (ent_value (ov_nilCheck rfl) rfl rfl rfl (ent_value (ov_fieldAddr (sz := 0) (o := 0) rfl F_field_177_0 F_size_175) rfl rfl rfl (ent_value (ov_load (v := sv0) rfl F_agg_175 (reads_box1 (i := 0) rfl rfl)) rfl rfl rfl ?_))))))))
 obtain ⟨u2,h2,H⟩ := thn_elim H
 refine ent_pick [1,0] (by decide) rfl ?_
 refine ent_op (ot_call (Lr := [box p0 177 [sv0]]) (first := []) (cap := []) (xs := [.tmp 9]) rfl rfl F_call_117 rfl (omap_each__string__int_R.spec sv0 (own sv0 174 2 l0.length (fl enc_Omap_pair__string___int l0)) l0 (isRd_ownx 174) _ h2) rfl) rfl rfl rfl ?_
 rintro _ _ ⟨_,⟨b3,rfl,rfl⟩,rfl⟩
 refine ent_value (ov_assign rfl) rfl rfl rfl (ent_nil (ent_retc ?_))
 cases H
 refine ent_pick [2,0,1] (by decide) rfl ?_
 exact ret_tmp rfl rfl ⟨_,rfl,rfl⟩

theorem omap_each__string__int_1_YR.spec (K yl0 p0 : Nat) (sv0 : Value) (A0 : HP) (Gm0 : Type) (y0 : (List UInt8) → Int → Gm0 → Option (Gm0 × Bool)) (x0y : Gm0) (l0 : List Omap_pair__string___int) (Y0 : Gm0 → HP) (hY0 : ∀ (t0_ : List UInt8) (t1_ : Int) (z_ : Gm0) (r_ : Gm0 × Bool),y0 t0_ t1_ z_ = some r_ → YSpec Try.prog yl0 [str t0_,I t1_] [Y0 z_] (fun v N => v = .bool r_.2 ∧ N = [Y0 r_.1])) (hA0 : IsRd A0 sv0 l0.length 2 (fl enc_Omap_pair__string___int l0)) (r : Gm0) (H : omap_each__string__int_1_YR K Gm0 y0 x0y l0 = some r) : FnSpec Try.prog 142 [(Value.func (.yield yl0) #[] #[]),pt p0 0] [(Y0 x0y),box p0 175 [sv0],A0] (fun v M => v = (tU #[]) ∧ M = [(Y0 r),box p0 175 [sv0],A0]) := by
 unfold omap_each__string__int_1_YR at H
 refine spec_of Try.func142 rfl 19 rfl (Nat.le_of_ble_eq_true rfl) fun F w0 => ?_
 show Ent (St 19 w0 F [(0,(Value.func (.yield yl0) #[] #[])),(1,pt p0 0)] [(Y0 x0y),box p0 175 [sv0],A0]) _
 refine ent_seq (ent_region (ent_value (ov_load (v := sv0) rfl F_agg_175 (reads_box1 (i := 1) rfl rfl)) rfl rfl rfl (ent_value (ov_len 2 rfl F_slice_175 rfl hA0) rfl rfl rfl (ent_value (ov_move rfl) rfl rfl rfl (ent_nil (ent_block ?_))))))
 refine ent_loop (fun k a w => ∃ i2,∃ l3,omap_each__string__int_1_YR_l0 K Gm0 y0 l0 k i2 l3 = some r ∧ St 19 w0 F [(0,(Value.func (.yield yl0) #[] #[])),(5,sv0),(6,I (l0.length : Int)),(7,I i2)] [(Y0 l3),box p0 175 [sv0],A0] a w) K ?_ ?_
 ·exact ent_fin [0,1,2] (by decide) rfl (sub_cons (t := 0) rfl (sub_cons (t := 5) rfl (sub_cons (t := 6) rfl (sub_cons (t := 7) rfl (sub_nil _))))) fun a w h => ⟨_,_,H,h⟩
 ·refine fun k => ent_exi fun i2 => ent_exi fun l3 => ent_and fun H2 => ?_
  let C0_ : List Value := [str ((l0.getD i2.toNat z_Omap_pair__string___int).k),I ((l0.getD i2.toNat z_Omap_pair__string___int).v)]
  cases k with
  | zero => exact absurd H2 (by simp [C0_,omap_each__string__int_1_YR_l0])
  | succ k =>
   rw [omap_each__string__int_1_YR_l0] at H2
   refine ent_seq (ent_region (ent_value (ov_bin rfl rfl (b_lss _ _ _)) rfl rfl rfl (ent_nil (ent_seq ?_))))
   refine htF H2 (fun c28 H2 => ?_) fun c28 H2 => ?_
   ·refine ent_cond_false rfl (decide_eq_false c28) (ent_exit ?_)
    cases H2
    refine ret_normal ?_
    refine ent_pick [0,1,2] (by decide) rfl ?_
    exact ret_none rfl ⟨rfl,rfl⟩
   refine ent_cond_true rfl (decide_eq_true c28) (ent_skip (ent_seq (ent_block (ent_seq (ent_region ?_)))))
   obtain ⟨c31,H2⟩ := gdT H2
   refine ent_value (ov_indexAddr (sz := 1) 2 rfl rfl F_slice_175 F_size_174 rfl hA0 c31 c28) rfl rfl rfl ?_
   refine ent_value (ov_load_agg (vs := C0_) rfl F_agg_174 F_size_174 (reads_rd (i := 2) rfl hA0 (by simp [C0_]) (fl_read0 enc_Omap_pair__string___int_len (ix_lt c31 c28) rfl))) rfl rfl rfl ?_
   refine ent_op (ot_alloc F_zero_174) rfl rfl rfl ?_
   rintro _ _ ⟨b12,rfl,rfl⟩
   refine ent_op0 (ot_storeG (cs := [S0,I 0]) (cs' := C0_) (us := C0_) (L' := [box b12 174 C0_,(Y0 l3),box p0 175 [sv0],A0]) 0 rfl rfl rfl (one_all rfl) F_size_174 rfl rfl (by simp [C0_]) rfl) rfl rfl ?_
   rintro _ _ rfl
   refine ent_nil (ent_seq (ent_region (ent_value (ov_move rfl) rfl rfl rfl (ent_value (ov_fieldAddr (sz := 0) (o := 0) rfl F_field_174_0 F_size_9) rfl rfl rfl (ent_value (ov_load (v := (str ((l0.getD i2.toNat z_Omap_pair__string___int).k))) rfl F_agg_9 (reads_box1 (i := 0) rfl rfl)) rfl rfl rfl (ent_value (ov_fieldAddr (sz := 0) (o := 0) rfl F_field_174_1 F_size_3) rfl rfl rfl (ent_value (ov_load (v := (I ((l0.getD i2.toNat z_Omap_pair__string___int).v))) rfl F_agg_3 (reads_box1 (i := 0) rfl rfl)) rfl rfl rfl ?_)))))))
   obtain ⟨x12,h12,H2⟩ := Option.bind_eq_some_iff.1 H2
   refine ent_pick [1,0,2,3] (by decide) rfl ?_
   refine ent_opI (oi_yield (vs := C0_) (Lp := [(Y0 l3)]) (Lr := [box b12 174 C0_,box p0 175 [sv0],A0]) rfl rfl (hY0 _ _ _ _ h12) rfl) rfl rfl rfl ?_
   rintro _ _ ⟨_,⟨rfl,rfl⟩,rfl⟩
   refine ent_value (ov_un rfl (u_not _)) rfl rfl rfl (ent_nil ?_)
   refine htT H2 (fun c32 H2 => ?_) fun c32 H2 => ?_
   ·refine ent_cond_true rfl c32 (ent_retc ?_)
    cases H2
    refine ent_pick [0,2,3] (by decide) rfl ?_
    exact ret_none rfl ⟨rfl,rfl⟩
   refine ent_cond_false rfl (Bool.eq_false_iff.2 c32) (ent_skip (ent_region (ent_value (ov_bin rfl rfl (b_add _ _ _) ) rfl rfl rfl (ent_value (ov_move rfl) rfl rfl rfl (ent_nil ?_)))))
   exact ent_fin [0,2,3] (by decide) rfl (sub_cons (t := 0) rfl (sub_cons (t := 5) rfl (sub_cons (t := 6) rfl (sub_cons (t := 7) rfl (sub_nil _))))) fun a w h => ⟨k,Nat.lt_succ_self k,_,_,H2,h⟩

theorem dict_Of__string_R.spec (K : Nat) (sv0 : Value) (A0 : HP) (l0 : List (List UInt8)) (hA0 : IsRd A0 sv0 l0.length 1 (fl eS l0)) (r : ((List (List UInt8)) × (List Omap_pair__string___int))) (H : dict_Of__string_R K l0 = some r) : FnSpec Try.prog 61 [sv0] [A0] (fun v M => ∃ b8 : Nat,∃ sv40 : Value,∃ b9 : Nat,∃ sv41 : Value,v = (pt b8 0) ∧ M = [A0,box b8 134 [sv40,pt b9 0],own sv40 9 1 r.1.length (fl eS r.1),box b9 177 [sv41],own sv41 174 2 r.2.length (fl enc_Omap_pair__string___int r.2)]) := by
 unfold dict_Of__string_R at H
 refine spec_of Try.func61 rfl 61 rfl (Nat.le_of_ble_eq_true rfl) fun F w0 => ?_
 show Ent (St 61 w0 F [(0,sv0)] [A0]) _
 refine ent_seq (ent_region (ent_value (ov_assign rfl) rfl rfl rfl (ent_nil (ent_seq (ent_region ?_)))))
 obtain ⟨u4,h30,H⟩ := thn_elim H
 refine ent_op (ot_call (Lr := [A0]) (first := []) (cap := []) (xs := []) rfl rfl F_call_88 rfl (omap_New__string__int.spec _ h30) rfl) rfl rfl rfl ?_
 rintro _ _ ⟨_,⟨b10,rfl,rfl⟩,rfl⟩
 refine ent_value (ov_build (is := [1]) (xs := [.tmp 9]) (vs := [pt b10 0]) rfl rfl (build_struct (cs := [L0,pt b10 0]) F_zero_134 F_places_134 rfl)) rfl rfl rfl ?_
 refine ent_op (ot_box (cs := [L0,pt b10 0]) rfl rfl) rfl rfl rfl ?_
 rintro _ _ ⟨b11,rfl,rfl⟩
 refine ent_op (ot_alloc F_zero_84) rfl rfl rfl ?_
 rintro _ _ ⟨b12,rfl,rfl⟩
 refine ent_op0 (ot_storeG (cs := [P0]) (cs' := [pt b11 0]) (us := [pt b11 0]) (L' := [box b12 84 [pt b11 0],box b11 134 [L0,pt b10 0],box b10 177 [L0],A0]) 0 rfl rfl rfl (one_all rfl) F_size_84 rfl rfl (by simp) rfl) rfl rfl ?_
 rintro _ _ rfl
 refine ent_nil ?_
 obtain ⟨x35,H8,H⟩ := Option.bind_eq_some_iff.1 H
 refine ent_seq_cut (fun a w => ∃ b13 : Nat,∃ b14 : Nat,∃ sv49 : Value,St 61 w0 F [(3,pt b13 0)] [A0,box b13 84 [pt b14 0],box b14 134 [L0,pt b10 0],box b10 177 [sv49],own sv49 174 2 x35.length (fl enc_Omap_pair__string___int x35)] a w) ?_ ?_
 ·refine ent_seq (ent_region (ent_value (ov_move rfl) rfl rfl rfl (ent_value (ov_len 3 rfl F_slice_30 rfl hA0) rfl rfl rfl (ent_value (ov_move rfl) rfl rfl rfl (ent_nil (ent_block ?_))))))
  refine ent_loop (fun k a w => ∃ i6,∃ l13,∃ sv52 : Value,dict_Of__string_R_l0 K l0 k i6 l13 = some x35 ∧ St 61 w0 F [(3,pt b12 0),(12,sv0),(13,I (l0.length : Int)),(14,I i6)] [A0,box b12 84 [pt b11 0],box b11 134 [L0,pt b10 0],box b10 177 [sv52],own sv52 174 2 l13.length (fl enc_Omap_pair__string___int l13)] a w) K ?_ ?_
  ·refine ent_ownnil 174 2 ?_
   exact ent_fin [4,1,2,3,0] (by decide) rfl (sub_cons (t := 3) rfl (sub_cons (t := 12) rfl (sub_cons (t := 13) rfl (sub_cons (t := 14) rfl (sub_nil _))))) fun a w h => ⟨_,_,_,H8,h⟩
  ·refine fun k => ent_exi fun i6 => ent_exi fun l13 => ent_exi fun sv52 => ent_and fun H9 => ?_
   cases k with
   | zero => exact absurd H9 (by simp [dict_Of__string_R_l0])
   | succ k =>
    rw [dict_Of__string_R_l0] at H9
    refine ent_seq (ent_region (ent_value (ov_bin rfl rfl (b_lss _ _ _)) rfl rfl rfl (ent_nil (ent_seq ?_))))
    refine htF H9 (fun c64 H9 => ?_) fun c64 H9 => ?_
    ·refine ent_cond_false rfl (decide_eq_false c64) (ent_exit ?_)
     cases H9
     exact ent_fin [0,1,2,3,4] (by decide) rfl (sub_cons (t := 3) rfl (sub_nil _)) fun a w h => ⟨_,_,_,h⟩
    refine ent_cond_true rfl (decide_eq_true c64) (ent_skip (ent_seq (ent_block (ent_seq (ent_region ?_)))))
    obtain ⟨c66,H9⟩ := gdT H9
    refine ent_value (ov_indexAddr (sz := 0) 0 rfl rfl F_slice_30 F_size_9 rfl hA0 c66 c64) rfl rfl rfl ?_
    refine ent_value (ov_load (v := (str (l0.getD i6.toNat []))) rfl F_agg_9 (reads_rd (i := 0) rfl hA0 (by simp) (fl_read0 eS_len (ix_lt c66 c64) rfl))) rfl rfl rfl ?_
    refine ent_value (ov_assign rfl) rfl rfl rfl (ent_nil (ent_region (ent_value (ov_load (v := (pt b11 0)) rfl F_agg_84 (reads_box1 (i := 1) rfl rfl)) rfl rfl rfl (ent_value (ov_nilCheck rfl) rfl rfl rfl (ent_value (ov_fieldAddr (sz := 0) (o := 0) rfl F_field_134_1 F_size_132) rfl rfl rfl (ent_value (ov_load (v := (pt b10 0)) rfl F_agg_132 (reads_box1 (i := 2) rfl rfl)) rfl rfl rfl (ent_value (ov_move rfl) rfl rfl rfl ?_)))))))
    obtain ⟨x41,h42,H9⟩ := Option.bind_eq_some_iff.1 H9
    refine ent_pick [3,4,0,1,2] (by decide) rfl ?_
    refine ent_op (ot_call (Lr := [A0,box b12 84 [pt b11 0],box b11 134 [L0,pt b10 0]]) (first := []) (cap := []) (xs := [.tmp 21,.tmp 22,.const (I 0)]) rfl rfl F_call_89 rfl (omap_Map__string___int_Put_O.spec K b10 sv52 l13 (l0.getD i6.toNat []) 0 _ h42) rfl) rfl rfl rfl ?_
    rintro _ _ ⟨_,⟨sv56,rfl,rfl⟩,rfl⟩
    refine ent_nil (ent_region (ent_value (ov_bin rfl rfl (b_add _ _ _) ) rfl rfl rfl (ent_value (ov_move rfl) rfl rfl rfl (ent_nil ?_))))
    exact ent_fin [2,3,4,0,1] (by decide) rfl (sub_cons (t := 3) rfl (sub_cons (t := 12) rfl (sub_cons (t := 13) rfl (sub_cons (t := 14) rfl (sub_nil _))))) fun a w h => ⟨k,Nat.lt_succ_self k,_,_,_,H9,h⟩
 ·refine ent_exi fun b13 => ent_exi fun b14 => ent_exi fun sv49 => ?_
  obtain ⟨x43,H10,H⟩ := Option.bind_eq_some_iff.1 H
  refine ent_seq_cut (fun a w => ∃ sv61 : Value,St 61 w0 F [(3,pt b13 0)] [A0,box b13 84 [pt b14 0],box b14 134 [sv61,pt b10 0],own sv61 9 1 x43.length (fl eS x43),box b10 177 [sv49],own sv49 174 2 x35.length (fl enc_Omap_pair__string___int x35)] a w) ?_ ?_
  ·refine ent_seq (ent_region (ent_value (ov_load (v := (pt b14 0)) rfl F_agg_84 (reads_box1 (i := 1) rfl rfl)) rfl rfl rfl (ent_value (ov_nilCheck rfl) rfl rfl rfl (ent_value (ov_fieldAddr (sz := 0) (o := 0) rfl F_field_134_1 F_size_132) rfl rfl rfl (ent_value (ov_load (v := (pt b10 0)) rfl F_agg_132 (reads_box1 (i := 2) rfl rfl)) rfl rfl rfl ?_)))))
   obtain ⟨u6,h45,H10⟩ := thn_elim H10
   refine ent_pick [3,4,0,1,2] (by decide) rfl ?_
   refine ent_op (ot_call (Lr := [A0,box b13 84 [pt b14 0],box b14 134 [L0,pt b10 0]]) (first := []) (cap := []) (xs := [.tmp 28]) rfl rfl F_call_90 rfl (omap_Map__string___int_All_O.spec b10 sv49 x35 _ h45) rfl) rfl rfl rfl ?_
   rintro _ _ ⟨_,⟨b16,rfl,rfl⟩,rfl⟩
   refine ent_nil (ent_block ?_)
   obtain ⟨x44,h46,H10⟩ := Option.bind_eq_some_iff.1 H10
   refine ent_ownnil 9 1 ?_
   refine ent_rangeY (γ := List (List UInt8)) (cap := [pt b16 0]) (Lg := [box b16 175 [sv49],own sv49 174 2 x35.length (fl enc_Omap_pair__string___int x35)]) (M0 := [A0,box b13 84 [pt b14 0],box b14 134 [L0,pt b10 0],own L0 9 1 0 [],box b10 177 [sv49]]) (x0 := ([] : List (List UInt8))) (x1 := x44) (fun (z4 : List (List UInt8)) M => ∃ sv63 : Value,M = [A0,box b13 84 [pt b14 0],box b14 134 [sv63,pt b10 0],own sv63 9 1 z4.length (fl eS z4),box b10 177 [sv49]]) (fun vs z_ r_ => ∃ t0_ : List UInt8,∃ t1_ : Int,vs = [str t0_,I t1_] ∧ dict_Of__string_R_r1 K t0_ t1_ z_ = some r_) [3,2,4,5,6,0,1] rfl rfl (by decide) rfl (by decide) ⟨_,rfl⟩ ?_ ?_ ?_
   ·rintro l _ z4 r _ ⟨t0_,t1_,rfl,Hl⟩ ⟨sv63,rfl⟩
    unfold dict_Of__string_R_r1 at Hl
    refine ⟨rfl,Unit,fun g_ => [(3,pt b13 0),(6,str t0_),(30,str t0_),(31,I t1_)],fun g_ => [A0,box b13 84 [pt b14 0],box b14 134 [sv63,pt b10 0],own sv63 9 1 z4.length (fl eS z4),box b10 177 [sv49]],fun F w0 => ?_,?_⟩
    ·refine ent_region (ent_value (ov_assign rfl) rfl rfl rfl (ent_nil ?_))
     exact ent_fin [0,1,2,3,4] (by decide) rfl (sub_cons (t := 3) rfl (sub_cons (t := 6) rfl (sub_cons (t := 30) rfl (sub_cons (t := 31) rfl (sub_nil _))))) fun a w h => ⟨(),h⟩
    ·rintro _ F w0
     show Ent (St 61 w0 F [(3,pt b13 0),(6,str t0_),(30,str t0_),(31,I t1_)] [A0,box b13 84 [pt b14 0],box b14 134 [sv63,pt b10 0],own sv63 9 1 z4.length (fl eS z4),box b10 177 [sv49]]) _
     refine ent_block ?_
     obtain ⟨c72,Hl⟩ := gdT Hl
     refine ent_ownnil 9 1 ?_
     let Z12_T : DT := fun ga13 => [(0,32,pt b14 0),(1,33,pt b14 0),(2,34,pt b14 0),(3,35,pt b14 0),(4,36,sv63),(5,37,str t0_),(6,38,(ga13 6)),(7,39,(ga13 7)),(8,40,pt b14 0),(9,41,pt b14 0)]
     let Z12_L : DL := fun ga13 done => [sel (done 6) (own (ga13 6) 9 1 [t0_].length (fl eS [t0_])) emp,own L0 9 1 ([] : List (List UInt8)).length (fl eS ([] : List (List UInt8))),A0,box b13 84 [pt b14 0],sel (done 10) (box b14 134 [(ga13 7),pt b10 0]) (box b14 134 [sv63,pt b10 0]),sel (done 7) (own (ga13 7) 9 1 (z4 ++ [t0_]).length (fl eS (z4 ++ [t0_]))) (own sv63 9 1 z4.length (fl eS z4)),box b10 177 [sv49]]
     let Z12_I : DI := fun ga13 done a w => StD 61 w0 F [(3,pt b13 0),(6,str t0_),(30,str t0_),(31,I t1_)] (Z12_T ga13) done (Z12_L ga13 done) a w
     refine ent_drawm 11 rfl (fun done a w => ∃ ga13 : Nat → Value,Z12_I ga13 done a w) (by kernel_rfl) (by kernel_rfl) (draw_startG (T := Z12_T) (L' := fun ga13 : Nat → Value => [sel false (own (ga13 6) 9 1 [t0_].length (fl eS [t0_])) emp,own L0 9 1 ([] : List (List UInt8)).length (fl eS ([] : List (List UInt8))),A0,box b13 84 [pt b14 0],sel false (box b14 134 [(ga13 7),pt b10 0]) (box b14 134 [sv63,pt b10 0]),sel false (own (ga13 7) 9 1 (z4 ++ [t0_]).length (fl eS (z4 ++ [t0_]))) (own sv63 9 1 z4.length (fl eS z4)),box b10 177 [sv49]]) 1 (sub_cons (t := 3) rfl (sub_cons (t := 6) rfl (sub_cons (t := 30) rfl (sub_cons (t := 31) rfl (sub_nil _))))) (fun _ => rfl)) ?_ ?_
     ·refine ⟨?_,?_,?_,?_,?_,?_,?_,?_,?_,?_,?_,trivial⟩
      ·exact fun done hi hc hcu => draw_exi (I := Z12_I) fun ga13 => draw_value (i := 0) (t := 32) (v := (pt b14 0)) rfl rfl (wanted_none rfl) (fun a => hasA_base) (ov_load (v := (pt b14 0)) rfl F_agg_84 (reads_box1 (i := 3) rfl rfl)) rfl rfl (onlyT_spec (k0 := 0) rfl rfl rfl)
      ·exact fun done hi hc hcu => draw_exi (I := Z12_I) fun ga13 => draw_value (i := 1) (t := 33) (v := (pt b14 0)) rfl rfl (wanted_none rfl) (fun a => hasA_base) (ov_load (v := (pt b14 0)) rfl F_agg_84 (reads_box1 (i := 3) rfl rfl)) rfl rfl (onlyT_spec (k0 := 1) rfl rfl rfl)
      ·intro done hi hc hcu
       refine draw_exi (I := Z12_I) fun ga13 => ?_
       have d1 : done 1 = true := done_of (j := 1) hcu rfl (by decide) rfl
       have n10 : done 10 = false := notdone_of (m := 10) hc hi rfl rfl
       exact draw_value (i := 2) (t := 34) (v := (pt b14 0)) rfl rfl (wanted_none rfl) (fun a => (hasA_cons (k := 1) rfl d1 hasA_base)) (ov_L (L2 := [sel (done 6) (own (ga13 6) 9 1 [t0_].length (fl eS [t0_])) emp,own L0 9 1 ([] : List (List UInt8)).length (fl eS ([] : List (List UInt8))),A0,box b13 84 [pt b14 0],box b14 134 [sv63,pt b10 0],sel (done 7) (own (ga13 7) 9 1 (z4 ++ [t0_]).length (fl eS (z4 ++ [t0_]))) (own sv63 9 1 z4.length (fl eS z4)),box b10 177 [sv49]]) (by simp only [Z12_T,Z12_L,n10,sel]) (ov_nilCheck rfl)) rfl rfl (onlyT_spec (k0 := 2) rfl rfl rfl)
      ·intro done hi hc hcu
       refine draw_exi (I := Z12_I) fun ga13 => ?_
       have d2 : done 2 = true := done_of (j := 2) hcu rfl (by decide) rfl
       have n10 : done 10 = false := notdone_of (m := 10) hc hi rfl rfl
       exact draw_value (i := 3) (t := 35) (v := (pt b14 0)) rfl rfl (wanted_none rfl) (fun a => (hasA_cons (k := 2) rfl d2 hasA_base)) (ov_L (L2 := [sel (done 6) (own (ga13 6) 9 1 [t0_].length (fl eS [t0_])) emp,own L0 9 1 ([] : List (List UInt8)).length (fl eS ([] : List (List UInt8))),A0,box b13 84 [pt b14 0],box b14 134 [sv63,pt b10 0],sel (done 7) (own (ga13 7) 9 1 (z4 ++ [t0_]).length (fl eS (z4 ++ [t0_]))) (own sv63 9 1 z4.length (fl eS z4)),box b10 177 [sv49]]) (by simp only [Z12_T,Z12_L,n10,sel]) (ov_fieldAddr (sz := 0) (o := 0) rfl F_field_134_0 F_size_30)) rfl rfl (onlyT_spec (k0 := 3) rfl rfl rfl)
      ·intro done hi hc hcu
       refine draw_exi (I := Z12_I) fun ga13 => ?_
       have d3 : done 3 = true := done_of (j := 3) hcu rfl (by decide) rfl
       have n10 : done 10 = false := notdone_of (m := 10) hc hi rfl rfl
       exact draw_value (i := 4) (t := 36) (v := sv63) rfl rfl (wanted_none rfl) (fun a => (hasA_cons (k := 3) rfl d3 hasA_base)) (ov_L (L2 := [sel (done 6) (own (ga13 6) 9 1 [t0_].length (fl eS [t0_])) emp,own L0 9 1 ([] : List (List UInt8)).length (fl eS ([] : List (List UInt8))),A0,box b13 84 [pt b14 0],box b14 134 [sv63,pt b10 0],sel (done 7) (own (ga13 7) 9 1 (z4 ++ [t0_]).length (fl eS (z4 ++ [t0_]))) (own sv63 9 1 z4.length (fl eS z4)),box b10 177 [sv49]]) (by simp only [Z12_T,Z12_L,n10,sel]) (ov_load (v := sv63) rfl F_agg_30 (reads_box1 (i := 4) rfl rfl))) rfl rfl (onlyT_spec (k0 := 4) rfl rfl rfl)
      ·exact fun done hi hc hcu => draw_exi (I := Z12_I) fun ga13 => draw_value (i := 5) (t := 37) (v := (str t0_)) rfl rfl (wanted_none rfl) (fun a => hasA_base) (ov_move rfl) rfl rfl (onlyT_spec (k0 := 5) rfl rfl rfl)
      ·refine fun done hi hc hcu => ent_exi (S := fun ga13 => Z12_I ga13 done) fun ga13 => draw_newV (i := 6) (t := 38) (x := ga13) (L := Z12_L) (T := Z12_T) (L2 := [emp,own L0 9 1 ([] : List (List UInt8)).length (fl eS ([] : List (List UInt8))),A0,box b13 84 [pt b14 0],sel (done 10) (box b14 134 [(ga13 7),pt b10 0]) (box b14 134 [sv63,pt b10 0]),sel (done 7) (own (ga13 7) 9 1 (z4 ++ [t0_]).length (fl eS (z4 ++ [t0_]))) (own sv63 9 1 z4.length (fl eS z4)),box b10 177 [sv49]]) (B := fun v_ => (own v_ 9 1 [t0_].length (fl eS [t0_]))) 0 rfl rfl (wanted_none rfl) (fun a => (hasA_cons (k := 5) rfl (done_of (j := 5) hcu rfl (by decide) rfl) hasA_base)) (by simp only [Z12_T,Z12_L,hi,sel]) (ot_buildSlice (sz := 0) (xs := [.tmp 37]) (cs := fl eS [t0_]) rfl rfl F_slice_30 F_size_9 F_zero_9 rfl rfl (all_size rfl) rfl (by decide)) ?_ rfl (fun v_ => ?_) rfl rfl ?_
       ·rintro _ _ rfl; rfl
       ·simp [Z12_T,Z12_L,up,upb,sel,hi]
       ·rintro _ _ rfl
        exact (tr_same rfl rfl (tr_same rfl rfl (tr_same rfl rfl (tr_same rfl rfl (tr_same rfl rfl (tr_same rfl rfl (tr_this (tr_same rfl rfl (tr_same rfl rfl (tr_same rfl rfl tr_nil))))))))))
      ·intro done hi hc hcu
       refine ent_exi (S := fun ga13 => Z12_I ga13 done) fun ga13 => ?_
       have d4 : done 4 = true := done_of (j := 4) hcu rfl (by decide) rfl
       have d6 : done 6 = true := done_of (j := 6) hcu rfl (by decide) rfl
       have n10 : done 10 = false := notdone_of (m := 10) hc hi rfl rfl
       exact draw_turnI (i := 7) (t := 39) (x := ga13) (L := Z12_L) (T := Z12_T) (L2 := [own (ga13 6) 9 1 [t0_].length (fl eS [t0_]),own L0 9 1 ([] : List (List UInt8)).length (fl eS ([] : List (List UInt8))),A0,box b13 84 [pt b14 0],box b14 134 [sv63,pt b10 0],own sv63 9 1 z4.length (fl eS z4),box b10 177 [sv49]]) rfl rfl (wanted_none rfl) (fun a => (hasA_cons (k := 6) rfl d6 (hasA_cons (k := 4) rfl d4 hasA_base))) (by simp only [Z12_T,Z12_L,d6,n10,hi,sel]) (ot_appendx (sz := 0) (xs := z4) (ys := [t0_]) 5 0 rfl rfl F_slice_30 F_size_9 F_zero_9 rfl F_bytes_9 rfl rfl rfl (isRd_ownx 9) rfl eS_one c72) rfl rfl fun v_ M_ hM_ => ⟨upb ga13 7 v_,hM_.trans (show [own (ga13 6) 9 1 [t0_].length (fl eS [t0_]),own L0 9 1 ([] : List (List UInt8)).length (fl eS ([] : List (List UInt8))),A0,box b13 84 [pt b14 0],box b14 134 [sv63,pt b10 0],own v_ 9 1 (z4 ++ [t0_]).length (fl eS (z4 ++ [t0_])),box b10 177 [sv49]] = _ by simp [Z12_T,Z12_L,up,upb,sel,d6,n10,n10,hi]),(tr_same rfl rfl (tr_same rfl rfl (tr_same rfl rfl (tr_same rfl rfl (tr_same rfl rfl (tr_same rfl rfl (tr_same rfl rfl (tr_this (tr_same rfl rfl (tr_same rfl rfl tr_nil))))))))))⟩
      ·intro done hi hc hcu
       refine draw_exi (I := Z12_I) fun ga13 => ?_
       have d0 : done 0 = true := done_of (j := 0) hcu rfl (by decide) rfl
       have n9 : done 9 = false := notdone_of (m := 9) hc hi rfl rfl
       have n10 : done 10 = false := notdone_of (m := 10) hc n9 rfl rfl
       exact draw_value (i := 8) (t := 40) (v := (pt b14 0)) rfl rfl (wanted_none rfl) (fun a => (hasA_cons (k := 0) rfl d0 hasA_base)) (ov_L (L2 := [sel (done 6) (own (ga13 6) 9 1 [t0_].length (fl eS [t0_])) emp,own L0 9 1 ([] : List (List UInt8)).length (fl eS ([] : List (List UInt8))),A0,box b13 84 [pt b14 0],box b14 134 [sv63,pt b10 0],sel (done 7) (own (ga13 7) 9 1 (z4 ++ [t0_]).length (fl eS (z4 ++ [t0_]))) (own sv63 9 1 z4.length (fl eS z4)),box b10 177 [sv49]]) (by simp only [Z12_T,Z12_L,n10,sel]) (ov_nilCheck rfl)) rfl rfl (onlyT_spec (k0 := 8) rfl rfl rfl)
      ·intro done hi hc hcu
       refine draw_exi (I := Z12_I) fun ga13 => ?_
       have d8 : done 8 = true := done_of (j := 8) hcu rfl (by decide) rfl
       have n10 : done 10 = false := notdone_of (m := 10) hc hi rfl rfl
       exact draw_value (i := 9) (t := 41) (v := (pt b14 0)) rfl rfl (wanted_none rfl) (fun a => (hasA_cons (k := 8) rfl d8 hasA_base)) (ov_L (L2 := [sel (done 6) (own (ga13 6) 9 1 [t0_].length (fl eS [t0_])) emp,own L0 9 1 ([] : List (List UInt8)).length (fl eS ([] : List (List UInt8))),A0,box b13 84 [pt b14 0],box b14 134 [sv63,pt b10 0],sel (done 7) (own (ga13 7) 9 1 (z4 ++ [t0_]).length (fl eS (z4 ++ [t0_]))) (own sv63 9 1 z4.length (fl eS z4)),box b10 177 [sv49]]) (by simp only [Z12_T,Z12_L,n10,sel]) (ov_fieldAddr (sz := 0) (o := 0) rfl F_field_134_0 F_size_30)) rfl rfl (onlyT_spec (k0 := 9) rfl rfl rfl)
      ·intro done hi hc hcu
       refine draw_exi (I := Z12_I) fun ga13 => ?_
       let C0_ : List HP := [sel (done 6) (own (ga13 6) 9 1 [t0_].length (fl eS [t0_])) emp,own L0 9 1 ([] : List (List UInt8)).length (fl eS ([] : List (List UInt8))),A0,box b13 84 [pt b14 0],box b14 134 [(ga13 7),pt b10 0],own (ga13 7) 9 1 (z4 ++ [t0_]).length (fl eS (z4 ++ [t0_])),box b10 177 [sv49]]
       have d9 : done 9 = true := done_of (j := 9) hcu rfl (by decide) rfl
       have d7 : done 7 = true := done_of (j := 7) hcu rfl (by decide) rfl
       exact draw_store (i := 10) (L2 := [sel (done 6) (own (ga13 6) 9 1 [t0_].length (fl eS [t0_])) emp,own L0 9 1 ([] : List (List UInt8)).length (fl eS ([] : List (List UInt8))),A0,box b13 84 [pt b14 0],box b14 134 [sv63,pt b10 0],own (ga13 7) 9 1 (z4 ++ [t0_]).length (fl eS (z4 ++ [t0_])),box b10 177 [sv49]]) (L3 := C0_) rfl rfl (wanted_none rfl) (fun a => (hasA_cons (k := 7) rfl d7 (hasA_cons (k := 9) rfl d9 hasA_base))) (by simp only [Z12_T,Z12_L,C0_,d7,hi,sel]) (by simp [Z12_T,Z12_L,C0_,up,d7,sel]) (ot_storeS (cs := [sv63,pt b10 0]) (cs' := [(ga13 7),pt b10 0]) (sv := (ga13 7)) (L' := C0_) 4 5 rfl rfl F_size_30 rfl rfl (isRd_ownx 9) rfl (by simp [Z12_T,Z12_L,C0_]) rfl) (offT_spec rfl)
     ·intro done hall
      refine ent_exi (S := fun ga13 => Z12_I ga13 done) fun ga13 => ?_
      refine draw_endL [own (ga13 6) 9 1 [t0_].length (fl eS [t0_]),own L0 9 1 ([] : List (List UInt8)).length (fl eS ([] : List (List UInt8))),A0,box b13 84 [pt b14 0],box b14 134 [(ga13 7),pt b10 0],own (ga13 7) 9 1 (z4 ++ [t0_]).length (fl eS (z4 ++ [t0_])),box b10 177 [sv49]] (by simp only [Z12_T,Z12_L,hall 6 (by decide),hall 7 (by decide),hall 10 (by decide),sel]) (fun a => (hasA_cons (k := 0) rfl (hall 0 (by decide)) (hasA_cons (k := 1) rfl (hall 1 (by decide)) (hasA_cons (k := 2) rfl (hall 2 (by decide)) (hasA_cons (k := 3) rfl (hall 3 (by decide)) (hasA_cons (k := 4) rfl (hall 4 (by decide)) (hasA_cons (k := 5) rfl (hall 5 (by decide)) (hasA_cons (k := 6) rfl (hall 6 (by decide)) (hasA_cons (k := 7) rfl (hall 7 (by decide)) (hasA_cons (k := 8) rfl (hall 8 (by decide)) (hasA_cons (k := 9) rfl (hall 9 (by decide)) hasA_base))))))))))) ?_
      cases Hl
      refine ent_pick [2,3,4,5,6] (by decide) rfl ?_
      refine ent_roundN ?_
      exact ⟨rfl,rfl,_,rfl⟩
   ·intro Y l hY
    exact (omap_each__string__int_1_YR.spec K l b16 sv49 (own sv49 174 2 x35.length (fl enc_Omap_pair__string___int x35)) (List (List UInt8)) (dict_Of__string_R_r1 K) ([] : List (List UInt8)) x35 Y (fun t0_ t1_ z_ r_ h_ => hY _ z_ r_ ⟨t0_,t1_,rfl,h_⟩) (isRd_ownx 174) _ h46).mono fun _ _ h_ => h_.2
   ·rintro _ ⟨sv63,rfl⟩
    refine ent_sub [(3,pt b13 0)] (sub_cons (t := 3) rfl (sub_nil _)) ?_
    cases H10
    exact ent_fin [2,3,4,5,6,1] (by decide) rfl (sub_cons (t := 3) rfl (sub_nil _)) fun a w h => ⟨_,h⟩
  ·refine ent_exi fun sv61 => ?_
   refine ent_seq (ent_seq (ent_region (ent_value (ov_load (v := (pt b14 0)) rfl F_agg_84 (reads_box1 (i := 1) rfl rfl)) rfl rfl rfl (ent_value (ov_nilCheck rfl) rfl rfl rfl (ent_value (ov_fieldAddr (sz := 0) (o := 0) rfl F_field_134_0 F_size_30) rfl rfl rfl (ent_value (ov_load (v := sv61) rfl F_agg_30 (reads_box1 (i := 2) rfl rfl)) rfl rfl rfl (ent_value (ov_len 3 rfl F_slice_30 rfl (isRd_ownx 9)) rfl rfl rfl (ent_value (ov_move rfl) rfl rfl rfl (ent_nil (ent_block ?_))))))))))
   refine ent_loop (fun k a w => ∃ i8,∃ l18,∃ sv75 : Value,dict_Of__string_R_l2 K x43 k i8 l18 = some r ∧ St 61 w0 F [(3,pt b13 0),(45,sv61),(46,I (x43.length : Int)),(47,I i8)] [A0,box b13 84 [pt b14 0],box b14 134 [sv61,pt b10 0],own sv61 9 1 x43.length (fl eS x43),box b10 177 [sv75],own sv75 174 2 l18.length (fl enc_Omap_pair__string___int l18)] a w) K ?_ ?_
   ·exact ent_fin [0,1,2,3,4,5] (by decide) rfl (sub_cons (t := 3) rfl (sub_cons (t := 45) rfl (sub_cons (t := 46) rfl (sub_cons (t := 47) rfl (sub_nil _))))) fun a w h => ⟨_,_,_,H,h⟩
   ·refine fun k => ent_exi fun i8 => ent_exi fun l18 => ent_exi fun sv75 => ent_and fun H12 => ?_
    cases k with
    | zero => exact absurd H12 (by simp [dict_Of__string_R_l2])
    | succ k =>
     rw [dict_Of__string_R_l2] at H12
     refine ent_seq (ent_region (ent_value (ov_bin rfl rfl (b_lss _ _ _)) rfl rfl rfl (ent_nil (ent_seq ?_))))
     refine htF H12 (fun c90 H12 => ?_) fun c90 H12 => ?_
     ·refine ent_cond_false rfl (decide_eq_false c90) (ent_exit (ent_seq (ent_region (ent_value (ov_load (v := (pt b14 0)) rfl F_agg_84 (reads_box1 (i := 1) rfl rfl)) rfl rfl rfl (ent_value (ov_assign rfl) rfl rfl rfl (ent_nil (ent_retc ?_)))))))
      cases H12
      refine ent_pick [0,2,3,4,5] (by decide) rfl ?_
      exact ret_tmp rfl rfl ⟨_,_,_,_,rfl,rfl⟩
     refine ent_cond_true rfl (decide_eq_true c90) (ent_skip (ent_seq (ent_block (ent_seq (ent_region (ent_value (ov_move rfl) rfl rfl rfl ?_))))))
     obtain ⟨c92,H12⟩ := gdT H12
     refine ent_value (ov_indexAddr (sz := 0) 3 rfl rfl F_slice_30 F_size_9 rfl (isRd_ownx 9) c92 c90) rfl rfl rfl ?_
     refine ent_value (ov_load (v := (str (x43.getD i8.toNat []))) rfl F_agg_9 (reads_rd (i := 3) rfl (isRd_ownx 9) (by simp) (fl_read0 eS_len (ix_lt c92 c90) rfl))) rfl rfl rfl ?_
     refine ent_value (ov_assign rfl) rfl rfl rfl (ent_value (ov_assign rfl) rfl rfl rfl (ent_nil (ent_region (ent_value (ov_load (v := (pt b14 0)) rfl F_agg_84 (reads_box1 (i := 1) rfl rfl)) rfl rfl rfl (ent_value (ov_nilCheck rfl) rfl rfl rfl (ent_value (ov_fieldAddr (sz := 0) (o := 0) rfl F_field_134_1 F_size_132) rfl rfl rfl (ent_value (ov_load (v := (pt b10 0)) rfl F_agg_132 (reads_box1 (i := 2) rfl rfl)) rfl rfl rfl (ent_value (ov_move rfl) rfl rfl rfl (ent_value (ov_move rfl) rfl rfl rfl ?_)))))))))
     obtain ⟨x56,h58,H12⟩ := Option.bind_eq_some_iff.1 H12
     refine ent_pick [4,5,0,1,2,3] (by decide) rfl ?_
     refine ent_op (ot_call (Lr := [A0,box b13 84 [pt b14 0],box b14 134 [sv61,pt b10 0],own sv61 9 1 x43.length (fl eS x43)]) (first := []) (cap := []) (xs := [.tmp 55,.tmp 56,.tmp 57]) rfl rfl F_call_89 rfl (omap_Map__string___int_Put_O.spec K b10 sv75 l18 (x43.getD i8.toNat []) i8 _ h58) rfl) rfl rfl rfl ?_
     rintro _ _ ⟨_,⟨sv79,rfl,rfl⟩,rfl⟩
     refine ent_nil (ent_region (ent_value (ov_bin rfl rfl (b_add _ _ _) ) rfl rfl rfl (ent_value (ov_move rfl) rfl rfl rfl (ent_nil ?_))))
     exact ent_fin [2,3,4,5,0,1] (by decide) rfl (sub_cons (t := 3) rfl (sub_cons (t := 45) rfl (sub_cons (t := 46) rfl (sub_cons (t := 47) rfl (sub_nil _))))) fun a w h => ⟨k,Nat.lt_succ_self k,_,_,_,H12,h⟩

theorem stat_texts_R.spec (K : Nat) (sv0 : Value) (A0 : HP) (l0 : List Api_Row) (a1 : Int) (hA0 : IsRd A0 sv0 l0.length 9 (fl enc_Api_Row l0)) (r : ((List (List UInt8)) × (List Omap_pair__string___int))) (H : stat_texts_R K l0 a1 = some r) : FnSpec Try.prog 34 [sv0,I a1] [A0] (fun v M => ∃ b15 : Nat,∃ sv29 : Value,∃ b16 : Nat,∃ sv30 : Value,v = (pt b15 0) ∧ M = [A0,box b15 134 [sv29,pt b16 0],own sv29 9 1 r.1.length (fl eS r.1),box b16 177 [sv30],own sv30 174 2 r.2.length (fl enc_Omap_pair__string___int r.2)]) := by
 unfold stat_texts_R at H
 refine spec_of Try.func34 rfl 25 rfl (Nat.le_of_ble_eq_true rfl) fun F w0 => ?_
 show Ent (St 25 w0 F [(0,sv0),(1,I a1)] [A0]) _
 refine ent_seq (ent_region (ent_value (ov_assign rfl) rfl rfl rfl (ent_nil (ent_seq (ent_region (ent_value (ov_assign rfl) rfl rfl rfl (ent_nil (ent_seq (ent_seq (ent_region (ent_value (ov_move rfl) rfl rfl rfl ?_)))))))))))
 refine ent_value (ov_len 0 rfl F_slice_22 rfl hA0) rfl rfl rfl (ent_value (ov_move rfl) rfl rfl rfl (ent_nil (ent_block ?_)))
 refine ent_loop (fun k a w => ∃ i4,∃ l6,∃ sv48 : Value,stat_texts_R_l0 K l0 a1 k i4 l6 = some r ∧ St 25 w0 F [(1,I a1),(5,sv48),(8,sv0),(9,I (l0.length : Int)),(10,I i4)] [A0,own sv48 9 1 l6.length (fl eS l6)] a w) K ?_ ?_
 ·refine ent_ownnil 9 1 ?_
  exact ent_fin [1,0] (by decide) rfl (sub_cons (t := 1) rfl (sub_cons (t := 5) rfl (sub_cons (t := 8) rfl (sub_cons (t := 9) rfl (sub_cons (t := 10) rfl (sub_nil _)))))) fun a w h => ⟨_,_,_,H,h⟩
 ·refine fun k => ent_exi fun i4 => ent_exi fun l6 => ent_exi fun sv48 => ent_and fun H4 => ?_
  let C0_ : List Value := [I (((l0.getD i4.toNat z_Api_Row).Key).Hour),str (((l0.getD i4.toNat z_Api_Row).Key).Dims_0),str (((l0.getD i4.toNat z_Api_Row).Key).Dims_1),str (((l0.getD i4.toNat z_Api_Row).Key).Dims_2),str (((l0.getD i4.toNat z_Api_Row).Key).Dims_3),I (((l0.getD i4.toNat z_Api_Row).Cell).Count),I (((l0.getD i4.toNat z_Api_Row).Cell).Sum),I (((l0.getD i4.toNat z_Api_Row).Cell).Min),I (((l0.getD i4.toNat z_Api_Row).Cell).Max)]
  cases k with
  | zero => exact absurd H4 (by simp [C0_,stat_texts_R_l0])
  | succ k =>
   rw [stat_texts_R_l0] at H4
   refine ent_seq (ent_region (ent_value (ov_bin rfl rfl (b_lss _ _ _)) rfl rfl rfl (ent_nil (ent_seq ?_))))
   refine htF H4 (fun c104 H4 => ?_) fun c104 H4 => ?_
   ·refine ent_cond_false rfl (decide_eq_false c104) (ent_exit (ent_seq (ent_region (ent_value (ov_move rfl) rfl rfl rfl ?_))))
    obtain ⟨x2,h2,H4⟩ := Option.bind_eq_some_iff.1 H4
    refine ent_pick [1,0] (by decide) rfl ?_
    refine ent_op (ot_call (Lr := [A0]) (first := []) (cap := []) (xs := [.tmp 23]) rfl rfl F_call_61 rfl (dict_Of__string_R.spec K sv48 (own sv48 9 1 l6.length (fl eS l6)) l6 (isRd_ownx 9) _ h2) rfl) rfl rfl rfl ?_
    rintro _ _ ⟨_,⟨b29,sv57,b30,sv58,rfl,rfl⟩,rfl⟩
    refine ent_value (ov_assign rfl) rfl rfl rfl (ent_nil (ent_retc ?_))
    cases H4
    refine ent_pick [5,1,2,3,4] (by decide) rfl ?_
    exact ret_tmp rfl rfl ⟨_,_,_,_,rfl,rfl⟩
   refine ent_cond_true rfl (decide_eq_true c104) (ent_skip (ent_seq (ent_block (ent_seq (ent_region ?_)))))
   obtain ⟨c109,H4⟩ := gdT H4
   refine ent_value (ov_indexAddr (sz := 8) 0 rfl rfl F_slice_22 F_size_44 rfl hA0 c109 c104) rfl rfl rfl ?_
   refine ent_value (ov_load_agg (vs := C0_) rfl F_agg_44 F_size_44 (reads_rd (i := 0) rfl hA0 (by simp [C0_]) (fl_read0 enc_Api_Row_len (ix_lt c109 c104) rfl))) rfl rfl rfl ?_
   refine ent_op (ot_alloc F_zero_44) rfl rfl rfl ?_
   rintro _ _ ⟨b28,rfl,rfl⟩
   refine ent_op0 (ot_storeG (cs := [I 0,S0,S0,S0,S0,I 0,I 0,I 0,I 0]) (cs' := C0_) (us := C0_) (L' := [box b28 44 C0_,A0,own sv48 9 1 l6.length (fl eS l6)]) 0 rfl rfl rfl (one_all rfl) F_size_44 rfl rfl (by simp [C0_]) rfl) rfl rfl ?_
   rintro _ _ rfl
   refine ent_nil (ent_region (ent_value (ov_move rfl) rfl rfl rfl (ent_value (ov_move rfl) rfl rfl rfl (ent_value (ov_fieldAddr (sz := 4) (o := 0) rfl F_field_44_0 F_size_42) rfl rfl rfl (ent_value (ov_fieldAddr (sz := 3) (o := 0) rfl F_field_42_1 F_size_40) rfl rfl rfl ?_)))))
   obtain ⟨c110,H4⟩ := gdT H4
   obtain ⟨c111,H4⟩ := gdT H4
   refine ent_value (ov_indexArr (o := 1) rfl rfl F_array_40 F_size_9 c110 c111) rfl rfl rfl (ent_value (ov_load (v := (str ([((l0.getD i4.toNat z_Api_Row).Key).Dims_0,((l0.getD i4.toNat z_Api_Row).Key).Dims_1,((l0.getD i4.toNat z_Api_Row).Key).Dims_2,((l0.getD i4.toNat z_Api_Row).Key).Dims_3].getD a1.toNat []))) rfl F_agg_9 (reads_boxA (i := 0) (enc := eS) (z := []) (xs := [((l0.getD i4.toNat z_Api_Row).Key).Dims_0,((l0.getD i4.toNat z_Api_Row).Key).Dims_1,((l0.getD i4.toNat z_Api_Row).Key).Dims_2,((l0.getD i4.toNat z_Api_Row).Key).Dims_3]) rfl eS_len rfl (ix_lt c110 c111))) rfl rfl rfl ?_)
   refine ent_op (ot_buildSlice (sz := 0) (xs := [.tmp 19]) (cs := fl eS [([((l0.getD i4.toNat z_Api_Row).Key).Dims_0,((l0.getD i4.toNat z_Api_Row).Key).Dims_1,((l0.getD i4.toNat z_Api_Row).Key).Dims_2,((l0.getD i4.toNat z_Api_Row).Key).Dims_3].getD a1.toNat [])]) rfl rfl F_slice_30 F_size_9 F_zero_9 rfl rfl (all_size rfl) rfl (by decide)) rfl rfl rfl ?_
   rintro sv55 _ rfl
   obtain ⟨c112,H4⟩ := gdT H4
   refine ent_op (ot_appendx (sz := 0) (xs := l6) (ys := [([((l0.getD i4.toNat z_Api_Row).Key).Dims_0,((l0.getD i4.toNat z_Api_Row).Key).Dims_1,((l0.getD i4.toNat z_Api_Row).Key).Dims_2,((l0.getD i4.toNat z_Api_Row).Key).Dims_3].getD a1.toNat [])]) 3 0 rfl rfl F_slice_30 F_size_9 F_zero_9 rfl F_bytes_9 rfl rfl rfl (isRd_ownx 9) rfl eS_one c112) rfl rfl rfl ?_
   rintro sv56 _ rfl
   refine ent_L [own sv55 9 1 [([((l0.getD i4.toNat z_Api_Row).Key).Dims_0,((l0.getD i4.toNat z_Api_Row).Key).Dims_1,((l0.getD i4.toNat z_Api_Row).Key).Dims_2,((l0.getD i4.toNat z_Api_Row).Key).Dims_3].getD a1.toNat [])].length (fl eS [([((l0.getD i4.toNat z_Api_Row).Key).Dims_0,((l0.getD i4.toNat z_Api_Row).Key).Dims_1,((l0.getD i4.toNat z_Api_Row).Key).Dims_2,((l0.getD i4.toNat z_Api_Row).Key).Dims_3].getD a1.toNat [])]),box b28 44 C0_,A0,own sv56 9 1 (l6 ++ [([((l0.getD i4.toNat z_Api_Row).Key).Dims_0,((l0.getD i4.toNat z_Api_Row).Key).Dims_1,((l0.getD i4.toNat z_Api_Row).Key).Dims_2,((l0.getD i4.toNat z_Api_Row).Key).Dims_3].getD a1.toNat [])]).length (fl eS (l6 ++ [([((l0.getD i4.toNat z_Api_Row).Key).Dims_0,((l0.getD i4.toNat z_Api_Row).Key).Dims_1,((l0.getD i4.toNat z_Api_Row).Key).Dims_2,((l0.getD i4.toNat z_Api_Row).Key).Dims_3].getD a1.toNat [])]))] rfl ?_
   refine ent_value (ov_assign rfl) rfl rfl rfl (ent_nil (ent_region (ent_value (ov_bin rfl rfl (b_add _ _ _) ) rfl rfl rfl (ent_value (ov_move rfl) rfl rfl rfl (ent_nil ?_)))))
   exact ent_fin [2,3] (by decide) rfl (sub_cons (t := 1) rfl (sub_cons (t := 5) rfl (sub_cons (t := 8) rfl (sub_cons (t := 9) rfl (sub_cons (t := 10) rfl (sub_nil _)))))) fun a w h => ⟨k,Nat.lt_succ_self k,_,_,_,H4,h⟩

theorem dict_Dict__string_Len_OO.spec (p0 : Nat) (sv0 : Value) (p1 : Nat) (sv1 : Value) (l0 : List (List UInt8)) (l1 : List Omap_pair__string___int) (r : Int) (H : dict_Dict__string_Len_OO l0 l1 = r) : FnSpec Try.prog 36 [pt p0 0] [box p0 134 [sv0,pt p1 0],own sv0 9 1 l0.length (fl eS l0),box p1 177 [sv1],own sv1 174 2 l1.length (fl enc_Omap_pair__string___int l1)] (fun v M => v = (I r) ∧ M = [box p0 134 [sv0,pt p1 0],own sv0 9 1 l0.length (fl eS l0),box p1 177 [sv1],own sv1 174 2 l1.length (fl enc_Omap_pair__string___int l1)]) := by
 unfold dict_Dict__string_Len_OO at H
 refine spec_of Try.func36 rfl 10 rfl (Nat.le_of_ble_eq_true rfl) fun F w0 => ?_
 show Ent (St 10 w0 F [(0,pt p0 0)] [box p0 134 [sv0,pt p1 0],own sv0 9 1 l0.length (fl eS l0),box p1 177 [sv1],own sv1 174 2 l1.length (fl enc_Omap_pair__string___int l1)]) _
 refine ent_seq (ent_region (ent_value (ov_assign rfl) rfl rfl rfl (ent_nil (ent_seq (ent_seq (ent_region (ent_value (ov_move rfl) rfl rfl rfl ?_)))))))
 refine ent_value (ov_bin rfl rfl (b_eql_of (fun w => rfl) rfl (eq_pn Try.underlying84 _ _))) rfl rfl rfl ?_
 refine ent_nil (ent_cond_false rfl rfl (ent_skip (ent_seq (ent_region (ent_value (ov_move rfl) rfl rfl rfl (ent_value (ov_nilCheck rfl) rfl rfl rfl (ent_value (ov_fieldAddr (sz := 0) (o := 0) rfl F_field_134_0 F_size_30) rfl rfl rfl (ent_value (ov_load (v := sv0) rfl F_agg_30 (reads_box1 (i := 0) rfl rfl)) rfl rfl rfl (ent_value (ov_len 1 rfl F_slice_30 rfl (isRd_ownx 9)) rfl rfl rfl (ent_value (ov_assign rfl) rfl rfl rfl (ent_nil ?_)))))))))))
 refine ent_retc ?_
 cases H
 refine ent_pick [0,1,2,3] (by decide) rfl ?_
 exact ret_tmp rfl rfl ⟨rfl,rfl⟩

theorem dict_Dict__string_At_OO.spec (p0 : Nat) (sv0 : Value) (p1 : Nat) (sv1 : Value) (l0 : List (List UInt8)) (l1 : List Omap_pair__string___int) (a1 : Int) (r : ((List UInt8) × Bool)) (H : dict_Dict__string_At_OO l0 l1 a1 = some r) : FnSpec Try.prog 62 [pt p0 0,I a1] [box p0 134 [sv0,pt p1 0],own sv0 9 1 l0.length (fl eS l0),box p1 177 [sv1],own sv1 174 2 l1.length (fl enc_Omap_pair__string___int l1)] (fun v M => v = (tU #[str r.1,bool r.2]) ∧ M = [box p0 134 [sv0,pt p1 0],own sv0 9 1 l0.length (fl eS l0),box p1 177 [sv1],own sv1 174 2 l1.length (fl enc_Omap_pair__string___int l1)]) := by
 unfold dict_Dict__string_At_OO at H
 refine spec_of Try.func62 rfl 29 rfl (Nat.le_of_ble_eq_true rfl) fun F w0 => ?_
 show Ent (St 29 w0 F [(0,pt p0 0),(1,I a1)] [box p0 134 [sv0,pt p1 0],own sv0 9 1 l0.length (fl eS l0),box p1 177 [sv1],own sv1 174 2 l1.length (fl enc_Omap_pair__string___int l1)]) _
 refine ent_seq (ent_region (ent_value (ov_assign rfl) rfl rfl rfl (ent_value (ov_assign rfl) rfl rfl rfl (ent_nil (ent_seq (ent_seq (ent_region (ent_value (ov_move rfl) rfl rfl rfl ?_))))))))
 refine ent_value (ov_bin rfl rfl (b_eql_of (fun w => rfl) rfl (eq_pn Try.underlying84 _ _))) rfl rfl rfl ?_
 refine ent_value (ov_move rfl) rfl rfl rfl ?_
 refine ent_value_on (ov_move rfl) rfl rfl rfl rfl rfl rfl ?_
 refine ent_value_on (ov_bin rfl rfl (b_lss _ _ _)) rfl rfl rfl rfl rfl rfl ?_
 refine ent_value (ov_pick rfl rfl rfl rfl) rfl rfl rfl (ent_value (ov_move rfl) rfl rfl rfl ?_)
 refine htT H (fun c9 H => ?_) fun c9 H => ?_
 ·refine ent_off rfl rfl rfl (decide_eq_true c9) rfl rfl ?_
  refine ent_off rfl rfl rfl (decide_eq_true c9) rfl rfl ?_
  refine ent_off rfl rfl rfl (decide_eq_true c9) rfl rfl ?_
  refine ent_off rfl rfl rfl (decide_eq_true c9) rfl rfl ?_
  refine ent_off rfl rfl rfl (decide_eq_true c9) rfl rfl ?_
  refine ent_off rfl rfl rfl (decide_eq_true c9) rfl rfl ?_
  refine ent_off rfl rfl rfl (decide_eq_true c9) rfl rfl ?_
  refine ent_value (ov_pick rfl rfl rfl (pick_t (decide_eq_true c9))) rfl rfl rfl (ent_nil (ent_cond_true rfl rfl (ent_seq (ent_region (ent_value (ov_move rfl) rfl rfl rfl (ent_value (ov_assign rfl) rfl rfl rfl (ent_value (ov_assign rfl) rfl rfl rfl (ent_nil (ent_retc ?_)))))))))
  cases H
  refine ent_pick [0,1,2,3] (by decide) rfl ?_
  exact ret_mem (vs := [S0,B0]) rfl ⟨rfl,⟨rfl,trivial⟩⟩ _ rfl ⟨rfl,rfl⟩
 refine ent_value_on (ov_move rfl) rfl rfl rfl (decide_eq_false c9) rfl rfl ?_
 refine ent_value_on (ov_move rfl) rfl rfl rfl (decide_eq_false c9) rfl rfl ?_
 refine ent_value_on (ov_nilCheck rfl) rfl rfl rfl (decide_eq_false c9) rfl rfl ?_
 refine ent_value_on (ov_fieldAddr (sz := 0) (o := 0) rfl F_field_134_0 F_size_30) rfl rfl rfl (decide_eq_false c9) rfl rfl ?_
 refine ent_value_on (ov_load (v := sv0) rfl F_agg_30 (reads_box1 (i := 0) rfl rfl)) rfl rfl rfl (decide_eq_false c9) rfl rfl ?_
 refine ent_value_on (ov_len 1 rfl F_slice_30 rfl (isRd_ownx 9)) rfl rfl rfl (decide_eq_false c9) rfl rfl ?_
 refine ent_value_on (ov_bin rfl rfl (b_geq _ _ _)) rfl rfl rfl (decide_eq_false c9) rfl rfl ?_
 refine ent_value (ov_pick rfl rfl rfl (pick_f (decide_eq_false c9))) rfl rfl rfl (ent_nil ?_)
 refine htT H (fun c10 H => ?_) fun c10 H => ?_
 ·refine ent_cond_true rfl (decide_eq_true c10) (ent_seq (ent_region (ent_value (ov_move rfl) rfl rfl rfl (ent_value (ov_assign rfl) rfl rfl rfl (ent_value (ov_assign rfl) rfl rfl rfl (ent_nil (ent_retc ?_)))))))
  cases H
  refine ent_pick [0,1,2,3] (by decide) rfl ?_
  exact ret_mem (vs := [S0,B0]) rfl ⟨rfl,⟨rfl,trivial⟩⟩ _ rfl ⟨rfl,rfl⟩
 refine ent_cond_false rfl (decide_eq_false c10) (ent_skip (ent_seq (ent_region (ent_value (ov_move rfl) rfl rfl rfl (ent_value (ov_nilCheck rfl) rfl rfl rfl (ent_value (ov_fieldAddr (sz := 0) (o := 0) rfl F_field_134_0 F_size_30) rfl rfl rfl (ent_value (ov_load (v := sv0) rfl F_agg_30 (reads_box1 (i := 0) rfl rfl)) rfl rfl rfl (ent_value (ov_move rfl) rfl rfl rfl ?_))))))))
 obtain ⟨c11,H⟩ := gdT H
 obtain ⟨c12,H⟩ := gdT H
 refine ent_value (ov_indexAddr (sz := 0) 1 rfl rfl F_slice_30 F_size_9 rfl (isRd_ownx 9) c11 c12) rfl rfl rfl ?_
 refine ent_value (ov_load (v := (str (l0.getD a1.toNat []))) rfl F_agg_9 (reads_rd (i := 1) rfl (isRd_ownx 9) (by simp) (fl_read0 eS_len (ix_lt c11 c12) rfl))) rfl rfl rfl ?_
 refine ent_value (ov_assign rfl) rfl rfl rfl (ent_value (ov_assign rfl) rfl rfl rfl (ent_nil (ent_retc ?_)))
 cases H
 refine ent_pick [0,1,2,3] (by decide) rfl ?_
 exact ret_mem (vs := [str (l0.getD a1.toNat []),bool true]) rfl ⟨rfl,⟨rfl,trivial⟩⟩ _ rfl ⟨rfl,rfl⟩

theorem stat_all_OO.spec (K p0 : Nat) (sv0 : Value) (p1 : Nat) (sv1 : Value) (l0 : List (List UInt8)) (l1 : List Omap_pair__string___int) (r : List (List UInt8)) (H : stat_all_OO K l0 l1 = some r) : FnSpec Try.prog 35 [pt p0 0] [box p0 134 [sv0,pt p1 0],own sv0 9 1 l0.length (fl eS l0),box p1 177 [sv1],own sv1 174 2 l1.length (fl enc_Omap_pair__string___int l1)] (fun v M => ∃ sv28 : Value,v = sv28 ∧ M = [box p0 134 [sv0,pt p1 0],own sv0 9 1 l0.length (fl eS l0),box p1 177 [sv1],own sv1 174 2 l1.length (fl enc_Omap_pair__string___int l1),own sv28 9 1 r.length (fl eS r)]) := by
 unfold stat_all_OO at H
 refine spec_of Try.func35 rfl 26 rfl (Nat.le_of_ble_eq_true rfl) fun F w0 => ?_
 show Ent (St 26 w0 F [(0,pt p0 0)] [box p0 134 [sv0,pt p1 0],own sv0 9 1 l0.length (fl eS l0),box p1 177 [sv1],own sv1 174 2 l1.length (fl enc_Omap_pair__string___int l1)]) _
 refine ent_seq (ent_region (ent_value (ov_assign rfl) rfl rfl rfl (ent_nil (ent_seq (ent_region (ent_value (ov_move rfl) rfl rfl rfl (ent_value (ov_makeFunc (first := [.tmp 7]) (cap := []) rfl rfl) rfl rfl rfl (ent_value (ov_assign rfl) rfl rfl rfl (ent_nil (ent_seq (ent_seq ?_)))))))))))
 refine ent_region (ent_value (ov_move rfl) rfl rfl rfl ?_)
 obtain ⟨x22,h22,H⟩ := thn_elim H
 refine ent_op (ot_call_same (Lr := []) [0,1,2,3] [0,1,2,3] (first := []) (cap := []) (xs := [.tmp 9]) rfl rfl F_call_36 rfl (dict_Dict__string_Len_OO.spec p0 sv0 p1 sv1 l0 l1 _ h22) (by decide) rfl (by decide) rfl) rfl rfl rfl ?_
 rintro _ _ ⟨rfl,rfl⟩
 refine ent_value (ov_move rfl) rfl rfl rfl (ent_nil (ent_block ?_))
 refine ent_loop (fun k a w => ∃ i4,∃ l6,∃ sv46 : Value,stat_all_OO_l0 K l0 l1 x22 k i4 l6 = some r ∧ St 26 w0 F [(2,sv46),(3,(Value.func (.func 62) #[pt p0 0] #[])),(10,I x22),(11,I i4)] [box p0 134 [sv0,pt p1 0],own sv0 9 1 l0.length (fl eS l0),box p1 177 [sv1],own sv1 174 2 l1.length (fl enc_Omap_pair__string___int l1),own sv46 9 1 l6.length (fl eS l6)] a w) K ?_ ?_
 ·refine ent_ownnil 9 1 ?_
  exact ent_fin [1,2,3,4,0] (by decide) rfl (sub_cons (t := 2) rfl (sub_cons (t := 3) rfl (sub_cons (t := 10) rfl (sub_cons (t := 11) rfl (sub_nil _))))) fun a w h => ⟨_,_,_,H,h⟩
 ·refine fun k => ent_exi fun i4 => ent_exi fun l6 => ent_exi fun sv46 => ent_and fun H4 => ?_
  cases k with
  | zero => exact absurd H4 (by simp [stat_all_OO_l0])
  | succ k =>
   rw [stat_all_OO_l0] at H4
   refine ent_seq (ent_region (ent_value (ov_bin rfl rfl (b_lss _ _ _)) rfl rfl rfl (ent_nil (ent_seq ?_))))
   refine htF H4 (fun c46 H4 => ?_) fun c46 H4 => ?_
   ·refine ent_cond_false rfl (decide_eq_false c46) (ent_exit (ent_seq (ent_region (ent_value (ov_move rfl) rfl rfl rfl (ent_value (ov_assign rfl) rfl rfl rfl (ent_nil (ent_retc ?_)))))))
    cases H4
    refine ent_pick [0,1,2,3,4] (by decide) rfl ?_
    exact ret_tmp rfl rfl ⟨_,rfl,rfl⟩
   refine ent_cond_true rfl (decide_eq_true c46) (ent_skip (ent_seq (ent_block (ent_seq (ent_region (ent_value (ov_move rfl) rfl rfl rfl (ent_value (ov_assign rfl) rfl rfl rfl (ent_nil (ent_seq (ent_region (ent_value (ov_move rfl) rfl rfl rfl ?_)))))))))))
   refine ent_value (ov_move rfl) rfl rfl rfl ?_
   obtain ⟨x28,h28,H4⟩ := Option.bind_eq_some_iff.1 H4
   refine ent_op (ot_call_same (Lr := [own sv46 9 1 l6.length (fl eS l6)]) [0,1,2,3,4] [0,1,2,3,4] (first := [pt p0 0]) (cap := []) (xs := [.tmp 16]) rfl rfl F_call_62 rfl (dict_Dict__string_At_OO.spec p0 sv0 p1 sv1 l0 l1 i4 _ h28) (by decide) rfl (by decide) rfl) rfl rfl rfl ?_
   rintro _ _ ⟨rfl,rfl⟩
   refine ent_value (ov_move rfl) rfl rfl rfl (ent_value (ov_extract rfl rfl) rfl rfl rfl (ent_value (ov_extract rfl rfl) rfl rfl rfl (ent_value (ov_assign rfl) rfl rfl rfl (ent_value (ov_assign rfl) rfl rfl rfl (ent_nil (ent_region (ent_value (ov_move rfl) rfl rfl rfl (ent_value (ov_move rfl) rfl rfl rfl ?_))))))))
   refine ent_op (ot_buildSlice (sz := 0) (xs := [.tmp 21]) (cs := fl eS [x28.1]) rfl rfl F_slice_30 F_size_9 F_zero_9 rfl rfl (all_size rfl) rfl (by decide)) rfl rfl rfl ?_
   rintro sv53 _ rfl
   obtain ⟨c48,H4⟩ := gdT H4
   refine ent_op (ot_appendx (sz := 0) (xs := l6) (ys := [x28.1]) 5 0 rfl rfl F_slice_30 F_size_9 F_zero_9 rfl F_bytes_9 rfl rfl rfl (isRd_ownx 9) rfl eS_one c48) rfl rfl rfl ?_
   rintro sv54 _ rfl
   refine ent_L [own sv53 9 1 [x28.1].length (fl eS [x28.1]),box p0 134 [sv0,pt p1 0],own sv0 9 1 l0.length (fl eS l0),box p1 177 [sv1],own sv1 174 2 l1.length (fl enc_Omap_pair__string___int l1),own sv54 9 1 (l6 ++ [x28.1]).length (fl eS (l6 ++ [x28.1]))] rfl ?_
   refine ent_value (ov_assign rfl) rfl rfl rfl (ent_nil (ent_region (ent_value (ov_bin rfl rfl (b_add _ _ _) ) rfl rfl rfl (ent_value (ov_move rfl) rfl rfl rfl (ent_nil ?_)))))
   exact ent_fin [1,2,3,4,5] (by decide) rfl (sub_cons (t := 2) rfl (sub_cons (t := 3) rfl (sub_cons (t := 10) rfl (sub_cons (t := 11) rfl (sub_nil _))))) fun a w h => ⟨k,Nat.lt_succ_self k,_,_,_,H4,h⟩

theorem omap_Map__string___int_Get_O.spec (K p0 : Nat) (sv0 : Value) (l0 : List Omap_pair__string___int) (a1 : List UInt8) (r : (Int × Bool)) (H : omap_Map__string___int_Get_O K l0 a1 = some r) : FnSpec Try.prog 63 [pt p0 0,str a1] [box p0 177 [sv0],own sv0 174 2 l0.length (fl enc_Omap_pair__string___int l0)] (fun v M => v = (tU #[I r.1,bool r.2]) ∧ M = [box p0 177 [sv0],own sv0 174 2 l0.length (fl enc_Omap_pair__string___int l0)]) := by
 unfold omap_Map__string___int_Get_O at H
 refine spec_of Try.func63 rfl 24 rfl (Nat.le_of_ble_eq_true rfl) fun F w0 => ?_
 show Ent (St 24 w0 F [(0,pt p0 0),(1,str a1)] [box p0 177 [sv0],own sv0 174 2 l0.length (fl enc_Omap_pair__string___int l0)]) _
 refine ent_seq (ent_region (ent_value (ov_assign rfl) rfl rfl rfl (ent_value (ov_assign rfl) rfl rfl rfl (ent_nil (ent_seq (ent_region (ent_value (ov_move rfl) rfl rfl rfl (ent_value (ov_move rfl) rfl rfl rfl ?_))))))))
 obtain ⟨x2,h2,H⟩ := Option.bind_eq_some_iff.1 H
 refine ent_op (ot_call_same (Lr := []) [0,1] [0,1] (first := []) (cap := []) (xs := [.tmp 8,.tmp 9]) rfl rfl F_call_91 rfl (omap_Map__string___int_place_O.spec K p0 sv0 l0 a1 _ h2) (by decide) rfl (by decide) rfl) rfl rfl rfl ?_
 rintro _ _ ⟨rfl,rfl⟩
 refine ent_value (ov_move rfl) rfl rfl rfl (ent_value (ov_extract rfl rfl) rfl rfl rfl (ent_value (ov_extract rfl rfl) rfl rfl rfl (ent_value (ov_assign rfl) rfl rfl rfl (ent_value (ov_assign rfl) rfl rfl rfl (ent_nil (ent_seq (ent_seq (ent_region (ent_value (ov_move rfl) rfl rfl rfl (ent_value (ov_un rfl (u_not _)) rfl rfl rfl (ent_nil ?_)))))))))))
 refine htT H (fun c6 H => ?_) fun c6 H => ?_
 ·refine ent_cond_true rfl c6 (ent_seq (ent_region (ent_value (ov_move rfl) rfl rfl rfl (ent_value (ov_assign rfl) rfl rfl rfl (ent_value (ov_assign rfl) rfl rfl rfl (ent_nil (ent_retc ?_)))))))
  cases H
  refine ent_pick [0,1] (by decide) rfl ?_
  exact ret_mem (vs := [I 0,B0]) rfl ⟨rfl,⟨rfl,trivial⟩⟩ _ rfl ⟨rfl,rfl⟩
 refine ent_cond_false rfl (Bool.eq_false_iff.2 c6) (ent_skip (ent_seq (ent_region (ent_value (ov_move rfl) rfl rfl rfl (ent_value (ov_nilCheck rfl) rfl rfl rfl (ent_value (ov_fieldAddr (sz := 0) (o := 0) rfl F_field_177_0 F_size_175) rfl rfl rfl (ent_value (ov_load (v := sv0) rfl F_agg_175 (reads_box1 (i := 0) rfl rfl)) rfl rfl rfl (ent_value (ov_move rfl) rfl rfl rfl ?_))))))))
 obtain ⟨c7,H⟩ := gdT H
 obtain ⟨c8,H⟩ := gdT H
 refine ent_value (ov_indexAddr (sz := 1) 1 rfl rfl F_slice_175 F_size_174 rfl (isRd_ownx 174) c7 c8) rfl rfl rfl (ent_value (ov_fieldAddrE (sz := 0) (k0 := x2.2.toNat * 2) (off := 1) 1 rfl F_field_174_1 F_size_3 rfl (isRd_ownx 174) (fl_pos enc_Omap_pair__string___int_len (ix_lt c7 c8))) rfl rfl rfl ?_)
 refine ent_value (ov_load (v := (I ((l0.getD x2.2.toNat z_Omap_pair__string___int).v))) rfl F_agg_3 (reads_rd (i := 1) rfl (isRd_ownx 174) (by simp) (fl_read (off := 1) enc_Omap_pair__string___int_len (ix_lt c7 c8) rfl))) rfl rfl rfl ?_
 refine ent_value (ov_assign rfl) rfl rfl rfl (ent_value (ov_assign rfl) rfl rfl rfl (ent_nil (ent_retc ?_)))
 cases H
 refine ent_pick [0,1] (by decide) rfl ?_
 exact ret_mem (vs := [I ((l0.getD x2.2.toNat z_Omap_pair__string___int).v),bool true]) rfl ⟨rfl,⟨rfl,trivial⟩⟩ _ rfl ⟨rfl,rfl⟩

theorem dict_Dict__string_Code_OO.spec (K p0 : Nat) (sv0 : Value) (p1 : Nat) (sv1 : Value) (l0 : List (List UInt8)) (l1 : List Omap_pair__string___int) (a1 : List UInt8) (r : (Int × Bool)) (H : dict_Dict__string_Code_OO K l0 l1 a1 = some r) : FnSpec Try.prog 37 [pt p0 0,str a1] [box p0 134 [sv0,pt p1 0],own sv0 9 1 l0.length (fl eS l0),box p1 177 [sv1],own sv1 174 2 l1.length (fl enc_Omap_pair__string___int l1)] (fun v M => v = (tU #[I r.1,bool r.2]) ∧ M = [box p0 134 [sv0,pt p1 0],own sv0 9 1 l0.length (fl eS l0),box p1 177 [sv1],own sv1 174 2 l1.length (fl enc_Omap_pair__string___int l1)]) := by
 unfold dict_Dict__string_Code_OO at H
 refine spec_of Try.func37 rfl 16 rfl (Nat.le_of_ble_eq_true rfl) fun F w0 => ?_
 show Ent (St 16 w0 F [(0,pt p0 0),(1,str a1)] [box p0 134 [sv0,pt p1 0],own sv0 9 1 l0.length (fl eS l0),box p1 177 [sv1],own sv1 174 2 l1.length (fl enc_Omap_pair__string___int l1)]) _
 refine ent_seq (ent_region (ent_value (ov_assign rfl) rfl rfl rfl (ent_value (ov_assign rfl) rfl rfl rfl (ent_nil (ent_seq (ent_seq (ent_region (ent_value (ov_move rfl) rfl rfl rfl ?_))))))))
 refine ent_value (ov_bin rfl rfl (b_eql_of (fun w => rfl) rfl (eq_pn Try.underlying84 _ _))) rfl rfl rfl ?_
 refine ent_nil (ent_cond_false rfl rfl (ent_skip (ent_seq (ent_region (ent_value (ov_move rfl) rfl rfl rfl (ent_value (ov_nilCheck rfl) rfl rfl rfl (ent_value (ov_fieldAddr (sz := 0) (o := 0) rfl F_field_134_1 F_size_132) rfl rfl rfl (ent_value (ov_load (v := (pt p1 0)) rfl F_agg_132 (reads_box1 (i := 0) rfl rfl)) rfl rfl rfl (ent_value (ov_move rfl) rfl rfl rfl ?_)))))))))
 obtain ⟨x2,h2,H⟩ := Option.bind_eq_some_iff.1 H
 refine ent_op (ot_call_same (Lr := [box p0 134 [sv0,pt p1 0],own sv0 9 1 l0.length (fl eS l0)]) [2,3,0,1] [2,3,0,1] (first := []) (cap := []) (xs := [.tmp 11,.tmp 12]) rfl rfl F_call_63 rfl (omap_Map__string___int_Get_O.spec K p1 sv1 l1 a1 _ h2) (by decide) rfl (by decide) rfl) rfl rfl rfl ?_
 rintro _ _ ⟨rfl,rfl⟩
 refine ent_value (ov_extract rfl rfl) rfl rfl rfl (ent_value (ov_extract rfl rfl) rfl rfl rfl (ent_value (ov_assign rfl) rfl rfl rfl (ent_value (ov_assign rfl) rfl rfl rfl (ent_nil (ent_retc ?_)))))
 cases H
 refine ent_pick [0,1,2,3] (by decide) rfl ?_
 exact ret_mem (vs := [I x2.1,bool x2.2]) rfl ⟨rfl,⟨rfl,trivial⟩⟩ _ rfl ⟨rfl,rfl⟩

theorem cell_plus.spec (a0 a1 : Int) (r : (Int × Bool)) (H : cell_plus a0 a1 = r) : FnSpec Try.prog 64 [I a0,I a1] [] (fun v M => v = (tU #[I r.1,bool r.2]) ∧ M = []) := by
 unfold cell_plus at H
 refine spec_of Try.func64 rfl 20 rfl (Nat.le_of_ble_eq_true rfl) fun F w0 => ?_
 show Ent (St 20 w0 F [(0,I a0),(1,I a1)] []) _
 refine ent_seq (ent_region (ent_value (ov_assign rfl) rfl rfl rfl (ent_value (ov_assign rfl) rfl rfl rfl (ent_nil (ent_seq (ent_region (ent_value (ov_move rfl) rfl rfl rfl (ent_value (ov_move rfl) rfl rfl rfl (ent_value (ov_bin rfl rfl (b_add _ _ _) ) rfl rfl rfl (ent_value (ov_assign rfl) rfl rfl rfl (ent_nil ?_)))))))))))
 refine ent_seq (ent_region (ent_value (ov_move rfl) rfl rfl rfl (ent_value (ov_move rfl) rfl rfl rfl (ent_value (ov_move rfl) rfl rfl rfl (ent_value (ov_bin rfl rfl (b_xor _ _ _)) rfl rfl rfl (ent_value (ov_move rfl) rfl rfl rfl (ent_value (ov_move rfl) rfl rfl rfl (ent_value (ov_bin rfl rfl (b_xor _ _ _)) rfl rfl rfl (ent_value (ov_bin rfl rfl (b_and _ _ _)) rfl rfl rfl ?_)))))))))
 refine ent_value (ov_bin rfl rfl fun w => b_shr _ _ _ _ w (by decide)) rfl rfl rfl ?_
 refine ent_value (ov_bin rfl rfl (b_eql _ _ _)) rfl rfl rfl (ent_value (ov_assign rfl) rfl rfl rfl (ent_value (ov_assign rfl) rfl rfl rfl (ent_nil (ent_retc ?_))))
 cases H
 refine ent_pick [] (by decide) rfl ?_
 exact ret_mem (vs := [I (w64 (a0 + a1)),bool ((bShr .i64 (bAnd .i64 (bXor .i64 a0 (w64 (a0 + a1))) (bXor .i64 a1 (w64 (a0 + a1)))) 63) == 0)]) rfl ⟨rfl,⟨rfl,trivial⟩⟩ _ rfl ⟨rfl,rfl⟩

theorem cell_Merge.spec (a0_0 a0_1 : Int) (a0_2 a0_3 : Int) (a1_0 a1_1 : Int) (a1_2 a1_3 : Int) (r : (Int × Int × Int × Int × Bool)) (H : cell_Merge a0_0 a0_1 a0_2 a0_3 a1_0 a1_1 a1_2 a1_3 = r) : FnSpec Try.prog 38 [agg #[I a0_0,I a0_1,I a0_2,I a0_3],agg #[I a1_0,I a1_1,I a1_2,I a1_3]] [] (fun v M => v = (tU #[agg #[I r.1,I r.2.1,I r.2.2.1,I r.2.2.2.1],bool r.2.2.2.2]) ∧ M = []) := by
 unfold cell_Merge at H
 refine spec_of Try.func38 rfl 56 rfl (Nat.le_of_ble_eq_true rfl) fun F w0 => ?_
 show Ent (St 56 w0 F [(0,agg #[I a0_0,I a0_1,I a0_2,I a0_3]),(1,agg #[I a1_0,I a1_1,I a1_2,I a1_3])] []) _
 refine ent_seq (ent_region ?_)
 refine ent_op (ot_box (cs := [I a0_0,I a0_1,I a0_2,I a0_3]) rfl rfl) rfl rfl rfl ?_
 rintro _ _ ⟨b4,rfl,rfl⟩
 refine ent_op (ot_box (cs := [I a1_0,I a1_1,I a1_2,I a1_3]) rfl rfl) rfl rfl rfl ?_
 rintro _ _ ⟨b5,rfl,rfl⟩
 refine ent_op (ot_alloc F_zero_39) rfl rfl rfl ?_
 rintro _ _ ⟨b6,rfl,rfl⟩
 let C0_ : List HP := [box b6 39 [I 0,I 0,I 0,I 0],box b5 39 [I a1_0,I a1_1,I a1_2,I a1_3],box b4 39 [I a0_0,I a0_1,I a0_2,I a0_3]]
 refine ent_value (ov_assign rfl) rfl rfl rfl (ent_nil (ent_seq (ent_block (ent_seq (ent_region (ent_value (ov_fieldAddr (sz := 0) (o := 0) rfl F_field_39_0 F_size_2) rfl rfl rfl (ent_value (ov_load (v := (I a0_0)) rfl F_agg_2 (reads_box1 (i := 2) rfl rfl)) rfl rfl rfl (ent_value (ov_bin rfl rfl (b_eql _ _ _)) rfl rfl rfl (ent_value (ov_assign rfl) rfl rfl rfl (ent_nil ?_))))))))))
 refine htT H (fun c11 H => ?_) fun c11 H => ?_
 ·refine ent_cond_true rfl (eq_t c11) (ent_seq (ent_region (ent_value (ov_load_agg (vs := [I a1_0,I a1_1,I a1_2,I a1_3]) rfl F_agg_39 F_size_39 (reads_boxW (i := 1) rfl)) rfl rfl rfl ?_)))
  refine ent_op0 (ot_storeG (cs := [I 0,I 0,I 0,I 0]) (cs' := [I a1_0,I a1_1,I a1_2,I a1_3]) (us := [I a1_0,I a1_1,I a1_2,I a1_3]) (L' := [box b6 39 [I a1_0,I a1_1,I a1_2,I a1_3],box b5 39 [I a1_0,I a1_1,I a1_2,I a1_3],box b4 39 [I a0_0,I a0_1,I a0_2,I a0_3]]) 0 rfl rfl rfl (one_all rfl) F_size_39 rfl rfl (by simp [C0_]) rfl) rfl rfl ?_
  rintro _ _ rfl
  refine ent_value (ov_assign rfl) rfl rfl rfl (ent_nil (ent_retc ?_))
  subst H
  exact ret_memp [] (by decide) rfl (vs := [agg #[I a1_0,I a1_1,I a1_2,I a1_3],bool true]) rfl ⟨⟨_,[I a1_0,I a1_1,I a1_2,I a1_3],rfl,reads_boxW (i := 0) rfl,.inl ⟨F_agg_39,F_size_39,rfl⟩⟩,⟨rfl,trivial⟩⟩ _ rfl ⟨rfl,rfl⟩
 refine ent_cond_false rfl (eq_f c11) (ent_seq (ent_region (ent_value (ov_fieldAddr (sz := 0) (o := 0) rfl F_field_39_0 F_size_2) rfl rfl rfl (ent_value (ov_load (v := (I a1_0)) rfl F_agg_2 (reads_box1 (i := 1) rfl rfl)) rfl rfl rfl (ent_value (ov_bin rfl rfl (b_eql _ _ _)) rfl rfl rfl (ent_value (ov_assign rfl) rfl rfl rfl (ent_nil ?_)))))))
 refine htT H (fun c12 H => ?_) fun c12 H => ?_
 ·refine ent_cond_true rfl (eq_t c12) (ent_seq (ent_region (ent_value (ov_load_agg (vs := [I a0_0,I a0_1,I a0_2,I a0_3]) rfl F_agg_39 F_size_39 (reads_boxW (i := 2) rfl)) rfl rfl rfl ?_)))
  refine ent_op0 (ot_storeG (cs := [I 0,I 0,I 0,I 0]) (cs' := [I a0_0,I a0_1,I a0_2,I a0_3]) (us := [I a0_0,I a0_1,I a0_2,I a0_3]) (L' := [box b6 39 [I a0_0,I a0_1,I a0_2,I a0_3],box b5 39 [I a1_0,I a1_1,I a1_2,I a1_3],box b4 39 [I a0_0,I a0_1,I a0_2,I a0_3]]) 0 rfl rfl rfl (one_all rfl) F_size_39 rfl rfl (by simp [C0_]) rfl) rfl rfl ?_
  rintro _ _ rfl
  refine ent_value (ov_assign rfl) rfl rfl rfl (ent_nil (ent_retc ?_))
  subst H
  exact ret_memp [] (by decide) rfl (vs := [agg #[I a0_0,I a0_1,I a0_2,I a0_3],bool true]) rfl ⟨⟨_,[I a0_0,I a0_1,I a0_2,I a0_3],rfl,reads_boxW (i := 0) rfl,.inl ⟨F_agg_39,F_size_39,rfl⟩⟩,⟨rfl,trivial⟩⟩ _ rfl ⟨rfl,rfl⟩
 refine ent_cond_false rfl (eq_f c12) (ent_skip (ent_seq (ent_region (ent_value (ov_fieldAddr (sz := 0) (o := 0) rfl F_field_39_0 F_size_2) rfl rfl rfl (ent_value (ov_load (v := (I a0_0)) rfl F_agg_2 (reads_box1 (i := 2) rfl rfl)) rfl rfl rfl (ent_value (ov_fieldAddr (sz := 0) (o := 0) rfl F_field_39_0 F_size_2) rfl rfl rfl (ent_value (ov_load (v := (I a1_0)) rfl F_agg_2 (reads_box1 (i := 1) rfl rfl)) rfl rfl rfl ?_)))))))
 obtain ⟨x3,h3,H⟩ := thn_elim H
 refine ent_op (ot_call0 (first := []) (cap := []) (xs := [.tmp 22,.tmp 24]) rfl rfl F_call_64 rfl (cell_plus.spec a0_0 a1_0 _ h3)) rfl rfl rfl ?_
 rintro _ _ ⟨rfl,rfl⟩
 refine ent_value (ov_move rfl) rfl rfl rfl (ent_value (ov_extract rfl rfl) rfl rfl rfl (ent_value (ov_extract rfl rfl) rfl rfl rfl (ent_value (ov_assign rfl) rfl rfl rfl (ent_value (ov_assign rfl) rfl rfl rfl (ent_nil (ent_seq (ent_region (ent_value (ov_fieldAddr (sz := 0) (o := 0) rfl F_field_39_1 F_size_2) rfl rfl rfl (ent_value (ov_load (v := (I a0_1)) rfl F_agg_2 (reads_box1 (i := 2) rfl rfl)) rfl rfl rfl (ent_value (ov_fieldAddr (sz := 0) (o := 0) rfl F_field_39_1 F_size_2) rfl rfl rfl (ent_value (ov_load (v := (I a1_1)) rfl F_agg_2 (reads_box1 (i := 1) rfl rfl)) rfl rfl rfl ?_)))))))))))
 obtain ⟨x4,h4,H⟩ := thn_elim H
 refine ent_op (ot_call0 (first := []) (cap := []) (xs := [.tmp 30,.tmp 32]) rfl rfl F_call_64 rfl (cell_plus.spec a0_1 a1_1 _ h4)) rfl rfl rfl ?_
 rintro _ _ ⟨rfl,rfl⟩
 refine ent_value (ov_move rfl) rfl rfl rfl (ent_value (ov_extract rfl rfl) rfl rfl rfl (ent_value (ov_extract rfl rfl) rfl rfl rfl (ent_value (ov_assign rfl) rfl rfl rfl (ent_value (ov_assign rfl) rfl rfl rfl (ent_nil (ent_seq (ent_seq (ent_region (ent_value (ov_move rfl) rfl rfl rfl (ent_value (ov_un rfl (u_not _)) rfl rfl rfl (ent_value (ov_move rfl) rfl rfl rfl ?_)))))))))))
 refine htT H (fun c15 H => ?_) fun c15 H => ?_
 ·refine ent_off rfl rfl rfl c15 rfl rfl ?_
  refine ent_off rfl rfl rfl c15 rfl rfl ?_
  refine ent_value (ov_pick rfl rfl rfl (pick_t c15)) rfl rfl rfl (ent_nil (ent_cond_true rfl rfl (ent_seq (ent_region (ent_value (ov_build (is := []) (xs := []) (vs := []) rfl rfl (build_struct (cs := [I 0,I 0,I 0,I 0]) F_zero_39 F_places_39 rfl)) rfl rfl rfl ?_)))))
  refine ent_op0 (ot_storeG (cs := [I 0,I 0,I 0,I 0]) (cs' := [I 0,I 0,I 0,I 0]) (us := [I 0,I 0,I 0,I 0]) (L' := C0_) 0 rfl rfl rfl (one_all rfl) F_size_39 rfl rfl (by simp [C0_]) rfl) rfl rfl ?_
  rintro _ _ rfl
  refine ent_value (ov_assign rfl) rfl rfl rfl (ent_nil (ent_retc ?_))
  subst H
  exact ret_memp [] (by decide) rfl (vs := [agg #[I 0,I 0,I 0,I 0],B0]) rfl ⟨⟨_,[I 0,I 0,I 0,I 0],rfl,reads_boxW (i := 0) rfl,.inl ⟨F_agg_39,F_size_39,rfl⟩⟩,⟨rfl,trivial⟩⟩ _ rfl ⟨rfl,rfl⟩
 refine ent_value_on (ov_move rfl) rfl rfl rfl (Bool.eq_false_iff.2 c15) rfl rfl ?_
 refine ent_value_on (ov_un rfl (u_not _)) rfl rfl rfl (Bool.eq_false_iff.2 c15) rfl rfl ?_
 refine ent_value (ov_pick rfl rfl rfl (pick_f (Bool.eq_false_iff.2 c15))) rfl rfl rfl (ent_nil ?_)
 refine htT H (fun c16 H => ?_) fun c16 H => ?_
 ·refine ent_cond_true rfl c16 (ent_seq (ent_region (ent_value (ov_build (is := []) (xs := []) (vs := []) rfl rfl (build_struct (cs := [I 0,I 0,I 0,I 0]) F_zero_39 F_places_39 rfl)) rfl rfl rfl ?_)))
  refine ent_op0 (ot_storeG (cs := [I 0,I 0,I 0,I 0]) (cs' := [I 0,I 0,I 0,I 0]) (us := [I 0,I 0,I 0,I 0]) (L' := C0_) 0 rfl rfl rfl (one_all rfl) F_size_39 rfl rfl (by simp [C0_]) rfl) rfl rfl ?_
  rintro _ _ rfl
  refine ent_value (ov_assign rfl) rfl rfl rfl (ent_nil (ent_retc ?_))
  subst H
  exact ret_memp [] (by decide) rfl (vs := [agg #[I 0,I 0,I 0,I 0],B0]) rfl ⟨⟨_,[I 0,I 0,I 0,I 0],rfl,reads_boxW (i := 0) rfl,.inl ⟨F_agg_39,F_size_39,rfl⟩⟩,⟨rfl,trivial⟩⟩ _ rfl ⟨rfl,rfl⟩
 refine ent_cond_false rfl (Bool.eq_false_iff.2 c16) (ent_skip (ent_seq (ent_region (ent_value (ov_move rfl) rfl rfl rfl (ent_value (ov_move rfl) rfl rfl rfl (ent_value (ov_fieldAddr (sz := 0) (o := 0) rfl F_field_39_2 F_size_2) rfl rfl rfl (ent_value (ov_load (v := (I a0_2)) rfl F_agg_2 (reads_box1 (i := 2) rfl rfl)) rfl rfl rfl (ent_value (ov_fieldAddr (sz := 0) (o := 0) rfl F_field_39_2 F_size_2) rfl rfl rfl (ent_value (ov_load (v := (I a1_2)) rfl F_agg_2 (reads_box1 (i := 1) rfl rfl)) rfl rfl rfl (ent_value (ov_min2 rfl rfl) rfl rfl rfl (ent_value (ov_fieldAddr (sz := 0) (o := 0) rfl F_field_39_3 F_size_2) rfl rfl rfl ?_)))))))))))
 refine ent_value (ov_load (v := (I a0_3)) rfl F_agg_2 (reads_box1 (i := 2) rfl rfl)) rfl rfl rfl (ent_value (ov_fieldAddr (sz := 0) (o := 0) rfl F_field_39_3 F_size_2) rfl rfl rfl (ent_value (ov_load (v := (I a1_3)) rfl F_agg_2 (reads_box1 (i := 1) rfl rfl)) rfl rfl rfl (ent_value (ov_max2 rfl rfl) rfl rfl rfl (ent_value (ov_build (is := [0,1,2,3]) (xs := [.tmp 43,.tmp 44,.tmp 49,.tmp 54]) (vs := [I x3.1,I x4.1,I (mn a0_2 a1_2),I (mx a0_3 a1_3)]) rfl rfl (build_struct (cs := [I x3.1,I x4.1,I (mn a0_2 a1_2),I (mx a0_3 a1_3)]) F_zero_39 F_places_39 rfl)) rfl rfl rfl ?_))))
 refine ent_op0 (ot_storeG (cs := [I 0,I 0,I 0,I 0]) (cs' := [I x3.1,I x4.1,I (mn a0_2 a1_2),I (mx a0_3 a1_3)]) (us := [I x3.1,I x4.1,I (mn a0_2 a1_2),I (mx a0_3 a1_3)]) (L' := [box b6 39 [I x3.1,I x4.1,I (mn a0_2 a1_2),I (mx a0_3 a1_3)],box b5 39 [I a1_0,I a1_1,I a1_2,I a1_3],box b4 39 [I a0_0,I a0_1,I a0_2,I a0_3]]) 0 rfl rfl rfl (one_all rfl) F_size_39 rfl rfl (by simp [C0_]) rfl) rfl rfl ?_
 rintro _ _ rfl
 refine ent_value (ov_assign rfl) rfl rfl rfl (ent_nil (ent_retc ?_))
 subst H
 exact ret_memp [] (by decide) rfl (vs := [agg #[I x3.1,I x4.1,I (mn a0_2 a1_2),I (mx a0_3 a1_3)],bool true]) rfl ⟨⟨_,[I x3.1,I x4.1,I (mn a0_2 a1_2),I (mx a0_3 a1_3)],rfl,reads_boxW (i := 0) rfl,.inl ⟨F_agg_39,F_size_39,rfl⟩⟩,⟨rfl,trivial⟩⟩ _ rfl ⟨rfl,rfl⟩

end Go.Proofs.Ytndeodpckfjakaa.StatSums
