/- Printed by gen.py: that the machine's calls do what the plain functions of FactLooks say. -/
import Derived.Test.YtndjnimnemhbkaaFactLooksWalk0
import Derived.Test.YtndjnimnemhbkaaESq
import Derived.Test.YtndjnimnemhbkaaProg
import Derived.Test.YtndjnimnemhbkaaEBun
import Derived.Test.YtndjnimnemhbkaaFactLooksCmp
import Derived.Test.YtndjnimnemhbkaaESortFAt
import Derived.Test.YtndjnimnemhbkaaESortAt
import Derived.Test.YtndjnimnemhbkaaFactLooksPure
set_option linter.unusedVariables false
set_option linter.unusedSimpArgs false
set_option maxHeartbeats 8000000
set_option maxRecDepth 100000
namespace Go.Proofs.Ytndjnimnemhbkaa.FactLooks
open Go Go.RowKit E
open Go.Value (int bool slice agg)

theorem fact_Sort_1.spec (K : Nat) (a0_0 : Int) (a0_1 : List UInt8) (a0_2 : List UInt8) (a0_3 : List UInt8) (a0_4 : List UInt8) (a0_5 a1_0 : Int) (a1_1 : List UInt8) (a1_2 : List UInt8) (a1_3 : List UInt8) (a1_4 : List UInt8) (a1_5 r : Int) (H : fact_Sort_1 K a0_0 a0_1 a0_2 a0_3 a0_4 a0_5 a1_0 a1_1 a1_2 a1_3 a1_4 a1_5 = some r) : FnSpec Try.prog 33 [agg #[I a0_0,str a0_1,str a0_2,str a0_3,str a0_4,I a0_5],agg #[I a1_0,str a1_1,str a1_2,str a1_3,str a1_4,I a1_5]] [] (fun v M => v = (I r) ∧ M = []) := by
 unfold fact_Sort_1 at H
 refine spec_of Try.func33 rfl 17 rfl (Nat.le_of_ble_eq_true rfl) fun F w0 => ?_
 let C1_ : List Value := [I a1_0,str a1_1,str a1_2,str a1_3,str a1_4,I a1_5]
 let C0_ : List Value := [I a0_0,str a0_1,str a0_2,str a0_3,str a0_4,I a0_5]
 show Ent (St 17 w0 F [(0,agg #[I a0_0,str a0_1,str a0_2,str a0_3,str a0_4,I a0_5]),(1,agg #[I a1_0,str a1_1,str a1_2,str a1_3,str a1_4,I a1_5])] []) _
 refine ent_seq (ent_region ?_)
 refine ent_op (ot_box (cs := C0_) rfl rfl) rfl rfl rfl ?_
 rintro _ _ ⟨b3,rfl,rfl⟩
 refine ent_op (ot_box (cs := C1_) rfl rfl) rfl rfl rfl ?_
 rintro _ _ ⟨b4,rfl,rfl⟩
 refine ent_value (ov_assign rfl) rfl rfl rfl (ent_nil (ent_seq ?_))
 obtain ⟨x4,h4,H⟩ := Option.bind_eq_some_iff.1 H
 obtain ⟨x5,h5,H⟩ := thn_elim H
 obtain ⟨x6,h6,H⟩ := Option.bind_eq_some_iff.1 H
 let Z2_T : DT := fun ga2 => [(0,5,pt b3 0),(1,6,agg #[I a0_0,str a0_1,str a0_2,str a0_3,str a0_4]),(2,7,pt b4 0),(3,8,agg #[I a1_0,str a1_1,str a1_2,str a1_3,str a1_4]),(4,9,I x4),(5,10,pt b3 5),(6,11,I a0_5),(7,12,pt b4 5),(8,13,I a1_5),(9,14,I x5),(10,15,(ga2 10)),(11,16,I x6),(12,4,I x6)]
 let Z2_L : DL := fun ga2 done => [sel (done 10) (own (ga2 10) 3 1 [x4,x5].length (fl (eI .i64) [x4,x5])) emp,box b4 52 C1_,box b3 52 C0_]
 let Z2_I : DI := fun ga2 done a w => StD 17 w0 F [(0,agg #[I a0_0,str a0_1,str a0_2,str a0_3,str a0_4,I a0_5]),(1,agg #[I a1_0,str a1_1,str a1_2,str a1_3,str a1_4,I a1_5]),(2,pt b3 0),(3,pt b4 0)] (Z2_T ga2) done (Z2_L ga2 done) a w
 refine ent_drawm 13 rfl (fun done a w => ∃ ga2 : Nat → Value,Z2_I ga2 done a w) (by kernel_rfl) (by kernel_rfl) (draw_startG (T := Z2_T) (L' := fun ga2 : Nat → Value => [sel false (own (ga2 10) 3 1 [x4,x5].length (fl (eI .i64) [x4,x5])) emp,box b4 52 C1_,box b3 52 C0_]) 1 (sub_cons (t := 0) rfl (sub_cons (t := 1) rfl (sub_cons (t := 2) rfl (sub_cons (t := 3) rfl (sub_nil _))))) (fun _ => rfl)) ?_ ?_
 ·refine ⟨?_,?_,?_,?_,?_,?_,?_,?_,?_,?_,?_,?_,?_,trivial⟩
  ·exact fun done hi hc hcu => draw_exi (I := Z2_I) fun ga2 => draw_value (i := 0) (t := 5) (v := (pt b3 0)) rfl rfl (wanted_none rfl) (fun a => hasA_base) (ov_fieldAddr (sz := 4) (o := 0) rfl F_field_52_0 F_size_50) rfl rfl (onlyT_spec (k0 := 0) rfl rfl rfl)
  ·exact fun done hi hc hcu => draw_exi (I := Z2_I) fun ga2 => draw_value (i := 1) (t := 6) (v := (agg #[I a0_0,str a0_1,str a0_2,str a0_3,str a0_4])) rfl rfl (wanted_none rfl) (fun a => (hasA_cons (k := 0) rfl (done_of (j := 0) hcu rfl (by decide) rfl) hasA_base)) (ov_load_agg (vs := [I a0_0,str a0_1,str a0_2,str a0_3,str a0_4]) rfl F_agg_50 F_size_50 (reads_boxN (i := 2) rfl rfl)) rfl rfl (onlyT_spec (k0 := 1) rfl rfl rfl)
  ·exact fun done hi hc hcu => draw_exi (I := Z2_I) fun ga2 => draw_value (i := 2) (t := 7) (v := (pt b4 0)) rfl rfl (wanted_none rfl) (fun a => hasA_base) (ov_fieldAddr (sz := 4) (o := 0) rfl F_field_52_0 F_size_50) rfl rfl (onlyT_spec (k0 := 2) rfl rfl rfl)
  ·exact fun done hi hc hcu => draw_exi (I := Z2_I) fun ga2 => draw_value (i := 3) (t := 8) (v := (agg #[I a1_0,str a1_1,str a1_2,str a1_3,str a1_4])) rfl rfl (wanted_none rfl) (fun a => (hasA_cons (k := 2) rfl (done_of (j := 2) hcu rfl (by decide) rfl) hasA_base)) (ov_load_agg (vs := [I a1_0,str a1_1,str a1_2,str a1_3,str a1_4]) rfl F_agg_50 F_size_50 (reads_boxN (i := 1) rfl rfl)) rfl rfl (onlyT_spec (k0 := 3) rfl rfl rfl)
  ·exact fun done hi hc hcu => draw_exi (I := Z2_I) fun ga2 => draw_same (i := 4) (t := 9) (v := (I x4)) rfl rfl (wanted_none rfl) (fun a => (hasA_cons (k := 3) rfl (done_of (j := 3) hcu rfl (by decide) rfl) (hasA_cons (k := 1) rfl (done_of (j := 1) hcu rfl (by decide) rfl) hasA_base))) (ot_call0 (first := []) (cap := []) (xs := [.tmp 6,.tmp 8]) rfl rfl F_call_35 rfl (fact_Compare.spec K a0_0 a0_1 a0_2 a0_3 a0_4 a1_0 a1_1 a1_2 a1_3 a1_4 _ h4)) rfl rfl (onlyT_spec (k0 := 4) rfl rfl rfl)
  ·exact fun done hi hc hcu => draw_exi (I := Z2_I) fun ga2 => draw_value (i := 5) (t := 10) (v := (pt b3 5)) rfl rfl (wanted_none rfl) (fun a => hasA_base) (ov_fieldAddr (sz := 0) (o := 0) rfl F_field_52_1 F_size_2) rfl rfl (onlyT_spec (k0 := 5) rfl rfl rfl)
  ·exact fun done hi hc hcu => draw_exi (I := Z2_I) fun ga2 => draw_value (i := 6) (t := 11) (v := (I a0_5)) rfl rfl (wanted_none rfl) (fun a => (hasA_cons (k := 5) rfl (done_of (j := 5) hcu rfl (by decide) rfl) hasA_base)) (ov_load (v := (I a0_5)) rfl F_agg_2 (reads_box1 (i := 2) rfl rfl)) rfl rfl (onlyT_spec (k0 := 6) rfl rfl rfl)
  ·exact fun done hi hc hcu => draw_exi (I := Z2_I) fun ga2 => draw_value (i := 7) (t := 12) (v := (pt b4 5)) rfl rfl (wanted_none rfl) (fun a => hasA_base) (ov_fieldAddr (sz := 0) (o := 0) rfl F_field_52_1 F_size_2) rfl rfl (onlyT_spec (k0 := 7) rfl rfl rfl)
  ·exact fun done hi hc hcu => draw_exi (I := Z2_I) fun ga2 => draw_value (i := 8) (t := 13) (v := (I a1_5)) rfl rfl (wanted_none rfl) (fun a => (hasA_cons (k := 7) rfl (done_of (j := 7) hcu rfl (by decide) rfl) hasA_base)) (ov_load (v := (I a1_5)) rfl F_agg_2 (reads_box1 (i := 1) rfl rfl)) rfl rfl (onlyT_spec (k0 := 8) rfl rfl rfl)
  ·exact fun done hi hc hcu => draw_exi (I := Z2_I) fun ga2 => draw_same (i := 9) (t := 14) (v := (I x5)) rfl rfl (wanted_none rfl) (fun a => (hasA_cons (k := 8) rfl (done_of (j := 8) hcu rfl (by decide) rfl) (hasA_cons (k := 6) rfl (done_of (j := 6) hcu rfl (by decide) rfl) hasA_base))) (ot_call0 (first := []) (cap := []) (xs := [.tmp 11,.tmp 13]) rfl rfl F_call_36 rfl (cmp_Compare__int64.spec a0_5 a1_5 _ h5)) rfl rfl (onlyT_spec (k0 := 9) rfl rfl rfl)
  ·refine fun done hi hc hcu => ent_exi (S := fun ga2 => Z2_I ga2 done) fun ga2 => draw_newV (i := 10) (t := 15) (x := ga2) (L := Z2_L) (T := Z2_T) (L2 := [emp,box b4 52 C1_,box b3 52 C0_]) (B := fun v_ => (own v_ 3 1 [x4,x5].length (fl (eI .i64) [x4,x5]))) 0 rfl rfl (wanted_none rfl) (fun a => (hasA_cons (k := 9) rfl (done_of (j := 9) hcu rfl (by decide) rfl) (hasA_cons (k := 4) rfl (done_of (j := 4) hcu rfl (by decide) rfl) hasA_base))) (by simp only [C1_,C0_,Z2_T,Z2_L,hi,sel]) (ot_buildSlice (sz := 0) (xs := [.tmp 9,.tmp 14]) (cs := fl (eI .i64) [x4,x5]) rfl rfl F_slice_97 F_size_3 F_zero_3 rfl rfl (all_size rfl) rfl (by decide)) ?_ rfl (fun v_ => ?_) rfl rfl ?_
   ·rintro _ _ rfl; rfl
   ·simp [C1_,C0_,Z2_T,Z2_L,up,upb,sel,hi]
   ·rintro _ _ rfl
    exact (tr_same rfl rfl (tr_same rfl rfl (tr_same rfl rfl (tr_same rfl rfl (tr_same rfl rfl (tr_same rfl rfl (tr_same rfl rfl (tr_same rfl rfl (tr_same rfl rfl (tr_same rfl rfl (tr_this (tr_same rfl rfl (tr_same rfl rfl tr_nil)))))))))))))
  ·intro done hi hc hcu
   refine draw_exi (I := Z2_I) fun ga2 => ?_
   have d10 : done 10 = true := done_of (j := 10) hcu rfl (by decide) rfl
   exact draw_same (i := 11) (t := 16) (v := (I x6)) rfl rfl (wanted_none rfl) (fun a => (hasA_cons (k := 10) rfl d10 hasA_base)) (ot_L (L2 := [own (ga2 10) 3 1 [x4,x5].length (fl (eI .i64) [x4,x5]),box b4 52 C1_,box b3 52 C0_]) (by simp only [C1_,C0_,Z2_T,Z2_L,d10,sel]) (ot_call_same (Lr := [box b4 52 C1_,box b3 52 C0_]) [0,1,2] [0,1,2] (first := []) (cap := []) (xs := [.tmp 15]) rfl rfl F_call_34 rfl (cmp_Or__int_R.spec K (ga2 10) (own (ga2 10) 3 1 [x4,x5].length (fl (eI .i64) [x4,x5])) [x4,x5] (isRd_ownx 3) _ h6) (by decide) rfl (by decide) rfl)) rfl rfl (onlyT_spec (k0 := 11) rfl rfl rfl)
  ·exact fun done hi hc hcu => draw_exi (I := Z2_I) fun ga2 => draw_value (i := 12) (t := 4) (v := (I x6)) rfl rfl (wanted_none rfl) (fun a => (hasA_cons (k := 11) rfl (done_of (j := 11) hcu rfl (by decide) rfl) hasA_base)) (ov_assign rfl) rfl rfl (onlyT_spec (k0 := 12) rfl rfl rfl)
 ·intro done hall
  refine ent_exi (S := fun ga2 => Z2_I ga2 done) fun ga2 => ?_
  refine draw_endL [own (ga2 10) 3 1 [x4,x5].length (fl (eI .i64) [x4,x5]),box b4 52 C1_,box b3 52 C0_] (by simp only [C1_,C0_,Z2_T,Z2_L,hall 10 (by decide),sel]) (fun a => (hasA_cons (k := 12) rfl (hall 12 (by decide)) (hasA_cons (k := 0) rfl (hall 0 (by decide)) (hasA_cons (k := 1) rfl (hall 1 (by decide)) (hasA_cons (k := 2) rfl (hall 2 (by decide)) (hasA_cons (k := 3) rfl (hall 3 (by decide)) (hasA_cons (k := 4) rfl (hall 4 (by decide)) (hasA_cons (k := 5) rfl (hall 5 (by decide)) (hasA_cons (k := 6) rfl (hall 6 (by decide)) (hasA_cons (k := 7) rfl (hall 7 (by decide)) (hasA_cons (k := 8) rfl (hall 8 (by decide)) (hasA_cons (k := 9) rfl (hall 9 (by decide)) (hasA_cons (k := 10) rfl (hall 10 (by decide)) (hasA_cons (k := 11) rfl (hall 11 (by decide)) hasA_base)))))))))))))) ?_
  refine ent_retc ?_
  cases H
  refine ent_pick [] (by decide) rfl ?_
  exact ret_tmp rfl rfl ⟨rfl,rfl⟩

theorem slices_SortFunc____api_Fact__api_Fact.spec (K : Nat) (sv0 : Value) (l0 : List Api_Fact) (r : List Api_Fact) (H : slices_SortFunc____api_Fact__api_Fact K l0 = some r) : FnSpec Try.prog 32 [sv0,(Value.func (.func 33) #[] #[])] [own sv0 52 6 l0.length (fl enc_Api_Fact l0)] (fun v M => v = (tU #[]) ∧ M = [own sv0 52 6 r.length (fl enc_Api_Fact r)]) := by
 unfold slices_SortFunc____api_Fact__api_Fact at H
 split at H
 ·rename_i hK
  cases H
  exact sortF_at (enc := enc_Api_Fact) (fun x => rfl) (fun x => enc_one rfl) (cf_fact_Sort_1 K) (cf_fact_Sort_1_swo hK.1) (cf_fact_Sort_1_total hK.1) (fun args w => enters_of Try.func33 (by kernel_rfl) rfl args w) (fun x y => (fact_Sort_1.spec K x.Key.Hour x.Key.Dims_0 x.Key.Dims_1 x.Key.Dims_2 x.Key.Dims_3 x.Value y.Key.Hour y.Key.Dims_0 y.Key.Dims_1 y.Key.Dims_2 y.Key.Dims_3 y.Value _ (cf_fact_Sort_1_some hK.1 x y))) sv0 l0 (by omega)
 ·cases H

theorem fact_Sort_R.spec (K : Nat) (sv0 : Value) (A0 : HP) (l0 : List Api_Fact) (hA0 : IsRd A0 sv0 l0.length 6 (fl enc_Api_Fact l0)) (r : List Api_Fact) (H : fact_Sort_R K l0 = some r) : FnSpec Try.prog 13 [sv0] [A0] (fun v M => ∃ sv2 : Value,v = sv2 ∧ M = [A0,own sv2 52 6 r.length (fl enc_Api_Fact r)]) := by
 unfold fact_Sort_R at H
 refine spec_of Try.func13 rfl 9 rfl (Nat.le_of_ble_eq_true rfl) fun F w0 => ?_
 show Ent (St 9 w0 F [(0,sv0)] [A0]) _
 refine ent_seq (ent_region (ent_value (ov_assign rfl) rfl rfl rfl (ent_nil (ent_seq (ent_region (ent_value (ov_move rfl) rfl rfl rfl ?_))))))
 obtain ⟨x3,h3,H⟩ := Option.bind_eq_some_iff.1 H
 refine ent_op (ot_call (Lr := []) (first := []) (cap := []) (xs := [.tmp 4]) rfl rfl F_call_31 rfl (slices_Clone____api_Fact__api_Fact_R.spec sv0 A0 l0 hA0 _ h3) rfl) rfl rfl rfl ?_
 rintro sv3 _ ⟨_,⟨_,rfl,rfl⟩,rfl⟩
 refine ent_value (ov_assign rfl) rfl rfl rfl (ent_nil (ent_seq (ent_region (ent_value (ov_move rfl) rfl rfl rfl ?_))))
 obtain ⟨x4,h4,H⟩ := Option.bind_eq_some_iff.1 H
 refine ent_pick [1,0] (by decide) rfl ?_
 refine ent_op (ot_call (Lr := [A0]) (first := []) (cap := []) (xs := [.tmp 6,.func 33]) rfl rfl F_call_32 rfl (slices_SortFunc____api_Fact__api_Fact.spec K sv3 x3 _ h4) rfl) rfl rfl rfl ?_
 rintro _ _ ⟨_,⟨rfl,rfl⟩,rfl⟩
 refine ent_nil (ent_seq (ent_region (ent_value (ov_move rfl) rfl rfl rfl (ent_value (ov_assign rfl) rfl rfl rfl (ent_nil (ent_retc ?_))))))
 cases H
 refine ent_pick [1,0] (by decide) rfl ?_
 exact ret_tmp rfl rfl ⟨_,rfl,rfl⟩

theorem ossuaryref09_Compare.spec (K : Nat) (a0_0 : Int) (a0_1 : List UInt8) (a0_2 : List UInt8) (a0_3 : List UInt8) (a0_4 : List UInt8) (a1_0 : Int) (a1_1 : List UInt8) (a1_2 : List UInt8) (a1_3 : List UInt8) (a1_4 : List UInt8) (r : Int) (H : ossuaryref09_Compare K a0_0 a0_1 a0_2 a0_3 a0_4 a1_0 a1_1 a1_2 a1_3 a1_4 = some r) : FnSpec Try.prog 59 [agg #[I a0_0,str a0_1,str a0_2,str a0_3,str a0_4],agg #[I a1_0,str a1_1,str a1_2,str a1_3,str a1_4]] [] (fun v M => v = (I r) ∧ M = []) := by
 unfold ossuaryref09_Compare at H
 refine spec_of Try.func59 rfl 38 rfl (Nat.le_of_ble_eq_true rfl) fun F w0 => ?_
 show Ent (St 38 w0 F [(0,agg #[I a0_0,str a0_1,str a0_2,str a0_3,str a0_4]),(1,agg #[I a1_0,str a1_1,str a1_2,str a1_3,str a1_4])] []) _
 refine ent_seq (ent_region ?_)
 refine ent_op (ot_box (cs := [I a0_0,str a0_1,str a0_2,str a0_3,str a0_4]) rfl rfl) rfl rfl rfl ?_
 rintro _ _ ⟨b3,rfl,rfl⟩
 refine ent_op (ot_box (cs := [I a1_0,str a1_1,str a1_2,str a1_3,str a1_4]) rfl rfl) rfl rfl rfl ?_
 rintro _ _ ⟨b4,rfl,rfl⟩
 let C0_ : List HP := [box b3 50 [I a0_0,str a0_1,str a0_2,str a0_3,str a0_4],box b4 50 [I a1_0,str a1_1,str a1_2,str a1_3,str a1_4]]
 refine ent_value (ov_assign rfl) rfl rfl rfl (ent_nil (ent_seq (ent_seq (ent_region (ent_value (ov_fieldAddr (sz := 0) (o := 0) rfl F_field_50_0 F_size_2) rfl rfl rfl (ent_value (ov_load (v := (I a0_0)) rfl F_agg_2 (reads_box1 (i := 1) rfl rfl)) rfl rfl rfl (ent_value (ov_fieldAddr (sz := 0) (o := 0) rfl F_field_50_0 F_size_2) rfl rfl rfl (ent_value (ov_load (v := (I a1_0)) rfl F_agg_2 (reads_box1 (i := 0) rfl rfl)) rfl rfl rfl (ent_value (ov_bin rfl rfl (b_neq _ _ _)) rfl rfl rfl (ent_nil ?_))))))))))
 refine htT H (fun c94 H => ?_) fun c94 H => ?_
 ·refine ent_cond_true rfl (ne_t c94) (ent_seq (ent_seq (ent_region (ent_value (ov_fieldAddr (sz := 0) (o := 0) rfl F_field_50_0 F_size_2) rfl rfl rfl (ent_value (ov_load (v := (I a0_0)) rfl F_agg_2 (reads_box1 (i := 1) rfl rfl)) rfl rfl rfl (ent_value (ov_fieldAddr (sz := 0) (o := 0) rfl F_field_50_0 F_size_2) rfl rfl rfl (ent_value (ov_load (v := (I a1_0)) rfl F_agg_2 (reads_box1 (i := 0) rfl rfl)) rfl rfl rfl (ent_value (ov_bin rfl rfl (b_lss _ _ _)) rfl rfl rfl (ent_nil ?_)))))))))
  refine htT H (fun c96 H => ?_) fun c96 H => ?_
  ·refine ent_cond_true rfl (decide_eq_true c96) (ent_seq (ent_region (ent_value (ov_assign rfl) rfl rfl rfl (ent_nil (ent_retc ?_)))))
   cases H
   refine ent_pick [] (by decide) rfl ?_
   exact ret_tmp rfl rfl ⟨rfl,rfl⟩
  refine ent_cond_false rfl (decide_eq_false c96) (ent_skip (ent_seq (ent_region (ent_value (ov_assign rfl) rfl rfl rfl (ent_nil (ent_retc ?_))))))
  cases H
  refine ent_pick [] (by decide) rfl ?_
  exact ret_tmp rfl rfl ⟨rfl,rfl⟩
 refine ent_cond_false rfl (ne_f c94) (ent_skip (ent_seq (ent_seq (ent_region (ent_value (ov_assign rfl) rfl rfl rfl (ent_nil (ent_block ?_)))))))
 refine ent_loop (fun k a w => ∃ i5,ossuaryref09_Compare_l0 K a0_1 a0_2 a0_3 a0_4 a1_1 a1_2 a1_3 a1_4 k i5 = some r ∧ St 38 w0 F [(2,pt b3 0),(3,pt b4 0),(5,I i5)] C0_ a w) K ?_ ?_
 ·exact ent_fin [1,0] (by decide) rfl (sub_cons (t := 2) rfl (sub_cons (t := 3) rfl (sub_cons (t := 5) rfl (sub_nil _)))) fun a w h => ⟨_,H,h⟩
 ·refine fun k => ent_exi fun i5 => ent_and fun H4 => ?_
  cases k with
  | zero => exact absurd H4 (by simp [C0_,ossuaryref09_Compare_l0])
  | succ k =>
   rw [ossuaryref09_Compare_l0] at H4
   refine ent_seq (ent_seq (ent_region (ent_value (ov_move rfl) rfl rfl rfl (ent_value (ov_bin rfl rfl (b_lss _ _ _)) rfl rfl rfl (ent_nil ?_)))))
   refine htF H4 (fun c166 H4 => ?_) fun c166 H4 => ?_
   ·refine ent_cond_false rfl (decide_eq_false c166) (ent_exit (ent_seq (ent_region (ent_value (ov_assign rfl) rfl rfl rfl (ent_nil (ent_retc ?_))))))
    cases H4
    refine ent_pick [] (by decide) rfl ?_
    exact ret_tmp rfl rfl ⟨rfl,rfl⟩
   refine ent_cond_true rfl (decide_eq_true c166) (ent_skip (ent_seq (ent_block (ent_seq (ent_seq ?_)))))
   obtain ⟨c177,H4⟩ := gdT H4
   obtain ⟨c178,H4⟩ := gdT H4
   refine ent_drawm 9 rfl (fun done a w => StD 38 w0 F [(2,pt b3 0),(3,pt b4 0),(5,I i5),(16,I i5),(17,bool (decide (i5 < 4)))] [(0,20,I i5),(1,21,pt b3 1),(2,22,pt b3 (1 + i5.toNat * 1)),(3,23,str ([a0_1,a0_2,a0_3,a0_4].getD i5.toNat [])),(4,24,I i5),(5,25,pt b4 1),(6,26,pt b4 (1 + i5.toNat * 1)),(7,27,str ([a1_1,a1_2,a1_3,a1_4].getD i5.toNat [])),(8,28,bool (decide (([a0_1,a0_2,a0_3,a0_4].getD i5.toNat []) < ([a1_1,a1_2,a1_3,a1_4].getD i5.toNat []))))] done C0_ a w) (by kernel_rfl) (by kernel_rfl) (draw_startL (sub_cons (t := 2) rfl (sub_cons (t := 3) rfl (sub_cons (t := 5) rfl (sub_cons (t := 16) rfl (sub_cons (t := 17) rfl (sub_nil _)))))) rfl) ?_ ?_
   ·refine ⟨?_,?_,?_,?_,?_,?_,?_,?_,?_,trivial⟩
    ·exact fun done hi hc hcu => draw_value (i := 0) (t := 20) (v := (I i5)) rfl rfl (wanted_none rfl) (fun a => hasA_base) (ov_move rfl) rfl rfl (onlyT_spec (k0 := 0) rfl rfl rfl)
    ·exact fun done hi hc hcu => draw_value (i := 1) (t := 21) (v := (pt b3 1)) rfl rfl (wanted_none rfl) (fun a => hasA_base) (ov_fieldAddr (sz := 3) (o := 0) rfl F_field_50_1 F_size_48) rfl rfl (onlyT_spec (k0 := 1) rfl rfl rfl)
    ·exact fun done hi hc hcu => draw_value (i := 2) (t := 22) (v := (pt b3 (1 + i5.toNat * 1))) rfl rfl (wanted_none rfl) (fun a => (hasA_cons (k := 0) rfl (done_of (j := 0) hcu rfl (by decide) rfl) (hasA_cons (k := 1) rfl (done_of (j := 1) hcu rfl (by decide) rfl) hasA_base))) (ov_indexArr (o := 1) rfl rfl F_array_48 F_size_9 c177 c178) rfl rfl (onlyT_spec (k0 := 2) rfl rfl rfl)
    ·exact fun done hi hc hcu => draw_value (i := 3) (t := 23) (v := (str ([a0_1,a0_2,a0_3,a0_4].getD i5.toNat []))) rfl rfl (wanted_none rfl) (fun a => (hasA_cons (k := 2) rfl (done_of (j := 2) hcu rfl (by decide) rfl) hasA_base)) (ov_load (v := (str ([a0_1,a0_2,a0_3,a0_4].getD i5.toNat []))) rfl F_agg_9 (reads_boxA (i := 0) (enc := eS) (z := []) (xs := [a0_1,a0_2,a0_3,a0_4]) rfl eS_len rfl (ix_lt c177 c178))) rfl rfl (onlyT_spec (k0 := 3) rfl rfl rfl)
    ·exact fun done hi hc hcu => draw_value (i := 4) (t := 24) (v := (I i5)) rfl rfl (wanted_none rfl) (fun a => hasA_base) (ov_move rfl) rfl rfl (onlyT_spec (k0 := 4) rfl rfl rfl)
    ·exact fun done hi hc hcu => draw_value (i := 5) (t := 25) (v := (pt b4 1)) rfl rfl (wanted_none rfl) (fun a => hasA_base) (ov_fieldAddr (sz := 3) (o := 0) rfl F_field_50_1 F_size_48) rfl rfl (onlyT_spec (k0 := 5) rfl rfl rfl)
    ·exact fun done hi hc hcu => draw_value (i := 6) (t := 26) (v := (pt b4 (1 + i5.toNat * 1))) rfl rfl (wanted_none rfl) (fun a => (hasA_cons (k := 4) rfl (done_of (j := 4) hcu rfl (by decide) rfl) (hasA_cons (k := 5) rfl (done_of (j := 5) hcu rfl (by decide) rfl) hasA_base))) (ov_indexArr (o := 1) rfl rfl F_array_48 F_size_9 c177 c178) rfl rfl (onlyT_spec (k0 := 6) rfl rfl rfl)
    ·exact fun done hi hc hcu => draw_value (i := 7) (t := 27) (v := (str ([a1_1,a1_2,a1_3,a1_4].getD i5.toNat []))) rfl rfl (wanted_none rfl) (fun a => (hasA_cons (k := 6) rfl (done_of (j := 6) hcu rfl (by decide) rfl) hasA_base)) (ov_load (v := (str ([a1_1,a1_2,a1_3,a1_4].getD i5.toNat []))) rfl F_agg_9 (reads_boxA (i := 1) (enc := eS) (z := []) (xs := [a1_1,a1_2,a1_3,a1_4]) rfl eS_len rfl (ix_lt c177 c178))) rfl rfl (onlyT_spec (k0 := 7) rfl rfl rfl)
    ·exact fun done hi hc hcu => draw_value (i := 8) (t := 28) (v := (bool (decide (([a0_1,a0_2,a0_3,a0_4].getD i5.toNat []) < ([a1_1,a1_2,a1_3,a1_4].getD i5.toNat []))))) rfl rfl (wanted_none rfl) (fun a => (hasA_cons (k := 7) rfl (done_of (j := 7) hcu rfl (by decide) rfl) (hasA_cons (k := 3) rfl (done_of (j := 3) hcu rfl (by decide) rfl) hasA_base))) (ov_bin rfl rfl (b_lss_str _ _)) rfl rfl (onlyT_spec (k0 := 8) rfl rfl rfl)
   ·intro done hall
    refine draw_endL C0_ rfl (fun a => (hasA_cons (k := 0) rfl (hall 0 (by decide)) (hasA_cons (k := 1) rfl (hall 1 (by decide)) (hasA_cons (k := 2) rfl (hall 2 (by decide)) (hasA_cons (k := 3) rfl (hall 3 (by decide)) (hasA_cons (k := 4) rfl (hall 4 (by decide)) (hasA_cons (k := 5) rfl (hall 5 (by decide)) (hasA_cons (k := 6) rfl (hall 6 (by decide)) (hasA_cons (k := 7) rfl (hall 7 (by decide)) (hasA_cons (k := 8) rfl (hall 8 (by decide)) hasA_base)))))))))) ?_
    refine htT H4 (fun c179 H4 => ?_) fun c179 H4 => ?_
    ·refine ent_cond_true rfl (decide_eq_true c179) (ent_seq (ent_region (ent_value (ov_assign rfl) rfl rfl rfl (ent_nil (ent_retc ?_)))))
     cases H4
     refine ent_pick [] (by decide) rfl ?_
     exact ret_tmp rfl rfl ⟨rfl,rfl⟩
    refine ent_cond_false rfl (decide_eq_false c179) (ent_skip (ent_seq ?_))
    refine ent_drawm 9 rfl (fun done a w => StD 38 w0 F [(2,pt b3 0),(3,pt b4 0),(5,I i5),(16,I i5),(17,bool (decide (i5 < 4))),(20,I i5),(21,pt b3 1),(22,pt b3 (1 + i5.toNat * 1)),(23,str ([a0_1,a0_2,a0_3,a0_4].getD i5.toNat [])),(24,I i5),(25,pt b4 1),(26,pt b4 (1 + i5.toNat * 1)),(27,str ([a1_1,a1_2,a1_3,a1_4].getD i5.toNat [])),(28,bool (decide (([a0_1,a0_2,a0_3,a0_4].getD i5.toNat []) < ([a1_1,a1_2,a1_3,a1_4].getD i5.toNat []))))] [(0,29,I i5),(1,30,pt b3 1),(2,31,pt b3 (1 + i5.toNat * 1)),(3,32,str ([a0_1,a0_2,a0_3,a0_4].getD i5.toNat [])),(4,33,I i5),(5,34,pt b4 1),(6,35,pt b4 (1 + i5.toNat * 1)),(7,36,str ([a1_1,a1_2,a1_3,a1_4].getD i5.toNat [])),(8,37,bool (decide (([a1_1,a1_2,a1_3,a1_4].getD i5.toNat []) < ([a0_1,a0_2,a0_3,a0_4].getD i5.toNat []))))] done C0_ a w) (by kernel_rfl) (by kernel_rfl) (draw_startL (sub_cons (t := 2) rfl (sub_cons (t := 3) rfl (sub_cons (t := 5) rfl (sub_cons (t := 16) rfl (sub_cons (t := 17) rfl (sub_cons (t := 20) rfl (sub_cons (t := 21) rfl (sub_cons (t := 22) rfl (sub_cons (t := 23) rfl (sub_cons (t := 24) rfl (sub_cons (t := 25) rfl (sub_cons (t := 26) rfl (sub_cons (t := 27) rfl (sub_cons (t := 28) rfl (sub_nil _))))))))))))))) rfl) ?_ ?_
    ·refine ⟨?_,?_,?_,?_,?_,?_,?_,?_,?_,trivial⟩
     ·exact fun done hi hc hcu => draw_value (i := 0) (t := 29) (v := (I i5)) rfl rfl (wanted_none rfl) (fun a => hasA_base) (ov_move rfl) rfl rfl (onlyT_spec (k0 := 0) rfl rfl rfl)
     ·exact fun done hi hc hcu => draw_value (i := 1) (t := 30) (v := (pt b3 1)) rfl rfl (wanted_none rfl) (fun a => hasA_base) (ov_fieldAddr (sz := 3) (o := 0) rfl F_field_50_1 F_size_48) rfl rfl (onlyT_spec (k0 := 1) rfl rfl rfl)
     ·exact fun done hi hc hcu => draw_value (i := 2) (t := 31) (v := (pt b3 (1 + i5.toNat * 1))) rfl rfl (wanted_none rfl) (fun a => (hasA_cons (k := 0) rfl (done_of (j := 0) hcu rfl (by decide) rfl) (hasA_cons (k := 1) rfl (done_of (j := 1) hcu rfl (by decide) rfl) hasA_base))) (ov_indexArr (o := 1) rfl rfl F_array_48 F_size_9 c177 c178) rfl rfl (onlyT_spec (k0 := 2) rfl rfl rfl)
     ·exact fun done hi hc hcu => draw_value (i := 3) (t := 32) (v := (str ([a0_1,a0_2,a0_3,a0_4].getD i5.toNat []))) rfl rfl (wanted_none rfl) (fun a => (hasA_cons (k := 2) rfl (done_of (j := 2) hcu rfl (by decide) rfl) hasA_base)) (ov_load (v := (str ([a0_1,a0_2,a0_3,a0_4].getD i5.toNat []))) rfl F_agg_9 (reads_boxA (i := 0) (enc := eS) (z := []) (xs := [a0_1,a0_2,a0_3,a0_4]) rfl eS_len rfl (ix_lt c177 c178))) rfl rfl (onlyT_spec (k0 := 3) rfl rfl rfl)
     ·exact fun done hi hc hcu => draw_value (i := 4) (t := 33) (v := (I i5)) rfl rfl (wanted_none rfl) (fun a => hasA_base) (ov_move rfl) rfl rfl (onlyT_spec (k0 := 4) rfl rfl rfl)
     ·exact fun done hi hc hcu => draw_value (i := 5) (t := 34) (v := (pt b4 1)) rfl rfl (wanted_none rfl) (fun a => hasA_base) (ov_fieldAddr (sz := 3) (o := 0) rfl F_field_50_1 F_size_48) rfl rfl (onlyT_spec (k0 := 5) rfl rfl rfl)
     ·exact fun done hi hc hcu => draw_value (i := 6) (t := 35) (v := (pt b4 (1 + i5.toNat * 1))) rfl rfl (wanted_none rfl) (fun a => (hasA_cons (k := 4) rfl (done_of (j := 4) hcu rfl (by decide) rfl) (hasA_cons (k := 5) rfl (done_of (j := 5) hcu rfl (by decide) rfl) hasA_base))) (ov_indexArr (o := 1) rfl rfl F_array_48 F_size_9 c177 c178) rfl rfl (onlyT_spec (k0 := 6) rfl rfl rfl)
     ·exact fun done hi hc hcu => draw_value (i := 7) (t := 36) (v := (str ([a1_1,a1_2,a1_3,a1_4].getD i5.toNat []))) rfl rfl (wanted_none rfl) (fun a => (hasA_cons (k := 6) rfl (done_of (j := 6) hcu rfl (by decide) rfl) hasA_base)) (ov_load (v := (str ([a1_1,a1_2,a1_3,a1_4].getD i5.toNat []))) rfl F_agg_9 (reads_boxA (i := 1) (enc := eS) (z := []) (xs := [a1_1,a1_2,a1_3,a1_4]) rfl eS_len rfl (ix_lt c177 c178))) rfl rfl (onlyT_spec (k0 := 7) rfl rfl rfl)
     ·exact fun done hi hc hcu => draw_value (i := 8) (t := 37) (v := (bool (decide (([a1_1,a1_2,a1_3,a1_4].getD i5.toNat []) < ([a0_1,a0_2,a0_3,a0_4].getD i5.toNat []))))) rfl rfl (wanted_none rfl) (fun a => (hasA_cons (k := 7) rfl (done_of (j := 7) hcu rfl (by decide) rfl) (hasA_cons (k := 3) rfl (done_of (j := 3) hcu rfl (by decide) rfl) hasA_base))) (ov_bin rfl rfl (b_gtr_str _ _)) rfl rfl (onlyT_spec (k0 := 8) rfl rfl rfl)
    ·intro done hall
     refine draw_endL C0_ rfl (fun a => (hasA_cons (k := 0) rfl (hall 0 (by decide)) (hasA_cons (k := 1) rfl (hall 1 (by decide)) (hasA_cons (k := 2) rfl (hall 2 (by decide)) (hasA_cons (k := 3) rfl (hall 3 (by decide)) (hasA_cons (k := 4) rfl (hall 4 (by decide)) (hasA_cons (k := 5) rfl (hall 5 (by decide)) (hasA_cons (k := 6) rfl (hall 6 (by decide)) (hasA_cons (k := 7) rfl (hall 7 (by decide)) (hasA_cons (k := 8) rfl (hall 8 (by decide)) hasA_base)))))))))) ?_
     refine htT H4 (fun c180 H4 => ?_) fun c180 H4 => ?_
     ·refine ent_cond_true rfl (decide_eq_true c180) (ent_seq (ent_region (ent_value (ov_assign rfl) rfl rfl rfl (ent_nil (ent_retc ?_)))))
      cases H4
      refine ent_pick [] (by decide) rfl ?_
      exact ret_tmp rfl rfl ⟨rfl,rfl⟩
     refine ent_cond_false rfl (decide_eq_false c180) (ent_skip (ent_region (ent_value (ov_move rfl) rfl rfl rfl (ent_value (ov_bin rfl rfl (b_add _ _ _) ) rfl rfl rfl (ent_value (ov_assign rfl) rfl rfl rfl (ent_nil ?_))))))
     exact ent_fin [0,1] (by decide) rfl (sub_cons (t := 2) rfl (sub_cons (t := 3) rfl (sub_cons (t := 5) rfl (sub_nil _)))) fun a w h => ⟨k,Nat.lt_succ_self k,_,H4,h⟩

theorem ossuaryref09_ahead.spec (K : Nat) (a0_0 : Int) (a0_1 : List UInt8) (a0_2 : List UInt8) (a0_3 : List UInt8) (a0_4 : List UInt8) (a0_5 a1_0 : Int) (a1_1 : List UInt8) (a1_2 : List UInt8) (a1_3 : List UInt8) (a1_4 : List UInt8) (a1_5 : Int) (r : Bool) (H : ossuaryref09_ahead K a0_0 a0_1 a0_2 a0_3 a0_4 a0_5 a1_0 a1_1 a1_2 a1_3 a1_4 a1_5 = some r) : FnSpec Try.prog 37 [agg #[I a0_0,str a0_1,str a0_2,str a0_3,str a0_4,I a0_5],agg #[I a1_0,str a1_1,str a1_2,str a1_3,str a1_4,I a1_5]] [] (fun v M => v = (bool r) ∧ M = []) := by
 unfold ossuaryref09_ahead at H
 refine spec_of Try.func37 rfl 24 rfl (Nat.le_of_ble_eq_true rfl) fun F w0 => ?_
 show Ent (St 24 w0 F [(0,agg #[I a0_0,str a0_1,str a0_2,str a0_3,str a0_4,I a0_5]),(1,agg #[I a1_0,str a1_1,str a1_2,str a1_3,str a1_4,I a1_5])] []) _
 refine ent_seq (ent_region ?_)
 refine ent_op (ot_box (cs := [I a0_0,str a0_1,str a0_2,str a0_3,str a0_4,I a0_5]) rfl rfl) rfl rfl rfl ?_
 rintro _ _ ⟨b3,rfl,rfl⟩
 refine ent_op (ot_box (cs := [I a1_0,str a1_1,str a1_2,str a1_3,str a1_4,I a1_5]) rfl rfl) rfl rfl rfl ?_
 rintro _ _ ⟨b4,rfl,rfl⟩
 refine ent_value (ov_assign rfl) rfl rfl rfl (ent_nil (ent_seq (ent_region (ent_value (ov_fieldAddr (sz := 4) (o := 0) rfl F_field_52_0 F_size_50) rfl rfl rfl (ent_value (ov_load_agg (vs := [I a0_0,str a0_1,str a0_2,str a0_3,str a0_4]) rfl F_agg_50 F_size_50 (reads_boxN (i := 1) rfl rfl)) rfl rfl rfl (ent_value (ov_fieldAddr (sz := 4) (o := 0) rfl F_field_52_0 F_size_50) rfl rfl rfl (ent_value (ov_load_agg (vs := [I a1_0,str a1_1,str a1_2,str a1_3,str a1_4]) rfl F_agg_50 F_size_50 (reads_boxN (i := 0) rfl rfl)) rfl rfl rfl ?_)))))))
 obtain ⟨x2,h2,H⟩ := Option.bind_eq_some_iff.1 H
 refine ent_op (ot_call0 (first := []) (cap := []) (xs := [.tmp 7,.tmp 9]) rfl rfl F_call_59 rfl (ossuaryref09_Compare.spec K a0_0 a0_1 a0_2 a0_3 a0_4 a1_0 a1_1 a1_2 a1_3 a1_4 _ h2)) rfl rfl rfl ?_
 rintro _ _ ⟨rfl,rfl⟩
 refine ent_value (ov_assign rfl) rfl rfl rfl (ent_nil (ent_seq (ent_region (ent_value (ov_move rfl) rfl rfl rfl (ent_value (ov_bin rfl rfl (b_lss _ _ _)) rfl rfl rfl (ent_value (ov_move rfl) rfl rfl rfl ?_))))))
 refine htT H (fun c3 H => ?_) fun c3 H => ?_
 ·refine ent_off rfl rfl rfl (decide_eq_true c3) rfl rfl ?_
  refine ent_off rfl rfl rfl (decide_eq_true c3) rfl rfl ?_
  refine ent_off rfl rfl rfl (decide_eq_true c3) rfl rfl ?_
  refine ent_offu rfl rfl rfl rfl rfl ?_
  refine ent_offu rfl rfl rfl rfl rfl ?_
  refine ent_offu rfl rfl rfl rfl rfl ?_
  refine ent_offu rfl rfl rfl rfl rfl ?_
  refine ent_offu rfl rfl rfl rfl rfl ?_
  refine ent_off rfl rfl rfl (decide_eq_true c3) rfl rfl ?_
  refine ent_value (ov_pick rfl rfl rfl (pick_t (decide_eq_true c3))) rfl rfl rfl (ent_value (ov_assign rfl) rfl rfl rfl (ent_nil (ent_retc ?_)))
  cases H
  refine ent_pick [] (by decide) rfl ?_
  exact ret_tmp rfl rfl ⟨rfl,rfl⟩
 refine ent_value_on (ov_move rfl) rfl rfl rfl (decide_eq_false c3) rfl rfl ?_
 refine ent_value_on (ov_bin rfl rfl (b_eql _ _ _)) rfl rfl rfl (decide_eq_false c3) rfl rfl ?_
 refine ent_value_on (ov_move rfl) rfl rfl rfl (decide_eq_false c3) rfl rfl ?_
 refine htF H (fun c4 H => ?_) fun c4 H => ?_
 ·refine ent_off rfl rfl rfl (eq_f c4) rfl rfl ?_
  refine ent_off rfl rfl rfl (eq_f c4) rfl rfl ?_
  refine ent_off rfl rfl rfl (eq_f c4) rfl rfl ?_
  refine ent_off rfl rfl rfl (eq_f c4) rfl rfl ?_
  refine ent_off rfl rfl rfl (eq_f c4) rfl rfl ?_
  refine ent_value_on (ov_pick rfl rfl rfl (pick_f (eq_f c4))) rfl rfl rfl (decide_eq_false c3) rfl rfl ?_
  refine ent_value (ov_pick rfl rfl rfl (pick_f (decide_eq_false c3))) rfl rfl rfl (ent_value (ov_assign rfl) rfl rfl rfl (ent_nil (ent_retc ?_)))
  cases H
  refine ent_pick [] (by decide) rfl ?_
  exact ret_tmp rfl rfl ⟨rfl,rfl⟩
 refine ent_value_on (ov_fieldAddr (sz := 0) (o := 0) rfl F_field_52_1 F_size_2) rfl rfl rfl (eq_t c4) rfl rfl ?_
 refine ent_value_on (ov_load (v := (I a0_5)) rfl F_agg_2 (reads_box1 (i := 1) rfl rfl)) rfl rfl rfl (eq_t c4) rfl rfl ?_
 refine ent_value_on (ov_fieldAddr (sz := 0) (o := 0) rfl F_field_52_1 F_size_2) rfl rfl rfl (eq_t c4) rfl rfl ?_
 refine ent_value_on (ov_load (v := (I a1_5)) rfl F_agg_2 (reads_box1 (i := 0) rfl rfl)) rfl rfl rfl (eq_t c4) rfl rfl ?_
 refine ent_value_on (ov_bin rfl rfl (b_lss _ _ _)) rfl rfl rfl (eq_t c4) rfl rfl ?_
 refine ent_value_on (ov_pick rfl rfl rfl (pick_t (eq_t c4))) rfl rfl rfl (decide_eq_false c3) rfl rfl ?_
 refine ent_value (ov_pick rfl rfl rfl (pick_f (decide_eq_false c3))) rfl rfl rfl (ent_value (ov_assign rfl) rfl rfl rfl (ent_nil (ent_retc ?_)))
 cases H
 refine ent_pick [] (by decide) rfl ?_
 exact ret_tmp rfl rfl ⟨rfl,rfl⟩

theorem ossuaryref09_Sort_R.spec (K : Nat) (sv0 : Value) (A0 : HP) (l0 : List Api_Fact) (hA0 : IsRd A0 sv0 l0.length 6 (fl enc_Api_Fact l0)) (r : List Api_Fact) (H : ossuaryref09_Sort_R K l0 = some r) : FnSpec Try.prog 14 [sv0] [A0] (fun v M => ∃ sv33 : Value,v = sv33 ∧ M = [A0,own sv33 52 6 r.length (fl enc_Api_Fact r)]) := by
 unfold ossuaryref09_Sort_R at H
 refine spec_of Try.func14 rfl 46 rfl (Nat.le_of_ble_eq_true rfl) fun F w0 => ?_
 show Ent (St 46 w0 F [(0,sv0)] [A0]) _
 refine ent_seq (ent_region (ent_value (ov_assign rfl) rfl rfl rfl (ent_nil (ent_seq (ent_region (ent_value (ov_assign rfl) rfl rfl rfl (ent_nil (ent_seq (ent_seq (ent_region (ent_value (ov_assign rfl) rfl rfl rfl ?_)))))))))))
 refine ent_nil (ent_block ?_)
 refine ent_loop (fun k a w => ∃ i40,∃ l11,∃ sv55 : Value,ossuaryref09_Sort_R_l0 K l0 k i40 l11 = some r ∧ St 46 w0 F [(0,sv0),(3,sv55),(4,I i40)] [A0,own sv55 52 6 l11.length (fl enc_Api_Fact l11)] a w) K ?_ ?_
 ·refine ent_ownnil 52 6 ?_
  exact ent_fin [1,0] (by decide) rfl (sub_cons (t := 0) rfl (sub_cons (t := 3) rfl (sub_cons (t := 4) rfl (sub_nil _)))) fun a w h => ⟨_,_,_,H,h⟩
 ·refine fun k => ent_exi fun i40 => ent_exi fun l11 => ent_exi fun sv55 => ent_and fun H81 => ?_
  let C1_ : List Value := [I (((l0.getD i40.toNat z_Api_Fact).Key).Hour),str (((l0.getD i40.toNat z_Api_Fact).Key).Dims_0),str (((l0.getD i40.toNat z_Api_Fact).Key).Dims_1),str (((l0.getD i40.toNat z_Api_Fact).Key).Dims_2),str (((l0.getD i40.toNat z_Api_Fact).Key).Dims_3),I ((l0.getD i40.toNat z_Api_Fact).Value)]
  let C0_ : Value := agg #[I (((l0.getD i40.toNat z_Api_Fact).Key).Hour),str (((l0.getD i40.toNat z_Api_Fact).Key).Dims_0),str (((l0.getD i40.toNat z_Api_Fact).Key).Dims_1),str (((l0.getD i40.toNat z_Api_Fact).Key).Dims_2),str (((l0.getD i40.toNat z_Api_Fact).Key).Dims_3),I ((l0.getD i40.toNat z_Api_Fact).Value)]
  cases k with
  | zero => exact absurd H81 (by simp [C1_,C0_,ossuaryref09_Sort_R_l0])
  | succ k =>
   rw [ossuaryref09_Sort_R_l0] at H81
   refine ent_seq (ent_seq (ent_region (ent_value (ov_move rfl) rfl rfl rfl (ent_value (ov_move rfl) rfl rfl rfl (ent_value (ov_len 0 rfl F_slice_22 rfl hA0) rfl rfl rfl (ent_value (ov_bin rfl rfl (b_lss _ _ _)) rfl rfl rfl (ent_nil ?_)))))))
   refine htF H81 (fun c1084 H81 => ?_) fun c1084 H81 => ?_
   ·refine ent_cond_false rfl (decide_eq_false c1084) (ent_exit (ent_seq (ent_region (ent_value (ov_move rfl) rfl rfl rfl (ent_value (ov_assign rfl) rfl rfl rfl (ent_nil (ent_retc ?_)))))))
    cases H81
    refine ent_pick [0,1] (by decide) rfl ?_
    exact ret_tmp rfl rfl ⟨_,rfl,rfl⟩
   refine ent_cond_true rfl (decide_eq_true c1084) (ent_skip ?_)
   obtain ⟨x245,H85,H81⟩ := Option.bind_eq_some_iff.1 H81
   refine ent_seq_cut (fun a w => ∃ sv63 : Value,St 46 w0 F [(0,sv0),(3,sv63),(4,I i40)] [A0,own sv63 52 6 x245.length (fl enc_Api_Fact x245)] a w) ?_ ?_
   ·refine ent_block (ent_seq (ent_region (ent_value (ov_move rfl) rfl rfl rfl (ent_value (ov_len 1 rfl F_slice_22 rfl (isRd_ownx 52)) rfl rfl rfl (ent_value (ov_assign rfl) rfl rfl rfl (ent_nil ?_))))))
    obtain ⟨x253,H87,H85⟩ := Option.bind_eq_some_iff.1 H85
    refine ent_seq_cut (fun a w => St 46 w0 F [(0,sv0),(3,sv55),(4,I i40),(5,I x253)] [A0,own sv55 52 6 l11.length (fl enc_Api_Fact l11)] a w) ?_ ?_
    ·refine ent_block ?_
     refine ent_loop (fun k a w => ∃ i52,ossuaryref09_Sort_R_l1 K l0 i40 l11 k i52 = some x253 ∧ St 46 w0 F [(0,sv0),(3,sv55),(4,I i40),(5,I i52)] [A0,own sv55 52 6 l11.length (fl enc_Api_Fact l11)] a w) K ?_ ?_
     ·exact ent_fin [0,1] (by decide) rfl (sub_cons (t := 0) rfl (sub_cons (t := 3) rfl (sub_cons (t := 4) rfl (sub_cons (t := 5) rfl (sub_nil _))))) fun a w h => ⟨_,H87,h⟩
     ·refine fun k => ent_exi fun i52 => ent_and fun H88 => ?_
      cases k with
      | zero => exact absurd H88 (by simp [C1_,C0_,ossuaryref09_Sort_R_l1])
      | succ k =>
       rw [ossuaryref09_Sort_R_l1] at H88
       refine ent_seq (ent_seq ?_)
       refine htF H88 (fun c1222 H88 => ?_) fun c1222 H88 => ?_
       ·refine ent_drawm 14 rfl (fun done a w => StD 46 w0 F [(0,sv0),(3,sv55),(4,I i40),(5,I i52)] [(0,14,I i52),(1,15,bool (decide (0 < i52))),(2,16,bool (decide (0 < i52))),(3,17,undef),(4,18,undef),(5,19,undef),(6,20,undef),(7,21,undef),(8,22,undef),(9,23,undef),(10,24,undef),(11,25,undef),(12,26,undef),(13,27,B0)] done [A0,own sv55 52 6 l11.length (fl enc_Api_Fact l11)] a w) (by kernel_rfl) (by kernel_rfl) (draw_startL (sub_cons (t := 0) rfl (sub_cons (t := 3) rfl (sub_cons (t := 4) rfl (sub_cons (t := 5) rfl (sub_nil _))))) rfl) ?_ ?_
        ·refine ⟨?_,?_,?_,?_,?_,?_,?_,?_,?_,?_,?_,?_,?_,?_,trivial⟩
         ·exact fun done hi hc hcu => draw_value (i := 0) (t := 14) (v := (I i52)) rfl rfl (wanted_none rfl) (fun a => hasA_base) (ov_move rfl) rfl rfl (onlyT_spec (k0 := 0) rfl rfl rfl)
         ·exact fun done hi hc hcu => draw_value (i := 1) (t := 15) (v := (bool (decide (0 < i52)))) rfl rfl (wanted_none rfl) (fun a => (hasA_cons (k := 0) rfl (done_of (j := 0) hcu rfl (by decide) rfl) hasA_base)) (ov_bin rfl rfl (b_gtr _ _ _)) rfl rfl (onlyT_spec (k0 := 1) rfl rfl rfl)
         ·exact fun done hi hc hcu => draw_value (i := 2) (t := 16) (v := (bool (decide (0 < i52)))) rfl rfl (wanted_none rfl) (fun a => (hasA_cons (k := 1) rfl (done_of (j := 1) hcu rfl (by decide) rfl) hasA_base)) (ov_move rfl) rfl rfl (onlyT_spec (k0 := 2) rfl rfl rfl)
         ·exact fun done hi hc hcu => draw_off (i := 3) (t := 17) rfl rfl (wanted_off rfl rfl rfl (decide_eq_false c1222)) (fun a => (hasA_cons (k := 2) rfl (done_of (j := 2) hcu rfl (by decide) rfl) hasA_base)) rfl rfl (onlyT_spec (k0 := 3) rfl rfl rfl)
         ·exact fun done hi hc hcu => draw_off (i := 4) (t := 18) rfl rfl (wanted_off rfl rfl rfl (decide_eq_false c1222)) (fun a => (hasA_cons (k := 2) rfl (done_of (j := 2) hcu rfl (by decide) rfl) hasA_base)) rfl rfl (onlyT_spec (k0 := 4) rfl rfl rfl)
         ·exact fun done hi hc hcu => draw_off (i := 5) (t := 19) rfl rfl (wanted_off rfl rfl rfl (decide_eq_false c1222)) (fun a => (hasA_cons (k := 2) rfl (done_of (j := 2) hcu rfl (by decide) rfl) hasA_base)) rfl rfl (onlyT_spec (k0 := 5) rfl rfl rfl)
         ·exact fun done hi hc hcu => draw_off (i := 6) (t := 20) rfl rfl (wanted_off rfl rfl rfl (decide_eq_false c1222)) (fun a => (hasA_cons (k := 2) rfl (done_of (j := 2) hcu rfl (by decide) rfl) hasA_base)) rfl rfl (onlyT_spec (k0 := 6) rfl rfl rfl)
         ·exact fun done hi hc hcu => draw_off (i := 7) (t := 21) rfl rfl (wanted_off rfl rfl rfl (decide_eq_false c1222)) (fun a => (hasA_cons (k := 2) rfl (done_of (j := 2) hcu rfl (by decide) rfl) hasA_base)) rfl rfl (onlyT_spec (k0 := 7) rfl rfl rfl)
         ·exact fun done hi hc hcu => draw_off (i := 8) (t := 22) rfl rfl (wanted_off rfl rfl rfl (decide_eq_false c1222)) (fun a => (hasA_cons (k := 2) rfl (done_of (j := 2) hcu rfl (by decide) rfl) hasA_base)) rfl rfl (onlyT_spec (k0 := 8) rfl rfl rfl)
         ·exact fun done hi hc hcu => draw_off (i := 9) (t := 23) rfl rfl (wanted_off rfl rfl rfl (decide_eq_false c1222)) (fun a => (hasA_cons (k := 2) rfl (done_of (j := 2) hcu rfl (by decide) rfl) hasA_base)) rfl rfl (onlyT_spec (k0 := 9) rfl rfl rfl)
         ·exact fun done hi hc hcu => draw_off (i := 10) (t := 24) rfl rfl (wanted_off rfl rfl rfl (decide_eq_false c1222)) (fun a => (hasA_cons (k := 2) rfl (done_of (j := 2) hcu rfl (by decide) rfl) hasA_base)) rfl rfl (onlyT_spec (k0 := 10) rfl rfl rfl)
         ·exact fun done hi hc hcu => draw_off (i := 11) (t := 25) rfl rfl (wanted_off rfl rfl rfl (decide_eq_false c1222)) (fun a => (hasA_cons (k := 2) rfl (done_of (j := 2) hcu rfl (by decide) rfl) hasA_base)) rfl rfl (onlyT_spec (k0 := 11) rfl rfl rfl)
         ·exact fun done hi hc hcu => draw_off (i := 12) (t := 26) rfl rfl (wanted_off rfl rfl rfl (decide_eq_false c1222)) (fun a => (hasA_cons (k := 2) rfl (done_of (j := 2) hcu rfl (by decide) rfl) hasA_base)) rfl rfl (onlyT_spec (k0 := 12) rfl rfl rfl)
         ·exact fun done hi hc hcu => draw_value (i := 13) (t := 27) (v := B0) rfl rfl (wanted_none rfl) (fun a => (hasA_cons (k := 12) rfl (done_of (j := 12) hcu rfl (by decide) rfl) (hasA_cons (k := 2) rfl (done_of (j := 2) hcu rfl (by decide) rfl) hasA_base))) (ov_pick rfl rfl rfl (pick_f (decide_eq_false c1222))) rfl rfl (onlyT_spec (k0 := 13) rfl rfl rfl)
        ·intro done hall
         refine draw_endL [A0,own sv55 52 6 l11.length (fl enc_Api_Fact l11)] rfl (fun a => (hasA_cons (k := 0) rfl (hall 0 (by decide)) (hasA_cons (k := 1) rfl (hall 1 (by decide)) (hasA_cons (k := 2) rfl (hall 2 (by decide)) (hasA_cons (k := 3) rfl (hall 3 (by decide)) (hasA_cons (k := 4) rfl (hall 4 (by decide)) (hasA_cons (k := 5) rfl (hall 5 (by decide)) (hasA_cons (k := 6) rfl (hall 6 (by decide)) (hasA_cons (k := 7) rfl (hall 7 (by decide)) (hasA_cons (k := 8) rfl (hall 8 (by decide)) (hasA_cons (k := 9) rfl (hall 9 (by decide)) (hasA_cons (k := 10) rfl (hall 10 (by decide)) (hasA_cons (k := 11) rfl (hall 11 (by decide)) (hasA_cons (k := 12) rfl (hall 12 (by decide)) (hasA_cons (k := 13) rfl (hall 13 (by decide)) hasA_base))))))))))))))) ?_
         refine ent_cond_false rfl rfl (ent_exit ?_)
         cases H88
         exact ent_fin [0,1] (by decide) rfl (sub_cons (t := 0) rfl (sub_cons (t := 3) rfl (sub_cons (t := 4) rfl (sub_cons (t := 5) rfl (sub_nil _))))) fun a w h => h
       obtain ⟨c1223,H88⟩ := gdT H88
       obtain ⟨c1224,H88⟩ := gdT H88
       obtain ⟨c1225,H88⟩ := gdT H88
       obtain ⟨x260,h224,H88⟩ := Option.bind_eq_some_iff.1 H88
       refine ent_drawm 14 rfl (fun done a w => StD 46 w0 F [(0,sv0),(3,sv55),(4,I i40),(5,I i52)] [(0,14,I i52),(1,15,bool (decide (0 < i52))),(2,16,bool (decide (0 < i52))),(3,17,sv0),(4,18,I i40),(5,19,(eptr sv0 (i40.toNat * 6))),(6,20,C0_),(7,21,sv55),(8,22,I i52),(9,23,I (w64 (i52 - 1))),(10,24,(eptr sv55 (((w64 (i52 - 1)).toNat) * 6))),(11,25,agg #[I (((l11.getD ((w64 (i52 - 1)).toNat) z_Api_Fact).Key).Hour),str (((l11.getD ((w64 (i52 - 1)).toNat) z_Api_Fact).Key).Dims_0),str (((l11.getD ((w64 (i52 - 1)).toNat) z_Api_Fact).Key).Dims_1),str (((l11.getD ((w64 (i52 - 1)).toNat) z_Api_Fact).Key).Dims_2),str (((l11.getD ((w64 (i52 - 1)).toNat) z_Api_Fact).Key).Dims_3),I ((l11.getD ((w64 (i52 - 1)).toNat) z_Api_Fact).Value)]),(12,26,bool x260),(13,27,bool x260)] done [A0,own sv55 52 6 l11.length (fl enc_Api_Fact l11)] a w) (by kernel_rfl) (by kernel_rfl) (draw_startL (sub_cons (t := 0) rfl (sub_cons (t := 3) rfl (sub_cons (t := 4) rfl (sub_cons (t := 5) rfl (sub_nil _))))) rfl) ?_ ?_
       ·refine ⟨?_,?_,?_,?_,?_,?_,?_,?_,?_,?_,?_,?_,?_,?_,trivial⟩
        ·exact fun done hi hc hcu => draw_value (i := 0) (t := 14) (v := (I i52)) rfl rfl (wanted_none rfl) (fun a => hasA_base) (ov_move rfl) rfl rfl (onlyT_spec (k0 := 0) rfl rfl rfl)
        ·exact fun done hi hc hcu => draw_value (i := 1) (t := 15) (v := (bool (decide (0 < i52)))) rfl rfl (wanted_none rfl) (fun a => (hasA_cons (k := 0) rfl (done_of (j := 0) hcu rfl (by decide) rfl) hasA_base)) (ov_bin rfl rfl (b_gtr _ _ _)) rfl rfl (onlyT_spec (k0 := 1) rfl rfl rfl)
        ·exact fun done hi hc hcu => draw_value (i := 2) (t := 16) (v := (bool (decide (0 < i52)))) rfl rfl (wanted_none rfl) (fun a => (hasA_cons (k := 1) rfl (done_of (j := 1) hcu rfl (by decide) rfl) hasA_base)) (ov_move rfl) rfl rfl (onlyT_spec (k0 := 2) rfl rfl rfl)
        ·exact fun done hi hc hcu => draw_value (i := 3) (t := 17) (v := sv0) rfl rfl (wanted_on rfl rfl rfl (decide_eq_true c1222)) (fun a => (hasA_cons (k := 2) rfl (done_of (j := 2) hcu rfl (by decide) rfl) hasA_base)) (ov_move rfl) rfl rfl (onlyT_spec (k0 := 3) rfl rfl rfl)
        ·exact fun done hi hc hcu => draw_value (i := 4) (t := 18) (v := (I i40)) rfl rfl (wanted_on rfl rfl rfl (decide_eq_true c1222)) (fun a => (hasA_cons (k := 2) rfl (done_of (j := 2) hcu rfl (by decide) rfl) hasA_base)) (ov_move rfl) rfl rfl (onlyT_spec (k0 := 4) rfl rfl rfl)
        ·exact fun done hi hc hcu => draw_value (i := 5) (t := 19) (v := (eptr sv0 (i40.toNat * 6))) rfl rfl (wanted_on rfl rfl rfl (decide_eq_true c1222)) (fun a => (hasA_cons (k := 2) rfl (done_of (j := 2) hcu rfl (by decide) rfl) (hasA_cons (k := 4) rfl (done_of (j := 4) hcu rfl (by decide) rfl) (hasA_cons (k := 3) rfl (done_of (j := 3) hcu rfl (by decide) rfl) hasA_base)))) (ov_indexAddr (sz := 5) 0 rfl rfl F_slice_22 F_size_52 rfl hA0 c1223 c1084) rfl rfl (onlyT_spec (k0 := 5) rfl rfl rfl)
        ·exact fun done hi hc hcu => draw_value (i := 6) (t := 20) (v := (C0_)) rfl rfl (wanted_on rfl rfl rfl (decide_eq_true c1222)) (fun a => (hasA_cons (k := 2) rfl (done_of (j := 2) hcu rfl (by decide) rfl) (hasA_cons (k := 5) rfl (done_of (j := 5) hcu rfl (by decide) rfl) hasA_base))) (ov_load_agg (vs := C1_) rfl F_agg_52 F_size_52 (reads_rd (i := 0) rfl hA0 (by simp [C1_,C0_]) (fl_read0 enc_Api_Fact_len (ix_lt c1223 c1084) rfl))) rfl rfl (onlyT_spec (k0 := 6) rfl rfl rfl)
        ·exact fun done hi hc hcu => draw_value (i := 7) (t := 21) (v := sv55) rfl rfl (wanted_on rfl rfl rfl (decide_eq_true c1222)) (fun a => (hasA_cons (k := 2) rfl (done_of (j := 2) hcu rfl (by decide) rfl) hasA_base)) (ov_move rfl) rfl rfl (onlyT_spec (k0 := 7) rfl rfl rfl)
        ·exact fun done hi hc hcu => draw_value (i := 8) (t := 22) (v := (I i52)) rfl rfl (wanted_on rfl rfl rfl (decide_eq_true c1222)) (fun a => (hasA_cons (k := 2) rfl (done_of (j := 2) hcu rfl (by decide) rfl) hasA_base)) (ov_move rfl) rfl rfl (onlyT_spec (k0 := 8) rfl rfl rfl)
        ·exact fun done hi hc hcu => draw_value (i := 9) (t := 23) (v := (I (w64 (i52 - 1)))) rfl rfl (wanted_on rfl rfl rfl (decide_eq_true c1222)) (fun a => (hasA_cons (k := 2) rfl (done_of (j := 2) hcu rfl (by decide) rfl) (hasA_cons (k := 8) rfl (done_of (j := 8) hcu rfl (by decide) rfl) hasA_base))) (ov_bin rfl rfl (b_sub _ _ _) ) rfl rfl (onlyT_spec (k0 := 9) rfl rfl rfl)
        ·exact fun done hi hc hcu => draw_value (i := 10) (t := 24) (v := (eptr sv55 (((w64 (i52 - 1)).toNat) * 6))) rfl rfl (wanted_on rfl rfl rfl (decide_eq_true c1222)) (fun a => (hasA_cons (k := 2) rfl (done_of (j := 2) hcu rfl (by decide) rfl) (hasA_cons (k := 9) rfl (done_of (j := 9) hcu rfl (by decide) rfl) (hasA_cons (k := 7) rfl (done_of (j := 7) hcu rfl (by decide) rfl) hasA_base)))) (ov_indexAddr (sz := 5) 1 rfl rfl F_slice_22 F_size_52 rfl (isRd_ownx 52) c1224 c1225) rfl rfl (onlyT_spec (k0 := 10) rfl rfl rfl)
        ·exact fun done hi hc hcu => draw_value (i := 11) (t := 25) (v := (agg #[I (((l11.getD ((w64 (i52 - 1)).toNat) z_Api_Fact).Key).Hour),str (((l11.getD ((w64 (i52 - 1)).toNat) z_Api_Fact).Key).Dims_0),str (((l11.getD ((w64 (i52 - 1)).toNat) z_Api_Fact).Key).Dims_1),str (((l11.getD ((w64 (i52 - 1)).toNat) z_Api_Fact).Key).Dims_2),str (((l11.getD ((w64 (i52 - 1)).toNat) z_Api_Fact).Key).Dims_3),I ((l11.getD ((w64 (i52 - 1)).toNat) z_Api_Fact).Value)])) rfl rfl (wanted_on rfl rfl rfl (decide_eq_true c1222)) (fun a => (hasA_cons (k := 2) rfl (done_of (j := 2) hcu rfl (by decide) rfl) (hasA_cons (k := 10) rfl (done_of (j := 10) hcu rfl (by decide) rfl) hasA_base))) (ov_load_agg (vs := [I (((l11.getD ((w64 (i52 - 1)).toNat) z_Api_Fact).Key).Hour),str (((l11.getD ((w64 (i52 - 1)).toNat) z_Api_Fact).Key).Dims_0),str (((l11.getD ((w64 (i52 - 1)).toNat) z_Api_Fact).Key).Dims_1),str (((l11.getD ((w64 (i52 - 1)).toNat) z_Api_Fact).Key).Dims_2),str (((l11.getD ((w64 (i52 - 1)).toNat) z_Api_Fact).Key).Dims_3),I ((l11.getD ((w64 (i52 - 1)).toNat) z_Api_Fact).Value)]) rfl F_agg_52 F_size_52 (reads_rd (i := 1) rfl (isRd_ownx 52) (by simp [C1_,C0_]) (fl_read0 enc_Api_Fact_len (ix_lt c1224 c1225) rfl))) rfl rfl (onlyT_spec (k0 := 11) rfl rfl rfl)
        ·exact fun done hi hc hcu => draw_same (i := 12) (t := 26) (v := (bool x260)) rfl rfl (wanted_on rfl rfl rfl (decide_eq_true c1222)) (fun a => (hasA_cons (k := 2) rfl (done_of (j := 2) hcu rfl (by decide) rfl) (hasA_cons (k := 11) rfl (done_of (j := 11) hcu rfl (by decide) rfl) (hasA_cons (k := 6) rfl (done_of (j := 6) hcu rfl (by decide) rfl) hasA_base)))) (ot_call0 (first := []) (cap := []) (xs := [.tmp 20,.tmp 25]) rfl rfl F_call_37 rfl (ossuaryref09_ahead.spec K (((l0.getD i40.toNat z_Api_Fact).Key).Hour) (((l0.getD i40.toNat z_Api_Fact).Key).Dims_0) (((l0.getD i40.toNat z_Api_Fact).Key).Dims_1) (((l0.getD i40.toNat z_Api_Fact).Key).Dims_2) (((l0.getD i40.toNat z_Api_Fact).Key).Dims_3) ((l0.getD i40.toNat z_Api_Fact).Value) (((l11.getD ((w64 (i52 - 1)).toNat) z_Api_Fact).Key).Hour) (((l11.getD ((w64 (i52 - 1)).toNat) z_Api_Fact).Key).Dims_0) (((l11.getD ((w64 (i52 - 1)).toNat) z_Api_Fact).Key).Dims_1) (((l11.getD ((w64 (i52 - 1)).toNat) z_Api_Fact).Key).Dims_2) (((l11.getD ((w64 (i52 - 1)).toNat) z_Api_Fact).Key).Dims_3) ((l11.getD ((w64 (i52 - 1)).toNat) z_Api_Fact).Value) _ h224)) rfl rfl (onlyT_spec (k0 := 12) rfl rfl rfl)
        ·exact fun done hi hc hcu => draw_value (i := 13) (t := 27) (v := (bool x260)) rfl rfl (wanted_none rfl) (fun a => (hasA_cons (k := 12) rfl (done_of (j := 12) hcu rfl (by decide) rfl) (hasA_cons (k := 2) rfl (done_of (j := 2) hcu rfl (by decide) rfl) hasA_base))) (ov_pick rfl rfl rfl (pick_t (decide_eq_true c1222))) rfl rfl (onlyT_spec (k0 := 13) rfl rfl rfl)
       ·intro done hall
        refine draw_endL [A0,own sv55 52 6 l11.length (fl enc_Api_Fact l11)] rfl (fun a => (hasA_cons (k := 0) rfl (hall 0 (by decide)) (hasA_cons (k := 1) rfl (hall 1 (by decide)) (hasA_cons (k := 2) rfl (hall 2 (by decide)) (hasA_cons (k := 3) rfl (hall 3 (by decide)) (hasA_cons (k := 4) rfl (hall 4 (by decide)) (hasA_cons (k := 5) rfl (hall 5 (by decide)) (hasA_cons (k := 6) rfl (hall 6 (by decide)) (hasA_cons (k := 7) rfl (hall 7 (by decide)) (hasA_cons (k := 8) rfl (hall 8 (by decide)) (hasA_cons (k := 9) rfl (hall 9 (by decide)) (hasA_cons (k := 10) rfl (hall 10 (by decide)) (hasA_cons (k := 11) rfl (hall 11 (by decide)) (hasA_cons (k := 12) rfl (hall 12 (by decide)) (hasA_cons (k := 13) rfl (hall 13 (by decide)) hasA_base))))))))))))))) ?_
        refine htF H88 (fun c1226 H88 => ?_) fun c1226 H88 => ?_
        ·refine ent_cond_false rfl (Bool.eq_false_iff.2 c1226) (ent_exit ?_)
         cases H88
         exact ent_fin [0,1] (by decide) rfl (sub_cons (t := 0) rfl (sub_cons (t := 3) rfl (sub_cons (t := 4) rfl (sub_cons (t := 5) rfl (sub_nil _))))) fun a w h => h
        refine ent_cond_true rfl c1226 (ent_skip (ent_block (ent_region (ent_value (ov_move rfl) rfl rfl rfl (ent_value (ov_bin rfl rfl (b_sub _ _ _) ) rfl rfl rfl (ent_value (ov_assign rfl) rfl rfl rfl (ent_nil ?_)))))))
        exact ent_fin [0,1] (by decide) rfl (sub_cons (t := 0) rfl (sub_cons (t := 3) rfl (sub_cons (t := 4) rfl (sub_cons (t := 5) rfl (sub_nil _))))) fun a w h => ⟨k,Nat.lt_succ_self k,_,H88,h⟩
    ·obtain ⟨c1227,H85⟩ := gdT H85
     obtain ⟨c1228,H85⟩ := gdT H85
     obtain ⟨c1229,H85⟩ := gdT H85
     obtain ⟨c1230,H85⟩ := gdT H85
     obtain ⟨c1231,H85⟩ := gdT H85
     obtain ⟨c1232,H85⟩ := gdT H85
     let Z552_T : DT := fun ga24 => [(0,30,(ga24 0)),(1,31,sv55),(2,32,I x253),(3,33,(subs sv55 0 x253.toNat 6)),(4,34,(ga24 4)),(5,35,sv0),(6,36,I i40),(7,37,(eptr sv0 (i40.toNat * 6))),(8,38,C0_),(9,39,(ga24 9)),(10,40,(ga24 10)),(11,41,sv55),(12,42,I x253),(13,43,(subs sv55 x253.toNat l11.length 6)),(14,44,(ga24 14))]
     let Z552_L : DL := fun ga24 done => [sel (done 9) (own (ga24 9) 52 6 [(⟨(⟨((l0.getD i40.toNat z_Api_Fact).Key).Hour,((l0.getD i40.toNat z_Api_Fact).Key).Dims_0,((l0.getD i40.toNat z_Api_Fact).Key).Dims_1,((l0.getD i40.toNat z_Api_Fact).Key).Dims_2,((l0.getD i40.toNat z_Api_Fact).Key).Dims_3⟩ : Api_Key),(l0.getD i40.toNat z_Api_Fact).Value⟩ : Api_Fact)].length (fl enc_Api_Fact [(⟨(⟨((l0.getD i40.toNat z_Api_Fact).Key).Hour,((l0.getD i40.toNat z_Api_Fact).Key).Dims_0,((l0.getD i40.toNat z_Api_Fact).Key).Dims_1,((l0.getD i40.toNat z_Api_Fact).Key).Dims_2,((l0.getD i40.toNat z_Api_Fact).Key).Dims_3⟩ : Api_Key),(l0.getD i40.toNat z_Api_Fact).Value⟩ : Api_Fact)])) emp,sel (done 14) (own (ga24 14) 52 6 (((([] : List Api_Fact) ++ (l11.take x253.toNat)) ++ [(⟨(⟨((l0.getD i40.toNat z_Api_Fact).Key).Hour,((l0.getD i40.toNat z_Api_Fact).Key).Dims_0,((l0.getD i40.toNat z_Api_Fact).Key).Dims_1,((l0.getD i40.toNat z_Api_Fact).Key).Dims_2,((l0.getD i40.toNat z_Api_Fact).Key).Dims_3⟩ : Api_Key),(l0.getD i40.toNat z_Api_Fact).Value⟩ : Api_Fact)]) ++ (l11.drop x253.toNat)).length (fl enc_Api_Fact (((([] : List Api_Fact) ++ (l11.take x253.toNat)) ++ [(⟨(⟨((l0.getD i40.toNat z_Api_Fact).Key).Hour,((l0.getD i40.toNat z_Api_Fact).Key).Dims_0,((l0.getD i40.toNat z_Api_Fact).Key).Dims_1,((l0.getD i40.toNat z_Api_Fact).Key).Dims_2,((l0.getD i40.toNat z_Api_Fact).Key).Dims_3⟩ : Api_Key),(l0.getD i40.toNat z_Api_Fact).Value⟩ : Api_Fact)]) ++ (l11.drop x253.toNat)))) (sel (done 10) (own (ga24 10) 52 6 ((([] : List Api_Fact) ++ (l11.take x253.toNat)) ++ [(⟨(⟨((l0.getD i40.toNat z_Api_Fact).Key).Hour,((l0.getD i40.toNat z_Api_Fact).Key).Dims_0,((l0.getD i40.toNat z_Api_Fact).Key).Dims_1,((l0.getD i40.toNat z_Api_Fact).Key).Dims_2,((l0.getD i40.toNat z_Api_Fact).Key).Dims_3⟩ : Api_Key),(l0.getD i40.toNat z_Api_Fact).Value⟩ : Api_Fact)]).length (fl enc_Api_Fact ((([] : List Api_Fact) ++ (l11.take x253.toNat)) ++ [(⟨(⟨((l0.getD i40.toNat z_Api_Fact).Key).Hour,((l0.getD i40.toNat z_Api_Fact).Key).Dims_0,((l0.getD i40.toNat z_Api_Fact).Key).Dims_1,((l0.getD i40.toNat z_Api_Fact).Key).Dims_2,((l0.getD i40.toNat z_Api_Fact).Key).Dims_3⟩ : Api_Key),(l0.getD i40.toNat z_Api_Fact).Value⟩ : Api_Fact)]))) (sel (done 4) (own (ga24 4) 52 6 (([] : List Api_Fact) ++ (l11.take x253.toNat)).length (fl enc_Api_Fact (([] : List Api_Fact) ++ (l11.take x253.toNat)))) (sel (done 0) (own (ga24 0) 52 6 ([] : List Api_Fact).length (fl enc_Api_Fact ([] : List Api_Fact))) emp))),A0,own sv55 52 6 l11.length (fl enc_Api_Fact l11)]
     let Z552_I : DI := fun ga24 done a w => StD 46 w0 F [(0,sv0),(3,sv55),(4,I i40),(5,I x253)] (Z552_T ga24) done (Z552_L ga24 done) a w
     let Z552_A : (Nat → Bool) → Act → World → Prop := (fun done a w => ∃ ga24 : Nat → Value,Z552_I ga24 done a w)
     let Z552_B : Act → World → Prop := (fun a w => ∃ ga24 : Nat → Value,St 46 w0 F ((3,(ga24 14)) :: [(0,sv0),(4,I i40),(5,I x253),(30,(ga24 0)),(31,sv55),(32,I x253),(33,(subs sv55 0 x253.toNat 6)),(34,(ga24 4)),(35,sv0),(36,I i40),(37,(eptr sv0 (i40.toNat * 6))),(38,C0_),(39,(ga24 9)),(40,(ga24 10)),(41,sv55),(42,I x253),(43,(subs sv55 x253.toNat l11.length 6)),(44,(ga24 14))]) [own (ga24 9) 52 6 [(⟨(⟨((l0.getD i40.toNat z_Api_Fact).Key).Hour,((l0.getD i40.toNat z_Api_Fact).Key).Dims_0,((l0.getD i40.toNat z_Api_Fact).Key).Dims_1,((l0.getD i40.toNat z_Api_Fact).Key).Dims_2,((l0.getD i40.toNat z_Api_Fact).Key).Dims_3⟩ : Api_Key),(l0.getD i40.toNat z_Api_Fact).Value⟩ : Api_Fact)].length (fl enc_Api_Fact [(⟨(⟨((l0.getD i40.toNat z_Api_Fact).Key).Hour,((l0.getD i40.toNat z_Api_Fact).Key).Dims_0,((l0.getD i40.toNat z_Api_Fact).Key).Dims_1,((l0.getD i40.toNat z_Api_Fact).Key).Dims_2,((l0.getD i40.toNat z_Api_Fact).Key).Dims_3⟩ : Api_Key),(l0.getD i40.toNat z_Api_Fact).Value⟩ : Api_Fact)]),own (ga24 14) 52 6 (((([] : List Api_Fact) ++ (l11.take x253.toNat)) ++ [(⟨(⟨((l0.getD i40.toNat z_Api_Fact).Key).Hour,((l0.getD i40.toNat z_Api_Fact).Key).Dims_0,((l0.getD i40.toNat z_Api_Fact).Key).Dims_1,((l0.getD i40.toNat z_Api_Fact).Key).Dims_2,((l0.getD i40.toNat z_Api_Fact).Key).Dims_3⟩ : Api_Key),(l0.getD i40.toNat z_Api_Fact).Value⟩ : Api_Fact)]) ++ (l11.drop x253.toNat)).length (fl enc_Api_Fact (((([] : List Api_Fact) ++ (l11.take x253.toNat)) ++ [(⟨(⟨((l0.getD i40.toNat z_Api_Fact).Key).Hour,((l0.getD i40.toNat z_Api_Fact).Key).Dims_0,((l0.getD i40.toNat z_Api_Fact).Key).Dims_1,((l0.getD i40.toNat z_Api_Fact).Key).Dims_2,((l0.getD i40.toNat z_Api_Fact).Key).Dims_3⟩ : Api_Key),(l0.getD i40.toNat z_Api_Fact).Value⟩ : Api_Fact)]) ++ (l11.drop x253.toNat))),A0,own sv55 52 6 l11.length (fl enc_Api_Fact l11)] a w)
     refine ent_drawm 16 rfl (two 15 Z552_A Z552_B) (by kernel_rfl) (by kernel_rfl) (two_start (draw_startG (T := Z552_T) (L' := fun ga24 : Nat → Value => [sel false (own (ga24 9) 52 6 [(⟨(⟨((l0.getD i40.toNat z_Api_Fact).Key).Hour,((l0.getD i40.toNat z_Api_Fact).Key).Dims_0,((l0.getD i40.toNat z_Api_Fact).Key).Dims_1,((l0.getD i40.toNat z_Api_Fact).Key).Dims_2,((l0.getD i40.toNat z_Api_Fact).Key).Dims_3⟩ : Api_Key),(l0.getD i40.toNat z_Api_Fact).Value⟩ : Api_Fact)].length (fl enc_Api_Fact [(⟨(⟨((l0.getD i40.toNat z_Api_Fact).Key).Hour,((l0.getD i40.toNat z_Api_Fact).Key).Dims_0,((l0.getD i40.toNat z_Api_Fact).Key).Dims_1,((l0.getD i40.toNat z_Api_Fact).Key).Dims_2,((l0.getD i40.toNat z_Api_Fact).Key).Dims_3⟩ : Api_Key),(l0.getD i40.toNat z_Api_Fact).Value⟩ : Api_Fact)])) emp,sel false (own (ga24 14) 52 6 (((([] : List Api_Fact) ++ (l11.take x253.toNat)) ++ [(⟨(⟨((l0.getD i40.toNat z_Api_Fact).Key).Hour,((l0.getD i40.toNat z_Api_Fact).Key).Dims_0,((l0.getD i40.toNat z_Api_Fact).Key).Dims_1,((l0.getD i40.toNat z_Api_Fact).Key).Dims_2,((l0.getD i40.toNat z_Api_Fact).Key).Dims_3⟩ : Api_Key),(l0.getD i40.toNat z_Api_Fact).Value⟩ : Api_Fact)]) ++ (l11.drop x253.toNat)).length (fl enc_Api_Fact (((([] : List Api_Fact) ++ (l11.take x253.toNat)) ++ [(⟨(⟨((l0.getD i40.toNat z_Api_Fact).Key).Hour,((l0.getD i40.toNat z_Api_Fact).Key).Dims_0,((l0.getD i40.toNat z_Api_Fact).Key).Dims_1,((l0.getD i40.toNat z_Api_Fact).Key).Dims_2,((l0.getD i40.toNat z_Api_Fact).Key).Dims_3⟩ : Api_Key),(l0.getD i40.toNat z_Api_Fact).Value⟩ : Api_Fact)]) ++ (l11.drop x253.toNat)))) (sel false (own (ga24 10) 52 6 ((([] : List Api_Fact) ++ (l11.take x253.toNat)) ++ [(⟨(⟨((l0.getD i40.toNat z_Api_Fact).Key).Hour,((l0.getD i40.toNat z_Api_Fact).Key).Dims_0,((l0.getD i40.toNat z_Api_Fact).Key).Dims_1,((l0.getD i40.toNat z_Api_Fact).Key).Dims_2,((l0.getD i40.toNat z_Api_Fact).Key).Dims_3⟩ : Api_Key),(l0.getD i40.toNat z_Api_Fact).Value⟩ : Api_Fact)]).length (fl enc_Api_Fact ((([] : List Api_Fact) ++ (l11.take x253.toNat)) ++ [(⟨(⟨((l0.getD i40.toNat z_Api_Fact).Key).Hour,((l0.getD i40.toNat z_Api_Fact).Key).Dims_0,((l0.getD i40.toNat z_Api_Fact).Key).Dims_1,((l0.getD i40.toNat z_Api_Fact).Key).Dims_2,((l0.getD i40.toNat z_Api_Fact).Key).Dims_3⟩ : Api_Key),(l0.getD i40.toNat z_Api_Fact).Value⟩ : Api_Fact)]))) (sel false (own (ga24 4) 52 6 (([] : List Api_Fact) ++ (l11.take x253.toNat)).length (fl enc_Api_Fact (([] : List Api_Fact) ++ (l11.take x253.toNat)))) (sel false (own (ga24 0) 52 6 ([] : List Api_Fact).length (fl enc_Api_Fact ([] : List Api_Fact))) emp))),A0,own sv55 52 6 l11.length (fl enc_Api_Fact l11)]) 2 (sub_cons (t := 0) rfl (sub_cons (t := 3) rfl (sub_cons (t := 4) rfl (sub_cons (t := 5) rfl (sub_nil _))))) (fun _ => rfl))) ?_ ?_
     ·refine ⟨?_,?_,?_,?_,?_,?_,?_,?_,?_,?_,?_,?_,?_,?_,?_,?_,trivial⟩
      ·intro done hi hc hcu
       have n15 : done 15 = false := notdone_of (m := 15) hc hi rfl rfl
       refine two_step (m := 15) (A := Z552_A) n15 rfl ?_
       refine ent_exi (S := fun ga24 => Z552_I ga24 done) fun ga24 => ?_
       have n4 : done 4 = false := notdone_of (m := 4) hc hi rfl rfl
       have n10 : done 10 = false := notdone_of (m := 10) hc n4 rfl rfl
       have n14 : done 14 = false := notdone_of (m := 14) hc n10 rfl rfl
       refine draw_newV (i := 0) (t := 30) (x := ga24) (L := Z552_L) (T := Z552_T) (L2 := [sel (done 9) (own (ga24 9) 52 6 [(⟨(⟨((l0.getD i40.toNat z_Api_Fact).Key).Hour,((l0.getD i40.toNat z_Api_Fact).Key).Dims_0,((l0.getD i40.toNat z_Api_Fact).Key).Dims_1,((l0.getD i40.toNat z_Api_Fact).Key).Dims_2,((l0.getD i40.toNat z_Api_Fact).Key).Dims_3⟩ : Api_Key),(l0.getD i40.toNat z_Api_Fact).Value⟩ : Api_Fact)].length (fl enc_Api_Fact [(⟨(⟨((l0.getD i40.toNat z_Api_Fact).Key).Hour,((l0.getD i40.toNat z_Api_Fact).Key).Dims_0,((l0.getD i40.toNat z_Api_Fact).Key).Dims_1,((l0.getD i40.toNat z_Api_Fact).Key).Dims_2,((l0.getD i40.toNat z_Api_Fact).Key).Dims_3⟩ : Api_Key),(l0.getD i40.toNat z_Api_Fact).Value⟩ : Api_Fact)])) emp,emp,A0,own sv55 52 6 l11.length (fl enc_Api_Fact l11)]) (B := fun v_ => (own v_ 52 6 ([] : List Api_Fact).length (fl enc_Api_Fact ([] : List Api_Fact)))) 1 rfl rfl (wanted_none rfl) (fun a => hasA_base) (by simp only [C1_,C0_,Z552_T,Z552_L,n4,n10,n14,hi,sel]) (ot_buildSlice (sz := 5) (xs := []) (cs := fl enc_Api_Fact ([] : List Api_Fact)) rfl rfl F_slice_22 F_size_52 F_zero_52 rfl rfl (all_size rfl) rfl (by decide)) ?_ rfl (fun v_ => ?_) rfl rfl ?_
       ·rintro _ _ rfl; rfl
       ·simp [C1_,C0_,Z552_T,Z552_L,up,upb,sel,n4,n10,n14,hi]
       ·rintro _ _ rfl
        exact (tr_this (tr_same rfl rfl (tr_same rfl rfl (tr_same rfl rfl (tr_same rfl rfl (tr_same rfl rfl (tr_same rfl rfl (tr_same rfl rfl (tr_same rfl rfl (tr_same rfl rfl (tr_same rfl rfl (tr_same rfl rfl (tr_same rfl rfl (tr_same rfl rfl (tr_same rfl rfl tr_nil)))))))))))))))
      ·intro done hi hc hcu
       have n15 : done 15 = false := notdone_of (m := 15) hc hi rfl rfl
       refine two_step (m := 15) (A := Z552_A) n15 rfl ?_
       refine draw_exi (I := Z552_I) fun ga24 => ?_
       exact draw_value (i := 1) (t := 31) (v := sv55) rfl rfl (wanted_none rfl) (fun a => hasA_base) (ov_move rfl) rfl rfl (onlyT_spec (k0 := 1) rfl rfl rfl)
      ·intro done hi hc hcu
       have n15 : done 15 = false := notdone_of (m := 15) hc hi rfl rfl
       refine two_step (m := 15) (A := Z552_A) n15 rfl ?_
       refine draw_exi (I := Z552_I) fun ga24 => ?_
       exact draw_value (i := 2) (t := 32) (v := (I x253)) rfl rfl (wanted_none rfl) (fun a => hasA_base) (ov_move rfl) rfl rfl (onlyT_spec (k0 := 2) rfl rfl rfl)
      ·intro done hi hc hcu
       have n15 : done 15 = false := notdone_of (m := 15) hc hi rfl rfl
       refine two_step (m := 15) (A := Z552_A) n15 rfl ?_
       refine draw_exi (I := Z552_I) fun ga24 => ?_
       have d1 : done 1 = true := done_of (j := 1) hcu rfl (by decide) rfl
       have d2 : done 2 = true := done_of (j := 2) hcu rfl (by decide) rfl
       exact draw_value (i := 3) (t := 33) (v := (subs sv55 0 x253.toNat 6)) rfl rfl (wanted_none rfl) (fun a => (hasA_cons (k := 2) rfl d2 (hasA_cons (k := 1) rfl d1 hasA_base))) (ov_slice_hi 3 rfl rfl F_slice_22 F_size_52 rfl (isRd_ownx 52) c1227 c1228) rfl rfl (onlyT_spec (k0 := 3) rfl rfl rfl)
      ·intro done hi hc hcu
       have n15 : done 15 = false := notdone_of (m := 15) hc hi rfl rfl
       refine two_step (m := 15) (A := Z552_A) n15 rfl ?_
       refine ent_exi (S := fun ga24 => Z552_I ga24 done) fun ga24 => ?_
       have d0 : done 0 = true := done_of (j := 0) hcu rfl (by decide) rfl
       have d3 : done 3 = true := done_of (j := 3) hcu rfl (by decide) rfl
       have n10 : done 10 = false := notdone_of (m := 10) hc hi rfl rfl
       have n14 : done 14 = false := notdone_of (m := 14) hc n10 rfl rfl
       exact draw_turnI (i := 4) (t := 34) (x := ga24) (L := Z552_L) (T := Z552_T) (L2 := [sel (done 9) (own (ga24 9) 52 6 [(⟨(⟨((l0.getD i40.toNat z_Api_Fact).Key).Hour,((l0.getD i40.toNat z_Api_Fact).Key).Dims_0,((l0.getD i40.toNat z_Api_Fact).Key).Dims_1,((l0.getD i40.toNat z_Api_Fact).Key).Dims_2,((l0.getD i40.toNat z_Api_Fact).Key).Dims_3⟩ : Api_Key),(l0.getD i40.toNat z_Api_Fact).Value⟩ : Api_Fact)].length (fl enc_Api_Fact [(⟨(⟨((l0.getD i40.toNat z_Api_Fact).Key).Hour,((l0.getD i40.toNat z_Api_Fact).Key).Dims_0,((l0.getD i40.toNat z_Api_Fact).Key).Dims_1,((l0.getD i40.toNat z_Api_Fact).Key).Dims_2,((l0.getD i40.toNat z_Api_Fact).Key).Dims_3⟩ : Api_Key),(l0.getD i40.toNat z_Api_Fact).Value⟩ : Api_Fact)])) emp,own (ga24 0) 52 6 ([] : List Api_Fact).length (fl enc_Api_Fact ([] : List Api_Fact)),A0,own sv55 52 6 l11.length (fl enc_Api_Fact l11)]) rfl rfl (wanted_none rfl) (fun a => (hasA_cons (k := 3) rfl d3 (hasA_cons (k := 0) rfl d0 hasA_base))) (by simp only [C1_,C0_,Z552_T,Z552_L,d0,n10,n14,hi,sel]) (ot_appendx (sz := 5) (xs := ([] : List Api_Fact)) (ys := (l11.take x253.toNat)) 1 3 rfl rfl F_slice_22 F_size_52 F_zero_52 rfl F_bytes_52 rfl rfl rfl (isRd_take enc_Api_Fact_len (isRd_ownx 52) (nat_le c1227 c1228)) rfl enc_Api_Fact_one c1229) rfl rfl fun v_ M_ hM_ => ⟨upb ga24 4 v_,hM_.trans (show [sel (done 9) (own (ga24 9) 52 6 [(⟨(⟨((l0.getD i40.toNat z_Api_Fact).Key).Hour,((l0.getD i40.toNat z_Api_Fact).Key).Dims_0,((l0.getD i40.toNat z_Api_Fact).Key).Dims_1,((l0.getD i40.toNat z_Api_Fact).Key).Dims_2,((l0.getD i40.toNat z_Api_Fact).Key).Dims_3⟩ : Api_Key),(l0.getD i40.toNat z_Api_Fact).Value⟩ : Api_Fact)].length (fl enc_Api_Fact [(⟨(⟨((l0.getD i40.toNat z_Api_Fact).Key).Hour,((l0.getD i40.toNat z_Api_Fact).Key).Dims_0,((l0.getD i40.toNat z_Api_Fact).Key).Dims_1,((l0.getD i40.toNat z_Api_Fact).Key).Dims_2,((l0.getD i40.toNat z_Api_Fact).Key).Dims_3⟩ : Api_Key),(l0.getD i40.toNat z_Api_Fact).Value⟩ : Api_Fact)])) emp,own v_ 52 6 (([] : List Api_Fact) ++ (l11.take x253.toNat)).length (fl enc_Api_Fact (([] : List Api_Fact) ++ (l11.take x253.toNat))),A0,own sv55 52 6 l11.length (fl enc_Api_Fact l11)] = _ by simp [C1_,C0_,Z552_T,Z552_L,up,upb,sel,d0,n10,n14,hi]),(tr_same rfl rfl (tr_same rfl rfl (tr_same rfl rfl (tr_same rfl rfl (tr_this (tr_same rfl rfl (tr_same rfl rfl (tr_same rfl rfl (tr_same rfl rfl (tr_same rfl rfl (tr_same rfl rfl (tr_same rfl rfl (tr_same rfl rfl (tr_same rfl rfl (tr_same rfl rfl tr_nil)))))))))))))))⟩
      ·intro done hi hc hcu
       have n15 : done 15 = false := notdone_of (m := 15) hc hi rfl rfl
       refine two_step (m := 15) (A := Z552_A) n15 rfl ?_
       refine draw_exi (I := Z552_I) fun ga24 => ?_
       exact draw_value (i := 5) (t := 35) (v := sv0) rfl rfl (wanted_none rfl) (fun a => hasA_base) (ov_move rfl) rfl rfl (onlyT_spec (k0 := 5) rfl rfl rfl)
      ·intro done hi hc hcu
       have n15 : done 15 = false := notdone_of (m := 15) hc hi rfl rfl
       refine two_step (m := 15) (A := Z552_A) n15 rfl ?_
       refine draw_exi (I := Z552_I) fun ga24 => ?_
       exact draw_value (i := 6) (t := 36) (v := (I i40)) rfl rfl (wanted_none rfl) (fun a => hasA_base) (ov_move rfl) rfl rfl (onlyT_spec (k0 := 6) rfl rfl rfl)
      ·intro done hi hc hcu
       have n15 : done 15 = false := notdone_of (m := 15) hc hi rfl rfl
       refine two_step (m := 15) (A := Z552_A) n15 rfl ?_
       refine draw_exi (I := Z552_I) fun ga24 => ?_
       have d5 : done 5 = true := done_of (j := 5) hcu rfl (by decide) rfl
       have d6 : done 6 = true := done_of (j := 6) hcu rfl (by decide) rfl
       exact draw_value (i := 7) (t := 37) (v := (eptr sv0 (i40.toNat * 6))) rfl rfl (wanted_none rfl) (fun a => (hasA_cons (k := 6) rfl d6 (hasA_cons (k := 5) rfl d5 hasA_base))) (ov_indexAddr (sz := 5) 2 rfl rfl F_slice_22 F_size_52 rfl hA0 c1230 c1084) rfl rfl (onlyT_spec (k0 := 7) rfl rfl rfl)
      ·intro done hi hc hcu
       have n15 : done 15 = false := notdone_of (m := 15) hc hi rfl rfl
       refine two_step (m := 15) (A := Z552_A) n15 rfl ?_
       refine draw_exi (I := Z552_I) fun ga24 => ?_
       have d7 : done 7 = true := done_of (j := 7) hcu rfl (by decide) rfl
       exact draw_value (i := 8) (t := 38) (v := (C0_)) rfl rfl (wanted_none rfl) (fun a => (hasA_cons (k := 7) rfl d7 hasA_base)) (ov_load_agg (vs := C1_) rfl F_agg_52 F_size_52 (reads_rd (i := 2) rfl hA0 (by simp [C1_,C0_,Z552_T,Z552_L]) (fl_read0 enc_Api_Fact_len (ix_lt c1230 c1084) rfl))) rfl rfl (onlyT_spec (k0 := 8) rfl rfl rfl)
      ·intro done hi hc hcu
       have n15 : done 15 = false := notdone_of (m := 15) hc hi rfl rfl
       refine two_step (m := 15) (A := Z552_A) n15 rfl ?_
       refine ent_exi (S := fun ga24 => Z552_I ga24 done) fun ga24 => ?_
       have d8 : done 8 = true := done_of (j := 8) hcu rfl (by decide) rfl
       refine draw_newV (i := 9) (t := 39) (x := ga24) (L := Z552_L) (T := Z552_T) (L2 := [emp,sel (done 14) (own (ga24 14) 52 6 (((([] : List Api_Fact) ++ (l11.take x253.toNat)) ++ [(⟨(⟨((l0.getD i40.toNat z_Api_Fact).Key).Hour,((l0.getD i40.toNat z_Api_Fact).Key).Dims_0,((l0.getD i40.toNat z_Api_Fact).Key).Dims_1,((l0.getD i40.toNat z_Api_Fact).Key).Dims_2,((l0.getD i40.toNat z_Api_Fact).Key).Dims_3⟩ : Api_Key),(l0.getD i40.toNat z_Api_Fact).Value⟩ : Api_Fact)]) ++ (l11.drop x253.toNat)).length (fl enc_Api_Fact (((([] : List Api_Fact) ++ (l11.take x253.toNat)) ++ [(⟨(⟨((l0.getD i40.toNat z_Api_Fact).Key).Hour,((l0.getD i40.toNat z_Api_Fact).Key).Dims_0,((l0.getD i40.toNat z_Api_Fact).Key).Dims_1,((l0.getD i40.toNat z_Api_Fact).Key).Dims_2,((l0.getD i40.toNat z_Api_Fact).Key).Dims_3⟩ : Api_Key),(l0.getD i40.toNat z_Api_Fact).Value⟩ : Api_Fact)]) ++ (l11.drop x253.toNat)))) (sel (done 10) (own (ga24 10) 52 6 ((([] : List Api_Fact) ++ (l11.take x253.toNat)) ++ [(⟨(⟨((l0.getD i40.toNat z_Api_Fact).Key).Hour,((l0.getD i40.toNat z_Api_Fact).Key).Dims_0,((l0.getD i40.toNat z_Api_Fact).Key).Dims_1,((l0.getD i40.toNat z_Api_Fact).Key).Dims_2,((l0.getD i40.toNat z_Api_Fact).Key).Dims_3⟩ : Api_Key),(l0.getD i40.toNat z_Api_Fact).Value⟩ : Api_Fact)]).length (fl enc_Api_Fact ((([] : List Api_Fact) ++ (l11.take x253.toNat)) ++ [(⟨(⟨((l0.getD i40.toNat z_Api_Fact).Key).Hour,((l0.getD i40.toNat z_Api_Fact).Key).Dims_0,((l0.getD i40.toNat z_Api_Fact).Key).Dims_1,((l0.getD i40.toNat z_Api_Fact).Key).Dims_2,((l0.getD i40.toNat z_Api_Fact).Key).Dims_3⟩ : Api_Key),(l0.getD i40.toNat z_Api_Fact).Value⟩ : Api_Fact)]))) (sel (done 4) (own (ga24 4) 52 6 (([] : List Api_Fact) ++ (l11.take x253.toNat)).length (fl enc_Api_Fact (([] : List Api_Fact) ++ (l11.take x253.toNat)))) (sel (done 0) (own (ga24 0) 52 6 ([] : List Api_Fact).length (fl enc_Api_Fact ([] : List Api_Fact))) emp))),A0,own sv55 52 6 l11.length (fl enc_Api_Fact l11)]) (B := fun v_ => (own v_ 52 6 [(⟨(⟨((l0.getD i40.toNat z_Api_Fact).Key).Hour,((l0.getD i40.toNat z_Api_Fact).Key).Dims_0,((l0.getD i40.toNat z_Api_Fact).Key).Dims_1,((l0.getD i40.toNat z_Api_Fact).Key).Dims_2,((l0.getD i40.toNat z_Api_Fact).Key).Dims_3⟩ : Api_Key),(l0.getD i40.toNat z_Api_Fact).Value⟩ : Api_Fact)].length (fl enc_Api_Fact [(⟨(⟨((l0.getD i40.toNat z_Api_Fact).Key).Hour,((l0.getD i40.toNat z_Api_Fact).Key).Dims_0,((l0.getD i40.toNat z_Api_Fact).Key).Dims_1,((l0.getD i40.toNat z_Api_Fact).Key).Dims_2,((l0.getD i40.toNat z_Api_Fact).Key).Dims_3⟩ : Api_Key),(l0.getD i40.toNat z_Api_Fact).Value⟩ : Api_Fact)]))) 0 rfl rfl (wanted_none rfl) (fun a => (hasA_cons (k := 8) rfl d8 hasA_base)) (by simp only [C1_,C0_,Z552_T,Z552_L,hi,sel]) (ot_buildSlice (sz := 5) (xs := [.tmp 38]) (cs := fl enc_Api_Fact [(⟨(⟨((l0.getD i40.toNat z_Api_Fact).Key).Hour,((l0.getD i40.toNat z_Api_Fact).Key).Dims_0,((l0.getD i40.toNat z_Api_Fact).Key).Dims_1,((l0.getD i40.toNat z_Api_Fact).Key).Dims_2,((l0.getD i40.toNat z_Api_Fact).Key).Dims_3⟩ : Api_Key),(l0.getD i40.toNat z_Api_Fact).Value⟩ : Api_Fact)]) rfl rfl F_slice_22 F_size_52 F_zero_52 rfl rfl (all_size rfl) rfl (by decide)) ?_ rfl (fun v_ => ?_) rfl rfl ?_
       ·rintro _ _ rfl; rfl
       ·simp [C1_,C0_,Z552_T,Z552_L,up,upb,sel,hi]
       ·rintro _ _ rfl
        exact (tr_same rfl rfl (tr_same rfl rfl (tr_same rfl rfl (tr_same rfl rfl (tr_same rfl rfl (tr_same rfl rfl (tr_same rfl rfl (tr_same rfl rfl (tr_same rfl rfl (tr_this (tr_same rfl rfl (tr_same rfl rfl (tr_same rfl rfl (tr_same rfl rfl (tr_same rfl rfl tr_nil)))))))))))))))
      ·intro done hi hc hcu
       have n15 : done 15 = false := notdone_of (m := 15) hc hi rfl rfl
       refine two_step (m := 15) (A := Z552_A) n15 rfl ?_
       refine ent_exi (S := fun ga24 => Z552_I ga24 done) fun ga24 => ?_
       have d4 : done 4 = true := done_of (j := 4) hcu rfl (by decide) rfl
       have d9 : done 9 = true := done_of (j := 9) hcu rfl (by decide) rfl
       have d0 : done 0 = true := done_step (i := 4) (j := 0) hc d4 rfl rfl
       have n14 : done 14 = false := notdone_of (m := 14) hc hi rfl rfl
       exact draw_turnI (i := 10) (t := 40) (x := ga24) (L := Z552_L) (T := Z552_T) (L2 := [own (ga24 9) 52 6 [(⟨(⟨((l0.getD i40.toNat z_Api_Fact).Key).Hour,((l0.getD i40.toNat z_Api_Fact).Key).Dims_0,((l0.getD i40.toNat z_Api_Fact).Key).Dims_1,((l0.getD i40.toNat z_Api_Fact).Key).Dims_2,((l0.getD i40.toNat z_Api_Fact).Key).Dims_3⟩ : Api_Key),(l0.getD i40.toNat z_Api_Fact).Value⟩ : Api_Fact)].length (fl enc_Api_Fact [(⟨(⟨((l0.getD i40.toNat z_Api_Fact).Key).Hour,((l0.getD i40.toNat z_Api_Fact).Key).Dims_0,((l0.getD i40.toNat z_Api_Fact).Key).Dims_1,((l0.getD i40.toNat z_Api_Fact).Key).Dims_2,((l0.getD i40.toNat z_Api_Fact).Key).Dims_3⟩ : Api_Key),(l0.getD i40.toNat z_Api_Fact).Value⟩ : Api_Fact)]),own (ga24 4) 52 6 (([] : List Api_Fact) ++ (l11.take x253.toNat)).length (fl enc_Api_Fact (([] : List Api_Fact) ++ (l11.take x253.toNat))),A0,own sv55 52 6 l11.length (fl enc_Api_Fact l11)]) rfl rfl (wanted_none rfl) (fun a => (hasA_cons (k := 9) rfl d9 (hasA_cons (k := 4) rfl d4 hasA_base))) (by simp only [C1_,C0_,Z552_T,Z552_L,d0,d4,d9,n14,hi,sel]) (ot_appendx (sz := 5) (xs := (([] : List Api_Fact) ++ (l11.take x253.toNat))) (ys := [(⟨(⟨((l0.getD i40.toNat z_Api_Fact).Key).Hour,((l0.getD i40.toNat z_Api_Fact).Key).Dims_0,((l0.getD i40.toNat z_Api_Fact).Key).Dims_1,((l0.getD i40.toNat z_Api_Fact).Key).Dims_2,((l0.getD i40.toNat z_Api_Fact).Key).Dims_3⟩ : Api_Key),(l0.getD i40.toNat z_Api_Fact).Value⟩ : Api_Fact)]) 1 0 rfl rfl F_slice_22 F_size_52 F_zero_52 rfl F_bytes_52 rfl rfl rfl (isRd_ownx 52) rfl enc_Api_Fact_one c1231) rfl rfl fun v_ M_ hM_ => ⟨upb ga24 10 v_,hM_.trans (show [own (ga24 9) 52 6 [(⟨(⟨((l0.getD i40.toNat z_Api_Fact).Key).Hour,((l0.getD i40.toNat z_Api_Fact).Key).Dims_0,((l0.getD i40.toNat z_Api_Fact).Key).Dims_1,((l0.getD i40.toNat z_Api_Fact).Key).Dims_2,((l0.getD i40.toNat z_Api_Fact).Key).Dims_3⟩ : Api_Key),(l0.getD i40.toNat z_Api_Fact).Value⟩ : Api_Fact)].length (fl enc_Api_Fact [(⟨(⟨((l0.getD i40.toNat z_Api_Fact).Key).Hour,((l0.getD i40.toNat z_Api_Fact).Key).Dims_0,((l0.getD i40.toNat z_Api_Fact).Key).Dims_1,((l0.getD i40.toNat z_Api_Fact).Key).Dims_2,((l0.getD i40.toNat z_Api_Fact).Key).Dims_3⟩ : Api_Key),(l0.getD i40.toNat z_Api_Fact).Value⟩ : Api_Fact)]),own v_ 52 6 ((([] : List Api_Fact) ++ (l11.take x253.toNat)) ++ [(⟨(⟨((l0.getD i40.toNat z_Api_Fact).Key).Hour,((l0.getD i40.toNat z_Api_Fact).Key).Dims_0,((l0.getD i40.toNat z_Api_Fact).Key).Dims_1,((l0.getD i40.toNat z_Api_Fact).Key).Dims_2,((l0.getD i40.toNat z_Api_Fact).Key).Dims_3⟩ : Api_Key),(l0.getD i40.toNat z_Api_Fact).Value⟩ : Api_Fact)]).length (fl enc_Api_Fact ((([] : List Api_Fact) ++ (l11.take x253.toNat)) ++ [(⟨(⟨((l0.getD i40.toNat z_Api_Fact).Key).Hour,((l0.getD i40.toNat z_Api_Fact).Key).Dims_0,((l0.getD i40.toNat z_Api_Fact).Key).Dims_1,((l0.getD i40.toNat z_Api_Fact).Key).Dims_2,((l0.getD i40.toNat z_Api_Fact).Key).Dims_3⟩ : Api_Key),(l0.getD i40.toNat z_Api_Fact).Value⟩ : Api_Fact)])),A0,own sv55 52 6 l11.length (fl enc_Api_Fact l11)] = _ by simp [C1_,C0_,Z552_T,Z552_L,up,upb,sel,d0,d4,d9,n14,hi]),(tr_same rfl rfl (tr_same rfl rfl (tr_same rfl rfl (tr_same rfl rfl (tr_same rfl rfl (tr_same rfl rfl (tr_same rfl rfl (tr_same rfl rfl (tr_same rfl rfl (tr_same rfl rfl (tr_this (tr_same rfl rfl (tr_same rfl rfl (tr_same rfl rfl (tr_same rfl rfl tr_nil)))))))))))))))⟩
      ·intro done hi hc hcu
       have n15 : done 15 = false := notdone_of (m := 15) hc hi rfl rfl
       refine two_step (m := 15) (A := Z552_A) n15 rfl ?_
       refine draw_exi (I := Z552_I) fun ga24 => ?_
       exact draw_value (i := 11) (t := 41) (v := sv55) rfl rfl (wanted_none rfl) (fun a => hasA_base) (ov_move rfl) rfl rfl (onlyT_spec (k0 := 11) rfl rfl rfl)
      ·intro done hi hc hcu
       have n15 : done 15 = false := notdone_of (m := 15) hc hi rfl rfl
       refine two_step (m := 15) (A := Z552_A) n15 rfl ?_
       refine draw_exi (I := Z552_I) fun ga24 => ?_
       exact draw_value (i := 12) (t := 42) (v := (I x253)) rfl rfl (wanted_none rfl) (fun a => hasA_base) (ov_move rfl) rfl rfl (onlyT_spec (k0 := 12) rfl rfl rfl)
      ·intro done hi hc hcu
       have n15 : done 15 = false := notdone_of (m := 15) hc hi rfl rfl
       refine two_step (m := 15) (A := Z552_A) n15 rfl ?_
       refine draw_exi (I := Z552_I) fun ga24 => ?_
       have d11 : done 11 = true := done_of (j := 11) hcu rfl (by decide) rfl
       have d12 : done 12 = true := done_of (j := 12) hcu rfl (by decide) rfl
       exact draw_value (i := 13) (t := 43) (v := (subs sv55 x253.toNat l11.length 6)) rfl rfl (wanted_none rfl) (fun a => (hasA_cons (k := 12) rfl d12 (hasA_cons (k := 11) rfl d11 hasA_base))) (ov_slice_lo 3 rfl rfl F_slice_22 F_size_52 rfl (isRd_ownx 52) c1227 c1228) rfl rfl (onlyT_spec (k0 := 13) rfl rfl rfl)
      ·intro done hi hc hcu
       have n15 : done 15 = false := notdone_of (m := 15) hc hi rfl rfl
       refine two_step (m := 15) (A := Z552_A) n15 rfl ?_
       refine ent_exi (S := fun ga24 => Z552_I ga24 done) fun ga24 => ?_
       have d10 : done 10 = true := done_of (j := 10) hcu rfl (by decide) rfl
       have d13 : done 13 = true := done_of (j := 13) hcu rfl (by decide) rfl
       have d4 : done 4 = true := done_step (i := 10) (j := 4) hc d10 rfl rfl
       have d0 : done 0 = true := done_step (i := 4) (j := 0) hc d4 rfl rfl
       exact draw_turnI (i := 14) (t := 44) (x := ga24) (L := Z552_L) (T := Z552_T) (L2 := [sel (done 9) (own (ga24 9) 52 6 [(⟨(⟨((l0.getD i40.toNat z_Api_Fact).Key).Hour,((l0.getD i40.toNat z_Api_Fact).Key).Dims_0,((l0.getD i40.toNat z_Api_Fact).Key).Dims_1,((l0.getD i40.toNat z_Api_Fact).Key).Dims_2,((l0.getD i40.toNat z_Api_Fact).Key).Dims_3⟩ : Api_Key),(l0.getD i40.toNat z_Api_Fact).Value⟩ : Api_Fact)].length (fl enc_Api_Fact [(⟨(⟨((l0.getD i40.toNat z_Api_Fact).Key).Hour,((l0.getD i40.toNat z_Api_Fact).Key).Dims_0,((l0.getD i40.toNat z_Api_Fact).Key).Dims_1,((l0.getD i40.toNat z_Api_Fact).Key).Dims_2,((l0.getD i40.toNat z_Api_Fact).Key).Dims_3⟩ : Api_Key),(l0.getD i40.toNat z_Api_Fact).Value⟩ : Api_Fact)])) emp,own (ga24 10) 52 6 ((([] : List Api_Fact) ++ (l11.take x253.toNat)) ++ [(⟨(⟨((l0.getD i40.toNat z_Api_Fact).Key).Hour,((l0.getD i40.toNat z_Api_Fact).Key).Dims_0,((l0.getD i40.toNat z_Api_Fact).Key).Dims_1,((l0.getD i40.toNat z_Api_Fact).Key).Dims_2,((l0.getD i40.toNat z_Api_Fact).Key).Dims_3⟩ : Api_Key),(l0.getD i40.toNat z_Api_Fact).Value⟩ : Api_Fact)]).length (fl enc_Api_Fact ((([] : List Api_Fact) ++ (l11.take x253.toNat)) ++ [(⟨(⟨((l0.getD i40.toNat z_Api_Fact).Key).Hour,((l0.getD i40.toNat z_Api_Fact).Key).Dims_0,((l0.getD i40.toNat z_Api_Fact).Key).Dims_1,((l0.getD i40.toNat z_Api_Fact).Key).Dims_2,((l0.getD i40.toNat z_Api_Fact).Key).Dims_3⟩ : Api_Key),(l0.getD i40.toNat z_Api_Fact).Value⟩ : Api_Fact)])),A0,own sv55 52 6 l11.length (fl enc_Api_Fact l11)]) rfl rfl (wanted_none rfl) (fun a => (hasA_cons (k := 13) rfl d13 (hasA_cons (k := 10) rfl d10 hasA_base))) (by simp only [C1_,C0_,Z552_T,Z552_L,d0,d4,d10,hi,sel]) (ot_appendx (sz := 5) (xs := ((([] : List Api_Fact) ++ (l11.take x253.toNat)) ++ [(⟨(⟨((l0.getD i40.toNat z_Api_Fact).Key).Hour,((l0.getD i40.toNat z_Api_Fact).Key).Dims_0,((l0.getD i40.toNat z_Api_Fact).Key).Dims_1,((l0.getD i40.toNat z_Api_Fact).Key).Dims_2,((l0.getD i40.toNat z_Api_Fact).Key).Dims_3⟩ : Api_Key),(l0.getD i40.toNat z_Api_Fact).Value⟩ : Api_Fact)])) (ys := (l11.drop x253.toNat)) 1 3 rfl rfl F_slice_22 F_size_52 F_zero_52 rfl F_bytes_52 rfl rfl rfl (isRd_drop enc_Api_Fact_len (isRd_ownx 52) (nat_le c1227 c1228)) rfl enc_Api_Fact_one c1232) rfl rfl fun v_ M_ hM_ => ⟨upb ga24 14 v_,hM_.trans (show [sel (done 9) (own (ga24 9) 52 6 [(⟨(⟨((l0.getD i40.toNat z_Api_Fact).Key).Hour,((l0.getD i40.toNat z_Api_Fact).Key).Dims_0,((l0.getD i40.toNat z_Api_Fact).Key).Dims_1,((l0.getD i40.toNat z_Api_Fact).Key).Dims_2,((l0.getD i40.toNat z_Api_Fact).Key).Dims_3⟩ : Api_Key),(l0.getD i40.toNat z_Api_Fact).Value⟩ : Api_Fact)].length (fl enc_Api_Fact [(⟨(⟨((l0.getD i40.toNat z_Api_Fact).Key).Hour,((l0.getD i40.toNat z_Api_Fact).Key).Dims_0,((l0.getD i40.toNat z_Api_Fact).Key).Dims_1,((l0.getD i40.toNat z_Api_Fact).Key).Dims_2,((l0.getD i40.toNat z_Api_Fact).Key).Dims_3⟩ : Api_Key),(l0.getD i40.toNat z_Api_Fact).Value⟩ : Api_Fact)])) emp,own v_ 52 6 (((([] : List Api_Fact) ++ (l11.take x253.toNat)) ++ [(⟨(⟨((l0.getD i40.toNat z_Api_Fact).Key).Hour,((l0.getD i40.toNat z_Api_Fact).Key).Dims_0,((l0.getD i40.toNat z_Api_Fact).Key).Dims_1,((l0.getD i40.toNat z_Api_Fact).Key).Dims_2,((l0.getD i40.toNat z_Api_Fact).Key).Dims_3⟩ : Api_Key),(l0.getD i40.toNat z_Api_Fact).Value⟩ : Api_Fact)]) ++ (l11.drop x253.toNat)).length (fl enc_Api_Fact (((([] : List Api_Fact) ++ (l11.take x253.toNat)) ++ [(⟨(⟨((l0.getD i40.toNat z_Api_Fact).Key).Hour,((l0.getD i40.toNat z_Api_Fact).Key).Dims_0,((l0.getD i40.toNat z_Api_Fact).Key).Dims_1,((l0.getD i40.toNat z_Api_Fact).Key).Dims_2,((l0.getD i40.toNat z_Api_Fact).Key).Dims_3⟩ : Api_Key),(l0.getD i40.toNat z_Api_Fact).Value⟩ : Api_Fact)]) ++ (l11.drop x253.toNat))),A0,own sv55 52 6 l11.length (fl enc_Api_Fact l11)] = _ by simp [C1_,C0_,Z552_T,Z552_L,up,upb,sel,d0,d4,d10,hi]),(tr_same rfl rfl (tr_same rfl rfl (tr_same rfl rfl (tr_same rfl rfl (tr_same rfl rfl (tr_same rfl rfl (tr_same rfl rfl (tr_same rfl rfl (tr_same rfl rfl (tr_same rfl rfl (tr_same rfl rfl (tr_same rfl rfl (tr_same rfl rfl (tr_same rfl rfl (tr_this tr_nil)))))))))))))))⟩
      ·intro done hi hc hcu
       refine two_last (m := 15) (A := Z552_A) (B := Z552_B) hi ?_
       refine last_exi (A := fun ga24 => Z552_I ga24 done) (B := fun ga24 => St 46 w0 F ((3,(ga24 14)) :: [(0,sv0),(4,I i40),(5,I x253),(30,(ga24 0)),(31,sv55),(32,I x253),(33,(subs sv55 0 x253.toNat 6)),(34,(ga24 4)),(35,sv0),(36,I i40),(37,(eptr sv0 (i40.toNat * 6))),(38,C0_),(39,(ga24 9)),(40,(ga24 10)),(41,sv55),(42,I x253),(43,(subs sv55 x253.toNat l11.length 6)),(44,(ga24 14))]) [own (ga24 9) 52 6 [(⟨(⟨((l0.getD i40.toNat z_Api_Fact).Key).Hour,((l0.getD i40.toNat z_Api_Fact).Key).Dims_0,((l0.getD i40.toNat z_Api_Fact).Key).Dims_1,((l0.getD i40.toNat z_Api_Fact).Key).Dims_2,((l0.getD i40.toNat z_Api_Fact).Key).Dims_3⟩ : Api_Key),(l0.getD i40.toNat z_Api_Fact).Value⟩ : Api_Fact)].length (fl enc_Api_Fact [(⟨(⟨((l0.getD i40.toNat z_Api_Fact).Key).Hour,((l0.getD i40.toNat z_Api_Fact).Key).Dims_0,((l0.getD i40.toNat z_Api_Fact).Key).Dims_1,((l0.getD i40.toNat z_Api_Fact).Key).Dims_2,((l0.getD i40.toNat z_Api_Fact).Key).Dims_3⟩ : Api_Key),(l0.getD i40.toNat z_Api_Fact).Value⟩ : Api_Fact)]),own (ga24 14) 52 6 (((([] : List Api_Fact) ++ (l11.take x253.toNat)) ++ [(⟨(⟨((l0.getD i40.toNat z_Api_Fact).Key).Hour,((l0.getD i40.toNat z_Api_Fact).Key).Dims_0,((l0.getD i40.toNat z_Api_Fact).Key).Dims_1,((l0.getD i40.toNat z_Api_Fact).Key).Dims_2,((l0.getD i40.toNat z_Api_Fact).Key).Dims_3⟩ : Api_Key),(l0.getD i40.toNat z_Api_Fact).Value⟩ : Api_Fact)]) ++ (l11.drop x253.toNat)).length (fl enc_Api_Fact (((([] : List Api_Fact) ++ (l11.take x253.toNat)) ++ [(⟨(⟨((l0.getD i40.toNat z_Api_Fact).Key).Hour,((l0.getD i40.toNat z_Api_Fact).Key).Dims_0,((l0.getD i40.toNat z_Api_Fact).Key).Dims_1,((l0.getD i40.toNat z_Api_Fact).Key).Dims_2,((l0.getD i40.toNat z_Api_Fact).Key).Dims_3⟩ : Api_Key),(l0.getD i40.toNat z_Api_Fact).Value⟩ : Api_Fact)]) ++ (l11.drop x253.toNat))),A0,own sv55 52 6 l11.length (fl enc_Api_Fact l11)]) fun ga24 => ?_
       have d0 : done 0 = true := done_of (j := 0) hcu rfl (by decide) rfl
       have d1 : done 1 = true := done_of (j := 1) hcu rfl (by decide) rfl
       have d2 : done 2 = true := done_of (j := 2) hcu rfl (by decide) rfl
       have d3 : done 3 = true := done_of (j := 3) hcu rfl (by decide) rfl
       have d4 : done 4 = true := done_of (j := 4) hcu rfl (by decide) rfl
       have d5 : done 5 = true := done_of (j := 5) hcu rfl (by decide) rfl
       have d6 : done 6 = true := done_of (j := 6) hcu rfl (by decide) rfl
       have d7 : done 7 = true := done_of (j := 7) hcu rfl (by decide) rfl
       have d8 : done 8 = true := done_of (j := 8) hcu rfl (by decide) rfl
       have d9 : done 9 = true := done_of (j := 9) hcu rfl (by decide) rfl
       have d10 : done 10 = true := done_of (j := 10) hcu rfl (by decide) rfl
       have d11 : done 11 = true := done_of (j := 11) hcu rfl (by decide) rfl
       have d12 : done 12 = true := done_of (j := 12) hcu rfl (by decide) rfl
       have d13 : done 13 = true := done_of (j := 13) hcu rfl (by decide) rfl
       have d14 : done 14 = true := done_of (j := 14) hcu rfl (by decide) rfl
       exact last_value (i := 15) (t := 3) (v := (ga24 14)) (L2 := [own (ga24 9) 52 6 [(⟨(⟨((l0.getD i40.toNat z_Api_Fact).Key).Hour,((l0.getD i40.toNat z_Api_Fact).Key).Dims_0,((l0.getD i40.toNat z_Api_Fact).Key).Dims_1,((l0.getD i40.toNat z_Api_Fact).Key).Dims_2,((l0.getD i40.toNat z_Api_Fact).Key).Dims_3⟩ : Api_Key),(l0.getD i40.toNat z_Api_Fact).Value⟩ : Api_Fact)].length (fl enc_Api_Fact [(⟨(⟨((l0.getD i40.toNat z_Api_Fact).Key).Hour,((l0.getD i40.toNat z_Api_Fact).Key).Dims_0,((l0.getD i40.toNat z_Api_Fact).Key).Dims_1,((l0.getD i40.toNat z_Api_Fact).Key).Dims_2,((l0.getD i40.toNat z_Api_Fact).Key).Dims_3⟩ : Api_Key),(l0.getD i40.toNat z_Api_Fact).Value⟩ : Api_Fact)]),own (ga24 14) 52 6 (((([] : List Api_Fact) ++ (l11.take x253.toNat)) ++ [(⟨(⟨((l0.getD i40.toNat z_Api_Fact).Key).Hour,((l0.getD i40.toNat z_Api_Fact).Key).Dims_0,((l0.getD i40.toNat z_Api_Fact).Key).Dims_1,((l0.getD i40.toNat z_Api_Fact).Key).Dims_2,((l0.getD i40.toNat z_Api_Fact).Key).Dims_3⟩ : Api_Key),(l0.getD i40.toNat z_Api_Fact).Value⟩ : Api_Fact)]) ++ (l11.drop x253.toNat)).length (fl enc_Api_Fact (((([] : List Api_Fact) ++ (l11.take x253.toNat)) ++ [(⟨(⟨((l0.getD i40.toNat z_Api_Fact).Key).Hour,((l0.getD i40.toNat z_Api_Fact).Key).Dims_0,((l0.getD i40.toNat z_Api_Fact).Key).Dims_1,((l0.getD i40.toNat z_Api_Fact).Key).Dims_2,((l0.getD i40.toNat z_Api_Fact).Key).Dims_3⟩ : Api_Key),(l0.getD i40.toNat z_Api_Fact).Value⟩ : Api_Fact)]) ++ (l11.drop x253.toNat))),A0,own sv55 52 6 l11.length (fl enc_Api_Fact l11)]) rfl rfl (wanted_none rfl) (by simp only [C1_,C0_,Z552_T,Z552_L,d0,d4,d9,d10,d14,sel]) (fun a => (hasA_cons (k := 14) rfl d14 hasA_base)) (fun a h_ => (Has.sub (ρ := [(30,(ga24 0)),(31,sv55),(32,I x253),(33,(subs sv55 0 x253.toNat 6)),(34,(ga24 4)),(35,sv0),(36,I i40),(37,(eptr sv0 (i40.toNat * 6))),(38,C0_),(39,(ga24 9)),(40,(ga24 10)),(41,sv55),(42,I x253),(43,(subs sv55 x253.toNat l11.length 6)),(44,(ga24 14))] ++ [(0,sv0),(3,sv55),(4,I i40),(5,I x253)]) (((hasA_cons (k := 0) rfl d0 (hasA_cons (k := 1) rfl d1 (hasA_cons (k := 2) rfl d2 (hasA_cons (k := 3) rfl d3 (hasA_cons (k := 4) rfl d4 (hasA_cons (k := 5) rfl d5 (hasA_cons (k := 6) rfl d6 (hasA_cons (k := 7) rfl d7 (hasA_cons (k := 8) rfl d8 (hasA_cons (k := 9) rfl d9 (hasA_cons (k := 10) rfl d10 (hasA_cons (k := 11) rfl d11 (hasA_cons (k := 12) rfl d12 (hasA_cons (k := 13) rfl d13 (hasA_cons (k := 14) rfl d14 hasA_base))))))))))))))) : HasA a _ _ _ → Has a ([(30,(ga24 0)),(31,sv55),(32,I x253),(33,(subs sv55 0 x253.toNat 6)),(34,(ga24 4)),(35,sv0),(36,I i40),(37,(eptr sv0 (i40.toNat * 6))),(38,C0_),(39,(ga24 9)),(40,(ga24 10)),(41,sv55),(42,I x253),(43,(subs sv55 x253.toNat l11.length 6)),(44,(ga24 14))] ++ [(0,sv0),(3,sv55),(4,I i40),(5,I x253)])) h_) (sub_cons (t := 0) rfl (sub_cons (t := 4) rfl (sub_cons (t := 5) rfl (sub_cons (t := 30) rfl (sub_cons (t := 31) rfl (sub_cons (t := 32) rfl (sub_cons (t := 33) rfl (sub_cons (t := 34) rfl (sub_cons (t := 35) rfl (sub_cons (t := 36) rfl (sub_cons (t := 37) rfl (sub_cons (t := 38) rfl (sub_cons (t := 39) rfl (sub_cons (t := 40) rfl (sub_cons (t := 41) rfl (sub_cons (t := 42) rfl (sub_cons (t := 43) rfl (sub_cons (t := 44) rfl (sub_nil _))))))))))))))))))))) (ov_assign rfl) rfl
     ·intro done hall
      refine two_end (A := Z552_A) (B := Z552_B) (hall 15 (by decide)) ?_
      refine ent_exi fun ga24 => ?_
      cases H85
      exact ent_fin [2,1] (by decide) rfl (sub_cons (t := 0) rfl (sub_cons (t := 3) rfl (sub_cons (t := 4) rfl (sub_nil _)))) fun a w h => ⟨_,h⟩
   ·refine ent_exi fun sv63 => ?_
    refine ent_region (ent_value (ov_move rfl) rfl rfl rfl (ent_value (ov_bin rfl rfl (b_add _ _ _) ) rfl rfl rfl (ent_value (ov_assign rfl) rfl rfl rfl (ent_nil ?_))))
    exact ent_fin [0,1] (by decide) rfl (sub_cons (t := 0) rfl (sub_cons (t := 3) rfl (sub_cons (t := 4) rfl (sub_nil _)))) fun a w h => ⟨k,Nat.lt_succ_self k,_,_,_,H81,h⟩

theorem ossuaryref09_Same_RR.spec (K : Nat) (sv0 : Value) (A0 : HP) (sv1 : Value) (A1 : HP) (l0 : List Api_Fact) (l1 : List Api_Fact) (hA0 : IsRd A0 sv0 l0.length 6 (fl enc_Api_Fact l0)) (hA1 : IsRd A1 sv1 l1.length 6 (fl enc_Api_Fact l1)) (r : Bool) (H : ossuaryref09_Same_RR K l0 l1 = some r) : FnSpec Try.prog 12 [sv0,sv1] [A0,A1] (fun v M => v = (bool r) ∧ M = [A0,A1]) := by
 unfold ossuaryref09_Same_RR at H
 refine spec_of Try.func12 rfl 26 rfl (Nat.le_of_ble_eq_true rfl) fun F w0 => ?_
 show Ent (St 26 w0 F [(0,sv0),(1,sv1)] [A0,A1]) _
 refine ent_seq (ent_region (ent_value (ov_assign rfl) rfl rfl rfl (ent_nil (ent_seq (ent_seq (ent_region (ent_value (ov_move rfl) rfl rfl rfl (ent_value (ov_len 0 rfl F_slice_22 rfl hA0) rfl rfl rfl (ent_value (ov_move rfl) rfl rfl rfl (ent_value (ov_len 1 rfl F_slice_22 rfl hA1) rfl rfl rfl (ent_value (ov_bin rfl rfl (b_neq _ _ _)) rfl rfl rfl ?_)))))))))))
 refine ent_nil ?_
 refine htT H (fun c48 H => ?_) fun c48 H => ?_
 ·refine ent_cond_true rfl (ne_t c48) (ent_seq (ent_region (ent_value (ov_assign rfl) rfl rfl rfl (ent_nil (ent_retc ?_)))))
  cases H
  refine ent_pick [0,1] (by decide) rfl ?_
  exact ret_tmp rfl rfl ⟨rfl,rfl⟩
 refine ent_cond_false rfl (ne_f c48) (ent_skip (ent_seq (ent_seq (ent_region (ent_value (ov_assign rfl) rfl rfl rfl (ent_nil (ent_block ?_)))))))
 refine ent_loop (fun k a w => ∃ i4,ossuaryref09_Same_RR_l0 K l0 l1 k i4 = some r ∧ St 26 w0 F [(0,sv0),(1,sv1),(5,I i4)] [A0,A1] a w) K ?_ ?_
 ·exact ent_fin [0,1] (by decide) rfl (sub_cons (t := 0) rfl (sub_cons (t := 1) rfl (sub_cons (t := 5) rfl (sub_nil _)))) fun a w h => ⟨_,H,h⟩
 ·refine fun k => ent_exi fun i4 => ent_and fun H4 => ?_
  let C1_ : Value := agg #[I (((l1.getD i4.toNat z_Api_Fact).Key).Hour),str (((l1.getD i4.toNat z_Api_Fact).Key).Dims_0),str (((l1.getD i4.toNat z_Api_Fact).Key).Dims_1),str (((l1.getD i4.toNat z_Api_Fact).Key).Dims_2),str (((l1.getD i4.toNat z_Api_Fact).Key).Dims_3),I ((l1.getD i4.toNat z_Api_Fact).Value)]
  let C0_ : Value := agg #[I (((l0.getD i4.toNat z_Api_Fact).Key).Hour),str (((l0.getD i4.toNat z_Api_Fact).Key).Dims_0),str (((l0.getD i4.toNat z_Api_Fact).Key).Dims_1),str (((l0.getD i4.toNat z_Api_Fact).Key).Dims_2),str (((l0.getD i4.toNat z_Api_Fact).Key).Dims_3),I ((l0.getD i4.toNat z_Api_Fact).Value)]
  cases k with
  | zero => exact absurd H4 (by simp [C1_,C0_,ossuaryref09_Same_RR_l0])
  | succ k =>
   rw [ossuaryref09_Same_RR_l0] at H4
   refine ent_seq (ent_seq (ent_region (ent_value (ov_move rfl) rfl rfl rfl (ent_value (ov_move rfl) rfl rfl rfl (ent_value (ov_len 0 rfl F_slice_22 rfl hA0) rfl rfl rfl (ent_value (ov_bin rfl rfl (b_lss _ _ _)) rfl rfl rfl (ent_nil ?_)))))))
   refine htF H4 (fun c86 H4 => ?_) fun c86 H4 => ?_
   ·refine ent_cond_false rfl (decide_eq_false c86) (ent_exit (ent_seq (ent_region (ent_value (ov_assign rfl) rfl rfl rfl (ent_nil (ent_retc ?_))))))
    cases H4
    refine ent_pick [0,1] (by decide) rfl ?_
    exact ret_tmp rfl rfl ⟨rfl,rfl⟩
   refine ent_cond_true rfl (decide_eq_true c86) (ent_skip (ent_seq (ent_block (ent_seq ?_))))
   obtain ⟨c90,H4⟩ := gdT H4
   obtain ⟨c91,H4⟩ := gdT H4
   refine ent_drawm 9 rfl (fun done a w => StD 26 w0 F [(0,sv0),(1,sv1),(5,I i4),(11,I i4),(12,sv0),(13,I (l0.length : Int)),(14,bool (decide (i4 < (l0.length : Int))))] [(0,17,sv0),(1,18,I i4),(2,19,(eptr sv0 (i4.toNat * 6))),(3,20,C0_),(4,21,sv1),(5,22,I i4),(6,23,(eptr sv1 (i4.toNat * 6))),(7,24,C1_),(8,25,bool (!((((((l0.getD i4.toNat z_Api_Fact).Key).Hour) == (((l1.getD i4.toNat z_Api_Fact).Key).Hour)) && ((((((l0.getD i4.toNat z_Api_Fact).Key).Dims_0) == (((l1.getD i4.toNat z_Api_Fact).Key).Dims_0)) && (((((l0.getD i4.toNat z_Api_Fact).Key).Dims_1) == (((l1.getD i4.toNat z_Api_Fact).Key).Dims_1)) && (((((l0.getD i4.toNat z_Api_Fact).Key).Dims_2) == (((l1.getD i4.toNat z_Api_Fact).Key).Dims_2)) && (((((l0.getD i4.toNat z_Api_Fact).Key).Dims_3) == (((l1.getD i4.toNat z_Api_Fact).Key).Dims_3)) && true)))) && true)) && ((((l0.getD i4.toNat z_Api_Fact).Value) == ((l1.getD i4.toNat z_Api_Fact).Value)) && true))))] done [A0,A1] a w) (by kernel_rfl) (by kernel_rfl) (draw_startL (sub_cons (t := 0) rfl (sub_cons (t := 1) rfl (sub_cons (t := 5) rfl (sub_cons (t := 11) rfl (sub_cons (t := 12) rfl (sub_cons (t := 13) rfl (sub_cons (t := 14) rfl (sub_nil _)))))))) rfl) ?_ ?_
   ·refine ⟨?_,?_,?_,?_,?_,?_,?_,?_,?_,trivial⟩
    ·exact fun done hi hc hcu => draw_value (i := 0) (t := 17) (v := sv0) rfl rfl (wanted_none rfl) (fun a => hasA_base) (ov_move rfl) rfl rfl (onlyT_spec (k0 := 0) rfl rfl rfl)
    ·exact fun done hi hc hcu => draw_value (i := 1) (t := 18) (v := (I i4)) rfl rfl (wanted_none rfl) (fun a => hasA_base) (ov_move rfl) rfl rfl (onlyT_spec (k0 := 1) rfl rfl rfl)
    ·exact fun done hi hc hcu => draw_value (i := 2) (t := 19) (v := (eptr sv0 (i4.toNat * 6))) rfl rfl (wanted_none rfl) (fun a => (hasA_cons (k := 1) rfl (done_of (j := 1) hcu rfl (by decide) rfl) (hasA_cons (k := 0) rfl (done_of (j := 0) hcu rfl (by decide) rfl) hasA_base))) (ov_indexAddr (sz := 5) 0 rfl rfl F_slice_22 F_size_52 rfl hA0 c90 c86) rfl rfl (onlyT_spec (k0 := 2) rfl rfl rfl)
    ·exact fun done hi hc hcu => draw_value (i := 3) (t := 20) (v := (C0_)) rfl rfl (wanted_none rfl) (fun a => (hasA_cons (k := 2) rfl (done_of (j := 2) hcu rfl (by decide) rfl) hasA_base)) (ov_load_agg (vs := [I (((l0.getD i4.toNat z_Api_Fact).Key).Hour),str (((l0.getD i4.toNat z_Api_Fact).Key).Dims_0),str (((l0.getD i4.toNat z_Api_Fact).Key).Dims_1),str (((l0.getD i4.toNat z_Api_Fact).Key).Dims_2),str (((l0.getD i4.toNat z_Api_Fact).Key).Dims_3),I ((l0.getD i4.toNat z_Api_Fact).Value)]) rfl F_agg_52 F_size_52 (reads_rd (i := 0) rfl hA0 (by simp [C1_,C0_]) (fl_read0 enc_Api_Fact_len (ix_lt c90 c86) rfl))) rfl rfl (onlyT_spec (k0 := 3) rfl rfl rfl)
    ·exact fun done hi hc hcu => draw_value (i := 4) (t := 21) (v := sv1) rfl rfl (wanted_none rfl) (fun a => hasA_base) (ov_move rfl) rfl rfl (onlyT_spec (k0 := 4) rfl rfl rfl)
    ·exact fun done hi hc hcu => draw_value (i := 5) (t := 22) (v := (I i4)) rfl rfl (wanted_none rfl) (fun a => hasA_base) (ov_move rfl) rfl rfl (onlyT_spec (k0 := 5) rfl rfl rfl)
    ·exact fun done hi hc hcu => draw_value (i := 6) (t := 23) (v := (eptr sv1 (i4.toNat * 6))) rfl rfl (wanted_none rfl) (fun a => (hasA_cons (k := 5) rfl (done_of (j := 5) hcu rfl (by decide) rfl) (hasA_cons (k := 4) rfl (done_of (j := 4) hcu rfl (by decide) rfl) hasA_base))) (ov_indexAddr (sz := 5) 1 rfl rfl F_slice_22 F_size_52 rfl hA1 c90 c91) rfl rfl (onlyT_spec (k0 := 6) rfl rfl rfl)
    ·exact fun done hi hc hcu => draw_value (i := 7) (t := 24) (v := (C1_)) rfl rfl (wanted_none rfl) (fun a => (hasA_cons (k := 6) rfl (done_of (j := 6) hcu rfl (by decide) rfl) hasA_base)) (ov_load_agg (vs := [I (((l1.getD i4.toNat z_Api_Fact).Key).Hour),str (((l1.getD i4.toNat z_Api_Fact).Key).Dims_0),str (((l1.getD i4.toNat z_Api_Fact).Key).Dims_1),str (((l1.getD i4.toNat z_Api_Fact).Key).Dims_2),str (((l1.getD i4.toNat z_Api_Fact).Key).Dims_3),I ((l1.getD i4.toNat z_Api_Fact).Value)]) rfl F_agg_52 F_size_52 (reads_rd (i := 1) rfl hA1 (by simp [C1_,C0_]) (fl_read0 enc_Api_Fact_len (ix_lt c90 c91) rfl))) rfl rfl (onlyT_spec (k0 := 7) rfl rfl rfl)
    ·exact fun done hi hc hcu => draw_value (i := 8) (t := 25) (v := (bool (!((((((l0.getD i4.toNat z_Api_Fact).Key).Hour) == (((l1.getD i4.toNat z_Api_Fact).Key).Hour)) && ((((((l0.getD i4.toNat z_Api_Fact).Key).Dims_0) == (((l1.getD i4.toNat z_Api_Fact).Key).Dims_0)) && (((((l0.getD i4.toNat z_Api_Fact).Key).Dims_1) == (((l1.getD i4.toNat z_Api_Fact).Key).Dims_1)) && (((((l0.getD i4.toNat z_Api_Fact).Key).Dims_2) == (((l1.getD i4.toNat z_Api_Fact).Key).Dims_2)) && (((((l0.getD i4.toNat z_Api_Fact).Key).Dims_3) == (((l1.getD i4.toNat z_Api_Fact).Key).Dims_3)) && true)))) && true)) && ((((l0.getD i4.toNat z_Api_Fact).Value) == ((l1.getD i4.toNat z_Api_Fact).Value)) && true))))) rfl rfl (wanted_none rfl) (fun a => (hasA_cons (k := 7) rfl (done_of (j := 7) hcu rfl (by decide) rfl) (hasA_cons (k := 3) rfl (done_of (j := 3) hcu rfl (by decide) rfl) hasA_base))) (ov_bin rfl rfl (same_52_n _ _ _ _ _ _ _ _ _ _ _ _)) rfl rfl (onlyT_spec (k0 := 8) rfl rfl rfl)
   ·intro done hall
    refine draw_endL [A0,A1] rfl (fun a => (hasA_cons (k := 0) rfl (hall 0 (by decide)) (hasA_cons (k := 1) rfl (hall 1 (by decide)) (hasA_cons (k := 2) rfl (hall 2 (by decide)) (hasA_cons (k := 3) rfl (hall 3 (by decide)) (hasA_cons (k := 4) rfl (hall 4 (by decide)) (hasA_cons (k := 5) rfl (hall 5 (by decide)) (hasA_cons (k := 6) rfl (hall 6 (by decide)) (hasA_cons (k := 7) rfl (hall 7 (by decide)) (hasA_cons (k := 8) rfl (hall 8 (by decide)) hasA_base)))))))))) ?_
    refine htT H4 (fun c92 H4 => ?_) fun c92 H4 => ?_
    ·refine ent_cond_true rfl c92 (ent_seq (ent_region (ent_value (ov_assign rfl) rfl rfl rfl (ent_nil (ent_retc ?_)))))
     cases H4
     refine ent_pick [0,1] (by decide) rfl ?_
     exact ret_tmp rfl rfl ⟨rfl,rfl⟩
    refine ent_cond_false rfl (Bool.eq_false_iff.2 c92) (ent_skip (ent_region (ent_value (ov_move rfl) rfl rfl rfl (ent_value (ov_bin rfl rfl (b_add _ _ _) ) rfl rfl rfl (ent_value (ov_assign rfl) rfl rfl rfl (ent_nil ?_))))))
    exact ent_fin [0,1] (by decide) rfl (sub_cons (t := 0) rfl (sub_cons (t := 1) rfl (sub_cons (t := 5) rfl (sub_nil _)))) fun a w h => ⟨k,Nat.lt_succ_self k,_,H4,h⟩

theorem ossuarylaw09_FactLooks.spec (K : Nat) (A0 : HP) (sv0 : Value) (l0 : List Api_Fact) (hA0 : IsRd A0 sv0 l0.length 6 (fl enc_Api_Fact l0)) (r : Bool) (H : ossuarylaw09_FactLooks K l0 = some r) : FnSpec Try.prog 3 [sv0] [A0] (fun v M => v = (bool r) ∧ M = [A0]) := by
 unfold ossuarylaw09_FactLooks at H
 refine spec_of Try.func3 rfl 46 rfl (Nat.le_of_ble_eq_true rfl) fun F w0 => ?_
 show Ent (St 46 w0 F [(0,sv0)] [A0]) _
 refine ent_seq (ent_region (ent_value (ov_assign rfl) rfl rfl rfl (ent_nil (ent_seq (ent_seq (ent_region (ent_value (ov_move rfl) rfl rfl rfl ?_)))))))
 obtain ⟨x16,h16,H⟩ := Option.bind_eq_some_iff.1 H
 refine ent_op (ot_call_same (Lr := []) [0] [0] (first := []) (cap := []) (xs := [.tmp 7]) rfl rfl F_call_5 rfl (ossuarylaw09_Light_R.spec K sv0 A0 l0 hA0 _ h16) (by decide) rfl (by decide) rfl) rfl rfl rfl ?_
 rintro _ _ ⟨rfl,rfl⟩
 refine ent_value (ov_un rfl (u_not _)) rfl rfl rfl (ent_nil ?_)
 refine htT H (fun c8 H => ?_) fun c8 H => ?_
 ·refine ent_cond_true rfl c8 (ent_seq (ent_region ?_))
  obtain ⟨x17,h17,H⟩ := Option.bind_eq_some_iff.1 H
  refine ent_op (ot_call0 (first := []) (cap := []) (xs := []) rfl rfl F_call_6 rfl (ossuarylaw09_alive.spec K _ h17)) rfl rfl rfl ?_
  rintro _ _ ⟨rfl,rfl⟩
  refine ent_value (ov_assign rfl) rfl rfl rfl (ent_nil (ent_retc ?_))
  cases H
  refine ent_pick [0] (by decide) rfl ?_
  exact ret_tmp rfl rfl ⟨rfl,rfl⟩
 refine ent_cond_false rfl (Bool.eq_false_iff.2 c8) (ent_skip (ent_seq (ent_region (ent_value (ov_move rfl) rfl rfl rfl ?_))))
 obtain ⟨x18,h18,H⟩ := Option.bind_eq_some_iff.1 H
 refine ent_op (ot_call_same (Lr := []) [0] [0] (first := []) (cap := []) (xs := [.tmp 12]) rfl rfl F_call_7 rfl (fact_Weight_R.spec K sv0 A0 l0 hA0 _ h18) (by decide) rfl (by decide) rfl) rfl rfl rfl ?_
 rintro _ _ ⟨rfl,rfl⟩
 refine ent_value (ov_move rfl) rfl rfl rfl (ent_value (ov_extract rfl rfl) rfl rfl rfl (ent_value (ov_extract rfl rfl) rfl rfl rfl (ent_value (ov_assign rfl) rfl rfl rfl (ent_value (ov_assign rfl) rfl rfl rfl (ent_nil (ent_seq (ent_region (ent_value (ov_move rfl) rfl rfl rfl ?_))))))))
 obtain ⟨x19,h19,H⟩ := Option.bind_eq_some_iff.1 H
 refine ent_op (ot_call_same (Lr := []) [0] [0] (first := []) (cap := []) (xs := [.tmp 17]) rfl rfl F_call_8 rfl (ossuaryref09_Weight_R.spec K sv0 A0 l0 hA0 _ h19) (by decide) rfl (by decide) rfl) rfl rfl rfl ?_
 rintro _ _ ⟨rfl,rfl⟩
 refine ent_value (ov_move rfl) rfl rfl rfl (ent_value (ov_extract rfl rfl) rfl rfl rfl (ent_value (ov_extract rfl rfl) rfl rfl rfl (ent_value (ov_assign rfl) rfl rfl rfl (ent_value (ov_assign rfl) rfl rfl rfl (ent_nil (ent_seq (ent_region (ent_value (ov_move rfl) rfl rfl rfl (ent_value (ov_move rfl) rfl rfl rfl (ent_value (ov_bin rfl rfl (b_eql _ _ _)) rfl rfl rfl (ent_value (ov_move rfl) rfl rfl rfl ?_)))))))))))
 refine htF H (fun c9 H => ?_) fun c9 H => ?_
 ·refine ent_off rfl rfl rfl (eq_f c9) rfl rfl ?_
  refine ent_off rfl rfl rfl (eq_f c9) rfl rfl ?_
  refine ent_off rfl rfl rfl (eq_f c9) rfl rfl ?_
  refine ent_value (ov_pick rfl rfl rfl (pick_f (eq_f c9))) rfl rfl rfl (ent_value (ov_move rfl) rfl rfl rfl ?_)
  refine ent_off rfl rfl rfl rfl rfl rfl ?_
  refine ent_off rfl rfl rfl rfl rfl rfl ?_
  refine ent_off rfl rfl rfl rfl rfl rfl ?_
  refine ent_off rfl rfl rfl rfl rfl rfl ?_
  refine ent_off rfl rfl rfl rfl rfl rfl ?_
  refine ent_value (ov_pick rfl rfl rfl rfl) rfl rfl rfl (ent_value (ov_move rfl) rfl rfl rfl ?_)
  refine ent_off rfl rfl rfl rfl rfl rfl ?_
  refine ent_off rfl rfl rfl rfl rfl rfl ?_
  refine ent_off rfl rfl rfl rfl rfl rfl ?_
  refine ent_off rfl rfl rfl rfl rfl rfl ?_
  refine ent_off rfl rfl rfl rfl rfl rfl ?_
  refine ent_value (ov_pick rfl rfl rfl rfl) rfl rfl rfl (ent_value (ov_move rfl) rfl rfl rfl ?_)
  refine ent_off rfl rfl rfl rfl rfl rfl ?_
  refine ent_value (ov_pick rfl rfl rfl rfl) rfl rfl rfl (ent_value (ov_assign rfl) rfl rfl rfl (ent_nil (ent_retc ?_)))
  cases H
  refine ent_pick [0] (by decide) rfl ?_
  exact ret_tmp rfl rfl ⟨rfl,rfl⟩
 refine ent_value_on (ov_move rfl) rfl rfl rfl (eq_t c9) rfl rfl ?_
 refine ent_value_on (ov_move rfl) rfl rfl rfl (eq_t c9) rfl rfl ?_
 refine ent_value_on (ov_bin rfl rfl (b_eql_bool Try.underlying4 _ _)) rfl rfl rfl (eq_t c9) rfl rfl ?_
 refine ent_value (ov_pick rfl rfl rfl (pick_t (eq_t c9))) rfl rfl rfl (ent_value (ov_move rfl) rfl rfl rfl ?_)
 refine htF H (fun c10 H => ?_) fun c10 H => ?_
 ·refine ent_off rfl rfl rfl (Bool.eq_false_iff.2 c10) rfl rfl ?_
  refine ent_off rfl rfl rfl (Bool.eq_false_iff.2 c10) rfl rfl ?_
  refine ent_off rfl rfl rfl (Bool.eq_false_iff.2 c10) rfl rfl ?_
  refine ent_off rfl rfl rfl (Bool.eq_false_iff.2 c10) rfl rfl ?_
  refine ent_off rfl rfl rfl (Bool.eq_false_iff.2 c10) rfl rfl ?_
  refine ent_value (ov_pick rfl rfl rfl (pick_f (Bool.eq_false_iff.2 c10))) rfl rfl rfl (ent_value (ov_move rfl) rfl rfl rfl ?_)
  refine ent_off rfl rfl rfl rfl rfl rfl ?_
  refine ent_off rfl rfl rfl rfl rfl rfl ?_
  refine ent_off rfl rfl rfl rfl rfl rfl ?_
  refine ent_off rfl rfl rfl rfl rfl rfl ?_
  refine ent_off rfl rfl rfl rfl rfl rfl ?_
  refine ent_value (ov_pick rfl rfl rfl rfl) rfl rfl rfl (ent_value (ov_move rfl) rfl rfl rfl ?_)
  refine ent_off rfl rfl rfl rfl rfl rfl ?_
  refine ent_value (ov_pick rfl rfl rfl rfl) rfl rfl rfl (ent_value (ov_assign rfl) rfl rfl rfl (ent_nil (ent_retc ?_)))
  cases H
  refine ent_pick [0] (by decide) rfl ?_
  exact ret_tmp rfl rfl ⟨rfl,rfl⟩
 refine ent_value_on (ov_move rfl) rfl rfl rfl c10 rfl rfl ?_
 obtain ⟨x20,h20,H⟩ := Option.bind_eq_some_iff.1 H
 refine ent_op_on (ot_call (Lr := []) (first := []) (cap := []) (xs := [.tmp 30]) rfl rfl F_call_10 rfl (fact_Hours_R.spec K sv0 A0 l0 hA0 _ h20) rfl) rfl rfl rfl c10 rfl rfl ?_
 rintro sv5 _ ⟨_,⟨_,rfl,rfl⟩,rfl⟩
 refine ent_value_on (ov_move rfl) rfl rfl rfl c10 rfl rfl ?_
 obtain ⟨x21,h21,H⟩ := Option.bind_eq_some_iff.1 H
 refine ent_op_on (ot_call (Lr := [own sv5 2 1 x20.length (fl (eI .i64) x20)]) (first := []) (cap := []) (xs := [.tmp 32]) rfl rfl F_call_11 rfl (ossuaryref09_Hours_R.spec K sv0 A0 l0 hA0 _ h21) rfl) rfl rfl rfl c10 rfl rfl ?_
 rintro sv6 _ ⟨_,⟨_,rfl,rfl⟩,rfl⟩
 obtain ⟨x22,h22,H⟩ := Option.bind_eq_some_iff.1 H
 refine ent_op_on (ot_call_same (Lr := [A0]) [2,1,0] [2,1,0] (first := []) (cap := []) (xs := [.tmp 31,.tmp 33]) rfl rfl F_call_9 rfl (ossuaryref08_Same_RR.spec K sv5 (own sv5 2 1 x20.length (fl (eI .i64) x20)) sv6 (own sv6 2 1 x21.length (fl (eI .i64) x21)) x20 x21 (isRd_ownx 2) (isRd_ownx 2) _ h22) (by decide) rfl (by decide) rfl) rfl rfl rfl c10 rfl rfl ?_
 rintro _ _ ⟨rfl,rfl⟩
 refine ent_value (ov_pick rfl rfl rfl (pick_t c10)) rfl rfl rfl (ent_value (ov_move rfl) rfl rfl rfl ?_)
 refine htF H (fun c11 H => ?_) fun c11 H => ?_
 ·refine ent_off rfl rfl rfl (Bool.eq_false_iff.2 c11) rfl rfl ?_
  refine ent_off rfl rfl rfl (Bool.eq_false_iff.2 c11) rfl rfl ?_
  refine ent_off rfl rfl rfl (Bool.eq_false_iff.2 c11) rfl rfl ?_
  refine ent_off rfl rfl rfl (Bool.eq_false_iff.2 c11) rfl rfl ?_
  refine ent_off rfl rfl rfl (Bool.eq_false_iff.2 c11) rfl rfl ?_
  refine ent_value (ov_pick rfl rfl rfl (pick_f (Bool.eq_false_iff.2 c11))) rfl rfl rfl (ent_value (ov_move rfl) rfl rfl rfl ?_)
  refine ent_off rfl rfl rfl rfl rfl rfl ?_
  refine ent_value (ov_pick rfl rfl rfl rfl) rfl rfl rfl (ent_value (ov_assign rfl) rfl rfl rfl (ent_nil (ent_retc ?_)))
  cases H
  refine ent_pick [0] (by decide) rfl ?_
  exact ret_tmp rfl rfl ⟨rfl,rfl⟩
 refine ent_value_on (ov_move rfl) rfl rfl rfl c11 rfl rfl ?_
 obtain ⟨x23,h23,H⟩ := Option.bind_eq_some_iff.1 H
 refine ent_op_on (ot_call (Lr := [own sv6 2 1 x21.length (fl (eI .i64) x21),own sv5 2 1 x20.length (fl (eI .i64) x20)]) (first := []) (cap := []) (xs := [.tmp 37]) rfl rfl F_call_13 rfl (fact_Sort_R.spec K sv0 A0 l0 hA0 _ h23) rfl) rfl rfl rfl c11 rfl rfl ?_
 rintro sv7 _ ⟨_,⟨_,rfl,rfl⟩,rfl⟩
 refine ent_value_on (ov_move rfl) rfl rfl rfl c11 rfl rfl ?_
 obtain ⟨x24,h24,H⟩ := Option.bind_eq_some_iff.1 H
 refine ent_op_on (ot_call (Lr := [own sv7 52 6 x23.length (fl enc_Api_Fact x23),own sv6 2 1 x21.length (fl (eI .i64) x21),own sv5 2 1 x20.length (fl (eI .i64) x20)]) (first := []) (cap := []) (xs := [.tmp 39]) rfl rfl F_call_14 rfl (ossuaryref09_Sort_R.spec K sv0 A0 l0 hA0 _ h24) rfl) rfl rfl rfl c11 rfl rfl ?_
 rintro sv8 _ ⟨_,⟨_,rfl,rfl⟩,rfl⟩
 obtain ⟨x25,h25,H⟩ := Option.bind_eq_some_iff.1 H
 refine ent_op_on (ot_call_same (Lr := [A0,own sv6 2 1 x21.length (fl (eI .i64) x21),own sv5 2 1 x20.length (fl (eI .i64) x20)]) [2,1,0,3,4] [2,1,0,3,4] (first := []) (cap := []) (xs := [.tmp 38,.tmp 40]) rfl rfl F_call_12 rfl (ossuaryref09_Same_RR.spec K sv7 (own sv7 52 6 x23.length (fl enc_Api_Fact x23)) sv8 (own sv8 52 6 x24.length (fl enc_Api_Fact x24)) x23 x24 (isRd_ownx 52) (isRd_ownx 52) _ h25) (by decide) rfl (by decide) rfl) rfl rfl rfl c11 rfl rfl ?_
 rintro _ _ ⟨rfl,rfl⟩
 refine ent_value (ov_pick rfl rfl rfl (pick_t c11)) rfl rfl rfl (ent_value (ov_move rfl) rfl rfl rfl ?_)
 refine htF H (fun c12 H => ?_) fun c12 H => ?_
 ·refine ent_off rfl rfl rfl (Bool.eq_false_iff.2 c12) rfl rfl ?_
  refine ent_value (ov_pick rfl rfl rfl (pick_f (Bool.eq_false_iff.2 c12))) rfl rfl rfl (ent_value (ov_assign rfl) rfl rfl rfl (ent_nil (ent_retc ?_)))
  cases H
  refine ent_pick [0] (by decide) rfl ?_
  exact ret_tmp rfl rfl ⟨rfl,rfl⟩
 obtain ⟨x26,h26,H⟩ := Option.bind_eq_some_iff.1 H
 refine ent_op_on (ot_call0 (first := []) (cap := []) (xs := []) rfl rfl F_call_6 rfl (ossuarylaw09_alive.spec K _ h26)) rfl rfl rfl c12 rfl rfl ?_
 rintro _ _ ⟨rfl,rfl⟩
 refine ent_value (ov_pick rfl rfl rfl (pick_t c12)) rfl rfl rfl (ent_value (ov_assign rfl) rfl rfl rfl (ent_nil (ent_retc ?_)))
 cases H
 refine ent_pick [0] (by decide) rfl ?_
 exact ret_tmp rfl rfl ⟨rfl,rfl⟩

end Go.Proofs.Ytndjnimnemhbkaa.FactLooks
