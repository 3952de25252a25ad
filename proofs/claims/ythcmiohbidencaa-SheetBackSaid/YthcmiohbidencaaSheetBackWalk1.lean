/- Printed by gen.py: that the machine's calls do what the plain functions of SheetBack say. -/
import Derived.Test.YthcmiohbidencaaSheetBackWalk0
import Derived.Test.YthcmiohbidencaaESq
import Derived.Test.YthcmiohbidencaaProg
import Derived.Test.YthcmiohbidencaaEBun
import Derived.Test.YthcmiohbidencaaEBuild
import Derived.Test.YthcmiohbidencaaEShelf
import Derived.Test.YthcmiohbidencaaELib
import Derived.Test.YthcmiohbidencaaSheetBackPure
set_option linter.unusedVariables false
set_option linter.unusedSimpArgs false
set_option maxHeartbeats 8000000
set_option maxRecDepth 100000
namespace Go.Proofs.Ythcmiohbidencaa.SheetBack
open Go Go.RowKit E
open Go.Value (int bool slice agg)

theorem sheet_Text.spec (K : Nat) (a0_0 a0_1 : Int) (a0_2 a0_3 : Int) (a0_4 a0_5 : Int) (a0_6 a0_7 a0_8 : Int) (r : ((List UInt8) × Int)) (H : sheet_Text K a0_0 a0_1 a0_2 a0_3 a0_4 a0_5 a0_6 a0_7 a0_8 = some r) : FnSpec Try.prog 11 [agg #[I a0_0,I a0_1,I a0_2,I a0_3,I a0_4,I a0_5,I a0_6,I a0_7,I a0_8]] [] (fun v M => v = (tU #[str r.1,I r.2]) ∧ M = []) := by
 unfold sheet_Text at H
 refine spec_of Try.func11 rfl 35 rfl (Nat.le_of_ble_eq_true rfl) fun F w0 => ?_
 let C3_ : Value := agg #[I a0_0,I a0_1,I a0_2,I a0_3,I a0_4,I a0_5,I a0_6,I a0_7,I a0_8]
 let C2_ : List Value := [I a0_0,I a0_1,I a0_2,I a0_3,I a0_4,I a0_5,I a0_6,I a0_7,I a0_8]
 show Ent (St 35 w0 F [(0,C3_)] []) _
 refine ent_seq (ent_region ?_)
 refine ent_op (ot_box (cs := C2_) rfl rfl) rfl rfl rfl ?_
 rintro _ _ ⟨b6,rfl,rfl⟩
 refine ent_value (ov_assign rfl) rfl rfl rfl (ent_value (ov_assign rfl) rfl rfl rfl (ent_nil (ent_seq (ent_seq (ent_region (ent_value (ov_load_agg (vs := C2_) rfl F_agg_24 F_size_24 (reads_boxW (i := 0) rfl)) rfl rfl rfl ?_))))))
 obtain ⟨x96,h98,H⟩ := Option.bind_eq_some_iff.1 H
 refine ent_op (ot_call0 (first := []) (cap := []) (xs := [.tmp 9]) rfl rfl F_call_37 rfl (policy_Check.spec a0_0 a0_1 a0_2 a0_3 a0_4 a0_5 a0_6 a0_7 a0_8 _ h98)) rfl rfl rfl ?_
 rintro _ _ ⟨rfl,rfl⟩
 refine ent_value (ov_assign rfl) rfl rfl rfl (ent_nil (ent_seq (ent_region (ent_value (ov_move rfl) rfl rfl rfl (ent_value (ov_bin rfl rfl (b_neq _ _ _)) rfl rfl rfl (ent_nil ?_))))))
 refine htT H (fun c180 H => ?_) fun c180 H => ?_
 ·refine ent_cond_true rfl (ne_t c180) (ent_seq (ent_region (ent_value (ov_move rfl) rfl rfl rfl (ent_value (ov_assign rfl) rfl rfl rfl (ent_value (ov_assign rfl) rfl rfl rfl (ent_nil (ent_retc ?_)))))))
  cases H
  refine ent_pick [] (by decide) rfl ?_
  exact ret_mem (vs := [S0,I x96]) rfl ⟨rfl,⟨rfl,trivial⟩⟩ _ rfl ⟨rfl,rfl⟩
 refine ent_cond_false rfl (ne_f c180) (ent_skip (ent_seq (ent_region ?_)))
 refine ent_op (ot_alloc F_zero_73) rfl rfl rfl ?_
 rintro _ _ ⟨b7,rfl,rfl⟩
 refine ent_nil (ent_seq (ent_region ?_))
 obtain ⟨x97,h99,H⟩ := thn_elim H
 let C4_ : Value := agg #[str x97.1,str x97.2.1,str x97.2.2.1,str x97.2.2.2.1,str x97.2.2.2.2.1,str x97.2.2.2.2.2.1,str x97.2.2.2.2.2.2.1,str x97.2.2.2.2.2.2.2.1,str x97.2.2.2.2.2.2.2.2]
 let C1_ : List Value := [str x97.1,str x97.2.1,str x97.2.2.1,str x97.2.2.2.1,str x97.2.2.2.2.1,str x97.2.2.2.2.2.1,str x97.2.2.2.2.2.2.1,str x97.2.2.2.2.2.2.2.1,str x97.2.2.2.2.2.2.2.2]
 refine ent_op (ot_call0 (first := []) (cap := []) (xs := []) rfl rfl F_call_27 rfl (sheet_names.spec _ h99)) rfl rfl rfl ?_
 rintro _ _ ⟨rfl,rfl⟩
 refine ent_op (ot_alloc F_zero_55) rfl rfl rfl ?_
 rintro _ _ ⟨b8,rfl,rfl⟩
 let C7_ : List HP := [box b8 55 C1_,box b7 73 [P0,L0],box b6 24 C2_]
 refine ent_op0 (ot_storeG (cs := [S0,S0,S0,S0,S0,S0,S0,S0,S0]) (cs' := C1_) (us := C1_) (L' := C7_) 0 rfl rfl rfl (one_all rfl) F_size_55 rfl rfl (by simp [C3_,C2_,C4_,C1_,C7_]) rfl) rfl rfl ?_
 rintro _ _ rfl
 refine ent_nil (ent_seq (ent_seq (ent_region (ent_value (ov_load_agg (vs := C2_) rfl F_agg_24 F_size_24 (reads_boxW (i := 2) rfl)) rfl rfl rfl ?_))))
 obtain ⟨x143,h146,H⟩ := thn_elim H
 let C0_ : List Value := [I x143.1,I x143.2.1,I x143.2.2.1,I x143.2.2.2.1,I x143.2.2.2.2.1,I x143.2.2.2.2.2.1,I x143.2.2.2.2.2.2.1,I x143.2.2.2.2.2.2.2.1,I x143.2.2.2.2.2.2.2.2.1,I x143.2.2.2.2.2.2.2.2.2]
 refine ent_op (ot_call (Lr := C7_) (first := []) (cap := []) (xs := [.tmp 15]) rfl rfl F_call_38 rfl (sheet_of.spec a0_0 a0_1 a0_2 a0_3 a0_4 a0_5 a0_6 a0_7 a0_8 _ h146) rfl) rfl rfl rfl ?_
 rintro _ _ ⟨_,⟨b10,rfl,rfl⟩,rfl⟩
 let C6_ : List HP := [box b10 51 C0_,box b8 55 C1_,box b6 24 C2_]
 let C5_ : Value := agg #[pt b10 0,pt b10 1,pt b10 2,pt b10 3,pt b10 4,pt b10 5,pt b10 6,pt b10 9,pt b10 8]
 obtain ⟨u4,h147,H⟩ := thn_elim H
 refine ent_op (ot_call_same (Lr := C7_) [0,1,2,3] [0,1,2,3] (first := []) (cap := []) (xs := [.tmp 16]) rfl rfl F_call_26 rfl (sheet_sheet_fields.spec b10 x143.1 x143.2.1 x143.2.2.1 x143.2.2.2.1 x143.2.2.2.2.1 x143.2.2.2.2.2.1 x143.2.2.2.2.2.2.1 x143.2.2.2.2.2.2.2.1 x143.2.2.2.2.2.2.2.2.1 x143.2.2.2.2.2.2.2.2.2 _ h147) (by decide) rfl (by decide) rfl) rfl rfl rfl ?_
 rintro _ _ ⟨rfl,rfl⟩
 refine ent_value (ov_move rfl) rfl rfl rfl (ent_nil (ent_block (ent_rounds 10 (ent_round (ent_seq (ent_region (ent_value (ov_bin rfl rfl (b_lss _ _ _)) rfl rfl rfl (ent_nil (ent_seq (ent_cond_true rfl rfl (ent_skip ?_)))))))))))
 refine ent_seq (ent_block (ent_seq (ent_region (ent_value (ov_move rfl) rfl rfl rfl (ent_value (ov_indexAggN rfl rfl F_array_53 F_size_52 F_agg_52 (by decide) (by decide) rfl) rfl rfl rfl (ent_value (ov_assign rfl) rfl rfl rfl (ent_value (ov_assign rfl) rfl rfl rfl (ent_nil ?_))))))))
 obtain ⟨c285,H⟩ := gdT H
 obtain ⟨c286,H⟩ := gdT H
 obtain ⟨x152,h156,H⟩ := Option.bind_eq_some_iff.1 H
 obtain ⟨c287,H⟩ := gdT H
 obtain ⟨c288,H⟩ := gdT H
 obtain ⟨x153,h157,H⟩ := Option.bind_eq_some_iff.1 H
 let Z80_T : DT := fun ga70 => [(0,22,I 0),(1,23,pt b8 0),(2,24,str x97.1),(3,25,str (x97.1 ++ ([32] : List UInt8))),(4,26,pt b10 0),(5,27,pt b10 0),(6,28,I x143.1),(7,29,str x152),(8,30,str ((x97.1 ++ ([32] : List UInt8)) ++ x152)),(9,31,str (((x97.1 ++ ([32] : List UInt8)) ++ x152) ++ ([10] : List UInt8))),(10,32,tU #[I x153.2,Value.nilIface])]
 let Z80_L : DL := fun ga70 done => [sel (done 10) (own (ga70 10) 5 1 x153.1.length (fl (eI .u8) x153.1)) emp,box b10 51 C0_,box b8 55 C1_,sel (done 10) (box b7 73 [pt b7 0,(ga70 10)]) (box b7 73 [P0,L0]),box b6 24 C2_]
 let Z80_I : DI := fun ga70 done a w => StD 35 w0 F [(0,C3_),(1,pt b6 0),(2,S0),(3,I 0),(4,I x96),(5,pt b7 0),(6,pt b8 0),(7,I 0),(8,pt b10 0),(9,C3_),(10,I x96),(11,I x96),(12,bool (x96 != 0)),(14,C4_),(15,C3_),(16,pt b10 0),(17,C5_),(18,I 0),(19,bool true),(20,I 0),(21,pt b10 0)] (Z80_T ga70) done (Z80_L ga70 done) a w
 refine ent_drawm 11 rfl (fun done a w => ∃ ga70 : Nat → Value,Z80_I ga70 done a w) (by kernel_rfl) (by kernel_rfl) (draw_startG (T := Z80_T) (L' := fun ga70 : Nat → Value => [sel false (own (ga70 10) 5 1 x153.1.length (fl (eI .u8) x153.1)) emp,box b10 51 C0_,box b8 55 C1_,sel false (box b7 73 [pt b7 0,(ga70 10)]) (box b7 73 [P0,L0]),box b6 24 C2_]) 1 (sub_cons (t := 0) rfl (sub_cons (t := 1) rfl (sub_cons (t := 2) rfl (sub_cons (t := 3) rfl (sub_cons (t := 4) rfl (sub_cons (t := 5) rfl (sub_cons (t := 6) rfl (sub_cons (t := 7) rfl (sub_cons (t := 8) rfl (sub_cons (t := 9) rfl (sub_cons (t := 10) rfl (sub_cons (t := 11) rfl (sub_cons (t := 12) rfl (sub_cons (t := 14) rfl (sub_cons (t := 15) rfl (sub_cons (t := 16) rfl (sub_cons (t := 17) rfl (sub_cons (t := 18) rfl (sub_cons (t := 19) rfl (sub_cons (t := 20) rfl (sub_cons (t := 21) rfl (sub_nil _)))))))))))))))))))))) (fun _ => rfl)) ?_ ?_
 ·refine ⟨?_,?_,?_,?_,?_,?_,?_,?_,?_,?_,?_,trivial⟩
  ·exact fun done hi hc hcu => draw_exi (I := Z80_I) fun ga70 => draw_value (i := 0) (t := 22) (v := (I 0)) rfl rfl (wanted_none rfl) (fun a => hasA_base) (ov_move rfl) rfl rfl (onlyT_spec (k0 := 0) rfl rfl rfl)
  ·exact fun done hi hc hcu => draw_exi (I := Z80_I) fun ga70 => draw_value (i := 1) (t := 23) (v := (pt b8 0)) rfl rfl (wanted_none rfl) (fun a => (hasA_cons (k := 0) rfl (done_of (j := 0) hcu rfl (by decide) rfl) hasA_base)) (ov_indexArr (o := 0) rfl rfl F_array_55 F_size_9 (by decide) c285) rfl rfl (onlyT_spec (k0 := 1) rfl rfl rfl)
  ·exact fun done hi hc hcu => draw_exi (I := Z80_I) fun ga70 => draw_value (i := 2) (t := 24) (v := (str x97.1)) rfl rfl (wanted_none rfl) (fun a => (hasA_cons (k := 1) rfl (done_of (j := 1) hcu rfl (by decide) rfl) hasA_base)) (ov_load (v := (str x97.1)) rfl F_agg_9 (reads_box1 (i := 2) rfl rfl)) rfl rfl (onlyT_spec (k0 := 2) rfl rfl rfl)
  ·exact fun done hi hc hcu => draw_exi (I := Z80_I) fun ga70 => draw_value (i := 3) (t := 25) (v := (str (x97.1 ++ ([32] : List UInt8)))) rfl rfl (wanted_none rfl) (fun a => (hasA_cons (k := 2) rfl (done_of (j := 2) hcu rfl (by decide) rfl) hasA_base)) (ov_bin rfl rfl fun w => b_add_str _ _ w c286) rfl rfl (onlyT_spec (k0 := 3) rfl rfl rfl)
  ·exact fun done hi hc hcu => draw_exi (I := Z80_I) fun ga70 => draw_value (i := 4) (t := 26) (v := (pt b10 0)) rfl rfl (wanted_none rfl) (fun a => hasA_base) (ov_move rfl) rfl rfl (onlyT_spec (k0 := 4) rfl rfl rfl)
  ·exact fun done hi hc hcu => draw_exi (I := Z80_I) fun ga70 => draw_value (i := 5) (t := 27) (v := (pt b10 0)) rfl rfl (wanted_none rfl) (fun a => (hasA_cons (k := 4) rfl (done_of (j := 4) hcu rfl (by decide) rfl) hasA_base)) (ov_nilCheck rfl) rfl rfl (onlyT_spec (k0 := 5) rfl rfl rfl)
  ·exact fun done hi hc hcu => draw_exi (I := Z80_I) fun ga70 => draw_value (i := 6) (t := 28) (v := (I x143.1)) rfl rfl (wanted_none rfl) (fun a => (hasA_cons (k := 5) rfl (done_of (j := 5) hcu rfl (by decide) rfl) hasA_base)) (ov_load (v := (I x143.1)) rfl F_agg_2 (reads_box1 (i := 1) rfl rfl)) rfl rfl (onlyT_spec (k0 := 6) rfl rfl rfl)
  ·exact fun done hi hc hcu => draw_exi (I := Z80_I) fun ga70 => draw_same (i := 7) (t := 29) (v := (str x152)) rfl rfl (wanted_none rfl) (fun a => (hasA_cons (k := 6) rfl (done_of (j := 6) hcu rfl (by decide) rfl) hasA_base)) (ot_call0 (first := []) (cap := []) (xs := [.tmp 28]) rfl rfl F_call_40 rfl (sheet_number.spec K x143.1 _ h156)) rfl rfl (onlyT_spec (k0 := 7) rfl rfl rfl)
  ·exact fun done hi hc hcu => draw_exi (I := Z80_I) fun ga70 => draw_value (i := 8) (t := 30) (v := (str ((x97.1 ++ ([32] : List UInt8)) ++ x152))) rfl rfl (wanted_none rfl) (fun a => (hasA_cons (k := 7) rfl (done_of (j := 7) hcu rfl (by decide) rfl) (hasA_cons (k := 3) rfl (done_of (j := 3) hcu rfl (by decide) rfl) hasA_base))) (ov_bin rfl rfl fun w => b_add_str _ _ w c287) rfl rfl (onlyT_spec (k0 := 8) rfl rfl rfl)
  ·exact fun done hi hc hcu => draw_exi (I := Z80_I) fun ga70 => draw_value (i := 9) (t := 31) (v := (str (((x97.1 ++ ([32] : List UInt8)) ++ x152) ++ ([10] : List UInt8)))) rfl rfl (wanted_none rfl) (fun a => (hasA_cons (k := 8) rfl (done_of (j := 8) hcu rfl (by decide) rfl) hasA_base)) (ov_bin rfl rfl fun w => b_add_str _ _ w c288) rfl rfl (onlyT_spec (k0 := 9) rfl rfl rfl)
  ·refine fun done hi hc hcu => ent_exi (S := fun ga70 => Z80_I ga70 done) fun ga70 => draw_turnP (i := 10) (t := 32) (x := ga70) (L := Z80_L) (T := Z80_T) (L2 := [emp,box b10 51 C0_,box b8 55 C1_,box b7 73 [P0,L0],box b6 24 C2_]) [3,0,1,2,4] [1,3,4,0,5] rfl rfl (wanted_none rfl) (fun a => (hasA_cons (k := 9) rfl (done_of (j := 9) hcu rfl (by decide) rfl) hasA_base)) (by simp only [C3_,C2_,C4_,C1_,C7_,C0_,C6_,C5_,Z80_T,Z80_L,hi,sel]) (by decide) rfl (ot_call (Lr := [emp,box b10 51 C0_,box b8 55 C1_,box b6 24 C2_]) (first := []) (cap := []) (xs := [.tmp 5,.tmp 31]) rfl rfl F_call_39 rfl (strings_Builder_WriteString_ZN.spec b7 (((x97.1 ++ ([32] : List UInt8)) ++ x152) ++ ([10] : List UInt8)) _ h157) rfl) (by decide) rfl rfl ?_
   rintro _ _ ⟨_,⟨g0_,rfl,rfl⟩,rfl⟩
   exact ⟨(upb ga70 10 g0_),show some [own g0_ 5 1 x153.1.length (fl (eI .u8) x153.1),box b10 51 C0_,box b8 55 C1_,box b7 73 [pt b7 0,g0_],box b6 24 C2_] = _ by simp [C3_,C2_,C4_,C1_,C7_,C0_,C6_,C5_,Z80_T,Z80_L,up,upb,sel,hi],(tr_same rfl rfl (tr_same rfl rfl (tr_same rfl rfl (tr_same rfl rfl (tr_same rfl rfl (tr_same rfl rfl (tr_same rfl rfl (tr_same rfl rfl (tr_same rfl rfl (tr_same rfl rfl (tr_this tr_nil)))))))))))⟩
 ·intro done hall
  refine ent_exi (S := fun ga70 => Z80_I ga70 done) fun ga70 => ?_
  refine draw_endL [own (ga70 10) 5 1 x153.1.length (fl (eI .u8) x153.1),box b10 51 C0_,box b8 55 C1_,box b7 73 [pt b7 0,(ga70 10)],box b6 24 C2_] (by simp only [C3_,C2_,C4_,C1_,C7_,C0_,C6_,C5_,Z80_T,Z80_L,hall 10 (by decide),sel]) (fun a => (hasA_cons (k := 0) rfl (hall 0 (by decide)) (hasA_cons (k := 1) rfl (hall 1 (by decide)) (hasA_cons (k := 2) rfl (hall 2 (by decide)) (hasA_cons (k := 3) rfl (hall 3 (by decide)) (hasA_cons (k := 4) rfl (hall 4 (by decide)) (hasA_cons (k := 5) rfl (hall 5 (by decide)) (hasA_cons (k := 6) rfl (hall 6 (by decide)) (hasA_cons (k := 7) rfl (hall 7 (by decide)) (hasA_cons (k := 8) rfl (hall 8 (by decide)) (hasA_cons (k := 9) rfl (hall 9 (by decide)) (hasA_cons (k := 10) rfl (hall 10 (by decide)) hasA_base)))))))))))) ?_
  refine ent_region (ent_value (ov_binL (m' := 1) rfl rfl (b_add _ _ _) (by decide)) rfl rfl rfl (ent_value (ov_move rfl) rfl rfl rfl (ent_nil (ent_round (ent_seq (ent_region (ent_value (ov_bin rfl rfl (b_lss _ _ _)) rfl rfl rfl (ent_nil (ent_seq (ent_cond_true rfl rfl (ent_skip ?_)))))))))))
  refine ent_seq (ent_block (ent_seq (ent_region (ent_value (ov_move rfl) rfl rfl rfl (ent_value (ov_indexAggN rfl rfl F_array_53 F_size_52 F_agg_52 (by decide) (by decide) rfl) rfl rfl rfl (ent_value (ov_assign rfl) rfl rfl rfl (ent_value (ov_assign rfl) rfl rfl rfl (ent_nil ?_))))))))
  obtain ⟨c297,H⟩ := gdT H
  obtain ⟨c298,H⟩ := gdT H
  obtain ⟨x158,h162,H⟩ := Option.bind_eq_some_iff.1 H
  obtain ⟨c299,H⟩ := gdT H
  obtain ⟨c300,H⟩ := gdT H
  obtain ⟨x159,h163,H⟩ := Option.bind_eq_some_iff.1 H
  let Z79_T : DT := fun ga73 => [(0,22,I 1),(1,23,pt b8 1),(2,24,str x97.2.1),(3,25,str (x97.2.1 ++ ([32] : List UInt8))),(4,26,pt b10 1),(5,27,pt b10 1),(6,28,I x143.2.1),(7,29,str x158),(8,30,str ((x97.2.1 ++ ([32] : List UInt8)) ++ x158)),(9,31,str (((x97.2.1 ++ ([32] : List UInt8)) ++ x158) ++ ([10] : List UInt8))),(10,32,tU #[I x159.2,Value.nilIface])]
  let Z79_L : DL := fun ga73 done => [sel (done 10) (own (ga73 10) 5 1 x159.1.length (fl (eI .u8) x159.1)) (own (ga70 10) 5 1 x153.1.length (fl (eI .u8) x153.1)),box b10 51 C0_,box b8 55 C1_,sel (done 10) (box b7 73 [pt b7 0,(ga73 10)]) (box b7 73 [pt b7 0,(ga70 10)]),box b6 24 C2_]
  let Z79_I : DI := fun ga73 done a w => StD 35 w0 F [(0,C3_),(1,pt b6 0),(2,S0),(3,I 0),(4,I x96),(5,pt b7 0),(6,pt b8 0),(7,I 1),(8,pt b10 1),(9,C3_),(10,I x96),(11,I x96),(12,bool (x96 != 0)),(14,C4_),(15,C3_),(16,pt b10 0),(17,C5_),(18,I 1),(19,bool true),(20,I 1),(21,pt b10 1),(33,I 1)] (Z79_T ga73) done (Z79_L ga73 done) a w
  refine ent_drawm 11 rfl (fun done a w => ∃ ga73 : Nat → Value,Z79_I ga73 done a w) (by kernel_rfl) (by kernel_rfl) (draw_startG (T := Z79_T) (L' := fun ga73 : Nat → Value => [sel false (own (ga73 10) 5 1 x159.1.length (fl (eI .u8) x159.1)) (own (ga70 10) 5 1 x153.1.length (fl (eI .u8) x153.1)),box b10 51 C0_,box b8 55 C1_,sel false (box b7 73 [pt b7 0,(ga73 10)]) (box b7 73 [pt b7 0,(ga70 10)]),box b6 24 C2_]) 0 (sub_cons (t := 0) rfl (sub_cons (t := 1) rfl (sub_cons (t := 2) rfl (sub_cons (t := 3) rfl (sub_cons (t := 4) rfl (sub_cons (t := 5) rfl (sub_cons (t := 6) rfl (sub_cons (t := 7) rfl (sub_cons (t := 8) rfl (sub_cons (t := 9) rfl (sub_cons (t := 10) rfl (sub_cons (t := 11) rfl (sub_cons (t := 12) rfl (sub_cons (t := 14) rfl (sub_cons (t := 15) rfl (sub_cons (t := 16) rfl (sub_cons (t := 17) rfl (sub_cons (t := 18) rfl (sub_cons (t := 19) rfl (sub_cons (t := 20) rfl (sub_cons (t := 21) rfl (sub_cons (t := 33) rfl (sub_nil _))))))))))))))))))))))) (fun _ => rfl)) ?_ ?_
  ·refine ⟨?_,?_,?_,?_,?_,?_,?_,?_,?_,?_,?_,trivial⟩
   ·exact fun done hi hc hcu => draw_exi (I := Z79_I) fun ga73 => draw_value (i := 0) (t := 22) (v := (I 1)) rfl rfl (wanted_none rfl) (fun a => hasA_base) (ov_move rfl) rfl rfl (onlyT_spec (k0 := 0) rfl rfl rfl)
   ·exact fun done hi hc hcu => draw_exi (I := Z79_I) fun ga73 => draw_value (i := 1) (t := 23) (v := (pt b8 1)) rfl rfl (wanted_none rfl) (fun a => (hasA_cons (k := 0) rfl (done_of (j := 0) hcu rfl (by decide) rfl) hasA_base)) (ov_indexArr (o := 0) rfl rfl F_array_55 F_size_9 (by decide) c297) rfl rfl (onlyT_spec (k0 := 1) rfl rfl rfl)
   ·exact fun done hi hc hcu => draw_exi (I := Z79_I) fun ga73 => draw_value (i := 2) (t := 24) (v := (str x97.2.1)) rfl rfl (wanted_none rfl) (fun a => (hasA_cons (k := 1) rfl (done_of (j := 1) hcu rfl (by decide) rfl) hasA_base)) (ov_load (v := (str x97.2.1)) rfl F_agg_9 (reads_box1 (i := 2) rfl rfl)) rfl rfl (onlyT_spec (k0 := 2) rfl rfl rfl)
   ·exact fun done hi hc hcu => draw_exi (I := Z79_I) fun ga73 => draw_value (i := 3) (t := 25) (v := (str (x97.2.1 ++ ([32] : List UInt8)))) rfl rfl (wanted_none rfl) (fun a => (hasA_cons (k := 2) rfl (done_of (j := 2) hcu rfl (by decide) rfl) hasA_base)) (ov_bin rfl rfl fun w => b_add_str _ _ w c298) rfl rfl (onlyT_spec (k0 := 3) rfl rfl rfl)
   ·exact fun done hi hc hcu => draw_exi (I := Z79_I) fun ga73 => draw_value (i := 4) (t := 26) (v := (pt b10 1)) rfl rfl (wanted_none rfl) (fun a => hasA_base) (ov_move rfl) rfl rfl (onlyT_spec (k0 := 4) rfl rfl rfl)
   ·exact fun done hi hc hcu => draw_exi (I := Z79_I) fun ga73 => draw_value (i := 5) (t := 27) (v := (pt b10 1)) rfl rfl (wanted_none rfl) (fun a => (hasA_cons (k := 4) rfl (done_of (j := 4) hcu rfl (by decide) rfl) hasA_base)) (ov_nilCheck rfl) rfl rfl (onlyT_spec (k0 := 5) rfl rfl rfl)
   ·exact fun done hi hc hcu => draw_exi (I := Z79_I) fun ga73 => draw_value (i := 6) (t := 28) (v := (I x143.2.1)) rfl rfl (wanted_none rfl) (fun a => (hasA_cons (k := 5) rfl (done_of (j := 5) hcu rfl (by decide) rfl) hasA_base)) (ov_load (v := (I x143.2.1)) rfl F_agg_2 (reads_box1 (i := 1) rfl rfl)) rfl rfl (onlyT_spec (k0 := 6) rfl rfl rfl)
   ·exact fun done hi hc hcu => draw_exi (I := Z79_I) fun ga73 => draw_same (i := 7) (t := 29) (v := (str x158)) rfl rfl (wanted_none rfl) (fun a => (hasA_cons (k := 6) rfl (done_of (j := 6) hcu rfl (by decide) rfl) hasA_base)) (ot_call0 (first := []) (cap := []) (xs := [.tmp 28]) rfl rfl F_call_40 rfl (sheet_number.spec K x143.2.1 _ h162)) rfl rfl (onlyT_spec (k0 := 7) rfl rfl rfl)
   ·exact fun done hi hc hcu => draw_exi (I := Z79_I) fun ga73 => draw_value (i := 8) (t := 30) (v := (str ((x97.2.1 ++ ([32] : List UInt8)) ++ x158))) rfl rfl (wanted_none rfl) (fun a => (hasA_cons (k := 7) rfl (done_of (j := 7) hcu rfl (by decide) rfl) (hasA_cons (k := 3) rfl (done_of (j := 3) hcu rfl (by decide) rfl) hasA_base))) (ov_bin rfl rfl fun w => b_add_str _ _ w c299) rfl rfl (onlyT_spec (k0 := 8) rfl rfl rfl)
   ·exact fun done hi hc hcu => draw_exi (I := Z79_I) fun ga73 => draw_value (i := 9) (t := 31) (v := (str (((x97.2.1 ++ ([32] : List UInt8)) ++ x158) ++ ([10] : List UInt8)))) rfl rfl (wanted_none rfl) (fun a => (hasA_cons (k := 8) rfl (done_of (j := 8) hcu rfl (by decide) rfl) hasA_base)) (ov_bin rfl rfl fun w => b_add_str _ _ w c300) rfl rfl (onlyT_spec (k0 := 9) rfl rfl rfl)
   ·refine fun done hi hc hcu => ent_exi (S := fun ga73 => Z79_I ga73 done) fun ga73 => draw_turnP (i := 10) (t := 32) (x := ga73) (L := Z79_L) (T := Z79_T) (L2 := [own (ga70 10) 5 1 x153.1.length (fl (eI .u8) x153.1),box b10 51 C0_,box b8 55 C1_,box b7 73 [pt b7 0,(ga70 10)],box b6 24 C2_]) [3,0,1,2,4] [1,2,3,0,4] rfl rfl (wanted_none rfl) (fun a => (hasA_cons (k := 9) rfl (done_of (j := 9) hcu rfl (by decide) rfl) hasA_base)) (by simp only [C3_,C2_,C4_,C1_,C7_,C0_,C6_,C5_,Z80_T,Z80_L,Z79_T,Z79_L,hi,sel]) (by decide) rfl (ot_call (Lr := C6_) (first := []) (cap := []) (xs := [.tmp 5,.tmp 31]) rfl rfl F_call_39 rfl (strings_Builder_WriteString_O.spec b7 (ga70 10) x153.1 (((x97.2.1 ++ ([32] : List UInt8)) ++ x158) ++ ([10] : List UInt8)) _ h163) rfl) (by decide) rfl rfl ?_
    rintro _ _ ⟨_,⟨g0_,rfl,rfl⟩,rfl⟩
    exact ⟨(upb ga73 10 g0_),show some [own g0_ 5 1 x159.1.length (fl (eI .u8) x159.1),box b10 51 C0_,box b8 55 C1_,box b7 73 [pt b7 0,g0_],box b6 24 C2_] = _ by simp [C3_,C2_,C4_,C1_,C7_,C0_,C6_,C5_,Z80_T,Z80_L,Z79_T,Z79_L,up,upb,sel,hi],(tr_same rfl rfl (tr_same rfl rfl (tr_same rfl rfl (tr_same rfl rfl (tr_same rfl rfl (tr_same rfl rfl (tr_same rfl rfl (tr_same rfl rfl (tr_same rfl rfl (tr_same rfl rfl (tr_this tr_nil)))))))))))⟩
  ·intro done hall
   refine ent_exi (S := fun ga73 => Z79_I ga73 done) fun ga73 => ?_
   refine draw_endL [own (ga73 10) 5 1 x159.1.length (fl (eI .u8) x159.1),box b10 51 C0_,box b8 55 C1_,box b7 73 [pt b7 0,(ga73 10)],box b6 24 C2_] (by simp only [C3_,C2_,C4_,C1_,C7_,C0_,C6_,C5_,Z80_T,Z80_L,Z79_T,Z79_L,hall 10 (by decide),sel]) (fun a => (hasA_cons (k := 0) rfl (hall 0 (by decide)) (hasA_cons (k := 1) rfl (hall 1 (by decide)) (hasA_cons (k := 2) rfl (hall 2 (by decide)) (hasA_cons (k := 3) rfl (hall 3 (by decide)) (hasA_cons (k := 4) rfl (hall 4 (by decide)) (hasA_cons (k := 5) rfl (hall 5 (by decide)) (hasA_cons (k := 6) rfl (hall 6 (by decide)) (hasA_cons (k := 7) rfl (hall 7 (by decide)) (hasA_cons (k := 8) rfl (hall 8 (by decide)) (hasA_cons (k := 9) rfl (hall 9 (by decide)) (hasA_cons (k := 10) rfl (hall 10 (by decide)) hasA_base)))))))))))) ?_
   refine ent_region (ent_value (ov_binL (m' := 2) rfl rfl (b_add _ _ _) (by decide)) rfl rfl rfl (ent_value (ov_move rfl) rfl rfl rfl (ent_nil (ent_round (ent_seq (ent_region (ent_value (ov_bin rfl rfl (b_lss _ _ _)) rfl rfl rfl (ent_nil (ent_seq (ent_cond_true rfl rfl (ent_skip ?_)))))))))))
   refine ent_seq (ent_block (ent_seq (ent_region (ent_value (ov_move rfl) rfl rfl rfl (ent_value (ov_indexAggN rfl rfl F_array_53 F_size_52 F_agg_52 (by decide) (by decide) rfl) rfl rfl rfl (ent_value (ov_assign rfl) rfl rfl rfl (ent_value (ov_assign rfl) rfl rfl rfl (ent_nil ?_))))))))
   obtain ⟨c305,H⟩ := gdT H
   obtain ⟨c306,H⟩ := gdT H
   obtain ⟨x162,h166,H⟩ := Option.bind_eq_some_iff.1 H
   obtain ⟨c307,H⟩ := gdT H
   obtain ⟨c308,H⟩ := gdT H
   obtain ⟨x163,h167,H⟩ := Option.bind_eq_some_iff.1 H
   let Z78_T : DT := fun ga75 => [(0,22,I 2),(1,23,pt b8 2),(2,24,str x97.2.2.1),(3,25,str (x97.2.2.1 ++ ([32] : List UInt8))),(4,26,pt b10 2),(5,27,pt b10 2),(6,28,I x143.2.2.1),(7,29,str x162),(8,30,str ((x97.2.2.1 ++ ([32] : List UInt8)) ++ x162)),(9,31,str (((x97.2.2.1 ++ ([32] : List UInt8)) ++ x162) ++ ([10] : List UInt8))),(10,32,tU #[I x163.2,Value.nilIface])]
   let Z78_L : DL := fun ga75 done => [sel (done 10) (own (ga75 10) 5 1 x163.1.length (fl (eI .u8) x163.1)) (own (ga73 10) 5 1 x159.1.length (fl (eI .u8) x159.1)),box b10 51 C0_,box b8 55 C1_,sel (done 10) (box b7 73 [pt b7 0,(ga75 10)]) (box b7 73 [pt b7 0,(ga73 10)]),box b6 24 C2_]
   let Z78_I : DI := fun ga75 done a w => StD 35 w0 F [(0,C3_),(1,pt b6 0),(2,S0),(3,I 0),(4,I x96),(5,pt b7 0),(6,pt b8 0),(7,I 2),(8,pt b10 2),(9,C3_),(10,I x96),(11,I x96),(12,bool (x96 != 0)),(14,C4_),(15,C3_),(16,pt b10 0),(17,C5_),(18,I 2),(19,bool true),(20,I 2),(21,pt b10 2),(33,I 2)] (Z78_T ga75) done (Z78_L ga75 done) a w
   refine ent_drawm 11 rfl (fun done a w => ∃ ga75 : Nat → Value,Z78_I ga75 done a w) (by kernel_rfl) (by kernel_rfl) (draw_startG (T := Z78_T) (L' := fun ga75 : Nat → Value => [sel false (own (ga75 10) 5 1 x163.1.length (fl (eI .u8) x163.1)) (own (ga73 10) 5 1 x159.1.length (fl (eI .u8) x159.1)),box b10 51 C0_,box b8 55 C1_,sel false (box b7 73 [pt b7 0,(ga75 10)]) (box b7 73 [pt b7 0,(ga73 10)]),box b6 24 C2_]) 0 (sub_cons (t := 0) rfl (sub_cons (t := 1) rfl (sub_cons (t := 2) rfl (sub_cons (t := 3) rfl (sub_cons (t := 4) rfl (sub_cons (t := 5) rfl (sub_cons (t := 6) rfl (sub_cons (t := 7) rfl (sub_cons (t := 8) rfl (sub_cons (t := 9) rfl (sub_cons (t := 10) rfl (sub_cons (t := 11) rfl (sub_cons (t := 12) rfl (sub_cons (t := 14) rfl (sub_cons (t := 15) rfl (sub_cons (t := 16) rfl (sub_cons (t := 17) rfl (sub_cons (t := 18) rfl (sub_cons (t := 19) rfl (sub_cons (t := 20) rfl (sub_cons (t := 21) rfl (sub_cons (t := 33) rfl (sub_nil _))))))))))))))))))))))) (fun _ => rfl)) ?_ ?_
   ·refine ⟨?_,?_,?_,?_,?_,?_,?_,?_,?_,?_,?_,trivial⟩
    ·exact fun done hi hc hcu => draw_exi (I := Z78_I) fun ga75 => draw_value (i := 0) (t := 22) (v := (I 2)) rfl rfl (wanted_none rfl) (fun a => hasA_base) (ov_move rfl) rfl rfl (onlyT_spec (k0 := 0) rfl rfl rfl)
    ·exact fun done hi hc hcu => draw_exi (I := Z78_I) fun ga75 => draw_value (i := 1) (t := 23) (v := (pt b8 2)) rfl rfl (wanted_none rfl) (fun a => (hasA_cons (k := 0) rfl (done_of (j := 0) hcu rfl (by decide) rfl) hasA_base)) (ov_indexArr (o := 0) rfl rfl F_array_55 F_size_9 (by decide) c305) rfl rfl (onlyT_spec (k0 := 1) rfl rfl rfl)
    ·exact fun done hi hc hcu => draw_exi (I := Z78_I) fun ga75 => draw_value (i := 2) (t := 24) (v := (str x97.2.2.1)) rfl rfl (wanted_none rfl) (fun a => (hasA_cons (k := 1) rfl (done_of (j := 1) hcu rfl (by decide) rfl) hasA_base)) (ov_load (v := (str x97.2.2.1)) rfl F_agg_9 (reads_box1 (i := 2) rfl rfl)) rfl rfl (onlyT_spec (k0 := 2) rfl rfl rfl)
    ·exact fun done hi hc hcu => draw_exi (I := Z78_I) fun ga75 => draw_value (i := 3) (t := 25) (v := (str (x97.2.2.1 ++ ([32] : List UInt8)))) rfl rfl (wanted_none rfl) (fun a => (hasA_cons (k := 2) rfl (done_of (j := 2) hcu rfl (by decide) rfl) hasA_base)) (ov_bin rfl rfl fun w => b_add_str _ _ w c306) rfl rfl (onlyT_spec (k0 := 3) rfl rfl rfl)
    ·exact fun done hi hc hcu => draw_exi (I := Z78_I) fun ga75 => draw_value (i := 4) (t := 26) (v := (pt b10 2)) rfl rfl (wanted_none rfl) (fun a => hasA_base) (ov_move rfl) rfl rfl (onlyT_spec (k0 := 4) rfl rfl rfl)
    ·exact fun done hi hc hcu => draw_exi (I := Z78_I) fun ga75 => draw_value (i := 5) (t := 27) (v := (pt b10 2)) rfl rfl (wanted_none rfl) (fun a => (hasA_cons (k := 4) rfl (done_of (j := 4) hcu rfl (by decide) rfl) hasA_base)) (ov_nilCheck rfl) rfl rfl (onlyT_spec (k0 := 5) rfl rfl rfl)
    ·exact fun done hi hc hcu => draw_exi (I := Z78_I) fun ga75 => draw_value (i := 6) (t := 28) (v := (I x143.2.2.1)) rfl rfl (wanted_none rfl) (fun a => (hasA_cons (k := 5) rfl (done_of (j := 5) hcu rfl (by decide) rfl) hasA_base)) (ov_load (v := (I x143.2.2.1)) rfl F_agg_2 (reads_box1 (i := 1) rfl rfl)) rfl rfl (onlyT_spec (k0 := 6) rfl rfl rfl)
    ·exact fun done hi hc hcu => draw_exi (I := Z78_I) fun ga75 => draw_same (i := 7) (t := 29) (v := (str x162)) rfl rfl (wanted_none rfl) (fun a => (hasA_cons (k := 6) rfl (done_of (j := 6) hcu rfl (by decide) rfl) hasA_base)) (ot_call0 (first := []) (cap := []) (xs := [.tmp 28]) rfl rfl F_call_40 rfl (sheet_number.spec K x143.2.2.1 _ h166)) rfl rfl (onlyT_spec (k0 := 7) rfl rfl rfl)
    ·exact fun done hi hc hcu => draw_exi (I := Z78_I) fun ga75 => draw_value (i := 8) (t := 30) (v := (str ((x97.2.2.1 ++ ([32] : List UInt8)) ++ x162))) rfl rfl (wanted_none rfl) (fun a => (hasA_cons (k := 7) rfl (done_of (j := 7) hcu rfl (by decide) rfl) (hasA_cons (k := 3) rfl (done_of (j := 3) hcu rfl (by decide) rfl) hasA_base))) (ov_bin rfl rfl fun w => b_add_str _ _ w c307) rfl rfl (onlyT_spec (k0 := 8) rfl rfl rfl)
    ·exact fun done hi hc hcu => draw_exi (I := Z78_I) fun ga75 => draw_value (i := 9) (t := 31) (v := (str (((x97.2.2.1 ++ ([32] : List UInt8)) ++ x162) ++ ([10] : List UInt8)))) rfl rfl (wanted_none rfl) (fun a => (hasA_cons (k := 8) rfl (done_of (j := 8) hcu rfl (by decide) rfl) hasA_base)) (ov_bin rfl rfl fun w => b_add_str _ _ w c308) rfl rfl (onlyT_spec (k0 := 9) rfl rfl rfl)
    ·refine fun done hi hc hcu => ent_exi (S := fun ga75 => Z78_I ga75 done) fun ga75 => draw_turnP (i := 10) (t := 32) (x := ga75) (L := Z78_L) (T := Z78_T) (L2 := [own (ga73 10) 5 1 x159.1.length (fl (eI .u8) x159.1),box b10 51 C0_,box b8 55 C1_,box b7 73 [pt b7 0,(ga73 10)],box b6 24 C2_]) [3,0,1,2,4] [1,2,3,0,4] rfl rfl (wanted_none rfl) (fun a => (hasA_cons (k := 9) rfl (done_of (j := 9) hcu rfl (by decide) rfl) hasA_base)) (by simp only [C3_,C2_,C4_,C1_,C7_,C0_,C6_,C5_,Z80_T,Z80_L,Z79_T,Z79_L,Z78_T,Z78_L,hi,sel]) (by decide) rfl (ot_call (Lr := C6_) (first := []) (cap := []) (xs := [.tmp 5,.tmp 31]) rfl rfl F_call_39 rfl (strings_Builder_WriteString_O.spec b7 (ga73 10) x159.1 (((x97.2.2.1 ++ ([32] : List UInt8)) ++ x162) ++ ([10] : List UInt8)) _ h167) rfl) (by decide) rfl rfl ?_
     rintro _ _ ⟨_,⟨g0_,rfl,rfl⟩,rfl⟩
     exact ⟨(upb ga75 10 g0_),show some [own g0_ 5 1 x163.1.length (fl (eI .u8) x163.1),box b10 51 C0_,box b8 55 C1_,box b7 73 [pt b7 0,g0_],box b6 24 C2_] = _ by simp [C3_,C2_,C4_,C1_,C7_,C0_,C6_,C5_,Z80_T,Z80_L,Z79_T,Z79_L,Z78_T,Z78_L,up,upb,sel,hi],(tr_same rfl rfl (tr_same rfl rfl (tr_same rfl rfl (tr_same rfl rfl (tr_same rfl rfl (tr_same rfl rfl (tr_same rfl rfl (tr_same rfl rfl (tr_same rfl rfl (tr_same rfl rfl (tr_this tr_nil)))))))))))⟩
   ·intro done hall
    refine ent_exi (S := fun ga75 => Z78_I ga75 done) fun ga75 => ?_
    refine draw_endL [own (ga75 10) 5 1 x163.1.length (fl (eI .u8) x163.1),box b10 51 C0_,box b8 55 C1_,box b7 73 [pt b7 0,(ga75 10)],box b6 24 C2_] (by simp only [C3_,C2_,C4_,C1_,C7_,C0_,C6_,C5_,Z80_T,Z80_L,Z79_T,Z79_L,Z78_T,Z78_L,hall 10 (by decide),sel]) (fun a => (hasA_cons (k := 0) rfl (hall 0 (by decide)) (hasA_cons (k := 1) rfl (hall 1 (by decide)) (hasA_cons (k := 2) rfl (hall 2 (by decide)) (hasA_cons (k := 3) rfl (hall 3 (by decide)) (hasA_cons (k := 4) rfl (hall 4 (by decide)) (hasA_cons (k := 5) rfl (hall 5 (by decide)) (hasA_cons (k := 6) rfl (hall 6 (by decide)) (hasA_cons (k := 7) rfl (hall 7 (by decide)) (hasA_cons (k := 8) rfl (hall 8 (by decide)) (hasA_cons (k := 9) rfl (hall 9 (by decide)) (hasA_cons (k := 10) rfl (hall 10 (by decide)) hasA_base)))))))))))) ?_
    refine ent_region (ent_value (ov_binL (m' := 3) rfl rfl (b_add _ _ _) (by decide)) rfl rfl rfl (ent_value (ov_move rfl) rfl rfl rfl (ent_nil (ent_round (ent_seq (ent_region (ent_value (ov_bin rfl rfl (b_lss _ _ _)) rfl rfl rfl (ent_nil (ent_seq (ent_cond_true rfl rfl (ent_skip ?_)))))))))))
    refine ent_seq (ent_block (ent_seq (ent_region (ent_value (ov_move rfl) rfl rfl rfl (ent_value (ov_indexAggN rfl rfl F_array_53 F_size_52 F_agg_52 (by decide) (by decide) rfl) rfl rfl rfl (ent_value (ov_assign rfl) rfl rfl rfl (ent_value (ov_assign rfl) rfl rfl rfl (ent_nil ?_))))))))
    obtain ⟨c313,H⟩ := gdT H
    obtain ⟨c314,H⟩ := gdT H
    obtain ⟨x166,h170,H⟩ := Option.bind_eq_some_iff.1 H
    obtain ⟨c315,H⟩ := gdT H
    obtain ⟨c316,H⟩ := gdT H
    obtain ⟨x167,h171,H⟩ := Option.bind_eq_some_iff.1 H
    let Z77_T : DT := fun ga77 => [(0,22,I 3),(1,23,pt b8 3),(2,24,str x97.2.2.2.1),(3,25,str (x97.2.2.2.1 ++ ([32] : List UInt8))),(4,26,pt b10 3),(5,27,pt b10 3),(6,28,I x143.2.2.2.1),(7,29,str x166),(8,30,str ((x97.2.2.2.1 ++ ([32] : List UInt8)) ++ x166)),(9,31,str (((x97.2.2.2.1 ++ ([32] : List UInt8)) ++ x166) ++ ([10] : List UInt8))),(10,32,tU #[I x167.2,Value.nilIface])]
    let Z77_L : DL := fun ga77 done => [sel (done 10) (own (ga77 10) 5 1 x167.1.length (fl (eI .u8) x167.1)) (own (ga75 10) 5 1 x163.1.length (fl (eI .u8) x163.1)),box b10 51 C0_,box b8 55 C1_,sel (done 10) (box b7 73 [pt b7 0,(ga77 10)]) (box b7 73 [pt b7 0,(ga75 10)]),box b6 24 C2_]
    let Z77_I : DI := fun ga77 done a w => StD 35 w0 F [(0,C3_),(1,pt b6 0),(2,S0),(3,I 0),(4,I x96),(5,pt b7 0),(6,pt b8 0),(7,I 3),(8,pt b10 3),(9,C3_),(10,I x96),(11,I x96),(12,bool (x96 != 0)),(14,C4_),(15,C3_),(16,pt b10 0),(17,C5_),(18,I 3),(19,bool true),(20,I 3),(21,pt b10 3),(33,I 3)] (Z77_T ga77) done (Z77_L ga77 done) a w
    refine ent_drawm 11 rfl (fun done a w => ∃ ga77 : Nat → Value,Z77_I ga77 done a w) (by kernel_rfl) (by kernel_rfl) (draw_startG (T := Z77_T) (L' := fun ga77 : Nat → Value => [sel false (own (ga77 10) 5 1 x167.1.length (fl (eI .u8) x167.1)) (own (ga75 10) 5 1 x163.1.length (fl (eI .u8) x163.1)),box b10 51 C0_,box b8 55 C1_,sel false (box b7 73 [pt b7 0,(ga77 10)]) (box b7 73 [pt b7 0,(ga75 10)]),box b6 24 C2_]) 0 (sub_cons (t := 0) rfl (sub_cons (t := 1) rfl (sub_cons (t := 2) rfl (sub_cons (t := 3) rfl (sub_cons (t := 4) rfl (sub_cons (t := 5) rfl (sub_cons (t := 6) rfl (sub_cons (t := 7) rfl (sub_cons (t := 8) rfl (sub_cons (t := 9) rfl (sub_cons (t := 10) rfl (sub_cons (t := 11) rfl (sub_cons (t := 12) rfl (sub_cons (t := 14) rfl (sub_cons (t := 15) rfl (sub_cons (t := 16) rfl (sub_cons (t := 17) rfl (sub_cons (t := 18) rfl (sub_cons (t := 19) rfl (sub_cons (t := 20) rfl (sub_cons (t := 21) rfl (sub_cons (t := 33) rfl (sub_nil _))))))))))))))))))))))) (fun _ => rfl)) ?_ ?_
    ·refine ⟨?_,?_,?_,?_,?_,?_,?_,?_,?_,?_,?_,trivial⟩
     ·exact fun done hi hc hcu => draw_exi (I := Z77_I) fun ga77 => draw_value (i := 0) (t := 22) (v := (I 3)) rfl rfl (wanted_none rfl) (fun a => hasA_base) (ov_move rfl) rfl rfl (onlyT_spec (k0 := 0) rfl rfl rfl)
     ·exact fun done hi hc hcu => draw_exi (I := Z77_I) fun ga77 => draw_value (i := 1) (t := 23) (v := (pt b8 3)) rfl rfl (wanted_none rfl) (fun a => (hasA_cons (k := 0) rfl (done_of (j := 0) hcu rfl (by decide) rfl) hasA_base)) (ov_indexArr (o := 0) rfl rfl F_array_55 F_size_9 (by decide) c313) rfl rfl (onlyT_spec (k0 := 1) rfl rfl rfl)
     ·exact fun done hi hc hcu => draw_exi (I := Z77_I) fun ga77 => draw_value (i := 2) (t := 24) (v := (str x97.2.2.2.1)) rfl rfl (wanted_none rfl) (fun a => (hasA_cons (k := 1) rfl (done_of (j := 1) hcu rfl (by decide) rfl) hasA_base)) (ov_load (v := (str x97.2.2.2.1)) rfl F_agg_9 (reads_box1 (i := 2) rfl rfl)) rfl rfl (onlyT_spec (k0 := 2) rfl rfl rfl)
     ·exact fun done hi hc hcu => draw_exi (I := Z77_I) fun ga77 => draw_value (i := 3) (t := 25) (v := (str (x97.2.2.2.1 ++ ([32] : List UInt8)))) rfl rfl (wanted_none rfl) (fun a => (hasA_cons (k := 2) rfl (done_of (j := 2) hcu rfl (by decide) rfl) hasA_base)) (ov_bin rfl rfl fun w => b_add_str _ _ w c314) rfl rfl (onlyT_spec (k0 := 3) rfl rfl rfl)
     ·exact fun done hi hc hcu => draw_exi (I := Z77_I) fun ga77 => draw_value (i := 4) (t := 26) (v := (pt b10 3)) rfl rfl (wanted_none rfl) (fun a => hasA_base) (ov_move rfl) rfl rfl (onlyT_spec (k0 := 4) rfl rfl rfl)
     ·exact fun done hi hc hcu => draw_exi (I := Z77_I) fun ga77 => draw_value (i := 5) (t := 27) (v := (pt b10 3)) rfl rfl (wanted_none rfl) (fun a => (hasA_cons (k := 4) rfl (done_of (j := 4) hcu rfl (by decide) rfl) hasA_base)) (ov_nilCheck rfl) rfl rfl (onlyT_spec (k0 := 5) rfl rfl rfl)
     ·exact fun done hi hc hcu => draw_exi (I := Z77_I) fun ga77 => draw_value (i := 6) (t := 28) (v := (I x143.2.2.2.1)) rfl rfl (wanted_none rfl) (fun a => (hasA_cons (k := 5) rfl (done_of (j := 5) hcu rfl (by decide) rfl) hasA_base)) (ov_load (v := (I x143.2.2.2.1)) rfl F_agg_2 (reads_box1 (i := 1) rfl rfl)) rfl rfl (onlyT_spec (k0 := 6) rfl rfl rfl)
     ·exact fun done hi hc hcu => draw_exi (I := Z77_I) fun ga77 => draw_same (i := 7) (t := 29) (v := (str x166)) rfl rfl (wanted_none rfl) (fun a => (hasA_cons (k := 6) rfl (done_of (j := 6) hcu rfl (by decide) rfl) hasA_base)) (ot_call0 (first := []) (cap := []) (xs := [.tmp 28]) rfl rfl F_call_40 rfl (sheet_number.spec K x143.2.2.2.1 _ h170)) rfl rfl (onlyT_spec (k0 := 7) rfl rfl rfl)
     ·exact fun done hi hc hcu => draw_exi (I := Z77_I) fun ga77 => draw_value (i := 8) (t := 30) (v := (str ((x97.2.2.2.1 ++ ([32] : List UInt8)) ++ x166))) rfl rfl (wanted_none rfl) (fun a => (hasA_cons (k := 7) rfl (done_of (j := 7) hcu rfl (by decide) rfl) (hasA_cons (k := 3) rfl (done_of (j := 3) hcu rfl (by decide) rfl) hasA_base))) (ov_bin rfl rfl fun w => b_add_str _ _ w c315) rfl rfl (onlyT_spec (k0 := 8) rfl rfl rfl)
     ·exact fun done hi hc hcu => draw_exi (I := Z77_I) fun ga77 => draw_value (i := 9) (t := 31) (v := (str (((x97.2.2.2.1 ++ ([32] : List UInt8)) ++ x166) ++ ([10] : List UInt8)))) rfl rfl (wanted_none rfl) (fun a => (hasA_cons (k := 8) rfl (done_of (j := 8) hcu rfl (by decide) rfl) hasA_base)) (ov_bin rfl rfl fun w => b_add_str _ _ w c316) rfl rfl (onlyT_spec (k0 := 9) rfl rfl rfl)
     ·refine fun done hi hc hcu => ent_exi (S := fun ga77 => Z77_I ga77 done) fun ga77 => draw_turnP (i := 10) (t := 32) (x := ga77) (L := Z77_L) (T := Z77_T) (L2 := [own (ga75 10) 5 1 x163.1.length (fl (eI .u8) x163.1),box b10 51 C0_,box b8 55 C1_,box b7 73 [pt b7 0,(ga75 10)],box b6 24 C2_]) [3,0,1,2,4] [1,2,3,0,4] rfl rfl (wanted_none rfl) (fun a => (hasA_cons (k := 9) rfl (done_of (j := 9) hcu rfl (by decide) rfl) hasA_base)) (by simp only [C3_,C2_,C4_,C1_,C7_,C0_,C6_,C5_,Z80_T,Z80_L,Z79_T,Z79_L,Z78_T,Z78_L,Z77_T,Z77_L,hi,sel]) (by decide) rfl (ot_call (Lr := C6_) (first := []) (cap := []) (xs := [.tmp 5,.tmp 31]) rfl rfl F_call_39 rfl (strings_Builder_WriteString_O.spec b7 (ga75 10) x163.1 (((x97.2.2.2.1 ++ ([32] : List UInt8)) ++ x166) ++ ([10] : List UInt8)) _ h171) rfl) (by decide) rfl rfl ?_
      rintro _ _ ⟨_,⟨g0_,rfl,rfl⟩,rfl⟩
      exact ⟨(upb ga77 10 g0_),show some [own g0_ 5 1 x167.1.length (fl (eI .u8) x167.1),box b10 51 C0_,box b8 55 C1_,box b7 73 [pt b7 0,g0_],box b6 24 C2_] = _ by simp [C3_,C2_,C4_,C1_,C7_,C0_,C6_,C5_,Z80_T,Z80_L,Z79_T,Z79_L,Z78_T,Z78_L,Z77_T,Z77_L,up,upb,sel,hi],(tr_same rfl rfl (tr_same rfl rfl (tr_same rfl rfl (tr_same rfl rfl (tr_same rfl rfl (tr_same rfl rfl (tr_same rfl rfl (tr_same rfl rfl (tr_same rfl rfl (tr_same rfl rfl (tr_this tr_nil)))))))))))⟩
    ·intro done hall
     refine ent_exi (S := fun ga77 => Z77_I ga77 done) fun ga77 => ?_
     refine draw_endL [own (ga77 10) 5 1 x167.1.length (fl (eI .u8) x167.1),box b10 51 C0_,box b8 55 C1_,box b7 73 [pt b7 0,(ga77 10)],box b6 24 C2_] (by simp only [C3_,C2_,C4_,C1_,C7_,C0_,C6_,C5_,Z80_T,Z80_L,Z79_T,Z79_L,Z78_T,Z78_L,Z77_T,Z77_L,hall 10 (by decide),sel]) (fun a => (hasA_cons (k := 0) rfl (hall 0 (by decide)) (hasA_cons (k := 1) rfl (hall 1 (by decide)) (hasA_cons (k := 2) rfl (hall 2 (by decide)) (hasA_cons (k := 3) rfl (hall 3 (by decide)) (hasA_cons (k := 4) rfl (hall 4 (by decide)) (hasA_cons (k := 5) rfl (hall 5 (by decide)) (hasA_cons (k := 6) rfl (hall 6 (by decide)) (hasA_cons (k := 7) rfl (hall 7 (by decide)) (hasA_cons (k := 8) rfl (hall 8 (by decide)) (hasA_cons (k := 9) rfl (hall 9 (by decide)) (hasA_cons (k := 10) rfl (hall 10 (by decide)) hasA_base)))))))))))) ?_
     refine ent_region (ent_value (ov_binL (m' := 4) rfl rfl (b_add _ _ _) (by decide)) rfl rfl rfl (ent_value (ov_move rfl) rfl rfl rfl (ent_nil (ent_round (ent_seq (ent_region (ent_value (ov_bin rfl rfl (b_lss _ _ _)) rfl rfl rfl (ent_nil (ent_seq (ent_cond_true rfl rfl (ent_skip ?_)))))))))))
     refine ent_seq (ent_block (ent_seq (ent_region (ent_value (ov_move rfl) rfl rfl rfl (ent_value (ov_indexAggN rfl rfl F_array_53 F_size_52 F_agg_52 (by decide) (by decide) rfl) rfl rfl rfl (ent_value (ov_assign rfl) rfl rfl rfl (ent_value (ov_assign rfl) rfl rfl rfl (ent_nil ?_))))))))
     obtain ⟨c321,H⟩ := gdT H
     obtain ⟨c322,H⟩ := gdT H
     obtain ⟨x170,h174,H⟩ := Option.bind_eq_some_iff.1 H
     obtain ⟨c323,H⟩ := gdT H
     obtain ⟨c324,H⟩ := gdT H
     obtain ⟨x171,h175,H⟩ := Option.bind_eq_some_iff.1 H
     let Z76_T : DT := fun ga79 => [(0,22,I 4),(1,23,pt b8 4),(2,24,str x97.2.2.2.2.1),(3,25,str (x97.2.2.2.2.1 ++ ([32] : List UInt8))),(4,26,pt b10 4),(5,27,pt b10 4),(6,28,I x143.2.2.2.2.1),(7,29,str x170),(8,30,str ((x97.2.2.2.2.1 ++ ([32] : List UInt8)) ++ x170)),(9,31,str (((x97.2.2.2.2.1 ++ ([32] : List UInt8)) ++ x170) ++ ([10] : List UInt8))),(10,32,tU #[I x171.2,Value.nilIface])]
     let Z76_L : DL := fun ga79 done => [sel (done 10) (own (ga79 10) 5 1 x171.1.length (fl (eI .u8) x171.1)) (own (ga77 10) 5 1 x167.1.length (fl (eI .u8) x167.1)),box b10 51 C0_,box b8 55 C1_,sel (done 10) (box b7 73 [pt b7 0,(ga79 10)]) (box b7 73 [pt b7 0,(ga77 10)]),box b6 24 C2_]
     let Z76_I : DI := fun ga79 done a w => StD 35 w0 F [(0,C3_),(1,pt b6 0),(2,S0),(3,I 0),(4,I x96),(5,pt b7 0),(6,pt b8 0),(7,I 4),(8,pt b10 4),(9,C3_),(10,I x96),(11,I x96),(12,bool (x96 != 0)),(14,C4_),(15,C3_),(16,pt b10 0),(17,C5_),(18,I 4),(19,bool true),(20,I 4),(21,pt b10 4),(33,I 4)] (Z76_T ga79) done (Z76_L ga79 done) a w
     refine ent_drawm 11 rfl (fun done a w => ∃ ga79 : Nat → Value,Z76_I ga79 done a w) (by kernel_rfl) (by kernel_rfl) (draw_startG (T := Z76_T) (L' := fun ga79 : Nat → Value => [sel false (own (ga79 10) 5 1 x171.1.length (fl (eI .u8) x171.1)) (own (ga77 10) 5 1 x167.1.length (fl (eI .u8) x167.1)),box b10 51 C0_,box b8 55 C1_,sel false (box b7 73 [pt b7 0,(ga79 10)]) (box b7 73 [pt b7 0,(ga77 10)]),box b6 24 C2_]) 0 (sub_cons (t := 0) rfl (sub_cons (t := 1) rfl (sub_cons (t := 2) rfl (sub_cons (t := 3) rfl (sub_cons (t := 4) rfl (sub_cons (t := 5) rfl (sub_cons (t := 6) rfl (sub_cons (t := 7) rfl (sub_cons (t := 8) rfl (sub_cons (t := 9) rfl (sub_cons (t := 10) rfl (sub_cons (t := 11) rfl (sub_cons (t := 12) rfl (sub_cons (t := 14) rfl (sub_cons (t := 15) rfl (sub_cons (t := 16) rfl (sub_cons (t := 17) rfl (sub_cons (t := 18) rfl (sub_cons (t := 19) rfl (sub_cons (t := 20) rfl (sub_cons (t := 21) rfl (sub_cons (t := 33) rfl (sub_nil _))))))))))))))))))))))) (fun _ => rfl)) ?_ ?_
     ·refine ⟨?_,?_,?_,?_,?_,?_,?_,?_,?_,?_,?_,trivial⟩
      ·exact fun done hi hc hcu => draw_exi (I := Z76_I) fun ga79 => draw_value (i := 0) (t := 22) (v := (I 4)) rfl rfl (wanted_none rfl) (fun a => hasA_base) (ov_move rfl) rfl rfl (onlyT_spec (k0 := 0) rfl rfl rfl)
      ·exact fun done hi hc hcu => draw_exi (I := Z76_I) fun ga79 => draw_value (i := 1) (t := 23) (v := (pt b8 4)) rfl rfl (wanted_none rfl) (fun a => (hasA_cons (k := 0) rfl (done_of (j := 0) hcu rfl (by decide) rfl) hasA_base)) (ov_indexArr (o := 0) rfl rfl F_array_55 F_size_9 (by decide) c321) rfl rfl (onlyT_spec (k0 := 1) rfl rfl rfl)
      ·exact fun done hi hc hcu => draw_exi (I := Z76_I) fun ga79 => draw_value (i := 2) (t := 24) (v := (str x97.2.2.2.2.1)) rfl rfl (wanted_none rfl) (fun a => (hasA_cons (k := 1) rfl (done_of (j := 1) hcu rfl (by decide) rfl) hasA_base)) (ov_load (v := (str x97.2.2.2.2.1)) rfl F_agg_9 (reads_box1 (i := 2) rfl rfl)) rfl rfl (onlyT_spec (k0 := 2) rfl rfl rfl)
      ·exact fun done hi hc hcu => draw_exi (I := Z76_I) fun ga79 => draw_value (i := 3) (t := 25) (v := (str (x97.2.2.2.2.1 ++ ([32] : List UInt8)))) rfl rfl (wanted_none rfl) (fun a => (hasA_cons (k := 2) rfl (done_of (j := 2) hcu rfl (by decide) rfl) hasA_base)) (ov_bin rfl rfl fun w => b_add_str _ _ w c322) rfl rfl (onlyT_spec (k0 := 3) rfl rfl rfl)
      ·exact fun done hi hc hcu => draw_exi (I := Z76_I) fun ga79 => draw_value (i := 4) (t := 26) (v := (pt b10 4)) rfl rfl (wanted_none rfl) (fun a => hasA_base) (ov_move rfl) rfl rfl (onlyT_spec (k0 := 4) rfl rfl rfl)
      ·exact fun done hi hc hcu => draw_exi (I := Z76_I) fun ga79 => draw_value (i := 5) (t := 27) (v := (pt b10 4)) rfl rfl (wanted_none rfl) (fun a => (hasA_cons (k := 4) rfl (done_of (j := 4) hcu rfl (by decide) rfl) hasA_base)) (ov_nilCheck rfl) rfl rfl (onlyT_spec (k0 := 5) rfl rfl rfl)
      ·exact fun done hi hc hcu => draw_exi (I := Z76_I) fun ga79 => draw_value (i := 6) (t := 28) (v := (I x143.2.2.2.2.1)) rfl rfl (wanted_none rfl) (fun a => (hasA_cons (k := 5) rfl (done_of (j := 5) hcu rfl (by decide) rfl) hasA_base)) (ov_load (v := (I x143.2.2.2.2.1)) rfl F_agg_2 (reads_box1 (i := 1) rfl rfl)) rfl rfl (onlyT_spec (k0 := 6) rfl rfl rfl)
      ·exact fun done hi hc hcu => draw_exi (I := Z76_I) fun ga79 => draw_same (i := 7) (t := 29) (v := (str x170)) rfl rfl (wanted_none rfl) (fun a => (hasA_cons (k := 6) rfl (done_of (j := 6) hcu rfl (by decide) rfl) hasA_base)) (ot_call0 (first := []) (cap := []) (xs := [.tmp 28]) rfl rfl F_call_40 rfl (sheet_number.spec K x143.2.2.2.2.1 _ h174)) rfl rfl (onlyT_spec (k0 := 7) rfl rfl rfl)
      ·exact fun done hi hc hcu => draw_exi (I := Z76_I) fun ga79 => draw_value (i := 8) (t := 30) (v := (str ((x97.2.2.2.2.1 ++ ([32] : List UInt8)) ++ x170))) rfl rfl (wanted_none rfl) (fun a => (hasA_cons (k := 7) rfl (done_of (j := 7) hcu rfl (by decide) rfl) (hasA_cons (k := 3) rfl (done_of (j := 3) hcu rfl (by decide) rfl) hasA_base))) (ov_bin rfl rfl fun w => b_add_str _ _ w c323) rfl rfl (onlyT_spec (k0 := 8) rfl rfl rfl)
      ·exact fun done hi hc hcu => draw_exi (I := Z76_I) fun ga79 => draw_value (i := 9) (t := 31) (v := (str (((x97.2.2.2.2.1 ++ ([32] : List UInt8)) ++ x170) ++ ([10] : List UInt8)))) rfl rfl (wanted_none rfl) (fun a => (hasA_cons (k := 8) rfl (done_of (j := 8) hcu rfl (by decide) rfl) hasA_base)) (ov_bin rfl rfl fun w => b_add_str _ _ w c324) rfl rfl (onlyT_spec (k0 := 9) rfl rfl rfl)
      ·refine fun done hi hc hcu => ent_exi (S := fun ga79 => Z76_I ga79 done) fun ga79 => draw_turnP (i := 10) (t := 32) (x := ga79) (L := Z76_L) (T := Z76_T) (L2 := [own (ga77 10) 5 1 x167.1.length (fl (eI .u8) x167.1),box b10 51 C0_,box b8 55 C1_,box b7 73 [pt b7 0,(ga77 10)],box b6 24 C2_]) [3,0,1,2,4] [1,2,3,0,4] rfl rfl (wanted_none rfl) (fun a => (hasA_cons (k := 9) rfl (done_of (j := 9) hcu rfl (by decide) rfl) hasA_base)) (by simp only [C3_,C2_,C4_,C1_,C7_,C0_,C6_,C5_,Z80_T,Z80_L,Z79_T,Z79_L,Z78_T,Z78_L,Z77_T,Z77_L,Z76_T,Z76_L,hi,sel]) (by decide) rfl (ot_call (Lr := C6_) (first := []) (cap := []) (xs := [.tmp 5,.tmp 31]) rfl rfl F_call_39 rfl (strings_Builder_WriteString_O.spec b7 (ga77 10) x167.1 (((x97.2.2.2.2.1 ++ ([32] : List UInt8)) ++ x170) ++ ([10] : List UInt8)) _ h175) rfl) (by decide) rfl rfl ?_
       rintro _ _ ⟨_,⟨g0_,rfl,rfl⟩,rfl⟩
       exact ⟨(upb ga79 10 g0_),show some [own g0_ 5 1 x171.1.length (fl (eI .u8) x171.1),box b10 51 C0_,box b8 55 C1_,box b7 73 [pt b7 0,g0_],box b6 24 C2_] = _ by simp [C3_,C2_,C4_,C1_,C7_,C0_,C6_,C5_,Z80_T,Z80_L,Z79_T,Z79_L,Z78_T,Z78_L,Z77_T,Z77_L,Z76_T,Z76_L,up,upb,sel,hi],(tr_same rfl rfl (tr_same rfl rfl (tr_same rfl rfl (tr_same rfl rfl (tr_same rfl rfl (tr_same rfl rfl (tr_same rfl rfl (tr_same rfl rfl (tr_same rfl rfl (tr_same rfl rfl (tr_this tr_nil)))))))))))⟩
     ·intro done hall
      refine ent_exi (S := fun ga79 => Z76_I ga79 done) fun ga79 => ?_
      refine draw_endL [own (ga79 10) 5 1 x171.1.length (fl (eI .u8) x171.1),box b10 51 C0_,box b8 55 C1_,box b7 73 [pt b7 0,(ga79 10)],box b6 24 C2_] (by simp only [C3_,C2_,C4_,C1_,C7_,C0_,C6_,C5_,Z80_T,Z80_L,Z79_T,Z79_L,Z78_T,Z78_L,Z77_T,Z77_L,Z76_T,Z76_L,hall 10 (by decide),sel]) (fun a => (hasA_cons (k := 0) rfl (hall 0 (by decide)) (hasA_cons (k := 1) rfl (hall 1 (by decide)) (hasA_cons (k := 2) rfl (hall 2 (by decide)) (hasA_cons (k := 3) rfl (hall 3 (by decide)) (hasA_cons (k := 4) rfl (hall 4 (by decide)) (hasA_cons (k := 5) rfl (hall 5 (by decide)) (hasA_cons (k := 6) rfl (hall 6 (by decide)) (hasA_cons (k := 7) rfl (hall 7 (by decide)) (hasA_cons (k := 8) rfl (hall 8 (by decide)) (hasA_cons (k := 9) rfl (hall 9 (by decide)) (hasA_cons (k := 10) rfl (hall 10 (by decide)) hasA_base)))))))))))) ?_
      refine ent_region (ent_value (ov_binL (m' := 5) rfl rfl (b_add _ _ _) (by decide)) rfl rfl rfl (ent_value (ov_move rfl) rfl rfl rfl (ent_nil (ent_round (ent_seq (ent_region (ent_value (ov_bin rfl rfl (b_lss _ _ _)) rfl rfl rfl (ent_nil (ent_seq (ent_cond_true rfl rfl (ent_skip ?_)))))))))))
      refine ent_seq (ent_block (ent_seq (ent_region (ent_value (ov_move rfl) rfl rfl rfl (ent_value (ov_indexAggN rfl rfl F_array_53 F_size_52 F_agg_52 (by decide) (by decide) rfl) rfl rfl rfl (ent_value (ov_assign rfl) rfl rfl rfl (ent_value (ov_assign rfl) rfl rfl rfl (ent_nil ?_))))))))
      obtain ⟨c329,H⟩ := gdT H
      obtain ⟨c330,H⟩ := gdT H
      obtain ⟨x174,h178,H⟩ := Option.bind_eq_some_iff.1 H
      obtain ⟨c331,H⟩ := gdT H
      obtain ⟨c332,H⟩ := gdT H
      obtain ⟨x175,h179,H⟩ := Option.bind_eq_some_iff.1 H
      let Z75_T : DT := fun ga81 => [(0,22,I 5),(1,23,pt b8 5),(2,24,str x97.2.2.2.2.2.1),(3,25,str (x97.2.2.2.2.2.1 ++ ([32] : List UInt8))),(4,26,pt b10 5),(5,27,pt b10 5),(6,28,I x143.2.2.2.2.2.1),(7,29,str x174),(8,30,str ((x97.2.2.2.2.2.1 ++ ([32] : List UInt8)) ++ x174)),(9,31,str (((x97.2.2.2.2.2.1 ++ ([32] : List UInt8)) ++ x174) ++ ([10] : List UInt8))),(10,32,tU #[I x175.2,Value.nilIface])]
      let Z75_L : DL := fun ga81 done => [sel (done 10) (own (ga81 10) 5 1 x175.1.length (fl (eI .u8) x175.1)) (own (ga79 10) 5 1 x171.1.length (fl (eI .u8) x171.1)),box b10 51 C0_,box b8 55 C1_,sel (done 10) (box b7 73 [pt b7 0,(ga81 10)]) (box b7 73 [pt b7 0,(ga79 10)]),box b6 24 C2_]
      let Z75_I : DI := fun ga81 done a w => StD 35 w0 F [(0,C3_),(1,pt b6 0),(2,S0),(3,I 0),(4,I x96),(5,pt b7 0),(6,pt b8 0),(7,I 5),(8,pt b10 5),(9,C3_),(10,I x96),(11,I x96),(12,bool (x96 != 0)),(14,C4_),(15,C3_),(16,pt b10 0),(17,C5_),(18,I 5),(19,bool true),(20,I 5),(21,pt b10 5),(33,I 5)] (Z75_T ga81) done (Z75_L ga81 done) a w
      refine ent_drawm 11 rfl (fun done a w => ∃ ga81 : Nat → Value,Z75_I ga81 done a w) (by kernel_rfl) (by kernel_rfl) (draw_startG (T := Z75_T) (L' := fun ga81 : Nat → Value => [sel false (own (ga81 10) 5 1 x175.1.length (fl (eI .u8) x175.1)) (own (ga79 10) 5 1 x171.1.length (fl (eI .u8) x171.1)),box b10 51 C0_,box b8 55 C1_,sel false (box b7 73 [pt b7 0,(ga81 10)]) (box b7 73 [pt b7 0,(ga79 10)]),box b6 24 C2_]) 0 (sub_cons (t := 0) rfl (sub_cons (t := 1) rfl (sub_cons (t := 2) rfl (sub_cons (t := 3) rfl (sub_cons (t := 4) rfl (sub_cons (t := 5) rfl (sub_cons (t := 6) rfl (sub_cons (t := 7) rfl (sub_cons (t := 8) rfl (sub_cons (t := 9) rfl (sub_cons (t := 10) rfl (sub_cons (t := 11) rfl (sub_cons (t := 12) rfl (sub_cons (t := 14) rfl (sub_cons (t := 15) rfl (sub_cons (t := 16) rfl (sub_cons (t := 17) rfl (sub_cons (t := 18) rfl (sub_cons (t := 19) rfl (sub_cons (t := 20) rfl (sub_cons (t := 21) rfl (sub_cons (t := 33) rfl (sub_nil _))))))))))))))))))))))) (fun _ => rfl)) ?_ ?_
      ·refine ⟨?_,?_,?_,?_,?_,?_,?_,?_,?_,?_,?_,trivial⟩
       ·exact fun done hi hc hcu => draw_exi (I := Z75_I) fun ga81 => draw_value (i := 0) (t := 22) (v := (I 5)) rfl rfl (wanted_none rfl) (fun a => hasA_base) (ov_move rfl) rfl rfl (onlyT_spec (k0 := 0) rfl rfl rfl)
       ·exact fun done hi hc hcu => draw_exi (I := Z75_I) fun ga81 => draw_value (i := 1) (t := 23) (v := (pt b8 5)) rfl rfl (wanted_none rfl) (fun a => (hasA_cons (k := 0) rfl (done_of (j := 0) hcu rfl (by decide) rfl) hasA_base)) (ov_indexArr (o := 0) rfl rfl F_array_55 F_size_9 (by decide) c329) rfl rfl (onlyT_spec (k0 := 1) rfl rfl rfl)
       ·exact fun done hi hc hcu => draw_exi (I := Z75_I) fun ga81 => draw_value (i := 2) (t := 24) (v := (str x97.2.2.2.2.2.1)) rfl rfl (wanted_none rfl) (fun a => (hasA_cons (k := 1) rfl (done_of (j := 1) hcu rfl (by decide) rfl) hasA_base)) (ov_load (v := (str x97.2.2.2.2.2.1)) rfl F_agg_9 (reads_box1 (i := 2) rfl rfl)) rfl rfl (onlyT_spec (k0 := 2) rfl rfl rfl)
       ·exact fun done hi hc hcu => draw_exi (I := Z75_I) fun ga81 => draw_value (i := 3) (t := 25) (v := (str (x97.2.2.2.2.2.1 ++ ([32] : List UInt8)))) rfl rfl (wanted_none rfl) (fun a => (hasA_cons (k := 2) rfl (done_of (j := 2) hcu rfl (by decide) rfl) hasA_base)) (ov_bin rfl rfl fun w => b_add_str _ _ w c330) rfl rfl (onlyT_spec (k0 := 3) rfl rfl rfl)
       ·exact fun done hi hc hcu => draw_exi (I := Z75_I) fun ga81 => draw_value (i := 4) (t := 26) (v := (pt b10 5)) rfl rfl (wanted_none rfl) (fun a => hasA_base) (ov_move rfl) rfl rfl (onlyT_spec (k0 := 4) rfl rfl rfl)
       ·exact fun done hi hc hcu => draw_exi (I := Z75_I) fun ga81 => draw_value (i := 5) (t := 27) (v := (pt b10 5)) rfl rfl (wanted_none rfl) (fun a => (hasA_cons (k := 4) rfl (done_of (j := 4) hcu rfl (by decide) rfl) hasA_base)) (ov_nilCheck rfl) rfl rfl (onlyT_spec (k0 := 5) rfl rfl rfl)
       ·exact fun done hi hc hcu => draw_exi (I := Z75_I) fun ga81 => draw_value (i := 6) (t := 28) (v := (I x143.2.2.2.2.2.1)) rfl rfl (wanted_none rfl) (fun a => (hasA_cons (k := 5) rfl (done_of (j := 5) hcu rfl (by decide) rfl) hasA_base)) (ov_load (v := (I x143.2.2.2.2.2.1)) rfl F_agg_2 (reads_box1 (i := 1) rfl rfl)) rfl rfl (onlyT_spec (k0 := 6) rfl rfl rfl)
       ·exact fun done hi hc hcu => draw_exi (I := Z75_I) fun ga81 => draw_same (i := 7) (t := 29) (v := (str x174)) rfl rfl (wanted_none rfl) (fun a => (hasA_cons (k := 6) rfl (done_of (j := 6) hcu rfl (by decide) rfl) hasA_base)) (ot_call0 (first := []) (cap := []) (xs := [.tmp 28]) rfl rfl F_call_40 rfl (sheet_number.spec K x143.2.2.2.2.2.1 _ h178)) rfl rfl (onlyT_spec (k0 := 7) rfl rfl rfl)
       ·exact fun done hi hc hcu => draw_exi (I := Z75_I) fun ga81 => draw_value (i := 8) (t := 30) (v := (str ((x97.2.2.2.2.2.1 ++ ([32] : List UInt8)) ++ x174))) rfl rfl (wanted_none rfl) (fun a => (hasA_cons (k := 7) rfl (done_of (j := 7) hcu rfl (by decide) rfl) (hasA_cons (k := 3) rfl (done_of (j := 3) hcu rfl (by decide) rfl) hasA_base))) (ov_bin rfl rfl fun w => b_add_str _ _ w c331) rfl rfl (onlyT_spec (k0 := 8) rfl rfl rfl)
       ·exact fun done hi hc hcu => draw_exi (I := Z75_I) fun ga81 => draw_value (i := 9) (t := 31) (v := (str (((x97.2.2.2.2.2.1 ++ ([32] : List UInt8)) ++ x174) ++ ([10] : List UInt8)))) rfl rfl (wanted_none rfl) (fun a => (hasA_cons (k := 8) rfl (done_of (j := 8) hcu rfl (by decide) rfl) hasA_base)) (ov_bin rfl rfl fun w => b_add_str _ _ w c332) rfl rfl (onlyT_spec (k0 := 9) rfl rfl rfl)
       ·refine fun done hi hc hcu => ent_exi (S := fun ga81 => Z75_I ga81 done) fun ga81 => draw_turnP (i := 10) (t := 32) (x := ga81) (L := Z75_L) (T := Z75_T) (L2 := [own (ga79 10) 5 1 x171.1.length (fl (eI .u8) x171.1),box b10 51 C0_,box b8 55 C1_,box b7 73 [pt b7 0,(ga79 10)],box b6 24 C2_]) [3,0,1,2,4] [1,2,3,0,4] rfl rfl (wanted_none rfl) (fun a => (hasA_cons (k := 9) rfl (done_of (j := 9) hcu rfl (by decide) rfl) hasA_base)) (by simp only [C3_,C2_,C4_,C1_,C7_,C0_,C6_,C5_,Z80_T,Z80_L,Z79_T,Z79_L,Z78_T,Z78_L,Z77_T,Z77_L,Z76_T,Z76_L,Z75_T,Z75_L,hi,sel]) (by decide) rfl (ot_call (Lr := C6_) (first := []) (cap := []) (xs := [.tmp 5,.tmp 31]) rfl rfl F_call_39 rfl (strings_Builder_WriteString_O.spec b7 (ga79 10) x171.1 (((x97.2.2.2.2.2.1 ++ ([32] : List UInt8)) ++ x174) ++ ([10] : List UInt8)) _ h179) rfl) (by decide) rfl rfl ?_
        rintro _ _ ⟨_,⟨g0_,rfl,rfl⟩,rfl⟩
        exact ⟨(upb ga81 10 g0_),show some [own g0_ 5 1 x175.1.length (fl (eI .u8) x175.1),box b10 51 C0_,box b8 55 C1_,box b7 73 [pt b7 0,g0_],box b6 24 C2_] = _ by simp [C3_,C2_,C4_,C1_,C7_,C0_,C6_,C5_,Z80_T,Z80_L,Z79_T,Z79_L,Z78_T,Z78_L,Z77_T,Z77_L,Z76_T,Z76_L,Z75_T,Z75_L,up,upb,sel,hi],(tr_same rfl rfl (tr_same rfl rfl (tr_same rfl rfl (tr_same rfl rfl (tr_same rfl rfl (tr_same rfl rfl (tr_same rfl rfl (tr_same rfl rfl (tr_same rfl rfl (tr_same rfl rfl (tr_this tr_nil)))))))))))⟩
      ·intro done hall
       refine ent_exi (S := fun ga81 => Z75_I ga81 done) fun ga81 => ?_
       refine draw_endL [own (ga81 10) 5 1 x175.1.length (fl (eI .u8) x175.1),box b10 51 C0_,box b8 55 C1_,box b7 73 [pt b7 0,(ga81 10)],box b6 24 C2_] (by simp only [C3_,C2_,C4_,C1_,C7_,C0_,C6_,C5_,Z80_T,Z80_L,Z79_T,Z79_L,Z78_T,Z78_L,Z77_T,Z77_L,Z76_T,Z76_L,Z75_T,Z75_L,hall 10 (by decide),sel]) (fun a => (hasA_cons (k := 0) rfl (hall 0 (by decide)) (hasA_cons (k := 1) rfl (hall 1 (by decide)) (hasA_cons (k := 2) rfl (hall 2 (by decide)) (hasA_cons (k := 3) rfl (hall 3 (by decide)) (hasA_cons (k := 4) rfl (hall 4 (by decide)) (hasA_cons (k := 5) rfl (hall 5 (by decide)) (hasA_cons (k := 6) rfl (hall 6 (by decide)) (hasA_cons (k := 7) rfl (hall 7 (by decide)) (hasA_cons (k := 8) rfl (hall 8 (by decide)) (hasA_cons (k := 9) rfl (hall 9 (by decide)) (hasA_cons (k := 10) rfl (hall 10 (by decide)) hasA_base)))))))))))) ?_
       refine ent_region (ent_value (ov_binL (m' := 6) rfl rfl (b_add _ _ _) (by decide)) rfl rfl rfl (ent_value (ov_move rfl) rfl rfl rfl (ent_nil (ent_round (ent_seq (ent_region (ent_value (ov_bin rfl rfl (b_lss _ _ _)) rfl rfl rfl (ent_nil (ent_seq (ent_cond_true rfl rfl (ent_skip ?_)))))))))))
       refine ent_seq (ent_block (ent_seq (ent_region (ent_value (ov_move rfl) rfl rfl rfl (ent_value (ov_indexAggN rfl rfl F_array_53 F_size_52 F_agg_52 (by decide) (by decide) rfl) rfl rfl rfl (ent_value (ov_assign rfl) rfl rfl rfl (ent_value (ov_assign rfl) rfl rfl rfl (ent_nil ?_))))))))
       obtain ⟨c337,H⟩ := gdT H
       obtain ⟨c338,H⟩ := gdT H
       obtain ⟨x178,h182,H⟩ := Option.bind_eq_some_iff.1 H
       obtain ⟨c339,H⟩ := gdT H
       obtain ⟨c340,H⟩ := gdT H
       obtain ⟨x179,h183,H⟩ := Option.bind_eq_some_iff.1 H
       let Z74_T : DT := fun ga83 => [(0,22,I 6),(1,23,pt b8 6),(2,24,str x97.2.2.2.2.2.2.1),(3,25,str (x97.2.2.2.2.2.2.1 ++ ([32] : List UInt8))),(4,26,pt b10 6),(5,27,pt b10 6),(6,28,I x143.2.2.2.2.2.2.1),(7,29,str x178),(8,30,str ((x97.2.2.2.2.2.2.1 ++ ([32] : List UInt8)) ++ x178)),(9,31,str (((x97.2.2.2.2.2.2.1 ++ ([32] : List UInt8)) ++ x178) ++ ([10] : List UInt8))),(10,32,tU #[I x179.2,Value.nilIface])]
       let Z74_L : DL := fun ga83 done => [sel (done 10) (own (ga83 10) 5 1 x179.1.length (fl (eI .u8) x179.1)) (own (ga81 10) 5 1 x175.1.length (fl (eI .u8) x175.1)),box b10 51 C0_,box b8 55 C1_,sel (done 10) (box b7 73 [pt b7 0,(ga83 10)]) (box b7 73 [pt b7 0,(ga81 10)]),box b6 24 C2_]
       let Z74_I : DI := fun ga83 done a w => StD 35 w0 F [(0,C3_),(1,pt b6 0),(2,S0),(3,I 0),(4,I x96),(5,pt b7 0),(6,pt b8 0),(7,I 6),(8,pt b10 6),(9,C3_),(10,I x96),(11,I x96),(12,bool (x96 != 0)),(14,C4_),(15,C3_),(16,pt b10 0),(17,C5_),(18,I 6),(19,bool true),(20,I 6),(21,pt b10 6),(33,I 6)] (Z74_T ga83) done (Z74_L ga83 done) a w
       refine ent_drawm 11 rfl (fun done a w => ∃ ga83 : Nat → Value,Z74_I ga83 done a w) (by kernel_rfl) (by kernel_rfl) (draw_startG (T := Z74_T) (L' := fun ga83 : Nat → Value => [sel false (own (ga83 10) 5 1 x179.1.length (fl (eI .u8) x179.1)) (own (ga81 10) 5 1 x175.1.length (fl (eI .u8) x175.1)),box b10 51 C0_,box b8 55 C1_,sel false (box b7 73 [pt b7 0,(ga83 10)]) (box b7 73 [pt b7 0,(ga81 10)]),box b6 24 C2_]) 0 (sub_cons (t := 0) rfl (sub_cons (t := 1) rfl (sub_cons (t := 2) rfl (sub_cons (t := 3) rfl (sub_cons (t := 4) rfl (sub_cons (t := 5) rfl (sub_cons (t := 6) rfl (sub_cons (t := 7) rfl (sub_cons (t := 8) rfl (sub_cons (t := 9) rfl (sub_cons (t := 10) rfl (sub_cons (t := 11) rfl (sub_cons (t := 12) rfl (sub_cons (t := 14) rfl (sub_cons (t := 15) rfl (sub_cons (t := 16) rfl (sub_cons (t := 17) rfl (sub_cons (t := 18) rfl (sub_cons (t := 19) rfl (sub_cons (t := 20) rfl (sub_cons (t := 21) rfl (sub_cons (t := 33) rfl (sub_nil _))))))))))))))))))))))) (fun _ => rfl)) ?_ ?_
       ·refine ⟨?_,?_,?_,?_,?_,?_,?_,?_,?_,?_,?_,trivial⟩
        ·exact fun done hi hc hcu => draw_exi (I := Z74_I) fun ga83 => draw_value (i := 0) (t := 22) (v := (I 6)) rfl rfl (wanted_none rfl) (fun a => hasA_base) (ov_move rfl) rfl rfl (onlyT_spec (k0 := 0) rfl rfl rfl)
        ·exact fun done hi hc hcu => draw_exi (I := Z74_I) fun ga83 => draw_value (i := 1) (t := 23) (v := (pt b8 6)) rfl rfl (wanted_none rfl) (fun a => (hasA_cons (k := 0) rfl (done_of (j := 0) hcu rfl (by decide) rfl) hasA_base)) (ov_indexArr (o := 0) rfl rfl F_array_55 F_size_9 (by decide) c337) rfl rfl (onlyT_spec (k0 := 1) rfl rfl rfl)
        ·exact fun done hi hc hcu => draw_exi (I := Z74_I) fun ga83 => draw_value (i := 2) (t := 24) (v := (str x97.2.2.2.2.2.2.1)) rfl rfl (wanted_none rfl) (fun a => (hasA_cons (k := 1) rfl (done_of (j := 1) hcu rfl (by decide) rfl) hasA_base)) (ov_load (v := (str x97.2.2.2.2.2.2.1)) rfl F_agg_9 (reads_box1 (i := 2) rfl rfl)) rfl rfl (onlyT_spec (k0 := 2) rfl rfl rfl)
        ·exact fun done hi hc hcu => draw_exi (I := Z74_I) fun ga83 => draw_value (i := 3) (t := 25) (v := (str (x97.2.2.2.2.2.2.1 ++ ([32] : List UInt8)))) rfl rfl (wanted_none rfl) (fun a => (hasA_cons (k := 2) rfl (done_of (j := 2) hcu rfl (by decide) rfl) hasA_base)) (ov_bin rfl rfl fun w => b_add_str _ _ w c338) rfl rfl (onlyT_spec (k0 := 3) rfl rfl rfl)
        ·exact fun done hi hc hcu => draw_exi (I := Z74_I) fun ga83 => draw_value (i := 4) (t := 26) (v := (pt b10 6)) rfl rfl (wanted_none rfl) (fun a => hasA_base) (ov_move rfl) rfl rfl (onlyT_spec (k0 := 4) rfl rfl rfl)
        ·exact fun done hi hc hcu => draw_exi (I := Z74_I) fun ga83 => draw_value (i := 5) (t := 27) (v := (pt b10 6)) rfl rfl (wanted_none rfl) (fun a => (hasA_cons (k := 4) rfl (done_of (j := 4) hcu rfl (by decide) rfl) hasA_base)) (ov_nilCheck rfl) rfl rfl (onlyT_spec (k0 := 5) rfl rfl rfl)
        ·exact fun done hi hc hcu => draw_exi (I := Z74_I) fun ga83 => draw_value (i := 6) (t := 28) (v := (I x143.2.2.2.2.2.2.1)) rfl rfl (wanted_none rfl) (fun a => (hasA_cons (k := 5) rfl (done_of (j := 5) hcu rfl (by decide) rfl) hasA_base)) (ov_load (v := (I x143.2.2.2.2.2.2.1)) rfl F_agg_2 (reads_box1 (i := 1) rfl rfl)) rfl rfl (onlyT_spec (k0 := 6) rfl rfl rfl)
        ·exact fun done hi hc hcu => draw_exi (I := Z74_I) fun ga83 => draw_same (i := 7) (t := 29) (v := (str x178)) rfl rfl (wanted_none rfl) (fun a => (hasA_cons (k := 6) rfl (done_of (j := 6) hcu rfl (by decide) rfl) hasA_base)) (ot_call0 (first := []) (cap := []) (xs := [.tmp 28]) rfl rfl F_call_40 rfl (sheet_number.spec K x143.2.2.2.2.2.2.1 _ h182)) rfl rfl (onlyT_spec (k0 := 7) rfl rfl rfl)
        ·exact fun done hi hc hcu => draw_exi (I := Z74_I) fun ga83 => draw_value (i := 8) (t := 30) (v := (str ((x97.2.2.2.2.2.2.1 ++ ([32] : List UInt8)) ++ x178))) rfl rfl (wanted_none rfl) (fun a => (hasA_cons (k := 7) rfl (done_of (j := 7) hcu rfl (by decide) rfl) (hasA_cons (k := 3) rfl (done_of (j := 3) hcu rfl (by decide) rfl) hasA_base))) (ov_bin rfl rfl fun w => b_add_str _ _ w c339) rfl rfl (onlyT_spec (k0 := 8) rfl rfl rfl)
        ·exact fun done hi hc hcu => draw_exi (I := Z74_I) fun ga83 => draw_value (i := 9) (t := 31) (v := (str (((x97.2.2.2.2.2.2.1 ++ ([32] : List UInt8)) ++ x178) ++ ([10] : List UInt8)))) rfl rfl (wanted_none rfl) (fun a => (hasA_cons (k := 8) rfl (done_of (j := 8) hcu rfl (by decide) rfl) hasA_base)) (ov_bin rfl rfl fun w => b_add_str _ _ w c340) rfl rfl (onlyT_spec (k0 := 9) rfl rfl rfl)
        ·refine fun done hi hc hcu => ent_exi (S := fun ga83 => Z74_I ga83 done) fun ga83 => draw_turnP (i := 10) (t := 32) (x := ga83) (L := Z74_L) (T := Z74_T) (L2 := [own (ga81 10) 5 1 x175.1.length (fl (eI .u8) x175.1),box b10 51 C0_,box b8 55 C1_,box b7 73 [pt b7 0,(ga81 10)],box b6 24 C2_]) [3,0,1,2,4] [1,2,3,0,4] rfl rfl (wanted_none rfl) (fun a => (hasA_cons (k := 9) rfl (done_of (j := 9) hcu rfl (by decide) rfl) hasA_base)) (by simp only [C3_,C2_,C4_,C1_,C7_,C0_,C6_,C5_,Z80_T,Z80_L,Z79_T,Z79_L,Z78_T,Z78_L,Z77_T,Z77_L,Z76_T,Z76_L,Z75_T,Z75_L,Z74_T,Z74_L,hi,sel]) (by decide) rfl (ot_call (Lr := C6_) (first := []) (cap := []) (xs := [.tmp 5,.tmp 31]) rfl rfl F_call_39 rfl (strings_Builder_WriteString_O.spec b7 (ga81 10) x175.1 (((x97.2.2.2.2.2.2.1 ++ ([32] : List UInt8)) ++ x178) ++ ([10] : List UInt8)) _ h183) rfl) (by decide) rfl rfl ?_
         rintro _ _ ⟨_,⟨g0_,rfl,rfl⟩,rfl⟩
         exact ⟨(upb ga83 10 g0_),show some [own g0_ 5 1 x179.1.length (fl (eI .u8) x179.1),box b10 51 C0_,box b8 55 C1_,box b7 73 [pt b7 0,g0_],box b6 24 C2_] = _ by simp [C3_,C2_,C4_,C1_,C7_,C0_,C6_,C5_,Z80_T,Z80_L,Z79_T,Z79_L,Z78_T,Z78_L,Z77_T,Z77_L,Z76_T,Z76_L,Z75_T,Z75_L,Z74_T,Z74_L,up,upb,sel,hi],(tr_same rfl rfl (tr_same rfl rfl (tr_same rfl rfl (tr_same rfl rfl (tr_same rfl rfl (tr_same rfl rfl (tr_same rfl rfl (tr_same rfl rfl (tr_same rfl rfl (tr_same rfl rfl (tr_this tr_nil)))))))))))⟩
       ·intro done hall
        refine ent_exi (S := fun ga83 => Z74_I ga83 done) fun ga83 => ?_
        refine draw_endL [own (ga83 10) 5 1 x179.1.length (fl (eI .u8) x179.1),box b10 51 C0_,box b8 55 C1_,box b7 73 [pt b7 0,(ga83 10)],box b6 24 C2_] (by simp only [C3_,C2_,C4_,C1_,C7_,C0_,C6_,C5_,Z80_T,Z80_L,Z79_T,Z79_L,Z78_T,Z78_L,Z77_T,Z77_L,Z76_T,Z76_L,Z75_T,Z75_L,Z74_T,Z74_L,hall 10 (by decide),sel]) (fun a => (hasA_cons (k := 0) rfl (hall 0 (by decide)) (hasA_cons (k := 1) rfl (hall 1 (by decide)) (hasA_cons (k := 2) rfl (hall 2 (by decide)) (hasA_cons (k := 3) rfl (hall 3 (by decide)) (hasA_cons (k := 4) rfl (hall 4 (by decide)) (hasA_cons (k := 5) rfl (hall 5 (by decide)) (hasA_cons (k := 6) rfl (hall 6 (by decide)) (hasA_cons (k := 7) rfl (hall 7 (by decide)) (hasA_cons (k := 8) rfl (hall 8 (by decide)) (hasA_cons (k := 9) rfl (hall 9 (by decide)) (hasA_cons (k := 10) rfl (hall 10 (by decide)) hasA_base)))))))))))) ?_
        refine ent_region (ent_value (ov_binL (m' := 7) rfl rfl (b_add _ _ _) (by decide)) rfl rfl rfl (ent_value (ov_move rfl) rfl rfl rfl (ent_nil (ent_round (ent_seq (ent_region (ent_value (ov_bin rfl rfl (b_lss _ _ _)) rfl rfl rfl (ent_nil (ent_seq (ent_cond_true rfl rfl (ent_skip ?_)))))))))))
        refine ent_seq (ent_block (ent_seq (ent_region (ent_value (ov_move rfl) rfl rfl rfl (ent_value (ov_indexAggN rfl rfl F_array_53 F_size_52 F_agg_52 (by decide) (by decide) rfl) rfl rfl rfl (ent_value (ov_assign rfl) rfl rfl rfl (ent_value (ov_assign rfl) rfl rfl rfl (ent_nil ?_))))))))
        obtain ⟨c345,H⟩ := gdT H
        obtain ⟨c346,H⟩ := gdT H
        obtain ⟨x182,h186,H⟩ := Option.bind_eq_some_iff.1 H
        obtain ⟨c347,H⟩ := gdT H
        obtain ⟨c348,H⟩ := gdT H
        obtain ⟨x183,h187,H⟩ := Option.bind_eq_some_iff.1 H
        let Z73_T : DT := fun ga85 => [(0,22,I 7),(1,23,pt b8 7),(2,24,str x97.2.2.2.2.2.2.2.1),(3,25,str (x97.2.2.2.2.2.2.2.1 ++ ([32] : List UInt8))),(4,26,pt b10 9),(5,27,pt b10 9),(6,28,I x143.2.2.2.2.2.2.2.2.2),(7,29,str x182),(8,30,str ((x97.2.2.2.2.2.2.2.1 ++ ([32] : List UInt8)) ++ x182)),(9,31,str (((x97.2.2.2.2.2.2.2.1 ++ ([32] : List UInt8)) ++ x182) ++ ([10] : List UInt8))),(10,32,tU #[I x183.2,Value.nilIface])]
        let Z73_L : DL := fun ga85 done => [sel (done 10) (own (ga85 10) 5 1 x183.1.length (fl (eI .u8) x183.1)) (own (ga83 10) 5 1 x179.1.length (fl (eI .u8) x179.1)),box b10 51 C0_,box b8 55 C1_,sel (done 10) (box b7 73 [pt b7 0,(ga85 10)]) (box b7 73 [pt b7 0,(ga83 10)]),box b6 24 C2_]
        let Z73_I : DI := fun ga85 done a w => StD 35 w0 F [(0,C3_),(1,pt b6 0),(2,S0),(3,I 0),(4,I x96),(5,pt b7 0),(6,pt b8 0),(7,I 7),(8,pt b10 9),(9,C3_),(10,I x96),(11,I x96),(12,bool (x96 != 0)),(14,C4_),(15,C3_),(16,pt b10 0),(17,C5_),(18,I 7),(19,bool true),(20,I 7),(21,pt b10 9),(33,I 7)] (Z73_T ga85) done (Z73_L ga85 done) a w
        refine ent_drawm 11 rfl (fun done a w => ∃ ga85 : Nat → Value,Z73_I ga85 done a w) (by kernel_rfl) (by kernel_rfl) (draw_startG (T := Z73_T) (L' := fun ga85 : Nat → Value => [sel false (own (ga85 10) 5 1 x183.1.length (fl (eI .u8) x183.1)) (own (ga83 10) 5 1 x179.1.length (fl (eI .u8) x179.1)),box b10 51 C0_,box b8 55 C1_,sel false (box b7 73 [pt b7 0,(ga85 10)]) (box b7 73 [pt b7 0,(ga83 10)]),box b6 24 C2_]) 0 (sub_cons (t := 0) rfl (sub_cons (t := 1) rfl (sub_cons (t := 2) rfl (sub_cons (t := 3) rfl (sub_cons (t := 4) rfl (sub_cons (t := 5) rfl (sub_cons (t := 6) rfl (sub_cons (t := 7) rfl (sub_cons (t := 8) rfl (sub_cons (t := 9) rfl (sub_cons (t := 10) rfl (sub_cons (t := 11) rfl (sub_cons (t := 12) rfl (sub_cons (t := 14) rfl (sub_cons (t := 15) rfl (sub_cons (t := 16) rfl (sub_cons (t := 17) rfl (sub_cons (t := 18) rfl (sub_cons (t := 19) rfl (sub_cons (t := 20) rfl (sub_cons (t := 21) rfl (sub_cons (t := 33) rfl (sub_nil _))))))))))))))))))))))) (fun _ => rfl)) ?_ ?_
        ·refine ⟨?_,?_,?_,?_,?_,?_,?_,?_,?_,?_,?_,trivial⟩
         ·exact fun done hi hc hcu => draw_exi (I := Z73_I) fun ga85 => draw_value (i := 0) (t := 22) (v := (I 7)) rfl rfl (wanted_none rfl) (fun a => hasA_base) (ov_move rfl) rfl rfl (onlyT_spec (k0 := 0) rfl rfl rfl)
         ·exact fun done hi hc hcu => draw_exi (I := Z73_I) fun ga85 => draw_value (i := 1) (t := 23) (v := (pt b8 7)) rfl rfl (wanted_none rfl) (fun a => (hasA_cons (k := 0) rfl (done_of (j := 0) hcu rfl (by decide) rfl) hasA_base)) (ov_indexArr (o := 0) rfl rfl F_array_55 F_size_9 (by decide) c345) rfl rfl (onlyT_spec (k0 := 1) rfl rfl rfl)
         ·exact fun done hi hc hcu => draw_exi (I := Z73_I) fun ga85 => draw_value (i := 2) (t := 24) (v := (str x97.2.2.2.2.2.2.2.1)) rfl rfl (wanted_none rfl) (fun a => (hasA_cons (k := 1) rfl (done_of (j := 1) hcu rfl (by decide) rfl) hasA_base)) (ov_load (v := (str x97.2.2.2.2.2.2.2.1)) rfl F_agg_9 (reads_box1 (i := 2) rfl rfl)) rfl rfl (onlyT_spec (k0 := 2) rfl rfl rfl)
         ·exact fun done hi hc hcu => draw_exi (I := Z73_I) fun ga85 => draw_value (i := 3) (t := 25) (v := (str (x97.2.2.2.2.2.2.2.1 ++ ([32] : List UInt8)))) rfl rfl (wanted_none rfl) (fun a => (hasA_cons (k := 2) rfl (done_of (j := 2) hcu rfl (by decide) rfl) hasA_base)) (ov_bin rfl rfl fun w => b_add_str _ _ w c346) rfl rfl (onlyT_spec (k0 := 3) rfl rfl rfl)
         ·exact fun done hi hc hcu => draw_exi (I := Z73_I) fun ga85 => draw_value (i := 4) (t := 26) (v := (pt b10 9)) rfl rfl (wanted_none rfl) (fun a => hasA_base) (ov_move rfl) rfl rfl (onlyT_spec (k0 := 4) rfl rfl rfl)
         ·exact fun done hi hc hcu => draw_exi (I := Z73_I) fun ga85 => draw_value (i := 5) (t := 27) (v := (pt b10 9)) rfl rfl (wanted_none rfl) (fun a => (hasA_cons (k := 4) rfl (done_of (j := 4) hcu rfl (by decide) rfl) hasA_base)) (ov_nilCheck rfl) rfl rfl (onlyT_spec (k0 := 5) rfl rfl rfl)
         ·exact fun done hi hc hcu => draw_exi (I := Z73_I) fun ga85 => draw_value (i := 6) (t := 28) (v := (I x143.2.2.2.2.2.2.2.2.2)) rfl rfl (wanted_none rfl) (fun a => (hasA_cons (k := 5) rfl (done_of (j := 5) hcu rfl (by decide) rfl) hasA_base)) (ov_load (v := (I x143.2.2.2.2.2.2.2.2.2)) rfl F_agg_2 (reads_box1 (i := 1) rfl rfl)) rfl rfl (onlyT_spec (k0 := 6) rfl rfl rfl)
         ·exact fun done hi hc hcu => draw_exi (I := Z73_I) fun ga85 => draw_same (i := 7) (t := 29) (v := (str x182)) rfl rfl (wanted_none rfl) (fun a => (hasA_cons (k := 6) rfl (done_of (j := 6) hcu rfl (by decide) rfl) hasA_base)) (ot_call0 (first := []) (cap := []) (xs := [.tmp 28]) rfl rfl F_call_40 rfl (sheet_number.spec K x143.2.2.2.2.2.2.2.2.2 _ h186)) rfl rfl (onlyT_spec (k0 := 7) rfl rfl rfl)
         ·exact fun done hi hc hcu => draw_exi (I := Z73_I) fun ga85 => draw_value (i := 8) (t := 30) (v := (str ((x97.2.2.2.2.2.2.2.1 ++ ([32] : List UInt8)) ++ x182))) rfl rfl (wanted_none rfl) (fun a => (hasA_cons (k := 7) rfl (done_of (j := 7) hcu rfl (by decide) rfl) (hasA_cons (k := 3) rfl (done_of (j := 3) hcu rfl (by decide) rfl) hasA_base))) (ov_bin rfl rfl fun w => b_add_str _ _ w c347) rfl rfl (onlyT_spec (k0 := 8) rfl rfl rfl)
         ·exact fun done hi hc hcu => draw_exi (I := Z73_I) fun ga85 => draw_value (i := 9) (t := 31) (v := (str (((x97.2.2.2.2.2.2.2.1 ++ ([32] : List UInt8)) ++ x182) ++ ([10] : List UInt8)))) rfl rfl (wanted_none rfl) (fun a => (hasA_cons (k := 8) rfl (done_of (j := 8) hcu rfl (by decide) rfl) hasA_base)) (ov_bin rfl rfl fun w => b_add_str _ _ w c348) rfl rfl (onlyT_spec (k0 := 9) rfl rfl rfl)
         ·refine fun done hi hc hcu => ent_exi (S := fun ga85 => Z73_I ga85 done) fun ga85 => draw_turnP (i := 10) (t := 32) (x := ga85) (L := Z73_L) (T := Z73_T) (L2 := [own (ga83 10) 5 1 x179.1.length (fl (eI .u8) x179.1),box b10 51 C0_,box b8 55 C1_,box b7 73 [pt b7 0,(ga83 10)],box b6 24 C2_]) [3,0,1,2,4] [1,2,3,0,4] rfl rfl (wanted_none rfl) (fun a => (hasA_cons (k := 9) rfl (done_of (j := 9) hcu rfl (by decide) rfl) hasA_base)) (by simp only [C3_,C2_,C4_,C1_,C7_,C0_,C6_,C5_,Z80_T,Z80_L,Z79_T,Z79_L,Z78_T,Z78_L,Z77_T,Z77_L,Z76_T,Z76_L,Z75_T,Z75_L,Z74_T,Z74_L,Z73_T,Z73_L,hi,sel]) (by decide) rfl (ot_call (Lr := C6_) (first := []) (cap := []) (xs := [.tmp 5,.tmp 31]) rfl rfl F_call_39 rfl (strings_Builder_WriteString_O.spec b7 (ga83 10) x179.1 (((x97.2.2.2.2.2.2.2.1 ++ ([32] : List UInt8)) ++ x182) ++ ([10] : List UInt8)) _ h187) rfl) (by decide) rfl rfl ?_
          rintro _ _ ⟨_,⟨g0_,rfl,rfl⟩,rfl⟩
          exact ⟨(upb ga85 10 g0_),show some [own g0_ 5 1 x183.1.length (fl (eI .u8) x183.1),box b10 51 C0_,box b8 55 C1_,box b7 73 [pt b7 0,g0_],box b6 24 C2_] = _ by simp [C3_,C2_,C4_,C1_,C7_,C0_,C6_,C5_,Z80_T,Z80_L,Z79_T,Z79_L,Z78_T,Z78_L,Z77_T,Z77_L,Z76_T,Z76_L,Z75_T,Z75_L,Z74_T,Z74_L,Z73_T,Z73_L,up,upb,sel,hi],(tr_same rfl rfl (tr_same rfl rfl (tr_same rfl rfl (tr_same rfl rfl (tr_same rfl rfl (tr_same rfl rfl (tr_same rfl rfl (tr_same rfl rfl (tr_same rfl rfl (tr_same rfl rfl (tr_this tr_nil)))))))))))⟩
        ·intro done hall
         refine ent_exi (S := fun ga85 => Z73_I ga85 done) fun ga85 => ?_
         refine draw_endL [own (ga85 10) 5 1 x183.1.length (fl (eI .u8) x183.1),box b10 51 C0_,box b8 55 C1_,box b7 73 [pt b7 0,(ga85 10)],box b6 24 C2_] (by simp only [C3_,C2_,C4_,C1_,C7_,C0_,C6_,C5_,Z80_T,Z80_L,Z79_T,Z79_L,Z78_T,Z78_L,Z77_T,Z77_L,Z76_T,Z76_L,Z75_T,Z75_L,Z74_T,Z74_L,Z73_T,Z73_L,hall 10 (by decide),sel]) (fun a => (hasA_cons (k := 0) rfl (hall 0 (by decide)) (hasA_cons (k := 1) rfl (hall 1 (by decide)) (hasA_cons (k := 2) rfl (hall 2 (by decide)) (hasA_cons (k := 3) rfl (hall 3 (by decide)) (hasA_cons (k := 4) rfl (hall 4 (by decide)) (hasA_cons (k := 5) rfl (hall 5 (by decide)) (hasA_cons (k := 6) rfl (hall 6 (by decide)) (hasA_cons (k := 7) rfl (hall 7 (by decide)) (hasA_cons (k := 8) rfl (hall 8 (by decide)) (hasA_cons (k := 9) rfl (hall 9 (by decide)) (hasA_cons (k := 10) rfl (hall 10 (by decide)) hasA_base)))))))))))) ?_
         refine ent_region (ent_value (ov_binL (m' := 8) rfl rfl (b_add _ _ _) (by decide)) rfl rfl rfl (ent_value (ov_move rfl) rfl rfl rfl (ent_nil (ent_round (ent_seq (ent_region (ent_value (ov_bin rfl rfl (b_lss _ _ _)) rfl rfl rfl (ent_nil (ent_seq (ent_cond_true rfl rfl (ent_skip ?_)))))))))))
         refine ent_seq (ent_block (ent_seq (ent_region (ent_value (ov_move rfl) rfl rfl rfl (ent_value (ov_indexAggN rfl rfl F_array_53 F_size_52 F_agg_52 (by decide) (by decide) rfl) rfl rfl rfl (ent_value (ov_assign rfl) rfl rfl rfl (ent_value (ov_assign rfl) rfl rfl rfl (ent_nil ?_))))))))
         obtain ⟨c353,H⟩ := gdT H
         obtain ⟨c354,H⟩ := gdT H
         obtain ⟨x186,h190,H⟩ := Option.bind_eq_some_iff.1 H
         obtain ⟨c355,H⟩ := gdT H
         obtain ⟨c356,H⟩ := gdT H
         obtain ⟨x187,h191,H⟩ := Option.bind_eq_some_iff.1 H
         let Z72_T : DT := fun ga87 => [(0,22,I 8),(1,23,pt b8 8),(2,24,str x97.2.2.2.2.2.2.2.2),(3,25,str (x97.2.2.2.2.2.2.2.2 ++ ([32] : List UInt8))),(4,26,pt b10 8),(5,27,pt b10 8),(6,28,I x143.2.2.2.2.2.2.2.2.1),(7,29,str x186),(8,30,str ((x97.2.2.2.2.2.2.2.2 ++ ([32] : List UInt8)) ++ x186)),(9,31,str (((x97.2.2.2.2.2.2.2.2 ++ ([32] : List UInt8)) ++ x186) ++ ([10] : List UInt8))),(10,32,tU #[I x187.2,Value.nilIface])]
         let Z72_L : DL := fun ga87 done => [sel (done 10) (own (ga87 10) 5 1 x187.1.length (fl (eI .u8) x187.1)) (own (ga85 10) 5 1 x183.1.length (fl (eI .u8) x183.1)),box b10 51 C0_,box b8 55 C1_,sel (done 10) (box b7 73 [pt b7 0,(ga87 10)]) (box b7 73 [pt b7 0,(ga85 10)]),box b6 24 C2_]
         let Z72_I : DI := fun ga87 done a w => StD 35 w0 F [(0,C3_),(1,pt b6 0),(2,S0),(3,I 0),(4,I x96),(5,pt b7 0),(6,pt b8 0),(7,I 8),(8,pt b10 8),(9,C3_),(10,I x96),(11,I x96),(12,bool (x96 != 0)),(14,C4_),(15,C3_),(16,pt b10 0),(17,C5_),(18,I 8),(19,bool true),(20,I 8),(21,pt b10 8),(33,I 8)] (Z72_T ga87) done (Z72_L ga87 done) a w
         refine ent_drawm 11 rfl (fun done a w => ∃ ga87 : Nat → Value,Z72_I ga87 done a w) (by kernel_rfl) (by kernel_rfl) (draw_startG (T := Z72_T) (L' := fun ga87 : Nat → Value => [sel false (own (ga87 10) 5 1 x187.1.length (fl (eI .u8) x187.1)) (own (ga85 10) 5 1 x183.1.length (fl (eI .u8) x183.1)),box b10 51 C0_,box b8 55 C1_,sel false (box b7 73 [pt b7 0,(ga87 10)]) (box b7 73 [pt b7 0,(ga85 10)]),box b6 24 C2_]) 0 (sub_cons (t := 0) rfl (sub_cons (t := 1) rfl (sub_cons (t := 2) rfl (sub_cons (t := 3) rfl (sub_cons (t := 4) rfl (sub_cons (t := 5) rfl (sub_cons (t := 6) rfl (sub_cons (t := 7) rfl (sub_cons (t := 8) rfl (sub_cons (t := 9) rfl (sub_cons (t := 10) rfl (sub_cons (t := 11) rfl (sub_cons (t := 12) rfl (sub_cons (t := 14) rfl (sub_cons (t := 15) rfl (sub_cons (t := 16) rfl (sub_cons (t := 17) rfl (sub_cons (t := 18) rfl (sub_cons (t := 19) rfl (sub_cons (t := 20) rfl (sub_cons (t := 21) rfl (sub_cons (t := 33) rfl (sub_nil _))))))))))))))))))))))) (fun _ => rfl)) ?_ ?_
         ·refine ⟨?_,?_,?_,?_,?_,?_,?_,?_,?_,?_,?_,trivial⟩
          ·exact fun done hi hc hcu => draw_exi (I := Z72_I) fun ga87 => draw_value (i := 0) (t := 22) (v := (I 8)) rfl rfl (wanted_none rfl) (fun a => hasA_base) (ov_move rfl) rfl rfl (onlyT_spec (k0 := 0) rfl rfl rfl)
          ·exact fun done hi hc hcu => draw_exi (I := Z72_I) fun ga87 => draw_value (i := 1) (t := 23) (v := (pt b8 8)) rfl rfl (wanted_none rfl) (fun a => (hasA_cons (k := 0) rfl (done_of (j := 0) hcu rfl (by decide) rfl) hasA_base)) (ov_indexArr (o := 0) rfl rfl F_array_55 F_size_9 (by decide) c353) rfl rfl (onlyT_spec (k0 := 1) rfl rfl rfl)
          ·exact fun done hi hc hcu => draw_exi (I := Z72_I) fun ga87 => draw_value (i := 2) (t := 24) (v := (str x97.2.2.2.2.2.2.2.2)) rfl rfl (wanted_none rfl) (fun a => (hasA_cons (k := 1) rfl (done_of (j := 1) hcu rfl (by decide) rfl) hasA_base)) (ov_load (v := (str x97.2.2.2.2.2.2.2.2)) rfl F_agg_9 (reads_box1 (i := 2) rfl rfl)) rfl rfl (onlyT_spec (k0 := 2) rfl rfl rfl)
          ·exact fun done hi hc hcu => draw_exi (I := Z72_I) fun ga87 => draw_value (i := 3) (t := 25) (v := (str (x97.2.2.2.2.2.2.2.2 ++ ([32] : List UInt8)))) rfl rfl (wanted_none rfl) (fun a => (hasA_cons (k := 2) rfl (done_of (j := 2) hcu rfl (by decide) rfl) hasA_base)) (ov_bin rfl rfl fun w => b_add_str _ _ w c354) rfl rfl (onlyT_spec (k0 := 3) rfl rfl rfl)
          ·exact fun done hi hc hcu => draw_exi (I := Z72_I) fun ga87 => draw_value (i := 4) (t := 26) (v := (pt b10 8)) rfl rfl (wanted_none rfl) (fun a => hasA_base) (ov_move rfl) rfl rfl (onlyT_spec (k0 := 4) rfl rfl rfl)
          ·exact fun done hi hc hcu => draw_exi (I := Z72_I) fun ga87 => draw_value (i := 5) (t := 27) (v := (pt b10 8)) rfl rfl (wanted_none rfl) (fun a => (hasA_cons (k := 4) rfl (done_of (j := 4) hcu rfl (by decide) rfl) hasA_base)) (ov_nilCheck rfl) rfl rfl (onlyT_spec (k0 := 5) rfl rfl rfl)
          ·exact fun done hi hc hcu => draw_exi (I := Z72_I) fun ga87 => draw_value (i := 6) (t := 28) (v := (I x143.2.2.2.2.2.2.2.2.1)) rfl rfl (wanted_none rfl) (fun a => (hasA_cons (k := 5) rfl (done_of (j := 5) hcu rfl (by decide) rfl) hasA_base)) (ov_load (v := (I x143.2.2.2.2.2.2.2.2.1)) rfl F_agg_2 (reads_box1 (i := 1) rfl rfl)) rfl rfl (onlyT_spec (k0 := 6) rfl rfl rfl)
          ·exact fun done hi hc hcu => draw_exi (I := Z72_I) fun ga87 => draw_same (i := 7) (t := 29) (v := (str x186)) rfl rfl (wanted_none rfl) (fun a => (hasA_cons (k := 6) rfl (done_of (j := 6) hcu rfl (by decide) rfl) hasA_base)) (ot_call0 (first := []) (cap := []) (xs := [.tmp 28]) rfl rfl F_call_40 rfl (sheet_number.spec K x143.2.2.2.2.2.2.2.2.1 _ h190)) rfl rfl (onlyT_spec (k0 := 7) rfl rfl rfl)
          ·exact fun done hi hc hcu => draw_exi (I := Z72_I) fun ga87 => draw_value (i := 8) (t := 30) (v := (str ((x97.2.2.2.2.2.2.2.2 ++ ([32] : List UInt8)) ++ x186))) rfl rfl (wanted_none rfl) (fun a => (hasA_cons (k := 7) rfl (done_of (j := 7) hcu rfl (by decide) rfl) (hasA_cons (k := 3) rfl (done_of (j := 3) hcu rfl (by decide) rfl) hasA_base))) (ov_bin rfl rfl fun w => b_add_str _ _ w c355) rfl rfl (onlyT_spec (k0 := 8) rfl rfl rfl)
          ·exact fun done hi hc hcu => draw_exi (I := Z72_I) fun ga87 => draw_value (i := 9) (t := 31) (v := (str (((x97.2.2.2.2.2.2.2.2 ++ ([32] : List UInt8)) ++ x186) ++ ([10] : List UInt8)))) rfl rfl (wanted_none rfl) (fun a => (hasA_cons (k := 8) rfl (done_of (j := 8) hcu rfl (by decide) rfl) hasA_base)) (ov_bin rfl rfl fun w => b_add_str _ _ w c356) rfl rfl (onlyT_spec (k0 := 9) rfl rfl rfl)
          ·refine fun done hi hc hcu => ent_exi (S := fun ga87 => Z72_I ga87 done) fun ga87 => draw_turnP (i := 10) (t := 32) (x := ga87) (L := Z72_L) (T := Z72_T) (L2 := [own (ga85 10) 5 1 x183.1.length (fl (eI .u8) x183.1),box b10 51 C0_,box b8 55 C1_,box b7 73 [pt b7 0,(ga85 10)],box b6 24 C2_]) [3,0,1,2,4] [1,2,3,0,4] rfl rfl (wanted_none rfl) (fun a => (hasA_cons (k := 9) rfl (done_of (j := 9) hcu rfl (by decide) rfl) hasA_base)) (by simp only [C3_,C2_,C4_,C1_,C7_,C0_,C6_,C5_,Z80_T,Z80_L,Z79_T,Z79_L,Z78_T,Z78_L,Z77_T,Z77_L,Z76_T,Z76_L,Z75_T,Z75_L,Z74_T,Z74_L,Z73_T,Z73_L,Z72_T,Z72_L,hi,sel]) (by decide) rfl (ot_call (Lr := C6_) (first := []) (cap := []) (xs := [.tmp 5,.tmp 31]) rfl rfl F_call_39 rfl (strings_Builder_WriteString_O.spec b7 (ga85 10) x183.1 (((x97.2.2.2.2.2.2.2.2 ++ ([32] : List UInt8)) ++ x186) ++ ([10] : List UInt8)) _ h191) rfl) (by decide) rfl rfl ?_
           rintro _ _ ⟨_,⟨g0_,rfl,rfl⟩,rfl⟩
           exact ⟨(upb ga87 10 g0_),show some [own g0_ 5 1 x187.1.length (fl (eI .u8) x187.1),box b10 51 C0_,box b8 55 C1_,box b7 73 [pt b7 0,g0_],box b6 24 C2_] = _ by simp [C3_,C2_,C4_,C1_,C7_,C0_,C6_,C5_,Z80_T,Z80_L,Z79_T,Z79_L,Z78_T,Z78_L,Z77_T,Z77_L,Z76_T,Z76_L,Z75_T,Z75_L,Z74_T,Z74_L,Z73_T,Z73_L,Z72_T,Z72_L,up,upb,sel,hi],(tr_same rfl rfl (tr_same rfl rfl (tr_same rfl rfl (tr_same rfl rfl (tr_same rfl rfl (tr_same rfl rfl (tr_same rfl rfl (tr_same rfl rfl (tr_same rfl rfl (tr_same rfl rfl (tr_this tr_nil)))))))))))⟩
         ·intro done hall
          refine ent_exi (S := fun ga87 => Z72_I ga87 done) fun ga87 => ?_
          refine draw_endL [own (ga87 10) 5 1 x187.1.length (fl (eI .u8) x187.1),box b10 51 C0_,box b8 55 C1_,box b7 73 [pt b7 0,(ga87 10)],box b6 24 C2_] (by simp only [C3_,C2_,C4_,C1_,C7_,C0_,C6_,C5_,Z80_T,Z80_L,Z79_T,Z79_L,Z78_T,Z78_L,Z77_T,Z77_L,Z76_T,Z76_L,Z75_T,Z75_L,Z74_T,Z74_L,Z73_T,Z73_L,Z72_T,Z72_L,hall 10 (by decide),sel]) (fun a => (hasA_cons (k := 0) rfl (hall 0 (by decide)) (hasA_cons (k := 1) rfl (hall 1 (by decide)) (hasA_cons (k := 2) rfl (hall 2 (by decide)) (hasA_cons (k := 3) rfl (hall 3 (by decide)) (hasA_cons (k := 4) rfl (hall 4 (by decide)) (hasA_cons (k := 5) rfl (hall 5 (by decide)) (hasA_cons (k := 6) rfl (hall 6 (by decide)) (hasA_cons (k := 7) rfl (hall 7 (by decide)) (hasA_cons (k := 8) rfl (hall 8 (by decide)) (hasA_cons (k := 9) rfl (hall 9 (by decide)) (hasA_cons (k := 10) rfl (hall 10 (by decide)) hasA_base)))))))))))) ?_
          refine ent_region (ent_value (ov_binL (m' := 9) rfl rfl (b_add _ _ _) (by decide)) rfl rfl rfl (ent_value (ov_move rfl) rfl rfl rfl (ent_nil (ent_round (ent_seq (ent_region (ent_value (ov_bin rfl rfl (b_lss _ _ _)) rfl rfl rfl (ent_nil (ent_seq (ent_cond_false rfl rfl (ent_exit ?_)))))))))))
          refine ent_seq (ent_region ?_)
          obtain ⟨x188,h192,H⟩ := Option.bind_eq_some_iff.1 H
          refine ent_pick [3,0,1,2,4] (by decide) rfl ?_
          refine ent_op (ot_call (Lr := C6_) (first := []) (cap := []) (xs := [.tmp 5]) rfl rfl F_call_41 rfl (strings_Builder_String_O.spec b7 (ga87 10) x187.1 _ h192) rfl) rfl rfl rfl ?_
          rintro _ _ ⟨_,⟨rfl,rfl⟩,rfl⟩
          refine ent_value (ov_assign rfl) rfl rfl rfl (ent_value (ov_assign rfl) rfl rfl rfl (ent_nil (ent_retc ?_)))
          cases H
          refine ent_pick [] (by decide) rfl ?_
          exact ret_mem (vs := [str x188,I 0]) rfl ⟨rfl,⟨rfl,trivial⟩⟩ _ rfl ⟨rfl,rfl⟩

theorem strings_CutPrefix.spec (a0 a1 : List UInt8) (r : List UInt8 × Bool) (H : strings_CutPrefix a0 a1 = r) : FnSpec Try.prog 29 [str a0,str a1] [] (fun v M => v = (tU #[str r.1,bool r.2]) ∧ M = []) := by
 subst H
 exact spec_cutPrefix (fun s p w => Try.strings_CutPrefix s p w) a0 a1

theorem words_Number.spec (K : Nat) (a0 : List UInt8) (r : (Int × Bool)) (H : words_Number K a0 = some r) : FnSpec Try.prog 30 [str a0] [] (fun v M => v = (tU #[I r.1,bool r.2]) ∧ M = []) := by
 unfold words_Number at H
 refine spec_of Try.func30 rfl 73 rfl (Nat.le_of_ble_eq_true rfl) fun F w0 => ?_
 show Ent (St 73 w0 F [(0,str a0)] []) _
 refine ent_seq (ent_region (ent_value (ov_assign rfl) rfl rfl rfl (ent_value (ov_assign rfl) rfl rfl rfl (ent_nil (ent_seq (ent_region (ent_value (ov_move rfl) rfl rfl rfl ?_)))))))
 obtain ⟨x4,h2,H⟩ := thn_elim H
 refine ent_op (ot_call0 (first := []) (cap := []) (xs := [.tmp 10,.const (str ([45] : List UInt8))]) rfl rfl F_call_29 rfl (strings_CutPrefix.spec a0 ([45] : List UInt8) _ h2)) rfl rfl rfl ?_
 rintro _ _ ⟨rfl,rfl⟩
 refine ent_value (ov_move rfl) rfl rfl rfl (ent_value (ov_extract rfl rfl) rfl rfl rfl (ent_value (ov_extract rfl rfl) rfl rfl rfl (ent_value (ov_assign rfl) rfl rfl rfl (ent_value (ov_assign rfl) rfl rfl rfl (ent_nil ?_)))))
 obtain ⟨x5,H13,H⟩ := Option.bind_eq_some_iff.1 H
 refine ent_seq_cut (fun a w => ∃ v3,x5 = Sum.inl v3 ∧ St 73 w0 F [(2,I 0),(4,str x4.1),(5,bool x4.2)] [] a w) ?_ ?_
 ·refine ent_seq (ent_region (ent_value (ov_move rfl) rfl rfl rfl (ent_value (ov_bin rfl rfl (b_eql_str _ _)) rfl rfl rfl (ent_value (ov_move rfl) rfl rfl rfl ?_))))
  refine htT H13 (fun c139 H13 => ?_) fun c139 H13 => ?_
  ·refine ent_off rfl rfl rfl (eq_t c139) rfl rfl ?_
   refine ent_off rfl rfl rfl (eq_t c139) rfl rfl ?_
   refine ent_off rfl rfl rfl (eq_t c139) rfl rfl ?_
   refine ent_off rfl rfl rfl (eq_t c139) rfl rfl ?_
   refine ent_offu rfl rfl rfl rfl rfl ?_
   refine ent_offu rfl rfl rfl rfl rfl ?_
   refine ent_offu rfl rfl rfl rfl rfl ?_
   refine ent_off rfl rfl rfl (eq_t c139) rfl rfl ?_
   refine ent_value (ov_pick rfl rfl rfl (pick_t (eq_t c139))) rfl rfl rfl (ent_value (ov_move rfl) rfl rfl rfl ?_)
   refine ent_off rfl rfl rfl rfl rfl rfl ?_
   refine ent_off rfl rfl rfl rfl rfl rfl ?_
   refine ent_offu rfl rfl rfl rfl rfl ?_
   refine ent_offu rfl rfl rfl rfl rfl ?_
   refine ent_off rfl rfl rfl rfl rfl rfl ?_
   refine ent_value (ov_pick rfl rfl rfl rfl) rfl rfl rfl (ent_nil (ent_cond_true rfl rfl (ent_seq (ent_region (ent_value (ov_assign rfl) rfl rfl rfl (ent_value (ov_assign rfl) rfl rfl rfl (ent_nil (ent_retc ?_))))))))
   cases H13
   have H14 := Option.some.inj (show some _ = some _ from H)
   cases H14
   refine ent_pick [] (by decide) rfl ?_
   exact ret_mem (vs := [I 0,B0]) rfl ⟨rfl,⟨rfl,trivial⟩⟩ _ rfl ⟨rfl,rfl⟩
  refine ent_value_on (ov_move rfl) rfl rfl rfl (eq_f c139) rfl rfl ?_
  refine ent_value_on (ov_lenS rfl Try.underlying9) rfl rfl rfl (eq_f c139) rfl rfl ?_
  refine ent_value_on (ov_bin rfl rfl (b_gtr _ _ _)) rfl rfl rfl (eq_f c139) rfl rfl ?_
  refine ent_value_on (ov_move rfl) rfl rfl rfl (eq_f c139) rfl rfl ?_
  refine htF H13 (fun c140 H13 => ?_) fun c140 H13 => ?_
  ·refine ent_off rfl rfl rfl (decide_eq_false c140) rfl rfl ?_
   refine ent_off rfl rfl rfl (decide_eq_false c140) rfl rfl ?_
   refine ent_off rfl rfl rfl (decide_eq_false c140) rfl rfl ?_
   refine ent_value_on (ov_pick rfl rfl rfl (pick_f (decide_eq_false c140))) rfl rfl rfl (eq_f c139) rfl rfl ?_
   refine ent_value (ov_pick rfl rfl rfl (pick_f (eq_f c139))) rfl rfl rfl (ent_value (ov_move rfl) rfl rfl rfl ?_)
   refine ent_value_on (ov_move rfl) rfl rfl rfl rfl rfl rfl ?_
   refine ent_value_on (ov_move rfl) rfl rfl rfl rfl rfl rfl ?_
   refine htF H13 (fun c145 H13 => ?_) fun c145 H13 => ?_
   ·refine ent_off rfl rfl rfl (Bool.eq_false_iff.2 c145) rfl rfl ?_
    refine ent_off rfl rfl rfl (Bool.eq_false_iff.2 c145) rfl rfl ?_
    refine ent_value_on (ov_pick rfl rfl rfl (pick_f (Bool.eq_false_iff.2 c145))) rfl rfl rfl rfl rfl rfl ?_
    refine ent_value (ov_pick rfl rfl rfl rfl) rfl rfl rfl (ent_nil (ent_cond_false rfl rfl (ent_skip ?_)))
    cases H13
    exact ent_fin [] (by decide) rfl (sub_cons (t := 2) rfl (sub_cons (t := 4) rfl (sub_cons (t := 5) rfl (sub_nil _)))) fun a w h => ⟨_,rfl,h⟩
   refine ent_value_on (ov_move rfl) rfl rfl rfl c145 rfl rfl ?_
   refine ent_value_on (ov_bin rfl rfl (b_eql_str _ _)) rfl rfl rfl c145 rfl rfl ?_
   refine ent_value_on (ov_pick rfl rfl rfl (pick_t c145)) rfl rfl rfl rfl rfl rfl ?_
   refine ent_value (ov_pick rfl rfl rfl rfl) rfl rfl rfl (ent_nil ?_)
   refine htF H13 (fun c146 H13 => ?_) fun c146 H13 => ?_
   ·refine ent_cond_false rfl (eq_f c146) (ent_skip ?_)
    cases H13
    exact ent_fin [] (by decide) rfl (sub_cons (t := 2) rfl (sub_cons (t := 4) rfl (sub_cons (t := 5) rfl (sub_nil _)))) fun a w h => ⟨_,rfl,h⟩
   refine ent_cond_true rfl (eq_t c146) (ent_seq (ent_region (ent_value (ov_assign rfl) rfl rfl rfl (ent_value (ov_assign rfl) rfl rfl rfl (ent_nil (ent_retc ?_))))))
   cases H13
   have H17 := Option.some.inj (show some _ = some _ from H)
   cases H17
   refine ent_pick [] (by decide) rfl ?_
   exact ret_mem (vs := [I 0,B0]) rfl ⟨rfl,⟨rfl,trivial⟩⟩ _ rfl ⟨rfl,rfl⟩
  refine ent_value_on (ov_move rfl) rfl rfl rfl (decide_eq_true c140) rfl rfl ?_
  obtain ⟨c141,H13⟩ := gdT H13
  refine ent_value_on (ov_indexS rfl rfl Try.underlying9 (by decide) c141) rfl rfl rfl (decide_eq_true c140) rfl rfl ?_
  refine ent_value_on (ov_bin rfl rfl (b_eql _ _ _)) rfl rfl rfl (decide_eq_true c140) rfl rfl ?_
  refine ent_value_on (ov_pick rfl rfl rfl (pick_t (decide_eq_true c140))) rfl rfl rfl (eq_f c139) rfl rfl ?_
  refine ent_value (ov_pick rfl rfl rfl (pick_f (eq_f c139))) rfl rfl rfl (ent_value (ov_move rfl) rfl rfl rfl ?_)
  refine htT H13 (fun c142 H13 => ?_) fun c142 H13 => ?_
  ·refine ent_off rfl rfl rfl (eq_t c142) rfl rfl ?_
   refine ent_off rfl rfl rfl (eq_t c142) rfl rfl ?_
   refine ent_offu rfl rfl rfl rfl rfl ?_
   refine ent_offu rfl rfl rfl rfl rfl ?_
   refine ent_off rfl rfl rfl (eq_t c142) rfl rfl ?_
   refine ent_value (ov_pick rfl rfl rfl (pick_t (eq_t c142))) rfl rfl rfl (ent_nil (ent_cond_true rfl rfl (ent_seq (ent_region (ent_value (ov_assign rfl) rfl rfl rfl (ent_value (ov_assign rfl) rfl rfl rfl (ent_nil (ent_retc ?_))))))))
   cases H13
   have H15 := Option.some.inj (show some _ = some _ from H)
   cases H15
   refine ent_pick [] (by decide) rfl ?_
   exact ret_mem (vs := [I 0,B0]) rfl ⟨rfl,⟨rfl,trivial⟩⟩ _ rfl ⟨rfl,rfl⟩
  refine ent_value_on (ov_move rfl) rfl rfl rfl (eq_f c142) rfl rfl ?_
  refine ent_value_on (ov_move rfl) rfl rfl rfl (eq_f c142) rfl rfl ?_
  refine htF H13 (fun c143 H13 => ?_) fun c143 H13 => ?_
  ·refine ent_off rfl rfl rfl (Bool.eq_false_iff.2 c143) rfl rfl ?_
   refine ent_off rfl rfl rfl (Bool.eq_false_iff.2 c143) rfl rfl ?_
   refine ent_value_on (ov_pick rfl rfl rfl (pick_f (Bool.eq_false_iff.2 c143))) rfl rfl rfl (eq_f c142) rfl rfl ?_
   refine ent_value (ov_pick rfl rfl rfl (pick_f (eq_f c142))) rfl rfl rfl (ent_nil (ent_cond_false rfl rfl (ent_skip ?_)))
   cases H13
   exact ent_fin [] (by decide) rfl (sub_cons (t := 2) rfl (sub_cons (t := 4) rfl (sub_cons (t := 5) rfl (sub_nil _)))) fun a w h => ⟨_,rfl,h⟩
  refine ent_value_on (ov_move rfl) rfl rfl rfl c143 rfl rfl ?_
  refine ent_value_on (ov_bin rfl rfl (b_eql_str _ _)) rfl rfl rfl c143 rfl rfl ?_
  refine ent_value_on (ov_pick rfl rfl rfl (pick_t c143)) rfl rfl rfl (eq_f c142) rfl rfl ?_
  refine ent_value (ov_pick rfl rfl rfl (pick_f (eq_f c142))) rfl rfl rfl (ent_nil ?_)
  refine htF H13 (fun c144 H13 => ?_) fun c144 H13 => ?_
  ·refine ent_cond_false rfl (eq_f c144) (ent_skip ?_)
   cases H13
   exact ent_fin [] (by decide) rfl (sub_cons (t := 2) rfl (sub_cons (t := 4) rfl (sub_cons (t := 5) rfl (sub_nil _)))) fun a w h => ⟨_,rfl,h⟩
  refine ent_cond_true rfl (eq_t c144) (ent_seq (ent_region (ent_value (ov_assign rfl) rfl rfl rfl (ent_value (ov_assign rfl) rfl rfl rfl (ent_nil (ent_retc ?_))))))
  cases H13
  have H16 := Option.some.inj (show some _ = some _ from H)
  cases H16
  refine ent_pick [] (by decide) rfl ?_
  exact ret_mem (vs := [I 0,B0]) rfl ⟨rfl,⟨rfl,trivial⟩⟩ _ rfl ⟨rfl,rfl⟩
 ·refine ent_exi fun v3 => ent_and fun e_ => ?_
  subst e_
  rw [cas_inl] at H
  obtain ⟨x6,H19,H⟩ := Option.bind_eq_some_iff.1 H
  refine ent_seq_cut (fun a w => ∃ v4,x6 = Sum.inl v4 ∧ St 73 w0 F [(2,I v4),(5,bool x4.2)] [] a w) ?_ ?_
  ·refine ent_seq (ent_region (ent_value (ov_move rfl) rfl rfl rfl ?_))
   obtain ⟨c202,H19⟩ := gdT H19
   refine ent_op (ot_s2b rfl Try.underlying9 F_slice_71 Try.underlying5 c202) rfl rfl rfl ?_
   rintro sv4 _ rfl
   refine ent_value (ov_len 0 rfl F_slice_71 rfl (isRd_frzx 5)) rfl rfl rfl (ent_value (ov_move rfl) rfl rfl rfl (ent_nil (ent_block ?_)))
   refine ent_loop (fun k a w => ∃ i10,∃ i11,words_Number_l0 K x4 k i10 i11 = some x6 ∧ St 73 w0 F [(2,I i10),(5,bool x4.2),(34,sv4),(35,I ((byts x4.1).length : Int)),(36,I i11)] [(frz sv4 5 (byts x4.1).length (fl (eI .u8) (byts x4.1)))] a w) K ?_ ?_
   ·exact ent_fin [0] (by decide) rfl (sub_cons (t := 2) rfl (sub_cons (t := 5) rfl (sub_cons (t := 34) rfl (sub_cons (t := 35) rfl (sub_cons (t := 36) rfl (sub_nil _)))))) fun a w h => ⟨_,_,H19,h⟩
   ·refine fun k => ent_exi fun i10 => ent_exi fun i11 => ent_and fun H20 => ?_
    cases k with
    | zero => exact absurd H20 (by simp [words_Number_l0])
    | succ k =>
     rw [words_Number_l0] at H20
     refine ent_seq (ent_region (ent_value (ov_bin rfl rfl (b_lss _ _ _)) rfl rfl rfl (ent_nil (ent_seq ?_))))
     refine htF H20 (fun c238 H20 => ?_) fun c238 H20 => ?_
     ·refine ent_cond_false rfl (decide_eq_false c238) (ent_exit ?_)
      cases H20
      exact ent_fin [] (by decide) rfl (sub_cons (t := 2) rfl (sub_cons (t := 5) rfl (sub_nil _))) fun a w h => ⟨_,rfl,h⟩
     refine ent_cond_true rfl (decide_eq_true c238) (ent_skip (ent_seq (ent_block (ent_seq (ent_region ?_)))))
     obtain ⟨c248,H20⟩ := gdT H20
     refine ent_value (ov_indexAddr (sz := 0) 0 rfl rfl F_slice_71 F_size_5 rfl (isRd_frzx 5) c248 c238) rfl rfl rfl ?_
     refine ent_value (ov_load (v := (int .u8 ((byts x4.1).getD i11.toNat 0))) rfl F_agg_5 (reads_rd (i := 0) rfl (isRd_frzx 5) (by simp) (fl_read0 (eI_len _) (ix_lt c248 c238) rfl))) rfl rfl rfl ?_
     refine ent_value (ov_assign rfl) rfl rfl rfl (ent_nil (ent_seq (ent_region (ent_value (ov_move rfl) rfl rfl rfl (ent_value (ov_convert rfl (c_int Try.underlying5 Try.underlying2)) rfl rfl rfl (ent_value (ov_bin rfl rfl (b_sub _ _ _) ) rfl rfl rfl (ent_value (ov_assign rfl) rfl rfl rfl (ent_nil (ent_seq (ent_seq (ent_region ?_)))))))))))
     refine ent_value (ov_move rfl) rfl rfl rfl (ent_value (ov_bin rfl rfl (b_lss _ _ _)) rfl rfl rfl (ent_value (ov_move rfl) rfl rfl rfl ?_))
     refine htT H20 (fun c253 H20 => ?_) fun c253 H20 => ?_
     ·refine ent_off rfl rfl rfl (decide_eq_true c253) rfl rfl ?_
      refine ent_off rfl rfl rfl (decide_eq_true c253) rfl rfl ?_
      refine ent_value (ov_pick rfl rfl rfl (pick_t (decide_eq_true c253))) rfl rfl rfl (ent_value (ov_move rfl) rfl rfl rfl ?_)
      refine ent_off rfl rfl rfl rfl rfl rfl ?_
      refine ent_off rfl rfl rfl rfl rfl rfl ?_
      refine ent_value (ov_pick rfl rfl rfl rfl) rfl rfl rfl (ent_value (ov_move rfl) rfl rfl rfl ?_)
      refine ent_off rfl rfl rfl rfl rfl rfl ?_
      refine ent_off rfl rfl rfl rfl rfl rfl ?_
      refine ent_off rfl rfl rfl rfl rfl rfl ?_
      refine ent_off rfl rfl rfl rfl rfl rfl ?_
      refine ent_off rfl rfl rfl rfl rfl rfl ?_
      refine ent_value (ov_pick rfl rfl rfl rfl) rfl rfl rfl (ent_nil (ent_cond_true rfl rfl (ent_seq (ent_region (ent_value (ov_assign rfl) rfl rfl rfl (ent_value (ov_assign rfl) rfl rfl rfl (ent_nil (ent_retc ?_))))))))
      cases H20
      have H21 := Option.some.inj (show some _ = some _ from H)
      cases H21
      refine ent_pick [] (by decide) rfl ?_
      exact ret_mem (vs := [I 0,B0]) rfl ⟨rfl,⟨rfl,trivial⟩⟩ _ rfl ⟨rfl,rfl⟩
     refine ent_value_on (ov_move rfl) rfl rfl rfl (decide_eq_false c253) rfl rfl ?_
     refine ent_value_on (ov_bin rfl rfl (b_gtr _ _ _)) rfl rfl rfl (decide_eq_false c253) rfl rfl ?_
     refine ent_value (ov_pick rfl rfl rfl (pick_f (decide_eq_false c253))) rfl rfl rfl (ent_value (ov_move rfl) rfl rfl rfl ?_)
     refine htT H20 (fun c254 H20 => ?_) fun c254 H20 => ?_
     ·refine ent_off rfl rfl rfl (decide_eq_true c254) rfl rfl ?_
      refine ent_off rfl rfl rfl (decide_eq_true c254) rfl rfl ?_
      refine ent_value (ov_pick rfl rfl rfl (pick_t (decide_eq_true c254))) rfl rfl rfl (ent_value (ov_move rfl) rfl rfl rfl ?_)
      refine ent_off rfl rfl rfl rfl rfl rfl ?_
      refine ent_off rfl rfl rfl rfl rfl rfl ?_
      refine ent_off rfl rfl rfl rfl rfl rfl ?_
      refine ent_off rfl rfl rfl rfl rfl rfl ?_
      refine ent_off rfl rfl rfl rfl rfl rfl ?_
      refine ent_value (ov_pick rfl rfl rfl rfl) rfl rfl rfl (ent_nil (ent_cond_true rfl rfl (ent_seq (ent_region (ent_value (ov_assign rfl) rfl rfl rfl (ent_value (ov_assign rfl) rfl rfl rfl (ent_nil (ent_retc ?_))))))))
      cases H20
      have H22 := Option.some.inj (show some _ = some _ from H)
      cases H22
      refine ent_pick [] (by decide) rfl ?_
      exact ret_mem (vs := [I 0,B0]) rfl ⟨rfl,⟨rfl,trivial⟩⟩ _ rfl ⟨rfl,rfl⟩
     refine ent_value_on (ov_move rfl) rfl rfl rfl (decide_eq_false c254) rfl rfl ?_
     refine ent_value_on (ov_bin rfl rfl (b_lss _ _ _)) rfl rfl rfl (decide_eq_false c254) rfl rfl ?_
     refine ent_value (ov_pick rfl rfl rfl (pick_f (decide_eq_false c254))) rfl rfl rfl (ent_value (ov_move rfl) rfl rfl rfl ?_)
     refine htT H20 (fun c255 H20 => ?_) fun c255 H20 => ?_
     ·refine ent_off rfl rfl rfl (decide_eq_true c255) rfl rfl ?_
      refine ent_off rfl rfl rfl (decide_eq_true c255) rfl rfl ?_
      refine ent_off rfl rfl rfl (decide_eq_true c255) rfl rfl ?_
      refine ent_off rfl rfl rfl (decide_eq_true c255) rfl rfl ?_
      refine ent_off rfl rfl rfl (decide_eq_true c255) rfl rfl ?_
      refine ent_value (ov_pick rfl rfl rfl (pick_t (decide_eq_true c255))) rfl rfl rfl (ent_nil (ent_cond_true rfl rfl (ent_seq (ent_region (ent_value (ov_assign rfl) rfl rfl rfl (ent_value (ov_assign rfl) rfl rfl rfl (ent_nil (ent_retc ?_))))))))
      cases H20
      have H23 := Option.some.inj (show some _ = some _ from H)
      cases H23
      refine ent_pick [] (by decide) rfl ?_
      exact ret_mem (vs := [I 0,B0]) rfl ⟨rfl,⟨rfl,trivial⟩⟩ _ rfl ⟨rfl,rfl⟩
     refine ent_value_on (ov_move rfl) rfl rfl rfl (decide_eq_false c255) rfl rfl ?_
     refine ent_value_on (ov_bin rfl rfl (b_mul _ _ _) ) rfl rfl rfl (decide_eq_false c255) rfl rfl ?_
     refine ent_value_on (ov_move rfl) rfl rfl rfl (decide_eq_false c255) rfl rfl ?_
     refine ent_value_on (ov_bin rfl rfl (b_add _ _ _) ) rfl rfl rfl (decide_eq_false c255) rfl rfl ?_
     refine ent_value_on (ov_bin rfl rfl (b_lss _ _ _)) rfl rfl rfl (decide_eq_false c255) rfl rfl ?_
     refine ent_value (ov_pick rfl rfl rfl (pick_f (decide_eq_false c255))) rfl rfl rfl (ent_nil ?_)
     refine htT H20 (fun c256 H20 => ?_) fun c256 H20 => ?_
     ·refine ent_cond_true rfl (decide_eq_true c256) (ent_seq (ent_region (ent_value (ov_assign rfl) rfl rfl rfl (ent_value (ov_assign rfl) rfl rfl rfl (ent_nil (ent_retc ?_))))))
      cases H20
      have H24 := Option.some.inj (show some _ = some _ from H)
      cases H24
      refine ent_pick [] (by decide) rfl ?_
      exact ret_mem (vs := [I 0,B0]) rfl ⟨rfl,⟨rfl,trivial⟩⟩ _ rfl ⟨rfl,rfl⟩
     refine ent_cond_false rfl (decide_eq_false c256) (ent_skip (ent_region (ent_value (ov_move rfl) rfl rfl rfl (ent_value (ov_bin rfl rfl (b_mul _ _ _) ) rfl rfl rfl (ent_value (ov_move rfl) rfl rfl rfl (ent_value (ov_bin rfl rfl (b_sub _ _ _) ) rfl rfl rfl (ent_value (ov_assign rfl) rfl rfl rfl (ent_nil (ent_region (ent_value (ov_bin rfl rfl (b_add _ _ _) ) rfl rfl rfl (ent_value (ov_move rfl) rfl rfl rfl ?_)))))))))))
     refine ent_nil ?_
     exact ent_fin [0] (by decide) rfl (sub_cons (t := 2) rfl (sub_cons (t := 5) rfl (sub_cons (t := 34) rfl (sub_cons (t := 35) rfl (sub_cons (t := 36) rfl (sub_nil _)))))) fun a w h => ⟨k,Nat.lt_succ_self k,_,_,H20,h⟩
  ·refine ent_exi fun v4 => ent_and fun e_ => ?_
   subst e_
   rw [cas_inl] at H
   refine ent_seq (ent_block (ent_seq (ent_region (ent_value (ov_move rfl) rfl rfl rfl (ent_value (ov_assign rfl) rfl rfl rfl (ent_nil ?_))))))
   refine htT H (fun c259 H => ?_) fun c259 H => ?_
   ·refine ent_cond_true rfl c259 (ent_seq (ent_region (ent_value (ov_move rfl) rfl rfl rfl (ent_value (ov_assign rfl) rfl rfl rfl (ent_value (ov_assign rfl) rfl rfl rfl (ent_nil (ent_retc ?_)))))))
    cases H
    refine ent_pick [] (by decide) rfl ?_
    exact ret_mem (vs := [I v4,bool true]) rfl ⟨rfl,⟨rfl,trivial⟩⟩ _ rfl ⟨rfl,rfl⟩
   refine ent_cond_false rfl (Bool.eq_false_iff.2 c259) (ent_seq (ent_region (ent_value (ov_move rfl) rfl rfl rfl (ent_value (ov_bin rfl rfl (b_eql _ _ _)) rfl rfl rfl (ent_value (ov_assign rfl) rfl rfl rfl (ent_nil ?_))))))
   refine htT H (fun c260 H => ?_) fun c260 H => ?_
   ·refine ent_cond_true rfl (eq_t c260) (ent_seq (ent_region (ent_value (ov_assign rfl) rfl rfl rfl (ent_value (ov_assign rfl) rfl rfl rfl (ent_nil (ent_retc ?_))))))
    cases H
    refine ent_pick [] (by decide) rfl ?_
    exact ret_mem (vs := [I 0,B0]) rfl ⟨rfl,⟨rfl,trivial⟩⟩ _ rfl ⟨rfl,rfl⟩
   refine ent_cond_false rfl (eq_f c260) (ent_skip (ent_seq (ent_region (ent_value (ov_move rfl) rfl rfl rfl (ent_value (ov_un rfl (u_neg _ _)) rfl rfl rfl (ent_value (ov_assign rfl) rfl rfl rfl (ent_value (ov_assign rfl) rfl rfl rfl (ent_nil (ent_retc ?_)))))))))
   cases H
   refine ent_pick [] (by decide) rfl ?_
   exact ret_mem (vs := [I (w64 (0 - v4)),bool true]) rfl ⟨rfl,⟨rfl,trivial⟩⟩ _ rfl ⟨rfl,rfl⟩

theorem sheet_sheet_done.spec (p0 : Nat) (p0_0 p0_1 : Int) (p0_2 p0_3 : Int) (p0_4 p0_5 : Int) (p0_6 p0_7 : Int) (p0_8 p0_9 : Int) (r : (Int × Int × Int × Int × Int × Int × Int × Int × Int × Int × Int)) (H : sheet_sheet_done p0_0 p0_1 p0_2 p0_3 p0_4 p0_5 p0_6 p0_7 p0_8 p0_9 = some r) : FnSpec Try.prog 31 [pt p0 0] [box p0 51 [I p0_0,I p0_1,I p0_2,I p0_3,I p0_4,I p0_5,I p0_6,I p0_7,I p0_8,I p0_9]] (fun v M => v = (tU #[agg #[I r.2.2.1,I r.2.2.2.1,I r.2.2.2.2.1,I r.2.2.2.2.2.1,I r.2.2.2.2.2.2.1,I r.2.2.2.2.2.2.2.1,I r.2.2.2.2.2.2.2.2.1,I r.2.2.2.2.2.2.2.2.2.1,I r.2.2.2.2.2.2.2.2.2.2],I r.1]) ∧ M = [box p0 51 [I p0_0,I p0_1,I p0_2,I p0_3,I p0_4,I p0_5,I p0_6,I r.2.1,I p0_8,I p0_9]]) := by
 unfold sheet_sheet_done at H
 refine spec_of Try.func31 rfl 39 rfl (Nat.le_of_ble_eq_true rfl) fun F w0 => ?_
 let C4_ : Value := agg #[I 0,I 0,I 0,I 0,I 0,I 0,I 0,I 0,I 0]
 let C3_ : List Value := [I p0_0,I p0_1,I p0_2,I p0_3,I p0_4,I p0_5,I p0_6,I p0_9,I p0_8,I p0_9]
 let C2_ : List Value := [I p0_0,I p0_1,I p0_2,I p0_3,I p0_4,I p0_5,I p0_6,I p0_7,I p0_8,I p0_9]
 let C1_ : List Value := [I p0_0,I p0_1,I p0_2,I p0_3,I p0_4,I p0_5,I p0_6,I p0_9,I p0_8]
 let C0_ : List Value := [I 0,I 0,I 0,I 0,I 0,I 0,I 0,I 0,I 0]
 show Ent (St 39 w0 F [(0,pt p0 0)] [box p0 51 C2_]) _
 refine ent_seq (ent_region ?_)
 refine ent_op (ot_alloc F_zero_24) rfl rfl rfl ?_
 rintro _ _ ⟨b2,rfl,rfl⟩
 refine ent_value (ov_assign rfl) rfl rfl rfl (ent_nil (ent_seq (ent_seq (ent_region (ent_value (ov_move rfl) rfl rfl rfl (ent_value (ov_nilCheck rfl) rfl rfl rfl (ent_value (ov_fieldAddr (sz := 0) (o := 0) rfl F_field_51_1 F_size_2) rfl rfl rfl (ent_value (ov_load (v := (I p0_9)) rfl F_agg_2 (reads_box1 (i := 1) rfl rfl)) rfl rfl rfl (ent_value (ov_bin rfl rfl (b_gtr _ _ _)) rfl rfl rfl (ent_value (ov_move rfl) rfl rfl rfl ?_))))))))))
 refine htT H (fun c9 H => ?_) fun c9 H => ?_
 ·refine ent_off rfl rfl rfl (decide_eq_true c9) rfl rfl ?_
  refine ent_off rfl rfl rfl (decide_eq_true c9) rfl rfl ?_
  refine ent_off rfl rfl rfl (decide_eq_true c9) rfl rfl ?_
  refine ent_off rfl rfl rfl (decide_eq_true c9) rfl rfl ?_
  refine ent_off rfl rfl rfl (decide_eq_true c9) rfl rfl ?_
  refine ent_value (ov_pick rfl rfl rfl (pick_t (decide_eq_true c9))) rfl rfl rfl (ent_nil (ent_cond_true rfl rfl (ent_seq (ent_region (ent_value (ov_build (is := []) (xs := []) (vs := []) rfl rfl (build_struct (cs := C0_) F_zero_24 F_places_24 rfl)) rfl rfl rfl ?_)))))
  refine ent_op0 (ot_storeG (cs := C0_) (cs' := C0_) (us := C0_) (L' := [box b2 24 C0_,box p0 51 C2_]) 0 rfl rfl rfl (one_all rfl) F_size_24 rfl rfl (by simp [C4_,C3_,C2_,C1_,C0_]) rfl) rfl rfl ?_
  rintro _ _ rfl
  refine ent_value (ov_assign rfl) rfl rfl rfl (ent_nil (ent_retc ?_))
  first | (have e_ := Option.some.inj (show some _ = some _ from H); subst e_) | subst H
  exact ret_memp [1] (by decide) rfl (vs := [C4_,I 2]) rfl ⟨⟨_,C0_,rfl,reads_boxW (i := 0) rfl,.inl ⟨F_agg_24,F_size_24,rfl⟩⟩,⟨rfl,trivial⟩⟩ _ rfl ⟨rfl,rfl⟩
 refine ent_value_on (ov_move rfl) rfl rfl rfl (decide_eq_false c9) rfl rfl ?_
 refine ent_value_on (ov_nilCheck rfl) rfl rfl rfl (decide_eq_false c9) rfl rfl ?_
 refine ent_value_on (ov_fieldAddr (sz := 0) (o := 0) rfl F_field_51_1 F_size_2) rfl rfl rfl (decide_eq_false c9) rfl rfl ?_
 refine ent_value_on (ov_load (v := (I p0_9)) rfl F_agg_2 (reads_box1 (i := 1) rfl rfl)) rfl rfl rfl (decide_eq_false c9) rfl rfl ?_
 refine ent_value_on (ov_bin rfl rfl (b_lss _ _ _)) rfl rfl rfl (decide_eq_false c9) rfl rfl ?_
 refine ent_value (ov_pick rfl rfl rfl (pick_f (decide_eq_false c9))) rfl rfl rfl (ent_nil ?_)
 refine htT H (fun c10 H => ?_) fun c10 H => ?_
 ·refine ent_cond_true rfl (decide_eq_true c10) (ent_seq (ent_region (ent_value (ov_build (is := []) (xs := []) (vs := []) rfl rfl (build_struct (cs := C0_) F_zero_24 F_places_24 rfl)) rfl rfl rfl ?_)))
  refine ent_op0 (ot_storeG (cs := C0_) (cs' := C0_) (us := C0_) (L' := [box b2 24 C0_,box p0 51 C2_]) 0 rfl rfl rfl (one_all rfl) F_size_24 rfl rfl (by simp [C4_,C3_,C2_,C1_,C0_]) rfl) rfl rfl ?_
  rintro _ _ rfl
  refine ent_value (ov_assign rfl) rfl rfl rfl (ent_nil (ent_retc ?_))
  first | (have e_ := Option.some.inj (show some _ = some _ from H); subst e_) | subst H
  exact ret_memp [1] (by decide) rfl (vs := [C4_,I 2]) rfl ⟨⟨_,C0_,rfl,reads_boxW (i := 0) rfl,.inl ⟨F_agg_24,F_size_24,rfl⟩⟩,⟨rfl,trivial⟩⟩ _ rfl ⟨rfl,rfl⟩
 refine ent_cond_false rfl (decide_eq_false c10) (ent_skip (ent_seq (ent_region (ent_value (ov_move rfl) rfl rfl rfl (ent_value (ov_move rfl) rfl rfl rfl (ent_value (ov_nilCheck rfl) rfl rfl rfl (ent_value (ov_fieldAddr (sz := 0) (o := 0) rfl F_field_51_1 F_size_2) rfl rfl rfl (ent_value (ov_load (v := (I p0_9)) rfl F_agg_2 (reads_box1 (i := 1) rfl rfl)) rfl rfl rfl (ent_value (ov_nilCheck rfl) rfl rfl rfl (ent_value (ov_fieldAddr (sz := 8) (o := 0) rfl F_field_51_0 F_size_24) rfl rfl rfl (ent_value (ov_fieldAddr (sz := 0) (o := 0) rfl F_field_24_7 F_size_3) rfl rfl rfl ?_)))))))))))
 refine ent_op0 (ot_storeG (cs := C2_) (cs' := C3_) (us := [I p0_9]) (L' := [box b2 24 C0_,box p0 51 C3_]) 1 rfl rfl rfl (one_all rfl) F_size_3 rfl rfl (by simp [C4_,C3_,C2_,C1_,C0_]) rfl) rfl rfl ?_
 rintro _ _ rfl
 refine ent_nil (ent_seq (ent_seq (ent_region (ent_value (ov_move rfl) rfl rfl rfl (ent_value (ov_nilCheck rfl) rfl rfl rfl (ent_value (ov_fieldAddr (sz := 8) (o := 0) rfl F_field_51_0 F_size_24) rfl rfl rfl (ent_value (ov_load_agg (vs := C1_) rfl F_agg_24 F_size_24 (reads_boxN (i := 1) rfl rfl)) rfl rfl rfl ?_)))))))
 obtain ⟨x4,h4,H⟩ := Option.bind_eq_some_iff.1 H
 refine ent_op (ot_call0 (first := []) (cap := []) (xs := [.tmp 29]) rfl rfl F_call_37 rfl (policy_Check.spec p0_0 p0_1 p0_2 p0_3 p0_4 p0_5 p0_6 p0_9 p0_8 _ h4)) rfl rfl rfl ?_
 rintro _ _ ⟨rfl,rfl⟩
 refine ent_value (ov_assign rfl) rfl rfl rfl (ent_nil (ent_seq (ent_region (ent_value (ov_move rfl) rfl rfl rfl (ent_value (ov_bin rfl rfl (b_neq _ _ _)) rfl rfl rfl (ent_nil ?_))))))
 refine htT H (fun c12 H => ?_) fun c12 H => ?_
 ·refine ent_cond_true rfl (ne_t c12) (ent_seq (ent_region (ent_value (ov_build (is := []) (xs := []) (vs := []) rfl rfl (build_struct (cs := C0_) F_zero_24 F_places_24 rfl)) rfl rfl rfl (ent_value (ov_move rfl) rfl rfl rfl ?_))))
  refine ent_op0 (ot_storeG (cs := C0_) (cs' := C0_) (us := C0_) (L' := [box b2 24 C0_,box p0 51 C3_]) 0 rfl rfl rfl (one_all rfl) F_size_24 rfl rfl (by simp [C4_,C3_,C2_,C1_,C0_]) rfl) rfl rfl ?_
  rintro _ _ rfl
  refine ent_value (ov_assign rfl) rfl rfl rfl (ent_nil (ent_retc ?_))
  first | (have e_ := Option.some.inj (show some _ = some _ from H); subst e_) | subst H
  exact ret_memp [1] (by decide) rfl (vs := [C4_,I x4]) rfl ⟨⟨_,C0_,rfl,reads_boxW (i := 0) rfl,.inl ⟨F_agg_24,F_size_24,rfl⟩⟩,⟨rfl,trivial⟩⟩ _ rfl ⟨rfl,rfl⟩
 refine ent_cond_false rfl (ne_f c12) (ent_skip (ent_seq (ent_region (ent_value (ov_move rfl) rfl rfl rfl (ent_value (ov_nilCheck rfl) rfl rfl rfl (ent_value (ov_fieldAddr (sz := 8) (o := 0) rfl F_field_51_0 F_size_24) rfl rfl rfl (ent_value (ov_load_agg (vs := C1_) rfl F_agg_24 F_size_24 (reads_boxN (i := 1) rfl rfl)) rfl rfl rfl ?_)))))))
 refine ent_op0 (ot_storeG (cs := C0_) (cs' := C1_) (us := C1_) (L' := [box b2 24 C1_,box p0 51 C3_]) 0 rfl rfl rfl (one_all rfl) F_size_24 rfl rfl (by simp [C4_,C3_,C2_,C1_,C0_]) rfl) rfl rfl ?_
 rintro _ _ rfl
 refine ent_value (ov_assign rfl) rfl rfl rfl (ent_nil (ent_retc ?_))
 first | (have e_ := Option.some.inj (show some _ = some _ from H); subst e_) | subst H
 exact ret_memp [1] (by decide) rfl (vs := [agg #[I p0_0,I p0_1,I p0_2,I p0_3,I p0_4,I p0_5,I p0_6,I p0_9,I p0_8],I 0]) rfl ⟨⟨_,C1_,rfl,reads_boxW (i := 0) rfl,.inl ⟨F_agg_24,F_size_24,rfl⟩⟩,⟨rfl,trivial⟩⟩ _ rfl ⟨rfl,rfl⟩

theorem sheet_Read.spec (K : Nat) (a0 : List UInt8) (r : (Int × Int × Int × Int × Int × Int × Int × Int × Int × Int × Int)) (H : sheet_Read K a0 = some r) : FnSpec Try.prog 9 [str a0] [] (fun v M => v = (tU #[agg #[I r.2.1,I r.2.2.1,I r.2.2.2.1,I r.2.2.2.2.1,I r.2.2.2.2.2.1,I r.2.2.2.2.2.2.1,I r.2.2.2.2.2.2.2.1,I r.2.2.2.2.2.2.2.2.1,I r.2.2.2.2.2.2.2.2.2.1],I r.1,I r.2.2.2.2.2.2.2.2.2.2]) ∧ M = []) := by
 unfold sheet_Read at H
 refine spec_of Try.func9 rfl 75 rfl (Nat.le_of_ble_eq_true rfl) fun F w0 => ?_
 let C19_ : List Value := [I 0,I 0,I 0,I 0,I 0,I 0,I 0,I 0,I 0,I 0]
 let C3_ : Value := agg #[I 0,I 0,I 0,I 0,I 0,I 0,I 0,I 0,I 0]
 let C0_ : List Value := [I 0,I 0,I 0,I 0,I 0,I 0,I 0,I 0,I 0]
 show Ent (St 75 w0 F [(0,str a0)] []) _
 refine ent_seq (ent_region ?_)
 refine ent_op (ot_alloc F_zero_24) rfl rfl rfl ?_
 rintro _ _ ⟨b7,rfl,rfl⟩
 refine ent_value (ov_assign rfl) rfl rfl rfl (ent_value (ov_assign rfl) rfl rfl rfl (ent_nil (ent_scope (ent_seq (ent_region (ent_value (ov_build (is := []) (xs := []) (vs := []) rfl rfl (build_struct (cs := C19_) F_zero_51 F_places_51 rfl)) rfl rfl rfl ?_))))))
 refine ent_op (ot_box (cs := C19_) rfl rfl) rfl rfl rfl ?_
 rintro _ _ ⟨b8,rfl,rfl⟩
 let C1_ : List Value := [pt b8 0,pt b8 1,pt b8 2,pt b8 3,pt b8 4,pt b8 5,pt b8 6,pt b8 9,pt b8 8]
 refine ent_value (ov_assign rfl) rfl rfl rfl (ent_nil (ent_seq (ent_region (ent_value (ov_move rfl) rfl rfl rfl ?_))))
 obtain ⟨u2,h131,H⟩ := thn_elim H
 refine ent_op (ot_call_same (Lr := [box b7 24 C0_]) [0,1] [0,1] (first := []) (cap := []) (xs := [.tmp 20]) rfl rfl F_call_26 rfl (sheet_sheet_fields.spec b8 0 0 0 0 0 0 0 0 0 0 _ h131) (by decide) rfl (by decide) rfl) rfl rfl rfl ?_
 rintro _ _ ⟨rfl,rfl⟩
 refine ent_op (ot_alloc F_zero_53) rfl rfl rfl ?_
 rintro _ _ ⟨b9,rfl,rfl⟩
 let C12_ : List HP := [box b9 53 C1_,box b8 51 C19_,box b7 24 C0_]
 refine ent_op0 (ot_storeG (cs := [P0,P0,P0,P0,P0,P0,P0,P0,P0]) (cs' := C1_) (us := C1_) (L' := C12_) 0 rfl rfl rfl (one_all rfl) F_size_53 rfl rfl (by simp [C19_,C3_,C0_,C1_,C12_]) rfl) rfl rfl ?_
 rintro _ _ rfl
 refine ent_nil (ent_seq (ent_label ?_))
 obtain ⟨x195,H29,H⟩ := Option.bind_eq_some_iff.1 H
 refine ent_seq_cut (fun a w => ∃ v2,x195 = Sum.inl v2 ∧ ∃ b10 : Nat,∃ b11 : Nat,St 75 w0 F [(0,str v2.2.2.2.2.2.2.2.2.2),(2,pt b10 0),(5,pt b11 0)] [box b10 24 C0_,box b11 51 [I v2.1,I v2.2.1,I v2.2.2.1,I v2.2.2.2.1,I v2.2.2.2.2.1,I v2.2.2.2.2.2.1,I v2.2.2.2.2.2.2.1,I 0,I v2.2.2.2.2.2.2.2.1,I v2.2.2.2.2.2.2.2.2.1]] a w) ?_ ?_
 ·refine ent_seq (ent_region ?_)
  obtain ⟨x196,h196,H29⟩ := thn_elim H29
  refine ent_op (ot_call0 (first := []) (cap := []) (xs := []) rfl rfl F_call_27 rfl (sheet_names.spec _ h196)) rfl rfl rfl ?_
  rintro _ _ ⟨rfl,rfl⟩
  refine ent_value (ov_move rfl) rfl rfl rfl (ent_nil (ent_block (ent_rounds 10 (ent_round (ent_seq (ent_region (ent_value (ov_bin rfl rfl (b_lss _ _ _)) rfl rfl rfl (ent_nil (ent_seq (ent_cond_true rfl rfl (ent_skip ?_)))))))))))
  refine ent_seq (ent_block (ent_seq (ent_region (ent_value (ov_move rfl) rfl rfl rfl (ent_value (ov_indexAggN rfl rfl F_array_55 F_size_9 F_agg_9 (by decide) (by decide) rfl) rfl rfl rfl (ent_value (ov_assign rfl) rfl rfl rfl (ent_value (ov_assign rfl) rfl rfl rfl (ent_nil (ent_seq (ent_region (ent_value (ov_move rfl) rfl rfl rfl ?_)))))))))))
  obtain ⟨x209,h209,H29⟩ := Option.bind_eq_some_iff.1 H29
  refine ent_op (ot_call0 (first := []) (cap := []) (xs := [.tmp 28,.const (str ([10] : List UInt8))]) rfl rfl F_call_28 rfl (strings_Cut.spec a0 ([10] : List UInt8) _ h209)) rfl rfl rfl ?_
  rintro _ _ ⟨rfl,rfl⟩
  refine ent_value (ov_move rfl) rfl rfl rfl (ent_value (ov_extract rfl rfl) rfl rfl rfl (ent_value (ov_extract rfl rfl) rfl rfl rfl (ent_value (ov_extract rfl rfl) rfl rfl rfl (ent_value (ov_assign rfl) rfl rfl rfl (ent_value (ov_assign rfl) rfl rfl rfl (ent_value (ov_assign rfl) rfl rfl rfl (ent_nil (ent_seq (ent_region (ent_value (ov_move rfl) rfl rfl rfl (ent_value (ov_move rfl) rfl rfl rfl ?_)))))))))))
  obtain ⟨c555,H29⟩ := gdT H29
  refine ent_value (ov_bin rfl rfl fun w => b_add_str _ _ w c555) rfl rfl rfl ?_
  obtain ⟨x210,h210,H29⟩ := thn_elim H29
  refine ent_op (ot_call0 (first := []) (cap := []) (xs := [.tmp 34,.tmp 36]) rfl rfl F_call_29 rfl (strings_CutPrefix.spec x209.1 (x196.1 ++ ([32] : List UInt8)) _ h210)) rfl rfl rfl ?_
  rintro _ _ ⟨rfl,rfl⟩
  refine ent_value (ov_move rfl) rfl rfl rfl (ent_value (ov_extract rfl rfl) rfl rfl rfl (ent_value (ov_extract rfl rfl) rfl rfl rfl (ent_value (ov_assign rfl) rfl rfl rfl (ent_value (ov_assign rfl) rfl rfl rfl (ent_nil (ent_seq (ent_region (ent_value (ov_move rfl) rfl rfl rfl ?_))))))))
  obtain ⟨x211,h211,H29⟩ := Option.bind_eq_some_iff.1 H29
  let C22_ : List Value := [I x211.1,I 0,I 0,I 0,I 0,I 0,I 0,I 0,I 0,I 0]
  let C11_ : List HP := [box b9 53 C1_,box b8 51 C22_,box b7 24 C0_]
  refine ent_op (ot_call0 (first := []) (cap := []) (xs := [.tmp 41]) rfl rfl F_call_30 rfl (words_Number.spec K x210.1 _ h211)) rfl rfl rfl ?_
  rintro _ _ ⟨rfl,rfl⟩
  refine ent_value (ov_move rfl) rfl rfl rfl (ent_value (ov_extract rfl rfl) rfl rfl rfl (ent_value (ov_extract rfl rfl) rfl rfl rfl (ent_value (ov_assign rfl) rfl rfl rfl (ent_value (ov_assign rfl) rfl rfl rfl (ent_nil (ent_seq (ent_seq (ent_region (ent_value (ov_move rfl) rfl rfl rfl (ent_value (ov_un rfl (u_not _)) rfl rfl rfl (ent_value (ov_move rfl) rfl rfl rfl ?_)))))))))))
  refine htT H29 (fun c559 H29 => ?_) fun c559 H29 => ?_
  ·refine ent_off rfl rfl rfl c559 rfl rfl ?_
   refine ent_off rfl rfl rfl c559 rfl rfl ?_
   refine ent_value (ov_pick rfl rfl rfl (pick_t c559)) rfl rfl rfl (ent_value (ov_move rfl) rfl rfl rfl ?_)
   refine ent_off rfl rfl rfl rfl rfl rfl ?_
   refine ent_off rfl rfl rfl rfl rfl rfl ?_
   refine ent_value (ov_pick rfl rfl rfl rfl) rfl rfl rfl (ent_nil (ent_cond_true rfl rfl (ent_seq (ent_region (ent_value (ov_build (is := []) (xs := []) (vs := []) rfl rfl (build_struct (cs := C0_) F_zero_24 F_places_24 rfl)) rfl rfl rfl (ent_value (ov_move rfl) rfl rfl rfl (ent_value (ov_binL (m' := 1) rfl rfl (b_add _ _ _) (by decide)) rfl rfl rfl ?_)))))))
   refine ent_op0 (ot_storeG (cs := C0_) (cs' := C0_) (us := C0_) (L' := C12_) 2 rfl rfl rfl (one_all rfl) F_size_24 rfl rfl (by simp [C19_,C3_,C0_,C1_,C12_,C22_,C11_]) rfl) rfl rfl ?_
   rintro _ _ rfl
   refine ent_value (ov_assign rfl) rfl rfl rfl (ent_value (ov_assign rfl) rfl rfl rfl (ent_nil (ent_retc ?_)))
   cases H29
   have H30 := Option.some.inj (show some _ = some _ from H)
   first | (have e_ := Option.some.inj (show some _ = some _ from H30); subst e_) | subst H30
   exact ret_memp [] (by decide) rfl (vs := [C3_,I 1,I 4]) rfl ⟨⟨_,C0_,rfl,reads_boxW (i := 2) rfl,.inl ⟨F_agg_24,F_size_24,rfl⟩⟩,⟨rfl,⟨rfl,trivial⟩⟩⟩ _ rfl ⟨rfl,rfl⟩
  refine ent_value_on (ov_move rfl) rfl rfl rfl (Bool.eq_false_iff.2 c559) rfl rfl ?_
  refine ent_value_on (ov_un rfl (u_not _)) rfl rfl rfl (Bool.eq_false_iff.2 c559) rfl rfl ?_
  refine ent_value (ov_pick rfl rfl rfl (pick_f (Bool.eq_false_iff.2 c559))) rfl rfl rfl (ent_value (ov_move rfl) rfl rfl rfl ?_)
  refine htT H29 (fun c560 H29 => ?_) fun c560 H29 => ?_
  ·refine ent_off rfl rfl rfl c560 rfl rfl ?_
   refine ent_off rfl rfl rfl c560 rfl rfl ?_
   refine ent_value (ov_pick rfl rfl rfl (pick_t c560)) rfl rfl rfl (ent_nil (ent_cond_true rfl rfl (ent_seq (ent_region (ent_value (ov_build (is := []) (xs := []) (vs := []) rfl rfl (build_struct (cs := C0_) F_zero_24 F_places_24 rfl)) rfl rfl rfl (ent_value (ov_move rfl) rfl rfl rfl (ent_value (ov_binL (m' := 1) rfl rfl (b_add _ _ _) (by decide)) rfl rfl rfl ?_)))))))
   refine ent_op0 (ot_storeG (cs := C0_) (cs' := C0_) (us := C0_) (L' := C12_) 2 rfl rfl rfl (one_all rfl) F_size_24 rfl rfl (by simp [C19_,C3_,C0_,C1_,C12_,C22_,C11_]) rfl) rfl rfl ?_
   rintro _ _ rfl
   refine ent_value (ov_assign rfl) rfl rfl rfl (ent_value (ov_assign rfl) rfl rfl rfl (ent_nil (ent_retc ?_)))
   cases H29
   have H31 := Option.some.inj (show some _ = some _ from H)
   first | (have e_ := Option.some.inj (show some _ = some _ from H31); subst e_) | subst H31
   exact ret_memp [] (by decide) rfl (vs := [C3_,I 1,I 4]) rfl ⟨⟨_,C0_,rfl,reads_boxW (i := 2) rfl,.inl ⟨F_agg_24,F_size_24,rfl⟩⟩,⟨rfl,⟨rfl,trivial⟩⟩⟩ _ rfl ⟨rfl,rfl⟩
  refine ent_value_on (ov_move rfl) rfl rfl rfl (Bool.eq_false_iff.2 c560) rfl rfl ?_
  refine ent_value_on (ov_un rfl (u_not _)) rfl rfl rfl (Bool.eq_false_iff.2 c560) rfl rfl ?_
  refine ent_value (ov_pick rfl rfl rfl (pick_f (Bool.eq_false_iff.2 c560))) rfl rfl rfl (ent_nil ?_)
  refine htT H29 (fun c561 H29 => ?_) fun c561 H29 => ?_
  ·refine ent_cond_true rfl c561 (ent_seq (ent_region (ent_value (ov_build (is := []) (xs := []) (vs := []) rfl rfl (build_struct (cs := C0_) F_zero_24 F_places_24 rfl)) rfl rfl rfl (ent_value (ov_move rfl) rfl rfl rfl (ent_value (ov_binL (m' := 1) rfl rfl (b_add _ _ _) (by decide)) rfl rfl rfl ?_)))))
   refine ent_op0 (ot_storeG (cs := C0_) (cs' := C0_) (us := C0_) (L' := C12_) 2 rfl rfl rfl (one_all rfl) F_size_24 rfl rfl (by simp [C19_,C3_,C0_,C1_,C12_,C22_,C11_]) rfl) rfl rfl ?_
   rintro _ _ rfl
   refine ent_value (ov_assign rfl) rfl rfl rfl (ent_value (ov_assign rfl) rfl rfl rfl (ent_nil (ent_retc ?_)))
   cases H29
   have H32 := Option.some.inj (show some _ = some _ from H)
   first | (have e_ := Option.some.inj (show some _ = some _ from H32); subst e_) | subst H32
   exact ret_memp [] (by decide) rfl (vs := [C3_,I 1,I 4]) rfl ⟨⟨_,C0_,rfl,reads_boxW (i := 2) rfl,.inl ⟨F_agg_24,F_size_24,rfl⟩⟩,⟨rfl,⟨rfl,trivial⟩⟩⟩ _ rfl ⟨rfl,rfl⟩
  refine ent_cond_false rfl (Bool.eq_false_iff.2 c561) (ent_skip (ent_seq (ent_region (ent_value (ov_move rfl) rfl rfl rfl ?_))))
  obtain ⟨c562,H29⟩ := gdT H29
  refine ent_value (ov_indexArr (o := 0) rfl rfl F_array_53 F_size_52 (by decide) c562) rfl rfl rfl (ent_value (ov_load (v := (pt b8 0)) rfl F_agg_52 (reads_box1 (i := 0) rfl rfl)) rfl rfl rfl (ent_value (ov_move rfl) rfl rfl rfl (ent_value (ov_nilCheck rfl) rfl rfl rfl ?_)))
  refine ent_op0 (ot_storeG (cs := C19_) (cs' := C22_) (us := [I x211.1]) (L' := C11_) 1 rfl rfl rfl (one_all rfl) F_size_2 rfl rfl (by simp [C19_,C3_,C0_,C1_,C12_,C22_,C11_]) rfl) rfl rfl ?_
  rintro _ _ rfl
  refine ent_nil (ent_seq (ent_region (ent_value (ov_move rfl) rfl rfl rfl (ent_value (ov_assign rfl) rfl rfl rfl (ent_nil (ent_exit (ent_region (ent_value (ov_binL (m' := 1) rfl rfl (b_add _ _ _) (by decide)) rfl rfl rfl (ent_value (ov_move rfl) rfl rfl rfl (ent_nil (ent_round ?_)))))))))))
  refine ent_seq (ent_region (ent_value (ov_bin rfl rfl (b_lss _ _ _)) rfl rfl rfl (ent_nil (ent_seq (ent_cond_true rfl rfl (ent_skip (ent_seq (ent_block (ent_seq (ent_region (ent_value (ov_move rfl) rfl rfl rfl ?_)))))))))))
  refine ent_value (ov_indexAggN rfl rfl F_array_55 F_size_9 F_agg_9 (by decide) (by decide) rfl) rfl rfl rfl (ent_value (ov_assign rfl) rfl rfl rfl (ent_value (ov_assign rfl) rfl rfl rfl (ent_nil (ent_seq (ent_region (ent_value (ov_move rfl) rfl rfl rfl ?_))))))
  obtain ⟨x215,h215,H29⟩ := Option.bind_eq_some_iff.1 H29
  refine ent_op (ot_call0 (first := []) (cap := []) (xs := [.tmp 28,.const (str ([10] : List UInt8))]) rfl rfl F_call_28 rfl (strings_Cut.spec x209.2.1 ([10] : List UInt8) _ h215)) rfl rfl rfl ?_
  rintro _ _ ⟨rfl,rfl⟩
  refine ent_value (ov_move rfl) rfl rfl rfl (ent_value (ov_extract rfl rfl) rfl rfl rfl (ent_value (ov_extract rfl rfl) rfl rfl rfl (ent_value (ov_extract rfl rfl) rfl rfl rfl (ent_value (ov_assign rfl) rfl rfl rfl (ent_value (ov_assign rfl) rfl rfl rfl (ent_value (ov_assign rfl) rfl rfl rfl (ent_nil (ent_seq (ent_region (ent_value (ov_move rfl) rfl rfl rfl (ent_value (ov_move rfl) rfl rfl rfl ?_)))))))))))
  obtain ⟨c571,H29⟩ := gdT H29
  refine ent_value (ov_bin rfl rfl fun w => b_add_str _ _ w c571) rfl rfl rfl ?_
  obtain ⟨x216,h216,H29⟩ := thn_elim H29
  refine ent_op (ot_call0 (first := []) (cap := []) (xs := [.tmp 34,.tmp 36]) rfl rfl F_call_29 rfl (strings_CutPrefix.spec x215.1 (x196.2.1 ++ ([32] : List UInt8)) _ h216)) rfl rfl rfl ?_
  rintro _ _ ⟨rfl,rfl⟩
  refine ent_value (ov_move rfl) rfl rfl rfl (ent_value (ov_extract rfl rfl) rfl rfl rfl (ent_value (ov_extract rfl rfl) rfl rfl rfl (ent_value (ov_assign rfl) rfl rfl rfl (ent_value (ov_assign rfl) rfl rfl rfl (ent_nil (ent_seq (ent_region (ent_value (ov_move rfl) rfl rfl rfl ?_))))))))
  obtain ⟨x217,h217,H29⟩ := Option.bind_eq_some_iff.1 H29
  let C21_ : List Value := [I x211.1,I x217.1,I 0,I 0,I 0,I 0,I 0,I 0,I 0,I 0]
  let C10_ : List HP := [box b9 53 C1_,box b8 51 C21_,box b7 24 C0_]
  refine ent_op (ot_call0 (first := []) (cap := []) (xs := [.tmp 41]) rfl rfl F_call_30 rfl (words_Number.spec K x216.1 _ h217)) rfl rfl rfl ?_
  rintro _ _ ⟨rfl,rfl⟩
  refine ent_value (ov_move rfl) rfl rfl rfl (ent_value (ov_extract rfl rfl) rfl rfl rfl (ent_value (ov_extract rfl rfl) rfl rfl rfl (ent_value (ov_assign rfl) rfl rfl rfl (ent_value (ov_assign rfl) rfl rfl rfl (ent_nil (ent_seq (ent_seq (ent_region (ent_value (ov_move rfl) rfl rfl rfl (ent_value (ov_un rfl (u_not _)) rfl rfl rfl (ent_value (ov_move rfl) rfl rfl rfl ?_)))))))))))
  refine htT H29 (fun c575 H29 => ?_) fun c575 H29 => ?_
  ·refine ent_off rfl rfl rfl c575 rfl rfl ?_
   refine ent_off rfl rfl rfl c575 rfl rfl ?_
   refine ent_value (ov_pick rfl rfl rfl (pick_t c575)) rfl rfl rfl (ent_value (ov_move rfl) rfl rfl rfl ?_)
   refine ent_off rfl rfl rfl rfl rfl rfl ?_
   refine ent_off rfl rfl rfl rfl rfl rfl ?_
   refine ent_value (ov_pick rfl rfl rfl rfl) rfl rfl rfl (ent_nil (ent_cond_true rfl rfl (ent_seq (ent_region (ent_value (ov_build (is := []) (xs := []) (vs := []) rfl rfl (build_struct (cs := C0_) F_zero_24 F_places_24 rfl)) rfl rfl rfl (ent_value (ov_move rfl) rfl rfl rfl (ent_value (ov_binL (m' := 2) rfl rfl (b_add _ _ _) (by decide)) rfl rfl rfl ?_)))))))
   refine ent_op0 (ot_storeG (cs := C0_) (cs' := C0_) (us := C0_) (L' := C11_) 2 rfl rfl rfl (one_all rfl) F_size_24 rfl rfl (by simp [C19_,C3_,C0_,C1_,C12_,C22_,C11_,C21_,C10_]) rfl) rfl rfl ?_
   rintro _ _ rfl
   refine ent_value (ov_assign rfl) rfl rfl rfl (ent_value (ov_assign rfl) rfl rfl rfl (ent_nil (ent_retc ?_)))
   cases H29
   have H33 := Option.some.inj (show some _ = some _ from H)
   first | (have e_ := Option.some.inj (show some _ = some _ from H33); subst e_) | subst H33
   exact ret_memp [] (by decide) rfl (vs := [C3_,I 2,I 4]) rfl ⟨⟨_,C0_,rfl,reads_boxW (i := 2) rfl,.inl ⟨F_agg_24,F_size_24,rfl⟩⟩,⟨rfl,⟨rfl,trivial⟩⟩⟩ _ rfl ⟨rfl,rfl⟩
  refine ent_value_on (ov_move rfl) rfl rfl rfl (Bool.eq_false_iff.2 c575) rfl rfl ?_
  refine ent_value_on (ov_un rfl (u_not _)) rfl rfl rfl (Bool.eq_false_iff.2 c575) rfl rfl ?_
  refine ent_value (ov_pick rfl rfl rfl (pick_f (Bool.eq_false_iff.2 c575))) rfl rfl rfl (ent_value (ov_move rfl) rfl rfl rfl ?_)
  refine htT H29 (fun c576 H29 => ?_) fun c576 H29 => ?_
  ·refine ent_off rfl rfl rfl c576 rfl rfl ?_
   refine ent_off rfl rfl rfl c576 rfl rfl ?_
   refine ent_value (ov_pick rfl rfl rfl (pick_t c576)) rfl rfl rfl (ent_nil (ent_cond_true rfl rfl (ent_seq (ent_region (ent_value (ov_build (is := []) (xs := []) (vs := []) rfl rfl (build_struct (cs := C0_) F_zero_24 F_places_24 rfl)) rfl rfl rfl (ent_value (ov_move rfl) rfl rfl rfl (ent_value (ov_binL (m' := 2) rfl rfl (b_add _ _ _) (by decide)) rfl rfl rfl ?_)))))))
   refine ent_op0 (ot_storeG (cs := C0_) (cs' := C0_) (us := C0_) (L' := C11_) 2 rfl rfl rfl (one_all rfl) F_size_24 rfl rfl (by simp [C19_,C3_,C0_,C1_,C12_,C22_,C11_,C21_,C10_]) rfl) rfl rfl ?_
   rintro _ _ rfl
   refine ent_value (ov_assign rfl) rfl rfl rfl (ent_value (ov_assign rfl) rfl rfl rfl (ent_nil (ent_retc ?_)))
   cases H29
   have H34 := Option.some.inj (show some _ = some _ from H)
   first | (have e_ := Option.some.inj (show some _ = some _ from H34); subst e_) | subst H34
   exact ret_memp [] (by decide) rfl (vs := [C3_,I 2,I 4]) rfl ⟨⟨_,C0_,rfl,reads_boxW (i := 2) rfl,.inl ⟨F_agg_24,F_size_24,rfl⟩⟩,⟨rfl,⟨rfl,trivial⟩⟩⟩ _ rfl ⟨rfl,rfl⟩
  refine ent_value_on (ov_move rfl) rfl rfl rfl (Bool.eq_false_iff.2 c576) rfl rfl ?_
  refine ent_value_on (ov_un rfl (u_not _)) rfl rfl rfl (Bool.eq_false_iff.2 c576) rfl rfl ?_
  refine ent_value (ov_pick rfl rfl rfl (pick_f (Bool.eq_false_iff.2 c576))) rfl rfl rfl (ent_nil ?_)
  refine htT H29 (fun c577 H29 => ?_) fun c577 H29 => ?_
  ·refine ent_cond_true rfl c577 (ent_seq (ent_region (ent_value (ov_build (is := []) (xs := []) (vs := []) rfl rfl (build_struct (cs := C0_) F_zero_24 F_places_24 rfl)) rfl rfl rfl (ent_value (ov_move rfl) rfl rfl rfl (ent_value (ov_binL (m' := 2) rfl rfl (b_add _ _ _) (by decide)) rfl rfl rfl ?_)))))
   refine ent_op0 (ot_storeG (cs := C0_) (cs' := C0_) (us := C0_) (L' := C11_) 2 rfl rfl rfl (one_all rfl) F_size_24 rfl rfl (by simp [C19_,C3_,C0_,C1_,C12_,C22_,C11_,C21_,C10_]) rfl) rfl rfl ?_
   rintro _ _ rfl
   refine ent_value (ov_assign rfl) rfl rfl rfl (ent_value (ov_assign rfl) rfl rfl rfl (ent_nil (ent_retc ?_)))
   cases H29
   have H35 := Option.some.inj (show some _ = some _ from H)
   first | (have e_ := Option.some.inj (show some _ = some _ from H35); subst e_) | subst H35
   exact ret_memp [] (by decide) rfl (vs := [C3_,I 2,I 4]) rfl ⟨⟨_,C0_,rfl,reads_boxW (i := 2) rfl,.inl ⟨F_agg_24,F_size_24,rfl⟩⟩,⟨rfl,⟨rfl,trivial⟩⟩⟩ _ rfl ⟨rfl,rfl⟩
  refine ent_cond_false rfl (Bool.eq_false_iff.2 c577) (ent_skip (ent_seq (ent_region (ent_value (ov_move rfl) rfl rfl rfl ?_))))
  obtain ⟨c578,H29⟩ := gdT H29
  refine ent_value (ov_indexArr (o := 0) rfl rfl F_array_53 F_size_52 (by decide) c578) rfl rfl rfl (ent_value (ov_load (v := (pt b8 1)) rfl F_agg_52 (reads_box1 (i := 0) rfl rfl)) rfl rfl rfl (ent_value (ov_move rfl) rfl rfl rfl (ent_value (ov_nilCheck rfl) rfl rfl rfl ?_)))
  refine ent_op0 (ot_storeG (cs := C22_) (cs' := C21_) (us := [I x217.1]) (L' := C10_) 1 rfl rfl rfl (one_all rfl) F_size_2 rfl rfl (by simp [C19_,C3_,C0_,C1_,C12_,C22_,C11_,C21_,C10_]) rfl) rfl rfl ?_
  rintro _ _ rfl
  refine ent_nil (ent_seq (ent_region (ent_value (ov_move rfl) rfl rfl rfl (ent_value (ov_assign rfl) rfl rfl rfl (ent_nil (ent_exit (ent_region (ent_value (ov_binL (m' := 2) rfl rfl (b_add _ _ _) (by decide)) rfl rfl rfl (ent_value (ov_move rfl) rfl rfl rfl (ent_nil (ent_round ?_)))))))))))
  refine ent_seq (ent_region (ent_value (ov_bin rfl rfl (b_lss _ _ _)) rfl rfl rfl (ent_nil (ent_seq (ent_cond_true rfl rfl (ent_skip (ent_seq (ent_block (ent_seq (ent_region (ent_value (ov_move rfl) rfl rfl rfl ?_)))))))))))
  refine ent_value (ov_indexAggN rfl rfl F_array_55 F_size_9 F_agg_9 (by decide) (by decide) rfl) rfl rfl rfl (ent_value (ov_assign rfl) rfl rfl rfl (ent_value (ov_assign rfl) rfl rfl rfl (ent_nil (ent_seq (ent_region (ent_value (ov_move rfl) rfl rfl rfl ?_))))))
  obtain ⟨x221,h221,H29⟩ := Option.bind_eq_some_iff.1 H29
  refine ent_op (ot_call0 (first := []) (cap := []) (xs := [.tmp 28,.const (str ([10] : List UInt8))]) rfl rfl F_call_28 rfl (strings_Cut.spec x215.2.1 ([10] : List UInt8) _ h221)) rfl rfl rfl ?_
  rintro _ _ ⟨rfl,rfl⟩
  refine ent_value (ov_move rfl) rfl rfl rfl (ent_value (ov_extract rfl rfl) rfl rfl rfl (ent_value (ov_extract rfl rfl) rfl rfl rfl (ent_value (ov_extract rfl rfl) rfl rfl rfl (ent_value (ov_assign rfl) rfl rfl rfl (ent_value (ov_assign rfl) rfl rfl rfl (ent_value (ov_assign rfl) rfl rfl rfl (ent_nil (ent_seq (ent_region (ent_value (ov_move rfl) rfl rfl rfl (ent_value (ov_move rfl) rfl rfl rfl ?_)))))))))))
  obtain ⟨c587,H29⟩ := gdT H29
  refine ent_value (ov_bin rfl rfl fun w => b_add_str _ _ w c587) rfl rfl rfl ?_
  obtain ⟨x222,h222,H29⟩ := thn_elim H29
  refine ent_op (ot_call0 (first := []) (cap := []) (xs := [.tmp 34,.tmp 36]) rfl rfl F_call_29 rfl (strings_CutPrefix.spec x221.1 (x196.2.2.1 ++ ([32] : List UInt8)) _ h222)) rfl rfl rfl ?_
  rintro _ _ ⟨rfl,rfl⟩
  refine ent_value (ov_move rfl) rfl rfl rfl (ent_value (ov_extract rfl rfl) rfl rfl rfl (ent_value (ov_extract rfl rfl) rfl rfl rfl (ent_value (ov_assign rfl) rfl rfl rfl (ent_value (ov_assign rfl) rfl rfl rfl (ent_nil (ent_seq (ent_region (ent_value (ov_move rfl) rfl rfl rfl ?_))))))))
  obtain ⟨x223,h223,H29⟩ := Option.bind_eq_some_iff.1 H29
  let C20_ : List Value := [I x211.1,I x217.1,I x223.1,I 0,I 0,I 0,I 0,I 0,I 0,I 0]
  let C9_ : List HP := [box b9 53 C1_,box b8 51 C20_,box b7 24 C0_]
  refine ent_op (ot_call0 (first := []) (cap := []) (xs := [.tmp 41]) rfl rfl F_call_30 rfl (words_Number.spec K x222.1 _ h223)) rfl rfl rfl ?_
  rintro _ _ ⟨rfl,rfl⟩
  refine ent_value (ov_move rfl) rfl rfl rfl (ent_value (ov_extract rfl rfl) rfl rfl rfl (ent_value (ov_extract rfl rfl) rfl rfl rfl (ent_value (ov_assign rfl) rfl rfl rfl (ent_value (ov_assign rfl) rfl rfl rfl (ent_nil (ent_seq (ent_seq (ent_region (ent_value (ov_move rfl) rfl rfl rfl (ent_value (ov_un rfl (u_not _)) rfl rfl rfl (ent_value (ov_move rfl) rfl rfl rfl ?_)))))))))))
  refine htT H29 (fun c591 H29 => ?_) fun c591 H29 => ?_
  ·refine ent_off rfl rfl rfl c591 rfl rfl ?_
   refine ent_off rfl rfl rfl c591 rfl rfl ?_
   refine ent_value (ov_pick rfl rfl rfl (pick_t c591)) rfl rfl rfl (ent_value (ov_move rfl) rfl rfl rfl ?_)
   refine ent_off rfl rfl rfl rfl rfl rfl ?_
   refine ent_off rfl rfl rfl rfl rfl rfl ?_
   refine ent_value (ov_pick rfl rfl rfl rfl) rfl rfl rfl (ent_nil (ent_cond_true rfl rfl (ent_seq (ent_region (ent_value (ov_build (is := []) (xs := []) (vs := []) rfl rfl (build_struct (cs := C0_) F_zero_24 F_places_24 rfl)) rfl rfl rfl (ent_value (ov_move rfl) rfl rfl rfl (ent_value (ov_binL (m' := 3) rfl rfl (b_add _ _ _) (by decide)) rfl rfl rfl ?_)))))))
   refine ent_op0 (ot_storeG (cs := C0_) (cs' := C0_) (us := C0_) (L' := C10_) 2 rfl rfl rfl (one_all rfl) F_size_24 rfl rfl (by simp [C19_,C3_,C0_,C1_,C12_,C22_,C11_,C21_,C10_,C20_,C9_]) rfl) rfl rfl ?_
   rintro _ _ rfl
   refine ent_value (ov_assign rfl) rfl rfl rfl (ent_value (ov_assign rfl) rfl rfl rfl (ent_nil (ent_retc ?_)))
   cases H29
   have H36 := Option.some.inj (show some _ = some _ from H)
   first | (have e_ := Option.some.inj (show some _ = some _ from H36); subst e_) | subst H36
   exact ret_memp [] (by decide) rfl (vs := [C3_,I 3,I 4]) rfl ⟨⟨_,C0_,rfl,reads_boxW (i := 2) rfl,.inl ⟨F_agg_24,F_size_24,rfl⟩⟩,⟨rfl,⟨rfl,trivial⟩⟩⟩ _ rfl ⟨rfl,rfl⟩
  refine ent_value_on (ov_move rfl) rfl rfl rfl (Bool.eq_false_iff.2 c591) rfl rfl ?_
  refine ent_value_on (ov_un rfl (u_not _)) rfl rfl rfl (Bool.eq_false_iff.2 c591) rfl rfl ?_
  refine ent_value (ov_pick rfl rfl rfl (pick_f (Bool.eq_false_iff.2 c591))) rfl rfl rfl (ent_value (ov_move rfl) rfl rfl rfl ?_)
  refine htT H29 (fun c592 H29 => ?_) fun c592 H29 => ?_
  ·refine ent_off rfl rfl rfl c592 rfl rfl ?_
   refine ent_off rfl rfl rfl c592 rfl rfl ?_
   refine ent_value (ov_pick rfl rfl rfl (pick_t c592)) rfl rfl rfl (ent_nil (ent_cond_true rfl rfl (ent_seq (ent_region (ent_value (ov_build (is := []) (xs := []) (vs := []) rfl rfl (build_struct (cs := C0_) F_zero_24 F_places_24 rfl)) rfl rfl rfl (ent_value (ov_move rfl) rfl rfl rfl (ent_value (ov_binL (m' := 3) rfl rfl (b_add _ _ _) (by decide)) rfl rfl rfl ?_)))))))
   refine ent_op0 (ot_storeG (cs := C0_) (cs' := C0_) (us := C0_) (L' := C10_) 2 rfl rfl rfl (one_all rfl) F_size_24 rfl rfl (by simp [C19_,C3_,C0_,C1_,C12_,C22_,C11_,C21_,C10_,C20_,C9_]) rfl) rfl rfl ?_
   rintro _ _ rfl
   refine ent_value (ov_assign rfl) rfl rfl rfl (ent_value (ov_assign rfl) rfl rfl rfl (ent_nil (ent_retc ?_)))
   cases H29
   have H37 := Option.some.inj (show some _ = some _ from H)
   first | (have e_ := Option.some.inj (show some _ = some _ from H37); subst e_) | subst H37
   exact ret_memp [] (by decide) rfl (vs := [C3_,I 3,I 4]) rfl ⟨⟨_,C0_,rfl,reads_boxW (i := 2) rfl,.inl ⟨F_agg_24,F_size_24,rfl⟩⟩,⟨rfl,⟨rfl,trivial⟩⟩⟩ _ rfl ⟨rfl,rfl⟩
  refine ent_value_on (ov_move rfl) rfl rfl rfl (Bool.eq_false_iff.2 c592) rfl rfl ?_
  refine ent_value_on (ov_un rfl (u_not _)) rfl rfl rfl (Bool.eq_false_iff.2 c592) rfl rfl ?_
  refine ent_value (ov_pick rfl rfl rfl (pick_f (Bool.eq_false_iff.2 c592))) rfl rfl rfl (ent_nil ?_)
  refine htT H29 (fun c593 H29 => ?_) fun c593 H29 => ?_
  ·refine ent_cond_true rfl c593 (ent_seq (ent_region (ent_value (ov_build (is := []) (xs := []) (vs := []) rfl rfl (build_struct (cs := C0_) F_zero_24 F_places_24 rfl)) rfl rfl rfl (ent_value (ov_move rfl) rfl rfl rfl (ent_value (ov_binL (m' := 3) rfl rfl (b_add _ _ _) (by decide)) rfl rfl rfl ?_)))))
   refine ent_op0 (ot_storeG (cs := C0_) (cs' := C0_) (us := C0_) (L' := C10_) 2 rfl rfl rfl (one_all rfl) F_size_24 rfl rfl (by simp [C19_,C3_,C0_,C1_,C12_,C22_,C11_,C21_,C10_,C20_,C9_]) rfl) rfl rfl ?_
   rintro _ _ rfl
   refine ent_value (ov_assign rfl) rfl rfl rfl (ent_value (ov_assign rfl) rfl rfl rfl (ent_nil (ent_retc ?_)))
   cases H29
   have H38 := Option.some.inj (show some _ = some _ from H)
   first | (have e_ := Option.some.inj (show some _ = some _ from H38); subst e_) | subst H38
   exact ret_memp [] (by decide) rfl (vs := [C3_,I 3,I 4]) rfl ⟨⟨_,C0_,rfl,reads_boxW (i := 2) rfl,.inl ⟨F_agg_24,F_size_24,rfl⟩⟩,⟨rfl,⟨rfl,trivial⟩⟩⟩ _ rfl ⟨rfl,rfl⟩
  refine ent_cond_false rfl (Bool.eq_false_iff.2 c593) (ent_skip (ent_seq (ent_region (ent_value (ov_move rfl) rfl rfl rfl ?_))))
  obtain ⟨c594,H29⟩ := gdT H29
  refine ent_value (ov_indexArr (o := 0) rfl rfl F_array_53 F_size_52 (by decide) c594) rfl rfl rfl (ent_value (ov_load (v := (pt b8 2)) rfl F_agg_52 (reads_box1 (i := 0) rfl rfl)) rfl rfl rfl (ent_value (ov_move rfl) rfl rfl rfl (ent_value (ov_nilCheck rfl) rfl rfl rfl ?_)))
  refine ent_op0 (ot_storeG (cs := C21_) (cs' := C20_) (us := [I x223.1]) (L' := C9_) 1 rfl rfl rfl (one_all rfl) F_size_2 rfl rfl (by simp [C19_,C3_,C0_,C1_,C12_,C22_,C11_,C21_,C10_,C20_,C9_]) rfl) rfl rfl ?_
  rintro _ _ rfl
  refine ent_nil (ent_seq (ent_region (ent_value (ov_move rfl) rfl rfl rfl (ent_value (ov_assign rfl) rfl rfl rfl (ent_nil (ent_exit (ent_region (ent_value (ov_binL (m' := 3) rfl rfl (b_add _ _ _) (by decide)) rfl rfl rfl (ent_value (ov_move rfl) rfl rfl rfl (ent_nil (ent_round ?_)))))))))))
  refine ent_seq (ent_region (ent_value (ov_bin rfl rfl (b_lss _ _ _)) rfl rfl rfl (ent_nil (ent_seq (ent_cond_true rfl rfl (ent_skip (ent_seq (ent_block (ent_seq (ent_region (ent_value (ov_move rfl) rfl rfl rfl ?_)))))))))))
  refine ent_value (ov_indexAggN rfl rfl F_array_55 F_size_9 F_agg_9 (by decide) (by decide) rfl) rfl rfl rfl (ent_value (ov_assign rfl) rfl rfl rfl (ent_value (ov_assign rfl) rfl rfl rfl (ent_nil (ent_seq (ent_region (ent_value (ov_move rfl) rfl rfl rfl ?_))))))
  obtain ⟨x227,h227,H29⟩ := Option.bind_eq_some_iff.1 H29
  refine ent_op (ot_call0 (first := []) (cap := []) (xs := [.tmp 28,.const (str ([10] : List UInt8))]) rfl rfl F_call_28 rfl (strings_Cut.spec x221.2.1 ([10] : List UInt8) _ h227)) rfl rfl rfl ?_
  rintro _ _ ⟨rfl,rfl⟩
  refine ent_value (ov_move rfl) rfl rfl rfl (ent_value (ov_extract rfl rfl) rfl rfl rfl (ent_value (ov_extract rfl rfl) rfl rfl rfl (ent_value (ov_extract rfl rfl) rfl rfl rfl (ent_value (ov_assign rfl) rfl rfl rfl (ent_value (ov_assign rfl) rfl rfl rfl (ent_value (ov_assign rfl) rfl rfl rfl (ent_nil (ent_seq (ent_region (ent_value (ov_move rfl) rfl rfl rfl (ent_value (ov_move rfl) rfl rfl rfl ?_)))))))))))
  obtain ⟨c603,H29⟩ := gdT H29
  refine ent_value (ov_bin rfl rfl fun w => b_add_str _ _ w c603) rfl rfl rfl ?_
  obtain ⟨x228,h228,H29⟩ := thn_elim H29
  refine ent_op (ot_call0 (first := []) (cap := []) (xs := [.tmp 34,.tmp 36]) rfl rfl F_call_29 rfl (strings_CutPrefix.spec x227.1 (x196.2.2.2.1 ++ ([32] : List UInt8)) _ h228)) rfl rfl rfl ?_
  rintro _ _ ⟨rfl,rfl⟩
  refine ent_value (ov_move rfl) rfl rfl rfl (ent_value (ov_extract rfl rfl) rfl rfl rfl (ent_value (ov_extract rfl rfl) rfl rfl rfl (ent_value (ov_assign rfl) rfl rfl rfl (ent_value (ov_assign rfl) rfl rfl rfl (ent_nil (ent_seq (ent_region (ent_value (ov_move rfl) rfl rfl rfl ?_))))))))
  obtain ⟨x229,h229,H29⟩ := Option.bind_eq_some_iff.1 H29
  let C18_ : List Value := [I x211.1,I x217.1,I x223.1,I x229.1,I 0,I 0,I 0,I 0,I 0,I 0]
  let C8_ : List HP := [box b9 53 C1_,box b8 51 C18_,box b7 24 C0_]
  refine ent_op (ot_call0 (first := []) (cap := []) (xs := [.tmp 41]) rfl rfl F_call_30 rfl (words_Number.spec K x228.1 _ h229)) rfl rfl rfl ?_
  rintro _ _ ⟨rfl,rfl⟩
  refine ent_value (ov_move rfl) rfl rfl rfl (ent_value (ov_extract rfl rfl) rfl rfl rfl (ent_value (ov_extract rfl rfl) rfl rfl rfl (ent_value (ov_assign rfl) rfl rfl rfl (ent_value (ov_assign rfl) rfl rfl rfl (ent_nil (ent_seq (ent_seq (ent_region (ent_value (ov_move rfl) rfl rfl rfl (ent_value (ov_un rfl (u_not _)) rfl rfl rfl (ent_value (ov_move rfl) rfl rfl rfl ?_)))))))))))
  refine htT H29 (fun c607 H29 => ?_) fun c607 H29 => ?_
  ·refine ent_off rfl rfl rfl c607 rfl rfl ?_
   refine ent_off rfl rfl rfl c607 rfl rfl ?_
   refine ent_value (ov_pick rfl rfl rfl (pick_t c607)) rfl rfl rfl (ent_value (ov_move rfl) rfl rfl rfl ?_)
   refine ent_off rfl rfl rfl rfl rfl rfl ?_
   refine ent_off rfl rfl rfl rfl rfl rfl ?_
   refine ent_value (ov_pick rfl rfl rfl rfl) rfl rfl rfl (ent_nil (ent_cond_true rfl rfl (ent_seq (ent_region (ent_value (ov_build (is := []) (xs := []) (vs := []) rfl rfl (build_struct (cs := C0_) F_zero_24 F_places_24 rfl)) rfl rfl rfl (ent_value (ov_move rfl) rfl rfl rfl (ent_value (ov_binL (m' := 4) rfl rfl (b_add _ _ _) (by decide)) rfl rfl rfl ?_)))))))
   refine ent_op0 (ot_storeG (cs := C0_) (cs' := C0_) (us := C0_) (L' := C9_) 2 rfl rfl rfl (one_all rfl) F_size_24 rfl rfl (by simp [C19_,C3_,C0_,C1_,C12_,C22_,C11_,C21_,C10_,C20_,C9_,C18_,C8_]) rfl) rfl rfl ?_
   rintro _ _ rfl
   refine ent_value (ov_assign rfl) rfl rfl rfl (ent_value (ov_assign rfl) rfl rfl rfl (ent_nil (ent_retc ?_)))
   cases H29
   have H39 := Option.some.inj (show some _ = some _ from H)
   first | (have e_ := Option.some.inj (show some _ = some _ from H39); subst e_) | subst H39
   exact ret_memp [] (by decide) rfl (vs := [C3_,I 4,I 4]) rfl ⟨⟨_,C0_,rfl,reads_boxW (i := 2) rfl,.inl ⟨F_agg_24,F_size_24,rfl⟩⟩,⟨rfl,⟨rfl,trivial⟩⟩⟩ _ rfl ⟨rfl,rfl⟩
  refine ent_value_on (ov_move rfl) rfl rfl rfl (Bool.eq_false_iff.2 c607) rfl rfl ?_
  refine ent_value_on (ov_un rfl (u_not _)) rfl rfl rfl (Bool.eq_false_iff.2 c607) rfl rfl ?_
  refine ent_value (ov_pick rfl rfl rfl (pick_f (Bool.eq_false_iff.2 c607))) rfl rfl rfl (ent_value (ov_move rfl) rfl rfl rfl ?_)
  refine htT H29 (fun c608 H29 => ?_) fun c608 H29 => ?_
  ·refine ent_off rfl rfl rfl c608 rfl rfl ?_
   refine ent_off rfl rfl rfl c608 rfl rfl ?_
   refine ent_value (ov_pick rfl rfl rfl (pick_t c608)) rfl rfl rfl (ent_nil (ent_cond_true rfl rfl (ent_seq (ent_region (ent_value (ov_build (is := []) (xs := []) (vs := []) rfl rfl (build_struct (cs := C0_) F_zero_24 F_places_24 rfl)) rfl rfl rfl (ent_value (ov_move rfl) rfl rfl rfl (ent_value (ov_binL (m' := 4) rfl rfl (b_add _ _ _) (by decide)) rfl rfl rfl ?_)))))))
   refine ent_op0 (ot_storeG (cs := C0_) (cs' := C0_) (us := C0_) (L' := C9_) 2 rfl rfl rfl (one_all rfl) F_size_24 rfl rfl (by simp [C19_,C3_,C0_,C1_,C12_,C22_,C11_,C21_,C10_,C20_,C9_,C18_,C8_]) rfl) rfl rfl ?_
   rintro _ _ rfl
   refine ent_value (ov_assign rfl) rfl rfl rfl (ent_value (ov_assign rfl) rfl rfl rfl (ent_nil (ent_retc ?_)))
   cases H29
   have H40 := Option.some.inj (show some _ = some _ from H)
   first | (have e_ := Option.some.inj (show some _ = some _ from H40); subst e_) | subst H40
   exact ret_memp [] (by decide) rfl (vs := [C3_,I 4,I 4]) rfl ⟨⟨_,C0_,rfl,reads_boxW (i := 2) rfl,.inl ⟨F_agg_24,F_size_24,rfl⟩⟩,⟨rfl,⟨rfl,trivial⟩⟩⟩ _ rfl ⟨rfl,rfl⟩
  refine ent_value_on (ov_move rfl) rfl rfl rfl (Bool.eq_false_iff.2 c608) rfl rfl ?_
  refine ent_value_on (ov_un rfl (u_not _)) rfl rfl rfl (Bool.eq_false_iff.2 c608) rfl rfl ?_
  refine ent_value (ov_pick rfl rfl rfl (pick_f (Bool.eq_false_iff.2 c608))) rfl rfl rfl (ent_nil ?_)
  refine htT H29 (fun c609 H29 => ?_) fun c609 H29 => ?_
  ·refine ent_cond_true rfl c609 (ent_seq (ent_region (ent_value (ov_build (is := []) (xs := []) (vs := []) rfl rfl (build_struct (cs := C0_) F_zero_24 F_places_24 rfl)) rfl rfl rfl (ent_value (ov_move rfl) rfl rfl rfl (ent_value (ov_binL (m' := 4) rfl rfl (b_add _ _ _) (by decide)) rfl rfl rfl ?_)))))
   refine ent_op0 (ot_storeG (cs := C0_) (cs' := C0_) (us := C0_) (L' := C9_) 2 rfl rfl rfl (one_all rfl) F_size_24 rfl rfl (by simp [C19_,C3_,C0_,C1_,C12_,C22_,C11_,C21_,C10_,C20_,C9_,C18_,C8_]) rfl) rfl rfl ?_
   rintro _ _ rfl
   refine ent_value (ov_assign rfl) rfl rfl rfl (ent_value (ov_assign rfl) rfl rfl rfl (ent_nil (ent_retc ?_)))
   cases H29
   have H41 := Option.some.inj (show some _ = some _ from H)
   first | (have e_ := Option.some.inj (show some _ = some _ from H41); subst e_) | subst H41
   exact ret_memp [] (by decide) rfl (vs := [C3_,I 4,I 4]) rfl ⟨⟨_,C0_,rfl,reads_boxW (i := 2) rfl,.inl ⟨F_agg_24,F_size_24,rfl⟩⟩,⟨rfl,⟨rfl,trivial⟩⟩⟩ _ rfl ⟨rfl,rfl⟩
  refine ent_cond_false rfl (Bool.eq_false_iff.2 c609) (ent_skip (ent_seq (ent_region (ent_value (ov_move rfl) rfl rfl rfl ?_))))
  obtain ⟨c610,H29⟩ := gdT H29
  refine ent_value (ov_indexArr (o := 0) rfl rfl F_array_53 F_size_52 (by decide) c610) rfl rfl rfl (ent_value (ov_load (v := (pt b8 3)) rfl F_agg_52 (reads_box1 (i := 0) rfl rfl)) rfl rfl rfl (ent_value (ov_move rfl) rfl rfl rfl (ent_value (ov_nilCheck rfl) rfl rfl rfl ?_)))
  refine ent_op0 (ot_storeG (cs := C20_) (cs' := C18_) (us := [I x229.1]) (L' := C8_) 1 rfl rfl rfl (one_all rfl) F_size_2 rfl rfl (by simp [C19_,C3_,C0_,C1_,C12_,C22_,C11_,C21_,C10_,C20_,C9_,C18_,C8_]) rfl) rfl rfl ?_
  rintro _ _ rfl
  refine ent_nil (ent_seq (ent_region (ent_value (ov_move rfl) rfl rfl rfl (ent_value (ov_assign rfl) rfl rfl rfl (ent_nil (ent_exit (ent_region (ent_value (ov_binL (m' := 4) rfl rfl (b_add _ _ _) (by decide)) rfl rfl rfl (ent_value (ov_move rfl) rfl rfl rfl (ent_nil (ent_round ?_)))))))))))
  refine ent_seq (ent_region (ent_value (ov_bin rfl rfl (b_lss _ _ _)) rfl rfl rfl (ent_nil (ent_seq (ent_cond_true rfl rfl (ent_skip (ent_seq (ent_block (ent_seq (ent_region (ent_value (ov_move rfl) rfl rfl rfl ?_)))))))))))
  refine ent_value (ov_indexAggN rfl rfl F_array_55 F_size_9 F_agg_9 (by decide) (by decide) rfl) rfl rfl rfl (ent_value (ov_assign rfl) rfl rfl rfl (ent_value (ov_assign rfl) rfl rfl rfl (ent_nil (ent_seq (ent_region (ent_value (ov_move rfl) rfl rfl rfl ?_))))))
  obtain ⟨x233,h233,H29⟩ := Option.bind_eq_some_iff.1 H29
  refine ent_op (ot_call0 (first := []) (cap := []) (xs := [.tmp 28,.const (str ([10] : List UInt8))]) rfl rfl F_call_28 rfl (strings_Cut.spec x227.2.1 ([10] : List UInt8) _ h233)) rfl rfl rfl ?_
  rintro _ _ ⟨rfl,rfl⟩
  refine ent_value (ov_move rfl) rfl rfl rfl (ent_value (ov_extract rfl rfl) rfl rfl rfl (ent_value (ov_extract rfl rfl) rfl rfl rfl (ent_value (ov_extract rfl rfl) rfl rfl rfl (ent_value (ov_assign rfl) rfl rfl rfl (ent_value (ov_assign rfl) rfl rfl rfl (ent_value (ov_assign rfl) rfl rfl rfl (ent_nil (ent_seq (ent_region (ent_value (ov_move rfl) rfl rfl rfl (ent_value (ov_move rfl) rfl rfl rfl ?_)))))))))))
  obtain ⟨c619,H29⟩ := gdT H29
  refine ent_value (ov_bin rfl rfl fun w => b_add_str _ _ w c619) rfl rfl rfl ?_
  obtain ⟨x234,h234,H29⟩ := thn_elim H29
  refine ent_op (ot_call0 (first := []) (cap := []) (xs := [.tmp 34,.tmp 36]) rfl rfl F_call_29 rfl (strings_CutPrefix.spec x233.1 (x196.2.2.2.2.1 ++ ([32] : List UInt8)) _ h234)) rfl rfl rfl ?_
  rintro _ _ ⟨rfl,rfl⟩
  refine ent_value (ov_move rfl) rfl rfl rfl (ent_value (ov_extract rfl rfl) rfl rfl rfl (ent_value (ov_extract rfl rfl) rfl rfl rfl (ent_value (ov_assign rfl) rfl rfl rfl (ent_value (ov_assign rfl) rfl rfl rfl (ent_nil (ent_seq (ent_region (ent_value (ov_move rfl) rfl rfl rfl ?_))))))))
  obtain ⟨x235,h235,H29⟩ := Option.bind_eq_some_iff.1 H29
  let C7_ : List Value := [I x211.1,I x217.1,I x223.1,I x229.1,I x235.1,I 0,I 0,I 0,I 0,I 0]
  let C14_ : List HP := [box b9 53 C1_,box b8 51 C7_,box b7 24 C0_]
  refine ent_op (ot_call0 (first := []) (cap := []) (xs := [.tmp 41]) rfl rfl F_call_30 rfl (words_Number.spec K x234.1 _ h235)) rfl rfl rfl ?_
  rintro _ _ ⟨rfl,rfl⟩
  refine ent_value (ov_move rfl) rfl rfl rfl (ent_value (ov_extract rfl rfl) rfl rfl rfl (ent_value (ov_extract rfl rfl) rfl rfl rfl (ent_value (ov_assign rfl) rfl rfl rfl (ent_value (ov_assign rfl) rfl rfl rfl (ent_nil (ent_seq (ent_seq (ent_region (ent_value (ov_move rfl) rfl rfl rfl (ent_value (ov_un rfl (u_not _)) rfl rfl rfl (ent_value (ov_move rfl) rfl rfl rfl ?_)))))))))))
  refine htT H29 (fun c623 H29 => ?_) fun c623 H29 => ?_
  ·refine ent_off rfl rfl rfl c623 rfl rfl ?_
   refine ent_off rfl rfl rfl c623 rfl rfl ?_
   refine ent_value (ov_pick rfl rfl rfl (pick_t c623)) rfl rfl rfl (ent_value (ov_move rfl) rfl rfl rfl ?_)
   refine ent_off rfl rfl rfl rfl rfl rfl ?_
   refine ent_off rfl rfl rfl rfl rfl rfl ?_
   refine ent_value (ov_pick rfl rfl rfl rfl) rfl rfl rfl (ent_nil (ent_cond_true rfl rfl (ent_seq (ent_region (ent_value (ov_build (is := []) (xs := []) (vs := []) rfl rfl (build_struct (cs := C0_) F_zero_24 F_places_24 rfl)) rfl rfl rfl (ent_value (ov_move rfl) rfl rfl rfl (ent_value (ov_binL (m' := 5) rfl rfl (b_add _ _ _) (by decide)) rfl rfl rfl ?_)))))))
   refine ent_op0 (ot_storeG (cs := C0_) (cs' := C0_) (us := C0_) (L' := C8_) 2 rfl rfl rfl (one_all rfl) F_size_24 rfl rfl (by simp [C19_,C3_,C0_,C1_,C12_,C22_,C11_,C21_,C10_,C20_,C9_,C18_,C8_,C7_,C14_]) rfl) rfl rfl ?_
   rintro _ _ rfl
   refine ent_value (ov_assign rfl) rfl rfl rfl (ent_value (ov_assign rfl) rfl rfl rfl (ent_nil (ent_retc ?_)))
   cases H29
   have H42 := Option.some.inj (show some _ = some _ from H)
   first | (have e_ := Option.some.inj (show some _ = some _ from H42); subst e_) | subst H42
   exact ret_memp [] (by decide) rfl (vs := [C3_,I 5,I 4]) rfl ⟨⟨_,C0_,rfl,reads_boxW (i := 2) rfl,.inl ⟨F_agg_24,F_size_24,rfl⟩⟩,⟨rfl,⟨rfl,trivial⟩⟩⟩ _ rfl ⟨rfl,rfl⟩
  refine ent_value_on (ov_move rfl) rfl rfl rfl (Bool.eq_false_iff.2 c623) rfl rfl ?_
  refine ent_value_on (ov_un rfl (u_not _)) rfl rfl rfl (Bool.eq_false_iff.2 c623) rfl rfl ?_
  refine ent_value (ov_pick rfl rfl rfl (pick_f (Bool.eq_false_iff.2 c623))) rfl rfl rfl (ent_value (ov_move rfl) rfl rfl rfl ?_)
  refine htT H29 (fun c624 H29 => ?_) fun c624 H29 => ?_
  ·refine ent_off rfl rfl rfl c624 rfl rfl ?_
   refine ent_off rfl rfl rfl c624 rfl rfl ?_
   refine ent_value (ov_pick rfl rfl rfl (pick_t c624)) rfl rfl rfl (ent_nil (ent_cond_true rfl rfl (ent_seq (ent_region (ent_value (ov_build (is := []) (xs := []) (vs := []) rfl rfl (build_struct (cs := C0_) F_zero_24 F_places_24 rfl)) rfl rfl rfl (ent_value (ov_move rfl) rfl rfl rfl (ent_value (ov_binL (m' := 5) rfl rfl (b_add _ _ _) (by decide)) rfl rfl rfl ?_)))))))
   refine ent_op0 (ot_storeG (cs := C0_) (cs' := C0_) (us := C0_) (L' := C8_) 2 rfl rfl rfl (one_all rfl) F_size_24 rfl rfl (by simp [C19_,C3_,C0_,C1_,C12_,C22_,C11_,C21_,C10_,C20_,C9_,C18_,C8_,C7_,C14_]) rfl) rfl rfl ?_
   rintro _ _ rfl
   refine ent_value (ov_assign rfl) rfl rfl rfl (ent_value (ov_assign rfl) rfl rfl rfl (ent_nil (ent_retc ?_)))
   cases H29
   have H43 := Option.some.inj (show some _ = some _ from H)
   first | (have e_ := Option.some.inj (show some _ = some _ from H43); subst e_) | subst H43
   exact ret_memp [] (by decide) rfl (vs := [C3_,I 5,I 4]) rfl ⟨⟨_,C0_,rfl,reads_boxW (i := 2) rfl,.inl ⟨F_agg_24,F_size_24,rfl⟩⟩,⟨rfl,⟨rfl,trivial⟩⟩⟩ _ rfl ⟨rfl,rfl⟩
  refine ent_value_on (ov_move rfl) rfl rfl rfl (Bool.eq_false_iff.2 c624) rfl rfl ?_
  refine ent_value_on (ov_un rfl (u_not _)) rfl rfl rfl (Bool.eq_false_iff.2 c624) rfl rfl ?_
  refine ent_value (ov_pick rfl rfl rfl (pick_f (Bool.eq_false_iff.2 c624))) rfl rfl rfl (ent_nil ?_)
  refine htT H29 (fun c625 H29 => ?_) fun c625 H29 => ?_
  ·refine ent_cond_true rfl c625 (ent_seq (ent_region (ent_value (ov_build (is := []) (xs := []) (vs := []) rfl rfl (build_struct (cs := C0_) F_zero_24 F_places_24 rfl)) rfl rfl rfl (ent_value (ov_move rfl) rfl rfl rfl (ent_value (ov_binL (m' := 5) rfl rfl (b_add _ _ _) (by decide)) rfl rfl rfl ?_)))))
   refine ent_op0 (ot_storeG (cs := C0_) (cs' := C0_) (us := C0_) (L' := C8_) 2 rfl rfl rfl (one_all rfl) F_size_24 rfl rfl (by simp [C19_,C3_,C0_,C1_,C12_,C22_,C11_,C21_,C10_,C20_,C9_,C18_,C8_,C7_,C14_]) rfl) rfl rfl ?_
   rintro _ _ rfl
   refine ent_value (ov_assign rfl) rfl rfl rfl (ent_value (ov_assign rfl) rfl rfl rfl (ent_nil (ent_retc ?_)))
   cases H29
   have H44 := Option.some.inj (show some _ = some _ from H)
   first | (have e_ := Option.some.inj (show some _ = some _ from H44); subst e_) | subst H44
   exact ret_memp [] (by decide) rfl (vs := [C3_,I 5,I 4]) rfl ⟨⟨_,C0_,rfl,reads_boxW (i := 2) rfl,.inl ⟨F_agg_24,F_size_24,rfl⟩⟩,⟨rfl,⟨rfl,trivial⟩⟩⟩ _ rfl ⟨rfl,rfl⟩
  refine ent_cond_false rfl (Bool.eq_false_iff.2 c625) (ent_skip (ent_seq (ent_region (ent_value (ov_move rfl) rfl rfl rfl ?_))))
  obtain ⟨c626,H29⟩ := gdT H29
  refine ent_value (ov_indexArr (o := 0) rfl rfl F_array_53 F_size_52 (by decide) c626) rfl rfl rfl (ent_value (ov_load (v := (pt b8 4)) rfl F_agg_52 (reads_box1 (i := 0) rfl rfl)) rfl rfl rfl (ent_value (ov_move rfl) rfl rfl rfl (ent_value (ov_nilCheck rfl) rfl rfl rfl ?_)))
  refine ent_op0 (ot_storeG (cs := C18_) (cs' := C7_) (us := [I x235.1]) (L' := C14_) 1 rfl rfl rfl (one_all rfl) F_size_2 rfl rfl (by simp [C19_,C3_,C0_,C1_,C12_,C22_,C11_,C21_,C10_,C20_,C9_,C18_,C8_,C7_,C14_]) rfl) rfl rfl ?_
  rintro _ _ rfl
  refine ent_nil (ent_seq (ent_region (ent_value (ov_move rfl) rfl rfl rfl (ent_value (ov_assign rfl) rfl rfl rfl (ent_nil (ent_exit (ent_region (ent_value (ov_binL (m' := 5) rfl rfl (b_add _ _ _) (by decide)) rfl rfl rfl (ent_value (ov_move rfl) rfl rfl rfl (ent_nil (ent_round ?_)))))))))))
  refine ent_seq (ent_region (ent_value (ov_bin rfl rfl (b_lss _ _ _)) rfl rfl rfl (ent_nil (ent_seq (ent_cond_true rfl rfl (ent_skip (ent_seq (ent_block (ent_seq (ent_region (ent_value (ov_move rfl) rfl rfl rfl ?_)))))))))))
  refine ent_value (ov_indexAggN rfl rfl F_array_55 F_size_9 F_agg_9 (by decide) (by decide) rfl) rfl rfl rfl (ent_value (ov_assign rfl) rfl rfl rfl (ent_value (ov_assign rfl) rfl rfl rfl (ent_nil (ent_seq (ent_region (ent_value (ov_move rfl) rfl rfl rfl ?_))))))
  obtain ⟨x239,h239,H29⟩ := Option.bind_eq_some_iff.1 H29
  refine ent_op (ot_call0 (first := []) (cap := []) (xs := [.tmp 28,.const (str ([10] : List UInt8))]) rfl rfl F_call_28 rfl (strings_Cut.spec x233.2.1 ([10] : List UInt8) _ h239)) rfl rfl rfl ?_
  rintro _ _ ⟨rfl,rfl⟩
  refine ent_value (ov_move rfl) rfl rfl rfl (ent_value (ov_extract rfl rfl) rfl rfl rfl (ent_value (ov_extract rfl rfl) rfl rfl rfl (ent_value (ov_extract rfl rfl) rfl rfl rfl (ent_value (ov_assign rfl) rfl rfl rfl (ent_value (ov_assign rfl) rfl rfl rfl (ent_value (ov_assign rfl) rfl rfl rfl (ent_nil (ent_seq (ent_region (ent_value (ov_move rfl) rfl rfl rfl (ent_value (ov_move rfl) rfl rfl rfl ?_)))))))))))
  obtain ⟨c635,H29⟩ := gdT H29
  refine ent_value (ov_bin rfl rfl fun w => b_add_str _ _ w c635) rfl rfl rfl ?_
  obtain ⟨x240,h240,H29⟩ := thn_elim H29
  refine ent_op (ot_call0 (first := []) (cap := []) (xs := [.tmp 34,.tmp 36]) rfl rfl F_call_29 rfl (strings_CutPrefix.spec x239.1 (x196.2.2.2.2.2.1 ++ ([32] : List UInt8)) _ h240)) rfl rfl rfl ?_
  rintro _ _ ⟨rfl,rfl⟩
  refine ent_value (ov_move rfl) rfl rfl rfl (ent_value (ov_extract rfl rfl) rfl rfl rfl (ent_value (ov_extract rfl rfl) rfl rfl rfl (ent_value (ov_assign rfl) rfl rfl rfl (ent_value (ov_assign rfl) rfl rfl rfl (ent_nil (ent_seq (ent_region (ent_value (ov_move rfl) rfl rfl rfl ?_))))))))
  obtain ⟨x241,h241,H29⟩ := Option.bind_eq_some_iff.1 H29
  let C6_ : List Value := [I x211.1,I x217.1,I x223.1,I x229.1,I x235.1,I x241.1,I 0,I 0,I 0,I 0]
  let C15_ : List HP := [box b9 53 C1_,box b8 51 C6_,box b7 24 C0_]
  refine ent_op (ot_call0 (first := []) (cap := []) (xs := [.tmp 41]) rfl rfl F_call_30 rfl (words_Number.spec K x240.1 _ h241)) rfl rfl rfl ?_
  rintro _ _ ⟨rfl,rfl⟩
  refine ent_value (ov_move rfl) rfl rfl rfl (ent_value (ov_extract rfl rfl) rfl rfl rfl (ent_value (ov_extract rfl rfl) rfl rfl rfl (ent_value (ov_assign rfl) rfl rfl rfl (ent_value (ov_assign rfl) rfl rfl rfl (ent_nil (ent_seq (ent_seq (ent_region (ent_value (ov_move rfl) rfl rfl rfl (ent_value (ov_un rfl (u_not _)) rfl rfl rfl (ent_value (ov_move rfl) rfl rfl rfl ?_)))))))))))
  refine htT H29 (fun c639 H29 => ?_) fun c639 H29 => ?_
  ·refine ent_off rfl rfl rfl c639 rfl rfl ?_
   refine ent_off rfl rfl rfl c639 rfl rfl ?_
   refine ent_value (ov_pick rfl rfl rfl (pick_t c639)) rfl rfl rfl (ent_value (ov_move rfl) rfl rfl rfl ?_)
   refine ent_off rfl rfl rfl rfl rfl rfl ?_
   refine ent_off rfl rfl rfl rfl rfl rfl ?_
   refine ent_value (ov_pick rfl rfl rfl rfl) rfl rfl rfl (ent_nil (ent_cond_true rfl rfl (ent_seq (ent_region (ent_value (ov_build (is := []) (xs := []) (vs := []) rfl rfl (build_struct (cs := C0_) F_zero_24 F_places_24 rfl)) rfl rfl rfl (ent_value (ov_move rfl) rfl rfl rfl (ent_value (ov_binL (m' := 6) rfl rfl (b_add _ _ _) (by decide)) rfl rfl rfl ?_)))))))
   refine ent_op0 (ot_storeG (cs := C0_) (cs' := C0_) (us := C0_) (L' := C14_) 2 rfl rfl rfl (one_all rfl) F_size_24 rfl rfl (by simp [C19_,C3_,C0_,C1_,C12_,C22_,C11_,C21_,C10_,C20_,C9_,C18_,C8_,C7_,C14_,C6_,C15_]) rfl) rfl rfl ?_
   rintro _ _ rfl
   refine ent_value (ov_assign rfl) rfl rfl rfl (ent_value (ov_assign rfl) rfl rfl rfl (ent_nil (ent_retc ?_)))
   cases H29
   have H45 := Option.some.inj (show some _ = some _ from H)
   first | (have e_ := Option.some.inj (show some _ = some _ from H45); subst e_) | subst H45
   exact ret_memp [] (by decide) rfl (vs := [C3_,I 6,I 4]) rfl ⟨⟨_,C0_,rfl,reads_boxW (i := 2) rfl,.inl ⟨F_agg_24,F_size_24,rfl⟩⟩,⟨rfl,⟨rfl,trivial⟩⟩⟩ _ rfl ⟨rfl,rfl⟩
  refine ent_value_on (ov_move rfl) rfl rfl rfl (Bool.eq_false_iff.2 c639) rfl rfl ?_
  refine ent_value_on (ov_un rfl (u_not _)) rfl rfl rfl (Bool.eq_false_iff.2 c639) rfl rfl ?_
  refine ent_value (ov_pick rfl rfl rfl (pick_f (Bool.eq_false_iff.2 c639))) rfl rfl rfl (ent_value (ov_move rfl) rfl rfl rfl ?_)
  refine htT H29 (fun c640 H29 => ?_) fun c640 H29 => ?_
  ·refine ent_off rfl rfl rfl c640 rfl rfl ?_
   refine ent_off rfl rfl rfl c640 rfl rfl ?_
   refine ent_value (ov_pick rfl rfl rfl (pick_t c640)) rfl rfl rfl (ent_nil (ent_cond_true rfl rfl (ent_seq (ent_region (ent_value (ov_build (is := []) (xs := []) (vs := []) rfl rfl (build_struct (cs := C0_) F_zero_24 F_places_24 rfl)) rfl rfl rfl (ent_value (ov_move rfl) rfl rfl rfl (ent_value (ov_binL (m' := 6) rfl rfl (b_add _ _ _) (by decide)) rfl rfl rfl ?_)))))))
   refine ent_op0 (ot_storeG (cs := C0_) (cs' := C0_) (us := C0_) (L' := C14_) 2 rfl rfl rfl (one_all rfl) F_size_24 rfl rfl (by simp [C19_,C3_,C0_,C1_,C12_,C22_,C11_,C21_,C10_,C20_,C9_,C18_,C8_,C7_,C14_,C6_,C15_]) rfl) rfl rfl ?_
   rintro _ _ rfl
   refine ent_value (ov_assign rfl) rfl rfl rfl (ent_value (ov_assign rfl) rfl rfl rfl (ent_nil (ent_retc ?_)))
   cases H29
   have H46 := Option.some.inj (show some _ = some _ from H)
   first | (have e_ := Option.some.inj (show some _ = some _ from H46); subst e_) | subst H46
   exact ret_memp [] (by decide) rfl (vs := [C3_,I 6,I 4]) rfl ⟨⟨_,C0_,rfl,reads_boxW (i := 2) rfl,.inl ⟨F_agg_24,F_size_24,rfl⟩⟩,⟨rfl,⟨rfl,trivial⟩⟩⟩ _ rfl ⟨rfl,rfl⟩
  refine ent_value_on (ov_move rfl) rfl rfl rfl (Bool.eq_false_iff.2 c640) rfl rfl ?_
  refine ent_value_on (ov_un rfl (u_not _)) rfl rfl rfl (Bool.eq_false_iff.2 c640) rfl rfl ?_
  refine ent_value (ov_pick rfl rfl rfl (pick_f (Bool.eq_false_iff.2 c640))) rfl rfl rfl (ent_nil ?_)
  refine htT H29 (fun c641 H29 => ?_) fun c641 H29 => ?_
  ·refine ent_cond_true rfl c641 (ent_seq (ent_region (ent_value (ov_build (is := []) (xs := []) (vs := []) rfl rfl (build_struct (cs := C0_) F_zero_24 F_places_24 rfl)) rfl rfl rfl (ent_value (ov_move rfl) rfl rfl rfl (ent_value (ov_binL (m' := 6) rfl rfl (b_add _ _ _) (by decide)) rfl rfl rfl ?_)))))
   refine ent_op0 (ot_storeG (cs := C0_) (cs' := C0_) (us := C0_) (L' := C14_) 2 rfl rfl rfl (one_all rfl) F_size_24 rfl rfl (by simp [C19_,C3_,C0_,C1_,C12_,C22_,C11_,C21_,C10_,C20_,C9_,C18_,C8_,C7_,C14_,C6_,C15_]) rfl) rfl rfl ?_
   rintro _ _ rfl
   refine ent_value (ov_assign rfl) rfl rfl rfl (ent_value (ov_assign rfl) rfl rfl rfl (ent_nil (ent_retc ?_)))
   cases H29
   have H47 := Option.some.inj (show some _ = some _ from H)
   first | (have e_ := Option.some.inj (show some _ = some _ from H47); subst e_) | subst H47
   exact ret_memp [] (by decide) rfl (vs := [C3_,I 6,I 4]) rfl ⟨⟨_,C0_,rfl,reads_boxW (i := 2) rfl,.inl ⟨F_agg_24,F_size_24,rfl⟩⟩,⟨rfl,⟨rfl,trivial⟩⟩⟩ _ rfl ⟨rfl,rfl⟩
  refine ent_cond_false rfl (Bool.eq_false_iff.2 c641) (ent_skip (ent_seq (ent_region (ent_value (ov_move rfl) rfl rfl rfl ?_))))
  obtain ⟨c642,H29⟩ := gdT H29
  refine ent_value (ov_indexArr (o := 0) rfl rfl F_array_53 F_size_52 (by decide) c642) rfl rfl rfl (ent_value (ov_load (v := (pt b8 5)) rfl F_agg_52 (reads_box1 (i := 0) rfl rfl)) rfl rfl rfl (ent_value (ov_move rfl) rfl rfl rfl (ent_value (ov_nilCheck rfl) rfl rfl rfl ?_)))
  refine ent_op0 (ot_storeG (cs := C7_) (cs' := C6_) (us := [I x241.1]) (L' := C15_) 1 rfl rfl rfl (one_all rfl) F_size_2 rfl rfl (by simp [C19_,C3_,C0_,C1_,C12_,C22_,C11_,C21_,C10_,C20_,C9_,C18_,C8_,C7_,C14_,C6_,C15_]) rfl) rfl rfl ?_
  rintro _ _ rfl
  refine ent_nil (ent_seq (ent_region (ent_value (ov_move rfl) rfl rfl rfl (ent_value (ov_assign rfl) rfl rfl rfl (ent_nil (ent_exit (ent_region (ent_value (ov_binL (m' := 6) rfl rfl (b_add _ _ _) (by decide)) rfl rfl rfl (ent_value (ov_move rfl) rfl rfl rfl (ent_nil (ent_round ?_)))))))))))
  refine ent_seq (ent_region (ent_value (ov_bin rfl rfl (b_lss _ _ _)) rfl rfl rfl (ent_nil (ent_seq (ent_cond_true rfl rfl (ent_skip (ent_seq (ent_block (ent_seq (ent_region (ent_value (ov_move rfl) rfl rfl rfl ?_)))))))))))
  refine ent_value (ov_indexAggN rfl rfl F_array_55 F_size_9 F_agg_9 (by decide) (by decide) rfl) rfl rfl rfl (ent_value (ov_assign rfl) rfl rfl rfl (ent_value (ov_assign rfl) rfl rfl rfl (ent_nil (ent_seq (ent_region (ent_value (ov_move rfl) rfl rfl rfl ?_))))))
  obtain ⟨x245,h245,H29⟩ := Option.bind_eq_some_iff.1 H29
  refine ent_op (ot_call0 (first := []) (cap := []) (xs := [.tmp 28,.const (str ([10] : List UInt8))]) rfl rfl F_call_28 rfl (strings_Cut.spec x239.2.1 ([10] : List UInt8) _ h245)) rfl rfl rfl ?_
  rintro _ _ ⟨rfl,rfl⟩
  refine ent_value (ov_move rfl) rfl rfl rfl (ent_value (ov_extract rfl rfl) rfl rfl rfl (ent_value (ov_extract rfl rfl) rfl rfl rfl (ent_value (ov_extract rfl rfl) rfl rfl rfl (ent_value (ov_assign rfl) rfl rfl rfl (ent_value (ov_assign rfl) rfl rfl rfl (ent_value (ov_assign rfl) rfl rfl rfl (ent_nil (ent_seq (ent_region (ent_value (ov_move rfl) rfl rfl rfl (ent_value (ov_move rfl) rfl rfl rfl ?_)))))))))))
  obtain ⟨c651,H29⟩ := gdT H29
  refine ent_value (ov_bin rfl rfl fun w => b_add_str _ _ w c651) rfl rfl rfl ?_
  obtain ⟨x246,h246,H29⟩ := thn_elim H29
  refine ent_op (ot_call0 (first := []) (cap := []) (xs := [.tmp 34,.tmp 36]) rfl rfl F_call_29 rfl (strings_CutPrefix.spec x245.1 (x196.2.2.2.2.2.2.1 ++ ([32] : List UInt8)) _ h246)) rfl rfl rfl ?_
  rintro _ _ ⟨rfl,rfl⟩
  refine ent_value (ov_move rfl) rfl rfl rfl (ent_value (ov_extract rfl rfl) rfl rfl rfl (ent_value (ov_extract rfl rfl) rfl rfl rfl (ent_value (ov_assign rfl) rfl rfl rfl (ent_value (ov_assign rfl) rfl rfl rfl (ent_nil (ent_seq (ent_region (ent_value (ov_move rfl) rfl rfl rfl ?_))))))))
  obtain ⟨x247,h247,H29⟩ := Option.bind_eq_some_iff.1 H29
  let C5_ : List Value := [I x211.1,I x217.1,I x223.1,I x229.1,I x235.1,I x241.1,I x247.1,I 0,I 0,I 0]
  let C16_ : List HP := [box b9 53 C1_,box b8 51 C5_,box b7 24 C0_]
  refine ent_op (ot_call0 (first := []) (cap := []) (xs := [.tmp 41]) rfl rfl F_call_30 rfl (words_Number.spec K x246.1 _ h247)) rfl rfl rfl ?_
  rintro _ _ ⟨rfl,rfl⟩
  refine ent_value (ov_move rfl) rfl rfl rfl (ent_value (ov_extract rfl rfl) rfl rfl rfl (ent_value (ov_extract rfl rfl) rfl rfl rfl (ent_value (ov_assign rfl) rfl rfl rfl (ent_value (ov_assign rfl) rfl rfl rfl (ent_nil (ent_seq (ent_seq (ent_region (ent_value (ov_move rfl) rfl rfl rfl (ent_value (ov_un rfl (u_not _)) rfl rfl rfl (ent_value (ov_move rfl) rfl rfl rfl ?_)))))))))))
  refine htT H29 (fun c655 H29 => ?_) fun c655 H29 => ?_
  ·refine ent_off rfl rfl rfl c655 rfl rfl ?_
   refine ent_off rfl rfl rfl c655 rfl rfl ?_
   refine ent_value (ov_pick rfl rfl rfl (pick_t c655)) rfl rfl rfl (ent_value (ov_move rfl) rfl rfl rfl ?_)
   refine ent_off rfl rfl rfl rfl rfl rfl ?_
   refine ent_off rfl rfl rfl rfl rfl rfl ?_
   refine ent_value (ov_pick rfl rfl rfl rfl) rfl rfl rfl (ent_nil (ent_cond_true rfl rfl (ent_seq (ent_region (ent_value (ov_build (is := []) (xs := []) (vs := []) rfl rfl (build_struct (cs := C0_) F_zero_24 F_places_24 rfl)) rfl rfl rfl (ent_value (ov_move rfl) rfl rfl rfl (ent_value (ov_binL (m' := 7) rfl rfl (b_add _ _ _) (by decide)) rfl rfl rfl ?_)))))))
   refine ent_op0 (ot_storeG (cs := C0_) (cs' := C0_) (us := C0_) (L' := C15_) 2 rfl rfl rfl (one_all rfl) F_size_24 rfl rfl (by simp [C19_,C3_,C0_,C1_,C12_,C22_,C11_,C21_,C10_,C20_,C9_,C18_,C8_,C7_,C14_,C6_,C15_,C5_,C16_]) rfl) rfl rfl ?_
   rintro _ _ rfl
   refine ent_value (ov_assign rfl) rfl rfl rfl (ent_value (ov_assign rfl) rfl rfl rfl (ent_nil (ent_retc ?_)))
   cases H29
   have H48 := Option.some.inj (show some _ = some _ from H)
   first | (have e_ := Option.some.inj (show some _ = some _ from H48); subst e_) | subst H48
   exact ret_memp [] (by decide) rfl (vs := [C3_,I 7,I 4]) rfl ⟨⟨_,C0_,rfl,reads_boxW (i := 2) rfl,.inl ⟨F_agg_24,F_size_24,rfl⟩⟩,⟨rfl,⟨rfl,trivial⟩⟩⟩ _ rfl ⟨rfl,rfl⟩
  refine ent_value_on (ov_move rfl) rfl rfl rfl (Bool.eq_false_iff.2 c655) rfl rfl ?_
  refine ent_value_on (ov_un rfl (u_not _)) rfl rfl rfl (Bool.eq_false_iff.2 c655) rfl rfl ?_
  refine ent_value (ov_pick rfl rfl rfl (pick_f (Bool.eq_false_iff.2 c655))) rfl rfl rfl (ent_value (ov_move rfl) rfl rfl rfl ?_)
  refine htT H29 (fun c656 H29 => ?_) fun c656 H29 => ?_
  ·refine ent_off rfl rfl rfl c656 rfl rfl ?_
   refine ent_off rfl rfl rfl c656 rfl rfl ?_
   refine ent_value (ov_pick rfl rfl rfl (pick_t c656)) rfl rfl rfl (ent_nil (ent_cond_true rfl rfl (ent_seq (ent_region (ent_value (ov_build (is := []) (xs := []) (vs := []) rfl rfl (build_struct (cs := C0_) F_zero_24 F_places_24 rfl)) rfl rfl rfl (ent_value (ov_move rfl) rfl rfl rfl (ent_value (ov_binL (m' := 7) rfl rfl (b_add _ _ _) (by decide)) rfl rfl rfl ?_)))))))
   refine ent_op0 (ot_storeG (cs := C0_) (cs' := C0_) (us := C0_) (L' := C15_) 2 rfl rfl rfl (one_all rfl) F_size_24 rfl rfl (by simp [C19_,C3_,C0_,C1_,C12_,C22_,C11_,C21_,C10_,C20_,C9_,C18_,C8_,C7_,C14_,C6_,C15_,C5_,C16_]) rfl) rfl rfl ?_
   rintro _ _ rfl
   refine ent_value (ov_assign rfl) rfl rfl rfl (ent_value (ov_assign rfl) rfl rfl rfl (ent_nil (ent_retc ?_)))
   cases H29
   have H49 := Option.some.inj (show some _ = some _ from H)
   first | (have e_ := Option.some.inj (show some _ = some _ from H49); subst e_) | subst H49
   exact ret_memp [] (by decide) rfl (vs := [C3_,I 7,I 4]) rfl ⟨⟨_,C0_,rfl,reads_boxW (i := 2) rfl,.inl ⟨F_agg_24,F_size_24,rfl⟩⟩,⟨rfl,⟨rfl,trivial⟩⟩⟩ _ rfl ⟨rfl,rfl⟩
  refine ent_value_on (ov_move rfl) rfl rfl rfl (Bool.eq_false_iff.2 c656) rfl rfl ?_
  refine ent_value_on (ov_un rfl (u_not _)) rfl rfl rfl (Bool.eq_false_iff.2 c656) rfl rfl ?_
  refine ent_value (ov_pick rfl rfl rfl (pick_f (Bool.eq_false_iff.2 c656))) rfl rfl rfl (ent_nil ?_)
  refine htT H29 (fun c657 H29 => ?_) fun c657 H29 => ?_
  ·refine ent_cond_true rfl c657 (ent_seq (ent_region (ent_value (ov_build (is := []) (xs := []) (vs := []) rfl rfl (build_struct (cs := C0_) F_zero_24 F_places_24 rfl)) rfl rfl rfl (ent_value (ov_move rfl) rfl rfl rfl (ent_value (ov_binL (m' := 7) rfl rfl (b_add _ _ _) (by decide)) rfl rfl rfl ?_)))))
   refine ent_op0 (ot_storeG (cs := C0_) (cs' := C0_) (us := C0_) (L' := C15_) 2 rfl rfl rfl (one_all rfl) F_size_24 rfl rfl (by simp [C19_,C3_,C0_,C1_,C12_,C22_,C11_,C21_,C10_,C20_,C9_,C18_,C8_,C7_,C14_,C6_,C15_,C5_,C16_]) rfl) rfl rfl ?_
   rintro _ _ rfl
   refine ent_value (ov_assign rfl) rfl rfl rfl (ent_value (ov_assign rfl) rfl rfl rfl (ent_nil (ent_retc ?_)))
   cases H29
   have H50 := Option.some.inj (show some _ = some _ from H)
   first | (have e_ := Option.some.inj (show some _ = some _ from H50); subst e_) | subst H50
   exact ret_memp [] (by decide) rfl (vs := [C3_,I 7,I 4]) rfl ⟨⟨_,C0_,rfl,reads_boxW (i := 2) rfl,.inl ⟨F_agg_24,F_size_24,rfl⟩⟩,⟨rfl,⟨rfl,trivial⟩⟩⟩ _ rfl ⟨rfl,rfl⟩
  refine ent_cond_false rfl (Bool.eq_false_iff.2 c657) (ent_skip (ent_seq (ent_region (ent_value (ov_move rfl) rfl rfl rfl ?_))))
  obtain ⟨c658,H29⟩ := gdT H29
  refine ent_value (ov_indexArr (o := 0) rfl rfl F_array_53 F_size_52 (by decide) c658) rfl rfl rfl (ent_value (ov_load (v := (pt b8 6)) rfl F_agg_52 (reads_box1 (i := 0) rfl rfl)) rfl rfl rfl (ent_value (ov_move rfl) rfl rfl rfl (ent_value (ov_nilCheck rfl) rfl rfl rfl ?_)))
  refine ent_op0 (ot_storeG (cs := C6_) (cs' := C5_) (us := [I x247.1]) (L' := C16_) 1 rfl rfl rfl (one_all rfl) F_size_2 rfl rfl (by simp [C19_,C3_,C0_,C1_,C12_,C22_,C11_,C21_,C10_,C20_,C9_,C18_,C8_,C7_,C14_,C6_,C15_,C5_,C16_]) rfl) rfl rfl ?_
  rintro _ _ rfl
  refine ent_nil (ent_seq (ent_region (ent_value (ov_move rfl) rfl rfl rfl (ent_value (ov_assign rfl) rfl rfl rfl (ent_nil (ent_exit (ent_region (ent_value (ov_binL (m' := 7) rfl rfl (b_add _ _ _) (by decide)) rfl rfl rfl (ent_value (ov_move rfl) rfl rfl rfl (ent_nil (ent_round ?_)))))))))))
  refine ent_seq (ent_region (ent_value (ov_bin rfl rfl (b_lss _ _ _)) rfl rfl rfl (ent_nil (ent_seq (ent_cond_true rfl rfl (ent_skip (ent_seq (ent_block (ent_seq (ent_region (ent_value (ov_move rfl) rfl rfl rfl ?_)))))))))))
  refine ent_value (ov_indexAggN rfl rfl F_array_55 F_size_9 F_agg_9 (by decide) (by decide) rfl) rfl rfl rfl (ent_value (ov_assign rfl) rfl rfl rfl (ent_value (ov_assign rfl) rfl rfl rfl (ent_nil (ent_seq (ent_region (ent_value (ov_move rfl) rfl rfl rfl ?_))))))
  obtain ⟨x251,h251,H29⟩ := Option.bind_eq_some_iff.1 H29
  refine ent_op (ot_call0 (first := []) (cap := []) (xs := [.tmp 28,.const (str ([10] : List UInt8))]) rfl rfl F_call_28 rfl (strings_Cut.spec x245.2.1 ([10] : List UInt8) _ h251)) rfl rfl rfl ?_
  rintro _ _ ⟨rfl,rfl⟩
  refine ent_value (ov_move rfl) rfl rfl rfl (ent_value (ov_extract rfl rfl) rfl rfl rfl (ent_value (ov_extract rfl rfl) rfl rfl rfl (ent_value (ov_extract rfl rfl) rfl rfl rfl (ent_value (ov_assign rfl) rfl rfl rfl (ent_value (ov_assign rfl) rfl rfl rfl (ent_value (ov_assign rfl) rfl rfl rfl (ent_nil (ent_seq (ent_region (ent_value (ov_move rfl) rfl rfl rfl (ent_value (ov_move rfl) rfl rfl rfl ?_)))))))))))
  obtain ⟨c667,H29⟩ := gdT H29
  refine ent_value (ov_bin rfl rfl fun w => b_add_str _ _ w c667) rfl rfl rfl ?_
  obtain ⟨x252,h252,H29⟩ := thn_elim H29
  refine ent_op (ot_call0 (first := []) (cap := []) (xs := [.tmp 34,.tmp 36]) rfl rfl F_call_29 rfl (strings_CutPrefix.spec x251.1 (x196.2.2.2.2.2.2.2.1 ++ ([32] : List UInt8)) _ h252)) rfl rfl rfl ?_
  rintro _ _ ⟨rfl,rfl⟩
  refine ent_value (ov_move rfl) rfl rfl rfl (ent_value (ov_extract rfl rfl) rfl rfl rfl (ent_value (ov_extract rfl rfl) rfl rfl rfl (ent_value (ov_assign rfl) rfl rfl rfl (ent_value (ov_assign rfl) rfl rfl rfl (ent_nil (ent_seq (ent_region (ent_value (ov_move rfl) rfl rfl rfl ?_))))))))
  obtain ⟨x253,h253,H29⟩ := Option.bind_eq_some_iff.1 H29
  let C4_ : List Value := [I x211.1,I x217.1,I x223.1,I x229.1,I x235.1,I x241.1,I x247.1,I 0,I 0,I x253.1]
  let C17_ : List HP := [box b9 53 C1_,box b8 51 C4_,box b7 24 C0_]
  refine ent_op (ot_call0 (first := []) (cap := []) (xs := [.tmp 41]) rfl rfl F_call_30 rfl (words_Number.spec K x252.1 _ h253)) rfl rfl rfl ?_
  rintro _ _ ⟨rfl,rfl⟩
  refine ent_value (ov_move rfl) rfl rfl rfl (ent_value (ov_extract rfl rfl) rfl rfl rfl (ent_value (ov_extract rfl rfl) rfl rfl rfl (ent_value (ov_assign rfl) rfl rfl rfl (ent_value (ov_assign rfl) rfl rfl rfl (ent_nil (ent_seq (ent_seq (ent_region (ent_value (ov_move rfl) rfl rfl rfl (ent_value (ov_un rfl (u_not _)) rfl rfl rfl (ent_value (ov_move rfl) rfl rfl rfl ?_)))))))))))
  refine htT H29 (fun c671 H29 => ?_) fun c671 H29 => ?_
  ·refine ent_off rfl rfl rfl c671 rfl rfl ?_
   refine ent_off rfl rfl rfl c671 rfl rfl ?_
   refine ent_value (ov_pick rfl rfl rfl (pick_t c671)) rfl rfl rfl (ent_value (ov_move rfl) rfl rfl rfl ?_)
   refine ent_off rfl rfl rfl rfl rfl rfl ?_
   refine ent_off rfl rfl rfl rfl rfl rfl ?_
   refine ent_value (ov_pick rfl rfl rfl rfl) rfl rfl rfl (ent_nil (ent_cond_true rfl rfl (ent_seq (ent_region (ent_value (ov_build (is := []) (xs := []) (vs := []) rfl rfl (build_struct (cs := C0_) F_zero_24 F_places_24 rfl)) rfl rfl rfl (ent_value (ov_move rfl) rfl rfl rfl (ent_value (ov_binL (m' := 8) rfl rfl (b_add _ _ _) (by decide)) rfl rfl rfl ?_)))))))
   refine ent_op0 (ot_storeG (cs := C0_) (cs' := C0_) (us := C0_) (L' := C16_) 2 rfl rfl rfl (one_all rfl) F_size_24 rfl rfl (by simp [C19_,C3_,C0_,C1_,C12_,C22_,C11_,C21_,C10_,C20_,C9_,C18_,C8_,C7_,C14_,C6_,C15_,C5_,C16_,C4_,C17_]) rfl) rfl rfl ?_
   rintro _ _ rfl
   refine ent_value (ov_assign rfl) rfl rfl rfl (ent_value (ov_assign rfl) rfl rfl rfl (ent_nil (ent_retc ?_)))
   cases H29
   have H51 := Option.some.inj (show some _ = some _ from H)
   first | (have e_ := Option.some.inj (show some _ = some _ from H51); subst e_) | subst H51
   exact ret_memp [] (by decide) rfl (vs := [C3_,I 8,I 4]) rfl ⟨⟨_,C0_,rfl,reads_boxW (i := 2) rfl,.inl ⟨F_agg_24,F_size_24,rfl⟩⟩,⟨rfl,⟨rfl,trivial⟩⟩⟩ _ rfl ⟨rfl,rfl⟩
  refine ent_value_on (ov_move rfl) rfl rfl rfl (Bool.eq_false_iff.2 c671) rfl rfl ?_
  refine ent_value_on (ov_un rfl (u_not _)) rfl rfl rfl (Bool.eq_false_iff.2 c671) rfl rfl ?_
  refine ent_value (ov_pick rfl rfl rfl (pick_f (Bool.eq_false_iff.2 c671))) rfl rfl rfl (ent_value (ov_move rfl) rfl rfl rfl ?_)
  refine htT H29 (fun c672 H29 => ?_) fun c672 H29 => ?_
  ·refine ent_off rfl rfl rfl c672 rfl rfl ?_
   refine ent_off rfl rfl rfl c672 rfl rfl ?_
   refine ent_value (ov_pick rfl rfl rfl (pick_t c672)) rfl rfl rfl (ent_nil (ent_cond_true rfl rfl (ent_seq (ent_region (ent_value (ov_build (is := []) (xs := []) (vs := []) rfl rfl (build_struct (cs := C0_) F_zero_24 F_places_24 rfl)) rfl rfl rfl (ent_value (ov_move rfl) rfl rfl rfl (ent_value (ov_binL (m' := 8) rfl rfl (b_add _ _ _) (by decide)) rfl rfl rfl ?_)))))))
   refine ent_op0 (ot_storeG (cs := C0_) (cs' := C0_) (us := C0_) (L' := C16_) 2 rfl rfl rfl (one_all rfl) F_size_24 rfl rfl (by simp [C19_,C3_,C0_,C1_,C12_,C22_,C11_,C21_,C10_,C20_,C9_,C18_,C8_,C7_,C14_,C6_,C15_,C5_,C16_,C4_,C17_]) rfl) rfl rfl ?_
   rintro _ _ rfl
   refine ent_value (ov_assign rfl) rfl rfl rfl (ent_value (ov_assign rfl) rfl rfl rfl (ent_nil (ent_retc ?_)))
   cases H29
   have H52 := Option.some.inj (show some _ = some _ from H)
   first | (have e_ := Option.some.inj (show some _ = some _ from H52); subst e_) | subst H52
   exact ret_memp [] (by decide) rfl (vs := [C3_,I 8,I 4]) rfl ⟨⟨_,C0_,rfl,reads_boxW (i := 2) rfl,.inl ⟨F_agg_24,F_size_24,rfl⟩⟩,⟨rfl,⟨rfl,trivial⟩⟩⟩ _ rfl ⟨rfl,rfl⟩
  refine ent_value_on (ov_move rfl) rfl rfl rfl (Bool.eq_false_iff.2 c672) rfl rfl ?_
  refine ent_value_on (ov_un rfl (u_not _)) rfl rfl rfl (Bool.eq_false_iff.2 c672) rfl rfl ?_
  refine ent_value (ov_pick rfl rfl rfl (pick_f (Bool.eq_false_iff.2 c672))) rfl rfl rfl (ent_nil ?_)
  refine htT H29 (fun c673 H29 => ?_) fun c673 H29 => ?_
  ·refine ent_cond_true rfl c673 (ent_seq (ent_region (ent_value (ov_build (is := []) (xs := []) (vs := []) rfl rfl (build_struct (cs := C0_) F_zero_24 F_places_24 rfl)) rfl rfl rfl (ent_value (ov_move rfl) rfl rfl rfl (ent_value (ov_binL (m' := 8) rfl rfl (b_add _ _ _) (by decide)) rfl rfl rfl ?_)))))
   refine ent_op0 (ot_storeG (cs := C0_) (cs' := C0_) (us := C0_) (L' := C16_) 2 rfl rfl rfl (one_all rfl) F_size_24 rfl rfl (by simp [C19_,C3_,C0_,C1_,C12_,C22_,C11_,C21_,C10_,C20_,C9_,C18_,C8_,C7_,C14_,C6_,C15_,C5_,C16_,C4_,C17_]) rfl) rfl rfl ?_
   rintro _ _ rfl
   refine ent_value (ov_assign rfl) rfl rfl rfl (ent_value (ov_assign rfl) rfl rfl rfl (ent_nil (ent_retc ?_)))
   cases H29
   have H53 := Option.some.inj (show some _ = some _ from H)
   first | (have e_ := Option.some.inj (show some _ = some _ from H53); subst e_) | subst H53
   exact ret_memp [] (by decide) rfl (vs := [C3_,I 8,I 4]) rfl ⟨⟨_,C0_,rfl,reads_boxW (i := 2) rfl,.inl ⟨F_agg_24,F_size_24,rfl⟩⟩,⟨rfl,⟨rfl,trivial⟩⟩⟩ _ rfl ⟨rfl,rfl⟩
  refine ent_cond_false rfl (Bool.eq_false_iff.2 c673) (ent_skip (ent_seq (ent_region (ent_value (ov_move rfl) rfl rfl rfl ?_))))
  obtain ⟨c674,H29⟩ := gdT H29
  refine ent_value (ov_indexArr (o := 0) rfl rfl F_array_53 F_size_52 (by decide) c674) rfl rfl rfl (ent_value (ov_load (v := (pt b8 9)) rfl F_agg_52 (reads_box1 (i := 0) rfl rfl)) rfl rfl rfl (ent_value (ov_move rfl) rfl rfl rfl (ent_value (ov_nilCheck rfl) rfl rfl rfl ?_)))
  refine ent_op0 (ot_storeG (cs := C5_) (cs' := C4_) (us := [I x253.1]) (L' := C17_) 1 rfl rfl rfl (one_all rfl) F_size_2 rfl rfl (by simp [C19_,C3_,C0_,C1_,C12_,C22_,C11_,C21_,C10_,C20_,C9_,C18_,C8_,C7_,C14_,C6_,C15_,C5_,C16_,C4_,C17_]) rfl) rfl rfl ?_
  rintro _ _ rfl
  refine ent_nil (ent_seq (ent_region (ent_value (ov_move rfl) rfl rfl rfl (ent_value (ov_assign rfl) rfl rfl rfl (ent_nil (ent_exit (ent_region (ent_value (ov_binL (m' := 8) rfl rfl (b_add _ _ _) (by decide)) rfl rfl rfl (ent_value (ov_move rfl) rfl rfl rfl (ent_nil (ent_round ?_)))))))))))
  refine ent_seq (ent_region (ent_value (ov_bin rfl rfl (b_lss _ _ _)) rfl rfl rfl (ent_nil (ent_seq (ent_cond_true rfl rfl (ent_skip (ent_seq (ent_block (ent_seq (ent_region (ent_value (ov_move rfl) rfl rfl rfl ?_)))))))))))
  refine ent_value (ov_indexAggN rfl rfl F_array_55 F_size_9 F_agg_9 (by decide) (by decide) rfl) rfl rfl rfl (ent_value (ov_assign rfl) rfl rfl rfl (ent_value (ov_assign rfl) rfl rfl rfl (ent_nil (ent_seq (ent_region (ent_value (ov_move rfl) rfl rfl rfl ?_))))))
  obtain ⟨x257,h257,H29⟩ := Option.bind_eq_some_iff.1 H29
  refine ent_op (ot_call0 (first := []) (cap := []) (xs := [.tmp 28,.const (str ([10] : List UInt8))]) rfl rfl F_call_28 rfl (strings_Cut.spec x251.2.1 ([10] : List UInt8) _ h257)) rfl rfl rfl ?_
  rintro _ _ ⟨rfl,rfl⟩
  refine ent_value (ov_move rfl) rfl rfl rfl (ent_value (ov_extract rfl rfl) rfl rfl rfl (ent_value (ov_extract rfl rfl) rfl rfl rfl (ent_value (ov_extract rfl rfl) rfl rfl rfl (ent_value (ov_assign rfl) rfl rfl rfl (ent_value (ov_assign rfl) rfl rfl rfl (ent_value (ov_assign rfl) rfl rfl rfl (ent_nil (ent_seq (ent_region (ent_value (ov_move rfl) rfl rfl rfl (ent_value (ov_move rfl) rfl rfl rfl ?_)))))))))))
  obtain ⟨c683,H29⟩ := gdT H29
  refine ent_value (ov_bin rfl rfl fun w => b_add_str _ _ w c683) rfl rfl rfl ?_
  obtain ⟨x258,h258,H29⟩ := thn_elim H29
  refine ent_op (ot_call0 (first := []) (cap := []) (xs := [.tmp 34,.tmp 36]) rfl rfl F_call_29 rfl (strings_CutPrefix.spec x257.1 (x196.2.2.2.2.2.2.2.2 ++ ([32] : List UInt8)) _ h258)) rfl rfl rfl ?_
  rintro _ _ ⟨rfl,rfl⟩
  refine ent_value (ov_move rfl) rfl rfl rfl (ent_value (ov_extract rfl rfl) rfl rfl rfl (ent_value (ov_extract rfl rfl) rfl rfl rfl (ent_value (ov_assign rfl) rfl rfl rfl (ent_value (ov_assign rfl) rfl rfl rfl (ent_nil (ent_seq (ent_region (ent_value (ov_move rfl) rfl rfl rfl ?_))))))))
  obtain ⟨x259,h259,H29⟩ := Option.bind_eq_some_iff.1 H29
  let C23_ : List Value := [I x211.1,I x217.1,I x223.1,I x229.1,I x235.1,I x241.1,I x247.1,I 0,I x259.1,I x253.1]
  refine ent_op (ot_call0 (first := []) (cap := []) (xs := [.tmp 41]) rfl rfl F_call_30 rfl (words_Number.spec K x258.1 _ h259)) rfl rfl rfl ?_
  rintro _ _ ⟨rfl,rfl⟩
  refine ent_value (ov_move rfl) rfl rfl rfl (ent_value (ov_extract rfl rfl) rfl rfl rfl (ent_value (ov_extract rfl rfl) rfl rfl rfl (ent_value (ov_assign rfl) rfl rfl rfl (ent_value (ov_assign rfl) rfl rfl rfl (ent_nil (ent_seq (ent_seq (ent_region (ent_value (ov_move rfl) rfl rfl rfl (ent_value (ov_un rfl (u_not _)) rfl rfl rfl (ent_value (ov_move rfl) rfl rfl rfl ?_)))))))))))
  refine htT H29 (fun c687 H29 => ?_) fun c687 H29 => ?_
  ·refine ent_off rfl rfl rfl c687 rfl rfl ?_
   refine ent_off rfl rfl rfl c687 rfl rfl ?_
   refine ent_value (ov_pick rfl rfl rfl (pick_t c687)) rfl rfl rfl (ent_value (ov_move rfl) rfl rfl rfl ?_)
   refine ent_off rfl rfl rfl rfl rfl rfl ?_
   refine ent_off rfl rfl rfl rfl rfl rfl ?_
   refine ent_value (ov_pick rfl rfl rfl rfl) rfl rfl rfl (ent_nil (ent_cond_true rfl rfl (ent_seq (ent_region (ent_value (ov_build (is := []) (xs := []) (vs := []) rfl rfl (build_struct (cs := C0_) F_zero_24 F_places_24 rfl)) rfl rfl rfl (ent_value (ov_move rfl) rfl rfl rfl (ent_value (ov_binL (m' := 9) rfl rfl (b_add _ _ _) (by decide)) rfl rfl rfl ?_)))))))
   refine ent_op0 (ot_storeG (cs := C0_) (cs' := C0_) (us := C0_) (L' := C17_) 2 rfl rfl rfl (one_all rfl) F_size_24 rfl rfl (by simp [C19_,C3_,C0_,C1_,C12_,C22_,C11_,C21_,C10_,C20_,C9_,C18_,C8_,C7_,C14_,C6_,C15_,C5_,C16_,C4_,C17_,C23_]) rfl) rfl rfl ?_
   rintro _ _ rfl
   refine ent_value (ov_assign rfl) rfl rfl rfl (ent_value (ov_assign rfl) rfl rfl rfl (ent_nil (ent_retc ?_)))
   cases H29
   have H54 := Option.some.inj (show some _ = some _ from H)
   first | (have e_ := Option.some.inj (show some _ = some _ from H54); subst e_) | subst H54
   exact ret_memp [] (by decide) rfl (vs := [C3_,I 9,I 4]) rfl ⟨⟨_,C0_,rfl,reads_boxW (i := 2) rfl,.inl ⟨F_agg_24,F_size_24,rfl⟩⟩,⟨rfl,⟨rfl,trivial⟩⟩⟩ _ rfl ⟨rfl,rfl⟩
  refine ent_value_on (ov_move rfl) rfl rfl rfl (Bool.eq_false_iff.2 c687) rfl rfl ?_
  refine ent_value_on (ov_un rfl (u_not _)) rfl rfl rfl (Bool.eq_false_iff.2 c687) rfl rfl ?_
  refine ent_value (ov_pick rfl rfl rfl (pick_f (Bool.eq_false_iff.2 c687))) rfl rfl rfl (ent_value (ov_move rfl) rfl rfl rfl ?_)
  refine htT H29 (fun c688 H29 => ?_) fun c688 H29 => ?_
  ·refine ent_off rfl rfl rfl c688 rfl rfl ?_
   refine ent_off rfl rfl rfl c688 rfl rfl ?_
   refine ent_value (ov_pick rfl rfl rfl (pick_t c688)) rfl rfl rfl (ent_nil (ent_cond_true rfl rfl (ent_seq (ent_region (ent_value (ov_build (is := []) (xs := []) (vs := []) rfl rfl (build_struct (cs := C0_) F_zero_24 F_places_24 rfl)) rfl rfl rfl (ent_value (ov_move rfl) rfl rfl rfl (ent_value (ov_binL (m' := 9) rfl rfl (b_add _ _ _) (by decide)) rfl rfl rfl ?_)))))))
   refine ent_op0 (ot_storeG (cs := C0_) (cs' := C0_) (us := C0_) (L' := C17_) 2 rfl rfl rfl (one_all rfl) F_size_24 rfl rfl (by simp [C19_,C3_,C0_,C1_,C12_,C22_,C11_,C21_,C10_,C20_,C9_,C18_,C8_,C7_,C14_,C6_,C15_,C5_,C16_,C4_,C17_,C23_]) rfl) rfl rfl ?_
   rintro _ _ rfl
   refine ent_value (ov_assign rfl) rfl rfl rfl (ent_value (ov_assign rfl) rfl rfl rfl (ent_nil (ent_retc ?_)))
   cases H29
   have H55 := Option.some.inj (show some _ = some _ from H)
   first | (have e_ := Option.some.inj (show some _ = some _ from H55); subst e_) | subst H55
   exact ret_memp [] (by decide) rfl (vs := [C3_,I 9,I 4]) rfl ⟨⟨_,C0_,rfl,reads_boxW (i := 2) rfl,.inl ⟨F_agg_24,F_size_24,rfl⟩⟩,⟨rfl,⟨rfl,trivial⟩⟩⟩ _ rfl ⟨rfl,rfl⟩
  refine ent_value_on (ov_move rfl) rfl rfl rfl (Bool.eq_false_iff.2 c688) rfl rfl ?_
  refine ent_value_on (ov_un rfl (u_not _)) rfl rfl rfl (Bool.eq_false_iff.2 c688) rfl rfl ?_
  refine ent_value (ov_pick rfl rfl rfl (pick_f (Bool.eq_false_iff.2 c688))) rfl rfl rfl (ent_nil ?_)
  refine htT H29 (fun c689 H29 => ?_) fun c689 H29 => ?_
  ·refine ent_cond_true rfl c689 (ent_seq (ent_region (ent_value (ov_build (is := []) (xs := []) (vs := []) rfl rfl (build_struct (cs := C0_) F_zero_24 F_places_24 rfl)) rfl rfl rfl (ent_value (ov_move rfl) rfl rfl rfl (ent_value (ov_binL (m' := 9) rfl rfl (b_add _ _ _) (by decide)) rfl rfl rfl ?_)))))
   refine ent_op0 (ot_storeG (cs := C0_) (cs' := C0_) (us := C0_) (L' := C17_) 2 rfl rfl rfl (one_all rfl) F_size_24 rfl rfl (by simp [C19_,C3_,C0_,C1_,C12_,C22_,C11_,C21_,C10_,C20_,C9_,C18_,C8_,C7_,C14_,C6_,C15_,C5_,C16_,C4_,C17_,C23_]) rfl) rfl rfl ?_
   rintro _ _ rfl
   refine ent_value (ov_assign rfl) rfl rfl rfl (ent_value (ov_assign rfl) rfl rfl rfl (ent_nil (ent_retc ?_)))
   cases H29
   have H56 := Option.some.inj (show some _ = some _ from H)
   first | (have e_ := Option.some.inj (show some _ = some _ from H56); subst e_) | subst H56
   exact ret_memp [] (by decide) rfl (vs := [C3_,I 9,I 4]) rfl ⟨⟨_,C0_,rfl,reads_boxW (i := 2) rfl,.inl ⟨F_agg_24,F_size_24,rfl⟩⟩,⟨rfl,⟨rfl,trivial⟩⟩⟩ _ rfl ⟨rfl,rfl⟩
  refine ent_cond_false rfl (Bool.eq_false_iff.2 c689) (ent_skip (ent_seq (ent_region (ent_value (ov_move rfl) rfl rfl rfl ?_))))
  obtain ⟨c690,H29⟩ := gdT H29
  refine ent_value (ov_indexArr (o := 0) rfl rfl F_array_53 F_size_52 (by decide) c690) rfl rfl rfl (ent_value (ov_load (v := (pt b8 8)) rfl F_agg_52 (reads_box1 (i := 0) rfl rfl)) rfl rfl rfl (ent_value (ov_move rfl) rfl rfl rfl (ent_value (ov_nilCheck rfl) rfl rfl rfl ?_)))
  refine ent_op0 (ot_storeG (cs := C4_) (cs' := C23_) (us := [I x259.1]) (L' := [box b9 53 C1_,box b8 51 C23_,box b7 24 C0_]) 1 rfl rfl rfl (one_all rfl) F_size_2 rfl rfl (by simp [C19_,C3_,C0_,C1_,C12_,C22_,C11_,C21_,C10_,C20_,C9_,C18_,C8_,C7_,C14_,C6_,C15_,C5_,C16_,C4_,C17_,C23_]) rfl) rfl rfl ?_
  rintro _ _ rfl
  refine ent_nil (ent_seq (ent_region (ent_value (ov_move rfl) rfl rfl rfl (ent_value (ov_assign rfl) rfl rfl rfl (ent_nil (ent_exit (ent_region (ent_value (ov_binL (m' := 9) rfl rfl (b_add _ _ _) (by decide)) rfl rfl rfl (ent_value (ov_move rfl) rfl rfl rfl (ent_nil (ent_round ?_)))))))))))
  refine ent_seq (ent_region (ent_value (ov_bin rfl rfl (b_lss _ _ _)) rfl rfl rfl (ent_nil (ent_seq (ent_cond_false rfl rfl (ent_exit ?_))))))
  cases H29
  exact ent_fin [2,1] (by decide) rfl (sub_cons (t := 0) rfl (sub_cons (t := 2) rfl (sub_cons (t := 5) rfl (sub_nil _)))) fun a w h => ⟨_,rfl,_,_,h⟩
 ·refine ent_exi fun v2 => ent_and fun e_ => ?_
  subst e_
  rw [cas_inl] at H
  refine ent_exi fun b10 => ent_exi fun b11 => ?_
  refine ent_seq (ent_seq (ent_region (ent_value (ov_move rfl) rfl rfl rfl (ent_value (ov_bin rfl rfl (b_neq_str _ _)) rfl rfl rfl (ent_nil ?_)))))
  refine htT H (fun c692 H => ?_) fun c692 H => ?_
  ·refine ent_cond_true rfl (nb_t c692) (ent_seq (ent_region (ent_value (ov_build (is := []) (xs := []) (vs := []) rfl rfl (build_struct (cs := C0_) F_zero_24 F_places_24 rfl)) rfl rfl rfl ?_)))
   refine ent_op0 (ot_storeG (cs := C0_) (cs' := C0_) (us := C0_) (L' := [box b10 24 C0_,box b11 51 [I v2.1,I v2.2.1,I v2.2.2.1,I v2.2.2.2.1,I v2.2.2.2.2.1,I v2.2.2.2.2.2.1,I v2.2.2.2.2.2.2.1,I 0,I v2.2.2.2.2.2.2.2.1,I v2.2.2.2.2.2.2.2.2.1]]) 0 rfl rfl rfl (one_all rfl) F_size_24 rfl rfl (by simp [C19_,C3_,C0_,C1_,C12_]) rfl) rfl rfl ?_
   rintro _ _ rfl
   refine ent_value (ov_assign rfl) rfl rfl rfl (ent_value (ov_assign rfl) rfl rfl rfl (ent_nil (ent_retc ?_)))
   first | (have e_ := Option.some.inj (show some _ = some _ from H); subst e_) | subst H
   exact ret_memp [] (by decide) rfl (vs := [C3_,I 10,I 4]) rfl ⟨⟨_,C0_,rfl,reads_boxW (i := 0) rfl,.inl ⟨F_agg_24,F_size_24,rfl⟩⟩,⟨rfl,⟨rfl,trivial⟩⟩⟩ _ rfl ⟨rfl,rfl⟩
  refine ent_cond_false rfl (nb_f c692) (ent_skip (ent_seq (ent_region (ent_value (ov_move rfl) rfl rfl rfl ?_))))
  obtain ⟨x260,h260,H⟩ := Option.bind_eq_some_iff.1 H
  let C13_ : List Value := [I v2.1,I v2.2.1,I v2.2.2.1,I v2.2.2.2.1,I v2.2.2.2.2.1,I v2.2.2.2.2.2.1,I v2.2.2.2.2.2.2.1,I x260.2.1,I v2.2.2.2.2.2.2.2.1,I v2.2.2.2.2.2.2.2.2.1]
  let C2_ : List Value := [I x260.2.2.1,I x260.2.2.2.1,I x260.2.2.2.2.1,I x260.2.2.2.2.2.1,I x260.2.2.2.2.2.2.1,I x260.2.2.2.2.2.2.2.1,I x260.2.2.2.2.2.2.2.2.1,I x260.2.2.2.2.2.2.2.2.2.1,I x260.2.2.2.2.2.2.2.2.2.2]
  refine ent_pick [1,0] (by decide) rfl ?_
  refine ent_op (ot_call (Lr := [box b10 24 C0_]) (first := []) (cap := []) (xs := [.tmp 69]) rfl rfl F_call_31 rfl (sheet_sheet_done.spec b11 v2.1 v2.2.1 v2.2.2.1 v2.2.2.2.1 v2.2.2.2.2.1 v2.2.2.2.2.2.1 v2.2.2.2.2.2.2.1 0 v2.2.2.2.2.2.2.2.1 v2.2.2.2.2.2.2.2.2.1 _ h260) rfl) rfl rfl rfl ?_
  rintro _ _ ⟨_,⟨rfl,rfl⟩,rfl⟩
  refine ent_value (ov_move rfl) rfl rfl rfl (ent_value (ov_extract rfl rfl) rfl rfl rfl (ent_value (ov_extract rfl rfl) rfl rfl rfl ?_))
  refine ent_op (ot_alloc F_zero_24) rfl rfl rfl ?_
  rintro _ _ ⟨b12,rfl,rfl⟩
  refine ent_op0 (ot_storeG (cs := C0_) (cs' := C2_) (us := C2_) (L' := [box b12 24 C2_,box b11 51 C13_,box b10 24 C0_]) 0 rfl rfl rfl (one_all rfl) F_size_24 rfl rfl (by simp [C19_,C3_,C0_,C1_,C12_,C13_,C2_]) rfl) rfl rfl ?_
  rintro _ _ rfl
  refine ent_value (ov_assign rfl) rfl rfl rfl (ent_nil (ent_seq (ent_region (ent_value (ov_load_agg (vs := C2_) rfl F_agg_24 F_size_24 (reads_boxW (i := 0) rfl)) rfl rfl rfl (ent_value (ov_move rfl) rfl rfl rfl ?_)))))
  refine ent_op0 (ot_storeG (cs := C0_) (cs' := C2_) (us := C2_) (L' := [box b12 24 C2_,box b11 51 C13_,box b10 24 C2_]) 2 rfl rfl rfl (one_all rfl) F_size_24 rfl rfl (by simp [C19_,C3_,C0_,C1_,C12_,C13_,C2_]) rfl) rfl rfl ?_
  rintro _ _ rfl
  refine ent_value (ov_assign rfl) rfl rfl rfl (ent_value (ov_assign rfl) rfl rfl rfl (ent_nil (ent_retc ?_)))
  first | (have e_ := Option.some.inj (show some _ = some _ from H); subst e_) | subst H
  exact ret_memp [] (by decide) rfl (vs := [agg #[I x260.2.2.1,I x260.2.2.2.1,I x260.2.2.2.2.1,I x260.2.2.2.2.2.1,I x260.2.2.2.2.2.2.1,I x260.2.2.2.2.2.2.2.1,I x260.2.2.2.2.2.2.2.2.1,I x260.2.2.2.2.2.2.2.2.2.1,I x260.2.2.2.2.2.2.2.2.2.2],I 0,I x260.1]) rfl ⟨⟨_,C2_,rfl,reads_boxW (i := 2) rfl,.inl ⟨F_agg_24,F_size_24,rfl⟩⟩,⟨rfl,⟨rfl,trivial⟩⟩⟩ _ rfl ⟨rfl,rfl⟩

end Go.Proofs.Ythcmiohbidencaa.SheetBack
