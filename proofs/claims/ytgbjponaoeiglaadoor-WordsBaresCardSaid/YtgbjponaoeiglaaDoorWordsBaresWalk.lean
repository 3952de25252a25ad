/- Printed by gen.py: that the machine's calls do what the plain functions of WordsBares say. -/
import Derived.Test.YtgbjponaoeiglaaDoorWordsBaresWalk1
import Derived.Test.YtgbjponaoeiglaaDoorESq
import Derived.Test.YtgbjponaoeiglaaDoorProg
import Derived.Test.YtgbjponaoeiglaaDoorEBun
import Derived.Test.YtgbjponaoeiglaaDoorEBuild
import Derived.Test.YtgbjponaoeiglaaDoorELib
import Derived.Test.YtgbjponaoeiglaaDoorEShelf
import Derived.Test.YtgbjponaoeiglaaDoorEWords
import Derived.Test.YtgbjponaoeiglaaDoorEPanic
import Derived.Test.YtgbjponaoeiglaaDoorWordsBaresPure
set_option linter.unusedVariables false
set_option linter.unusedSimpArgs false
set_option maxHeartbeats 8000000
set_option maxRecDepth 100000
namespace Go.Proofs.YtgbjponaoeiglaaDoor.WordsBares
open Go Go.RowKit E
open Go.Value (int bool slice agg)

theorem words_Parse.spec (K : Nat) (a0 : List UInt8) (a1 : Int) (r : (Int × Int × (List Api_Fact) × Int × Int × Bool × Bool × Bool × Bool × Bool × Bool × Bool × Bool × (List UInt8) × (List UInt8) × (List UInt8) × (List UInt8) × Int × Int × Int × Int × Int × Int × Int × Int × Int × (List Bool) × Int)) (H : words_Parse K a0 a1 = some r) : FnSpec Tryd.prog 16 [str a0,I a1] [] (fun v M => ∃ sv5 : Value,∃ sv6 : Value,v = (tU #[agg #[I r.1,I r.2.1,sv5,I r.2.2.2.1,I r.2.2.2.2.1,bool r.2.2.2.2.2.1,bool r.2.2.2.2.2.2.1,bool r.2.2.2.2.2.2.2.1,bool r.2.2.2.2.2.2.2.2.1,bool r.2.2.2.2.2.2.2.2.2.1,bool r.2.2.2.2.2.2.2.2.2.2.1,bool r.2.2.2.2.2.2.2.2.2.2.2.1,bool r.2.2.2.2.2.2.2.2.2.2.2.2.1,str r.2.2.2.2.2.2.2.2.2.2.2.2.2.1,str r.2.2.2.2.2.2.2.2.2.2.2.2.2.2.1,str r.2.2.2.2.2.2.2.2.2.2.2.2.2.2.2.1,str r.2.2.2.2.2.2.2.2.2.2.2.2.2.2.2.2.1,I r.2.2.2.2.2.2.2.2.2.2.2.2.2.2.2.2.2.1,I r.2.2.2.2.2.2.2.2.2.2.2.2.2.2.2.2.2.2.1,I r.2.2.2.2.2.2.2.2.2.2.2.2.2.2.2.2.2.2.2.1,I r.2.2.2.2.2.2.2.2.2.2.2.2.2.2.2.2.2.2.2.2.1,I r.2.2.2.2.2.2.2.2.2.2.2.2.2.2.2.2.2.2.2.2.2.1,I r.2.2.2.2.2.2.2.2.2.2.2.2.2.2.2.2.2.2.2.2.2.2.1,I r.2.2.2.2.2.2.2.2.2.2.2.2.2.2.2.2.2.2.2.2.2.2.2.1,I r.2.2.2.2.2.2.2.2.2.2.2.2.2.2.2.2.2.2.2.2.2.2.2.2.1,I r.2.2.2.2.2.2.2.2.2.2.2.2.2.2.2.2.2.2.2.2.2.2.2.2.2.1,sv6],I r.2.2.2.2.2.2.2.2.2.2.2.2.2.2.2.2.2.2.2.2.2.2.2.2.2.2.2]) ∧ M = [own sv5 54 6 r.2.2.1.length (fl enc_Api_Fact r.2.2.1),own sv6 4 1 r.2.2.2.2.2.2.2.2.2.2.2.2.2.2.2.2.2.2.2.2.2.2.2.2.2.2.1.length (fl eB r.2.2.2.2.2.2.2.2.2.2.2.2.2.2.2.2.2.2.2.2.2.2.2.2.2.2.1)]) := by
 unfold words_Parse at H
 refine spec_ofD Tryd.func16 rfl 22 rfl (Nat.le_of_ble_eq_true rfl) fun F w0 => ?_
 let C3_ : List Value := [agg #[I 0,I 0,L0,I 0,I 0,B0,B0,B0,B0,B0,B0,B0,B0,S0,S0,S0,S0,I 0,I 0,I 0,I 0,I 0,I 0,I 0,I 0,I 0,L0],I 1]
 let C1_ : List Value := [I 0,I 0,L0,I 0,I 0,B0,B0,B0,B0,B0,B0,B0,B0,S0,S0,S0,S0,I 0,I 0,I 0,I 0,I 0,I 0,I 0,I 0,I 0,L0]
 show Ent (St 22 w0 F [(0,str a0),(1,I a1)] []) _
 refine ent_seq (ent_region ?_)
 refine ent_op (ot_alloc F_zero_41) rfl rfl rfl ?_
 rintro _ _ ⟨b4,rfl,rfl⟩
 refine ent_op (ot_alloc F_zero_42) rfl rfl rfl ?_
 rintro _ _ ⟨b5,rfl,rfl⟩
 refine ent_nil (ent_seq (ent_seq (ent_region (ent_value (ov_move rfl) rfl rfl rfl (ent_value (ov_bin rfl rfl (b_lss _ _ _)) rfl rfl rfl (ent_value (ov_move rfl) rfl rfl rfl ?_))))))
 refine htT H (fun c7 H => ?_) fun c7 H => ?_
 ·refine ent_off rfl rfl rfl (decide_eq_true c7) rfl rfl ?_
  refine ent_off rfl rfl rfl (decide_eq_true c7) rfl rfl ?_
  refine ent_value (ov_pick rfl rfl rfl (pick_t (decide_eq_true c7))) rfl rfl rfl (ent_nil (ent_cond_true rfl rfl (ent_seq (ent_region (ent_value (ov_load_agg (vs := C1_) rfl F_agg_41 F_size_41 (reads_boxW (i := 1) rfl)) rfl rfl rfl ?_)))))
  refine ent_op0 (ot_storeG (cs := C1_) (cs' := C1_) (us := C1_) (L' := [box b5 42 [I 0],box b4 41 C1_]) 1 rfl rfl rfl (one_all rfl) F_size_41 rfl rfl (by simp [C3_,C1_]) rfl) rfl rfl ?_
  rintro _ _ rfl
  refine ent_op0 (ot_storeG (cs := [I 0]) (cs' := [I 1]) (us := [I 1]) (L' := [box b5 42 [I 1],box b4 41 C1_]) 0 rfl rfl rfl (one_all rfl) F_size_42 rfl rfl (by simp [C3_,C1_]) rfl) rfl rfl ?_
  rintro _ _ rfl
  refine ent_nil (ent_retc ?_)
  first | (have e_ := Option.some.inj (show some _ = some _ from H); subst e_) | subst H
  refine ret_earlyD ?_
  refine ent_ownnil 54 6 ?_
  refine ent_ownnil 4 1 ?_
  exact ret_memp [1,0] (by decide) rfl (vs := C3_) rfl ⟨⟨_,C1_,rfl,reads_boxW (i := 3) rfl,.inl ⟨F_agg_41,F_size_41,rfl⟩⟩,⟨⟨_,[I 1],rfl,reads_box1 (i := 2) rfl rfl,.inr ⟨F_agg_42,rfl⟩⟩,trivial⟩⟩ _ rfl ⟨_,_,rfl,rfl⟩
 refine ent_value_on (ov_move rfl) rfl rfl rfl (decide_eq_false c7) rfl rfl ?_
 refine ent_value_on (ov_bin rfl rfl (b_gtr _ _ _)) rfl rfl rfl (decide_eq_false c7) rfl rfl ?_
 refine ent_value (ov_pick rfl rfl rfl (pick_f (decide_eq_false c7))) rfl rfl rfl (ent_nil ?_)
 refine htT H (fun c8 H => ?_) fun c8 H => ?_
 ·refine ent_cond_true rfl (decide_eq_true c8) (ent_seq (ent_region (ent_value (ov_load_agg (vs := C1_) rfl F_agg_41 F_size_41 (reads_boxW (i := 1) rfl)) rfl rfl rfl ?_)))
  refine ent_op0 (ot_storeG (cs := C1_) (cs' := C1_) (us := C1_) (L' := [box b5 42 [I 0],box b4 41 C1_]) 1 rfl rfl rfl (one_all rfl) F_size_41 rfl rfl (by simp [C3_,C1_]) rfl) rfl rfl ?_
  rintro _ _ rfl
  refine ent_op0 (ot_storeG (cs := [I 0]) (cs' := [I 1]) (us := [I 1]) (L' := [box b5 42 [I 1],box b4 41 C1_]) 0 rfl rfl rfl (one_all rfl) F_size_42 rfl rfl (by simp [C3_,C1_]) rfl) rfl rfl ?_
  rintro _ _ rfl
  refine ent_nil (ent_retc ?_)
  first | (have e_ := Option.some.inj (show some _ = some _ from H); subst e_) | subst H
  refine ret_earlyD ?_
  refine ent_ownnil 54 6 ?_
  refine ent_ownnil 4 1 ?_
  exact ret_memp [1,0] (by decide) rfl (vs := C3_) rfl ⟨⟨_,C1_,rfl,reads_boxW (i := 3) rfl,.inl ⟨F_agg_41,F_size_41,rfl⟩⟩,⟨⟨_,[I 1],rfl,reads_box1 (i := 2) rfl rfl,.inr ⟨F_agg_42,rfl⟩⟩,trivial⟩⟩ _ rfl ⟨_,_,rfl,rfl⟩
 refine ent_cond_false rfl (decide_eq_false c8) (ent_skip (ent_seq (ent_region (ent_value (ov_makeFunc (first := []) (cap := [.tmp 4,.tmp 5]) rfl rfl) rfl rfl rfl ?_))))
 refine ent_defer (first := []) (cap := [pt b4 0,pt b5 0]) (vs := []) (xs := []) rfl rfl rfl ?_
 refine ent_nil (ent_seq (ent_region (ent_value (ov_move rfl) rfl rfl rfl ?_)))
 obtain ⟨x3,h3,H⟩ := Option.bind_eq_some_iff.1 H
 refine ent_op (ot_call (Lr := [box b5 42 [I 0],box b4 41 C1_]) (first := []) (cap := []) (xs := [.tmp 15]) rfl rfl F_call_14 rfl (words_Split.spec a0 _ h3) rfl) rfl rfl rfl ?_
 rintro sv7 _ ⟨_,⟨_,rfl,rfl⟩,rfl⟩
 refine ent_value (ov_move rfl) rfl rfl rfl ?_
 refine ent_value (ov_sl 0 rfl (isRd_ownx 9) fun hc0_ => (ov_build (is := [0,1]) (xs := [.tmp 16,.tmp 17]) (vs := [sv7,I a1]) rfl rfl (build_struct (cs := [sv7,I a1]) F_zero_72 F_places_72 (by simp [C3_,C1_,Instr.fill,cells_int,cells_bool,cells_str,cells_func,cells_slice,cells_ptr,cells_nilFunc,cells_agg,hc0_])))) rfl rfl rfl ?_
 refine ent_op (ot_box (cs := [sv7,I a1]) rfl rfl) rfl rfl rfl ?_
 rintro _ _ ⟨b6,rfl,rfl⟩
 refine ent_value (ov_assign rfl) rfl rfl rfl (ent_nil (ent_seq (ent_region (ent_value (ov_move rfl) rfl rfl rfl ?_))))
 obtain ⟨x4,h4,H⟩ := Option.bind_eq_some_iff.1 H
 refine ent_op (ot_call (Lr := [box b5 42 [I 0],box b4 41 C1_]) (first := []) (cap := []) (xs := [.tmp 20]) rfl rfl F_call_32 rfl (words_reader_step_O.spec K b6 sv7 x3 a1 _ h4) rfl) rfl rfl rfl ?_
 rintro _ _ ⟨_,⟨sv8,sv9,sv10,hr2,rfl,rfl⟩,rfl⟩
 let C0_ : List Value := [I x4.1,I x4.2.2.2.2.2.2.2.2.2.2.2.2.2.1,sv8,I x4.2.2.2.2.2.2.2.2.2.2.2.2.2.2.1,I x4.2.2.2.2.2.2.2.2.2.2.2.2.2.2.2.1,bool x4.2.2.2.2.2.2.2.2.2.2.2.2.2.2.2.2.1,bool x4.2.2.2.2.2.2.2.2.2.2.2.2.2.2.2.2.2.1,bool x4.2.2.2.2.2.2.2.2.2.2.2.2.2.2.2.2.2.2.1,bool x4.2.2.2.2.2.2.2.2.2.2.2.2.2.2.2.2.2.2.2.1,bool x4.2.2.2.2.2.2.2.2.2.2.2.2.2.2.2.2.2.2.2.2.1,bool x4.2.2.2.2.2.2.2.2.2.2.2.2.2.2.2.2.2.2.2.2.2.1,bool x4.2.2.2.2.2.2.2.2.2.2.2.2.2.2.2.2.2.2.2.2.2.2.1,bool x4.2.2.2.2.2.2.2.2.2.2.2.2.2.2.2.2.2.2.2.2.2.2.2.1,str x4.2.2.2.2.2.2.2.2.2.2.2.2.2.2.2.2.2.2.2.2.2.2.2.2.1,str x4.2.2.2.2.2.2.2.2.2.2.2.2.2.2.2.2.2.2.2.2.2.2.2.2.2.1,str x4.2.2.2.2.2.2.2.2.2.2.2.2.2.2.2.2.2.2.2.2.2.2.2.2.2.2.1,str x4.2.2.2.2.2.2.2.2.2.2.2.2.2.2.2.2.2.2.2.2.2.2.2.2.2.2.2,I x4.2.2.1,I x4.2.2.2.1,I x4.2.2.2.2.1,I x4.2.2.2.2.2.1,I x4.2.2.2.2.2.2.1,I x4.2.2.2.2.2.2.2.1,I x4.2.2.2.2.2.2.2.2.1,I x4.2.2.2.2.2.2.2.2.2.1,I x4.2.2.2.2.2.2.2.2.2.2.1,sv10]
 let C2_ : List HP := [own sv8 54 6 x4.2.1.length (fl enc_Api_Fact x4.2.1),own sv10 4 1 x4.2.2.2.2.2.2.2.2.2.2.2.2.1.length (fl eB x4.2.2.2.2.2.2.2.2.2.2.2.2.1),box b6 72 [sv9,I a1],own sv7 9 1 x3.length (fl eS x3),box b5 42 [I 0],box b4 41 C0_]
 refine ent_op0 (ot_storeG (cs := C1_) (cs' := C0_) (us := C0_) (L' := C2_) 5 rfl rfl rfl (one_cons rfl (one_cons rfl (one_sl 0 rfl (isRd_ownx 54) (one_cons rfl (one_cons rfl (one_cons rfl (one_cons rfl (one_cons rfl (one_cons rfl (one_cons rfl (one_cons rfl (one_cons rfl (one_cons rfl (one_cons rfl (one_cons rfl (one_cons rfl (one_cons rfl (one_cons rfl (one_cons rfl (one_cons rfl (one_cons rfl (one_cons rfl (one_cons rfl (one_cons rfl (one_cons rfl (one_cons rfl (one_sl 1 rfl (isRd_ownx 4) one_nil))))))))))))))))))))))))))) F_size_41 rfl rfl (by simp [C3_,C1_,C0_,C2_]) rfl) rfl rfl ?_
 rintro _ _ rfl
 refine ent_op0 (ot_storeG (cs := [I 0]) (cs' := [I 0]) (us := [I 0]) (L' := C2_) 4 rfl rfl rfl (one_all rfl) F_size_42 rfl rfl (by simp [C3_,C1_,C0_,C2_]) rfl) rfl rfl ?_
 rintro _ _ rfl
 refine ent_nil (ent_retc ?_)
 first | (have e_ := Option.some.inj (show some _ = some _ from H); subst e_) | subst H
 refine ret_lateD (words_Parse_1_quiet.spec b4 b5) ?_
 exact ret_memp [0,1] (by decide) rfl (vs := [agg #[I x4.1,I x4.2.2.2.2.2.2.2.2.2.2.2.2.2.1,sv8,I x4.2.2.2.2.2.2.2.2.2.2.2.2.2.2.1,I x4.2.2.2.2.2.2.2.2.2.2.2.2.2.2.2.1,bool x4.2.2.2.2.2.2.2.2.2.2.2.2.2.2.2.2.1,bool x4.2.2.2.2.2.2.2.2.2.2.2.2.2.2.2.2.2.1,bool x4.2.2.2.2.2.2.2.2.2.2.2.2.2.2.2.2.2.2.1,bool x4.2.2.2.2.2.2.2.2.2.2.2.2.2.2.2.2.2.2.2.1,bool x4.2.2.2.2.2.2.2.2.2.2.2.2.2.2.2.2.2.2.2.2.1,bool x4.2.2.2.2.2.2.2.2.2.2.2.2.2.2.2.2.2.2.2.2.2.1,bool x4.2.2.2.2.2.2.2.2.2.2.2.2.2.2.2.2.2.2.2.2.2.2.1,bool x4.2.2.2.2.2.2.2.2.2.2.2.2.2.2.2.2.2.2.2.2.2.2.2.1,str x4.2.2.2.2.2.2.2.2.2.2.2.2.2.2.2.2.2.2.2.2.2.2.2.2.1,str x4.2.2.2.2.2.2.2.2.2.2.2.2.2.2.2.2.2.2.2.2.2.2.2.2.2.1,str x4.2.2.2.2.2.2.2.2.2.2.2.2.2.2.2.2.2.2.2.2.2.2.2.2.2.2.1,str x4.2.2.2.2.2.2.2.2.2.2.2.2.2.2.2.2.2.2.2.2.2.2.2.2.2.2.2,I x4.2.2.1,I x4.2.2.2.1,I x4.2.2.2.2.1,I x4.2.2.2.2.2.1,I x4.2.2.2.2.2.2.1,I x4.2.2.2.2.2.2.2.1,I x4.2.2.2.2.2.2.2.2.1,I x4.2.2.2.2.2.2.2.2.2.1,I x4.2.2.2.2.2.2.2.2.2.2.1,sv10],I 0]) rfl ⟨⟨_,C0_,rfl,reads_boxW (i := 5) rfl,.inl ⟨F_agg_41,F_size_41,rfl⟩⟩,⟨⟨_,[I 0],rfl,reads_box1 (i := 4) rfl rfl,.inr ⟨F_agg_42,rfl⟩⟩,trivial⟩⟩ _ rfl ⟨_,_,rfl,rfl⟩

theorem ossuarylaw34_alive.spec (K : Nat) (r : Bool) (H : ossuarylaw34_alive K = some r) : FnSpec Tryd.prog 6 [] [] (fun v M => v = (bool r) ∧ M = []) := by
 unfold ossuarylaw34_alive at H
 refine spec_of Tryd.func6 rfl 42 rfl (Nat.le_of_ble_eq_true rfl) fun F w0 => ?_
 show Ent (St 42 w0 F [] []) _
 refine ent_seq (ent_region (ent_value (ov_assign rfl) rfl rfl rfl (ent_nil (ent_seq (ent_region ?_)))))
 obtain ⟨x2,h2,H⟩ := Option.bind_eq_some_iff.1 H
 refine ent_op (ot_call (Lr := []) (first := []) (cap := []) (xs := [.const (str ([105,110,103,101,115,116,32,49,57,55,48,45,48,49,45,48,49,84,48,53,32,101,117,32,45,32,51] : List UInt8)),.const (I 2)]) rfl rfl F_call_16 rfl (words_Parse.spec K ([105,110,103,101,115,116,32,49,57,55,48,45,48,49,45,48,49,84,48,53,32,101,117,32,45,32,51] : List UInt8) 2 _ h2) rfl) rfl rfl rfl ?_
 rintro _ _ ⟨_,⟨sv3,sv4,rfl,rfl⟩,rfl⟩
 let C0_ : List Value := [I x2.1,I x2.2.1,sv3,I x2.2.2.2.1,I x2.2.2.2.2.1,bool x2.2.2.2.2.2.1,bool x2.2.2.2.2.2.2.1,bool x2.2.2.2.2.2.2.2.1,bool x2.2.2.2.2.2.2.2.2.1,bool x2.2.2.2.2.2.2.2.2.2.1,bool x2.2.2.2.2.2.2.2.2.2.2.1,bool x2.2.2.2.2.2.2.2.2.2.2.2.1,bool x2.2.2.2.2.2.2.2.2.2.2.2.2.1,str x2.2.2.2.2.2.2.2.2.2.2.2.2.2.1,str x2.2.2.2.2.2.2.2.2.2.2.2.2.2.2.1,str x2.2.2.2.2.2.2.2.2.2.2.2.2.2.2.2.1,str x2.2.2.2.2.2.2.2.2.2.2.2.2.2.2.2.2.1,I x2.2.2.2.2.2.2.2.2.2.2.2.2.2.2.2.2.2.1,I x2.2.2.2.2.2.2.2.2.2.2.2.2.2.2.2.2.2.2.1,I x2.2.2.2.2.2.2.2.2.2.2.2.2.2.2.2.2.2.2.2.1,I x2.2.2.2.2.2.2.2.2.2.2.2.2.2.2.2.2.2.2.2.2.1,I x2.2.2.2.2.2.2.2.2.2.2.2.2.2.2.2.2.2.2.2.2.2.1,I x2.2.2.2.2.2.2.2.2.2.2.2.2.2.2.2.2.2.2.2.2.2.2.1,I x2.2.2.2.2.2.2.2.2.2.2.2.2.2.2.2.2.2.2.2.2.2.2.2.1,I x2.2.2.2.2.2.2.2.2.2.2.2.2.2.2.2.2.2.2.2.2.2.2.2.2.1,I x2.2.2.2.2.2.2.2.2.2.2.2.2.2.2.2.2.2.2.2.2.2.2.2.2.2.1,sv4]
 refine ent_value (ov_move rfl) rfl rfl rfl (ent_value (ov_extract rfl rfl) rfl rfl rfl (ent_value (ov_extract rfl rfl) rfl rfl rfl ?_))
 refine ent_op (ot_alloc F_zero_41) rfl rfl rfl ?_
 rintro _ _ ⟨b2,rfl,rfl⟩
 refine ent_op0 (ot_storeG (cs := [I 0,I 0,L0,I 0,I 0,B0,B0,B0,B0,B0,B0,B0,B0,S0,S0,S0,S0,I 0,I 0,I 0,I 0,I 0,I 0,I 0,I 0,I 0,L0]) (cs' := C0_) (us := C0_) (L' := [box b2 41 C0_,own sv3 54 6 x2.2.2.1.length (fl enc_Api_Fact x2.2.2.1),own sv4 4 1 x2.2.2.2.2.2.2.2.2.2.2.2.2.2.2.2.2.2.2.2.2.2.2.2.2.2.2.1.length (fl eB x2.2.2.2.2.2.2.2.2.2.2.2.2.2.2.2.2.2.2.2.2.2.2.2.2.2.2.1)]) 0 rfl rfl rfl (one_cons rfl (one_cons rfl (one_sl 1 rfl (isRd_ownx 54) (one_cons rfl (one_cons rfl (one_cons rfl (one_cons rfl (one_cons rfl (one_cons rfl (one_cons rfl (one_cons rfl (one_cons rfl (one_cons rfl (one_cons rfl (one_cons rfl (one_cons rfl (one_cons rfl (one_cons rfl (one_cons rfl (one_cons rfl (one_cons rfl (one_cons rfl (one_cons rfl (one_cons rfl (one_cons rfl (one_cons rfl (one_sl 2 rfl (isRd_ownx 4) one_nil))))))))))))))))))))))))))) F_size_41 rfl rfl (by simp [C0_]) rfl) rfl rfl ?_
 rintro _ _ rfl
 refine ent_value (ov_assign rfl) rfl rfl rfl (ent_nil (ent_seq (ent_region (ent_value (ov_move rfl) rfl rfl rfl (ent_value (ov_bin rfl rfl (b_eql _ _ _)) rfl rfl rfl (ent_value (ov_move rfl) rfl rfl rfl ?_))))))
 refine htF H (fun c7 H => ?_) fun c7 H => ?_
 ·refine ent_off rfl rfl rfl (eq_f c7) rfl rfl ?_
  refine ent_off rfl rfl rfl (eq_f c7) rfl rfl ?_
  refine ent_off rfl rfl rfl (eq_f c7) rfl rfl ?_
  refine ent_off rfl rfl rfl (eq_f c7) rfl rfl ?_
  refine ent_value (ov_pick rfl rfl rfl (pick_f (eq_f c7))) rfl rfl rfl (ent_value (ov_move rfl) rfl rfl rfl ?_)
  refine ent_off rfl rfl rfl rfl rfl rfl ?_
  refine ent_off rfl rfl rfl rfl rfl rfl ?_
  refine ent_off rfl rfl rfl rfl rfl rfl ?_
  refine ent_off rfl rfl rfl rfl rfl rfl ?_
  refine ent_off rfl rfl rfl rfl rfl rfl ?_
  refine ent_off rfl rfl rfl rfl rfl rfl ?_
  refine ent_off rfl rfl rfl rfl rfl rfl ?_
  refine ent_value (ov_pick rfl rfl rfl rfl) rfl rfl rfl (ent_value (ov_move rfl) rfl rfl rfl ?_)
  refine ent_off rfl rfl rfl rfl rfl rfl ?_
  refine ent_off rfl rfl rfl rfl rfl rfl ?_
  refine ent_off rfl rfl rfl rfl rfl rfl ?_
  refine ent_off rfl rfl rfl rfl rfl rfl ?_
  refine ent_off rfl rfl rfl rfl rfl rfl ?_
  refine ent_off rfl rfl rfl rfl rfl rfl ?_
  refine ent_off rfl rfl rfl rfl rfl rfl ?_
  refine ent_off rfl rfl rfl rfl rfl rfl ?_
  refine ent_value (ov_pick rfl rfl rfl rfl) rfl rfl rfl (ent_value (ov_move rfl) rfl rfl rfl ?_)
  refine ent_off rfl rfl rfl rfl rfl rfl ?_
  refine ent_off rfl rfl rfl rfl rfl rfl ?_
  refine ent_off rfl rfl rfl rfl rfl rfl ?_
  refine ent_off rfl rfl rfl rfl rfl rfl ?_
  refine ent_off rfl rfl rfl rfl rfl rfl ?_
  refine ent_off rfl rfl rfl rfl rfl rfl ?_
  refine ent_value (ov_pick rfl rfl rfl rfl) rfl rfl rfl (ent_value (ov_assign rfl) rfl rfl rfl (ent_nil (ent_retc ?_)))
  cases H
  refine ent_pick [] (by decide) rfl ?_
  exact ret_tmp rfl rfl ⟨rfl,rfl⟩
 refine ent_value_on (ov_fieldAddr (sz := 0) (o := 0) rfl F_field_41_2 F_size_32) rfl rfl rfl (eq_t c7) rfl rfl ?_
 refine ent_value_on (ov_load (v := sv3) rfl F_agg_32 (reads_box1 (i := 0) rfl rfl)) rfl rfl rfl (eq_t c7) rfl rfl ?_
 refine ent_value_on (ov_len 1 rfl F_slice_32 rfl (isRd_ownx 54)) rfl rfl rfl (eq_t c7) rfl rfl ?_
 refine ent_value_on (ov_bin rfl rfl (b_eql _ _ _)) rfl rfl rfl (eq_t c7) rfl rfl ?_
 refine ent_value (ov_pick rfl rfl rfl (pick_t (eq_t c7))) rfl rfl rfl (ent_value (ov_move rfl) rfl rfl rfl ?_)
 refine htF H (fun c8 H => ?_) fun c8 H => ?_
 ·refine ent_off rfl rfl rfl (eq_f c8) rfl rfl ?_
  refine ent_off rfl rfl rfl (eq_f c8) rfl rfl ?_
  refine ent_off rfl rfl rfl (eq_f c8) rfl rfl ?_
  refine ent_off rfl rfl rfl (eq_f c8) rfl rfl ?_
  refine ent_off rfl rfl rfl (eq_f c8) rfl rfl ?_
  refine ent_off rfl rfl rfl (eq_f c8) rfl rfl ?_
  refine ent_off rfl rfl rfl (eq_f c8) rfl rfl ?_
  refine ent_value (ov_pick rfl rfl rfl (pick_f (eq_f c8))) rfl rfl rfl (ent_value (ov_move rfl) rfl rfl rfl ?_)
  refine ent_off rfl rfl rfl rfl rfl rfl ?_
  refine ent_off rfl rfl rfl rfl rfl rfl ?_
  refine ent_off rfl rfl rfl rfl rfl rfl ?_
  refine ent_off rfl rfl rfl rfl rfl rfl ?_
  refine ent_off rfl rfl rfl rfl rfl rfl ?_
  refine ent_off rfl rfl rfl rfl rfl rfl ?_
  refine ent_off rfl rfl rfl rfl rfl rfl ?_
  refine ent_off rfl rfl rfl rfl rfl rfl ?_
  refine ent_value (ov_pick rfl rfl rfl rfl) rfl rfl rfl (ent_value (ov_move rfl) rfl rfl rfl ?_)
  refine ent_off rfl rfl rfl rfl rfl rfl ?_
  refine ent_off rfl rfl rfl rfl rfl rfl ?_
  refine ent_off rfl rfl rfl rfl rfl rfl ?_
  refine ent_off rfl rfl rfl rfl rfl rfl ?_
  refine ent_off rfl rfl rfl rfl rfl rfl ?_
  refine ent_off rfl rfl rfl rfl rfl rfl ?_
  refine ent_value (ov_pick rfl rfl rfl rfl) rfl rfl rfl (ent_value (ov_assign rfl) rfl rfl rfl (ent_nil (ent_retc ?_)))
  cases H
  refine ent_pick [] (by decide) rfl ?_
  exact ret_tmp rfl rfl ⟨rfl,rfl⟩
 refine ent_value_on (ov_fieldAddr (sz := 0) (o := 0) rfl F_field_41_2 F_size_32) rfl rfl rfl (eq_t c8) rfl rfl ?_
 refine ent_value_on (ov_load (v := sv3) rfl F_agg_32 (reads_box1 (i := 0) rfl rfl)) rfl rfl rfl (eq_t c8) rfl rfl ?_
 obtain ⟨c9,H⟩ := gdT H
 refine ent_value_on (ov_indexAddr (sz := 5) 1 rfl rfl F_slice_32 F_size_54 rfl (isRd_ownx 54) (by decide) c9) rfl rfl rfl (eq_t c8) rfl rfl ?_
 refine ent_value_on (ov_fieldAddrE (sz := 4) (k0 := ((0 : Int).toNat) * 6) (off := 0) 1 rfl F_field_54_0 F_size_52 rfl (isRd_ownx 54) (fl_pos enc_Api_Fact_len (ix_lt (by decide) c9))) rfl rfl rfl (eq_t c8) rfl rfl ?_
 refine ent_value_on (ov_fieldAddrE (sz := 0) (k0 := ((0 : Int).toNat) * 6 + 0) (off := 0) 1 rfl F_field_52_0 F_size_2 rfl (isRd_ownx 54) (fl_pos enc_Api_Fact_len (ix_lt (by decide) c9))) rfl rfl rfl (eq_t c8) rfl rfl ?_
 refine ent_value_on (ov_load (v := (I (((x2.2.2.1.getD ((0 : Int).toNat) z_Api_Fact).Key).Hour))) rfl F_agg_2 (reads_rd (i := 1) rfl (isRd_ownx 54) (by simp [C0_]) (fl_read (off := 0) enc_Api_Fact_len (ix_lt (by decide) c9) rfl))) rfl rfl rfl (eq_t c8) rfl rfl ?_
 refine ent_value_on (ov_bin rfl rfl (b_eql _ _ _)) rfl rfl rfl (eq_t c8) rfl rfl ?_
 refine ent_value (ov_pick rfl rfl rfl (pick_t (eq_t c8))) rfl rfl rfl (ent_value (ov_move rfl) rfl rfl rfl ?_)
 refine htF H (fun c10 H => ?_) fun c10 H => ?_
 ·refine ent_off rfl rfl rfl (eq_f c10) rfl rfl ?_
  refine ent_off rfl rfl rfl (eq_f c10) rfl rfl ?_
  refine ent_off rfl rfl rfl (eq_f c10) rfl rfl ?_
  refine ent_off rfl rfl rfl (eq_f c10) rfl rfl ?_
  refine ent_off rfl rfl rfl (eq_f c10) rfl rfl ?_
  refine ent_off rfl rfl rfl (eq_f c10) rfl rfl ?_
  refine ent_off rfl rfl rfl (eq_f c10) rfl rfl ?_
  refine ent_off rfl rfl rfl (eq_f c10) rfl rfl ?_
  refine ent_value (ov_pick rfl rfl rfl (pick_f (eq_f c10))) rfl rfl rfl (ent_value (ov_move rfl) rfl rfl rfl ?_)
  refine ent_off rfl rfl rfl rfl rfl rfl ?_
  refine ent_off rfl rfl rfl rfl rfl rfl ?_
  refine ent_off rfl rfl rfl rfl rfl rfl ?_
  refine ent_off rfl rfl rfl rfl rfl rfl ?_
  refine ent_off rfl rfl rfl rfl rfl rfl ?_
  refine ent_off rfl rfl rfl rfl rfl rfl ?_
  refine ent_value (ov_pick rfl rfl rfl rfl) rfl rfl rfl (ent_value (ov_assign rfl) rfl rfl rfl (ent_nil (ent_retc ?_)))
  cases H
  refine ent_pick [] (by decide) rfl ?_
  exact ret_tmp rfl rfl ⟨rfl,rfl⟩
 refine ent_value_on (ov_fieldAddr (sz := 0) (o := 0) rfl F_field_41_2 F_size_32) rfl rfl rfl (eq_t c10) rfl rfl ?_
 refine ent_value_on (ov_load (v := sv3) rfl F_agg_32 (reads_box1 (i := 0) rfl rfl)) rfl rfl rfl (eq_t c10) rfl rfl ?_
 refine ent_value_on (ov_indexAddr (sz := 5) 1 rfl rfl F_slice_32 F_size_54 rfl (isRd_ownx 54) (by decide) c9) rfl rfl rfl (eq_t c10) rfl rfl ?_
 refine ent_value_on (ov_fieldAddrE (sz := 4) (k0 := ((0 : Int).toNat) * 6) (off := 0) 1 rfl F_field_54_0 F_size_52 rfl (isRd_ownx 54) (fl_pos enc_Api_Fact_len (ix_lt (by decide) c9))) rfl rfl rfl (eq_t c10) rfl rfl ?_
 refine ent_value_on (ov_fieldAddrE (sz := 3) (k0 := ((0 : Int).toNat) * 6 + 0) (off := 1) 1 rfl F_field_52_1 F_size_34 rfl (isRd_ownx 54) (fl_pos enc_Api_Fact_len (ix_lt (by decide) c9))) rfl rfl rfl (eq_t c10) rfl rfl ?_
 obtain ⟨c11,H⟩ := gdT H
 refine ent_value_on (ov_indexArrE 1 rfl rfl F_array_34 F_size_9 rfl (isRd_ownx 54) (fl_pos enc_Api_Fact_len (ix_lt (by decide) c9)) (by decide) c11) rfl rfl rfl (eq_t c10) rfl rfl ?_
 refine ent_value_on (ov_load (v := (str ([((x2.2.2.1.getD ((0 : Int).toNat) z_Api_Fact).Key).Dims_0,((x2.2.2.1.getD ((0 : Int).toNat) z_Api_Fact).Key).Dims_1,((x2.2.2.1.getD ((0 : Int).toNat) z_Api_Fact).Key).Dims_2,((x2.2.2.1.getD ((0 : Int).toNat) z_Api_Fact).Key).Dims_3].getD ((0 : Int).toNat) []))) rfl F_agg_9 (reads_rd (i := 1) rfl (isRd_ownx 54) (by simp [C0_]) (fl_readA enc_Api_Fact_len (ix_lt (by decide) c9) (fl_sub (enc := eS) (z := []) (ys := [((x2.2.2.1.getD ((0 : Int).toNat) z_Api_Fact).Key).Dims_0,((x2.2.2.1.getD ((0 : Int).toNat) z_Api_Fact).Key).Dims_1,((x2.2.2.1.getD ((0 : Int).toNat) z_Api_Fact).Key).Dims_2,((x2.2.2.1.getD ((0 : Int).toNat) z_Api_Fact).Key).Dims_3]) eS_len rfl (ix_lt (by decide) c11))))) rfl rfl rfl (eq_t c10) rfl rfl ?_
 refine ent_value_on (ov_bin rfl rfl (b_eql_str _ _)) rfl rfl rfl (eq_t c10) rfl rfl ?_
 refine ent_value (ov_pick rfl rfl rfl (pick_t (eq_t c10))) rfl rfl rfl (ent_value (ov_move rfl) rfl rfl rfl ?_)
 refine htF H (fun c12 H => ?_) fun c12 H => ?_
 ·refine ent_off rfl rfl rfl (eq_f c12) rfl rfl ?_
  refine ent_off rfl rfl rfl (eq_f c12) rfl rfl ?_
  refine ent_off rfl rfl rfl (eq_f c12) rfl rfl ?_
  refine ent_off rfl rfl rfl (eq_f c12) rfl rfl ?_
  refine ent_off rfl rfl rfl (eq_f c12) rfl rfl ?_
  refine ent_off rfl rfl rfl (eq_f c12) rfl rfl ?_
  refine ent_value (ov_pick rfl rfl rfl (pick_f (eq_f c12))) rfl rfl rfl (ent_value (ov_assign rfl) rfl rfl rfl (ent_nil (ent_retc ?_)))
  cases H
  refine ent_pick [] (by decide) rfl ?_
  exact ret_tmp rfl rfl ⟨rfl,rfl⟩
 refine ent_value_on (ov_fieldAddr (sz := 0) (o := 0) rfl F_field_41_2 F_size_32) rfl rfl rfl (eq_t c12) rfl rfl ?_
 refine ent_value_on (ov_load (v := sv3) rfl F_agg_32 (reads_box1 (i := 0) rfl rfl)) rfl rfl rfl (eq_t c12) rfl rfl ?_
 refine ent_value_on (ov_indexAddr (sz := 5) 1 rfl rfl F_slice_32 F_size_54 rfl (isRd_ownx 54) (by decide) c9) rfl rfl rfl (eq_t c12) rfl rfl ?_
 refine ent_value_on (ov_fieldAddrE (sz := 0) (k0 := ((0 : Int).toNat) * 6) (off := 5) 1 rfl F_field_54_1 F_size_2 rfl (isRd_ownx 54) (fl_pos enc_Api_Fact_len (ix_lt (by decide) c9))) rfl rfl rfl (eq_t c12) rfl rfl ?_
 refine ent_value_on (ov_load (v := (I ((x2.2.2.1.getD ((0 : Int).toNat) z_Api_Fact).Value))) rfl F_agg_2 (reads_rd (i := 1) rfl (isRd_ownx 54) (by simp [C0_]) (fl_read (off := 5) enc_Api_Fact_len (ix_lt (by decide) c9) rfl))) rfl rfl rfl (eq_t c12) rfl rfl ?_
 refine ent_value_on (ov_bin rfl rfl (b_eql _ _ _)) rfl rfl rfl (eq_t c12) rfl rfl ?_
 refine ent_value (ov_pick rfl rfl rfl (pick_t (eq_t c12))) rfl rfl rfl (ent_value (ov_assign rfl) rfl rfl rfl (ent_nil (ent_retc ?_)))
 cases H
 refine ent_pick [] (by decide) rfl ?_
 exact ret_tmp rfl rfl ⟨rfl,rfl⟩

theorem ossuaryref34_Decimal_rec.spec (K : Nat) : ∀ (k_ : Nat) (a0 : Int) (r : List UInt8) (H : ossuaryref34_Decimal_rec K k_ a0 = some r), FnSpec Tryd.prog 23 [(int .i64 a0)] [] (fun v M => v = (str r) ∧ M = [])
 | 0, a0, r, H => by
  unfold ossuaryref34_Decimal_rec at H
  cases H
 | k_ + 1, a0, r, H => by
  unfold ossuaryref34_Decimal_rec at H
  refine spec_of Tryd.func23 rfl 25 rfl (Nat.le_of_ble_eq_true rfl) fun F w0 => ?_
  show Ent (St 25 w0 F [(0, (int .i64 a0))] []) _
  refine ent_seq ?_
  refine ent_region ?_
  refine ent_value (ov_assign rfl) rfl rfl rfl ?_
  refine ent_nil ?_
  refine ent_seq ?_
  refine ent_seq ?_
  refine ent_region ?_
  refine ent_value (ov_move rfl) rfl rfl rfl ?_
  refine ent_value (ov_bin rfl rfl (b_eql _ _ _)) rfl rfl rfl ?_
  refine ent_nil ?_
  by_cases c11 : a0 = (-9223372036854775808)
  ·rw [if_pos c11] at H
   refine ent_cond_true rfl (eq_t c11) ?_
   refine ent_seq ?_
   refine ent_region ?_
   refine ent_value (ov_assign rfl) rfl rfl rfl ?_
   refine ent_nil ?_
   refine ent_retc ?_
   cases H
   refine ent_pick [] (by decide) rfl ?_
   exact ret_tmp rfl rfl ⟨rfl, rfl⟩
  ·rw [if_neg c11] at H
   refine ent_cond_false rfl (eq_f c11) ?_
   refine ent_skip ?_
   refine ent_seq ?_
   refine ent_seq ?_
   refine ent_region ?_
   refine ent_value (ov_move rfl) rfl rfl rfl ?_
   refine ent_value (ov_bin rfl rfl (b_lss _ _ _)) rfl rfl rfl ?_
   refine ent_nil ?_
   by_cases c14 : a0 < 0
   ·rw [if_pos c14] at H
    refine ent_cond_true rfl (decide_eq_true c14) ?_
    refine ent_seq ?_
    refine ent_region ?_
    refine ent_value (ov_move rfl) rfl rfl rfl ?_
    refine ent_value (ov_un rfl (u_neg _ _)) rfl rfl rfl ?_
    obtain ⟨x6, h6, H⟩ := Option.bind_eq_some_iff.1 H
    refine ent_op (ot_call0 (first := []) (cap := []) (xs := [.tmp 8]) rfl rfl F_call_23 rfl (ossuaryref34_Decimal_rec.spec K k_ (w64 (0 - a0)) _ h6)) rfl rfl rfl ?_
    rintro _ _ ⟨rfl, rfl⟩
    by_cases c15 : (([45] : List UInt8).length : Int) + (x6.length : Int) ≤ 9223372036854775807
    ·rw [if_pos c15] at H
     refine ent_value (ov_bin rfl rfl fun w => b_add_str _ _ w c15) rfl rfl rfl ?_
     refine ent_value (ov_assign rfl) rfl rfl rfl ?_
     refine ent_nil ?_
     refine ent_retc ?_
     cases H
     refine ent_pick [] (by decide) rfl ?_
     exact ret_tmp rfl rfl ⟨rfl, rfl⟩
    ·rw [if_neg c15] at H
     cases H
   ·rw [if_neg c14] at H
    refine ent_cond_false rfl (decide_eq_false c14) ?_
    refine ent_skip ?_
    refine ent_seq ?_
    refine ent_seq ?_
    refine ent_region ?_
    refine ent_value (ov_move rfl) rfl rfl rfl ?_
    refine ent_value (ov_bin rfl rfl (b_lss _ _ _)) rfl rfl rfl ?_
    refine ent_nil ?_
    by_cases c17 : a0 < 10
    ·rw [if_pos c17] at H
     refine ent_cond_true rfl (decide_eq_true c17) ?_
     refine ent_seq ?_
     refine ent_region ?_
     refine ent_value (ov_move rfl) rfl rfl rfl ?_
     refine ent_value (ov_bin rfl rfl (b_add _ _ _) ) rfl rfl rfl ?_
     refine ent_value (ov_convert rfl (c_int Tryd.underlying2 Tryd.underlying5)) rfl rfl rfl ?_
     refine ent_op (ot_buildSlice (sz := 0) (xs := [.tmp 15]) (cs := fl (eI .u8) [wu8 (w64 (48 + a0))]) rfl rfl F_slice_56 F_size_5 F_zero_5 rfl rfl (all_size rfl) rfl (by decide)) rfl rfl rfl ?_
     rintro sv4 _ rfl
     refine ent_value (ov_b2s 0 rfl F_slice_56 Tryd.underlying5 Tryd.underlying9 rfl (isRd_ownx 5)) rfl rfl rfl ?_
     refine ent_value (ov_assign rfl) rfl rfl rfl ?_
     refine ent_nil ?_
     refine ent_retc ?_
     cases H
     refine ent_pick [] (by decide) rfl ?_
     exact ret_tmp rfl rfl ⟨rfl, rfl⟩
    ·rw [if_neg c17] at H
     refine ent_cond_false rfl (decide_eq_false c17) ?_
     refine ent_skip ?_
     refine ent_seq ?_
     refine ent_region ?_
     refine ent_value (ov_move rfl) rfl rfl rfl ?_
     refine ent_value (ov_bin rfl rfl fun w => b_quo _ _ _ w (by decide)) rfl rfl rfl ?_
     obtain ⟨x7, h7, H⟩ := Option.bind_eq_some_iff.1 H
     refine ent_op (ot_call0 (first := []) (cap := []) (xs := [.tmp 19]) rfl rfl F_call_23 rfl (ossuaryref34_Decimal_rec.spec K k_ (w64 (Int.tdiv a0 10)) _ h7)) rfl rfl rfl ?_
     rintro _ _ ⟨rfl, rfl⟩
     refine ent_value (ov_move rfl) rfl rfl rfl ?_
     refine ent_value (ov_bin rfl rfl fun w => b_rem _ _ _ w (by decide)) rfl rfl rfl ?_
     obtain ⟨x8, h8, H⟩ := Option.bind_eq_some_iff.1 H
     refine ent_op (ot_call0 (first := []) (cap := []) (xs := [.tmp 22]) rfl rfl F_call_23 rfl (ossuaryref34_Decimal_rec.spec K k_ (Int.tmod a0 10) _ h8)) rfl rfl rfl ?_
     rintro _ _ ⟨rfl, rfl⟩
     by_cases c18 : (x7.length : Int) + (x8.length : Int) ≤ 9223372036854775807
     ·rw [if_pos c18] at H
      refine ent_value (ov_bin rfl rfl fun w => b_add_str _ _ w c18) rfl rfl rfl ?_
      refine ent_value (ov_assign rfl) rfl rfl rfl ?_
      refine ent_nil ?_
      refine ent_retc ?_
      cases H
      refine ent_pick [] (by decide) rfl ?_
      exact ret_tmp rfl rfl ⟨rfl, rfl⟩
     ·rw [if_neg c18] at H
      cases H
theorem ossuaryref34_Decimal.spec (K : Nat) (a0 : Int) (r : List UInt8) (H : ossuaryref34_Decimal K a0 = some r) : FnSpec Tryd.prog 23 [(int .i64 a0)] [] (fun v M => v = (str r) ∧ M = []) := ossuaryref34_Decimal_rec.spec K K a0 r H

theorem ossuaryref34_Number.spec (K : Nat) (a0 : List UInt8) (r : (Int × Bool)) (H : ossuaryref34_Number K a0 = some r) : FnSpec Tryd.prog 8 [str a0] [] (fun v M => v = (tU #[I r.1,bool r.2]) ∧ M = []) := by
 unfold ossuaryref34_Number at H
 refine spec_of Tryd.func8 rfl 59 rfl (Nat.le_of_ble_eq_true rfl) fun F w0 => ?_
 show Ent (St 59 w0 F [(0,str a0)] []) _
 refine ent_seq (ent_region (ent_value (ov_assign rfl) rfl rfl rfl (ent_value (ov_assign rfl) rfl rfl rfl (ent_nil (ent_seq (ent_seq (ent_region (ent_value (ov_move rfl) rfl rfl rfl (ent_value (ov_lenS rfl Tryd.underlying9) rfl rfl rfl (ent_value (ov_bin rfl rfl (b_eql _ _ _)) rfl rfl rfl (ent_value (ov_move rfl) rfl rfl rfl ?_)))))))))))
 refine htT H (fun c115 H => ?_) fun c115 H => ?_
 ·refine ent_off rfl rfl rfl (eq_t c115) rfl rfl ?_
  refine ent_off rfl rfl rfl (eq_t c115) rfl rfl ?_
  refine ent_off rfl rfl rfl (eq_t c115) rfl rfl ?_
  refine ent_value (ov_pick rfl rfl rfl (pick_t (eq_t c115))) rfl rfl rfl (ent_nil (ent_cond_true rfl rfl (ent_seq (ent_region (ent_value (ov_assign rfl) rfl rfl rfl (ent_value (ov_assign rfl) rfl rfl rfl (ent_nil (ent_retc ?_))))))))
  cases H
  refine ent_pick [] (by decide) rfl ?_
  exact ret_mem (vs := [I 0,B0]) rfl ⟨rfl,⟨rfl,trivial⟩⟩ _ rfl ⟨rfl,rfl⟩
 refine ent_value_on (ov_move rfl) rfl rfl rfl (eq_f c115) rfl rfl ?_
 refine ent_value_on (ov_lenS rfl Tryd.underlying9) rfl rfl rfl (eq_f c115) rfl rfl ?_
 refine ent_value_on (ov_bin rfl rfl (b_gtr _ _ _)) rfl rfl rfl (eq_f c115) rfl rfl ?_
 refine ent_value (ov_pick rfl rfl rfl (pick_f (eq_f c115))) rfl rfl rfl (ent_nil ?_)
 refine htT H (fun c116 H => ?_) fun c116 H => ?_
 ·refine ent_cond_true rfl (decide_eq_true c116) (ent_seq (ent_region (ent_value (ov_assign rfl) rfl rfl rfl (ent_value (ov_assign rfl) rfl rfl rfl (ent_nil (ent_retc ?_))))))
  cases H
  refine ent_pick [] (by decide) rfl ?_
  exact ret_mem (vs := [I 0,B0]) rfl ⟨rfl,⟨rfl,trivial⟩⟩ _ rfl ⟨rfl,rfl⟩
 refine ent_cond_false rfl (decide_eq_false c116) (ent_skip (ent_seq (ent_region (ent_value (ov_assign rfl) rfl rfl rfl (ent_nil (ent_seq (ent_region (ent_value (ov_assign rfl) rfl rfl rfl (ent_nil ?_)))))))))
 obtain ⟨x6,H10,H⟩ := Option.bind_eq_some_iff.1 H
 refine ent_seq_cut (fun a w => St 59 w0 F [(0,str a0),(4,I 0),(5,I x6)] [] a w) ?_ ?_
 ·refine ent_seq (ent_region (ent_value (ov_move rfl) rfl rfl rfl ?_))
  obtain ⟨c119,H10⟩ := gdT H10
  refine ent_value (ov_indexS rfl rfl Tryd.underlying9 (by decide) c119) rfl rfl rfl (ent_value (ov_bin rfl rfl (b_eql _ _ _)) rfl rfl rfl (ent_nil ?_))
  refine htF H10 (fun c120 H10 => ?_) fun c120 H10 => ?_
  ·refine ent_cond_false rfl (eq_f c120) (ent_skip ?_)
   cases H10
   exact ent_fin [] (by decide) rfl (sub_cons (t := 0) rfl (sub_cons (t := 4) rfl (sub_cons (t := 5) rfl (sub_nil _)))) fun a w h => h
  refine ent_cond_true rfl (eq_t c120) (ent_region (ent_value (ov_assign rfl) rfl rfl rfl (ent_nil ?_)))
  cases H10
  exact ent_fin [] (by decide) rfl (sub_cons (t := 0) rfl (sub_cons (t := 4) rfl (sub_cons (t := 5) rfl (sub_nil _)))) fun a w h => h
 ·obtain ⟨x7,H12,H⟩ := Option.bind_eq_some_iff.1 H
  refine ent_seq_cut (fun a w => ∃ v3,x7 = Sum.inl v3 ∧ St 59 w0 F [(0,str a0),(4,I v3),(5,I x6)] [] a w) ?_ ?_
  ·refine ent_seq (ent_region (ent_value (ov_move rfl) rfl rfl rfl (ent_value (ov_assign rfl) rfl rfl rfl (ent_nil (ent_block ?_)))))
   refine ent_loop (fun k a w => ∃ i14,∃ i15,ossuaryref34_Number_l0 K a0 k i14 i15 = some x7 ∧ St 59 w0 F [(0,str a0),(4,I i14),(5,I x6),(6,I i15)] [] a w) K ?_ ?_
   ·exact ent_fin [] (by decide) rfl (sub_cons (t := 0) rfl (sub_cons (t := 4) rfl (sub_cons (t := 5) rfl (sub_cons (t := 6) rfl (sub_nil _))))) fun a w h => ⟨_,_,H12,h⟩
   ·refine fun k => ent_exi fun i14 => ent_exi fun i15 => ent_and fun H13 => ?_
    cases k with
    | zero => exact absurd H13 (by simp [ossuaryref34_Number_l0])
    | succ k =>
     rw [ossuaryref34_Number_l0] at H13
     refine ent_seq (ent_seq (ent_region (ent_value (ov_move rfl) rfl rfl rfl (ent_value (ov_move rfl) rfl rfl rfl (ent_value (ov_lenS rfl Tryd.underlying9) rfl rfl rfl (ent_value (ov_bin rfl rfl (b_lss _ _ _)) rfl rfl rfl (ent_nil ?_)))))))
     refine htF H13 (fun c202 H13 => ?_) fun c202 H13 => ?_
     ·refine ent_cond_false rfl (decide_eq_false c202) (ent_exit ?_)
      cases H13
      exact ent_fin [] (by decide) rfl (sub_cons (t := 0) rfl (sub_cons (t := 4) rfl (sub_cons (t := 5) rfl (sub_nil _)))) fun a w h => ⟨_,rfl,h⟩
     refine ent_cond_true rfl (decide_eq_true c202) (ent_skip (ent_seq (ent_block (ent_seq (ent_region (ent_value (ov_move rfl) rfl rfl rfl (ent_value (ov_move rfl) rfl rfl rfl ?_)))))))
     obtain ⟨c210,H13⟩ := gdT H13
     refine ent_value (ov_indexS rfl rfl Tryd.underlying9 c210 c202) rfl rfl rfl (ent_value (ov_convert rfl (c_int Tryd.underlying5 Tryd.underlying2)) rfl rfl rfl (ent_value (ov_bin rfl rfl (b_sub _ _ _) ) rfl rfl rfl (ent_value (ov_assign rfl) rfl rfl rfl (ent_nil (ent_seq (ent_seq (ent_region (ent_value (ov_move rfl) rfl rfl rfl (ent_value (ov_bin rfl rfl (b_lss _ _ _)) rfl rfl rfl (ent_value (ov_move rfl) rfl rfl rfl ?_))))))))))
     refine htT H13 (fun c214 H13 => ?_) fun c214 H13 => ?_
     ·refine ent_off rfl rfl rfl (decide_eq_true c214) rfl rfl ?_
      refine ent_off rfl rfl rfl (decide_eq_true c214) rfl rfl ?_
      refine ent_value (ov_pick rfl rfl rfl (pick_t (decide_eq_true c214))) rfl rfl rfl (ent_value (ov_move rfl) rfl rfl rfl ?_)
      refine ent_off rfl rfl rfl rfl rfl rfl ?_
      refine ent_off rfl rfl rfl rfl rfl rfl ?_
      refine ent_off rfl rfl rfl rfl rfl rfl ?_
      refine ent_off rfl rfl rfl rfl rfl rfl ?_
      refine ent_off rfl rfl rfl rfl rfl rfl ?_
      refine ent_value (ov_pick rfl rfl rfl rfl) rfl rfl rfl (ent_nil (ent_cond_true rfl rfl (ent_seq (ent_region (ent_value (ov_assign rfl) rfl rfl rfl (ent_value (ov_assign rfl) rfl rfl rfl (ent_nil (ent_retc ?_))))))))
      cases H13
      have H14 := Option.some.inj (show some _ = some _ from H)
      cases H14
      refine ent_pick [] (by decide) rfl ?_
      exact ret_mem (vs := [I 0,B0]) rfl ⟨rfl,⟨rfl,trivial⟩⟩ _ rfl ⟨rfl,rfl⟩
     refine ent_value_on (ov_move rfl) rfl rfl rfl (decide_eq_false c214) rfl rfl ?_
     refine ent_value_on (ov_bin rfl rfl (b_gtr _ _ _)) rfl rfl rfl (decide_eq_false c214) rfl rfl ?_
     refine ent_value (ov_pick rfl rfl rfl (pick_f (decide_eq_false c214))) rfl rfl rfl (ent_value (ov_move rfl) rfl rfl rfl ?_)
     refine htT H13 (fun c215 H13 => ?_) fun c215 H13 => ?_
     ·refine ent_off rfl rfl rfl (decide_eq_true c215) rfl rfl ?_
      refine ent_off rfl rfl rfl (decide_eq_true c215) rfl rfl ?_
      refine ent_off rfl rfl rfl (decide_eq_true c215) rfl rfl ?_
      refine ent_off rfl rfl rfl (decide_eq_true c215) rfl rfl ?_
      refine ent_off rfl rfl rfl (decide_eq_true c215) rfl rfl ?_
      refine ent_value (ov_pick rfl rfl rfl (pick_t (decide_eq_true c215))) rfl rfl rfl (ent_nil (ent_cond_true rfl rfl (ent_seq (ent_region (ent_value (ov_assign rfl) rfl rfl rfl (ent_value (ov_assign rfl) rfl rfl rfl (ent_nil (ent_retc ?_))))))))
      cases H13
      have H15 := Option.some.inj (show some _ = some _ from H)
      cases H15
      refine ent_pick [] (by decide) rfl ?_
      exact ret_mem (vs := [I 0,B0]) rfl ⟨rfl,⟨rfl,trivial⟩⟩ _ rfl ⟨rfl,rfl⟩
     refine ent_value_on (ov_move rfl) rfl rfl rfl (decide_eq_false c215) rfl rfl ?_
     refine ent_value_on (ov_move rfl) rfl rfl rfl (decide_eq_false c215) rfl rfl ?_
     refine ent_value_on (ov_bin rfl rfl (b_add _ _ _) ) rfl rfl rfl (decide_eq_false c215) rfl rfl ?_
     refine ent_value_on (ov_bin rfl rfl fun w => b_quo _ _ _ w (by decide)) rfl rfl rfl (decide_eq_false c215) rfl rfl ?_
     refine ent_value_on (ov_bin rfl rfl (b_lss _ _ _)) rfl rfl rfl (decide_eq_false c215) rfl rfl ?_
     refine ent_value (ov_pick rfl rfl rfl (pick_f (decide_eq_false c215))) rfl rfl rfl (ent_nil ?_)
     refine htT H13 (fun c216 H13 => ?_) fun c216 H13 => ?_
     ·refine ent_cond_true rfl (decide_eq_true c216) (ent_seq (ent_region (ent_value (ov_assign rfl) rfl rfl rfl (ent_value (ov_assign rfl) rfl rfl rfl (ent_nil (ent_retc ?_))))))
      cases H13
      have H16 := Option.some.inj (show some _ = some _ from H)
      cases H16
      refine ent_pick [] (by decide) rfl ?_
      exact ret_mem (vs := [I 0,B0]) rfl ⟨rfl,⟨rfl,trivial⟩⟩ _ rfl ⟨rfl,rfl⟩
     refine ent_cond_false rfl (decide_eq_false c216) (ent_skip (ent_region (ent_value (ov_move rfl) rfl rfl rfl (ent_value (ov_bin rfl rfl (b_mul _ _ _) ) rfl rfl rfl (ent_value (ov_move rfl) rfl rfl rfl (ent_value (ov_bin rfl rfl (b_sub _ _ _) ) rfl rfl rfl (ent_value (ov_assign rfl) rfl rfl rfl (ent_nil (ent_region (ent_value (ov_move rfl) rfl rfl rfl (ent_value (ov_bin rfl rfl (b_add _ _ _) ) rfl rfl rfl ?_)))))))))))
     refine ent_value (ov_assign rfl) rfl rfl rfl (ent_nil ?_)
     exact ent_fin [] (by decide) rfl (sub_cons (t := 0) rfl (sub_cons (t := 4) rfl (sub_cons (t := 5) rfl (sub_cons (t := 6) rfl (sub_nil _))))) fun a w h => ⟨k,Nat.lt_succ_self k,_,_,H13,h⟩
  ·refine ent_exi fun v3 => ent_and fun e_ => ?_
   subst e_
   rw [cas_inl] at H
   obtain ⟨x8,H17,H⟩ := thn_elim H
   refine ent_seq_cut (fun a w => ∃ v4,x8 = Sum.inl v4 ∧ St 59 w0 F [(0,str a0),(4,I v4)] [] a w) ?_ ?_
   ·refine ent_seq (ent_region (ent_value (ov_move rfl) rfl rfl rfl (ent_value (ov_bin rfl rfl (b_eql _ _ _)) rfl rfl rfl (ent_nil ?_))))
    refine htF H17 (fun c220 H17 => ?_) fun c220 H17 => ?_
    ·refine ent_cond_false rfl (eq_f c220) (ent_skip ?_)
     cases H17
     exact ent_fin [] (by decide) rfl (sub_cons (t := 0) rfl (sub_cons (t := 4) rfl (sub_nil _))) fun a w h => ⟨_,rfl,h⟩
    refine ent_cond_true rfl (eq_t c220) (ent_seq (ent_seq (ent_region (ent_value (ov_move rfl) rfl rfl rfl (ent_value (ov_bin rfl rfl (b_eql _ _ _)) rfl rfl rfl (ent_nil ?_))))))
    refine htF H17 (fun c222 H17 => ?_) fun c222 H17 => ?_
    ·refine ent_cond_false rfl (eq_f c222) (ent_skip (ent_region (ent_value (ov_move rfl) rfl rfl rfl (ent_value (ov_un rfl (u_neg _ _)) rfl rfl rfl (ent_value (ov_assign rfl) rfl rfl rfl (ent_nil ?_))))))
     cases H17
     exact ent_fin [] (by decide) rfl (sub_cons (t := 0) rfl (sub_cons (t := 4) rfl (sub_nil _))) fun a w h => ⟨_,rfl,h⟩
    refine ent_cond_true rfl (eq_t c222) (ent_seq (ent_region (ent_value (ov_assign rfl) rfl rfl rfl (ent_value (ov_assign rfl) rfl rfl rfl (ent_nil (ent_retc ?_))))))
    subst H17
    have H18 := Option.some.inj (show some _ = some _ from H)
    cases H18
    refine ent_pick [] (by decide) rfl ?_
    exact ret_mem (vs := [I 0,B0]) rfl ⟨rfl,⟨rfl,trivial⟩⟩ _ rfl ⟨rfl,rfl⟩
   ·refine ent_exi fun v4 => ent_and fun e_ => ?_
    subst e_
    rw [cas_inl] at H
    refine ent_seq (ent_seq (ent_region (ent_value (ov_move rfl) rfl rfl rfl ?_)))
    obtain ⟨x10,h4,H⟩ := Option.bind_eq_some_iff.1 H
    refine ent_op (ot_call0 (first := []) (cap := []) (xs := [.tmp 54]) rfl rfl F_call_23 rfl (ossuaryref34_Decimal.spec K v4 _ h4)) rfl rfl rfl ?_
    rintro _ _ ⟨rfl,rfl⟩
    refine ent_value (ov_move rfl) rfl rfl rfl (ent_value (ov_bin rfl rfl (b_neq_str _ _)) rfl rfl rfl (ent_nil ?_))
    refine htT H (fun c224 H => ?_) fun c224 H => ?_
    ·refine ent_cond_true rfl (nb_t c224) (ent_seq (ent_region (ent_value (ov_assign rfl) rfl rfl rfl (ent_value (ov_assign rfl) rfl rfl rfl (ent_nil (ent_retc ?_))))))
     cases H
     refine ent_pick [] (by decide) rfl ?_
     exact ret_mem (vs := [I 0,B0]) rfl ⟨rfl,⟨rfl,trivial⟩⟩ _ rfl ⟨rfl,rfl⟩
    refine ent_cond_false rfl (nb_f c224) (ent_skip (ent_seq (ent_region (ent_value (ov_move rfl) rfl rfl rfl (ent_value (ov_assign rfl) rfl rfl rfl (ent_value (ov_assign rfl) rfl rfl rfl (ent_nil (ent_retc ?_))))))))
    cases H
    refine ent_pick [] (by decide) rfl ?_
    exact ret_mem (vs := [I v4,bool true]) rfl ⟨rfl,⟨rfl,trivial⟩⟩ _ rfl ⟨rfl,rfl⟩

theorem ossuaryref34_hex.spec (K : Nat) (a0 r : Int) (H : ossuaryref34_hex K a0 = some r) : FnSpec Tryd.prog 26 [int .u8 a0] [] (fun v M => v = (I r) ∧ M = []) := by
 unfold ossuaryref34_hex at H
 refine spec_of Tryd.func26 rfl 13 rfl (Nat.le_of_ble_eq_true rfl) fun F w0 => ?_
 show Ent (St 13 w0 F [(0,int .u8 a0)] []) _
 refine ent_seq (ent_region (ent_value (ov_assign rfl) rfl rfl rfl (ent_nil (ent_seq (ent_seq (ent_region (ent_value (ov_assign rfl) rfl rfl rfl (ent_nil (ent_block ?_)))))))))
 refine ent_loop (fun k a w => ∃ i5,ossuaryref34_hex_l0 K a0 k i5 = some r ∧ St 13 w0 F [(0,int .u8 a0),(3,I i5)] [] a w) K ?_ ?_
 ·exact ent_fin [] (by decide) rfl (sub_cons (t := 0) rfl (sub_cons (t := 3) rfl (sub_nil _))) fun a w h => ⟨_,H,h⟩
 ·refine fun k => ent_exi fun i5 => ent_and fun H4 => ?_
  cases k with
  | zero => exact absurd H4 (by simp [ossuaryref34_hex_l0])
  | succ k =>
   rw [ossuaryref34_hex_l0] at H4
   refine ent_seq (ent_seq (ent_region (ent_value (ov_move rfl) rfl rfl rfl (ent_value (ov_bin rfl rfl (b_lss _ _ _)) rfl rfl rfl (ent_nil ?_)))))
   refine htF H4 (fun c74 H4 => ?_) fun c74 H4 => ?_
   ·refine ent_cond_false rfl (decide_eq_false c74) (ent_exit (ent_seq (ent_region (ent_value (ov_assign rfl) rfl rfl rfl (ent_nil (ent_retc ?_))))))
    cases H4
    refine ent_pick [] (by decide) rfl ?_
    exact ret_tmp rfl rfl ⟨rfl,rfl⟩
   refine ent_cond_true rfl (decide_eq_true c74) (ent_skip (ent_seq (ent_block (ent_seq (ent_region (ent_value (ov_move rfl) rfl rfl rfl ?_))))))
   obtain ⟨c78,H4⟩ := gdT H4
   obtain ⟨c79,H4⟩ := gdT H4
   refine ent_value (ov_indexS rfl rfl Tryd.underlying9 c78 c79) rfl rfl rfl (ent_value (ov_move rfl) rfl rfl rfl (ent_value (ov_bin rfl rfl (b_eql _ _ _)) rfl rfl rfl (ent_nil ?_)))
   refine htT H4 (fun c80 H4 => ?_) fun c80 H4 => ?_
   ·refine ent_cond_true rfl (eq_t c80) (ent_seq (ent_region (ent_value (ov_move rfl) rfl rfl rfl (ent_value (ov_assign rfl) rfl rfl rfl (ent_nil (ent_retc ?_))))))
    cases H4
    refine ent_pick [] (by decide) rfl ?_
    exact ret_tmp rfl rfl ⟨rfl,rfl⟩
   refine ent_cond_false rfl (eq_f c80) (ent_skip (ent_region (ent_value (ov_move rfl) rfl rfl rfl (ent_value (ov_bin rfl rfl (b_add _ _ _) ) rfl rfl rfl (ent_value (ov_assign rfl) rfl rfl rfl (ent_nil ?_))))))
   exact ent_fin [] (by decide) rfl (sub_cons (t := 0) rfl (sub_cons (t := 3) rfl (sub_nil _))) fun a w h => ⟨k,Nat.lt_succ_self k,_,H4,h⟩

theorem ossuaryref34_plain.spec (a0 : Int) (r : Bool) (H : ossuaryref34_plain a0 = r) : FnSpec Tryd.prog 29 [int .u8 a0] [] (fun v M => v = (bool r) ∧ M = []) := by
 unfold ossuaryref34_plain at H
 refine spec_of Tryd.func29 rfl 33 rfl (Nat.le_of_ble_eq_true rfl) fun F w0 => ?_
 show Ent (St 33 w0 F [(0,int .u8 a0)] []) _
 refine ent_seq (ent_region (ent_value (ov_assign rfl) rfl rfl rfl (ent_nil (ent_seq (ent_region (ent_value (ov_move rfl) rfl rfl rfl (ent_value (ov_bin rfl rfl (b_geq _ _ _)) rfl rfl rfl (ent_value (ov_move rfl) rfl rfl rfl ?_))))))))
 refine htF H (fun c23 H => ?_) fun c23 H => ?_
 ·refine ent_off rfl rfl rfl (decide_eq_false c23) rfl rfl ?_
  refine ent_off rfl rfl rfl (decide_eq_false c23) rfl rfl ?_
  refine ent_value (ov_pick rfl rfl rfl (pick_f (decide_eq_false c23))) rfl rfl rfl (ent_value (ov_move rfl) rfl rfl rfl ?_)
  refine ent_value_on (ov_move rfl) rfl rfl rfl rfl rfl rfl ?_
  refine ent_value_on (ov_bin rfl rfl (b_geq _ _ _)) rfl rfl rfl rfl rfl rfl ?_
  refine ent_value_on (ov_move rfl) rfl rfl rfl rfl rfl rfl ?_
  refine htF H (fun c35 H => ?_) fun c35 H => ?_
  ·refine ent_off rfl rfl rfl (decide_eq_false c35) rfl rfl ?_
   refine ent_off rfl rfl rfl (decide_eq_false c35) rfl rfl ?_
   refine ent_value_on (ov_pick rfl rfl rfl (pick_f (decide_eq_false c35))) rfl rfl rfl rfl rfl rfl ?_
   refine ent_value (ov_pick rfl rfl rfl rfl) rfl rfl rfl (ent_value (ov_move rfl) rfl rfl rfl ?_)
   refine ent_value_on (ov_move rfl) rfl rfl rfl rfl rfl rfl ?_
   refine ent_value_on (ov_bin rfl rfl (b_geq _ _ _)) rfl rfl rfl rfl rfl rfl ?_
   refine ent_value_on (ov_move rfl) rfl rfl rfl rfl rfl rfl ?_
   refine htF H (fun c41 H => ?_) fun c41 H => ?_
   ·refine ent_off rfl rfl rfl (decide_eq_false c41) rfl rfl ?_
    refine ent_off rfl rfl rfl (decide_eq_false c41) rfl rfl ?_
    refine ent_value_on (ov_pick rfl rfl rfl (pick_f (decide_eq_false c41))) rfl rfl rfl rfl rfl rfl ?_
    refine ent_value (ov_pick rfl rfl rfl rfl) rfl rfl rfl (ent_value (ov_move rfl) rfl rfl rfl ?_)
    refine ent_value_on (ov_move rfl) rfl rfl rfl rfl rfl rfl ?_
    refine ent_value_on (ov_bin rfl rfl (b_eql _ _ _)) rfl rfl rfl rfl rfl rfl ?_
    refine ent_value (ov_pick rfl rfl rfl rfl) rfl rfl rfl (ent_value (ov_move rfl) rfl rfl rfl ?_)
    refine htT H (fun c44 H => ?_) fun c44 H => ?_
    ·refine ent_off rfl rfl rfl (eq_t c44) rfl rfl ?_
     refine ent_off rfl rfl rfl (eq_t c44) rfl rfl ?_
     refine ent_value (ov_pick rfl rfl rfl (pick_t (eq_t c44))) rfl rfl rfl (ent_value (ov_assign rfl) rfl rfl rfl (ent_nil (ent_retc ?_)))
     cases H
     refine ent_pick [] (by decide) rfl ?_
     exact ret_tmp rfl rfl ⟨rfl,rfl⟩
    refine ent_value_on (ov_move rfl) rfl rfl rfl (eq_f c44) rfl rfl ?_
    refine ent_value_on (ov_bin rfl rfl (b_eql _ _ _)) rfl rfl rfl (eq_f c44) rfl rfl ?_
    refine ent_value (ov_pick rfl rfl rfl (pick_f (eq_f c44))) rfl rfl rfl (ent_value (ov_assign rfl) rfl rfl rfl (ent_nil (ent_retc ?_)))
    cases H
    refine ent_pick [] (by decide) rfl ?_
    exact ret_tmp rfl rfl ⟨rfl,rfl⟩
   refine ent_value_on (ov_move rfl) rfl rfl rfl (decide_eq_true c41) rfl rfl ?_
   refine ent_value_on (ov_bin rfl rfl (b_leq _ _ _)) rfl rfl rfl (decide_eq_true c41) rfl rfl ?_
   refine ent_value_on (ov_pick rfl rfl rfl (pick_t (decide_eq_true c41))) rfl rfl rfl rfl rfl rfl ?_
   refine ent_value (ov_pick rfl rfl rfl rfl) rfl rfl rfl (ent_value (ov_move rfl) rfl rfl rfl ?_)
   refine htT H (fun c42 H => ?_) fun c42 H => ?_
   ·refine ent_off rfl rfl rfl (decide_eq_true c42) rfl rfl ?_
    refine ent_off rfl rfl rfl (decide_eq_true c42) rfl rfl ?_
    refine ent_value (ov_pick rfl rfl rfl (pick_t (decide_eq_true c42))) rfl rfl rfl (ent_value (ov_move rfl) rfl rfl rfl ?_)
    refine ent_off rfl rfl rfl rfl rfl rfl ?_
    refine ent_off rfl rfl rfl rfl rfl rfl ?_
    refine ent_value (ov_pick rfl rfl rfl rfl) rfl rfl rfl (ent_value (ov_assign rfl) rfl rfl rfl (ent_nil (ent_retc ?_)))
    cases H
    refine ent_pick [] (by decide) rfl ?_
    exact ret_tmp rfl rfl ⟨rfl,rfl⟩
   refine ent_value_on (ov_move rfl) rfl rfl rfl (decide_eq_false c42) rfl rfl ?_
   refine ent_value_on (ov_bin rfl rfl (b_eql _ _ _)) rfl rfl rfl (decide_eq_false c42) rfl rfl ?_
   refine ent_value (ov_pick rfl rfl rfl (pick_f (decide_eq_false c42))) rfl rfl rfl (ent_value (ov_move rfl) rfl rfl rfl ?_)
   refine htT H (fun c43 H => ?_) fun c43 H => ?_
   ·refine ent_off rfl rfl rfl (eq_t c43) rfl rfl ?_
    refine ent_off rfl rfl rfl (eq_t c43) rfl rfl ?_
    refine ent_value (ov_pick rfl rfl rfl (pick_t (eq_t c43))) rfl rfl rfl (ent_value (ov_assign rfl) rfl rfl rfl (ent_nil (ent_retc ?_)))
    cases H
    refine ent_pick [] (by decide) rfl ?_
    exact ret_tmp rfl rfl ⟨rfl,rfl⟩
   refine ent_value_on (ov_move rfl) rfl rfl rfl (eq_f c43) rfl rfl ?_
   refine ent_value_on (ov_bin rfl rfl (b_eql _ _ _)) rfl rfl rfl (eq_f c43) rfl rfl ?_
   refine ent_value (ov_pick rfl rfl rfl (pick_f (eq_f c43))) rfl rfl rfl (ent_value (ov_assign rfl) rfl rfl rfl (ent_nil (ent_retc ?_)))
   cases H
   refine ent_pick [] (by decide) rfl ?_
   exact ret_tmp rfl rfl ⟨rfl,rfl⟩
  refine ent_value_on (ov_move rfl) rfl rfl rfl (decide_eq_true c35) rfl rfl ?_
  refine ent_value_on (ov_bin rfl rfl (b_leq _ _ _)) rfl rfl rfl (decide_eq_true c35) rfl rfl ?_
  refine ent_value_on (ov_pick rfl rfl rfl (pick_t (decide_eq_true c35))) rfl rfl rfl rfl rfl rfl ?_
  refine ent_value (ov_pick rfl rfl rfl rfl) rfl rfl rfl (ent_value (ov_move rfl) rfl rfl rfl ?_)
  refine htT H (fun c36 H => ?_) fun c36 H => ?_
  ·refine ent_off rfl rfl rfl (decide_eq_true c36) rfl rfl ?_
   refine ent_off rfl rfl rfl (decide_eq_true c36) rfl rfl ?_
   refine ent_off rfl rfl rfl (decide_eq_true c36) rfl rfl ?_
   refine ent_offu rfl rfl rfl rfl rfl ?_
   refine ent_offu rfl rfl rfl rfl rfl ?_
   refine ent_off rfl rfl rfl (decide_eq_true c36) rfl rfl ?_
   refine ent_value (ov_pick rfl rfl rfl (pick_t (decide_eq_true c36))) rfl rfl rfl (ent_value (ov_move rfl) rfl rfl rfl ?_)
   refine ent_off rfl rfl rfl rfl rfl rfl ?_
   refine ent_off rfl rfl rfl rfl rfl rfl ?_
   refine ent_value (ov_pick rfl rfl rfl rfl) rfl rfl rfl (ent_value (ov_move rfl) rfl rfl rfl ?_)
   refine ent_off rfl rfl rfl rfl rfl rfl ?_
   refine ent_off rfl rfl rfl rfl rfl rfl ?_
   refine ent_value (ov_pick rfl rfl rfl rfl) rfl rfl rfl (ent_value (ov_assign rfl) rfl rfl rfl (ent_nil (ent_retc ?_)))
   cases H
   refine ent_pick [] (by decide) rfl ?_
   exact ret_tmp rfl rfl ⟨rfl,rfl⟩
  refine ent_value_on (ov_move rfl) rfl rfl rfl (decide_eq_false c36) rfl rfl ?_
  refine ent_value_on (ov_bin rfl rfl (b_geq _ _ _)) rfl rfl rfl (decide_eq_false c36) rfl rfl ?_
  refine ent_value_on (ov_move rfl) rfl rfl rfl (decide_eq_false c36) rfl rfl ?_
  refine htF H (fun c37 H => ?_) fun c37 H => ?_
  ·refine ent_off rfl rfl rfl (decide_eq_false c37) rfl rfl ?_
   refine ent_off rfl rfl rfl (decide_eq_false c37) rfl rfl ?_
   refine ent_value_on (ov_pick rfl rfl rfl (pick_f (decide_eq_false c37))) rfl rfl rfl (decide_eq_false c36) rfl rfl ?_
   refine ent_value (ov_pick rfl rfl rfl (pick_f (decide_eq_false c36))) rfl rfl rfl (ent_value (ov_move rfl) rfl rfl rfl ?_)
   refine ent_value_on (ov_move rfl) rfl rfl rfl rfl rfl rfl ?_
   refine ent_value_on (ov_bin rfl rfl (b_eql _ _ _)) rfl rfl rfl rfl rfl rfl ?_
   refine ent_value (ov_pick rfl rfl rfl rfl) rfl rfl rfl (ent_value (ov_move rfl) rfl rfl rfl ?_)
   refine htT H (fun c40 H => ?_) fun c40 H => ?_
   ·refine ent_off rfl rfl rfl (eq_t c40) rfl rfl ?_
    refine ent_off rfl rfl rfl (eq_t c40) rfl rfl ?_
    refine ent_value (ov_pick rfl rfl rfl (pick_t (eq_t c40))) rfl rfl rfl (ent_value (ov_assign rfl) rfl rfl rfl (ent_nil (ent_retc ?_)))
    cases H
    refine ent_pick [] (by decide) rfl ?_
    exact ret_tmp rfl rfl ⟨rfl,rfl⟩
   refine ent_value_on (ov_move rfl) rfl rfl rfl (eq_f c40) rfl rfl ?_
   refine ent_value_on (ov_bin rfl rfl (b_eql _ _ _)) rfl rfl rfl (eq_f c40) rfl rfl ?_
   refine ent_value (ov_pick rfl rfl rfl (pick_f (eq_f c40))) rfl rfl rfl (ent_value (ov_assign rfl) rfl rfl rfl (ent_nil (ent_retc ?_)))
   cases H
   refine ent_pick [] (by decide) rfl ?_
   exact ret_tmp rfl rfl ⟨rfl,rfl⟩
  refine ent_value_on (ov_move rfl) rfl rfl rfl (decide_eq_true c37) rfl rfl ?_
  refine ent_value_on (ov_bin rfl rfl (b_leq _ _ _)) rfl rfl rfl (decide_eq_true c37) rfl rfl ?_
  refine ent_value_on (ov_pick rfl rfl rfl (pick_t (decide_eq_true c37))) rfl rfl rfl (decide_eq_false c36) rfl rfl ?_
  refine ent_value (ov_pick rfl rfl rfl (pick_f (decide_eq_false c36))) rfl rfl rfl (ent_value (ov_move rfl) rfl rfl rfl ?_)
  refine htT H (fun c38 H => ?_) fun c38 H => ?_
  ·refine ent_off rfl rfl rfl (decide_eq_true c38) rfl rfl ?_
   refine ent_off rfl rfl rfl (decide_eq_true c38) rfl rfl ?_
   refine ent_value (ov_pick rfl rfl rfl (pick_t (decide_eq_true c38))) rfl rfl rfl (ent_value (ov_move rfl) rfl rfl rfl ?_)
   refine ent_off rfl rfl rfl rfl rfl rfl ?_
   refine ent_off rfl rfl rfl rfl rfl rfl ?_
   refine ent_value (ov_pick rfl rfl rfl rfl) rfl rfl rfl (ent_value (ov_assign rfl) rfl rfl rfl (ent_nil (ent_retc ?_)))
   cases H
   refine ent_pick [] (by decide) rfl ?_
   exact ret_tmp rfl rfl ⟨rfl,rfl⟩
  refine ent_value_on (ov_move rfl) rfl rfl rfl (decide_eq_false c38) rfl rfl ?_
  refine ent_value_on (ov_bin rfl rfl (b_eql _ _ _)) rfl rfl rfl (decide_eq_false c38) rfl rfl ?_
  refine ent_value (ov_pick rfl rfl rfl (pick_f (decide_eq_false c38))) rfl rfl rfl (ent_value (ov_move rfl) rfl rfl rfl ?_)
  refine htT H (fun c39 H => ?_) fun c39 H => ?_
  ·refine ent_off rfl rfl rfl (eq_t c39) rfl rfl ?_
   refine ent_off rfl rfl rfl (eq_t c39) rfl rfl ?_
   refine ent_value (ov_pick rfl rfl rfl (pick_t (eq_t c39))) rfl rfl rfl (ent_value (ov_assign rfl) rfl rfl rfl (ent_nil (ent_retc ?_)))
   cases H
   refine ent_pick [] (by decide) rfl ?_
   exact ret_tmp rfl rfl ⟨rfl,rfl⟩
  refine ent_value_on (ov_move rfl) rfl rfl rfl (eq_f c39) rfl rfl ?_
  refine ent_value_on (ov_bin rfl rfl (b_eql _ _ _)) rfl rfl rfl (eq_f c39) rfl rfl ?_
  refine ent_value (ov_pick rfl rfl rfl (pick_f (eq_f c39))) rfl rfl rfl (ent_value (ov_assign rfl) rfl rfl rfl (ent_nil (ent_retc ?_)))
  cases H
  refine ent_pick [] (by decide) rfl ?_
  exact ret_tmp rfl rfl ⟨rfl,rfl⟩
 refine ent_value_on (ov_move rfl) rfl rfl rfl (decide_eq_true c23) rfl rfl ?_
 refine ent_value_on (ov_bin rfl rfl (b_leq _ _ _)) rfl rfl rfl (decide_eq_true c23) rfl rfl ?_
 refine ent_value (ov_pick rfl rfl rfl (pick_t (decide_eq_true c23))) rfl rfl rfl (ent_value (ov_move rfl) rfl rfl rfl ?_)
 refine htT H (fun c24 H => ?_) fun c24 H => ?_
 ·refine ent_off rfl rfl rfl (decide_eq_true c24) rfl rfl ?_
  refine ent_off rfl rfl rfl (decide_eq_true c24) rfl rfl ?_
  refine ent_off rfl rfl rfl (decide_eq_true c24) rfl rfl ?_
  refine ent_offu rfl rfl rfl rfl rfl ?_
  refine ent_offu rfl rfl rfl rfl rfl ?_
  refine ent_off rfl rfl rfl (decide_eq_true c24) rfl rfl ?_
  refine ent_value (ov_pick rfl rfl rfl (pick_t (decide_eq_true c24))) rfl rfl rfl (ent_value (ov_move rfl) rfl rfl rfl ?_)
  refine ent_off rfl rfl rfl rfl rfl rfl ?_
  refine ent_off rfl rfl rfl rfl rfl rfl ?_
  refine ent_off rfl rfl rfl rfl rfl rfl ?_
  refine ent_offu rfl rfl rfl rfl rfl ?_
  refine ent_offu rfl rfl rfl rfl rfl ?_
  refine ent_off rfl rfl rfl rfl rfl rfl ?_
  refine ent_value (ov_pick rfl rfl rfl rfl) rfl rfl rfl (ent_value (ov_move rfl) rfl rfl rfl ?_)
  refine ent_off rfl rfl rfl rfl rfl rfl ?_
  refine ent_off rfl rfl rfl rfl rfl rfl ?_
  refine ent_value (ov_pick rfl rfl rfl rfl) rfl rfl rfl (ent_value (ov_move rfl) rfl rfl rfl ?_)
  refine ent_off rfl rfl rfl rfl rfl rfl ?_
  refine ent_off rfl rfl rfl rfl rfl rfl ?_
  refine ent_value (ov_pick rfl rfl rfl rfl) rfl rfl rfl (ent_value (ov_assign rfl) rfl rfl rfl (ent_nil (ent_retc ?_)))
  cases H
  refine ent_pick [] (by decide) rfl ?_
  exact ret_tmp rfl rfl ⟨rfl,rfl⟩
 refine ent_value_on (ov_move rfl) rfl rfl rfl (decide_eq_false c24) rfl rfl ?_
 refine ent_value_on (ov_bin rfl rfl (b_geq _ _ _)) rfl rfl rfl (decide_eq_false c24) rfl rfl ?_
 refine ent_value_on (ov_move rfl) rfl rfl rfl (decide_eq_false c24) rfl rfl ?_
 refine htF H (fun c25 H => ?_) fun c25 H => ?_
 ·refine ent_off rfl rfl rfl (decide_eq_false c25) rfl rfl ?_
  refine ent_off rfl rfl rfl (decide_eq_false c25) rfl rfl ?_
  refine ent_value_on (ov_pick rfl rfl rfl (pick_f (decide_eq_false c25))) rfl rfl rfl (decide_eq_false c24) rfl rfl ?_
  refine ent_value (ov_pick rfl rfl rfl (pick_f (decide_eq_false c24))) rfl rfl rfl (ent_value (ov_move rfl) rfl rfl rfl ?_)
  refine ent_value_on (ov_move rfl) rfl rfl rfl rfl rfl rfl ?_
  refine ent_value_on (ov_bin rfl rfl (b_geq _ _ _)) rfl rfl rfl rfl rfl rfl ?_
  refine ent_value_on (ov_move rfl) rfl rfl rfl rfl rfl rfl ?_
  refine htF H (fun c31 H => ?_) fun c31 H => ?_
  ·refine ent_off rfl rfl rfl (decide_eq_false c31) rfl rfl ?_
   refine ent_off rfl rfl rfl (decide_eq_false c31) rfl rfl ?_
   refine ent_value_on (ov_pick rfl rfl rfl (pick_f (decide_eq_false c31))) rfl rfl rfl rfl rfl rfl ?_
   refine ent_value (ov_pick rfl rfl rfl rfl) rfl rfl rfl (ent_value (ov_move rfl) rfl rfl rfl ?_)
   refine ent_value_on (ov_move rfl) rfl rfl rfl rfl rfl rfl ?_
   refine ent_value_on (ov_bin rfl rfl (b_eql _ _ _)) rfl rfl rfl rfl rfl rfl ?_
   refine ent_value (ov_pick rfl rfl rfl rfl) rfl rfl rfl (ent_value (ov_move rfl) rfl rfl rfl ?_)
   refine htT H (fun c34 H => ?_) fun c34 H => ?_
   ·refine ent_off rfl rfl rfl (eq_t c34) rfl rfl ?_
    refine ent_off rfl rfl rfl (eq_t c34) rfl rfl ?_
    refine ent_value (ov_pick rfl rfl rfl (pick_t (eq_t c34))) rfl rfl rfl (ent_value (ov_assign rfl) rfl rfl rfl (ent_nil (ent_retc ?_)))
    cases H
    refine ent_pick [] (by decide) rfl ?_
    exact ret_tmp rfl rfl ⟨rfl,rfl⟩
   refine ent_value_on (ov_move rfl) rfl rfl rfl (eq_f c34) rfl rfl ?_
   refine ent_value_on (ov_bin rfl rfl (b_eql _ _ _)) rfl rfl rfl (eq_f c34) rfl rfl ?_
   refine ent_value (ov_pick rfl rfl rfl (pick_f (eq_f c34))) rfl rfl rfl (ent_value (ov_assign rfl) rfl rfl rfl (ent_nil (ent_retc ?_)))
   cases H
   refine ent_pick [] (by decide) rfl ?_
   exact ret_tmp rfl rfl ⟨rfl,rfl⟩
  refine ent_value_on (ov_move rfl) rfl rfl rfl (decide_eq_true c31) rfl rfl ?_
  refine ent_value_on (ov_bin rfl rfl (b_leq _ _ _)) rfl rfl rfl (decide_eq_true c31) rfl rfl ?_
  refine ent_value_on (ov_pick rfl rfl rfl (pick_t (decide_eq_true c31))) rfl rfl rfl rfl rfl rfl ?_
  refine ent_value (ov_pick rfl rfl rfl rfl) rfl rfl rfl (ent_value (ov_move rfl) rfl rfl rfl ?_)
  refine htT H (fun c32 H => ?_) fun c32 H => ?_
  ·refine ent_off rfl rfl rfl (decide_eq_true c32) rfl rfl ?_
   refine ent_off rfl rfl rfl (decide_eq_true c32) rfl rfl ?_
   refine ent_value (ov_pick rfl rfl rfl (pick_t (decide_eq_true c32))) rfl rfl rfl (ent_value (ov_move rfl) rfl rfl rfl ?_)
   refine ent_off rfl rfl rfl rfl rfl rfl ?_
   refine ent_off rfl rfl rfl rfl rfl rfl ?_
   refine ent_value (ov_pick rfl rfl rfl rfl) rfl rfl rfl (ent_value (ov_assign rfl) rfl rfl rfl (ent_nil (ent_retc ?_)))
   cases H
   refine ent_pick [] (by decide) rfl ?_
   exact ret_tmp rfl rfl ⟨rfl,rfl⟩
  refine ent_value_on (ov_move rfl) rfl rfl rfl (decide_eq_false c32) rfl rfl ?_
  refine ent_value_on (ov_bin rfl rfl (b_eql _ _ _)) rfl rfl rfl (decide_eq_false c32) rfl rfl ?_
  refine ent_value (ov_pick rfl rfl rfl (pick_f (decide_eq_false c32))) rfl rfl rfl (ent_value (ov_move rfl) rfl rfl rfl ?_)
  refine htT H (fun c33 H => ?_) fun c33 H => ?_
  ·refine ent_off rfl rfl rfl (eq_t c33) rfl rfl ?_
   refine ent_off rfl rfl rfl (eq_t c33) rfl rfl ?_
   refine ent_value (ov_pick rfl rfl rfl (pick_t (eq_t c33))) rfl rfl rfl (ent_value (ov_assign rfl) rfl rfl rfl (ent_nil (ent_retc ?_)))
   cases H
   refine ent_pick [] (by decide) rfl ?_
   exact ret_tmp rfl rfl ⟨rfl,rfl⟩
  refine ent_value_on (ov_move rfl) rfl rfl rfl (eq_f c33) rfl rfl ?_
  refine ent_value_on (ov_bin rfl rfl (b_eql _ _ _)) rfl rfl rfl (eq_f c33) rfl rfl ?_
  refine ent_value (ov_pick rfl rfl rfl (pick_f (eq_f c33))) rfl rfl rfl (ent_value (ov_assign rfl) rfl rfl rfl (ent_nil (ent_retc ?_)))
  cases H
  refine ent_pick [] (by decide) rfl ?_
  exact ret_tmp rfl rfl ⟨rfl,rfl⟩
 refine ent_value_on (ov_move rfl) rfl rfl rfl (decide_eq_true c25) rfl rfl ?_
 refine ent_value_on (ov_bin rfl rfl (b_leq _ _ _)) rfl rfl rfl (decide_eq_true c25) rfl rfl ?_
 refine ent_value_on (ov_pick rfl rfl rfl (pick_t (decide_eq_true c25))) rfl rfl rfl (decide_eq_false c24) rfl rfl ?_
 refine ent_value (ov_pick rfl rfl rfl (pick_f (decide_eq_false c24))) rfl rfl rfl (ent_value (ov_move rfl) rfl rfl rfl ?_)
 refine htT H (fun c26 H => ?_) fun c26 H => ?_
 ·refine ent_off rfl rfl rfl (decide_eq_true c26) rfl rfl ?_
  refine ent_off rfl rfl rfl (decide_eq_true c26) rfl rfl ?_
  refine ent_off rfl rfl rfl (decide_eq_true c26) rfl rfl ?_
  refine ent_offu rfl rfl rfl rfl rfl ?_
  refine ent_offu rfl rfl rfl rfl rfl ?_
  refine ent_off rfl rfl rfl (decide_eq_true c26) rfl rfl ?_
  refine ent_value (ov_pick rfl rfl rfl (pick_t (decide_eq_true c26))) rfl rfl rfl (ent_value (ov_move rfl) rfl rfl rfl ?_)
  refine ent_off rfl rfl rfl rfl rfl rfl ?_
  refine ent_off rfl rfl rfl rfl rfl rfl ?_
  refine ent_value (ov_pick rfl rfl rfl rfl) rfl rfl rfl (ent_value (ov_move rfl) rfl rfl rfl ?_)
  refine ent_off rfl rfl rfl rfl rfl rfl ?_
  refine ent_off rfl rfl rfl rfl rfl rfl ?_
  refine ent_value (ov_pick rfl rfl rfl rfl) rfl rfl rfl (ent_value (ov_assign rfl) rfl rfl rfl (ent_nil (ent_retc ?_)))
  cases H
  refine ent_pick [] (by decide) rfl ?_
  exact ret_tmp rfl rfl ⟨rfl,rfl⟩
 refine ent_value_on (ov_move rfl) rfl rfl rfl (decide_eq_false c26) rfl rfl ?_
 refine ent_value_on (ov_bin rfl rfl (b_geq _ _ _)) rfl rfl rfl (decide_eq_false c26) rfl rfl ?_
 refine ent_value_on (ov_move rfl) rfl rfl rfl (decide_eq_false c26) rfl rfl ?_
 refine htF H (fun c27 H => ?_) fun c27 H => ?_
 ·refine ent_off rfl rfl rfl (decide_eq_false c27) rfl rfl ?_
  refine ent_off rfl rfl rfl (decide_eq_false c27) rfl rfl ?_
  refine ent_value_on (ov_pick rfl rfl rfl (pick_f (decide_eq_false c27))) rfl rfl rfl (decide_eq_false c26) rfl rfl ?_
  refine ent_value (ov_pick rfl rfl rfl (pick_f (decide_eq_false c26))) rfl rfl rfl (ent_value (ov_move rfl) rfl rfl rfl ?_)
  refine ent_value_on (ov_move rfl) rfl rfl rfl rfl rfl rfl ?_
  refine ent_value_on (ov_bin rfl rfl (b_eql _ _ _)) rfl rfl rfl rfl rfl rfl ?_
  refine ent_value (ov_pick rfl rfl rfl rfl) rfl rfl rfl (ent_value (ov_move rfl) rfl rfl rfl ?_)
  refine htT H (fun c30 H => ?_) fun c30 H => ?_
  ·refine ent_off rfl rfl rfl (eq_t c30) rfl rfl ?_
   refine ent_off rfl rfl rfl (eq_t c30) rfl rfl ?_
   refine ent_value (ov_pick rfl rfl rfl (pick_t (eq_t c30))) rfl rfl rfl (ent_value (ov_assign rfl) rfl rfl rfl (ent_nil (ent_retc ?_)))
   cases H
   refine ent_pick [] (by decide) rfl ?_
   exact ret_tmp rfl rfl ⟨rfl,rfl⟩
  refine ent_value_on (ov_move rfl) rfl rfl rfl (eq_f c30) rfl rfl ?_
  refine ent_value_on (ov_bin rfl rfl (b_eql _ _ _)) rfl rfl rfl (eq_f c30) rfl rfl ?_
  refine ent_value (ov_pick rfl rfl rfl (pick_f (eq_f c30))) rfl rfl rfl (ent_value (ov_assign rfl) rfl rfl rfl (ent_nil (ent_retc ?_)))
  cases H
  refine ent_pick [] (by decide) rfl ?_
  exact ret_tmp rfl rfl ⟨rfl,rfl⟩
 refine ent_value_on (ov_move rfl) rfl rfl rfl (decide_eq_true c27) rfl rfl ?_
 refine ent_value_on (ov_bin rfl rfl (b_leq _ _ _)) rfl rfl rfl (decide_eq_true c27) rfl rfl ?_
 refine ent_value_on (ov_pick rfl rfl rfl (pick_t (decide_eq_true c27))) rfl rfl rfl (decide_eq_false c26) rfl rfl ?_
 refine ent_value (ov_pick rfl rfl rfl (pick_f (decide_eq_false c26))) rfl rfl rfl (ent_value (ov_move rfl) rfl rfl rfl ?_)
 refine htT H (fun c28 H => ?_) fun c28 H => ?_
 ·refine ent_off rfl rfl rfl (decide_eq_true c28) rfl rfl ?_
  refine ent_off rfl rfl rfl (decide_eq_true c28) rfl rfl ?_
  refine ent_value (ov_pick rfl rfl rfl (pick_t (decide_eq_true c28))) rfl rfl rfl (ent_value (ov_move rfl) rfl rfl rfl ?_)
  refine ent_off rfl rfl rfl rfl rfl rfl ?_
  refine ent_off rfl rfl rfl rfl rfl rfl ?_
  refine ent_value (ov_pick rfl rfl rfl rfl) rfl rfl rfl (ent_value (ov_assign rfl) rfl rfl rfl (ent_nil (ent_retc ?_)))
  cases H
  refine ent_pick [] (by decide) rfl ?_
  exact ret_tmp rfl rfl ⟨rfl,rfl⟩
 refine ent_value_on (ov_move rfl) rfl rfl rfl (decide_eq_false c28) rfl rfl ?_
 refine ent_value_on (ov_bin rfl rfl (b_eql _ _ _)) rfl rfl rfl (decide_eq_false c28) rfl rfl ?_
 refine ent_value (ov_pick rfl rfl rfl (pick_f (decide_eq_false c28))) rfl rfl rfl (ent_value (ov_move rfl) rfl rfl rfl ?_)
 refine htT H (fun c29 H => ?_) fun c29 H => ?_
 ·refine ent_off rfl rfl rfl (eq_t c29) rfl rfl ?_
  refine ent_off rfl rfl rfl (eq_t c29) rfl rfl ?_
  refine ent_value (ov_pick rfl rfl rfl (pick_t (eq_t c29))) rfl rfl rfl (ent_value (ov_assign rfl) rfl rfl rfl (ent_nil (ent_retc ?_)))
  cases H
  refine ent_pick [] (by decide) rfl ?_
  exact ret_tmp rfl rfl ⟨rfl,rfl⟩
 refine ent_value_on (ov_move rfl) rfl rfl rfl (eq_f c29) rfl rfl ?_
 refine ent_value_on (ov_bin rfl rfl (b_eql _ _ _)) rfl rfl rfl (eq_f c29) rfl rfl ?_
 refine ent_value (ov_pick rfl rfl rfl (pick_f (eq_f c29))) rfl rfl rfl (ent_value (ov_assign rfl) rfl rfl rfl (ent_nil (ent_retc ?_)))
 cases H
 refine ent_pick [] (by decide) rfl ?_
 exact ret_tmp rfl rfl ⟨rfl,rfl⟩

theorem ossuaryref34_Quote.spec (K : Nat) (a0 : List UInt8) (r : List UInt8) (H : ossuaryref34_Quote K a0 = some r) : FnSpec Tryd.prog 12 [str a0] [] (fun v M => v = (str r) ∧ M = []) := by
 unfold ossuaryref34_Quote at H
 refine spec_of Tryd.func12 rfl 49 rfl (Nat.le_of_ble_eq_true rfl) fun F w0 => ?_
 show Ent (St 49 w0 F [(0,str a0)] []) _
 refine ent_seq (ent_region (ent_value (ov_assign rfl) rfl rfl rfl (ent_nil (ent_seq (ent_seq (ent_region (ent_value (ov_move rfl) rfl rfl rfl (ent_value (ov_bin rfl rfl (b_eql_str _ _)) rfl rfl rfl (ent_nil ?_)))))))))
 refine htT H (fun c180 H => ?_) fun c180 H => ?_
 ·refine ent_cond_true rfl (eq_t c180) (ent_seq (ent_region (ent_value (ov_assign rfl) rfl rfl rfl (ent_nil (ent_retc ?_)))))
  cases H
  refine ent_pick [] (by decide) rfl ?_
  exact ret_tmp rfl rfl ⟨rfl,rfl⟩
 refine ent_cond_false rfl (eq_f c180) (ent_skip (ent_seq (ent_region (ent_value (ov_assign rfl) rfl rfl rfl (ent_nil (ent_seq (ent_seq (ent_region (ent_value (ov_assign rfl) rfl rfl rfl (ent_nil (ent_block ?_)))))))))))
 refine ent_loop (fun k a w => ∃ t5,∃ i4,ossuaryref34_Quote_l0 K a0 k t5 i4 = some r ∧ St 49 w0 F [(0,str a0),(3,str t5),(4,I i4)] [] a w) K ?_ ?_
 ·exact ent_fin [] (by decide) rfl (sub_cons (t := 0) rfl (sub_cons (t := 3) rfl (sub_cons (t := 4) rfl (sub_nil _)))) fun a w h => ⟨_,_,H,h⟩
 ·refine fun k => ent_exi fun t5 => ent_exi fun i4 => ent_and fun H4 => ?_
  cases k with
  | zero => exact absurd H4 (by simp [ossuaryref34_Quote_l0])
  | succ k =>
   rw [ossuaryref34_Quote_l0] at H4
   refine ent_seq (ent_seq (ent_region (ent_value (ov_move rfl) rfl rfl rfl (ent_value (ov_move rfl) rfl rfl rfl (ent_value (ov_lenS rfl Tryd.underlying9) rfl rfl rfl (ent_value (ov_bin rfl rfl (b_lss _ _ _)) rfl rfl rfl (ent_nil ?_)))))))
   refine htF H4 (fun c328 H4 => ?_) fun c328 H4 => ?_
   ·refine ent_cond_false rfl (decide_eq_false c328) (ent_exit (ent_seq (ent_region (ent_value (ov_move rfl) rfl rfl rfl (ent_value (ov_assign rfl) rfl rfl rfl (ent_nil (ent_retc ?_)))))))
    cases H4
    refine ent_pick [] (by decide) rfl ?_
    exact ret_tmp rfl rfl ⟨rfl,rfl⟩
   refine ent_cond_true rfl (decide_eq_true c328) (ent_skip (ent_seq (ent_block (ent_seq (ent_region (ent_value (ov_move rfl) rfl rfl rfl (ent_value (ov_move rfl) rfl rfl rfl ?_)))))))
   obtain ⟨c343,H4⟩ := gdT H4
   refine ent_value (ov_indexS rfl rfl Tryd.underlying9 c343 c328) rfl rfl rfl ?_
   obtain ⟨x24,h24,H4⟩ := thn_elim H4
   refine ent_op (ot_call0 (first := []) (cap := []) (xs := [.tmp 15]) rfl rfl F_call_29 rfl (ossuaryref34_plain.spec ((a0.getD i4.toNat 0).toNat : Int) _ h24)) rfl rfl rfl ?_
   rintro _ _ ⟨rfl,rfl⟩
   refine ent_nil ?_
   refine htT H4 (fun c344 H4 => ?_) fun c344 H4 => ?_
   ·refine ent_cond_true rfl c344 (ent_region (ent_value (ov_move rfl) rfl rfl rfl (ent_value (ov_move rfl) rfl rfl rfl (ent_value (ov_move rfl) rfl rfl rfl (ent_value (ov_move rfl) rfl rfl rfl (ent_value (ov_bin rfl rfl (b_add _ _ _) ) rfl rfl rfl ?_))))))
    obtain ⟨c345,H4⟩ := gdT H4
    obtain ⟨c346,H4⟩ := gdT H4
    refine ent_value (ov_sls_lohi rfl rfl rfl Tryd.underlying9 c343 c345 c346) rfl rfl rfl ?_
    obtain ⟨c347,H4⟩ := gdT H4
    refine ent_value (ov_bin rfl rfl fun w => b_add_str _ _ w c347) rfl rfl rfl ?_
    refine ent_value (ov_assign rfl) rfl rfl rfl (ent_nil (ent_region (ent_value (ov_move rfl) rfl rfl rfl (ent_value (ov_bin rfl rfl (b_add _ _ _) ) rfl rfl rfl (ent_value (ov_assign rfl) rfl rfl rfl (ent_nil ?_))))))
    exact ent_fin [] (by decide) rfl (sub_cons (t := 0) rfl (sub_cons (t := 3) rfl (sub_cons (t := 4) rfl (sub_nil _)))) fun a w h => ⟨k,Nat.lt_succ_self k,_,_,H4,h⟩
   refine ent_cond_false rfl (Bool.eq_false_iff.2 c344) ?_
   obtain ⟨c348,H4⟩ := gdT H4
   obtain ⟨c349,H4⟩ := gdT H4
   obtain ⟨c350,H4⟩ := gdT H4
   obtain ⟨c351,H4⟩ := gdT H4
   obtain ⟨c352,H4⟩ := gdT H4
   obtain ⟨c353,H4⟩ := gdT H4
   obtain ⟨c354,H4⟩ := gdT H4
   obtain ⟨c355,H4⟩ := gdT H4
   obtain ⟨c356,H4⟩ := gdT H4
   let Z24_A : (Nat → Bool) → Act → World → Prop := (fun done a w => StD 49 w0 F [(0,str a0),(3,str t5),(4,I i4),(7,I i4),(8,str a0),(9,I (a0.length : Int)),(10,bool (decide (i4 < (a0.length : Int)))),(13,str a0),(14,I i4),(15,int .u8 ((a0.getD i4.toNat 0).toNat : Int)),(16,bool x24)] [(0,24,str t5),(1,25,str (t5 ++ ([37] : List UInt8))),(2,26,str a0),(3,27,I i4),(4,28,int .u8 ((a0.getD i4.toNat 0).toNat : Int)),(5,29,int .u8 (wu8 (Int.tdiv ((a0.getD i4.toNat 0).toNat : Int) 16))),(6,30,str a0),(7,31,I i4),(8,32,int .u8 ((a0.getD i4.toNat 0).toNat : Int)),(9,33,int .u8 (wu8 (Int.tdiv ((a0.getD i4.toNat 0).toNat : Int) 16))),(10,34,int .u8 (wu8 ((wu8 (Int.tdiv ((a0.getD i4.toNat 0).toNat : Int) 16)) + 1))),(11,35,str ((([48,49,50,51,52,53,54,55,56,57,97,98,99,100,101,102] : List UInt8).drop (wu8 (Int.tdiv ((a0.getD i4.toNat 0).toNat : Int) 16)).toNat).take ((wu8 ((wu8 (Int.tdiv ((a0.getD i4.toNat 0).toNat : Int) 16)) + 1)).toNat - (wu8 (Int.tdiv ((a0.getD i4.toNat 0).toNat : Int) 16)).toNat))),(12,36,str ((t5 ++ ([37] : List UInt8)) ++ ((([48,49,50,51,52,53,54,55,56,57,97,98,99,100,101,102] : List UInt8).drop (wu8 (Int.tdiv ((a0.getD i4.toNat 0).toNat : Int) 16)).toNat).take ((wu8 ((wu8 (Int.tdiv ((a0.getD i4.toNat 0).toNat : Int) 16)) + 1)).toNat - (wu8 (Int.tdiv ((a0.getD i4.toNat 0).toNat : Int) 16)).toNat)))),(13,37,str a0),(14,38,I i4),(15,39,int .u8 ((a0.getD i4.toNat 0).toNat : Int)),(16,40,int .u8 (Int.tmod ((a0.getD i4.toNat 0).toNat : Int) 16)),(17,41,str a0),(18,42,I i4),(19,43,int .u8 ((a0.getD i4.toNat 0).toNat : Int)),(20,44,int .u8 (Int.tmod ((a0.getD i4.toNat 0).toNat : Int) 16)),(21,45,int .u8 (wu8 ((Int.tmod ((a0.getD i4.toNat 0).toNat : Int) 16) + 1))),(22,46,str ((([48,49,50,51,52,53,54,55,56,57,97,98,99,100,101,102] : List UInt8).drop (Int.tmod ((a0.getD i4.toNat 0).toNat : Int) 16).toNat).take ((wu8 ((Int.tmod ((a0.getD i4.toNat 0).toNat : Int) 16) + 1)).toNat - (Int.tmod ((a0.getD i4.toNat 0).toNat : Int) 16).toNat))),(23,47,str (((t5 ++ ([37] : List UInt8)) ++ ((([48,49,50,51,52,53,54,55,56,57,97,98,99,100,101,102] : List UInt8).drop (wu8 (Int.tdiv ((a0.getD i4.toNat 0).toNat : Int) 16)).toNat).take ((wu8 ((wu8 (Int.tdiv ((a0.getD i4.toNat 0).toNat : Int) 16)) + 1)).toNat - (wu8 (Int.tdiv ((a0.getD i4.toNat 0).toNat : Int) 16)).toNat))) ++ ((([48,49,50,51,52,53,54,55,56,57,97,98,99,100,101,102] : List UInt8).drop (Int.tmod ((a0.getD i4.toNat 0).toNat : Int) 16).toNat).take ((wu8 ((Int.tmod ((a0.getD i4.toNat 0).toNat : Int) 16) + 1)).toNat - (Int.tmod ((a0.getD i4.toNat 0).toNat : Int) 16).toNat))))] done [] a w)
   let Z24_B : Act → World → Prop := (St 49 w0 F ((3,str (((t5 ++ ([37] : List UInt8)) ++ ((([48,49,50,51,52,53,54,55,56,57,97,98,99,100,101,102] : List UInt8).drop (wu8 (Int.tdiv ((a0.getD i4.toNat 0).toNat : Int) 16)).toNat).take ((wu8 ((wu8 (Int.tdiv ((a0.getD i4.toNat 0).toNat : Int) 16)) + 1)).toNat - (wu8 (Int.tdiv ((a0.getD i4.toNat 0).toNat : Int) 16)).toNat))) ++ ((([48,49,50,51,52,53,54,55,56,57,97,98,99,100,101,102] : List UInt8).drop (Int.tmod ((a0.getD i4.toNat 0).toNat : Int) 16).toNat).take ((wu8 ((Int.tmod ((a0.getD i4.toNat 0).toNat : Int) 16) + 1)).toNat - (Int.tmod ((a0.getD i4.toNat 0).toNat : Int) 16).toNat)))) :: [(0,str a0),(4,I i4),(7,I i4),(8,str a0),(9,I (a0.length : Int)),(10,bool (decide (i4 < (a0.length : Int)))),(13,str a0),(14,I i4),(15,int .u8 ((a0.getD i4.toNat 0).toNat : Int)),(16,bool x24),(24,str t5),(25,str (t5 ++ ([37] : List UInt8))),(26,str a0),(27,I i4),(28,int .u8 ((a0.getD i4.toNat 0).toNat : Int)),(29,int .u8 (wu8 (Int.tdiv ((a0.getD i4.toNat 0).toNat : Int) 16))),(30,str a0),(31,I i4),(32,int .u8 ((a0.getD i4.toNat 0).toNat : Int)),(33,int .u8 (wu8 (Int.tdiv ((a0.getD i4.toNat 0).toNat : Int) 16))),(34,int .u8 (wu8 ((wu8 (Int.tdiv ((a0.getD i4.toNat 0).toNat : Int) 16)) + 1))),(35,str ((([48,49,50,51,52,53,54,55,56,57,97,98,99,100,101,102] : List UInt8).drop (wu8 (Int.tdiv ((a0.getD i4.toNat 0).toNat : Int) 16)).toNat).take ((wu8 ((wu8 (Int.tdiv ((a0.getD i4.toNat 0).toNat : Int) 16)) + 1)).toNat - (wu8 (Int.tdiv ((a0.getD i4.toNat 0).toNat : Int) 16)).toNat))),(36,str ((t5 ++ ([37] : List UInt8)) ++ ((([48,49,50,51,52,53,54,55,56,57,97,98,99,100,101,102] : List UInt8).drop (wu8 (Int.tdiv ((a0.getD i4.toNat 0).toNat : Int) 16)).toNat).take ((wu8 ((wu8 (Int.tdiv ((a0.getD i4.toNat 0).toNat : Int) 16)) + 1)).toNat - (wu8 (Int.tdiv ((a0.getD i4.toNat 0).toNat : Int) 16)).toNat)))),(37,str a0),(38,I i4),(39,int .u8 ((a0.getD i4.toNat 0).toNat : Int)),(40,int .u8 (Int.tmod ((a0.getD i4.toNat 0).toNat : Int) 16)),(41,str a0),(42,I i4),(43,int .u8 ((a0.getD i4.toNat 0).toNat : Int)),(44,int .u8 (Int.tmod ((a0.getD i4.toNat 0).toNat : Int) 16)),(45,int .u8 (wu8 ((Int.tmod ((a0.getD i4.toNat 0).toNat : Int) 16) + 1))),(46,str ((([48,49,50,51,52,53,54,55,56,57,97,98,99,100,101,102] : List UInt8).drop (Int.tmod ((a0.getD i4.toNat 0).toNat : Int) 16).toNat).take ((wu8 ((Int.tmod ((a0.getD i4.toNat 0).toNat : Int) 16) + 1)).toNat - (Int.tmod ((a0.getD i4.toNat 0).toNat : Int) 16).toNat))),(47,str (((t5 ++ ([37] : List UInt8)) ++ ((([48,49,50,51,52,53,54,55,56,57,97,98,99,100,101,102] : List UInt8).drop (wu8 (Int.tdiv ((a0.getD i4.toNat 0).toNat : Int) 16)).toNat).take ((wu8 ((wu8 (Int.tdiv ((a0.getD i4.toNat 0).toNat : Int) 16)) + 1)).toNat - (wu8 (Int.tdiv ((a0.getD i4.toNat 0).toNat : Int) 16)).toNat))) ++ ((([48,49,50,51,52,53,54,55,56,57,97,98,99,100,101,102] : List UInt8).drop (Int.tmod ((a0.getD i4.toNat 0).toNat : Int) 16).toNat).take ((wu8 ((Int.tmod ((a0.getD i4.toNat 0).toNat : Int) 16) + 1)).toNat - (Int.tmod ((a0.getD i4.toNat 0).toNat : Int) 16).toNat))))]) [])
   refine ent_drawm 25 rfl (two 24 Z24_A Z24_B) (by kernel_rfl) (by kernel_rfl) (two_start (draw_startL (sub_cons (t := 0) rfl (sub_cons (t := 3) rfl (sub_cons (t := 4) rfl (sub_cons (t := 7) rfl (sub_cons (t := 8) rfl (sub_cons (t := 9) rfl (sub_cons (t := 10) rfl (sub_cons (t := 13) rfl (sub_cons (t := 14) rfl (sub_cons (t := 15) rfl (sub_cons (t := 16) rfl (sub_nil _)))))))))))) rfl)) ?_ ?_
   ·refine ⟨?_,?_,?_,?_,?_,?_,?_,?_,?_,?_,?_,?_,?_,?_,?_,?_,?_,?_,?_,?_,?_,?_,?_,?_,?_,trivial⟩
    ·intro done hi hc hcu
     have n24 : done 24 = false := notdone_of (m := 24) hc hi rfl rfl
     refine two_step (m := 24) (A := Z24_A) n24 rfl ?_
     exact draw_value (i := 0) (t := 24) (v := (str t5)) rfl rfl (wanted_none rfl) (fun a => hasA_base) (ov_move rfl) rfl rfl (onlyT_spec (k0 := 0) rfl rfl rfl)
    ·intro done hi hc hcu
     have n24 : done 24 = false := notdone_of (m := 24) hc hi rfl rfl
     refine two_step (m := 24) (A := Z24_A) n24 rfl ?_
     have d0 : done 0 = true := done_of (j := 0) hcu rfl (by decide) rfl
     exact draw_value (i := 1) (t := 25) (v := (str (t5 ++ ([37] : List UInt8)))) rfl rfl (wanted_none rfl) (fun a => (hasA_cons (k := 0) rfl d0 hasA_base)) (ov_bin rfl rfl fun w => b_add_str _ _ w c348) rfl rfl (onlyT_spec (k0 := 1) rfl rfl rfl)
    ·intro done hi hc hcu
     have n24 : done 24 = false := notdone_of (m := 24) hc hi rfl rfl
     refine two_step (m := 24) (A := Z24_A) n24 rfl ?_
     exact draw_value (i := 2) (t := 26) (v := (str a0)) rfl rfl (wanted_none rfl) (fun a => hasA_base) (ov_move rfl) rfl rfl (onlyT_spec (k0 := 2) rfl rfl rfl)
    ·intro done hi hc hcu
     have n24 : done 24 = false := notdone_of (m := 24) hc hi rfl rfl
     refine two_step (m := 24) (A := Z24_A) n24 rfl ?_
     exact draw_value (i := 3) (t := 27) (v := (I i4)) rfl rfl (wanted_none rfl) (fun a => hasA_base) (ov_move rfl) rfl rfl (onlyT_spec (k0 := 3) rfl rfl rfl)
    ·intro done hi hc hcu
     have n24 : done 24 = false := notdone_of (m := 24) hc hi rfl rfl
     refine two_step (m := 24) (A := Z24_A) n24 rfl ?_
     have d2 : done 2 = true := done_of (j := 2) hcu rfl (by decide) rfl
     have d3 : done 3 = true := done_of (j := 3) hcu rfl (by decide) rfl
     exact draw_value (i := 4) (t := 28) (v := (int .u8 ((a0.getD i4.toNat 0).toNat : Int))) rfl rfl (wanted_none rfl) (fun a => (hasA_cons (k := 3) rfl d3 (hasA_cons (k := 2) rfl d2 hasA_base))) (ov_indexS rfl rfl Tryd.underlying9 c343 c328) rfl rfl (onlyT_spec (k0 := 4) rfl rfl rfl)
    ·intro done hi hc hcu
     have n24 : done 24 = false := notdone_of (m := 24) hc hi rfl rfl
     refine two_step (m := 24) (A := Z24_A) n24 rfl ?_
     have d4 : done 4 = true := done_of (j := 4) hcu rfl (by decide) rfl
     exact draw_value (i := 5) (t := 29) (v := (int .u8 (wu8 (Int.tdiv ((a0.getD i4.toNat 0).toNat : Int) 16)))) rfl rfl (wanted_none rfl) (fun a => (hasA_cons (k := 4) rfl d4 hasA_base)) (ov_bin rfl rfl fun w => b_quo _ _ _ w (by decide)) rfl rfl (onlyT_spec (k0 := 5) rfl rfl rfl)
    ·intro done hi hc hcu
     have n24 : done 24 = false := notdone_of (m := 24) hc hi rfl rfl
     refine two_step (m := 24) (A := Z24_A) n24 rfl ?_
     exact draw_value (i := 6) (t := 30) (v := (str a0)) rfl rfl (wanted_none rfl) (fun a => hasA_base) (ov_move rfl) rfl rfl (onlyT_spec (k0 := 6) rfl rfl rfl)
    ·intro done hi hc hcu
     have n24 : done 24 = false := notdone_of (m := 24) hc hi rfl rfl
     refine two_step (m := 24) (A := Z24_A) n24 rfl ?_
     exact draw_value (i := 7) (t := 31) (v := (I i4)) rfl rfl (wanted_none rfl) (fun a => hasA_base) (ov_move rfl) rfl rfl (onlyT_spec (k0 := 7) rfl rfl rfl)
    ·intro done hi hc hcu
     have n24 : done 24 = false := notdone_of (m := 24) hc hi rfl rfl
     refine two_step (m := 24) (A := Z24_A) n24 rfl ?_
     have d6 : done 6 = true := done_of (j := 6) hcu rfl (by decide) rfl
     have d7 : done 7 = true := done_of (j := 7) hcu rfl (by decide) rfl
     exact draw_value (i := 8) (t := 32) (v := (int .u8 ((a0.getD i4.toNat 0).toNat : Int))) rfl rfl (wanted_none rfl) (fun a => (hasA_cons (k := 7) rfl d7 (hasA_cons (k := 6) rfl d6 hasA_base))) (ov_indexS rfl rfl Tryd.underlying9 c343 c328) rfl rfl (onlyT_spec (k0 := 8) rfl rfl rfl)
    ·intro done hi hc hcu
     have n24 : done 24 = false := notdone_of (m := 24) hc hi rfl rfl
     refine two_step (m := 24) (A := Z24_A) n24 rfl ?_
     have d8 : done 8 = true := done_of (j := 8) hcu rfl (by decide) rfl
     exact draw_value (i := 9) (t := 33) (v := (int .u8 (wu8 (Int.tdiv ((a0.getD i4.toNat 0).toNat : Int) 16)))) rfl rfl (wanted_none rfl) (fun a => (hasA_cons (k := 8) rfl d8 hasA_base)) (ov_bin rfl rfl fun w => b_quo _ _ _ w (by decide)) rfl rfl (onlyT_spec (k0 := 9) rfl rfl rfl)
    ·intro done hi hc hcu
     have n24 : done 24 = false := notdone_of (m := 24) hc hi rfl rfl
     refine two_step (m := 24) (A := Z24_A) n24 rfl ?_
     have d9 : done 9 = true := done_of (j := 9) hcu rfl (by decide) rfl
     exact draw_value (i := 10) (t := 34) (v := (int .u8 (wu8 ((wu8 (Int.tdiv ((a0.getD i4.toNat 0).toNat : Int) 16)) + 1)))) rfl rfl (wanted_none rfl) (fun a => (hasA_cons (k := 9) rfl d9 hasA_base)) (ov_bin rfl rfl (b_add _ _ _) ) rfl rfl (onlyT_spec (k0 := 10) rfl rfl rfl)
    ·intro done hi hc hcu
     have n24 : done 24 = false := notdone_of (m := 24) hc hi rfl rfl
     refine two_step (m := 24) (A := Z24_A) n24 rfl ?_
     have d5 : done 5 = true := done_of (j := 5) hcu rfl (by decide) rfl
     have d10 : done 10 = true := done_of (j := 10) hcu rfl (by decide) rfl
     exact draw_value (i := 11) (t := 35) (v := (str ((([48,49,50,51,52,53,54,55,56,57,97,98,99,100,101,102] : List UInt8).drop (wu8 (Int.tdiv ((a0.getD i4.toNat 0).toNat : Int) 16)).toNat).take ((wu8 ((wu8 (Int.tdiv ((a0.getD i4.toNat 0).toNat : Int) 16)) + 1)).toNat - (wu8 (Int.tdiv ((a0.getD i4.toNat 0).toNat : Int) 16)).toNat)))) rfl rfl (wanted_none rfl) (fun a => (hasA_cons (k := 10) rfl d10 (hasA_cons (k := 5) rfl d5 hasA_base))) (ov_sls_lohi rfl rfl rfl Tryd.underlying9 c349 c350 c351) rfl rfl (onlyT_spec (k0 := 11) rfl rfl rfl)
    ·intro done hi hc hcu
     have n24 : done 24 = false := notdone_of (m := 24) hc hi rfl rfl
     refine two_step (m := 24) (A := Z24_A) n24 rfl ?_
     have d1 : done 1 = true := done_of (j := 1) hcu rfl (by decide) rfl
     have d11 : done 11 = true := done_of (j := 11) hcu rfl (by decide) rfl
     exact draw_value (i := 12) (t := 36) (v := (str ((t5 ++ ([37] : List UInt8)) ++ ((([48,49,50,51,52,53,54,55,56,57,97,98,99,100,101,102] : List UInt8).drop (wu8 (Int.tdiv ((a0.getD i4.toNat 0).toNat : Int) 16)).toNat).take ((wu8 ((wu8 (Int.tdiv ((a0.getD i4.toNat 0).toNat : Int) 16)) + 1)).toNat - (wu8 (Int.tdiv ((a0.getD i4.toNat 0).toNat : Int) 16)).toNat))))) rfl rfl (wanted_none rfl) (fun a => (hasA_cons (k := 11) rfl d11 (hasA_cons (k := 1) rfl d1 hasA_base))) (ov_bin rfl rfl fun w => b_add_str _ _ w c352) rfl rfl (onlyT_spec (k0 := 12) rfl rfl rfl)
    ·intro done hi hc hcu
     have n24 : done 24 = false := notdone_of (m := 24) hc hi rfl rfl
     refine two_step (m := 24) (A := Z24_A) n24 rfl ?_
     exact draw_value (i := 13) (t := 37) (v := (str a0)) rfl rfl (wanted_none rfl) (fun a => hasA_base) (ov_move rfl) rfl rfl (onlyT_spec (k0 := 13) rfl rfl rfl)
    ·intro done hi hc hcu
     have n24 : done 24 = false := notdone_of (m := 24) hc hi rfl rfl
     refine two_step (m := 24) (A := Z24_A) n24 rfl ?_
     exact draw_value (i := 14) (t := 38) (v := (I i4)) rfl rfl (wanted_none rfl) (fun a => hasA_base) (ov_move rfl) rfl rfl (onlyT_spec (k0 := 14) rfl rfl rfl)
    ·intro done hi hc hcu
     have n24 : done 24 = false := notdone_of (m := 24) hc hi rfl rfl
     refine two_step (m := 24) (A := Z24_A) n24 rfl ?_
     have d13 : done 13 = true := done_of (j := 13) hcu rfl (by decide) rfl
     have d14 : done 14 = true := done_of (j := 14) hcu rfl (by decide) rfl
     exact draw_value (i := 15) (t := 39) (v := (int .u8 ((a0.getD i4.toNat 0).toNat : Int))) rfl rfl (wanted_none rfl) (fun a => (hasA_cons (k := 14) rfl d14 (hasA_cons (k := 13) rfl d13 hasA_base))) (ov_indexS rfl rfl Tryd.underlying9 c343 c328) rfl rfl (onlyT_spec (k0 := 15) rfl rfl rfl)
    ·intro done hi hc hcu
     have n24 : done 24 = false := notdone_of (m := 24) hc hi rfl rfl
     refine two_step (m := 24) (A := Z24_A) n24 rfl ?_
     have d15 : done 15 = true := done_of (j := 15) hcu rfl (by decide) rfl
     exact draw_value (i := 16) (t := 40) (v := (int .u8 (Int.tmod ((a0.getD i4.toNat 0).toNat : Int) 16))) rfl rfl (wanted_none rfl) (fun a => (hasA_cons (k := 15) rfl d15 hasA_base)) (ov_bin rfl rfl fun w => b_rem _ _ _ w (by decide)) rfl rfl (onlyT_spec (k0 := 16) rfl rfl rfl)
    ·intro done hi hc hcu
     have n24 : done 24 = false := notdone_of (m := 24) hc hi rfl rfl
     refine two_step (m := 24) (A := Z24_A) n24 rfl ?_
     exact draw_value (i := 17) (t := 41) (v := (str a0)) rfl rfl (wanted_none rfl) (fun a => hasA_base) (ov_move rfl) rfl rfl (onlyT_spec (k0 := 17) rfl rfl rfl)
    ·intro done hi hc hcu
     have n24 : done 24 = false := notdone_of (m := 24) hc hi rfl rfl
     refine two_step (m := 24) (A := Z24_A) n24 rfl ?_
     exact draw_value (i := 18) (t := 42) (v := (I i4)) rfl rfl (wanted_none rfl) (fun a => hasA_base) (ov_move rfl) rfl rfl (onlyT_spec (k0 := 18) rfl rfl rfl)
    ·intro done hi hc hcu
     have n24 : done 24 = false := notdone_of (m := 24) hc hi rfl rfl
     refine two_step (m := 24) (A := Z24_A) n24 rfl ?_
     have d17 : done 17 = true := done_of (j := 17) hcu rfl (by decide) rfl
     have d18 : done 18 = true := done_of (j := 18) hcu rfl (by decide) rfl
     exact draw_value (i := 19) (t := 43) (v := (int .u8 ((a0.getD i4.toNat 0).toNat : Int))) rfl rfl (wanted_none rfl) (fun a => (hasA_cons (k := 18) rfl d18 (hasA_cons (k := 17) rfl d17 hasA_base))) (ov_indexS rfl rfl Tryd.underlying9 c343 c328) rfl rfl (onlyT_spec (k0 := 19) rfl rfl rfl)
    ·intro done hi hc hcu
     have n24 : done 24 = false := notdone_of (m := 24) hc hi rfl rfl
     refine two_step (m := 24) (A := Z24_A) n24 rfl ?_
     have d19 : done 19 = true := done_of (j := 19) hcu rfl (by decide) rfl
     exact draw_value (i := 20) (t := 44) (v := (int .u8 (Int.tmod ((a0.getD i4.toNat 0).toNat : Int) 16))) rfl rfl (wanted_none rfl) (fun a => (hasA_cons (k := 19) rfl d19 hasA_base)) (ov_bin rfl rfl fun w => b_rem _ _ _ w (by decide)) rfl rfl (onlyT_spec (k0 := 20) rfl rfl rfl)
    ·intro done hi hc hcu
     have n24 : done 24 = false := notdone_of (m := 24) hc hi rfl rfl
     refine two_step (m := 24) (A := Z24_A) n24 rfl ?_
     have d20 : done 20 = true := done_of (j := 20) hcu rfl (by decide) rfl
     exact draw_value (i := 21) (t := 45) (v := (int .u8 (wu8 ((Int.tmod ((a0.getD i4.toNat 0).toNat : Int) 16) + 1)))) rfl rfl (wanted_none rfl) (fun a => (hasA_cons (k := 20) rfl d20 hasA_base)) (ov_bin rfl rfl (b_add _ _ _) ) rfl rfl (onlyT_spec (k0 := 21) rfl rfl rfl)
    ·intro done hi hc hcu
     have n24 : done 24 = false := notdone_of (m := 24) hc hi rfl rfl
     refine two_step (m := 24) (A := Z24_A) n24 rfl ?_
     have d16 : done 16 = true := done_of (j := 16) hcu rfl (by decide) rfl
     have d21 : done 21 = true := done_of (j := 21) hcu rfl (by decide) rfl
     exact draw_value (i := 22) (t := 46) (v := (str ((([48,49,50,51,52,53,54,55,56,57,97,98,99,100,101,102] : List UInt8).drop (Int.tmod ((a0.getD i4.toNat 0).toNat : Int) 16).toNat).take ((wu8 ((Int.tmod ((a0.getD i4.toNat 0).toNat : Int) 16) + 1)).toNat - (Int.tmod ((a0.getD i4.toNat 0).toNat : Int) 16).toNat)))) rfl rfl (wanted_none rfl) (fun a => (hasA_cons (k := 21) rfl d21 (hasA_cons (k := 16) rfl d16 hasA_base))) (ov_sls_lohi rfl rfl rfl Tryd.underlying9 c353 c354 c355) rfl rfl (onlyT_spec (k0 := 22) rfl rfl rfl)
    ·intro done hi hc hcu
     have n24 : done 24 = false := notdone_of (m := 24) hc hi rfl rfl
     refine two_step (m := 24) (A := Z24_A) n24 rfl ?_
     have d12 : done 12 = true := done_of (j := 12) hcu rfl (by decide) rfl
     have d22 : done 22 = true := done_of (j := 22) hcu rfl (by decide) rfl
     exact draw_value (i := 23) (t := 47) (v := (str (((t5 ++ ([37] : List UInt8)) ++ ((([48,49,50,51,52,53,54,55,56,57,97,98,99,100,101,102] : List UInt8).drop (wu8 (Int.tdiv ((a0.getD i4.toNat 0).toNat : Int) 16)).toNat).take ((wu8 ((wu8 (Int.tdiv ((a0.getD i4.toNat 0).toNat : Int) 16)) + 1)).toNat - (wu8 (Int.tdiv ((a0.getD i4.toNat 0).toNat : Int) 16)).toNat))) ++ ((([48,49,50,51,52,53,54,55,56,57,97,98,99,100,101,102] : List UInt8).drop (Int.tmod ((a0.getD i4.toNat 0).toNat : Int) 16).toNat).take ((wu8 ((Int.tmod ((a0.getD i4.toNat 0).toNat : Int) 16) + 1)).toNat - (Int.tmod ((a0.getD i4.toNat 0).toNat : Int) 16).toNat))))) rfl rfl (wanted_none rfl) (fun a => (hasA_cons (k := 22) rfl d22 (hasA_cons (k := 12) rfl d12 hasA_base))) (ov_bin rfl rfl fun w => b_add_str _ _ w c356) rfl rfl (onlyT_spec (k0 := 23) rfl rfl rfl)
    ·intro done hi hc hcu
     refine two_last (m := 24) (A := Z24_A) (B := Z24_B) hi ?_
     have d0 : done 0 = true := done_of (j := 0) hcu rfl (by decide) rfl
     have d1 : done 1 = true := done_of (j := 1) hcu rfl (by decide) rfl
     have d2 : done 2 = true := done_of (j := 2) hcu rfl (by decide) rfl
     have d3 : done 3 = true := done_of (j := 3) hcu rfl (by decide) rfl
     have d4 : done 4 = true := done_of (j := 4) hcu rfl (by decide) rfl
     have d5 : done 5 = true := done_of (j := 5) hcu rfl (by decide) rfl
     have d6 : done 6 = true := done_of (j := 6) hcu rfl (by decide) rfl
     have d7 : done 7 = true := done_of (j := 7) hcu rfl (by decide) rfl
     have d8 : done 8 = true := done_of (j := 8) hcu rfl (by decide) rfl
     have d9 : done 9 = true := done_of (j := 9) hcu rfl (by decide) rfl
     have d10 : done 10 = true := done_of (j := 10) hcu rfl (by decide) rfl
     have d11 : done 11 = true := done_of (j := 11) hcu rfl (by decide) rfl
     have d12 : done 12 = true := done_of (j := 12) hcu rfl (by decide) rfl
     have d13 : done 13 = true := done_of (j := 13) hcu rfl (by decide) rfl
     have d14 : done 14 = true := done_of (j := 14) hcu rfl (by decide) rfl
     have d15 : done 15 = true := done_of (j := 15) hcu rfl (by decide) rfl
     have d16 : done 16 = true := done_of (j := 16) hcu rfl (by decide) rfl
     have d17 : done 17 = true := done_of (j := 17) hcu rfl (by decide) rfl
     have d18 : done 18 = true := done_of (j := 18) hcu rfl (by decide) rfl
     have d19 : done 19 = true := done_of (j := 19) hcu rfl (by decide) rfl
     have d20 : done 20 = true := done_of (j := 20) hcu rfl (by decide) rfl
     have d21 : done 21 = true := done_of (j := 21) hcu rfl (by decide) rfl
     have d22 : done 22 = true := done_of (j := 22) hcu rfl (by decide) rfl
     have d23 : done 23 = true := done_of (j := 23) hcu rfl (by decide) rfl
     exact last_value (i := 24) (t := 3) (v := (str (((t5 ++ ([37] : List UInt8)) ++ ((([48,49,50,51,52,53,54,55,56,57,97,98,99,100,101,102] : List UInt8).drop (wu8 (Int.tdiv ((a0.getD i4.toNat 0).toNat : Int) 16)).toNat).take ((wu8 ((wu8 (Int.tdiv ((a0.getD i4.toNat 0).toNat : Int) 16)) + 1)).toNat - (wu8 (Int.tdiv ((a0.getD i4.toNat 0).toNat : Int) 16)).toNat))) ++ ((([48,49,50,51,52,53,54,55,56,57,97,98,99,100,101,102] : List UInt8).drop (Int.tmod ((a0.getD i4.toNat 0).toNat : Int) 16).toNat).take ((wu8 ((Int.tmod ((a0.getD i4.toNat 0).toNat : Int) 16) + 1)).toNat - (Int.tmod ((a0.getD i4.toNat 0).toNat : Int) 16).toNat))))) (L2 := []) rfl rfl (wanted_none rfl) rfl (fun a => (hasA_cons (k := 23) rfl d23 hasA_base)) (fun a h_ => (Has.sub (ρ := [(24,str t5),(25,str (t5 ++ ([37] : List UInt8))),(26,str a0),(27,I i4),(28,int .u8 ((a0.getD i4.toNat 0).toNat : Int)),(29,int .u8 (wu8 (Int.tdiv ((a0.getD i4.toNat 0).toNat : Int) 16))),(30,str a0),(31,I i4),(32,int .u8 ((a0.getD i4.toNat 0).toNat : Int)),(33,int .u8 (wu8 (Int.tdiv ((a0.getD i4.toNat 0).toNat : Int) 16))),(34,int .u8 (wu8 ((wu8 (Int.tdiv ((a0.getD i4.toNat 0).toNat : Int) 16)) + 1))),(35,str ((([48,49,50,51,52,53,54,55,56,57,97,98,99,100,101,102] : List UInt8).drop (wu8 (Int.tdiv ((a0.getD i4.toNat 0).toNat : Int) 16)).toNat).take ((wu8 ((wu8 (Int.tdiv ((a0.getD i4.toNat 0).toNat : Int) 16)) + 1)).toNat - (wu8 (Int.tdiv ((a0.getD i4.toNat 0).toNat : Int) 16)).toNat))),(36,str ((t5 ++ ([37] : List UInt8)) ++ ((([48,49,50,51,52,53,54,55,56,57,97,98,99,100,101,102] : List UInt8).drop (wu8 (Int.tdiv ((a0.getD i4.toNat 0).toNat : Int) 16)).toNat).take ((wu8 ((wu8 (Int.tdiv ((a0.getD i4.toNat 0).toNat : Int) 16)) + 1)).toNat - (wu8 (Int.tdiv ((a0.getD i4.toNat 0).toNat : Int) 16)).toNat)))),(37,str a0),(38,I i4),(39,int .u8 ((a0.getD i4.toNat 0).toNat : Int)),(40,int .u8 (Int.tmod ((a0.getD i4.toNat 0).toNat : Int) 16)),(41,str a0),(42,I i4),(43,int .u8 ((a0.getD i4.toNat 0).toNat : Int)),(44,int .u8 (Int.tmod ((a0.getD i4.toNat 0).toNat : Int) 16)),(45,int .u8 (wu8 ((Int.tmod ((a0.getD i4.toNat 0).toNat : Int) 16) + 1))),(46,str ((([48,49,50,51,52,53,54,55,56,57,97,98,99,100,101,102] : List UInt8).drop (Int.tmod ((a0.getD i4.toNat 0).toNat : Int) 16).toNat).take ((wu8 ((Int.tmod ((a0.getD i4.toNat 0).toNat : Int) 16) + 1)).toNat - (Int.tmod ((a0.getD i4.toNat 0).toNat : Int) 16).toNat))),(47,str (((t5 ++ ([37] : List UInt8)) ++ ((([48,49,50,51,52,53,54,55,56,57,97,98,99,100,101,102] : List UInt8).drop (wu8 (Int.tdiv ((a0.getD i4.toNat 0).toNat : Int) 16)).toNat).take ((wu8 ((wu8 (Int.tdiv ((a0.getD i4.toNat 0).toNat : Int) 16)) + 1)).toNat - (wu8 (Int.tdiv ((a0.getD i4.toNat 0).toNat : Int) 16)).toNat))) ++ ((([48,49,50,51,52,53,54,55,56,57,97,98,99,100,101,102] : List UInt8).drop (Int.tmod ((a0.getD i4.toNat 0).toNat : Int) 16).toNat).take ((wu8 ((Int.tmod ((a0.getD i4.toNat 0).toNat : Int) 16) + 1)).toNat - (Int.tmod ((a0.getD i4.toNat 0).toNat : Int) 16).toNat))))] ++ [(0,str a0),(3,str t5),(4,I i4),(7,I i4),(8,str a0),(9,I (a0.length : Int)),(10,bool (decide (i4 < (a0.length : Int)))),(13,str a0),(14,I i4),(15,int .u8 ((a0.getD i4.toNat 0).toNat : Int)),(16,bool x24)]) (((hasA_cons (k := 0) rfl d0 (hasA_cons (k := 1) rfl d1 (hasA_cons (k := 2) rfl d2 (hasA_cons (k := 3) rfl d3 (hasA_cons (k := 4) rfl d4 (hasA_cons (k := 5) rfl d5 (hasA_cons (k := 6) rfl d6 (hasA_cons (k := 7) rfl d7 (hasA_cons (k := 8) rfl d8 (hasA_cons (k := 9) rfl d9 (hasA_cons (k := 10) rfl d10 (hasA_cons (k := 11) rfl d11 (hasA_cons (k := 12) rfl d12 (hasA_cons (k := 13) rfl d13 (hasA_cons (k := 14) rfl d14 (hasA_cons (k := 15) rfl d15 (hasA_cons (k := 16) rfl d16 (hasA_cons (k := 17) rfl d17 (hasA_cons (k := 18) rfl d18 (hasA_cons (k := 19) rfl d19 (hasA_cons (k := 20) rfl d20 (hasA_cons (k := 21) rfl d21 (hasA_cons (k := 22) rfl d22 (hasA_cons (k := 23) rfl d23 hasA_base)))))))))))))))))))))))) : HasA a _ _ _ → Has a ([(24,str t5),(25,str (t5 ++ ([37] : List UInt8))),(26,str a0),(27,I i4),(28,int .u8 ((a0.getD i4.toNat 0).toNat : Int)),(29,int .u8 (wu8 (Int.tdiv ((a0.getD i4.toNat 0).toNat : Int) 16))),(30,str a0),(31,I i4),(32,int .u8 ((a0.getD i4.toNat 0).toNat : Int)),(33,int .u8 (wu8 (Int.tdiv ((a0.getD i4.toNat 0).toNat : Int) 16))),(34,int .u8 (wu8 ((wu8 (Int.tdiv ((a0.getD i4.toNat 0).toNat : Int) 16)) + 1))),(35,str ((([48,49,50,51,52,53,54,55,56,57,97,98,99,100,101,102] : List UInt8).drop (wu8 (Int.tdiv ((a0.getD i4.toNat 0).toNat : Int) 16)).toNat).take ((wu8 ((wu8 (Int.tdiv ((a0.getD i4.toNat 0).toNat : Int) 16)) + 1)).toNat - (wu8 (Int.tdiv ((a0.getD i4.toNat 0).toNat : Int) 16)).toNat))),(36,str ((t5 ++ ([37] : List UInt8)) ++ ((([48,49,50,51,52,53,54,55,56,57,97,98,99,100,101,102] : List UInt8).drop (wu8 (Int.tdiv ((a0.getD i4.toNat 0).toNat : Int) 16)).toNat).take ((wu8 ((wu8 (Int.tdiv ((a0.getD i4.toNat 0).toNat : Int) 16)) + 1)).toNat - (wu8 (Int.tdiv ((a0.getD i4.toNat 0).toNat : Int) 16)).toNat)))),(37,str a0),(38,I i4),(39,int .u8 ((a0.getD i4.toNat 0).toNat : Int)),(40,int .u8 (Int.tmod ((a0.getD i4.toNat 0).toNat : Int) 16)),(41,str a0),(42,I i4),(43,int .u8 ((a0.getD i4.toNat 0).toNat : Int)),(44,int .u8 (Int.tmod ((a0.getD i4.toNat 0).toNat : Int) 16)),(45,int .u8 (wu8 ((Int.tmod ((a0.getD i4.toNat 0).toNat : Int) 16) + 1))),(46,str ((([48,49,50,51,52,53,54,55,56,57,97,98,99,100,101,102] : List UInt8).drop (Int.tmod ((a0.getD i4.toNat 0).toNat : Int) 16).toNat).take ((wu8 ((Int.tmod ((a0.getD i4.toNat 0).toNat : Int) 16) + 1)).toNat - (Int.tmod ((a0.getD i4.toNat 0).toNat : Int) 16).toNat))),(47,str (((t5 ++ ([37] : List UInt8)) ++ ((([48,49,50,51,52,53,54,55,56,57,97,98,99,100,101,102] : List UInt8).drop (wu8 (Int.tdiv ((a0.getD i4.toNat 0).toNat : Int) 16)).toNat).take ((wu8 ((wu8 (Int.tdiv ((a0.getD i4.toNat 0).toNat : Int) 16)) + 1)).toNat - (wu8 (Int.tdiv ((a0.getD i4.toNat 0).toNat : Int) 16)).toNat))) ++ ((([48,49,50,51,52,53,54,55,56,57,97,98,99,100,101,102] : List UInt8).drop (Int.tmod ((a0.getD i4.toNat 0).toNat : Int) 16).toNat).take ((wu8 ((Int.tmod ((a0.getD i4.toNat 0).toNat : Int) 16) + 1)).toNat - (Int.tmod ((a0.getD i4.toNat 0).toNat : Int) 16).toNat))))] ++ [(0,str a0),(3,str t5),(4,I i4),(7,I i4),(8,str a0),(9,I (a0.length : Int)),(10,bool (decide (i4 < (a0.length : Int)))),(13,str a0),(14,I i4),(15,int .u8 ((a0.getD i4.toNat 0).toNat : Int)),(16,bool x24)])) h_) (sub_cons (t := 0) rfl (sub_cons (t := 4) rfl (sub_cons (t := 7) rfl (sub_cons (t := 8) rfl (sub_cons (t := 9) rfl (sub_cons (t := 10) rfl (sub_cons (t := 13) rfl (sub_cons (t := 14) rfl (sub_cons (t := 15) rfl (sub_cons (t := 16) rfl (sub_cons (t := 24) rfl (sub_cons (t := 25) rfl (sub_cons (t := 26) rfl (sub_cons (t := 27) rfl (sub_cons (t := 28) rfl (sub_cons (t := 29) rfl (sub_cons (t := 30) rfl (sub_cons (t := 31) rfl (sub_cons (t := 32) rfl (sub_cons (t := 33) rfl (sub_cons (t := 34) rfl (sub_cons (t := 35) rfl (sub_cons (t := 36) rfl (sub_cons (t := 37) rfl (sub_cons (t := 38) rfl (sub_cons (t := 39) rfl (sub_cons (t := 40) rfl (sub_cons (t := 41) rfl (sub_cons (t := 42) rfl (sub_cons (t := 43) rfl (sub_cons (t := 44) rfl (sub_cons (t := 45) rfl (sub_cons (t := 46) rfl (sub_cons (t := 47) rfl (sub_nil _))))))))))))))))))))))))))))))))))))) (ov_assign rfl) rfl
   ·intro done hall
    refine two_end (A := Z24_A) (B := Z24_B) (hall 24 (by decide)) ?_
    refine ent_region (ent_value (ov_move rfl) rfl rfl rfl (ent_value (ov_bin rfl rfl (b_add _ _ _) ) rfl rfl rfl (ent_value (ov_assign rfl) rfl rfl rfl (ent_nil ?_))))
    exact ent_fin [] (by decide) rfl (sub_cons (t := 0) rfl (sub_cons (t := 3) rfl (sub_cons (t := 4) rfl (sub_nil _)))) fun a w h => ⟨k,Nat.lt_succ_self k,_,_,H4,h⟩

theorem ossuaryref34_Bare.spec (K : Nat) (a0 : List UInt8) (r : ((List UInt8) × Bool)) (H : ossuaryref34_Bare K a0 = some r) : FnSpec Tryd.prog 10 [str a0] [] (fun v M => v = (tU #[str r.1,bool r.2]) ∧ M = []) := by
 unfold ossuaryref34_Bare at H
 refine spec_of Tryd.func10 rfl 57 rfl (Nat.le_of_ble_eq_true rfl) fun F w0 => ?_
 show Ent (St 57 w0 F [(0,str a0)] []) _
 refine ent_seq (ent_region (ent_value (ov_assign rfl) rfl rfl rfl (ent_value (ov_assign rfl) rfl rfl rfl (ent_nil (ent_seq (ent_region (ent_value (ov_assign rfl) rfl rfl rfl (ent_nil ?_))))))))
 obtain ⟨x42,H5,H⟩ := Option.bind_eq_some_iff.1 H
 refine ent_seq_cut (fun a w => ∃ sv96 : Value,St 57 w0 F [(0,str a0),(4,sv96)] [own sv96 5 1 x42.length (fl (eI .u8) x42)] a w) ?_ ?_
 ·refine ent_seq (ent_region (ent_value (ov_move rfl) rfl rfl rfl (ent_value (ov_bin rfl rfl (b_neq_str _ _)) rfl rfl rfl (ent_nil ?_))))
  refine htF H5 (fun c169 H5 => ?_) fun c169 H5 => ?_
  ·refine ent_cond_false rfl (nb_f c169) (ent_skip ?_)
   cases H5
   refine ent_ownnil 5 1 ?_
   exact ent_fin [0] (by decide) rfl (sub_cons (t := 0) rfl (sub_cons (t := 4) rfl (sub_nil _))) fun a w h => ⟨_,h⟩
  refine ent_cond_true rfl (nb_t c169) (ent_seq (ent_region (ent_value (ov_assign rfl) rfl rfl rfl (ent_nil (ent_block ?_)))))
  refine ent_loop (fun k a w => ∃ i4,∃ l6,∃ sv107 : Value,ossuaryref34_Bare_l0 K a0 k i4 l6 = some x42 ∧ St 57 w0 F [(0,str a0),(4,sv107),(5,I i4)] [own sv107 5 1 l6.length (fl (eI .u8) l6)] a w) K ?_ ?_
  ·refine ent_ownnil 5 1 ?_
   exact ent_fin [0] (by decide) rfl (sub_cons (t := 0) rfl (sub_cons (t := 4) rfl (sub_cons (t := 5) rfl (sub_nil _)))) fun a w h => ⟨_,_,_,H5,h⟩
  ·refine fun k => ent_exi fun i4 => ent_exi fun l6 => ent_exi fun sv107 => ent_and fun H6 => ?_
   cases k with
   | zero => exact absurd H6 (by simp [ossuaryref34_Bare_l0])
   | succ k =>
    rw [ossuaryref34_Bare_l0] at H6
    refine ent_seq (ent_seq (ent_region (ent_value (ov_move rfl) rfl rfl rfl (ent_value (ov_move rfl) rfl rfl rfl (ent_value (ov_lenS rfl Tryd.underlying9) rfl rfl rfl (ent_value (ov_bin rfl rfl (b_lss _ _ _)) rfl rfl rfl (ent_nil ?_)))))))
    refine htF H6 (fun c205 H6 => ?_) fun c205 H6 => ?_
    ·refine ent_cond_false rfl (decide_eq_false c205) (ent_exit ?_)
     cases H6
     exact ent_fin [0] (by decide) rfl (sub_cons (t := 0) rfl (sub_cons (t := 4) rfl (sub_nil _))) fun a w h => ⟨_,h⟩
    refine ent_cond_true rfl (decide_eq_true c205) (ent_skip (ent_seq (ent_block (ent_seq (ent_region (ent_value (ov_move rfl) rfl rfl rfl (ent_value (ov_move rfl) rfl rfl rfl ?_)))))))
    obtain ⟨c215,H6⟩ := gdT H6
    refine ent_value (ov_indexS rfl rfl Tryd.underlying9 c215 c205) rfl rfl rfl (ent_value (ov_bin rfl rfl (b_eql _ _ _)) rfl rfl rfl (ent_value (ov_move rfl) rfl rfl rfl ?_))
    refine htF H6 (fun c216 H6 => ?_) fun c216 H6 => ?_
    ·refine ent_off rfl rfl rfl (eq_f c216) rfl rfl ?_
     refine ent_off rfl rfl rfl (eq_f c216) rfl rfl ?_
     refine ent_off rfl rfl rfl (eq_f c216) rfl rfl ?_
     refine ent_off rfl rfl rfl (eq_f c216) rfl rfl ?_
     refine ent_off rfl rfl rfl (eq_f c216) rfl rfl ?_
     refine ent_value (ov_pick rfl rfl rfl (pick_f (eq_f c216))) rfl rfl rfl (ent_nil (ent_cond_false rfl rfl (ent_region (ent_value (ov_move rfl) rfl rfl rfl (ent_value (ov_move rfl) rfl rfl rfl (ent_value (ov_move rfl) rfl rfl rfl (ent_value (ov_indexS rfl rfl Tryd.underlying9 c215 c205) rfl rfl rfl ?_)))))))
     refine ent_op (ot_buildSlice (sz := 0) (xs := [.tmp 47]) (cs := fl (eI .u8) [((a0.getD i4.toNat 0).toNat : Int)]) rfl rfl F_slice_56 F_size_5 F_zero_5 rfl rfl (all_size rfl) rfl (by decide)) rfl rfl rfl ?_
     rintro sv126 _ rfl
     obtain ⟨c223,H6⟩ := gdT H6
     refine ent_op (ot_appendx (sz := 0) (xs := l6) (ys := [((a0.getD i4.toNat 0).toNat : Int)]) 1 0 rfl rfl F_slice_56 F_size_5 F_zero_5 rfl F_bytes_5 rfl rfl rfl (isRd_ownx 5) rfl (eI_one _) c223) rfl rfl rfl ?_
     rintro sv127 _ rfl
     refine ent_L [own sv126 5 1 [((a0.getD i4.toNat 0).toNat : Int)].length (fl (eI .u8) [((a0.getD i4.toNat 0).toNat : Int)]),own sv127 5 1 (l6 ++ [((a0.getD i4.toNat 0).toNat : Int)]).length (fl (eI .u8) (l6 ++ [((a0.getD i4.toNat 0).toNat : Int)]))] rfl ?_
     refine ent_value (ov_assign rfl) rfl rfl rfl (ent_nil (ent_region (ent_value (ov_move rfl) rfl rfl rfl (ent_value (ov_bin rfl rfl (b_add _ _ _) ) rfl rfl rfl (ent_value (ov_assign rfl) rfl rfl rfl (ent_nil ?_))))))
     exact ent_fin [1] (by decide) rfl (sub_cons (t := 0) rfl (sub_cons (t := 4) rfl (sub_cons (t := 5) rfl (sub_nil _)))) fun a w h => ⟨k,Nat.lt_succ_self k,_,_,_,H6,h⟩
    refine ent_value_on (ov_move rfl) rfl rfl rfl (eq_t c216) rfl rfl ?_
    refine ent_value_on (ov_bin rfl rfl (b_add _ _ _) ) rfl rfl rfl (eq_t c216) rfl rfl ?_
    refine ent_value_on (ov_move rfl) rfl rfl rfl (eq_t c216) rfl rfl ?_
    refine ent_value_on (ov_lenS rfl Tryd.underlying9) rfl rfl rfl (eq_t c216) rfl rfl ?_
    refine ent_value_on (ov_bin rfl rfl (b_lss _ _ _)) rfl rfl rfl (eq_t c216) rfl rfl ?_
    refine ent_value (ov_pick rfl rfl rfl (pick_t (eq_t c216))) rfl rfl rfl (ent_nil ?_)
    refine htF H6 (fun c217 H6 => ?_) fun c217 H6 => ?_
    ·refine ent_cond_false rfl (decide_eq_false c217) (ent_region (ent_value (ov_move rfl) rfl rfl rfl (ent_value (ov_move rfl) rfl rfl rfl (ent_value (ov_move rfl) rfl rfl rfl (ent_value (ov_indexS rfl rfl Tryd.underlying9 c215 c205) rfl rfl rfl ?_)))))
     refine ent_op (ot_buildSlice (sz := 0) (xs := [.tmp 47]) (cs := fl (eI .u8) [((a0.getD i4.toNat 0).toNat : Int)]) rfl rfl F_slice_56 F_size_5 F_zero_5 rfl rfl (all_size rfl) rfl (by decide)) rfl rfl rfl ?_
     rintro sv124 _ rfl
     obtain ⟨c222,H6⟩ := gdT H6
     refine ent_op (ot_appendx (sz := 0) (xs := l6) (ys := [((a0.getD i4.toNat 0).toNat : Int)]) 1 0 rfl rfl F_slice_56 F_size_5 F_zero_5 rfl F_bytes_5 rfl rfl rfl (isRd_ownx 5) rfl (eI_one _) c222) rfl rfl rfl ?_
     rintro sv125 _ rfl
     refine ent_L [own sv124 5 1 [((a0.getD i4.toNat 0).toNat : Int)].length (fl (eI .u8) [((a0.getD i4.toNat 0).toNat : Int)]),own sv125 5 1 (l6 ++ [((a0.getD i4.toNat 0).toNat : Int)]).length (fl (eI .u8) (l6 ++ [((a0.getD i4.toNat 0).toNat : Int)]))] rfl ?_
     refine ent_value (ov_assign rfl) rfl rfl rfl (ent_nil (ent_region (ent_value (ov_move rfl) rfl rfl rfl (ent_value (ov_bin rfl rfl (b_add _ _ _) ) rfl rfl rfl (ent_value (ov_assign rfl) rfl rfl rfl (ent_nil ?_))))))
     exact ent_fin [1] (by decide) rfl (sub_cons (t := 0) rfl (sub_cons (t := 4) rfl (sub_cons (t := 5) rfl (sub_nil _)))) fun a w h => ⟨k,Nat.lt_succ_self k,_,_,_,H6,h⟩
    refine ent_cond_true rfl (decide_eq_true c217) (ent_seq ?_)
    obtain ⟨c218,H6⟩ := gdT H6
    obtain ⟨c219,H6⟩ := gdT H6
    obtain ⟨x53,h51,H6⟩ := Option.bind_eq_some_iff.1 H6
    obtain ⟨c220,H6⟩ := gdT H6
    obtain ⟨x54,h52,H6⟩ := Option.bind_eq_some_iff.1 H6
    obtain ⟨c221,H6⟩ := gdT H6
    refine ent_ownnil 5 1 ?_
    let Z24_T : DT := fun ga25 => [(0,26,sv107),(1,27,str a0),(2,28,I i4),(3,29,I (w64 (i4 + 1))),(4,30,int .u8 ((a0.getD (w64 (i4 + 1)).toNat 0).toNat : Int)),(5,31,I x53),(6,32,I (w64 (16 * x53))),(7,33,str a0),(8,34,I i4),(9,35,I (w64 (i4 + 2))),(10,36,int .u8 ((a0.getD (w64 (i4 + 2)).toNat 0).toNat : Int)),(11,37,I x54),(12,38,I (w64 ((w64 (16 * x53)) + x54))),(13,39,int .u8 (wu8 (w64 ((w64 (16 * x53)) + x54)))),(14,40,(ga25 14)),(15,41,(ga25 15))]
    let Z24_L : DL := fun ga25 done => [sel (done 14) (own (ga25 14) 5 1 [wu8 (w64 ((w64 (16 * x53)) + x54))].length (fl (eI .u8) [wu8 (w64 ((w64 (16 * x53)) + x54))])) emp,own L0 5 1 ([] : List Int).length (fl (eI .u8) ([] : List Int)),sel (done 15) (own (ga25 15) 5 1 (l6 ++ [wu8 (w64 ((w64 (16 * x53)) + x54))]).length (fl (eI .u8) (l6 ++ [wu8 (w64 ((w64 (16 * x53)) + x54))]))) (own sv107 5 1 l6.length (fl (eI .u8) l6))]
    let Z24_I : DI := fun ga25 done a w => StD 57 w0 F [(0,str a0),(4,sv107),(5,I i4),(9,I i4),(10,str a0),(11,I (a0.length : Int)),(12,bool (decide (i4 < (a0.length : Int)))),(15,str a0),(16,I i4),(17,int .u8 ((a0.getD i4.toNat 0).toNat : Int)),(18,bool (((a0.getD i4.toNat 0).toNat : Int) == 37)),(19,bool (((a0.getD i4.toNat 0).toNat : Int) == 37)),(20,I i4),(21,I (w64 (i4 + 2))),(22,str a0),(23,I (a0.length : Int)),(24,bool (decide ((w64 (i4 + 2)) < (a0.length : Int)))),(25,bool (decide ((w64 (i4 + 2)) < (a0.length : Int))))] (Z24_T ga25) done (Z24_L ga25 done) a w
    let Z24_A : (Nat → Bool) → Act → World → Prop := (fun done a w => ∃ ga25 : Nat → Value,Z24_I ga25 done a w)
    let Z24_B : Act → World → Prop := (fun a w => ∃ ga25 : Nat → Value,St 57 w0 F ((4,(ga25 15)) :: [(0,str a0),(5,I i4),(9,I i4),(10,str a0),(11,I (a0.length : Int)),(12,bool (decide (i4 < (a0.length : Int)))),(15,str a0),(16,I i4),(17,int .u8 ((a0.getD i4.toNat 0).toNat : Int)),(18,bool (((a0.getD i4.toNat 0).toNat : Int) == 37)),(19,bool (((a0.getD i4.toNat 0).toNat : Int) == 37)),(20,I i4),(21,I (w64 (i4 + 2))),(22,str a0),(23,I (a0.length : Int)),(24,bool (decide ((w64 (i4 + 2)) < (a0.length : Int)))),(25,bool (decide ((w64 (i4 + 2)) < (a0.length : Int)))),(26,sv107),(27,str a0),(28,I i4),(29,I (w64 (i4 + 1))),(30,int .u8 ((a0.getD (w64 (i4 + 1)).toNat 0).toNat : Int)),(31,I x53),(32,I (w64 (16 * x53))),(33,str a0),(34,I i4),(35,I (w64 (i4 + 2))),(36,int .u8 ((a0.getD (w64 (i4 + 2)).toNat 0).toNat : Int)),(37,I x54),(38,I (w64 ((w64 (16 * x53)) + x54))),(39,int .u8 (wu8 (w64 ((w64 (16 * x53)) + x54)))),(40,(ga25 14)),(41,(ga25 15))]) [own (ga25 14) 5 1 [wu8 (w64 ((w64 (16 * x53)) + x54))].length (fl (eI .u8) [wu8 (w64 ((w64 (16 * x53)) + x54))]),own L0 5 1 ([] : List Int).length (fl (eI .u8) ([] : List Int)),own (ga25 15) 5 1 (l6 ++ [wu8 (w64 ((w64 (16 * x53)) + x54))]).length (fl (eI .u8) (l6 ++ [wu8 (w64 ((w64 (16 * x53)) + x54))]))] a w)
    refine ent_drawm 17 rfl (two 16 Z24_A Z24_B) (by kernel_rfl) (by kernel_rfl) (two_start (draw_startG (T := Z24_T) (L' := fun ga25 : Nat → Value => [sel false (own (ga25 14) 5 1 [wu8 (w64 ((w64 (16 * x53)) + x54))].length (fl (eI .u8) [wu8 (w64 ((w64 (16 * x53)) + x54))])) emp,own L0 5 1 ([] : List Int).length (fl (eI .u8) ([] : List Int)),sel false (own (ga25 15) 5 1 (l6 ++ [wu8 (w64 ((w64 (16 * x53)) + x54))]).length (fl (eI .u8) (l6 ++ [wu8 (w64 ((w64 (16 * x53)) + x54))]))) (own sv107 5 1 l6.length (fl (eI .u8) l6))]) 1 (sub_cons (t := 0) rfl (sub_cons (t := 4) rfl (sub_cons (t := 5) rfl (sub_cons (t := 9) rfl (sub_cons (t := 10) rfl (sub_cons (t := 11) rfl (sub_cons (t := 12) rfl (sub_cons (t := 15) rfl (sub_cons (t := 16) rfl (sub_cons (t := 17) rfl (sub_cons (t := 18) rfl (sub_cons (t := 19) rfl (sub_cons (t := 20) rfl (sub_cons (t := 21) rfl (sub_cons (t := 22) rfl (sub_cons (t := 23) rfl (sub_cons (t := 24) rfl (sub_cons (t := 25) rfl (sub_nil _))))))))))))))))))) (fun _ => rfl))) ?_ ?_
    ·refine ⟨?_,?_,?_,?_,?_,?_,?_,?_,?_,?_,?_,?_,?_,?_,?_,?_,?_,trivial⟩
     ·intro done hi hc hcu
      have n16 : done 16 = false := notdone_of (m := 16) hc hi rfl rfl
      refine two_step (m := 16) (A := Z24_A) n16 rfl ?_
      refine draw_exi (I := Z24_I) fun ga25 => ?_
      exact draw_value (i := 0) (t := 26) (v := sv107) rfl rfl (wanted_none rfl) (fun a => hasA_base) (ov_move rfl) rfl rfl (onlyT_spec (k0 := 0) rfl rfl rfl)
     ·intro done hi hc hcu
      have n16 : done 16 = false := notdone_of (m := 16) hc hi rfl rfl
      refine two_step (m := 16) (A := Z24_A) n16 rfl ?_
      refine draw_exi (I := Z24_I) fun ga25 => ?_
      exact draw_value (i := 1) (t := 27) (v := (str a0)) rfl rfl (wanted_none rfl) (fun a => hasA_base) (ov_move rfl) rfl rfl (onlyT_spec (k0 := 1) rfl rfl rfl)
     ·intro done hi hc hcu
      have n16 : done 16 = false := notdone_of (m := 16) hc hi rfl rfl
      refine two_step (m := 16) (A := Z24_A) n16 rfl ?_
      refine draw_exi (I := Z24_I) fun ga25 => ?_
      exact draw_value (i := 2) (t := 28) (v := (I i4)) rfl rfl (wanted_none rfl) (fun a => hasA_base) (ov_move rfl) rfl rfl (onlyT_spec (k0 := 2) rfl rfl rfl)
     ·intro done hi hc hcu
      have n16 : done 16 = false := notdone_of (m := 16) hc hi rfl rfl
      refine two_step (m := 16) (A := Z24_A) n16 rfl ?_
      refine draw_exi (I := Z24_I) fun ga25 => ?_
      have d2 : done 2 = true := done_of (j := 2) hcu rfl (by decide) rfl
      exact draw_value (i := 3) (t := 29) (v := (I (w64 (i4 + 1)))) rfl rfl (wanted_none rfl) (fun a => (hasA_cons (k := 2) rfl d2 hasA_base)) (ov_bin rfl rfl (b_add _ _ _) ) rfl rfl (onlyT_spec (k0 := 3) rfl rfl rfl)
     ·intro done hi hc hcu
      have n16 : done 16 = false := notdone_of (m := 16) hc hi rfl rfl
      refine two_step (m := 16) (A := Z24_A) n16 rfl ?_
      refine draw_exi (I := Z24_I) fun ga25 => ?_
      have d1 : done 1 = true := done_of (j := 1) hcu rfl (by decide) rfl
      have d3 : done 3 = true := done_of (j := 3) hcu rfl (by decide) rfl
      exact draw_value (i := 4) (t := 30) (v := (int .u8 ((a0.getD (w64 (i4 + 1)).toNat 0).toNat : Int))) rfl rfl (wanted_none rfl) (fun a => (hasA_cons (k := 3) rfl d3 (hasA_cons (k := 1) rfl d1 hasA_base))) (ov_indexS rfl rfl Tryd.underlying9 c218 c219) rfl rfl (onlyT_spec (k0 := 4) rfl rfl rfl)
     ·intro done hi hc hcu
      have n16 : done 16 = false := notdone_of (m := 16) hc hi rfl rfl
      refine two_step (m := 16) (A := Z24_A) n16 rfl ?_
      refine draw_exi (I := Z24_I) fun ga25 => ?_
      have d4 : done 4 = true := done_of (j := 4) hcu rfl (by decide) rfl
      exact draw_same (i := 5) (t := 31) (v := (I x53)) rfl rfl (wanted_none rfl) (fun a => (hasA_cons (k := 4) rfl d4 hasA_base)) (ot_call0 (first := []) (cap := []) (xs := [.tmp 30]) rfl rfl F_call_26 rfl (ossuaryref34_hex.spec K ((a0.getD (w64 (i4 + 1)).toNat 0).toNat : Int) _ h51)) rfl rfl (onlyT_spec (k0 := 5) rfl rfl rfl)
     ·intro done hi hc hcu
      have n16 : done 16 = false := notdone_of (m := 16) hc hi rfl rfl
      refine two_step (m := 16) (A := Z24_A) n16 rfl ?_
      refine draw_exi (I := Z24_I) fun ga25 => ?_
      have d5 : done 5 = true := done_of (j := 5) hcu rfl (by decide) rfl
      exact draw_value (i := 6) (t := 32) (v := (I (w64 (16 * x53)))) rfl rfl (wanted_none rfl) (fun a => (hasA_cons (k := 5) rfl d5 hasA_base)) (ov_bin rfl rfl (b_mul _ _ _) ) rfl rfl (onlyT_spec (k0 := 6) rfl rfl rfl)
     ·intro done hi hc hcu
      have n16 : done 16 = false := notdone_of (m := 16) hc hi rfl rfl
      refine two_step (m := 16) (A := Z24_A) n16 rfl ?_
      refine draw_exi (I := Z24_I) fun ga25 => ?_
      exact draw_value (i := 7) (t := 33) (v := (str a0)) rfl rfl (wanted_none rfl) (fun a => hasA_base) (ov_move rfl) rfl rfl (onlyT_spec (k0 := 7) rfl rfl rfl)
     ·intro done hi hc hcu
      have n16 : done 16 = false := notdone_of (m := 16) hc hi rfl rfl
      refine two_step (m := 16) (A := Z24_A) n16 rfl ?_
      refine draw_exi (I := Z24_I) fun ga25 => ?_
      exact draw_value (i := 8) (t := 34) (v := (I i4)) rfl rfl (wanted_none rfl) (fun a => hasA_base) (ov_move rfl) rfl rfl (onlyT_spec (k0 := 8) rfl rfl rfl)
     ·intro done hi hc hcu
      have n16 : done 16 = false := notdone_of (m := 16) hc hi rfl rfl
      refine two_step (m := 16) (A := Z24_A) n16 rfl ?_
      refine draw_exi (I := Z24_I) fun ga25 => ?_
      have d8 : done 8 = true := done_of (j := 8) hcu rfl (by decide) rfl
      exact draw_value (i := 9) (t := 35) (v := (I (w64 (i4 + 2)))) rfl rfl (wanted_none rfl) (fun a => (hasA_cons (k := 8) rfl d8 hasA_base)) (ov_bin rfl rfl (b_add _ _ _) ) rfl rfl (onlyT_spec (k0 := 9) rfl rfl rfl)
     ·intro done hi hc hcu
      have n16 : done 16 = false := notdone_of (m := 16) hc hi rfl rfl
      refine two_step (m := 16) (A := Z24_A) n16 rfl ?_
      refine draw_exi (I := Z24_I) fun ga25 => ?_
      have d7 : done 7 = true := done_of (j := 7) hcu rfl (by decide) rfl
      have d9 : done 9 = true := done_of (j := 9) hcu rfl (by decide) rfl
      exact draw_value (i := 10) (t := 36) (v := (int .u8 ((a0.getD (w64 (i4 + 2)).toNat 0).toNat : Int))) rfl rfl (wanted_none rfl) (fun a => (hasA_cons (k := 9) rfl d9 (hasA_cons (k := 7) rfl d7 hasA_base))) (ov_indexS rfl rfl Tryd.underlying9 c220 c217) rfl rfl (onlyT_spec (k0 := 10) rfl rfl rfl)
     ·intro done hi hc hcu
      have n16 : done 16 = false := notdone_of (m := 16) hc hi rfl rfl
      refine two_step (m := 16) (A := Z24_A) n16 rfl ?_
      refine draw_exi (I := Z24_I) fun ga25 => ?_
      have d10 : done 10 = true := done_of (j := 10) hcu rfl (by decide) rfl
      exact draw_same (i := 11) (t := 37) (v := (I x54)) rfl rfl (wanted_none rfl) (fun a => (hasA_cons (k := 10) rfl d10 hasA_base)) (ot_call0 (first := []) (cap := []) (xs := [.tmp 36]) rfl rfl F_call_26 rfl (ossuaryref34_hex.spec K ((a0.getD (w64 (i4 + 2)).toNat 0).toNat : Int) _ h52)) rfl rfl (onlyT_spec (k0 := 11) rfl rfl rfl)
     ·intro done hi hc hcu
      have n16 : done 16 = false := notdone_of (m := 16) hc hi rfl rfl
      refine two_step (m := 16) (A := Z24_A) n16 rfl ?_
      refine draw_exi (I := Z24_I) fun ga25 => ?_
      have d6 : done 6 = true := done_of (j := 6) hcu rfl (by decide) rfl
      have d11 : done 11 = true := done_of (j := 11) hcu rfl (by decide) rfl
      exact draw_value (i := 12) (t := 38) (v := (I (w64 ((w64 (16 * x53)) + x54)))) rfl rfl (wanted_none rfl) (fun a => (hasA_cons (k := 11) rfl d11 (hasA_cons (k := 6) rfl d6 hasA_base))) (ov_bin rfl rfl (b_add _ _ _) ) rfl rfl (onlyT_spec (k0 := 12) rfl rfl rfl)
     ·intro done hi hc hcu
      have n16 : done 16 = false := notdone_of (m := 16) hc hi rfl rfl
      refine two_step (m := 16) (A := Z24_A) n16 rfl ?_
      refine draw_exi (I := Z24_I) fun ga25 => ?_
      have d12 : done 12 = true := done_of (j := 12) hcu rfl (by decide) rfl
      exact draw_value (i := 13) (t := 39) (v := (int .u8 (wu8 (w64 ((w64 (16 * x53)) + x54))))) rfl rfl (wanted_none rfl) (fun a => (hasA_cons (k := 12) rfl d12 hasA_base)) (ov_convert rfl (c_int Tryd.underlying3 Tryd.underlying5)) rfl rfl (onlyT_spec (k0 := 13) rfl rfl rfl)
     ·intro done hi hc hcu
      have n16 : done 16 = false := notdone_of (m := 16) hc hi rfl rfl
      refine two_step (m := 16) (A := Z24_A) n16 rfl ?_
      refine ent_exi (S := fun ga25 => Z24_I ga25 done) fun ga25 => ?_
      have d13 : done 13 = true := done_of (j := 13) hcu rfl (by decide) rfl
      refine draw_newV (i := 14) (t := 40) (x := ga25) (L := Z24_L) (T := Z24_T) (L2 := [emp,own L0 5 1 ([] : List Int).length (fl (eI .u8) ([] : List Int)),sel (done 15) (own (ga25 15) 5 1 (l6 ++ [wu8 (w64 ((w64 (16 * x53)) + x54))]).length (fl (eI .u8) (l6 ++ [wu8 (w64 ((w64 (16 * x53)) + x54))]))) (own sv107 5 1 l6.length (fl (eI .u8) l6))]) (B := fun v_ => (own v_ 5 1 [wu8 (w64 ((w64 (16 * x53)) + x54))].length (fl (eI .u8) [wu8 (w64 ((w64 (16 * x53)) + x54))]))) 0 rfl rfl (wanted_none rfl) (fun a => (hasA_cons (k := 13) rfl d13 hasA_base)) (by simp only [Z24_T,Z24_L,hi,sel]) (ot_buildSlice (sz := 0) (xs := [.tmp 39]) (cs := fl (eI .u8) [wu8 (w64 ((w64 (16 * x53)) + x54))]) rfl rfl F_slice_56 F_size_5 F_zero_5 rfl rfl (all_size rfl) rfl (by decide)) ?_ rfl (fun v_ => ?_) rfl rfl ?_
      ·rintro _ _ rfl; rfl
      ·simp [Z24_T,Z24_L,up,upb,sel,hi]
      ·rintro _ _ rfl
       exact (tr_same rfl rfl (tr_same rfl rfl (tr_same rfl rfl (tr_same rfl rfl (tr_same rfl rfl (tr_same rfl rfl (tr_same rfl rfl (tr_same rfl rfl (tr_same rfl rfl (tr_same rfl rfl (tr_same rfl rfl (tr_same rfl rfl (tr_same rfl rfl (tr_same rfl rfl (tr_this (tr_same rfl rfl tr_nil))))))))))))))))
     ·intro done hi hc hcu
      have n16 : done 16 = false := notdone_of (m := 16) hc hi rfl rfl
      refine two_step (m := 16) (A := Z24_A) n16 rfl ?_
      refine ent_exi (S := fun ga25 => Z24_I ga25 done) fun ga25 => ?_
      have d0 : done 0 = true := done_of (j := 0) hcu rfl (by decide) rfl
      have d14 : done 14 = true := done_of (j := 14) hcu rfl (by decide) rfl
      exact draw_turnI (i := 15) (t := 41) (x := ga25) (L := Z24_L) (T := Z24_T) (L2 := [own (ga25 14) 5 1 [wu8 (w64 ((w64 (16 * x53)) + x54))].length (fl (eI .u8) [wu8 (w64 ((w64 (16 * x53)) + x54))]),own L0 5 1 ([] : List Int).length (fl (eI .u8) ([] : List Int)),own sv107 5 1 l6.length (fl (eI .u8) l6)]) rfl rfl (wanted_none rfl) (fun a => (hasA_cons (k := 14) rfl d14 (hasA_cons (k := 0) rfl d0 hasA_base))) (by simp only [Z24_T,Z24_L,d14,hi,sel]) (ot_appendx (sz := 0) (xs := l6) (ys := [wu8 (w64 ((w64 (16 * x53)) + x54))]) 2 0 rfl rfl F_slice_56 F_size_5 F_zero_5 rfl F_bytes_5 rfl rfl rfl (isRd_ownx 5) rfl (eI_one _) c221) rfl rfl fun v_ M_ hM_ => ⟨upb ga25 15 v_,hM_.trans (show [own (ga25 14) 5 1 [wu8 (w64 ((w64 (16 * x53)) + x54))].length (fl (eI .u8) [wu8 (w64 ((w64 (16 * x53)) + x54))]),own L0 5 1 ([] : List Int).length (fl (eI .u8) ([] : List Int)),own v_ 5 1 (l6 ++ [wu8 (w64 ((w64 (16 * x53)) + x54))]).length (fl (eI .u8) (l6 ++ [wu8 (w64 ((w64 (16 * x53)) + x54))]))] = _ by simp [Z24_T,Z24_L,up,upb,sel,d14,hi]),(tr_same rfl rfl (tr_same rfl rfl (tr_same rfl rfl (tr_same rfl rfl (tr_same rfl rfl (tr_same rfl rfl (tr_same rfl rfl (tr_same rfl rfl (tr_same rfl rfl (tr_same rfl rfl (tr_same rfl rfl (tr_same rfl rfl (tr_same rfl rfl (tr_same rfl rfl (tr_same rfl rfl (tr_this tr_nil))))))))))))))))⟩
     ·intro done hi hc hcu
      refine two_last (m := 16) (A := Z24_A) (B := Z24_B) hi ?_
      refine last_exi (A := fun ga25 => Z24_I ga25 done) (B := fun ga25 => St 57 w0 F ((4,(ga25 15)) :: [(0,str a0),(5,I i4),(9,I i4),(10,str a0),(11,I (a0.length : Int)),(12,bool (decide (i4 < (a0.length : Int)))),(15,str a0),(16,I i4),(17,int .u8 ((a0.getD i4.toNat 0).toNat : Int)),(18,bool (((a0.getD i4.toNat 0).toNat : Int) == 37)),(19,bool (((a0.getD i4.toNat 0).toNat : Int) == 37)),(20,I i4),(21,I (w64 (i4 + 2))),(22,str a0),(23,I (a0.length : Int)),(24,bool (decide ((w64 (i4 + 2)) < (a0.length : Int)))),(25,bool (decide ((w64 (i4 + 2)) < (a0.length : Int)))),(26,sv107),(27,str a0),(28,I i4),(29,I (w64 (i4 + 1))),(30,int .u8 ((a0.getD (w64 (i4 + 1)).toNat 0).toNat : Int)),(31,I x53),(32,I (w64 (16 * x53))),(33,str a0),(34,I i4),(35,I (w64 (i4 + 2))),(36,int .u8 ((a0.getD (w64 (i4 + 2)).toNat 0).toNat : Int)),(37,I x54),(38,I (w64 ((w64 (16 * x53)) + x54))),(39,int .u8 (wu8 (w64 ((w64 (16 * x53)) + x54)))),(40,(ga25 14)),(41,(ga25 15))]) [own (ga25 14) 5 1 [wu8 (w64 ((w64 (16 * x53)) + x54))].length (fl (eI .u8) [wu8 (w64 ((w64 (16 * x53)) + x54))]),own L0 5 1 ([] : List Int).length (fl (eI .u8) ([] : List Int)),own (ga25 15) 5 1 (l6 ++ [wu8 (w64 ((w64 (16 * x53)) + x54))]).length (fl (eI .u8) (l6 ++ [wu8 (w64 ((w64 (16 * x53)) + x54))]))]) fun ga25 => ?_
      have d0 : done 0 = true := done_of (j := 0) hcu rfl (by decide) rfl
      have d1 : done 1 = true := done_of (j := 1) hcu rfl (by decide) rfl
      have d2 : done 2 = true := done_of (j := 2) hcu rfl (by decide) rfl
      have d3 : done 3 = true := done_of (j := 3) hcu rfl (by decide) rfl
      have d4 : done 4 = true := done_of (j := 4) hcu rfl (by decide) rfl
      have d5 : done 5 = true := done_of (j := 5) hcu rfl (by decide) rfl
      have d6 : done 6 = true := done_of (j := 6) hcu rfl (by decide) rfl
      have d7 : done 7 = true := done_of (j := 7) hcu rfl (by decide) rfl
      have d8 : done 8 = true := done_of (j := 8) hcu rfl (by decide) rfl
      have d9 : done 9 = true := done_of (j := 9) hcu rfl (by decide) rfl
      have d10 : done 10 = true := done_of (j := 10) hcu rfl (by decide) rfl
      have d11 : done 11 = true := done_of (j := 11) hcu rfl (by decide) rfl
      have d12 : done 12 = true := done_of (j := 12) hcu rfl (by decide) rfl
      have d13 : done 13 = true := done_of (j := 13) hcu rfl (by decide) rfl
      have d14 : done 14 = true := done_of (j := 14) hcu rfl (by decide) rfl
      have d15 : done 15 = true := done_of (j := 15) hcu rfl (by decide) rfl
      exact last_value (i := 16) (t := 4) (v := (ga25 15)) (L2 := [own (ga25 14) 5 1 [wu8 (w64 ((w64 (16 * x53)) + x54))].length (fl (eI .u8) [wu8 (w64 ((w64 (16 * x53)) + x54))]),own L0 5 1 ([] : List Int).length (fl (eI .u8) ([] : List Int)),own (ga25 15) 5 1 (l6 ++ [wu8 (w64 ((w64 (16 * x53)) + x54))]).length (fl (eI .u8) (l6 ++ [wu8 (w64 ((w64 (16 * x53)) + x54))]))]) rfl rfl (wanted_none rfl) (by simp only [Z24_T,Z24_L,d14,d15,sel]) (fun a => (hasA_cons (k := 15) rfl d15 hasA_base)) (fun a h_ => (Has.sub (ρ := [(26,sv107),(27,str a0),(28,I i4),(29,I (w64 (i4 + 1))),(30,int .u8 ((a0.getD (w64 (i4 + 1)).toNat 0).toNat : Int)),(31,I x53),(32,I (w64 (16 * x53))),(33,str a0),(34,I i4),(35,I (w64 (i4 + 2))),(36,int .u8 ((a0.getD (w64 (i4 + 2)).toNat 0).toNat : Int)),(37,I x54),(38,I (w64 ((w64 (16 * x53)) + x54))),(39,int .u8 (wu8 (w64 ((w64 (16 * x53)) + x54)))),(40,(ga25 14)),(41,(ga25 15))] ++ [(0,str a0),(4,sv107),(5,I i4),(9,I i4),(10,str a0),(11,I (a0.length : Int)),(12,bool (decide (i4 < (a0.length : Int)))),(15,str a0),(16,I i4),(17,int .u8 ((a0.getD i4.toNat 0).toNat : Int)),(18,bool (((a0.getD i4.toNat 0).toNat : Int) == 37)),(19,bool (((a0.getD i4.toNat 0).toNat : Int) == 37)),(20,I i4),(21,I (w64 (i4 + 2))),(22,str a0),(23,I (a0.length : Int)),(24,bool (decide ((w64 (i4 + 2)) < (a0.length : Int)))),(25,bool (decide ((w64 (i4 + 2)) < (a0.length : Int))))]) (((hasA_cons (k := 0) rfl d0 (hasA_cons (k := 1) rfl d1 (hasA_cons (k := 2) rfl d2 (hasA_cons (k := 3) rfl d3 (hasA_cons (k := 4) rfl d4 (hasA_cons (k := 5) rfl d5 (hasA_cons (k := 6) rfl d6 (hasA_cons (k := 7) rfl d7 (hasA_cons (k := 8) rfl d8 (hasA_cons (k := 9) rfl d9 (hasA_cons (k := 10) rfl d10 (hasA_cons (k := 11) rfl d11 (hasA_cons (k := 12) rfl d12 (hasA_cons (k := 13) rfl d13 (hasA_cons (k := 14) rfl d14 (hasA_cons (k := 15) rfl d15 hasA_base)))))))))))))))) : HasA a _ _ _ → Has a ([(26,sv107),(27,str a0),(28,I i4),(29,I (w64 (i4 + 1))),(30,int .u8 ((a0.getD (w64 (i4 + 1)).toNat 0).toNat : Int)),(31,I x53),(32,I (w64 (16 * x53))),(33,str a0),(34,I i4),(35,I (w64 (i4 + 2))),(36,int .u8 ((a0.getD (w64 (i4 + 2)).toNat 0).toNat : Int)),(37,I x54),(38,I (w64 ((w64 (16 * x53)) + x54))),(39,int .u8 (wu8 (w64 ((w64 (16 * x53)) + x54)))),(40,(ga25 14)),(41,(ga25 15))] ++ [(0,str a0),(4,sv107),(5,I i4),(9,I i4),(10,str a0),(11,I (a0.length : Int)),(12,bool (decide (i4 < (a0.length : Int)))),(15,str a0),(16,I i4),(17,int .u8 ((a0.getD i4.toNat 0).toNat : Int)),(18,bool (((a0.getD i4.toNat 0).toNat : Int) == 37)),(19,bool (((a0.getD i4.toNat 0).toNat : Int) == 37)),(20,I i4),(21,I (w64 (i4 + 2))),(22,str a0),(23,I (a0.length : Int)),(24,bool (decide ((w64 (i4 + 2)) < (a0.length : Int)))),(25,bool (decide ((w64 (i4 + 2)) < (a0.length : Int))))])) h_) (sub_cons (t := 0) rfl (sub_cons (t := 5) rfl (sub_cons (t := 9) rfl (sub_cons (t := 10) rfl (sub_cons (t := 11) rfl (sub_cons (t := 12) rfl (sub_cons (t := 15) rfl (sub_cons (t := 16) rfl (sub_cons (t := 17) rfl (sub_cons (t := 18) rfl (sub_cons (t := 19) rfl (sub_cons (t := 20) rfl (sub_cons (t := 21) rfl (sub_cons (t := 22) rfl (sub_cons (t := 23) rfl (sub_cons (t := 24) rfl (sub_cons (t := 25) rfl (sub_cons (t := 26) rfl (sub_cons (t := 27) rfl (sub_cons (t := 28) rfl (sub_cons (t := 29) rfl (sub_cons (t := 30) rfl (sub_cons (t := 31) rfl (sub_cons (t := 32) rfl (sub_cons (t := 33) rfl (sub_cons (t := 34) rfl (sub_cons (t := 35) rfl (sub_cons (t := 36) rfl (sub_cons (t := 37) rfl (sub_cons (t := 38) rfl (sub_cons (t := 39) rfl (sub_cons (t := 40) rfl (sub_cons (t := 41) rfl (sub_nil _)))))))))))))))))))))))))))))))))))) (ov_assign rfl) rfl
    ·intro done hall
     refine two_end (A := Z24_A) (B := Z24_B) (hall 16 (by decide)) ?_
     refine ent_exi fun ga25 => ?_
     refine ent_region (ent_value (ov_move rfl) rfl rfl rfl (ent_value (ov_bin rfl rfl (b_add _ _ _) ) rfl rfl rfl (ent_value (ov_assign rfl) rfl rfl rfl (ent_nil (ent_region (ent_value (ov_move rfl) rfl rfl rfl (ent_value (ov_bin rfl rfl (b_add _ _ _) ) rfl rfl rfl (ent_value (ov_assign rfl) rfl rfl rfl (ent_nil ?_)))))))))
     exact ent_fin [2] (by decide) rfl (sub_cons (t := 0) rfl (sub_cons (t := 4) rfl (sub_cons (t := 5) rfl (sub_nil _)))) fun a w h => ⟨k,Nat.lt_succ_self k,_,_,_,H6,h⟩
 ·refine ent_exi fun sv96 => ?_
  refine ent_seq (ent_region (ent_value (ov_move rfl) rfl rfl rfl (ent_value (ov_b2s 0 rfl F_slice_56 Tryd.underlying5 Tryd.underlying9 rfl (isRd_ownx 5)) rfl rfl rfl (ent_value (ov_assign rfl) rfl rfl rfl (ent_nil (ent_seq (ent_seq (ent_region (ent_value (ov_move rfl) rfl rfl rfl ?_)))))))))
  obtain ⟨x56,h54,H⟩ := Option.bind_eq_some_iff.1 H
  refine ent_op (ot_call0 (first := []) (cap := []) (xs := [.tmp 52]) rfl rfl F_call_12 rfl (ossuaryref34_Quote.spec K (strs x42) _ h54)) rfl rfl rfl ?_
  rintro _ _ ⟨rfl,rfl⟩
  refine ent_value (ov_move rfl) rfl rfl rfl (ent_value (ov_bin rfl rfl (b_neq_str _ _)) rfl rfl rfl (ent_nil ?_))
  refine htT H (fun c225 H => ?_) fun c225 H => ?_
  ·refine ent_cond_true rfl (nb_t c225) (ent_seq (ent_region (ent_value (ov_assign rfl) rfl rfl rfl (ent_value (ov_assign rfl) rfl rfl rfl (ent_nil (ent_retc ?_))))))
   cases H
   refine ent_pick [] (by decide) rfl ?_
   exact ret_mem (vs := [S0,B0]) rfl ⟨rfl,⟨rfl,trivial⟩⟩ _ rfl ⟨rfl,rfl⟩
  refine ent_cond_false rfl (nb_f c225) (ent_skip (ent_seq (ent_region (ent_value (ov_move rfl) rfl rfl rfl (ent_value (ov_assign rfl) rfl rfl rfl (ent_value (ov_assign rfl) rfl rfl rfl (ent_nil (ent_retc ?_))))))))
  cases H
  refine ent_pick [] (by decide) rfl ?_
  exact ret_mem (vs := [str (strs x42),bool true]) rfl ⟨rfl,⟨rfl,trivial⟩⟩ _ rfl ⟨rfl,rfl⟩

theorem strings_Builder_copyCheck_2.spec (p0 : Nat) (sv0 : Value) (l0 : List Int) (r : Unit) (H : strings_Builder_copyCheck_2 l0 = r) : FnSpec Tryd.prog 40 [(pt p0 0)] [(box p0 64 [(pt p0 0), sv0]), (own sv0 5 1 l0.length (fl (eI .u8) l0))] (fun v M => v = (Value.tuple #[]) ∧ M = [(box p0 64 [(pt p0 0), sv0]), (own sv0 5 1 l0.length (fl (eI .u8) l0))]) :=
 (spec_frame [(own sv0 5 1 l0.length (fl (eI .u8) l0))] (spec_copyUsed (fun b w h => Any.Builder_copyCheck_used Tryd.lays240 Tryd.Builder_X72_240 b w h) p0 sv0)).mono fun v M h => by obtain ⟨M0, ⟨rfl, rfl⟩, rfl⟩ := h; exact ⟨rfl, rfl⟩

theorem strings_Builder_WriteByte_O.spec (p0 : Nat) (sv0 : Value) (l0 : List Int) (a1 : Int) (r : List Int) (H : strings_Builder_WriteByte_O l0 a1 = some r) : FnSpec Tryd.prog 27 [pt p0 0,int .u8 a1] [box p0 64 [pt p0 0,sv0],own sv0 5 1 l0.length (fl (eI .u8) l0)] (fun v M => ∃ sv3 : Value,v = Value.nilIface ∧ M = [box p0 64 [pt p0 0,sv3],own sv3 5 1 r.length (fl (eI .u8) r)]) := by
 unfold strings_Builder_WriteByte_O at H
 refine spec_of Tryd.func27 rfl 17 rfl (Nat.le_of_ble_eq_true rfl) fun F w0 => ?_
 show Ent (St 17 w0 F [(0,pt p0 0),(1,int .u8 a1)] [box p0 64 [pt p0 0,sv0],own sv0 5 1 l0.length (fl (eI .u8) l0)]) _
 refine ent_seq (ent_region (ent_value (ov_assign rfl) rfl rfl rfl (ent_nil (ent_seq (ent_region (ent_value (ov_move rfl) rfl rfl rfl ?_))))))
 obtain ⟨u2,h2,H⟩ := thn_elim H
 refine ent_op (ot_call_same (Lr := []) [0,1] [0,1] (first := []) (cap := []) (xs := [.tmp 5]) rfl rfl F_call_40 rfl (strings_Builder_copyCheck_2.spec p0 sv0 l0 _ h2) (by decide) rfl (by decide) rfl) rfl rfl rfl ?_
 rintro _ _ ⟨rfl,rfl⟩
 refine ent_nil (ent_seq (ent_region (ent_value (ov_move rfl) rfl rfl rfl (ent_value (ov_move rfl) rfl rfl rfl (ent_value (ov_nilCheck rfl) rfl rfl rfl (ent_value (ov_fieldAddr (sz := 0) (o := 0) rfl F_field_64_1 F_size_56) rfl rfl rfl (ent_value (ov_load (v := sv0) rfl F_agg_56 (reads_box1 (i := 0) rfl rfl)) rfl rfl rfl (ent_value (ov_move rfl) rfl rfl rfl ?_))))))))
 refine ent_op (ot_buildSlice (sz := 0) (xs := [.tmp 12]) (cs := fl (eI .u8) [a1]) rfl rfl F_slice_56 F_size_5 F_zero_5 rfl rfl (all_size rfl) rfl (by decide)) rfl rfl rfl ?_
 rintro sv4 _ rfl
 obtain ⟨c2,H⟩ := gdT H
 refine ent_op (ot_appendx (sz := 0) (xs := l0) (ys := [a1]) 2 0 rfl rfl F_slice_56 F_size_5 F_zero_5 rfl F_bytes_5 rfl rfl rfl (isRd_ownx 5) rfl (eI_one _) c2) rfl rfl rfl ?_
 rintro sv5 _ rfl
 refine ent_L [own sv4 5 1 [a1].length (fl (eI .u8) [a1]),box p0 64 [pt p0 0,sv0],own sv5 5 1 (l0 ++ [a1]).length (fl (eI .u8) (l0 ++ [a1]))] rfl ?_
 refine ent_value (ov_nilCheck rfl) rfl rfl rfl (ent_value (ov_fieldAddr (sz := 0) (o := 0) rfl F_field_64_1 F_size_56) rfl rfl rfl ?_)
 refine ent_op0 (ot_storeS (cs := [pt p0 0,sv0]) (cs' := [pt p0 0,sv5]) (sv := sv5) (L' := [own sv4 5 1 [a1].length (fl (eI .u8) [a1]),box p0 64 [pt p0 0,sv5],own sv5 5 1 (l0 ++ [a1]).length (fl (eI .u8) (l0 ++ [a1]))]) 1 2 rfl rfl F_size_56 rfl rfl (isRd_ownx 5) rfl (by simp) rfl) rfl rfl ?_
 rintro _ _ rfl
 refine ent_nil (ent_seq (ent_region (ent_value (ov_assign rfl) rfl rfl rfl (ent_nil (ent_retc ?_)))))
 cases H
 refine ent_pick [1,2] (by decide) rfl ?_
 exact ret_tmp rfl rfl ⟨_,rfl,rfl⟩

theorem strings_Builder_copyCheck_3.spec (p0 : Nat) (sv0 : Value) (l0 : List Int) (r : Unit) (H : strings_Builder_copyCheck_3 l0 = r) : FnSpec Tryd.prog 40 [(pt p0 0)] [(box p0 64 [(Value.pointer none), sv0]), (own sv0 5 1 l0.length (fl (eI .u8) l0))] (fun v M => v = (Value.tuple #[]) ∧ M = [(box p0 64 [(pt p0 0), sv0]), (own sv0 5 1 l0.length (fl (eI .u8) l0))]) :=
 (spec_frame [(own sv0 5 1 l0.length (fl (eI .u8) l0))] (spec_copyFresh (fun b w h1 h2 h3 => Any.Builder_copyCheck_fresh Tryd.lays240 Tryd.Builder_X72_240 b w h1 h2 h3) p0 sv0)).mono fun v M h => by obtain ⟨M0, ⟨rfl, rfl⟩, rfl⟩ := h; exact ⟨rfl, rfl⟩

theorem strings_Builder_WriteByte_ZO.spec (p0 : Nat) (sv0 : Value) (l0 : List Int) (a1 : Int) (r : List Int) (H : strings_Builder_WriteByte_ZO l0 a1 = some r) : FnSpec Tryd.prog 27 [pt p0 0,int .u8 a1] [box p0 64 [P0,sv0],own sv0 5 1 l0.length (fl (eI .u8) l0)] (fun v M => ∃ sv3 : Value,v = Value.nilIface ∧ M = [box p0 64 [pt p0 0,sv3],own sv3 5 1 r.length (fl (eI .u8) r)]) := by
 unfold strings_Builder_WriteByte_ZO at H
 refine spec_of Tryd.func27 rfl 17 rfl (Nat.le_of_ble_eq_true rfl) fun F w0 => ?_
 show Ent (St 17 w0 F [(0,pt p0 0),(1,int .u8 a1)] [box p0 64 [P0,sv0],own sv0 5 1 l0.length (fl (eI .u8) l0)]) _
 refine ent_seq (ent_region (ent_value (ov_assign rfl) rfl rfl rfl (ent_nil (ent_seq (ent_region (ent_value (ov_move rfl) rfl rfl rfl ?_))))))
 obtain ⟨u2,h2,H⟩ := thn_elim H
 refine ent_op (ot_call (Lr := []) (first := []) (cap := []) (xs := [.tmp 5]) rfl rfl F_call_40 rfl (strings_Builder_copyCheck_3.spec p0 sv0 l0 _ h2) rfl) rfl rfl rfl ?_
 rintro _ _ ⟨_,⟨rfl,rfl⟩,rfl⟩
 refine ent_nil (ent_seq (ent_region (ent_value (ov_move rfl) rfl rfl rfl (ent_value (ov_move rfl) rfl rfl rfl (ent_value (ov_nilCheck rfl) rfl rfl rfl (ent_value (ov_fieldAddr (sz := 0) (o := 0) rfl F_field_64_1 F_size_56) rfl rfl rfl (ent_value (ov_load (v := sv0) rfl F_agg_56 (reads_box1 (i := 0) rfl rfl)) rfl rfl rfl (ent_value (ov_move rfl) rfl rfl rfl ?_))))))))
 refine ent_op (ot_buildSlice (sz := 0) (xs := [.tmp 12]) (cs := fl (eI .u8) [a1]) rfl rfl F_slice_56 F_size_5 F_zero_5 rfl rfl (all_size rfl) rfl (by decide)) rfl rfl rfl ?_
 rintro sv4 _ rfl
 obtain ⟨c2,H⟩ := gdT H
 refine ent_op (ot_appendx (sz := 0) (xs := l0) (ys := [a1]) 2 0 rfl rfl F_slice_56 F_size_5 F_zero_5 rfl F_bytes_5 rfl rfl rfl (isRd_ownx 5) rfl (eI_one _) c2) rfl rfl rfl ?_
 rintro sv5 _ rfl
 refine ent_L [own sv4 5 1 [a1].length (fl (eI .u8) [a1]),box p0 64 [pt p0 0,sv0],own sv5 5 1 (l0 ++ [a1]).length (fl (eI .u8) (l0 ++ [a1]))] rfl ?_
 refine ent_value (ov_nilCheck rfl) rfl rfl rfl (ent_value (ov_fieldAddr (sz := 0) (o := 0) rfl F_field_64_1 F_size_56) rfl rfl rfl ?_)
 refine ent_op0 (ot_storeS (cs := [pt p0 0,sv0]) (cs' := [pt p0 0,sv5]) (sv := sv5) (L' := [own sv4 5 1 [a1].length (fl (eI .u8) [a1]),box p0 64 [pt p0 0,sv5],own sv5 5 1 (l0 ++ [a1]).length (fl (eI .u8) (l0 ++ [a1]))]) 1 2 rfl rfl F_size_56 rfl rfl (isRd_ownx 5) rfl (by simp) rfl) rfl rfl ?_
 rintro _ _ rfl
 refine ent_nil (ent_seq (ent_region (ent_value (ov_assign rfl) rfl rfl rfl (ent_nil (ent_retc ?_)))))
 cases H
 refine ent_pick [1,2] (by decide) rfl ?_
 exact ret_tmp rfl rfl ⟨_,rfl,rfl⟩

theorem strings_Builder_String_O.spec (p0 : Nat) (sv0 : Value) (l0 : List Int) (r : List UInt8) (H : strings_Builder_String_O l0 = some r) : FnSpec Tryd.prog 28 [pt p0 0] [box p0 64 [pt p0 0,sv0],own sv0 5 1 l0.length (fl (eI .u8) l0)] (fun v M => v = (str r) ∧ M = [box p0 64 [pt p0 0,sv0]]) := by
 unfold strings_Builder_String_O at H
 refine spec_of Tryd.func28 rfl 14 rfl (Nat.le_of_ble_eq_true rfl) fun F w0 => ?_
 show Ent (St 14 w0 F [(0,pt p0 0)] [box p0 64 [pt p0 0,sv0],own sv0 5 1 l0.length (fl (eI .u8) l0)]) _
 refine ent_seq (ent_region (ent_value (ov_assign rfl) rfl rfl rfl (ent_nil (ent_seq ?_))))
 obtain ⟨c3,H⟩ := gdT H
 obtain ⟨c4,H⟩ := gdT H
 refine ent_drawm 12 rfl (fun done a w => StD 14 w0 F [(0,pt p0 0)] [(0,3,pt p0 0),(1,4,pt p0 0),(2,5,pt p0 1),(3,6,sv0),(4,7,(eptr sv0 0)),(5,8,pt p0 0),(6,9,pt p0 0),(7,10,pt p0 1),(8,11,sv0),(9,12,I (l0.length : Int)),(10,13,str (strs l0)),(11,2,str (strs l0))] done [box p0 64 [pt p0 0,sv0],sel (done 10) emp (own sv0 5 1 l0.length (fl (eI .u8) l0))] a w) (by kernel_rfl) (by kernel_rfl) (draw_startL (sub_cons (t := 0) rfl (sub_nil _)) (by simp only [sel])) ?_ ?_
 ·refine ⟨?_,?_,?_,?_,?_,?_,?_,?_,?_,?_,?_,?_,trivial⟩
  ·exact fun done hi hc hcu => draw_value (i := 0) (t := 3) (v := (pt p0 0)) rfl rfl (wanted_none rfl) (fun a => hasA_base) (ov_move rfl) rfl rfl (onlyT_spec (k0 := 0) rfl rfl rfl)
  ·exact fun done hi hc hcu => draw_value (i := 1) (t := 4) (v := (pt p0 0)) rfl rfl (wanted_none rfl) (fun a => (hasA_cons (k := 0) rfl (done_of (j := 0) hcu rfl (by decide) rfl) hasA_base)) (ov_nilCheck rfl) rfl rfl (onlyT_spec (k0 := 1) rfl rfl rfl)
  ·exact fun done hi hc hcu => draw_value (i := 2) (t := 5) (v := (pt p0 1)) rfl rfl (wanted_none rfl) (fun a => (hasA_cons (k := 1) rfl (done_of (j := 1) hcu rfl (by decide) rfl) hasA_base)) (ov_fieldAddr (sz := 0) (o := 0) rfl F_field_64_1 F_size_56) rfl rfl (onlyT_spec (k0 := 2) rfl rfl rfl)
  ·exact fun done hi hc hcu => draw_value (i := 3) (t := 6) (v := sv0) rfl rfl (wanted_none rfl) (fun a => (hasA_cons (k := 2) rfl (done_of (j := 2) hcu rfl (by decide) rfl) hasA_base)) (ov_load (v := sv0) rfl F_agg_56 (reads_box1 (i := 0) rfl rfl)) rfl rfl (onlyT_spec (k0 := 3) rfl rfl rfl)
  ·intro done hi hc hcu
   have d3 : done 3 = true := done_of (j := 3) hcu rfl (by decide) rfl
   have n10 : done 10 = false := notdone_of (m := 10) hc hi rfl rfl
   exact draw_value (i := 4) (t := 7) (v := (eptr sv0 0)) rfl rfl (wanted_none rfl) (fun a => (hasA_cons (k := 3) rfl d3 hasA_base)) (ov_L (L2 := [box p0 64 [pt p0 0,sv0],own sv0 5 1 l0.length (fl (eI .u8) l0)]) (by simp only [n10,sel]) (ov_unsafeData 1 rfl rfl c3)) rfl rfl (onlyT_spec (k0 := 4) rfl rfl rfl)
  ·exact fun done hi hc hcu => draw_value (i := 5) (t := 8) (v := (pt p0 0)) rfl rfl (wanted_none rfl) (fun a => hasA_base) (ov_move rfl) rfl rfl (onlyT_spec (k0 := 5) rfl rfl rfl)
  ·exact fun done hi hc hcu => draw_value (i := 6) (t := 9) (v := (pt p0 0)) rfl rfl (wanted_none rfl) (fun a => (hasA_cons (k := 5) rfl (done_of (j := 5) hcu rfl (by decide) rfl) hasA_base)) (ov_nilCheck rfl) rfl rfl (onlyT_spec (k0 := 6) rfl rfl rfl)
  ·exact fun done hi hc hcu => draw_value (i := 7) (t := 10) (v := (pt p0 1)) rfl rfl (wanted_none rfl) (fun a => (hasA_cons (k := 6) rfl (done_of (j := 6) hcu rfl (by decide) rfl) hasA_base)) (ov_fieldAddr (sz := 0) (o := 0) rfl F_field_64_1 F_size_56) rfl rfl (onlyT_spec (k0 := 7) rfl rfl rfl)
  ·exact fun done hi hc hcu => draw_value (i := 8) (t := 11) (v := sv0) rfl rfl (wanted_none rfl) (fun a => (hasA_cons (k := 7) rfl (done_of (j := 7) hcu rfl (by decide) rfl) hasA_base)) (ov_load (v := sv0) rfl F_agg_56 (reads_box1 (i := 0) rfl rfl)) rfl rfl (onlyT_spec (k0 := 8) rfl rfl rfl)
  ·intro done hi hc hcu
   have d8 : done 8 = true := done_of (j := 8) hcu rfl (by decide) rfl
   have n10 : done 10 = false := notdone_of (m := 10) hc hi rfl rfl
   exact draw_value (i := 9) (t := 12) (v := (I (l0.length : Int))) rfl rfl (wanted_none rfl) (fun a => (hasA_cons (k := 8) rfl d8 hasA_base)) (ov_L (L2 := [box p0 64 [pt p0 0,sv0],own sv0 5 1 l0.length (fl (eI .u8) l0)]) (by simp only [n10,sel]) (ov_len 1 rfl F_slice_56 rfl (isRd_ownx 5))) rfl rfl (onlyT_spec (k0 := 9) rfl rfl rfl)
  ·exact fun done hi hc hcu => draw_eff (i := 10) (t := 13) (v := (str (strs l0))) (L2 := [box p0 64 [pt p0 0,sv0],own sv0 5 1 l0.length (fl (eI .u8) l0)]) (L3 := [box p0 64 [pt p0 0,sv0],emp]) rfl rfl (wanted_none rfl) (fun a => (hasA_cons (k := 9) rfl (done_of (j := 9) hcu rfl (by decide) rfl) (hasA_cons (k := 4) rfl (done_of (j := 4) hcu rfl (by decide) rfl) hasA_base))) (by simp only [hi,sel]) (by simp [up,sel]) (ot_unsafeString 1 rfl rfl Tryd.underlying81 (by kernel_rfl) rfl c3 c4) rfl rfl (onlyT_spec (k0 := 10) rfl rfl rfl)
  ·exact fun done hi hc hcu => draw_value (i := 11) (t := 2) (v := (str (strs l0))) rfl rfl (wanted_none rfl) (fun a => (hasA_cons (k := 10) rfl (done_of (j := 10) hcu rfl (by decide) rfl) hasA_base)) (ov_assign rfl) rfl rfl (onlyT_spec (k0 := 11) rfl rfl rfl)
 ·intro done hall
  refine draw_endL [box p0 64 [pt p0 0,sv0],emp] (by simp only [hall 10 (by decide),sel]) (fun a => (hasA_cons (k := 11) rfl (hall 11 (by decide)) (hasA_cons (k := 0) rfl (hall 0 (by decide)) (hasA_cons (k := 1) rfl (hall 1 (by decide)) (hasA_cons (k := 2) rfl (hall 2 (by decide)) (hasA_cons (k := 3) rfl (hall 3 (by decide)) (hasA_cons (k := 4) rfl (hall 4 (by decide)) (hasA_cons (k := 5) rfl (hall 5 (by decide)) (hasA_cons (k := 6) rfl (hall 6 (by decide)) (hasA_cons (k := 7) rfl (hall 7 (by decide)) (hasA_cons (k := 8) rfl (hall 8 (by decide)) (hasA_cons (k := 9) rfl (hall 9 (by decide)) (hasA_cons (k := 10) rfl (hall 10 (by decide)) hasA_base))))))))))))) ?_
  refine ent_retc ?_
  cases H
  refine ent_pick [0] (by decide) rfl ?_
  exact ret_tmp rfl rfl ⟨rfl,rfl⟩

theorem strings_Builder_String_ZO.spec (p0 : Nat) (sv0 : Value) (l0 : List Int) (r : List UInt8) (H : strings_Builder_String_ZO l0 = some r) : FnSpec Tryd.prog 28 [pt p0 0] [box p0 64 [P0,sv0],own sv0 5 1 l0.length (fl (eI .u8) l0)] (fun v M => v = (str r) ∧ M = [box p0 64 [P0,sv0]]) := by
 unfold strings_Builder_String_ZO at H
 refine spec_of Tryd.func28 rfl 14 rfl (Nat.le_of_ble_eq_true rfl) fun F w0 => ?_
 show Ent (St 14 w0 F [(0,pt p0 0)] [box p0 64 [P0,sv0],own sv0 5 1 l0.length (fl (eI .u8) l0)]) _
 refine ent_seq (ent_region (ent_value (ov_assign rfl) rfl rfl rfl (ent_nil (ent_seq ?_))))
 obtain ⟨c3,H⟩ := gdT H
 obtain ⟨c4,H⟩ := gdT H
 refine ent_drawm 12 rfl (fun done a w => StD 14 w0 F [(0,pt p0 0)] [(0,3,pt p0 0),(1,4,pt p0 0),(2,5,pt p0 1),(3,6,sv0),(4,7,(eptr sv0 0)),(5,8,pt p0 0),(6,9,pt p0 0),(7,10,pt p0 1),(8,11,sv0),(9,12,I (l0.length : Int)),(10,13,str (strs l0)),(11,2,str (strs l0))] done [box p0 64 [P0,sv0],sel (done 10) emp (own sv0 5 1 l0.length (fl (eI .u8) l0))] a w) (by kernel_rfl) (by kernel_rfl) (draw_startL (sub_cons (t := 0) rfl (sub_nil _)) (by simp only [sel])) ?_ ?_
 ·refine ⟨?_,?_,?_,?_,?_,?_,?_,?_,?_,?_,?_,?_,trivial⟩
  ·exact fun done hi hc hcu => draw_value (i := 0) (t := 3) (v := (pt p0 0)) rfl rfl (wanted_none rfl) (fun a => hasA_base) (ov_move rfl) rfl rfl (onlyT_spec (k0 := 0) rfl rfl rfl)
  ·exact fun done hi hc hcu => draw_value (i := 1) (t := 4) (v := (pt p0 0)) rfl rfl (wanted_none rfl) (fun a => (hasA_cons (k := 0) rfl (done_of (j := 0) hcu rfl (by decide) rfl) hasA_base)) (ov_nilCheck rfl) rfl rfl (onlyT_spec (k0 := 1) rfl rfl rfl)
  ·exact fun done hi hc hcu => draw_value (i := 2) (t := 5) (v := (pt p0 1)) rfl rfl (wanted_none rfl) (fun a => (hasA_cons (k := 1) rfl (done_of (j := 1) hcu rfl (by decide) rfl) hasA_base)) (ov_fieldAddr (sz := 0) (o := 0) rfl F_field_64_1 F_size_56) rfl rfl (onlyT_spec (k0 := 2) rfl rfl rfl)
  ·exact fun done hi hc hcu => draw_value (i := 3) (t := 6) (v := sv0) rfl rfl (wanted_none rfl) (fun a => (hasA_cons (k := 2) rfl (done_of (j := 2) hcu rfl (by decide) rfl) hasA_base)) (ov_load (v := sv0) rfl F_agg_56 (reads_box1 (i := 0) rfl rfl)) rfl rfl (onlyT_spec (k0 := 3) rfl rfl rfl)
  ·intro done hi hc hcu
   have d3 : done 3 = true := done_of (j := 3) hcu rfl (by decide) rfl
   have n10 : done 10 = false := notdone_of (m := 10) hc hi rfl rfl
   exact draw_value (i := 4) (t := 7) (v := (eptr sv0 0)) rfl rfl (wanted_none rfl) (fun a => (hasA_cons (k := 3) rfl d3 hasA_base)) (ov_L (L2 := [box p0 64 [P0,sv0],own sv0 5 1 l0.length (fl (eI .u8) l0)]) (by simp only [n10,sel]) (ov_unsafeData 1 rfl rfl c3)) rfl rfl (onlyT_spec (k0 := 4) rfl rfl rfl)
  ·exact fun done hi hc hcu => draw_value (i := 5) (t := 8) (v := (pt p0 0)) rfl rfl (wanted_none rfl) (fun a => hasA_base) (ov_move rfl) rfl rfl (onlyT_spec (k0 := 5) rfl rfl rfl)
  ·exact fun done hi hc hcu => draw_value (i := 6) (t := 9) (v := (pt p0 0)) rfl rfl (wanted_none rfl) (fun a => (hasA_cons (k := 5) rfl (done_of (j := 5) hcu rfl (by decide) rfl) hasA_base)) (ov_nilCheck rfl) rfl rfl (onlyT_spec (k0 := 6) rfl rfl rfl)
  ·exact fun done hi hc hcu => draw_value (i := 7) (t := 10) (v := (pt p0 1)) rfl rfl (wanted_none rfl) (fun a => (hasA_cons (k := 6) rfl (done_of (j := 6) hcu rfl (by decide) rfl) hasA_base)) (ov_fieldAddr (sz := 0) (o := 0) rfl F_field_64_1 F_size_56) rfl rfl (onlyT_spec (k0 := 7) rfl rfl rfl)
  ·exact fun done hi hc hcu => draw_value (i := 8) (t := 11) (v := sv0) rfl rfl (wanted_none rfl) (fun a => (hasA_cons (k := 7) rfl (done_of (j := 7) hcu rfl (by decide) rfl) hasA_base)) (ov_load (v := sv0) rfl F_agg_56 (reads_box1 (i := 0) rfl rfl)) rfl rfl (onlyT_spec (k0 := 8) rfl rfl rfl)
  ·intro done hi hc hcu
   have d8 : done 8 = true := done_of (j := 8) hcu rfl (by decide) rfl
   have n10 : done 10 = false := notdone_of (m := 10) hc hi rfl rfl
   exact draw_value (i := 9) (t := 12) (v := (I (l0.length : Int))) rfl rfl (wanted_none rfl) (fun a => (hasA_cons (k := 8) rfl d8 hasA_base)) (ov_L (L2 := [box p0 64 [P0,sv0],own sv0 5 1 l0.length (fl (eI .u8) l0)]) (by simp only [n10,sel]) (ov_len 1 rfl F_slice_56 rfl (isRd_ownx 5))) rfl rfl (onlyT_spec (k0 := 9) rfl rfl rfl)
  ·exact fun done hi hc hcu => draw_eff (i := 10) (t := 13) (v := (str (strs l0))) (L2 := [box p0 64 [P0,sv0],own sv0 5 1 l0.length (fl (eI .u8) l0)]) (L3 := [box p0 64 [P0,sv0],emp]) rfl rfl (wanted_none rfl) (fun a => (hasA_cons (k := 9) rfl (done_of (j := 9) hcu rfl (by decide) rfl) (hasA_cons (k := 4) rfl (done_of (j := 4) hcu rfl (by decide) rfl) hasA_base))) (by simp only [hi,sel]) (by simp [up,sel]) (ot_unsafeString 1 rfl rfl Tryd.underlying81 (by kernel_rfl) rfl c3 c4) rfl rfl (onlyT_spec (k0 := 10) rfl rfl rfl)
  ·exact fun done hi hc hcu => draw_value (i := 11) (t := 2) (v := (str (strs l0))) rfl rfl (wanted_none rfl) (fun a => (hasA_cons (k := 10) rfl (done_of (j := 10) hcu rfl (by decide) rfl) hasA_base)) (ov_assign rfl) rfl rfl (onlyT_spec (k0 := 11) rfl rfl rfl)
 ·intro done hall
  refine draw_endL [box p0 64 [P0,sv0],emp] (by simp only [hall 10 (by decide),sel]) (fun a => (hasA_cons (k := 11) rfl (hall 11 (by decide)) (hasA_cons (k := 0) rfl (hall 0 (by decide)) (hasA_cons (k := 1) rfl (hall 1 (by decide)) (hasA_cons (k := 2) rfl (hall 2 (by decide)) (hasA_cons (k := 3) rfl (hall 3 (by decide)) (hasA_cons (k := 4) rfl (hall 4 (by decide)) (hasA_cons (k := 5) rfl (hall 5 (by decide)) (hasA_cons (k := 6) rfl (hall 6 (by decide)) (hasA_cons (k := 7) rfl (hall 7 (by decide)) (hasA_cons (k := 8) rfl (hall 8 (by decide)) (hasA_cons (k := 9) rfl (hall 9 (by decide)) (hasA_cons (k := 10) rfl (hall 10 (by decide)) hasA_base))))))))))))) ?_
  refine ent_retc ?_
  cases H
  refine ent_pick [0] (by decide) rfl ?_
  exact ret_tmp rfl rfl ⟨rfl,rfl⟩

theorem words_Quote.spec (K : Nat) (a0 : List UInt8) (r : List UInt8) (H : words_Quote K a0 = some r) : FnSpec Tryd.prog 11 [str a0] [] (fun v M => v = (str r) ∧ M = []) := by
 unfold words_Quote at H
 refine spec_of Tryd.func11 rfl 30 rfl (Nat.le_of_ble_eq_true rfl) fun F w0 => ?_
 show Ent (St 30 w0 F [(0,str a0)] []) _
 refine ent_seq (ent_region (ent_value (ov_assign rfl) rfl rfl rfl (ent_nil (ent_seq (ent_seq (ent_region (ent_value (ov_move rfl) rfl rfl rfl (ent_value (ov_bin rfl rfl (b_eql_str _ _)) rfl rfl rfl (ent_nil ?_)))))))))
 refine htT H (fun c223 H => ?_) fun c223 H => ?_
 ·refine ent_cond_true rfl (eq_t c223) (ent_seq (ent_region (ent_value (ov_assign rfl) rfl rfl rfl (ent_nil (ent_retc ?_)))))
  cases H
  refine ent_pick [] (by decide) rfl ?_
  exact ret_tmp rfl rfl ⟨rfl,rfl⟩
 refine ent_cond_false rfl (eq_f c223) (ent_skip (ent_seq (ent_region ?_)))
 refine ent_op (ot_alloc F_zero_64) rfl rfl rfl ?_
 rintro _ _ ⟨b6,rfl,rfl⟩
 refine ent_nil (ent_seq (ent_seq (ent_region (ent_value (ov_move rfl) rfl rfl rfl ?_))))
 obtain ⟨c333,H⟩ := gdT H
 refine ent_op (ot_s2b rfl Tryd.underlying9 F_slice_56 Tryd.underlying5 c333) rfl rfl rfl ?_
 rintro sv238 _ rfl
 refine ent_value (ov_len 0 rfl F_slice_56 rfl (isRd_frzx 5)) rfl rfl rfl (ent_value (ov_move rfl) rfl rfl rfl (ent_nil (ent_block ?_)))
 refine ent_loop (fun k a w => ∃ i4,∃ q4,∃ l25,∃ l28,∃ sv249 : Value,∃ b10 : Nat,∃ A8 : HP,∃ sv272 : Value,IsRd A8 sv272 l28.length 1 (fl (eI .u8) l28) ∧ words_Quote_l0 K a0 k i4 q4 l25 l28 = some r ∧ St 30 w0 F [(3,pt b10 0),(9,sv272),(10,I ((byts a0).length : Int)),(11,I i4)] [box b10 64 [(selfp q4 b10),sv249],own sv249 5 1 l25.length (fl (eI .u8) l25),A8] a w) K ?_ ?_
 ·refine ent_ownnil 5 1 ?_
  exact ent_fin [2,0,1] (by decide) rfl (sub_cons (t := 3) rfl (sub_cons (t := 9) rfl (sub_cons (t := 10) rfl (sub_cons (t := 11) rfl (sub_nil _))))) fun a w h => ⟨_,_,_,_,_,_,_,_,(isRd_frzx 5),H,h⟩
 ·refine fun k => ent_exi fun i4 => ent_exi fun q4 => ent_exi fun l25 => ent_exi fun l28 => ent_exi fun sv249 => ent_exi fun b10 => ent_exi fun A8 => ent_exi fun sv272 => ent_and fun hr14 => ent_and fun H15 => ?_
  cases k with
  | zero => exact absurd H15 (by simp [words_Quote_l0])
  | succ k =>
   rw [words_Quote_l0] at H15
   refine ent_seq (ent_region (ent_value (ov_bin rfl rfl (b_lss _ _ _)) rfl rfl rfl (ent_nil (ent_seq ?_))))
   refine htF H15 (fun c411 H15 => ?_) fun c411 H15 => ?_
   ·refine ent_cond_false rfl (decide_eq_false c411) (ent_exit (ent_seq (ent_region ?_)))
    refine htT H15 (fun c442 H15 => ?_) fun c442 H15 => ?_
    ·refine ent_conv 0 _ (box b10 64 [pt b10 0,sv249]) rfl (by rw [c442]; exact fun o s h => h) rfl ?_
     obtain ⟨x359,h347,H15⟩ := Option.bind_eq_some_iff.1 H15
     refine ent_op (ot_call (Lr := [A8]) (first := []) (cap := []) (xs := [.tmp 3]) rfl rfl F_call_28 rfl (strings_Builder_String_O.spec b10 sv249 l25 _ h347) rfl) rfl rfl rfl ?_
     rintro _ _ ⟨_,⟨rfl,rfl⟩,rfl⟩
     refine ent_value (ov_assign rfl) rfl rfl rfl (ent_nil (ent_retc ?_))
     cases H15
     refine ent_pick [] (by decide) rfl ?_
     exact ret_tmp rfl rfl ⟨rfl,rfl⟩
    refine ent_conv 0 _ (box b10 64 [P0,sv249]) rfl (by rw [(Bool.eq_false_iff.2 c442)]; exact fun o s h => h) rfl ?_
    obtain ⟨x360,h348,H15⟩ := Option.bind_eq_some_iff.1 H15
    refine ent_op (ot_call (Lr := [A8]) (first := []) (cap := []) (xs := [.tmp 3]) rfl rfl F_call_28 rfl (strings_Builder_String_ZO.spec b10 sv249 l25 _ h348) rfl) rfl rfl rfl ?_
    rintro _ _ ⟨_,⟨rfl,rfl⟩,rfl⟩
    refine ent_value (ov_assign rfl) rfl rfl rfl (ent_nil (ent_retc ?_))
    cases H15
    refine ent_pick [] (by decide) rfl ?_
    exact ret_tmp rfl rfl ⟨rfl,rfl⟩
   refine ent_cond_true rfl (decide_eq_true c411) (ent_skip ?_)
   obtain ⟨x346,H16,H15⟩ := Option.bind_eq_some_iff.1 H15
   refine ent_seq_cut (fun a w => ∃ sv305 : Value,∃ sv306 : Value,IsRd A8 sv306 x346.2.length 1 (fl (eI .u8) x346.2) ∧ St 30 w0 F [(3,pt b10 0),(9,sv306),(10,I ((byts a0).length : Int)),(11,I i4)] [box b10 64 [pt b10 0,sv305],own sv305 5 1 x346.1.length (fl (eI .u8) x346.1),A8] a w) ?_ ?_
   ·refine ent_block (ent_seq (ent_region ?_))
    obtain ⟨c427,H16⟩ := gdT H16
    obtain ⟨c428,H16⟩ := gdT H16
    refine ent_value (ov_indexAddr (sz := 0) 2 rfl rfl F_slice_56 F_size_5 rfl hr14 c427 c428) rfl rfl rfl ?_
    refine ent_value (ov_load (v := (int .u8 (l28.getD i4.toNat 0))) rfl F_agg_5 (reads_rd (i := 2) rfl hr14 (by simp) (fl_read0 (eI_len _) (ix_lt c427 c428) rfl))) rfl rfl rfl ?_
    refine ent_value (ov_assign rfl) rfl rfl rfl (ent_nil (ent_seq (ent_seq (ent_region (ent_value (ov_move rfl) rfl rfl rfl ?_)))))
    obtain ⟨x350,h338,H16⟩ := thn_elim H16
    refine ent_op (ot_call0 (first := []) (cap := []) (xs := [.tmp 15]) rfl rfl F_call_24 rfl (words_plain.spec (l28.getD i4.toNat 0) _ h338)) rfl rfl rfl ?_
    rintro _ _ ⟨rfl,rfl⟩
    refine ent_nil ?_
    refine htT H16 (fun c431 H16 => ?_) fun c431 H16 => ?_
    ·refine ent_cond_true rfl c431 (ent_seq (ent_region (ent_value (ov_move rfl) rfl rfl rfl ?_)))
     refine htT H16 (fun c432 H16 => ?_) fun c432 H16 => ?_
     ·refine ent_conv 0 _ (box b10 64 [pt b10 0,sv249]) rfl (by rw [c432]; exact fun o s h => h) rfl ?_
      obtain ⟨x351,h339,H16⟩ := Option.bind_eq_some_iff.1 H16
      refine ent_op (ot_call (Lr := [A8]) (first := []) (cap := []) (xs := [.tmp 3,.tmp 17]) rfl rfl F_call_27 rfl (strings_Builder_WriteByte_O.spec b10 sv249 l25 (l28.getD i4.toNat 0) _ h339) rfl) rfl rfl rfl ?_
      rintro _ _ ⟨_,⟨sv309,rfl,rfl⟩,rfl⟩
      refine ent_nil (ent_exit ?_)
      cases H16
      exact ent_fin [0,1,2] (by decide) rfl (sub_cons (t := 3) rfl (sub_cons (t := 9) rfl (sub_cons (t := 10) rfl (sub_cons (t := 11) rfl (sub_nil _))))) fun a w h => ⟨_,_,hr14,h⟩
     refine ent_conv 0 _ (box b10 64 [P0,sv249]) rfl (by rw [(Bool.eq_false_iff.2 c432)]; exact fun o s h => h) rfl ?_
     obtain ⟨x352,h340,H16⟩ := Option.bind_eq_some_iff.1 H16
     refine ent_op (ot_call (Lr := [A8]) (first := []) (cap := []) (xs := [.tmp 3,.tmp 17]) rfl rfl F_call_27 rfl (strings_Builder_WriteByte_ZO.spec b10 sv249 l25 (l28.getD i4.toNat 0) _ h340) rfl) rfl rfl rfl ?_
     rintro _ _ ⟨_,⟨sv310,rfl,rfl⟩,rfl⟩
     refine ent_nil (ent_exit ?_)
     cases H16
     exact ent_fin [0,1,2] (by decide) rfl (sub_cons (t := 3) rfl (sub_cons (t := 9) rfl (sub_cons (t := 10) rfl (sub_cons (t := 11) rfl (sub_nil _))))) fun a w h => ⟨_,_,hr14,h⟩
    refine ent_cond_false rfl (Bool.eq_false_iff.2 c431) (ent_skip (ent_seq (ent_region ?_)))
    refine htT H16 (fun c433 H16 => ?_) fun c433 H16 => ?_
    ·refine ent_conv 0 _ (box b10 64 [pt b10 0,sv249]) rfl (by rw [c433]; exact fun o s h => h) rfl ?_
     obtain ⟨x353,h341,H16⟩ := Option.bind_eq_some_iff.1 H16
     refine ent_op (ot_call (Lr := [A8]) (first := []) (cap := []) (xs := [.tmp 3,.const (int .u8 37)]) rfl rfl F_call_27 rfl (strings_Builder_WriteByte_O.spec b10 sv249 l25 37 _ h341) rfl) rfl rfl rfl ?_
     rintro _ _ ⟨_,⟨sv311,rfl,rfl⟩,rfl⟩
     refine ent_nil (ent_seq (ent_region (ent_value (ov_move rfl) rfl rfl rfl ?_)))
     refine ent_value (ov_bin rfl rfl fun w => b_shr _ _ _ _ w (by decide)) rfl rfl rfl ?_
     obtain ⟨c434,H16⟩ := gdT H16
     obtain ⟨c435,H16⟩ := gdT H16
     refine ent_value (ov_indexS rfl rfl Tryd.underlying9 c434 c435) rfl rfl rfl ?_
     obtain ⟨x354,h342,H16⟩ := Option.bind_eq_some_iff.1 H16
     refine ent_op (ot_call (Lr := [A8]) (first := []) (cap := []) (xs := [.tmp 3,.tmp 22]) rfl rfl F_call_27 rfl (strings_Builder_WriteByte_O.spec b10 sv311 x353 ((([48,49,50,51,52,53,54,55,56,57,97,98,99,100,101,102] : List UInt8).getD (bShr .u8 (l28.getD i4.toNat 0) 4).toNat 0).toNat : Int) _ h342) rfl) rfl rfl rfl ?_
     rintro _ _ ⟨_,⟨sv312,rfl,rfl⟩,rfl⟩
     refine ent_nil (ent_region (ent_value (ov_move rfl) rfl rfl rfl (ent_value (ov_bin rfl rfl (b_and _ _ _)) rfl rfl rfl ?_)))
     obtain ⟨c436,H16⟩ := gdT H16
     obtain ⟨c437,H16⟩ := gdT H16
     refine ent_value (ov_indexS rfl rfl Tryd.underlying9 c436 c437) rfl rfl rfl ?_
     obtain ⟨x355,h343,H16⟩ := Option.bind_eq_some_iff.1 H16
     refine ent_op (ot_call (Lr := [A8]) (first := []) (cap := []) (xs := [.tmp 3,.tmp 26]) rfl rfl F_call_27 rfl (strings_Builder_WriteByte_O.spec b10 sv312 x354 ((([48,49,50,51,52,53,54,55,56,57,97,98,99,100,101,102] : List UInt8).getD (bAnd .u8 (l28.getD i4.toNat 0) 15).toNat 0).toNat : Int) _ h343) rfl) rfl rfl rfl ?_
     rintro _ _ ⟨_,⟨sv313,rfl,rfl⟩,rfl⟩
     refine ent_nil ?_
     cases H16
     exact ent_fin [0,1,2] (by decide) rfl (sub_cons (t := 3) rfl (sub_cons (t := 9) rfl (sub_cons (t := 10) rfl (sub_cons (t := 11) rfl (sub_nil _))))) fun a w h => ⟨_,_,hr14,h⟩
    refine ent_conv 0 _ (box b10 64 [P0,sv249]) rfl (by rw [(Bool.eq_false_iff.2 c433)]; exact fun o s h => h) rfl ?_
    obtain ⟨x356,h344,H16⟩ := Option.bind_eq_some_iff.1 H16
    refine ent_op (ot_call (Lr := [A8]) (first := []) (cap := []) (xs := [.tmp 3,.const (int .u8 37)]) rfl rfl F_call_27 rfl (strings_Builder_WriteByte_ZO.spec b10 sv249 l25 37 _ h344) rfl) rfl rfl rfl ?_
    rintro _ _ ⟨_,⟨sv314,rfl,rfl⟩,rfl⟩
    refine ent_nil (ent_seq (ent_region (ent_value (ov_move rfl) rfl rfl rfl ?_)))
    refine ent_value (ov_bin rfl rfl fun w => b_shr _ _ _ _ w (by decide)) rfl rfl rfl ?_
    obtain ⟨c438,H16⟩ := gdT H16
    obtain ⟨c439,H16⟩ := gdT H16
    refine ent_value (ov_indexS rfl rfl Tryd.underlying9 c438 c439) rfl rfl rfl ?_
    obtain ⟨x357,h345,H16⟩ := Option.bind_eq_some_iff.1 H16
    refine ent_op (ot_call (Lr := [A8]) (first := []) (cap := []) (xs := [.tmp 3,.tmp 22]) rfl rfl F_call_27 rfl (strings_Builder_WriteByte_O.spec b10 sv314 x356 ((([48,49,50,51,52,53,54,55,56,57,97,98,99,100,101,102] : List UInt8).getD (bShr .u8 (l28.getD i4.toNat 0) 4).toNat 0).toNat : Int) _ h345) rfl) rfl rfl rfl ?_
    rintro _ _ ⟨_,⟨sv315,rfl,rfl⟩,rfl⟩
    refine ent_nil (ent_region (ent_value (ov_move rfl) rfl rfl rfl (ent_value (ov_bin rfl rfl (b_and _ _ _)) rfl rfl rfl ?_)))
    obtain ⟨c440,H16⟩ := gdT H16
    obtain ⟨c441,H16⟩ := gdT H16
    refine ent_value (ov_indexS rfl rfl Tryd.underlying9 c440 c441) rfl rfl rfl ?_
    obtain ⟨x358,h346,H16⟩ := Option.bind_eq_some_iff.1 H16
    refine ent_op (ot_call (Lr := [A8]) (first := []) (cap := []) (xs := [.tmp 3,.tmp 26]) rfl rfl F_call_27 rfl (strings_Builder_WriteByte_O.spec b10 sv315 x357 ((([48,49,50,51,52,53,54,55,56,57,97,98,99,100,101,102] : List UInt8).getD (bAnd .u8 (l28.getD i4.toNat 0) 15).toNat 0).toNat : Int) _ h346) rfl) rfl rfl rfl ?_
    rintro _ _ ⟨_,⟨sv316,rfl,rfl⟩,rfl⟩
    refine ent_nil ?_
    cases H16
    exact ent_fin [0,1,2] (by decide) rfl (sub_cons (t := 3) rfl (sub_cons (t := 9) rfl (sub_cons (t := 10) rfl (sub_cons (t := 11) rfl (sub_nil _))))) fun a w h => ⟨_,_,hr14,h⟩
   ·refine ent_exi fun sv305 => ent_exi fun sv306 => ent_and fun hr16 => ?_
    refine ent_region (ent_value (ov_bin rfl rfl (b_add _ _ _) ) rfl rfl rfl (ent_value (ov_move rfl) rfl rfl rfl (ent_nil ?_)))
    exact ent_fin [0,1,2] (by decide) rfl (sub_cons (t := 3) rfl (sub_cons (t := 9) rfl (sub_cons (t := 10) rfl (sub_cons (t := 11) rfl (sub_nil _))))) fun a w h => ⟨k,Nat.lt_succ_self k,_,_,_,_,_,_,_,_,hr16,H15,h⟩

theorem ossuaryref34_Split.spec (K : Nat) (a0 : List UInt8) (r : List (List UInt8)) (H : ossuaryref34_Split K a0 = some r) : FnSpec Tryd.prog 15 [str a0] [] (fun v M => ∃ sv28 : Value,v = sv28 ∧ M = [own sv28 9 1 r.length (fl eS r)]) := by
 unfold ossuaryref34_Split at H
 refine spec_of Tryd.func15 rfl 39 rfl (Nat.le_of_ble_eq_true rfl) fun F w0 => ?_
 show Ent (St 39 w0 F [(0,str a0)] []) _
 refine ent_seq (ent_region (ent_value (ov_assign rfl) rfl rfl rfl (ent_nil (ent_seq (ent_seq (ent_region (ent_value (ov_move rfl) rfl rfl rfl (ent_value (ov_bin rfl rfl (b_eql_str _ _)) rfl rfl rfl (ent_nil ?_)))))))))
 refine htT H (fun c108 H => ?_) fun c108 H => ?_
 ·refine ent_cond_true rfl (eq_t c108) (ent_seq (ent_region (ent_value (ov_assign rfl) rfl rfl rfl (ent_nil (ent_retc ?_)))))
  cases H
  refine ent_ownnil 9 1 ?_
  refine ent_pick [0] (by decide) rfl ?_
  exact ret_tmp rfl rfl ⟨_,rfl,rfl⟩
 refine ent_cond_false rfl (eq_f c108) (ent_skip (ent_seq (ent_region ?_)))
 refine ent_op (ot_buildSlice (sz := 0) (xs := [.const S0]) (cs := fl eS [nB]) rfl rfl F_slice_29 F_size_9 F_zero_9 rfl rfl (all_size rfl) rfl (by decide)) rfl rfl rfl ?_
 rintro sv29 _ rfl
 refine ent_value (ov_assign rfl) rfl rfl rfl (ent_nil (ent_seq (ent_seq (ent_region (ent_value (ov_assign rfl) rfl rfl rfl (ent_nil (ent_block ?_)))))))
 refine ent_loop (fun k a w => ∃ i4,∃ l5,∃ sv47 : Value,ossuaryref34_Split_l0 K a0 k i4 l5 = some r ∧ St 39 w0 F [(0,str a0),(3,sv47),(4,I i4)] [own sv47 9 1 l5.length (fl eS l5)] a w) K ?_ ?_
 ·exact ent_fin [0] (by decide) rfl (sub_cons (t := 0) rfl (sub_cons (t := 3) rfl (sub_cons (t := 4) rfl (sub_nil _)))) fun a w h => ⟨_,_,_,H,h⟩
 ·refine fun k => ent_exi fun i4 => ent_exi fun l5 => ent_exi fun sv47 => ent_and fun H4 => ?_
  cases k with
  | zero => exact absurd H4 (by simp [ossuaryref34_Split_l0])
  | succ k =>
   rw [ossuaryref34_Split_l0] at H4
   refine ent_seq (ent_seq (ent_region (ent_value (ov_move rfl) rfl rfl rfl (ent_value (ov_move rfl) rfl rfl rfl (ent_value (ov_lenS rfl Tryd.underlying9) rfl rfl rfl (ent_value (ov_bin rfl rfl (b_lss _ _ _)) rfl rfl rfl (ent_nil ?_)))))))
   refine htF H4 (fun c196 H4 => ?_) fun c196 H4 => ?_
   ·refine ent_cond_false rfl (decide_eq_false c196) (ent_exit (ent_seq (ent_region (ent_value (ov_move rfl) rfl rfl rfl (ent_value (ov_assign rfl) rfl rfl rfl (ent_nil (ent_retc ?_)))))))
    cases H4
    refine ent_pick [0] (by decide) rfl ?_
    exact ret_tmp rfl rfl ⟨_,rfl,rfl⟩
   refine ent_cond_true rfl (decide_eq_true c196) (ent_skip (ent_seq (ent_block (ent_seq (ent_region (ent_value (ov_move rfl) rfl rfl rfl (ent_value (ov_move rfl) rfl rfl rfl ?_)))))))
   obtain ⟨c205,H4⟩ := gdT H4
   refine ent_value (ov_indexS rfl rfl Tryd.underlying9 c205 c196) rfl rfl rfl (ent_value (ov_bin rfl rfl (b_eql _ _ _)) rfl rfl rfl (ent_nil ?_))
   refine htT H4 (fun c206 H4 => ?_) fun c206 H4 => ?_
   ·refine ent_cond_true rfl (eq_t c206) (ent_region (ent_value (ov_move rfl) rfl rfl rfl ?_))
    refine ent_op (ot_buildSlice (sz := 0) (xs := [.const S0]) (cs := fl eS [nB]) rfl rfl F_slice_29 F_size_9 F_zero_9 rfl rfl (all_size rfl) rfl (by decide)) rfl rfl rfl ?_
    rintro sv54 _ rfl
    obtain ⟨c207,H4⟩ := gdT H4
    refine ent_op (ot_appendx (sz := 0) (xs := l5) (ys := [nB]) 1 0 rfl rfl F_slice_29 F_size_9 F_zero_9 rfl F_bytes_9 rfl rfl rfl (isRd_ownx 9) rfl eS_one c207) rfl rfl rfl ?_
    rintro sv55 _ rfl
    refine ent_L [own sv54 9 1 [nB].length (fl eS [nB]),own sv55 9 1 (l5 ++ [nB]).length (fl eS (l5 ++ [nB]))] rfl ?_
    refine ent_value (ov_assign rfl) rfl rfl rfl (ent_nil (ent_region (ent_value (ov_move rfl) rfl rfl rfl (ent_value (ov_bin rfl rfl (b_add _ _ _) ) rfl rfl rfl (ent_value (ov_assign rfl) rfl rfl rfl (ent_nil ?_))))))
    exact ent_fin [1] (by decide) rfl (sub_cons (t := 0) rfl (sub_cons (t := 3) rfl (sub_cons (t := 4) rfl (sub_nil _)))) fun a w h => ⟨k,Nat.lt_succ_self k,_,_,_,H4,h⟩
   refine ent_cond_false rfl (eq_f c206) ?_
   obtain ⟨c208,H4⟩ := gdT H4
   obtain ⟨c209,H4⟩ := gdT H4
   obtain ⟨c210,H4⟩ := gdT H4
   obtain ⟨c211,H4⟩ := gdT H4
   obtain ⟨c212,H4⟩ := gdT H4
   refine ent_drawm 18 rfl (fun done a w => StD 39 w0 F [(0,str a0),(3,sv47),(4,I i4),(8,I i4),(9,str a0),(10,I (a0.length : Int)),(11,bool (decide (i4 < (a0.length : Int)))),(14,str a0),(15,I i4),(16,int .u8 ((a0.getD i4.toNat 0).toNat : Int)),(17,bool (((a0.getD i4.toNat 0).toNat : Int) == 32))] [(0,21,sv47),(1,22,sv47),(2,23,I (l5.length : Int)),(3,24,I (w64 ((l5.length : Int) - 1))),(4,25,sv47),(5,26,sv47),(6,27,I (l5.length : Int)),(7,28,I (w64 ((l5.length : Int) - 1))),(8,29,(eptr sv47 (((w64 ((l5.length : Int) - 1)).toNat) * 1))),(9,30,str (l5.getD ((w64 ((l5.length : Int) - 1)).toNat) [])),(10,31,str a0),(11,32,I i4),(12,33,I i4),(13,34,I (w64 (i4 + 1))),(14,35,str ((a0.drop i4.toNat).take ((w64 (i4 + 1)).toNat - i4.toNat))),(15,36,str ((l5.getD ((w64 ((l5.length : Int) - 1)).toNat) []) ++ ((a0.drop i4.toNat).take ((w64 (i4 + 1)).toNat - i4.toNat)))),(16,37,(eptr sv47 (((w64 ((l5.length : Int) - 1)).toNat) * 1)))] done [sel (done 17) (own sv47 9 1 (l5.set ((w64 ((l5.length : Int) - 1)).toNat) ((l5.getD ((w64 ((l5.length : Int) - 1)).toNat) []) ++ ((a0.drop i4.toNat).take ((w64 (i4 + 1)).toNat - i4.toNat)))).length (fl eS (l5.set ((w64 ((l5.length : Int) - 1)).toNat) ((l5.getD ((w64 ((l5.length : Int) - 1)).toNat) []) ++ ((a0.drop i4.toNat).take ((w64 (i4 + 1)).toNat - i4.toNat)))))) (own sv47 9 1 l5.length (fl eS l5))] a w) (by kernel_rfl) (by kernel_rfl) (draw_startL (sub_cons (t := 0) rfl (sub_cons (t := 3) rfl (sub_cons (t := 4) rfl (sub_cons (t := 8) rfl (sub_cons (t := 9) rfl (sub_cons (t := 10) rfl (sub_cons (t := 11) rfl (sub_cons (t := 14) rfl (sub_cons (t := 15) rfl (sub_cons (t := 16) rfl (sub_cons (t := 17) rfl (sub_nil _)))))))))))) (by simp only [sel])) ?_ ?_
   ·refine ⟨?_,?_,?_,?_,?_,?_,?_,?_,?_,?_,?_,?_,?_,?_,?_,?_,?_,?_,trivial⟩
    ·exact fun done hi hc hcu => draw_value (i := 0) (t := 21) (v := sv47) rfl rfl (wanted_none rfl) (fun a => hasA_base) (ov_move rfl) rfl rfl (onlyT_spec (k0 := 0) rfl rfl rfl)
    ·exact fun done hi hc hcu => draw_value (i := 1) (t := 22) (v := sv47) rfl rfl (wanted_none rfl) (fun a => hasA_base) (ov_move rfl) rfl rfl (onlyT_spec (k0 := 1) rfl rfl rfl)
    ·intro done hi hc hcu
     have d1 : done 1 = true := done_of (j := 1) hcu rfl (by decide) rfl
     have n17 : done 17 = false := notdone_of (m := 17) hc hi rfl rfl
     exact draw_value (i := 2) (t := 23) (v := (I (l5.length : Int))) rfl rfl (wanted_none rfl) (fun a => (hasA_cons (k := 1) rfl d1 hasA_base)) (ov_L (L2 := [own sv47 9 1 l5.length (fl eS l5)]) (by simp only [n17,sel]) (ov_len 0 rfl F_slice_29 rfl (isRd_ownx 9))) rfl rfl (onlyT_spec (k0 := 2) rfl rfl rfl)
    ·exact fun done hi hc hcu => draw_value (i := 3) (t := 24) (v := (I (w64 ((l5.length : Int) - 1)))) rfl rfl (wanted_none rfl) (fun a => (hasA_cons (k := 2) rfl (done_of (j := 2) hcu rfl (by decide) rfl) hasA_base)) (ov_bin rfl rfl (b_sub _ _ _) ) rfl rfl (onlyT_spec (k0 := 3) rfl rfl rfl)
    ·exact fun done hi hc hcu => draw_value (i := 4) (t := 25) (v := sv47) rfl rfl (wanted_none rfl) (fun a => hasA_base) (ov_move rfl) rfl rfl (onlyT_spec (k0 := 4) rfl rfl rfl)
    ·exact fun done hi hc hcu => draw_value (i := 5) (t := 26) (v := sv47) rfl rfl (wanted_none rfl) (fun a => hasA_base) (ov_move rfl) rfl rfl (onlyT_spec (k0 := 5) rfl rfl rfl)
    ·intro done hi hc hcu
     have d5 : done 5 = true := done_of (j := 5) hcu rfl (by decide) rfl
     have n17 : done 17 = false := notdone_of (m := 17) hc hi rfl rfl
     exact draw_value (i := 6) (t := 27) (v := (I (l5.length : Int))) rfl rfl (wanted_none rfl) (fun a => (hasA_cons (k := 5) rfl d5 hasA_base)) (ov_L (L2 := [own sv47 9 1 l5.length (fl eS l5)]) (by simp only [n17,sel]) (ov_len 0 rfl F_slice_29 rfl (isRd_ownx 9))) rfl rfl (onlyT_spec (k0 := 6) rfl rfl rfl)
    ·exact fun done hi hc hcu => draw_value (i := 7) (t := 28) (v := (I (w64 ((l5.length : Int) - 1)))) rfl rfl (wanted_none rfl) (fun a => (hasA_cons (k := 6) rfl (done_of (j := 6) hcu rfl (by decide) rfl) hasA_base)) (ov_bin rfl rfl (b_sub _ _ _) ) rfl rfl (onlyT_spec (k0 := 7) rfl rfl rfl)
    ·intro done hi hc hcu
     have d4 : done 4 = true := done_of (j := 4) hcu rfl (by decide) rfl
     have d7 : done 7 = true := done_of (j := 7) hcu rfl (by decide) rfl
     have n17 : done 17 = false := notdone_of (m := 17) hc hi rfl rfl
     exact draw_value (i := 8) (t := 29) (v := (eptr sv47 (((w64 ((l5.length : Int) - 1)).toNat) * 1))) rfl rfl (wanted_none rfl) (fun a => (hasA_cons (k := 7) rfl d7 (hasA_cons (k := 4) rfl d4 hasA_base))) (ov_L (L2 := [own sv47 9 1 l5.length (fl eS l5)]) (by simp only [n17,sel]) (ov_indexAddr (sz := 0) 0 rfl rfl F_slice_29 F_size_9 rfl (isRd_ownx 9) c208 c209)) rfl rfl (onlyT_spec (k0 := 8) rfl rfl rfl)
    ·intro done hi hc hcu
     have d8 : done 8 = true := done_of (j := 8) hcu rfl (by decide) rfl
     have n17 : done 17 = false := notdone_of (m := 17) hc hi rfl rfl
     exact draw_value (i := 9) (t := 30) (v := (str (l5.getD ((w64 ((l5.length : Int) - 1)).toNat) []))) rfl rfl (wanted_none rfl) (fun a => (hasA_cons (k := 8) rfl d8 hasA_base)) (ov_L (L2 := [own sv47 9 1 l5.length (fl eS l5)]) (by simp only [n17,sel]) (ov_load (v := (str (l5.getD ((w64 ((l5.length : Int) - 1)).toNat) []))) rfl F_agg_9 (reads_rd (i := 0) rfl (isRd_ownx 9) (by simp) (fl_read0 eS_len (ix_lt c208 c209) rfl)))) rfl rfl (onlyT_spec (k0 := 9) rfl rfl rfl)
    ·exact fun done hi hc hcu => draw_value (i := 10) (t := 31) (v := (str a0)) rfl rfl (wanted_none rfl) (fun a => hasA_base) (ov_move rfl) rfl rfl (onlyT_spec (k0 := 10) rfl rfl rfl)
    ·exact fun done hi hc hcu => draw_value (i := 11) (t := 32) (v := (I i4)) rfl rfl (wanted_none rfl) (fun a => hasA_base) (ov_move rfl) rfl rfl (onlyT_spec (k0 := 11) rfl rfl rfl)
    ·exact fun done hi hc hcu => draw_value (i := 12) (t := 33) (v := (I i4)) rfl rfl (wanted_none rfl) (fun a => hasA_base) (ov_move rfl) rfl rfl (onlyT_spec (k0 := 12) rfl rfl rfl)
    ·exact fun done hi hc hcu => draw_value (i := 13) (t := 34) (v := (I (w64 (i4 + 1)))) rfl rfl (wanted_none rfl) (fun a => (hasA_cons (k := 12) rfl (done_of (j := 12) hcu rfl (by decide) rfl) hasA_base)) (ov_bin rfl rfl (b_add _ _ _) ) rfl rfl (onlyT_spec (k0 := 13) rfl rfl rfl)
    ·exact fun done hi hc hcu => draw_value (i := 14) (t := 35) (v := (str ((a0.drop i4.toNat).take ((w64 (i4 + 1)).toNat - i4.toNat)))) rfl rfl (wanted_none rfl) (fun a => (hasA_cons (k := 13) rfl (done_of (j := 13) hcu rfl (by decide) rfl) (hasA_cons (k := 11) rfl (done_of (j := 11) hcu rfl (by decide) rfl) (hasA_cons (k := 10) rfl (done_of (j := 10) hcu rfl (by decide) rfl) hasA_base)))) (ov_sls_lohi rfl rfl rfl Tryd.underlying9 c205 c210 c211) rfl rfl (onlyT_spec (k0 := 14) rfl rfl rfl)
    ·exact fun done hi hc hcu => draw_value (i := 15) (t := 36) (v := (str ((l5.getD ((w64 ((l5.length : Int) - 1)).toNat) []) ++ ((a0.drop i4.toNat).take ((w64 (i4 + 1)).toNat - i4.toNat))))) rfl rfl (wanted_none rfl) (fun a => (hasA_cons (k := 14) rfl (done_of (j := 14) hcu rfl (by decide) rfl) (hasA_cons (k := 9) rfl (done_of (j := 9) hcu rfl (by decide) rfl) hasA_base))) (ov_bin rfl rfl fun w => b_add_str _ _ w c212) rfl rfl (onlyT_spec (k0 := 15) rfl rfl rfl)
    ·intro done hi hc hcu
     have d0 : done 0 = true := done_of (j := 0) hcu rfl (by decide) rfl
     have d3 : done 3 = true := done_of (j := 3) hcu rfl (by decide) rfl
     have n17 : done 17 = false := notdone_of (m := 17) hc hi rfl rfl
     exact draw_value (i := 16) (t := 37) (v := (eptr sv47 (((w64 ((l5.length : Int) - 1)).toNat) * 1))) rfl rfl (wanted_none rfl) (fun a => (hasA_cons (k := 3) rfl d3 (hasA_cons (k := 0) rfl d0 hasA_base))) (ov_L (L2 := [own sv47 9 1 l5.length (fl eS l5)]) (by simp only [n17,sel]) (ov_indexAddr (sz := 0) 0 rfl rfl F_slice_29 F_size_9 rfl (isRd_ownx 9) c208 c209)) rfl rfl (onlyT_spec (k0 := 16) rfl rfl rfl)
    ·exact fun done hi hc hcu => draw_store (i := 17) (L2 := [own sv47 9 1 l5.length (fl eS l5)]) (L3 := [own sv47 9 1 (l5.set ((w64 ((l5.length : Int) - 1)).toNat) ((l5.getD ((w64 ((l5.length : Int) - 1)).toNat) []) ++ ((a0.drop i4.toNat).take ((w64 (i4 + 1)).toNat - i4.toNat)))).length (fl eS (l5.set ((w64 ((l5.length : Int) - 1)).toNat) ((l5.getD ((w64 ((l5.length : Int) - 1)).toNat) []) ++ ((a0.drop i4.toNat).take ((w64 (i4 + 1)).toNat - i4.toNat)))))]) rfl rfl (wanted_none rfl) (fun a => (hasA_cons (k := 15) rfl (done_of (j := 15) hcu rfl (by decide) rfl) (hasA_cons (k := 16) rfl (done_of (j := 16) hcu rfl (by decide) rfl) hasA_base))) (by simp only [hi,sel]) (by simp [up,sel]) (ot_storeEx0 (z := []) (y := ((l5.getD ((w64 ((l5.length : Int) - 1)).toNat) []) ++ ((a0.drop i4.toNat).take ((w64 (i4 + 1)).toNat - i4.toNat)))) (us := [str ((l5.getD ((w64 ((l5.length : Int) - 1)).toNat) []) ++ ((a0.drop i4.toNat).take ((w64 (i4 + 1)).toNat - i4.toNat)))]) (L' := [own sv47 9 1 (l5.set ((w64 ((l5.length : Int) - 1)).toNat) ((l5.getD ((w64 ((l5.length : Int) - 1)).toNat) []) ++ ((a0.drop i4.toNat).take ((w64 (i4 + 1)).toNat - i4.toNat)))).length (fl eS (l5.set ((w64 ((l5.length : Int) - 1)).toNat) ((l5.getD ((w64 ((l5.length : Int) - 1)).toNat) []) ++ ((a0.drop i4.toNat).take ((w64 (i4 + 1)).toNat - i4.toNat)))))]) 0 rfl rfl rfl (all_one rfl) F_size_9 eS_len (ix_lt c208 c209) rfl rfl rfl rfl rfl) (offT_spec rfl)
   ·intro done hall
    refine draw_endL [own sv47 9 1 (l5.set ((w64 ((l5.length : Int) - 1)).toNat) ((l5.getD ((w64 ((l5.length : Int) - 1)).toNat) []) ++ ((a0.drop i4.toNat).take ((w64 (i4 + 1)).toNat - i4.toNat)))).length (fl eS (l5.set ((w64 ((l5.length : Int) - 1)).toNat) ((l5.getD ((w64 ((l5.length : Int) - 1)).toNat) []) ++ ((a0.drop i4.toNat).take ((w64 (i4 + 1)).toNat - i4.toNat)))))] (by simp only [hall 17 (by decide),sel]) (fun a => (hasA_cons (k := 0) rfl (hall 0 (by decide)) (hasA_cons (k := 1) rfl (hall 1 (by decide)) (hasA_cons (k := 2) rfl (hall 2 (by decide)) (hasA_cons (k := 3) rfl (hall 3 (by decide)) (hasA_cons (k := 4) rfl (hall 4 (by decide)) (hasA_cons (k := 5) rfl (hall 5 (by decide)) (hasA_cons (k := 6) rfl (hall 6 (by decide)) (hasA_cons (k := 7) rfl (hall 7 (by decide)) (hasA_cons (k := 8) rfl (hall 8 (by decide)) (hasA_cons (k := 9) rfl (hall 9 (by decide)) (hasA_cons (k := 10) rfl (hall 10 (by decide)) (hasA_cons (k := 11) rfl (hall 11 (by decide)) (hasA_cons (k := 12) rfl (hall 12 (by decide)) (hasA_cons (k := 13) rfl (hall 13 (by decide)) (hasA_cons (k := 14) rfl (hall 14 (by decide)) (hasA_cons (k := 15) rfl (hall 15 (by decide)) (hasA_cons (k := 16) rfl (hall 16 (by decide)) hasA_base)))))))))))))))))) ?_
    refine ent_region (ent_value (ov_move rfl) rfl rfl rfl (ent_value (ov_bin rfl rfl (b_add _ _ _) ) rfl rfl rfl (ent_value (ov_assign rfl) rfl rfl rfl (ent_nil ?_))))
    exact ent_fin [0] (by decide) rfl (sub_cons (t := 0) rfl (sub_cons (t := 3) rfl (sub_cons (t := 4) rfl (sub_nil _)))) fun a w h => ⟨k,Nat.lt_succ_self k,_,_,_,H4,h⟩

theorem ossuaryref10_Same_RR.spec (K : Nat) (sv0 : Value) (A0 : HP) (sv1 : Value) (A1 : HP) (l0 : List (List UInt8)) (l1 : List (List UInt8)) (hA0 : IsRd A0 sv0 l0.length 1 (fl eS l0)) (hA1 : IsRd A1 sv1 l1.length 1 (fl eS l1)) (r : Bool) (H : ossuaryref10_Same_RR K l0 l1 = some r) : FnSpec Tryd.prog 13 [sv0,sv1] [A0,A1] (fun v M => v = (bool r) ∧ M = [A0,A1]) := by
 unfold ossuaryref10_Same_RR at H
 refine spec_of Tryd.func13 rfl 26 rfl (Nat.le_of_ble_eq_true rfl) fun F w0 => ?_
 show Ent (St 26 w0 F [(0,sv0),(1,sv1)] [A0,A1]) _
 refine ent_seq (ent_region (ent_value (ov_assign rfl) rfl rfl rfl (ent_nil (ent_seq (ent_seq (ent_region (ent_value (ov_move rfl) rfl rfl rfl (ent_value (ov_len 0 rfl F_slice_29 rfl hA0) rfl rfl rfl (ent_value (ov_move rfl) rfl rfl rfl (ent_value (ov_len 1 rfl F_slice_29 rfl hA1) rfl rfl rfl (ent_value (ov_bin rfl rfl (b_neq _ _ _)) rfl rfl rfl ?_)))))))))))
 refine ent_nil ?_
 refine htT H (fun c48 H => ?_) fun c48 H => ?_
 ·refine ent_cond_true rfl (ne_t c48) (ent_seq (ent_region (ent_value (ov_assign rfl) rfl rfl rfl (ent_nil (ent_retc ?_)))))
  cases H
  refine ent_pick [0,1] (by decide) rfl ?_
  exact ret_tmp rfl rfl ⟨rfl,rfl⟩
 refine ent_cond_false rfl (ne_f c48) (ent_skip (ent_seq (ent_seq (ent_region (ent_value (ov_assign rfl) rfl rfl rfl (ent_nil (ent_block ?_)))))))
 refine ent_loop (fun k a w => ∃ i4,ossuaryref10_Same_RR_l0 K l0 l1 k i4 = some r ∧ St 26 w0 F [(0,sv0),(1,sv1),(5,I i4)] [A0,A1] a w) K ?_ ?_
 ·exact ent_fin [0,1] (by decide) rfl (sub_cons (t := 0) rfl (sub_cons (t := 1) rfl (sub_cons (t := 5) rfl (sub_nil _)))) fun a w h => ⟨_,H,h⟩
 ·refine fun k => ent_exi fun i4 => ent_and fun H4 => ?_
  cases k with
  | zero => exact absurd H4 (by simp [ossuaryref10_Same_RR_l0])
  | succ k =>
   rw [ossuaryref10_Same_RR_l0] at H4
   refine ent_seq (ent_seq (ent_region (ent_value (ov_move rfl) rfl rfl rfl (ent_value (ov_move rfl) rfl rfl rfl (ent_value (ov_len 0 rfl F_slice_29 rfl hA0) rfl rfl rfl (ent_value (ov_bin rfl rfl (b_lss _ _ _)) rfl rfl rfl (ent_nil ?_)))))))
   refine htF H4 (fun c86 H4 => ?_) fun c86 H4 => ?_
   ·refine ent_cond_false rfl (decide_eq_false c86) (ent_exit (ent_seq (ent_region (ent_value (ov_assign rfl) rfl rfl rfl (ent_nil (ent_retc ?_))))))
    cases H4
    refine ent_pick [0,1] (by decide) rfl ?_
    exact ret_tmp rfl rfl ⟨rfl,rfl⟩
   refine ent_cond_true rfl (decide_eq_true c86) (ent_skip (ent_seq (ent_block (ent_seq ?_))))
   obtain ⟨c90,H4⟩ := gdT H4
   obtain ⟨c91,H4⟩ := gdT H4
   refine ent_drawm 9 rfl (fun done a w => StD 26 w0 F [(0,sv0),(1,sv1),(5,I i4),(11,I i4),(12,sv0),(13,I (l0.length : Int)),(14,bool (decide (i4 < (l0.length : Int))))] [(0,17,sv0),(1,18,I i4),(2,19,(eptr sv0 (i4.toNat * 1))),(3,20,str (l0.getD i4.toNat [])),(4,21,sv1),(5,22,I i4),(6,23,(eptr sv1 (i4.toNat * 1))),(7,24,str (l1.getD i4.toNat [])),(8,25,bool (!((l0.getD i4.toNat []) == (l1.getD i4.toNat []))))] done [A0,A1] a w) (by kernel_rfl) (by kernel_rfl) (draw_startL (sub_cons (t := 0) rfl (sub_cons (t := 1) rfl (sub_cons (t := 5) rfl (sub_cons (t := 11) rfl (sub_cons (t := 12) rfl (sub_cons (t := 13) rfl (sub_cons (t := 14) rfl (sub_nil _)))))))) rfl) ?_ ?_
   ·refine ⟨?_,?_,?_,?_,?_,?_,?_,?_,?_,trivial⟩
    ·exact fun done hi hc hcu => draw_value (i := 0) (t := 17) (v := sv0) rfl rfl (wanted_none rfl) (fun a => hasA_base) (ov_move rfl) rfl rfl (onlyT_spec (k0 := 0) rfl rfl rfl)
    ·exact fun done hi hc hcu => draw_value (i := 1) (t := 18) (v := (I i4)) rfl rfl (wanted_none rfl) (fun a => hasA_base) (ov_move rfl) rfl rfl (onlyT_spec (k0 := 1) rfl rfl rfl)
    ·exact fun done hi hc hcu => draw_value (i := 2) (t := 19) (v := (eptr sv0 (i4.toNat * 1))) rfl rfl (wanted_none rfl) (fun a => (hasA_cons (k := 1) rfl (done_of (j := 1) hcu rfl (by decide) rfl) (hasA_cons (k := 0) rfl (done_of (j := 0) hcu rfl (by decide) rfl) hasA_base))) (ov_indexAddr (sz := 0) 0 rfl rfl F_slice_29 F_size_9 rfl hA0 c90 c86) rfl rfl (onlyT_spec (k0 := 2) rfl rfl rfl)
    ·exact fun done hi hc hcu => draw_value (i := 3) (t := 20) (v := (str (l0.getD i4.toNat []))) rfl rfl (wanted_none rfl) (fun a => (hasA_cons (k := 2) rfl (done_of (j := 2) hcu rfl (by decide) rfl) hasA_base)) (ov_load (v := (str (l0.getD i4.toNat []))) rfl F_agg_9 (reads_rd (i := 0) rfl hA0 (by simp) (fl_read0 eS_len (ix_lt c90 c86) rfl))) rfl rfl (onlyT_spec (k0 := 3) rfl rfl rfl)
    ·exact fun done hi hc hcu => draw_value (i := 4) (t := 21) (v := sv1) rfl rfl (wanted_none rfl) (fun a => hasA_base) (ov_move rfl) rfl rfl (onlyT_spec (k0 := 4) rfl rfl rfl)
    ·exact fun done hi hc hcu => draw_value (i := 5) (t := 22) (v := (I i4)) rfl rfl (wanted_none rfl) (fun a => hasA_base) (ov_move rfl) rfl rfl (onlyT_spec (k0 := 5) rfl rfl rfl)
    ·exact fun done hi hc hcu => draw_value (i := 6) (t := 23) (v := (eptr sv1 (i4.toNat * 1))) rfl rfl (wanted_none rfl) (fun a => (hasA_cons (k := 5) rfl (done_of (j := 5) hcu rfl (by decide) rfl) (hasA_cons (k := 4) rfl (done_of (j := 4) hcu rfl (by decide) rfl) hasA_base))) (ov_indexAddr (sz := 0) 1 rfl rfl F_slice_29 F_size_9 rfl hA1 c90 c91) rfl rfl (onlyT_spec (k0 := 6) rfl rfl rfl)
    ·exact fun done hi hc hcu => draw_value (i := 7) (t := 24) (v := (str (l1.getD i4.toNat []))) rfl rfl (wanted_none rfl) (fun a => (hasA_cons (k := 6) rfl (done_of (j := 6) hcu rfl (by decide) rfl) hasA_base)) (ov_load (v := (str (l1.getD i4.toNat []))) rfl F_agg_9 (reads_rd (i := 1) rfl hA1 (by simp) (fl_read0 eS_len (ix_lt c90 c91) rfl))) rfl rfl (onlyT_spec (k0 := 7) rfl rfl rfl)
    ·exact fun done hi hc hcu => draw_value (i := 8) (t := 25) (v := (bool (!((l0.getD i4.toNat []) == (l1.getD i4.toNat []))))) rfl rfl (wanted_none rfl) (fun a => (hasA_cons (k := 7) rfl (done_of (j := 7) hcu rfl (by decide) rfl) (hasA_cons (k := 3) rfl (done_of (j := 3) hcu rfl (by decide) rfl) hasA_base))) (ov_bin rfl rfl (b_neq_str _ _)) rfl rfl (onlyT_spec (k0 := 8) rfl rfl rfl)
   ·intro done hall
    refine draw_endL [A0,A1] rfl (fun a => (hasA_cons (k := 0) rfl (hall 0 (by decide)) (hasA_cons (k := 1) rfl (hall 1 (by decide)) (hasA_cons (k := 2) rfl (hall 2 (by decide)) (hasA_cons (k := 3) rfl (hall 3 (by decide)) (hasA_cons (k := 4) rfl (hall 4 (by decide)) (hasA_cons (k := 5) rfl (hall 5 (by decide)) (hasA_cons (k := 6) rfl (hall 6 (by decide)) (hasA_cons (k := 7) rfl (hall 7 (by decide)) (hasA_cons (k := 8) rfl (hall 8 (by decide)) hasA_base)))))))))) ?_
    refine htT H4 (fun c92 H4 => ?_) fun c92 H4 => ?_
    ·refine ent_cond_true rfl (nb_t c92) (ent_seq (ent_region (ent_value (ov_assign rfl) rfl rfl rfl (ent_nil (ent_retc ?_)))))
     cases H4
     refine ent_pick [0,1] (by decide) rfl ?_
     exact ret_tmp rfl rfl ⟨rfl,rfl⟩
    refine ent_cond_false rfl (nb_f c92) (ent_skip (ent_region (ent_value (ov_move rfl) rfl rfl rfl (ent_value (ov_bin rfl rfl (b_add _ _ _) ) rfl rfl rfl (ent_value (ov_assign rfl) rfl rfl rfl (ent_nil ?_))))))
    exact ent_fin [0,1] (by decide) rfl (sub_cons (t := 0) rfl (sub_cons (t := 1) rfl (sub_cons (t := 5) rfl (sub_nil _)))) fun a w h => ⟨k,Nat.lt_succ_self k,_,H4,h⟩

theorem ossuarylaw34_WordsBares.spec (K : Nat) (a0 : List UInt8) (r : Bool) (H : ossuarylaw34_WordsBares K a0 = some r) : FnSpec Tryd.prog 3 [str a0] [] (fun v M => v = (bool r) ∧ M = []) := by
 unfold ossuarylaw34_WordsBares at H
 refine spec_of Tryd.func3 rfl 70 rfl (Nat.le_of_ble_eq_true rfl) fun F w0 => ?_
 show Ent (St 70 w0 F [(0,str a0)] []) _
 refine ent_seq (ent_region (ent_value (ov_assign rfl) rfl rfl rfl (ent_nil (ent_seq (ent_seq (ent_region (ent_value (ov_move rfl) rfl rfl rfl (ent_value (ov_lenS rfl Tryd.underlying9) rfl rfl rfl (ent_value (ov_bin rfl rfl (b_gtr _ _ _)) rfl rfl rfl (ent_nil ?_))))))))))
 refine htT H (fun c10 H => ?_) fun c10 H => ?_
 ·refine ent_cond_true rfl (decide_eq_true c10) (ent_seq (ent_region ?_))
  obtain ⟨x14,h14,H⟩ := Option.bind_eq_some_iff.1 H
  refine ent_op (ot_call0 (first := []) (cap := []) (xs := []) rfl rfl F_call_6 rfl (ossuarylaw34_alive.spec K _ h14)) rfl rfl rfl ?_
  rintro _ _ ⟨rfl,rfl⟩
  refine ent_value (ov_assign rfl) rfl rfl rfl (ent_nil (ent_retc ?_))
  cases H
  refine ent_pick [] (by decide) rfl ?_
  exact ret_tmp rfl rfl ⟨rfl,rfl⟩
 refine ent_cond_false rfl (decide_eq_false c10) (ent_skip (ent_seq (ent_region (ent_value (ov_move rfl) rfl rfl rfl ?_))))
 obtain ⟨x15,h15,H⟩ := Option.bind_eq_some_iff.1 H
 refine ent_op (ot_call0 (first := []) (cap := []) (xs := [.tmp 16]) rfl rfl F_call_7 rfl (words_Number.spec K a0 _ h15)) rfl rfl rfl ?_
 rintro _ _ ⟨rfl,rfl⟩
 refine ent_value (ov_move rfl) rfl rfl rfl (ent_value (ov_extract rfl rfl) rfl rfl rfl (ent_value (ov_extract rfl rfl) rfl rfl rfl (ent_value (ov_assign rfl) rfl rfl rfl (ent_value (ov_assign rfl) rfl rfl rfl (ent_nil (ent_seq (ent_region (ent_value (ov_move rfl) rfl rfl rfl ?_))))))))
 obtain ⟨x16,h16,H⟩ := Option.bind_eq_some_iff.1 H
 refine ent_op (ot_call0 (first := []) (cap := []) (xs := [.tmp 21]) rfl rfl F_call_8 rfl (ossuaryref34_Number.spec K a0 _ h16)) rfl rfl rfl ?_
 rintro _ _ ⟨rfl,rfl⟩
 refine ent_value (ov_move rfl) rfl rfl rfl (ent_value (ov_extract rfl rfl) rfl rfl rfl (ent_value (ov_extract rfl rfl) rfl rfl rfl (ent_value (ov_assign rfl) rfl rfl rfl (ent_value (ov_assign rfl) rfl rfl rfl (ent_nil (ent_seq (ent_region (ent_value (ov_move rfl) rfl rfl rfl ?_))))))))
 obtain ⟨x17,h17,H⟩ := Option.bind_eq_some_iff.1 H
 refine ent_op (ot_call0 (first := []) (cap := []) (xs := [.tmp 26]) rfl rfl F_call_9 rfl (words_Bare.spec K a0 _ h17)) rfl rfl rfl ?_
 rintro _ _ ⟨rfl,rfl⟩
 refine ent_value (ov_move rfl) rfl rfl rfl (ent_value (ov_extract rfl rfl) rfl rfl rfl (ent_value (ov_extract rfl rfl) rfl rfl rfl (ent_value (ov_assign rfl) rfl rfl rfl (ent_value (ov_assign rfl) rfl rfl rfl (ent_nil (ent_seq (ent_region (ent_value (ov_move rfl) rfl rfl rfl ?_))))))))
 obtain ⟨x18,h18,H⟩ := Option.bind_eq_some_iff.1 H
 refine ent_op (ot_call0 (first := []) (cap := []) (xs := [.tmp 31]) rfl rfl F_call_10 rfl (ossuaryref34_Bare.spec K a0 _ h18)) rfl rfl rfl ?_
 rintro _ _ ⟨rfl,rfl⟩
 refine ent_value (ov_move rfl) rfl rfl rfl (ent_value (ov_extract rfl rfl) rfl rfl rfl (ent_value (ov_extract rfl rfl) rfl rfl rfl (ent_value (ov_assign rfl) rfl rfl rfl (ent_value (ov_assign rfl) rfl rfl rfl (ent_nil (ent_seq (ent_region (ent_value (ov_move rfl) rfl rfl rfl (ent_value (ov_move rfl) rfl rfl rfl (ent_value (ov_bin rfl rfl (b_eql _ _ _)) rfl rfl rfl (ent_value (ov_move rfl) rfl rfl rfl ?_)))))))))))
 refine htF H (fun c11 H => ?_) fun c11 H => ?_
 ·refine ent_off rfl rfl rfl (eq_f c11) rfl rfl ?_
  refine ent_off rfl rfl rfl (eq_f c11) rfl rfl ?_
  refine ent_off rfl rfl rfl (eq_f c11) rfl rfl ?_
  refine ent_value (ov_pick rfl rfl rfl (pick_f (eq_f c11))) rfl rfl rfl (ent_value (ov_move rfl) rfl rfl rfl ?_)
  refine ent_off rfl rfl rfl rfl rfl rfl ?_
  refine ent_off rfl rfl rfl rfl rfl rfl ?_
  refine ent_off rfl rfl rfl rfl rfl rfl ?_
  refine ent_value (ov_pick rfl rfl rfl rfl) rfl rfl rfl (ent_value (ov_move rfl) rfl rfl rfl ?_)
  refine ent_off rfl rfl rfl rfl rfl rfl ?_
  refine ent_off rfl rfl rfl rfl rfl rfl ?_
  refine ent_off rfl rfl rfl rfl rfl rfl ?_
  refine ent_value (ov_pick rfl rfl rfl rfl) rfl rfl rfl (ent_value (ov_move rfl) rfl rfl rfl ?_)
  refine ent_off rfl rfl rfl rfl rfl rfl ?_
  refine ent_off rfl rfl rfl rfl rfl rfl ?_
  refine ent_off rfl rfl rfl rfl rfl rfl ?_
  refine ent_off rfl rfl rfl rfl rfl rfl ?_
  refine ent_off rfl rfl rfl rfl rfl rfl ?_
  refine ent_value (ov_pick rfl rfl rfl rfl) rfl rfl rfl (ent_value (ov_move rfl) rfl rfl rfl ?_)
  refine ent_off rfl rfl rfl rfl rfl rfl ?_
  refine ent_off rfl rfl rfl rfl rfl rfl ?_
  refine ent_off rfl rfl rfl rfl rfl rfl ?_
  refine ent_off rfl rfl rfl rfl rfl rfl ?_
  refine ent_off rfl rfl rfl rfl rfl rfl ?_
  refine ent_value (ov_pick rfl rfl rfl rfl) rfl rfl rfl (ent_value (ov_move rfl) rfl rfl rfl ?_)
  refine ent_off rfl rfl rfl rfl rfl rfl ?_
  refine ent_value (ov_pick rfl rfl rfl rfl) rfl rfl rfl (ent_value (ov_assign rfl) rfl rfl rfl (ent_nil (ent_retc ?_)))
  cases H
  refine ent_pick [] (by decide) rfl ?_
  exact ret_tmp rfl rfl ⟨rfl,rfl⟩
 refine ent_value_on (ov_move rfl) rfl rfl rfl (eq_t c11) rfl rfl ?_
 refine ent_value_on (ov_move rfl) rfl rfl rfl (eq_t c11) rfl rfl ?_
 refine ent_value_on (ov_bin rfl rfl (b_eql_bool Tryd.underlying4 _ _)) rfl rfl rfl (eq_t c11) rfl rfl ?_
 refine ent_value (ov_pick rfl rfl rfl (pick_t (eq_t c11))) rfl rfl rfl (ent_value (ov_move rfl) rfl rfl rfl ?_)
 refine htF H (fun c12 H => ?_) fun c12 H => ?_
 ·refine ent_off rfl rfl rfl (Bool.eq_false_iff.2 c12) rfl rfl ?_
  refine ent_off rfl rfl rfl (Bool.eq_false_iff.2 c12) rfl rfl ?_
  refine ent_off rfl rfl rfl (Bool.eq_false_iff.2 c12) rfl rfl ?_
  refine ent_value (ov_pick rfl rfl rfl (pick_f (Bool.eq_false_iff.2 c12))) rfl rfl rfl (ent_value (ov_move rfl) rfl rfl rfl ?_)
  refine ent_off rfl rfl rfl rfl rfl rfl ?_
  refine ent_off rfl rfl rfl rfl rfl rfl ?_
  refine ent_off rfl rfl rfl rfl rfl rfl ?_
  refine ent_value (ov_pick rfl rfl rfl rfl) rfl rfl rfl (ent_value (ov_move rfl) rfl rfl rfl ?_)
  refine ent_off rfl rfl rfl rfl rfl rfl ?_
  refine ent_off rfl rfl rfl rfl rfl rfl ?_
  refine ent_off rfl rfl rfl rfl rfl rfl ?_
  refine ent_off rfl rfl rfl rfl rfl rfl ?_
  refine ent_off rfl rfl rfl rfl rfl rfl ?_
  refine ent_value (ov_pick rfl rfl rfl rfl) rfl rfl rfl (ent_value (ov_move rfl) rfl rfl rfl ?_)
  refine ent_off rfl rfl rfl rfl rfl rfl ?_
  refine ent_off rfl rfl rfl rfl rfl rfl ?_
  refine ent_off rfl rfl rfl rfl rfl rfl ?_
  refine ent_off rfl rfl rfl rfl rfl rfl ?_
  refine ent_off rfl rfl rfl rfl rfl rfl ?_
  refine ent_value (ov_pick rfl rfl rfl rfl) rfl rfl rfl (ent_value (ov_move rfl) rfl rfl rfl ?_)
  refine ent_off rfl rfl rfl rfl rfl rfl ?_
  refine ent_value (ov_pick rfl rfl rfl rfl) rfl rfl rfl (ent_value (ov_assign rfl) rfl rfl rfl (ent_nil (ent_retc ?_)))
  cases H
  refine ent_pick [] (by decide) rfl ?_
  exact ret_tmp rfl rfl ⟨rfl,rfl⟩
 refine ent_value_on (ov_move rfl) rfl rfl rfl c12 rfl rfl ?_
 refine ent_value_on (ov_move rfl) rfl rfl rfl c12 rfl rfl ?_
 refine ent_value_on (ov_bin rfl rfl (b_eql_str _ _)) rfl rfl rfl c12 rfl rfl ?_
 refine ent_value (ov_pick rfl rfl rfl (pick_t c12)) rfl rfl rfl (ent_value (ov_move rfl) rfl rfl rfl ?_)
 refine htF H (fun c13 H => ?_) fun c13 H => ?_
 ·refine ent_off rfl rfl rfl (eq_f c13) rfl rfl ?_
  refine ent_off rfl rfl rfl (eq_f c13) rfl rfl ?_
  refine ent_off rfl rfl rfl (eq_f c13) rfl rfl ?_
  refine ent_value (ov_pick rfl rfl rfl (pick_f (eq_f c13))) rfl rfl rfl (ent_value (ov_move rfl) rfl rfl rfl ?_)
  refine ent_off rfl rfl rfl rfl rfl rfl ?_
  refine ent_off rfl rfl rfl rfl rfl rfl ?_
  refine ent_off rfl rfl rfl rfl rfl rfl ?_
  refine ent_off rfl rfl rfl rfl rfl rfl ?_
  refine ent_off rfl rfl rfl rfl rfl rfl ?_
  refine ent_value (ov_pick rfl rfl rfl rfl) rfl rfl rfl (ent_value (ov_move rfl) rfl rfl rfl ?_)
  refine ent_off rfl rfl rfl rfl rfl rfl ?_
  refine ent_off rfl rfl rfl rfl rfl rfl ?_
  refine ent_off rfl rfl rfl rfl rfl rfl ?_
  refine ent_off rfl rfl rfl rfl rfl rfl ?_
  refine ent_off rfl rfl rfl rfl rfl rfl ?_
  refine ent_value (ov_pick rfl rfl rfl rfl) rfl rfl rfl (ent_value (ov_move rfl) rfl rfl rfl ?_)
  refine ent_off rfl rfl rfl rfl rfl rfl ?_
  refine ent_value (ov_pick rfl rfl rfl rfl) rfl rfl rfl (ent_value (ov_assign rfl) rfl rfl rfl (ent_nil (ent_retc ?_)))
  cases H
  refine ent_pick [] (by decide) rfl ?_
  exact ret_tmp rfl rfl ⟨rfl,rfl⟩
 refine ent_value_on (ov_move rfl) rfl rfl rfl (eq_t c13) rfl rfl ?_
 refine ent_value_on (ov_move rfl) rfl rfl rfl (eq_t c13) rfl rfl ?_
 refine ent_value_on (ov_bin rfl rfl (b_eql_bool Tryd.underlying4 _ _)) rfl rfl rfl (eq_t c13) rfl rfl ?_
 refine ent_value (ov_pick rfl rfl rfl (pick_t (eq_t c13))) rfl rfl rfl (ent_value (ov_move rfl) rfl rfl rfl ?_)
 refine htF H (fun c14 H => ?_) fun c14 H => ?_
 ·refine ent_off rfl rfl rfl (Bool.eq_false_iff.2 c14) rfl rfl ?_
  refine ent_off rfl rfl rfl (Bool.eq_false_iff.2 c14) rfl rfl ?_
  refine ent_off rfl rfl rfl (Bool.eq_false_iff.2 c14) rfl rfl ?_
  refine ent_off rfl rfl rfl (Bool.eq_false_iff.2 c14) rfl rfl ?_
  refine ent_off rfl rfl rfl (Bool.eq_false_iff.2 c14) rfl rfl ?_
  refine ent_value (ov_pick rfl rfl rfl (pick_f (Bool.eq_false_iff.2 c14))) rfl rfl rfl (ent_value (ov_move rfl) rfl rfl rfl ?_)
  refine ent_off rfl rfl rfl rfl rfl rfl ?_
  refine ent_off rfl rfl rfl rfl rfl rfl ?_
  refine ent_off rfl rfl rfl rfl rfl rfl ?_
  refine ent_off rfl rfl rfl rfl rfl rfl ?_
  refine ent_off rfl rfl rfl rfl rfl rfl ?_
  refine ent_value (ov_pick rfl rfl rfl rfl) rfl rfl rfl (ent_value (ov_move rfl) rfl rfl rfl ?_)
  refine ent_off rfl rfl rfl rfl rfl rfl ?_
  refine ent_value (ov_pick rfl rfl rfl rfl) rfl rfl rfl (ent_value (ov_assign rfl) rfl rfl rfl (ent_nil (ent_retc ?_)))
  cases H
  refine ent_pick [] (by decide) rfl ?_
  exact ret_tmp rfl rfl ⟨rfl,rfl⟩
 refine ent_value_on (ov_move rfl) rfl rfl rfl c14 rfl rfl ?_
 obtain ⟨x19,h19,H⟩ := Option.bind_eq_some_iff.1 H
 refine ent_op_on (ot_call0 (first := []) (cap := []) (xs := [.tmp 54]) rfl rfl F_call_11 rfl (words_Quote.spec K a0 _ h19)) rfl rfl rfl c14 rfl rfl ?_
 rintro _ _ ⟨rfl,rfl⟩
 refine ent_value_on (ov_move rfl) rfl rfl rfl c14 rfl rfl ?_
 obtain ⟨x20,h20,H⟩ := Option.bind_eq_some_iff.1 H
 refine ent_op_on (ot_call0 (first := []) (cap := []) (xs := [.tmp 56]) rfl rfl F_call_12 rfl (ossuaryref34_Quote.spec K a0 _ h20)) rfl rfl rfl c14 rfl rfl ?_
 rintro _ _ ⟨rfl,rfl⟩
 refine ent_value_on (ov_bin rfl rfl (b_eql_str _ _)) rfl rfl rfl c14 rfl rfl ?_
 refine ent_value (ov_pick rfl rfl rfl (pick_t c14)) rfl rfl rfl (ent_value (ov_move rfl) rfl rfl rfl ?_)
 refine htF H (fun c15 H => ?_) fun c15 H => ?_
 ·refine ent_off rfl rfl rfl (eq_f c15) rfl rfl ?_
  refine ent_off rfl rfl rfl (eq_f c15) rfl rfl ?_
  refine ent_off rfl rfl rfl (eq_f c15) rfl rfl ?_
  refine ent_off rfl rfl rfl (eq_f c15) rfl rfl ?_
  refine ent_off rfl rfl rfl (eq_f c15) rfl rfl ?_
  refine ent_value (ov_pick rfl rfl rfl (pick_f (eq_f c15))) rfl rfl rfl (ent_value (ov_move rfl) rfl rfl rfl ?_)
  refine ent_off rfl rfl rfl rfl rfl rfl ?_
  refine ent_value (ov_pick rfl rfl rfl rfl) rfl rfl rfl (ent_value (ov_assign rfl) rfl rfl rfl (ent_nil (ent_retc ?_)))
  cases H
  refine ent_pick [] (by decide) rfl ?_
  exact ret_tmp rfl rfl ⟨rfl,rfl⟩
 refine ent_value_on (ov_move rfl) rfl rfl rfl (eq_t c15) rfl rfl ?_
 obtain ⟨x21,h21,H⟩ := Option.bind_eq_some_iff.1 H
 refine ent_op_on (ot_call (Lr := []) (first := []) (cap := []) (xs := [.tmp 61]) rfl rfl F_call_14 rfl (words_Split.spec a0 _ h21) rfl) rfl rfl rfl (eq_t c15) rfl rfl ?_
 rintro sv3 _ ⟨_,⟨_,rfl,rfl⟩,rfl⟩
 refine ent_value_on (ov_move rfl) rfl rfl rfl (eq_t c15) rfl rfl ?_
 obtain ⟨x22,h22,H⟩ := Option.bind_eq_some_iff.1 H
 refine ent_op_on (ot_call (Lr := [own sv3 9 1 x21.length (fl eS x21)]) (first := []) (cap := []) (xs := [.tmp 63]) rfl rfl F_call_15 rfl (ossuaryref34_Split.spec K a0 _ h22) rfl) rfl rfl rfl (eq_t c15) rfl rfl ?_
 rintro sv4 _ ⟨_,⟨_,rfl,rfl⟩,rfl⟩
 obtain ⟨x23,h23,H⟩ := Option.bind_eq_some_iff.1 H
 refine ent_op_on (ot_call_same (Lr := []) [1,0] [1,0] (first := []) (cap := []) (xs := [.tmp 62,.tmp 64]) rfl rfl F_call_13 rfl (ossuaryref10_Same_RR.spec K sv3 (own sv3 9 1 x21.length (fl eS x21)) sv4 (own sv4 9 1 x22.length (fl eS x22)) x21 x22 (isRd_ownx 9) (isRd_ownx 9) _ h23) (by decide) rfl (by decide) rfl) rfl rfl rfl (eq_t c15) rfl rfl ?_
 rintro _ _ ⟨rfl,rfl⟩
 refine ent_value (ov_pick rfl rfl rfl (pick_t (eq_t c15))) rfl rfl rfl (ent_value (ov_move rfl) rfl rfl rfl ?_)
 refine htF H (fun c16 H => ?_) fun c16 H => ?_
 ·refine ent_off rfl rfl rfl (Bool.eq_false_iff.2 c16) rfl rfl ?_
  refine ent_value (ov_pick rfl rfl rfl (pick_f (Bool.eq_false_iff.2 c16))) rfl rfl rfl (ent_value (ov_assign rfl) rfl rfl rfl (ent_nil (ent_retc ?_)))
  cases H
  refine ent_pick [] (by decide) rfl ?_
  exact ret_tmp rfl rfl ⟨rfl,rfl⟩
 obtain ⟨x24,h24,H⟩ := Option.bind_eq_some_iff.1 H
 refine ent_op_on (ot_call0 (first := []) (cap := []) (xs := []) rfl rfl F_call_6 rfl (ossuarylaw34_alive.spec K _ h24)) rfl rfl rfl c16 rfl rfl ?_
 rintro _ _ ⟨rfl,rfl⟩
 refine ent_value (ov_pick rfl rfl rfl (pick_t c16)) rfl rfl rfl (ent_value (ov_assign rfl) rfl rfl rfl (ent_nil (ent_retc ?_)))
 cases H
 refine ent_pick [] (by decide) rfl ?_
 exact ret_tmp rfl rfl ⟨rfl,rfl⟩

end Go.Proofs.YtgbjponaoeiglaaDoor.WordsBares
