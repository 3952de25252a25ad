/- Printed by gen.py: that the machine's calls do what the plain functions of StatSums say. -/
import Derived.Test.YtndeodpckfjakaaStatSumsWalk1
import Derived.Test.YtndeodpckfjakaaESq
import Derived.Test.YtndeodpckfjakaaProg
import Derived.Test.YtndeodpckfjakaaEBun
import Derived.Test.YtndeodpckfjakaaERange
import Derived.Test.YtndeodpckfjakaaEMake
import Derived.Test.YtndeodpckfjakaaEJag
import Derived.Test.YtndeodpckfjakaaEInsert
import Derived.Test.YtndeodpckfjakaaStatSumsPure
set_option linter.unusedVariables false
set_option linter.unusedSimpArgs false
set_option maxHeartbeats 8000000
set_option maxRecDepth 100000
namespace Go.Proofs.Ytndeodpckfjakaa.StatSums
open Go Go.RowKit E
open Go.Value (int bool slice agg)

theorem stat_Pivot_R.spec (K : Nat) (sv0 : Value) (A0 : HP) (l0 : List Api_Row) (a1 a2 : Int) (hA0 : IsRd A0 sv0 l0.length 9 (fl enc_Api_Row l0)) (r : (Int × (List (List UInt8)) × (List (List UInt8)) × (List (List Api_Cell)))) (H : stat_Pivot_R K l0 a1 a2 = some r) : FnSpec Try.prog 11 [sv0,I a1,I a2] [A0] (fun v M => ∃ sv35 : Value,∃ sv36 : Value,∃ sv37 : JG,v = (tU #[agg #[sv35,sv36,sv37.sv],I r.1]) ∧ M = [own sv35 9 1 r.2.1.length (fl eS r.2.1),own sv36 9 1 r.2.2.1.length (fl eS r.2.2.1),(jown sv37 37 1 eJ 39 4 List.length (fl enc_Api_Cell) r.2.2.2),A0]) := by
 unfold stat_Pivot_R at H
 refine spec_of Try.func11 rfl 116 rfl (Nat.le_of_ble_eq_true rfl) fun F w0 => ?_
 show Ent (St 116 w0 F [(0,sv0),(1,I a1),(2,I a2)] [A0]) _
 refine ent_seq (ent_region ?_)
 refine ent_op (ot_alloc F_zero_33) rfl rfl rfl ?_
 rintro _ _ ⟨b21,rfl,rfl⟩
 refine ent_value (ov_assign rfl) rfl rfl rfl (ent_nil (ent_seq (ent_seq (ent_region (ent_value (ov_move rfl) rfl rfl rfl (ent_value (ov_bin rfl rfl (b_lss _ _ _)) rfl rfl rfl (ent_value (ov_move rfl) rfl rfl rfl ?_)))))))
 refine htT H (fun c206 H => ?_) fun c206 H => ?_
 ·refine ent_off rfl rfl rfl (decide_eq_true c206) rfl rfl ?_
  refine ent_off rfl rfl rfl (decide_eq_true c206) rfl rfl ?_
  refine ent_value (ov_pick rfl rfl rfl (pick_t (decide_eq_true c206))) rfl rfl rfl (ent_value (ov_move rfl) rfl rfl rfl ?_)
  refine ent_off rfl rfl rfl rfl rfl rfl ?_
  refine ent_off rfl rfl rfl rfl rfl rfl ?_
  refine ent_value (ov_pick rfl rfl rfl rfl) rfl rfl rfl (ent_value (ov_move rfl) rfl rfl rfl ?_)
  refine ent_off rfl rfl rfl rfl rfl rfl ?_
  refine ent_off rfl rfl rfl rfl rfl rfl ?_
  refine ent_value (ov_pick rfl rfl rfl rfl) rfl rfl rfl (ent_value (ov_move rfl) rfl rfl rfl ?_)
  refine ent_off rfl rfl rfl rfl rfl rfl ?_
  refine ent_off rfl rfl rfl rfl rfl rfl ?_
  refine ent_off rfl rfl rfl rfl rfl rfl ?_
  refine ent_value (ov_pick rfl rfl rfl rfl) rfl rfl rfl (ent_nil (ent_cond_true rfl rfl (ent_seq (ent_region (ent_value (ov_build (is := []) (xs := []) (vs := []) rfl rfl (build_struct (cs := [L0,L0,L0]) F_zero_33 F_places_33 rfl)) rfl rfl rfl ?_)))))
  refine ent_op0 (ot_storeG (cs := [L0,L0,L0]) (cs' := [L0,L0,L0]) (us := [L0,L0,L0]) (L' := [box b21 33 [L0,L0,L0],A0]) 0 rfl rfl rfl (one_all rfl) F_size_33 rfl rfl (by simp) rfl) rfl rfl ?_
  rintro _ _ rfl
  refine ent_value (ov_assign rfl) rfl rfl rfl (ent_nil (ent_retc ?_))
  first | (have e_ := Option.some.inj (show some _ = some _ from H); subst e_) | subst H
  refine ent_ownnil 9 1 ?_
  refine ent_ownnil 9 1 ?_
  refine ent_jnil 37 1 eJ 39 4 List.length (fl enc_Api_Cell) ?_
  exact ret_memp [2,1,0,4] (by decide) rfl (vs := [agg #[L0,L0,L0],I 1]) rfl ⟨⟨_,[L0,L0,L0],rfl,reads_boxW (i := 3) rfl,.inl ⟨F_agg_33,F_size_33,rfl⟩⟩,⟨rfl,trivial⟩⟩ _ rfl ⟨_,_,jnil,rfl,rfl⟩
 refine ent_value_on (ov_move rfl) rfl rfl rfl (decide_eq_false c206) rfl rfl ?_
 refine ent_value_on (ov_bin rfl rfl (b_geq _ _ _)) rfl rfl rfl (decide_eq_false c206) rfl rfl ?_
 refine ent_value (ov_pick rfl rfl rfl (pick_f (decide_eq_false c206))) rfl rfl rfl (ent_value (ov_move rfl) rfl rfl rfl ?_)
 refine htT H (fun c207 H => ?_) fun c207 H => ?_
 ·refine ent_off rfl rfl rfl (decide_eq_true c207) rfl rfl ?_
  refine ent_off rfl rfl rfl (decide_eq_true c207) rfl rfl ?_
  refine ent_value (ov_pick rfl rfl rfl (pick_t (decide_eq_true c207))) rfl rfl rfl (ent_value (ov_move rfl) rfl rfl rfl ?_)
  refine ent_off rfl rfl rfl rfl rfl rfl ?_
  refine ent_off rfl rfl rfl rfl rfl rfl ?_
  refine ent_value (ov_pick rfl rfl rfl rfl) rfl rfl rfl (ent_value (ov_move rfl) rfl rfl rfl ?_)
  refine ent_off rfl rfl rfl rfl rfl rfl ?_
  refine ent_off rfl rfl rfl rfl rfl rfl ?_
  refine ent_off rfl rfl rfl rfl rfl rfl ?_
  refine ent_value (ov_pick rfl rfl rfl rfl) rfl rfl rfl (ent_nil (ent_cond_true rfl rfl (ent_seq (ent_region (ent_value (ov_build (is := []) (xs := []) (vs := []) rfl rfl (build_struct (cs := [L0,L0,L0]) F_zero_33 F_places_33 rfl)) rfl rfl rfl ?_)))))
  refine ent_op0 (ot_storeG (cs := [L0,L0,L0]) (cs' := [L0,L0,L0]) (us := [L0,L0,L0]) (L' := [box b21 33 [L0,L0,L0],A0]) 0 rfl rfl rfl (one_all rfl) F_size_33 rfl rfl (by simp) rfl) rfl rfl ?_
  rintro _ _ rfl
  refine ent_value (ov_assign rfl) rfl rfl rfl (ent_nil (ent_retc ?_))
  first | (have e_ := Option.some.inj (show some _ = some _ from H); subst e_) | subst H
  refine ent_ownnil 9 1 ?_
  refine ent_ownnil 9 1 ?_
  refine ent_jnil 37 1 eJ 39 4 List.length (fl enc_Api_Cell) ?_
  exact ret_memp [2,1,0,4] (by decide) rfl (vs := [agg #[L0,L0,L0],I 1]) rfl ⟨⟨_,[L0,L0,L0],rfl,reads_boxW (i := 3) rfl,.inl ⟨F_agg_33,F_size_33,rfl⟩⟩,⟨rfl,trivial⟩⟩ _ rfl ⟨_,_,jnil,rfl,rfl⟩
 refine ent_value_on (ov_move rfl) rfl rfl rfl (decide_eq_false c207) rfl rfl ?_
 refine ent_value_on (ov_bin rfl rfl (b_lss _ _ _)) rfl rfl rfl (decide_eq_false c207) rfl rfl ?_
 refine ent_value (ov_pick rfl rfl rfl (pick_f (decide_eq_false c207))) rfl rfl rfl (ent_value (ov_move rfl) rfl rfl rfl ?_)
 refine htT H (fun c208 H => ?_) fun c208 H => ?_
 ·refine ent_off rfl rfl rfl (decide_eq_true c208) rfl rfl ?_
  refine ent_off rfl rfl rfl (decide_eq_true c208) rfl rfl ?_
  refine ent_value (ov_pick rfl rfl rfl (pick_t (decide_eq_true c208))) rfl rfl rfl (ent_value (ov_move rfl) rfl rfl rfl ?_)
  refine ent_off rfl rfl rfl rfl rfl rfl ?_
  refine ent_off rfl rfl rfl rfl rfl rfl ?_
  refine ent_off rfl rfl rfl rfl rfl rfl ?_
  refine ent_value (ov_pick rfl rfl rfl rfl) rfl rfl rfl (ent_nil (ent_cond_true rfl rfl (ent_seq (ent_region (ent_value (ov_build (is := []) (xs := []) (vs := []) rfl rfl (build_struct (cs := [L0,L0,L0]) F_zero_33 F_places_33 rfl)) rfl rfl rfl ?_)))))
  refine ent_op0 (ot_storeG (cs := [L0,L0,L0]) (cs' := [L0,L0,L0]) (us := [L0,L0,L0]) (L' := [box b21 33 [L0,L0,L0],A0]) 0 rfl rfl rfl (one_all rfl) F_size_33 rfl rfl (by simp) rfl) rfl rfl ?_
  rintro _ _ rfl
  refine ent_value (ov_assign rfl) rfl rfl rfl (ent_nil (ent_retc ?_))
  first | (have e_ := Option.some.inj (show some _ = some _ from H); subst e_) | subst H
  refine ent_ownnil 9 1 ?_
  refine ent_ownnil 9 1 ?_
  refine ent_jnil 37 1 eJ 39 4 List.length (fl enc_Api_Cell) ?_
  exact ret_memp [2,1,0,4] (by decide) rfl (vs := [agg #[L0,L0,L0],I 1]) rfl ⟨⟨_,[L0,L0,L0],rfl,reads_boxW (i := 3) rfl,.inl ⟨F_agg_33,F_size_33,rfl⟩⟩,⟨rfl,trivial⟩⟩ _ rfl ⟨_,_,jnil,rfl,rfl⟩
 refine ent_value_on (ov_move rfl) rfl rfl rfl (decide_eq_false c208) rfl rfl ?_
 refine ent_value_on (ov_bin rfl rfl (b_geq _ _ _)) rfl rfl rfl (decide_eq_false c208) rfl rfl ?_
 refine ent_value (ov_pick rfl rfl rfl (pick_f (decide_eq_false c208))) rfl rfl rfl (ent_value (ov_move rfl) rfl rfl rfl ?_)
 refine htT H (fun c209 H => ?_) fun c209 H => ?_
 ·refine ent_off rfl rfl rfl (decide_eq_true c209) rfl rfl ?_
  refine ent_off rfl rfl rfl (decide_eq_true c209) rfl rfl ?_
  refine ent_off rfl rfl rfl (decide_eq_true c209) rfl rfl ?_
  refine ent_value (ov_pick rfl rfl rfl (pick_t (decide_eq_true c209))) rfl rfl rfl (ent_nil (ent_cond_true rfl rfl (ent_seq (ent_region (ent_value (ov_build (is := []) (xs := []) (vs := []) rfl rfl (build_struct (cs := [L0,L0,L0]) F_zero_33 F_places_33 rfl)) rfl rfl rfl ?_)))))
  refine ent_op0 (ot_storeG (cs := [L0,L0,L0]) (cs' := [L0,L0,L0]) (us := [L0,L0,L0]) (L' := [box b21 33 [L0,L0,L0],A0]) 0 rfl rfl rfl (one_all rfl) F_size_33 rfl rfl (by simp) rfl) rfl rfl ?_
  rintro _ _ rfl
  refine ent_value (ov_assign rfl) rfl rfl rfl (ent_nil (ent_retc ?_))
  first | (have e_ := Option.some.inj (show some _ = some _ from H); subst e_) | subst H
  refine ent_ownnil 9 1 ?_
  refine ent_ownnil 9 1 ?_
  refine ent_jnil 37 1 eJ 39 4 List.length (fl enc_Api_Cell) ?_
  exact ret_memp [2,1,0,4] (by decide) rfl (vs := [agg #[L0,L0,L0],I 1]) rfl ⟨⟨_,[L0,L0,L0],rfl,reads_boxW (i := 3) rfl,.inl ⟨F_agg_33,F_size_33,rfl⟩⟩,⟨rfl,trivial⟩⟩ _ rfl ⟨_,_,jnil,rfl,rfl⟩
 refine ent_value_on (ov_move rfl) rfl rfl rfl (decide_eq_false c209) rfl rfl ?_
 refine ent_value_on (ov_move rfl) rfl rfl rfl (decide_eq_false c209) rfl rfl ?_
 refine ent_value_on (ov_bin rfl rfl (b_eql _ _ _)) rfl rfl rfl (decide_eq_false c209) rfl rfl ?_
 refine ent_value (ov_pick rfl rfl rfl (pick_f (decide_eq_false c209))) rfl rfl rfl (ent_nil ?_)
 refine htT H (fun c210 H => ?_) fun c210 H => ?_
 ·refine ent_cond_true rfl (eq_t c210) (ent_seq (ent_region (ent_value (ov_build (is := []) (xs := []) (vs := []) rfl rfl (build_struct (cs := [L0,L0,L0]) F_zero_33 F_places_33 rfl)) rfl rfl rfl ?_)))
  refine ent_op0 (ot_storeG (cs := [L0,L0,L0]) (cs' := [L0,L0,L0]) (us := [L0,L0,L0]) (L' := [box b21 33 [L0,L0,L0],A0]) 0 rfl rfl rfl (one_all rfl) F_size_33 rfl rfl (by simp) rfl) rfl rfl ?_
  rintro _ _ rfl
  refine ent_value (ov_assign rfl) rfl rfl rfl (ent_nil (ent_retc ?_))
  first | (have e_ := Option.some.inj (show some _ = some _ from H); subst e_) | subst H
  refine ent_ownnil 9 1 ?_
  refine ent_ownnil 9 1 ?_
  refine ent_jnil 37 1 eJ 39 4 List.length (fl enc_Api_Cell) ?_
  exact ret_memp [2,1,0,4] (by decide) rfl (vs := [agg #[L0,L0,L0],I 1]) rfl ⟨⟨_,[L0,L0,L0],rfl,reads_boxW (i := 3) rfl,.inl ⟨F_agg_33,F_size_33,rfl⟩⟩,⟨rfl,trivial⟩⟩ _ rfl ⟨_,_,jnil,rfl,rfl⟩
 refine ent_cond_false rfl (eq_f c210) (ent_skip (ent_seq (ent_region (ent_value (ov_move rfl) rfl rfl rfl (ent_value (ov_move rfl) rfl rfl rfl ?_)))))
 obtain ⟨x57,h56,H⟩ := Option.bind_eq_some_iff.1 H
 refine ent_pick [1,0] (by decide) rfl ?_
 refine ent_op (ot_call (Lr := [box b21 33 [L0,L0,L0]]) (first := []) (cap := []) (xs := [.tmp 39,.tmp 40]) rfl rfl F_call_34 rfl (stat_texts_R.spec K sv0 A0 l0 a1 hA0 _ h56) rfl) rfl rfl rfl ?_
 rintro _ _ ⟨_,⟨b22,sv38,b23,sv39,rfl,rfl⟩,rfl⟩
 refine ent_value (ov_move rfl) rfl rfl rfl (ent_value (ov_move rfl) rfl rfl rfl ?_)
 obtain ⟨x58,h57,H⟩ := Option.bind_eq_some_iff.1 H
 refine ent_op (ot_call (Lr := [box b22 134 [sv38,pt b23 0],own sv38 9 1 x57.1.length (fl eS x57.1),box b23 177 [sv39],own sv39 174 2 x57.2.length (fl enc_Omap_pair__string___int x57.2),box b21 33 [L0,L0,L0]]) (first := []) (cap := []) (xs := [.tmp 42,.tmp 43]) rfl rfl F_call_34 rfl (stat_texts_R.spec K sv0 A0 l0 a2 hA0 _ h57) rfl) rfl rfl rfl ?_
 rintro _ _ ⟨_,⟨b24,sv40,b25,sv41,rfl,rfl⟩,rfl⟩
 refine ent_value (ov_assign rfl) rfl rfl rfl (ent_value (ov_assign rfl) rfl rfl rfl (ent_nil (ent_seq (ent_region (ent_value (ov_move rfl) rfl rfl rfl ?_)))))
 obtain ⟨x59,h58,H⟩ := Option.bind_eq_some_iff.1 H
 refine ent_pick [5,6,7,8,0,1,2,3,4,9] (by decide) rfl ?_
 refine ent_op (ot_call (Lr := [A0,box b24 134 [sv40,pt b25 0],own sv40 9 1 x58.1.length (fl eS x58.1),box b25 177 [sv41],own sv41 174 2 x58.2.length (fl enc_Omap_pair__string___int x58.2),box b21 33 [L0,L0,L0]]) (first := []) (cap := []) (xs := [.tmp 45]) rfl rfl F_call_35 rfl (stat_all_OO.spec K b22 sv38 b23 sv39 x57.1 x57.2 _ h58) rfl) rfl rfl rfl ?_
 rintro sv42 _ ⟨_,⟨_,rfl,rfl⟩,rfl⟩
 refine ent_value (ov_move rfl) rfl rfl rfl ?_
 obtain ⟨x60,h59,H⟩ := Option.bind_eq_some_iff.1 H
 refine ent_pick [6,7,8,9,0,1,2,3,4,5,10] (by decide) rfl ?_
 refine ent_op (ot_call (Lr := [box b22 134 [sv38,pt b23 0],own sv38 9 1 x57.1.length (fl eS x57.1),box b23 177 [sv39],own sv39 174 2 x57.2.length (fl enc_Omap_pair__string___int x57.2),own sv42 9 1 x59.length (fl eS x59),A0,box b21 33 [L0,L0,L0]]) (first := []) (cap := []) (xs := [.tmp 47]) rfl rfl F_call_35 rfl (stat_all_OO.spec K b24 sv40 b25 sv41 x58.1 x58.2 _ h59) rfl) rfl rfl rfl ?_
 rintro sv43 _ ⟨_,⟨_,rfl,rfl⟩,rfl⟩
 refine ent_value (ov_sl 4 rfl (isRd_ownx 9) fun hc1_ => (ov_sl 9 rfl (isRd_ownx 9) fun hc0_ => (ov_build (is := [0,1]) (xs := [.tmp 46,.tmp 48]) (vs := [sv42,sv43]) rfl rfl (build_struct (cs := [sv42,sv43,L0]) F_zero_33 F_places_33 (by simp [Instr.fill,cells_int,cells_bool,cells_str,cells_func,cells_slice,cells_ptr,cells_nilFunc,cells_agg,hc0_,hc1_]))))) rfl rfl rfl ?_
 refine ent_op (ot_alloc F_zero_33) rfl rfl rfl ?_
 rintro _ _ ⟨b26,rfl,rfl⟩
 refine ent_op0 (ot_storeG (cs := [L0,L0,L0]) (cs' := [sv42,sv43,L0]) (us := [sv42,sv43,L0]) (L' := [box b26 33 [sv42,sv43,L0],box b24 134 [sv40,pt b25 0],own sv40 9 1 x58.1.length (fl eS x58.1),box b25 177 [sv41],own sv41 174 2 x58.2.length (fl enc_Omap_pair__string___int x58.2),own sv43 9 1 x60.length (fl eS x60),box b22 134 [sv38,pt b23 0],own sv38 9 1 x57.1.length (fl eS x57.1),box b23 177 [sv39],own sv39 174 2 x57.2.length (fl enc_Omap_pair__string___int x57.2),own sv42 9 1 x59.length (fl eS x59),A0,box b21 33 [L0,L0,L0]]) 0 rfl rfl rfl (one_sl 10 rfl (isRd_ownx 9) (one_sl 5 rfl (isRd_ownx 9) (one_cons rfl one_nil))) F_size_33 rfl rfl (by simp) rfl) rfl rfl ?_
 rintro _ _ rfl
 refine ent_nil ?_
 obtain ⟨x68,H7,H⟩ := Option.bind_eq_some_iff.1 H
 refine ent_seq_cut (fun a w => ∃ b27 : Nat,∃ b28 : Nat,∃ sv57 : JG,St 116 w0 F [(0,sv0),(1,I a1),(2,I a2),(6,pt b27 0),(8,pt b22 0),(9,pt b24 0),(10,pt b28 0)] [A0,box b27 33 [L0,L0,L0],box b22 134 [sv38,pt b23 0],own sv38 9 1 x57.1.length (fl eS x57.1),box b23 177 [sv39],own sv39 174 2 x57.2.length (fl enc_Omap_pair__string___int x57.2),box b24 134 [sv40,pt b25 0],own sv40 9 1 x58.1.length (fl eS x58.1),box b25 177 [sv41],own sv41 174 2 x58.2.length (fl enc_Omap_pair__string___int x58.2),box b28 33 [sv42,sv43,sv57.sv],own sv42 9 1 x59.length (fl eS x59),own sv43 9 1 x60.length (fl eS x60),(jown sv57 37 1 eJ 39 4 List.length (fl enc_Api_Cell) x68)] a w) ?_ ?_
 ·refine ent_seq (ent_region (ent_value (ov_move rfl) rfl rfl rfl ?_))
  obtain ⟨x69,h67,H7⟩ := thn_elim H7
  refine ent_op (ot_call_same (Lr := [box b26 33 [sv42,sv43,L0],box b24 134 [sv40,pt b25 0],own sv40 9 1 x58.1.length (fl eS x58.1),box b25 177 [sv41],own sv41 174 2 x58.2.length (fl enc_Omap_pair__string___int x58.2),own sv43 9 1 x60.length (fl eS x60),own sv42 9 1 x59.length (fl eS x59),A0,box b21 33 [L0,L0,L0]]) [6,7,8,9,0,1,2,3,4,5,10,11,12] [4,5,6,7,8,9,0,1,2,3,10,11,12] (first := []) (cap := []) (xs := [.tmp 50]) rfl rfl F_call_36 rfl (dict_Dict__string_Len_OO.spec b22 sv38 b23 sv39 x57.1 x57.2 _ h67) (by decide) rfl (by decide) rfl) rfl rfl rfl ?_
  rintro _ _ ⟨rfl,rfl⟩
  refine ent_value (ov_move rfl) rfl rfl rfl (ent_nil (ent_block ?_))
  refine ent_loop (fun k a w => ∃ i7,∃ l11,∃ sv62 : JG,stat_Pivot_R_l0 K x58 x69 k i7 l11 = some x68 ∧ St 116 w0 F [(0,sv0),(1,I a1),(2,I a2),(6,pt b21 0),(8,pt b22 0),(9,pt b24 0),(10,pt b26 0),(51,I x69),(52,I i7)] [A0,box b21 33 [L0,L0,L0],box b22 134 [sv38,pt b23 0],own sv38 9 1 x57.1.length (fl eS x57.1),box b23 177 [sv39],own sv39 174 2 x57.2.length (fl enc_Omap_pair__string___int x57.2),box b24 134 [sv40,pt b25 0],own sv40 9 1 x58.1.length (fl eS x58.1),box b25 177 [sv41],own sv41 174 2 x58.2.length (fl enc_Omap_pair__string___int x58.2),box b26 33 [sv42,sv43,sv62.sv],own sv42 9 1 x59.length (fl eS x59),own sv43 9 1 x60.length (fl eS x60),(jown sv62 37 1 eJ 39 4 List.length (fl enc_Api_Cell) l11)] a w) K ?_ ?_
  ·refine ent_jnil 37 1 eJ 39 4 List.length (fl enc_Api_Cell) ?_
   exact ent_fin [12,13,7,8,9,10,2,3,4,5,1,11,6,0] (by decide) rfl (sub_cons (t := 0) rfl (sub_cons (t := 1) rfl (sub_cons (t := 2) rfl (sub_cons (t := 6) rfl (sub_cons (t := 8) rfl (sub_cons (t := 9) rfl (sub_cons (t := 10) rfl (sub_cons (t := 51) rfl (sub_cons (t := 52) rfl (sub_nil _)))))))))) fun a w h => ⟨_,_,jnil,H7,h⟩
  ·refine fun k => ent_exi fun i7 => ent_exi fun l11 => ent_exi fun sv62 => ent_and fun H8 => ?_
   cases k with
   | zero => exact absurd H8 (by simp [stat_Pivot_R_l0])
   | succ k =>
    rw [stat_Pivot_R_l0] at H8
    refine ent_seq (ent_region (ent_value (ov_bin rfl rfl (b_lss _ _ _)) rfl rfl rfl (ent_nil (ent_seq ?_))))
    refine htF H8 (fun c252 H8 => ?_) fun c252 H8 => ?_
    ·refine ent_cond_false rfl (decide_eq_false c252) (ent_exit ?_)
     cases H8
     exact ent_fin [0,1,2,3,4,5,6,7,8,9,10,11,12,13] (by decide) rfl (sub_cons (t := 0) rfl (sub_cons (t := 1) rfl (sub_cons (t := 2) rfl (sub_cons (t := 6) rfl (sub_cons (t := 8) rfl (sub_cons (t := 9) rfl (sub_cons (t := 10) rfl (sub_nil _)))))))) fun a w h => ⟨_,_,sv62,h⟩
    refine ent_cond_true rfl (decide_eq_true c252) (ent_skip (ent_seq (ent_block ?_)))
    obtain ⟨x75,h73,H8⟩ := thn_elim H8
    obtain ⟨c256,H8⟩ := gdT H8
    obtain ⟨c257,H8⟩ := gdT H8
    obtain ⟨c258,H8⟩ := gdT H8
    refine ent_jnil 37 1 eJ 39 4 List.length (fl enc_Api_Cell) ?_
    let Z48_T : DT := fun ga37 => [(0,54,pt b26 2),(1,55,sv62.sv),(2,56,pt b24 0),(3,57,I x75),(4,58,(ga37 4)),(5,59,(ga37 5)),(6,60,(ga37 6)),(7,61,pt b26 2)]
    let Z48_L : DL := fun ga37 done => [sel (done 6) emp (sel (done 5) (own (ga37 5) 37 1 1 (eJ (List.replicate x75.toNat (⟨0,0,0,0⟩ : Api_Cell)) (ga37 4))) emp),sel (done 6) emp (sel (done 4) (own (ga37 4) 39 4 (List.replicate x75.toNat (⟨0,0,0,0⟩ : Api_Cell)).length (fl enc_Api_Cell (List.replicate x75.toNat (⟨0,0,0,0⟩ : Api_Cell)))) emp),(jown jnil 37 1 eJ 39 4 List.length (fl enc_Api_Cell) ([] : List (List Api_Cell))),A0,box b21 33 [L0,L0,L0],box b22 134 [sv38,pt b23 0],own sv38 9 1 x57.1.length (fl eS x57.1),box b23 177 [sv39],own sv39 174 2 x57.2.length (fl enc_Omap_pair__string___int x57.2),box b24 134 [sv40,pt b25 0],own sv40 9 1 x58.1.length (fl eS x58.1),box b25 177 [sv41],own sv41 174 2 x58.2.length (fl enc_Omap_pair__string___int x58.2),sel (done 8) (box b26 33 [sv42,sv43,(ga37 6)]) (box b26 33 [sv42,sv43,sv62.sv]),own sv42 9 1 x59.length (fl eS x59),own sv43 9 1 x60.length (fl eS x60),sel (done 6) (hown (ga37 6) 37 1 eJ 39 4 List.length (fl enc_Api_Cell) (l11 ++ [(List.replicate x75.toNat (⟨0,0,0,0⟩ : Api_Cell))])) (jown sv62 37 1 eJ 39 4 List.length (fl enc_Api_Cell) l11)]
    let Z48_I : DI := fun ga37 done a w => StD 116 w0 F [(0,sv0),(1,I a1),(2,I a2),(6,pt b21 0),(8,pt b22 0),(9,pt b24 0),(10,pt b26 0),(51,I x69),(52,I i7),(53,Value.bool (decide (i7 < x69)))] (Z48_T ga37) done (Z48_L ga37 done) a w
    refine ent_drawm 9 rfl (fun done a w => ∃ ga37 : Nat → Value,Z48_I ga37 done a w) (by kernel_rfl) (by kernel_rfl) (draw_startG (T := Z48_T) (L' := fun ga37 : Nat → Value => [sel false emp (sel false (own (ga37 5) 37 1 1 (eJ (List.replicate x75.toNat (⟨0,0,0,0⟩ : Api_Cell)) (ga37 4))) emp),sel false emp (sel false (own (ga37 4) 39 4 (List.replicate x75.toNat (⟨0,0,0,0⟩ : Api_Cell)).length (fl enc_Api_Cell (List.replicate x75.toNat (⟨0,0,0,0⟩ : Api_Cell)))) emp),(jown jnil 37 1 eJ 39 4 List.length (fl enc_Api_Cell) ([] : List (List Api_Cell))),A0,box b21 33 [L0,L0,L0],box b22 134 [sv38,pt b23 0],own sv38 9 1 x57.1.length (fl eS x57.1),box b23 177 [sv39],own sv39 174 2 x57.2.length (fl enc_Omap_pair__string___int x57.2),box b24 134 [sv40,pt b25 0],own sv40 9 1 x58.1.length (fl eS x58.1),box b25 177 [sv41],own sv41 174 2 x58.2.length (fl enc_Omap_pair__string___int x58.2),sel false (box b26 33 [sv42,sv43,(ga37 6)]) (box b26 33 [sv42,sv43,sv62.sv]),own sv42 9 1 x59.length (fl eS x59),own sv43 9 1 x60.length (fl eS x60),sel false (hown (ga37 6) 37 1 eJ 39 4 List.length (fl enc_Api_Cell) (l11 ++ [(List.replicate x75.toNat (⟨0,0,0,0⟩ : Api_Cell))])) (jown sv62 37 1 eJ 39 4 List.length (fl enc_Api_Cell) l11)]) 2 (sub_cons (t := 0) rfl (sub_cons (t := 1) rfl (sub_cons (t := 2) rfl (sub_cons (t := 6) rfl (sub_cons (t := 8) rfl (sub_cons (t := 9) rfl (sub_cons (t := 10) rfl (sub_cons (t := 51) rfl (sub_cons (t := 52) rfl (sub_cons (t := 53) rfl (sub_nil _))))))))))) (fun _ => rfl)) ?_ ?_
    ·refine ⟨?_,?_,?_,?_,?_,?_,?_,?_,?_,trivial⟩
     ·intro done hi hc hcu
      refine draw_exi (I := Z48_I) fun ga37 => ?_
      have n8 : done 8 = false := notdone_of (m := 8) hc hi rfl rfl
      exact draw_value (i := 0) (t := 54) (v := (pt b26 2)) rfl rfl (wanted_none rfl) (fun a => hasA_base) (ov_L (L2 := [sel (done 6) emp (sel (done 5) (own (ga37 5) 37 1 1 (eJ (List.replicate x75.toNat (⟨0,0,0,0⟩ : Api_Cell)) (ga37 4))) emp),sel (done 6) emp (sel (done 4) (own (ga37 4) 39 4 (List.replicate x75.toNat (⟨0,0,0,0⟩ : Api_Cell)).length (fl enc_Api_Cell (List.replicate x75.toNat (⟨0,0,0,0⟩ : Api_Cell)))) emp),(jown jnil 37 1 eJ 39 4 List.length (fl enc_Api_Cell) ([] : List (List Api_Cell))),A0,box b21 33 [L0,L0,L0],box b22 134 [sv38,pt b23 0],own sv38 9 1 x57.1.length (fl eS x57.1),box b23 177 [sv39],own sv39 174 2 x57.2.length (fl enc_Omap_pair__string___int x57.2),box b24 134 [sv40,pt b25 0],own sv40 9 1 x58.1.length (fl eS x58.1),box b25 177 [sv41],own sv41 174 2 x58.2.length (fl enc_Omap_pair__string___int x58.2),box b26 33 [sv42,sv43,sv62.sv],own sv42 9 1 x59.length (fl eS x59),own sv43 9 1 x60.length (fl eS x60),sel (done 6) (hown (ga37 6) 37 1 eJ 39 4 List.length (fl enc_Api_Cell) (l11 ++ [(List.replicate x75.toNat (⟨0,0,0,0⟩ : Api_Cell))])) (jown sv62 37 1 eJ 39 4 List.length (fl enc_Api_Cell) l11)]) (by simp only [Z48_T,Z48_L,n8,sel]) (ov_fieldAddr (sz := 0) (o := 0) rfl F_field_33_2 F_size_31)) rfl rfl (onlyT_spec (k0 := 0) rfl rfl rfl)
     ·intro done hi hc hcu
      refine draw_exi (I := Z48_I) fun ga37 => ?_
      have d0 : done 0 = true := done_of (j := 0) hcu rfl (by decide) rfl
      have n8 : done 8 = false := notdone_of (m := 8) hc hi rfl rfl
      exact draw_value (i := 1) (t := 55) (v := sv62.sv) rfl rfl (wanted_none rfl) (fun a => (hasA_cons (k := 0) rfl d0 hasA_base)) (ov_L (L2 := [sel (done 6) emp (sel (done 5) (own (ga37 5) 37 1 1 (eJ (List.replicate x75.toNat (⟨0,0,0,0⟩ : Api_Cell)) (ga37 4))) emp),sel (done 6) emp (sel (done 4) (own (ga37 4) 39 4 (List.replicate x75.toNat (⟨0,0,0,0⟩ : Api_Cell)).length (fl enc_Api_Cell (List.replicate x75.toNat (⟨0,0,0,0⟩ : Api_Cell)))) emp),(jown jnil 37 1 eJ 39 4 List.length (fl enc_Api_Cell) ([] : List (List Api_Cell))),A0,box b21 33 [L0,L0,L0],box b22 134 [sv38,pt b23 0],own sv38 9 1 x57.1.length (fl eS x57.1),box b23 177 [sv39],own sv39 174 2 x57.2.length (fl enc_Omap_pair__string___int x57.2),box b24 134 [sv40,pt b25 0],own sv40 9 1 x58.1.length (fl eS x58.1),box b25 177 [sv41],own sv41 174 2 x58.2.length (fl enc_Omap_pair__string___int x58.2),box b26 33 [sv42,sv43,sv62.sv],own sv42 9 1 x59.length (fl eS x59),own sv43 9 1 x60.length (fl eS x60),sel (done 6) (hown (ga37 6) 37 1 eJ 39 4 List.length (fl enc_Api_Cell) (l11 ++ [(List.replicate x75.toNat (⟨0,0,0,0⟩ : Api_Cell))])) (jown sv62 37 1 eJ 39 4 List.length (fl enc_Api_Cell) l11)]) (by simp only [Z48_T,Z48_L,n8,sel]) (ov_load (v := sv62.sv) rfl F_agg_31 (reads_box1 (i := 13) rfl rfl))) rfl rfl (onlyT_spec (k0 := 1) rfl rfl rfl)
     ·exact fun done hi hc hcu => draw_exi (I := Z48_I) fun ga37 => draw_value (i := 2) (t := 56) (v := (pt b24 0)) rfl rfl (wanted_none rfl) (fun a => hasA_base) (ov_move rfl) rfl rfl (onlyT_spec (k0 := 2) rfl rfl rfl)
     ·exact fun done hi hc hcu => draw_exi (I := Z48_I) fun ga37 => draw_same (i := 3) (t := 57) (v := (I x75)) rfl rfl (wanted_none rfl) (fun a => (hasA_cons (k := 2) rfl (done_of (j := 2) hcu rfl (by decide) rfl) hasA_base)) (ot_call_same (Lr := [sel (done 6) emp (sel (done 5) (own (ga37 5) 37 1 1 (eJ (List.replicate x75.toNat (⟨0,0,0,0⟩ : Api_Cell)) (ga37 4))) emp),sel (done 6) emp (sel (done 4) (own (ga37 4) 39 4 (List.replicate x75.toNat (⟨0,0,0,0⟩ : Api_Cell)).length (fl enc_Api_Cell (List.replicate x75.toNat (⟨0,0,0,0⟩ : Api_Cell)))) emp),(jown jnil 37 1 eJ 39 4 List.length (fl enc_Api_Cell) ([] : List (List Api_Cell))),A0,box b21 33 [L0,L0,L0],box b22 134 [sv38,pt b23 0],own sv38 9 1 x57.1.length (fl eS x57.1),box b23 177 [sv39],own sv39 174 2 x57.2.length (fl enc_Omap_pair__string___int x57.2),sel (done 8) (box b26 33 [sv42,sv43,(ga37 6)]) (box b26 33 [sv42,sv43,sv62.sv]),own sv42 9 1 x59.length (fl eS x59),own sv43 9 1 x60.length (fl eS x60),sel (done 6) (hown (ga37 6) 37 1 eJ 39 4 List.length (fl enc_Api_Cell) (l11 ++ [(List.replicate x75.toNat (⟨0,0,0,0⟩ : Api_Cell))])) (jown sv62 37 1 eJ 39 4 List.length (fl enc_Api_Cell) l11)]) [9,10,11,12,0,1,2,3,4,5,6,7,8,13,14,15,16] [4,5,6,7,8,9,10,11,12,0,1,2,3,13,14,15,16] (first := []) (cap := []) (xs := [.tmp 56]) rfl rfl F_call_36 rfl (dict_Dict__string_Len_OO.spec b24 sv40 b25 sv41 x58.1 x58.2 _ h73) (by decide) rfl (by decide) rfl) rfl rfl (onlyT_spec (k0 := 3) rfl rfl rfl)
     ·intro done hi hc hcu
      refine ent_exi (S := fun ga37 => Z48_I ga37 done) fun ga37 => ?_
      have d3 : done 3 = true := done_of (j := 3) hcu rfl (by decide) rfl
      have n5 : done 5 = false := notdone_of (m := 5) hc hi rfl rfl
      have n6 : done 6 = false := notdone_of (m := 6) hc n5 rfl rfl
      refine draw_newV (i := 4) (t := 58) (x := ga37) (L := Z48_L) (T := Z48_T) (L2 := [emp,emp,(jown jnil 37 1 eJ 39 4 List.length (fl enc_Api_Cell) ([] : List (List Api_Cell))),A0,box b21 33 [L0,L0,L0],box b22 134 [sv38,pt b23 0],own sv38 9 1 x57.1.length (fl eS x57.1),box b23 177 [sv39],own sv39 174 2 x57.2.length (fl enc_Omap_pair__string___int x57.2),box b24 134 [sv40,pt b25 0],own sv40 9 1 x58.1.length (fl eS x58.1),box b25 177 [sv41],own sv41 174 2 x58.2.length (fl enc_Omap_pair__string___int x58.2),sel (done 8) (box b26 33 [sv42,sv43,(ga37 6)]) (box b26 33 [sv42,sv43,sv62.sv]),own sv42 9 1 x59.length (fl eS x59),own sv43 9 1 x60.length (fl eS x60),sel (done 6) (hown (ga37 6) 37 1 eJ 39 4 List.length (fl enc_Api_Cell) (l11 ++ [(List.replicate x75.toNat (⟨0,0,0,0⟩ : Api_Cell))])) (jown sv62 37 1 eJ 39 4 List.length (fl enc_Api_Cell) l11)]) (B := fun v_ => (own v_ 39 4 (List.replicate x75.toNat (⟨0,0,0,0⟩ : Api_Cell)).length (fl enc_Api_Cell (List.replicate x75.toNat (⟨0,0,0,0⟩ : Api_Cell))))) 1 rfl rfl (wanted_none rfl) (fun a => (hasA_cons (k := 3) rfl d3 hasA_base)) (by simp only [Z48_T,Z48_L,n5,n6,hi,sel]) (ot_makeR (sz := 3) (l := x75) (enc := enc_Api_Cell) (⟨0,0,0,0⟩ : Api_Cell) rfl rfl F_slice_37 F_size_39 F_zero_39 rfl F_bytes_39 rfl c256 c257 rfl) ?_ rfl (fun v_ => ?_) rfl rfl ?_
      ·rintro _ _ rfl; rfl
      ·simp [Z48_T,Z48_L,up,upb,sel,n5,n6,n5,hi]
      ·rintro _ _ rfl
       exact (tr_same rfl rfl (tr_same rfl rfl (tr_same rfl rfl (tr_same rfl rfl (tr_this (tr_same rfl rfl (tr_same rfl rfl (tr_same rfl rfl tr_nil))))))))
     ·intro done hi hc hcu
      refine ent_exi (S := fun ga37 => Z48_I ga37 done) fun ga37 => ?_
      have d4 : done 4 = true := done_of (j := 4) hcu rfl (by decide) rfl
      have n6 : done 6 = false := notdone_of (m := 6) hc hi rfl rfl
      refine draw_newV (i := 5) (t := 59) (x := ga37) (L := Z48_L) (T := Z48_T) (L2 := [emp,own (ga37 4) 39 4 (List.replicate x75.toNat (⟨0,0,0,0⟩ : Api_Cell)).length (fl enc_Api_Cell (List.replicate x75.toNat (⟨0,0,0,0⟩ : Api_Cell))),(jown jnil 37 1 eJ 39 4 List.length (fl enc_Api_Cell) ([] : List (List Api_Cell))),A0,box b21 33 [L0,L0,L0],box b22 134 [sv38,pt b23 0],own sv38 9 1 x57.1.length (fl eS x57.1),box b23 177 [sv39],own sv39 174 2 x57.2.length (fl enc_Omap_pair__string___int x57.2),box b24 134 [sv40,pt b25 0],own sv40 9 1 x58.1.length (fl eS x58.1),box b25 177 [sv41],own sv41 174 2 x58.2.length (fl enc_Omap_pair__string___int x58.2),sel (done 8) (box b26 33 [sv42,sv43,(ga37 6)]) (box b26 33 [sv42,sv43,sv62.sv]),own sv42 9 1 x59.length (fl eS x59),own sv43 9 1 x60.length (fl eS x60),sel (done 6) (hown (ga37 6) 37 1 eJ 39 4 List.length (fl enc_Api_Cell) (l11 ++ [(List.replicate x75.toNat (⟨0,0,0,0⟩ : Api_Cell))])) (jown sv62 37 1 eJ 39 4 List.length (fl enc_Api_Cell) l11)]) (B := fun v_ => (own v_ 37 1 1 (eJ (List.replicate x75.toNat (⟨0,0,0,0⟩ : Api_Cell)) (ga37 4)))) 0 rfl rfl (wanted_none rfl) (fun a => (hasA_cons (k := 4) rfl d4 hasA_base)) (by simp only [Z48_T,Z48_L,d4,n6,hi,sel]) (ot_litJ (List.replicate x75.toNat (⟨0,0,0,0⟩ : Api_Cell)) 1 rfl (isRd_ownx 39) rfl F_slice_31 F_size_37 F_zero_37 rfl) ?_ rfl (fun v_ => ?_) rfl rfl ?_
      ·rintro _ _ rfl; rfl
      ·simp [Z48_T,Z48_L,up,upb,sel,d4,n6,hi]
      ·rintro _ _ rfl
       exact (tr_same rfl rfl (tr_same rfl rfl (tr_same rfl rfl (tr_same rfl rfl (tr_same rfl rfl (tr_this (tr_same rfl rfl (tr_same rfl rfl tr_nil))))))))
     ·intro done hi hc hcu
      refine ent_exi (S := fun ga37 => Z48_I ga37 done) fun ga37 => ?_
      have d1 : done 1 = true := done_of (j := 1) hcu rfl (by decide) rfl
      have d5 : done 5 = true := done_of (j := 5) hcu rfl (by decide) rfl
      have d4 : done 4 = true := done_step (i := 5) (j := 4) hc d5 rfl rfl
      have n8 : done 8 = false := notdone_of (m := 8) hc hi rfl rfl
      exact draw_turnI (i := 6) (t := 60) (x := ga37) (L := Z48_L) (T := Z48_T) (L2 := [own (ga37 5) 37 1 1 (eJ (List.replicate x75.toNat (⟨0,0,0,0⟩ : Api_Cell)) (ga37 4)),own (ga37 4) 39 4 (List.replicate x75.toNat (⟨0,0,0,0⟩ : Api_Cell)).length (fl enc_Api_Cell (List.replicate x75.toNat (⟨0,0,0,0⟩ : Api_Cell))),(jown jnil 37 1 eJ 39 4 List.length (fl enc_Api_Cell) ([] : List (List Api_Cell))),A0,box b21 33 [L0,L0,L0],box b22 134 [sv38,pt b23 0],own sv38 9 1 x57.1.length (fl eS x57.1),box b23 177 [sv39],own sv39 174 2 x57.2.length (fl enc_Omap_pair__string___int x57.2),box b24 134 [sv40,pt b25 0],own sv40 9 1 x58.1.length (fl eS x58.1),box b25 177 [sv41],own sv41 174 2 x58.2.length (fl enc_Omap_pair__string___int x58.2),box b26 33 [sv42,sv43,sv62.sv],own sv42 9 1 x59.length (fl eS x59),own sv43 9 1 x60.length (fl eS x60),(jown sv62 37 1 eJ 39 4 List.length (fl enc_Api_Cell) l11)]) rfl rfl (wanted_none rfl) (fun a => (hasA_cons (k := 5) rfl d5 (hasA_cons (k := 1) rfl d1 hasA_base))) (by simp only [Z48_T,Z48_L,d4,d5,n8,hi,sel]) (ot_appendH (sz := 0) (fun v_ => [emp,emp,(jown jnil 37 1 eJ 39 4 List.length (fl enc_Api_Cell) ([] : List (List Api_Cell))),A0,box b21 33 [L0,L0,L0],box b22 134 [sv38,pt b23 0],own sv38 9 1 x57.1.length (fl eS x57.1),box b23 177 [sv39],own sv39 174 2 x57.2.length (fl enc_Omap_pair__string___int x57.2),box b24 134 [sv40,pt b25 0],own sv40 9 1 x58.1.length (fl eS x58.1),box b25 177 [sv41],own sv41 174 2 x58.2.length (fl enc_Omap_pair__string___int x58.2),box b26 33 [sv42,sv43,sv62.sv],own sv42 9 1 x59.length (fl eS x59),own sv43 9 1 x60.length (fl eS x60),(hown v_ 37 1 eJ 39 4 List.length (fl enc_Api_Cell) (l11 ++ [(List.replicate x75.toNat (⟨0,0,0,0⟩ : Api_Cell))]))]) [16,0,1,2,3,4,5,6,7,8,9,10,11,12,13,14,15] [1,2,3,4,5,6,7,8,9,10,11,12,13,14,15,16,0] (by decide) (by decide) rfl (fun _ => rfl) rfl rfl F_slice_31 F_size_37 F_zero_37 rfl F_bytes_37 rfl (eJ_one _ _) c258) rfl rfl fun v_ M_ hM_ => ⟨upb ga37 6 v_,hM_.trans (show [emp,emp,(jown jnil 37 1 eJ 39 4 List.length (fl enc_Api_Cell) ([] : List (List Api_Cell))),A0,box b21 33 [L0,L0,L0],box b22 134 [sv38,pt b23 0],own sv38 9 1 x57.1.length (fl eS x57.1),box b23 177 [sv39],own sv39 174 2 x57.2.length (fl enc_Omap_pair__string___int x57.2),box b24 134 [sv40,pt b25 0],own sv40 9 1 x58.1.length (fl eS x58.1),box b25 177 [sv41],own sv41 174 2 x58.2.length (fl enc_Omap_pair__string___int x58.2),box b26 33 [sv42,sv43,sv62.sv],own sv42 9 1 x59.length (fl eS x59),own sv43 9 1 x60.length (fl eS x60),(hown v_ 37 1 eJ 39 4 List.length (fl enc_Api_Cell) (l11 ++ [(List.replicate x75.toNat (⟨0,0,0,0⟩ : Api_Cell))]))] = _ by simp [Z48_T,Z48_L,up,upb,sel,d4,d5,n8,n8,hi]),(tr_same rfl rfl (tr_same rfl rfl (tr_same rfl rfl (tr_same rfl rfl (tr_same rfl rfl (tr_same rfl rfl (tr_this (tr_same rfl rfl tr_nil))))))))⟩
     ·intro done hi hc hcu
      refine draw_exi (I := Z48_I) fun ga37 => ?_
      have n8 : done 8 = false := notdone_of (m := 8) hc hi rfl rfl
      exact draw_value (i := 7) (t := 61) (v := (pt b26 2)) rfl rfl (wanted_none rfl) (fun a => hasA_base) (ov_L (L2 := [sel (done 6) emp (sel (done 5) (own (ga37 5) 37 1 1 (eJ (List.replicate x75.toNat (⟨0,0,0,0⟩ : Api_Cell)) (ga37 4))) emp),sel (done 6) emp (sel (done 4) (own (ga37 4) 39 4 (List.replicate x75.toNat (⟨0,0,0,0⟩ : Api_Cell)).length (fl enc_Api_Cell (List.replicate x75.toNat (⟨0,0,0,0⟩ : Api_Cell)))) emp),(jown jnil 37 1 eJ 39 4 List.length (fl enc_Api_Cell) ([] : List (List Api_Cell))),A0,box b21 33 [L0,L0,L0],box b22 134 [sv38,pt b23 0],own sv38 9 1 x57.1.length (fl eS x57.1),box b23 177 [sv39],own sv39 174 2 x57.2.length (fl enc_Omap_pair__string___int x57.2),box b24 134 [sv40,pt b25 0],own sv40 9 1 x58.1.length (fl eS x58.1),box b25 177 [sv41],own sv41 174 2 x58.2.length (fl enc_Omap_pair__string___int x58.2),box b26 33 [sv42,sv43,sv62.sv],own sv42 9 1 x59.length (fl eS x59),own sv43 9 1 x60.length (fl eS x60),sel (done 6) (hown (ga37 6) 37 1 eJ 39 4 List.length (fl enc_Api_Cell) (l11 ++ [(List.replicate x75.toNat (⟨0,0,0,0⟩ : Api_Cell))])) (jown sv62 37 1 eJ 39 4 List.length (fl enc_Api_Cell) l11)]) (by simp only [Z48_T,Z48_L,n8,sel]) (ov_fieldAddr (sz := 0) (o := 0) rfl F_field_33_2 F_size_31)) rfl rfl (onlyT_spec (k0 := 7) rfl rfl rfl)
     ·intro done hi hc hcu
      refine draw_exi (I := Z48_I) fun ga37 => ?_
      have d7 : done 7 = true := done_of (j := 7) hcu rfl (by decide) rfl
      have d6 : done 6 = true := done_of (j := 6) hcu rfl (by decide) rfl
      exact draw_store (i := 8) (L2 := [sel (done 6) emp (sel (done 5) (own (ga37 5) 37 1 1 (eJ (List.replicate x75.toNat (⟨0,0,0,0⟩ : Api_Cell)) (ga37 4))) emp),sel (done 6) emp (sel (done 4) (own (ga37 4) 39 4 (List.replicate x75.toNat (⟨0,0,0,0⟩ : Api_Cell)).length (fl enc_Api_Cell (List.replicate x75.toNat (⟨0,0,0,0⟩ : Api_Cell)))) emp),(jown jnil 37 1 eJ 39 4 List.length (fl enc_Api_Cell) ([] : List (List Api_Cell))),A0,box b21 33 [L0,L0,L0],box b22 134 [sv38,pt b23 0],own sv38 9 1 x57.1.length (fl eS x57.1),box b23 177 [sv39],own sv39 174 2 x57.2.length (fl enc_Omap_pair__string___int x57.2),box b24 134 [sv40,pt b25 0],own sv40 9 1 x58.1.length (fl eS x58.1),box b25 177 [sv41],own sv41 174 2 x58.2.length (fl enc_Omap_pair__string___int x58.2),box b26 33 [sv42,sv43,sv62.sv],own sv42 9 1 x59.length (fl eS x59),own sv43 9 1 x60.length (fl eS x60),(hown (ga37 6) 37 1 eJ 39 4 List.length (fl enc_Api_Cell) (l11 ++ [(List.replicate x75.toNat (⟨0,0,0,0⟩ : Api_Cell))]))]) (L3 := [sel (done 6) emp (sel (done 5) (own (ga37 5) 37 1 1 (eJ (List.replicate x75.toNat (⟨0,0,0,0⟩ : Api_Cell)) (ga37 4))) emp),sel (done 6) emp (sel (done 4) (own (ga37 4) 39 4 (List.replicate x75.toNat (⟨0,0,0,0⟩ : Api_Cell)).length (fl enc_Api_Cell (List.replicate x75.toNat (⟨0,0,0,0⟩ : Api_Cell)))) emp),(jown jnil 37 1 eJ 39 4 List.length (fl enc_Api_Cell) ([] : List (List Api_Cell))),A0,box b21 33 [L0,L0,L0],box b22 134 [sv38,pt b23 0],own sv38 9 1 x57.1.length (fl eS x57.1),box b23 177 [sv39],own sv39 174 2 x57.2.length (fl enc_Omap_pair__string___int x57.2),box b24 134 [sv40,pt b25 0],own sv40 9 1 x58.1.length (fl eS x58.1),box b25 177 [sv41],own sv41 174 2 x58.2.length (fl enc_Omap_pair__string___int x58.2),box b26 33 [sv42,sv43,(ga37 6)],own sv42 9 1 x59.length (fl eS x59),own sv43 9 1 x60.length (fl eS x60),(hown (ga37 6) 37 1 eJ 39 4 List.length (fl enc_Api_Cell) (l11 ++ [(List.replicate x75.toNat (⟨0,0,0,0⟩ : Api_Cell))]))]) rfl rfl (wanted_none rfl) (fun a => (hasA_cons (k := 6) rfl d6 (hasA_cons (k := 7) rfl d7 hasA_base))) (by simp only [Z48_T,Z48_L,d6,hi,sel]) (by simp [Z48_T,Z48_L,up,d6,sel]) (ot_storeS (cs := [sv42,sv43,sv62.sv]) (cs' := [sv42,sv43,(ga37 6)]) (sv := (ga37 6)) (L' := [sel (done 6) emp (sel (done 5) (own (ga37 5) 37 1 1 (eJ (List.replicate x75.toNat (⟨0,0,0,0⟩ : Api_Cell)) (ga37 4))) emp),sel (done 6) emp (sel (done 4) (own (ga37 4) 39 4 (List.replicate x75.toNat (⟨0,0,0,0⟩ : Api_Cell)).length (fl enc_Api_Cell (List.replicate x75.toNat (⟨0,0,0,0⟩ : Api_Cell)))) emp),(jown jnil 37 1 eJ 39 4 List.length (fl enc_Api_Cell) ([] : List (List Api_Cell))),A0,box b21 33 [L0,L0,L0],box b22 134 [sv38,pt b23 0],own sv38 9 1 x57.1.length (fl eS x57.1),box b23 177 [sv39],own sv39 174 2 x57.2.length (fl enc_Omap_pair__string___int x57.2),box b24 134 [sv40,pt b25 0],own sv40 9 1 x58.1.length (fl eS x58.1),box b25 177 [sv41],own sv41 174 2 x58.2.length (fl enc_Omap_pair__string___int x58.2),box b26 33 [sv42,sv43,(ga37 6)],own sv42 9 1 x59.length (fl eS x59),own sv43 9 1 x60.length (fl eS x60),(hown (ga37 6) 37 1 eJ 39 4 List.length (fl enc_Api_Cell) (l11 ++ [(List.replicate x75.toNat (⟨0,0,0,0⟩ : Api_Cell))]))]) 13 16 rfl rfl F_size_31 rfl rfl isRd_hout rfl (by simp [Z48_T,Z48_L]) rfl) (offT_spec rfl)
    ·intro done hall
     refine ent_exi (S := fun ga37 => Z48_I ga37 done) fun ga37 => ?_
     refine draw_endL [emp,emp,(jown jnil 37 1 eJ 39 4 List.length (fl enc_Api_Cell) ([] : List (List Api_Cell))),A0,box b21 33 [L0,L0,L0],box b22 134 [sv38,pt b23 0],own sv38 9 1 x57.1.length (fl eS x57.1),box b23 177 [sv39],own sv39 174 2 x57.2.length (fl enc_Omap_pair__string___int x57.2),box b24 134 [sv40,pt b25 0],own sv40 9 1 x58.1.length (fl eS x58.1),box b25 177 [sv41],own sv41 174 2 x58.2.length (fl enc_Omap_pair__string___int x58.2),box b26 33 [sv42,sv43,(ga37 6)],own sv42 9 1 x59.length (fl eS x59),own sv43 9 1 x60.length (fl eS x60),(hown (ga37 6) 37 1 eJ 39 4 List.length (fl enc_Api_Cell) (l11 ++ [(List.replicate x75.toNat (⟨0,0,0,0⟩ : Api_Cell))]))] (by simp only [Z48_T,Z48_L,hall 4 (by decide),hall 5 (by decide),hall 6 (by decide),hall 8 (by decide),sel]) (fun a => (hasA_cons (k := 0) rfl (hall 0 (by decide)) (hasA_cons (k := 1) rfl (hall 1 (by decide)) (hasA_cons (k := 2) rfl (hall 2 (by decide)) (hasA_cons (k := 3) rfl (hall 3 (by decide)) (hasA_cons (k := 4) rfl (hall 4 (by decide)) (hasA_cons (k := 5) rfl (hall 5 (by decide)) (hasA_cons (k := 6) rfl (hall 6 (by decide)) (hasA_cons (k := 7) rfl (hall 7 (by decide)) hasA_base))))))))) ?_
     refine ent_unh 16 rfl fun sv70 hsv70 => ?_
     rw [← hsv70]
     refine ent_L [emp,emp,(jown jnil 37 1 eJ 39 4 List.length (fl enc_Api_Cell) ([] : List (List Api_Cell))),A0,box b21 33 [L0,L0,L0],box b22 134 [sv38,pt b23 0],own sv38 9 1 x57.1.length (fl eS x57.1),box b23 177 [sv39],own sv39 174 2 x57.2.length (fl enc_Omap_pair__string___int x57.2),box b24 134 [sv40,pt b25 0],own sv40 9 1 x58.1.length (fl eS x58.1),box b25 177 [sv41],own sv41 174 2 x58.2.length (fl enc_Omap_pair__string___int x58.2),box b26 33 [sv42,sv43,sv70.sv],own sv42 9 1 x59.length (fl eS x59),own sv43 9 1 x60.length (fl eS x60),(jown sv70 37 1 eJ 39 4 List.length (fl enc_Api_Cell) (l11 ++ [(List.replicate x75.toNat (⟨0,0,0,0⟩ : Api_Cell))]))] rfl ?_
     refine ent_region (ent_value (ov_bin rfl rfl (b_add _ _ _) ) rfl rfl rfl (ent_value (ov_move rfl) rfl rfl rfl (ent_nil ?_)))
     exact ent_fin [3,4,5,6,7,8,9,10,11,12,13,14,15,16] (by decide) rfl (sub_cons (t := 0) rfl (sub_cons (t := 1) rfl (sub_cons (t := 2) rfl (sub_cons (t := 6) rfl (sub_cons (t := 8) rfl (sub_cons (t := 9) rfl (sub_cons (t := 10) rfl (sub_cons (t := 51) rfl (sub_cons (t := 52) rfl (sub_nil _)))))))))) fun a w h => ⟨k,Nat.lt_succ_self k,_,_,sv70,H8,h⟩
 ·refine ent_exi fun b27 => ent_exi fun b28 => ent_exi fun sv57 => ?_
  refine ent_seq (ent_seq (ent_region (ent_value (ov_move rfl) rfl rfl rfl (ent_value (ov_len 0 rfl F_slice_22 rfl hA0) rfl rfl rfl (ent_value (ov_move rfl) rfl rfl rfl (ent_nil (ent_block ?_)))))))
  refine ent_loop (fun k a w => ∃ i9,∃ l13,stat_Pivot_R_l1 K l0 a1 a2 x57 x58 x59 x60 k i9 l13 = some r ∧ St 116 w0 F [(1,I a1),(2,I a2),(6,pt b27 0),(8,pt b22 0),(9,pt b24 0),(10,pt b28 0),(63,sv0),(64,I (l0.length : Int)),(65,I i9)] [A0,box b27 33 [L0,L0,L0],box b22 134 [sv38,pt b23 0],own sv38 9 1 x57.1.length (fl eS x57.1),box b23 177 [sv39],own sv39 174 2 x57.2.length (fl enc_Omap_pair__string___int x57.2),box b24 134 [sv40,pt b25 0],own sv40 9 1 x58.1.length (fl eS x58.1),box b25 177 [sv41],own sv41 174 2 x58.2.length (fl enc_Omap_pair__string___int x58.2),box b28 33 [sv42,sv43,sv57.sv],own sv42 9 1 x59.length (fl eS x59),own sv43 9 1 x60.length (fl eS x60),(jown sv57 37 1 eJ 39 4 List.length (fl enc_Api_Cell) l13)] a w) K ?_ ?_
  ·exact ent_fin [0,1,2,3,4,5,6,7,8,9,10,11,12,13] (by decide) rfl (sub_cons (t := 1) rfl (sub_cons (t := 2) rfl (sub_cons (t := 6) rfl (sub_cons (t := 8) rfl (sub_cons (t := 9) rfl (sub_cons (t := 10) rfl (sub_cons (t := 63) rfl (sub_cons (t := 64) rfl (sub_cons (t := 65) rfl (sub_nil _)))))))))) fun a w h => ⟨_,_,H,h⟩
  ·refine fun k => ent_exi fun i9 => ent_exi fun l13 => ent_and fun H10 => ?_
   let C5_ : Value := agg #[I (((l0.getD i9.toNat z_Api_Row).Cell).Count),I (((l0.getD i9.toNat z_Api_Row).Cell).Sum),I (((l0.getD i9.toNat z_Api_Row).Cell).Min),I (((l0.getD i9.toNat z_Api_Row).Cell).Max)]
   let C4_ : Value := agg #[I (((l0.getD i9.toNat z_Api_Row).Key).Hour),str (((l0.getD i9.toNat z_Api_Row).Key).Dims_0),str (((l0.getD i9.toNat z_Api_Row).Key).Dims_1),str (((l0.getD i9.toNat z_Api_Row).Key).Dims_2),str (((l0.getD i9.toNat z_Api_Row).Key).Dims_3),I (((l0.getD i9.toNat z_Api_Row).Cell).Count),I (((l0.getD i9.toNat z_Api_Row).Cell).Sum),I (((l0.getD i9.toNat z_Api_Row).Cell).Min),I (((l0.getD i9.toNat z_Api_Row).Cell).Max)]
   let C0_ : List Value := [I (((l0.getD i9.toNat z_Api_Row).Key).Hour),str (((l0.getD i9.toNat z_Api_Row).Key).Dims_0),str (((l0.getD i9.toNat z_Api_Row).Key).Dims_1),str (((l0.getD i9.toNat z_Api_Row).Key).Dims_2),str (((l0.getD i9.toNat z_Api_Row).Key).Dims_3),I (((l0.getD i9.toNat z_Api_Row).Cell).Count),I (((l0.getD i9.toNat z_Api_Row).Cell).Sum),I (((l0.getD i9.toNat z_Api_Row).Cell).Min),I (((l0.getD i9.toNat z_Api_Row).Cell).Max)]
   cases k with
   | zero => exact absurd H10 (by simp [C5_,C4_,C0_,stat_Pivot_R_l1])
   | succ k =>
    rw [stat_Pivot_R_l1] at H10
    refine ent_seq (ent_region (ent_value (ov_bin rfl rfl (b_lss _ _ _)) rfl rfl rfl (ent_nil (ent_seq ?_))))
    refine htF H10 (fun c376 H10 => ?_) fun c376 H10 => ?_
    ·refine ent_cond_false rfl (decide_eq_false c376) (ent_exit (ent_seq (ent_region (ent_value (ov_load_agg (vs := [sv42,sv43,sv57.sv]) rfl F_agg_33 F_size_33 (reads_boxW (i := 10) rfl)) rfl rfl rfl ?_))))
     refine ent_op0 (ot_storeG (cs := [L0,L0,L0]) (cs' := [sv42,sv43,sv57.sv]) (us := [sv42,sv43,sv57.sv]) (L' := [A0,box b27 33 [sv42,sv43,sv57.sv],box b22 134 [sv38,pt b23 0],own sv38 9 1 x57.1.length (fl eS x57.1),box b23 177 [sv39],own sv39 174 2 x57.2.length (fl enc_Omap_pair__string___int x57.2),box b24 134 [sv40,pt b25 0],own sv40 9 1 x58.1.length (fl eS x58.1),box b25 177 [sv41],own sv41 174 2 x58.2.length (fl enc_Omap_pair__string___int x58.2),box b28 33 [sv42,sv43,sv57.sv],own sv42 9 1 x59.length (fl eS x59),own sv43 9 1 x60.length (fl eS x60),(jown sv57 37 1 eJ 39 4 List.length (fl enc_Api_Cell) l13)]) 1 rfl rfl rfl (one_sl 11 rfl (isRd_ownx 9) (one_sl 12 rfl (isRd_ownx 9) (one_sl 13 rfl isRd_jout one_nil))) F_size_33 rfl rfl (by simp [C5_,C4_,C0_]) rfl) rfl rfl ?_
     rintro _ _ rfl
     refine ent_value (ov_assign rfl) rfl rfl rfl (ent_nil (ent_retc ?_))
     first | (have e_ := Option.some.inj (show some _ = some _ from H10); subst e_) | subst H10
     exact ret_memp [11,12,13,0] (by decide) rfl (vs := [agg #[sv42,sv43,sv57.sv],I 0]) rfl ⟨⟨_,[sv42,sv43,sv57.sv],rfl,reads_boxW (i := 1) rfl,.inl ⟨F_agg_33,F_size_33,rfl⟩⟩,⟨rfl,trivial⟩⟩ _ rfl ⟨_,_,sv57,rfl,rfl⟩
    refine ent_cond_true rfl (decide_eq_true c376) (ent_skip (ent_seq (ent_block (ent_seq (ent_region ?_)))))
    obtain ⟨c388,H10⟩ := gdT H10
    refine ent_value (ov_indexAddr (sz := 8) 0 rfl rfl F_slice_22 F_size_44 rfl hA0 c388 c376) rfl rfl rfl ?_
    refine ent_value (ov_load_agg (vs := C0_) rfl F_agg_44 F_size_44 (reads_rd (i := 0) rfl hA0 (by simp [C5_,C4_,C0_]) (fl_read0 enc_Api_Row_len (ix_lt c388 c376) rfl))) rfl rfl rfl ?_
    refine ent_op (ot_alloc F_zero_44) rfl rfl rfl ?_
    rintro _ _ ⟨b40,rfl,rfl⟩
    refine ent_op0 (ot_storeG (cs := [I 0,S0,S0,S0,S0,I 0,I 0,I 0,I 0]) (cs' := C0_) (us := C0_) (L' := [box b40 44 C0_,A0,box b27 33 [L0,L0,L0],box b22 134 [sv38,pt b23 0],own sv38 9 1 x57.1.length (fl eS x57.1),box b23 177 [sv39],own sv39 174 2 x57.2.length (fl enc_Omap_pair__string___int x57.2),box b24 134 [sv40,pt b25 0],own sv40 9 1 x58.1.length (fl eS x58.1),box b25 177 [sv41],own sv41 174 2 x58.2.length (fl enc_Omap_pair__string___int x58.2),box b28 33 [sv42,sv43,sv57.sv],own sv42 9 1 x59.length (fl eS x59),own sv43 9 1 x60.length (fl eS x60),(jown sv57 37 1 eJ 39 4 List.length (fl enc_Api_Cell) l13)]) 0 rfl rfl rfl (one_all rfl) F_size_44 rfl rfl (by simp [C5_,C4_,C0_]) rfl) rfl rfl ?_
    rintro _ _ rfl
    refine ent_nil (ent_seq (ent_region (ent_value (ov_move rfl) rfl rfl rfl (ent_value (ov_move rfl) rfl rfl rfl (ent_value (ov_fieldAddr (sz := 4) (o := 0) rfl F_field_44_0 F_size_42) rfl rfl rfl (ent_value (ov_fieldAddr (sz := 3) (o := 0) rfl F_field_42_1 F_size_40) rfl rfl rfl ?_))))))
    obtain ⟨c389,H10⟩ := gdT H10
    obtain ⟨c390,H10⟩ := gdT H10
    refine ent_value (ov_indexArr (o := 1) rfl rfl F_array_40 F_size_9 c389 c390) rfl rfl rfl (ent_value (ov_load (v := (str ([((l0.getD i9.toNat z_Api_Row).Key).Dims_0,((l0.getD i9.toNat z_Api_Row).Key).Dims_1,((l0.getD i9.toNat z_Api_Row).Key).Dims_2,((l0.getD i9.toNat z_Api_Row).Key).Dims_3].getD a1.toNat []))) rfl F_agg_9 (reads_boxA (i := 0) (enc := eS) (z := []) (xs := [((l0.getD i9.toNat z_Api_Row).Key).Dims_0,((l0.getD i9.toNat z_Api_Row).Key).Dims_1,((l0.getD i9.toNat z_Api_Row).Key).Dims_2,((l0.getD i9.toNat z_Api_Row).Key).Dims_3]) rfl eS_len rfl (ix_lt c389 c390))) rfl rfl rfl ?_)
    obtain ⟨x109,h107,H10⟩ := Option.bind_eq_some_iff.1 H10
    refine ent_op (ot_call_same (Lr := [box b40 44 C0_,A0,box b27 33 [L0,L0,L0],box b24 134 [sv40,pt b25 0],own sv40 9 1 x58.1.length (fl eS x58.1),box b25 177 [sv41],own sv41 174 2 x58.2.length (fl enc_Omap_pair__string___int x58.2),box b28 33 [sv42,sv43,sv57.sv],own sv42 9 1 x59.length (fl eS x59),own sv43 9 1 x60.length (fl eS x60),(jown sv57 37 1 eJ 39 4 List.length (fl enc_Api_Cell) l13)]) [3,4,5,6,0,1,2,7,8,9,10,11,12,13,14] [4,5,6,0,1,2,3,7,8,9,10,11,12,13,14] (first := []) (cap := []) (xs := [.tmp 70,.tmp 75]) rfl rfl F_call_37 rfl (dict_Dict__string_Code_OO.spec K b22 sv38 b23 sv39 x57.1 x57.2 ([((l0.getD i9.toNat z_Api_Row).Key).Dims_0,((l0.getD i9.toNat z_Api_Row).Key).Dims_1,((l0.getD i9.toNat z_Api_Row).Key).Dims_2,((l0.getD i9.toNat z_Api_Row).Key).Dims_3].getD a1.toNat []) _ h107) (by decide) rfl (by decide) rfl) rfl rfl rfl ?_
    rintro _ _ ⟨rfl,rfl⟩
    refine ent_value (ov_move rfl) rfl rfl rfl (ent_value (ov_extract rfl rfl) rfl rfl rfl (ent_value (ov_extract rfl rfl) rfl rfl rfl (ent_value (ov_assign rfl) rfl rfl rfl (ent_value (ov_assign rfl) rfl rfl rfl (ent_nil (ent_seq (ent_region (ent_value (ov_move rfl) rfl rfl rfl (ent_value (ov_move rfl) rfl rfl rfl (ent_value (ov_fieldAddr (sz := 4) (o := 0) rfl F_field_44_0 F_size_42) rfl rfl rfl (ent_value (ov_fieldAddr (sz := 3) (o := 0) rfl F_field_42_1 F_size_40) rfl rfl rfl ?_)))))))))))
    obtain ⟨c391,H10⟩ := gdT H10
    obtain ⟨c392,H10⟩ := gdT H10
    refine ent_value (ov_indexArr (o := 1) rfl rfl F_array_40 F_size_9 c391 c392) rfl rfl rfl (ent_value (ov_load (v := (str ([((l0.getD i9.toNat z_Api_Row).Key).Dims_0,((l0.getD i9.toNat z_Api_Row).Key).Dims_1,((l0.getD i9.toNat z_Api_Row).Key).Dims_2,((l0.getD i9.toNat z_Api_Row).Key).Dims_3].getD a2.toNat []))) rfl F_agg_9 (reads_boxA (i := 0) (enc := eS) (z := []) (xs := [((l0.getD i9.toNat z_Api_Row).Key).Dims_0,((l0.getD i9.toNat z_Api_Row).Key).Dims_1,((l0.getD i9.toNat z_Api_Row).Key).Dims_2,((l0.getD i9.toNat z_Api_Row).Key).Dims_3]) rfl eS_len rfl (ix_lt c391 c392))) rfl rfl rfl ?_)
    obtain ⟨x110,h108,H10⟩ := Option.bind_eq_some_iff.1 H10
    let C2_ : Value := agg #[I (((l13.getD x109.1.toNat []).getD x110.1.toNat z_Api_Cell).Count),I (((l13.getD x109.1.toNat []).getD x110.1.toNat z_Api_Cell).Sum),I (((l13.getD x109.1.toNat []).getD x110.1.toNat z_Api_Cell).Min),I (((l13.getD x109.1.toNat []).getD x110.1.toNat z_Api_Cell).Max)]
    refine ent_op (ot_call_same (Lr := [box b40 44 C0_,A0,box b27 33 [L0,L0,L0],box b22 134 [sv38,pt b23 0],own sv38 9 1 x57.1.length (fl eS x57.1),box b23 177 [sv39],own sv39 174 2 x57.2.length (fl enc_Omap_pair__string___int x57.2),box b28 33 [sv42,sv43,sv57.sv],own sv42 9 1 x59.length (fl eS x59),own sv43 9 1 x60.length (fl eS x60),(jown sv57 37 1 eJ 39 4 List.length (fl enc_Api_Cell) l13)]) [7,8,9,10,0,1,2,3,4,5,6,11,12,13,14] [4,5,6,7,8,9,10,0,1,2,3,11,12,13,14] (first := []) (cap := []) (xs := [.tmp 80,.tmp 85]) rfl rfl F_call_37 rfl (dict_Dict__string_Code_OO.spec K b24 sv40 b25 sv41 x58.1 x58.2 ([((l0.getD i9.toNat z_Api_Row).Key).Dims_0,((l0.getD i9.toNat z_Api_Row).Key).Dims_1,((l0.getD i9.toNat z_Api_Row).Key).Dims_2,((l0.getD i9.toNat z_Api_Row).Key).Dims_3].getD a2.toNat []) _ h108) (by decide) rfl (by decide) rfl) rfl rfl rfl ?_
    rintro _ _ ⟨rfl,rfl⟩
    refine ent_value (ov_move rfl) rfl rfl rfl (ent_value (ov_extract rfl rfl) rfl rfl rfl (ent_value (ov_extract rfl rfl) rfl rfl rfl (ent_value (ov_assign rfl) rfl rfl rfl (ent_value (ov_assign rfl) rfl rfl rfl (ent_nil (ent_seq ?_))))))
    obtain ⟨c393,H10⟩ := gdT H10
    obtain ⟨c394,H10⟩ := gdT H10
    obtain ⟨c395,H10⟩ := gdT H10
    obtain ⟨c396,H10⟩ := gdT H10
    obtain ⟨x111,h109,H10⟩ := thn_elim H10
    let C3_ : Value := agg #[I x111.1,I x111.2.1,I x111.2.2.1,I x111.2.2.2.1]
    let C1_ : List Value := [I x111.1,I x111.2.1,I x111.2.2.1,I x111.2.2.2.1]
    let Z72_T : DT := fun ga49 => [(0,90,pt b28 2),(1,91,sv57.sv),(2,92,I x109.1),(3,93,(eptr sv57.sv (x109.1.toNat * 1))),(4,94,(sv57.vs x109.1.toNat)),(5,95,I x110.1),(6,96,(eptr (sv57.vs x109.1.toNat) (x110.1.toNat * 4))),(7,97,C2_),(8,98,pt b40 5),(9,99,C5_),(10,100,tU #[C3_,bool x111.2.2.2.2]),(11,89,tU #[C3_,bool x111.2.2.2.2]),(12,101,C3_),(13,102,bool x111.2.2.2.2),(14,17,pt (blk (ga49 14)) 0),(16,18,bool x111.2.2.2.2)]
    let Z72_L : DL := fun ga49 done => [sel (done 15) (box (blk (ga49 14)) 39 C1_) (sel (done 14) (box (blk (ga49 14)) 39 [I 0,I 0,I 0,I 0]) emp),box b40 44 C0_,A0,box b27 33 [L0,L0,L0],box b22 134 [sv38,pt b23 0],own sv38 9 1 x57.1.length (fl eS x57.1),box b23 177 [sv39],own sv39 174 2 x57.2.length (fl enc_Omap_pair__string___int x57.2),box b24 134 [sv40,pt b25 0],own sv40 9 1 x58.1.length (fl eS x58.1),box b25 177 [sv41],own sv41 174 2 x58.2.length (fl enc_Omap_pair__string___int x58.2),box b28 33 [sv42,sv43,sv57.sv],own sv42 9 1 x59.length (fl eS x59),own sv43 9 1 x60.length (fl eS x60),(jown sv57 37 1 eJ 39 4 List.length (fl enc_Api_Cell) l13)]
    let Z72_I : DI := fun ga49 done a w => StD 116 w0 F [(1,I a1),(2,I a2),(6,pt b27 0),(8,pt b22 0),(9,pt b24 0),(10,pt b28 0),(12,pt b40 0),(13,I x109.1),(14,bool x109.2),(15,I x110.1),(16,bool x110.2),(63,sv0),(64,I (l0.length : Int)),(65,I i9),(66,Value.bool (decide (i9 < (l0.length : Int)))),(67,(eptr sv0 (i9.toNat * 9))),(68,C4_),(69,tU #[I x109.1,bool x109.2]),(70,pt b22 0),(71,I a1),(72,pt b40 0),(73,pt b40 1),(74,pt b40 (1 + a1.toNat * 1)),(75,str ([((l0.getD i9.toNat z_Api_Row).Key).Dims_0,((l0.getD i9.toNat z_Api_Row).Key).Dims_1,((l0.getD i9.toNat z_Api_Row).Key).Dims_2,((l0.getD i9.toNat z_Api_Row).Key).Dims_3].getD a1.toNat [])),(76,tU #[I x109.1,bool x109.2]),(77,I x109.1),(78,bool x109.2),(79,tU #[I x110.1,bool x110.2]),(80,pt b24 0),(81,I a2),(82,pt b40 0),(83,pt b40 1),(84,pt b40 (1 + a2.toNat * 1)),(85,str ([((l0.getD i9.toNat z_Api_Row).Key).Dims_0,((l0.getD i9.toNat z_Api_Row).Key).Dims_1,((l0.getD i9.toNat z_Api_Row).Key).Dims_2,((l0.getD i9.toNat z_Api_Row).Key).Dims_3].getD a2.toNat [])),(86,tU #[I x110.1,bool x110.2]),(87,I x110.1),(88,bool x110.2)] (Z72_T ga49) done (Z72_L ga49 done) a w
    refine ent_drawm 17 rfl (fun done a w => ∃ ga49 : Nat → Value,Z72_I ga49 done a w) (by kernel_rfl) (by kernel_rfl) (draw_startG (T := Z72_T) (L' := fun ga49 : Nat → Value => [sel false (box (blk (ga49 14)) 39 C1_) (sel false (box (blk (ga49 14)) 39 [I 0,I 0,I 0,I 0]) emp),box b40 44 C0_,A0,box b27 33 [L0,L0,L0],box b22 134 [sv38,pt b23 0],own sv38 9 1 x57.1.length (fl eS x57.1),box b23 177 [sv39],own sv39 174 2 x57.2.length (fl enc_Omap_pair__string___int x57.2),box b24 134 [sv40,pt b25 0],own sv40 9 1 x58.1.length (fl eS x58.1),box b25 177 [sv41],own sv41 174 2 x58.2.length (fl enc_Omap_pair__string___int x58.2),box b28 33 [sv42,sv43,sv57.sv],own sv42 9 1 x59.length (fl eS x59),own sv43 9 1 x60.length (fl eS x60),(jown sv57 37 1 eJ 39 4 List.length (fl enc_Api_Cell) l13)]) 1 (sub_cons (t := 1) rfl (sub_cons (t := 2) rfl (sub_cons (t := 6) rfl (sub_cons (t := 8) rfl (sub_cons (t := 9) rfl (sub_cons (t := 10) rfl (sub_cons (t := 12) rfl (sub_cons (t := 13) rfl (sub_cons (t := 14) rfl (sub_cons (t := 15) rfl (sub_cons (t := 16) rfl (sub_cons (t := 63) rfl (sub_cons (t := 64) rfl (sub_cons (t := 65) rfl (sub_cons (t := 66) rfl (sub_cons (t := 67) rfl (sub_cons (t := 68) rfl (sub_cons (t := 69) rfl (sub_cons (t := 70) rfl (sub_cons (t := 71) rfl (sub_cons (t := 72) rfl (sub_cons (t := 73) rfl (sub_cons (t := 74) rfl (sub_cons (t := 75) rfl (sub_cons (t := 76) rfl (sub_cons (t := 77) rfl (sub_cons (t := 78) rfl (sub_cons (t := 79) rfl (sub_cons (t := 80) rfl (sub_cons (t := 81) rfl (sub_cons (t := 82) rfl (sub_cons (t := 83) rfl (sub_cons (t := 84) rfl (sub_cons (t := 85) rfl (sub_cons (t := 86) rfl (sub_cons (t := 87) rfl (sub_cons (t := 88) rfl (sub_nil _)))))))))))))))))))))))))))))))))))))) (fun _ => rfl)) ?_ ?_
    ·refine ⟨?_,?_,?_,?_,?_,?_,?_,?_,?_,?_,?_,?_,?_,?_,?_,?_,?_,trivial⟩
     ·exact fun done hi hc hcu => draw_exi (I := Z72_I) fun ga49 => draw_value (i := 0) (t := 90) (v := (pt b28 2)) rfl rfl (wanted_none rfl) (fun a => hasA_base) (ov_fieldAddr (sz := 0) (o := 0) rfl F_field_33_2 F_size_31) rfl rfl (onlyT_spec (k0 := 0) rfl rfl rfl)
     ·exact fun done hi hc hcu => draw_exi (I := Z72_I) fun ga49 => draw_value (i := 1) (t := 91) (v := sv57.sv) rfl rfl (wanted_none rfl) (fun a => (hasA_cons (k := 0) rfl (done_of (j := 0) hcu rfl (by decide) rfl) hasA_base)) (ov_load (v := sv57.sv) rfl F_agg_31 (reads_box1 (i := 12) rfl rfl)) rfl rfl (onlyT_spec (k0 := 1) rfl rfl rfl)
     ·exact fun done hi hc hcu => draw_exi (I := Z72_I) fun ga49 => draw_value (i := 2) (t := 92) (v := (I x109.1)) rfl rfl (wanted_none rfl) (fun a => hasA_base) (ov_move rfl) rfl rfl (onlyT_spec (k0 := 2) rfl rfl rfl)
     ·exact fun done hi hc hcu => draw_exi (I := Z72_I) fun ga49 => draw_value (i := 3) (t := 93) (v := (eptr sv57.sv (x109.1.toNat * 1))) rfl rfl (wanted_none rfl) (fun a => (hasA_cons (k := 2) rfl (done_of (j := 2) hcu rfl (by decide) rfl) (hasA_cons (k := 1) rfl (done_of (j := 1) hcu rfl (by decide) rfl) hasA_base))) (ov_indexAddr (sz := 0) 15 rfl rfl F_slice_31 F_size_37 rfl isRd_jout c393 c394) rfl rfl (onlyT_spec (k0 := 3) rfl rfl rfl)
     ·exact fun done hi hc hcu => draw_exi (I := Z72_I) fun ga49 => draw_value (i := 4) (t := 94) (v := (sv57.vs x109.1.toNat)) rfl rfl (wanted_none rfl) (fun a => (hasA_cons (k := 3) rfl (done_of (j := 3) hcu rfl (by decide) rfl) hasA_base)) (ov_load (v := (sv57.vs x109.1.toNat)) rfl F_agg_37 (reads_rd (i := 15) rfl isRd_jout (by simp [C5_,C4_,C0_,C2_,C3_,C1_,Z72_T,Z72_L]) (flJ_rd0 (z := []) eJ_len (ix_lt c393 c394) rfl))) rfl rfl (onlyT_spec (k0 := 4) rfl rfl rfl)
     ·exact fun done hi hc hcu => draw_exi (I := Z72_I) fun ga49 => draw_value (i := 5) (t := 95) (v := (I x110.1)) rfl rfl (wanted_none rfl) (fun a => hasA_base) (ov_move rfl) rfl rfl (onlyT_spec (k0 := 5) rfl rfl rfl)
     ·exact fun done hi hc hcu => draw_exi (I := Z72_I) fun ga49 => draw_value (i := 6) (t := 96) (v := (eptr (sv57.vs x109.1.toNat) (x110.1.toNat * 4))) rfl rfl (wanted_none rfl) (fun a => (hasA_cons (k := 5) rfl (done_of (j := 5) hcu rfl (by decide) rfl) (hasA_cons (k := 4) rfl (done_of (j := 4) hcu rfl (by decide) rfl) hasA_base))) (ov_indexAddr (sz := 3) 15 rfl rfl F_slice_37 F_size_39 rfl (show IsRd _ _ (l13.getD x109.1.toNat []).length 4 (fl enc_Api_Cell (l13.getD x109.1.toNat [])) from isRd_jin (z := []) (ix_lt c393 c394)) c395 c396) rfl rfl (onlyT_spec (k0 := 6) rfl rfl rfl)
     ·exact fun done hi hc hcu => draw_exi (I := Z72_I) fun ga49 => draw_value (i := 7) (t := 97) (v := (C2_)) rfl rfl (wanted_none rfl) (fun a => (hasA_cons (k := 6) rfl (done_of (j := 6) hcu rfl (by decide) rfl) hasA_base)) (ov_load_agg (vs := [I (((l13.getD x109.1.toNat []).getD x110.1.toNat z_Api_Cell).Count),I (((l13.getD x109.1.toNat []).getD x110.1.toNat z_Api_Cell).Sum),I (((l13.getD x109.1.toNat []).getD x110.1.toNat z_Api_Cell).Min),I (((l13.getD x109.1.toNat []).getD x110.1.toNat z_Api_Cell).Max)]) rfl F_agg_39 F_size_39 (reads_rd (i := 15) rfl (show IsRd _ _ (l13.getD x109.1.toNat []).length 4 (fl enc_Api_Cell (l13.getD x109.1.toNat [])) from isRd_jin (z := []) (ix_lt c393 c394)) (by simp [C5_,C4_,C0_,C2_,C3_,C1_,Z72_T,Z72_L]) (fl_read0 enc_Api_Cell_len (ix_lt c395 c396) rfl))) rfl rfl (onlyT_spec (k0 := 7) rfl rfl rfl)
     ·exact fun done hi hc hcu => draw_exi (I := Z72_I) fun ga49 => draw_value (i := 8) (t := 98) (v := (pt b40 5)) rfl rfl (wanted_none rfl) (fun a => hasA_base) (ov_fieldAddr (sz := 3) (o := 0) rfl F_field_44_1 F_size_39) rfl rfl (onlyT_spec (k0 := 8) rfl rfl rfl)
     ·exact fun done hi hc hcu => draw_exi (I := Z72_I) fun ga49 => draw_value (i := 9) (t := 99) (v := (C5_)) rfl rfl (wanted_none rfl) (fun a => (hasA_cons (k := 8) rfl (done_of (j := 8) hcu rfl (by decide) rfl) hasA_base)) (ov_load_agg (vs := [I (((l0.getD i9.toNat z_Api_Row).Cell).Count),I (((l0.getD i9.toNat z_Api_Row).Cell).Sum),I (((l0.getD i9.toNat z_Api_Row).Cell).Min),I (((l0.getD i9.toNat z_Api_Row).Cell).Max)]) rfl F_agg_39 F_size_39 (reads_boxN (i := 1) rfl rfl)) rfl rfl (onlyT_spec (k0 := 9) rfl rfl rfl)
     ·exact fun done hi hc hcu => draw_exi (I := Z72_I) fun ga49 => draw_same (i := 10) (t := 100) (v := (tU #[C3_,bool x111.2.2.2.2])) rfl rfl (wanted_none rfl) (fun a => (hasA_cons (k := 9) rfl (done_of (j := 9) hcu rfl (by decide) rfl) (hasA_cons (k := 7) rfl (done_of (j := 7) hcu rfl (by decide) rfl) hasA_base))) (ot_call0 (first := []) (cap := []) (xs := [.tmp 97,.tmp 99]) rfl rfl F_call_38 rfl (cell_Merge.spec (((l13.getD x109.1.toNat []).getD x110.1.toNat z_Api_Cell).Count) (((l13.getD x109.1.toNat []).getD x110.1.toNat z_Api_Cell).Sum) (((l13.getD x109.1.toNat []).getD x110.1.toNat z_Api_Cell).Min) (((l13.getD x109.1.toNat []).getD x110.1.toNat z_Api_Cell).Max) (((l0.getD i9.toNat z_Api_Row).Cell).Count) (((l0.getD i9.toNat z_Api_Row).Cell).Sum) (((l0.getD i9.toNat z_Api_Row).Cell).Min) (((l0.getD i9.toNat z_Api_Row).Cell).Max) _ h109)) rfl rfl (onlyT_spec (k0 := 10) rfl rfl rfl)
     ·exact fun done hi hc hcu => draw_exi (I := Z72_I) fun ga49 => draw_value (i := 11) (t := 89) (v := (tU #[C3_,bool x111.2.2.2.2])) rfl rfl (wanted_none rfl) (fun a => (hasA_cons (k := 10) rfl (done_of (j := 10) hcu rfl (by decide) rfl) hasA_base)) (ov_move rfl) rfl rfl (onlyT_spec (k0 := 11) rfl rfl rfl)
     ·exact fun done hi hc hcu => draw_exi (I := Z72_I) fun ga49 => draw_value (i := 12) (t := 101) (v := (C3_)) rfl rfl (wanted_none rfl) (fun a => (hasA_cons (k := 11) rfl (done_of (j := 11) hcu rfl (by decide) rfl) hasA_base)) (ov_extract rfl rfl) rfl rfl (onlyT_spec (k0 := 12) rfl rfl rfl)
     ·exact fun done hi hc hcu => draw_exi (I := Z72_I) fun ga49 => draw_value (i := 13) (t := 102) (v := (bool x111.2.2.2.2)) rfl rfl (wanted_none rfl) (fun a => (hasA_cons (k := 11) rfl (done_of (j := 11) hcu rfl (by decide) rfl) hasA_base)) (ov_extract rfl rfl) rfl rfl (onlyT_spec (k0 := 13) rfl rfl rfl)
     ·intro done hi hc hcu
      refine ent_exi (S := fun ga49 => Z72_I ga49 done) fun ga49 => ?_
      have n15 : done 15 = false := notdone_of (m := 15) hc hi rfl rfl
      refine draw_newV (i := 14) (t := 17) (x := ga49) (L := Z72_L) (T := Z72_T) (L2 := [emp,box b40 44 C0_,A0,box b27 33 [L0,L0,L0],box b22 134 [sv38,pt b23 0],own sv38 9 1 x57.1.length (fl eS x57.1),box b23 177 [sv39],own sv39 174 2 x57.2.length (fl enc_Omap_pair__string___int x57.2),box b24 134 [sv40,pt b25 0],own sv40 9 1 x58.1.length (fl eS x58.1),box b25 177 [sv41],own sv41 174 2 x58.2.length (fl enc_Omap_pair__string___int x58.2),box b28 33 [sv42,sv43,sv57.sv],own sv42 9 1 x59.length (fl eS x59),own sv43 9 1 x60.length (fl eS x60),(jown sv57 37 1 eJ 39 4 List.length (fl enc_Api_Cell) l13)]) (B := fun v_ => (box (blk v_) 39 [I 0,I 0,I 0,I 0])) 0 rfl rfl (wanted_none rfl) (fun a => hasA_base) (by simp only [C5_,C4_,C0_,C2_,C3_,C1_,Z72_T,Z72_L,n15,hi,sel]) (ot_alloc F_zero_39) ?_ rfl (fun v_ => ?_) rfl rfl ?_
      ·rintro _ _ ⟨_,rfl,rfl⟩; rfl
      ·simp [C5_,C4_,C0_,C2_,C3_,C1_,Z72_T,Z72_L,up,upb,sel,n15,n15,hi]
      ·rintro _ _ ⟨_,rfl,rfl⟩
       exact (tr_same rfl rfl (tr_same rfl rfl (tr_same rfl rfl (tr_same rfl rfl (tr_same rfl rfl (tr_same rfl rfl (tr_same rfl rfl (tr_same rfl rfl (tr_same rfl rfl (tr_same rfl rfl (tr_same rfl rfl (tr_same rfl rfl (tr_same rfl rfl (tr_same rfl rfl (tr_this (tr_same rfl rfl tr_nil))))))))))))))))
     ·intro done hi hc hcu
      refine draw_exi (I := Z72_I) fun ga49 => ?_
      have d14 : done 14 = true := done_of (j := 14) hcu rfl (by decide) rfl
      have d12 : done 12 = true := done_of (j := 12) hcu rfl (by decide) rfl
      exact draw_store (i := 15) (L2 := [box (blk (ga49 14)) 39 [I 0,I 0,I 0,I 0],box b40 44 C0_,A0,box b27 33 [L0,L0,L0],box b22 134 [sv38,pt b23 0],own sv38 9 1 x57.1.length (fl eS x57.1),box b23 177 [sv39],own sv39 174 2 x57.2.length (fl enc_Omap_pair__string___int x57.2),box b24 134 [sv40,pt b25 0],own sv40 9 1 x58.1.length (fl eS x58.1),box b25 177 [sv41],own sv41 174 2 x58.2.length (fl enc_Omap_pair__string___int x58.2),box b28 33 [sv42,sv43,sv57.sv],own sv42 9 1 x59.length (fl eS x59),own sv43 9 1 x60.length (fl eS x60),(jown sv57 37 1 eJ 39 4 List.length (fl enc_Api_Cell) l13)]) (L3 := [box (blk (ga49 14)) 39 C1_,box b40 44 C0_,A0,box b27 33 [L0,L0,L0],box b22 134 [sv38,pt b23 0],own sv38 9 1 x57.1.length (fl eS x57.1),box b23 177 [sv39],own sv39 174 2 x57.2.length (fl enc_Omap_pair__string___int x57.2),box b24 134 [sv40,pt b25 0],own sv40 9 1 x58.1.length (fl eS x58.1),box b25 177 [sv41],own sv41 174 2 x58.2.length (fl enc_Omap_pair__string___int x58.2),box b28 33 [sv42,sv43,sv57.sv],own sv42 9 1 x59.length (fl eS x59),own sv43 9 1 x60.length (fl eS x60),(jown sv57 37 1 eJ 39 4 List.length (fl enc_Api_Cell) l13)]) rfl rfl (wanted_none rfl) (fun a => (hasA_cons (k := 12) rfl d12 (hasA_cons (k := 14) rfl d14 hasA_base))) (by simp only [C5_,C4_,C0_,C2_,C3_,C1_,Z72_T,Z72_L,d14,hi,sel]) (by simp [C5_,C4_,C0_,C2_,C3_,C1_,Z72_T,Z72_L,up,d14,sel]) (ot_storeG (cs := [I 0,I 0,I 0,I 0]) (cs' := C1_) (us := C1_) (L' := [box (blk (ga49 14)) 39 C1_,box b40 44 C0_,A0,box b27 33 [L0,L0,L0],box b22 134 [sv38,pt b23 0],own sv38 9 1 x57.1.length (fl eS x57.1),box b23 177 [sv39],own sv39 174 2 x57.2.length (fl enc_Omap_pair__string___int x57.2),box b24 134 [sv40,pt b25 0],own sv40 9 1 x58.1.length (fl eS x58.1),box b25 177 [sv41],own sv41 174 2 x58.2.length (fl enc_Omap_pair__string___int x58.2),box b28 33 [sv42,sv43,sv57.sv],own sv42 9 1 x59.length (fl eS x59),own sv43 9 1 x60.length (fl eS x60),(jown sv57 37 1 eJ 39 4 List.length (fl enc_Api_Cell) l13)]) 0 rfl rfl rfl (one_all rfl) F_size_39 rfl rfl (by simp [C5_,C4_,C0_,C2_,C3_,C1_,Z72_T,Z72_L]) rfl) (offT_spec rfl)
     ·exact fun done hi hc hcu => draw_exi (I := Z72_I) fun ga49 => draw_value (i := 16) (t := 18) (v := (bool x111.2.2.2.2)) rfl rfl (wanted_none rfl) (fun a => (hasA_cons (k := 13) rfl (done_of (j := 13) hcu rfl (by decide) rfl) hasA_base)) (ov_assign rfl) rfl rfl (onlyT_spec (k0 := 15) rfl rfl rfl)
    ·intro done hall
     refine ent_exi (S := fun ga49 => Z72_I ga49 done) fun ga49 => ?_
     refine draw_endL [box (blk (ga49 14)) 39 C1_,box b40 44 C0_,A0,box b27 33 [L0,L0,L0],box b22 134 [sv38,pt b23 0],own sv38 9 1 x57.1.length (fl eS x57.1),box b23 177 [sv39],own sv39 174 2 x57.2.length (fl enc_Omap_pair__string___int x57.2),box b24 134 [sv40,pt b25 0],own sv40 9 1 x58.1.length (fl eS x58.1),box b25 177 [sv41],own sv41 174 2 x58.2.length (fl enc_Omap_pair__string___int x58.2),box b28 33 [sv42,sv43,sv57.sv],own sv42 9 1 x59.length (fl eS x59),own sv43 9 1 x60.length (fl eS x60),(jown sv57 37 1 eJ 39 4 List.length (fl enc_Api_Cell) l13)] (by simp only [C5_,C4_,C0_,C2_,C3_,C1_,Z72_T,Z72_L,hall 14 (by decide),hall 15 (by decide),sel]) (fun a => (hasA_cons (k := 14) rfl (hall 14 (by decide)) (hasA_cons (k := 15) rfl (hall 16 (by decide)) (hasA_cons (k := 11) rfl (hall 11 (by decide)) (hasA_cons (k := 0) rfl (hall 0 (by decide)) (hasA_cons (k := 1) rfl (hall 1 (by decide)) (hasA_cons (k := 2) rfl (hall 2 (by decide)) (hasA_cons (k := 3) rfl (hall 3 (by decide)) (hasA_cons (k := 4) rfl (hall 4 (by decide)) (hasA_cons (k := 5) rfl (hall 5 (by decide)) (hasA_cons (k := 6) rfl (hall 6 (by decide)) (hasA_cons (k := 7) rfl (hall 7 (by decide)) (hasA_cons (k := 8) rfl (hall 8 (by decide)) (hasA_cons (k := 9) rfl (hall 9 (by decide)) (hasA_cons (k := 10) rfl (hall 10 (by decide)) (hasA_cons (k := 12) rfl (hall 12 (by decide)) (hasA_cons (k := 13) rfl (hall 13 (by decide)) hasA_base))))))))))))))))) ?_
     refine ent_seq (ent_seq (ent_region (ent_value (ov_move rfl) rfl rfl rfl (ent_value (ov_un rfl (u_not _)) rfl rfl rfl (ent_nil ?_)))))
     refine htT H10 (fun c398 H10 => ?_) fun c398 H10 => ?_
     ·refine ent_cond_true rfl c398 (ent_seq (ent_region (ent_value (ov_build (is := []) (xs := []) (vs := []) rfl rfl (build_struct (cs := [L0,L0,L0]) F_zero_33 F_places_33 rfl)) rfl rfl rfl ?_)))
      refine ent_op0 (ot_storeG (cs := [L0,L0,L0]) (cs' := [L0,L0,L0]) (us := [L0,L0,L0]) (L' := [box (blk (ga49 14)) 39 C1_,box b40 44 C0_,A0,box b27 33 [L0,L0,L0],box b22 134 [sv38,pt b23 0],own sv38 9 1 x57.1.length (fl eS x57.1),box b23 177 [sv39],own sv39 174 2 x57.2.length (fl enc_Omap_pair__string___int x57.2),box b24 134 [sv40,pt b25 0],own sv40 9 1 x58.1.length (fl eS x58.1),box b25 177 [sv41],own sv41 174 2 x58.2.length (fl enc_Omap_pair__string___int x58.2),box b28 33 [sv42,sv43,sv57.sv],own sv42 9 1 x59.length (fl eS x59),own sv43 9 1 x60.length (fl eS x60),(jown sv57 37 1 eJ 39 4 List.length (fl enc_Api_Cell) l13)]) 3 rfl rfl rfl (one_all rfl) F_size_33 rfl rfl (by simp [C5_,C4_,C0_,C2_,C3_,C1_,Z72_T,Z72_L]) rfl) rfl rfl ?_
      rintro _ _ rfl
      refine ent_value (ov_assign rfl) rfl rfl rfl (ent_nil (ent_retc ?_))
      first | (have e_ := Option.some.inj (show some _ = some _ from H10); subst e_) | subst H10
      refine ent_ownnil 9 1 ?_
      refine ent_ownnil 9 1 ?_
      refine ent_jnil 37 1 eJ 39 4 List.length (fl enc_Api_Cell) ?_
      exact ret_memp [2,1,0,5] (by decide) rfl (vs := [agg #[L0,L0,L0],I 6]) rfl ⟨⟨_,[L0,L0,L0],rfl,reads_boxW (i := 6) rfl,.inl ⟨F_agg_33,F_size_33,rfl⟩⟩,⟨rfl,trivial⟩⟩ _ rfl ⟨_,_,jnil,rfl,rfl⟩
     refine ent_cond_false rfl (Bool.eq_false_iff.2 c398) (ent_skip ?_)
     refine ent_drawm 9 rfl (fun done a w => StD 116 w0 F [(1,I a1),(2,I a2),(6,pt b27 0),(8,pt b22 0),(9,pt b24 0),(10,pt b28 0),(12,pt b40 0),(13,I x109.1),(14,bool x109.2),(15,I x110.1),(16,bool x110.2),(17,pt (blk (ga49 14)) 0),(18,bool x111.2.2.2.2),(63,sv0),(64,I (l0.length : Int)),(65,I i9),(66,Value.bool (decide (i9 < (l0.length : Int)))),(67,(eptr sv0 (i9.toNat * 9))),(68,C4_),(69,tU #[I x109.1,bool x109.2]),(70,pt b22 0),(71,I a1),(72,pt b40 0),(73,pt b40 1),(74,pt b40 (1 + a1.toNat * 1)),(75,str ([((l0.getD i9.toNat z_Api_Row).Key).Dims_0,((l0.getD i9.toNat z_Api_Row).Key).Dims_1,((l0.getD i9.toNat z_Api_Row).Key).Dims_2,((l0.getD i9.toNat z_Api_Row).Key).Dims_3].getD a1.toNat [])),(76,tU #[I x109.1,bool x109.2]),(77,I x109.1),(78,bool x109.2),(79,tU #[I x110.1,bool x110.2]),(80,pt b24 0),(81,I a2),(82,pt b40 0),(83,pt b40 1),(84,pt b40 (1 + a2.toNat * 1)),(85,str ([((l0.getD i9.toNat z_Api_Row).Key).Dims_0,((l0.getD i9.toNat z_Api_Row).Key).Dims_1,((l0.getD i9.toNat z_Api_Row).Key).Dims_2,((l0.getD i9.toNat z_Api_Row).Key).Dims_3].getD a2.toNat [])),(86,tU #[I x110.1,bool x110.2]),(87,I x110.1),(88,bool x110.2),(89,tU #[C3_,bool x111.2.2.2.2]),(90,pt b28 2),(91,sv57.sv),(92,I x109.1),(93,(eptr sv57.sv (x109.1.toNat * 1))),(94,(sv57.vs x109.1.toNat)),(95,I x110.1),(96,(eptr (sv57.vs x109.1.toNat) (x110.1.toNat * 4))),(97,C2_),(98,pt b40 5),(99,C5_),(100,tU #[C3_,bool x111.2.2.2.2]),(101,C3_),(102,bool x111.2.2.2.2),(103,bool x111.2.2.2.2),(104,bool (!x111.2.2.2.2))] [(0,106,pt b28 2),(1,107,sv57.sv),(2,108,I x109.1),(3,109,(eptr sv57.sv (x109.1.toNat * 1))),(4,110,(sv57.vs x109.1.toNat)),(5,111,I x110.1),(6,112,C3_),(7,113,(eptr (sv57.vs x109.1.toNat) (x110.1.toNat * 4)))] done [box (blk (ga49 14)) 39 C1_,box b40 44 C0_,A0,box b27 33 [L0,L0,L0],box b22 134 [sv38,pt b23 0],own sv38 9 1 x57.1.length (fl eS x57.1),box b23 177 [sv39],own sv39 174 2 x57.2.length (fl enc_Omap_pair__string___int x57.2),box b24 134 [sv40,pt b25 0],own sv40 9 1 x58.1.length (fl eS x58.1),box b25 177 [sv41],own sv41 174 2 x58.2.length (fl enc_Omap_pair__string___int x58.2),box b28 33 [sv42,sv43,sv57.sv],own sv42 9 1 x59.length (fl eS x59),own sv43 9 1 x60.length (fl eS x60),sel (done 8) (jown sv57 37 1 eJ 39 4 List.length (fl enc_Api_Cell) (l13.set x109.1.toNat ((l13.getD x109.1.toNat []).set x110.1.toNat (⟨x111.1,x111.2.1,x111.2.2.1,x111.2.2.2.1⟩ : Api_Cell)))) (jown sv57 37 1 eJ 39 4 List.length (fl enc_Api_Cell) l13)] a w) (by kernel_rfl) (by kernel_rfl) (draw_startL (sub_cons (t := 1) rfl (sub_cons (t := 2) rfl (sub_cons (t := 6) rfl (sub_cons (t := 8) rfl (sub_cons (t := 9) rfl (sub_cons (t := 10) rfl (sub_cons (t := 12) rfl (sub_cons (t := 13) rfl (sub_cons (t := 14) rfl (sub_cons (t := 15) rfl (sub_cons (t := 16) rfl (sub_cons (t := 17) rfl (sub_cons (t := 18) rfl (sub_cons (t := 63) rfl (sub_cons (t := 64) rfl (sub_cons (t := 65) rfl (sub_cons (t := 66) rfl (sub_cons (t := 67) rfl (sub_cons (t := 68) rfl (sub_cons (t := 69) rfl (sub_cons (t := 70) rfl (sub_cons (t := 71) rfl (sub_cons (t := 72) rfl (sub_cons (t := 73) rfl (sub_cons (t := 74) rfl (sub_cons (t := 75) rfl (sub_cons (t := 76) rfl (sub_cons (t := 77) rfl (sub_cons (t := 78) rfl (sub_cons (t := 79) rfl (sub_cons (t := 80) rfl (sub_cons (t := 81) rfl (sub_cons (t := 82) rfl (sub_cons (t := 83) rfl (sub_cons (t := 84) rfl (sub_cons (t := 85) rfl (sub_cons (t := 86) rfl (sub_cons (t := 87) rfl (sub_cons (t := 88) rfl (sub_cons (t := 89) rfl (sub_cons (t := 90) rfl (sub_cons (t := 91) rfl (sub_cons (t := 92) rfl (sub_cons (t := 93) rfl (sub_cons (t := 94) rfl (sub_cons (t := 95) rfl (sub_cons (t := 96) rfl (sub_cons (t := 97) rfl (sub_cons (t := 98) rfl (sub_cons (t := 99) rfl (sub_cons (t := 100) rfl (sub_cons (t := 101) rfl (sub_cons (t := 102) rfl (sub_cons (t := 103) rfl (sub_cons (t := 104) rfl (sub_nil _)))))))))))))))))))))))))))))))))))))))))))))))))))))))) (by simp only [C5_,C4_,C0_,C2_,C3_,C1_,Z72_T,Z72_L,sel])) ?_ ?_
     ·refine ⟨?_,?_,?_,?_,?_,?_,?_,?_,?_,trivial⟩
      ·exact fun done hi hc hcu => draw_value (i := 0) (t := 106) (v := (pt b28 2)) rfl rfl (wanted_none rfl) (fun a => hasA_base) (ov_fieldAddr (sz := 0) (o := 0) rfl F_field_33_2 F_size_31) rfl rfl (onlyT_spec (k0 := 0) rfl rfl rfl)
      ·exact fun done hi hc hcu => draw_value (i := 1) (t := 107) (v := sv57.sv) rfl rfl (wanted_none rfl) (fun a => (hasA_cons (k := 0) rfl (done_of (j := 0) hcu rfl (by decide) rfl) hasA_base)) (ov_load (v := sv57.sv) rfl F_agg_31 (reads_box1 (i := 12) rfl rfl)) rfl rfl (onlyT_spec (k0 := 1) rfl rfl rfl)
      ·exact fun done hi hc hcu => draw_value (i := 2) (t := 108) (v := (I x109.1)) rfl rfl (wanted_none rfl) (fun a => hasA_base) (ov_move rfl) rfl rfl (onlyT_spec (k0 := 2) rfl rfl rfl)
      ·intro done hi hc hcu
       have d1 : done 1 = true := done_of (j := 1) hcu rfl (by decide) rfl
       have d2 : done 2 = true := done_of (j := 2) hcu rfl (by decide) rfl
       have n8 : done 8 = false := notdone_of (m := 8) hc hi rfl rfl
       exact draw_value (i := 3) (t := 109) (v := (eptr sv57.sv (x109.1.toNat * 1))) rfl rfl (wanted_none rfl) (fun a => (hasA_cons (k := 2) rfl d2 (hasA_cons (k := 1) rfl d1 hasA_base))) (ov_L (L2 := [box (blk (ga49 14)) 39 C1_,box b40 44 C0_,A0,box b27 33 [L0,L0,L0],box b22 134 [sv38,pt b23 0],own sv38 9 1 x57.1.length (fl eS x57.1),box b23 177 [sv39],own sv39 174 2 x57.2.length (fl enc_Omap_pair__string___int x57.2),box b24 134 [sv40,pt b25 0],own sv40 9 1 x58.1.length (fl eS x58.1),box b25 177 [sv41],own sv41 174 2 x58.2.length (fl enc_Omap_pair__string___int x58.2),box b28 33 [sv42,sv43,sv57.sv],own sv42 9 1 x59.length (fl eS x59),own sv43 9 1 x60.length (fl eS x60),(jown sv57 37 1 eJ 39 4 List.length (fl enc_Api_Cell) l13)]) (by simp only [C5_,C4_,C0_,C2_,C3_,C1_,Z72_T,Z72_L,n8,sel]) (ov_indexAddr (sz := 0) 15 rfl rfl F_slice_31 F_size_37 rfl isRd_jout c393 c394)) rfl rfl (onlyT_spec (k0 := 3) rfl rfl rfl)
      ·intro done hi hc hcu
       have d3 : done 3 = true := done_of (j := 3) hcu rfl (by decide) rfl
       have n8 : done 8 = false := notdone_of (m := 8) hc hi rfl rfl
       exact draw_value (i := 4) (t := 110) (v := (sv57.vs x109.1.toNat)) rfl rfl (wanted_none rfl) (fun a => (hasA_cons (k := 3) rfl d3 hasA_base)) (ov_L (L2 := [box (blk (ga49 14)) 39 C1_,box b40 44 C0_,A0,box b27 33 [L0,L0,L0],box b22 134 [sv38,pt b23 0],own sv38 9 1 x57.1.length (fl eS x57.1),box b23 177 [sv39],own sv39 174 2 x57.2.length (fl enc_Omap_pair__string___int x57.2),box b24 134 [sv40,pt b25 0],own sv40 9 1 x58.1.length (fl eS x58.1),box b25 177 [sv41],own sv41 174 2 x58.2.length (fl enc_Omap_pair__string___int x58.2),box b28 33 [sv42,sv43,sv57.sv],own sv42 9 1 x59.length (fl eS x59),own sv43 9 1 x60.length (fl eS x60),(jown sv57 37 1 eJ 39 4 List.length (fl enc_Api_Cell) l13)]) (by simp only [C5_,C4_,C0_,C2_,C3_,C1_,Z72_T,Z72_L,n8,sel]) (ov_load (v := (sv57.vs x109.1.toNat)) rfl F_agg_37 (reads_rd (i := 15) rfl isRd_jout (by simp [C5_,C4_,C0_,C2_,C3_,C1_,Z72_T,Z72_L]) (flJ_rd0 (z := []) eJ_len (ix_lt c393 c394) rfl)))) rfl rfl (onlyT_spec (k0 := 4) rfl rfl rfl)
      ·exact fun done hi hc hcu => draw_value (i := 5) (t := 111) (v := (I x110.1)) rfl rfl (wanted_none rfl) (fun a => hasA_base) (ov_move rfl) rfl rfl (onlyT_spec (k0 := 5) rfl rfl rfl)
      ·exact fun done hi hc hcu => draw_value (i := 6) (t := 112) (v := (C3_)) rfl rfl (wanted_none rfl) (fun a => hasA_base) (ov_load_agg (vs := C1_) rfl F_agg_39 F_size_39 (reads_boxW (i := 0) rfl)) rfl rfl (onlyT_spec (k0 := 6) rfl rfl rfl)
      ·intro done hi hc hcu
       have d4 : done 4 = true := done_of (j := 4) hcu rfl (by decide) rfl
       have d5 : done 5 = true := done_of (j := 5) hcu rfl (by decide) rfl
       have n8 : done 8 = false := notdone_of (m := 8) hc hi rfl rfl
       exact draw_value (i := 7) (t := 113) (v := (eptr (sv57.vs x109.1.toNat) (x110.1.toNat * 4))) rfl rfl (wanted_none rfl) (fun a => (hasA_cons (k := 5) rfl d5 (hasA_cons (k := 4) rfl d4 hasA_base))) (ov_L (L2 := [box (blk (ga49 14)) 39 C1_,box b40 44 C0_,A0,box b27 33 [L0,L0,L0],box b22 134 [sv38,pt b23 0],own sv38 9 1 x57.1.length (fl eS x57.1),box b23 177 [sv39],own sv39 174 2 x57.2.length (fl enc_Omap_pair__string___int x57.2),box b24 134 [sv40,pt b25 0],own sv40 9 1 x58.1.length (fl eS x58.1),box b25 177 [sv41],own sv41 174 2 x58.2.length (fl enc_Omap_pair__string___int x58.2),box b28 33 [sv42,sv43,sv57.sv],own sv42 9 1 x59.length (fl eS x59),own sv43 9 1 x60.length (fl eS x60),(jown sv57 37 1 eJ 39 4 List.length (fl enc_Api_Cell) l13)]) (by simp only [C5_,C4_,C0_,C2_,C3_,C1_,Z72_T,Z72_L,n8,sel]) (ov_indexAddr (sz := 3) 15 rfl rfl F_slice_37 F_size_39 rfl (show IsRd _ _ (l13.getD x109.1.toNat []).length 4 (fl enc_Api_Cell (l13.getD x109.1.toNat [])) from isRd_jin (z := []) (ix_lt c393 c394)) c395 c396)) rfl rfl (onlyT_spec (k0 := 7) rfl rfl rfl)
      ·exact fun done hi hc hcu => draw_store (i := 8) (L2 := [box (blk (ga49 14)) 39 C1_,box b40 44 C0_,A0,box b27 33 [L0,L0,L0],box b22 134 [sv38,pt b23 0],own sv38 9 1 x57.1.length (fl eS x57.1),box b23 177 [sv39],own sv39 174 2 x57.2.length (fl enc_Omap_pair__string___int x57.2),box b24 134 [sv40,pt b25 0],own sv40 9 1 x58.1.length (fl eS x58.1),box b25 177 [sv41],own sv41 174 2 x58.2.length (fl enc_Omap_pair__string___int x58.2),box b28 33 [sv42,sv43,sv57.sv],own sv42 9 1 x59.length (fl eS x59),own sv43 9 1 x60.length (fl eS x60),(jown sv57 37 1 eJ 39 4 List.length (fl enc_Api_Cell) l13)]) (L3 := [box (blk (ga49 14)) 39 C1_,box b40 44 C0_,A0,box b27 33 [L0,L0,L0],box b22 134 [sv38,pt b23 0],own sv38 9 1 x57.1.length (fl eS x57.1),box b23 177 [sv39],own sv39 174 2 x57.2.length (fl enc_Omap_pair__string___int x57.2),box b24 134 [sv40,pt b25 0],own sv40 9 1 x58.1.length (fl eS x58.1),box b25 177 [sv41],own sv41 174 2 x58.2.length (fl enc_Omap_pair__string___int x58.2),box b28 33 [sv42,sv43,sv57.sv],own sv42 9 1 x59.length (fl eS x59),own sv43 9 1 x60.length (fl eS x60),(jown sv57 37 1 eJ 39 4 List.length (fl enc_Api_Cell) (l13.set x109.1.toNat ((l13.getD x109.1.toNat []).set x110.1.toNat (⟨x111.1,x111.2.1,x111.2.2.1,x111.2.2.2.1⟩ : Api_Cell))))]) rfl rfl (wanted_none rfl) (fun a => (hasA_cons (k := 6) rfl (done_of (j := 6) hcu rfl (by decide) rfl) (hasA_cons (k := 7) rfl (done_of (j := 7) hcu rfl (by decide) rfl) hasA_base))) (by simp only [C5_,C4_,C0_,C2_,C3_,C1_,Z72_T,Z72_L,hi,sel]) (by simp [C5_,C4_,C0_,C2_,C3_,C1_,Z72_T,Z72_L,up,sel]) (ot_storeJ (z := []) (y := ((l13.getD x109.1.toNat []).set x110.1.toNat (⟨x111.1,x111.2.1,x111.2.2.1,x111.2.2.2.1⟩ : Api_Cell))) (us := C1_) (L' := [box (blk (ga49 14)) 39 C1_,box b40 44 C0_,A0,box b27 33 [L0,L0,L0],box b22 134 [sv38,pt b23 0],own sv38 9 1 x57.1.length (fl eS x57.1),box b23 177 [sv39],own sv39 174 2 x57.2.length (fl enc_Omap_pair__string___int x57.2),box b24 134 [sv40,pt b25 0],own sv40 9 1 x58.1.length (fl eS x58.1),box b25 177 [sv41],own sv41 174 2 x58.2.length (fl enc_Omap_pair__string___int x58.2),box b28 33 [sv42,sv43,sv57.sv],own sv42 9 1 x59.length (fl eS x59),own sv43 9 1 x60.length (fl eS x60),(jown sv57 37 1 eJ 39 4 List.length (fl enc_Api_Cell) (l13.set x109.1.toNat ((l13.getD x109.1.toNat []).set x110.1.toNat (⟨x111.1,x111.2.1,x111.2.2.1,x111.2.2.2.1⟩ : Api_Cell))))]) 15 rfl rfl rfl (all_one rfl) F_size_39 rfl (ix_lt c393 c394) (fl_set (off := 0) (z := z_Api_Cell) enc_Api_Cell_len (ix_lt c395 c396) (Nat.le_of_ble_eq_true rfl) rfl) (fl_room (off := 0) enc_Api_Cell_len (ix_lt c395 c396) (Nat.le_of_ble_eq_true rfl)) rfl (by simp only [C5_,C4_,C0_,C2_,C3_,C1_,Z72_T,Z72_L,List.length_set]) (fun _ => rfl) rfl) (offT_spec rfl)
     ·intro done hall
      refine draw_endL [box (blk (ga49 14)) 39 C1_,box b40 44 C0_,A0,box b27 33 [L0,L0,L0],box b22 134 [sv38,pt b23 0],own sv38 9 1 x57.1.length (fl eS x57.1),box b23 177 [sv39],own sv39 174 2 x57.2.length (fl enc_Omap_pair__string___int x57.2),box b24 134 [sv40,pt b25 0],own sv40 9 1 x58.1.length (fl eS x58.1),box b25 177 [sv41],own sv41 174 2 x58.2.length (fl enc_Omap_pair__string___int x58.2),box b28 33 [sv42,sv43,sv57.sv],own sv42 9 1 x59.length (fl eS x59),own sv43 9 1 x60.length (fl eS x60),(jown sv57 37 1 eJ 39 4 List.length (fl enc_Api_Cell) (l13.set x109.1.toNat ((l13.getD x109.1.toNat []).set x110.1.toNat (⟨x111.1,x111.2.1,x111.2.2.1,x111.2.2.2.1⟩ : Api_Cell))))] (by simp only [C5_,C4_,C0_,C2_,C3_,C1_,Z72_T,Z72_L,hall 8 (by decide),sel]) (fun a => (hasA_cons (k := 0) rfl (hall 0 (by decide)) (hasA_cons (k := 1) rfl (hall 1 (by decide)) (hasA_cons (k := 2) rfl (hall 2 (by decide)) (hasA_cons (k := 3) rfl (hall 3 (by decide)) (hasA_cons (k := 4) rfl (hall 4 (by decide)) (hasA_cons (k := 5) rfl (hall 5 (by decide)) (hasA_cons (k := 6) rfl (hall 6 (by decide)) (hasA_cons (k := 7) rfl (hall 7 (by decide)) hasA_base))))))))) ?_
      refine ent_region (ent_value (ov_bin rfl rfl (b_add _ _ _) ) rfl rfl rfl (ent_value (ov_move rfl) rfl rfl rfl (ent_nil ?_)))
      exact ent_fin [2,3,4,5,6,7,8,9,10,11,12,13,14,15] (by decide) rfl (sub_cons (t := 1) rfl (sub_cons (t := 2) rfl (sub_cons (t := 6) rfl (sub_cons (t := 8) rfl (sub_cons (t := 9) rfl (sub_cons (t := 10) rfl (sub_cons (t := 63) rfl (sub_cons (t := 64) rfl (sub_cons (t := 65) rfl (sub_nil _)))))))))) fun a w h => ⟨k,Nat.lt_succ_self k,_,_,H10,h⟩

theorem ossuarylaw35_StatSums.spec (K : Nat) (A0 : HP) (sv0 : Value) (A1 : HP) (sv1 : Value) (l0 : List Api_Row) (l1 : List Int) (hA0 : IsRd A0 sv0 l0.length 9 (fl enc_Api_Row l0)) (hA1 : IsRd A1 sv1 l1.length 1 (fl (eI .i64) l1)) (r : Bool) (H : ossuarylaw35_StatSums K l0 l1 = some r) : FnSpec Try.prog 3 [sv0,sv1] [A0,A1] (fun v M => v = (bool r) ∧ M = [A0,A1]) := by
 unfold ossuarylaw35_StatSums at H
 refine spec_of Try.func3 rfl 159 rfl (Nat.le_of_ble_eq_true rfl) fun F w0 => ?_
 show Ent (St 159 w0 F [(0,sv0),(1,sv1)] [A0,A1]) _
 refine ent_seq (ent_region (ent_value (ov_assign rfl) rfl rfl rfl (ent_nil (ent_seq (ent_seq (ent_region (ent_value (ov_move rfl) rfl rfl rfl ?_)))))))
 obtain ⟨x35,h24,H⟩ := Option.bind_eq_some_iff.1 H
 refine ent_op (ot_call_same (Lr := [A1]) [0,1] [0,1] (first := []) (cap := []) (xs := [.tmp 19]) rfl rfl F_call_6 rfl (ossuarylaw35_light_R.spec K sv0 A0 l0 hA0 _ h24) (by decide) rfl (by decide) rfl) rfl rfl rfl ?_
 rintro _ _ ⟨rfl,rfl⟩
 refine ent_value (ov_un rfl (u_not _)) rfl rfl rfl (ent_value (ov_move rfl) rfl rfl rfl ?_)
 refine htT H (fun c325 H => ?_) fun c325 H => ?_
 ·refine ent_off rfl rfl rfl c325 rfl rfl ?_
  refine ent_off rfl rfl rfl c325 rfl rfl ?_
  refine ent_off rfl rfl rfl c325 rfl rfl ?_
  refine ent_value (ov_pick rfl rfl rfl (pick_t c325)) rfl rfl rfl (ent_value (ov_move rfl) rfl rfl rfl ?_)
  refine ent_off rfl rfl rfl rfl rfl rfl ?_
  refine ent_off rfl rfl rfl rfl rfl rfl ?_
  refine ent_off rfl rfl rfl rfl rfl rfl ?_
  refine ent_value (ov_pick rfl rfl rfl rfl) rfl rfl rfl (ent_nil (ent_cond_true rfl rfl (ent_seq (ent_region ?_))))
  obtain ⟨x36,h25,H⟩ := Option.bind_eq_some_iff.1 H
  refine ent_op (ot_call0 (first := []) (cap := []) (xs := []) rfl rfl F_call_8 rfl (ossuarylaw35_alive.spec K _ h25)) rfl rfl rfl ?_
  rintro _ _ ⟨rfl,rfl⟩
  refine ent_value (ov_assign rfl) rfl rfl rfl (ent_nil (ent_retc ?_))
  cases H
  refine ent_pick [0,1] (by decide) rfl ?_
  exact ret_tmp rfl rfl ⟨rfl,rfl⟩
 refine ent_value_on (ov_move rfl) rfl rfl rfl (Bool.eq_false_iff.2 c325) rfl rfl ?_
 refine ent_value_on (ov_len 1 rfl F_slice_23 rfl hA1) rfl rfl rfl (Bool.eq_false_iff.2 c325) rfl rfl ?_
 refine ent_value_on (ov_bin rfl rfl (b_gtr _ _ _)) rfl rfl rfl (Bool.eq_false_iff.2 c325) rfl rfl ?_
 refine ent_value (ov_pick rfl rfl rfl (pick_f (Bool.eq_false_iff.2 c325))) rfl rfl rfl (ent_value (ov_move rfl) rfl rfl rfl ?_)
 refine htT H (fun c326 H => ?_) fun c326 H => ?_
 ·refine ent_off rfl rfl rfl (decide_eq_true c326) rfl rfl ?_
  refine ent_off rfl rfl rfl (decide_eq_true c326) rfl rfl ?_
  refine ent_off rfl rfl rfl (decide_eq_true c326) rfl rfl ?_
  refine ent_value (ov_pick rfl rfl rfl (pick_t (decide_eq_true c326))) rfl rfl rfl (ent_nil (ent_cond_true rfl rfl (ent_seq (ent_region ?_))))
  obtain ⟨x37,h26,H⟩ := Option.bind_eq_some_iff.1 H
  refine ent_op (ot_call0 (first := []) (cap := []) (xs := []) rfl rfl F_call_8 rfl (ossuarylaw35_alive.spec K _ h26)) rfl rfl rfl ?_
  rintro _ _ ⟨rfl,rfl⟩
  refine ent_value (ov_assign rfl) rfl rfl rfl (ent_nil (ent_retc ?_))
  cases H
  refine ent_pick [0,1] (by decide) rfl ?_
  exact ret_tmp rfl rfl ⟨rfl,rfl⟩
 refine ent_value_on (ov_move rfl) rfl rfl rfl (decide_eq_false c326) rfl rfl ?_
 obtain ⟨x38,h27,H⟩ := Option.bind_eq_some_iff.1 H
 refine ent_op_on (ot_call_same (Lr := [A1]) [0,1] [0,1] (first := []) (cap := []) (xs := [.tmp 28]) rfl rfl F_call_7 rfl (ossuaryref11_Right_R.spec K sv0 A0 l0 hA0 _ h27) (by decide) rfl (by decide) rfl) rfl rfl rfl (decide_eq_false c326) rfl rfl ?_
 rintro _ _ ⟨rfl,rfl⟩
 refine ent_value_on (ov_un rfl (u_not _)) rfl rfl rfl (decide_eq_false c326) rfl rfl ?_
 refine ent_value (ov_pick rfl rfl rfl (pick_f (decide_eq_false c326))) rfl rfl rfl (ent_nil ?_)
 refine htT H (fun c327 H => ?_) fun c327 H => ?_
 ·refine ent_cond_true rfl c327 (ent_seq (ent_region ?_))
  obtain ⟨x39,h28,H⟩ := Option.bind_eq_some_iff.1 H
  refine ent_op (ot_call0 (first := []) (cap := []) (xs := []) rfl rfl F_call_8 rfl (ossuarylaw35_alive.spec K _ h28)) rfl rfl rfl ?_
  rintro _ _ ⟨rfl,rfl⟩
  refine ent_value (ov_assign rfl) rfl rfl rfl (ent_nil (ent_retc ?_))
  cases H
  refine ent_pick [0,1] (by decide) rfl ?_
  exact ret_tmp rfl rfl ⟨rfl,rfl⟩
 refine ent_cond_false rfl (Bool.eq_false_iff.2 c327) (ent_skip (ent_seq (ent_region (ent_value (ov_move rfl) rfl rfl rfl ?_))))
 obtain ⟨x40,h29,H⟩ := Option.bind_eq_some_iff.1 H
 refine ent_op (ot_call (Lr := [A1]) (first := []) (cap := []) (xs := [.tmp 34]) rfl rfl F_call_9 rfl (stat_Shares_R.spec K sv0 A0 l0 hA0 _ h29) rfl) rfl rfl rfl ?_
 rintro _ _ ⟨_,⟨sv6,rfl,rfl⟩,rfl⟩
 refine ent_value (ov_move rfl) rfl rfl rfl (ent_value (ov_extract rfl rfl) rfl rfl rfl (ent_value (ov_extract rfl rfl) rfl rfl rfl (ent_value (ov_assign rfl) rfl rfl rfl (ent_value (ov_assign rfl) rfl rfl rfl (ent_nil (ent_seq (ent_region (ent_value (ov_assign rfl) rfl rfl rfl (ent_nil ?_)))))))))
 obtain ⟨x41,H38,H⟩ := Option.bind_eq_some_iff.1 H
 refine ent_seq_cut (fun a w => ∃ v3,x41 = Sum.inl v3 ∧ St 159 w0 F [(0,sv0),(1,sv1),(5,sv6),(6,bool x40.1),(7,I v3)] [A0,A1,own sv6 2 1 x40.2.length (fl (eI .i64) x40.2)] a w) ?_ ?_
 ·refine ent_seq (ent_region (ent_value (ov_assign rfl) rfl rfl rfl (ent_nil (ent_block ?_))))
  refine ent_loop (fun k a w => ∃ i54,∃ i55,ossuarylaw35_StatSums_l0 K x40 k i54 i55 = some x41 ∧ St 159 w0 F [(0,sv0),(1,sv1),(5,sv6),(6,bool x40.1),(7,I i54),(8,I i55)] [A0,A1,own sv6 2 1 x40.2.length (fl (eI .i64) x40.2)] a w) K ?_ ?_
  ·exact ent_fin [0,2,1] (by decide) rfl (sub_cons (t := 0) rfl (sub_cons (t := 1) rfl (sub_cons (t := 5) rfl (sub_cons (t := 6) rfl (sub_cons (t := 7) rfl (sub_cons (t := 8) rfl (sub_nil _))))))) fun a w h => ⟨_,_,H38,h⟩
  ·refine fun k => ent_exi fun i54 => ent_exi fun i55 => ent_and fun H39 => ?_
   cases k with
   | zero => exact absurd H39 (by simp [ossuarylaw35_StatSums_l0])
   | succ k =>
    rw [ossuarylaw35_StatSums_l0] at H39
    refine ent_seq (ent_seq (ent_region (ent_value (ov_move rfl) rfl rfl rfl (ent_value (ov_move rfl) rfl rfl rfl (ent_value (ov_len 2 rfl F_slice_23 rfl (isRd_ownx 2)) rfl rfl rfl (ent_value (ov_bin rfl rfl (b_lss _ _ _)) rfl rfl rfl (ent_nil ?_)))))))
    refine htF H39 (fun c371 H39 => ?_) fun c371 H39 => ?_
    ·refine ent_cond_false rfl (decide_eq_false c371) (ent_exit ?_)
     cases H39
     exact ent_fin [0,1,2] (by decide) rfl (sub_cons (t := 0) rfl (sub_cons (t := 1) rfl (sub_cons (t := 5) rfl (sub_cons (t := 6) rfl (sub_cons (t := 7) rfl (sub_nil _)))))) fun a w h => ⟨_,rfl,h⟩
    refine ent_cond_true rfl (decide_eq_true c371) (ent_skip (ent_seq (ent_block (ent_seq (ent_seq (ent_region (ent_value (ov_move rfl) rfl rfl rfl (ent_value (ov_move rfl) rfl rfl rfl ?_))))))))
    obtain ⟨c378,H39⟩ := gdT H39
    refine ent_value (ov_indexAddr (sz := 0) 2 rfl rfl F_slice_23 F_size_2 rfl (isRd_ownx 2) c378 c371) rfl rfl rfl ?_
    refine ent_value (ov_load (v := (I (x40.2.getD i55.toNat 0))) rfl F_agg_2 (reads_rd (i := 2) rfl (isRd_ownx 2) (by simp) (fl_read0 (eI_len _) (ix_lt c378 c371) rfl))) rfl rfl rfl ?_
    refine ent_value (ov_bin rfl rfl (b_lss _ _ _)) rfl rfl rfl (ent_nil ?_)
    refine htT H39 (fun c379 H39 => ?_) fun c379 H39 => ?_
    ·refine ent_cond_true rfl (decide_eq_true c379) (ent_seq (ent_region (ent_value (ov_assign rfl) rfl rfl rfl (ent_nil (ent_retc ?_)))))
     cases H39
     have H40 := Option.some.inj (show some _ = some _ from H)
     cases H40
     refine ent_pick [0,1] (by decide) rfl ?_
     exact ret_tmp rfl rfl ⟨rfl,rfl⟩
    refine ent_cond_false rfl (decide_eq_false c379) (ent_skip (ent_region (ent_value (ov_move rfl) rfl rfl rfl (ent_value (ov_move rfl) rfl rfl rfl (ent_value (ov_move rfl) rfl rfl rfl (ent_value (ov_indexAddr (sz := 0) 2 rfl rfl F_slice_23 F_size_2 rfl (isRd_ownx 2) c378 c371) rfl rfl rfl ?_))))))
    refine ent_value (ov_load (v := (I (x40.2.getD i55.toNat 0))) rfl F_agg_2 (reads_rd (i := 2) rfl (isRd_ownx 2) (by simp) (fl_read0 (eI_len _) (ix_lt c378 c371) rfl))) rfl rfl rfl ?_
    refine ent_value (ov_bin rfl rfl (b_add _ _ _) ) rfl rfl rfl (ent_value (ov_assign rfl) rfl rfl rfl (ent_nil (ent_region (ent_value (ov_move rfl) rfl rfl rfl (ent_value (ov_bin rfl rfl (b_add _ _ _) ) rfl rfl rfl (ent_value (ov_assign rfl) rfl rfl rfl (ent_nil ?_)))))))
    exact ent_fin [0,1,2] (by decide) rfl (sub_cons (t := 0) rfl (sub_cons (t := 1) rfl (sub_cons (t := 5) rfl (sub_cons (t := 6) rfl (sub_cons (t := 7) rfl (sub_cons (t := 8) rfl (sub_nil _))))))) fun a w h => ⟨k,Nat.lt_succ_self k,_,_,H39,h⟩
 ·refine ent_exi fun v3 => ent_and fun e_ => ?_
  subst e_
  rw [cas_inl] at H
  obtain ⟨x42,H41,H⟩ := thn_elim H
  refine ent_seq_cut (fun a w => ∃ v4,x42 = Sum.inl v4 ∧ St 159 w0 F [(0,sv0),(1,sv1)] [A0,A1] a w) ?_ ?_
  ·refine ent_seq (ent_region (ent_value (ov_move rfl) rfl rfl rfl (ent_value (ov_move rfl) rfl rfl rfl ?_)))
   refine htF H41 (fun c387 H41 => ?_) fun c387 H41 => ?_
   ·refine ent_off rfl rfl rfl (Bool.eq_false_iff.2 c387) rfl rfl ?_
    refine ent_off rfl rfl rfl (Bool.eq_false_iff.2 c387) rfl rfl ?_
    refine ent_off rfl rfl rfl (Bool.eq_false_iff.2 c387) rfl rfl ?_
    refine ent_offu rfl rfl rfl rfl rfl ?_
    refine ent_offu rfl rfl rfl rfl rfl ?_
    refine ent_offu rfl rfl rfl rfl rfl ?_
    refine ent_offu rfl rfl rfl rfl rfl ?_
    refine ent_offu rfl rfl rfl rfl rfl ?_
    refine ent_off rfl rfl rfl (Bool.eq_false_iff.2 c387) rfl rfl ?_
    refine ent_value (ov_pick rfl rfl rfl (pick_f (Bool.eq_false_iff.2 c387))) rfl rfl rfl (ent_value (ov_move rfl) rfl rfl rfl ?_)
    refine ent_value_on (ov_move rfl) rfl rfl rfl rfl rfl rfl ?_
    refine ent_value_on (ov_un rfl (u_not _)) rfl rfl rfl rfl rfl rfl ?_
    refine ent_value_on (ov_move rfl) rfl rfl rfl rfl rfl rfl ?_
    refine htF H41 (fun c392 H41 => ?_) fun c392 H41 => ?_
    ·refine ent_off rfl rfl rfl (Bool.eq_false_iff.2 c392) rfl rfl ?_
     refine ent_off rfl rfl rfl (Bool.eq_false_iff.2 c392) rfl rfl ?_
     refine ent_off rfl rfl rfl (Bool.eq_false_iff.2 c392) rfl rfl ?_
     refine ent_value_on (ov_pick rfl rfl rfl (pick_f (Bool.eq_false_iff.2 c392))) rfl rfl rfl rfl rfl rfl ?_
     refine ent_value (ov_pick rfl rfl rfl rfl) rfl rfl rfl (ent_nil (ent_cond_false rfl rfl (ent_skip ?_)))
     cases H41
     exact ent_fin [0,1] (by decide) rfl (sub_cons (t := 0) rfl (sub_cons (t := 1) rfl (sub_nil _))) fun a w h => ⟨_,rfl,h⟩
    refine ent_value_on (ov_move rfl) rfl rfl rfl c392 rfl rfl ?_
    refine ent_value_on (ov_len 2 rfl F_slice_23 rfl (isRd_ownx 2)) rfl rfl rfl c392 rfl rfl ?_
    refine ent_value_on (ov_bin rfl rfl (b_neq _ _ _)) rfl rfl rfl c392 rfl rfl ?_
    refine ent_value_on (ov_pick rfl rfl rfl (pick_t c392)) rfl rfl rfl rfl rfl rfl ?_
    refine ent_value (ov_pick rfl rfl rfl rfl) rfl rfl rfl (ent_nil ?_)
    refine htF H41 (fun c393 H41 => ?_) fun c393 H41 => ?_
    ·refine ent_cond_false rfl (ne_f c393) (ent_skip ?_)
     cases H41
     exact ent_fin [0,1] (by decide) rfl (sub_cons (t := 0) rfl (sub_cons (t := 1) rfl (sub_nil _))) fun a w h => ⟨_,rfl,h⟩
    refine ent_cond_true rfl (ne_t c393) (ent_seq (ent_region (ent_value (ov_assign rfl) rfl rfl rfl (ent_nil (ent_retc ?_)))))
    subst H41
    have H45 := Option.some.inj (show some _ = some _ from H)
    cases H45
    refine ent_pick [0,1] (by decide) rfl ?_
    exact ret_tmp rfl rfl ⟨rfl,rfl⟩
   refine ent_value_on (ov_move rfl) rfl rfl rfl c387 rfl rfl ?_
   refine ent_value_on (ov_bin rfl rfl (b_gtr _ _ _)) rfl rfl rfl c387 rfl rfl ?_
   refine ent_value_on (ov_move rfl) rfl rfl rfl c387 rfl rfl ?_
   refine htT H41 (fun c388 H41 => ?_) fun c388 H41 => ?_
   ·refine ent_off rfl rfl rfl (decide_eq_true c388) rfl rfl ?_
    refine ent_off rfl rfl rfl (decide_eq_true c388) rfl rfl ?_
    refine ent_off rfl rfl rfl (decide_eq_true c388) rfl rfl ?_
    refine ent_off rfl rfl rfl (decide_eq_true c388) rfl rfl ?_
    refine ent_off rfl rfl rfl (decide_eq_true c388) rfl rfl ?_
    refine ent_value_on (ov_pick rfl rfl rfl (pick_t (decide_eq_true c388))) rfl rfl rfl c387 rfl rfl ?_
    refine ent_value (ov_pick rfl rfl rfl (pick_t c387)) rfl rfl rfl (ent_value (ov_move rfl) rfl rfl rfl ?_)
    refine ent_off rfl rfl rfl rfl rfl rfl ?_
    refine ent_off rfl rfl rfl rfl rfl rfl ?_
    refine ent_off rfl rfl rfl rfl rfl rfl ?_
    refine ent_offu rfl rfl rfl rfl rfl ?_
    refine ent_offu rfl rfl rfl rfl rfl ?_
    refine ent_offu rfl rfl rfl rfl rfl ?_
    refine ent_off rfl rfl rfl rfl rfl rfl ?_
    refine ent_value (ov_pick rfl rfl rfl rfl) rfl rfl rfl (ent_nil (ent_cond_true rfl rfl (ent_seq (ent_region (ent_value (ov_assign rfl) rfl rfl rfl (ent_nil (ent_retc ?_)))))))
    subst H41
    have H42 := Option.some.inj (show some _ = some _ from H)
    cases H42
    refine ent_pick [0,1] (by decide) rfl ?_
    exact ret_tmp rfl rfl ⟨rfl,rfl⟩
   refine ent_value_on (ov_move rfl) rfl rfl rfl (decide_eq_false c388) rfl rfl ?_
   refine ent_value_on (ov_move rfl) rfl rfl rfl (decide_eq_false c388) rfl rfl ?_
   refine ent_value_on (ov_len 0 rfl F_slice_22 rfl hA0) rfl rfl rfl (decide_eq_false c388) rfl rfl ?_
   refine ent_value_on (ov_bin rfl rfl (b_sub _ _ _) ) rfl rfl rfl (decide_eq_false c388) rfl rfl ?_
   refine ent_value_on (ov_bin rfl rfl (b_lss _ _ _)) rfl rfl rfl (decide_eq_false c388) rfl rfl ?_
   refine ent_value_on (ov_pick rfl rfl rfl (pick_f (decide_eq_false c388))) rfl rfl rfl c387 rfl rfl ?_
   refine ent_value (ov_pick rfl rfl rfl (pick_t c387)) rfl rfl rfl (ent_value (ov_move rfl) rfl rfl rfl ?_)
   refine htT H41 (fun c389 H41 => ?_) fun c389 H41 => ?_
   ·refine ent_off rfl rfl rfl (decide_eq_true c389) rfl rfl ?_
    refine ent_off rfl rfl rfl (decide_eq_true c389) rfl rfl ?_
    refine ent_off rfl rfl rfl (decide_eq_true c389) rfl rfl ?_
    refine ent_offu rfl rfl rfl rfl rfl ?_
    refine ent_offu rfl rfl rfl rfl rfl ?_
    refine ent_offu rfl rfl rfl rfl rfl ?_
    refine ent_off rfl rfl rfl (decide_eq_true c389) rfl rfl ?_
    refine ent_value (ov_pick rfl rfl rfl (pick_t (decide_eq_true c389))) rfl rfl rfl (ent_nil (ent_cond_true rfl rfl (ent_seq (ent_region (ent_value (ov_assign rfl) rfl rfl rfl (ent_nil (ent_retc ?_)))))))
    subst H41
    have H43 := Option.some.inj (show some _ = some _ from H)
    cases H43
    refine ent_pick [0,1] (by decide) rfl ?_
    exact ret_tmp rfl rfl ⟨rfl,rfl⟩
   refine ent_value_on (ov_move rfl) rfl rfl rfl (decide_eq_false c389) rfl rfl ?_
   refine ent_value_on (ov_un rfl (u_not _)) rfl rfl rfl (decide_eq_false c389) rfl rfl ?_
   refine ent_value_on (ov_move rfl) rfl rfl rfl (decide_eq_false c389) rfl rfl ?_
   refine htF H41 (fun c390 H41 => ?_) fun c390 H41 => ?_
   ·refine ent_off rfl rfl rfl (Bool.eq_false_iff.2 c390) rfl rfl ?_
    refine ent_off rfl rfl rfl (Bool.eq_false_iff.2 c390) rfl rfl ?_
    refine ent_off rfl rfl rfl (Bool.eq_false_iff.2 c390) rfl rfl ?_
    refine ent_value_on (ov_pick rfl rfl rfl (pick_f (Bool.eq_false_iff.2 c390))) rfl rfl rfl (decide_eq_false c389) rfl rfl ?_
    refine ent_value (ov_pick rfl rfl rfl (pick_f (decide_eq_false c389))) rfl rfl rfl (ent_nil (ent_cond_false rfl rfl (ent_skip ?_)))
    cases H41
    exact ent_fin [0,1] (by decide) rfl (sub_cons (t := 0) rfl (sub_cons (t := 1) rfl (sub_nil _))) fun a w h => ⟨_,rfl,h⟩
   refine ent_value_on (ov_move rfl) rfl rfl rfl c390 rfl rfl ?_
   refine ent_value_on (ov_len 2 rfl F_slice_23 rfl (isRd_ownx 2)) rfl rfl rfl c390 rfl rfl ?_
   refine ent_value_on (ov_bin rfl rfl (b_neq _ _ _)) rfl rfl rfl c390 rfl rfl ?_
   refine ent_value_on (ov_pick rfl rfl rfl (pick_t c390)) rfl rfl rfl (decide_eq_false c389) rfl rfl ?_
   refine ent_value (ov_pick rfl rfl rfl (pick_f (decide_eq_false c389))) rfl rfl rfl (ent_nil ?_)
   refine htF H41 (fun c391 H41 => ?_) fun c391 H41 => ?_
   ·refine ent_cond_false rfl (ne_f c391) (ent_skip ?_)
    cases H41
    exact ent_fin [0,1] (by decide) rfl (sub_cons (t := 0) rfl (sub_cons (t := 1) rfl (sub_nil _))) fun a w h => ⟨_,rfl,h⟩
   refine ent_cond_true rfl (ne_t c391) (ent_seq (ent_region (ent_value (ov_assign rfl) rfl rfl rfl (ent_nil (ent_retc ?_)))))
   subst H41
   have H44 := Option.some.inj (show some _ = some _ from H)
   cases H44
   refine ent_pick [0,1] (by decide) rfl ?_
   exact ret_tmp rfl rfl ⟨rfl,rfl⟩
  ·refine ent_exi fun v4 => ent_and fun e_ => ?_
   subst e_
   rw [cas_inl] at H
   refine ent_seq (ent_region (ent_value (ov_assign rfl) rfl rfl rfl (ent_nil (ent_seq (ent_region (ent_value (ov_move rfl) rfl rfl rfl ?_))))))
   obtain ⟨x43,h30,H⟩ := Option.bind_eq_some_iff.1 H
   refine ent_op (ot_call_same (Lr := [A0]) [1,0] [1,0] (first := []) (cap := []) (xs := [.tmp 76]) rfl rfl F_call_10 rfl (stat_Buckets_R.spec K sv1 A1 l1 hA1 _ h30) (by decide) rfl (by decide) rfl) rfl rfl rfl ?_
   rintro _ _ ⟨rfl,rfl⟩
   refine ent_op (ot_alloc F_zero_28) rfl rfl rfl ?_
   rintro _ _ ⟨b7,rfl,rfl⟩
   refine ent_op0 (ot_storeW (cs := (arrF (eI .i64) 65 (fun _ => 0))) (us := (arrF (eI .i64) 65 x43)) (L' := [box b7 28 (arrF (eI .i64) 65 x43),A0,A1]) 0 rfl rfl rfl (arrF_one (eI_one _)) (size_arrF F_size_28 (eI_len _) rfl) rfl (arrF_same (eI_len _)) rfl) rfl rfl ?_
   rintro _ _ rfl
   refine ent_nil ?_
   obtain ⟨x44,H47,H⟩ := Option.bind_eq_some_iff.1 H
   refine ent_seq_cut (fun a w => St 159 w0 F [(0,sv0),(1,sv1),(9,I x44)] [A0,A1] a w) ?_ ?_
   ·refine ent_seq (ent_region (ent_value (ov_assign rfl) rfl rfl rfl (ent_nil (ent_block ?_))))
    refine ent_loop (fun k a w => ∃ i59,∃ i60,ossuarylaw35_StatSums_l1 K x43 k i59 i60 = some x44 ∧ St 159 w0 F [(0,sv0),(1,sv1),(9,I i59),(10,pt b7 0),(11,I i60)] [A0,A1,box b7 28 (arrF (eI .i64) 65 x43)] a w) K ?_ ?_
    ·exact ent_fin [1,2,0] (by decide) rfl (sub_cons (t := 0) rfl (sub_cons (t := 1) rfl (sub_cons (t := 9) rfl (sub_cons (t := 10) rfl (sub_cons (t := 11) rfl (sub_nil _)))))) fun a w h => ⟨_,_,H47,h⟩
    ·refine fun k => ent_exi fun i59 => ent_exi fun i60 => ent_and fun H48 => ?_
     cases k with
     | zero => exact absurd H48 (by simp [ossuarylaw35_StatSums_l1])
     | succ k =>
      rw [ossuarylaw35_StatSums_l1] at H48
      refine ent_seq (ent_seq (ent_region (ent_value (ov_move rfl) rfl rfl rfl (ent_value (ov_bin rfl rfl (b_lss _ _ _)) rfl rfl rfl (ent_nil ?_)))))
      refine htF H48 (fun c417 H48 => ?_) fun c417 H48 => ?_
      ·refine ent_cond_false rfl (decide_eq_false c417) (ent_exit ?_)
       cases H48
       exact ent_fin [0,1] (by decide) rfl (sub_cons (t := 0) rfl (sub_cons (t := 1) rfl (sub_cons (t := 9) rfl (sub_nil _)))) fun a w h => h
      refine ent_cond_true rfl (decide_eq_true c417) (ent_skip (ent_seq (ent_block (ent_region (ent_value (ov_move rfl) rfl rfl rfl (ent_value (ov_move rfl) rfl rfl rfl ?_))))))
      obtain ⟨c420,H48⟩ := gdT H48
      obtain ⟨c421,H48⟩ := gdT H48
      refine ent_value (ov_indexArr (o := 0) rfl rfl F_array_28 F_size_3 c420 c421) rfl rfl rfl (ent_value (ov_load (v := (I (x43 i60.toNat))) rfl F_agg_3 (reads_boxF (i := 2) rfl (eI_len _) (ix_lt c420 c421))) rfl rfl rfl (ent_value (ov_bin rfl rfl (b_add _ _ _) ) rfl rfl rfl (ent_value (ov_assign rfl) rfl rfl rfl (ent_nil (ent_region (ent_value (ov_move rfl) rfl rfl rfl (ent_value (ov_bin rfl rfl (b_add _ _ _) ) rfl rfl rfl (ent_value (ov_assign rfl) rfl rfl rfl (ent_nil ?_)))))))))
      exact ent_fin [0,1,2] (by decide) rfl (sub_cons (t := 0) rfl (sub_cons (t := 1) rfl (sub_cons (t := 9) rfl (sub_cons (t := 10) rfl (sub_cons (t := 11) rfl (sub_nil _)))))) fun a w h => ⟨k,Nat.lt_succ_self k,_,_,H48,h⟩
   ·refine ent_seq (ent_region (ent_value (ov_move rfl) rfl rfl rfl ?_))
    obtain ⟨x45,h31,H⟩ := Option.bind_eq_some_iff.1 H
    refine ent_op (ot_call (Lr := [A1]) (first := []) (cap := []) (xs := [.tmp 88,.const (I 0),.const (I 1)]) rfl rfl F_call_11 rfl (stat_Pivot_R.spec K sv0 A0 l0 0 1 hA0 _ h31) rfl) rfl rfl rfl ?_
    rintro _ _ ⟨_,⟨sv7,sv8,sv9,rfl,rfl⟩,rfl⟩
    refine ent_value (ov_move rfl) rfl rfl rfl (ent_value (ov_extract rfl rfl) rfl rfl rfl (ent_value (ov_extract rfl rfl) rfl rfl rfl ?_))
    refine ent_op (ot_alloc F_zero_33) rfl rfl rfl ?_
    rintro _ _ ⟨b8,rfl,rfl⟩
    refine ent_op0 (ot_storeG (cs := [L0,L0,L0]) (cs' := [sv7,sv8,sv9.sv]) (us := [sv7,sv8,sv9.sv]) (L' := [box b8 33 [sv7,sv8,sv9.sv],own sv7 9 1 x45.2.1.length (fl eS x45.2.1),own sv8 9 1 x45.2.2.1.length (fl eS x45.2.2.1),(jown sv9 37 1 eJ 39 4 List.length (fl enc_Api_Cell) x45.2.2.2),A0,A1]) 0 rfl rfl rfl (one_sl 1 rfl (isRd_ownx 9) (one_sl 2 rfl (isRd_ownx 9) (one_sl 3 rfl isRd_jout one_nil))) F_size_33 rfl rfl (by simp) rfl) rfl rfl ?_
    rintro _ _ rfl
    refine ent_value (ov_assign rfl) rfl rfl rfl (ent_nil (ent_seq (ent_seq (ent_region (ent_value (ov_move rfl) rfl rfl rfl (ent_value (ov_bin rfl rfl (b_neq _ _ _)) rfl rfl rfl (ent_value (ov_move rfl) rfl rfl rfl ?_)))))))
    refine htT H (fun c428 H => ?_) fun c428 H => ?_
    ·refine ent_off rfl rfl rfl (ne_t c428) rfl rfl ?_
     refine ent_off rfl rfl rfl (ne_t c428) rfl rfl ?_
     refine ent_off rfl rfl rfl (ne_t c428) rfl rfl ?_
     refine ent_off rfl rfl rfl (ne_t c428) rfl rfl ?_
     refine ent_value (ov_pick rfl rfl rfl (pick_t (ne_t c428))) rfl rfl rfl (ent_nil (ent_cond_true rfl rfl (ent_seq (ent_region (ent_value (ov_move rfl) rfl rfl rfl (ent_value (ov_bin rfl rfl (b_eql _ _ _)) rfl rfl rfl (ent_value (ov_move rfl) rfl rfl rfl ?_)))))))
     refine htF H (fun c429 H => ?_) fun c429 H => ?_
     ·refine ent_off rfl rfl rfl (eq_f c429) rfl rfl ?_
      refine ent_off rfl rfl rfl (eq_f c429) rfl rfl ?_
      refine ent_off rfl rfl rfl (eq_f c429) rfl rfl ?_
      refine ent_off rfl rfl rfl (eq_f c429) rfl rfl ?_
      refine ent_value (ov_pick rfl rfl rfl (pick_f (eq_f c429))) rfl rfl rfl (ent_value (ov_move rfl) rfl rfl rfl ?_)
      refine ent_off rfl rfl rfl rfl rfl rfl ?_
      refine ent_value (ov_pick rfl rfl rfl rfl) rfl rfl rfl (ent_value (ov_assign rfl) rfl rfl rfl (ent_nil (ent_retc ?_)))
      cases H
      refine ent_pick [4,5] (by decide) rfl ?_
      exact ret_tmp rfl rfl ⟨rfl,rfl⟩
     refine ent_value_on (ov_move rfl) rfl rfl rfl (eq_t c429) rfl rfl ?_
     refine ent_value_on (ov_move rfl) rfl rfl rfl (eq_t c429) rfl rfl ?_
     refine ent_value_on (ov_len 5 rfl F_slice_23 rfl hA1) rfl rfl rfl (eq_t c429) rfl rfl ?_
     refine ent_value_on (ov_bin rfl rfl (b_eql _ _ _)) rfl rfl rfl (eq_t c429) rfl rfl ?_
     refine ent_value (ov_pick rfl rfl rfl (pick_t (eq_t c429))) rfl rfl rfl (ent_value (ov_move rfl) rfl rfl rfl ?_)
     refine htF H (fun c430 H => ?_) fun c430 H => ?_
     ·refine ent_off rfl rfl rfl (eq_f c430) rfl rfl ?_
      refine ent_value (ov_pick rfl rfl rfl (pick_f (eq_f c430))) rfl rfl rfl (ent_value (ov_assign rfl) rfl rfl rfl (ent_nil (ent_retc ?_)))
      cases H
      refine ent_pick [4,5] (by decide) rfl ?_
      exact ret_tmp rfl rfl ⟨rfl,rfl⟩
     obtain ⟨x48,h34,H⟩ := Option.bind_eq_some_iff.1 H
     refine ent_op_on (ot_call0 (first := []) (cap := []) (xs := []) rfl rfl F_call_8 rfl (ossuarylaw35_alive.spec K _ h34)) rfl rfl rfl (eq_t c430) rfl rfl ?_
     rintro _ _ ⟨rfl,rfl⟩
     refine ent_value (ov_pick rfl rfl rfl (pick_t (eq_t c430))) rfl rfl rfl (ent_value (ov_assign rfl) rfl rfl rfl (ent_nil (ent_retc ?_)))
     cases H
     refine ent_pick [4,5] (by decide) rfl ?_
     exact ret_tmp rfl rfl ⟨rfl,rfl⟩
    refine ent_value_on (ov_move rfl) rfl rfl rfl (ne_f c428) rfl rfl ?_
    refine ent_value_on (ov_move rfl) rfl rfl rfl (ne_f c428) rfl rfl ?_
    refine ent_value_on (ov_len 5 rfl F_slice_23 rfl hA1) rfl rfl rfl (ne_f c428) rfl rfl ?_
    refine ent_value_on (ov_bin rfl rfl (b_neq _ _ _)) rfl rfl rfl (ne_f c428) rfl rfl ?_
    refine ent_value (ov_pick rfl rfl rfl (pick_f (ne_f c428))) rfl rfl rfl (ent_nil ?_)
    refine htT H (fun c431 H => ?_) fun c431 H => ?_
    ·refine ent_cond_true rfl (ne_t c431) (ent_seq (ent_region (ent_value (ov_move rfl) rfl rfl rfl (ent_value (ov_bin rfl rfl (b_eql _ _ _)) rfl rfl rfl (ent_value (ov_move rfl) rfl rfl rfl ?_)))))
     refine htF H (fun c432 H => ?_) fun c432 H => ?_
     ·refine ent_off rfl rfl rfl (eq_f c432) rfl rfl ?_
      refine ent_off rfl rfl rfl (eq_f c432) rfl rfl ?_
      refine ent_off rfl rfl rfl (eq_f c432) rfl rfl ?_
      refine ent_off rfl rfl rfl (eq_f c432) rfl rfl ?_
      refine ent_value (ov_pick rfl rfl rfl (pick_f (eq_f c432))) rfl rfl rfl (ent_value (ov_move rfl) rfl rfl rfl ?_)
      refine ent_off rfl rfl rfl rfl rfl rfl ?_
      refine ent_value (ov_pick rfl rfl rfl rfl) rfl rfl rfl (ent_value (ov_assign rfl) rfl rfl rfl (ent_nil (ent_retc ?_)))
      cases H
      refine ent_pick [4,5] (by decide) rfl ?_
      exact ret_tmp rfl rfl ⟨rfl,rfl⟩
     refine ent_value_on (ov_move rfl) rfl rfl rfl (eq_t c432) rfl rfl ?_
     refine ent_value_on (ov_move rfl) rfl rfl rfl (eq_t c432) rfl rfl ?_
     refine ent_value_on (ov_len 5 rfl F_slice_23 rfl hA1) rfl rfl rfl (eq_t c432) rfl rfl ?_
     refine ent_value_on (ov_bin rfl rfl (b_eql _ _ _)) rfl rfl rfl (eq_t c432) rfl rfl ?_
     refine ent_value (ov_pick rfl rfl rfl (pick_t (eq_t c432))) rfl rfl rfl (ent_value (ov_move rfl) rfl rfl rfl ?_)
     refine htF H (fun c433 H => ?_) fun c433 H => ?_
     ·refine ent_off rfl rfl rfl (eq_f c433) rfl rfl ?_
      refine ent_value (ov_pick rfl rfl rfl (pick_f (eq_f c433))) rfl rfl rfl (ent_value (ov_assign rfl) rfl rfl rfl (ent_nil (ent_retc ?_)))
      cases H
      refine ent_pick [4,5] (by decide) rfl ?_
      exact ret_tmp rfl rfl ⟨rfl,rfl⟩
     obtain ⟨x49,h35,H⟩ := Option.bind_eq_some_iff.1 H
     refine ent_op_on (ot_call0 (first := []) (cap := []) (xs := []) rfl rfl F_call_8 rfl (ossuarylaw35_alive.spec K _ h35)) rfl rfl rfl (eq_t c433) rfl rfl ?_
     rintro _ _ ⟨rfl,rfl⟩
     refine ent_value (ov_pick rfl rfl rfl (pick_t (eq_t c433))) rfl rfl rfl (ent_value (ov_assign rfl) rfl rfl rfl (ent_nil (ent_retc ?_)))
     cases H
     refine ent_pick [4,5] (by decide) rfl ?_
     exact ret_tmp rfl rfl ⟨rfl,rfl⟩
    refine ent_cond_false rfl (ne_f c431) (ent_skip (ent_seq (ent_region (ent_value (ov_assign rfl) rfl rfl rfl (ent_value (ov_assign rfl) rfl rfl rfl (ent_nil ?_))))))
    obtain ⟨x53,H59,H⟩ := Option.bind_eq_some_iff.1 H
    refine ent_seq_cut (fun a w => St 159 w0 F [(0,sv0),(14,I x53),(15,I 0)] [A0,A1] a w) ?_ ?_
    ·refine ent_seq (ent_region (ent_value (ov_assign rfl) rfl rfl rfl (ent_nil (ent_block ?_))))
     refine ent_loop (fun k a w => ∃ i84,∃ i85,∃ b12 : Nat,ossuarylaw35_StatSums_l2 K x45 k i84 i85 = some x53 ∧ St 159 w0 F [(0,sv0),(12,pt b12 0),(14,I i84),(15,I 0),(16,I i85)] [A0,A1,box b12 33 [sv7,sv8,sv9.sv],own sv7 9 1 x45.2.1.length (fl eS x45.2.1),own sv8 9 1 x45.2.2.1.length (fl eS x45.2.2.1),(jown sv9 37 1 eJ 39 4 List.length (fl enc_Api_Cell) x45.2.2.2)] a w) K ?_ ?_
     ·exact ent_fin [4,5,0,1,2,3] (by decide) rfl (sub_cons (t := 0) rfl (sub_cons (t := 12) rfl (sub_cons (t := 14) rfl (sub_cons (t := 15) rfl (sub_cons (t := 16) rfl (sub_nil _)))))) fun a w h => ⟨_,_,_,H59,h⟩
     ·refine fun k => ent_exi fun i84 => ent_exi fun i85 => ent_exi fun b12 => ent_and fun H66 => ?_
      cases k with
      | zero => exact absurd H66 (by simp [ossuarylaw35_StatSums_l2])
      | succ k =>
       rw [ossuarylaw35_StatSums_l2] at H66
       refine ent_seq (ent_seq (ent_region (ent_value (ov_move rfl) rfl rfl rfl (ent_value (ov_fieldAddr (sz := 0) (o := 0) rfl F_field_33_2 F_size_31) rfl rfl rfl (ent_value (ov_load (v := sv9.sv) rfl F_agg_31 (reads_box1 (i := 2) rfl rfl)) rfl rfl rfl (ent_value (ov_len 5 rfl F_slice_31 rfl isRd_jout) rfl rfl rfl (ent_value (ov_bin rfl rfl (b_lss _ _ _)) rfl rfl rfl (ent_nil ?_))))))))
       refine htF H66 (fun c587 H66 => ?_) fun c587 H66 => ?_
       ·refine ent_cond_false rfl (decide_eq_false c587) (ent_exit ?_)
        cases H66
        exact ent_fin [0,1] (by decide) rfl (sub_cons (t := 0) rfl (sub_cons (t := 14) rfl (sub_cons (t := 15) rfl (sub_nil _)))) fun a w h => h
       refine ent_cond_true rfl (decide_eq_true c587) (ent_skip ?_)
       obtain ⟨x56,H68,H66⟩ := Option.bind_eq_some_iff.1 H66
       refine ent_seq_cut (fun a w => St 159 w0 F [(0,sv0),(12,pt b12 0),(14,I x56),(15,I 0),(16,I i85)] [A0,A1,box b12 33 [sv7,sv8,sv9.sv],own sv7 9 1 x45.2.1.length (fl eS x45.2.1),own sv8 9 1 x45.2.2.1.length (fl eS x45.2.2.1),(jown sv9 37 1 eJ 39 4 List.length (fl enc_Api_Cell) x45.2.2.2)] a w) ?_ ?_
       ·refine ent_block (ent_seq (ent_region (ent_value (ov_assign rfl) rfl rfl rfl (ent_nil (ent_block ?_)))))
        refine ent_loop (fun k a w => ∃ i94,∃ i95,ossuarylaw35_StatSums_l3 K x45 i85 k i94 i95 = some x56 ∧ St 159 w0 F [(0,sv0),(12,pt b12 0),(14,I i94),(15,I 0),(16,I i85),(17,I i95)] [A0,A1,box b12 33 [sv7,sv8,sv9.sv],own sv7 9 1 x45.2.1.length (fl eS x45.2.1),own sv8 9 1 x45.2.2.1.length (fl eS x45.2.2.1),(jown sv9 37 1 eJ 39 4 List.length (fl enc_Api_Cell) x45.2.2.2)] a w) K ?_ ?_
        ·exact ent_fin [0,1,2,3,4,5] (by decide) rfl (sub_cons (t := 0) rfl (sub_cons (t := 12) rfl (sub_cons (t := 14) rfl (sub_cons (t := 15) rfl (sub_cons (t := 16) rfl (sub_cons (t := 17) rfl (sub_nil _))))))) fun a w h => ⟨_,_,H68,h⟩
        ·refine fun k => ent_exi fun i94 => ent_exi fun i95 => ent_and fun H69 => ?_
         cases k with
         | zero => exact absurd H69 (by simp [ossuarylaw35_StatSums_l3])
         | succ k =>
          rw [ossuarylaw35_StatSums_l3] at H69
          refine ent_seq (ent_seq (ent_region (ent_value (ov_move rfl) rfl rfl rfl (ent_value (ov_fieldAddr (sz := 0) (o := 0) rfl F_field_33_2 F_size_31) rfl rfl rfl (ent_value (ov_load (v := sv9.sv) rfl F_agg_31 (reads_box1 (i := 2) rfl rfl)) rfl rfl rfl (ent_value (ov_move rfl) rfl rfl rfl ?_))))))
          obtain ⟨c618,H69⟩ := gdT H69
          refine ent_value (ov_indexAddr (sz := 0) 5 rfl rfl F_slice_31 F_size_37 rfl isRd_jout c618 c587) rfl rfl rfl ?_
          refine ent_value (ov_load (v := (sv9.vs i85.toNat)) rfl F_agg_37 (reads_rd (i := 5) rfl isRd_jout (by simp) (flJ_rd0 (z := []) eJ_len (ix_lt c618 c587) rfl))) rfl rfl rfl ?_
          refine ent_value (ov_len 5 rfl F_slice_37 rfl (show IsRd _ _ (x45.2.2.2.getD i85.toNat []).length 4 (fl enc_Api_Cell (x45.2.2.2.getD i85.toNat [])) from isRd_jin (z := []) (ix_lt c618 c587))) rfl rfl rfl (ent_value (ov_bin rfl rfl (b_lss _ _ _)) rfl rfl rfl (ent_nil ?_))
          refine htF H69 (fun c619 H69 => ?_) fun c619 H69 => ?_
          ·refine ent_cond_false rfl (decide_eq_false c619) (ent_exit ?_)
           cases H69
           exact ent_fin [0,1,2,3,4,5] (by decide) rfl (sub_cons (t := 0) rfl (sub_cons (t := 12) rfl (sub_cons (t := 14) rfl (sub_cons (t := 15) rfl (sub_cons (t := 16) rfl (sub_nil _)))))) fun a w h => h
          refine ent_cond_true rfl (decide_eq_true c619) (ent_skip (ent_seq (ent_block (ent_region (ent_value (ov_move rfl) rfl rfl rfl (ent_value (ov_fieldAddr (sz := 0) (o := 0) rfl F_field_33_2 F_size_31) rfl rfl rfl (ent_value (ov_load (v := sv9.sv) rfl F_agg_31 (reads_box1 (i := 2) rfl rfl)) rfl rfl rfl (ent_value (ov_move rfl) rfl rfl rfl (ent_value (ov_indexAddr (sz := 0) 5 rfl rfl F_slice_31 F_size_37 rfl isRd_jout c618 c587) rfl rfl rfl ?_)))))))))
          refine ent_value (ov_load (v := (sv9.vs i85.toNat)) rfl F_agg_37 (reads_rd (i := 5) rfl isRd_jout (by simp) (flJ_rd0 (z := []) eJ_len (ix_lt c618 c587) rfl))) rfl rfl rfl ?_
          refine ent_value (ov_move rfl) rfl rfl rfl ?_
          obtain ⟨c621,H69⟩ := gdT H69
          refine ent_value (ov_indexAddr (sz := 3) 5 rfl rfl F_slice_37 F_size_39 rfl (show IsRd _ _ (x45.2.2.2.getD i85.toNat []).length 4 (fl enc_Api_Cell (x45.2.2.2.getD i85.toNat [])) from isRd_jin (z := []) (ix_lt c618 c587)) c621 c619) rfl rfl rfl (ent_value (ov_fieldAddrE (sz := 0) (k0 := i95.toNat * 4) (off := 0) 5 rfl F_field_39_0 F_size_2 rfl (show IsRd _ _ (x45.2.2.2.getD i85.toNat []).length 4 (fl enc_Api_Cell (x45.2.2.2.getD i85.toNat [])) from isRd_jin (z := []) (ix_lt c618 c587)) (fl_pos enc_Api_Cell_len (ix_lt c621 c619))) rfl rfl rfl ?_)
          refine ent_value (ov_load (v := (I (((x45.2.2.2.getD i85.toNat []).getD i95.toNat z_Api_Cell).Count))) rfl F_agg_2 (reads_rd (i := 5) rfl (show IsRd _ _ (x45.2.2.2.getD i85.toNat []).length 4 (fl enc_Api_Cell (x45.2.2.2.getD i85.toNat [])) from isRd_jin (z := []) (ix_lt c618 c587)) (by simp) (fl_read (off := 0) enc_Api_Cell_len (ix_lt c621 c619) rfl))) rfl rfl rfl ?_
          refine ent_value (ov_bin rfl rfl (b_add _ _ _) ) rfl rfl rfl (ent_value (ov_assign rfl) rfl rfl rfl (ent_nil (ent_region (ent_value (ov_move rfl) rfl rfl rfl (ent_value (ov_bin rfl rfl (b_add _ _ _) ) rfl rfl rfl (ent_value (ov_assign rfl) rfl rfl rfl (ent_nil ?_)))))))
          exact ent_fin [0,1,2,3,4,5] (by decide) rfl (sub_cons (t := 0) rfl (sub_cons (t := 12) rfl (sub_cons (t := 14) rfl (sub_cons (t := 15) rfl (sub_cons (t := 16) rfl (sub_cons (t := 17) rfl (sub_nil _))))))) fun a w h => ⟨k,Nat.lt_succ_self k,_,_,H69,h⟩
       ·refine ent_region (ent_value (ov_move rfl) rfl rfl rfl (ent_value (ov_bin rfl rfl (b_add _ _ _) ) rfl rfl rfl (ent_value (ov_assign rfl) rfl rfl rfl (ent_nil ?_))))
        exact ent_fin [0,1,2,3,4,5] (by decide) rfl (sub_cons (t := 0) rfl (sub_cons (t := 12) rfl (sub_cons (t := 14) rfl (sub_cons (t := 15) rfl (sub_cons (t := 16) rfl (sub_nil _)))))) fun a w h => ⟨k,Nat.lt_succ_self k,_,_,_,H66,h⟩
    ·obtain ⟨x57,H71,H⟩ := Option.bind_eq_some_iff.1 H
     refine ent_seq_cut (fun a w => St 159 w0 F [(14,I x53),(15,I x57)] [A0,A1] a w) ?_ ?_
     ·refine ent_seq (ent_region (ent_value (ov_assign rfl) rfl rfl rfl (ent_nil (ent_block ?_))))
      refine ent_loop (fun k a w => ∃ i99,∃ i100,ossuarylaw35_StatSums_l4 K l0 k i99 i100 = some x57 ∧ St 159 w0 F [(0,sv0),(14,I x53),(15,I i99),(18,I i100)] [A0,A1] a w) K ?_ ?_
      ·exact ent_fin [0,1] (by decide) rfl (sub_cons (t := 0) rfl (sub_cons (t := 14) rfl (sub_cons (t := 15) rfl (sub_cons (t := 18) rfl (sub_nil _))))) fun a w h => ⟨_,_,H71,h⟩
      ·refine fun k => ent_exi fun i99 => ent_exi fun i100 => ent_and fun H72 => ?_
       cases k with
       | zero => exact absurd H72 (by simp [ossuarylaw35_StatSums_l4])
       | succ k =>
        rw [ossuarylaw35_StatSums_l4] at H72
        refine ent_seq (ent_seq (ent_region (ent_value (ov_move rfl) rfl rfl rfl (ent_value (ov_move rfl) rfl rfl rfl (ent_value (ov_len 0 rfl F_slice_22 rfl hA0) rfl rfl rfl (ent_value (ov_bin rfl rfl (b_lss _ _ _)) rfl rfl rfl (ent_nil ?_)))))))
        refine htF H72 (fun c639 H72 => ?_) fun c639 H72 => ?_
        ·refine ent_cond_false rfl (decide_eq_false c639) (ent_exit ?_)
         cases H72
         exact ent_fin [0,1] (by decide) rfl (sub_cons (t := 14) rfl (sub_cons (t := 15) rfl (sub_nil _))) fun a w h => h
        refine ent_cond_true rfl (decide_eq_true c639) (ent_skip (ent_seq (ent_block (ent_region (ent_value (ov_move rfl) rfl rfl rfl (ent_value (ov_move rfl) rfl rfl rfl (ent_value (ov_move rfl) rfl rfl rfl ?_)))))))
        obtain ⟨c641,H72⟩ := gdT H72
        refine ent_value (ov_indexAddr (sz := 8) 0 rfl rfl F_slice_22 F_size_44 rfl hA0 c641 c639) rfl rfl rfl (ent_value (ov_fieldAddrE (sz := 3) (k0 := i100.toNat * 9) (off := 5) 0 rfl F_field_44_1 F_size_39 rfl hA0 (fl_pos enc_Api_Row_len (ix_lt c641 c639))) rfl rfl rfl (ent_value (ov_fieldAddrE (sz := 0) (k0 := i100.toNat * 9 + 5) (off := 0) 0 rfl F_field_39_0 F_size_2 rfl hA0 (fl_pos enc_Api_Row_len (ix_lt c641 c639))) rfl rfl rfl ?_))
        refine ent_value (ov_load (v := (I (((l0.getD i100.toNat z_Api_Row).Cell).Count))) rfl F_agg_2 (reads_rd (i := 0) rfl hA0 (by simp) (fl_read (off := 5) enc_Api_Row_len (ix_lt c641 c639) rfl))) rfl rfl rfl ?_
        refine ent_value (ov_bin rfl rfl (b_add _ _ _) ) rfl rfl rfl (ent_value (ov_assign rfl) rfl rfl rfl (ent_nil (ent_region (ent_value (ov_move rfl) rfl rfl rfl (ent_value (ov_bin rfl rfl (b_add _ _ _) ) rfl rfl rfl (ent_value (ov_assign rfl) rfl rfl rfl (ent_nil ?_)))))))
        exact ent_fin [0,1] (by decide) rfl (sub_cons (t := 0) rfl (sub_cons (t := 14) rfl (sub_cons (t := 15) rfl (sub_cons (t := 18) rfl (sub_nil _))))) fun a w h => ⟨k,Nat.lt_succ_self k,_,_,H72,h⟩
     ·refine ent_seq (ent_region (ent_value (ov_move rfl) rfl rfl rfl (ent_value (ov_move rfl) rfl rfl rfl (ent_value (ov_bin rfl rfl (b_eql _ _ _)) rfl rfl rfl (ent_value (ov_move rfl) rfl rfl rfl ?_)))))
      refine htF H (fun c642 H => ?_) fun c642 H => ?_
      ·refine ent_off rfl rfl rfl (eq_f c642) rfl rfl ?_
       refine ent_value (ov_pick rfl rfl rfl (pick_f (eq_f c642))) rfl rfl rfl (ent_value (ov_assign rfl) rfl rfl rfl (ent_nil (ent_retc ?_)))
       cases H
       refine ent_pick [0,1] (by decide) rfl ?_
       exact ret_tmp rfl rfl ⟨rfl,rfl⟩
      obtain ⟨x58,h36,H⟩ := Option.bind_eq_some_iff.1 H
      refine ent_op_on (ot_call0 (first := []) (cap := []) (xs := []) rfl rfl F_call_8 rfl (ossuarylaw35_alive.spec K _ h36)) rfl rfl rfl (eq_t c642) rfl rfl ?_
      rintro _ _ ⟨rfl,rfl⟩
      refine ent_value (ov_pick rfl rfl rfl (pick_t (eq_t c642))) rfl rfl rfl (ent_value (ov_assign rfl) rfl rfl rfl (ent_nil (ent_retc ?_)))
      cases H
      refine ent_pick [0,1] (by decide) rfl ?_
      exact ret_tmp rfl rfl ⟨rfl,rfl⟩

end Go.Proofs.Ytndeodpckfjakaa.StatSums
