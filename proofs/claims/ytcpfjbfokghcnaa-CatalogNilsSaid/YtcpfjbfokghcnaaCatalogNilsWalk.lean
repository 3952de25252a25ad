/- Printed by gen.py: that the machine's calls do what the plain functions of CatalogNils say. -/
import Derived.Test.YtcpfjbfokghcnaaCatalogNilsWalk1
import Derived.Test.YtcpfjbfokghcnaaProg
import Derived.Test.YtcpfjbfokghcnaaEInsert
import Derived.Test.YtcpfjbfokghcnaaESortAt
import Derived.Test.YtcpfjbfokghcnaaCatalogNilsPure
set_option linter.unusedVariables false
set_option linter.unusedSimpArgs false
set_option maxHeartbeats 1000000
namespace Go.Proofs.Ytcpfjbfokghcnaa.CatalogNils
open Go Go.RowKit E
open Go.Value (int bool slice agg)

set_option maxRecDepth 100000 in
theorem ossuarylaw20_alive.spec (K : Nat) (r : Bool) (H : ossuarylaw20_alive K = some r) : FnSpec Try.prog 6 [] [] (fun v M => v = (bool r) ∧ M = []) := by
 unfold ossuarylaw20_alive at H
 refine spec_of Try.func6 rfl 58 rfl (Nat.le_of_ble_eq_true rfl) fun F w0 => ?_
 show Ent (St 58 w0 F [] []) _
 refine ent_seq ?_
 refine ent_region ?_
 refine ent_value (ov_assign rfl) rfl rfl rfl ?_
 refine ent_nil ?_
 refine ent_seq ?_
 refine ent_region ?_
 obtain ⟨u2, h9, H⟩ := thn_elim H
 refine ent_op (ot_call (Lr := []) (first := []) (cap := []) (xs := []) rfl rfl F_call_34 rfl (catalog_New.spec _ h9) rfl) rfl rfl rfl ?_
 rintro _ _ ⟨_, ⟨b9, b10, rfl, rfl⟩, rfl⟩
 refine ent_value (ov_assign rfl) rfl rfl rfl ?_
 refine ent_nil ?_
 refine ent_seq ?_
 refine ent_region ?_
 obtain ⟨x8, h10, H⟩ := thn_elim H
 refine ent_op (ot_call0 (first := []) (cap := []) (xs := [.const (int .i64 1), .const (int .i64 5)]) rfl rfl F_call_35 rfl (ossuarylaw20_entry.spec 1 5 _ h10)) rfl rfl rfl ?_
 rintro _ _ ⟨rfl, rfl⟩
 refine ent_op (ot_alloc F_zero_30) rfl rfl rfl ?_
 rintro _ _ ⟨b11, rfl, rfl⟩
 refine ent_op0 (ot_storeG (cs := [(int .i64 0), (int .i64 0), (int .i64 0), (int .i64 0), (int .i64 0), (bool false)]) (cs' := [(int .i64 x8.1), (int .i64 x8.2.1), (int .i64 x8.2.2.1), (int .i64 x8.2.2.2.1), (int .i64 x8.2.2.2.2.1), (bool x8.2.2.2.2.2)]) (us := [(int .i64 x8.1), (int .i64 x8.2.1), (int .i64 x8.2.2.1), (int .i64 x8.2.2.2.1), (int .i64 x8.2.2.2.2.1), (bool x8.2.2.2.2.2)]) (L' := [(box b11 30 [(int .i64 x8.1), (int .i64 x8.2.1), (int .i64 x8.2.2.1), (int .i64 x8.2.2.2.1), (int .i64 x8.2.2.2.2.1), (bool x8.2.2.2.2.2)]), (box b9 81 [(pt b10 0)]), (box b10 131 [(slice none 0 0)])]) 0 rfl rfl rfl (one_all rfl) F_size_30 rfl rfl (by simp) rfl) rfl rfl ?_
 rintro _ _ rfl
 refine ent_nil ?_
 refine ent_seq ?_
 refine ent_region ?_
 obtain ⟨x9, h11, H⟩ := thn_elim H
 refine ent_op (ot_call0 (first := []) (cap := []) (xs := [.const (int .i64 2), .const (int .i64 0)]) rfl rfl F_call_35 rfl (ossuarylaw20_entry.spec 2 0 _ h11)) rfl rfl rfl ?_
 rintro _ _ ⟨rfl, rfl⟩
 refine ent_op (ot_alloc F_zero_30) rfl rfl rfl ?_
 rintro _ _ ⟨b12, rfl, rfl⟩
 refine ent_op0 (ot_storeG (cs := [(int .i64 0), (int .i64 0), (int .i64 0), (int .i64 0), (int .i64 0), (bool false)]) (cs' := [(int .i64 x9.1), (int .i64 x9.2.1), (int .i64 x9.2.2.1), (int .i64 x9.2.2.2.1), (int .i64 x9.2.2.2.2.1), (bool x9.2.2.2.2.2)]) (us := [(int .i64 x9.1), (int .i64 x9.2.1), (int .i64 x9.2.2.1), (int .i64 x9.2.2.2.1), (int .i64 x9.2.2.2.2.1), (bool x9.2.2.2.2.2)]) (L' := [(box b12 30 [(int .i64 x9.1), (int .i64 x9.2.1), (int .i64 x9.2.2.1), (int .i64 x9.2.2.2.1), (int .i64 x9.2.2.2.2.1), (bool x9.2.2.2.2.2)]), (box b11 30 [(int .i64 x8.1), (int .i64 x8.2.1), (int .i64 x8.2.2.1), (int .i64 x8.2.2.2.1), (int .i64 x8.2.2.2.2.1), (bool x8.2.2.2.2.2)]), (box b9 81 [(pt b10 0)]), (box b10 131 [(slice none 0 0)])]) 0 rfl rfl rfl (one_all rfl) F_size_30 rfl rfl (by simp) rfl) rfl rfl ?_
 rintro _ _ rfl
 refine ent_nil ?_
 refine ent_seq ?_
 refine ent_region ?_
 refine ent_value (ov_move rfl) rfl rfl rfl ?_
 refine ent_value (ov_load_agg (vs := [(int .i64 x8.1), (int .i64 x8.2.1), (int .i64 x8.2.2.1), (int .i64 x8.2.2.2.1), (int .i64 x8.2.2.2.2.1), (bool x8.2.2.2.2.2)]) rfl F_agg_30 F_size_30 (reads_boxW (i := 1) rfl)) rfl rfl rfl ?_
 refine ent_op (ot_buildSlice (sz := 5) (xs := [.tmp 13]) (cs := fl enc_Api_Entry [(⟨(⟨x8.1, x8.2.1⟩ : Api_Part), x8.2.2.1, x8.2.2.2.1, x8.2.2.2.2.1, x8.2.2.2.2.2⟩ : Api_Entry)]) rfl rfl F_slice_37 F_size_30 F_zero_30 rfl rfl (all_size rfl) rfl (by decide)) rfl rfl rfl ?_
 rintro sv8 _ rfl
 refine ent_value (ov_sl 0 rfl (isRd_ownx 30) fun hc0_ => (ov_build (is := [1]) (xs := [.tmp 14]) (vs := [sv8]) rfl rfl (build_struct (cs := [(slice none 0 0), sv8]) F_zero_39 F_places_39 (by simp [Instr.fill, cells_int, cells_bool, cells_str, cells_func, cells_slice, cells_ptr, cells_nilFunc, cells_agg, hc0_])))) rfl rfl rfl ?_
 obtain ⟨x10, h12, H⟩ := Option.bind_eq_some_iff.1 H
 refine ent_pick [3, 4, 0, 1, 2] (by decide) rfl ?_
 refine ent_op (ot_call (Lr := [(box b12 30 [(int .i64 x9.1), (int .i64 x9.2.1), (int .i64 x9.2.2.1), (int .i64 x9.2.2.2.1), (int .i64 x9.2.2.2.2.1), (bool x9.2.2.2.2.2)]), (box b11 30 [(int .i64 x8.1), (int .i64 x8.2.1), (int .i64 x8.2.2.1), (int .i64 x8.2.2.2.1), (int .i64 x8.2.2.2.2.1), (bool x8.2.2.2.2.2)])]) (first := []) (cap := []) (xs := [.tmp 12, .tmp 15]) rfl rfl F_call_10 rfl (catalog_Catalog_Apply_NNO.spec K b9 b10 sv8 [(⟨(⟨x8.1, x8.2.1⟩ : Api_Part), x8.2.2.1, x8.2.2.2.1, x8.2.2.2.2.1, x8.2.2.2.2.2⟩ : Api_Entry)] _ h12) rfl) rfl rfl rfl ?_
 rintro _ _ ⟨_, ⟨b13, sv9, rfl, rfl⟩, rfl⟩
 refine ent_value (ov_assign rfl) rfl rfl rfl ?_
 refine ent_nil ?_
 refine ent_seq ?_
 refine ent_region ?_
 refine ent_value (ov_move rfl) rfl rfl rfl ?_
 refine ent_value (ov_load_agg (vs := [(int .i64 x9.1), (int .i64 x9.2.1), (int .i64 x9.2.2.1), (int .i64 x9.2.2.2.1), (int .i64 x9.2.2.2.2.1), (bool x9.2.2.2.2.2)]) rfl F_agg_30 F_size_30 (reads_boxW (i := 4) rfl)) rfl rfl rfl ?_
 refine ent_op (ot_buildSlice (sz := 5) (xs := [.tmp 18]) (cs := fl enc_Api_Entry [(⟨(⟨x9.1, x9.2.1⟩ : Api_Part), x9.2.2.1, x9.2.2.2.1, x9.2.2.2.2.1, x9.2.2.2.2.2⟩ : Api_Entry)]) rfl rfl F_slice_37 F_size_30 F_zero_30 rfl rfl (all_size rfl) rfl (by decide)) rfl rfl rfl ?_
 rintro sv10 _ rfl
 refine ent_value (ov_sl 0 rfl (isRd_ownx 30) fun hc0_ => (ov_build (is := [1]) (xs := [.tmp 19]) (vs := [sv10]) rfl rfl (build_struct (cs := [(slice none 0 0), sv10]) F_zero_39 F_places_39 (by simp [Instr.fill, cells_int, cells_bool, cells_str, cells_func, cells_slice, cells_ptr, cells_nilFunc, cells_agg, hc0_])))) rfl rfl rfl ?_
 obtain ⟨x11, h13, H⟩ := Option.bind_eq_some_iff.1 H
 refine ent_pick [1, 2, 3, 0, 4, 5, 6] (by decide) rfl ?_
 refine ent_op (ot_call (Lr := [(own sv8 30 6 [(⟨(⟨x8.1, x8.2.1⟩ : Api_Part), x8.2.2.1, x8.2.2.2.1, x8.2.2.2.2.1, x8.2.2.2.2.2⟩ : Api_Entry)].length (fl enc_Api_Entry [(⟨(⟨x8.1, x8.2.1⟩ : Api_Part), x8.2.2.1, x8.2.2.2.1, x8.2.2.2.2.1, x8.2.2.2.2.2⟩ : Api_Entry)])), (box b12 30 [(int .i64 x9.1), (int .i64 x9.2.1), (int .i64 x9.2.2.1), (int .i64 x9.2.2.2.1), (int .i64 x9.2.2.2.2.1), (bool x9.2.2.2.2.2)]), (box b11 30 [(int .i64 x8.1), (int .i64 x8.2.1), (int .i64 x8.2.2.1), (int .i64 x8.2.2.2.1), (int .i64 x8.2.2.2.2.1), (bool x8.2.2.2.2.2)])]) (first := []) (cap := []) (xs := [.tmp 17, .tmp 20]) rfl rfl F_call_10 rfl (catalog_Catalog_Apply_ONO.spec K b9 b13 sv9 sv10 x10.2 [(⟨(⟨x9.1, x9.2.1⟩ : Api_Part), x9.2.2.1, x9.2.2.2.1, x9.2.2.2.2.1, x9.2.2.2.2.2⟩ : Api_Entry)] _ h13) rfl) rfl rfl rfl ?_
 rintro _ _ ⟨_, ⟨b14, sv11, rfl, rfl⟩, rfl⟩
 refine ent_value (ov_assign rfl) rfl rfl rfl ?_
 refine ent_nil ?_
 refine ent_seq ?_
 refine ent_region ?_
 refine ent_value (ov_move rfl) rfl rfl rfl ?_
 refine ent_value (ov_fieldAddr (sz := 1) (o := 0) rfl F_field_30_0 F_size_23) rfl rfl rfl ?_
 refine ent_value (ov_load_agg (vs := [(int .i64 x8.1), (int .i64 x8.2.1)]) rfl F_agg_23 F_size_23 (reads_boxN (i := 6) rfl rfl)) rfl rfl rfl ?_
 refine ent_op (ot_buildSlice (sz := 1) (xs := [.tmp 24]) (cs := fl enc_Api_Part [(⟨x8.1, x8.2.1⟩ : Api_Part)]) rfl rfl F_slice_36 F_size_23 F_zero_23 rfl rfl (all_size rfl) rfl (by decide)) rfl rfl rfl ?_
 rintro sv12 _ rfl
 refine ent_value (ov_load_agg (vs := [(int .i64 x9.1), (int .i64 x9.2.1), (int .i64 x9.2.2.1), (int .i64 x9.2.2.2.1), (int .i64 x9.2.2.2.2.1), (bool x9.2.2.2.2.2)]) rfl F_agg_30 F_size_30 (reads_boxW (i := 6) rfl)) rfl rfl rfl ?_
 refine ent_op (ot_buildSlice (sz := 5) (xs := [.tmp 26]) (cs := fl enc_Api_Entry [(⟨(⟨x9.1, x9.2.1⟩ : Api_Part), x9.2.2.1, x9.2.2.2.1, x9.2.2.2.2.1, x9.2.2.2.2.2⟩ : Api_Entry)]) rfl rfl F_slice_37 F_size_30 F_zero_30 rfl rfl (all_size rfl) rfl (by decide)) rfl rfl rfl ?_
 rintro sv13 _ rfl
 refine ent_value (ov_sl 0 rfl (isRd_ownx 30) fun hc1_ => (ov_sl 1 rfl (isRd_ownx 23) fun hc0_ => (ov_build (is := [0, 1]) (xs := [.tmp 25, .tmp 27]) (vs := [sv12, sv13]) rfl rfl (build_struct (cs := [sv12, sv13]) F_zero_39 F_places_39 (by simp [Instr.fill, cells_int, cells_bool, cells_str, cells_func, cells_slice, cells_ptr, cells_nilFunc, cells_agg, hc0_, hc1_]))))) rfl rfl rfl ?_
 obtain ⟨x12, h14, H⟩ := Option.bind_eq_some_iff.1 H
 refine ent_pick [2, 3, 4, 1, 0, 5, 6, 7, 8] (by decide) rfl ?_
 refine ent_op (ot_call (Lr := [(own sv10 30 6 [(⟨(⟨x9.1, x9.2.1⟩ : Api_Part), x9.2.2.1, x9.2.2.2.1, x9.2.2.2.2.1, x9.2.2.2.2.2⟩ : Api_Entry)].length (fl enc_Api_Entry [(⟨(⟨x9.1, x9.2.1⟩ : Api_Part), x9.2.2.1, x9.2.2.2.1, x9.2.2.2.2.1, x9.2.2.2.2.2⟩ : Api_Entry)])), (own sv8 30 6 [(⟨(⟨x8.1, x8.2.1⟩ : Api_Part), x8.2.2.1, x8.2.2.2.1, x8.2.2.2.2.1, x8.2.2.2.2.2⟩ : Api_Entry)].length (fl enc_Api_Entry [(⟨(⟨x8.1, x8.2.1⟩ : Api_Part), x8.2.2.1, x8.2.2.2.1, x8.2.2.2.2.1, x8.2.2.2.2.2⟩ : Api_Entry)])), (box b12 30 [(int .i64 x9.1), (int .i64 x9.2.1), (int .i64 x9.2.2.1), (int .i64 x9.2.2.2.1), (int .i64 x9.2.2.2.2.1), (bool x9.2.2.2.2.2)]), (box b11 30 [(int .i64 x8.1), (int .i64 x8.2.1), (int .i64 x8.2.2.1), (int .i64 x8.2.2.2.1), (int .i64 x8.2.2.2.2.1), (bool x8.2.2.2.2.2)])]) (first := []) (cap := []) (xs := [.tmp 22, .tmp 28]) rfl rfl F_call_10 rfl (catalog_Catalog_Apply_OOO.spec K b9 b14 sv11 sv12 sv13 x11.2 [(⟨x8.1, x8.2.1⟩ : Api_Part)] [(⟨(⟨x9.1, x9.2.1⟩ : Api_Part), x9.2.2.1, x9.2.2.2.1, x9.2.2.2.2.1, x9.2.2.2.2.2⟩ : Api_Entry)] _ h14) rfl) rfl rfl rfl ?_
 rintro _ _ ⟨_, ⟨b15, sv14, rfl, rfl⟩, rfl⟩
 refine ent_value (ov_assign rfl) rfl rfl rfl ?_
 refine ent_nil ?_
 refine ent_seq ?_
 refine ent_region ?_
 refine ent_value (ov_move rfl) rfl rfl rfl ?_
 obtain ⟨x13, h15, H⟩ := Option.bind_eq_some_iff.1 H
 refine ent_op (ot_call_same (Lr := [(own sv12 23 2 [(⟨x8.1, x8.2.1⟩ : Api_Part)].length (fl enc_Api_Part [(⟨x8.1, x8.2.1⟩ : Api_Part)])), (own sv13 30 6 [(⟨(⟨x9.1, x9.2.1⟩ : Api_Part), x9.2.2.1, x9.2.2.2.1, x9.2.2.2.2.1, x9.2.2.2.2.2⟩ : Api_Entry)].length (fl enc_Api_Entry [(⟨(⟨x9.1, x9.2.1⟩ : Api_Part), x9.2.2.1, x9.2.2.2.1, x9.2.2.2.2.1, x9.2.2.2.2.2⟩ : Api_Entry)])), (own sv10 30 6 [(⟨(⟨x9.1, x9.2.1⟩ : Api_Part), x9.2.2.1, x9.2.2.2.1, x9.2.2.2.2.1, x9.2.2.2.2.2⟩ : Api_Entry)].length (fl enc_Api_Entry [(⟨(⟨x9.1, x9.2.1⟩ : Api_Part), x9.2.2.1, x9.2.2.2.1, x9.2.2.2.2.1, x9.2.2.2.2.2⟩ : Api_Entry)])), (own sv8 30 6 [(⟨(⟨x8.1, x8.2.1⟩ : Api_Part), x8.2.2.1, x8.2.2.2.1, x8.2.2.2.2.1, x8.2.2.2.2.2⟩ : Api_Entry)].length (fl enc_Api_Entry [(⟨(⟨x8.1, x8.2.1⟩ : Api_Part), x8.2.2.1, x8.2.2.2.1, x8.2.2.2.2.1, x8.2.2.2.2.2⟩ : Api_Entry)])), (box b12 30 [(int .i64 x9.1), (int .i64 x9.2.1), (int .i64 x9.2.2.1), (int .i64 x9.2.2.2.1), (int .i64 x9.2.2.2.2.1), (bool x9.2.2.2.2.2)]), (box b11 30 [(int .i64 x8.1), (int .i64 x8.2.1), (int .i64 x8.2.2.1), (int .i64 x8.2.2.2.1), (int .i64 x8.2.2.2.2.1), (bool x8.2.2.2.2.2)])]) [0, 1, 2, 3, 4, 5, 6, 7, 8] [0, 1, 2, 3, 4, 5, 6, 7, 8] (first := []) (cap := []) (xs := [.tmp 31, .const (int .i64 7)]) rfl rfl F_call_8 rfl (catalog_Catalog_At_O.spec K b9 b15 sv14 x12.2 7 _ h15) (by decide) rfl (by decide) rfl) rfl rfl rfl ?_
 rintro _ _ ⟨rfl, rfl⟩
 refine ent_value (ov_move rfl) rfl rfl rfl ?_
 refine ent_value (ov_extract rfl rfl) rfl rfl rfl ?_
 refine ent_value (ov_extract rfl rfl) rfl rfl rfl ?_
 refine ent_op (ot_alloc F_zero_30) rfl rfl rfl ?_
 rintro _ _ ⟨b16, rfl, rfl⟩
 refine ent_op0 (ot_storeG (cs := [(int .i64 0), (int .i64 0), (int .i64 0), (int .i64 0), (int .i64 0), (bool false)]) (cs' := [(int .i64 x13.1), (int .i64 x13.2.1), (int .i64 x13.2.2.1), (int .i64 x13.2.2.2.1), (int .i64 x13.2.2.2.2.1), (bool x13.2.2.2.2.2.1)]) (us := [(int .i64 x13.1), (int .i64 x13.2.1), (int .i64 x13.2.2.1), (int .i64 x13.2.2.2.1), (int .i64 x13.2.2.2.2.1), (bool x13.2.2.2.2.2.1)]) (L' := [(box b16 30 [(int .i64 x13.1), (int .i64 x13.2.1), (int .i64 x13.2.2.1), (int .i64 x13.2.2.2.1), (int .i64 x13.2.2.2.2.1), (bool x13.2.2.2.2.2.1)]), (box b9 81 [(pt b15 0)]), (box b15 131 [sv14]), (own sv14 135 7 x12.2.length (fl enc_Omap_pair__int64__api_Entry x12.2)), (own sv12 23 2 [(⟨x8.1, x8.2.1⟩ : Api_Part)].length (fl enc_Api_Part [(⟨x8.1, x8.2.1⟩ : Api_Part)])), (own sv13 30 6 [(⟨(⟨x9.1, x9.2.1⟩ : Api_Part), x9.2.2.1, x9.2.2.2.1, x9.2.2.2.2.1, x9.2.2.2.2.2⟩ : Api_Entry)].length (fl enc_Api_Entry [(⟨(⟨x9.1, x9.2.1⟩ : Api_Part), x9.2.2.1, x9.2.2.2.1, x9.2.2.2.2.1, x9.2.2.2.2.2⟩ : Api_Entry)])), (own sv10 30 6 [(⟨(⟨x9.1, x9.2.1⟩ : Api_Part), x9.2.2.1, x9.2.2.2.1, x9.2.2.2.2.1, x9.2.2.2.2.2⟩ : Api_Entry)].length (fl enc_Api_Entry [(⟨(⟨x9.1, x9.2.1⟩ : Api_Part), x9.2.2.1, x9.2.2.2.1, x9.2.2.2.2.1, x9.2.2.2.2.2⟩ : Api_Entry)])), (own sv8 30 6 [(⟨(⟨x8.1, x8.2.1⟩ : Api_Part), x8.2.2.1, x8.2.2.2.1, x8.2.2.2.2.1, x8.2.2.2.2.2⟩ : Api_Entry)].length (fl enc_Api_Entry [(⟨(⟨x8.1, x8.2.1⟩ : Api_Part), x8.2.2.1, x8.2.2.2.1, x8.2.2.2.2.1, x8.2.2.2.2.2⟩ : Api_Entry)])), (box b12 30 [(int .i64 x9.1), (int .i64 x9.2.1), (int .i64 x9.2.2.1), (int .i64 x9.2.2.2.1), (int .i64 x9.2.2.2.2.1), (bool x9.2.2.2.2.2)]), (box b11 30 [(int .i64 x8.1), (int .i64 x8.2.1), (int .i64 x8.2.2.1), (int .i64 x8.2.2.2.1), (int .i64 x8.2.2.2.2.1), (bool x8.2.2.2.2.2)])]) 0 rfl rfl rfl (one_all rfl) F_size_30 rfl rfl (by simp) rfl) rfl rfl ?_
 rintro _ _ rfl
 refine ent_value (ov_assign rfl) rfl rfl rfl ?_
 refine ent_nil ?_
 refine ent_seq ?_
 refine ent_region ?_
 refine ent_value (ov_move rfl) rfl rfl rfl ?_
 refine ent_value (ov_bin rfl rfl (b_eql _ _ _)) rfl rfl rfl ?_
 refine ent_value (ov_move rfl) rfl rfl rfl ?_
 by_cases c6 : x10.1 = 0
 ·rw [if_pos c6] at H
  refine ent_value_on (ov_move rfl) rfl rfl rfl (eq_t c6) rfl rfl ?_
  refine ent_value_on (ov_bin rfl rfl (b_eql _ _ _)) rfl rfl rfl (eq_t c6) rfl rfl ?_
  refine ent_value (ov_pick rfl rfl rfl (pick_t (eq_t c6))) rfl rfl rfl ?_
  refine ent_value (ov_move rfl) rfl rfl rfl ?_
  by_cases c7 : x11.1 = 12
  ·rw [if_pos c7] at H
   refine ent_value_on (ov_move rfl) rfl rfl rfl (eq_t c7) rfl rfl ?_
   refine ent_value_on (ov_bin rfl rfl (b_eql _ _ _)) rfl rfl rfl (eq_t c7) rfl rfl ?_
   refine ent_value (ov_pick rfl rfl rfl (pick_t (eq_t c7))) rfl rfl rfl ?_
   refine ent_value (ov_move rfl) rfl rfl rfl ?_
   by_cases c8 : x12.1 = 0
   ·rw [if_pos c8] at H
    refine ent_value_on (ov_move rfl) rfl rfl rfl (eq_t c8) rfl rfl ?_
    refine ent_value (ov_pick rfl rfl rfl (pick_t (eq_t c8))) rfl rfl rfl ?_
    refine ent_value (ov_move rfl) rfl rfl rfl ?_
    by_cases c9 : x13.2.2.2.2.2.2 = true
    ·rw [if_pos c9] at H
     refine ent_value_on (ov_load_agg (vs := [(int .i64 x13.1), (int .i64 x13.2.1), (int .i64 x13.2.2.1), (int .i64 x13.2.2.2.1), (int .i64 x13.2.2.2.2.1), (bool x13.2.2.2.2.2.1)]) rfl F_agg_30 F_size_30 (reads_boxW (i := 0) rfl)) rfl rfl rfl c9 rfl rfl ?_
     refine ent_value_on (ov_load_agg (vs := [(int .i64 x9.1), (int .i64 x9.2.1), (int .i64 x9.2.2.1), (int .i64 x9.2.2.2.1), (int .i64 x9.2.2.2.2.1), (bool x9.2.2.2.2.2)]) rfl F_agg_30 F_size_30 (reads_boxW (i := 8) rfl)) rfl rfl rfl c9 rfl rfl ?_
     refine ent_value_on (ov_bin rfl rfl (same_30 _ _ _ _ _ _ _ _ _ _ _ _)) rfl rfl rfl c9 rfl rfl ?_
     refine ent_value (ov_pick rfl rfl rfl (pick_t c9)) rfl rfl rfl ?_
     refine ent_value (ov_move rfl) rfl rfl rfl ?_
     by_cases c10 : (((x13.1 == x9.1) && ((x13.2.1 == x9.2.1) && true)) && ((x13.2.2.1 == x9.2.2.1) && ((x13.2.2.2.1 == x9.2.2.2.1) && ((x13.2.2.2.2.1 == x9.2.2.2.2.1) && ((x13.2.2.2.2.2.1 == x9.2.2.2.2.2) && true))))) = true
     ·rw [if_pos c10] at H
      refine ent_value_on (ov_move rfl) rfl rfl rfl c10 rfl rfl ?_
      obtain ⟨x14, h16, H⟩ := thn_elim H
      refine ent_op_on (ot_call_same (Lr := [(box b16 30 [(int .i64 x13.1), (int .i64 x13.2.1), (int .i64 x13.2.2.1), (int .i64 x13.2.2.2.1), (int .i64 x13.2.2.2.2.1), (bool x13.2.2.2.2.2.1)]), (own sv12 23 2 [(⟨x8.1, x8.2.1⟩ : Api_Part)].length (fl enc_Api_Part [(⟨x8.1, x8.2.1⟩ : Api_Part)])), (own sv13 30 6 [(⟨(⟨x9.1, x9.2.1⟩ : Api_Part), x9.2.2.1, x9.2.2.2.1, x9.2.2.2.2.1, x9.2.2.2.2.2⟩ : Api_Entry)].length (fl enc_Api_Entry [(⟨(⟨x9.1, x9.2.1⟩ : Api_Part), x9.2.2.1, x9.2.2.2.1, x9.2.2.2.2.1, x9.2.2.2.2.2⟩ : Api_Entry)])), (own sv10 30 6 [(⟨(⟨x9.1, x9.2.1⟩ : Api_Part), x9.2.2.1, x9.2.2.2.1, x9.2.2.2.2.1, x9.2.2.2.2.2⟩ : Api_Entry)].length (fl enc_Api_Entry [(⟨(⟨x9.1, x9.2.1⟩ : Api_Part), x9.2.2.1, x9.2.2.2.1, x9.2.2.2.2.1, x9.2.2.2.2.2⟩ : Api_Entry)])), (own sv8 30 6 [(⟨(⟨x8.1, x8.2.1⟩ : Api_Part), x8.2.2.1, x8.2.2.2.1, x8.2.2.2.2.1, x8.2.2.2.2.2⟩ : Api_Entry)].length (fl enc_Api_Entry [(⟨(⟨x8.1, x8.2.1⟩ : Api_Part), x8.2.2.1, x8.2.2.2.1, x8.2.2.2.2.1, x8.2.2.2.2.2⟩ : Api_Entry)])), (box b12 30 [(int .i64 x9.1), (int .i64 x9.2.1), (int .i64 x9.2.2.1), (int .i64 x9.2.2.2.1), (int .i64 x9.2.2.2.2.1), (bool x9.2.2.2.2.2)]), (box b11 30 [(int .i64 x8.1), (int .i64 x8.2.1), (int .i64 x8.2.2.1), (int .i64 x8.2.2.2.1), (int .i64 x8.2.2.2.2.1), (bool x8.2.2.2.2.2)])]) [1, 2, 3, 0, 4, 5, 6, 7, 8, 9] [3, 0, 1, 2, 4, 5, 6, 7, 8, 9] (first := []) (cap := []) (xs := [.tmp 54]) rfl rfl F_call_12 rfl (catalog_Catalog_Len_O.spec b9 b15 sv14 x12.2 _ h16) (by decide) rfl (by decide) rfl) rfl rfl rfl c10 rfl rfl ?_
      rintro _ _ ⟨rfl, rfl⟩
      refine ent_value_on (ov_bin rfl rfl (b_eql _ _ _)) rfl rfl rfl c10 rfl rfl ?_
      refine ent_value (ov_pick rfl rfl rfl (pick_t c10)) rfl rfl rfl ?_
      refine ent_value (ov_assign rfl) rfl rfl rfl ?_
      refine ent_nil ?_
      refine ent_retc ?_
      cases H
      refine ent_pick [] (by decide) rfl ?_
      exact ret_tmp rfl rfl ⟨rfl, rfl⟩
     ·rw [if_neg c10] at H
      refine ent_off rfl rfl rfl (Bool.eq_false_iff.2 c10) rfl rfl ?_
      refine ent_off rfl rfl rfl (Bool.eq_false_iff.2 c10) rfl rfl ?_
      refine ent_off rfl rfl rfl (Bool.eq_false_iff.2 c10) rfl rfl ?_
      refine ent_value (ov_pick rfl rfl rfl (pick_f (Bool.eq_false_iff.2 c10))) rfl rfl rfl ?_
      refine ent_value (ov_assign rfl) rfl rfl rfl ?_
      refine ent_nil ?_
      refine ent_retc ?_
      cases H
      refine ent_pick [] (by decide) rfl ?_
      exact ret_tmp rfl rfl ⟨rfl, rfl⟩
    ·rw [if_neg c9] at H
     refine ent_off rfl rfl rfl (Bool.eq_false_iff.2 c9) rfl rfl ?_
     refine ent_off rfl rfl rfl (Bool.eq_false_iff.2 c9) rfl rfl ?_
     refine ent_off rfl rfl rfl (Bool.eq_false_iff.2 c9) rfl rfl ?_
     refine ent_value (ov_pick rfl rfl rfl (pick_f (Bool.eq_false_iff.2 c9))) rfl rfl rfl ?_
     refine ent_value (ov_move rfl) rfl rfl rfl ?_
     refine ent_off rfl rfl rfl rfl rfl rfl ?_
     refine ent_off rfl rfl rfl rfl rfl rfl ?_
     refine ent_off rfl rfl rfl rfl rfl rfl ?_
     refine ent_value (ov_pick rfl rfl rfl rfl) rfl rfl rfl ?_
     refine ent_value (ov_assign rfl) rfl rfl rfl ?_
     refine ent_nil ?_
     refine ent_retc ?_
     cases H
     refine ent_pick [] (by decide) rfl ?_
     exact ret_tmp rfl rfl ⟨rfl, rfl⟩
   ·rw [if_neg c8] at H
    refine ent_off rfl rfl rfl (eq_f c8) rfl rfl ?_
    refine ent_value (ov_pick rfl rfl rfl (pick_f (eq_f c8))) rfl rfl rfl ?_
    refine ent_value (ov_move rfl) rfl rfl rfl ?_
    refine ent_off rfl rfl rfl rfl rfl rfl ?_
    refine ent_off rfl rfl rfl rfl rfl rfl ?_
    refine ent_off rfl rfl rfl rfl rfl rfl ?_
    refine ent_value (ov_pick rfl rfl rfl rfl) rfl rfl rfl ?_
    refine ent_value (ov_move rfl) rfl rfl rfl ?_
    refine ent_off rfl rfl rfl rfl rfl rfl ?_
    refine ent_off rfl rfl rfl rfl rfl rfl ?_
    refine ent_off rfl rfl rfl rfl rfl rfl ?_
    refine ent_value (ov_pick rfl rfl rfl rfl) rfl rfl rfl ?_
    refine ent_value (ov_assign rfl) rfl rfl rfl ?_
    refine ent_nil ?_
    refine ent_retc ?_
    cases H
    refine ent_pick [] (by decide) rfl ?_
    exact ret_tmp rfl rfl ⟨rfl, rfl⟩
  ·rw [if_neg c7] at H
   refine ent_off rfl rfl rfl (eq_f c7) rfl rfl ?_
   refine ent_off rfl rfl rfl (eq_f c7) rfl rfl ?_
   refine ent_value (ov_pick rfl rfl rfl (pick_f (eq_f c7))) rfl rfl rfl ?_
   refine ent_value (ov_move rfl) rfl rfl rfl ?_
   refine ent_off rfl rfl rfl rfl rfl rfl ?_
   refine ent_value (ov_pick rfl rfl rfl rfl) rfl rfl rfl ?_
   refine ent_value (ov_move rfl) rfl rfl rfl ?_
   refine ent_off rfl rfl rfl rfl rfl rfl ?_
   refine ent_off rfl rfl rfl rfl rfl rfl ?_
   refine ent_off rfl rfl rfl rfl rfl rfl ?_
   refine ent_value (ov_pick rfl rfl rfl rfl) rfl rfl rfl ?_
   refine ent_value (ov_move rfl) rfl rfl rfl ?_
   refine ent_off rfl rfl rfl rfl rfl rfl ?_
   refine ent_off rfl rfl rfl rfl rfl rfl ?_
   refine ent_off rfl rfl rfl rfl rfl rfl ?_
   refine ent_value (ov_pick rfl rfl rfl rfl) rfl rfl rfl ?_
   refine ent_value (ov_assign rfl) rfl rfl rfl ?_
   refine ent_nil ?_
   refine ent_retc ?_
   cases H
   refine ent_pick [] (by decide) rfl ?_
   exact ret_tmp rfl rfl ⟨rfl, rfl⟩
 ·rw [if_neg c6] at H
  refine ent_off rfl rfl rfl (eq_f c6) rfl rfl ?_
  refine ent_off rfl rfl rfl (eq_f c6) rfl rfl ?_
  refine ent_value (ov_pick rfl rfl rfl (pick_f (eq_f c6))) rfl rfl rfl ?_
  refine ent_value (ov_move rfl) rfl rfl rfl ?_
  refine ent_off rfl rfl rfl rfl rfl rfl ?_
  refine ent_off rfl rfl rfl rfl rfl rfl ?_
  refine ent_value (ov_pick rfl rfl rfl rfl) rfl rfl rfl ?_
  refine ent_value (ov_move rfl) rfl rfl rfl ?_
  refine ent_off rfl rfl rfl rfl rfl rfl ?_
  refine ent_value (ov_pick rfl rfl rfl rfl) rfl rfl rfl ?_
  refine ent_value (ov_move rfl) rfl rfl rfl ?_
  refine ent_off rfl rfl rfl rfl rfl rfl ?_
  refine ent_off rfl rfl rfl rfl rfl rfl ?_
  refine ent_off rfl rfl rfl rfl rfl rfl ?_
  refine ent_value (ov_pick rfl rfl rfl rfl) rfl rfl rfl ?_
  refine ent_value (ov_move rfl) rfl rfl rfl ?_
  refine ent_off rfl rfl rfl rfl rfl rfl ?_
  refine ent_off rfl rfl rfl rfl rfl rfl ?_
  refine ent_off rfl rfl rfl rfl rfl rfl ?_
  refine ent_value (ov_pick rfl rfl rfl rfl) rfl rfl rfl ?_
  refine ent_value (ov_assign rfl) rfl rfl rfl ?_
  refine ent_nil ?_
  refine ent_retc ?_
  cases H
  refine ent_pick [] (by decide) rfl ?_
  exact ret_tmp rfl rfl ⟨rfl, rfl⟩

set_option maxRecDepth 100000 in
theorem catalog_Catalog_All_Z.spec (r : Unit) (H : catalog_Catalog_All_Z = r) : FnSpec Try.prog 7 [(Value.pointer none)] [] (fun v M => ∃ b2 : Nat, v = (Value.func (.func 36) #[] #[(pt b2 0)]) ∧ M = [(box b2 25 [(Value.pointer none)])]) := by
 unfold catalog_Catalog_All_Z at H
 refine spec_of Try.func7 rfl 4 rfl (Nat.le_of_ble_eq_true rfl) fun F w0 => ?_
 show Ent (St 4 w0 F [(0, (Value.pointer none))] []) _
 refine ent_seq ?_
 refine ent_region ?_
 refine ent_op (ot_box (cs := [(Value.pointer none)]) rfl rfl) rfl rfl rfl ?_
 rintro _ _ ⟨b3, rfl, rfl⟩
 refine ent_value (ov_assign rfl) rfl rfl rfl ?_
 refine ent_nil ?_
 refine ent_seq ?_
 refine ent_region ?_
 refine ent_value (ov_makeFunc (first := []) (cap := [.tmp 1]) rfl rfl) rfl rfl rfl ?_
 refine ent_value (ov_assign rfl) rfl rfl rfl ?_
 refine ent_nil ?_
 refine ent_retc ?_
 cases H
 refine ent_pick [0] (by decide) rfl ?_
 exact ret_tmp rfl rfl ⟨_, rfl, rfl⟩

set_option maxRecDepth 100000 in
theorem catalog_Catalog_All_1_YZ.spec (yl0 : Nat) (p0 : Nat) (Gm0 : Type) (y0 : Api_Entry → Gm0 → Option (Gm0 × Bool)) (x0y : Gm0) (Y0 : Gm0 → HP) (hY0 : ∀ (t0_ : Api_Entry) (z_ : Gm0) (r_ : Gm0 × Bool), y0 t0_ z_ = some r_ → YSpec Try.prog yl0 [(agg #[(int .i64 t0_.Part.Tier), (int .i64 t0_.Part.Index), (int .i64 t0_.Seg), (int .i64 t0_.Mark), (int .i64 t0_.Rows), (bool t0_.Cold)])] [Y0 z_] (fun v N => v = .bool r_.2 ∧ N = [Y0 r_.1])) (r : Unit) (H : catalog_Catalog_All_1_YZ Gm0 y0 x0y = r) : FnSpec Try.prog 36 [(Value.func (.yield yl0) #[] #[]), (pt p0 0)] [(Y0 x0y), (box p0 25 [(Value.pointer none)])] (fun v M => v = (Value.tuple #[]) ∧ M = [(Y0 x0y), (box p0 25 [(Value.pointer none)])]) := by
 unfold catalog_Catalog_All_1_YZ at H
 refine spec_of Try.func36 rfl 18 rfl (Nat.le_of_ble_eq_true rfl) fun F w0 => ?_
 show Ent (St 18 w0 F [(0, (Value.func (.yield yl0) #[] #[])), (1, (pt p0 0))] [(Y0 x0y), (box p0 25 [(Value.pointer none)])]) _
 refine ent_seq ?_
 refine ent_region ?_
 refine ent_op (ot_box (cs := [(Value.func (.yield yl0) #[] #[])]) rfl rfl) rfl rfl rfl ?_
 rintro _ _ ⟨b2, rfl, rfl⟩
 refine ent_nil ?_
 refine ent_seq ?_
 refine ent_seq ?_
 refine ent_region ?_
 refine ent_value (ov_load (v := (Value.pointer none)) rfl F_agg_25 (reads_box1 (i := 2) rfl rfl)) rfl rfl rfl ?_
 refine ent_value (ov_bin rfl rfl (b_eql_of (fun w => rfl) rfl (eq_nn Try.underlying25))) rfl rfl rfl ?_
 refine ent_nil ?_
 refine ent_cond_true rfl rfl ?_
 refine ent_retc ?_
 cases H
 refine ent_pick [1, 2] (by decide) rfl ?_
 exact ret_none rfl ⟨rfl, rfl⟩

set_option maxRecDepth 100000 in
theorem catalog_Catalog_At_Z.spec (a1 : Int) (r : (Int × Int × Int × Int × Int × Bool × Bool)) (H : catalog_Catalog_At_Z a1 = r) : FnSpec Try.prog 8 [(Value.pointer none), (int .i64 a1)] [] (fun v M => v = (Value.tuple #[(agg #[(int .i64 r.1), (int .i64 r.2.1), (int .i64 r.2.2.1), (int .i64 r.2.2.2.1), (int .i64 r.2.2.2.2.1), (bool r.2.2.2.2.2.1)]), (bool r.2.2.2.2.2.2)]) ∧ M = []) := by
 unfold catalog_Catalog_At_Z at H
 refine spec_of Try.func8 rfl 30 rfl (Nat.le_of_ble_eq_true rfl) fun F w0 => ?_
 show Ent (St 30 w0 F [(0, (Value.pointer none)), (1, (int .i64 a1))] []) _
 refine ent_seq ?_
 refine ent_region ?_
 refine ent_op (ot_alloc F_zero_30) rfl rfl rfl ?_
 rintro _ _ ⟨b2, rfl, rfl⟩
 refine ent_value (ov_assign rfl) rfl rfl rfl ?_
 refine ent_nil ?_
 refine ent_seq ?_
 refine ent_seq ?_
 refine ent_region ?_
 refine ent_value (ov_move rfl) rfl rfl rfl ?_
 refine ent_value (ov_bin rfl rfl (b_eql_of (fun w => rfl) rfl (eq_nn Try.underlying25))) rfl rfl rfl ?_
 refine ent_nil ?_
 refine ent_cond_true rfl rfl ?_
 refine ent_seq ?_
 refine ent_region ?_
 refine ent_value (ov_load_agg (vs := [(int .i64 0), (int .i64 0), (int .i64 0), (int .i64 0), (int .i64 0), (bool false)]) rfl F_agg_30 F_size_30 (reads_boxW (i := 0) rfl)) rfl rfl rfl ?_
 refine ent_op0 (ot_storeG (cs := [(int .i64 0), (int .i64 0), (int .i64 0), (int .i64 0), (int .i64 0), (bool false)]) (cs' := [(int .i64 0), (int .i64 0), (int .i64 0), (int .i64 0), (int .i64 0), (bool false)]) (us := [(int .i64 0), (int .i64 0), (int .i64 0), (int .i64 0), (int .i64 0), (bool false)]) (L' := [(box b2 30 [(int .i64 0), (int .i64 0), (int .i64 0), (int .i64 0), (int .i64 0), (bool false)])]) 0 rfl rfl rfl (one_all rfl) F_size_30 rfl rfl (by simp) rfl) rfl rfl ?_
 rintro _ _ rfl
 refine ent_value (ov_assign rfl) rfl rfl rfl ?_
 refine ent_nil ?_
 refine ent_retc ?_
 subst H
 exact ret_memp [] (by decide) rfl (vs := [(agg #[(int .i64 0), (int .i64 0), (int .i64 0), (int .i64 0), (int .i64 0), (bool false)]), (bool false)]) rfl ⟨⟨_, [(int .i64 0), (int .i64 0), (int .i64 0), (int .i64 0), (int .i64 0), (bool false)], rfl, reads_boxW (i := 0) rfl, .inl ⟨F_agg_30, F_size_30, rfl⟩⟩, ⟨rfl, trivial⟩⟩ _ rfl ⟨rfl, rfl⟩

set_option maxRecDepth 100000 in
theorem catalog_Catalog_Get_Z.spec (a1_0 : Int) (a1_1 : Int) (r : (Int × Int × Int × Int × Int × Bool × Bool)) (H : catalog_Catalog_Get_Z a1_0 a1_1 = r) : FnSpec Try.prog 9 [(Value.pointer none), (agg #[(int .i64 a1_0), (int .i64 a1_1)])] [] (fun v M => v = (Value.tuple #[(agg #[(int .i64 r.1), (int .i64 r.2.1), (int .i64 r.2.2.1), (int .i64 r.2.2.2.1), (int .i64 r.2.2.2.2.1), (bool r.2.2.2.2.2.1)]), (bool r.2.2.2.2.2.2)]) ∧ M = []) := by
 unfold catalog_Catalog_Get_Z at H
 refine spec_of Try.func9 rfl 31 rfl (Nat.le_of_ble_eq_true rfl) fun F w0 => ?_
 show Ent (St 31 w0 F [(0, (Value.pointer none)), (1, (agg #[(int .i64 a1_0), (int .i64 a1_1)]))] []) _
 refine ent_seq ?_
 refine ent_region ?_
 refine ent_op (ot_box (cs := [(int .i64 a1_0), (int .i64 a1_1)]) rfl rfl) rfl rfl rfl ?_
 rintro _ _ ⟨b4, rfl, rfl⟩
 refine ent_op (ot_alloc F_zero_30) rfl rfl rfl ?_
 rintro _ _ ⟨b5, rfl, rfl⟩
 refine ent_value (ov_assign rfl) rfl rfl rfl ?_
 refine ent_nil ?_
 refine ent_seq ?_
 refine ent_region ?_
 refine ent_value (ov_load_agg (vs := [(int .i64 a1_0), (int .i64 a1_1)]) rfl F_agg_23 F_size_23 (reads_boxW (i := 1) rfl)) rfl rfl rfl ?_
 obtain ⟨x3, h3, H⟩ := thn_elim H
 refine ent_op (ot_call0 (first := []) (cap := []) (xs := [.tmp 11]) rfl rfl F_call_40 rfl (part_Span.spec a1_0 a1_1 _ h3)) rfl rfl rfl ?_
 rintro _ _ ⟨rfl, rfl⟩
 refine ent_value (ov_move rfl) rfl rfl rfl ?_
 refine ent_value (ov_extract rfl rfl) rfl rfl rfl ?_
 refine ent_value (ov_extract rfl rfl) rfl rfl rfl ?_
 refine ent_value (ov_assign rfl) rfl rfl rfl ?_
 refine ent_value (ov_assign rfl) rfl rfl rfl ?_
 refine ent_nil ?_
 refine ent_seq ?_
 refine ent_region ?_
 refine ent_value (ov_move rfl) rfl rfl rfl ?_
 refine ent_value (ov_move rfl) rfl rfl rfl ?_
 obtain ⟨x4, h4, H⟩ := thn_elim H
 refine ent_op (ot_call0 (first := []) (cap := []) (xs := [.tmp 16, .tmp 17]) rfl rfl F_call_8 rfl (catalog_Catalog_At_Z.spec x3.1 _ h4)) rfl rfl rfl ?_
 rintro _ _ ⟨rfl, rfl⟩
 refine ent_value (ov_move rfl) rfl rfl rfl ?_
 refine ent_value (ov_extract rfl rfl) rfl rfl rfl ?_
 refine ent_value (ov_extract rfl rfl) rfl rfl rfl ?_
 refine ent_op (ot_alloc F_zero_30) rfl rfl rfl ?_
 rintro _ _ ⟨b6, rfl, rfl⟩
 refine ent_op0 (ot_storeG (cs := [(int .i64 0), (int .i64 0), (int .i64 0), (int .i64 0), (int .i64 0), (bool false)]) (cs' := [(int .i64 x4.1), (int .i64 x4.2.1), (int .i64 x4.2.2.1), (int .i64 x4.2.2.2.1), (int .i64 x4.2.2.2.2.1), (bool x4.2.2.2.2.2.1)]) (us := [(int .i64 x4.1), (int .i64 x4.2.1), (int .i64 x4.2.2.1), (int .i64 x4.2.2.2.1), (int .i64 x4.2.2.2.2.1), (bool x4.2.2.2.2.2.1)]) (L' := [(box b6 30 [(int .i64 x4.1), (int .i64 x4.2.1), (int .i64 x4.2.2.1), (int .i64 x4.2.2.2.1), (int .i64 x4.2.2.2.2.1), (bool x4.2.2.2.2.2.1)]), (box b5 30 [(int .i64 0), (int .i64 0), (int .i64 0), (int .i64 0), (int .i64 0), (bool false)]), (box b4 23 [(int .i64 a1_0), (int .i64 a1_1)])]) 0 rfl rfl rfl (one_all rfl) F_size_30 rfl rfl (by simp) rfl) rfl rfl ?_
 rintro _ _ rfl
 refine ent_value (ov_assign rfl) rfl rfl rfl ?_
 refine ent_nil ?_
 refine ent_seq ?_
 refine ent_seq ?_
 refine ent_region ?_
 refine ent_value (ov_move rfl) rfl rfl rfl ?_
 refine ent_value (ov_un rfl (u_not _)) rfl rfl rfl ?_
 refine ent_value (ov_move rfl) rfl rfl rfl ?_
 by_cases c7 : (!x4.2.2.2.2.2.2) = true
 ·rw [if_pos c7] at H
  refine ent_off rfl rfl rfl c7 rfl rfl ?_
  refine ent_off rfl rfl rfl c7 rfl rfl ?_
  refine ent_off rfl rfl rfl c7 rfl rfl ?_
  refine ent_off rfl rfl rfl c7 rfl rfl ?_
  refine ent_value (ov_pick rfl rfl rfl (pick_t c7)) rfl rfl rfl ?_
  refine ent_nil ?_
  refine ent_cond_true rfl rfl ?_
  refine ent_seq ?_
  refine ent_region ?_
  refine ent_value (ov_build (is := []) (xs := []) (vs := []) rfl rfl (build_struct (cs := [(int .i64 0), (int .i64 0), (int .i64 0), (int .i64 0), (int .i64 0), (bool false)]) F_zero_30 F_places_30 rfl)) rfl rfl rfl ?_
  refine ent_op0 (ot_storeG (cs := [(int .i64 0), (int .i64 0), (int .i64 0), (int .i64 0), (int .i64 0), (bool false)]) (cs' := [(int .i64 0), (int .i64 0), (int .i64 0), (int .i64 0), (int .i64 0), (bool false)]) (us := [(int .i64 0), (int .i64 0), (int .i64 0), (int .i64 0), (int .i64 0), (bool false)]) (L' := [(box b6 30 [(int .i64 x4.1), (int .i64 x4.2.1), (int .i64 x4.2.2.1), (int .i64 x4.2.2.2.1), (int .i64 x4.2.2.2.2.1), (bool x4.2.2.2.2.2.1)]), (box b5 30 [(int .i64 0), (int .i64 0), (int .i64 0), (int .i64 0), (int .i64 0), (bool false)]), (box b4 23 [(int .i64 a1_0), (int .i64 a1_1)])]) 1 rfl rfl rfl (one_all rfl) F_size_30 rfl rfl (by simp) rfl) rfl rfl ?_
  rintro _ _ rfl
  refine ent_value (ov_assign rfl) rfl rfl rfl ?_
  refine ent_nil ?_
  refine ent_retc ?_
  subst H
  exact ret_memp [] (by decide) rfl (vs := [(agg #[(int .i64 0), (int .i64 0), (int .i64 0), (int .i64 0), (int .i64 0), (bool false)]), (bool false)]) rfl ⟨⟨_, [(int .i64 0), (int .i64 0), (int .i64 0), (int .i64 0), (int .i64 0), (bool false)], rfl, reads_boxW (i := 1) rfl, .inl ⟨F_agg_30, F_size_30, rfl⟩⟩, ⟨rfl, trivial⟩⟩ _ rfl ⟨rfl, rfl⟩
 ·rw [if_neg c7] at H
  refine ent_value_on (ov_fieldAddr (sz := 1) (o := 0) rfl F_field_30_0 F_size_23) rfl rfl rfl (Bool.eq_false_iff.2 c7) rfl rfl ?_
  refine ent_value_on (ov_load_agg (vs := [(int .i64 x4.1), (int .i64 x4.2.1)]) rfl F_agg_23 F_size_23 (reads_boxN (i := 0) rfl rfl)) rfl rfl rfl (Bool.eq_false_iff.2 c7) rfl rfl ?_
  refine ent_value_on (ov_load_agg (vs := [(int .i64 a1_0), (int .i64 a1_1)]) rfl F_agg_23 F_size_23 (reads_boxW (i := 2) rfl)) rfl rfl rfl (Bool.eq_false_iff.2 c7) rfl rfl ?_
  refine ent_value_on (ov_bin rfl rfl (same_23_n _ _ _ _)) rfl rfl rfl (Bool.eq_false_iff.2 c7) rfl rfl ?_
  refine ent_value (ov_pick rfl rfl rfl (pick_f (Bool.eq_false_iff.2 c7))) rfl rfl rfl ?_
  refine ent_nil ?_
  by_cases c8 : (!((x4.1 == a1_0) && ((x4.2.1 == a1_1) && true))) = true
  ·rw [if_pos c8] at H
   refine ent_cond_true rfl c8 ?_
   refine ent_seq ?_
   refine ent_region ?_
   refine ent_value (ov_build (is := []) (xs := []) (vs := []) rfl rfl (build_struct (cs := [(int .i64 0), (int .i64 0), (int .i64 0), (int .i64 0), (int .i64 0), (bool false)]) F_zero_30 F_places_30 rfl)) rfl rfl rfl ?_
   refine ent_op0 (ot_storeG (cs := [(int .i64 0), (int .i64 0), (int .i64 0), (int .i64 0), (int .i64 0), (bool false)]) (cs' := [(int .i64 0), (int .i64 0), (int .i64 0), (int .i64 0), (int .i64 0), (bool false)]) (us := [(int .i64 0), (int .i64 0), (int .i64 0), (int .i64 0), (int .i64 0), (bool false)]) (L' := [(box b6 30 [(int .i64 x4.1), (int .i64 x4.2.1), (int .i64 x4.2.2.1), (int .i64 x4.2.2.2.1), (int .i64 x4.2.2.2.2.1), (bool x4.2.2.2.2.2.1)]), (box b5 30 [(int .i64 0), (int .i64 0), (int .i64 0), (int .i64 0), (int .i64 0), (bool false)]), (box b4 23 [(int .i64 a1_0), (int .i64 a1_1)])]) 1 rfl rfl rfl (one_all rfl) F_size_30 rfl rfl (by simp) rfl) rfl rfl ?_
   rintro _ _ rfl
   refine ent_value (ov_assign rfl) rfl rfl rfl ?_
   refine ent_nil ?_
   refine ent_retc ?_
   subst H
   exact ret_memp [] (by decide) rfl (vs := [(agg #[(int .i64 0), (int .i64 0), (int .i64 0), (int .i64 0), (int .i64 0), (bool false)]), (bool false)]) rfl ⟨⟨_, [(int .i64 0), (int .i64 0), (int .i64 0), (int .i64 0), (int .i64 0), (bool false)], rfl, reads_boxW (i := 1) rfl, .inl ⟨F_agg_30, F_size_30, rfl⟩⟩, ⟨rfl, trivial⟩⟩ _ rfl ⟨rfl, rfl⟩
  ·rw [if_neg c8] at H
   refine ent_cond_false rfl (Bool.eq_false_iff.2 c8) ?_
   refine ent_skip ?_
   refine ent_seq ?_
   refine ent_region ?_
   refine ent_value (ov_load_agg (vs := [(int .i64 x4.1), (int .i64 x4.2.1), (int .i64 x4.2.2.1), (int .i64 x4.2.2.2.1), (int .i64 x4.2.2.2.2.1), (bool x4.2.2.2.2.2.1)]) rfl F_agg_30 F_size_30 (reads_boxW (i := 0) rfl)) rfl rfl rfl ?_
   refine ent_op0 (ot_storeG (cs := [(int .i64 0), (int .i64 0), (int .i64 0), (int .i64 0), (int .i64 0), (bool false)]) (cs' := [(int .i64 x4.1), (int .i64 x4.2.1), (int .i64 x4.2.2.1), (int .i64 x4.2.2.2.1), (int .i64 x4.2.2.2.2.1), (bool x4.2.2.2.2.2.1)]) (us := [(int .i64 x4.1), (int .i64 x4.2.1), (int .i64 x4.2.2.1), (int .i64 x4.2.2.2.1), (int .i64 x4.2.2.2.2.1), (bool x4.2.2.2.2.2.1)]) (L' := [(box b6 30 [(int .i64 x4.1), (int .i64 x4.2.1), (int .i64 x4.2.2.1), (int .i64 x4.2.2.2.1), (int .i64 x4.2.2.2.2.1), (bool x4.2.2.2.2.2.1)]), (box b5 30 [(int .i64 x4.1), (int .i64 x4.2.1), (int .i64 x4.2.2.1), (int .i64 x4.2.2.2.1), (int .i64 x4.2.2.2.2.1), (bool x4.2.2.2.2.2.1)]), (box b4 23 [(int .i64 a1_0), (int .i64 a1_1)])]) 1 rfl rfl rfl (one_all rfl) F_size_30 rfl rfl (by simp) rfl) rfl rfl ?_
   rintro _ _ rfl
   refine ent_value (ov_assign rfl) rfl rfl rfl ?_
   refine ent_nil ?_
   refine ent_retc ?_
   subst H
   exact ret_memp [] (by decide) rfl (vs := [(agg #[(int .i64 x4.1), (int .i64 x4.2.1), (int .i64 x4.2.2.1), (int .i64 x4.2.2.2.1), (int .i64 x4.2.2.2.2.1), (bool x4.2.2.2.2.2.1)]), (bool true)]) rfl ⟨⟨_, [(int .i64 x4.1), (int .i64 x4.2.1), (int .i64 x4.2.2.1), (int .i64 x4.2.2.2.1), (int .i64 x4.2.2.2.2.1), (bool x4.2.2.2.2.2.1)], rfl, reads_boxW (i := 1) rfl, .inl ⟨F_agg_30, F_size_30, rfl⟩⟩, ⟨rfl, trivial⟩⟩ _ rfl ⟨rfl, rfl⟩

set_option maxRecDepth 100000 in
theorem catalog_Catalog_Apply_ZNN.spec (r : Int) (H : catalog_Catalog_Apply_ZNN = r) : FnSpec Try.prog 10 [(Value.pointer none), (agg #[(slice none 0 0), (slice none 0 0)])] [] (fun v M => v = (int .i64 r) ∧ M = []) := by
 unfold catalog_Catalog_Apply_ZNN at H
 refine spec_of Try.func10 rfl 67 rfl (Nat.le_of_ble_eq_true rfl) fun F w0 => ?_
 show Ent (St 67 w0 F [(0, (Value.pointer none)), (1, (agg #[(slice none 0 0), (slice none 0 0)]))] []) _
 refine ent_seq ?_
 refine ent_region ?_
 refine ent_op (ot_box (cs := [(slice none 0 0), (slice none 0 0)]) rfl rfl) rfl rfl rfl ?_
 rintro _ _ ⟨b2, rfl, rfl⟩
 refine ent_value (ov_assign rfl) rfl rfl rfl ?_
 refine ent_nil ?_
 refine ent_seq ?_
 refine ent_seq ?_
 refine ent_region ?_
 refine ent_value (ov_move rfl) rfl rfl rfl ?_
 refine ent_value (ov_bin rfl rfl (b_eql_of (fun w => rfl) rfl (eq_nn Try.underlying25))) rfl rfl rfl ?_
 refine ent_nil ?_
 refine ent_cond_true rfl rfl ?_
 refine ent_seq ?_
 refine ent_region ?_
 refine ent_value (ov_assign rfl) rfl rfl rfl ?_
 refine ent_nil ?_
 refine ent_retc ?_
 cases H
 refine ent_pick [] (by decide) rfl ?_
 exact ret_tmp rfl rfl ⟨rfl, rfl⟩

set_option maxRecDepth 100000 in
theorem catalog_Catalog_Over_Z.spec (a1 : Int) (a2 : Int) (r : Unit) (H : catalog_Catalog_Over_Z a1 a2 = r) : FnSpec Try.prog 11 [(Value.pointer none), (int .i64 a1), (int .i64 a2)] [] (fun v M => v = (slice none 0 0) ∧ M = []) := by
 unfold catalog_Catalog_Over_Z at H
 refine spec_of Try.func11 rfl 46 rfl (Nat.le_of_ble_eq_true rfl) fun F w0 => ?_
 show Ent (St 46 w0 F [(0, (Value.pointer none)), (1, (int .i64 a1)), (2, (int .i64 a2))] []) _
 refine ent_seq ?_
 refine ent_region ?_
 refine ent_op (ot_box (cs := [(int .i64 a1)]) rfl rfl) rfl rfl rfl ?_
 rintro _ _ ⟨b3, rfl, rfl⟩
 refine ent_op (ot_alloc F_zero_37) rfl rfl rfl ?_
 rintro _ _ ⟨b4, rfl, rfl⟩
 refine ent_nil ?_
 refine ent_scope ?_
 refine ent_seq ?_
 refine ent_seq ?_
 refine ent_region ?_
 refine ent_value (ov_move rfl) rfl rfl rfl ?_
 refine ent_value (ov_bin rfl rfl (b_eql_of (fun w => rfl) rfl (eq_nn Try.underlying25))) rfl rfl rfl ?_
 refine ent_value (ov_move rfl) rfl rfl rfl ?_
 refine ent_off rfl rfl rfl rfl rfl rfl ?_
 refine ent_off rfl rfl rfl rfl rfl rfl ?_
 refine ent_off rfl rfl rfl rfl rfl rfl ?_
 refine ent_value (ov_pick rfl rfl rfl rfl) rfl rfl rfl ?_
 refine ent_nil ?_
 refine ent_cond_true rfl rfl ?_
 refine ent_seq ?_
 refine ent_region ?_
 refine ent_op0 (ot_storeG (cs := [(slice none 0 0)]) (cs' := [(slice none 0 0)]) (us := [(slice none 0 0)]) (L' := [(box b4 37 [(slice none 0 0)]), (box b3 2 [(int .i64 a1)])]) 0 rfl rfl rfl (one_all rfl) F_size_37 rfl rfl (by simp) rfl) rfl rfl ?_
 rintro _ _ rfl
 refine ent_nil ?_
 refine ent_retc ?_
 subst H
 exact ret_memp [] (by decide) rfl (vs := [(slice none 0 0)]) rfl ⟨⟨_, [(slice none 0 0)], rfl, reads_box1 (i := 0) rfl rfl, .inr ⟨F_agg_37, rfl⟩⟩, trivial⟩ _ rfl ⟨rfl, rfl⟩

set_option maxRecDepth 100000 in
theorem catalog_Catalog_Len_Z.spec (r : Int) (H : catalog_Catalog_Len_Z = r) : FnSpec Try.prog 12 [(Value.pointer none)] [] (fun v M => v = (int .i64 r) ∧ M = []) := by
 unfold catalog_Catalog_Len_Z at H
 refine spec_of Try.func12 rfl 10 rfl (Nat.le_of_ble_eq_true rfl) fun F w0 => ?_
 show Ent (St 10 w0 F [(0, (Value.pointer none))] []) _
 refine ent_seq ?_
 refine ent_region ?_
 refine ent_value (ov_assign rfl) rfl rfl rfl ?_
 refine ent_nil ?_
 refine ent_seq ?_
 refine ent_seq ?_
 refine ent_region ?_
 refine ent_value (ov_move rfl) rfl rfl rfl ?_
 refine ent_value (ov_bin rfl rfl (b_eql_of (fun w => rfl) rfl (eq_nn Try.underlying25))) rfl rfl rfl ?_
 refine ent_nil ?_
 refine ent_cond_true rfl rfl ?_
 refine ent_seq ?_
 refine ent_region ?_
 refine ent_value (ov_assign rfl) rfl rfl rfl ?_
 refine ent_nil ?_
 refine ent_retc ?_
 cases H
 refine ent_pick [] (by decide) rfl ?_
 exact ret_tmp rfl rfl ⟨rfl, rfl⟩

set_option maxRecDepth 100000 in
theorem catalog_Catalog_Copy_Z.spec (r : Unit) (H : catalog_Catalog_Copy_Z = r) : FnSpec Try.prog 13 [(Value.pointer none)] [] (fun v M => v = (Value.pointer none) ∧ M = []) := by
 unfold catalog_Catalog_Copy_Z at H
 refine spec_of Try.func13 rfl 12 rfl (Nat.le_of_ble_eq_true rfl) fun F w0 => ?_
 show Ent (St 12 w0 F [(0, (Value.pointer none))] []) _
 refine ent_seq ?_
 refine ent_region ?_
 refine ent_value (ov_assign rfl) rfl rfl rfl ?_
 refine ent_nil ?_
 refine ent_seq ?_
 refine ent_seq ?_
 refine ent_region ?_
 refine ent_value (ov_move rfl) rfl rfl rfl ?_
 refine ent_value (ov_bin rfl rfl (b_eql_of (fun w => rfl) rfl (eq_nn Try.underlying25))) rfl rfl rfl ?_
 refine ent_nil ?_
 refine ent_cond_true rfl rfl ?_
 refine ent_seq ?_
 refine ent_region ?_
 refine ent_value (ov_assign rfl) rfl rfl rfl ?_
 refine ent_nil ?_
 refine ent_retc ?_
 cases H
 refine ent_pick [] (by decide) rfl ?_
 exact ret_tmp rfl rfl ⟨rfl, rfl⟩

theorem slices_Sort_____int64__int64.spec (sv0 : Value) (l0 : List Int) (r : List Int) (H : slices_Sort_____int64__int64 l0 = some r) : FnSpec Try.prog 46 [sv0] [(own sv0 2 1 l0.length (fl (eI .i64) l0))] (fun v M => v = (Value.tuple #[]) ∧ M = [(own sv0 2 1 r.length (fl (eI .i64) r))]) := by
 unfold slices_Sort_____int64__int64 at H
 split at H
 ·cases H
  exact sort_at sv0 l0 (by omega)
 ·cases H

set_option maxRecDepth 100000 in
theorem catalog_Catalog_Segs_Z.spec (K : Nat) (r : List Int) (H : catalog_Catalog_Segs_Z K = some r) : FnSpec Try.prog 14 [(Value.pointer none)] [] (fun v M => ∃ sv15 : Value, v = sv15 ∧ M = [(own sv15 2 1 r.length (fl (eI .i64) r))]) := by
 unfold catalog_Catalog_Segs_Z at H
 refine spec_of Try.func14 rfl 15 rfl (Nat.le_of_ble_eq_true rfl) fun F w0 => ?_
 show Ent (St 15 w0 F [(0, (Value.pointer none))] []) _
 refine ent_seq ?_
 refine ent_region ?_
 refine ent_op (ot_alloc F_zero_43) rfl rfl rfl ?_
 rintro _ _ ⟨b10, rfl, rfl⟩
 refine ent_nil ?_
 refine ent_seq ?_
 refine ent_seq ?_
 refine ent_region ?_
 refine ent_value (ov_move rfl) rfl rfl rfl ?_
 obtain ⟨u4, h8, H⟩ := thn_elim H
 refine ent_op (ot_call (Lr := [(box b10 43 [(slice none 0 0)])]) (first := []) (cap := []) (xs := [.tmp 4]) rfl rfl F_call_7 rfl (catalog_Catalog_All_Z.spec _ h8) rfl) rfl rfl rfl ?_
 rintro _ _ ⟨_, ⟨b15, rfl, rfl⟩, rfl⟩
 refine ent_nil ?_
 refine ent_block ?_
 obtain ⟨x5, h9, H⟩ := Option.bind_eq_some_iff.1 H
 refine ent_ownnil 2 1 ?_
 refine ent_rangeY (γ := List Int) (cap := [(pt b15 0)]) (Lg := [(box b15 25 [(Value.pointer none)])]) (M0 := [(box b10 43 [(slice none 0 0)]), (own (slice none 0 0) 2 1 0 [])]) (x0 := ([] : List Int)) (x1 := ([] : List Int)) (fun (z4 : List Int) M => ∃ sv25 : Value, M = [(box b10 43 [sv25]), (own sv25 2 1 z4.length (fl (eI .i64) z4))]) (fun vs z_ r_ => ∃ t0_ : Api_Entry, vs = [(agg #[(int .i64 t0_.Part.Tier), (int .i64 t0_.Part.Index), (int .i64 t0_.Seg), (int .i64 t0_.Mark), (int .i64 t0_.Rows), (bool t0_.Cold)])] ∧ catalog_Catalog_Segs_Z_r0 K t0_ z_ = some r_) [1, 2, 0] rfl rfl (by decide) rfl (by decide) ⟨_, rfl⟩ ?_ ?_ ?_
 ·rintro l _ z4 r _ ⟨t0_, rfl, Hl⟩ ⟨sv25, rfl⟩
  unfold catalog_Catalog_Segs_Z_r0 at Hl
  refine ⟨rfl, Nat, fun g_ => [(2, (pt b10 0)), (3, (pt g_ 0)), (6, (agg #[(int .i64 t0_.Part.Tier), (int .i64 t0_.Part.Index), (int .i64 t0_.Seg), (int .i64 t0_.Mark), (int .i64 t0_.Rows), (bool t0_.Cold)]))], fun g_ => [(box g_ 30 [(int .i64 t0_.Part.Tier), (int .i64 t0_.Part.Index), (int .i64 t0_.Seg), (int .i64 t0_.Mark), (int .i64 t0_.Rows), (bool t0_.Cold)]), (box b10 43 [sv25]), (own sv25 2 1 z4.length (fl (eI .i64) z4))], fun F w0 => ?_, ?_⟩
  ·refine ent_region ?_
   refine ent_op (ot_alloc F_zero_30) rfl rfl rfl ?_
   rintro _ _ ⟨b18, rfl, rfl⟩
   refine ent_op0 (ot_storeG (cs := [(int .i64 0), (int .i64 0), (int .i64 0), (int .i64 0), (int .i64 0), (bool false)]) (cs' := [(int .i64 t0_.Part.Tier), (int .i64 t0_.Part.Index), (int .i64 t0_.Seg), (int .i64 t0_.Mark), (int .i64 t0_.Rows), (bool t0_.Cold)]) (us := [(int .i64 t0_.Part.Tier), (int .i64 t0_.Part.Index), (int .i64 t0_.Seg), (int .i64 t0_.Mark), (int .i64 t0_.Rows), (bool t0_.Cold)]) (L' := [(box b18 30 [(int .i64 t0_.Part.Tier), (int .i64 t0_.Part.Index), (int .i64 t0_.Seg), (int .i64 t0_.Mark), (int .i64 t0_.Rows), (bool t0_.Cold)]), (box b10 43 [sv25]), (own sv25 2 1 z4.length (fl (eI .i64) z4))]) 0 rfl rfl rfl (one_all rfl) F_size_30 rfl rfl (by simp) rfl) rfl rfl ?_
   rintro _ _ rfl
   refine ent_nil ?_
   exact ent_fin [0, 1, 2] (by decide) rfl (sub_cons (t := 2) rfl (sub_cons (t := 3) rfl (sub_cons (t := 6) rfl (sub_nil _)))) fun a w h => ⟨b18, h⟩
  ·rintro b18 F w0
   show Ent (St 15 w0 F [(2, (pt b10 0)), (3, (pt b18 0)), (6, (agg #[(int .i64 t0_.Part.Tier), (int .i64 t0_.Part.Index), (int .i64 t0_.Seg), (int .i64 t0_.Mark), (int .i64 t0_.Rows), (bool t0_.Cold)]))] [(box b18 30 [(int .i64 t0_.Part.Tier), (int .i64 t0_.Part.Index), (int .i64 t0_.Seg), (int .i64 t0_.Mark), (int .i64 t0_.Rows), (bool t0_.Cold)]), (box b10 43 [sv25]), (own sv25 2 1 z4.length (fl (eI .i64) z4))]) _
   refine ent_block ?_
   refine ent_region ?_
   refine ent_value (ov_load (v := sv25) rfl F_agg_43 (reads_box1 (i := 1) rfl rfl)) rfl rfl rfl ?_
   refine ent_value (ov_fieldAddr (sz := 0) (o := 0) rfl F_field_30_1 F_size_2) rfl rfl rfl ?_
   refine ent_value (ov_load (v := (int .i64 t0_.Seg)) rfl F_agg_2 (reads_box1 (i := 0) rfl rfl)) rfl rfl rfl ?_
   refine ent_op (ot_buildSlice (sz := 0) (xs := [.tmp 9]) (cs := fl (eI .i64) [t0_.Seg]) rfl rfl F_slice_43 F_size_2 F_zero_2 rfl rfl (all_size rfl) rfl (by decide)) rfl rfl rfl ?_
   rintro sv28 _ rfl
   by_cases c12 : (z4.length + [t0_.Seg].length) * 8 ≤ 140737488355328
   ·rw [if_pos c12] at Hl
    refine ent_op (ot_appendx (sz := 0) (xs := z4) (ys := [t0_.Seg]) 3 0 rfl rfl F_slice_43 F_size_2 F_zero_2 rfl F_bytes_2 rfl rfl rfl (isRd_ownx 2) rfl (eI_one _) c12) rfl rfl rfl ?_
    rintro sv29 _ rfl
    refine ent_L [(own sv28 2 1 [t0_.Seg].length (fl (eI .i64) [t0_.Seg])), (box b18 30 [(int .i64 t0_.Part.Tier), (int .i64 t0_.Part.Index), (int .i64 t0_.Seg), (int .i64 t0_.Mark), (int .i64 t0_.Rows), (bool t0_.Cold)]), (box b10 43 [sv25]), (own sv29 2 1 (z4 ++ [t0_.Seg]).length (fl (eI .i64) (z4 ++ [t0_.Seg])))] rfl ?_
    refine ent_op0 (ot_storeS (cs := [sv25]) (cs' := [sv29]) (sv := sv29) (L' := [(own sv28 2 1 [t0_.Seg].length (fl (eI .i64) [t0_.Seg])), (box b18 30 [(int .i64 t0_.Part.Tier), (int .i64 t0_.Part.Index), (int .i64 t0_.Seg), (int .i64 t0_.Mark), (int .i64 t0_.Rows), (bool t0_.Cold)]), (box b10 43 [sv29]), (own sv29 2 1 (z4 ++ [t0_.Seg]).length (fl (eI .i64) (z4 ++ [t0_.Seg])))]) 2 3 rfl rfl F_size_43 rfl rfl (isRd_ownx 2) rfl (by simp) rfl) rfl rfl ?_
    rintro _ _ rfl
    refine ent_nil ?_
    cases Hl
    refine ent_pick [2, 3] (by decide) rfl ?_
    refine ent_roundN ?_
    exact ⟨rfl, rfl, _, rfl⟩
   ·rw [if_neg c12] at Hl
    cases Hl
 ·intro Y l hY
  exact (catalog_Catalog_All_1_YZ.spec l b15 (List Int) (catalog_Catalog_Segs_Z_r0 K) ([] : List Int) Y (fun t0_ z_ r_ h_ => hY _ z_ r_ ⟨t0_, rfl, h_⟩) _ (Option.some.inj h9)).mono fun _ _ h_ => h_.2
 ·rintro _ ⟨sv25, rfl⟩
  refine ent_sub [(2, (pt b10 0))] (sub_cons (t := 2) rfl (sub_nil _)) ?_
  refine ent_seq ?_
  refine ent_region ?_
  refine ent_value (ov_load (v := sv25) rfl F_agg_43 (reads_box1 (i := 1) rfl rfl)) rfl rfl rfl ?_
  obtain ⟨x6, h10, H⟩ := Option.bind_eq_some_iff.1 H
  refine ent_pick [2, 0, 1] (by decide) rfl ?_
  refine ent_op (ot_call (Lr := [(box b15 25 [(Value.pointer none)]), (box b10 43 [sv25])]) (first := []) (cap := []) (xs := [.tmp 12]) rfl rfl F_call_46 rfl (slices_Sort_____int64__int64.spec sv25 ([] : List Int) _ h10) rfl) rfl rfl rfl ?_
  rintro _ _ ⟨_, ⟨rfl, rfl⟩, rfl⟩
  refine ent_nil ?_
  refine ent_seq ?_
  refine ent_region ?_
  refine ent_value (ov_load (v := sv25) rfl F_agg_43 (reads_box1 (i := 2) rfl rfl)) rfl rfl rfl ?_
  refine ent_op0 (ot_storeS (cs := [sv25]) (cs' := [sv25]) (sv := sv25) (L' := [(own sv25 2 1 x6.length (fl (eI .i64) x6)), (box b15 25 [(Value.pointer none)]), (box b10 43 [sv25])]) 2 0 rfl rfl F_size_43 rfl rfl (isRd_ownx 2) rfl (by simp) rfl) rfl rfl ?_
  rintro _ _ rfl
  refine ent_nil ?_
  refine ent_retc ?_
  first | (have e_ := Option.some.inj (show some _ = some _ from H); subst e_) | subst H
  exact ret_memp [0] (by decide) rfl (vs := [sv25]) rfl ⟨⟨_, [sv25], rfl, reads_box1 (i := 2) rfl rfl, .inr ⟨F_agg_43, rfl⟩⟩, trivial⟩ _ rfl ⟨_, rfl, rfl⟩

set_option maxRecDepth 100000 in
theorem ossuarylaw20_CatalogNils.spec (K : Nat) (a0 : Int) (a1_0 : Int) (a1_1 : Int) (r : Bool) (H : ossuarylaw20_CatalogNils K a0 a1_0 a1_1 = some r) : FnSpec Try.prog 3 [(int .i64 a0), (agg #[(int .i64 a1_0), (int .i64 a1_1)])] [] (fun v M => v = (bool r) ∧ M = []) := by
 unfold ossuarylaw20_CatalogNils at H
 refine spec_of Try.func3 rfl 61 rfl (Nat.le_of_ble_eq_true rfl) fun F w0 => ?_
 show Ent (St 61 w0 F [(0, (int .i64 a0)), (1, (agg #[(int .i64 a1_0), (int .i64 a1_1)]))] []) _
 refine ent_seq ?_
 refine ent_region ?_
 refine ent_op (ot_box (cs := [(int .i64 a1_0), (int .i64 a1_1)]) rfl rfl) rfl rfl rfl ?_
 rintro _ _ ⟨b11, rfl, rfl⟩
 refine ent_op (ot_alloc F_zero_4) rfl rfl rfl ?_
 rintro _ _ ⟨b12, rfl, rfl⟩
 refine ent_nil ?_
 refine ent_seq ?_
 refine ent_seq ?_
 refine ent_region ?_
 obtain ⟨x12, h15, H⟩ := Option.bind_eq_some_iff.1 H
 refine ent_op (ot_call0 (first := []) (cap := []) (xs := []) rfl rfl F_call_6 rfl (ossuarylaw20_alive.spec K _ h15)) rfl rfl rfl ?_
 rintro _ _ ⟨rfl, rfl⟩
 refine ent_value (ov_un rfl (u_not _)) rfl rfl rfl ?_
 refine ent_nil ?_
 by_cases c8 : (!x12) = true
 ·rw [if_pos c8] at H
  refine ent_cond_true rfl c8 ?_
  refine ent_seq ?_
  refine ent_region ?_
  refine ent_op0 (ot_storeG (cs := [(bool false)]) (cs' := [(bool false)]) (us := [(bool false)]) (L' := [(box b12 4 [(bool false)]), (box b11 23 [(int .i64 a1_0), (int .i64 a1_1)])]) 0 rfl rfl rfl (one_all rfl) F_size_4 rfl rfl (by simp) rfl) rfl rfl ?_
  rintro _ _ rfl
  refine ent_nil ?_
  refine ent_retc ?_
  first | (have e_ := Option.some.inj (show some _ = some _ from H); subst e_) | subst H
  exact ret_memp [] (by decide) rfl (vs := [(bool false)]) rfl ⟨⟨_, [(bool false)], rfl, reads_box1 (i := 0) rfl rfl, .inr ⟨F_agg_4, rfl⟩⟩, trivial⟩ _ rfl ⟨rfl, rfl⟩
 ·rw [if_neg c8] at H
  refine ent_cond_false rfl (Bool.eq_false_iff.2 c8) ?_
  refine ent_skip ?_
  refine ent_seq ?_
  refine ent_region ?_
  refine ent_value (ov_assign rfl) rfl rfl rfl ?_
  refine ent_nil ?_
  obtain ⟨x14, H3, H⟩ := Option.bind_eq_some_iff.1 H
  refine ent_seq_cut (fun a w => ∃ v2, x14 = Sum.inl v2 ∧ ∃ b15 : Nat, ∃ b16 : Nat, St 61 w0 F [(0, (int .i64 a0)), (3, (pt b15 0)), (4, (pt b16 0)), (5, (Value.pointer none))] [(box b15 23 [(int .i64 a1_0), (int .i64 a1_1)]), (box b16 4 [(bool false)])] a w) ?_ ?_
  ·refine ent_seq ?_
   refine ent_region ?_
   refine ent_value (ov_move rfl) rfl rfl rfl ?_
   obtain ⟨u6, h18, H3⟩ := thn_elim H3
   refine ent_op (ot_call (Lr := [(box b12 4 [(bool false)]), (box b11 23 [(int .i64 a1_0), (int .i64 a1_1)])]) (first := []) (cap := []) (xs := [.tmp 12]) rfl rfl F_call_7 rfl (catalog_Catalog_All_Z.spec _ h18) rfl) rfl rfl rfl ?_
   rintro _ _ ⟨_, ⟨b17, rfl, rfl⟩, rfl⟩
   refine ent_nil ?_
   refine ent_block ?_
   obtain ⟨x15, h19, H3⟩ := Option.bind_eq_some_iff.1 H3
   refine ent_rangeJ (γ := Unit) (δ := Unit) (cap := [(pt b17 0)]) (Lg := [(box b17 25 [(Value.pointer none)])]) (M0 := [(box b11 23 [(int .i64 a1_0), (int .i64 a1_1)]), (box b12 4 [(bool false)])]) (x0 := ()) (x1 := (Sum.inl () : Sum Unit Unit)) (fun (z4 : Unit) M => M = [(box b11 23 [(int .i64 a1_0), (int .i64 a1_1)]), (box b12 4 [(bool false)])]) (fun (d0_ : Unit) (c : Code) (M : List HP) => (fun d4 => ∃ b18 : Nat, c = Code.ret ∧ M = [(box b18 4 [(bool false)])]) d0_) (fun vs z_ r_ => ∃ t0_ : Api_Entry, vs = [(agg #[(int .i64 t0_.Part.Tier), (int .i64 t0_.Part.Index), (int .i64 t0_.Seg), (int .i64 t0_.Mark), (int .i64 t0_.Rows), (bool t0_.Cold)])] ∧ ossuarylaw20_CatalogNils_r0 K t0_ (Sum.inl z_) = some r_) [0, 2, 1] rfl rfl (by decide) rfl (by decide) rfl ?_ ?_ ?_ ?_
   ·rintro l _ z4 r _ ⟨t0_, rfl, Hl⟩ ⟨rfl⟩
    unfold ossuarylaw20_CatalogNils_r0 at Hl
    rw [cas_inl] at Hl
    refine ⟨rfl, Unit, fun g_ => [(0, (int .i64 a0)), (3, (pt b11 0)), (4, (pt b12 0)), (5, (Value.pointer none)), (14, (agg #[(int .i64 t0_.Part.Tier), (int .i64 t0_.Part.Index), (int .i64 t0_.Seg), (int .i64 t0_.Mark), (int .i64 t0_.Rows), (bool t0_.Cold)]))], fun g_ => [(box b11 23 [(int .i64 a1_0), (int .i64 a1_1)]), (box b12 4 [(bool false)])], fun F w0 => ?_, ?_⟩
    ·refine ent_skip ?_
     exact ent_fin [0, 1] (by decide) rfl (sub_cons (t := 0) rfl (sub_cons (t := 3) rfl (sub_cons (t := 4) rfl (sub_cons (t := 5) rfl (sub_cons (t := 14) rfl (sub_nil _)))))) fun a w h => ⟨(), h⟩
    ·rintro _ F w0
     show Ent (St 61 w0 F [(0, (int .i64 a0)), (3, (pt b11 0)), (4, (pt b12 0)), (5, (Value.pointer none)), (14, (agg #[(int .i64 t0_.Part.Tier), (int .i64 t0_.Part.Index), (int .i64 t0_.Seg), (int .i64 t0_.Mark), (int .i64 t0_.Rows), (bool t0_.Cold)]))] [(box b11 23 [(int .i64 a1_0), (int .i64 a1_1)]), (box b12 4 [(bool false)])]) _
     refine ent_block ?_
     refine ent_seq ?_
     refine ent_region ?_
     refine ent_op0 (ot_storeG (cs := [(bool false)]) (cs' := [(bool false)]) (us := [(bool false)]) (L' := [(box b11 23 [(int .i64 a1_0), (int .i64 a1_1)]), (box b12 4 [(bool false)])]) 1 rfl rfl rfl (one_all rfl) F_size_4 rfl rfl (by simp) rfl) rfl rfl ?_
     rintro _ _ rfl
     refine ent_nil ?_
     refine ent_retc ?_
     cases Hl
     refine ent_pick [1] (by decide) rfl ?_
     refine ent_roundR ?_
     exact jq_jump ⟨_, rfl, rfl⟩
   ·intro Y l hY
    exact (catalog_Catalog_All_1_YZ.spec l b17 (Sum Unit Unit) (ossuarylaw20_CatalogNils_r0 K) (Sum.inl ()) Y (by intro t0_ z_ r_ h_; cases z_ with | inl z_ => exact hY _ z_ r_ ⟨t0_, rfl, h_⟩ | inr d_ => exact absurd (show (none : Option _) = some r_ from h_) (by simp)) _ (Option.some.inj h19)).mono fun _ _ h_ => h_.2
   ·intro y4 e_
    cases e_
    rw [cas_inl] at H3
    rintro _ ⟨rfl⟩
    refine ent_sub [(0, (int .i64 a0)), (3, (pt b11 0)), (4, (pt b12 0)), (5, (Value.pointer none))] (sub_cons (t := 0) rfl (sub_cons (t := 3) rfl (sub_cons (t := 4) rfl (sub_cons (t := 5) rfl (sub_nil _))))) ?_
    cases H3
    exact ent_fin [1, 2] (by decide) rfl (sub_cons (t := 0) rfl (sub_cons (t := 3) rfl (sub_cons (t := 4) rfl (sub_cons (t := 5) rfl (sub_nil _))))) fun a w h => ⟨_, rfl, _, _, h⟩
   ·rintro _ e_
    cases e_
  ·refine ent_exi fun v2 => ent_and fun e_ => ?_
   subst e_
   rw [cas_inl] at H
   refine ent_exi fun b15 => ent_exi fun b16 => ?_
   refine ent_seq ?_
   refine ent_region ?_
   refine ent_value (ov_move rfl) rfl rfl rfl ?_
   refine ent_value (ov_move rfl) rfl rfl rfl ?_
   obtain ⟨x16, h20, H⟩ := thn_elim H
   refine ent_op (ot_call0 (first := []) (cap := []) (xs := [.tmp 16, .tmp 17]) rfl rfl F_call_8 rfl (catalog_Catalog_At_Z.spec a0 _ h20)) rfl rfl rfl ?_
   rintro _ _ ⟨rfl, rfl⟩
   refine ent_value (ov_move rfl) rfl rfl rfl ?_
   refine ent_value (ov_extract rfl rfl) rfl rfl rfl ?_
   refine ent_value (ov_extract rfl rfl) rfl rfl rfl ?_
   refine ent_op (ot_alloc F_zero_30) rfl rfl rfl ?_
   rintro _ _ ⟨b19, rfl, rfl⟩
   refine ent_op0 (ot_storeG (cs := [(int .i64 0), (int .i64 0), (int .i64 0), (int .i64 0), (int .i64 0), (bool false)]) (cs' := [(int .i64 x16.1), (int .i64 x16.2.1), (int .i64 x16.2.2.1), (int .i64 x16.2.2.2.1), (int .i64 x16.2.2.2.2.1), (bool x16.2.2.2.2.2.1)]) (us := [(int .i64 x16.1), (int .i64 x16.2.1), (int .i64 x16.2.2.1), (int .i64 x16.2.2.2.1), (int .i64 x16.2.2.2.2.1), (bool x16.2.2.2.2.2.1)]) (L' := [(box b19 30 [(int .i64 x16.1), (int .i64 x16.2.1), (int .i64 x16.2.2.1), (int .i64 x16.2.2.2.1), (int .i64 x16.2.2.2.2.1), (bool x16.2.2.2.2.2.1)]), (box b15 23 [(int .i64 a1_0), (int .i64 a1_1)]), (box b16 4 [(bool false)])]) 0 rfl rfl rfl (one_all rfl) F_size_30 rfl rfl (by simp) rfl) rfl rfl ?_
   rintro _ _ rfl
   refine ent_value (ov_assign rfl) rfl rfl rfl ?_
   refine ent_nil ?_
   refine ent_seq ?_
   refine ent_region ?_
   refine ent_value (ov_move rfl) rfl rfl rfl ?_
   refine ent_value (ov_load_agg (vs := [(int .i64 a1_0), (int .i64 a1_1)]) rfl F_agg_23 F_size_23 (reads_boxW (i := 1) rfl)) rfl rfl rfl ?_
   obtain ⟨x17, h21, H⟩ := thn_elim H
   refine ent_op (ot_call0 (first := []) (cap := []) (xs := [.tmp 22, .tmp 23]) rfl rfl F_call_9 rfl (catalog_Catalog_Get_Z.spec a1_0 a1_1 _ h21)) rfl rfl rfl ?_
   rintro _ _ ⟨rfl, rfl⟩
   refine ent_value (ov_move rfl) rfl rfl rfl ?_
   refine ent_value (ov_extract rfl rfl) rfl rfl rfl ?_
   refine ent_value (ov_extract rfl rfl) rfl rfl rfl ?_
   refine ent_op (ot_alloc F_zero_30) rfl rfl rfl ?_
   rintro _ _ ⟨b20, rfl, rfl⟩
   refine ent_op0 (ot_storeG (cs := [(int .i64 0), (int .i64 0), (int .i64 0), (int .i64 0), (int .i64 0), (bool false)]) (cs' := [(int .i64 x17.1), (int .i64 x17.2.1), (int .i64 x17.2.2.1), (int .i64 x17.2.2.2.1), (int .i64 x17.2.2.2.2.1), (bool x17.2.2.2.2.2.1)]) (us := [(int .i64 x17.1), (int .i64 x17.2.1), (int .i64 x17.2.2.1), (int .i64 x17.2.2.2.1), (int .i64 x17.2.2.2.2.1), (bool x17.2.2.2.2.2.1)]) (L' := [(box b20 30 [(int .i64 x17.1), (int .i64 x17.2.1), (int .i64 x17.2.2.1), (int .i64 x17.2.2.2.1), (int .i64 x17.2.2.2.2.1), (bool x17.2.2.2.2.2.1)]), (box b19 30 [(int .i64 x16.1), (int .i64 x16.2.1), (int .i64 x16.2.2.1), (int .i64 x16.2.2.2.1), (int .i64 x16.2.2.2.2.1), (bool x16.2.2.2.2.2.1)]), (box b15 23 [(int .i64 a1_0), (int .i64 a1_1)]), (box b16 4 [(bool false)])]) 0 rfl rfl rfl (one_all rfl) F_size_30 rfl rfl (by simp) rfl) rfl rfl ?_
   rintro _ _ rfl
   refine ent_value (ov_assign rfl) rfl rfl rfl ?_
   refine ent_nil ?_
   refine ent_seq ?_
   refine ent_region ?_
   refine ent_value (ov_move rfl) rfl rfl rfl ?_
   refine ent_value (ov_build (is := []) (xs := []) (vs := []) rfl rfl (build_struct (cs := [(slice none 0 0), (slice none 0 0)]) F_zero_39 F_places_39 rfl)) rfl rfl rfl ?_
   obtain ⟨x18, h22, H⟩ := thn_elim H
   refine ent_op (ot_call0 (first := []) (cap := []) (xs := [.tmp 27, .tmp 28]) rfl rfl F_call_10 rfl (catalog_Catalog_Apply_ZNN.spec _ h22)) rfl rfl rfl ?_
   rintro _ _ ⟨rfl, rfl⟩
   refine ent_value (ov_bin rfl rfl (b_eql _ _ _)) rfl rfl rfl ?_
   refine ent_value (ov_move rfl) rfl rfl rfl ?_
   by_cases c9 : x18 = 1
   ·rw [if_pos c9] at H
    refine ent_value_on (ov_move rfl) rfl rfl rfl (eq_t c9) rfl rfl ?_
    refine ent_value_on (ov_un rfl (u_not _)) rfl rfl rfl (eq_t c9) rfl rfl ?_
    refine ent_value (ov_pick rfl rfl rfl (pick_t (eq_t c9))) rfl rfl rfl ?_
    refine ent_value (ov_move rfl) rfl rfl rfl ?_
    by_cases c10 : (!x16.2.2.2.2.2.2) = true
    ·rw [if_pos c10] at H
     refine ent_value_on (ov_move rfl) rfl rfl rfl c10 rfl rfl ?_
     refine ent_value_on (ov_un rfl (u_not _)) rfl rfl rfl c10 rfl rfl ?_
     refine ent_value (ov_pick rfl rfl rfl (pick_t c10)) rfl rfl rfl ?_
     refine ent_value (ov_move rfl) rfl rfl rfl ?_
     by_cases c11 : (!x17.2.2.2.2.2.2) = true
     ·rw [if_pos c11] at H
      refine ent_value_on (ov_move rfl) rfl rfl rfl c11 rfl rfl ?_
      obtain ⟨u7, h23, H⟩ := thn_elim H
      refine ent_op_on (ot_call0 (first := []) (cap := []) (xs := [.tmp 40, .const (int .i64 0), .const (int .i64 9)]) rfl rfl F_call_11 rfl (catalog_Catalog_Over_Z.spec 0 9 _ h23)) rfl rfl rfl c11 rfl rfl ?_
      rintro _ _ ⟨rfl, rfl⟩
      refine ent_value_on (ov_len0 rfl F_slice_37) rfl rfl rfl c11 rfl rfl ?_
      refine ent_value_on (ov_bin rfl rfl (b_eql _ _ _)) rfl rfl rfl c11 rfl rfl ?_
      refine ent_value (ov_pick rfl rfl rfl (pick_t c11)) rfl rfl rfl ?_
      refine ent_value (ov_move rfl) rfl rfl rfl ?_
      refine ent_value_on (ov_move rfl) rfl rfl rfl rfl rfl rfl ?_
      obtain ⟨x19, h24, H⟩ := thn_elim H
      refine ent_op_on (ot_call0 (first := []) (cap := []) (xs := [.tmp 46]) rfl rfl F_call_12 rfl (catalog_Catalog_Len_Z.spec _ h24)) rfl rfl rfl rfl rfl rfl ?_
      rintro _ _ ⟨rfl, rfl⟩
      refine ent_value_on (ov_bin rfl rfl (b_eql _ _ _)) rfl rfl rfl rfl rfl rfl ?_
      refine ent_value (ov_pick rfl rfl rfl rfl) rfl rfl rfl ?_
      refine ent_value (ov_move rfl) rfl rfl rfl ?_
      by_cases c12 : x19 = 0
      ·rw [if_pos c12] at H
       refine ent_value_on (ov_move rfl) rfl rfl rfl (eq_t c12) rfl rfl ?_
       obtain ⟨u8, h25, H⟩ := thn_elim H
       refine ent_op_on (ot_call0 (first := []) (cap := []) (xs := [.tmp 51]) rfl rfl F_call_13 rfl (catalog_Catalog_Copy_Z.spec _ h25)) rfl rfl rfl (eq_t c12) rfl rfl ?_
       rintro _ _ ⟨rfl, rfl⟩
       refine ent_value_on (ov_bin rfl rfl (b_eql_of (fun w => rfl) rfl (eq_nn Try.underlying25))) rfl rfl rfl (eq_t c12) rfl rfl ?_
       refine ent_value (ov_pick rfl rfl rfl (pick_t (eq_t c12))) rfl rfl rfl ?_
       refine ent_value (ov_move rfl) rfl rfl rfl ?_
       refine ent_value_on (ov_move rfl) rfl rfl rfl rfl rfl rfl ?_
       obtain ⟨x20, h26, H⟩ := Option.bind_eq_some_iff.1 H
       refine ent_op_on (ot_call (Lr := [(box b20 30 [(int .i64 x17.1), (int .i64 x17.2.1), (int .i64 x17.2.2.1), (int .i64 x17.2.2.2.1), (int .i64 x17.2.2.2.2.1), (bool x17.2.2.2.2.2.1)]), (box b19 30 [(int .i64 x16.1), (int .i64 x16.2.1), (int .i64 x16.2.2.1), (int .i64 x16.2.2.2.1), (int .i64 x16.2.2.2.2.1), (bool x16.2.2.2.2.2.1)]), (box b15 23 [(int .i64 a1_0), (int .i64 a1_1)]), (box b16 4 [(bool false)])]) (first := []) (cap := []) (xs := [.tmp 56]) rfl rfl F_call_14 rfl (catalog_Catalog_Segs_Z.spec K _ h26) rfl) rfl rfl rfl rfl rfl rfl ?_
       rintro sv2 _ ⟨_, ⟨_, rfl, rfl⟩, rfl⟩
       refine ent_value_on (ov_len 0 rfl F_slice_43 rfl (isRd_ownx 2)) rfl rfl rfl rfl rfl rfl ?_
       refine ent_value_on (ov_bin rfl rfl (b_eql _ _ _)) rfl rfl rfl rfl rfl rfl ?_
       refine ent_value (ov_pick rfl rfl rfl rfl) rfl rfl rfl ?_
       refine ent_op0 (ot_storeG (cs := [(bool false)]) (cs' := [(bool ((x20.length : Int) == 0))]) (us := [(bool ((x20.length : Int) == 0))]) (L' := [(own sv2 2 1 x20.length (fl (eI .i64) x20)), (box b20 30 [(int .i64 x17.1), (int .i64 x17.2.1), (int .i64 x17.2.2.1), (int .i64 x17.2.2.2.1), (int .i64 x17.2.2.2.2.1), (bool x17.2.2.2.2.2.1)]), (box b19 30 [(int .i64 x16.1), (int .i64 x16.2.1), (int .i64 x16.2.2.1), (int .i64 x16.2.2.2.1), (int .i64 x16.2.2.2.2.1), (bool x16.2.2.2.2.2.1)]), (box b15 23 [(int .i64 a1_0), (int .i64 a1_1)]), (box b16 4 [(bool ((x20.length : Int) == 0))])]) 4 rfl rfl rfl (one_all rfl) F_size_4 rfl rfl (by simp) rfl) rfl rfl ?_
       rintro _ _ rfl
       refine ent_nil ?_
       refine ent_retc ?_
       first | (have e_ := Option.some.inj (show some _ = some _ from H); subst e_) | subst H
       exact ret_memp [] (by decide) rfl (vs := [(bool ((x20.length : Int) == 0))]) rfl ⟨⟨_, [(bool ((x20.length : Int) == 0))], rfl, reads_box1 (i := 4) rfl rfl, .inr ⟨F_agg_4, rfl⟩⟩, trivial⟩ _ rfl ⟨rfl, rfl⟩
      ·rw [if_neg c12] at H
       refine ent_off rfl rfl rfl (eq_f c12) rfl rfl ?_
       refine ent_off rfl rfl rfl (eq_f c12) rfl rfl ?_
       refine ent_off rfl rfl rfl (eq_f c12) rfl rfl ?_
       refine ent_value (ov_pick rfl rfl rfl (pick_f (eq_f c12))) rfl rfl rfl ?_
       refine ent_value (ov_move rfl) rfl rfl rfl ?_
       refine ent_off rfl rfl rfl rfl rfl rfl ?_
       refine ent_off rfl rfl rfl rfl rfl rfl ?_
       refine ent_off rfl rfl rfl rfl rfl rfl ?_
       refine ent_off rfl rfl rfl rfl rfl rfl ?_
       refine ent_value (ov_pick rfl rfl rfl rfl) rfl rfl rfl ?_
       refine ent_op0 (ot_storeG (cs := [(bool false)]) (cs' := [(bool false)]) (us := [(bool false)]) (L' := [(box b20 30 [(int .i64 x17.1), (int .i64 x17.2.1), (int .i64 x17.2.2.1), (int .i64 x17.2.2.2.1), (int .i64 x17.2.2.2.2.1), (bool x17.2.2.2.2.2.1)]), (box b19 30 [(int .i64 x16.1), (int .i64 x16.2.1), (int .i64 x16.2.2.1), (int .i64 x16.2.2.2.1), (int .i64 x16.2.2.2.2.1), (bool x16.2.2.2.2.2.1)]), (box b15 23 [(int .i64 a1_0), (int .i64 a1_1)]), (box b16 4 [(bool false)])]) 3 rfl rfl rfl (one_all rfl) F_size_4 rfl rfl (by simp) rfl) rfl rfl ?_
       rintro _ _ rfl
       refine ent_nil ?_
       refine ent_retc ?_
       first | (have e_ := Option.some.inj (show some _ = some _ from H); subst e_) | subst H
       exact ret_memp [] (by decide) rfl (vs := [(bool false)]) rfl ⟨⟨_, [(bool false)], rfl, reads_box1 (i := 3) rfl rfl, .inr ⟨F_agg_4, rfl⟩⟩, trivial⟩ _ rfl ⟨rfl, rfl⟩
     ·rw [if_neg c11] at H
      refine ent_off rfl rfl rfl (Bool.eq_false_iff.2 c11) rfl rfl ?_
      refine ent_off rfl rfl rfl (Bool.eq_false_iff.2 c11) rfl rfl ?_
      refine ent_off rfl rfl rfl (Bool.eq_false_iff.2 c11) rfl rfl ?_
      refine ent_off rfl rfl rfl (Bool.eq_false_iff.2 c11) rfl rfl ?_
      refine ent_value (ov_pick rfl rfl rfl (pick_f (Bool.eq_false_iff.2 c11))) rfl rfl rfl ?_
      refine ent_value (ov_move rfl) rfl rfl rfl ?_
      refine ent_off rfl rfl rfl rfl rfl rfl ?_
      refine ent_off rfl rfl rfl rfl rfl rfl ?_
      refine ent_off rfl rfl rfl rfl rfl rfl ?_
      refine ent_value (ov_pick rfl rfl rfl rfl) rfl rfl rfl ?_
      refine ent_value (ov_move rfl) rfl rfl rfl ?_
      refine ent_off rfl rfl rfl rfl rfl rfl ?_
      refine ent_off rfl rfl rfl rfl rfl rfl ?_
      refine ent_off rfl rfl rfl rfl rfl rfl ?_
      refine ent_value (ov_pick rfl rfl rfl rfl) rfl rfl rfl ?_
      refine ent_value (ov_move rfl) rfl rfl rfl ?_
      refine ent_off rfl rfl rfl rfl rfl rfl ?_
      refine ent_off rfl rfl rfl rfl rfl rfl ?_
      refine ent_off rfl rfl rfl rfl rfl rfl ?_
      refine ent_off rfl rfl rfl rfl rfl rfl ?_
      refine ent_value (ov_pick rfl rfl rfl rfl) rfl rfl rfl ?_
      refine ent_op0 (ot_storeG (cs := [(bool false)]) (cs' := [(bool false)]) (us := [(bool false)]) (L' := [(box b20 30 [(int .i64 x17.1), (int .i64 x17.2.1), (int .i64 x17.2.2.1), (int .i64 x17.2.2.2.1), (int .i64 x17.2.2.2.2.1), (bool x17.2.2.2.2.2.1)]), (box b19 30 [(int .i64 x16.1), (int .i64 x16.2.1), (int .i64 x16.2.2.1), (int .i64 x16.2.2.2.1), (int .i64 x16.2.2.2.2.1), (bool x16.2.2.2.2.2.1)]), (box b15 23 [(int .i64 a1_0), (int .i64 a1_1)]), (box b16 4 [(bool false)])]) 3 rfl rfl rfl (one_all rfl) F_size_4 rfl rfl (by simp) rfl) rfl rfl ?_
      rintro _ _ rfl
      refine ent_nil ?_
      refine ent_retc ?_
      first | (have e_ := Option.some.inj (show some _ = some _ from H); subst e_) | subst H
      exact ret_memp [] (by decide) rfl (vs := [(bool false)]) rfl ⟨⟨_, [(bool false)], rfl, reads_box1 (i := 3) rfl rfl, .inr ⟨F_agg_4, rfl⟩⟩, trivial⟩ _ rfl ⟨rfl, rfl⟩
    ·rw [if_neg c10] at H
     refine ent_off rfl rfl rfl (Bool.eq_false_iff.2 c10) rfl rfl ?_
     refine ent_off rfl rfl rfl (Bool.eq_false_iff.2 c10) rfl rfl ?_
     refine ent_value (ov_pick rfl rfl rfl (pick_f (Bool.eq_false_iff.2 c10))) rfl rfl rfl ?_
     refine ent_value (ov_move rfl) rfl rfl rfl ?_
     refine ent_off rfl rfl rfl rfl rfl rfl ?_
     refine ent_off rfl rfl rfl rfl rfl rfl ?_
     refine ent_off rfl rfl rfl rfl rfl rfl ?_
     refine ent_off rfl rfl rfl rfl rfl rfl ?_
     refine ent_value (ov_pick rfl rfl rfl rfl) rfl rfl rfl ?_
     refine ent_value (ov_move rfl) rfl rfl rfl ?_
     refine ent_off rfl rfl rfl rfl rfl rfl ?_
     refine ent_off rfl rfl rfl rfl rfl rfl ?_
     refine ent_off rfl rfl rfl rfl rfl rfl ?_
     refine ent_value (ov_pick rfl rfl rfl rfl) rfl rfl rfl ?_
     refine ent_value (ov_move rfl) rfl rfl rfl ?_
     refine ent_off rfl rfl rfl rfl rfl rfl ?_
     refine ent_off rfl rfl rfl rfl rfl rfl ?_
     refine ent_off rfl rfl rfl rfl rfl rfl ?_
     refine ent_value (ov_pick rfl rfl rfl rfl) rfl rfl rfl ?_
     refine ent_value (ov_move rfl) rfl rfl rfl ?_
     refine ent_off rfl rfl rfl rfl rfl rfl ?_
     refine ent_off rfl rfl rfl rfl rfl rfl ?_
     refine ent_off rfl rfl rfl rfl rfl rfl ?_
     refine ent_off rfl rfl rfl rfl rfl rfl ?_
     refine ent_value (ov_pick rfl rfl rfl rfl) rfl rfl rfl ?_
     refine ent_op0 (ot_storeG (cs := [(bool false)]) (cs' := [(bool false)]) (us := [(bool false)]) (L' := [(box b20 30 [(int .i64 x17.1), (int .i64 x17.2.1), (int .i64 x17.2.2.1), (int .i64 x17.2.2.2.1), (int .i64 x17.2.2.2.2.1), (bool x17.2.2.2.2.2.1)]), (box b19 30 [(int .i64 x16.1), (int .i64 x16.2.1), (int .i64 x16.2.2.1), (int .i64 x16.2.2.2.1), (int .i64 x16.2.2.2.2.1), (bool x16.2.2.2.2.2.1)]), (box b15 23 [(int .i64 a1_0), (int .i64 a1_1)]), (box b16 4 [(bool false)])]) 3 rfl rfl rfl (one_all rfl) F_size_4 rfl rfl (by simp) rfl) rfl rfl ?_
     rintro _ _ rfl
     refine ent_nil ?_
     refine ent_retc ?_
     first | (have e_ := Option.some.inj (show some _ = some _ from H); subst e_) | subst H
     exact ret_memp [] (by decide) rfl (vs := [(bool false)]) rfl ⟨⟨_, [(bool false)], rfl, reads_box1 (i := 3) rfl rfl, .inr ⟨F_agg_4, rfl⟩⟩, trivial⟩ _ rfl ⟨rfl, rfl⟩
   ·rw [if_neg c9] at H
    refine ent_off rfl rfl rfl (eq_f c9) rfl rfl ?_
    refine ent_off rfl rfl rfl (eq_f c9) rfl rfl ?_
    refine ent_value (ov_pick rfl rfl rfl (pick_f (eq_f c9))) rfl rfl rfl ?_
    refine ent_value (ov_move rfl) rfl rfl rfl ?_
    refine ent_off rfl rfl rfl rfl rfl rfl ?_
    refine ent_off rfl rfl rfl rfl rfl rfl ?_
    refine ent_value (ov_pick rfl rfl rfl rfl) rfl rfl rfl ?_
    refine ent_value (ov_move rfl) rfl rfl rfl ?_
    refine ent_off rfl rfl rfl rfl rfl rfl ?_
    refine ent_off rfl rfl rfl rfl rfl rfl ?_
    refine ent_off rfl rfl rfl rfl rfl rfl ?_
    refine ent_off rfl rfl rfl rfl rfl rfl ?_
    refine ent_value (ov_pick rfl rfl rfl rfl) rfl rfl rfl ?_
    refine ent_value (ov_move rfl) rfl rfl rfl ?_
    refine ent_off rfl rfl rfl rfl rfl rfl ?_
    refine ent_off rfl rfl rfl rfl rfl rfl ?_
    refine ent_off rfl rfl rfl rfl rfl rfl ?_
    refine ent_value (ov_pick rfl rfl rfl rfl) rfl rfl rfl ?_
    refine ent_value (ov_move rfl) rfl rfl rfl ?_
    refine ent_off rfl rfl rfl rfl rfl rfl ?_
    refine ent_off rfl rfl rfl rfl rfl rfl ?_
    refine ent_off rfl rfl rfl rfl rfl rfl ?_
    refine ent_value (ov_pick rfl rfl rfl rfl) rfl rfl rfl ?_
    refine ent_value (ov_move rfl) rfl rfl rfl ?_
    refine ent_off rfl rfl rfl rfl rfl rfl ?_
    refine ent_off rfl rfl rfl rfl rfl rfl ?_
    refine ent_off rfl rfl rfl rfl rfl rfl ?_
    refine ent_off rfl rfl rfl rfl rfl rfl ?_
    refine ent_value (ov_pick rfl rfl rfl rfl) rfl rfl rfl ?_
    refine ent_op0 (ot_storeG (cs := [(bool false)]) (cs' := [(bool false)]) (us := [(bool false)]) (L' := [(box b20 30 [(int .i64 x17.1), (int .i64 x17.2.1), (int .i64 x17.2.2.1), (int .i64 x17.2.2.2.1), (int .i64 x17.2.2.2.2.1), (bool x17.2.2.2.2.2.1)]), (box b19 30 [(int .i64 x16.1), (int .i64 x16.2.1), (int .i64 x16.2.2.1), (int .i64 x16.2.2.2.1), (int .i64 x16.2.2.2.2.1), (bool x16.2.2.2.2.2.1)]), (box b15 23 [(int .i64 a1_0), (int .i64 a1_1)]), (box b16 4 [(bool false)])]) 3 rfl rfl rfl (one_all rfl) F_size_4 rfl rfl (by simp) rfl) rfl rfl ?_
    rintro _ _ rfl
    refine ent_nil ?_
    refine ent_retc ?_
    first | (have e_ := Option.some.inj (show some _ = some _ from H); subst e_) | subst H
    exact ret_memp [] (by decide) rfl (vs := [(bool false)]) rfl ⟨⟨_, [(bool false)], rfl, reads_box1 (i := 3) rfl rfl, .inr ⟨F_agg_4, rfl⟩⟩, trivial⟩ _ rfl ⟨rfl, rfl⟩

end Go.Proofs.Ytcpfjbfokghcnaa.CatalogNils
