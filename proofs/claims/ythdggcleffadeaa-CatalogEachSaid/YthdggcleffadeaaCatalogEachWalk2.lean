/- Printed by gen.py: that the machine's calls do what the plain functions of CatalogEach say. -/
import Derived.Test.YthdggcleffadeaaCatalogEachWalk1
import Derived.Test.YthdggcleffadeaaProg
import Derived.Test.YthdggcleffadeaaEInsert
import Derived.Test.YthdggcleffadeaaCatalogEachPure
set_option linter.unusedVariables false
set_option linter.unusedSimpArgs false
set_option maxHeartbeats 1000000
namespace Go.Proofs.Ythdggcleffadeaa.CatalogEach
open Go Go.RowKit E
open Go.Value (int bool slice agg)

set_option maxRecDepth 100000 in
theorem ossuarylaw20_alive.spec (K : Nat) (r : Bool) (H : ossuarylaw20_alive K = some r) : FnSpec Try.prog 22 [] [] (fun v M => v = (bool r) ∧ M = []) := by
 unfold ossuarylaw20_alive at H
 refine spec_of Try.func22 rfl 58 rfl (Nat.le_of_ble_eq_true rfl) fun F w0 => ?_
 show Ent (St 58 w0 F [] []) _
 refine ent_seq ?_
 refine ent_region ?_
 refine ent_value (ov_assign rfl) rfl rfl rfl ?_
 refine ent_nil ?_
 refine ent_seq ?_
 refine ent_region ?_
 obtain ⟨u2, h9, H⟩ := thn_elim H
 refine ent_op (ot_call (Lr := []) (first := []) (cap := []) (xs := []) rfl rfl F_call_23 rfl (catalog_New.spec _ h9) rfl) rfl rfl rfl ?_
 rintro _ _ ⟨_, ⟨b9, b10, rfl, rfl⟩, rfl⟩
 refine ent_value (ov_assign rfl) rfl rfl rfl ?_
 refine ent_nil ?_
 refine ent_seq ?_
 refine ent_region ?_
 obtain ⟨x8, h10, H⟩ := thn_elim H
 refine ent_op (ot_call0 (first := []) (cap := []) (xs := [.const (int .i64 1), .const (int .i64 5)]) rfl rfl F_call_80 rfl (ossuarylaw20_entry.spec 1 5 _ h10)) rfl rfl rfl ?_
 rintro _ _ ⟨rfl, rfl⟩
 refine ent_op (ot_alloc F_zero_65) rfl rfl rfl ?_
 rintro _ _ ⟨b11, rfl, rfl⟩
 refine ent_op0 (ot_storeG (cs := [(int .i64 0), (int .i64 0), (int .i64 0), (int .i64 0), (int .i64 0), (bool false)]) (cs' := [(int .i64 x8.1), (int .i64 x8.2.1), (int .i64 x8.2.2.1), (int .i64 x8.2.2.2.1), (int .i64 x8.2.2.2.2.1), (bool x8.2.2.2.2.2)]) (us := [(int .i64 x8.1), (int .i64 x8.2.1), (int .i64 x8.2.2.1), (int .i64 x8.2.2.2.1), (int .i64 x8.2.2.2.2.1), (bool x8.2.2.2.2.2)]) (L' := [(box b11 65 [(int .i64 x8.1), (int .i64 x8.2.1), (int .i64 x8.2.2.1), (int .i64 x8.2.2.2.1), (int .i64 x8.2.2.2.2.1), (bool x8.2.2.2.2.2)]), (box b9 139 [(pt b10 0)]), (box b10 192 [(slice none 0 0)])]) 0 rfl rfl rfl (one_all rfl) F_size_65 rfl rfl (by simp) rfl) rfl rfl ?_
 rintro _ _ rfl
 refine ent_nil ?_
 refine ent_seq ?_
 refine ent_region ?_
 obtain ⟨x9, h11, H⟩ := thn_elim H
 refine ent_op (ot_call0 (first := []) (cap := []) (xs := [.const (int .i64 2), .const (int .i64 0)]) rfl rfl F_call_80 rfl (ossuarylaw20_entry.spec 2 0 _ h11)) rfl rfl rfl ?_
 rintro _ _ ⟨rfl, rfl⟩
 refine ent_op (ot_alloc F_zero_65) rfl rfl rfl ?_
 rintro _ _ ⟨b12, rfl, rfl⟩
 refine ent_op0 (ot_storeG (cs := [(int .i64 0), (int .i64 0), (int .i64 0), (int .i64 0), (int .i64 0), (bool false)]) (cs' := [(int .i64 x9.1), (int .i64 x9.2.1), (int .i64 x9.2.2.1), (int .i64 x9.2.2.2.1), (int .i64 x9.2.2.2.2.1), (bool x9.2.2.2.2.2)]) (us := [(int .i64 x9.1), (int .i64 x9.2.1), (int .i64 x9.2.2.1), (int .i64 x9.2.2.2.1), (int .i64 x9.2.2.2.2.1), (bool x9.2.2.2.2.2)]) (L' := [(box b12 65 [(int .i64 x9.1), (int .i64 x9.2.1), (int .i64 x9.2.2.1), (int .i64 x9.2.2.2.1), (int .i64 x9.2.2.2.2.1), (bool x9.2.2.2.2.2)]), (box b11 65 [(int .i64 x8.1), (int .i64 x8.2.1), (int .i64 x8.2.2.1), (int .i64 x8.2.2.2.1), (int .i64 x8.2.2.2.2.1), (bool x8.2.2.2.2.2)]), (box b9 139 [(pt b10 0)]), (box b10 192 [(slice none 0 0)])]) 0 rfl rfl rfl (one_all rfl) F_size_65 rfl rfl (by simp) rfl) rfl rfl ?_
 rintro _ _ rfl
 refine ent_nil ?_
 refine ent_seq ?_
 refine ent_region ?_
 refine ent_value (ov_move rfl) rfl rfl rfl ?_
 refine ent_value (ov_load_agg (vs := [(int .i64 x8.1), (int .i64 x8.2.1), (int .i64 x8.2.2.1), (int .i64 x8.2.2.2.1), (int .i64 x8.2.2.2.2.1), (bool x8.2.2.2.2.2)]) rfl F_agg_65 F_size_65 (reads_boxW (i := 1) rfl)) rfl rfl rfl ?_
 refine ent_op (ot_buildSlice (sz := 5) (xs := [.tmp 13]) (cs := fl enc_Api_Entry [(⟨(⟨x8.1, x8.2.1⟩ : Api_Part), x8.2.2.1, x8.2.2.2.1, x8.2.2.2.2.1, x8.2.2.2.2.2⟩ : Api_Entry)]) rfl rfl F_slice_53 F_size_65 F_zero_65 rfl rfl (all_size rfl) rfl (by decide)) rfl rfl rfl ?_
 rintro sv8 _ rfl
 refine ent_value (ov_sl 0 rfl (isRd_ownx 65) fun hc0_ => (ov_build (is := [1]) (xs := [.tmp 14]) (vs := [sv8]) rfl rfl (build_struct (cs := [(slice none 0 0), sv8]) F_zero_59 F_places_59 (by simp [Instr.fill, cells_int, cells_bool, cells_str, cells_func, cells_slice, cells_ptr, cells_nilFunc, cells_agg, hc0_])))) rfl rfl rfl ?_
 obtain ⟨x10, h12, H⟩ := Option.bind_eq_some_iff.1 H
 refine ent_pick [3, 4, 0, 1, 2] (by decide) rfl ?_
 refine ent_op (ot_call (Lr := [(box b12 65 [(int .i64 x9.1), (int .i64 x9.2.1), (int .i64 x9.2.2.1), (int .i64 x9.2.2.2.1), (int .i64 x9.2.2.2.2.1), (bool x9.2.2.2.2.2)]), (box b11 65 [(int .i64 x8.1), (int .i64 x8.2.1), (int .i64 x8.2.2.1), (int .i64 x8.2.2.2.1), (int .i64 x8.2.2.2.2.1), (bool x8.2.2.2.2.2)])]) (first := []) (cap := []) (xs := [.tmp 12, .tmp 15]) rfl rfl F_call_25 rfl (catalog_Catalog_Apply_NNO.spec K b9 b10 sv8 [(⟨(⟨x8.1, x8.2.1⟩ : Api_Part), x8.2.2.1, x8.2.2.2.1, x8.2.2.2.2.1, x8.2.2.2.2.2⟩ : Api_Entry)] _ h12) rfl) rfl rfl rfl ?_
 rintro _ _ ⟨_, ⟨b13, sv9, rfl, rfl⟩, rfl⟩
 refine ent_value (ov_assign rfl) rfl rfl rfl ?_
 refine ent_nil ?_
 refine ent_seq ?_
 refine ent_region ?_
 refine ent_value (ov_move rfl) rfl rfl rfl ?_
 refine ent_value (ov_load_agg (vs := [(int .i64 x9.1), (int .i64 x9.2.1), (int .i64 x9.2.2.1), (int .i64 x9.2.2.2.1), (int .i64 x9.2.2.2.2.1), (bool x9.2.2.2.2.2)]) rfl F_agg_65 F_size_65 (reads_boxW (i := 4) rfl)) rfl rfl rfl ?_
 refine ent_op (ot_buildSlice (sz := 5) (xs := [.tmp 18]) (cs := fl enc_Api_Entry [(⟨(⟨x9.1, x9.2.1⟩ : Api_Part), x9.2.2.1, x9.2.2.2.1, x9.2.2.2.2.1, x9.2.2.2.2.2⟩ : Api_Entry)]) rfl rfl F_slice_53 F_size_65 F_zero_65 rfl rfl (all_size rfl) rfl (by decide)) rfl rfl rfl ?_
 rintro sv10 _ rfl
 refine ent_value (ov_sl 0 rfl (isRd_ownx 65) fun hc0_ => (ov_build (is := [1]) (xs := [.tmp 19]) (vs := [sv10]) rfl rfl (build_struct (cs := [(slice none 0 0), sv10]) F_zero_59 F_places_59 (by simp [Instr.fill, cells_int, cells_bool, cells_str, cells_func, cells_slice, cells_ptr, cells_nilFunc, cells_agg, hc0_])))) rfl rfl rfl ?_
 obtain ⟨x11, h13, H⟩ := Option.bind_eq_some_iff.1 H
 refine ent_pick [1, 2, 3, 0, 4, 5, 6] (by decide) rfl ?_
 refine ent_op (ot_call (Lr := [(own sv8 65 6 [(⟨(⟨x8.1, x8.2.1⟩ : Api_Part), x8.2.2.1, x8.2.2.2.1, x8.2.2.2.2.1, x8.2.2.2.2.2⟩ : Api_Entry)].length (fl enc_Api_Entry [(⟨(⟨x8.1, x8.2.1⟩ : Api_Part), x8.2.2.1, x8.2.2.2.1, x8.2.2.2.2.1, x8.2.2.2.2.2⟩ : Api_Entry)])), (box b12 65 [(int .i64 x9.1), (int .i64 x9.2.1), (int .i64 x9.2.2.1), (int .i64 x9.2.2.2.1), (int .i64 x9.2.2.2.2.1), (bool x9.2.2.2.2.2)]), (box b11 65 [(int .i64 x8.1), (int .i64 x8.2.1), (int .i64 x8.2.2.1), (int .i64 x8.2.2.2.1), (int .i64 x8.2.2.2.2.1), (bool x8.2.2.2.2.2)])]) (first := []) (cap := []) (xs := [.tmp 17, .tmp 20]) rfl rfl F_call_25 rfl (catalog_Catalog_Apply_ONO.spec K b9 b13 sv9 sv10 x10.2 [(⟨(⟨x9.1, x9.2.1⟩ : Api_Part), x9.2.2.1, x9.2.2.2.1, x9.2.2.2.2.1, x9.2.2.2.2.2⟩ : Api_Entry)] _ h13) rfl) rfl rfl rfl ?_
 rintro _ _ ⟨_, ⟨b14, sv11, rfl, rfl⟩, rfl⟩
 refine ent_value (ov_assign rfl) rfl rfl rfl ?_
 refine ent_nil ?_
 refine ent_seq ?_
 refine ent_region ?_
 refine ent_value (ov_move rfl) rfl rfl rfl ?_
 refine ent_value (ov_fieldAddr (sz := 1) (o := 0) rfl F_field_65_0 F_size_63) rfl rfl rfl ?_
 refine ent_value (ov_load_agg (vs := [(int .i64 x8.1), (int .i64 x8.2.1)]) rfl F_agg_63 F_size_63 (reads_boxN (i := 6) rfl rfl)) rfl rfl rfl ?_
 refine ent_op (ot_buildSlice (sz := 1) (xs := [.tmp 24]) (cs := fl enc_Api_Part [(⟨x8.1, x8.2.1⟩ : Api_Part)]) rfl rfl F_slice_56 F_size_63 F_zero_63 rfl rfl (all_size rfl) rfl (by decide)) rfl rfl rfl ?_
 rintro sv12 _ rfl
 refine ent_value (ov_load_agg (vs := [(int .i64 x9.1), (int .i64 x9.2.1), (int .i64 x9.2.2.1), (int .i64 x9.2.2.2.1), (int .i64 x9.2.2.2.2.1), (bool x9.2.2.2.2.2)]) rfl F_agg_65 F_size_65 (reads_boxW (i := 6) rfl)) rfl rfl rfl ?_
 refine ent_op (ot_buildSlice (sz := 5) (xs := [.tmp 26]) (cs := fl enc_Api_Entry [(⟨(⟨x9.1, x9.2.1⟩ : Api_Part), x9.2.2.1, x9.2.2.2.1, x9.2.2.2.2.1, x9.2.2.2.2.2⟩ : Api_Entry)]) rfl rfl F_slice_53 F_size_65 F_zero_65 rfl rfl (all_size rfl) rfl (by decide)) rfl rfl rfl ?_
 rintro sv13 _ rfl
 refine ent_value (ov_sl 0 rfl (isRd_ownx 65) fun hc1_ => (ov_sl 1 rfl (isRd_ownx 63) fun hc0_ => (ov_build (is := [0, 1]) (xs := [.tmp 25, .tmp 27]) (vs := [sv12, sv13]) rfl rfl (build_struct (cs := [sv12, sv13]) F_zero_59 F_places_59 (by simp [Instr.fill, cells_int, cells_bool, cells_str, cells_func, cells_slice, cells_ptr, cells_nilFunc, cells_agg, hc0_, hc1_]))))) rfl rfl rfl ?_
 obtain ⟨x12, h14, H⟩ := Option.bind_eq_some_iff.1 H
 refine ent_pick [2, 3, 4, 1, 0, 5, 6, 7, 8] (by decide) rfl ?_
 refine ent_op (ot_call (Lr := [(own sv10 65 6 [(⟨(⟨x9.1, x9.2.1⟩ : Api_Part), x9.2.2.1, x9.2.2.2.1, x9.2.2.2.2.1, x9.2.2.2.2.2⟩ : Api_Entry)].length (fl enc_Api_Entry [(⟨(⟨x9.1, x9.2.1⟩ : Api_Part), x9.2.2.1, x9.2.2.2.1, x9.2.2.2.2.1, x9.2.2.2.2.2⟩ : Api_Entry)])), (own sv8 65 6 [(⟨(⟨x8.1, x8.2.1⟩ : Api_Part), x8.2.2.1, x8.2.2.2.1, x8.2.2.2.2.1, x8.2.2.2.2.2⟩ : Api_Entry)].length (fl enc_Api_Entry [(⟨(⟨x8.1, x8.2.1⟩ : Api_Part), x8.2.2.1, x8.2.2.2.1, x8.2.2.2.2.1, x8.2.2.2.2.2⟩ : Api_Entry)])), (box b12 65 [(int .i64 x9.1), (int .i64 x9.2.1), (int .i64 x9.2.2.1), (int .i64 x9.2.2.2.1), (int .i64 x9.2.2.2.2.1), (bool x9.2.2.2.2.2)]), (box b11 65 [(int .i64 x8.1), (int .i64 x8.2.1), (int .i64 x8.2.2.1), (int .i64 x8.2.2.2.1), (int .i64 x8.2.2.2.2.1), (bool x8.2.2.2.2.2)])]) (first := []) (cap := []) (xs := [.tmp 22, .tmp 28]) rfl rfl F_call_25 rfl (catalog_Catalog_Apply_OOO.spec K b9 b14 sv11 sv12 sv13 x11.2 [(⟨x8.1, x8.2.1⟩ : Api_Part)] [(⟨(⟨x9.1, x9.2.1⟩ : Api_Part), x9.2.2.1, x9.2.2.2.1, x9.2.2.2.2.1, x9.2.2.2.2.2⟩ : Api_Entry)] _ h14) rfl) rfl rfl rfl ?_
 rintro _ _ ⟨_, ⟨b15, sv14, rfl, rfl⟩, rfl⟩
 refine ent_value (ov_assign rfl) rfl rfl rfl ?_
 refine ent_nil ?_
 refine ent_seq ?_
 refine ent_region ?_
 refine ent_value (ov_move rfl) rfl rfl rfl ?_
 obtain ⟨x13, h15, H⟩ := Option.bind_eq_some_iff.1 H
 refine ent_op (ot_call_same (Lr := [(own sv12 63 2 [(⟨x8.1, x8.2.1⟩ : Api_Part)].length (fl enc_Api_Part [(⟨x8.1, x8.2.1⟩ : Api_Part)])), (own sv13 65 6 [(⟨(⟨x9.1, x9.2.1⟩ : Api_Part), x9.2.2.1, x9.2.2.2.1, x9.2.2.2.2.1, x9.2.2.2.2.2⟩ : Api_Entry)].length (fl enc_Api_Entry [(⟨(⟨x9.1, x9.2.1⟩ : Api_Part), x9.2.2.1, x9.2.2.2.1, x9.2.2.2.2.1, x9.2.2.2.2.2⟩ : Api_Entry)])), (own sv10 65 6 [(⟨(⟨x9.1, x9.2.1⟩ : Api_Part), x9.2.2.1, x9.2.2.2.1, x9.2.2.2.2.1, x9.2.2.2.2.2⟩ : Api_Entry)].length (fl enc_Api_Entry [(⟨(⟨x9.1, x9.2.1⟩ : Api_Part), x9.2.2.1, x9.2.2.2.1, x9.2.2.2.2.1, x9.2.2.2.2.2⟩ : Api_Entry)])), (own sv8 65 6 [(⟨(⟨x8.1, x8.2.1⟩ : Api_Part), x8.2.2.1, x8.2.2.2.1, x8.2.2.2.2.1, x8.2.2.2.2.2⟩ : Api_Entry)].length (fl enc_Api_Entry [(⟨(⟨x8.1, x8.2.1⟩ : Api_Part), x8.2.2.1, x8.2.2.2.1, x8.2.2.2.2.1, x8.2.2.2.2.2⟩ : Api_Entry)])), (box b12 65 [(int .i64 x9.1), (int .i64 x9.2.1), (int .i64 x9.2.2.1), (int .i64 x9.2.2.2.1), (int .i64 x9.2.2.2.2.1), (bool x9.2.2.2.2.2)]), (box b11 65 [(int .i64 x8.1), (int .i64 x8.2.1), (int .i64 x8.2.2.1), (int .i64 x8.2.2.2.1), (int .i64 x8.2.2.2.2.1), (bool x8.2.2.2.2.2)])]) [0, 1, 2, 3, 4, 5, 6, 7, 8] [0, 1, 2, 3, 4, 5, 6, 7, 8] (first := []) (cap := []) (xs := [.tmp 31, .const (int .i64 7)]) rfl rfl F_call_28 rfl (catalog_Catalog_At_O.spec K b9 b15 sv14 x12.2 7 _ h15) (by decide) rfl (by decide) rfl) rfl rfl rfl ?_
 rintro _ _ ⟨rfl, rfl⟩
 refine ent_value (ov_move rfl) rfl rfl rfl ?_
 refine ent_value (ov_extract rfl rfl) rfl rfl rfl ?_
 refine ent_value (ov_extract rfl rfl) rfl rfl rfl ?_
 refine ent_op (ot_alloc F_zero_65) rfl rfl rfl ?_
 rintro _ _ ⟨b16, rfl, rfl⟩
 refine ent_op0 (ot_storeG (cs := [(int .i64 0), (int .i64 0), (int .i64 0), (int .i64 0), (int .i64 0), (bool false)]) (cs' := [(int .i64 x13.1), (int .i64 x13.2.1), (int .i64 x13.2.2.1), (int .i64 x13.2.2.2.1), (int .i64 x13.2.2.2.2.1), (bool x13.2.2.2.2.2.1)]) (us := [(int .i64 x13.1), (int .i64 x13.2.1), (int .i64 x13.2.2.1), (int .i64 x13.2.2.2.1), (int .i64 x13.2.2.2.2.1), (bool x13.2.2.2.2.2.1)]) (L' := [(box b16 65 [(int .i64 x13.1), (int .i64 x13.2.1), (int .i64 x13.2.2.1), (int .i64 x13.2.2.2.1), (int .i64 x13.2.2.2.2.1), (bool x13.2.2.2.2.2.1)]), (box b9 139 [(pt b15 0)]), (box b15 192 [sv14]), (own sv14 196 7 x12.2.length (fl enc_Omap_pair__int64__api_Entry x12.2)), (own sv12 63 2 [(⟨x8.1, x8.2.1⟩ : Api_Part)].length (fl enc_Api_Part [(⟨x8.1, x8.2.1⟩ : Api_Part)])), (own sv13 65 6 [(⟨(⟨x9.1, x9.2.1⟩ : Api_Part), x9.2.2.1, x9.2.2.2.1, x9.2.2.2.2.1, x9.2.2.2.2.2⟩ : Api_Entry)].length (fl enc_Api_Entry [(⟨(⟨x9.1, x9.2.1⟩ : Api_Part), x9.2.2.1, x9.2.2.2.1, x9.2.2.2.2.1, x9.2.2.2.2.2⟩ : Api_Entry)])), (own sv10 65 6 [(⟨(⟨x9.1, x9.2.1⟩ : Api_Part), x9.2.2.1, x9.2.2.2.1, x9.2.2.2.2.1, x9.2.2.2.2.2⟩ : Api_Entry)].length (fl enc_Api_Entry [(⟨(⟨x9.1, x9.2.1⟩ : Api_Part), x9.2.2.1, x9.2.2.2.1, x9.2.2.2.2.1, x9.2.2.2.2.2⟩ : Api_Entry)])), (own sv8 65 6 [(⟨(⟨x8.1, x8.2.1⟩ : Api_Part), x8.2.2.1, x8.2.2.2.1, x8.2.2.2.2.1, x8.2.2.2.2.2⟩ : Api_Entry)].length (fl enc_Api_Entry [(⟨(⟨x8.1, x8.2.1⟩ : Api_Part), x8.2.2.1, x8.2.2.2.1, x8.2.2.2.2.1, x8.2.2.2.2.2⟩ : Api_Entry)])), (box b12 65 [(int .i64 x9.1), (int .i64 x9.2.1), (int .i64 x9.2.2.1), (int .i64 x9.2.2.2.1), (int .i64 x9.2.2.2.2.1), (bool x9.2.2.2.2.2)]), (box b11 65 [(int .i64 x8.1), (int .i64 x8.2.1), (int .i64 x8.2.2.1), (int .i64 x8.2.2.2.1), (int .i64 x8.2.2.2.2.1), (bool x8.2.2.2.2.2)])]) 0 rfl rfl rfl (one_all rfl) F_size_65 rfl rfl (by simp) rfl) rfl rfl ?_
 rintro _ _ rfl
 refine ent_value (ov_assign rfl) rfl rfl rfl ?_
 refine ent_nil ?_
 refine ent_seq ?_
 refine ent_region ?_
 refine ent_value (ov_move rfl) rfl rfl rfl ?_
 refine ent_value (ov_bin rfl rfl (b_eql _ _ _)) rfl rfl rfl ?_
 refine ent_value (ov_move rfl) rfl rfl rfl ?_
 by_cases c6 : x10.1 = 0
 ·rw [if_pos c6] at H
  refine ent_value_on (ov_move rfl) rfl rfl rfl (eq_t c6) rfl rfl ?_
  refine ent_value_on (ov_bin rfl rfl (b_eql _ _ _)) rfl rfl rfl (eq_t c6) rfl rfl ?_
  refine ent_value (ov_pick rfl rfl rfl (pick_t (eq_t c6))) rfl rfl rfl ?_
  refine ent_value (ov_move rfl) rfl rfl rfl ?_
  by_cases c7 : x11.1 = 12
  ·rw [if_pos c7] at H
   refine ent_value_on (ov_move rfl) rfl rfl rfl (eq_t c7) rfl rfl ?_
   refine ent_value_on (ov_bin rfl rfl (b_eql _ _ _)) rfl rfl rfl (eq_t c7) rfl rfl ?_
   refine ent_value (ov_pick rfl rfl rfl (pick_t (eq_t c7))) rfl rfl rfl ?_
   refine ent_value (ov_move rfl) rfl rfl rfl ?_
   by_cases c8 : x12.1 = 0
   ·rw [if_pos c8] at H
    refine ent_value_on (ov_move rfl) rfl rfl rfl (eq_t c8) rfl rfl ?_
    refine ent_value (ov_pick rfl rfl rfl (pick_t (eq_t c8))) rfl rfl rfl ?_
    refine ent_value (ov_move rfl) rfl rfl rfl ?_
    by_cases c9 : x13.2.2.2.2.2.2 = true
    ·rw [if_pos c9] at H
     refine ent_value_on (ov_load_agg (vs := [(int .i64 x13.1), (int .i64 x13.2.1), (int .i64 x13.2.2.1), (int .i64 x13.2.2.2.1), (int .i64 x13.2.2.2.2.1), (bool x13.2.2.2.2.2.1)]) rfl F_agg_65 F_size_65 (reads_boxW (i := 0) rfl)) rfl rfl rfl c9 rfl rfl ?_
     refine ent_value_on (ov_load_agg (vs := [(int .i64 x9.1), (int .i64 x9.2.1), (int .i64 x9.2.2.1), (int .i64 x9.2.2.2.1), (int .i64 x9.2.2.2.2.1), (bool x9.2.2.2.2.2)]) rfl F_agg_65 F_size_65 (reads_boxW (i := 8) rfl)) rfl rfl rfl c9 rfl rfl ?_
     refine ent_value_on (ov_bin rfl rfl (same_65 _ _ _ _ _ _ _ _ _ _ _ _)) rfl rfl rfl c9 rfl rfl ?_
     refine ent_value (ov_pick rfl rfl rfl (pick_t c9)) rfl rfl rfl ?_
     refine ent_value (ov_move rfl) rfl rfl rfl ?_
     by_cases c10 : (((x13.1 == x9.1) && ((x13.2.1 == x9.2.1) && true)) && ((x13.2.2.1 == x9.2.2.1) && ((x13.2.2.2.1 == x9.2.2.2.1) && ((x13.2.2.2.2.1 == x9.2.2.2.2.1) && ((x13.2.2.2.2.2.1 == x9.2.2.2.2.2) && true))))) = true
     ·rw [if_pos c10] at H
      refine ent_value_on (ov_move rfl) rfl rfl rfl c10 rfl rfl ?_
      obtain ⟨x14, h16, H⟩ := thn_elim H
      refine ent_op_on (ot_call_same (Lr := [(box b16 65 [(int .i64 x13.1), (int .i64 x13.2.1), (int .i64 x13.2.2.1), (int .i64 x13.2.2.2.1), (int .i64 x13.2.2.2.2.1), (bool x13.2.2.2.2.2.1)]), (own sv12 63 2 [(⟨x8.1, x8.2.1⟩ : Api_Part)].length (fl enc_Api_Part [(⟨x8.1, x8.2.1⟩ : Api_Part)])), (own sv13 65 6 [(⟨(⟨x9.1, x9.2.1⟩ : Api_Part), x9.2.2.1, x9.2.2.2.1, x9.2.2.2.2.1, x9.2.2.2.2.2⟩ : Api_Entry)].length (fl enc_Api_Entry [(⟨(⟨x9.1, x9.2.1⟩ : Api_Part), x9.2.2.1, x9.2.2.2.1, x9.2.2.2.2.1, x9.2.2.2.2.2⟩ : Api_Entry)])), (own sv10 65 6 [(⟨(⟨x9.1, x9.2.1⟩ : Api_Part), x9.2.2.1, x9.2.2.2.1, x9.2.2.2.2.1, x9.2.2.2.2.2⟩ : Api_Entry)].length (fl enc_Api_Entry [(⟨(⟨x9.1, x9.2.1⟩ : Api_Part), x9.2.2.1, x9.2.2.2.1, x9.2.2.2.2.1, x9.2.2.2.2.2⟩ : Api_Entry)])), (own sv8 65 6 [(⟨(⟨x8.1, x8.2.1⟩ : Api_Part), x8.2.2.1, x8.2.2.2.1, x8.2.2.2.2.1, x8.2.2.2.2.2⟩ : Api_Entry)].length (fl enc_Api_Entry [(⟨(⟨x8.1, x8.2.1⟩ : Api_Part), x8.2.2.1, x8.2.2.2.1, x8.2.2.2.2.1, x8.2.2.2.2.2⟩ : Api_Entry)])), (box b12 65 [(int .i64 x9.1), (int .i64 x9.2.1), (int .i64 x9.2.2.1), (int .i64 x9.2.2.2.1), (int .i64 x9.2.2.2.2.1), (bool x9.2.2.2.2.2)]), (box b11 65 [(int .i64 x8.1), (int .i64 x8.2.1), (int .i64 x8.2.2.1), (int .i64 x8.2.2.2.1), (int .i64 x8.2.2.2.2.1), (bool x8.2.2.2.2.2)])]) [1, 2, 3, 0, 4, 5, 6, 7, 8, 9] [3, 0, 1, 2, 4, 5, 6, 7, 8, 9] (first := []) (cap := []) (xs := [.tmp 54]) rfl rfl F_call_37 rfl (catalog_Catalog_Len_O.spec b9 b15 sv14 x12.2 _ h16) (by decide) rfl (by decide) rfl) rfl rfl rfl c10 rfl rfl ?_
      rintro _ _ ⟨rfl, rfl⟩
      refine ent_value_on (ov_bin rfl rfl (b_eql _ _ _)) rfl rfl rfl c10 rfl rfl ?_
      refine ent_value (ov_pick rfl rfl rfl (pick_t c10)) rfl rfl rfl ?_
      refine ent_value (ov_assign rfl) rfl rfl rfl ?_
      refine ent_nil ?_
      refine ent_retc ?_
      cases H
      refine ent_pick [] (by decide) rfl ?_
      exact ret_tmp rfl rfl ⟨rfl, rfl⟩
     ·rw [if_neg c10] at H
      refine ent_off rfl rfl rfl (Bool.eq_false_iff.2 c10) rfl rfl ?_
      refine ent_off rfl rfl rfl (Bool.eq_false_iff.2 c10) rfl rfl ?_
      refine ent_off rfl rfl rfl (Bool.eq_false_iff.2 c10) rfl rfl ?_
      refine ent_value (ov_pick rfl rfl rfl (pick_f (Bool.eq_false_iff.2 c10))) rfl rfl rfl ?_
      refine ent_value (ov_assign rfl) rfl rfl rfl ?_
      refine ent_nil ?_
      refine ent_retc ?_
      cases H
      refine ent_pick [] (by decide) rfl ?_
      exact ret_tmp rfl rfl ⟨rfl, rfl⟩
    ·rw [if_neg c9] at H
     refine ent_off rfl rfl rfl (Bool.eq_false_iff.2 c9) rfl rfl ?_
     refine ent_off rfl rfl rfl (Bool.eq_false_iff.2 c9) rfl rfl ?_
     refine ent_off rfl rfl rfl (Bool.eq_false_iff.2 c9) rfl rfl ?_
     refine ent_value (ov_pick rfl rfl rfl (pick_f (Bool.eq_false_iff.2 c9))) rfl rfl rfl ?_
     refine ent_value (ov_move rfl) rfl rfl rfl ?_
     refine ent_off rfl rfl rfl rfl rfl rfl ?_
     refine ent_off rfl rfl rfl rfl rfl rfl ?_
     refine ent_off rfl rfl rfl rfl rfl rfl ?_
     refine ent_value (ov_pick rfl rfl rfl rfl) rfl rfl rfl ?_
     refine ent_value (ov_assign rfl) rfl rfl rfl ?_
     refine ent_nil ?_
     refine ent_retc ?_
     cases H
     refine ent_pick [] (by decide) rfl ?_
     exact ret_tmp rfl rfl ⟨rfl, rfl⟩
   ·rw [if_neg c8] at H
    refine ent_off rfl rfl rfl (eq_f c8) rfl rfl ?_
    refine ent_value (ov_pick rfl rfl rfl (pick_f (eq_f c8))) rfl rfl rfl ?_
    refine ent_value (ov_move rfl) rfl rfl rfl ?_
    refine ent_off rfl rfl rfl rfl rfl rfl ?_
    refine ent_off rfl rfl rfl rfl rfl rfl ?_
    refine ent_off rfl rfl rfl rfl rfl rfl ?_
    refine ent_value (ov_pick rfl rfl rfl rfl) rfl rfl rfl ?_
    refine ent_value (ov_move rfl) rfl rfl rfl ?_
    refine ent_off rfl rfl rfl rfl rfl rfl ?_
    refine ent_off rfl rfl rfl rfl rfl rfl ?_
    refine ent_off rfl rfl rfl rfl rfl rfl ?_
    refine ent_value (ov_pick rfl rfl rfl rfl) rfl rfl rfl ?_
    refine ent_value (ov_assign rfl) rfl rfl rfl ?_
    refine ent_nil ?_
    refine ent_retc ?_
    cases H
    refine ent_pick [] (by decide) rfl ?_
    exact ret_tmp rfl rfl ⟨rfl, rfl⟩
  ·rw [if_neg c7] at H
   refine ent_off rfl rfl rfl (eq_f c7) rfl rfl ?_
   refine ent_off rfl rfl rfl (eq_f c7) rfl rfl ?_
   refine ent_value (ov_pick rfl rfl rfl (pick_f (eq_f c7))) rfl rfl rfl ?_
   refine ent_value (ov_move rfl) rfl rfl rfl ?_
   refine ent_off rfl rfl rfl rfl rfl rfl ?_
   refine ent_value (ov_pick rfl rfl rfl rfl) rfl rfl rfl ?_
   refine ent_value (ov_move rfl) rfl rfl rfl ?_
   refine ent_off rfl rfl rfl rfl rfl rfl ?_
   refine ent_off rfl rfl rfl rfl rfl rfl ?_
   refine ent_off rfl rfl rfl rfl rfl rfl ?_
   refine ent_value (ov_pick rfl rfl rfl rfl) rfl rfl rfl ?_
   refine ent_value (ov_move rfl) rfl rfl rfl ?_
   refine ent_off rfl rfl rfl rfl rfl rfl ?_
   refine ent_off rfl rfl rfl rfl rfl rfl ?_
   refine ent_off rfl rfl rfl rfl rfl rfl ?_
   refine ent_value (ov_pick rfl rfl rfl rfl) rfl rfl rfl ?_
   refine ent_value (ov_assign rfl) rfl rfl rfl ?_
   refine ent_nil ?_
   refine ent_retc ?_
   cases H
   refine ent_pick [] (by decide) rfl ?_
   exact ret_tmp rfl rfl ⟨rfl, rfl⟩
 ·rw [if_neg c6] at H
  refine ent_off rfl rfl rfl (eq_f c6) rfl rfl ?_
  refine ent_off rfl rfl rfl (eq_f c6) rfl rfl ?_
  refine ent_value (ov_pick rfl rfl rfl (pick_f (eq_f c6))) rfl rfl rfl ?_
  refine ent_value (ov_move rfl) rfl rfl rfl ?_
  refine ent_off rfl rfl rfl rfl rfl rfl ?_
  refine ent_off rfl rfl rfl rfl rfl rfl ?_
  refine ent_value (ov_pick rfl rfl rfl rfl) rfl rfl rfl ?_
  refine ent_value (ov_move rfl) rfl rfl rfl ?_
  refine ent_off rfl rfl rfl rfl rfl rfl ?_
  refine ent_value (ov_pick rfl rfl rfl rfl) rfl rfl rfl ?_
  refine ent_value (ov_move rfl) rfl rfl rfl ?_
  refine ent_off rfl rfl rfl rfl rfl rfl ?_
  refine ent_off rfl rfl rfl rfl rfl rfl ?_
  refine ent_off rfl rfl rfl rfl rfl rfl ?_
  refine ent_value (ov_pick rfl rfl rfl rfl) rfl rfl rfl ?_
  refine ent_value (ov_move rfl) rfl rfl rfl ?_
  refine ent_off rfl rfl rfl rfl rfl rfl ?_
  refine ent_off rfl rfl rfl rfl rfl rfl ?_
  refine ent_off rfl rfl rfl rfl rfl rfl ?_
  refine ent_value (ov_pick rfl rfl rfl rfl) rfl rfl rfl ?_
  refine ent_value (ov_assign rfl) rfl rfl rfl ?_
  refine ent_nil ?_
  refine ent_retc ?_
  cases H
  refine ent_pick [] (by decide) rfl ?_
  exact ret_tmp rfl rfl ⟨rfl, rfl⟩

set_option maxRecDepth 100000 in
theorem ossuarylaw20_light_R.spec (K : Nat) (sv0 : Value) (A0 : HP) (l0 : List Ossuarylaw20_Act) (hA0 : IsRd A0 sv0 l0.length 2 (fl enc_Ossuarylaw20_Act l0)) (hJ0 : ∀ x ∈ l0, IsRd A0 x.Drop.v x.Drop.xs.length 2 (fl enc_Api_Part x.Drop.xs) ∧ IsRd A0 x.Put.v x.Put.xs.length 6 (fl enc_Api_Entry x.Put.xs)) (r : Bool) (H : ossuarylaw20_light_R K l0 = some r) : FnSpec Try.prog 21 [sv0] [A0] (fun v M => v = (bool r) ∧ M = [A0]) := by
 unfold ossuarylaw20_light_R at H
 refine spec_of Try.func21 rfl 29 rfl (Nat.le_of_ble_eq_true rfl) fun F w0 => ?_
 show Ent (St 29 w0 F [(0, sv0)] [A0]) _
 refine ent_seq ?_
 refine ent_region ?_
 refine ent_value (ov_assign rfl) rfl rfl rfl ?_
 refine ent_nil ?_
 refine ent_seq ?_
 refine ent_seq ?_
 refine ent_region ?_
 refine ent_value (ov_move rfl) rfl rfl rfl ?_
 refine ent_value (ov_len 0 rfl F_slice_49 rfl hA0) rfl rfl rfl ?_
 refine ent_value (ov_bin rfl rfl (b_gtr _ _ _)) rfl rfl rfl ?_
 refine ent_nil ?_
 by_cases c48 : 40 < (l0.length : Int)
 ·rw [if_pos c48] at H
  refine ent_cond_true rfl (decide_eq_true c48) ?_
  refine ent_seq ?_
  refine ent_region ?_
  refine ent_value (ov_assign rfl) rfl rfl rfl ?_
  refine ent_nil ?_
  refine ent_retc ?_
  cases H
  refine ent_pick [0] (by decide) rfl ?_
  exact ret_tmp rfl rfl ⟨rfl, rfl⟩
 ·rw [if_neg c48] at H
  refine ent_cond_false rfl (decide_eq_false c48) ?_
  refine ent_skip ?_
  refine ent_seq ?_
  refine ent_seq ?_
  refine ent_region ?_
  refine ent_value (ov_assign rfl) rfl rfl rfl ?_
  refine ent_nil ?_
  refine ent_block ?_
  refine ent_loop (fun k a w => ∃ i4, ossuarylaw20_light_R_l0 K l0 k i4 = some r ∧ St 29 w0 F [(0, sv0), (3, (int .i64 i4))] [A0] a w) K ?_ ?_
  ·exact ent_fin [0] (by decide) rfl (sub_cons (t := 0) rfl (sub_cons (t := 3) rfl (sub_nil _))) fun a w h => ⟨_, H, h⟩
  ·refine fun k => ent_exi fun i4 => ent_and fun H4 => ?_
   cases k with
   | zero => exact absurd H4 (by simp [ossuarylaw20_light_R_l0])
   | succ k =>
    rw [ossuarylaw20_light_R_l0] at H4
    refine ent_seq ?_
    refine ent_seq ?_
    refine ent_region ?_
    refine ent_value (ov_move rfl) rfl rfl rfl ?_
    refine ent_value (ov_move rfl) rfl rfl rfl ?_
    refine ent_value (ov_len 0 rfl F_slice_49 rfl hA0) rfl rfl rfl ?_
    refine ent_value (ov_bin rfl rfl (b_lss _ _ _)) rfl rfl rfl ?_
    refine ent_nil ?_
    by_cases c86 : i4 < (l0.length : Int)
    ·rw [if_pos c86] at H4
     refine ent_cond_true rfl (decide_eq_true c86) ?_
     refine ent_skip ?_
     refine ent_seq ?_
     refine ent_block ?_
     refine ent_seq ?_
     refine ent_region ?_
     refine ent_value (ov_move rfl) rfl rfl rfl ?_
     refine ent_value (ov_move rfl) rfl rfl rfl ?_
     by_cases c90 : 0 ≤ i4
     ·rw [if_pos c90] at H4
      refine ent_value (ov_indexAddr (sz := 1) 0 rfl rfl F_slice_49 F_size_58 rfl hA0 c90 c86) rfl rfl rfl ?_
      refine ent_value (ov_fieldAddrE (sz := 0) (k0 := i4.toNat * 2) (off := 0) 0 rfl F_field_58_0 F_size_56 rfl hA0 (fl_pos enc_Ossuarylaw20_Act_len (ix_lt c90 c86))) rfl rfl rfl ?_
      refine ent_value (ov_load (v := ((l0.getD i4.toNat z_Ossuarylaw20_Act).Drop).v) rfl F_agg_56 (reads_rd (i := 0) rfl hA0 (by simp) (fl_read (off := 0) enc_Ossuarylaw20_Act_len (ix_lt c90 c86) rfl))) rfl rfl rfl ?_
      refine ent_value (ov_len 0 rfl F_slice_56 rfl (hJ0 _ (getD_mem_ z_Ossuarylaw20_Act (ix_lt c90 c86))).1) rfl rfl rfl ?_
      refine ent_value (ov_bin rfl rfl (b_gtr _ _ _)) rfl rfl rfl ?_
      refine ent_value (ov_move rfl) rfl rfl rfl ?_
      by_cases c91 : 30 < ((((l0.getD i4.toNat z_Ossuarylaw20_Act).Drop).xs).length : Int)
      ·rw [if_pos c91] at H4
       refine ent_off rfl rfl rfl (decide_eq_true c91) rfl rfl ?_
       refine ent_off rfl rfl rfl (decide_eq_true c91) rfl rfl ?_
       refine ent_off rfl rfl rfl (decide_eq_true c91) rfl rfl ?_
       refine ent_off rfl rfl rfl (decide_eq_true c91) rfl rfl ?_
       refine ent_off rfl rfl rfl (decide_eq_true c91) rfl rfl ?_
       refine ent_off rfl rfl rfl (decide_eq_true c91) rfl rfl ?_
       refine ent_off rfl rfl rfl (decide_eq_true c91) rfl rfl ?_
       refine ent_value (ov_pick rfl rfl rfl (pick_t (decide_eq_true c91))) rfl rfl rfl ?_
       refine ent_nil ?_
       refine ent_cond_true rfl rfl ?_
       refine ent_seq ?_
       refine ent_region ?_
       refine ent_value (ov_assign rfl) rfl rfl rfl ?_
       refine ent_nil ?_
       refine ent_retc ?_
       cases H4
       refine ent_pick [0] (by decide) rfl ?_
       exact ret_tmp rfl rfl ⟨rfl, rfl⟩
      ·rw [if_neg c91] at H4
       refine ent_value_on (ov_move rfl) rfl rfl rfl (decide_eq_false c91) rfl rfl ?_
       refine ent_value_on (ov_move rfl) rfl rfl rfl (decide_eq_false c91) rfl rfl ?_
       refine ent_value_on (ov_indexAddr (sz := 1) 0 rfl rfl F_slice_49 F_size_58 rfl hA0 c90 c86) rfl rfl rfl (decide_eq_false c91) rfl rfl ?_
       refine ent_value_on (ov_fieldAddrE (sz := 0) (k0 := i4.toNat * 2) (off := 1) 0 rfl F_field_58_1 F_size_53 rfl hA0 (fl_pos enc_Ossuarylaw20_Act_len (ix_lt c90 c86))) rfl rfl rfl (decide_eq_false c91) rfl rfl ?_
       refine ent_value_on (ov_load (v := ((l0.getD i4.toNat z_Ossuarylaw20_Act).Put).v) rfl F_agg_53 (reads_rd (i := 0) rfl hA0 (by simp) (fl_read (off := 1) enc_Ossuarylaw20_Act_len (ix_lt c90 c86) rfl))) rfl rfl rfl (decide_eq_false c91) rfl rfl ?_
       refine ent_value_on (ov_len 0 rfl F_slice_53 rfl (hJ0 _ (getD_mem_ z_Ossuarylaw20_Act (ix_lt c90 c86))).2) rfl rfl rfl (decide_eq_false c91) rfl rfl ?_
       refine ent_value_on (ov_bin rfl rfl (b_gtr _ _ _)) rfl rfl rfl (decide_eq_false c91) rfl rfl ?_
       refine ent_value (ov_pick rfl rfl rfl (pick_f (decide_eq_false c91))) rfl rfl rfl ?_
       refine ent_nil ?_
       by_cases c92 : 30 < ((((l0.getD i4.toNat z_Ossuarylaw20_Act).Put).xs).length : Int)
       ·rw [if_pos c92] at H4
        refine ent_cond_true rfl (decide_eq_true c92) ?_
        refine ent_seq ?_
        refine ent_region ?_
        refine ent_value (ov_assign rfl) rfl rfl rfl ?_
        refine ent_nil ?_
        refine ent_retc ?_
        cases H4
        refine ent_pick [0] (by decide) rfl ?_
        exact ret_tmp rfl rfl ⟨rfl, rfl⟩
       ·rw [if_neg c92] at H4
        refine ent_cond_false rfl (decide_eq_false c92) ?_
        refine ent_skip ?_
        refine ent_region ?_
        refine ent_value (ov_move rfl) rfl rfl rfl ?_
        refine ent_value (ov_bin rfl rfl (b_add _ _ _) ) rfl rfl rfl ?_
        refine ent_value (ov_assign rfl) rfl rfl rfl ?_
        refine ent_nil ?_
        exact ent_fin [0] (by decide) rfl (sub_cons (t := 0) rfl (sub_cons (t := 3) rfl (sub_nil _))) fun a w h => ⟨k, Nat.lt_succ_self k, _, H4, h⟩
     ·rw [if_neg c90] at H4
      cases H4
    ·rw [if_neg c86] at H4
     refine ent_cond_false rfl (decide_eq_false c86) ?_
     refine ent_exit ?_
     refine ent_seq ?_
     refine ent_region ?_
     refine ent_value (ov_assign rfl) rfl rfl rfl ?_
     refine ent_nil ?_
     refine ent_retc ?_
     cases H4
     refine ent_pick [0] (by decide) rfl ?_
     exact ret_tmp rfl rfl ⟨rfl, rfl⟩

set_option maxRecDepth 100000 in
theorem ossuarylaw20_light_R_2.spec (K : Nat) (sv0 : Value) (A0 : HP) (B0 : HP) (l0 : List Ossuarylaw20_Act) (hA0 : IsRd A0 sv0 l0.length 2 (fl enc_Ossuarylaw20_Act l0)) (hJ0 : ∀ x ∈ l0, IsRd B0 x.Drop.v x.Drop.xs.length 2 (fl enc_Api_Part x.Drop.xs) ∧ IsRd B0 x.Put.v x.Put.xs.length 6 (fl enc_Api_Entry x.Put.xs)) (r : Bool) (H : ossuarylaw20_light_R_2 K l0 = some r) : FnSpec Try.prog 21 [sv0] [A0, B0] (fun v M => v = (bool r) ∧ M = [A0, B0]) := by
 unfold ossuarylaw20_light_R_2 at H
 refine spec_of Try.func21 rfl 29 rfl (Nat.le_of_ble_eq_true rfl) fun F w0 => ?_
 show Ent (St 29 w0 F [(0, sv0)] [A0, B0]) _
 refine ent_seq ?_
 refine ent_region ?_
 refine ent_value (ov_assign rfl) rfl rfl rfl ?_
 refine ent_nil ?_
 refine ent_seq ?_
 refine ent_seq ?_
 refine ent_region ?_
 refine ent_value (ov_move rfl) rfl rfl rfl ?_
 refine ent_value (ov_len 0 rfl F_slice_49 rfl hA0) rfl rfl rfl ?_
 refine ent_value (ov_bin rfl rfl (b_gtr _ _ _)) rfl rfl rfl ?_
 refine ent_nil ?_
 by_cases c48 : 40 < (l0.length : Int)
 ·rw [if_pos c48] at H
  refine ent_cond_true rfl (decide_eq_true c48) ?_
  refine ent_seq ?_
  refine ent_region ?_
  refine ent_value (ov_assign rfl) rfl rfl rfl ?_
  refine ent_nil ?_
  refine ent_retc ?_
  cases H
  refine ent_pick [0, 1] (by decide) rfl ?_
  exact ret_tmp rfl rfl ⟨rfl, rfl⟩
 ·rw [if_neg c48] at H
  refine ent_cond_false rfl (decide_eq_false c48) ?_
  refine ent_skip ?_
  refine ent_seq ?_
  refine ent_seq ?_
  refine ent_region ?_
  refine ent_value (ov_assign rfl) rfl rfl rfl ?_
  refine ent_nil ?_
  refine ent_block ?_
  refine ent_loop (fun k a w => ∃ i4, ossuarylaw20_light_R_2_l0 K l0 k i4 = some r ∧ St 29 w0 F [(0, sv0), (3, (int .i64 i4))] [A0, B0] a w) K ?_ ?_
  ·exact ent_fin [0, 1] (by decide) rfl (sub_cons (t := 0) rfl (sub_cons (t := 3) rfl (sub_nil _))) fun a w h => ⟨_, H, h⟩
  ·refine fun k => ent_exi fun i4 => ent_and fun H4 => ?_
   cases k with
   | zero => exact absurd H4 (by simp [ossuarylaw20_light_R_2_l0])
   | succ k =>
    rw [ossuarylaw20_light_R_2_l0] at H4
    refine ent_seq ?_
    refine ent_seq ?_
    refine ent_region ?_
    refine ent_value (ov_move rfl) rfl rfl rfl ?_
    refine ent_value (ov_move rfl) rfl rfl rfl ?_
    refine ent_value (ov_len 0 rfl F_slice_49 rfl hA0) rfl rfl rfl ?_
    refine ent_value (ov_bin rfl rfl (b_lss _ _ _)) rfl rfl rfl ?_
    refine ent_nil ?_
    by_cases c86 : i4 < (l0.length : Int)
    ·rw [if_pos c86] at H4
     refine ent_cond_true rfl (decide_eq_true c86) ?_
     refine ent_skip ?_
     refine ent_seq ?_
     refine ent_block ?_
     refine ent_seq ?_
     refine ent_region ?_
     refine ent_value (ov_move rfl) rfl rfl rfl ?_
     refine ent_value (ov_move rfl) rfl rfl rfl ?_
     by_cases c90 : 0 ≤ i4
     ·rw [if_pos c90] at H4
      refine ent_value (ov_indexAddr (sz := 1) 0 rfl rfl F_slice_49 F_size_58 rfl hA0 c90 c86) rfl rfl rfl ?_
      refine ent_value (ov_fieldAddrE (sz := 0) (k0 := i4.toNat * 2) (off := 0) 0 rfl F_field_58_0 F_size_56 rfl hA0 (fl_pos enc_Ossuarylaw20_Act_len (ix_lt c90 c86))) rfl rfl rfl ?_
      refine ent_value (ov_load (v := ((l0.getD i4.toNat z_Ossuarylaw20_Act).Drop).v) rfl F_agg_56 (reads_rd (i := 0) rfl hA0 (by simp) (fl_read (off := 0) enc_Ossuarylaw20_Act_len (ix_lt c90 c86) rfl))) rfl rfl rfl ?_
      refine ent_value (ov_len 1 rfl F_slice_56 rfl (hJ0 _ (getD_mem_ z_Ossuarylaw20_Act (ix_lt c90 c86))).1) rfl rfl rfl ?_
      refine ent_value (ov_bin rfl rfl (b_gtr _ _ _)) rfl rfl rfl ?_
      refine ent_value (ov_move rfl) rfl rfl rfl ?_
      by_cases c91 : 30 < ((((l0.getD i4.toNat z_Ossuarylaw20_Act).Drop).xs).length : Int)
      ·rw [if_pos c91] at H4
       refine ent_off rfl rfl rfl (decide_eq_true c91) rfl rfl ?_
       refine ent_off rfl rfl rfl (decide_eq_true c91) rfl rfl ?_
       refine ent_off rfl rfl rfl (decide_eq_true c91) rfl rfl ?_
       refine ent_off rfl rfl rfl (decide_eq_true c91) rfl rfl ?_
       refine ent_off rfl rfl rfl (decide_eq_true c91) rfl rfl ?_
       refine ent_off rfl rfl rfl (decide_eq_true c91) rfl rfl ?_
       refine ent_off rfl rfl rfl (decide_eq_true c91) rfl rfl ?_
       refine ent_value (ov_pick rfl rfl rfl (pick_t (decide_eq_true c91))) rfl rfl rfl ?_
       refine ent_nil ?_
       refine ent_cond_true rfl rfl ?_
       refine ent_seq ?_
       refine ent_region ?_
       refine ent_value (ov_assign rfl) rfl rfl rfl ?_
       refine ent_nil ?_
       refine ent_retc ?_
       cases H4
       refine ent_pick [0, 1] (by decide) rfl ?_
       exact ret_tmp rfl rfl ⟨rfl, rfl⟩
      ·rw [if_neg c91] at H4
       refine ent_value_on (ov_move rfl) rfl rfl rfl (decide_eq_false c91) rfl rfl ?_
       refine ent_value_on (ov_move rfl) rfl rfl rfl (decide_eq_false c91) rfl rfl ?_
       refine ent_value_on (ov_indexAddr (sz := 1) 0 rfl rfl F_slice_49 F_size_58 rfl hA0 c90 c86) rfl rfl rfl (decide_eq_false c91) rfl rfl ?_
       refine ent_value_on (ov_fieldAddrE (sz := 0) (k0 := i4.toNat * 2) (off := 1) 0 rfl F_field_58_1 F_size_53 rfl hA0 (fl_pos enc_Ossuarylaw20_Act_len (ix_lt c90 c86))) rfl rfl rfl (decide_eq_false c91) rfl rfl ?_
       refine ent_value_on (ov_load (v := ((l0.getD i4.toNat z_Ossuarylaw20_Act).Put).v) rfl F_agg_53 (reads_rd (i := 0) rfl hA0 (by simp) (fl_read (off := 1) enc_Ossuarylaw20_Act_len (ix_lt c90 c86) rfl))) rfl rfl rfl (decide_eq_false c91) rfl rfl ?_
       refine ent_value_on (ov_len 1 rfl F_slice_53 rfl (hJ0 _ (getD_mem_ z_Ossuarylaw20_Act (ix_lt c90 c86))).2) rfl rfl rfl (decide_eq_false c91) rfl rfl ?_
       refine ent_value_on (ov_bin rfl rfl (b_gtr _ _ _)) rfl rfl rfl (decide_eq_false c91) rfl rfl ?_
       refine ent_value (ov_pick rfl rfl rfl (pick_f (decide_eq_false c91))) rfl rfl rfl ?_
       refine ent_nil ?_
       by_cases c92 : 30 < ((((l0.getD i4.toNat z_Ossuarylaw20_Act).Put).xs).length : Int)
       ·rw [if_pos c92] at H4
        refine ent_cond_true rfl (decide_eq_true c92) ?_
        refine ent_seq ?_
        refine ent_region ?_
        refine ent_value (ov_assign rfl) rfl rfl rfl ?_
        refine ent_nil ?_
        refine ent_retc ?_
        cases H4
        refine ent_pick [0, 1] (by decide) rfl ?_
        exact ret_tmp rfl rfl ⟨rfl, rfl⟩
       ·rw [if_neg c92] at H4
        refine ent_cond_false rfl (decide_eq_false c92) ?_
        refine ent_skip ?_
        refine ent_region ?_
        refine ent_value (ov_move rfl) rfl rfl rfl ?_
        refine ent_value (ov_bin rfl rfl (b_add _ _ _) ) rfl rfl rfl ?_
        refine ent_value (ov_assign rfl) rfl rfl rfl ?_
        refine ent_nil ?_
        exact ent_fin [0, 1] (by decide) rfl (sub_cons (t := 0) rfl (sub_cons (t := 3) rfl (sub_nil _))) fun a w h => ⟨k, Nat.lt_succ_self k, _, H4, h⟩
     ·rw [if_neg c90] at H4
      cases H4
    ·rw [if_neg c86] at H4
     refine ent_cond_false rfl (decide_eq_false c86) ?_
     refine ent_exit ?_
     refine ent_seq ?_
     refine ent_region ?_
     refine ent_value (ov_assign rfl) rfl rfl rfl ?_
     refine ent_nil ?_
     refine ent_retc ?_
     cases H4
     refine ent_pick [0, 1] (by decide) rfl ?_
     exact ret_tmp rfl rfl ⟨rfl, rfl⟩

set_option maxRecDepth 100000 in
theorem ossuaryref04_Leap.spec (a0 : Int) (r : Bool) (H : ossuaryref04_Leap a0 = r) : FnSpec Try.prog 211 [(int .i64 a0)] [] (fun v M => v = (bool r) ∧ M = []) := by
 unfold ossuaryref04_Leap at H
 refine spec_of Try.func211 rfl 16 rfl (Nat.le_of_ble_eq_true rfl) fun F w0 => ?_
 show Ent (St 16 w0 F [(0, (int .i64 a0))] []) _
 refine ent_seq ?_
 refine ent_region ?_
 refine ent_value (ov_assign rfl) rfl rfl rfl ?_
 refine ent_nil ?_
 refine ent_seq ?_
 refine ent_region ?_
 refine ent_value (ov_move rfl) rfl rfl rfl ?_
 refine ent_value (ov_bin rfl rfl fun w => b_rem _ _ _ w (by decide)) rfl rfl rfl ?_
 refine ent_value (ov_bin rfl rfl (b_eql _ _ _)) rfl rfl rfl ?_
 refine ent_value (ov_move rfl) rfl rfl rfl ?_
 by_cases c3 : (Int.tmod a0 4) = 0
 ·rw [if_pos c3] at H
  refine ent_value_on (ov_move rfl) rfl rfl rfl (eq_t c3) rfl rfl ?_
  refine ent_value_on (ov_bin rfl rfl fun w => b_rem _ _ _ w (by decide)) rfl rfl rfl (eq_t c3) rfl rfl ?_
  refine ent_value_on (ov_bin rfl rfl (b_neq _ _ _)) rfl rfl rfl (eq_t c3) rfl rfl ?_
  refine ent_value_on (ov_move rfl) rfl rfl rfl (eq_t c3) rfl rfl ?_
  by_cases c4 : ¬ ((Int.tmod a0 100) = 0)
  ·rw [if_pos c4] at H
   refine ent_off rfl rfl rfl (ne_t c4) rfl rfl ?_
   refine ent_off rfl rfl rfl (ne_t c4) rfl rfl ?_
   refine ent_off rfl rfl rfl (ne_t c4) rfl rfl ?_
   refine ent_value_on (ov_pick rfl rfl rfl (pick_t (ne_t c4))) rfl rfl rfl (eq_t c3) rfl rfl ?_
   refine ent_value (ov_pick rfl rfl rfl (pick_t (eq_t c3))) rfl rfl rfl ?_
   refine ent_value (ov_assign rfl) rfl rfl rfl ?_
   refine ent_nil ?_
   refine ent_retc ?_
   cases H
   refine ent_pick [] (by decide) rfl ?_
   exact ret_tmp rfl rfl ⟨rfl, rfl⟩
  ·rw [if_neg c4] at H
   refine ent_value_on (ov_move rfl) rfl rfl rfl (ne_f c4) rfl rfl ?_
   refine ent_value_on (ov_bin rfl rfl fun w => b_rem _ _ _ w (by decide)) rfl rfl rfl (ne_f c4) rfl rfl ?_
   refine ent_value_on (ov_bin rfl rfl (b_eql _ _ _)) rfl rfl rfl (ne_f c4) rfl rfl ?_
   refine ent_value_on (ov_pick rfl rfl rfl (pick_f (ne_f c4))) rfl rfl rfl (eq_t c3) rfl rfl ?_
   refine ent_value (ov_pick rfl rfl rfl (pick_t (eq_t c3))) rfl rfl rfl ?_
   refine ent_value (ov_assign rfl) rfl rfl rfl ?_
   refine ent_nil ?_
   refine ent_retc ?_
   cases H
   refine ent_pick [] (by decide) rfl ?_
   exact ret_tmp rfl rfl ⟨rfl, rfl⟩
 ·rw [if_neg c3] at H
  refine ent_off rfl rfl rfl (eq_f c3) rfl rfl ?_
  refine ent_off rfl rfl rfl (eq_f c3) rfl rfl ?_
  refine ent_off rfl rfl rfl (eq_f c3) rfl rfl ?_
  refine ent_off rfl rfl rfl (eq_f c3) rfl rfl ?_
  refine ent_offu rfl rfl rfl rfl rfl ?_
  refine ent_offu rfl rfl rfl rfl rfl ?_
  refine ent_offu rfl rfl rfl rfl rfl ?_
  refine ent_off rfl rfl rfl (eq_f c3) rfl rfl ?_
  refine ent_value (ov_pick rfl rfl rfl (pick_f (eq_f c3))) rfl rfl rfl ?_
  refine ent_value (ov_assign rfl) rfl rfl rfl ?_
  refine ent_nil ?_
  refine ent_retc ?_
  cases H
  refine ent_pick [] (by decide) rfl ?_
  exact ret_tmp rfl rfl ⟨rfl, rfl⟩

set_option maxRecDepth 100000 in
theorem ossuaryref04_days.spec (a0 : Int) (r : Int) (H : ossuaryref04_days a0 = r) : FnSpec Try.prog 210 [(int .i64 a0)] [] (fun v M => v = (int .i64 r) ∧ M = []) := by
 unfold ossuaryref04_days at H
 refine spec_of Try.func210 rfl 5 rfl (Nat.le_of_ble_eq_true rfl) fun F w0 => ?_
 show Ent (St 5 w0 F [(0, (int .i64 a0))] []) _
 refine ent_seq ?_
 refine ent_region ?_
 refine ent_value (ov_assign rfl) rfl rfl rfl ?_
 refine ent_nil ?_
 refine ent_seq ?_
 refine ent_seq ?_
 refine ent_region ?_
 refine ent_value (ov_move rfl) rfl rfl rfl ?_
 obtain ⟨x4, h4, H⟩ := thn_elim H
 refine ent_op (ot_call0 (first := []) (cap := []) (xs := [.tmp 3]) rfl rfl F_call_211 rfl (ossuaryref04_Leap.spec a0 _ h4)) rfl rfl rfl ?_
 rintro _ _ ⟨rfl, rfl⟩
 refine ent_nil ?_
 by_cases c4 : x4 = true
 ·rw [if_pos c4] at H
  refine ent_cond_true rfl c4 ?_
  refine ent_seq ?_
  refine ent_region ?_
  refine ent_value (ov_assign rfl) rfl rfl rfl ?_
  refine ent_nil ?_
  refine ent_retc ?_
  cases H
  refine ent_pick [] (by decide) rfl ?_
  exact ret_tmp rfl rfl ⟨rfl, rfl⟩
 ·rw [if_neg c4] at H
  refine ent_cond_false rfl (Bool.eq_false_iff.2 c4) ?_
  refine ent_skip ?_
  refine ent_seq ?_
  refine ent_region ?_
  refine ent_value (ov_assign rfl) rfl rfl rfl ?_
  refine ent_nil ?_
  refine ent_retc ?_
  cases H
  refine ent_pick [] (by decide) rfl ?_
  exact ret_tmp rfl rfl ⟨rfl, rfl⟩

set_option maxRecDepth 100000 in
theorem ossuaryref04_Length.spec (a0 : Int) (a1 : Int) (r : Int) (H : ossuaryref04_Length a0 a1 = r) : FnSpec Try.prog 172 [(int .i64 a0), (int .i64 a1)] [] (fun v M => v = (int .i64 r) ∧ M = []) := by
 unfold ossuaryref04_Length at H
 refine spec_of Try.func172 rfl 23 rfl (Nat.le_of_ble_eq_true rfl) fun F w0 => ?_
 show Ent (St 23 w0 F [(0, (int .i64 a0)), (1, (int .i64 a1))] []) _
 refine ent_seq ?_
 refine ent_region ?_
 refine ent_value (ov_assign rfl) rfl rfl rfl ?_
 refine ent_nil ?_
 refine ent_seq ?_
 refine ent_seq ?_
 refine ent_region ?_
 refine ent_value (ov_move rfl) rfl rfl rfl ?_
 refine ent_nil ?_
 refine ent_block ?_
 refine ent_seq ?_
 refine ent_region ?_
 refine ent_value (ov_bin rfl rfl (b_eql _ _ _)) rfl rfl rfl ?_
 refine ent_value (ov_assign rfl) rfl rfl rfl ?_
 refine ent_nil ?_
 by_cases c70 : a1 = 2
 ·rw [if_pos c70] at H
  refine ent_cond_true rfl (eq_t c70) ?_
  refine ent_seq ?_
  refine ent_seq ?_
  refine ent_region ?_
  refine ent_value (ov_move rfl) rfl rfl rfl ?_
  obtain ⟨x14, h8, H⟩ := thn_elim H
  refine ent_op (ot_call0 (first := []) (cap := []) (xs := [.tmp 8]) rfl rfl F_call_211 rfl (ossuaryref04_Leap.spec a0 _ h8)) rfl rfl rfl ?_
  rintro _ _ ⟨rfl, rfl⟩
  refine ent_nil ?_
  by_cases c72 : x14 = true
  ·rw [if_pos c72] at H
   refine ent_cond_true rfl c72 ?_
   refine ent_seq ?_
   refine ent_region ?_
   refine ent_value (ov_assign rfl) rfl rfl rfl ?_
   refine ent_nil ?_
   refine ent_retc ?_
   cases H
   refine ent_pick [] (by decide) rfl ?_
   exact ret_tmp rfl rfl ⟨rfl, rfl⟩
  ·rw [if_neg c72] at H
   refine ent_cond_false rfl (Bool.eq_false_iff.2 c72) ?_
   refine ent_skip ?_
   refine ent_seq ?_
   refine ent_region ?_
   refine ent_value (ov_assign rfl) rfl rfl rfl ?_
   refine ent_nil ?_
   refine ent_retc ?_
   cases H
   refine ent_pick [] (by decide) rfl ?_
   exact ret_tmp rfl rfl ⟨rfl, rfl⟩
 ·rw [if_neg c70] at H
  refine ent_cond_false rfl (eq_f c70) ?_
  obtain ⟨x15, H7, H⟩ := thn_elim H
  refine ent_seq_cut (fun a w => St 23 w0 F [(5, (int .i64 a1)), (10, (bool x15))] [] a w) ?_ ?_
  ·refine ent_seq ?_
   refine ent_region ?_
   refine ent_value (ov_bin rfl rfl (b_eql _ _ _)) rfl rfl rfl ?_
   refine ent_value (ov_assign rfl) rfl rfl rfl ?_
   refine ent_nil ?_
   by_cases c76 : a1 = 4
   ·rw [if_pos c76] at H7
    refine ent_cond_true rfl (eq_t c76) ?_
    refine ent_skip ?_
    cases H7
    exact ent_fin [] (by decide) rfl (sub_cons (t := 5) rfl (sub_cons (t := 10) rfl (sub_nil _))) fun a w h => h
   ·rw [if_neg c76] at H7
    refine ent_cond_false rfl (eq_f c76) ?_
    refine ent_seq ?_
    refine ent_region ?_
    refine ent_value (ov_bin rfl rfl (b_eql _ _ _)) rfl rfl rfl ?_
    refine ent_value (ov_assign rfl) rfl rfl rfl ?_
    refine ent_nil ?_
    by_cases c77 : a1 = 6
    ·rw [if_pos c77] at H7
     refine ent_cond_true rfl (eq_t c77) ?_
     refine ent_skip ?_
     cases H7
     exact ent_fin [] (by decide) rfl (sub_cons (t := 5) rfl (sub_cons (t := 10) rfl (sub_nil _))) fun a w h => h
    ·rw [if_neg c77] at H7
     refine ent_cond_false rfl (eq_f c77) ?_
     refine ent_seq ?_
     refine ent_region ?_
     refine ent_value (ov_bin rfl rfl (b_eql _ _ _)) rfl rfl rfl ?_
     refine ent_value (ov_assign rfl) rfl rfl rfl ?_
     refine ent_nil ?_
     by_cases c78 : a1 = 9
     ·rw [if_pos c78] at H7
      refine ent_cond_true rfl (eq_t c78) ?_
      refine ent_skip ?_
      cases H7
      exact ent_fin [] (by decide) rfl (sub_cons (t := 5) rfl (sub_cons (t := 10) rfl (sub_nil _))) fun a w h => h
     ·rw [if_neg c78] at H7
      refine ent_cond_false rfl (eq_f c78) ?_
      refine ent_region ?_
      refine ent_value (ov_bin rfl rfl (b_eql _ _ _)) rfl rfl rfl ?_
      refine ent_value (ov_assign rfl) rfl rfl rfl ?_
      refine ent_nil ?_
      cases H7
      exact ent_fin [] (by decide) rfl (sub_cons (t := 5) rfl (sub_cons (t := 10) rfl (sub_nil _))) fun a w h => h
  ·by_cases c79 : x15 = true
   ·rw [if_pos c79] at H
    refine ent_cond_true rfl c79 ?_
    refine ent_seq ?_
    refine ent_region ?_
    refine ent_value (ov_assign rfl) rfl rfl rfl ?_
    refine ent_nil ?_
    refine ent_retc ?_
    cases H
    refine ent_pick [] (by decide) rfl ?_
    exact ret_tmp rfl rfl ⟨rfl, rfl⟩
   ·rw [if_neg c79] at H
    refine ent_cond_false rfl (Bool.eq_false_iff.2 c79) ?_
    obtain ⟨x16, H8, H⟩ := thn_elim H
    refine ent_seq_cut (fun a w => St 23 w0 F [(15, (bool x16))] [] a w) ?_ ?_
    ·refine ent_seq ?_
     refine ent_region ?_
     refine ent_value (ov_bin rfl rfl (b_eql _ _ _)) rfl rfl rfl ?_
     refine ent_value (ov_assign rfl) rfl rfl rfl ?_
     refine ent_nil ?_
     by_cases c86 : a1 = 1
     ·rw [if_pos c86] at H8
      refine ent_cond_true rfl (eq_t c86) ?_
      refine ent_skip ?_
      cases H8
      exact ent_fin [] (by decide) rfl (sub_cons (t := 15) rfl (sub_nil _)) fun a w h => h
     ·rw [if_neg c86] at H8
      refine ent_cond_false rfl (eq_f c86) ?_
      refine ent_seq ?_
      refine ent_region ?_
      refine ent_value (ov_bin rfl rfl (b_eql _ _ _)) rfl rfl rfl ?_
      refine ent_value (ov_assign rfl) rfl rfl rfl ?_
      refine ent_nil ?_
      by_cases c87 : a1 = 3
      ·rw [if_pos c87] at H8
       refine ent_cond_true rfl (eq_t c87) ?_
       refine ent_skip ?_
       cases H8
       exact ent_fin [] (by decide) rfl (sub_cons (t := 15) rfl (sub_nil _)) fun a w h => h
      ·rw [if_neg c87] at H8
       refine ent_cond_false rfl (eq_f c87) ?_
       refine ent_seq ?_
       refine ent_region ?_
       refine ent_value (ov_bin rfl rfl (b_eql _ _ _)) rfl rfl rfl ?_
       refine ent_value (ov_assign rfl) rfl rfl rfl ?_
       refine ent_nil ?_
       by_cases c88 : a1 = 5
       ·rw [if_pos c88] at H8
        refine ent_cond_true rfl (eq_t c88) ?_
        refine ent_skip ?_
        cases H8
        exact ent_fin [] (by decide) rfl (sub_cons (t := 15) rfl (sub_nil _)) fun a w h => h
       ·rw [if_neg c88] at H8
        refine ent_cond_false rfl (eq_f c88) ?_
        refine ent_seq ?_
        refine ent_region ?_
        refine ent_value (ov_bin rfl rfl (b_eql _ _ _)) rfl rfl rfl ?_
        refine ent_value (ov_assign rfl) rfl rfl rfl ?_
        refine ent_nil ?_
        by_cases c89 : a1 = 7
        ·rw [if_pos c89] at H8
         refine ent_cond_true rfl (eq_t c89) ?_
         refine ent_skip ?_
         cases H8
         exact ent_fin [] (by decide) rfl (sub_cons (t := 15) rfl (sub_nil _)) fun a w h => h
        ·rw [if_neg c89] at H8
         refine ent_cond_false rfl (eq_f c89) ?_
         refine ent_seq ?_
         refine ent_region ?_
         refine ent_value (ov_bin rfl rfl (b_eql _ _ _)) rfl rfl rfl ?_
         refine ent_value (ov_assign rfl) rfl rfl rfl ?_
         refine ent_nil ?_
         by_cases c90 : a1 = 8
         ·rw [if_pos c90] at H8
          refine ent_cond_true rfl (eq_t c90) ?_
          refine ent_skip ?_
          cases H8
          exact ent_fin [] (by decide) rfl (sub_cons (t := 15) rfl (sub_nil _)) fun a w h => h
         ·rw [if_neg c90] at H8
          refine ent_cond_false rfl (eq_f c90) ?_
          refine ent_seq ?_
          refine ent_region ?_
          refine ent_value (ov_bin rfl rfl (b_eql _ _ _)) rfl rfl rfl ?_
          refine ent_value (ov_assign rfl) rfl rfl rfl ?_
          refine ent_nil ?_
          by_cases c91 : a1 = 10
          ·rw [if_pos c91] at H8
           refine ent_cond_true rfl (eq_t c91) ?_
           refine ent_skip ?_
           cases H8
           exact ent_fin [] (by decide) rfl (sub_cons (t := 15) rfl (sub_nil _)) fun a w h => h
          ·rw [if_neg c91] at H8
           refine ent_cond_false rfl (eq_f c91) ?_
           refine ent_region ?_
           refine ent_value (ov_bin rfl rfl (b_eql _ _ _)) rfl rfl rfl ?_
           refine ent_value (ov_assign rfl) rfl rfl rfl ?_
           refine ent_nil ?_
           cases H8
           exact ent_fin [] (by decide) rfl (sub_cons (t := 15) rfl (sub_nil _)) fun a w h => h
    ·by_cases c92 : x16 = true
     ·rw [if_pos c92] at H
      refine ent_cond_true rfl c92 ?_
      refine ent_seq ?_
      refine ent_region ?_
      refine ent_value (ov_assign rfl) rfl rfl rfl ?_
      refine ent_nil ?_
      refine ent_retc ?_
      cases H
      refine ent_pick [] (by decide) rfl ?_
      exact ret_tmp rfl rfl ⟨rfl, rfl⟩
     ·rw [if_neg c92] at H
      refine ent_cond_false rfl (Bool.eq_false_iff.2 c92) ?_
      refine ent_skip ?_
      refine ent_seq ?_
      refine ent_region ?_
      refine ent_value (ov_assign rfl) rfl rfl rfl ?_
      refine ent_nil ?_
      refine ent_retc ?_
      cases H
      refine ent_pick [] (by decide) rfl ?_
      exact ret_tmp rfl rfl ⟨rfl, rfl⟩

set_option maxRecDepth 100000 in
theorem ossuaryref04_Date.spec (K : Nat) (a0 : Int) (r : (Int × Int × Int)) (H : ossuaryref04_Date K a0 = some r) : FnSpec Try.prog 228 [(int .i64 a0)] [] (fun v M => v = (Value.tuple #[(int .i64 r.1), (int .i64 r.2.1), (int .i64 r.2.2)]) ∧ M = []) := by
 unfold ossuaryref04_Date at H
 refine spec_of Try.func228 rfl 41 rfl (Nat.le_of_ble_eq_true rfl) fun F w0 => ?_
 show Ent (St 41 w0 F [(0, (int .i64 a0))] []) _
 refine ent_seq ?_
 refine ent_region ?_
 refine ent_value (ov_assign rfl) rfl rfl rfl ?_
 refine ent_value (ov_assign rfl) rfl rfl rfl ?_
 refine ent_value (ov_assign rfl) rfl rfl rfl ?_
 refine ent_nil ?_
 refine ent_seq ?_
 refine ent_region ?_
 refine ent_value (ov_assign rfl) rfl rfl rfl ?_
 refine ent_nil ?_
 obtain ⟨x48, H8, H⟩ := Option.bind_eq_some_iff.1 H
 refine ent_seq_cut (fun a w => St 41 w0 F [(0, (int .i64 x48.1)), (5, (int .i64 x48.2))] [] a w) ?_ ?_
 ·refine ent_block ?_
  refine ent_loop (fun k a w => ∃ i17, ∃ i18, ossuaryref04_Date_l0 K k i17 i18 = some x48 ∧ St 41 w0 F [(0, (int .i64 i17)), (5, (int .i64 i18))] [] a w) K ?_ ?_
  ·exact ent_fin [] (by decide) rfl (sub_cons (t := 0) rfl (sub_cons (t := 5) rfl (sub_nil _))) fun a w h => ⟨_, _, H8, h⟩
  ·refine fun k => ent_exi fun i17 => ent_exi fun i18 => ent_and fun H9 => ?_
   cases k with
   | zero => exact absurd H9 (by simp [ossuaryref04_Date_l0])
   | succ k =>
    rw [ossuaryref04_Date_l0] at H9
    refine ent_seq ?_
    refine ent_seq ?_
    refine ent_region ?_
    refine ent_value (ov_move rfl) rfl rfl rfl ?_
    refine ent_value (ov_move rfl) rfl rfl rfl ?_
    obtain ⟨x56, h53, H9⟩ := thn_elim H9
    refine ent_op (ot_call0 (first := []) (cap := []) (xs := [.tmp 8]) rfl rfl F_call_210 rfl (ossuaryref04_days.spec i18 _ h53)) rfl rfl rfl ?_
    rintro _ _ ⟨rfl, rfl⟩
    refine ent_value (ov_bin rfl rfl (b_geq _ _ _)) rfl rfl rfl ?_
    refine ent_value (ov_move rfl) rfl rfl rfl ?_
    by_cases c59 : x56 ≤ i17
    ·rw [if_pos c59] at H9
     refine ent_value_on (ov_move rfl) rfl rfl rfl (decide_eq_true c59) rfl rfl ?_
     refine ent_value_on (ov_bin rfl rfl (b_lss _ _ _)) rfl rfl rfl (decide_eq_true c59) rfl rfl ?_
     refine ent_value (ov_pick rfl rfl rfl (pick_t (decide_eq_true c59))) rfl rfl rfl ?_
     refine ent_nil ?_
     by_cases c60 : i18 < 5000
     ·rw [if_pos c60] at H9
      refine ent_cond_true rfl (decide_eq_true c60) ?_
      refine ent_skip ?_
      refine ent_block ?_
      refine ent_seq ?_
      refine ent_region ?_
      refine ent_value (ov_move rfl) rfl rfl rfl ?_
      refine ent_value (ov_move rfl) rfl rfl rfl ?_
      obtain ⟨x57, h54, H9⟩ := thn_elim H9
      refine ent_op (ot_call0 (first := []) (cap := []) (xs := [.tmp 16]) rfl rfl F_call_210 rfl (ossuaryref04_days.spec i18 _ h54)) rfl rfl rfl ?_
      rintro _ _ ⟨rfl, rfl⟩
      refine ent_value (ov_bin rfl rfl (b_sub _ _ _) ) rfl rfl rfl ?_
      refine ent_value (ov_assign rfl) rfl rfl rfl ?_
      refine ent_nil ?_
      refine ent_region ?_
      refine ent_value (ov_move rfl) rfl rfl rfl ?_
      refine ent_value (ov_bin rfl rfl (b_add _ _ _) ) rfl rfl rfl ?_
      refine ent_value (ov_assign rfl) rfl rfl rfl ?_
      refine ent_nil ?_
      exact ent_fin [] (by decide) rfl (sub_cons (t := 0) rfl (sub_cons (t := 5) rfl (sub_nil _))) fun a w h => ⟨k, Nat.lt_succ_self k, _, _, H9, h⟩
     ·rw [if_neg c60] at H9
      refine ent_cond_false rfl (decide_eq_false c60) ?_
      refine ent_exit ?_
      cases H9
      exact ent_fin [] (by decide) rfl (sub_cons (t := 0) rfl (sub_cons (t := 5) rfl (sub_nil _))) fun a w h => h
    ·rw [if_neg c59] at H9
     refine ent_off rfl rfl rfl (decide_eq_false c59) rfl rfl ?_
     refine ent_off rfl rfl rfl (decide_eq_false c59) rfl rfl ?_
     refine ent_value (ov_pick rfl rfl rfl (pick_f (decide_eq_false c59))) rfl rfl rfl ?_
     refine ent_nil ?_
     refine ent_cond_false rfl rfl ?_
     refine ent_exit ?_
     cases H9
     exact ent_fin [] (by decide) rfl (sub_cons (t := 0) rfl (sub_cons (t := 5) rfl (sub_nil _))) fun a w h => h
 ·refine ent_seq ?_
  refine ent_region ?_
  refine ent_value (ov_assign rfl) rfl rfl rfl ?_
  refine ent_nil ?_
  obtain ⟨x67, H11, H⟩ := Option.bind_eq_some_iff.1 H
  refine ent_seq_cut (fun a w => St 41 w0 F [(0, (int .i64 x67.1)), (5, (int .i64 x48.2)), (6, (int .i64 x67.2))] [] a w) ?_ ?_
  ·refine ent_block ?_
   refine ent_loop (fun k a w => ∃ i23, ∃ i24, ossuaryref04_Date_l1 K x48 k i23 i24 = some x67 ∧ St 41 w0 F [(0, (int .i64 i23)), (5, (int .i64 x48.2)), (6, (int .i64 i24))] [] a w) K ?_ ?_
   ·exact ent_fin [] (by decide) rfl (sub_cons (t := 0) rfl (sub_cons (t := 5) rfl (sub_cons (t := 6) rfl (sub_nil _)))) fun a w h => ⟨_, _, H11, h⟩
   ·refine fun k => ent_exi fun i23 => ent_exi fun i24 => ent_and fun H12 => ?_
    cases k with
    | zero => exact absurd H12 (by simp [ossuaryref04_Date_l1])
    | succ k =>
     rw [ossuaryref04_Date_l1] at H12
     refine ent_seq ?_
     refine ent_seq ?_
     refine ent_region ?_
     refine ent_value (ov_move rfl) rfl rfl rfl ?_
     refine ent_value (ov_bin rfl rfl (b_lss _ _ _)) rfl rfl rfl ?_
     refine ent_value (ov_move rfl) rfl rfl rfl ?_
     by_cases c79 : i24 < 12
     ·rw [if_pos c79] at H12
      refine ent_value_on (ov_move rfl) rfl rfl rfl (decide_eq_true c79) rfl rfl ?_
      refine ent_value_on (ov_move rfl) rfl rfl rfl (decide_eq_true c79) rfl rfl ?_
      refine ent_value_on (ov_move rfl) rfl rfl rfl (decide_eq_true c79) rfl rfl ?_
      obtain ⟨x75, h71, H12⟩ := thn_elim H12
      refine ent_op_on (ot_call0 (first := []) (cap := []) (xs := [.tmp 25, .tmp 26]) rfl rfl F_call_172 rfl (ossuaryref04_Length.spec x48.2 i24 _ h71)) rfl rfl rfl (decide_eq_true c79) rfl rfl ?_
      rintro _ _ ⟨rfl, rfl⟩
      refine ent_value_on (ov_bin rfl rfl (b_geq _ _ _)) rfl rfl rfl (decide_eq_true c79) rfl rfl ?_
      refine ent_value (ov_pick rfl rfl rfl (pick_t (decide_eq_true c79))) rfl rfl rfl ?_
      refine ent_nil ?_
      by_cases c80 : x75 ≤ i23
      ·rw [if_pos c80] at H12
       refine ent_cond_true rfl (decide_eq_true c80) ?_
       refine ent_skip ?_
       refine ent_block ?_
       refine ent_seq ?_
       refine ent_region ?_
       refine ent_value (ov_move rfl) rfl rfl rfl ?_
       refine ent_value (ov_move rfl) rfl rfl rfl ?_
       refine ent_value (ov_move rfl) rfl rfl rfl ?_
       obtain ⟨x76, h72, H12⟩ := thn_elim H12
       refine ent_op (ot_call0 (first := []) (cap := []) (xs := [.tmp 31, .tmp 32]) rfl rfl F_call_172 rfl (ossuaryref04_Length.spec x48.2 i24 _ h72)) rfl rfl rfl ?_
       rintro _ _ ⟨rfl, rfl⟩
       refine ent_value (ov_bin rfl rfl (b_sub _ _ _) ) rfl rfl rfl ?_
       refine ent_value (ov_assign rfl) rfl rfl rfl ?_
       refine ent_nil ?_
       refine ent_region ?_
       refine ent_value (ov_move rfl) rfl rfl rfl ?_
       refine ent_value (ov_bin rfl rfl (b_add _ _ _) ) rfl rfl rfl ?_
       refine ent_value (ov_assign rfl) rfl rfl rfl ?_
       refine ent_nil ?_
       exact ent_fin [] (by decide) rfl (sub_cons (t := 0) rfl (sub_cons (t := 5) rfl (sub_cons (t := 6) rfl (sub_nil _)))) fun a w h => ⟨k, Nat.lt_succ_self k, _, _, H12, h⟩
      ·rw [if_neg c80] at H12
       refine ent_cond_false rfl (decide_eq_false c80) ?_
       refine ent_exit ?_
       cases H12
       exact ent_fin [] (by decide) rfl (sub_cons (t := 0) rfl (sub_cons (t := 5) rfl (sub_cons (t := 6) rfl (sub_nil _)))) fun a w h => h
     ·rw [if_neg c79] at H12
      refine ent_off rfl rfl rfl (decide_eq_false c79) rfl rfl ?_
      refine ent_off rfl rfl rfl (decide_eq_false c79) rfl rfl ?_
      refine ent_off rfl rfl rfl (decide_eq_false c79) rfl rfl ?_
      refine ent_off rfl rfl rfl (decide_eq_false c79) rfl rfl ?_
      refine ent_off rfl rfl rfl (decide_eq_false c79) rfl rfl ?_
      refine ent_value (ov_pick rfl rfl rfl (pick_f (decide_eq_false c79))) rfl rfl rfl ?_
      refine ent_nil ?_
      refine ent_cond_false rfl rfl ?_
      refine ent_exit ?_
      cases H12
      exact ent_fin [] (by decide) rfl (sub_cons (t := 0) rfl (sub_cons (t := 5) rfl (sub_cons (t := 6) rfl (sub_nil _)))) fun a w h => h
  ·refine ent_seq ?_
   refine ent_region ?_
   refine ent_value (ov_move rfl) rfl rfl rfl ?_
   refine ent_value (ov_move rfl) rfl rfl rfl ?_
   refine ent_value (ov_move rfl) rfl rfl rfl ?_
   refine ent_value (ov_bin rfl rfl (b_add _ _ _) ) rfl rfl rfl ?_
   refine ent_value (ov_assign rfl) rfl rfl rfl ?_
   refine ent_value (ov_assign rfl) rfl rfl rfl ?_
   refine ent_value (ov_assign rfl) rfl rfl rfl ?_
   refine ent_nil ?_
   refine ent_retc ?_
   cases H
   refine ent_pick [] (by decide) rfl ?_
   exact ret_mem (vs := [(int .i64 x48.2), (int .i64 x67.2), (int .i64 (w64 (x67.1 + 1)))]) rfl ⟨rfl, ⟨rfl, ⟨rfl, trivial⟩⟩⟩ _ rfl ⟨rfl, rfl⟩

set_option maxRecDepth 100000 in
theorem ossuaryref04_MonthOf.spec (K : Nat) (a0 : Int) (r : Int) (H : ossuaryref04_MonthOf K a0 = some r) : FnSpec Try.prog 209 [(int .i64 a0)] [] (fun v M => v = (int .i64 r) ∧ M = []) := by
 unfold ossuaryref04_MonthOf at H
 refine spec_of Try.func209 rfl 18 rfl (Nat.le_of_ble_eq_true rfl) fun F w0 => ?_
 show Ent (St 18 w0 F [(0, (int .i64 a0))] []) _
 refine ent_seq ?_
 refine ent_region ?_
 refine ent_value (ov_assign rfl) rfl rfl rfl ?_
 refine ent_nil ?_
 refine ent_seq ?_
 refine ent_region ?_
 refine ent_value (ov_move rfl) rfl rfl rfl ?_
 obtain ⟨x2, h2, H⟩ := Option.bind_eq_some_iff.1 H
 refine ent_op (ot_call0 (first := []) (cap := []) (xs := [.tmp 7]) rfl rfl F_call_228 rfl (ossuaryref04_Date.spec K a0 _ h2)) rfl rfl rfl ?_
 rintro _ _ ⟨rfl, rfl⟩
 refine ent_value (ov_move rfl) rfl rfl rfl ?_
 refine ent_value (ov_extract rfl rfl) rfl rfl rfl ?_
 refine ent_value (ov_extract rfl rfl) rfl rfl rfl ?_
 refine ent_value (ov_extract rfl rfl) rfl rfl rfl ?_
 refine ent_value (ov_assign rfl) rfl rfl rfl ?_
 refine ent_value (ov_assign rfl) rfl rfl rfl ?_
 refine ent_value (ov_assign rfl) rfl rfl rfl ?_
 refine ent_nil ?_
 refine ent_seq ?_
 refine ent_region ?_
 refine ent_value (ov_move rfl) rfl rfl rfl ?_
 refine ent_value (ov_bin rfl rfl (b_sub _ _ _) ) rfl rfl rfl ?_
 refine ent_value (ov_bin rfl rfl (b_mul _ _ _) ) rfl rfl rfl ?_
 refine ent_value (ov_move rfl) rfl rfl rfl ?_
 refine ent_value (ov_bin rfl rfl (b_add _ _ _) ) rfl rfl rfl ?_
 refine ent_value (ov_bin rfl rfl (b_sub _ _ _) ) rfl rfl rfl ?_
 refine ent_value (ov_assign rfl) rfl rfl rfl ?_
 refine ent_nil ?_
 refine ent_retc ?_
 cases H
 refine ent_pick [] (by decide) rfl ?_
 exact ret_tmp rfl rfl ⟨rfl, rfl⟩

set_option maxRecDepth 100000 in
theorem ossuaryref19_most.spec (K : Nat) (a0 : Int) (r : Int) (H : ossuaryref19_most K a0 = some r) : FnSpec Try.prog 170 [(int .i64 a0)] [] (fun v M => v = (int .i64 r) ∧ M = []) := by
 unfold ossuaryref19_most at H
 refine spec_of Try.func170 rfl 11 rfl (Nat.le_of_ble_eq_true rfl) fun F w0 => ?_
 show Ent (St 11 w0 F [(0, (int .i64 a0))] []) _
 refine ent_seq ?_
 refine ent_region ?_
 refine ent_value (ov_assign rfl) rfl rfl rfl ?_
 refine ent_nil ?_
 refine ent_seq ?_
 refine ent_seq ?_
 refine ent_region ?_
 refine ent_value (ov_move rfl) rfl rfl rfl ?_
 refine ent_nil ?_
 refine ent_block ?_
 refine ent_seq ?_
 refine ent_region ?_
 refine ent_value (ov_bin rfl rfl (b_eql _ _ _)) rfl rfl rfl ?_
 refine ent_value (ov_assign rfl) rfl rfl rfl ?_
 refine ent_nil ?_
 by_cases c10 : a0 = 1
 ·rw [if_pos c10] at H
  refine ent_cond_true rfl (eq_t c10) ?_
  refine ent_seq ?_
  refine ent_region ?_
  refine ent_value (ov_assign rfl) rfl rfl rfl ?_
  refine ent_nil ?_
  refine ent_retc ?_
  cases H
  refine ent_pick [] (by decide) rfl ?_
  exact ret_tmp rfl rfl ⟨rfl, rfl⟩
 ·rw [if_neg c10] at H
  refine ent_cond_false rfl (eq_f c10) ?_
  refine ent_seq ?_
  refine ent_region ?_
  refine ent_value (ov_bin rfl rfl (b_eql _ _ _)) rfl rfl rfl ?_
  refine ent_value (ov_assign rfl) rfl rfl rfl ?_
  refine ent_nil ?_
  by_cases c11 : a0 = 2
  ·rw [if_pos c11] at H
   refine ent_cond_true rfl (eq_t c11) ?_
   refine ent_seq ?_
   refine ent_region ?_
   refine ent_value (ov_assign rfl) rfl rfl rfl ?_
   refine ent_nil ?_
   refine ent_retc ?_
   cases H
   refine ent_pick [] (by decide) rfl ?_
   exact ret_tmp rfl rfl ⟨rfl, rfl⟩
  ·rw [if_neg c11] at H
   refine ent_cond_false rfl (eq_f c11) ?_
   refine ent_seq ?_
   refine ent_region ?_
   refine ent_value (ov_bin rfl rfl (b_eql _ _ _)) rfl rfl rfl ?_
   refine ent_value (ov_assign rfl) rfl rfl rfl ?_
   refine ent_nil ?_
   by_cases c12 : a0 = 3
   ·rw [if_pos c12] at H
    refine ent_cond_true rfl (eq_t c12) ?_
    refine ent_seq ?_
    refine ent_region ?_
    obtain ⟨x4, h4, H⟩ := Option.bind_eq_some_iff.1 H
    refine ent_op (ot_call0 (first := []) (cap := []) (xs := [.const (int .i64 699050)]) rfl rfl F_call_209 rfl (ossuaryref04_MonthOf.spec K 699050 _ h4)) rfl rfl rfl ?_
    rintro _ _ ⟨rfl, rfl⟩
    refine ent_value (ov_assign rfl) rfl rfl rfl ?_
    refine ent_nil ?_
    refine ent_retc ?_
    cases H
    refine ent_pick [] (by decide) rfl ?_
    exact ret_tmp rfl rfl ⟨rfl, rfl⟩
   ·rw [if_neg c12] at H
    refine ent_cond_false rfl (eq_f c12) ?_
    refine ent_skip ?_
    refine ent_seq ?_
    refine ent_region ?_
    refine ent_value (ov_assign rfl) rfl rfl rfl ?_
    refine ent_nil ?_
    refine ent_retc ?_
    cases H
    refine ent_pick [] (by decide) rfl ?_
    exact ret_tmp rfl rfl ⟨rfl, rfl⟩

set_option maxRecDepth 100000 in
theorem ossuaryref19_Right.spec (K : Nat) (a0_0 : Int) (a0_1 : Int) (r : Bool) (H : ossuaryref19_Right K a0_0 a0_1 = some r) : FnSpec Try.prog 135 [(agg #[(int .i64 a0_0), (int .i64 a0_1)])] [] (fun v M => v = (bool r) ∧ M = []) := by
 unfold ossuaryref19_Right at H
 refine spec_of Try.func135 rfl 14 rfl (Nat.le_of_ble_eq_true rfl) fun F w0 => ?_
 show Ent (St 14 w0 F [(0, (agg #[(int .i64 a0_0), (int .i64 a0_1)]))] []) _
 refine ent_seq ?_
 refine ent_region ?_
 refine ent_op (ot_box (cs := [(int .i64 a0_0), (int .i64 a0_1)]) rfl rfl) rfl rfl rfl ?_
 rintro _ _ ⟨b2, rfl, rfl⟩
 refine ent_value (ov_assign rfl) rfl rfl rfl ?_
 refine ent_nil ?_
 refine ent_seq ?_
 by_cases c2 : 0 ≤ a0_1
 ·rw [if_pos c2] at H
  obtain ⟨x2, h2, H⟩ := Option.bind_eq_some_iff.1 H
  refine ent_drawm 12 rfl (fun done a w => StD 14 w0 F [(0, (agg #[(int .i64 a0_0), (int .i64 a0_1)])), (1, (pt b2 0))] [(0, 3, (pt b2 1)), (1, 4, (int .i64 a0_1)), (2, 5, (bool (decide (0 ≤ a0_1)))), (3, 6, (bool (decide (0 ≤ a0_1)))), (4, 7, (pt b2 1)), (5, 8, (int .i64 a0_1)), (6, 9, (pt b2 0)), (7, 10, (int .i64 a0_0)), (8, 11, (int .i64 x2)), (9, 12, (bool (decide (a0_1 ≤ x2)))), (10, 13, (bool (decide (a0_1 ≤ x2)))), (11, 2, (bool (decide (a0_1 ≤ x2))))] done [(box b2 63 [(int .i64 a0_0), (int .i64 a0_1)])] a w) (by kernel_rfl) (by kernel_rfl) (draw_startL (sub_cons (t := 0) rfl (sub_cons (t := 1) rfl (sub_nil _))) rfl) ?_ ?_
  ·refine ⟨?_, ?_, ?_, ?_, ?_, ?_, ?_, ?_, ?_, ?_, ?_, ?_, trivial⟩
   ·intro done hi hc hcu
    exact draw_value (i := 0) (t := 3) (v := (pt b2 1)) rfl rfl (wanted_none rfl) (fun a => hasA_base) (ov_fieldAddr (sz := 0) (o := 0) rfl F_field_63_1 F_size_2) rfl rfl (onlyT_spec (k0 := 0) rfl rfl rfl)
   ·intro done hi hc hcu
    have d0 : done 0 = true := done_of (j := 0) hcu rfl (by decide) rfl
    exact draw_value (i := 1) (t := 4) (v := (int .i64 a0_1)) rfl rfl (wanted_none rfl) (fun a => (hasA_cons (k := 0) rfl d0 hasA_base)) (ov_load (v := (int .i64 a0_1)) rfl F_agg_2 (reads_box1 (i := 0) rfl rfl)) rfl rfl (onlyT_spec (k0 := 1) rfl rfl rfl)
   ·intro done hi hc hcu
    have d1 : done 1 = true := done_of (j := 1) hcu rfl (by decide) rfl
    exact draw_value (i := 2) (t := 5) (v := (bool (decide (0 ≤ a0_1)))) rfl rfl (wanted_none rfl) (fun a => (hasA_cons (k := 1) rfl d1 hasA_base)) (ov_bin rfl rfl (b_geq _ _ _)) rfl rfl (onlyT_spec (k0 := 2) rfl rfl rfl)
   ·intro done hi hc hcu
    have d2 : done 2 = true := done_of (j := 2) hcu rfl (by decide) rfl
    exact draw_value (i := 3) (t := 6) (v := (bool (decide (0 ≤ a0_1)))) rfl rfl (wanted_none rfl) (fun a => (hasA_cons (k := 2) rfl d2 hasA_base)) (ov_move rfl) rfl rfl (onlyT_spec (k0 := 3) rfl rfl rfl)
   ·intro done hi hc hcu
    have d3 : done 3 = true := done_of (j := 3) hcu rfl (by decide) rfl
    exact draw_value (i := 4) (t := 7) (v := (pt b2 1)) rfl rfl (wanted_on rfl rfl rfl (decide_eq_true c2)) (fun a => (hasA_cons (k := 3) rfl d3 hasA_base)) (ov_fieldAddr (sz := 0) (o := 0) rfl F_field_63_1 F_size_2) rfl rfl (onlyT_spec (k0 := 4) rfl rfl rfl)
   ·intro done hi hc hcu
    have d4 : done 4 = true := done_of (j := 4) hcu rfl (by decide) rfl
    have d3 : done 3 = true := done_of (j := 3) hcu rfl (by decide) rfl
    exact draw_value (i := 5) (t := 8) (v := (int .i64 a0_1)) rfl rfl (wanted_on rfl rfl rfl (decide_eq_true c2)) (fun a => (hasA_cons (k := 3) rfl d3 (hasA_cons (k := 4) rfl d4 hasA_base))) (ov_load (v := (int .i64 a0_1)) rfl F_agg_2 (reads_box1 (i := 0) rfl rfl)) rfl rfl (onlyT_spec (k0 := 5) rfl rfl rfl)
   ·intro done hi hc hcu
    have d3 : done 3 = true := done_of (j := 3) hcu rfl (by decide) rfl
    exact draw_value (i := 6) (t := 9) (v := (pt b2 0)) rfl rfl (wanted_on rfl rfl rfl (decide_eq_true c2)) (fun a => (hasA_cons (k := 3) rfl d3 hasA_base)) (ov_fieldAddr (sz := 0) (o := 0) rfl F_field_63_0 F_size_3) rfl rfl (onlyT_spec (k0 := 6) rfl rfl rfl)
   ·intro done hi hc hcu
    have d6 : done 6 = true := done_of (j := 6) hcu rfl (by decide) rfl
    have d3 : done 3 = true := done_of (j := 3) hcu rfl (by decide) rfl
    exact draw_value (i := 7) (t := 10) (v := (int .i64 a0_0)) rfl rfl (wanted_on rfl rfl rfl (decide_eq_true c2)) (fun a => (hasA_cons (k := 3) rfl d3 (hasA_cons (k := 6) rfl d6 hasA_base))) (ov_load (v := (int .i64 a0_0)) rfl F_agg_3 (reads_box1 (i := 0) rfl rfl)) rfl rfl (onlyT_spec (k0 := 7) rfl rfl rfl)
   ·intro done hi hc hcu
    have d7 : done 7 = true := done_of (j := 7) hcu rfl (by decide) rfl
    have d3 : done 3 = true := done_of (j := 3) hcu rfl (by decide) rfl
    exact draw_same (i := 8) (t := 11) (v := (int .i64 x2)) rfl rfl (wanted_on rfl rfl rfl (decide_eq_true c2)) (fun a => (hasA_cons (k := 3) rfl d3 (hasA_cons (k := 7) rfl d7 hasA_base))) (ot_call0 (first := []) (cap := []) (xs := [.tmp 10]) rfl rfl F_call_170 rfl (ossuaryref19_most.spec K a0_0 _ h2)) rfl rfl (onlyT_spec (k0 := 8) rfl rfl rfl)
   ·intro done hi hc hcu
    have d5 : done 5 = true := done_of (j := 5) hcu rfl (by decide) rfl
    have d8 : done 8 = true := done_of (j := 8) hcu rfl (by decide) rfl
    have d3 : done 3 = true := done_of (j := 3) hcu rfl (by decide) rfl
    exact draw_value (i := 9) (t := 12) (v := (bool (decide (a0_1 ≤ x2)))) rfl rfl (wanted_on rfl rfl rfl (decide_eq_true c2)) (fun a => (hasA_cons (k := 3) rfl d3 (hasA_cons (k := 8) rfl d8 (hasA_cons (k := 5) rfl d5 hasA_base)))) (ov_bin rfl rfl (b_leq _ _ _)) rfl rfl (onlyT_spec (k0 := 9) rfl rfl rfl)
   ·intro done hi hc hcu
    have d3 : done 3 = true := done_of (j := 3) hcu rfl (by decide) rfl
    have d9 : done 9 = true := done_of (j := 9) hcu rfl (by decide) rfl
    exact draw_value (i := 10) (t := 13) (v := (bool (decide (a0_1 ≤ x2)))) rfl rfl (wanted_none rfl) (fun a => (hasA_cons (k := 9) rfl d9 (hasA_cons (k := 3) rfl d3 hasA_base))) (ov_pick rfl rfl rfl (pick_t (decide_eq_true c2))) rfl rfl (onlyT_spec (k0 := 10) rfl rfl rfl)
   ·intro done hi hc hcu
    have d10 : done 10 = true := done_of (j := 10) hcu rfl (by decide) rfl
    exact draw_value (i := 11) (t := 2) (v := (bool (decide (a0_1 ≤ x2)))) rfl rfl (wanted_none rfl) (fun a => (hasA_cons (k := 10) rfl d10 hasA_base)) (ov_assign rfl) rfl rfl (onlyT_spec (k0 := 11) rfl rfl rfl)
  ·intro done hall
   refine draw_endL [(box b2 63 [(int .i64 a0_0), (int .i64 a0_1)])] rfl (fun a => (hasA_cons (k := 11) rfl (hall 11 (by decide)) (hasA_cons (k := 0) rfl (hall 0 (by decide)) (hasA_cons (k := 1) rfl (hall 1 (by decide)) (hasA_cons (k := 2) rfl (hall 2 (by decide)) (hasA_cons (k := 3) rfl (hall 3 (by decide)) (hasA_cons (k := 4) rfl (hall 4 (by decide)) (hasA_cons (k := 5) rfl (hall 5 (by decide)) (hasA_cons (k := 6) rfl (hall 6 (by decide)) (hasA_cons (k := 7) rfl (hall 7 (by decide)) (hasA_cons (k := 8) rfl (hall 8 (by decide)) (hasA_cons (k := 9) rfl (hall 9 (by decide)) (hasA_cons (k := 10) rfl (hall 10 (by decide)) hasA_base))))))))))))) ?_
   refine ent_retc ?_
   cases H
   refine ent_pick [] (by decide) rfl ?_
   exact ret_tmp rfl rfl ⟨rfl, rfl⟩
 ·rw [if_neg c2] at H
  refine ent_drawm 12 rfl (fun done a w => StD 14 w0 F [(0, (agg #[(int .i64 a0_0), (int .i64 a0_1)])), (1, (pt b2 0))] [(0, 3, (pt b2 1)), (1, 4, (int .i64 a0_1)), (2, 5, (bool (decide (0 ≤ a0_1)))), (3, 6, (bool (decide (0 ≤ a0_1)))), (4, 7, undef), (5, 8, undef), (6, 9, undef), (7, 10, undef), (8, 11, undef), (9, 12, undef), (10, 13, (bool false)), (11, 2, (bool false))] done [(box b2 63 [(int .i64 a0_0), (int .i64 a0_1)])] a w) (by kernel_rfl) (by kernel_rfl) (draw_startL (sub_cons (t := 0) rfl (sub_cons (t := 1) rfl (sub_nil _))) rfl) ?_ ?_
  ·refine ⟨?_, ?_, ?_, ?_, ?_, ?_, ?_, ?_, ?_, ?_, ?_, ?_, trivial⟩
   ·intro done hi hc hcu
    exact draw_value (i := 0) (t := 3) (v := (pt b2 1)) rfl rfl (wanted_none rfl) (fun a => hasA_base) (ov_fieldAddr (sz := 0) (o := 0) rfl F_field_63_1 F_size_2) rfl rfl (onlyT_spec (k0 := 0) rfl rfl rfl)
   ·intro done hi hc hcu
    have d0 : done 0 = true := done_of (j := 0) hcu rfl (by decide) rfl
    exact draw_value (i := 1) (t := 4) (v := (int .i64 a0_1)) rfl rfl (wanted_none rfl) (fun a => (hasA_cons (k := 0) rfl d0 hasA_base)) (ov_load (v := (int .i64 a0_1)) rfl F_agg_2 (reads_box1 (i := 0) rfl rfl)) rfl rfl (onlyT_spec (k0 := 1) rfl rfl rfl)
   ·intro done hi hc hcu
    have d1 : done 1 = true := done_of (j := 1) hcu rfl (by decide) rfl
    exact draw_value (i := 2) (t := 5) (v := (bool (decide (0 ≤ a0_1)))) rfl rfl (wanted_none rfl) (fun a => (hasA_cons (k := 1) rfl d1 hasA_base)) (ov_bin rfl rfl (b_geq _ _ _)) rfl rfl (onlyT_spec (k0 := 2) rfl rfl rfl)
   ·intro done hi hc hcu
    have d2 : done 2 = true := done_of (j := 2) hcu rfl (by decide) rfl
    exact draw_value (i := 3) (t := 6) (v := (bool (decide (0 ≤ a0_1)))) rfl rfl (wanted_none rfl) (fun a => (hasA_cons (k := 2) rfl d2 hasA_base)) (ov_move rfl) rfl rfl (onlyT_spec (k0 := 3) rfl rfl rfl)
   ·intro done hi hc hcu
    have d3 : done 3 = true := done_of (j := 3) hcu rfl (by decide) rfl
    exact draw_off (i := 4) (t := 7) rfl rfl (wanted_off rfl rfl rfl (decide_eq_false c2)) (fun a => (hasA_cons (k := 3) rfl d3 hasA_base)) rfl rfl (onlyT_spec (k0 := 4) rfl rfl rfl)
   ·intro done hi hc hcu
    have d3 : done 3 = true := done_of (j := 3) hcu rfl (by decide) rfl
    exact draw_off (i := 5) (t := 8) rfl rfl (wanted_off rfl rfl rfl (decide_eq_false c2)) (fun a => (hasA_cons (k := 3) rfl d3 hasA_base)) rfl rfl (onlyT_spec (k0 := 5) rfl rfl rfl)
   ·intro done hi hc hcu
    have d3 : done 3 = true := done_of (j := 3) hcu rfl (by decide) rfl
    exact draw_off (i := 6) (t := 9) rfl rfl (wanted_off rfl rfl rfl (decide_eq_false c2)) (fun a => (hasA_cons (k := 3) rfl d3 hasA_base)) rfl rfl (onlyT_spec (k0 := 6) rfl rfl rfl)
   ·intro done hi hc hcu
    have d3 : done 3 = true := done_of (j := 3) hcu rfl (by decide) rfl
    exact draw_off (i := 7) (t := 10) rfl rfl (wanted_off rfl rfl rfl (decide_eq_false c2)) (fun a => (hasA_cons (k := 3) rfl d3 hasA_base)) rfl rfl (onlyT_spec (k0 := 7) rfl rfl rfl)
   ·intro done hi hc hcu
    have d3 : done 3 = true := done_of (j := 3) hcu rfl (by decide) rfl
    exact draw_off (i := 8) (t := 11) rfl rfl (wanted_off rfl rfl rfl (decide_eq_false c2)) (fun a => (hasA_cons (k := 3) rfl d3 hasA_base)) rfl rfl (onlyT_spec (k0 := 8) rfl rfl rfl)
   ·intro done hi hc hcu
    have d3 : done 3 = true := done_of (j := 3) hcu rfl (by decide) rfl
    exact draw_off (i := 9) (t := 12) rfl rfl (wanted_off rfl rfl rfl (decide_eq_false c2)) (fun a => (hasA_cons (k := 3) rfl d3 hasA_base)) rfl rfl (onlyT_spec (k0 := 9) rfl rfl rfl)
   ·intro done hi hc hcu
    have d3 : done 3 = true := done_of (j := 3) hcu rfl (by decide) rfl
    have d9 : done 9 = true := done_of (j := 9) hcu rfl (by decide) rfl
    exact draw_value (i := 10) (t := 13) (v := (bool false)) rfl rfl (wanted_none rfl) (fun a => (hasA_cons (k := 9) rfl d9 (hasA_cons (k := 3) rfl d3 hasA_base))) (ov_pick rfl rfl rfl (pick_f (decide_eq_false c2))) rfl rfl (onlyT_spec (k0 := 10) rfl rfl rfl)
   ·intro done hi hc hcu
    have d10 : done 10 = true := done_of (j := 10) hcu rfl (by decide) rfl
    exact draw_value (i := 11) (t := 2) (v := (bool false)) rfl rfl (wanted_none rfl) (fun a => (hasA_cons (k := 10) rfl d10 hasA_base)) (ov_assign rfl) rfl rfl (onlyT_spec (k0 := 11) rfl rfl rfl)
  ·intro done hall
   refine draw_endL [(box b2 63 [(int .i64 a0_0), (int .i64 a0_1)])] rfl (fun a => (hasA_cons (k := 11) rfl (hall 11 (by decide)) (hasA_cons (k := 0) rfl (hall 0 (by decide)) (hasA_cons (k := 1) rfl (hall 1 (by decide)) (hasA_cons (k := 2) rfl (hall 2 (by decide)) (hasA_cons (k := 3) rfl (hall 3 (by decide)) (hasA_cons (k := 4) rfl (hall 4 (by decide)) (hasA_cons (k := 5) rfl (hall 5 (by decide)) (hasA_cons (k := 6) rfl (hall 6 (by decide)) (hasA_cons (k := 7) rfl (hall 7 (by decide)) (hasA_cons (k := 8) rfl (hall 8 (by decide)) (hasA_cons (k := 9) rfl (hall 9 (by decide)) (hasA_cons (k := 10) rfl (hall 10 (by decide)) hasA_base))))))))))))) ?_
   refine ent_retc ?_
   cases H
   refine ent_pick [] (by decide) rfl ?_
   exact ret_tmp rfl rfl ⟨rfl, rfl⟩

set_option maxRecDepth 100000 in
theorem ossuaryref20_in.spec (a0 : Int) (a1 : Int) (a2 : Int) (r : Bool) (H : ossuaryref20_in a0 a1 a2 = r) : FnSpec Try.prog 150 [(int .i64 a0), (int .i64 a1), (int .i64 a2)] [] (fun v M => v = (bool r) ∧ M = []) := by
 unfold ossuaryref20_in at H
 refine spec_of Try.func150 rfl 15 rfl (Nat.le_of_ble_eq_true rfl) fun F w0 => ?_
 show Ent (St 15 w0 F [(0, (int .i64 a0)), (1, (int .i64 a1)), (2, (int .i64 a2))] []) _
 refine ent_seq ?_
 refine ent_region ?_
 refine ent_value (ov_assign rfl) rfl rfl rfl ?_
 refine ent_nil ?_
 refine ent_seq ?_
 refine ent_region ?_
 refine ent_value (ov_move rfl) rfl rfl rfl ?_
 refine ent_value (ov_move rfl) rfl rfl rfl ?_
 refine ent_value (ov_bin rfl rfl (b_geq _ _ _)) rfl rfl rfl ?_
 refine ent_value (ov_move rfl) rfl rfl rfl ?_
 by_cases c2 : a1 ≤ a0
 ·rw [if_pos c2] at H
  refine ent_value_on (ov_move rfl) rfl rfl rfl (decide_eq_true c2) rfl rfl ?_
  refine ent_value_on (ov_move rfl) rfl rfl rfl (decide_eq_true c2) rfl rfl ?_
  refine ent_value_on (ov_bin rfl rfl (b_leq _ _ _)) rfl rfl rfl (decide_eq_true c2) rfl rfl ?_
  refine ent_value (ov_pick rfl rfl rfl (pick_t (decide_eq_true c2))) rfl rfl rfl ?_
  refine ent_value (ov_assign rfl) rfl rfl rfl ?_
  refine ent_nil ?_
  refine ent_retc ?_
  cases H
  refine ent_pick [] (by decide) rfl ?_
  exact ret_tmp rfl rfl ⟨rfl, rfl⟩
 ·rw [if_neg c2] at H
  refine ent_off rfl rfl rfl (decide_eq_false c2) rfl rfl ?_
  refine ent_off rfl rfl rfl (decide_eq_false c2) rfl rfl ?_
  refine ent_off rfl rfl rfl (decide_eq_false c2) rfl rfl ?_
  refine ent_value (ov_pick rfl rfl rfl (pick_f (decide_eq_false c2))) rfl rfl rfl ?_
  refine ent_value (ov_assign rfl) rfl rfl rfl ?_
  refine ent_nil ?_
  refine ent_retc ?_
  cases H
  refine ent_pick [] (by decide) rfl ?_
  exact ret_tmp rfl rfl ⟨rfl, rfl⟩

set_option maxRecDepth 100000 in
theorem ossuaryref20_Right.spec (K : Nat) (a0_0 : Int) (a0_1 : Int) (a0_2 : Int) (a0_3 : Int) (a0_4 : Int) (a0_5 : Bool) (r : Bool) (H : ossuaryref20_Right K a0_0 a0_1 a0_2 a0_3 a0_4 a0_5 = some r) : FnSpec Try.prog 106 [(agg #[(int .i64 a0_0), (int .i64 a0_1), (int .i64 a0_2), (int .i64 a0_3), (int .i64 a0_4), (bool a0_5)])] [] (fun v M => v = (bool r) ∧ M = []) := by
 unfold ossuaryref20_Right at H
 refine spec_of Try.func106 rfl 32 rfl (Nat.le_of_ble_eq_true rfl) fun F w0 => ?_
 show Ent (St 32 w0 F [(0, (agg #[(int .i64 a0_0), (int .i64 a0_1), (int .i64 a0_2), (int .i64 a0_3), (int .i64 a0_4), (bool a0_5)]))] []) _
 refine ent_seq ?_
 refine ent_region ?_
 refine ent_op (ot_box (cs := [(int .i64 a0_0), (int .i64 a0_1), (int .i64 a0_2), (int .i64 a0_3), (int .i64 a0_4), (bool a0_5)]) rfl rfl) rfl rfl rfl ?_
 rintro _ _ ⟨b2, rfl, rfl⟩
 refine ent_value (ov_assign rfl) rfl rfl rfl ?_
 refine ent_nil ?_
 refine ent_seq ?_
 refine ent_region ?_
 refine ent_value (ov_fieldAddr (sz := 1) (o := 0) rfl F_field_65_0 F_size_63) rfl rfl rfl ?_
 refine ent_value (ov_load_agg (vs := [(int .i64 a0_0), (int .i64 a0_1)]) rfl F_agg_63 F_size_63 (reads_boxN (i := 0) rfl rfl)) rfl rfl rfl ?_
 obtain ⟨x5, h5, H⟩ := Option.bind_eq_some_iff.1 H
 refine ent_op (ot_call0 (first := []) (cap := []) (xs := [.tmp 4]) rfl rfl F_call_135 rfl (ossuaryref19_Right.spec K a0_0 a0_1 _ h5)) rfl rfl rfl ?_
 rintro _ _ ⟨rfl, rfl⟩
 refine ent_value (ov_move rfl) rfl rfl rfl ?_
 by_cases c6 : x5 = true
 ·rw [if_pos c6] at H
  refine ent_value_on (ov_fieldAddr (sz := 0) (o := 0) rfl F_field_65_1 F_size_2) rfl rfl rfl c6 rfl rfl ?_
  refine ent_value_on (ov_load (v := (int .i64 a0_2)) rfl F_agg_2 (reads_box1 (i := 0) rfl rfl)) rfl rfl rfl c6 rfl rfl ?_
  obtain ⟨x6, h6, H⟩ := thn_elim H
  refine ent_op_on (ot_call0 (first := []) (cap := []) (xs := [.tmp 8, .const (int .i64 1), .const (int .i64 4611686018427387904)]) rfl rfl F_call_150 rfl (ossuaryref20_in.spec a0_2 1 4611686018427387904 _ h6)) rfl rfl rfl c6 rfl rfl ?_
  rintro _ _ ⟨rfl, rfl⟩
  refine ent_value (ov_pick rfl rfl rfl (pick_t c6)) rfl rfl rfl ?_
  refine ent_value (ov_move rfl) rfl rfl rfl ?_
  by_cases c7 : x6 = true
  ·rw [if_pos c7] at H
   refine ent_value_on (ov_fieldAddr (sz := 0) (o := 0) rfl F_field_65_3 F_size_2) rfl rfl rfl c7 rfl rfl ?_
   refine ent_value_on (ov_load (v := (int .i64 a0_4)) rfl F_agg_2 (reads_box1 (i := 0) rfl rfl)) rfl rfl rfl c7 rfl rfl ?_
   obtain ⟨x7, h7, H⟩ := thn_elim H
   refine ent_op_on (ot_call0 (first := []) (cap := []) (xs := [.tmp 13, .const (int .i64 1), .const (int .i64 4611686018427387904)]) rfl rfl F_call_150 rfl (ossuaryref20_in.spec a0_4 1 4611686018427387904 _ h7)) rfl rfl rfl c7 rfl rfl ?_
   rintro _ _ ⟨rfl, rfl⟩
   refine ent_value (ov_pick rfl rfl rfl (pick_t c7)) rfl rfl rfl ?_
   refine ent_value (ov_move rfl) rfl rfl rfl ?_
   by_cases c8 : x7 = true
   ·rw [if_pos c8] at H
    refine ent_value_on (ov_fieldAddr (sz := 0) (o := 0) rfl F_field_65_2 F_size_2) rfl rfl rfl c8 rfl rfl ?_
    refine ent_value_on (ov_load (v := (int .i64 a0_3)) rfl F_agg_2 (reads_box1 (i := 0) rfl rfl)) rfl rfl rfl c8 rfl rfl ?_
    obtain ⟨x8, h8, H⟩ := thn_elim H
    refine ent_op_on (ot_call0 (first := []) (cap := []) (xs := [.tmp 18, .const (int .i64 0), .const (int .i64 4611686018427387904)]) rfl rfl F_call_150 rfl (ossuaryref20_in.spec a0_3 0 4611686018427387904 _ h8)) rfl rfl rfl c8 rfl rfl ?_
    rintro _ _ ⟨rfl, rfl⟩
    refine ent_value (ov_pick rfl rfl rfl (pick_t c8)) rfl rfl rfl ?_
    refine ent_value (ov_move rfl) rfl rfl rfl ?_
    by_cases c9 : x8 = true
    ·rw [if_pos c9] at H
     refine ent_value_on (ov_fieldAddr (sz := 0) (o := 0) rfl F_field_65_4 F_size_4) rfl rfl rfl c9 rfl rfl ?_
     refine ent_value_on (ov_load (v := (bool a0_5)) rfl F_agg_4 (reads_box1 (i := 0) rfl rfl)) rfl rfl rfl c9 rfl rfl ?_
     refine ent_value_on (ov_un rfl (u_not _)) rfl rfl rfl c9 rfl rfl ?_
     refine ent_value_on (ov_move rfl) rfl rfl rfl c9 rfl rfl ?_
     by_cases c10 : (!a0_5) = true
     ·rw [if_pos c10] at H
      refine ent_off rfl rfl rfl c10 rfl rfl ?_
      refine ent_off rfl rfl rfl c10 rfl rfl ?_
      refine ent_off rfl rfl rfl c10 rfl rfl ?_
      refine ent_off rfl rfl rfl c10 rfl rfl ?_
      refine ent_value_on (ov_pick rfl rfl rfl (pick_t c10)) rfl rfl rfl c9 rfl rfl ?_
      refine ent_value (ov_pick rfl rfl rfl (pick_t c9)) rfl rfl rfl ?_
      refine ent_value (ov_assign rfl) rfl rfl rfl ?_
      refine ent_nil ?_
      refine ent_retc ?_
      cases H
      refine ent_pick [] (by decide) rfl ?_
      exact ret_tmp rfl rfl ⟨rfl, rfl⟩
     ·rw [if_neg c10] at H
      refine ent_value_on (ov_fieldAddr (sz := 1) (o := 0) rfl F_field_65_0 F_size_63) rfl rfl rfl (Bool.eq_false_iff.2 c10) rfl rfl ?_
      refine ent_value_on (ov_fieldAddr (sz := 0) (o := 0) rfl F_field_63_0 F_size_3) rfl rfl rfl (Bool.eq_false_iff.2 c10) rfl rfl ?_
      refine ent_value_on (ov_load (v := (int .i64 a0_0)) rfl F_agg_3 (reads_box1 (i := 0) rfl rfl)) rfl rfl rfl (Bool.eq_false_iff.2 c10) rfl rfl ?_
      refine ent_value_on (ov_bin rfl rfl (b_eql _ _ _)) rfl rfl rfl (Bool.eq_false_iff.2 c10) rfl rfl ?_
      refine ent_value_on (ov_pick rfl rfl rfl (pick_f (Bool.eq_false_iff.2 c10))) rfl rfl rfl c9 rfl rfl ?_
      refine ent_value (ov_pick rfl rfl rfl (pick_t c9)) rfl rfl rfl ?_
      refine ent_value (ov_assign rfl) rfl rfl rfl ?_
      refine ent_nil ?_
      refine ent_retc ?_
      cases H
      refine ent_pick [] (by decide) rfl ?_
      exact ret_tmp rfl rfl ⟨rfl, rfl⟩
    ·rw [if_neg c9] at H
     refine ent_off rfl rfl rfl (Bool.eq_false_iff.2 c9) rfl rfl ?_
     refine ent_off rfl rfl rfl (Bool.eq_false_iff.2 c9) rfl rfl ?_
     refine ent_off rfl rfl rfl (Bool.eq_false_iff.2 c9) rfl rfl ?_
     refine ent_off rfl rfl rfl (Bool.eq_false_iff.2 c9) rfl rfl ?_
     refine ent_offu rfl rfl rfl rfl rfl ?_
     refine ent_offu rfl rfl rfl rfl rfl ?_
     refine ent_offu rfl rfl rfl rfl rfl ?_
     refine ent_offu rfl rfl rfl rfl rfl ?_
     refine ent_off rfl rfl rfl (Bool.eq_false_iff.2 c9) rfl rfl ?_
     refine ent_value (ov_pick rfl rfl rfl (pick_f (Bool.eq_false_iff.2 c9))) rfl rfl rfl ?_
     refine ent_value (ov_assign rfl) rfl rfl rfl ?_
     refine ent_nil ?_
     refine ent_retc ?_
     cases H
     refine ent_pick [] (by decide) rfl ?_
     exact ret_tmp rfl rfl ⟨rfl, rfl⟩
   ·rw [if_neg c8] at H
    refine ent_off rfl rfl rfl (Bool.eq_false_iff.2 c8) rfl rfl ?_
    refine ent_off rfl rfl rfl (Bool.eq_false_iff.2 c8) rfl rfl ?_
    refine ent_off rfl rfl rfl (Bool.eq_false_iff.2 c8) rfl rfl ?_
    refine ent_value (ov_pick rfl rfl rfl (pick_f (Bool.eq_false_iff.2 c8))) rfl rfl rfl ?_
    refine ent_value (ov_move rfl) rfl rfl rfl ?_
    refine ent_off rfl rfl rfl rfl rfl rfl ?_
    refine ent_off rfl rfl rfl rfl rfl rfl ?_
    refine ent_off rfl rfl rfl rfl rfl rfl ?_
    refine ent_off rfl rfl rfl rfl rfl rfl ?_
    refine ent_offu rfl rfl rfl rfl rfl ?_
    refine ent_offu rfl rfl rfl rfl rfl ?_
    refine ent_offu rfl rfl rfl rfl rfl ?_
    refine ent_offu rfl rfl rfl rfl rfl ?_
    refine ent_off rfl rfl rfl rfl rfl rfl ?_
    refine ent_value (ov_pick rfl rfl rfl rfl) rfl rfl rfl ?_
    refine ent_value (ov_assign rfl) rfl rfl rfl ?_
    refine ent_nil ?_
    refine ent_retc ?_
    cases H
    refine ent_pick [] (by decide) rfl ?_
    exact ret_tmp rfl rfl ⟨rfl, rfl⟩
  ·rw [if_neg c7] at H
   refine ent_off rfl rfl rfl (Bool.eq_false_iff.2 c7) rfl rfl ?_
   refine ent_off rfl rfl rfl (Bool.eq_false_iff.2 c7) rfl rfl ?_
   refine ent_off rfl rfl rfl (Bool.eq_false_iff.2 c7) rfl rfl ?_
   refine ent_value (ov_pick rfl rfl rfl (pick_f (Bool.eq_false_iff.2 c7))) rfl rfl rfl ?_
   refine ent_value (ov_move rfl) rfl rfl rfl ?_
   refine ent_off rfl rfl rfl rfl rfl rfl ?_
   refine ent_off rfl rfl rfl rfl rfl rfl ?_
   refine ent_off rfl rfl rfl rfl rfl rfl ?_
   refine ent_value (ov_pick rfl rfl rfl rfl) rfl rfl rfl ?_
   refine ent_value (ov_move rfl) rfl rfl rfl ?_
   refine ent_off rfl rfl rfl rfl rfl rfl ?_
   refine ent_off rfl rfl rfl rfl rfl rfl ?_
   refine ent_off rfl rfl rfl rfl rfl rfl ?_
   refine ent_off rfl rfl rfl rfl rfl rfl ?_
   refine ent_offu rfl rfl rfl rfl rfl ?_
   refine ent_offu rfl rfl rfl rfl rfl ?_
   refine ent_offu rfl rfl rfl rfl rfl ?_
   refine ent_offu rfl rfl rfl rfl rfl ?_
   refine ent_off rfl rfl rfl rfl rfl rfl ?_
   refine ent_value (ov_pick rfl rfl rfl rfl) rfl rfl rfl ?_
   refine ent_value (ov_assign rfl) rfl rfl rfl ?_
   refine ent_nil ?_
   refine ent_retc ?_
   cases H
   refine ent_pick [] (by decide) rfl ?_
   exact ret_tmp rfl rfl ⟨rfl, rfl⟩
 ·rw [if_neg c6] at H
  refine ent_off rfl rfl rfl (Bool.eq_false_iff.2 c6) rfl rfl ?_
  refine ent_off rfl rfl rfl (Bool.eq_false_iff.2 c6) rfl rfl ?_
  refine ent_off rfl rfl rfl (Bool.eq_false_iff.2 c6) rfl rfl ?_
  refine ent_value (ov_pick rfl rfl rfl (pick_f (Bool.eq_false_iff.2 c6))) rfl rfl rfl ?_
  refine ent_value (ov_move rfl) rfl rfl rfl ?_
  refine ent_off rfl rfl rfl rfl rfl rfl ?_
  refine ent_off rfl rfl rfl rfl rfl rfl ?_
  refine ent_off rfl rfl rfl rfl rfl rfl ?_
  refine ent_value (ov_pick rfl rfl rfl rfl) rfl rfl rfl ?_
  refine ent_value (ov_move rfl) rfl rfl rfl ?_
  refine ent_off rfl rfl rfl rfl rfl rfl ?_
  refine ent_off rfl rfl rfl rfl rfl rfl ?_
  refine ent_off rfl rfl rfl rfl rfl rfl ?_
  refine ent_value (ov_pick rfl rfl rfl rfl) rfl rfl rfl ?_
  refine ent_value (ov_move rfl) rfl rfl rfl ?_
  refine ent_off rfl rfl rfl rfl rfl rfl ?_
  refine ent_off rfl rfl rfl rfl rfl rfl ?_
  refine ent_off rfl rfl rfl rfl rfl rfl ?_
  refine ent_off rfl rfl rfl rfl rfl rfl ?_
  refine ent_offu rfl rfl rfl rfl rfl ?_
  refine ent_offu rfl rfl rfl rfl rfl ?_
  refine ent_offu rfl rfl rfl rfl rfl ?_
  refine ent_offu rfl rfl rfl rfl rfl ?_
  refine ent_off rfl rfl rfl rfl rfl rfl ?_
  refine ent_value (ov_pick rfl rfl rfl rfl) rfl rfl rfl ?_
  refine ent_value (ov_assign rfl) rfl rfl rfl ?_
  refine ent_nil ?_
  refine ent_retc ?_
  cases H
  refine ent_pick [] (by decide) rfl ?_
  exact ret_tmp rfl rfl ⟨rfl, rfl⟩

set_option maxRecDepth 100000 in
theorem ossuaryref04_Number.spec (K : Nat) (a0 : Int) (a1 : Int) (a2 : Int) (r : (Int × Bool)) (H : ossuaryref04_Number K a0 a1 a2 = some r) : FnSpec Try.prog 171 [(int .i64 a0), (int .i64 a1), (int .i64 a2)] [] (fun v M => v = (Value.tuple #[(int .i64 r.1), (bool r.2)]) ∧ M = []) := by
 unfold ossuaryref04_Number at H
 refine spec_of Try.func171 rfl 51 rfl (Nat.le_of_ble_eq_true rfl) fun F w0 => ?_
 show Ent (St 51 w0 F [(0, (int .i64 a0)), (1, (int .i64 a1)), (2, (int .i64 a2))] []) _
 refine ent_seq ?_
 refine ent_region ?_
 refine ent_value (ov_assign rfl) rfl rfl rfl ?_
 refine ent_value (ov_assign rfl) rfl rfl rfl ?_
 refine ent_nil ?_
 refine ent_seq ?_
 refine ent_seq ?_
 refine ent_region ?_
 refine ent_value (ov_move rfl) rfl rfl rfl ?_
 refine ent_value (ov_bin rfl rfl (b_lss _ _ _)) rfl rfl rfl ?_
 refine ent_value (ov_move rfl) rfl rfl rfl ?_
 by_cases c37 : a0 < 1970
 ·rw [if_pos c37] at H
  refine ent_off rfl rfl rfl (decide_eq_true c37) rfl rfl ?_
  refine ent_off rfl rfl rfl (decide_eq_true c37) rfl rfl ?_
  refine ent_value (ov_pick rfl rfl rfl (pick_t (decide_eq_true c37))) rfl rfl rfl ?_
  refine ent_value (ov_move rfl) rfl rfl rfl ?_
  refine ent_off rfl rfl rfl rfl rfl rfl ?_
  refine ent_off rfl rfl rfl rfl rfl rfl ?_
  refine ent_value (ov_pick rfl rfl rfl rfl) rfl rfl rfl ?_
  refine ent_value (ov_move rfl) rfl rfl rfl ?_
  refine ent_off rfl rfl rfl rfl rfl rfl ?_
  refine ent_off rfl rfl rfl rfl rfl rfl ?_
  refine ent_off rfl rfl rfl rfl rfl rfl ?_
  refine ent_off rfl rfl rfl rfl rfl rfl ?_
  refine ent_off rfl rfl rfl rfl rfl rfl ?_
  refine ent_value (ov_pick rfl rfl rfl rfl) rfl rfl rfl ?_
  refine ent_nil ?_
  refine ent_cond_true rfl rfl ?_
  refine ent_seq ?_
  refine ent_region ?_
  refine ent_value (ov_assign rfl) rfl rfl rfl ?_
  refine ent_value (ov_assign rfl) rfl rfl rfl ?_
  refine ent_nil ?_
  refine ent_retc ?_
  cases H
  refine ent_pick [] (by decide) rfl ?_
  exact ret_mem (vs := [(int .i64 0), (bool false)]) rfl ⟨rfl, ⟨rfl, trivial⟩⟩ _ rfl ⟨rfl, rfl⟩
 ·rw [if_neg c37] at H
  refine ent_value_on (ov_move rfl) rfl rfl rfl (decide_eq_false c37) rfl rfl ?_
  refine ent_value_on (ov_bin rfl rfl (b_gtr _ _ _)) rfl rfl rfl (decide_eq_false c37) rfl rfl ?_
  refine ent_value (ov_pick rfl rfl rfl (pick_f (decide_eq_false c37))) rfl rfl rfl ?_
  refine ent_value (ov_move rfl) rfl rfl rfl ?_
  by_cases c38 : 4900 < a0
  ·rw [if_pos c38] at H
   refine ent_off rfl rfl rfl (decide_eq_true c38) rfl rfl ?_
   refine ent_off rfl rfl rfl (decide_eq_true c38) rfl rfl ?_
   refine ent_value (ov_pick rfl rfl rfl (pick_t (decide_eq_true c38))) rfl rfl rfl ?_
   refine ent_value (ov_move rfl) rfl rfl rfl ?_
   refine ent_off rfl rfl rfl rfl rfl rfl ?_
   refine ent_off rfl rfl rfl rfl rfl rfl ?_
   refine ent_off rfl rfl rfl rfl rfl rfl ?_
   refine ent_off rfl rfl rfl rfl rfl rfl ?_
   refine ent_off rfl rfl rfl rfl rfl rfl ?_
   refine ent_value (ov_pick rfl rfl rfl rfl) rfl rfl rfl ?_
   refine ent_nil ?_
   refine ent_cond_true rfl rfl ?_
   refine ent_seq ?_
   refine ent_region ?_
   refine ent_value (ov_assign rfl) rfl rfl rfl ?_
   refine ent_value (ov_assign rfl) rfl rfl rfl ?_
   refine ent_nil ?_
   refine ent_retc ?_
   cases H
   refine ent_pick [] (by decide) rfl ?_
   exact ret_mem (vs := [(int .i64 0), (bool false)]) rfl ⟨rfl, ⟨rfl, trivial⟩⟩ _ rfl ⟨rfl, rfl⟩
  ·rw [if_neg c38] at H
   refine ent_value_on (ov_move rfl) rfl rfl rfl (decide_eq_false c38) rfl rfl ?_
   refine ent_value_on (ov_bin rfl rfl (b_lss _ _ _)) rfl rfl rfl (decide_eq_false c38) rfl rfl ?_
   refine ent_value (ov_pick rfl rfl rfl (pick_f (decide_eq_false c38))) rfl rfl rfl ?_
   refine ent_value (ov_move rfl) rfl rfl rfl ?_
   by_cases c39 : a2 < 1
   ·rw [if_pos c39] at H
    refine ent_off rfl rfl rfl (decide_eq_true c39) rfl rfl ?_
    refine ent_off rfl rfl rfl (decide_eq_true c39) rfl rfl ?_
    refine ent_off rfl rfl rfl (decide_eq_true c39) rfl rfl ?_
    refine ent_off rfl rfl rfl (decide_eq_true c39) rfl rfl ?_
    refine ent_off rfl rfl rfl (decide_eq_true c39) rfl rfl ?_
    refine ent_value (ov_pick rfl rfl rfl (pick_t (decide_eq_true c39))) rfl rfl rfl ?_
    refine ent_nil ?_
    refine ent_cond_true rfl rfl ?_
    refine ent_seq ?_
    refine ent_region ?_
    refine ent_value (ov_assign rfl) rfl rfl rfl ?_
    refine ent_value (ov_assign rfl) rfl rfl rfl ?_
    refine ent_nil ?_
    refine ent_retc ?_
    cases H
    refine ent_pick [] (by decide) rfl ?_
    exact ret_mem (vs := [(int .i64 0), (bool false)]) rfl ⟨rfl, ⟨rfl, trivial⟩⟩ _ rfl ⟨rfl, rfl⟩
   ·rw [if_neg c39] at H
    refine ent_value_on (ov_move rfl) rfl rfl rfl (decide_eq_false c39) rfl rfl ?_
    refine ent_value_on (ov_move rfl) rfl rfl rfl (decide_eq_false c39) rfl rfl ?_
    refine ent_value_on (ov_move rfl) rfl rfl rfl (decide_eq_false c39) rfl rfl ?_
    obtain ⟨x30, h28, H⟩ := thn_elim H
    refine ent_op_on (ot_call0 (first := []) (cap := []) (xs := [.tmp 23, .tmp 24]) rfl rfl F_call_172 rfl (ossuaryref04_Length.spec a0 a1 _ h28)) rfl rfl rfl (decide_eq_false c39) rfl rfl ?_
    rintro _ _ ⟨rfl, rfl⟩
    refine ent_value_on (ov_bin rfl rfl (b_gtr _ _ _)) rfl rfl rfl (decide_eq_false c39) rfl rfl ?_
    refine ent_value (ov_pick rfl rfl rfl (pick_f (decide_eq_false c39))) rfl rfl rfl ?_
    refine ent_nil ?_
    by_cases c40 : x30 < a2
    ·rw [if_pos c40] at H
     refine ent_cond_true rfl (decide_eq_true c40) ?_
     refine ent_seq ?_
     refine ent_region ?_
     refine ent_value (ov_assign rfl) rfl rfl rfl ?_
     refine ent_value (ov_assign rfl) rfl rfl rfl ?_
     refine ent_nil ?_
     refine ent_retc ?_
     cases H
     refine ent_pick [] (by decide) rfl ?_
     exact ret_mem (vs := [(int .i64 0), (bool false)]) rfl ⟨rfl, ⟨rfl, trivial⟩⟩ _ rfl ⟨rfl, rfl⟩
    ·rw [if_neg c40] at H
     refine ent_cond_false rfl (decide_eq_false c40) ?_
     refine ent_skip ?_
     refine ent_seq ?_
     refine ent_region ?_
     refine ent_value (ov_assign rfl) rfl rfl rfl ?_
     refine ent_nil ?_
     obtain ⟨x37, H8, H⟩ := Option.bind_eq_some_iff.1 H
     refine ent_seq_cut (fun a w => St 51 w0 F [(0, (int .i64 a0)), (1, (int .i64 a1)), (2, (int .i64 a2)), (8, (int .i64 x37))] [] a w) ?_ ?_
     ·refine ent_seq ?_
      refine ent_region ?_
      refine ent_value (ov_assign rfl) rfl rfl rfl ?_
      refine ent_nil ?_
      refine ent_block ?_
      refine ent_loop (fun k a w => ∃ i15, ∃ i16, ossuaryref04_Number_l0 K a0 k i15 i16 = some x37 ∧ St 51 w0 F [(0, (int .i64 a0)), (1, (int .i64 a1)), (2, (int .i64 a2)), (8, (int .i64 i15)), (9, (int .i64 i16))] [] a w) K ?_ ?_
      ·exact ent_fin [] (by decide) rfl (sub_cons (t := 0) rfl (sub_cons (t := 1) rfl (sub_cons (t := 2) rfl (sub_cons (t := 8) rfl (sub_cons (t := 9) rfl (sub_nil _)))))) fun a w h => ⟨_, _, H8, h⟩
      ·refine fun k => ent_exi fun i15 => ent_exi fun i16 => ent_and fun H9 => ?_
       cases k with
       | zero => exact absurd H9 (by simp [ossuaryref04_Number_l0])
       | succ k =>
        rw [ossuaryref04_Number_l0] at H9
        refine ent_seq ?_
        refine ent_seq ?_
        refine ent_region ?_
        refine ent_value (ov_move rfl) rfl rfl rfl ?_
        refine ent_value (ov_move rfl) rfl rfl rfl ?_
        refine ent_value (ov_bin rfl rfl (b_lss _ _ _)) rfl rfl rfl ?_
        refine ent_nil ?_
        by_cases c52 : i16 < a0
        ·rw [if_pos c52] at H9
         refine ent_cond_true rfl (decide_eq_true c52) ?_
         refine ent_skip ?_
         refine ent_seq ?_
         refine ent_block ?_
         refine ent_region ?_
         refine ent_value (ov_move rfl) rfl rfl rfl ?_
         refine ent_value (ov_move rfl) rfl rfl rfl ?_
         obtain ⟨x43, h40, H9⟩ := thn_elim H9
         refine ent_op (ot_call0 (first := []) (cap := []) (xs := [.tmp 34]) rfl rfl F_call_210 rfl (ossuaryref04_days.spec i16 _ h40)) rfl rfl rfl ?_
         rintro _ _ ⟨rfl, rfl⟩
         refine ent_value (ov_bin rfl rfl (b_add _ _ _) ) rfl rfl rfl ?_
         refine ent_value (ov_assign rfl) rfl rfl rfl ?_
         refine ent_nil ?_
         refine ent_region ?_
         refine ent_value (ov_move rfl) rfl rfl rfl ?_
         refine ent_value (ov_bin rfl rfl (b_add _ _ _) ) rfl rfl rfl ?_
         refine ent_value (ov_assign rfl) rfl rfl rfl ?_
         refine ent_nil ?_
         exact ent_fin [] (by decide) rfl (sub_cons (t := 0) rfl (sub_cons (t := 1) rfl (sub_cons (t := 2) rfl (sub_cons (t := 8) rfl (sub_cons (t := 9) rfl (sub_nil _)))))) fun a w h => ⟨k, Nat.lt_succ_self k, _, _, H9, h⟩
        ·rw [if_neg c52] at H9
         refine ent_cond_false rfl (decide_eq_false c52) ?_
         refine ent_exit ?_
         cases H9
         exact ent_fin [] (by decide) rfl (sub_cons (t := 0) rfl (sub_cons (t := 1) rfl (sub_cons (t := 2) rfl (sub_cons (t := 8) rfl (sub_nil _))))) fun a w h => h
     ·obtain ⟨x50, H11, H⟩ := Option.bind_eq_some_iff.1 H
      refine ent_seq_cut (fun a w => St 51 w0 F [(2, (int .i64 a2)), (8, (int .i64 x50))] [] a w) ?_ ?_
      ·refine ent_seq ?_
       refine ent_region ?_
       refine ent_value (ov_assign rfl) rfl rfl rfl ?_
       refine ent_nil ?_
       refine ent_block ?_
       refine ent_loop (fun k a w => ∃ i20, ∃ i21, ossuaryref04_Number_l1 K a0 a1 k i20 i21 = some x50 ∧ St 51 w0 F [(0, (int .i64 a0)), (1, (int .i64 a1)), (2, (int .i64 a2)), (8, (int .i64 i20)), (10, (int .i64 i21))] [] a w) K ?_ ?_
       ·exact ent_fin [] (by decide) rfl (sub_cons (t := 0) rfl (sub_cons (t := 1) rfl (sub_cons (t := 2) rfl (sub_cons (t := 8) rfl (sub_cons (t := 10) rfl (sub_nil _)))))) fun a w h => ⟨_, _, H11, h⟩
       ·refine fun k => ent_exi fun i20 => ent_exi fun i21 => ent_and fun H12 => ?_
        cases k with
        | zero => exact absurd H12 (by simp [ossuaryref04_Number_l1])
        | succ k =>
         rw [ossuaryref04_Number_l1] at H12
         refine ent_seq ?_
         refine ent_seq ?_
         refine ent_region ?_
         refine ent_value (ov_move rfl) rfl rfl rfl ?_
         refine ent_value (ov_move rfl) rfl rfl rfl ?_
         refine ent_value (ov_bin rfl rfl (b_lss _ _ _)) rfl rfl rfl ?_
         refine ent_nil ?_
         by_cases c64 : i21 < a1
         ·rw [if_pos c64] at H12
          refine ent_cond_true rfl (decide_eq_true c64) ?_
          refine ent_skip ?_
          refine ent_seq ?_
          refine ent_block ?_
          refine ent_region ?_
          refine ent_value (ov_move rfl) rfl rfl rfl ?_
          refine ent_value (ov_move rfl) rfl rfl rfl ?_
          refine ent_value (ov_move rfl) rfl rfl rfl ?_
          obtain ⟨x56, h52, H12⟩ := thn_elim H12
          refine ent_op (ot_call0 (first := []) (cap := []) (xs := [.tmp 43, .tmp 44]) rfl rfl F_call_172 rfl (ossuaryref04_Length.spec a0 i21 _ h52)) rfl rfl rfl ?_
          rintro _ _ ⟨rfl, rfl⟩
          refine ent_value (ov_bin rfl rfl (b_add _ _ _) ) rfl rfl rfl ?_
          refine ent_value (ov_assign rfl) rfl rfl rfl ?_
          refine ent_nil ?_
          refine ent_region ?_
          refine ent_value (ov_move rfl) rfl rfl rfl ?_
          refine ent_value (ov_bin rfl rfl (b_add _ _ _) ) rfl rfl rfl ?_
          refine ent_value (ov_assign rfl) rfl rfl rfl ?_
          refine ent_nil ?_
          exact ent_fin [] (by decide) rfl (sub_cons (t := 0) rfl (sub_cons (t := 1) rfl (sub_cons (t := 2) rfl (sub_cons (t := 8) rfl (sub_cons (t := 10) rfl (sub_nil _)))))) fun a w h => ⟨k, Nat.lt_succ_self k, _, _, H12, h⟩
         ·rw [if_neg c64] at H12
          refine ent_cond_false rfl (decide_eq_false c64) ?_
          refine ent_exit ?_
          cases H12
          exact ent_fin [] (by decide) rfl (sub_cons (t := 2) rfl (sub_cons (t := 8) rfl (sub_nil _))) fun a w h => h
      ·refine ent_seq ?_
       refine ent_region ?_
       refine ent_value (ov_move rfl) rfl rfl rfl ?_
       refine ent_value (ov_move rfl) rfl rfl rfl ?_
       refine ent_value (ov_bin rfl rfl (b_add _ _ _) ) rfl rfl rfl ?_
       refine ent_value (ov_bin rfl rfl (b_sub _ _ _) ) rfl rfl rfl ?_
       refine ent_value (ov_assign rfl) rfl rfl rfl ?_
       refine ent_value (ov_assign rfl) rfl rfl rfl ?_
       refine ent_nil ?_
       refine ent_retc ?_
       cases H
       refine ent_pick [] (by decide) rfl ?_
       exact ret_mem (vs := [(int .i64 (w64 ((w64 (x50 + a2)) - 1))), (bool true)]) rfl ⟨rfl, ⟨rfl, trivial⟩⟩ _ rfl ⟨rfl, rfl⟩

set_option maxRecDepth 100000 in
theorem ossuaryref04_Span.spec (K : Nat) (a0 : Int) (r : (Int × Int)) (H : ossuaryref04_Span K a0 = some r) : FnSpec Try.prog 136 [(int .i64 a0)] [] (fun v M => v = (Value.tuple #[(int .i64 r.1), (int .i64 r.2)]) ∧ M = []) := by
 unfold ossuaryref04_Span at H
 refine spec_of Try.func136 rfl 26 rfl (Nat.le_of_ble_eq_true rfl) fun F w0 => ?_
 show Ent (St 26 w0 F [(0, (int .i64 a0))] []) _
 refine ent_seq ?_
 refine ent_region ?_
 refine ent_value (ov_assign rfl) rfl rfl rfl ?_
 refine ent_value (ov_assign rfl) rfl rfl rfl ?_
 refine ent_nil ?_
 refine ent_seq ?_
 refine ent_region ?_
 refine ent_value (ov_move rfl) rfl rfl rfl ?_
 refine ent_value (ov_bin rfl rfl fun w => b_quo _ _ _ w (by decide)) rfl rfl rfl ?_
 refine ent_value (ov_bin rfl rfl (b_add _ _ _) ) rfl rfl rfl ?_
 refine ent_value (ov_assign rfl) rfl rfl rfl ?_
 refine ent_nil ?_
 refine ent_seq ?_
 refine ent_region ?_
 refine ent_value (ov_move rfl) rfl rfl rfl ?_
 refine ent_value (ov_bin rfl rfl fun w => b_rem _ _ _ w (by decide)) rfl rfl rfl ?_
 refine ent_value (ov_bin rfl rfl (b_add _ _ _) ) rfl rfl rfl ?_
 refine ent_value (ov_assign rfl) rfl rfl rfl ?_
 refine ent_nil ?_
 refine ent_seq ?_
 refine ent_region ?_
 refine ent_value (ov_move rfl) rfl rfl rfl ?_
 refine ent_value (ov_move rfl) rfl rfl rfl ?_
 obtain ⟨x3, h3, H⟩ := Option.bind_eq_some_iff.1 H
 refine ent_op (ot_call0 (first := []) (cap := []) (xs := [.tmp 15, .tmp 16, .const (int .i64 1)]) rfl rfl F_call_171 rfl (ossuaryref04_Number.spec K (w64 (1970 + (w64 (Int.tdiv a0 12)))) (w64 ((Int.tmod a0 12) + 1)) 1 _ h3)) rfl rfl rfl ?_
 rintro _ _ ⟨rfl, rfl⟩
 refine ent_value (ov_move rfl) rfl rfl rfl ?_
 refine ent_value (ov_extract rfl rfl) rfl rfl rfl ?_
 refine ent_value (ov_extract rfl rfl) rfl rfl rfl ?_
 refine ent_value (ov_assign rfl) rfl rfl rfl ?_
 refine ent_value (ov_assign rfl) rfl rfl rfl ?_
 refine ent_nil ?_
 refine ent_seq ?_
 refine ent_region ?_
 refine ent_value (ov_move rfl) rfl rfl rfl ?_
 refine ent_value (ov_move rfl) rfl rfl rfl ?_
 refine ent_value (ov_move rfl) rfl rfl rfl ?_
 refine ent_value (ov_move rfl) rfl rfl rfl ?_
 obtain ⟨x4, h4, H⟩ := thn_elim H
 refine ent_op (ot_call0 (first := []) (cap := []) (xs := [.tmp 22, .tmp 23]) rfl rfl F_call_172 rfl (ossuaryref04_Length.spec (w64 (1970 + (w64 (Int.tdiv a0 12)))) (w64 ((Int.tmod a0 12) + 1)) _ h4)) rfl rfl rfl ?_
 rintro _ _ ⟨rfl, rfl⟩
 refine ent_value (ov_bin rfl rfl (b_add _ _ _) ) rfl rfl rfl ?_
 refine ent_value (ov_assign rfl) rfl rfl rfl ?_
 refine ent_value (ov_assign rfl) rfl rfl rfl ?_
 refine ent_nil ?_
 refine ent_retc ?_
 cases H
 refine ent_pick [] (by decide) rfl ?_
 exact ret_mem (vs := [(int .i64 x3.1), (int .i64 (w64 (x3.1 + x4)))]) rfl ⟨rfl, ⟨rfl, trivial⟩⟩ _ rfl ⟨rfl, rfl⟩

set_option maxRecDepth 100000 in
theorem ossuaryref19_Span.spec (K : Nat) (a0_0 : Int) (a0_1 : Int) (r : (Int × Int)) (H : ossuaryref19_Span K a0_0 a0_1 = some r) : FnSpec Try.prog 85 [(agg #[(int .i64 a0_0), (int .i64 a0_1)])] [] (fun v M => v = (Value.tuple #[(int .i64 r.1), (int .i64 r.2)]) ∧ M = []) := by
 unfold ossuaryref19_Span at H
 refine spec_of Try.func85 rfl 37 rfl (Nat.le_of_ble_eq_true rfl) fun F w0 => ?_
 show Ent (St 37 w0 F [(0, (agg #[(int .i64 a0_0), (int .i64 a0_1)]))] []) _
 refine ent_seq ?_
 refine ent_region ?_
 refine ent_op (ot_box (cs := [(int .i64 a0_0), (int .i64 a0_1)]) rfl rfl) rfl rfl rfl ?_
 rintro _ _ ⟨b2, rfl, rfl⟩
 refine ent_value (ov_assign rfl) rfl rfl rfl ?_
 refine ent_value (ov_assign rfl) rfl rfl rfl ?_
 refine ent_nil ?_
 refine ent_seq ?_
 refine ent_seq ?_
 refine ent_region ?_
 refine ent_value (ov_load_agg (vs := [(int .i64 a0_0), (int .i64 a0_1)]) rfl F_agg_63 F_size_63 (reads_boxW (i := 0) rfl)) rfl rfl rfl ?_
 obtain ⟨x5, h5, H⟩ := Option.bind_eq_some_iff.1 H
 refine ent_op (ot_call0 (first := []) (cap := []) (xs := [.tmp 6]) rfl rfl F_call_135 rfl (ossuaryref19_Right.spec K a0_0 a0_1 _ h5)) rfl rfl rfl ?_
 rintro _ _ ⟨rfl, rfl⟩
 refine ent_value (ov_un rfl (u_not _)) rfl rfl rfl ?_
 refine ent_nil ?_
 by_cases c8 : (!x5) = true
 ·rw [if_pos c8] at H
  refine ent_cond_true rfl c8 ?_
  refine ent_seq ?_
  refine ent_region ?_
  refine ent_value (ov_assign rfl) rfl rfl rfl ?_
  refine ent_value (ov_assign rfl) rfl rfl rfl ?_
  refine ent_nil ?_
  refine ent_retc ?_
  cases H
  refine ent_pick [] (by decide) rfl ?_
  exact ret_mem (vs := [(int .i64 0), (int .i64 0)]) rfl ⟨rfl, ⟨rfl, trivial⟩⟩ _ rfl ⟨rfl, rfl⟩
 ·rw [if_neg c8] at H
  refine ent_cond_false rfl (Bool.eq_false_iff.2 c8) ?_
  refine ent_skip ?_
  refine ent_seq ?_
  refine ent_seq ?_
  refine ent_region ?_
  refine ent_value (ov_fieldAddr (sz := 0) (o := 0) rfl F_field_63_0 F_size_3) rfl rfl rfl ?_
  refine ent_value (ov_load (v := (int .i64 a0_0)) rfl F_agg_3 (reads_box1 (i := 0) rfl rfl)) rfl rfl rfl ?_
  refine ent_nil ?_
  refine ent_block ?_
  refine ent_seq ?_
  refine ent_region ?_
  refine ent_value (ov_bin rfl rfl (b_eql _ _ _)) rfl rfl rfl ?_
  refine ent_value (ov_assign rfl) rfl rfl rfl ?_
  refine ent_nil ?_
  by_cases c11 : a0_0 = 1
  ·rw [if_pos c11] at H
   refine ent_cond_true rfl (eq_t c11) ?_
   refine ent_seq ?_
   refine ent_drawm 7 rfl (fun done a w => StD 37 w0 F [(0, (agg #[(int .i64 a0_0), (int .i64 a0_1)])), (1, (pt b2 0)), (6, (agg #[(int .i64 a0_0), (int .i64 a0_1)])), (7, (bool x5)), (8, (bool (!x5))), (9, (pt b2 0)), (10, (int .i64 a0_0)), (11, (bool (a0_0 == 1))), (12, (bool (a0_0 == 1)))] [(0, 13, (pt b2 1)), (1, 14, (int .i64 a0_1)), (2, 15, (pt b2 1)), (3, 16, (int .i64 a0_1)), (4, 17, (int .i64 (w64 (a0_1 + 1)))), (5, 2, (int .i64 a0_1)), (6, 3, (int .i64 (w64 (a0_1 + 1))))] done [(box b2 63 [(int .i64 a0_0), (int .i64 a0_1)])] a w) (by kernel_rfl) (by kernel_rfl) (draw_startL (sub_cons (t := 0) rfl (sub_cons (t := 1) rfl (sub_cons (t := 6) rfl (sub_cons (t := 7) rfl (sub_cons (t := 8) rfl (sub_cons (t := 9) rfl (sub_cons (t := 10) rfl (sub_cons (t := 11) rfl (sub_cons (t := 12) rfl (sub_nil _)))))))))) rfl) ?_ ?_
   ·refine ⟨?_, ?_, ?_, ?_, ?_, ?_, ?_, trivial⟩
    ·intro done hi hc hcu
     exact draw_value (i := 0) (t := 13) (v := (pt b2 1)) rfl rfl (wanted_none rfl) (fun a => hasA_base) (ov_fieldAddr (sz := 0) (o := 0) rfl F_field_63_1 F_size_2) rfl rfl (onlyT_spec (k0 := 0) rfl rfl rfl)
    ·intro done hi hc hcu
     have d0 : done 0 = true := done_of (j := 0) hcu rfl (by decide) rfl
     exact draw_value (i := 1) (t := 14) (v := (int .i64 a0_1)) rfl rfl (wanted_none rfl) (fun a => (hasA_cons (k := 0) rfl d0 hasA_base)) (ov_load (v := (int .i64 a0_1)) rfl F_agg_2 (reads_box1 (i := 0) rfl rfl)) rfl rfl (onlyT_spec (k0 := 1) rfl rfl rfl)
    ·intro done hi hc hcu
     exact draw_value (i := 2) (t := 15) (v := (pt b2 1)) rfl rfl (wanted_none rfl) (fun a => hasA_base) (ov_fieldAddr (sz := 0) (o := 0) rfl F_field_63_1 F_size_2) rfl rfl (onlyT_spec (k0 := 2) rfl rfl rfl)
    ·intro done hi hc hcu
     have d2 : done 2 = true := done_of (j := 2) hcu rfl (by decide) rfl
     exact draw_value (i := 3) (t := 16) (v := (int .i64 a0_1)) rfl rfl (wanted_none rfl) (fun a => (hasA_cons (k := 2) rfl d2 hasA_base)) (ov_load (v := (int .i64 a0_1)) rfl F_agg_2 (reads_box1 (i := 0) rfl rfl)) rfl rfl (onlyT_spec (k0 := 3) rfl rfl rfl)
    ·intro done hi hc hcu
     have d3 : done 3 = true := done_of (j := 3) hcu rfl (by decide) rfl
     exact draw_value (i := 4) (t := 17) (v := (int .i64 (w64 (a0_1 + 1)))) rfl rfl (wanted_none rfl) (fun a => (hasA_cons (k := 3) rfl d3 hasA_base)) (ov_bin rfl rfl (b_add _ _ _) ) rfl rfl (onlyT_spec (k0 := 4) rfl rfl rfl)
    ·intro done hi hc hcu
     have d1 : done 1 = true := done_of (j := 1) hcu rfl (by decide) rfl
     exact draw_value (i := 5) (t := 2) (v := (int .i64 a0_1)) rfl rfl (wanted_none rfl) (fun a => (hasA_cons (k := 1) rfl d1 hasA_base)) (ov_assign rfl) rfl rfl (onlyT_spec (k0 := 5) rfl rfl rfl)
    ·intro done hi hc hcu
     have d4 : done 4 = true := done_of (j := 4) hcu rfl (by decide) rfl
     exact draw_value (i := 6) (t := 3) (v := (int .i64 (w64 (a0_1 + 1)))) rfl rfl (wanted_none rfl) (fun a => (hasA_cons (k := 4) rfl d4 hasA_base)) (ov_assign rfl) rfl rfl (onlyT_spec (k0 := 6) rfl rfl rfl)
   ·intro done hall
    refine draw_endL [(box b2 63 [(int .i64 a0_0), (int .i64 a0_1)])] rfl (fun a => (hasA_cons (k := 5) rfl (hall 5 (by decide)) (hasA_cons (k := 6) rfl (hall 6 (by decide)) (hasA_cons (k := 0) rfl (hall 0 (by decide)) (hasA_cons (k := 1) rfl (hall 1 (by decide)) (hasA_cons (k := 2) rfl (hall 2 (by decide)) (hasA_cons (k := 3) rfl (hall 3 (by decide)) (hasA_cons (k := 4) rfl (hall 4 (by decide)) hasA_base)))))))) ?_
    refine ent_retc ?_
    cases H
    refine ent_pick [] (by decide) rfl ?_
    exact ret_mem (vs := [(int .i64 a0_1), (int .i64 (w64 (a0_1 + 1)))]) rfl ⟨rfl, ⟨rfl, trivial⟩⟩ _ rfl ⟨rfl, rfl⟩
  ·rw [if_neg c11] at H
   refine ent_cond_false rfl (eq_f c11) ?_
   refine ent_seq ?_
   refine ent_region ?_
   refine ent_value (ov_bin rfl rfl (b_eql _ _ _)) rfl rfl rfl ?_
   refine ent_value (ov_assign rfl) rfl rfl rfl ?_
   refine ent_nil ?_
   by_cases c12 : a0_0 = 2
   ·rw [if_pos c12] at H
    refine ent_cond_true rfl (eq_t c12) ?_
    refine ent_seq ?_
    refine ent_drawm 9 rfl (fun done a w => StD 37 w0 F [(0, (agg #[(int .i64 a0_0), (int .i64 a0_1)])), (1, (pt b2 0)), (6, (agg #[(int .i64 a0_0), (int .i64 a0_1)])), (7, (bool x5)), (8, (bool (!x5))), (9, (pt b2 0)), (10, (int .i64 a0_0)), (11, (bool (a0_0 == 1))), (12, (bool (a0_0 == 1))), (18, (bool (a0_0 == 2))), (19, (bool (a0_0 == 2)))] [(0, 20, (pt b2 1)), (1, 21, (int .i64 a0_1)), (2, 22, (int .i64 (w64 (24 * a0_1)))), (3, 23, (pt b2 1)), (4, 24, (int .i64 a0_1)), (5, 25, (int .i64 (w64 (a0_1 + 1)))), (6, 26, (int .i64 (w64 (24 * (w64 (a0_1 + 1)))))), (7, 2, (int .i64 (w64 (24 * a0_1)))), (8, 3, (int .i64 (w64 (24 * (w64 (a0_1 + 1))))))] done [(box b2 63 [(int .i64 a0_0), (int .i64 a0_1)])] a w) (by kernel_rfl) (by kernel_rfl) (draw_startL (sub_cons (t := 0) rfl (sub_cons (t := 1) rfl (sub_cons (t := 6) rfl (sub_cons (t := 7) rfl (sub_cons (t := 8) rfl (sub_cons (t := 9) rfl (sub_cons (t := 10) rfl (sub_cons (t := 11) rfl (sub_cons (t := 12) rfl (sub_cons (t := 18) rfl (sub_cons (t := 19) rfl (sub_nil _)))))))))))) rfl) ?_ ?_
    ·refine ⟨?_, ?_, ?_, ?_, ?_, ?_, ?_, ?_, ?_, trivial⟩
     ·intro done hi hc hcu
      exact draw_value (i := 0) (t := 20) (v := (pt b2 1)) rfl rfl (wanted_none rfl) (fun a => hasA_base) (ov_fieldAddr (sz := 0) (o := 0) rfl F_field_63_1 F_size_2) rfl rfl (onlyT_spec (k0 := 0) rfl rfl rfl)
     ·intro done hi hc hcu
      have d0 : done 0 = true := done_of (j := 0) hcu rfl (by decide) rfl
      exact draw_value (i := 1) (t := 21) (v := (int .i64 a0_1)) rfl rfl (wanted_none rfl) (fun a => (hasA_cons (k := 0) rfl d0 hasA_base)) (ov_load (v := (int .i64 a0_1)) rfl F_agg_2 (reads_box1 (i := 0) rfl rfl)) rfl rfl (onlyT_spec (k0 := 1) rfl rfl rfl)
     ·intro done hi hc hcu
      have d1 : done 1 = true := done_of (j := 1) hcu rfl (by decide) rfl
      exact draw_value (i := 2) (t := 22) (v := (int .i64 (w64 (24 * a0_1)))) rfl rfl (wanted_none rfl) (fun a => (hasA_cons (k := 1) rfl d1 hasA_base)) (ov_bin rfl rfl (b_mul _ _ _) ) rfl rfl (onlyT_spec (k0 := 2) rfl rfl rfl)
     ·intro done hi hc hcu
      exact draw_value (i := 3) (t := 23) (v := (pt b2 1)) rfl rfl (wanted_none rfl) (fun a => hasA_base) (ov_fieldAddr (sz := 0) (o := 0) rfl F_field_63_1 F_size_2) rfl rfl (onlyT_spec (k0 := 3) rfl rfl rfl)
     ·intro done hi hc hcu
      have d3 : done 3 = true := done_of (j := 3) hcu rfl (by decide) rfl
      exact draw_value (i := 4) (t := 24) (v := (int .i64 a0_1)) rfl rfl (wanted_none rfl) (fun a => (hasA_cons (k := 3) rfl d3 hasA_base)) (ov_load (v := (int .i64 a0_1)) rfl F_agg_2 (reads_box1 (i := 0) rfl rfl)) rfl rfl (onlyT_spec (k0 := 4) rfl rfl rfl)
     ·intro done hi hc hcu
      have d4 : done 4 = true := done_of (j := 4) hcu rfl (by decide) rfl
      exact draw_value (i := 5) (t := 25) (v := (int .i64 (w64 (a0_1 + 1)))) rfl rfl (wanted_none rfl) (fun a => (hasA_cons (k := 4) rfl d4 hasA_base)) (ov_bin rfl rfl (b_add _ _ _) ) rfl rfl (onlyT_spec (k0 := 5) rfl rfl rfl)
     ·intro done hi hc hcu
      have d5 : done 5 = true := done_of (j := 5) hcu rfl (by decide) rfl
      exact draw_value (i := 6) (t := 26) (v := (int .i64 (w64 (24 * (w64 (a0_1 + 1)))))) rfl rfl (wanted_none rfl) (fun a => (hasA_cons (k := 5) rfl d5 hasA_base)) (ov_bin rfl rfl (b_mul _ _ _) ) rfl rfl (onlyT_spec (k0 := 6) rfl rfl rfl)
     ·intro done hi hc hcu
      have d2 : done 2 = true := done_of (j := 2) hcu rfl (by decide) rfl
      exact draw_value (i := 7) (t := 2) (v := (int .i64 (w64 (24 * a0_1)))) rfl rfl (wanted_none rfl) (fun a => (hasA_cons (k := 2) rfl d2 hasA_base)) (ov_assign rfl) rfl rfl (onlyT_spec (k0 := 7) rfl rfl rfl)
     ·intro done hi hc hcu
      have d6 : done 6 = true := done_of (j := 6) hcu rfl (by decide) rfl
      exact draw_value (i := 8) (t := 3) (v := (int .i64 (w64 (24 * (w64 (a0_1 + 1)))))) rfl rfl (wanted_none rfl) (fun a => (hasA_cons (k := 6) rfl d6 hasA_base)) (ov_assign rfl) rfl rfl (onlyT_spec (k0 := 8) rfl rfl rfl)
    ·intro done hall
     refine draw_endL [(box b2 63 [(int .i64 a0_0), (int .i64 a0_1)])] rfl (fun a => (hasA_cons (k := 7) rfl (hall 7 (by decide)) (hasA_cons (k := 8) rfl (hall 8 (by decide)) (hasA_cons (k := 0) rfl (hall 0 (by decide)) (hasA_cons (k := 1) rfl (hall 1 (by decide)) (hasA_cons (k := 2) rfl (hall 2 (by decide)) (hasA_cons (k := 3) rfl (hall 3 (by decide)) (hasA_cons (k := 4) rfl (hall 4 (by decide)) (hasA_cons (k := 5) rfl (hall 5 (by decide)) (hasA_cons (k := 6) rfl (hall 6 (by decide)) hasA_base)))))))))) ?_
     refine ent_retc ?_
     cases H
     refine ent_pick [] (by decide) rfl ?_
     exact ret_mem (vs := [(int .i64 (w64 (24 * a0_1))), (int .i64 (w64 (24 * (w64 (a0_1 + 1)))))]) rfl ⟨rfl, ⟨rfl, trivial⟩⟩ _ rfl ⟨rfl, rfl⟩
   ·rw [if_neg c12] at H
    refine ent_cond_false rfl (eq_f c12) ?_
    refine ent_skip ?_
    refine ent_seq ?_
    refine ent_region ?_
    refine ent_value (ov_fieldAddr (sz := 0) (o := 0) rfl F_field_63_1 F_size_2) rfl rfl rfl ?_
    refine ent_value (ov_load (v := (int .i64 a0_1)) rfl F_agg_2 (reads_box1 (i := 0) rfl rfl)) rfl rfl rfl ?_
    obtain ⟨x6, h6, H⟩ := Option.bind_eq_some_iff.1 H
    refine ent_op (ot_call0 (first := []) (cap := []) (xs := [.tmp 29]) rfl rfl F_call_136 rfl (ossuaryref04_Span.spec K a0_1 _ h6)) rfl rfl rfl ?_
    rintro _ _ ⟨rfl, rfl⟩
    refine ent_value (ov_move rfl) rfl rfl rfl ?_
    refine ent_value (ov_extract rfl rfl) rfl rfl rfl ?_
    refine ent_value (ov_extract rfl rfl) rfl rfl rfl ?_
    refine ent_value (ov_assign rfl) rfl rfl rfl ?_
    refine ent_value (ov_assign rfl) rfl rfl rfl ?_
    refine ent_nil ?_
    refine ent_seq ?_
    refine ent_region ?_
    refine ent_value (ov_move rfl) rfl rfl rfl ?_
    refine ent_value (ov_bin rfl rfl (b_mul _ _ _) ) rfl rfl rfl ?_
    refine ent_value (ov_move rfl) rfl rfl rfl ?_
    refine ent_value (ov_bin rfl rfl (b_mul _ _ _) ) rfl rfl rfl ?_
    refine ent_value (ov_assign rfl) rfl rfl rfl ?_
    refine ent_value (ov_assign rfl) rfl rfl rfl ?_
    refine ent_nil ?_
    refine ent_retc ?_
    cases H
    refine ent_pick [] (by decide) rfl ?_
    exact ret_mem (vs := [(int .i64 (w64 (24 * x6.1))), (int .i64 (w64 (24 * x6.2)))]) rfl ⟨rfl, ⟨rfl, trivial⟩⟩ _ rfl ⟨rfl, rfl⟩

set_option maxRecDepth 100000 in
theorem ossuaryref19_Meets.spec (K : Nat) (a0_0 : Int) (a0_1 : Int) (a1_0 : Int) (a1_1 : Int) (r : Bool) (H : ossuaryref19_Meets K a0_0 a0_1 a1_0 a1_1 = some r) : FnSpec Try.prog 108 [(agg #[(int .i64 a0_0), (int .i64 a0_1)]), (agg #[(int .i64 a1_0), (int .i64 a1_1)])] [] (fun v M => v = (bool r) ∧ M = []) := by
 unfold ossuaryref19_Meets at H
 refine spec_of Try.func108 rfl 35 rfl (Nat.le_of_ble_eq_true rfl) fun F w0 => ?_
 show Ent (St 35 w0 F [(0, (agg #[(int .i64 a0_0), (int .i64 a0_1)])), (1, (agg #[(int .i64 a1_0), (int .i64 a1_1)]))] []) _
 refine ent_seq ?_
 refine ent_region ?_
 refine ent_op (ot_box (cs := [(int .i64 a0_0), (int .i64 a0_1)]) rfl rfl) rfl rfl rfl ?_
 rintro _ _ ⟨b3, rfl, rfl⟩
 refine ent_op (ot_box (cs := [(int .i64 a1_0), (int .i64 a1_1)]) rfl rfl) rfl rfl rfl ?_
 rintro _ _ ⟨b4, rfl, rfl⟩
 refine ent_value (ov_assign rfl) rfl rfl rfl ?_
 refine ent_nil ?_
 refine ent_seq ?_
 refine ent_region ?_
 refine ent_value (ov_load_agg (vs := [(int .i64 a0_0), (int .i64 a0_1)]) rfl F_agg_63 F_size_63 (reads_boxW (i := 1) rfl)) rfl rfl rfl ?_
 obtain ⟨x5, h5, H⟩ := Option.bind_eq_some_iff.1 H
 refine ent_op (ot_call0 (first := []) (cap := []) (xs := [.tmp 10]) rfl rfl F_call_85 rfl (ossuaryref19_Span.spec K a0_0 a0_1 _ h5)) rfl rfl rfl ?_
 rintro _ _ ⟨rfl, rfl⟩
 refine ent_value (ov_move rfl) rfl rfl rfl ?_
 refine ent_value (ov_extract rfl rfl) rfl rfl rfl ?_
 refine ent_value (ov_extract rfl rfl) rfl rfl rfl ?_
 refine ent_value (ov_assign rfl) rfl rfl rfl ?_
 refine ent_value (ov_assign rfl) rfl rfl rfl ?_
 refine ent_nil ?_
 refine ent_seq ?_
 refine ent_region ?_
 refine ent_value (ov_load_agg (vs := [(int .i64 a1_0), (int .i64 a1_1)]) rfl F_agg_63 F_size_63 (reads_boxW (i := 0) rfl)) rfl rfl rfl ?_
 obtain ⟨x6, h6, H⟩ := Option.bind_eq_some_iff.1 H
 refine ent_op (ot_call0 (first := []) (cap := []) (xs := [.tmp 15]) rfl rfl F_call_85 rfl (ossuaryref19_Span.spec K a1_0 a1_1 _ h6)) rfl rfl rfl ?_
 rintro _ _ ⟨rfl, rfl⟩
 refine ent_value (ov_move rfl) rfl rfl rfl ?_
 refine ent_value (ov_extract rfl rfl) rfl rfl rfl ?_
 refine ent_value (ov_extract rfl rfl) rfl rfl rfl ?_
 refine ent_value (ov_assign rfl) rfl rfl rfl ?_
 refine ent_value (ov_assign rfl) rfl rfl rfl ?_
 refine ent_nil ?_
 refine ent_seq ?_
 refine ent_region ?_
 refine ent_value (ov_load_agg (vs := [(int .i64 a0_0), (int .i64 a0_1)]) rfl F_agg_63 F_size_63 (reads_boxW (i := 1) rfl)) rfl rfl rfl ?_
 obtain ⟨x7, h7, H⟩ := Option.bind_eq_some_iff.1 H
 refine ent_op (ot_call0 (first := []) (cap := []) (xs := [.tmp 19]) rfl rfl F_call_135 rfl (ossuaryref19_Right.spec K a0_0 a0_1 _ h7)) rfl rfl rfl ?_
 rintro _ _ ⟨rfl, rfl⟩
 refine ent_value (ov_move rfl) rfl rfl rfl ?_
 by_cases c4 : x7 = true
 ·rw [if_pos c4] at H
  refine ent_value_on (ov_load_agg (vs := [(int .i64 a1_0), (int .i64 a1_1)]) rfl F_agg_63 F_size_63 (reads_boxW (i := 0) rfl)) rfl rfl rfl c4 rfl rfl ?_
  obtain ⟨x8, h8, H⟩ := Option.bind_eq_some_iff.1 H
  refine ent_op_on (ot_call0 (first := []) (cap := []) (xs := [.tmp 22]) rfl rfl F_call_135 rfl (ossuaryref19_Right.spec K a1_0 a1_1 _ h8)) rfl rfl rfl c4 rfl rfl ?_
  rintro _ _ ⟨rfl, rfl⟩
  refine ent_value (ov_pick rfl rfl rfl (pick_t c4)) rfl rfl rfl ?_
  refine ent_value (ov_move rfl) rfl rfl rfl ?_
  by_cases c5 : x8 = true
  ·rw [if_pos c5] at H
   refine ent_value_on (ov_move rfl) rfl rfl rfl c5 rfl rfl ?_
   refine ent_value_on (ov_move rfl) rfl rfl rfl c5 rfl rfl ?_
   refine ent_value_on (ov_bin rfl rfl (b_lss _ _ _)) rfl rfl rfl c5 rfl rfl ?_
   refine ent_value (ov_pick rfl rfl rfl (pick_t c5)) rfl rfl rfl ?_
   refine ent_value (ov_move rfl) rfl rfl rfl ?_
   by_cases c6 : x5.1 < x6.2
   ·rw [if_pos c6] at H
    refine ent_value_on (ov_move rfl) rfl rfl rfl (decide_eq_true c6) rfl rfl ?_
    refine ent_value_on (ov_move rfl) rfl rfl rfl (decide_eq_true c6) rfl rfl ?_
    refine ent_value_on (ov_bin rfl rfl (b_lss _ _ _)) rfl rfl rfl (decide_eq_true c6) rfl rfl ?_
    refine ent_value (ov_pick rfl rfl rfl (pick_t (decide_eq_true c6))) rfl rfl rfl ?_
    refine ent_value (ov_assign rfl) rfl rfl rfl ?_
    refine ent_nil ?_
    refine ent_retc ?_
    cases H
    refine ent_pick [] (by decide) rfl ?_
    exact ret_tmp rfl rfl ⟨rfl, rfl⟩
   ·rw [if_neg c6] at H
    refine ent_off rfl rfl rfl (decide_eq_false c6) rfl rfl ?_
    refine ent_off rfl rfl rfl (decide_eq_false c6) rfl rfl ?_
    refine ent_off rfl rfl rfl (decide_eq_false c6) rfl rfl ?_
    refine ent_value (ov_pick rfl rfl rfl (pick_f (decide_eq_false c6))) rfl rfl rfl ?_
    refine ent_value (ov_assign rfl) rfl rfl rfl ?_
    refine ent_nil ?_
    refine ent_retc ?_
    cases H
    refine ent_pick [] (by decide) rfl ?_
    exact ret_tmp rfl rfl ⟨rfl, rfl⟩
  ·rw [if_neg c5] at H
   refine ent_off rfl rfl rfl (Bool.eq_false_iff.2 c5) rfl rfl ?_
   refine ent_off rfl rfl rfl (Bool.eq_false_iff.2 c5) rfl rfl ?_
   refine ent_off rfl rfl rfl (Bool.eq_false_iff.2 c5) rfl rfl ?_
   refine ent_value (ov_pick rfl rfl rfl (pick_f (Bool.eq_false_iff.2 c5))) rfl rfl rfl ?_
   refine ent_value (ov_move rfl) rfl rfl rfl ?_
   refine ent_off rfl rfl rfl rfl rfl rfl ?_
   refine ent_off rfl rfl rfl rfl rfl rfl ?_
   refine ent_off rfl rfl rfl rfl rfl rfl ?_
   refine ent_value (ov_pick rfl rfl rfl rfl) rfl rfl rfl ?_
   refine ent_value (ov_assign rfl) rfl rfl rfl ?_
   refine ent_nil ?_
   refine ent_retc ?_
   cases H
   refine ent_pick [] (by decide) rfl ?_
   exact ret_tmp rfl rfl ⟨rfl, rfl⟩
 ·rw [if_neg c4] at H
  refine ent_off rfl rfl rfl (Bool.eq_false_iff.2 c4) rfl rfl ?_
  refine ent_off rfl rfl rfl (Bool.eq_false_iff.2 c4) rfl rfl ?_
  refine ent_value (ov_pick rfl rfl rfl (pick_f (Bool.eq_false_iff.2 c4))) rfl rfl rfl ?_
  refine ent_value (ov_move rfl) rfl rfl rfl ?_
  refine ent_off rfl rfl rfl rfl rfl rfl ?_
  refine ent_off rfl rfl rfl rfl rfl rfl ?_
  refine ent_off rfl rfl rfl rfl rfl rfl ?_
  refine ent_value (ov_pick rfl rfl rfl rfl) rfl rfl rfl ?_
  refine ent_value (ov_move rfl) rfl rfl rfl ?_
  refine ent_off rfl rfl rfl rfl rfl rfl ?_
  refine ent_off rfl rfl rfl rfl rfl rfl ?_
  refine ent_off rfl rfl rfl rfl rfl rfl ?_
  refine ent_value (ov_pick rfl rfl rfl rfl) rfl rfl rfl ?_
  refine ent_value (ov_assign rfl) rfl rfl rfl ?_
  refine ent_nil ?_
  refine ent_retc ?_
  cases H
  refine ent_pick [] (by decide) rfl ?_
  exact ret_tmp rfl rfl ⟨rfl, rfl⟩

set_option maxRecDepth 100000 in
theorem ossuaryref19_Less.spec (K : Nat) (a0_0 : Int) (a0_1 : Int) (a1_0 : Int) (a1_1 : Int) (r : Bool) (H : ossuaryref19_Less K a0_0 a0_1 a1_0 a1_1 = some r) : FnSpec Try.prog 175 [(agg #[(int .i64 a0_0), (int .i64 a0_1)]), (agg #[(int .i64 a1_0), (int .i64 a1_1)])] [] (fun v M => v = (bool r) ∧ M = []) := by
 unfold ossuaryref19_Less at H
 refine spec_of Try.func175 rfl 42 rfl (Nat.le_of_ble_eq_true rfl) fun F w0 => ?_
 show Ent (St 42 w0 F [(0, (agg #[(int .i64 a0_0), (int .i64 a0_1)])), (1, (agg #[(int .i64 a1_0), (int .i64 a1_1)]))] []) _
 refine ent_seq ?_
 refine ent_region ?_
 refine ent_op (ot_box (cs := [(int .i64 a0_0), (int .i64 a0_1)]) rfl rfl) rfl rfl rfl ?_
 rintro _ _ ⟨b3, rfl, rfl⟩
 refine ent_op (ot_box (cs := [(int .i64 a1_0), (int .i64 a1_1)]) rfl rfl) rfl rfl rfl ?_
 rintro _ _ ⟨b4, rfl, rfl⟩
 refine ent_value (ov_assign rfl) rfl rfl rfl ?_
 refine ent_nil ?_
 refine ent_seq ?_
 refine ent_region ?_
 refine ent_value (ov_load_agg (vs := [(int .i64 a0_0), (int .i64 a0_1)]) rfl F_agg_63 F_size_63 (reads_boxW (i := 1) rfl)) rfl rfl rfl ?_
 obtain ⟨x5, h5, H⟩ := Option.bind_eq_some_iff.1 H
 refine ent_op (ot_call0 (first := []) (cap := []) (xs := [.tmp 10]) rfl rfl F_call_85 rfl (ossuaryref19_Span.spec K a0_0 a0_1 _ h5)) rfl rfl rfl ?_
 rintro _ _ ⟨rfl, rfl⟩
 refine ent_value (ov_move rfl) rfl rfl rfl ?_
 refine ent_value (ov_extract rfl rfl) rfl rfl rfl ?_
 refine ent_value (ov_extract rfl rfl) rfl rfl rfl ?_
 refine ent_value (ov_assign rfl) rfl rfl rfl ?_
 refine ent_value (ov_assign rfl) rfl rfl rfl ?_
 refine ent_nil ?_
 refine ent_seq ?_
 refine ent_region ?_
 refine ent_value (ov_load_agg (vs := [(int .i64 a1_0), (int .i64 a1_1)]) rfl F_agg_63 F_size_63 (reads_boxW (i := 0) rfl)) rfl rfl rfl ?_
 obtain ⟨x6, h6, H⟩ := Option.bind_eq_some_iff.1 H
 refine ent_op (ot_call0 (first := []) (cap := []) (xs := [.tmp 15]) rfl rfl F_call_85 rfl (ossuaryref19_Span.spec K a1_0 a1_1 _ h6)) rfl rfl rfl ?_
 rintro _ _ ⟨rfl, rfl⟩
 refine ent_value (ov_move rfl) rfl rfl rfl ?_
 refine ent_value (ov_extract rfl rfl) rfl rfl rfl ?_
 refine ent_value (ov_extract rfl rfl) rfl rfl rfl ?_
 refine ent_value (ov_assign rfl) rfl rfl rfl ?_
 refine ent_value (ov_assign rfl) rfl rfl rfl ?_
 refine ent_nil ?_
 refine ent_seq ?_
 refine ent_region ?_
 refine ent_value (ov_load_agg (vs := [(int .i64 a0_0), (int .i64 a0_1)]) rfl F_agg_63 F_size_63 (reads_boxW (i := 1) rfl)) rfl rfl rfl ?_
 obtain ⟨x7, h7, H⟩ := Option.bind_eq_some_iff.1 H
 refine ent_op (ot_call0 (first := []) (cap := []) (xs := [.tmp 19]) rfl rfl F_call_135 rfl (ossuaryref19_Right.spec K a0_0 a0_1 _ h7)) rfl rfl rfl ?_
 rintro _ _ ⟨rfl, rfl⟩
 refine ent_value (ov_move rfl) rfl rfl rfl ?_
 by_cases c5 : x7 = true
 ·rw [if_pos c5] at H
  refine ent_value_on (ov_load_agg (vs := [(int .i64 a1_0), (int .i64 a1_1)]) rfl F_agg_63 F_size_63 (reads_boxW (i := 0) rfl)) rfl rfl rfl c5 rfl rfl ?_
  obtain ⟨x8, h8, H⟩ := Option.bind_eq_some_iff.1 H
  refine ent_op_on (ot_call0 (first := []) (cap := []) (xs := [.tmp 22]) rfl rfl F_call_135 rfl (ossuaryref19_Right.spec K a1_0 a1_1 _ h8)) rfl rfl rfl c5 rfl rfl ?_
  rintro _ _ ⟨rfl, rfl⟩
  refine ent_value (ov_pick rfl rfl rfl (pick_t c5)) rfl rfl rfl ?_
  refine ent_value (ov_move rfl) rfl rfl rfl ?_
  by_cases c6 : x8 = true
  ·rw [if_pos c6] at H
   refine ent_value_on (ov_move rfl) rfl rfl rfl c6 rfl rfl ?_
   refine ent_value_on (ov_move rfl) rfl rfl rfl c6 rfl rfl ?_
   refine ent_value_on (ov_bin rfl rfl (b_lss _ _ _)) rfl rfl rfl c6 rfl rfl ?_
   refine ent_value_on (ov_move rfl) rfl rfl rfl c6 rfl rfl ?_
   by_cases c7 : x5.1 < x6.1
   ·rw [if_pos c7] at H
    refine ent_off rfl rfl rfl (decide_eq_true c7) rfl rfl ?_
    refine ent_off rfl rfl rfl (decide_eq_true c7) rfl rfl ?_
    refine ent_off rfl rfl rfl (decide_eq_true c7) rfl rfl ?_
    refine ent_off rfl rfl rfl (decide_eq_true c7) rfl rfl ?_
    refine ent_offu rfl rfl rfl rfl rfl ?_
    refine ent_offu rfl rfl rfl rfl rfl ?_
    refine ent_offu rfl rfl rfl rfl rfl ?_
    refine ent_offu rfl rfl rfl rfl rfl ?_
    refine ent_offu rfl rfl rfl rfl rfl ?_
    refine ent_off rfl rfl rfl (decide_eq_true c7) rfl rfl ?_
    refine ent_value_on (ov_pick rfl rfl rfl (pick_t (decide_eq_true c7))) rfl rfl rfl c6 rfl rfl ?_
    refine ent_value (ov_pick rfl rfl rfl (pick_t c6)) rfl rfl rfl ?_
    refine ent_value (ov_assign rfl) rfl rfl rfl ?_
    refine ent_nil ?_
    refine ent_retc ?_
    cases H
    refine ent_pick [] (by decide) rfl ?_
    exact ret_tmp rfl rfl ⟨rfl, rfl⟩
   ·rw [if_neg c7] at H
    refine ent_value_on (ov_move rfl) rfl rfl rfl (decide_eq_false c7) rfl rfl ?_
    refine ent_value_on (ov_move rfl) rfl rfl rfl (decide_eq_false c7) rfl rfl ?_
    refine ent_value_on (ov_bin rfl rfl (b_eql _ _ _)) rfl rfl rfl (decide_eq_false c7) rfl rfl ?_
    refine ent_value_on (ov_move rfl) rfl rfl rfl (decide_eq_false c7) rfl rfl ?_
    by_cases c8 : x5.1 = x6.1
    ·rw [if_pos c8] at H
     refine ent_value_on (ov_fieldAddr (sz := 0) (o := 0) rfl F_field_63_0 F_size_3) rfl rfl rfl (eq_t c8) rfl rfl ?_
     refine ent_value_on (ov_load (v := (int .i64 a0_0)) rfl F_agg_3 (reads_box1 (i := 1) rfl rfl)) rfl rfl rfl (eq_t c8) rfl rfl ?_
     refine ent_value_on (ov_fieldAddr (sz := 0) (o := 0) rfl F_field_63_0 F_size_3) rfl rfl rfl (eq_t c8) rfl rfl ?_
     refine ent_value_on (ov_load (v := (int .i64 a1_0)) rfl F_agg_3 (reads_box1 (i := 0) rfl rfl)) rfl rfl rfl (eq_t c8) rfl rfl ?_
     refine ent_value_on (ov_bin rfl rfl (b_lss _ _ _)) rfl rfl rfl (eq_t c8) rfl rfl ?_
     refine ent_value_on (ov_pick rfl rfl rfl (pick_t (eq_t c8))) rfl rfl rfl (decide_eq_false c7) rfl rfl ?_
     refine ent_value_on (ov_pick rfl rfl rfl (pick_f (decide_eq_false c7))) rfl rfl rfl c6 rfl rfl ?_
     refine ent_value (ov_pick rfl rfl rfl (pick_t c6)) rfl rfl rfl ?_
     refine ent_value (ov_assign rfl) rfl rfl rfl ?_
     refine ent_nil ?_
     refine ent_retc ?_
     cases H
     refine ent_pick [] (by decide) rfl ?_
     exact ret_tmp rfl rfl ⟨rfl, rfl⟩
    ·rw [if_neg c8] at H
     refine ent_off rfl rfl rfl (eq_f c8) rfl rfl ?_
     refine ent_off rfl rfl rfl (eq_f c8) rfl rfl ?_
     refine ent_off rfl rfl rfl (eq_f c8) rfl rfl ?_
     refine ent_off rfl rfl rfl (eq_f c8) rfl rfl ?_
     refine ent_off rfl rfl rfl (eq_f c8) rfl rfl ?_
     refine ent_value_on (ov_pick rfl rfl rfl (pick_f (eq_f c8))) rfl rfl rfl (decide_eq_false c7) rfl rfl ?_
     refine ent_value_on (ov_pick rfl rfl rfl (pick_f (decide_eq_false c7))) rfl rfl rfl c6 rfl rfl ?_
     refine ent_value (ov_pick rfl rfl rfl (pick_t c6)) rfl rfl rfl ?_
     refine ent_value (ov_assign rfl) rfl rfl rfl ?_
     refine ent_nil ?_
     refine ent_retc ?_
     cases H
     refine ent_pick [] (by decide) rfl ?_
     exact ret_tmp rfl rfl ⟨rfl, rfl⟩
  ·rw [if_neg c6] at H
   refine ent_off rfl rfl rfl (Bool.eq_false_iff.2 c6) rfl rfl ?_
   refine ent_off rfl rfl rfl (Bool.eq_false_iff.2 c6) rfl rfl ?_
   refine ent_off rfl rfl rfl (Bool.eq_false_iff.2 c6) rfl rfl ?_
   refine ent_off rfl rfl rfl (Bool.eq_false_iff.2 c6) rfl rfl ?_
   refine ent_offu rfl rfl rfl rfl rfl ?_
   refine ent_offu rfl rfl rfl rfl rfl ?_
   refine ent_offu rfl rfl rfl rfl rfl ?_
   refine ent_offu rfl rfl rfl rfl rfl ?_
   refine ent_offu rfl rfl rfl rfl rfl ?_
   refine ent_offu rfl rfl rfl rfl rfl ?_
   refine ent_offu rfl rfl rfl rfl rfl ?_
   refine ent_offu rfl rfl rfl rfl rfl ?_
   refine ent_offu rfl rfl rfl rfl rfl ?_
   refine ent_offu rfl rfl rfl rfl rfl ?_
   refine ent_off rfl rfl rfl (Bool.eq_false_iff.2 c6) rfl rfl ?_
   refine ent_value (ov_pick rfl rfl rfl (pick_f (Bool.eq_false_iff.2 c6))) rfl rfl rfl ?_
   refine ent_value (ov_assign rfl) rfl rfl rfl ?_
   refine ent_nil ?_
   refine ent_retc ?_
   cases H
   refine ent_pick [] (by decide) rfl ?_
   exact ret_tmp rfl rfl ⟨rfl, rfl⟩
 ·rw [if_neg c5] at H
  refine ent_off rfl rfl rfl (Bool.eq_false_iff.2 c5) rfl rfl ?_
  refine ent_off rfl rfl rfl (Bool.eq_false_iff.2 c5) rfl rfl ?_
  refine ent_value (ov_pick rfl rfl rfl (pick_f (Bool.eq_false_iff.2 c5))) rfl rfl rfl ?_
  refine ent_value (ov_move rfl) rfl rfl rfl ?_
  refine ent_off rfl rfl rfl rfl rfl rfl ?_
  refine ent_off rfl rfl rfl rfl rfl rfl ?_
  refine ent_off rfl rfl rfl rfl rfl rfl ?_
  refine ent_off rfl rfl rfl rfl rfl rfl ?_
  refine ent_offu rfl rfl rfl rfl rfl ?_
  refine ent_offu rfl rfl rfl rfl rfl ?_
  refine ent_offu rfl rfl rfl rfl rfl ?_
  refine ent_offu rfl rfl rfl rfl rfl ?_
  refine ent_offu rfl rfl rfl rfl rfl ?_
  refine ent_offu rfl rfl rfl rfl rfl ?_
  refine ent_offu rfl rfl rfl rfl rfl ?_
  refine ent_offu rfl rfl rfl rfl rfl ?_
  refine ent_offu rfl rfl rfl rfl rfl ?_
  refine ent_offu rfl rfl rfl rfl rfl ?_
  refine ent_off rfl rfl rfl rfl rfl rfl ?_
  refine ent_value (ov_pick rfl rfl rfl rfl) rfl rfl rfl ?_
  refine ent_value (ov_assign rfl) rfl rfl rfl ?_
  refine ent_nil ?_
  refine ent_retc ?_
  cases H
  refine ent_pick [] (by decide) rfl ?_
  exact ret_tmp rfl rfl ⟨rfl, rfl⟩

set_option maxRecDepth 100000 in
theorem ossuaryref20_put_R.spec (K : Nat) (sv0 : Value) (A0 : HP) (l0 : List Api_Entry) (a1_0 : Int) (a1_1 : Int) (a1_2 : Int) (a1_3 : Int) (a1_4 : Int) (a1_5 : Bool) (hA0 : IsRd A0 sv0 l0.length 6 (fl enc_Api_Entry l0)) (r : (Int × (List Api_Entry))) (H : ossuaryref20_put_R K l0 a1_0 a1_1 a1_2 a1_3 a1_4 a1_5 = some r) : FnSpec Try.prog 139 [sv0, (agg #[(int .i64 a1_0), (int .i64 a1_1), (int .i64 a1_2), (int .i64 a1_3), (int .i64 a1_4), (bool a1_5)])] [A0] (fun v M => ∃ sv3 : Value, v = (Value.tuple #[sv3, (int .i64 r.1)]) ∧ M = [A0, (own sv3 65 6 r.2.length (fl enc_Api_Entry r.2))]) := by
 unfold ossuaryref20_put_R at H
 refine spec_of Try.func139 rfl 47 rfl (Nat.le_of_ble_eq_true rfl) fun F w0 => ?_
 show Ent (St 47 w0 F [(0, sv0), (1, (agg #[(int .i64 a1_0), (int .i64 a1_1), (int .i64 a1_2), (int .i64 a1_3), (int .i64 a1_4), (bool a1_5)]))] [A0]) _
 refine ent_seq ?_
 refine ent_region ?_
 refine ent_op (ot_box (cs := [(int .i64 a1_0), (int .i64 a1_1), (int .i64 a1_2), (int .i64 a1_3), (int .i64 a1_4), (bool a1_5)]) rfl rfl) rfl rfl rfl ?_
 rintro _ _ ⟨b3, rfl, rfl⟩
 refine ent_value (ov_assign rfl) rfl rfl rfl ?_
 refine ent_value (ov_assign rfl) rfl rfl rfl ?_
 refine ent_nil ?_
 refine ent_seq ?_
 refine ent_seq ?_
 refine ent_region ?_
 refine ent_value (ov_load_agg (vs := [(int .i64 a1_0), (int .i64 a1_1), (int .i64 a1_2), (int .i64 a1_3), (int .i64 a1_4), (bool a1_5)]) rfl F_agg_65 F_size_65 (reads_boxW (i := 0) rfl)) rfl rfl rfl ?_
 obtain ⟨x41, h40, H⟩ := Option.bind_eq_some_iff.1 H
 refine ent_op (ot_call0 (first := []) (cap := []) (xs := [.tmp 8]) rfl rfl F_call_106 rfl (ossuaryref20_Right.spec K a1_0 a1_1 a1_2 a1_3 a1_4 a1_5 _ h40)) rfl rfl rfl ?_
 rintro _ _ ⟨rfl, rfl⟩
 refine ent_value (ov_un rfl (u_not _)) rfl rfl rfl ?_
 refine ent_nil ?_
 by_cases c73 : (!x41) = true
 ·rw [if_pos c73] at H
  refine ent_cond_true rfl c73 ?_
  refine ent_seq ?_
  refine ent_region ?_
  refine ent_value (ov_assign rfl) rfl rfl rfl ?_
  refine ent_value (ov_assign rfl) rfl rfl rfl ?_
  refine ent_nil ?_
  refine ent_retc ?_
  cases H
  refine ent_ownnil 65 6 ?_
  refine ent_pick [2, 0] (by decide) rfl ?_
  exact ret_mem (vs := [(slice none 0 0), (int .i64 4)]) rfl ⟨rfl, ⟨rfl, trivial⟩⟩ _ rfl ⟨_, rfl, rfl⟩
 ·rw [if_neg c73] at H
  refine ent_cond_false rfl (Bool.eq_false_iff.2 c73) ?_
  refine ent_skip ?_
  refine ent_seq ?_
  refine ent_region ?_
  refine ent_value (ov_assign rfl) rfl rfl rfl ?_
  refine ent_nil ?_
  obtain ⟨x60, H6, H⟩ := Option.bind_eq_some_iff.1 H
  refine ent_seq_cut (fun a w => ∃ v2, x60 = Sum.inl v2 ∧ ∃ b4 : Nat, St 47 w0 F [(0, sv0), (3, (pt b4 0)), (6, (int .i64 v2))] [A0, (box b4 65 [(int .i64 a1_0), (int .i64 a1_1), (int .i64 a1_2), (int .i64 a1_3), (int .i64 a1_4), (bool a1_5)])] a w) ?_ ?_
  ·refine ent_seq ?_
   refine ent_region ?_
   refine ent_value (ov_assign rfl) rfl rfl rfl ?_
   refine ent_nil ?_
   refine ent_block ?_
   refine ent_loop (fun k a w => ∃ i10, ∃ i11, ossuaryref20_put_R_l0 K l0 a1_0 a1_1 k i10 i11 = some x60 ∧ St 47 w0 F [(0, sv0), (3, (pt b3 0)), (6, (int .i64 i10)), (7, (int .i64 i11))] [A0, (box b3 65 [(int .i64 a1_0), (int .i64 a1_1), (int .i64 a1_2), (int .i64 a1_3), (int .i64 a1_4), (bool a1_5)])] a w) K ?_ ?_
   ·exact ent_fin [1, 0] (by decide) rfl (sub_cons (t := 0) rfl (sub_cons (t := 3) rfl (sub_cons (t := 6) rfl (sub_cons (t := 7) rfl (sub_nil _))))) fun a w h => ⟨_, _, H6, h⟩
   ·refine fun k => ent_exi fun i10 => ent_exi fun i11 => ent_and fun H7 => ?_
    cases k with
    | zero => exact absurd H7 (by simp [ossuaryref20_put_R_l0])
    | succ k =>
     rw [ossuaryref20_put_R_l0] at H7
     refine ent_seq ?_
     refine ent_seq ?_
     refine ent_region ?_
     refine ent_value (ov_move rfl) rfl rfl rfl ?_
     refine ent_value (ov_move rfl) rfl rfl rfl ?_
     refine ent_value (ov_len 0 rfl F_slice_53 rfl hA0) rfl rfl rfl ?_
     refine ent_value (ov_bin rfl rfl (b_lss _ _ _)) rfl rfl rfl ?_
     refine ent_nil ?_
     by_cases c127 : i11 < (l0.length : Int)
     ·rw [if_pos c127] at H7
      refine ent_cond_true rfl (decide_eq_true c127) ?_
      refine ent_skip ?_
      refine ent_seq ?_
      refine ent_block ?_
      refine ent_seq ?_
      refine ent_seq ?_
      by_cases c135 : 0 ≤ i11
      ·rw [if_pos c135] at H7
       obtain ⟨x77, h75, H7⟩ := Option.bind_eq_some_iff.1 H7
       refine ent_drawm 8 rfl (fun done a w => StD 47 w0 F [(0, sv0), (3, (pt b3 0)), (6, (int .i64 i10)), (7, (int .i64 i11)), (11, (int .i64 i11)), (12, sv0), (13, (int .i64 (l0.length : Int))), (14, (bool (decide (i11 < (l0.length : Int)))))] [(0, 17, sv0), (1, 18, (int .i64 i11)), (2, 19, (eptr sv0 (i11.toNat * 6))), (3, 20, (eptr sv0 (i11.toNat * 6 + 0))), (4, 21, (agg #[(int .i64 (((l0.getD i11.toNat z_Api_Entry).Part).Tier)), (int .i64 (((l0.getD i11.toNat z_Api_Entry).Part).Index))])), (5, 22, (pt b3 0)), (6, 23, (agg #[(int .i64 a1_0), (int .i64 a1_1)])), (7, 24, (bool x77))] done [A0, (box b3 65 [(int .i64 a1_0), (int .i64 a1_1), (int .i64 a1_2), (int .i64 a1_3), (int .i64 a1_4), (bool a1_5)])] a w) (by kernel_rfl) (by kernel_rfl) (draw_startL (sub_cons (t := 0) rfl (sub_cons (t := 3) rfl (sub_cons (t := 6) rfl (sub_cons (t := 7) rfl (sub_cons (t := 11) rfl (sub_cons (t := 12) rfl (sub_cons (t := 13) rfl (sub_cons (t := 14) rfl (sub_nil _))))))))) rfl) ?_ ?_
       ·refine ⟨?_, ?_, ?_, ?_, ?_, ?_, ?_, ?_, trivial⟩
        ·intro done hi hc hcu
         exact draw_value (i := 0) (t := 17) (v := sv0) rfl rfl (wanted_none rfl) (fun a => hasA_base) (ov_move rfl) rfl rfl (onlyT_spec (k0 := 0) rfl rfl rfl)
        ·intro done hi hc hcu
         exact draw_value (i := 1) (t := 18) (v := (int .i64 i11)) rfl rfl (wanted_none rfl) (fun a => hasA_base) (ov_move rfl) rfl rfl (onlyT_spec (k0 := 1) rfl rfl rfl)
        ·intro done hi hc hcu
         have d0 : done 0 = true := done_of (j := 0) hcu rfl (by decide) rfl
         have d1 : done 1 = true := done_of (j := 1) hcu rfl (by decide) rfl
         exact draw_value (i := 2) (t := 19) (v := (eptr sv0 (i11.toNat * 6))) rfl rfl (wanted_none rfl) (fun a => (hasA_cons (k := 1) rfl d1 (hasA_cons (k := 0) rfl d0 hasA_base))) (ov_indexAddr (sz := 5) 0 rfl rfl F_slice_53 F_size_65 rfl hA0 c135 c127) rfl rfl (onlyT_spec (k0 := 2) rfl rfl rfl)
        ·intro done hi hc hcu
         have d2 : done 2 = true := done_of (j := 2) hcu rfl (by decide) rfl
         exact draw_value (i := 3) (t := 20) (v := (eptr sv0 (i11.toNat * 6 + 0))) rfl rfl (wanted_none rfl) (fun a => (hasA_cons (k := 2) rfl d2 hasA_base)) (ov_fieldAddrE (sz := 1) (k0 := i11.toNat * 6) (off := 0) 0 rfl F_field_65_0 F_size_63 rfl hA0 (fl_pos enc_Api_Entry_len (ix_lt c135 c127))) rfl rfl (onlyT_spec (k0 := 3) rfl rfl rfl)
        ·intro done hi hc hcu
         have d3 : done 3 = true := done_of (j := 3) hcu rfl (by decide) rfl
         exact draw_value (i := 4) (t := 21) (v := (agg #[(int .i64 (((l0.getD i11.toNat z_Api_Entry).Part).Tier)), (int .i64 (((l0.getD i11.toNat z_Api_Entry).Part).Index))])) rfl rfl (wanted_none rfl) (fun a => (hasA_cons (k := 3) rfl d3 hasA_base)) (ov_load_agg (vs := [(int .i64 (((l0.getD i11.toNat z_Api_Entry).Part).Tier)), (int .i64 (((l0.getD i11.toNat z_Api_Entry).Part).Index))]) rfl F_agg_63 F_size_63 (reads_rd (i := 0) rfl hA0 (by simp) (fl_read (off := 0) enc_Api_Entry_len (ix_lt c135 c127) rfl))) rfl rfl (onlyT_spec (k0 := 4) rfl rfl rfl)
        ·intro done hi hc hcu
         exact draw_value (i := 5) (t := 22) (v := (pt b3 0)) rfl rfl (wanted_none rfl) (fun a => hasA_base) (ov_fieldAddr (sz := 1) (o := 0) rfl F_field_65_0 F_size_63) rfl rfl (onlyT_spec (k0 := 5) rfl rfl rfl)
        ·intro done hi hc hcu
         have d5 : done 5 = true := done_of (j := 5) hcu rfl (by decide) rfl
         exact draw_value (i := 6) (t := 23) (v := (agg #[(int .i64 a1_0), (int .i64 a1_1)])) rfl rfl (wanted_none rfl) (fun a => (hasA_cons (k := 5) rfl d5 hasA_base)) (ov_load_agg (vs := [(int .i64 a1_0), (int .i64 a1_1)]) rfl F_agg_63 F_size_63 (reads_boxN (i := 1) rfl rfl)) rfl rfl (onlyT_spec (k0 := 6) rfl rfl rfl)
        ·intro done hi hc hcu
         have d4 : done 4 = true := done_of (j := 4) hcu rfl (by decide) rfl
         have d6 : done 6 = true := done_of (j := 6) hcu rfl (by decide) rfl
         exact draw_same (i := 7) (t := 24) (v := (bool x77)) rfl rfl (wanted_none rfl) (fun a => (hasA_cons (k := 6) rfl d6 (hasA_cons (k := 4) rfl d4 hasA_base))) (ot_call0 (first := []) (cap := []) (xs := [.tmp 21, .tmp 23]) rfl rfl F_call_108 rfl (ossuaryref19_Meets.spec K (((l0.getD i11.toNat z_Api_Entry).Part).Tier) (((l0.getD i11.toNat z_Api_Entry).Part).Index) a1_0 a1_1 _ h75)) rfl rfl (onlyT_spec (k0 := 7) rfl rfl rfl)
       ·intro done hall
        refine draw_endL [A0, (box b3 65 [(int .i64 a1_0), (int .i64 a1_1), (int .i64 a1_2), (int .i64 a1_3), (int .i64 a1_4), (bool a1_5)])] rfl (fun a => (hasA_cons (k := 0) rfl (hall 0 (by decide)) (hasA_cons (k := 1) rfl (hall 1 (by decide)) (hasA_cons (k := 2) rfl (hall 2 (by decide)) (hasA_cons (k := 3) rfl (hall 3 (by decide)) (hasA_cons (k := 4) rfl (hall 4 (by decide)) (hasA_cons (k := 5) rfl (hall 5 (by decide)) (hasA_cons (k := 6) rfl (hall 6 (by decide)) (hasA_cons (k := 7) rfl (hall 7 (by decide)) hasA_base))))))))) ?_
        by_cases c136 : x77 = true
        ·rw [if_pos c136] at H7
         refine ent_cond_true rfl c136 ?_
         refine ent_seq ?_
         refine ent_region ?_
         refine ent_value (ov_assign rfl) rfl rfl rfl ?_
         refine ent_value (ov_assign rfl) rfl rfl rfl ?_
         refine ent_nil ?_
         refine ent_retc ?_
         cases H7
         have H8 := Option.some.inj (show some _ = some _ from H)
         cases H8
         refine ent_ownnil 65 6 ?_
         refine ent_pick [1, 0] (by decide) rfl ?_
         exact ret_mem (vs := [(slice none 0 0), (int .i64 12)]) rfl ⟨rfl, ⟨rfl, trivial⟩⟩ _ rfl ⟨_, rfl, rfl⟩
        ·rw [if_neg c136] at H7
         refine ent_cond_false rfl (Bool.eq_false_iff.2 c136) ?_
         refine ent_skip ?_
         refine ent_seq ?_
         obtain ⟨x78, h76, H7⟩ := Option.bind_eq_some_iff.1 H7
         refine ent_drawm 8 rfl (fun done a w => StD 47 w0 F [(0, sv0), (3, (pt b3 0)), (6, (int .i64 i10)), (7, (int .i64 i11)), (11, (int .i64 i11)), (12, sv0), (13, (int .i64 (l0.length : Int))), (14, (bool (decide (i11 < (l0.length : Int))))), (17, sv0), (18, (int .i64 i11)), (19, (eptr sv0 (i11.toNat * 6))), (20, (eptr sv0 (i11.toNat * 6 + 0))), (21, (agg #[(int .i64 (((l0.getD i11.toNat z_Api_Entry).Part).Tier)), (int .i64 (((l0.getD i11.toNat z_Api_Entry).Part).Index))])), (22, (pt b3 0)), (23, (agg #[(int .i64 a1_0), (int .i64 a1_1)])), (24, (bool x77))] [(0, 25, sv0), (1, 26, (int .i64 i11)), (2, 27, (eptr sv0 (i11.toNat * 6))), (3, 28, (eptr sv0 (i11.toNat * 6 + 0))), (4, 29, (agg #[(int .i64 (((l0.getD i11.toNat z_Api_Entry).Part).Tier)), (int .i64 (((l0.getD i11.toNat z_Api_Entry).Part).Index))])), (5, 30, (pt b3 0)), (6, 31, (agg #[(int .i64 a1_0), (int .i64 a1_1)])), (7, 32, (bool x78))] done [A0, (box b3 65 [(int .i64 a1_0), (int .i64 a1_1), (int .i64 a1_2), (int .i64 a1_3), (int .i64 a1_4), (bool a1_5)])] a w) (by kernel_rfl) (by kernel_rfl) (draw_startL (sub_cons (t := 0) rfl (sub_cons (t := 3) rfl (sub_cons (t := 6) rfl (sub_cons (t := 7) rfl (sub_cons (t := 11) rfl (sub_cons (t := 12) rfl (sub_cons (t := 13) rfl (sub_cons (t := 14) rfl (sub_cons (t := 17) rfl (sub_cons (t := 18) rfl (sub_cons (t := 19) rfl (sub_cons (t := 20) rfl (sub_cons (t := 21) rfl (sub_cons (t := 22) rfl (sub_cons (t := 23) rfl (sub_cons (t := 24) rfl (sub_nil _))))))))))))))))) rfl) ?_ ?_
         ·refine ⟨?_, ?_, ?_, ?_, ?_, ?_, ?_, ?_, trivial⟩
          ·intro done hi hc hcu
           exact draw_value (i := 0) (t := 25) (v := sv0) rfl rfl (wanted_none rfl) (fun a => hasA_base) (ov_move rfl) rfl rfl (onlyT_spec (k0 := 0) rfl rfl rfl)
          ·intro done hi hc hcu
           exact draw_value (i := 1) (t := 26) (v := (int .i64 i11)) rfl rfl (wanted_none rfl) (fun a => hasA_base) (ov_move rfl) rfl rfl (onlyT_spec (k0 := 1) rfl rfl rfl)
          ·intro done hi hc hcu
           have d0 : done 0 = true := done_of (j := 0) hcu rfl (by decide) rfl
           have d1 : done 1 = true := done_of (j := 1) hcu rfl (by decide) rfl
           exact draw_value (i := 2) (t := 27) (v := (eptr sv0 (i11.toNat * 6))) rfl rfl (wanted_none rfl) (fun a => (hasA_cons (k := 1) rfl d1 (hasA_cons (k := 0) rfl d0 hasA_base))) (ov_indexAddr (sz := 5) 0 rfl rfl F_slice_53 F_size_65 rfl hA0 c135 c127) rfl rfl (onlyT_spec (k0 := 2) rfl rfl rfl)
          ·intro done hi hc hcu
           have d2 : done 2 = true := done_of (j := 2) hcu rfl (by decide) rfl
           exact draw_value (i := 3) (t := 28) (v := (eptr sv0 (i11.toNat * 6 + 0))) rfl rfl (wanted_none rfl) (fun a => (hasA_cons (k := 2) rfl d2 hasA_base)) (ov_fieldAddrE (sz := 1) (k0 := i11.toNat * 6) (off := 0) 0 rfl F_field_65_0 F_size_63 rfl hA0 (fl_pos enc_Api_Entry_len (ix_lt c135 c127))) rfl rfl (onlyT_spec (k0 := 3) rfl rfl rfl)
          ·intro done hi hc hcu
           have d3 : done 3 = true := done_of (j := 3) hcu rfl (by decide) rfl
           exact draw_value (i := 4) (t := 29) (v := (agg #[(int .i64 (((l0.getD i11.toNat z_Api_Entry).Part).Tier)), (int .i64 (((l0.getD i11.toNat z_Api_Entry).Part).Index))])) rfl rfl (wanted_none rfl) (fun a => (hasA_cons (k := 3) rfl d3 hasA_base)) (ov_load_agg (vs := [(int .i64 (((l0.getD i11.toNat z_Api_Entry).Part).Tier)), (int .i64 (((l0.getD i11.toNat z_Api_Entry).Part).Index))]) rfl F_agg_63 F_size_63 (reads_rd (i := 0) rfl hA0 (by simp) (fl_read (off := 0) enc_Api_Entry_len (ix_lt c135 c127) rfl))) rfl rfl (onlyT_spec (k0 := 4) rfl rfl rfl)
          ·intro done hi hc hcu
           exact draw_value (i := 5) (t := 30) (v := (pt b3 0)) rfl rfl (wanted_none rfl) (fun a => hasA_base) (ov_fieldAddr (sz := 1) (o := 0) rfl F_field_65_0 F_size_63) rfl rfl (onlyT_spec (k0 := 5) rfl rfl rfl)
          ·intro done hi hc hcu
           have d5 : done 5 = true := done_of (j := 5) hcu rfl (by decide) rfl
           exact draw_value (i := 6) (t := 31) (v := (agg #[(int .i64 a1_0), (int .i64 a1_1)])) rfl rfl (wanted_none rfl) (fun a => (hasA_cons (k := 5) rfl d5 hasA_base)) (ov_load_agg (vs := [(int .i64 a1_0), (int .i64 a1_1)]) rfl F_agg_63 F_size_63 (reads_boxN (i := 1) rfl rfl)) rfl rfl (onlyT_spec (k0 := 6) rfl rfl rfl)
          ·intro done hi hc hcu
           have d4 : done 4 = true := done_of (j := 4) hcu rfl (by decide) rfl
           have d6 : done 6 = true := done_of (j := 6) hcu rfl (by decide) rfl
           exact draw_same (i := 7) (t := 32) (v := (bool x78)) rfl rfl (wanted_none rfl) (fun a => (hasA_cons (k := 6) rfl d6 (hasA_cons (k := 4) rfl d4 hasA_base))) (ot_call0 (first := []) (cap := []) (xs := [.tmp 29, .tmp 31]) rfl rfl F_call_175 rfl (ossuaryref19_Less.spec K (((l0.getD i11.toNat z_Api_Entry).Part).Tier) (((l0.getD i11.toNat z_Api_Entry).Part).Index) a1_0 a1_1 _ h76)) rfl rfl (onlyT_spec (k0 := 7) rfl rfl rfl)
         ·intro done hall
          refine draw_endL [A0, (box b3 65 [(int .i64 a1_0), (int .i64 a1_1), (int .i64 a1_2), (int .i64 a1_3), (int .i64 a1_4), (bool a1_5)])] rfl (fun a => (hasA_cons (k := 0) rfl (hall 0 (by decide)) (hasA_cons (k := 1) rfl (hall 1 (by decide)) (hasA_cons (k := 2) rfl (hall 2 (by decide)) (hasA_cons (k := 3) rfl (hall 3 (by decide)) (hasA_cons (k := 4) rfl (hall 4 (by decide)) (hasA_cons (k := 5) rfl (hall 5 (by decide)) (hasA_cons (k := 6) rfl (hall 6 (by decide)) (hasA_cons (k := 7) rfl (hall 7 (by decide)) hasA_base))))))))) ?_
          by_cases c137 : x78 = true
          ·rw [if_pos c137] at H7
           refine ent_cond_true rfl c137 ?_
           refine ent_region ?_
           refine ent_value (ov_move rfl) rfl rfl rfl ?_
           refine ent_value (ov_bin rfl rfl (b_add _ _ _) ) rfl rfl rfl ?_
           refine ent_value (ov_assign rfl) rfl rfl rfl ?_
           refine ent_nil ?_
           refine ent_region ?_
           refine ent_value (ov_move rfl) rfl rfl rfl ?_
           refine ent_value (ov_bin rfl rfl (b_add _ _ _) ) rfl rfl rfl ?_
           refine ent_value (ov_assign rfl) rfl rfl rfl ?_
           refine ent_nil ?_
           exact ent_fin [0, 1] (by decide) rfl (sub_cons (t := 0) rfl (sub_cons (t := 3) rfl (sub_cons (t := 6) rfl (sub_cons (t := 7) rfl (sub_nil _))))) fun a w h => ⟨k, Nat.lt_succ_self k, _, _, H7, h⟩
          ·rw [if_neg c137] at H7
           refine ent_cond_false rfl (Bool.eq_false_iff.2 c137) ?_
           refine ent_skip ?_
           refine ent_region ?_
           refine ent_value (ov_move rfl) rfl rfl rfl ?_
           refine ent_value (ov_bin rfl rfl (b_add _ _ _) ) rfl rfl rfl ?_
           refine ent_value (ov_assign rfl) rfl rfl rfl ?_
           refine ent_nil ?_
           exact ent_fin [0, 1] (by decide) rfl (sub_cons (t := 0) rfl (sub_cons (t := 3) rfl (sub_cons (t := 6) rfl (sub_cons (t := 7) rfl (sub_nil _))))) fun a w h => ⟨k, Nat.lt_succ_self k, _, _, H7, h⟩
      ·rw [if_neg c135] at H7
       cases H7
     ·rw [if_neg c127] at H7
      refine ent_cond_false rfl (decide_eq_false c127) ?_
      refine ent_exit ?_
      cases H7
      exact ent_fin [0, 1] (by decide) rfl (sub_cons (t := 0) rfl (sub_cons (t := 3) rfl (sub_cons (t := 6) rfl (sub_nil _)))) fun a w h => ⟨_, rfl, _, h⟩
  ·refine ent_exi fun v2 => ent_and fun e_ => ?_
   subst e_
   rw [cas_inl] at H
   refine ent_exi fun b4 => ?_
   refine ent_seq ?_
   by_cases c138 : 0 ≤ v2
   ·rw [if_pos c138] at H
    by_cases c139 : v2 ≤ (l0.length : Int)
    ·rw [if_pos c139] at H
     by_cases c140 : (([] : List Api_Entry).length + (l0.take v2.toNat).length) * 48 ≤ 140737488355328
     ·rw [if_pos c140] at H
      by_cases c141 : ((([] : List Api_Entry) ++ (l0.take v2.toNat)).length + [(⟨(⟨a1_0, a1_1⟩ : Api_Part), a1_2, a1_3, a1_4, a1_5⟩ : Api_Entry)].length) * 48 ≤ 140737488355328
      ·rw [if_pos c141] at H
       by_cases c142 : (((([] : List Api_Entry) ++ (l0.take v2.toNat)) ++ [(⟨(⟨a1_0, a1_1⟩ : Api_Part), a1_2, a1_3, a1_4, a1_5⟩ : Api_Entry)]).length + (l0.drop v2.toNat).length) * 48 ≤ 140737488355328
       ·rw [if_pos c142] at H
        let Z74_I : (Nat → Value) → (Nat → Bool) → Act → World → Prop := fun (ga2 : Nat → Value) done a w => StD 47 w0 F [(0, sv0), (3, (pt b4 0)), (6, (int .i64 v2))] [(0, 35, (ga2 0)), (1, 36, sv0), (2, 37, (int .i64 v2)), (3, 38, (subs sv0 0 v2.toNat 6)), (4, 39, (ga2 4)), (5, 40, (agg #[(int .i64 a1_0), (int .i64 a1_1), (int .i64 a1_2), (int .i64 a1_3), (int .i64 a1_4), (bool a1_5)])), (6, 41, (ga2 6)), (7, 42, (ga2 7)), (8, 43, sv0), (9, 44, (int .i64 v2)), (10, 45, (subs sv0 v2.toNat l0.length 6)), (11, 46, (ga2 11)), (12, 4, (ga2 11)), (13, 5, (int .i64 0))] done [(sel (done 6) (own (ga2 6) 65 6 [(⟨(⟨a1_0, a1_1⟩ : Api_Part), a1_2, a1_3, a1_4, a1_5⟩ : Api_Entry)].length (fl enc_Api_Entry [(⟨(⟨a1_0, a1_1⟩ : Api_Part), a1_2, a1_3, a1_4, a1_5⟩ : Api_Entry)])) emp), (sel (done 11) (own (ga2 11) 65 6 (((([] : List Api_Entry) ++ (l0.take v2.toNat)) ++ [(⟨(⟨a1_0, a1_1⟩ : Api_Part), a1_2, a1_3, a1_4, a1_5⟩ : Api_Entry)]) ++ (l0.drop v2.toNat)).length (fl enc_Api_Entry (((([] : List Api_Entry) ++ (l0.take v2.toNat)) ++ [(⟨(⟨a1_0, a1_1⟩ : Api_Part), a1_2, a1_3, a1_4, a1_5⟩ : Api_Entry)]) ++ (l0.drop v2.toNat)))) (sel (done 7) (own (ga2 7) 65 6 ((([] : List Api_Entry) ++ (l0.take v2.toNat)) ++ [(⟨(⟨a1_0, a1_1⟩ : Api_Part), a1_2, a1_3, a1_4, a1_5⟩ : Api_Entry)]).length (fl enc_Api_Entry ((([] : List Api_Entry) ++ (l0.take v2.toNat)) ++ [(⟨(⟨a1_0, a1_1⟩ : Api_Part), a1_2, a1_3, a1_4, a1_5⟩ : Api_Entry)]))) (sel (done 4) (own (ga2 4) 65 6 (([] : List Api_Entry) ++ (l0.take v2.toNat)).length (fl enc_Api_Entry (([] : List Api_Entry) ++ (l0.take v2.toNat)))) (sel (done 0) (own (ga2 0) 65 6 ([] : List Api_Entry).length (fl enc_Api_Entry ([] : List Api_Entry))) emp)))), A0, (box b4 65 [(int .i64 a1_0), (int .i64 a1_1), (int .i64 a1_2), (int .i64 a1_3), (int .i64 a1_4), (bool a1_5)])] a w
        refine ent_drawm 14 rfl (fun done a w => ∃ ga2 : Nat → Value, Z74_I ga2 done a w) (by kernel_rfl) (by kernel_rfl) (draw_startG (T := (fun ga2 : Nat → Value => [(0, 35, (ga2 0)), (1, 36, sv0), (2, 37, (int .i64 v2)), (3, 38, (subs sv0 0 v2.toNat 6)), (4, 39, (ga2 4)), (5, 40, (agg #[(int .i64 a1_0), (int .i64 a1_1), (int .i64 a1_2), (int .i64 a1_3), (int .i64 a1_4), (bool a1_5)])), (6, 41, (ga2 6)), (7, 42, (ga2 7)), (8, 43, sv0), (9, 44, (int .i64 v2)), (10, 45, (subs sv0 v2.toNat l0.length 6)), (11, 46, (ga2 11)), (12, 4, (ga2 11)), (13, 5, (int .i64 0))])) (L' := fun ga2 : Nat → Value => [(sel false (own (ga2 6) 65 6 [(⟨(⟨a1_0, a1_1⟩ : Api_Part), a1_2, a1_3, a1_4, a1_5⟩ : Api_Entry)].length (fl enc_Api_Entry [(⟨(⟨a1_0, a1_1⟩ : Api_Part), a1_2, a1_3, a1_4, a1_5⟩ : Api_Entry)])) emp), (sel false (own (ga2 11) 65 6 (((([] : List Api_Entry) ++ (l0.take v2.toNat)) ++ [(⟨(⟨a1_0, a1_1⟩ : Api_Part), a1_2, a1_3, a1_4, a1_5⟩ : Api_Entry)]) ++ (l0.drop v2.toNat)).length (fl enc_Api_Entry (((([] : List Api_Entry) ++ (l0.take v2.toNat)) ++ [(⟨(⟨a1_0, a1_1⟩ : Api_Part), a1_2, a1_3, a1_4, a1_5⟩ : Api_Entry)]) ++ (l0.drop v2.toNat)))) (sel false (own (ga2 7) 65 6 ((([] : List Api_Entry) ++ (l0.take v2.toNat)) ++ [(⟨(⟨a1_0, a1_1⟩ : Api_Part), a1_2, a1_3, a1_4, a1_5⟩ : Api_Entry)]).length (fl enc_Api_Entry ((([] : List Api_Entry) ++ (l0.take v2.toNat)) ++ [(⟨(⟨a1_0, a1_1⟩ : Api_Part), a1_2, a1_3, a1_4, a1_5⟩ : Api_Entry)]))) (sel false (own (ga2 4) 65 6 (([] : List Api_Entry) ++ (l0.take v2.toNat)).length (fl enc_Api_Entry (([] : List Api_Entry) ++ (l0.take v2.toNat)))) (sel false (own (ga2 0) 65 6 ([] : List Api_Entry).length (fl enc_Api_Entry ([] : List Api_Entry))) emp)))), A0, (box b4 65 [(int .i64 a1_0), (int .i64 a1_1), (int .i64 a1_2), (int .i64 a1_3), (int .i64 a1_4), (bool a1_5)])]) 2 (sub_cons (t := 0) rfl (sub_cons (t := 3) rfl (sub_cons (t := 6) rfl (sub_nil _)))) (fun _ => rfl)) ?_ ?_
        ·refine ⟨?_, ?_, ?_, ?_, ?_, ?_, ?_, ?_, ?_, ?_, ?_, ?_, ?_, ?_, trivial⟩
         ·intro done hi hc hcu
          refine ent_exi (S := fun ga2 => Z74_I ga2 done) fun ga2 => ?_
          have n4 : done 4 = false := notdone_of (m := 4) hc hi rfl rfl
          have n7 : done 7 = false := notdone_of (m := 7) hc n4 rfl rfl
          have n11 : done 11 = false := notdone_of (m := 11) hc n7 rfl rfl
          refine draw_newV (i := 0) (t := 35) (x := ga2) (L := (fun (ga2 : Nat → Value) (done : Nat → Bool) => [(sel (done 6) (own (ga2 6) 65 6 [(⟨(⟨a1_0, a1_1⟩ : Api_Part), a1_2, a1_3, a1_4, a1_5⟩ : Api_Entry)].length (fl enc_Api_Entry [(⟨(⟨a1_0, a1_1⟩ : Api_Part), a1_2, a1_3, a1_4, a1_5⟩ : Api_Entry)])) emp), (sel (done 11) (own (ga2 11) 65 6 (((([] : List Api_Entry) ++ (l0.take v2.toNat)) ++ [(⟨(⟨a1_0, a1_1⟩ : Api_Part), a1_2, a1_3, a1_4, a1_5⟩ : Api_Entry)]) ++ (l0.drop v2.toNat)).length (fl enc_Api_Entry (((([] : List Api_Entry) ++ (l0.take v2.toNat)) ++ [(⟨(⟨a1_0, a1_1⟩ : Api_Part), a1_2, a1_3, a1_4, a1_5⟩ : Api_Entry)]) ++ (l0.drop v2.toNat)))) (sel (done 7) (own (ga2 7) 65 6 ((([] : List Api_Entry) ++ (l0.take v2.toNat)) ++ [(⟨(⟨a1_0, a1_1⟩ : Api_Part), a1_2, a1_3, a1_4, a1_5⟩ : Api_Entry)]).length (fl enc_Api_Entry ((([] : List Api_Entry) ++ (l0.take v2.toNat)) ++ [(⟨(⟨a1_0, a1_1⟩ : Api_Part), a1_2, a1_3, a1_4, a1_5⟩ : Api_Entry)]))) (sel (done 4) (own (ga2 4) 65 6 (([] : List Api_Entry) ++ (l0.take v2.toNat)).length (fl enc_Api_Entry (([] : List Api_Entry) ++ (l0.take v2.toNat)))) (sel (done 0) (own (ga2 0) 65 6 ([] : List Api_Entry).length (fl enc_Api_Entry ([] : List Api_Entry))) emp)))), A0, (box b4 65 [(int .i64 a1_0), (int .i64 a1_1), (int .i64 a1_2), (int .i64 a1_3), (int .i64 a1_4), (bool a1_5)])])) (T := (fun ga2 : Nat → Value => [(0, 35, (ga2 0)), (1, 36, sv0), (2, 37, (int .i64 v2)), (3, 38, (subs sv0 0 v2.toNat 6)), (4, 39, (ga2 4)), (5, 40, (agg #[(int .i64 a1_0), (int .i64 a1_1), (int .i64 a1_2), (int .i64 a1_3), (int .i64 a1_4), (bool a1_5)])), (6, 41, (ga2 6)), (7, 42, (ga2 7)), (8, 43, sv0), (9, 44, (int .i64 v2)), (10, 45, (subs sv0 v2.toNat l0.length 6)), (11, 46, (ga2 11)), (12, 4, (ga2 11)), (13, 5, (int .i64 0))])) (L2 := [(sel (done 6) (own (ga2 6) 65 6 [(⟨(⟨a1_0, a1_1⟩ : Api_Part), a1_2, a1_3, a1_4, a1_5⟩ : Api_Entry)].length (fl enc_Api_Entry [(⟨(⟨a1_0, a1_1⟩ : Api_Part), a1_2, a1_3, a1_4, a1_5⟩ : Api_Entry)])) emp), emp, A0, (box b4 65 [(int .i64 a1_0), (int .i64 a1_1), (int .i64 a1_2), (int .i64 a1_3), (int .i64 a1_4), (bool a1_5)])]) (B := fun v_ => (own v_ 65 6 ([] : List Api_Entry).length (fl enc_Api_Entry ([] : List Api_Entry)))) 1 rfl rfl (wanted_none rfl) (fun a => hasA_base) (by simp only [n4, n7, n11, hi, sel]) (ot_buildSlice (sz := 5) (xs := []) (cs := fl enc_Api_Entry ([] : List Api_Entry)) rfl rfl F_slice_53 F_size_65 F_zero_65 rfl rfl (all_size rfl) rfl (by decide)) ?_ rfl (fun v_ => ?_) rfl rfl ?_
          ·rintro _ _ rfl; rfl
          ·simp [up, upb, sel, n4, n7, n11, hi]
          ·rintro _ _ rfl
           exact (tr_this (tr_same rfl rfl (tr_same rfl rfl (tr_same rfl rfl (tr_same rfl rfl (tr_same rfl rfl (tr_same rfl rfl (tr_same rfl rfl (tr_same rfl rfl (tr_same rfl rfl (tr_same rfl rfl (tr_same rfl rfl (tr_same rfl rfl (tr_same rfl rfl tr_nil))))))))))))))
         ·intro done hi hc hcu
          refine draw_exi (I := Z74_I) fun ga2 => ?_
          exact draw_value (i := 1) (t := 36) (v := sv0) rfl rfl (wanted_none rfl) (fun a => hasA_base) (ov_move rfl) rfl rfl (onlyT_spec (k0 := 1) rfl rfl rfl)
         ·intro done hi hc hcu
          refine draw_exi (I := Z74_I) fun ga2 => ?_
          exact draw_value (i := 2) (t := 37) (v := (int .i64 v2)) rfl rfl (wanted_none rfl) (fun a => hasA_base) (ov_move rfl) rfl rfl (onlyT_spec (k0 := 2) rfl rfl rfl)
         ·intro done hi hc hcu
          refine draw_exi (I := Z74_I) fun ga2 => ?_
          have d1 : done 1 = true := done_of (j := 1) hcu rfl (by decide) rfl
          have d2 : done 2 = true := done_of (j := 2) hcu rfl (by decide) rfl
          exact draw_value (i := 3) (t := 38) (v := (subs sv0 0 v2.toNat 6)) rfl rfl (wanted_none rfl) (fun a => (hasA_cons (k := 2) rfl d2 (hasA_cons (k := 1) rfl d1 hasA_base))) (ov_slice_hi 2 rfl rfl F_slice_53 F_size_65 rfl hA0 c138 c139) rfl rfl (onlyT_spec (k0 := 3) rfl rfl rfl)
         ·intro done hi hc hcu
          refine ent_exi (S := fun ga2 => Z74_I ga2 done) fun ga2 => ?_
          have d0 : done 0 = true := done_of (j := 0) hcu rfl (by decide) rfl
          have d3 : done 3 = true := done_of (j := 3) hcu rfl (by decide) rfl
          have n7 : done 7 = false := notdone_of (m := 7) hc hi rfl rfl
          have n11 : done 11 = false := notdone_of (m := 11) hc n7 rfl rfl
          exact draw_turnI (i := 4) (t := 39) (x := ga2) (L := (fun (ga2 : Nat → Value) (done : Nat → Bool) => [(sel (done 6) (own (ga2 6) 65 6 [(⟨(⟨a1_0, a1_1⟩ : Api_Part), a1_2, a1_3, a1_4, a1_5⟩ : Api_Entry)].length (fl enc_Api_Entry [(⟨(⟨a1_0, a1_1⟩ : Api_Part), a1_2, a1_3, a1_4, a1_5⟩ : Api_Entry)])) emp), (sel (done 11) (own (ga2 11) 65 6 (((([] : List Api_Entry) ++ (l0.take v2.toNat)) ++ [(⟨(⟨a1_0, a1_1⟩ : Api_Part), a1_2, a1_3, a1_4, a1_5⟩ : Api_Entry)]) ++ (l0.drop v2.toNat)).length (fl enc_Api_Entry (((([] : List Api_Entry) ++ (l0.take v2.toNat)) ++ [(⟨(⟨a1_0, a1_1⟩ : Api_Part), a1_2, a1_3, a1_4, a1_5⟩ : Api_Entry)]) ++ (l0.drop v2.toNat)))) (sel (done 7) (own (ga2 7) 65 6 ((([] : List Api_Entry) ++ (l0.take v2.toNat)) ++ [(⟨(⟨a1_0, a1_1⟩ : Api_Part), a1_2, a1_3, a1_4, a1_5⟩ : Api_Entry)]).length (fl enc_Api_Entry ((([] : List Api_Entry) ++ (l0.take v2.toNat)) ++ [(⟨(⟨a1_0, a1_1⟩ : Api_Part), a1_2, a1_3, a1_4, a1_5⟩ : Api_Entry)]))) (sel (done 4) (own (ga2 4) 65 6 (([] : List Api_Entry) ++ (l0.take v2.toNat)).length (fl enc_Api_Entry (([] : List Api_Entry) ++ (l0.take v2.toNat)))) (sel (done 0) (own (ga2 0) 65 6 ([] : List Api_Entry).length (fl enc_Api_Entry ([] : List Api_Entry))) emp)))), A0, (box b4 65 [(int .i64 a1_0), (int .i64 a1_1), (int .i64 a1_2), (int .i64 a1_3), (int .i64 a1_4), (bool a1_5)])])) (T := (fun ga2 : Nat → Value => [(0, 35, (ga2 0)), (1, 36, sv0), (2, 37, (int .i64 v2)), (3, 38, (subs sv0 0 v2.toNat 6)), (4, 39, (ga2 4)), (5, 40, (agg #[(int .i64 a1_0), (int .i64 a1_1), (int .i64 a1_2), (int .i64 a1_3), (int .i64 a1_4), (bool a1_5)])), (6, 41, (ga2 6)), (7, 42, (ga2 7)), (8, 43, sv0), (9, 44, (int .i64 v2)), (10, 45, (subs sv0 v2.toNat l0.length 6)), (11, 46, (ga2 11)), (12, 4, (ga2 11)), (13, 5, (int .i64 0))])) (L2 := [(sel (done 6) (own (ga2 6) 65 6 [(⟨(⟨a1_0, a1_1⟩ : Api_Part), a1_2, a1_3, a1_4, a1_5⟩ : Api_Entry)].length (fl enc_Api_Entry [(⟨(⟨a1_0, a1_1⟩ : Api_Part), a1_2, a1_3, a1_4, a1_5⟩ : Api_Entry)])) emp), (own (ga2 0) 65 6 ([] : List Api_Entry).length (fl enc_Api_Entry ([] : List Api_Entry))), A0, (box b4 65 [(int .i64 a1_0), (int .i64 a1_1), (int .i64 a1_2), (int .i64 a1_3), (int .i64 a1_4), (bool a1_5)])]) rfl rfl (wanted_none rfl) (fun a => (hasA_cons (k := 3) rfl d3 (hasA_cons (k := 0) rfl d0 hasA_base))) (by simp only [d0, n7, n11, hi, sel]) (ot_appendx (sz := 5) (xs := ([] : List Api_Entry)) (ys := (l0.take v2.toNat)) 1 2 rfl rfl F_slice_53 F_size_65 F_zero_65 rfl F_bytes_65 rfl rfl rfl (isRd_take enc_Api_Entry_len hA0 (nat_le c138 c139)) rfl enc_Api_Entry_one c140) rfl rfl fun v_ M_ hM_ => ⟨upb ga2 4 v_, hM_.trans (show [(sel (done 6) (own (ga2 6) 65 6 [(⟨(⟨a1_0, a1_1⟩ : Api_Part), a1_2, a1_3, a1_4, a1_5⟩ : Api_Entry)].length (fl enc_Api_Entry [(⟨(⟨a1_0, a1_1⟩ : Api_Part), a1_2, a1_3, a1_4, a1_5⟩ : Api_Entry)])) emp), (own v_ 65 6 (([] : List Api_Entry) ++ (l0.take v2.toNat)).length (fl enc_Api_Entry (([] : List Api_Entry) ++ (l0.take v2.toNat)))), A0, (box b4 65 [(int .i64 a1_0), (int .i64 a1_1), (int .i64 a1_2), (int .i64 a1_3), (int .i64 a1_4), (bool a1_5)])] = _ by simp [up, upb, sel, d0, n7, n11, hi]), (tr_same rfl rfl (tr_same rfl rfl (tr_same rfl rfl (tr_same rfl rfl (tr_this (tr_same rfl rfl (tr_same rfl rfl (tr_same rfl rfl (tr_same rfl rfl (tr_same rfl rfl (tr_same rfl rfl (tr_same rfl rfl (tr_same rfl rfl (tr_same rfl rfl tr_nil))))))))))))))⟩
         ·intro done hi hc hcu
          refine draw_exi (I := Z74_I) fun ga2 => ?_
          exact draw_value (i := 5) (t := 40) (v := (agg #[(int .i64 a1_0), (int .i64 a1_1), (int .i64 a1_2), (int .i64 a1_3), (int .i64 a1_4), (bool a1_5)])) rfl rfl (wanted_none rfl) (fun a => hasA_base) (ov_load_agg (vs := [(int .i64 a1_0), (int .i64 a1_1), (int .i64 a1_2), (int .i64 a1_3), (int .i64 a1_4), (bool a1_5)]) rfl F_agg_65 F_size_65 (reads_boxW (i := 3) rfl)) rfl rfl (onlyT_spec (k0 := 5) rfl rfl rfl)
         ·intro done hi hc hcu
          refine ent_exi (S := fun ga2 => Z74_I ga2 done) fun ga2 => ?_
          have d5 : done 5 = true := done_of (j := 5) hcu rfl (by decide) rfl
          refine draw_newV (i := 6) (t := 41) (x := ga2) (L := (fun (ga2 : Nat → Value) (done : Nat → Bool) => [(sel (done 6) (own (ga2 6) 65 6 [(⟨(⟨a1_0, a1_1⟩ : Api_Part), a1_2, a1_3, a1_4, a1_5⟩ : Api_Entry)].length (fl enc_Api_Entry [(⟨(⟨a1_0, a1_1⟩ : Api_Part), a1_2, a1_3, a1_4, a1_5⟩ : Api_Entry)])) emp), (sel (done 11) (own (ga2 11) 65 6 (((([] : List Api_Entry) ++ (l0.take v2.toNat)) ++ [(⟨(⟨a1_0, a1_1⟩ : Api_Part), a1_2, a1_3, a1_4, a1_5⟩ : Api_Entry)]) ++ (l0.drop v2.toNat)).length (fl enc_Api_Entry (((([] : List Api_Entry) ++ (l0.take v2.toNat)) ++ [(⟨(⟨a1_0, a1_1⟩ : Api_Part), a1_2, a1_3, a1_4, a1_5⟩ : Api_Entry)]) ++ (l0.drop v2.toNat)))) (sel (done 7) (own (ga2 7) 65 6 ((([] : List Api_Entry) ++ (l0.take v2.toNat)) ++ [(⟨(⟨a1_0, a1_1⟩ : Api_Part), a1_2, a1_3, a1_4, a1_5⟩ : Api_Entry)]).length (fl enc_Api_Entry ((([] : List Api_Entry) ++ (l0.take v2.toNat)) ++ [(⟨(⟨a1_0, a1_1⟩ : Api_Part), a1_2, a1_3, a1_4, a1_5⟩ : Api_Entry)]))) (sel (done 4) (own (ga2 4) 65 6 (([] : List Api_Entry) ++ (l0.take v2.toNat)).length (fl enc_Api_Entry (([] : List Api_Entry) ++ (l0.take v2.toNat)))) (sel (done 0) (own (ga2 0) 65 6 ([] : List Api_Entry).length (fl enc_Api_Entry ([] : List Api_Entry))) emp)))), A0, (box b4 65 [(int .i64 a1_0), (int .i64 a1_1), (int .i64 a1_2), (int .i64 a1_3), (int .i64 a1_4), (bool a1_5)])])) (T := (fun ga2 : Nat → Value => [(0, 35, (ga2 0)), (1, 36, sv0), (2, 37, (int .i64 v2)), (3, 38, (subs sv0 0 v2.toNat 6)), (4, 39, (ga2 4)), (5, 40, (agg #[(int .i64 a1_0), (int .i64 a1_1), (int .i64 a1_2), (int .i64 a1_3), (int .i64 a1_4), (bool a1_5)])), (6, 41, (ga2 6)), (7, 42, (ga2 7)), (8, 43, sv0), (9, 44, (int .i64 v2)), (10, 45, (subs sv0 v2.toNat l0.length 6)), (11, 46, (ga2 11)), (12, 4, (ga2 11)), (13, 5, (int .i64 0))])) (L2 := [emp, (sel (done 11) (own (ga2 11) 65 6 (((([] : List Api_Entry) ++ (l0.take v2.toNat)) ++ [(⟨(⟨a1_0, a1_1⟩ : Api_Part), a1_2, a1_3, a1_4, a1_5⟩ : Api_Entry)]) ++ (l0.drop v2.toNat)).length (fl enc_Api_Entry (((([] : List Api_Entry) ++ (l0.take v2.toNat)) ++ [(⟨(⟨a1_0, a1_1⟩ : Api_Part), a1_2, a1_3, a1_4, a1_5⟩ : Api_Entry)]) ++ (l0.drop v2.toNat)))) (sel (done 7) (own (ga2 7) 65 6 ((([] : List Api_Entry) ++ (l0.take v2.toNat)) ++ [(⟨(⟨a1_0, a1_1⟩ : Api_Part), a1_2, a1_3, a1_4, a1_5⟩ : Api_Entry)]).length (fl enc_Api_Entry ((([] : List Api_Entry) ++ (l0.take v2.toNat)) ++ [(⟨(⟨a1_0, a1_1⟩ : Api_Part), a1_2, a1_3, a1_4, a1_5⟩ : Api_Entry)]))) (sel (done 4) (own (ga2 4) 65 6 (([] : List Api_Entry) ++ (l0.take v2.toNat)).length (fl enc_Api_Entry (([] : List Api_Entry) ++ (l0.take v2.toNat)))) (sel (done 0) (own (ga2 0) 65 6 ([] : List Api_Entry).length (fl enc_Api_Entry ([] : List Api_Entry))) emp)))), A0, (box b4 65 [(int .i64 a1_0), (int .i64 a1_1), (int .i64 a1_2), (int .i64 a1_3), (int .i64 a1_4), (bool a1_5)])]) (B := fun v_ => (own v_ 65 6 [(⟨(⟨a1_0, a1_1⟩ : Api_Part), a1_2, a1_3, a1_4, a1_5⟩ : Api_Entry)].length (fl enc_Api_Entry [(⟨(⟨a1_0, a1_1⟩ : Api_Part), a1_2, a1_3, a1_4, a1_5⟩ : Api_Entry)]))) 0 rfl rfl (wanted_none rfl) (fun a => (hasA_cons (k := 5) rfl d5 hasA_base)) (by simp only [hi, sel]) (ot_buildSlice (sz := 5) (xs := [.tmp 40]) (cs := fl enc_Api_Entry [(⟨(⟨a1_0, a1_1⟩ : Api_Part), a1_2, a1_3, a1_4, a1_5⟩ : Api_Entry)]) rfl rfl F_slice_53 F_size_65 F_zero_65 rfl rfl (all_size rfl) rfl (by decide)) ?_ rfl (fun v_ => ?_) rfl rfl ?_
          ·rintro _ _ rfl; rfl
          ·simp [up, upb, sel, hi]
          ·rintro _ _ rfl
           exact (tr_same rfl rfl (tr_same rfl rfl (tr_same rfl rfl (tr_same rfl rfl (tr_same rfl rfl (tr_same rfl rfl (tr_this (tr_same rfl rfl (tr_same rfl rfl (tr_same rfl rfl (tr_same rfl rfl (tr_same rfl rfl (tr_same rfl rfl (tr_same rfl rfl tr_nil))))))))))))))
         ·intro done hi hc hcu
          refine ent_exi (S := fun ga2 => Z74_I ga2 done) fun ga2 => ?_
          have d4 : done 4 = true := done_of (j := 4) hcu rfl (by decide) rfl
          have d6 : done 6 = true := done_of (j := 6) hcu rfl (by decide) rfl
          have d0 : done 0 = true := done_step (i := 4) (j := 0) hc d4 rfl rfl
          have n11 : done 11 = false := notdone_of (m := 11) hc hi rfl rfl
          exact draw_turnI (i := 7) (t := 42) (x := ga2) (L := (fun (ga2 : Nat → Value) (done : Nat → Bool) => [(sel (done 6) (own (ga2 6) 65 6 [(⟨(⟨a1_0, a1_1⟩ : Api_Part), a1_2, a1_3, a1_4, a1_5⟩ : Api_Entry)].length (fl enc_Api_Entry [(⟨(⟨a1_0, a1_1⟩ : Api_Part), a1_2, a1_3, a1_4, a1_5⟩ : Api_Entry)])) emp), (sel (done 11) (own (ga2 11) 65 6 (((([] : List Api_Entry) ++ (l0.take v2.toNat)) ++ [(⟨(⟨a1_0, a1_1⟩ : Api_Part), a1_2, a1_3, a1_4, a1_5⟩ : Api_Entry)]) ++ (l0.drop v2.toNat)).length (fl enc_Api_Entry (((([] : List Api_Entry) ++ (l0.take v2.toNat)) ++ [(⟨(⟨a1_0, a1_1⟩ : Api_Part), a1_2, a1_3, a1_4, a1_5⟩ : Api_Entry)]) ++ (l0.drop v2.toNat)))) (sel (done 7) (own (ga2 7) 65 6 ((([] : List Api_Entry) ++ (l0.take v2.toNat)) ++ [(⟨(⟨a1_0, a1_1⟩ : Api_Part), a1_2, a1_3, a1_4, a1_5⟩ : Api_Entry)]).length (fl enc_Api_Entry ((([] : List Api_Entry) ++ (l0.take v2.toNat)) ++ [(⟨(⟨a1_0, a1_1⟩ : Api_Part), a1_2, a1_3, a1_4, a1_5⟩ : Api_Entry)]))) (sel (done 4) (own (ga2 4) 65 6 (([] : List Api_Entry) ++ (l0.take v2.toNat)).length (fl enc_Api_Entry (([] : List Api_Entry) ++ (l0.take v2.toNat)))) (sel (done 0) (own (ga2 0) 65 6 ([] : List Api_Entry).length (fl enc_Api_Entry ([] : List Api_Entry))) emp)))), A0, (box b4 65 [(int .i64 a1_0), (int .i64 a1_1), (int .i64 a1_2), (int .i64 a1_3), (int .i64 a1_4), (bool a1_5)])])) (T := (fun ga2 : Nat → Value => [(0, 35, (ga2 0)), (1, 36, sv0), (2, 37, (int .i64 v2)), (3, 38, (subs sv0 0 v2.toNat 6)), (4, 39, (ga2 4)), (5, 40, (agg #[(int .i64 a1_0), (int .i64 a1_1), (int .i64 a1_2), (int .i64 a1_3), (int .i64 a1_4), (bool a1_5)])), (6, 41, (ga2 6)), (7, 42, (ga2 7)), (8, 43, sv0), (9, 44, (int .i64 v2)), (10, 45, (subs sv0 v2.toNat l0.length 6)), (11, 46, (ga2 11)), (12, 4, (ga2 11)), (13, 5, (int .i64 0))])) (L2 := [(own (ga2 6) 65 6 [(⟨(⟨a1_0, a1_1⟩ : Api_Part), a1_2, a1_3, a1_4, a1_5⟩ : Api_Entry)].length (fl enc_Api_Entry [(⟨(⟨a1_0, a1_1⟩ : Api_Part), a1_2, a1_3, a1_4, a1_5⟩ : Api_Entry)])), (own (ga2 4) 65 6 (([] : List Api_Entry) ++ (l0.take v2.toNat)).length (fl enc_Api_Entry (([] : List Api_Entry) ++ (l0.take v2.toNat)))), A0, (box b4 65 [(int .i64 a1_0), (int .i64 a1_1), (int .i64 a1_2), (int .i64 a1_3), (int .i64 a1_4), (bool a1_5)])]) rfl rfl (wanted_none rfl) (fun a => (hasA_cons (k := 6) rfl d6 (hasA_cons (k := 4) rfl d4 hasA_base))) (by simp only [d0, d4, d6, n11, hi, sel]) (ot_appendx (sz := 5) (xs := (([] : List Api_Entry) ++ (l0.take v2.toNat))) (ys := [(⟨(⟨a1_0, a1_1⟩ : Api_Part), a1_2, a1_3, a1_4, a1_5⟩ : Api_Entry)]) 1 0 rfl rfl F_slice_53 F_size_65 F_zero_65 rfl F_bytes_65 rfl rfl rfl (isRd_ownx 65) rfl enc_Api_Entry_one c141) rfl rfl fun v_ M_ hM_ => ⟨upb ga2 7 v_, hM_.trans (show [(own (ga2 6) 65 6 [(⟨(⟨a1_0, a1_1⟩ : Api_Part), a1_2, a1_3, a1_4, a1_5⟩ : Api_Entry)].length (fl enc_Api_Entry [(⟨(⟨a1_0, a1_1⟩ : Api_Part), a1_2, a1_3, a1_4, a1_5⟩ : Api_Entry)])), (own v_ 65 6 ((([] : List Api_Entry) ++ (l0.take v2.toNat)) ++ [(⟨(⟨a1_0, a1_1⟩ : Api_Part), a1_2, a1_3, a1_4, a1_5⟩ : Api_Entry)]).length (fl enc_Api_Entry ((([] : List Api_Entry) ++ (l0.take v2.toNat)) ++ [(⟨(⟨a1_0, a1_1⟩ : Api_Part), a1_2, a1_3, a1_4, a1_5⟩ : Api_Entry)]))), A0, (box b4 65 [(int .i64 a1_0), (int .i64 a1_1), (int .i64 a1_2), (int .i64 a1_3), (int .i64 a1_4), (bool a1_5)])] = _ by simp [up, upb, sel, d0, d4, d6, n11, hi]), (tr_same rfl rfl (tr_same rfl rfl (tr_same rfl rfl (tr_same rfl rfl (tr_same rfl rfl (tr_same rfl rfl (tr_same rfl rfl (tr_this (tr_same rfl rfl (tr_same rfl rfl (tr_same rfl rfl (tr_same rfl rfl (tr_same rfl rfl (tr_same rfl rfl tr_nil))))))))))))))⟩
         ·intro done hi hc hcu
          refine draw_exi (I := Z74_I) fun ga2 => ?_
          exact draw_value (i := 8) (t := 43) (v := sv0) rfl rfl (wanted_none rfl) (fun a => hasA_base) (ov_move rfl) rfl rfl (onlyT_spec (k0 := 8) rfl rfl rfl)
         ·intro done hi hc hcu
          refine draw_exi (I := Z74_I) fun ga2 => ?_
          exact draw_value (i := 9) (t := 44) (v := (int .i64 v2)) rfl rfl (wanted_none rfl) (fun a => hasA_base) (ov_move rfl) rfl rfl (onlyT_spec (k0 := 9) rfl rfl rfl)
         ·intro done hi hc hcu
          refine draw_exi (I := Z74_I) fun ga2 => ?_
          have d8 : done 8 = true := done_of (j := 8) hcu rfl (by decide) rfl
          have d9 : done 9 = true := done_of (j := 9) hcu rfl (by decide) rfl
          exact draw_value (i := 10) (t := 45) (v := (subs sv0 v2.toNat l0.length 6)) rfl rfl (wanted_none rfl) (fun a => (hasA_cons (k := 9) rfl d9 (hasA_cons (k := 8) rfl d8 hasA_base))) (ov_slice_lo 2 rfl rfl F_slice_53 F_size_65 rfl hA0 c138 c139) rfl rfl (onlyT_spec (k0 := 10) rfl rfl rfl)
         ·intro done hi hc hcu
          refine ent_exi (S := fun ga2 => Z74_I ga2 done) fun ga2 => ?_
          have d7 : done 7 = true := done_of (j := 7) hcu rfl (by decide) rfl
          have d10 : done 10 = true := done_of (j := 10) hcu rfl (by decide) rfl
          have d4 : done 4 = true := done_step (i := 7) (j := 4) hc d7 rfl rfl
          have d0 : done 0 = true := done_step (i := 4) (j := 0) hc d4 rfl rfl
          have n12 : done 12 = false := notdone_of (m := 12) hc hi rfl rfl
          exact draw_turnI (i := 11) (t := 46) (x := ga2) (L := (fun (ga2 : Nat → Value) (done : Nat → Bool) => [(sel (done 6) (own (ga2 6) 65 6 [(⟨(⟨a1_0, a1_1⟩ : Api_Part), a1_2, a1_3, a1_4, a1_5⟩ : Api_Entry)].length (fl enc_Api_Entry [(⟨(⟨a1_0, a1_1⟩ : Api_Part), a1_2, a1_3, a1_4, a1_5⟩ : Api_Entry)])) emp), (sel (done 11) (own (ga2 11) 65 6 (((([] : List Api_Entry) ++ (l0.take v2.toNat)) ++ [(⟨(⟨a1_0, a1_1⟩ : Api_Part), a1_2, a1_3, a1_4, a1_5⟩ : Api_Entry)]) ++ (l0.drop v2.toNat)).length (fl enc_Api_Entry (((([] : List Api_Entry) ++ (l0.take v2.toNat)) ++ [(⟨(⟨a1_0, a1_1⟩ : Api_Part), a1_2, a1_3, a1_4, a1_5⟩ : Api_Entry)]) ++ (l0.drop v2.toNat)))) (sel (done 7) (own (ga2 7) 65 6 ((([] : List Api_Entry) ++ (l0.take v2.toNat)) ++ [(⟨(⟨a1_0, a1_1⟩ : Api_Part), a1_2, a1_3, a1_4, a1_5⟩ : Api_Entry)]).length (fl enc_Api_Entry ((([] : List Api_Entry) ++ (l0.take v2.toNat)) ++ [(⟨(⟨a1_0, a1_1⟩ : Api_Part), a1_2, a1_3, a1_4, a1_5⟩ : Api_Entry)]))) (sel (done 4) (own (ga2 4) 65 6 (([] : List Api_Entry) ++ (l0.take v2.toNat)).length (fl enc_Api_Entry (([] : List Api_Entry) ++ (l0.take v2.toNat)))) (sel (done 0) (own (ga2 0) 65 6 ([] : List Api_Entry).length (fl enc_Api_Entry ([] : List Api_Entry))) emp)))), A0, (box b4 65 [(int .i64 a1_0), (int .i64 a1_1), (int .i64 a1_2), (int .i64 a1_3), (int .i64 a1_4), (bool a1_5)])])) (T := (fun ga2 : Nat → Value => [(0, 35, (ga2 0)), (1, 36, sv0), (2, 37, (int .i64 v2)), (3, 38, (subs sv0 0 v2.toNat 6)), (4, 39, (ga2 4)), (5, 40, (agg #[(int .i64 a1_0), (int .i64 a1_1), (int .i64 a1_2), (int .i64 a1_3), (int .i64 a1_4), (bool a1_5)])), (6, 41, (ga2 6)), (7, 42, (ga2 7)), (8, 43, sv0), (9, 44, (int .i64 v2)), (10, 45, (subs sv0 v2.toNat l0.length 6)), (11, 46, (ga2 11)), (12, 4, (ga2 11)), (13, 5, (int .i64 0))])) (L2 := [(sel (done 6) (own (ga2 6) 65 6 [(⟨(⟨a1_0, a1_1⟩ : Api_Part), a1_2, a1_3, a1_4, a1_5⟩ : Api_Entry)].length (fl enc_Api_Entry [(⟨(⟨a1_0, a1_1⟩ : Api_Part), a1_2, a1_3, a1_4, a1_5⟩ : Api_Entry)])) emp), (own (ga2 7) 65 6 ((([] : List Api_Entry) ++ (l0.take v2.toNat)) ++ [(⟨(⟨a1_0, a1_1⟩ : Api_Part), a1_2, a1_3, a1_4, a1_5⟩ : Api_Entry)]).length (fl enc_Api_Entry ((([] : List Api_Entry) ++ (l0.take v2.toNat)) ++ [(⟨(⟨a1_0, a1_1⟩ : Api_Part), a1_2, a1_3, a1_4, a1_5⟩ : Api_Entry)]))), A0, (box b4 65 [(int .i64 a1_0), (int .i64 a1_1), (int .i64 a1_2), (int .i64 a1_3), (int .i64 a1_4), (bool a1_5)])]) rfl rfl (wanted_none rfl) (fun a => (hasA_cons (k := 10) rfl d10 (hasA_cons (k := 7) rfl d7 hasA_base))) (by simp only [d0, d4, d7, hi, sel]) (ot_appendx (sz := 5) (xs := ((([] : List Api_Entry) ++ (l0.take v2.toNat)) ++ [(⟨(⟨a1_0, a1_1⟩ : Api_Part), a1_2, a1_3, a1_4, a1_5⟩ : Api_Entry)])) (ys := (l0.drop v2.toNat)) 1 2 rfl rfl F_slice_53 F_size_65 F_zero_65 rfl F_bytes_65 rfl rfl rfl (isRd_drop enc_Api_Entry_len hA0 (nat_le c138 c139)) rfl enc_Api_Entry_one c142) rfl rfl fun v_ M_ hM_ => ⟨upb ga2 11 v_, hM_.trans (show [(sel (done 6) (own (ga2 6) 65 6 [(⟨(⟨a1_0, a1_1⟩ : Api_Part), a1_2, a1_3, a1_4, a1_5⟩ : Api_Entry)].length (fl enc_Api_Entry [(⟨(⟨a1_0, a1_1⟩ : Api_Part), a1_2, a1_3, a1_4, a1_5⟩ : Api_Entry)])) emp), (own v_ 65 6 (((([] : List Api_Entry) ++ (l0.take v2.toNat)) ++ [(⟨(⟨a1_0, a1_1⟩ : Api_Part), a1_2, a1_3, a1_4, a1_5⟩ : Api_Entry)]) ++ (l0.drop v2.toNat)).length (fl enc_Api_Entry (((([] : List Api_Entry) ++ (l0.take v2.toNat)) ++ [(⟨(⟨a1_0, a1_1⟩ : Api_Part), a1_2, a1_3, a1_4, a1_5⟩ : Api_Entry)]) ++ (l0.drop v2.toNat)))), A0, (box b4 65 [(int .i64 a1_0), (int .i64 a1_1), (int .i64 a1_2), (int .i64 a1_3), (int .i64 a1_4), (bool a1_5)])] = _ by simp [up, upb, sel, d0, d4, d7, hi]), (tr_same rfl rfl (tr_same rfl rfl (tr_same rfl rfl (tr_same rfl rfl (tr_same rfl rfl (tr_same rfl rfl (tr_same rfl rfl (tr_same rfl rfl (tr_same rfl rfl (tr_same rfl rfl (tr_same rfl rfl (tr_this (tr_nd n12 rfl rfl (tr_same rfl rfl tr_nil))))))))))))))⟩
         ·intro done hi hc hcu
          refine draw_exi (I := Z74_I) fun ga2 => ?_
          have d11 : done 11 = true := done_of (j := 11) hcu rfl (by decide) rfl
          exact draw_value (i := 12) (t := 4) (v := (ga2 11)) rfl rfl (wanted_none rfl) (fun a => (hasA_cons (k := 11) rfl d11 hasA_base)) (ov_assign rfl) rfl rfl (onlyT_spec (k0 := 12) rfl rfl rfl)
         ·intro done hi hc hcu
          refine draw_exi (I := Z74_I) fun ga2 => ?_
          exact draw_value (i := 13) (t := 5) (v := (int .i64 0)) rfl rfl (wanted_none rfl) (fun a => hasA_base) (ov_assign rfl) rfl rfl (onlyT_spec (k0 := 13) rfl rfl rfl)
        ·intro done hall
         refine ent_exi (S := fun ga2 => Z74_I ga2 done) fun ga2 => ?_
         refine draw_endL [(own (ga2 6) 65 6 [(⟨(⟨a1_0, a1_1⟩ : Api_Part), a1_2, a1_3, a1_4, a1_5⟩ : Api_Entry)].length (fl enc_Api_Entry [(⟨(⟨a1_0, a1_1⟩ : Api_Part), a1_2, a1_3, a1_4, a1_5⟩ : Api_Entry)])), (own (ga2 11) 65 6 (((([] : List Api_Entry) ++ (l0.take v2.toNat)) ++ [(⟨(⟨a1_0, a1_1⟩ : Api_Part), a1_2, a1_3, a1_4, a1_5⟩ : Api_Entry)]) ++ (l0.drop v2.toNat)).length (fl enc_Api_Entry (((([] : List Api_Entry) ++ (l0.take v2.toNat)) ++ [(⟨(⟨a1_0, a1_1⟩ : Api_Part), a1_2, a1_3, a1_4, a1_5⟩ : Api_Entry)]) ++ (l0.drop v2.toNat)))), A0, (box b4 65 [(int .i64 a1_0), (int .i64 a1_1), (int .i64 a1_2), (int .i64 a1_3), (int .i64 a1_4), (bool a1_5)])] (by simp only [hall 0 (by decide), hall 4 (by decide), hall 6 (by decide), hall 7 (by decide), hall 11 (by decide), sel]) (fun a => (hasA_cons (k := 12) rfl (hall 12 (by decide)) (hasA_cons (k := 13) rfl (hall 13 (by decide)) (hasA_cons (k := 0) rfl (hall 0 (by decide)) (hasA_cons (k := 1) rfl (hall 1 (by decide)) (hasA_cons (k := 2) rfl (hall 2 (by decide)) (hasA_cons (k := 3) rfl (hall 3 (by decide)) (hasA_cons (k := 4) rfl (hall 4 (by decide)) (hasA_cons (k := 5) rfl (hall 5 (by decide)) (hasA_cons (k := 6) rfl (hall 6 (by decide)) (hasA_cons (k := 7) rfl (hall 7 (by decide)) (hasA_cons (k := 8) rfl (hall 8 (by decide)) (hasA_cons (k := 9) rfl (hall 9 (by decide)) (hasA_cons (k := 10) rfl (hall 10 (by decide)) (hasA_cons (k := 11) rfl (hall 11 (by decide)) hasA_base))))))))))))))) ?_
         refine ent_retc ?_
         cases H
         refine ent_pick [2, 1] (by decide) rfl ?_
         exact ret_mem (vs := [(ga2 11), (int .i64 0)]) rfl ⟨rfl, ⟨rfl, trivial⟩⟩ _ rfl ⟨_, rfl, rfl⟩
       ·rw [if_neg c142] at H
        cases H
      ·rw [if_neg c141] at H
       cases H
     ·rw [if_neg c140] at H
      cases H
    ·rw [if_neg c139] at H
     cases H
   ·rw [if_neg c138] at H
    cases H

set_option maxRecDepth 100000 in
theorem catalog_Catalog_Apply_ORR.spec (K : Nat) (p0 : Nat) (p1 : Nat) (sv0 : Value) (sv1 : Value) (A1 : HP) (sv2 : Value) (l0 : List Omap_pair__int64__api_Entry) (l1 : List Api_Part) (l2 : List Api_Entry) (hA1 : IsRd A1 sv1 l1.length 2 (fl enc_Api_Part l1)) (hA2 : IsRd A1 sv2 l2.length 6 (fl enc_Api_Entry l2)) (r : (Int × (List Omap_pair__int64__api_Entry))) (H : catalog_Catalog_Apply_ORR K l0 l1 l2 = some r) : FnSpec Try.prog 25 [(pt p0 0), (agg #[sv1, sv2])] [(box p0 139 [(pt p1 0)]), (box p1 192 [sv0]), (own sv0 196 7 l0.length (fl enc_Omap_pair__int64__api_Entry l0)), A1] (fun v M => ∃ b106 : Nat, ∃ sv66 : Value, v = (int .i64 r.1) ∧ M = [(box p0 139 [(pt b106 0)]), (box b106 192 [sv66]), (own sv66 196 7 r.2.length (fl enc_Omap_pair__int64__api_Entry r.2)), A1]) := by
 unfold catalog_Catalog_Apply_ORR at H
 refine spec_of Try.func25 rfl 67 rfl (Nat.le_of_ble_eq_true rfl) fun F w0 => ?_
 show Ent (St 67 w0 F [(0, (pt p0 0)), (1, (agg #[sv1, sv2]))] [(box p0 139 [(pt p1 0)]), (box p1 192 [sv0]), (own sv0 196 7 l0.length (fl enc_Omap_pair__int64__api_Entry l0)), A1]) _
 refine ent_seq ?_
 refine ent_region ?_
 refine ent_op (ot_box (cs := [sv1, sv2]) rfl rfl) rfl rfl rfl ?_
 rintro _ _ ⟨b107, rfl, rfl⟩
 refine ent_value (ov_assign rfl) rfl rfl rfl ?_
 refine ent_nil ?_
 refine ent_seq ?_
 refine ent_seq ?_
 refine ent_region ?_
 refine ent_value (ov_move rfl) rfl rfl rfl ?_
 refine ent_value (ov_bin rfl rfl (b_eql_of (fun w => rfl) rfl (eq_pn Try.underlying51 _ _))) rfl rfl rfl ?_
 refine ent_nil ?_
 refine ent_cond_false rfl rfl ?_
 refine ent_skip ?_
 refine ent_seq ?_
 refine ent_region ?_
 refine ent_value (ov_move rfl) rfl rfl rfl ?_
 obtain ⟨x127, h123, H⟩ := Option.bind_eq_some_iff.1 H
 refine ent_pick [1, 2, 3, 0, 4] (by decide) rfl ?_
 refine ent_op (ot_call (Lr := [(box b107 59 [sv1, sv2]), A1]) (first := []) (cap := []) (xs := [.tmp 17]) rfl rfl F_call_30 rfl (catalog_Catalog_Copy_O.spec K p0 p1 sv0 l0 _ h123) rfl) rfl rfl rfl ?_
 rintro _ _ ⟨_, ⟨b108, b109, sv67, rfl, rfl⟩, rfl⟩
 refine ent_value (ov_assign rfl) rfl rfl rfl ?_
 refine ent_nil ?_
 obtain ⟨x152, H18, H⟩ := Option.bind_eq_some_iff.1 H
 refine ent_seq_cut (fun a w => ∃ v5, x152 = Sum.inl v5 ∧ ∃ b128 : Nat, ∃ sv75 : Value, St 67 w0 F [(0, (pt p0 0)), (3, (pt b128 0)), (5, (pt b108 0))] [(box p0 139 [(pt p1 0)]), (box p1 192 [sv0]), (own sv0 196 7 l0.length (fl enc_Omap_pair__int64__api_Entry l0)), A1, (box b128 59 [sv1, sv2]), (box b108 139 [(pt b109 0)]), (box b109 192 [sv75]), (own sv75 196 7 v5.length (fl enc_Omap_pair__int64__api_Entry v5))] a w) ?_ ?_
 ·refine ent_seq ?_
  refine ent_region ?_
  refine ent_value (ov_fieldAddr (sz := 0) (o := 0) rfl F_field_59_0 F_size_56) rfl rfl rfl ?_
  refine ent_value (ov_load (v := sv1) rfl F_agg_56 (reads_box1 (i := 6) rfl rfl)) rfl rfl rfl ?_
  refine ent_value (ov_len 7 rfl F_slice_56 rfl hA1) rfl rfl rfl ?_
  refine ent_value (ov_move rfl) rfl rfl rfl ?_
  refine ent_nil ?_
  refine ent_block ?_
  refine ent_loop (fun k a w => ∃ i12, ∃ l19, ∃ sv78 : Value, catalog_Catalog_Apply_ORR_l0 K l0 l1 k i12 l19 = some x152 ∧ St 67 w0 F [(0, (pt p0 0)), (3, (pt b107 0)), (5, (pt b108 0)), (20, sv1), (21, (int .i64 (l1.length : Int))), (22, (int .i64 i12))] [(box p0 139 [(pt p1 0)]), (box p1 192 [sv0]), (own sv0 196 7 l0.length (fl enc_Omap_pair__int64__api_Entry l0)), A1, (box b107 59 [sv1, sv2]), (box b108 139 [(pt b109 0)]), (box b109 192 [sv78]), (own sv78 196 7 l19.length (fl enc_Omap_pair__int64__api_Entry l19))] a w) K ?_ ?_
  ·exact ent_fin [0, 1, 2, 7, 6, 3, 4, 5] (by decide) rfl (sub_cons (t := 0) rfl (sub_cons (t := 3) rfl (sub_cons (t := 5) rfl (sub_cons (t := 20) rfl (sub_cons (t := 21) rfl (sub_cons (t := 22) rfl (sub_nil _))))))) fun a w h => ⟨_, _, _, H18, h⟩
  ·refine fun k => ent_exi fun i12 => ent_exi fun l19 => ent_exi fun sv78 => ent_and fun H19 => ?_
   cases k with
   | zero => exact absurd H19 (by simp [catalog_Catalog_Apply_ORR_l0])
   | succ k =>
    rw [catalog_Catalog_Apply_ORR_l0] at H19
    refine ent_seq ?_
    refine ent_region ?_
    refine ent_value (ov_bin rfl rfl (b_lss _ _ _)) rfl rfl rfl ?_
    refine ent_nil ?_
    refine ent_seq ?_
    by_cases c190 : i12 < (l1.length : Int)
    ·rw [if_pos c190] at H19
     refine ent_cond_true rfl (decide_eq_true c190) ?_
     refine ent_skip ?_
     refine ent_seq ?_
     refine ent_block ?_
     refine ent_seq ?_
     refine ent_region ?_
     by_cases c194 : 0 ≤ i12
     ·rw [if_pos c194] at H19
      refine ent_value (ov_indexAddr (sz := 1) 3 rfl rfl F_slice_56 F_size_63 rfl hA1 c194 c190) rfl rfl rfl ?_
      refine ent_value (ov_load_agg (vs := [(int .i64 ((l1.getD i12.toNat z_Api_Part).Tier)), (int .i64 ((l1.getD i12.toNat z_Api_Part).Index))]) rfl F_agg_63 F_size_63 (reads_rd (i := 3) rfl hA1 (by simp) (fl_read0 enc_Api_Part_len (ix_lt c194 c190) rfl))) rfl rfl rfl ?_
      refine ent_op (ot_alloc F_zero_63) rfl rfl rfl ?_
      rintro _ _ ⟨b144, rfl, rfl⟩
      refine ent_op0 (ot_storeG (cs := [(int .i64 0), (int .i64 0)]) (cs' := [(int .i64 ((l1.getD i12.toNat z_Api_Part).Tier)), (int .i64 ((l1.getD i12.toNat z_Api_Part).Index))]) (us := [(int .i64 ((l1.getD i12.toNat z_Api_Part).Tier)), (int .i64 ((l1.getD i12.toNat z_Api_Part).Index))]) (L' := [(box b144 63 [(int .i64 ((l1.getD i12.toNat z_Api_Part).Tier)), (int .i64 ((l1.getD i12.toNat z_Api_Part).Index))]), (box p0 139 [(pt p1 0)]), (box p1 192 [sv0]), (own sv0 196 7 l0.length (fl enc_Omap_pair__int64__api_Entry l0)), A1, (box b107 59 [sv1, sv2]), (box b108 139 [(pt b109 0)]), (box b109 192 [sv78]), (own sv78 196 7 l19.length (fl enc_Omap_pair__int64__api_Entry l19))]) 0 rfl rfl rfl (one_all rfl) F_size_63 rfl rfl (by simp) rfl) rfl rfl ?_
      rintro _ _ rfl
      refine ent_nil ?_
      refine ent_seq ?_
      refine ent_seq ?_
      refine ent_region ?_
      refine ent_value (ov_move rfl) rfl rfl rfl ?_
      refine ent_value (ov_load_agg (vs := [(int .i64 ((l1.getD i12.toNat z_Api_Part).Tier)), (int .i64 ((l1.getD i12.toNat z_Api_Part).Index))]) rfl F_agg_63 F_size_63 (reads_boxW (i := 0) rfl)) rfl rfl rfl ?_
      obtain ⟨x174, h169, H19⟩ := Option.bind_eq_some_iff.1 H19
      refine ent_op (ot_call_same (Lr := [(box b144 63 [(int .i64 ((l1.getD i12.toNat z_Api_Part).Tier)), (int .i64 ((l1.getD i12.toNat z_Api_Part).Index))]), (box p0 139 [(pt p1 0)]), (box p1 192 [sv0]), (own sv0 196 7 l0.length (fl enc_Omap_pair__int64__api_Entry l0)), A1, (box b107 59 [sv1, sv2])]) [6, 7, 8, 0, 1, 2, 3, 4, 5] [3, 4, 5, 6, 7, 8, 0, 1, 2] (first := []) (cap := []) (xs := [.tmp 27, .tmp 28]) rfl rfl F_call_82 rfl (catalog_Catalog_Get_O.spec K b108 b109 sv78 l19 ((l1.getD i12.toNat z_Api_Part).Tier) ((l1.getD i12.toNat z_Api_Part).Index) _ h169) (by decide) rfl (by decide) rfl) rfl rfl rfl ?_
      rintro _ _ ⟨rfl, rfl⟩
      refine ent_value (ov_move rfl) rfl rfl rfl ?_
      refine ent_value (ov_extract rfl rfl) rfl rfl rfl ?_
      refine ent_value (ov_extract rfl rfl) rfl rfl rfl ?_
      refine ent_op (ot_alloc F_zero_65) rfl rfl rfl ?_
      rintro _ _ ⟨b146, rfl, rfl⟩
      refine ent_op0 (ot_storeG (cs := [(int .i64 0), (int .i64 0), (int .i64 0), (int .i64 0), (int .i64 0), (bool false)]) (cs' := [(int .i64 x174.1), (int .i64 x174.2.1), (int .i64 x174.2.2.1), (int .i64 x174.2.2.2.1), (int .i64 x174.2.2.2.2.1), (bool x174.2.2.2.2.2.1)]) (us := [(int .i64 x174.1), (int .i64 x174.2.1), (int .i64 x174.2.2.1), (int .i64 x174.2.2.2.1), (int .i64 x174.2.2.2.2.1), (bool x174.2.2.2.2.2.1)]) (L' := [(box b146 65 [(int .i64 x174.1), (int .i64 x174.2.1), (int .i64 x174.2.2.1), (int .i64 x174.2.2.2.1), (int .i64 x174.2.2.2.2.1), (bool x174.2.2.2.2.2.1)]), (box b144 63 [(int .i64 ((l1.getD i12.toNat z_Api_Part).Tier)), (int .i64 ((l1.getD i12.toNat z_Api_Part).Index))]), (box p0 139 [(pt p1 0)]), (box p1 192 [sv0]), (own sv0 196 7 l0.length (fl enc_Omap_pair__int64__api_Entry l0)), A1, (box b107 59 [sv1, sv2]), (box b108 139 [(pt b109 0)]), (box b109 192 [sv78]), (own sv78 196 7 l19.length (fl enc_Omap_pair__int64__api_Entry l19))]) 0 rfl rfl rfl (one_all rfl) F_size_65 rfl rfl (by simp) rfl) rfl rfl ?_
      rintro _ _ rfl
      refine ent_value (ov_assign rfl) rfl rfl rfl ?_
      refine ent_nil ?_
      refine ent_seq ?_
      refine ent_region ?_
      refine ent_value (ov_move rfl) rfl rfl rfl ?_
      refine ent_value (ov_un rfl (u_not _)) rfl rfl rfl ?_
      refine ent_nil ?_
      by_cases c196 : (!x174.2.2.2.2.2.2) = true
      ·rw [if_pos c196] at H19
       refine ent_cond_true rfl c196 ?_
       refine ent_seq ?_
       refine ent_region ?_
       refine ent_value (ov_assign rfl) rfl rfl rfl ?_
       refine ent_nil ?_
       refine ent_retc ?_
       cases H19
       have H20 := Option.some.inj (show some _ = some _ from H)
       cases H20
       refine ent_pick [2, 3, 4, 5] (by decide) rfl ?_
       exact ret_tmp rfl rfl ⟨_, _, rfl, rfl⟩
      ·rw [if_neg c196] at H19
       refine ent_cond_false rfl (Bool.eq_false_iff.2 c196) ?_
       refine ent_skip ?_
       refine ent_seq ?_
       refine ent_region ?_
       refine ent_value (ov_load_agg (vs := [(int .i64 ((l1.getD i12.toNat z_Api_Part).Tier)), (int .i64 ((l1.getD i12.toNat z_Api_Part).Index))]) rfl F_agg_63 F_size_63 (reads_boxW (i := 1) rfl)) rfl rfl rfl ?_
       obtain ⟨x175, h170, H19⟩ := thn_elim H19
       refine ent_op (ot_call0 (first := []) (cap := []) (xs := [.tmp 35]) rfl rfl F_call_35 rfl (part_Span.spec ((l1.getD i12.toNat z_Api_Part).Tier) ((l1.getD i12.toNat z_Api_Part).Index) _ h170)) rfl rfl rfl ?_
       rintro _ _ ⟨rfl, rfl⟩
       refine ent_value (ov_move rfl) rfl rfl rfl ?_
       refine ent_value (ov_extract rfl rfl) rfl rfl rfl ?_
       refine ent_value (ov_extract rfl rfl) rfl rfl rfl ?_
       refine ent_value (ov_assign rfl) rfl rfl rfl ?_
       refine ent_value (ov_assign rfl) rfl rfl rfl ?_
       refine ent_nil ?_
       refine ent_region ?_
       refine ent_value (ov_move rfl) rfl rfl rfl ?_
       refine ent_value (ov_nilCheck rfl) rfl rfl rfl ?_
       refine ent_value (ov_fieldAddr (sz := 0) (o := 0) rfl F_field_139_0 F_size_136) rfl rfl rfl ?_
       refine ent_value (ov_load (v := (pt b109 0)) rfl F_agg_136 (reads_box1 (i := 7) rfl rfl)) rfl rfl rfl ?_
       refine ent_value (ov_move rfl) rfl rfl rfl ?_
       obtain ⟨x176, h171, H19⟩ := Option.bind_eq_some_iff.1 H19
       refine ent_pick [8, 9, 0, 1, 2, 3, 4, 5, 6, 7] (by decide) rfl ?_
       refine ent_op (ot_call (Lr := [(box b146 65 [(int .i64 x174.1), (int .i64 x174.2.1), (int .i64 x174.2.2.1), (int .i64 x174.2.2.2.1), (int .i64 x174.2.2.2.2.1), (bool x174.2.2.2.2.2.1)]), (box b144 63 [(int .i64 ((l1.getD i12.toNat z_Api_Part).Tier)), (int .i64 ((l1.getD i12.toNat z_Api_Part).Index))]), (box p0 139 [(pt p1 0)]), (box p1 192 [sv0]), (own sv0 196 7 l0.length (fl enc_Omap_pair__int64__api_Entry l0)), A1, (box b107 59 [sv1, sv2]), (box b108 139 [(pt b109 0)])]) (first := []) (cap := []) (xs := [.tmp 42, .tmp 43]) rfl rfl F_call_83 rfl (omap_Map__int64__api_Entry_Drop_O.spec K b109 sv78 l19 x175.1 _ h171) rfl) rfl rfl rfl ?_
       rintro _ _ ⟨_, ⟨sv82, rfl, rfl⟩, rfl⟩
       refine ent_nil ?_
       refine ent_region ?_
       refine ent_value (ov_bin rfl rfl (b_add _ _ _) ) rfl rfl rfl ?_
       refine ent_value (ov_move rfl) rfl rfl rfl ?_
       refine ent_nil ?_
       exact ent_fin [4, 5, 6, 7, 8, 9, 0, 1] (by decide) rfl (sub_cons (t := 0) rfl (sub_cons (t := 3) rfl (sub_cons (t := 5) rfl (sub_cons (t := 20) rfl (sub_cons (t := 21) rfl (sub_cons (t := 22) rfl (sub_nil _))))))) fun a w h => ⟨k, Nat.lt_succ_self k, _, _, _, H19, h⟩
     ·rw [if_neg c194] at H19
      cases H19
    ·rw [if_neg c190] at H19
     refine ent_cond_false rfl (decide_eq_false c190) ?_
     refine ent_exit ?_
     cases H19
     exact ent_fin [0, 1, 2, 3, 4, 5, 6, 7] (by decide) rfl (sub_cons (t := 0) rfl (sub_cons (t := 3) rfl (sub_cons (t := 5) rfl (sub_nil _)))) fun a w h => ⟨_, rfl, _, _, h⟩
 ·refine ent_exi fun v5 => ent_and fun e_ => ?_
  subst e_
  rw [cas_inl] at H
  refine ent_exi fun b128 => ent_exi fun sv75 => ?_
  obtain ⟨x183, H22, H⟩ := Option.bind_eq_some_iff.1 H
  refine ent_seq_cut (fun a w => ∃ v6, x183 = Sum.inl v6 ∧ ∃ sv90 : Value, St 67 w0 F [(0, (pt p0 0)), (5, (pt b108 0))] [(box p0 139 [(pt p1 0)]), (box p1 192 [sv0]), (own sv0 196 7 l0.length (fl enc_Omap_pair__int64__api_Entry l0)), A1, (box b108 139 [(pt b109 0)]), (box b109 192 [sv90]), (own sv90 196 7 v6.length (fl enc_Omap_pair__int64__api_Entry v6))] a w) ?_ ?_
  ·refine ent_seq ?_
   refine ent_region ?_
   refine ent_value (ov_fieldAddr (sz := 0) (o := 0) rfl F_field_59_1 F_size_53) rfl rfl rfl ?_
   refine ent_value (ov_load (v := sv2) rfl F_agg_53 (reads_box1 (i := 4) rfl rfl)) rfl rfl rfl ?_
   refine ent_value (ov_len 3 rfl F_slice_53 rfl hA2) rfl rfl rfl ?_
   refine ent_value (ov_move rfl) rfl rfl rfl ?_
   refine ent_nil ?_
   refine ent_block ?_
   refine ent_loop (fun k a w => ∃ i14, ∃ l22, ∃ sv93 : Value, catalog_Catalog_Apply_ORR_l1 K l0 l2 k i14 l22 = some x183 ∧ St 67 w0 F [(0, (pt p0 0)), (5, (pt b108 0)), (47, sv2), (48, (int .i64 (l2.length : Int))), (49, (int .i64 i14))] [(box p0 139 [(pt p1 0)]), (box p1 192 [sv0]), (own sv0 196 7 l0.length (fl enc_Omap_pair__int64__api_Entry l0)), A1, (box b108 139 [(pt b109 0)]), (box b109 192 [sv93]), (own sv93 196 7 l22.length (fl enc_Omap_pair__int64__api_Entry l22))] a w) K ?_ ?_
   ·exact ent_fin [0, 1, 2, 3, 5, 6, 7] (by decide) rfl (sub_cons (t := 0) rfl (sub_cons (t := 5) rfl (sub_cons (t := 47) rfl (sub_cons (t := 48) rfl (sub_cons (t := 49) rfl (sub_nil _)))))) fun a w h => ⟨_, _, _, H22, h⟩
   ·refine fun k => ent_exi fun i14 => ent_exi fun l22 => ent_exi fun sv93 => ent_and fun H23 => ?_
    cases k with
    | zero => exact absurd H23 (by simp [catalog_Catalog_Apply_ORR_l1])
    | succ k =>
     rw [catalog_Catalog_Apply_ORR_l1] at H23
     refine ent_seq ?_
     refine ent_region ?_
     refine ent_value (ov_bin rfl rfl (b_lss _ _ _)) rfl rfl rfl ?_
     refine ent_nil ?_
     refine ent_seq ?_
     by_cases c224 : i14 < (l2.length : Int)
     ·rw [if_pos c224] at H23
      refine ent_cond_true rfl (decide_eq_true c224) ?_
      refine ent_skip ?_
      refine ent_seq ?_
      refine ent_block ?_
      refine ent_seq ?_
      refine ent_region ?_
      by_cases c227 : 0 ≤ i14
      ·rw [if_pos c227] at H23
       refine ent_value (ov_indexAddr (sz := 5) 3 rfl rfl F_slice_53 F_size_65 rfl hA2 c227 c224) rfl rfl rfl ?_
       refine ent_value (ov_load_agg (vs := [(int .i64 (((l2.getD i14.toNat z_Api_Entry).Part).Tier)), (int .i64 (((l2.getD i14.toNat z_Api_Entry).Part).Index)), (int .i64 ((l2.getD i14.toNat z_Api_Entry).Seg)), (int .i64 ((l2.getD i14.toNat z_Api_Entry).Mark)), (int .i64 ((l2.getD i14.toNat z_Api_Entry).Rows)), (bool ((l2.getD i14.toNat z_Api_Entry).Cold))]) rfl F_agg_65 F_size_65 (reads_rd (i := 3) rfl hA2 (by simp) (fl_read0 enc_Api_Entry_len (ix_lt c227 c224) rfl))) rfl rfl rfl ?_
       refine ent_op (ot_alloc F_zero_65) rfl rfl rfl ?_
       rintro _ _ ⟨b158, rfl, rfl⟩
       refine ent_op0 (ot_storeG (cs := [(int .i64 0), (int .i64 0), (int .i64 0), (int .i64 0), (int .i64 0), (bool false)]) (cs' := [(int .i64 (((l2.getD i14.toNat z_Api_Entry).Part).Tier)), (int .i64 (((l2.getD i14.toNat z_Api_Entry).Part).Index)), (int .i64 ((l2.getD i14.toNat z_Api_Entry).Seg)), (int .i64 ((l2.getD i14.toNat z_Api_Entry).Mark)), (int .i64 ((l2.getD i14.toNat z_Api_Entry).Rows)), (bool ((l2.getD i14.toNat z_Api_Entry).Cold))]) (us := [(int .i64 (((l2.getD i14.toNat z_Api_Entry).Part).Tier)), (int .i64 (((l2.getD i14.toNat z_Api_Entry).Part).Index)), (int .i64 ((l2.getD i14.toNat z_Api_Entry).Seg)), (int .i64 ((l2.getD i14.toNat z_Api_Entry).Mark)), (int .i64 ((l2.getD i14.toNat z_Api_Entry).Rows)), (bool ((l2.getD i14.toNat z_Api_Entry).Cold))]) (L' := [(box b158 65 [(int .i64 (((l2.getD i14.toNat z_Api_Entry).Part).Tier)), (int .i64 (((l2.getD i14.toNat z_Api_Entry).Part).Index)), (int .i64 ((l2.getD i14.toNat z_Api_Entry).Seg)), (int .i64 ((l2.getD i14.toNat z_Api_Entry).Mark)), (int .i64 ((l2.getD i14.toNat z_Api_Entry).Rows)), (bool ((l2.getD i14.toNat z_Api_Entry).Cold))]), (box p0 139 [(pt p1 0)]), (box p1 192 [sv0]), (own sv0 196 7 l0.length (fl enc_Omap_pair__int64__api_Entry l0)), A1, (box b108 139 [(pt b109 0)]), (box b109 192 [sv93]), (own sv93 196 7 l22.length (fl enc_Omap_pair__int64__api_Entry l22))]) 0 rfl rfl rfl (one_all rfl) F_size_65 rfl rfl (by simp) rfl) rfl rfl ?_
       rintro _ _ rfl
       refine ent_nil ?_
       refine ent_seq ?_
       refine ent_region ?_
       refine ent_value (ov_move rfl) rfl rfl rfl ?_
       refine ent_value (ov_load_agg (vs := [(int .i64 (((l2.getD i14.toNat z_Api_Entry).Part).Tier)), (int .i64 (((l2.getD i14.toNat z_Api_Entry).Part).Index)), (int .i64 ((l2.getD i14.toNat z_Api_Entry).Seg)), (int .i64 ((l2.getD i14.toNat z_Api_Entry).Mark)), (int .i64 ((l2.getD i14.toNat z_Api_Entry).Rows)), (bool ((l2.getD i14.toNat z_Api_Entry).Cold))]) rfl F_agg_65 F_size_65 (reads_boxW (i := 0) rfl)) rfl rfl rfl ?_
       obtain ⟨x189, h183, H23⟩ := Option.bind_eq_some_iff.1 H23
       refine ent_pick [5, 6, 7, 0, 1, 2, 3, 4] (by decide) rfl ?_
       refine ent_op (ot_call (Lr := [(box b158 65 [(int .i64 (((l2.getD i14.toNat z_Api_Entry).Part).Tier)), (int .i64 (((l2.getD i14.toNat z_Api_Entry).Part).Index)), (int .i64 ((l2.getD i14.toNat z_Api_Entry).Seg)), (int .i64 ((l2.getD i14.toNat z_Api_Entry).Mark)), (int .i64 ((l2.getD i14.toNat z_Api_Entry).Rows)), (bool ((l2.getD i14.toNat z_Api_Entry).Cold))]), (box p0 139 [(pt p1 0)]), (box p1 192 [sv0]), (own sv0 196 7 l0.length (fl enc_Omap_pair__int64__api_Entry l0)), A1]) (first := []) (cap := []) (xs := [.tmp 53, .tmp 54]) rfl rfl F_call_84 rfl (catalog_Catalog_put_O.spec K b108 b109 sv93 l22 (((l2.getD i14.toNat z_Api_Entry).Part).Tier) (((l2.getD i14.toNat z_Api_Entry).Part).Index) ((l2.getD i14.toNat z_Api_Entry).Seg) ((l2.getD i14.toNat z_Api_Entry).Mark) ((l2.getD i14.toNat z_Api_Entry).Rows) ((l2.getD i14.toNat z_Api_Entry).Cold) _ h183) rfl) rfl rfl rfl ?_
       rintro _ _ ⟨_, ⟨sv97, rfl, rfl⟩, rfl⟩
       refine ent_value (ov_assign rfl) rfl rfl rfl ?_
       refine ent_nil ?_
       refine ent_seq ?_
       refine ent_region ?_
       refine ent_value (ov_move rfl) rfl rfl rfl ?_
       refine ent_value (ov_bin rfl rfl (b_neq _ _ _)) rfl rfl rfl ?_
       refine ent_nil ?_
       by_cases c228 : ¬ (x189.1 = 0)
       ·rw [if_pos c228] at H23
        refine ent_cond_true rfl (ne_t c228) ?_
        refine ent_seq ?_
        refine ent_region ?_
        refine ent_value (ov_move rfl) rfl rfl rfl ?_
        refine ent_value (ov_assign rfl) rfl rfl rfl ?_
        refine ent_nil ?_
        refine ent_retc ?_
        cases H23
        have H24 := Option.some.inj (show some _ = some _ from H)
        cases H24
        refine ent_pick [4, 5, 6, 7] (by decide) rfl ?_
        exact ret_tmp rfl rfl ⟨_, _, rfl, rfl⟩
       ·rw [if_neg c228] at H23
        refine ent_cond_false rfl (ne_f c228) ?_
        refine ent_skip ?_
        refine ent_region ?_
        refine ent_value (ov_bin rfl rfl (b_add _ _ _) ) rfl rfl rfl ?_
        refine ent_value (ov_move rfl) rfl rfl rfl ?_
        refine ent_nil ?_
        exact ent_fin [4, 5, 6, 7, 0, 1, 2] (by decide) rfl (sub_cons (t := 0) rfl (sub_cons (t := 5) rfl (sub_cons (t := 47) rfl (sub_cons (t := 48) rfl (sub_cons (t := 49) rfl (sub_nil _)))))) fun a w h => ⟨k, Nat.lt_succ_self k, _, _, _, H23, h⟩
      ·rw [if_neg c227] at H23
       cases H23
     ·rw [if_neg c224] at H23
      refine ent_cond_false rfl (decide_eq_false c224) ?_
      refine ent_exit ?_
      cases H23
      exact ent_fin [0, 1, 2, 3, 4, 5, 6] (by decide) rfl (sub_cons (t := 0) rfl (sub_cons (t := 5) rfl (sub_nil _))) fun a w h => ⟨_, rfl, _, h⟩
  ·refine ent_exi fun v6 => ent_and fun e_ => ?_
   subst e_
   rw [cas_inl] at H
   refine ent_exi fun sv90 => ?_
   refine ent_seq ?_
   refine ent_region ?_
   refine ent_value (ov_move rfl) rfl rfl rfl ?_
   refine ent_value (ov_move rfl) rfl rfl rfl ?_
   refine ent_value (ov_nilCheck rfl) rfl rfl rfl ?_
   refine ent_value (ov_fieldAddr (sz := 0) (o := 0) rfl F_field_139_0 F_size_136) rfl rfl rfl ?_
   refine ent_value (ov_load (v := (pt b109 0)) rfl F_agg_136 (reads_box1 (i := 4) rfl rfl)) rfl rfl rfl ?_
   refine ent_value (ov_nilCheck rfl) rfl rfl rfl ?_
   refine ent_value (ov_fieldAddr (sz := 0) (o := 0) rfl F_field_139_0 F_size_136) rfl rfl rfl ?_
   refine ent_op0 (ot_storeG (cs := [(pt p1 0)]) (cs' := [(pt b109 0)]) (us := [(pt b109 0)]) (L' := [(box p0 139 [(pt b109 0)]), (box p1 192 [sv0]), (own sv0 196 7 l0.length (fl enc_Omap_pair__int64__api_Entry l0)), A1, (box b108 139 [(pt b109 0)]), (box b109 192 [sv90]), (own sv90 196 7 v6.length (fl enc_Omap_pair__int64__api_Entry v6))]) 0 rfl rfl rfl (one_all rfl) F_size_136 rfl rfl (by simp) rfl) rfl rfl ?_
   rintro _ _ rfl
   refine ent_nil ?_
   refine ent_seq ?_
   refine ent_region ?_
   refine ent_value (ov_assign rfl) rfl rfl rfl ?_
   refine ent_nil ?_
   refine ent_retc ?_
   cases H
   refine ent_pick [0, 5, 6, 3] (by decide) rfl ?_
   exact ret_tmp rfl rfl ⟨_, _, rfl, rfl⟩

set_option maxRecDepth 100000 in
theorem ossuaryref20_drop_R.spec (K : Nat) (sv0 : Value) (A0 : HP) (l0 : List Api_Entry) (a1_0 : Int) (a1_1 : Int) (hA0 : IsRd A0 sv0 l0.length 6 (fl enc_Api_Entry l0)) (r : ((List Api_Entry) × Bool)) (H : ossuaryref20_drop_R K l0 a1_0 a1_1 = some r) : FnSpec Try.prog 138 [sv0, (agg #[(int .i64 a1_0), (int .i64 a1_1)])] [A0] (fun v M => ∃ sv27 : Value, v = (Value.tuple #[sv27, (bool r.2)]) ∧ M = [A0, (own sv27 65 6 r.1.length (fl enc_Api_Entry r.1))]) := by
 unfold ossuaryref20_drop_R at H
 refine spec_of Try.func138 rfl 31 rfl (Nat.le_of_ble_eq_true rfl) fun F w0 => ?_
 show Ent (St 31 w0 F [(0, sv0), (1, (agg #[(int .i64 a1_0), (int .i64 a1_1)]))] [A0]) _
 refine ent_seq ?_
 refine ent_region ?_
 refine ent_op (ot_box (cs := [(int .i64 a1_0), (int .i64 a1_1)]) rfl rfl) rfl rfl rfl ?_
 rintro _ _ ⟨b2, rfl, rfl⟩
 refine ent_value (ov_assign rfl) rfl rfl rfl ?_
 refine ent_value (ov_assign rfl) rfl rfl rfl ?_
 refine ent_nil ?_
 refine ent_seq ?_
 refine ent_region ?_
 refine ent_value (ov_assign rfl) rfl rfl rfl ?_
 refine ent_nil ?_
 refine ent_seq ?_
 refine ent_region ?_
 refine ent_value (ov_assign rfl) rfl rfl rfl ?_
 refine ent_nil ?_
 refine ent_seq ?_
 refine ent_seq ?_
 refine ent_region ?_
 refine ent_value (ov_assign rfl) rfl rfl rfl ?_
 refine ent_nil ?_
 refine ent_block ?_
 refine ent_loop (fun k a w => ∃ q4, ∃ i4, ∃ l5, ∃ sv45 : Value, ossuaryref20_drop_R_l0 K l0 a1_0 a1_1 k q4 i4 l5 = some r ∧ St 31 w0 F [(0, sv0), (3, (pt b2 0)), (6, sv45), (7, (bool q4)), (8, (int .i64 i4))] [A0, (box b2 63 [(int .i64 a1_0), (int .i64 a1_1)]), (own sv45 65 6 l5.length (fl enc_Api_Entry l5))] a w) K ?_ ?_
 ·refine ent_ownnil 65 6 ?_
  exact ent_fin [2, 1, 0] (by decide) rfl (sub_cons (t := 0) rfl (sub_cons (t := 3) rfl (sub_cons (t := 6) rfl (sub_cons (t := 7) rfl (sub_cons (t := 8) rfl (sub_nil _)))))) fun a w h => ⟨_, _, _, _, H, h⟩
 ·refine fun k => ent_exi fun q4 => ent_exi fun i4 => ent_exi fun l5 => ent_exi fun sv45 => ent_and fun H4 => ?_
  cases k with
  | zero => exact absurd H4 (by simp [ossuaryref20_drop_R_l0])
  | succ k =>
   rw [ossuaryref20_drop_R_l0] at H4
   refine ent_seq ?_
   refine ent_seq ?_
   refine ent_region ?_
   refine ent_value (ov_move rfl) rfl rfl rfl ?_
   refine ent_value (ov_move rfl) rfl rfl rfl ?_
   refine ent_value (ov_len 0 rfl F_slice_53 rfl hA0) rfl rfl rfl ?_
   refine ent_value (ov_bin rfl rfl (b_lss _ _ _)) rfl rfl rfl ?_
   refine ent_nil ?_
   by_cases c82 : i4 < (l0.length : Int)
   ·rw [if_pos c82] at H4
    refine ent_cond_true rfl (decide_eq_true c82) ?_
    refine ent_skip ?_
    refine ent_seq ?_
    refine ent_block ?_
    refine ent_seq ?_
    by_cases c86 : 0 ≤ i4
    ·rw [if_pos c86] at H4
     refine ent_drawm 7 rfl (fun done a w => StD 31 w0 F [(0, sv0), (3, (pt b2 0)), (6, sv45), (7, (bool q4)), (8, (int .i64 i4)), (9, (int .i64 i4)), (10, sv0), (11, (int .i64 (l0.length : Int))), (12, (bool (decide (i4 < (l0.length : Int)))))] [(0, 15, sv0), (1, 16, (int .i64 i4)), (2, 17, (eptr sv0 (i4.toNat * 6))), (3, 18, (eptr sv0 (i4.toNat * 6 + 0))), (4, 19, (agg #[(int .i64 (((l0.getD i4.toNat z_Api_Entry).Part).Tier)), (int .i64 (((l0.getD i4.toNat z_Api_Entry).Part).Index))])), (5, 20, (agg #[(int .i64 a1_0), (int .i64 a1_1)])), (6, 21, (bool (((((l0.getD i4.toNat z_Api_Entry).Part).Tier) == a1_0) && (((((l0.getD i4.toNat z_Api_Entry).Part).Index) == a1_1) && true))))] done [A0, (box b2 63 [(int .i64 a1_0), (int .i64 a1_1)]), (own sv45 65 6 l5.length (fl enc_Api_Entry l5))] a w) (by kernel_rfl) (by kernel_rfl) (draw_startL (sub_cons (t := 0) rfl (sub_cons (t := 3) rfl (sub_cons (t := 6) rfl (sub_cons (t := 7) rfl (sub_cons (t := 8) rfl (sub_cons (t := 9) rfl (sub_cons (t := 10) rfl (sub_cons (t := 11) rfl (sub_cons (t := 12) rfl (sub_nil _)))))))))) rfl) ?_ ?_
     ·refine ⟨?_, ?_, ?_, ?_, ?_, ?_, ?_, trivial⟩
      ·intro done hi hc hcu
       exact draw_value (i := 0) (t := 15) (v := sv0) rfl rfl (wanted_none rfl) (fun a => hasA_base) (ov_move rfl) rfl rfl (onlyT_spec (k0 := 0) rfl rfl rfl)
      ·intro done hi hc hcu
       exact draw_value (i := 1) (t := 16) (v := (int .i64 i4)) rfl rfl (wanted_none rfl) (fun a => hasA_base) (ov_move rfl) rfl rfl (onlyT_spec (k0 := 1) rfl rfl rfl)
      ·intro done hi hc hcu
       have d0 : done 0 = true := done_of (j := 0) hcu rfl (by decide) rfl
       have d1 : done 1 = true := done_of (j := 1) hcu rfl (by decide) rfl
       exact draw_value (i := 2) (t := 17) (v := (eptr sv0 (i4.toNat * 6))) rfl rfl (wanted_none rfl) (fun a => (hasA_cons (k := 1) rfl d1 (hasA_cons (k := 0) rfl d0 hasA_base))) (ov_indexAddr (sz := 5) 0 rfl rfl F_slice_53 F_size_65 rfl hA0 c86 c82) rfl rfl (onlyT_spec (k0 := 2) rfl rfl rfl)
      ·intro done hi hc hcu
       have d2 : done 2 = true := done_of (j := 2) hcu rfl (by decide) rfl
       exact draw_value (i := 3) (t := 18) (v := (eptr sv0 (i4.toNat * 6 + 0))) rfl rfl (wanted_none rfl) (fun a => (hasA_cons (k := 2) rfl d2 hasA_base)) (ov_fieldAddrE (sz := 1) (k0 := i4.toNat * 6) (off := 0) 0 rfl F_field_65_0 F_size_63 rfl hA0 (fl_pos enc_Api_Entry_len (ix_lt c86 c82))) rfl rfl (onlyT_spec (k0 := 3) rfl rfl rfl)
      ·intro done hi hc hcu
       have d3 : done 3 = true := done_of (j := 3) hcu rfl (by decide) rfl
       exact draw_value (i := 4) (t := 19) (v := (agg #[(int .i64 (((l0.getD i4.toNat z_Api_Entry).Part).Tier)), (int .i64 (((l0.getD i4.toNat z_Api_Entry).Part).Index))])) rfl rfl (wanted_none rfl) (fun a => (hasA_cons (k := 3) rfl d3 hasA_base)) (ov_load_agg (vs := [(int .i64 (((l0.getD i4.toNat z_Api_Entry).Part).Tier)), (int .i64 (((l0.getD i4.toNat z_Api_Entry).Part).Index))]) rfl F_agg_63 F_size_63 (reads_rd (i := 0) rfl hA0 (by simp) (fl_read (off := 0) enc_Api_Entry_len (ix_lt c86 c82) rfl))) rfl rfl (onlyT_spec (k0 := 4) rfl rfl rfl)
      ·intro done hi hc hcu
       exact draw_value (i := 5) (t := 20) (v := (agg #[(int .i64 a1_0), (int .i64 a1_1)])) rfl rfl (wanted_none rfl) (fun a => hasA_base) (ov_load_agg (vs := [(int .i64 a1_0), (int .i64 a1_1)]) rfl F_agg_63 F_size_63 (reads_boxW (i := 1) rfl)) rfl rfl (onlyT_spec (k0 := 5) rfl rfl rfl)
      ·intro done hi hc hcu
       have d4 : done 4 = true := done_of (j := 4) hcu rfl (by decide) rfl
       have d5 : done 5 = true := done_of (j := 5) hcu rfl (by decide) rfl
       exact draw_value (i := 6) (t := 21) (v := (bool (((((l0.getD i4.toNat z_Api_Entry).Part).Tier) == a1_0) && (((((l0.getD i4.toNat z_Api_Entry).Part).Index) == a1_1) && true)))) rfl rfl (wanted_none rfl) (fun a => (hasA_cons (k := 5) rfl d5 (hasA_cons (k := 4) rfl d4 hasA_base))) (ov_bin rfl rfl (same_63 _ _ _ _)) rfl rfl (onlyT_spec (k0 := 6) rfl rfl rfl)
     ·intro done hall
      refine draw_endL [A0, (box b2 63 [(int .i64 a1_0), (int .i64 a1_1)]), (own sv45 65 6 l5.length (fl enc_Api_Entry l5))] rfl (fun a => (hasA_cons (k := 0) rfl (hall 0 (by decide)) (hasA_cons (k := 1) rfl (hall 1 (by decide)) (hasA_cons (k := 2) rfl (hall 2 (by decide)) (hasA_cons (k := 3) rfl (hall 3 (by decide)) (hasA_cons (k := 4) rfl (hall 4 (by decide)) (hasA_cons (k := 5) rfl (hall 5 (by decide)) (hasA_cons (k := 6) rfl (hall 6 (by decide)) hasA_base)))))))) ?_
      by_cases c87 : (((((l0.getD i4.toNat z_Api_Entry).Part).Tier) == a1_0) && (((((l0.getD i4.toNat z_Api_Entry).Part).Index) == a1_1) && true)) = true
      ·rw [if_pos c87] at H4
       refine ent_cond_true rfl c87 ?_
       refine ent_region ?_
       refine ent_value (ov_assign rfl) rfl rfl rfl ?_
       refine ent_nil ?_
       refine ent_region ?_
       refine ent_value (ov_move rfl) rfl rfl rfl ?_
       refine ent_value (ov_bin rfl rfl (b_add _ _ _) ) rfl rfl rfl ?_
       refine ent_value (ov_assign rfl) rfl rfl rfl ?_
       refine ent_nil ?_
       exact ent_fin [0, 1, 2] (by decide) rfl (sub_cons (t := 0) rfl (sub_cons (t := 3) rfl (sub_cons (t := 6) rfl (sub_cons (t := 7) rfl (sub_cons (t := 8) rfl (sub_nil _)))))) fun a w h => ⟨k, Nat.lt_succ_self k, _, _, _, _, H4, h⟩
      ·rw [if_neg c87] at H4
       refine ent_cond_false rfl (Bool.eq_false_iff.2 c87) ?_
       refine ent_region ?_
       refine ent_value (ov_move rfl) rfl rfl rfl ?_
       refine ent_value (ov_move rfl) rfl rfl rfl ?_
       refine ent_value (ov_move rfl) rfl rfl rfl ?_
       refine ent_value (ov_indexAddr (sz := 5) 0 rfl rfl F_slice_53 F_size_65 rfl hA0 c86 c82) rfl rfl rfl ?_
       refine ent_value (ov_load_agg (vs := [(int .i64 (((l0.getD i4.toNat z_Api_Entry).Part).Tier)), (int .i64 (((l0.getD i4.toNat z_Api_Entry).Part).Index)), (int .i64 ((l0.getD i4.toNat z_Api_Entry).Seg)), (int .i64 ((l0.getD i4.toNat z_Api_Entry).Mark)), (int .i64 ((l0.getD i4.toNat z_Api_Entry).Rows)), (bool ((l0.getD i4.toNat z_Api_Entry).Cold))]) rfl F_agg_65 F_size_65 (reads_rd (i := 0) rfl hA0 (by simp) (fl_read0 enc_Api_Entry_len (ix_lt c86 c82) rfl))) rfl rfl rfl ?_
       refine ent_op (ot_buildSlice (sz := 5) (xs := [.tmp 26]) (cs := fl enc_Api_Entry [(⟨(⟨((l0.getD i4.toNat z_Api_Entry).Part).Tier, ((l0.getD i4.toNat z_Api_Entry).Part).Index⟩ : Api_Part), (l0.getD i4.toNat z_Api_Entry).Seg, (l0.getD i4.toNat z_Api_Entry).Mark, (l0.getD i4.toNat z_Api_Entry).Rows, (l0.getD i4.toNat z_Api_Entry).Cold⟩ : Api_Entry)]) rfl rfl F_slice_53 F_size_65 F_zero_65 rfl rfl (all_size rfl) rfl (by decide)) rfl rfl rfl ?_
       rintro sv52 _ rfl
       by_cases c88 : (l5.length + [(⟨(⟨((l0.getD i4.toNat z_Api_Entry).Part).Tier, ((l0.getD i4.toNat z_Api_Entry).Part).Index⟩ : Api_Part), (l0.getD i4.toNat z_Api_Entry).Seg, (l0.getD i4.toNat z_Api_Entry).Mark, (l0.getD i4.toNat z_Api_Entry).Rows, (l0.getD i4.toNat z_Api_Entry).Cold⟩ : Api_Entry)].length) * 48 ≤ 140737488355328
       ·rw [if_pos c88] at H4
        refine ent_op (ot_appendx (sz := 5) (xs := l5) (ys := [(⟨(⟨((l0.getD i4.toNat z_Api_Entry).Part).Tier, ((l0.getD i4.toNat z_Api_Entry).Part).Index⟩ : Api_Part), (l0.getD i4.toNat z_Api_Entry).Seg, (l0.getD i4.toNat z_Api_Entry).Mark, (l0.getD i4.toNat z_Api_Entry).Rows, (l0.getD i4.toNat z_Api_Entry).Cold⟩ : Api_Entry)]) 3 0 rfl rfl F_slice_53 F_size_65 F_zero_65 rfl F_bytes_65 rfl rfl rfl (isRd_ownx 65) rfl enc_Api_Entry_one c88) rfl rfl rfl ?_
        rintro sv53 _ rfl
        refine ent_L [(own sv52 65 6 [(⟨(⟨((l0.getD i4.toNat z_Api_Entry).Part).Tier, ((l0.getD i4.toNat z_Api_Entry).Part).Index⟩ : Api_Part), (l0.getD i4.toNat z_Api_Entry).Seg, (l0.getD i4.toNat z_Api_Entry).Mark, (l0.getD i4.toNat z_Api_Entry).Rows, (l0.getD i4.toNat z_Api_Entry).Cold⟩ : Api_Entry)].length (fl enc_Api_Entry [(⟨(⟨((l0.getD i4.toNat z_Api_Entry).Part).Tier, ((l0.getD i4.toNat z_Api_Entry).Part).Index⟩ : Api_Part), (l0.getD i4.toNat z_Api_Entry).Seg, (l0.getD i4.toNat z_Api_Entry).Mark, (l0.getD i4.toNat z_Api_Entry).Rows, (l0.getD i4.toNat z_Api_Entry).Cold⟩ : Api_Entry)])), A0, (box b2 63 [(int .i64 a1_0), (int .i64 a1_1)]), (own sv53 65 6 (l5 ++ [(⟨(⟨((l0.getD i4.toNat z_Api_Entry).Part).Tier, ((l0.getD i4.toNat z_Api_Entry).Part).Index⟩ : Api_Part), (l0.getD i4.toNat z_Api_Entry).Seg, (l0.getD i4.toNat z_Api_Entry).Mark, (l0.getD i4.toNat z_Api_Entry).Rows, (l0.getD i4.toNat z_Api_Entry).Cold⟩ : Api_Entry)]).length (fl enc_Api_Entry (l5 ++ [(⟨(⟨((l0.getD i4.toNat z_Api_Entry).Part).Tier, ((l0.getD i4.toNat z_Api_Entry).Part).Index⟩ : Api_Part), (l0.getD i4.toNat z_Api_Entry).Seg, (l0.getD i4.toNat z_Api_Entry).Mark, (l0.getD i4.toNat z_Api_Entry).Rows, (l0.getD i4.toNat z_Api_Entry).Cold⟩ : Api_Entry)])))] rfl ?_
        refine ent_value (ov_assign rfl) rfl rfl rfl ?_
        refine ent_nil ?_
        refine ent_region ?_
        refine ent_value (ov_move rfl) rfl rfl rfl ?_
        refine ent_value (ov_bin rfl rfl (b_add _ _ _) ) rfl rfl rfl ?_
        refine ent_value (ov_assign rfl) rfl rfl rfl ?_
        refine ent_nil ?_
        exact ent_fin [1, 2, 3] (by decide) rfl (sub_cons (t := 0) rfl (sub_cons (t := 3) rfl (sub_cons (t := 6) rfl (sub_cons (t := 7) rfl (sub_cons (t := 8) rfl (sub_nil _)))))) fun a w h => ⟨k, Nat.lt_succ_self k, _, _, _, _, H4, h⟩
       ·rw [if_neg c88] at H4
        cases H4
    ·rw [if_neg c86] at H4
     cases H4
   ·rw [if_neg c82] at H4
    refine ent_cond_false rfl (decide_eq_false c82) ?_
    refine ent_exit ?_
    refine ent_seq ?_
    refine ent_region ?_
    refine ent_value (ov_move rfl) rfl rfl rfl ?_
    refine ent_value (ov_move rfl) rfl rfl rfl ?_
    refine ent_value (ov_assign rfl) rfl rfl rfl ?_
    refine ent_value (ov_assign rfl) rfl rfl rfl ?_
    refine ent_nil ?_
    refine ent_retc ?_
    cases H4
    refine ent_pick [0, 2] (by decide) rfl ?_
    exact ret_mem (vs := [sv45, (bool q4)]) rfl ⟨rfl, ⟨rfl, trivial⟩⟩ _ rfl ⟨_, rfl, rfl⟩

set_option maxRecDepth 100000 in
theorem ossuaryref20_Apply_RRR.spec (K : Nat) (sv0 : Value) (A0 : HP) (sv1 : Value) (A1 : HP) (sv2 : Value) (l0 : List Api_Entry) (l1 : List Api_Part) (l2 : List Api_Entry) (hA0 : IsRd A0 sv0 l0.length 6 (fl enc_Api_Entry l0)) (hA1 : IsRd A1 sv1 l1.length 2 (fl enc_Api_Part l1)) (hA2 : IsRd A1 sv2 l2.length 6 (fl enc_Api_Entry l2)) (r : (Int × (List Api_Entry))) (H : ossuaryref20_Apply_RRR K l0 l1 l2 = some r) : FnSpec Try.prog 88 [sv0, sv1, sv2] [A0, A1] (fun v M => ∃ A7 : HP, ∃ sv37 : Value, IsRd A7 sv37 r.2.length 6 (fl enc_Api_Entry r.2) ∧ v = (Value.tuple #[sv37, (int .i64 r.1)]) ∧ M = [A7, A1]) := by
 unfold ossuaryref20_Apply_RRR at H
 refine spec_of Try.func88 rfl 56 rfl (Nat.le_of_ble_eq_true rfl) fun F w0 => ?_
 show Ent (St 56 w0 F [(0, sv0), (1, sv1), (2, sv2)] [A0, A1]) _
 refine ent_seq ?_
 refine ent_region ?_
 refine ent_value (ov_assign rfl) rfl rfl rfl ?_
 refine ent_value (ov_assign rfl) rfl rfl rfl ?_
 refine ent_nil ?_
 refine ent_seq ?_
 refine ent_region ?_
 refine ent_value (ov_move rfl) rfl rfl rfl ?_
 refine ent_value (ov_assign rfl) rfl rfl rfl ?_
 refine ent_nil ?_
 obtain ⟨x32, H8, H⟩ := Option.bind_eq_some_iff.1 H
 refine ent_seq_cut (fun a w => ∃ v2, x32 = Sum.inl v2 ∧ ∃ A9 : HP, ∃ sv46 : Value, ∃ sv47 : Value, IsRd A9 sv46 v2.1.length 6 (fl enc_Api_Entry v2.1) ∧ IsRd A9 sv47 v2.2.length 6 (fl enc_Api_Entry v2.2) ∧ St 56 w0 F [(0, sv46), (2, sv2), (8, sv47)] [A9, A1] a w) ?_ ?_
 ·refine ent_seq ?_
  refine ent_region ?_
  refine ent_value (ov_assign rfl) rfl rfl rfl ?_
  refine ent_nil ?_
  refine ent_block ?_
  refine ent_loop (fun k a w => ∃ i13, ∃ l18, ∃ l19, ∃ A10 : HP, ∃ sv50 : Value, ∃ sv51 : Value, IsRd A10 sv50 l18.length 6 (fl enc_Api_Entry l18) ∧ IsRd A10 sv51 l19.length 6 (fl enc_Api_Entry l19) ∧ ossuaryref20_Apply_RRR_l0 K l1 k i13 l18 l19 = some x32 ∧ St 56 w0 F [(0, sv50), (1, sv1), (2, sv2), (8, sv51), (9, (int .i64 i13))] [A10, A1] a w) K ?_ ?_
  ·exact ent_fin [0, 1] (by decide) rfl (sub_cons (t := 0) rfl (sub_cons (t := 1) rfl (sub_cons (t := 2) rfl (sub_cons (t := 8) rfl (sub_cons (t := 9) rfl (sub_nil _)))))) fun a w h => ⟨_, _, _, _, _, _, hA0, hA0, H8, h⟩
  ·refine fun k => ent_exi fun i13 => ent_exi fun l18 => ent_exi fun l19 => ent_exi fun A10 => ent_exi fun sv50 => ent_exi fun sv51 => ent_and fun hr16 => ent_and fun hr17 => ent_and fun H9 => ?_
   cases k with
   | zero => exact absurd H9 (by simp [ossuaryref20_Apply_RRR_l0])
   | succ k =>
    rw [ossuaryref20_Apply_RRR_l0] at H9
    refine ent_seq ?_
    refine ent_seq ?_
    refine ent_region ?_
    refine ent_value (ov_move rfl) rfl rfl rfl ?_
    refine ent_value (ov_move rfl) rfl rfl rfl ?_
    refine ent_value (ov_len 1 rfl F_slice_56 rfl hA1) rfl rfl rfl ?_
    refine ent_value (ov_bin rfl rfl (b_lss _ _ _)) rfl rfl rfl ?_
    refine ent_nil ?_
    by_cases c126 : i13 < (l1.length : Int)
    ·rw [if_pos c126] at H9
     refine ent_cond_true rfl (decide_eq_true c126) ?_
     refine ent_skip ?_
     refine ent_seq ?_
     refine ent_block ?_
     refine ent_seq ?_
     refine ent_region ?_
     refine ent_value (ov_move rfl) rfl rfl rfl ?_
     refine ent_value (ov_move rfl) rfl rfl rfl ?_
     refine ent_value (ov_move rfl) rfl rfl rfl ?_
     by_cases c130 : 0 ≤ i13
     ·rw [if_pos c130] at H9
      refine ent_value (ov_indexAddr (sz := 1) 1 rfl rfl F_slice_56 F_size_63 rfl hA1 c130 c126) rfl rfl rfl ?_
      refine ent_value (ov_load_agg (vs := [(int .i64 ((l1.getD i13.toNat z_Api_Part).Tier)), (int .i64 ((l1.getD i13.toNat z_Api_Part).Index))]) rfl F_agg_63 F_size_63 (reads_rd (i := 1) rfl hA1 (by simp) (fl_read0 enc_Api_Part_len (ix_lt c130 c126) rfl))) rfl rfl rfl ?_
      obtain ⟨x38, h36, H9⟩ := Option.bind_eq_some_iff.1 H9
      refine ent_op (ot_call (Lr := [A1]) (first := []) (cap := []) (xs := [.tmp 23, .tmp 27]) rfl rfl F_call_138 rfl (ossuaryref20_drop_R.spec K sv51 A10 l19 ((l1.getD i13.toNat z_Api_Part).Tier) ((l1.getD i13.toNat z_Api_Part).Index) hr17 _ h36) rfl) rfl rfl rfl ?_
      rintro _ _ ⟨_, ⟨sv55, rfl, rfl⟩, rfl⟩
      refine ent_value (ov_move rfl) rfl rfl rfl ?_
      refine ent_value (ov_extract rfl rfl) rfl rfl rfl ?_
      refine ent_value (ov_extract rfl rfl) rfl rfl rfl ?_
      refine ent_value (ov_assign rfl) rfl rfl rfl ?_
      refine ent_value (ov_assign rfl) rfl rfl rfl ?_
      refine ent_nil ?_
      refine ent_seq ?_
      refine ent_seq ?_
      refine ent_region ?_
      refine ent_value (ov_move rfl) rfl rfl rfl ?_
      refine ent_value (ov_un rfl (u_not _)) rfl rfl rfl ?_
      refine ent_nil ?_
      by_cases c132 : (!x38.2) = true
      ·rw [if_pos c132] at H9
       refine ent_cond_true rfl c132 ?_
       refine ent_seq ?_
       refine ent_region ?_
       refine ent_value (ov_move rfl) rfl rfl rfl ?_
       refine ent_value (ov_assign rfl) rfl rfl rfl ?_
       refine ent_value (ov_assign rfl) rfl rfl rfl ?_
       refine ent_nil ?_
       refine ent_retc ?_
       cases H9
       have H10 := Option.some.inj (show some _ = some _ from H)
       cases H10
       refine ent_pick [0, 2] (by decide) rfl ?_
       exact ret_mem (vs := [sv50, (int .i64 11)]) rfl ⟨rfl, ⟨rfl, trivial⟩⟩ _ rfl ⟨_, _, hr16, rfl, rfl⟩
      ·rw [if_neg c132] at H9
       refine ent_cond_false rfl (Bool.eq_false_iff.2 c132) ?_
       refine ent_skip ?_
       refine ent_region ?_
       refine ent_value (ov_move rfl) rfl rfl rfl ?_
       refine ent_value (ov_assign rfl) rfl rfl rfl ?_
       refine ent_nil ?_
       refine ent_region ?_
       refine ent_value (ov_move rfl) rfl rfl rfl ?_
       refine ent_value (ov_bin rfl rfl (b_add _ _ _) ) rfl rfl rfl ?_
       refine ent_value (ov_assign rfl) rfl rfl rfl ?_
       refine ent_nil ?_
       refine ent_bunI [0, 1, 2] (by decide) (M := [A10, (own sv55 65 6 x38.1.length (fl enc_Api_Entry x38.1))]) (R := [A1]) rfl ?_
       exact ent_fin [0, 1] (by decide) rfl (sub_cons (t := 0) rfl (sub_cons (t := 1) rfl (sub_cons (t := 2) rfl (sub_cons (t := 8) rfl (sub_cons (t := 9) rfl (sub_nil _)))))) fun a w h => ⟨k, Nat.lt_succ_self k, _, _, _, _, _, _, (isRd_bun 0 rfl hr16), (isRd_bun 1 rfl (isRd_ownx _)), H9, h⟩
     ·rw [if_neg c130] at H9
      cases H9
    ·rw [if_neg c126] at H9
     refine ent_cond_false rfl (decide_eq_false c126) ?_
     refine ent_exit ?_
     cases H9
     exact ent_fin [0, 1] (by decide) rfl (sub_cons (t := 0) rfl (sub_cons (t := 2) rfl (sub_cons (t := 8) rfl (sub_nil _)))) fun a w h => ⟨_, rfl, _, _, _, hr16, hr17, h⟩
 ·refine ent_exi fun v2 => ent_and fun e_ => ?_
  subst e_
  rw [cas_inl] at H
  refine ent_exi fun A9 => ent_exi fun sv46 => ent_exi fun sv47 => ent_and fun hr14 => ent_and fun hr15 => ?_
  refine ent_seq ?_
  refine ent_seq ?_
  refine ent_region ?_
  refine ent_value (ov_assign rfl) rfl rfl rfl ?_
  refine ent_nil ?_
  refine ent_block ?_
  refine ent_loop (fun k a w => ∃ i17, ∃ l22, ∃ l23, ∃ A12 : HP, ∃ sv66 : Value, ∃ sv67 : Value, IsRd A12 sv66 l22.length 6 (fl enc_Api_Entry l22) ∧ IsRd A12 sv67 l23.length 6 (fl enc_Api_Entry l23) ∧ ossuaryref20_Apply_RRR_l1 K l2 k i17 l22 l23 = some r ∧ St 56 w0 F [(0, sv66), (2, sv2), (8, sv67), (12, (int .i64 i17))] [A12, A1] a w) K ?_ ?_
  ·exact ent_fin [0, 1] (by decide) rfl (sub_cons (t := 0) rfl (sub_cons (t := 2) rfl (sub_cons (t := 8) rfl (sub_cons (t := 12) rfl (sub_nil _))))) fun a w h => ⟨_, _, _, _, _, _, hr14, hr15, H, h⟩
  ·refine fun k => ent_exi fun i17 => ent_exi fun l22 => ent_exi fun l23 => ent_exi fun A12 => ent_exi fun sv66 => ent_exi fun sv67 => ent_and fun hr20 => ent_and fun hr21 => ent_and fun H12 => ?_
   cases k with
   | zero => exact absurd H12 (by simp [ossuaryref20_Apply_RRR_l1])
   | succ k =>
    rw [ossuaryref20_Apply_RRR_l1] at H12
    refine ent_seq ?_
    refine ent_seq ?_
    refine ent_region ?_
    refine ent_value (ov_move rfl) rfl rfl rfl ?_
    refine ent_value (ov_move rfl) rfl rfl rfl ?_
    refine ent_value (ov_len 1 rfl F_slice_53 rfl hA2) rfl rfl rfl ?_
    refine ent_value (ov_bin rfl rfl (b_lss _ _ _)) rfl rfl rfl ?_
    refine ent_nil ?_
    by_cases c170 : i17 < (l2.length : Int)
    ·rw [if_pos c170] at H12
     refine ent_cond_true rfl (decide_eq_true c170) ?_
     refine ent_skip ?_
     refine ent_seq ?_
     refine ent_block ?_
     refine ent_seq ?_
     refine ent_region ?_
     refine ent_value (ov_move rfl) rfl rfl rfl ?_
     refine ent_value (ov_move rfl) rfl rfl rfl ?_
     refine ent_value (ov_move rfl) rfl rfl rfl ?_
     by_cases c174 : 0 ≤ i17
     ·rw [if_pos c174] at H12
      refine ent_value (ov_indexAddr (sz := 5) 1 rfl rfl F_slice_53 F_size_65 rfl hA2 c174 c170) rfl rfl rfl ?_
      refine ent_value (ov_load_agg (vs := [(int .i64 (((l2.getD i17.toNat z_Api_Entry).Part).Tier)), (int .i64 (((l2.getD i17.toNat z_Api_Entry).Part).Index)), (int .i64 ((l2.getD i17.toNat z_Api_Entry).Seg)), (int .i64 ((l2.getD i17.toNat z_Api_Entry).Mark)), (int .i64 ((l2.getD i17.toNat z_Api_Entry).Rows)), (bool ((l2.getD i17.toNat z_Api_Entry).Cold))]) rfl F_agg_65 F_size_65 (reads_rd (i := 1) rfl hA2 (by simp) (fl_read0 enc_Api_Entry_len (ix_lt c174 c170) rfl))) rfl rfl rfl ?_
      obtain ⟨x50, h48, H12⟩ := Option.bind_eq_some_iff.1 H12
      refine ent_op (ot_call (Lr := [A1]) (first := []) (cap := []) (xs := [.tmp 42, .tmp 46]) rfl rfl F_call_139 rfl (ossuaryref20_put_R.spec K sv67 A12 l23 (((l2.getD i17.toNat z_Api_Entry).Part).Tier) (((l2.getD i17.toNat z_Api_Entry).Part).Index) ((l2.getD i17.toNat z_Api_Entry).Seg) ((l2.getD i17.toNat z_Api_Entry).Mark) ((l2.getD i17.toNat z_Api_Entry).Rows) ((l2.getD i17.toNat z_Api_Entry).Cold) hr21 _ h48) rfl) rfl rfl rfl ?_
      rintro _ _ ⟨_, ⟨sv71, rfl, rfl⟩, rfl⟩
      refine ent_value (ov_move rfl) rfl rfl rfl ?_
      refine ent_value (ov_extract rfl rfl) rfl rfl rfl ?_
      refine ent_value (ov_extract rfl rfl) rfl rfl rfl ?_
      refine ent_value (ov_assign rfl) rfl rfl rfl ?_
      refine ent_value (ov_assign rfl) rfl rfl rfl ?_
      refine ent_nil ?_
      refine ent_seq ?_
      refine ent_seq ?_
      refine ent_region ?_
      refine ent_value (ov_move rfl) rfl rfl rfl ?_
      refine ent_value (ov_bin rfl rfl (b_neq _ _ _)) rfl rfl rfl ?_
      refine ent_nil ?_
      by_cases c176 : ¬ (x50.1 = 0)
      ·rw [if_pos c176] at H12
       refine ent_cond_true rfl (ne_t c176) ?_
       refine ent_seq ?_
       refine ent_region ?_
       refine ent_value (ov_move rfl) rfl rfl rfl ?_
       refine ent_value (ov_move rfl) rfl rfl rfl ?_
       refine ent_value (ov_assign rfl) rfl rfl rfl ?_
       refine ent_value (ov_assign rfl) rfl rfl rfl ?_
       refine ent_nil ?_
       refine ent_retc ?_
       cases H12
       refine ent_pick [0, 2] (by decide) rfl ?_
       exact ret_mem (vs := [sv66, (int .i64 x50.1)]) rfl ⟨rfl, ⟨rfl, trivial⟩⟩ _ rfl ⟨_, _, hr20, rfl, rfl⟩
      ·rw [if_neg c176] at H12
       refine ent_cond_false rfl (ne_f c176) ?_
       refine ent_skip ?_
       refine ent_region ?_
       refine ent_value (ov_move rfl) rfl rfl rfl ?_
       refine ent_value (ov_assign rfl) rfl rfl rfl ?_
       refine ent_nil ?_
       refine ent_region ?_
       refine ent_value (ov_move rfl) rfl rfl rfl ?_
       refine ent_value (ov_bin rfl rfl (b_add _ _ _) ) rfl rfl rfl ?_
       refine ent_value (ov_assign rfl) rfl rfl rfl ?_
       refine ent_nil ?_
       refine ent_bunI [0, 1, 2] (by decide) (M := [A12, (own sv71 65 6 x50.2.length (fl enc_Api_Entry x50.2))]) (R := [A1]) rfl ?_
       exact ent_fin [0, 1] (by decide) rfl (sub_cons (t := 0) rfl (sub_cons (t := 2) rfl (sub_cons (t := 8) rfl (sub_cons (t := 12) rfl (sub_nil _))))) fun a w h => ⟨k, Nat.lt_succ_self k, _, _, _, _, _, _, (isRd_bun 0 rfl hr20), (isRd_bun 1 rfl (isRd_ownx _)), H12, h⟩
     ·rw [if_neg c174] at H12
      cases H12
    ·rw [if_neg c170] at H12
     refine ent_cond_false rfl (decide_eq_false c170) ?_
     refine ent_exit ?_
     refine ent_seq ?_
     refine ent_region ?_
     refine ent_value (ov_move rfl) rfl rfl rfl ?_
     refine ent_value (ov_assign rfl) rfl rfl rfl ?_
     refine ent_value (ov_assign rfl) rfl rfl rfl ?_
     refine ent_nil ?_
     refine ent_retc ?_
     cases H12
     refine ent_pick [0, 1] (by decide) rfl ?_
     exact ret_mem (vs := [sv67, (int .i64 0)]) rfl ⟨rfl, ⟨rfl, trivial⟩⟩ _ rfl ⟨_, _, hr21, rfl, rfl⟩

end Go.Proofs.Ythdggcleffadeaa.CatalogEach
