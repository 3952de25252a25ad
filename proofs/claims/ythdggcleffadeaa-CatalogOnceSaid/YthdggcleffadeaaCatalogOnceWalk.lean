/- Printed by gen.py: that the machine's calls do what the plain functions of CatalogOnce say. -/
import Derived.Test.YthdggcleffadeaaCatalogOnceWalk1
import Derived.Test.YthdggcleffadeaaProg
import Derived.Test.YthdggcleffadeaaEInsert
import Derived.Test.YthdggcleffadeaaCatalogOncePure
set_option linter.unusedVariables false
set_option linter.unusedSimpArgs false
set_option maxHeartbeats 1000000
namespace Go.Proofs.Ythdggcleffadeaa.CatalogOnce
open Go Go.RowKit E
open Go.Value (int bool slice agg)

set_option maxRecDepth 100000 in
theorem ossuarylaw20_alive.spec (K : Nat) (r : Bool) (H : ossuarylaw20_alive K = some r) : FnSpec Try.prog 22 [] [] (fun v M => v = (bool r) ∧ M = []) := by
 unfold ossuarylaw20_alive at H
 refine spec_of Try.func22 rfl 58 rfl (Nat.le_of_ble_eq_true rfl) fun F w0 => ?_
 show Ent (St 58 w0 F [] []) _
 refine ent_seq ?_
 refine ent_region ?_
 refine ent_value (ov_assign rfl) rfl rfl rfl ?_
 refine ent_nil ?_
 refine ent_seq ?_
 refine ent_region ?_
 obtain ⟨u2, h9, H⟩ := thn_elim H
 refine ent_op (ot_call (Lr := []) (first := []) (cap := []) (xs := []) rfl rfl F_call_23 rfl (catalog_New.spec _ h9) rfl) rfl rfl rfl ?_
 rintro _ _ ⟨_, ⟨b9, b10, rfl, rfl⟩, rfl⟩
 refine ent_value (ov_assign rfl) rfl rfl rfl ?_
 refine ent_nil ?_
 refine ent_seq ?_
 refine ent_region ?_
 obtain ⟨x8, h10, H⟩ := thn_elim H
 refine ent_op (ot_call0 (first := []) (cap := []) (xs := [.const (int .i64 1), .const (int .i64 5)]) rfl rfl F_call_80 rfl (ossuarylaw20_entry.spec 1 5 _ h10)) rfl rfl rfl ?_
 rintro _ _ ⟨rfl, rfl⟩
 refine ent_op (ot_alloc F_zero_65) rfl rfl rfl ?_
 rintro _ _ ⟨b11, rfl, rfl⟩
 refine ent_op0 (ot_storeG (cs := [(int .i64 0), (int .i64 0), (int .i64 0), (int .i64 0), (int .i64 0), (bool false)]) (cs' := [(int .i64 x8.1), (int .i64 x8.2.1), (int .i64 x8.2.2.1), (int .i64 x8.2.2.2.1), (int .i64 x8.2.2.2.2.1), (bool x8.2.2.2.2.2)]) (us := [(int .i64 x8.1), (int .i64 x8.2.1), (int .i64 x8.2.2.1), (int .i64 x8.2.2.2.1), (int .i64 x8.2.2.2.2.1), (bool x8.2.2.2.2.2)]) (L' := [(box b11 65 [(int .i64 x8.1), (int .i64 x8.2.1), (int .i64 x8.2.2.1), (int .i64 x8.2.2.2.1), (int .i64 x8.2.2.2.2.1), (bool x8.2.2.2.2.2)]), (box b9 139 [(pt b10 0)]), (box b10 192 [(slice none 0 0)])]) 0 rfl rfl rfl (one_all rfl) F_size_65 rfl rfl (by simp) rfl) rfl rfl ?_
 rintro _ _ rfl
 refine ent_nil ?_
 refine ent_seq ?_
 refine ent_region ?_
 obtain ⟨x9, h11, H⟩ := thn_elim H
 refine ent_op (ot_call0 (first := []) (cap := []) (xs := [.const (int .i64 2), .const (int .i64 0)]) rfl rfl F_call_80 rfl (ossuarylaw20_entry.spec 2 0 _ h11)) rfl rfl rfl ?_
 rintro _ _ ⟨rfl, rfl⟩
 refine ent_op (ot_alloc F_zero_65) rfl rfl rfl ?_
 rintro _ _ ⟨b12, rfl, rfl⟩
 refine ent_op0 (ot_storeG (cs := [(int .i64 0), (int .i64 0), (int .i64 0), (int .i64 0), (int .i64 0), (bool false)]) (cs' := [(int .i64 x9.1), (int .i64 x9.2.1), (int .i64 x9.2.2.1), (int .i64 x9.2.2.2.1), (int .i64 x9.2.2.2.2.1), (bool x9.2.2.2.2.2)]) (us := [(int .i64 x9.1), (int .i64 x9.2.1), (int .i64 x9.2.2.1), (int .i64 x9.2.2.2.1), (int .i64 x9.2.2.2.2.1), (bool x9.2.2.2.2.2)]) (L' := [(box b12 65 [(int .i64 x9.1), (int .i64 x9.2.1), (int .i64 x9.2.2.1), (int .i64 x9.2.2.2.1), (int .i64 x9.2.2.2.2.1), (bool x9.2.2.2.2.2)]), (box b11 65 [(int .i64 x8.1), (int .i64 x8.2.1), (int .i64 x8.2.2.1), (int .i64 x8.2.2.2.1), (int .i64 x8.2.2.2.2.1), (bool x8.2.2.2.2.2)]), (box b9 139 [(pt b10 0)]), (box b10 192 [(slice none 0 0)])]) 0 rfl rfl rfl (one_all rfl) F_size_65 rfl rfl (by simp) rfl) rfl rfl ?_
 rintro _ _ rfl
 refine ent_nil ?_
 refine ent_seq ?_
 refine ent_region ?_
 refine ent_value (ov_move rfl) rfl rfl rfl ?_
 refine ent_value (ov_load_agg (vs := [(int .i64 x8.1), (int .i64 x8.2.1), (int .i64 x8.2.2.1), (int .i64 x8.2.2.2.1), (int .i64 x8.2.2.2.2.1), (bool x8.2.2.2.2.2)]) rfl F_agg_65 F_size_65 (reads_boxW (i := 1) rfl)) rfl rfl rfl ?_
 refine ent_op (ot_buildSlice (sz := 5) (xs := [.tmp 13]) (cs := fl enc_Api_Entry [(⟨(⟨x8.1, x8.2.1⟩ : Api_Part), x8.2.2.1, x8.2.2.2.1, x8.2.2.2.2.1, x8.2.2.2.2.2⟩ : Api_Entry)]) rfl rfl F_slice_53 F_size_65 F_zero_65 rfl rfl (all_size rfl) rfl (by decide)) rfl rfl rfl ?_
 rintro sv8 _ rfl
 refine ent_value (ov_sl 0 rfl (isRd_ownx 65) fun hc0_ => (ov_build (is := [1]) (xs := [.tmp 14]) (vs := [sv8]) rfl rfl (build_struct (cs := [(slice none 0 0), sv8]) F_zero_59 F_places_59 (by simp [Instr.fill, cells_int, cells_bool, cells_str, cells_func, cells_slice, cells_ptr, cells_nilFunc, cells_agg, hc0_])))) rfl rfl rfl ?_
 obtain ⟨x10, h12, H⟩ := Option.bind_eq_some_iff.1 H
 refine ent_pick [3, 4, 0, 1, 2] (by decide) rfl ?_
 refine ent_op (ot_call (Lr := [(box b12 65 [(int .i64 x9.1), (int .i64 x9.2.1), (int .i64 x9.2.2.1), (int .i64 x9.2.2.2.1), (int .i64 x9.2.2.2.2.1), (bool x9.2.2.2.2.2)]), (box b11 65 [(int .i64 x8.1), (int .i64 x8.2.1), (int .i64 x8.2.2.1), (int .i64 x8.2.2.2.1), (int .i64 x8.2.2.2.2.1), (bool x8.2.2.2.2.2)])]) (first := []) (cap := []) (xs := [.tmp 12, .tmp 15]) rfl rfl F_call_25 rfl (catalog_Catalog_Apply_NNO.spec K b9 b10 sv8 [(⟨(⟨x8.1, x8.2.1⟩ : Api_Part), x8.2.2.1, x8.2.2.2.1, x8.2.2.2.2.1, x8.2.2.2.2.2⟩ : Api_Entry)] _ h12) rfl) rfl rfl rfl ?_
 rintro _ _ ⟨_, ⟨b13, sv9, rfl, rfl⟩, rfl⟩
 refine ent_value (ov_assign rfl) rfl rfl rfl ?_
 refine ent_nil ?_
 refine ent_seq ?_
 refine ent_region ?_
 refine ent_value (ov_move rfl) rfl rfl rfl ?_
 refine ent_value (ov_load_agg (vs := [(int .i64 x9.1), (int .i64 x9.2.1), (int .i64 x9.2.2.1), (int .i64 x9.2.2.2.1), (int .i64 x9.2.2.2.2.1), (bool x9.2.2.2.2.2)]) rfl F_agg_65 F_size_65 (reads_boxW (i := 4) rfl)) rfl rfl rfl ?_
 refine ent_op (ot_buildSlice (sz := 5) (xs := [.tmp 18]) (cs := fl enc_Api_Entry [(⟨(⟨x9.1, x9.2.1⟩ : Api_Part), x9.2.2.1, x9.2.2.2.1, x9.2.2.2.2.1, x9.2.2.2.2.2⟩ : Api_Entry)]) rfl rfl F_slice_53 F_size_65 F_zero_65 rfl rfl (all_size rfl) rfl (by decide)) rfl rfl rfl ?_
 rintro sv10 _ rfl
 refine ent_value (ov_sl 0 rfl (isRd_ownx 65) fun hc0_ => (ov_build (is := [1]) (xs := [.tmp 19]) (vs := [sv10]) rfl rfl (build_struct (cs := [(slice none 0 0), sv10]) F_zero_59 F_places_59 (by simp [Instr.fill, cells_int, cells_bool, cells_str, cells_func, cells_slice, cells_ptr, cells_nilFunc, cells_agg, hc0_])))) rfl rfl rfl ?_
 obtain ⟨x11, h13, H⟩ := Option.bind_eq_some_iff.1 H
 refine ent_pick [1, 2, 3, 0, 4, 5, 6] (by decide) rfl ?_
 refine ent_op (ot_call (Lr := [(own sv8 65 6 [(⟨(⟨x8.1, x8.2.1⟩ : Api_Part), x8.2.2.1, x8.2.2.2.1, x8.2.2.2.2.1, x8.2.2.2.2.2⟩ : Api_Entry)].length (fl enc_Api_Entry [(⟨(⟨x8.1, x8.2.1⟩ : Api_Part), x8.2.2.1, x8.2.2.2.1, x8.2.2.2.2.1, x8.2.2.2.2.2⟩ : Api_Entry)])), (box b12 65 [(int .i64 x9.1), (int .i64 x9.2.1), (int .i64 x9.2.2.1), (int .i64 x9.2.2.2.1), (int .i64 x9.2.2.2.2.1), (bool x9.2.2.2.2.2)]), (box b11 65 [(int .i64 x8.1), (int .i64 x8.2.1), (int .i64 x8.2.2.1), (int .i64 x8.2.2.2.1), (int .i64 x8.2.2.2.2.1), (bool x8.2.2.2.2.2)])]) (first := []) (cap := []) (xs := [.tmp 17, .tmp 20]) rfl rfl F_call_25 rfl (catalog_Catalog_Apply_ONO.spec K b9 b13 sv9 sv10 x10.2 [(⟨(⟨x9.1, x9.2.1⟩ : Api_Part), x9.2.2.1, x9.2.2.2.1, x9.2.2.2.2.1, x9.2.2.2.2.2⟩ : Api_Entry)] _ h13) rfl) rfl rfl rfl ?_
 rintro _ _ ⟨_, ⟨b14, sv11, rfl, rfl⟩, rfl⟩
 refine ent_value (ov_assign rfl) rfl rfl rfl ?_
 refine ent_nil ?_
 refine ent_seq ?_
 refine ent_region ?_
 refine ent_value (ov_move rfl) rfl rfl rfl ?_
 refine ent_value (ov_fieldAddr (sz := 1) (o := 0) rfl F_field_65_0 F_size_63) rfl rfl rfl ?_
 refine ent_value (ov_load_agg (vs := [(int .i64 x8.1), (int .i64 x8.2.1)]) rfl F_agg_63 F_size_63 (reads_boxN (i := 6) rfl rfl)) rfl rfl rfl ?_
 refine ent_op (ot_buildSlice (sz := 1) (xs := [.tmp 24]) (cs := fl enc_Api_Part [(⟨x8.1, x8.2.1⟩ : Api_Part)]) rfl rfl F_slice_56 F_size_63 F_zero_63 rfl rfl (all_size rfl) rfl (by decide)) rfl rfl rfl ?_
 rintro sv12 _ rfl
 refine ent_value (ov_load_agg (vs := [(int .i64 x9.1), (int .i64 x9.2.1), (int .i64 x9.2.2.1), (int .i64 x9.2.2.2.1), (int .i64 x9.2.2.2.2.1), (bool x9.2.2.2.2.2)]) rfl F_agg_65 F_size_65 (reads_boxW (i := 6) rfl)) rfl rfl rfl ?_
 refine ent_op (ot_buildSlice (sz := 5) (xs := [.tmp 26]) (cs := fl enc_Api_Entry [(⟨(⟨x9.1, x9.2.1⟩ : Api_Part), x9.2.2.1, x9.2.2.2.1, x9.2.2.2.2.1, x9.2.2.2.2.2⟩ : Api_Entry)]) rfl rfl F_slice_53 F_size_65 F_zero_65 rfl rfl (all_size rfl) rfl (by decide)) rfl rfl rfl ?_
 rintro sv13 _ rfl
 refine ent_value (ov_sl 0 rfl (isRd_ownx 65) fun hc1_ => (ov_sl 1 rfl (isRd_ownx 63) fun hc0_ => (ov_build (is := [0, 1]) (xs := [.tmp 25, .tmp 27]) (vs := [sv12, sv13]) rfl rfl (build_struct (cs := [sv12, sv13]) F_zero_59 F_places_59 (by simp [Instr.fill, cells_int, cells_bool, cells_str, cells_func, cells_slice, cells_ptr, cells_nilFunc, cells_agg, hc0_, hc1_]))))) rfl rfl rfl ?_
 obtain ⟨x12, h14, H⟩ := Option.bind_eq_some_iff.1 H
 refine ent_pick [2, 3, 4, 1, 0, 5, 6, 7, 8] (by decide) rfl ?_
 refine ent_op (ot_call (Lr := [(own sv10 65 6 [(⟨(⟨x9.1, x9.2.1⟩ : Api_Part), x9.2.2.1, x9.2.2.2.1, x9.2.2.2.2.1, x9.2.2.2.2.2⟩ : Api_Entry)].length (fl enc_Api_Entry [(⟨(⟨x9.1, x9.2.1⟩ : Api_Part), x9.2.2.1, x9.2.2.2.1, x9.2.2.2.2.1, x9.2.2.2.2.2⟩ : Api_Entry)])), (own sv8 65 6 [(⟨(⟨x8.1, x8.2.1⟩ : Api_Part), x8.2.2.1, x8.2.2.2.1, x8.2.2.2.2.1, x8.2.2.2.2.2⟩ : Api_Entry)].length (fl enc_Api_Entry [(⟨(⟨x8.1, x8.2.1⟩ : Api_Part), x8.2.2.1, x8.2.2.2.1, x8.2.2.2.2.1, x8.2.2.2.2.2⟩ : Api_Entry)])), (box b12 65 [(int .i64 x9.1), (int .i64 x9.2.1), (int .i64 x9.2.2.1), (int .i64 x9.2.2.2.1), (int .i64 x9.2.2.2.2.1), (bool x9.2.2.2.2.2)]), (box b11 65 [(int .i64 x8.1), (int .i64 x8.2.1), (int .i64 x8.2.2.1), (int .i64 x8.2.2.2.1), (int .i64 x8.2.2.2.2.1), (bool x8.2.2.2.2.2)])]) (first := []) (cap := []) (xs := [.tmp 22, .tmp 28]) rfl rfl F_call_25 rfl (catalog_Catalog_Apply_OOO.spec K b9 b14 sv11 sv12 sv13 x11.2 [(⟨x8.1, x8.2.1⟩ : Api_Part)] [(⟨(⟨x9.1, x9.2.1⟩ : Api_Part), x9.2.2.1, x9.2.2.2.1, x9.2.2.2.2.1, x9.2.2.2.2.2⟩ : Api_Entry)] _ h14) rfl) rfl rfl rfl ?_
 rintro _ _ ⟨_, ⟨b15, sv14, rfl, rfl⟩, rfl⟩
 refine ent_value (ov_assign rfl) rfl rfl rfl ?_
 refine ent_nil ?_
 refine ent_seq ?_
 refine ent_region ?_
 refine ent_value (ov_move rfl) rfl rfl rfl ?_
 obtain ⟨x13, h15, H⟩ := Option.bind_eq_some_iff.1 H
 refine ent_op (ot_call_same (Lr := [(own sv12 63 2 [(⟨x8.1, x8.2.1⟩ : Api_Part)].length (fl enc_Api_Part [(⟨x8.1, x8.2.1⟩ : Api_Part)])), (own sv13 65 6 [(⟨(⟨x9.1, x9.2.1⟩ : Api_Part), x9.2.2.1, x9.2.2.2.1, x9.2.2.2.2.1, x9.2.2.2.2.2⟩ : Api_Entry)].length (fl enc_Api_Entry [(⟨(⟨x9.1, x9.2.1⟩ : Api_Part), x9.2.2.1, x9.2.2.2.1, x9.2.2.2.2.1, x9.2.2.2.2.2⟩ : Api_Entry)])), (own sv10 65 6 [(⟨(⟨x9.1, x9.2.1⟩ : Api_Part), x9.2.2.1, x9.2.2.2.1, x9.2.2.2.2.1, x9.2.2.2.2.2⟩ : Api_Entry)].length (fl enc_Api_Entry [(⟨(⟨x9.1, x9.2.1⟩ : Api_Part), x9.2.2.1, x9.2.2.2.1, x9.2.2.2.2.1, x9.2.2.2.2.2⟩ : Api_Entry)])), (own sv8 65 6 [(⟨(⟨x8.1, x8.2.1⟩ : Api_Part), x8.2.2.1, x8.2.2.2.1, x8.2.2.2.2.1, x8.2.2.2.2.2⟩ : Api_Entry)].length (fl enc_Api_Entry [(⟨(⟨x8.1, x8.2.1⟩ : Api_Part), x8.2.2.1, x8.2.2.2.1, x8.2.2.2.2.1, x8.2.2.2.2.2⟩ : Api_Entry)])), (box b12 65 [(int .i64 x9.1), (int .i64 x9.2.1), (int .i64 x9.2.2.1), (int .i64 x9.2.2.2.1), (int .i64 x9.2.2.2.2.1), (bool x9.2.2.2.2.2)]), (box b11 65 [(int .i64 x8.1), (int .i64 x8.2.1), (int .i64 x8.2.2.1), (int .i64 x8.2.2.2.1), (int .i64 x8.2.2.2.2.1), (bool x8.2.2.2.2.2)])]) [0, 1, 2, 3, 4, 5, 6, 7, 8] [0, 1, 2, 3, 4, 5, 6, 7, 8] (first := []) (cap := []) (xs := [.tmp 31, .const (int .i64 7)]) rfl rfl F_call_28 rfl (catalog_Catalog_At_O.spec K b9 b15 sv14 x12.2 7 _ h15) (by decide) rfl (by decide) rfl) rfl rfl rfl ?_
 rintro _ _ ⟨rfl, rfl⟩
 refine ent_value (ov_move rfl) rfl rfl rfl ?_
 refine ent_value (ov_extract rfl rfl) rfl rfl rfl ?_
 refine ent_value (ov_extract rfl rfl) rfl rfl rfl ?_
 refine ent_op (ot_alloc F_zero_65) rfl rfl rfl ?_
 rintro _ _ ⟨b16, rfl, rfl⟩
 refine ent_op0 (ot_storeG (cs := [(int .i64 0), (int .i64 0), (int .i64 0), (int .i64 0), (int .i64 0), (bool false)]) (cs' := [(int .i64 x13.1), (int .i64 x13.2.1), (int .i64 x13.2.2.1), (int .i64 x13.2.2.2.1), (int .i64 x13.2.2.2.2.1), (bool x13.2.2.2.2.2.1)]) (us := [(int .i64 x13.1), (int .i64 x13.2.1), (int .i64 x13.2.2.1), (int .i64 x13.2.2.2.1), (int .i64 x13.2.2.2.2.1), (bool x13.2.2.2.2.2.1)]) (L' := [(box b16 65 [(int .i64 x13.1), (int .i64 x13.2.1), (int .i64 x13.2.2.1), (int .i64 x13.2.2.2.1), (int .i64 x13.2.2.2.2.1), (bool x13.2.2.2.2.2.1)]), (box b9 139 [(pt b15 0)]), (box b15 192 [sv14]), (own sv14 196 7 x12.2.length (fl enc_Omap_pair__int64__api_Entry x12.2)), (own sv12 63 2 [(⟨x8.1, x8.2.1⟩ : Api_Part)].length (fl enc_Api_Part [(⟨x8.1, x8.2.1⟩ : Api_Part)])), (own sv13 65 6 [(⟨(⟨x9.1, x9.2.1⟩ : Api_Part), x9.2.2.1, x9.2.2.2.1, x9.2.2.2.2.1, x9.2.2.2.2.2⟩ : Api_Entry)].length (fl enc_Api_Entry [(⟨(⟨x9.1, x9.2.1⟩ : Api_Part), x9.2.2.1, x9.2.2.2.1, x9.2.2.2.2.1, x9.2.2.2.2.2⟩ : Api_Entry)])), (own sv10 65 6 [(⟨(⟨x9.1, x9.2.1⟩ : Api_Part), x9.2.2.1, x9.2.2.2.1, x9.2.2.2.2.1, x9.2.2.2.2.2⟩ : Api_Entry)].length (fl enc_Api_Entry [(⟨(⟨x9.1, x9.2.1⟩ : Api_Part), x9.2.2.1, x9.2.2.2.1, x9.2.2.2.2.1, x9.2.2.2.2.2⟩ : Api_Entry)])), (own sv8 65 6 [(⟨(⟨x8.1, x8.2.1⟩ : Api_Part), x8.2.2.1, x8.2.2.2.1, x8.2.2.2.2.1, x8.2.2.2.2.2⟩ : Api_Entry)].length (fl enc_Api_Entry [(⟨(⟨x8.1, x8.2.1⟩ : Api_Part), x8.2.2.1, x8.2.2.2.1, x8.2.2.2.2.1, x8.2.2.2.2.2⟩ : Api_Entry)])), (box b12 65 [(int .i64 x9.1), (int .i64 x9.2.1), (int .i64 x9.2.2.1), (int .i64 x9.2.2.2.1), (int .i64 x9.2.2.2.2.1), (bool x9.2.2.2.2.2)]), (box b11 65 [(int .i64 x8.1), (int .i64 x8.2.1), (int .i64 x8.2.2.1), (int .i64 x8.2.2.2.1), (int .i64 x8.2.2.2.2.1), (bool x8.2.2.2.2.2)])]) 0 rfl rfl rfl (one_all rfl) F_size_65 rfl rfl (by simp) rfl) rfl rfl ?_
 rintro _ _ rfl
 refine ent_value (ov_assign rfl) rfl rfl rfl ?_
 refine ent_nil ?_
 refine ent_seq ?_
 refine ent_region ?_
 refine ent_value (ov_move rfl) rfl rfl rfl ?_
 refine ent_value (ov_bin rfl rfl (b_eql _ _ _)) rfl rfl rfl ?_
 refine ent_value (ov_move rfl) rfl rfl rfl ?_
 by_cases c6 : x10.1 = 0
 ·rw [if_pos c6] at H
  refine ent_value_on (ov_move rfl) rfl rfl rfl (eq_t c6) rfl rfl ?_
  refine ent_value_on (ov_bin rfl rfl (b_eql _ _ _)) rfl rfl rfl (eq_t c6) rfl rfl ?_
  refine ent_value (ov_pick rfl rfl rfl (pick_t (eq_t c6))) rfl rfl rfl ?_
  refine ent_value (ov_move rfl) rfl rfl rfl ?_
  by_cases c7 : x11.1 = 12
  ·rw [if_pos c7] at H
   refine ent_value_on (ov_move rfl) rfl rfl rfl (eq_t c7) rfl rfl ?_
   refine ent_value_on (ov_bin rfl rfl (b_eql _ _ _)) rfl rfl rfl (eq_t c7) rfl rfl ?_
   refine ent_value (ov_pick rfl rfl rfl (pick_t (eq_t c7))) rfl rfl rfl ?_
   refine ent_value (ov_move rfl) rfl rfl rfl ?_
   by_cases c8 : x12.1 = 0
   ·rw [if_pos c8] at H
    refine ent_value_on (ov_move rfl) rfl rfl rfl (eq_t c8) rfl rfl ?_
    refine ent_value (ov_pick rfl rfl rfl (pick_t (eq_t c8))) rfl rfl rfl ?_
    refine ent_value (ov_move rfl) rfl rfl rfl ?_
    by_cases c9 : x13.2.2.2.2.2.2 = true
    ·rw [if_pos c9] at H
     refine ent_value_on (ov_load_agg (vs := [(int .i64 x13.1), (int .i64 x13.2.1), (int .i64 x13.2.2.1), (int .i64 x13.2.2.2.1), (int .i64 x13.2.2.2.2.1), (bool x13.2.2.2.2.2.1)]) rfl F_agg_65 F_size_65 (reads_boxW (i := 0) rfl)) rfl rfl rfl c9 rfl rfl ?_
     refine ent_value_on (ov_load_agg (vs := [(int .i64 x9.1), (int .i64 x9.2.1), (int .i64 x9.2.2.1), (int .i64 x9.2.2.2.1), (int .i64 x9.2.2.2.2.1), (bool x9.2.2.2.2.2)]) rfl F_agg_65 F_size_65 (reads_boxW (i := 8) rfl)) rfl rfl rfl c9 rfl rfl ?_
     refine ent_value_on (ov_bin rfl rfl (same_65 _ _ _ _ _ _ _ _ _ _ _ _)) rfl rfl rfl c9 rfl rfl ?_
     refine ent_value (ov_pick rfl rfl rfl (pick_t c9)) rfl rfl rfl ?_
     refine ent_value (ov_move rfl) rfl rfl rfl ?_
     by_cases c10 : (((x13.1 == x9.1) && ((x13.2.1 == x9.2.1) && true)) && ((x13.2.2.1 == x9.2.2.1) && ((x13.2.2.2.1 == x9.2.2.2.1) && ((x13.2.2.2.2.1 == x9.2.2.2.2.1) && ((x13.2.2.2.2.2.1 == x9.2.2.2.2.2) && true))))) = true
     ·rw [if_pos c10] at H
      refine ent_value_on (ov_move rfl) rfl rfl rfl c10 rfl rfl ?_
      obtain ⟨x14, h16, H⟩ := thn_elim H
      refine ent_op_on (ot_call_same (Lr := [(box b16 65 [(int .i64 x13.1), (int .i64 x13.2.1), (int .i64 x13.2.2.1), (int .i64 x13.2.2.2.1), (int .i64 x13.2.2.2.2.1), (bool x13.2.2.2.2.2.1)]), (own sv12 63 2 [(⟨x8.1, x8.2.1⟩ : Api_Part)].length (fl enc_Api_Part [(⟨x8.1, x8.2.1⟩ : Api_Part)])), (own sv13 65 6 [(⟨(⟨x9.1, x9.2.1⟩ : Api_Part), x9.2.2.1, x9.2.2.2.1, x9.2.2.2.2.1, x9.2.2.2.2.2⟩ : Api_Entry)].length (fl enc_Api_Entry [(⟨(⟨x9.1, x9.2.1⟩ : Api_Part), x9.2.2.1, x9.2.2.2.1, x9.2.2.2.2.1, x9.2.2.2.2.2⟩ : Api_Entry)])), (own sv10 65 6 [(⟨(⟨x9.1, x9.2.1⟩ : Api_Part), x9.2.2.1, x9.2.2.2.1, x9.2.2.2.2.1, x9.2.2.2.2.2⟩ : Api_Entry)].length (fl enc_Api_Entry [(⟨(⟨x9.1, x9.2.1⟩ : Api_Part), x9.2.2.1, x9.2.2.2.1, x9.2.2.2.2.1, x9.2.2.2.2.2⟩ : Api_Entry)])), (own sv8 65 6 [(⟨(⟨x8.1, x8.2.1⟩ : Api_Part), x8.2.2.1, x8.2.2.2.1, x8.2.2.2.2.1, x8.2.2.2.2.2⟩ : Api_Entry)].length (fl enc_Api_Entry [(⟨(⟨x8.1, x8.2.1⟩ : Api_Part), x8.2.2.1, x8.2.2.2.1, x8.2.2.2.2.1, x8.2.2.2.2.2⟩ : Api_Entry)])), (box b12 65 [(int .i64 x9.1), (int .i64 x9.2.1), (int .i64 x9.2.2.1), (int .i64 x9.2.2.2.1), (int .i64 x9.2.2.2.2.1), (bool x9.2.2.2.2.2)]), (box b11 65 [(int .i64 x8.1), (int .i64 x8.2.1), (int .i64 x8.2.2.1), (int .i64 x8.2.2.2.1), (int .i64 x8.2.2.2.2.1), (bool x8.2.2.2.2.2)])]) [1, 2, 3, 0, 4, 5, 6, 7, 8, 9] [3, 0, 1, 2, 4, 5, 6, 7, 8, 9] (first := []) (cap := []) (xs := [.tmp 54]) rfl rfl F_call_37 rfl (catalog_Catalog_Len_O.spec b9 b15 sv14 x12.2 _ h16) (by decide) rfl (by decide) rfl) rfl rfl rfl c10 rfl rfl ?_
      rintro _ _ ⟨rfl, rfl⟩
      refine ent_value_on (ov_bin rfl rfl (b_eql _ _ _)) rfl rfl rfl c10 rfl rfl ?_
      refine ent_value (ov_pick rfl rfl rfl (pick_t c10)) rfl rfl rfl ?_
      refine ent_value (ov_assign rfl) rfl rfl rfl ?_
      refine ent_nil ?_
      refine ent_retc ?_
      cases H
      refine ent_pick [] (by decide) rfl ?_
      exact ret_tmp rfl rfl ⟨rfl, rfl⟩
     ·rw [if_neg c10] at H
      refine ent_off rfl rfl rfl (Bool.eq_false_iff.2 c10) rfl rfl ?_
      refine ent_off rfl rfl rfl (Bool.eq_false_iff.2 c10) rfl rfl ?_
      refine ent_off rfl rfl rfl (Bool.eq_false_iff.2 c10) rfl rfl ?_
      refine ent_value (ov_pick rfl rfl rfl (pick_f (Bool.eq_false_iff.2 c10))) rfl rfl rfl ?_
      refine ent_value (ov_assign rfl) rfl rfl rfl ?_
      refine ent_nil ?_
      refine ent_retc ?_
      cases H
      refine ent_pick [] (by decide) rfl ?_
      exact ret_tmp rfl rfl ⟨rfl, rfl⟩
    ·rw [if_neg c9] at H
     refine ent_off rfl rfl rfl (Bool.eq_false_iff.2 c9) rfl rfl ?_
     refine ent_off rfl rfl rfl (Bool.eq_false_iff.2 c9) rfl rfl ?_
     refine ent_off rfl rfl rfl (Bool.eq_false_iff.2 c9) rfl rfl ?_
     refine ent_value (ov_pick rfl rfl rfl (pick_f (Bool.eq_false_iff.2 c9))) rfl rfl rfl ?_
     refine ent_value (ov_move rfl) rfl rfl rfl ?_
     refine ent_off rfl rfl rfl rfl rfl rfl ?_
     refine ent_off rfl rfl rfl rfl rfl rfl ?_
     refine ent_off rfl rfl rfl rfl rfl rfl ?_
     refine ent_value (ov_pick rfl rfl rfl rfl) rfl rfl rfl ?_
     refine ent_value (ov_assign rfl) rfl rfl rfl ?_
     refine ent_nil ?_
     refine ent_retc ?_
     cases H
     refine ent_pick [] (by decide) rfl ?_
     exact ret_tmp rfl rfl ⟨rfl, rfl⟩
   ·rw [if_neg c8] at H
    refine ent_off rfl rfl rfl (eq_f c8) rfl rfl ?_
    refine ent_value (ov_pick rfl rfl rfl (pick_f (eq_f c8))) rfl rfl rfl ?_
    refine ent_value (ov_move rfl) rfl rfl rfl ?_
    refine ent_off rfl rfl rfl rfl rfl rfl ?_
    refine ent_off rfl rfl rfl rfl rfl rfl ?_
    refine ent_off rfl rfl rfl rfl rfl rfl ?_
    refine ent_value (ov_pick rfl rfl rfl rfl) rfl rfl rfl ?_
    refine ent_value (ov_move rfl) rfl rfl rfl ?_
    refine ent_off rfl rfl rfl rfl rfl rfl ?_
    refine ent_off rfl rfl rfl rfl rfl rfl ?_
    refine ent_off rfl rfl rfl rfl rfl rfl ?_
    refine ent_value (ov_pick rfl rfl rfl rfl) rfl rfl rfl ?_
    refine ent_value (ov_assign rfl) rfl rfl rfl ?_
    refine ent_nil ?_
    refine ent_retc ?_
    cases H
    refine ent_pick [] (by decide) rfl ?_
    exact ret_tmp rfl rfl ⟨rfl, rfl⟩
  ·rw [if_neg c7] at H
   refine ent_off rfl rfl rfl (eq_f c7) rfl rfl ?_
   refine ent_off rfl rfl rfl (eq_f c7) rfl rfl ?_
   refine ent_value (ov_pick rfl rfl rfl (pick_f (eq_f c7))) rfl rfl rfl ?_
   refine ent_value (ov_move rfl) rfl rfl rfl ?_
   refine ent_off rfl rfl rfl rfl rfl rfl ?_
   refine ent_value (ov_pick rfl rfl rfl rfl) rfl rfl rfl ?_
   refine ent_value (ov_move rfl) rfl rfl rfl ?_
   refine ent_off rfl rfl rfl rfl rfl rfl ?_
   refine ent_off rfl rfl rfl rfl rfl rfl ?_
   refine ent_off rfl rfl rfl rfl rfl rfl ?_
   refine ent_value (ov_pick rfl rfl rfl rfl) rfl rfl rfl ?_
   refine ent_value (ov_move rfl) rfl rfl rfl ?_
   refine ent_off rfl rfl rfl rfl rfl rfl ?_
   refine ent_off rfl rfl rfl rfl rfl rfl ?_
   refine ent_off rfl rfl rfl rfl rfl rfl ?_
   refine ent_value (ov_pick rfl rfl rfl rfl) rfl rfl rfl ?_
   refine ent_value (ov_assign rfl) rfl rfl rfl ?_
   refine ent_nil ?_
   refine ent_retc ?_
   cases H
   refine ent_pick [] (by decide) rfl ?_
   exact ret_tmp rfl rfl ⟨rfl, rfl⟩
 ·rw [if_neg c6] at H
  refine ent_off rfl rfl rfl (eq_f c6) rfl rfl ?_
  refine ent_off rfl rfl rfl (eq_f c6) rfl rfl ?_
  refine ent_value (ov_pick rfl rfl rfl (pick_f (eq_f c6))) rfl rfl rfl ?_
  refine ent_value (ov_move rfl) rfl rfl rfl ?_
  refine ent_off rfl rfl rfl rfl rfl rfl ?_
  refine ent_off rfl rfl rfl rfl rfl rfl ?_
  refine ent_value (ov_pick rfl rfl rfl rfl) rfl rfl rfl ?_
  refine ent_value (ov_move rfl) rfl rfl rfl ?_
  refine ent_off rfl rfl rfl rfl rfl rfl ?_
  refine ent_value (ov_pick rfl rfl rfl rfl) rfl rfl rfl ?_
  refine ent_value (ov_move rfl) rfl rfl rfl ?_
  refine ent_off rfl rfl rfl rfl rfl rfl ?_
  refine ent_off rfl rfl rfl rfl rfl rfl ?_
  refine ent_off rfl rfl rfl rfl rfl rfl ?_
  refine ent_value (ov_pick rfl rfl rfl rfl) rfl rfl rfl ?_
  refine ent_value (ov_move rfl) rfl rfl rfl ?_
  refine ent_off rfl rfl rfl rfl rfl rfl ?_
  refine ent_off rfl rfl rfl rfl rfl rfl ?_
  refine ent_off rfl rfl rfl rfl rfl rfl ?_
  refine ent_value (ov_pick rfl rfl rfl rfl) rfl rfl rfl ?_
  refine ent_value (ov_assign rfl) rfl rfl rfl ?_
  refine ent_nil ?_
  refine ent_retc ?_
  cases H
  refine ent_pick [] (by decide) rfl ?_
  exact ret_tmp rfl rfl ⟨rfl, rfl⟩

set_option maxRecDepth 100000 in
theorem ossuarylaw20_Back_O.spec (K : Nat) (p0 : Nat) (p1 : Nat) (sv0 : Value) (l0 : List Omap_pair__int64__api_Entry) (r : List Api_Entry) (H : ossuarylaw20_Back_O K l0 = some r) : FnSpec Try.prog 24 [(pt p0 0)] [(box p0 139 [(pt p1 0)]), (box p1 192 [sv0]), (own sv0 196 7 l0.length (fl enc_Omap_pair__int64__api_Entry l0))] (fun v M => ∃ sv2 : Value, v = sv2 ∧ M = [(box p0 139 [(pt p1 0)]), (box p1 192 [sv0]), (own sv0 196 7 l0.length (fl enc_Omap_pair__int64__api_Entry l0)), (own sv2 65 6 r.length (fl enc_Api_Entry r))]) := by
 unfold ossuarylaw20_Back_O at H
 refine spec_of Try.func24 rfl 5 rfl (Nat.le_of_ble_eq_true rfl) fun F w0 => ?_
 show Ent (St 5 w0 F [(0, (pt p0 0))] [(box p0 139 [(pt p1 0)]), (box p1 192 [sv0]), (own sv0 196 7 l0.length (fl enc_Omap_pair__int64__api_Entry l0))]) _
 refine ent_seq ?_
 refine ent_region ?_
 refine ent_value (ov_assign rfl) rfl rfl rfl ?_
 refine ent_nil ?_
 refine ent_seq ?_
 refine ent_region ?_
 refine ent_value (ov_move rfl) rfl rfl rfl ?_
 obtain ⟨x2, h2, H⟩ := Option.bind_eq_some_iff.1 H
 refine ent_op (ot_call (Lr := []) (first := []) (cap := []) (xs := [.tmp 3, .const (int .i64 (-4611686018427387904)), .const (int .i64 4611686018427387904)]) rfl rfl F_call_36 rfl (catalog_Catalog_Over_O.spec K p0 p1 sv0 l0 (-4611686018427387904) 4611686018427387904 _ h2) rfl) rfl rfl rfl ?_
 rintro sv3 _ ⟨_, ⟨_, rfl, rfl⟩, rfl⟩
 refine ent_value (ov_assign rfl) rfl rfl rfl ?_
 refine ent_nil ?_
 refine ent_retc ?_
 cases H
 refine ent_pick [0, 1, 2, 3] (by decide) rfl ?_
 exact ret_tmp rfl rfl ⟨_, rfl, rfl⟩

set_option maxRecDepth 100000 in
theorem ossuaryref20_Same_RR.spec (K : Nat) (sv0 : Value) (A0 : HP) (sv1 : Value) (A1 : HP) (l0 : List Api_Entry) (l1 : List Api_Entry) (hA0 : IsRd A0 sv0 l0.length 6 (fl enc_Api_Entry l0)) (hA1 : IsRd A1 sv1 l1.length 6 (fl enc_Api_Entry l1)) (r : Bool) (H : ossuaryref20_Same_RR K l0 l1 = some r) : FnSpec Try.prog 26 [sv0, sv1] [A0, A1] (fun v M => v = (bool r) ∧ M = [A0, A1]) := by
 unfold ossuaryref20_Same_RR at H
 refine spec_of Try.func26 rfl 26 rfl (Nat.le_of_ble_eq_true rfl) fun F w0 => ?_
 show Ent (St 26 w0 F [(0, sv0), (1, sv1)] [A0, A1]) _
 refine ent_seq ?_
 refine ent_region ?_
 refine ent_value (ov_assign rfl) rfl rfl rfl ?_
 refine ent_nil ?_
 refine ent_seq ?_
 refine ent_seq ?_
 refine ent_region ?_
 refine ent_value (ov_move rfl) rfl rfl rfl ?_
 refine ent_value (ov_len 0 rfl F_slice_53 rfl hA0) rfl rfl rfl ?_
 refine ent_value (ov_move rfl) rfl rfl rfl ?_
 refine ent_value (ov_len 1 rfl F_slice_53 rfl hA1) rfl rfl rfl ?_
 refine ent_value (ov_bin rfl rfl (b_neq _ _ _)) rfl rfl rfl ?_
 refine ent_nil ?_
 by_cases c48 : ¬ ((l0.length : Int) = (l1.length : Int))
 ·rw [if_pos c48] at H
  refine ent_cond_true rfl (ne_t c48) ?_
  refine ent_seq ?_
  refine ent_region ?_
  refine ent_value (ov_assign rfl) rfl rfl rfl ?_
  refine ent_nil ?_
  refine ent_retc ?_
  cases H
  refine ent_pick [0, 1] (by decide) rfl ?_
  exact ret_tmp rfl rfl ⟨rfl, rfl⟩
 ·rw [if_neg c48] at H
  refine ent_cond_false rfl (ne_f c48) ?_
  refine ent_skip ?_
  refine ent_seq ?_
  refine ent_seq ?_
  refine ent_region ?_
  refine ent_value (ov_assign rfl) rfl rfl rfl ?_
  refine ent_nil ?_
  refine ent_block ?_
  refine ent_loop (fun k a w => ∃ i4, ossuaryref20_Same_RR_l0 K l0 l1 k i4 = some r ∧ St 26 w0 F [(0, sv0), (1, sv1), (5, (int .i64 i4))] [A0, A1] a w) K ?_ ?_
  ·exact ent_fin [0, 1] (by decide) rfl (sub_cons (t := 0) rfl (sub_cons (t := 1) rfl (sub_cons (t := 5) rfl (sub_nil _)))) fun a w h => ⟨_, H, h⟩
  ·refine fun k => ent_exi fun i4 => ent_and fun H4 => ?_
   cases k with
   | zero => exact absurd H4 (by simp [ossuaryref20_Same_RR_l0])
   | succ k =>
    rw [ossuaryref20_Same_RR_l0] at H4
    refine ent_seq ?_
    refine ent_seq ?_
    refine ent_region ?_
    refine ent_value (ov_move rfl) rfl rfl rfl ?_
    refine ent_value (ov_move rfl) rfl rfl rfl ?_
    refine ent_value (ov_len 0 rfl F_slice_53 rfl hA0) rfl rfl rfl ?_
    refine ent_value (ov_bin rfl rfl (b_lss _ _ _)) rfl rfl rfl ?_
    refine ent_nil ?_
    by_cases c86 : i4 < (l0.length : Int)
    ·rw [if_pos c86] at H4
     refine ent_cond_true rfl (decide_eq_true c86) ?_
     refine ent_skip ?_
     refine ent_seq ?_
     refine ent_block ?_
     refine ent_seq ?_
     by_cases c90 : 0 ≤ i4
     ·rw [if_pos c90] at H4
      by_cases c91 : i4 < (l1.length : Int)
      ·rw [if_pos c91] at H4
       refine ent_drawm 9 rfl (fun done a w => StD 26 w0 F [(0, sv0), (1, sv1), (5, (int .i64 i4)), (11, (int .i64 i4)), (12, sv0), (13, (int .i64 (l0.length : Int))), (14, (bool (decide (i4 < (l0.length : Int)))))] [(0, 17, sv0), (1, 18, (int .i64 i4)), (2, 19, (eptr sv0 (i4.toNat * 6))), (3, 20, (agg #[(int .i64 (((l0.getD i4.toNat z_Api_Entry).Part).Tier)), (int .i64 (((l0.getD i4.toNat z_Api_Entry).Part).Index)), (int .i64 ((l0.getD i4.toNat z_Api_Entry).Seg)), (int .i64 ((l0.getD i4.toNat z_Api_Entry).Mark)), (int .i64 ((l0.getD i4.toNat z_Api_Entry).Rows)), (bool ((l0.getD i4.toNat z_Api_Entry).Cold))])), (4, 21, sv1), (5, 22, (int .i64 i4)), (6, 23, (eptr sv1 (i4.toNat * 6))), (7, 24, (agg #[(int .i64 (((l1.getD i4.toNat z_Api_Entry).Part).Tier)), (int .i64 (((l1.getD i4.toNat z_Api_Entry).Part).Index)), (int .i64 ((l1.getD i4.toNat z_Api_Entry).Seg)), (int .i64 ((l1.getD i4.toNat z_Api_Entry).Mark)), (int .i64 ((l1.getD i4.toNat z_Api_Entry).Rows)), (bool ((l1.getD i4.toNat z_Api_Entry).Cold))])), (8, 25, (bool (!((((((l0.getD i4.toNat z_Api_Entry).Part).Tier) == (((l1.getD i4.toNat z_Api_Entry).Part).Tier)) && (((((l0.getD i4.toNat z_Api_Entry).Part).Index) == (((l1.getD i4.toNat z_Api_Entry).Part).Index)) && true)) && ((((l0.getD i4.toNat z_Api_Entry).Seg) == ((l1.getD i4.toNat z_Api_Entry).Seg)) && ((((l0.getD i4.toNat z_Api_Entry).Mark) == ((l1.getD i4.toNat z_Api_Entry).Mark)) && ((((l0.getD i4.toNat z_Api_Entry).Rows) == ((l1.getD i4.toNat z_Api_Entry).Rows)) && ((((l0.getD i4.toNat z_Api_Entry).Cold) == ((l1.getD i4.toNat z_Api_Entry).Cold)) && true))))))))] done [A0, A1] a w) (by kernel_rfl) (by kernel_rfl) (draw_startL (sub_cons (t := 0) rfl (sub_cons (t := 1) rfl (sub_cons (t := 5) rfl (sub_cons (t := 11) rfl (sub_cons (t := 12) rfl (sub_cons (t := 13) rfl (sub_cons (t := 14) rfl (sub_nil _)))))))) rfl) ?_ ?_
       ·refine ⟨?_, ?_, ?_, ?_, ?_, ?_, ?_, ?_, ?_, trivial⟩
        ·intro done hi hc hcu
         exact draw_value (i := 0) (t := 17) (v := sv0) rfl rfl (wanted_none rfl) (fun a => hasA_base) (ov_move rfl) rfl rfl (onlyT_spec (k0 := 0) rfl rfl rfl)
        ·intro done hi hc hcu
         exact draw_value (i := 1) (t := 18) (v := (int .i64 i4)) rfl rfl (wanted_none rfl) (fun a => hasA_base) (ov_move rfl) rfl rfl (onlyT_spec (k0 := 1) rfl rfl rfl)
        ·intro done hi hc hcu
         have d0 : done 0 = true := done_of (j := 0) hcu rfl (by decide) rfl
         have d1 : done 1 = true := done_of (j := 1) hcu rfl (by decide) rfl
         exact draw_value (i := 2) (t := 19) (v := (eptr sv0 (i4.toNat * 6))) rfl rfl (wanted_none rfl) (fun a => (hasA_cons (k := 1) rfl d1 (hasA_cons (k := 0) rfl d0 hasA_base))) (ov_indexAddr (sz := 5) 0 rfl rfl F_slice_53 F_size_65 rfl hA0 c90 c86) rfl rfl (onlyT_spec (k0 := 2) rfl rfl rfl)
        ·intro done hi hc hcu
         have d2 : done 2 = true := done_of (j := 2) hcu rfl (by decide) rfl
         exact draw_value (i := 3) (t := 20) (v := (agg #[(int .i64 (((l0.getD i4.toNat z_Api_Entry).Part).Tier)), (int .i64 (((l0.getD i4.toNat z_Api_Entry).Part).Index)), (int .i64 ((l0.getD i4.toNat z_Api_Entry).Seg)), (int .i64 ((l0.getD i4.toNat z_Api_Entry).Mark)), (int .i64 ((l0.getD i4.toNat z_Api_Entry).Rows)), (bool ((l0.getD i4.toNat z_Api_Entry).Cold))])) rfl rfl (wanted_none rfl) (fun a => (hasA_cons (k := 2) rfl d2 hasA_base)) (ov_load_agg (vs := [(int .i64 (((l0.getD i4.toNat z_Api_Entry).Part).Tier)), (int .i64 (((l0.getD i4.toNat z_Api_Entry).Part).Index)), (int .i64 ((l0.getD i4.toNat z_Api_Entry).Seg)), (int .i64 ((l0.getD i4.toNat z_Api_Entry).Mark)), (int .i64 ((l0.getD i4.toNat z_Api_Entry).Rows)), (bool ((l0.getD i4.toNat z_Api_Entry).Cold))]) rfl F_agg_65 F_size_65 (reads_rd (i := 0) rfl hA0 (by simp) (fl_read0 enc_Api_Entry_len (ix_lt c90 c86) rfl))) rfl rfl (onlyT_spec (k0 := 3) rfl rfl rfl)
        ·intro done hi hc hcu
         exact draw_value (i := 4) (t := 21) (v := sv1) rfl rfl (wanted_none rfl) (fun a => hasA_base) (ov_move rfl) rfl rfl (onlyT_spec (k0 := 4) rfl rfl rfl)
        ·intro done hi hc hcu
         exact draw_value (i := 5) (t := 22) (v := (int .i64 i4)) rfl rfl (wanted_none rfl) (fun a => hasA_base) (ov_move rfl) rfl rfl (onlyT_spec (k0 := 5) rfl rfl rfl)
        ·intro done hi hc hcu
         have d4 : done 4 = true := done_of (j := 4) hcu rfl (by decide) rfl
         have d5 : done 5 = true := done_of (j := 5) hcu rfl (by decide) rfl
         exact draw_value (i := 6) (t := 23) (v := (eptr sv1 (i4.toNat * 6))) rfl rfl (wanted_none rfl) (fun a => (hasA_cons (k := 5) rfl d5 (hasA_cons (k := 4) rfl d4 hasA_base))) (ov_indexAddr (sz := 5) 1 rfl rfl F_slice_53 F_size_65 rfl hA1 c90 c91) rfl rfl (onlyT_spec (k0 := 6) rfl rfl rfl)
        ·intro done hi hc hcu
         have d6 : done 6 = true := done_of (j := 6) hcu rfl (by decide) rfl
         exact draw_value (i := 7) (t := 24) (v := (agg #[(int .i64 (((l1.getD i4.toNat z_Api_Entry).Part).Tier)), (int .i64 (((l1.getD i4.toNat z_Api_Entry).Part).Index)), (int .i64 ((l1.getD i4.toNat z_Api_Entry).Seg)), (int .i64 ((l1.getD i4.toNat z_Api_Entry).Mark)), (int .i64 ((l1.getD i4.toNat z_Api_Entry).Rows)), (bool ((l1.getD i4.toNat z_Api_Entry).Cold))])) rfl rfl (wanted_none rfl) (fun a => (hasA_cons (k := 6) rfl d6 hasA_base)) (ov_load_agg (vs := [(int .i64 (((l1.getD i4.toNat z_Api_Entry).Part).Tier)), (int .i64 (((l1.getD i4.toNat z_Api_Entry).Part).Index)), (int .i64 ((l1.getD i4.toNat z_Api_Entry).Seg)), (int .i64 ((l1.getD i4.toNat z_Api_Entry).Mark)), (int .i64 ((l1.getD i4.toNat z_Api_Entry).Rows)), (bool ((l1.getD i4.toNat z_Api_Entry).Cold))]) rfl F_agg_65 F_size_65 (reads_rd (i := 1) rfl hA1 (by simp) (fl_read0 enc_Api_Entry_len (ix_lt c90 c91) rfl))) rfl rfl (onlyT_spec (k0 := 7) rfl rfl rfl)
        ·intro done hi hc hcu
         have d3 : done 3 = true := done_of (j := 3) hcu rfl (by decide) rfl
         have d7 : done 7 = true := done_of (j := 7) hcu rfl (by decide) rfl
         exact draw_value (i := 8) (t := 25) (v := (bool (!((((((l0.getD i4.toNat z_Api_Entry).Part).Tier) == (((l1.getD i4.toNat z_Api_Entry).Part).Tier)) && (((((l0.getD i4.toNat z_Api_Entry).Part).Index) == (((l1.getD i4.toNat z_Api_Entry).Part).Index)) && true)) && ((((l0.getD i4.toNat z_Api_Entry).Seg) == ((l1.getD i4.toNat z_Api_Entry).Seg)) && ((((l0.getD i4.toNat z_Api_Entry).Mark) == ((l1.getD i4.toNat z_Api_Entry).Mark)) && ((((l0.getD i4.toNat z_Api_Entry).Rows) == ((l1.getD i4.toNat z_Api_Entry).Rows)) && ((((l0.getD i4.toNat z_Api_Entry).Cold) == ((l1.getD i4.toNat z_Api_Entry).Cold)) && true)))))))) rfl rfl (wanted_none rfl) (fun a => (hasA_cons (k := 7) rfl d7 (hasA_cons (k := 3) rfl d3 hasA_base))) (ov_bin rfl rfl (same_65_n _ _ _ _ _ _ _ _ _ _ _ _)) rfl rfl (onlyT_spec (k0 := 8) rfl rfl rfl)
       ·intro done hall
        refine draw_endL [A0, A1] rfl (fun a => (hasA_cons (k := 0) rfl (hall 0 (by decide)) (hasA_cons (k := 1) rfl (hall 1 (by decide)) (hasA_cons (k := 2) rfl (hall 2 (by decide)) (hasA_cons (k := 3) rfl (hall 3 (by decide)) (hasA_cons (k := 4) rfl (hall 4 (by decide)) (hasA_cons (k := 5) rfl (hall 5 (by decide)) (hasA_cons (k := 6) rfl (hall 6 (by decide)) (hasA_cons (k := 7) rfl (hall 7 (by decide)) (hasA_cons (k := 8) rfl (hall 8 (by decide)) hasA_base)))))))))) ?_
        by_cases c92 : (!((((((l0.getD i4.toNat z_Api_Entry).Part).Tier) == (((l1.getD i4.toNat z_Api_Entry).Part).Tier)) && (((((l0.getD i4.toNat z_Api_Entry).Part).Index) == (((l1.getD i4.toNat z_Api_Entry).Part).Index)) && true)) && ((((l0.getD i4.toNat z_Api_Entry).Seg) == ((l1.getD i4.toNat z_Api_Entry).Seg)) && ((((l0.getD i4.toNat z_Api_Entry).Mark) == ((l1.getD i4.toNat z_Api_Entry).Mark)) && ((((l0.getD i4.toNat z_Api_Entry).Rows) == ((l1.getD i4.toNat z_Api_Entry).Rows)) && ((((l0.getD i4.toNat z_Api_Entry).Cold) == ((l1.getD i4.toNat z_Api_Entry).Cold)) && true)))))) = true
        ·rw [if_pos c92] at H4
         refine ent_cond_true rfl c92 ?_
         refine ent_seq ?_
         refine ent_region ?_
         refine ent_value (ov_assign rfl) rfl rfl rfl ?_
         refine ent_nil ?_
         refine ent_retc ?_
         cases H4
         refine ent_pick [0, 1] (by decide) rfl ?_
         exact ret_tmp rfl rfl ⟨rfl, rfl⟩
        ·rw [if_neg c92] at H4
         refine ent_cond_false rfl (Bool.eq_false_iff.2 c92) ?_
         refine ent_skip ?_
         refine ent_region ?_
         refine ent_value (ov_move rfl) rfl rfl rfl ?_
         refine ent_value (ov_bin rfl rfl (b_add _ _ _) ) rfl rfl rfl ?_
         refine ent_value (ov_assign rfl) rfl rfl rfl ?_
         refine ent_nil ?_
         exact ent_fin [0, 1] (by decide) rfl (sub_cons (t := 0) rfl (sub_cons (t := 1) rfl (sub_cons (t := 5) rfl (sub_nil _)))) fun a w h => ⟨k, Nat.lt_succ_self k, _, H4, h⟩
      ·rw [if_neg c91] at H4
       cases H4
     ·rw [if_neg c90] at H4
      cases H4
    ·rw [if_neg c86] at H4
     refine ent_cond_false rfl (decide_eq_false c86) ?_
     refine ent_exit ?_
     refine ent_seq ?_
     refine ent_region ?_
     refine ent_value (ov_assign rfl) rfl rfl rfl ?_
     refine ent_nil ?_
     refine ent_retc ?_
     cases H4
     refine ent_pick [0, 1] (by decide) rfl ?_
     exact ret_tmp rfl rfl ⟨rfl, rfl⟩

set_option maxRecDepth 100000 in
theorem catalog_Catalog_Apply_ORR.spec (K : Nat) (p0 : Nat) (p1 : Nat) (sv0 : Value) (sv1 : Value) (A1 : HP) (sv2 : Value) (l0 : List Omap_pair__int64__api_Entry) (l1 : List Api_Part) (l2 : List Api_Entry) (hA1 : IsRd A1 sv1 l1.length 2 (fl enc_Api_Part l1)) (hA2 : IsRd A1 sv2 l2.length 6 (fl enc_Api_Entry l2)) (r : (Int × (List Omap_pair__int64__api_Entry))) (H : catalog_Catalog_Apply_ORR K l0 l1 l2 = some r) : FnSpec Try.prog 25 [(pt p0 0), (agg #[sv1, sv2])] [(box p0 139 [(pt p1 0)]), (box p1 192 [sv0]), (own sv0 196 7 l0.length (fl enc_Omap_pair__int64__api_Entry l0)), A1] (fun v M => ∃ b106 : Nat, ∃ sv66 : Value, v = (int .i64 r.1) ∧ M = [(box p0 139 [(pt b106 0)]), (box b106 192 [sv66]), (own sv66 196 7 r.2.length (fl enc_Omap_pair__int64__api_Entry r.2)), A1]) := by
 unfold catalog_Catalog_Apply_ORR at H
 refine spec_of Try.func25 rfl 67 rfl (Nat.le_of_ble_eq_true rfl) fun F w0 => ?_
 show Ent (St 67 w0 F [(0, (pt p0 0)), (1, (agg #[sv1, sv2]))] [(box p0 139 [(pt p1 0)]), (box p1 192 [sv0]), (own sv0 196 7 l0.length (fl enc_Omap_pair__int64__api_Entry l0)), A1]) _
 refine ent_seq ?_
 refine ent_region ?_
 refine ent_op (ot_box (cs := [sv1, sv2]) rfl rfl) rfl rfl rfl ?_
 rintro _ _ ⟨b107, rfl, rfl⟩
 refine ent_value (ov_assign rfl) rfl rfl rfl ?_
 refine ent_nil ?_
 refine ent_seq ?_
 refine ent_seq ?_
 refine ent_region ?_
 refine ent_value (ov_move rfl) rfl rfl rfl ?_
 refine ent_value (ov_bin rfl rfl (b_eql_of (fun w => rfl) rfl (eq_pn Try.underlying51 _ _))) rfl rfl rfl ?_
 refine ent_nil ?_
 refine ent_cond_false rfl rfl ?_
 refine ent_skip ?_
 refine ent_seq ?_
 refine ent_region ?_
 refine ent_value (ov_move rfl) rfl rfl rfl ?_
 obtain ⟨x127, h123, H⟩ := Option.bind_eq_some_iff.1 H
 refine ent_pick [1, 2, 3, 0, 4] (by decide) rfl ?_
 refine ent_op (ot_call (Lr := [(box b107 59 [sv1, sv2]), A1]) (first := []) (cap := []) (xs := [.tmp 17]) rfl rfl F_call_30 rfl (catalog_Catalog_Copy_O.spec K p0 p1 sv0 l0 _ h123) rfl) rfl rfl rfl ?_
 rintro _ _ ⟨_, ⟨b108, b109, sv67, rfl, rfl⟩, rfl⟩
 refine ent_value (ov_assign rfl) rfl rfl rfl ?_
 refine ent_nil ?_
 obtain ⟨x152, H18, H⟩ := Option.bind_eq_some_iff.1 H
 refine ent_seq_cut (fun a w => ∃ v5, x152 = Sum.inl v5 ∧ ∃ b128 : Nat, ∃ sv75 : Value, St 67 w0 F [(0, (pt p0 0)), (3, (pt b128 0)), (5, (pt b108 0))] [(box p0 139 [(pt p1 0)]), (box p1 192 [sv0]), (own sv0 196 7 l0.length (fl enc_Omap_pair__int64__api_Entry l0)), A1, (box b128 59 [sv1, sv2]), (box b108 139 [(pt b109 0)]), (box b109 192 [sv75]), (own sv75 196 7 v5.length (fl enc_Omap_pair__int64__api_Entry v5))] a w) ?_ ?_
 ·refine ent_seq ?_
  refine ent_region ?_
  refine ent_value (ov_fieldAddr (sz := 0) (o := 0) rfl F_field_59_0 F_size_56) rfl rfl rfl ?_
  refine ent_value (ov_load (v := sv1) rfl F_agg_56 (reads_box1 (i := 6) rfl rfl)) rfl rfl rfl ?_
  refine ent_value (ov_len 7 rfl F_slice_56 rfl hA1) rfl rfl rfl ?_
  refine ent_value (ov_move rfl) rfl rfl rfl ?_
  refine ent_nil ?_
  refine ent_block ?_
  refine ent_loop (fun k a w => ∃ i12, ∃ l19, ∃ sv78 : Value, catalog_Catalog_Apply_ORR_l0 K l0 l1 k i12 l19 = some x152 ∧ St 67 w0 F [(0, (pt p0 0)), (3, (pt b107 0)), (5, (pt b108 0)), (20, sv1), (21, (int .i64 (l1.length : Int))), (22, (int .i64 i12))] [(box p0 139 [(pt p1 0)]), (box p1 192 [sv0]), (own sv0 196 7 l0.length (fl enc_Omap_pair__int64__api_Entry l0)), A1, (box b107 59 [sv1, sv2]), (box b108 139 [(pt b109 0)]), (box b109 192 [sv78]), (own sv78 196 7 l19.length (fl enc_Omap_pair__int64__api_Entry l19))] a w) K ?_ ?_
  ·exact ent_fin [0, 1, 2, 7, 6, 3, 4, 5] (by decide) rfl (sub_cons (t := 0) rfl (sub_cons (t := 3) rfl (sub_cons (t := 5) rfl (sub_cons (t := 20) rfl (sub_cons (t := 21) rfl (sub_cons (t := 22) rfl (sub_nil _))))))) fun a w h => ⟨_, _, _, H18, h⟩
  ·refine fun k => ent_exi fun i12 => ent_exi fun l19 => ent_exi fun sv78 => ent_and fun H19 => ?_
   cases k with
   | zero => exact absurd H19 (by simp [catalog_Catalog_Apply_ORR_l0])
   | succ k =>
    rw [catalog_Catalog_Apply_ORR_l0] at H19
    refine ent_seq ?_
    refine ent_region ?_
    refine ent_value (ov_bin rfl rfl (b_lss _ _ _)) rfl rfl rfl ?_
    refine ent_nil ?_
    refine ent_seq ?_
    by_cases c190 : i12 < (l1.length : Int)
    ·rw [if_pos c190] at H19
     refine ent_cond_true rfl (decide_eq_true c190) ?_
     refine ent_skip ?_
     refine ent_seq ?_
     refine ent_block ?_
     refine ent_seq ?_
     refine ent_region ?_
     by_cases c194 : 0 ≤ i12
     ·rw [if_pos c194] at H19
      refine ent_value (ov_indexAddr (sz := 1) 3 rfl rfl F_slice_56 F_size_63 rfl hA1 c194 c190) rfl rfl rfl ?_
      refine ent_value (ov_load_agg (vs := [(int .i64 ((l1.getD i12.toNat z_Api_Part).Tier)), (int .i64 ((l1.getD i12.toNat z_Api_Part).Index))]) rfl F_agg_63 F_size_63 (reads_rd (i := 3) rfl hA1 (by simp) (fl_read0 enc_Api_Part_len (ix_lt c194 c190) rfl))) rfl rfl rfl ?_
      refine ent_op (ot_alloc F_zero_63) rfl rfl rfl ?_
      rintro _ _ ⟨b144, rfl, rfl⟩
      refine ent_op0 (ot_storeG (cs := [(int .i64 0), (int .i64 0)]) (cs' := [(int .i64 ((l1.getD i12.toNat z_Api_Part).Tier)), (int .i64 ((l1.getD i12.toNat z_Api_Part).Index))]) (us := [(int .i64 ((l1.getD i12.toNat z_Api_Part).Tier)), (int .i64 ((l1.getD i12.toNat z_Api_Part).Index))]) (L' := [(box b144 63 [(int .i64 ((l1.getD i12.toNat z_Api_Part).Tier)), (int .i64 ((l1.getD i12.toNat z_Api_Part).Index))]), (box p0 139 [(pt p1 0)]), (box p1 192 [sv0]), (own sv0 196 7 l0.length (fl enc_Omap_pair__int64__api_Entry l0)), A1, (box b107 59 [sv1, sv2]), (box b108 139 [(pt b109 0)]), (box b109 192 [sv78]), (own sv78 196 7 l19.length (fl enc_Omap_pair__int64__api_Entry l19))]) 0 rfl rfl rfl (one_all rfl) F_size_63 rfl rfl (by simp) rfl) rfl rfl ?_
      rintro _ _ rfl
      refine ent_nil ?_
      refine ent_seq ?_
      refine ent_seq ?_
      refine ent_region ?_
      refine ent_value (ov_move rfl) rfl rfl rfl ?_
      refine ent_value (ov_load_agg (vs := [(int .i64 ((l1.getD i12.toNat z_Api_Part).Tier)), (int .i64 ((l1.getD i12.toNat z_Api_Part).Index))]) rfl F_agg_63 F_size_63 (reads_boxW (i := 0) rfl)) rfl rfl rfl ?_
      obtain ⟨x174, h169, H19⟩ := Option.bind_eq_some_iff.1 H19
      refine ent_op (ot_call_same (Lr := [(box b144 63 [(int .i64 ((l1.getD i12.toNat z_Api_Part).Tier)), (int .i64 ((l1.getD i12.toNat z_Api_Part).Index))]), (box p0 139 [(pt p1 0)]), (box p1 192 [sv0]), (own sv0 196 7 l0.length (fl enc_Omap_pair__int64__api_Entry l0)), A1, (box b107 59 [sv1, sv2])]) [6, 7, 8, 0, 1, 2, 3, 4, 5] [3, 4, 5, 6, 7, 8, 0, 1, 2] (first := []) (cap := []) (xs := [.tmp 27, .tmp 28]) rfl rfl F_call_82 rfl (catalog_Catalog_Get_O.spec K b108 b109 sv78 l19 ((l1.getD i12.toNat z_Api_Part).Tier) ((l1.getD i12.toNat z_Api_Part).Index) _ h169) (by decide) rfl (by decide) rfl) rfl rfl rfl ?_
      rintro _ _ ⟨rfl, rfl⟩
      refine ent_value (ov_move rfl) rfl rfl rfl ?_
      refine ent_value (ov_extract rfl rfl) rfl rfl rfl ?_
      refine ent_value (ov_extract rfl rfl) rfl rfl rfl ?_
      refine ent_op (ot_alloc F_zero_65) rfl rfl rfl ?_
      rintro _ _ ⟨b146, rfl, rfl⟩
      refine ent_op0 (ot_storeG (cs := [(int .i64 0), (int .i64 0), (int .i64 0), (int .i64 0), (int .i64 0), (bool false)]) (cs' := [(int .i64 x174.1), (int .i64 x174.2.1), (int .i64 x174.2.2.1), (int .i64 x174.2.2.2.1), (int .i64 x174.2.2.2.2.1), (bool x174.2.2.2.2.2.1)]) (us := [(int .i64 x174.1), (int .i64 x174.2.1), (int .i64 x174.2.2.1), (int .i64 x174.2.2.2.1), (int .i64 x174.2.2.2.2.1), (bool x174.2.2.2.2.2.1)]) (L' := [(box b146 65 [(int .i64 x174.1), (int .i64 x174.2.1), (int .i64 x174.2.2.1), (int .i64 x174.2.2.2.1), (int .i64 x174.2.2.2.2.1), (bool x174.2.2.2.2.2.1)]), (box b144 63 [(int .i64 ((l1.getD i12.toNat z_Api_Part).Tier)), (int .i64 ((l1.getD i12.toNat z_Api_Part).Index))]), (box p0 139 [(pt p1 0)]), (box p1 192 [sv0]), (own sv0 196 7 l0.length (fl enc_Omap_pair__int64__api_Entry l0)), A1, (box b107 59 [sv1, sv2]), (box b108 139 [(pt b109 0)]), (box b109 192 [sv78]), (own sv78 196 7 l19.length (fl enc_Omap_pair__int64__api_Entry l19))]) 0 rfl rfl rfl (one_all rfl) F_size_65 rfl rfl (by simp) rfl) rfl rfl ?_
      rintro _ _ rfl
      refine ent_value (ov_assign rfl) rfl rfl rfl ?_
      refine ent_nil ?_
      refine ent_seq ?_
      refine ent_region ?_
      refine ent_value (ov_move rfl) rfl rfl rfl ?_
      refine ent_value (ov_un rfl (u_not _)) rfl rfl rfl ?_
      refine ent_nil ?_
      by_cases c196 : (!x174.2.2.2.2.2.2) = true
      ·rw [if_pos c196] at H19
       refine ent_cond_true rfl c196 ?_
       refine ent_seq ?_
       refine ent_region ?_
       refine ent_value (ov_assign rfl) rfl rfl rfl ?_
       refine ent_nil ?_
       refine ent_retc ?_
       cases H19
       have H20 := Option.some.inj (show some _ = some _ from H)
       cases H20
       refine ent_pick [2, 3, 4, 5] (by decide) rfl ?_
       exact ret_tmp rfl rfl ⟨_, _, rfl, rfl⟩
      ·rw [if_neg c196] at H19
       refine ent_cond_false rfl (Bool.eq_false_iff.2 c196) ?_
       refine ent_skip ?_
       refine ent_seq ?_
       refine ent_region ?_
       refine ent_value (ov_load_agg (vs := [(int .i64 ((l1.getD i12.toNat z_Api_Part).Tier)), (int .i64 ((l1.getD i12.toNat z_Api_Part).Index))]) rfl F_agg_63 F_size_63 (reads_boxW (i := 1) rfl)) rfl rfl rfl ?_
       obtain ⟨x175, h170, H19⟩ := thn_elim H19
       refine ent_op (ot_call0 (first := []) (cap := []) (xs := [.tmp 35]) rfl rfl F_call_35 rfl (part_Span.spec ((l1.getD i12.toNat z_Api_Part).Tier) ((l1.getD i12.toNat z_Api_Part).Index) _ h170)) rfl rfl rfl ?_
       rintro _ _ ⟨rfl, rfl⟩
       refine ent_value (ov_move rfl) rfl rfl rfl ?_
       refine ent_value (ov_extract rfl rfl) rfl rfl rfl ?_
       refine ent_value (ov_extract rfl rfl) rfl rfl rfl ?_
       refine ent_value (ov_assign rfl) rfl rfl rfl ?_
       refine ent_value (ov_assign rfl) rfl rfl rfl ?_
       refine ent_nil ?_
       refine ent_region ?_
       refine ent_value (ov_move rfl) rfl rfl rfl ?_
       refine ent_value (ov_nilCheck rfl) rfl rfl rfl ?_
       refine ent_value (ov_fieldAddr (sz := 0) (o := 0) rfl F_field_139_0 F_size_136) rfl rfl rfl ?_
       refine ent_value (ov_load (v := (pt b109 0)) rfl F_agg_136 (reads_box1 (i := 7) rfl rfl)) rfl rfl rfl ?_
       refine ent_value (ov_move rfl) rfl rfl rfl ?_
       obtain ⟨x176, h171, H19⟩ := Option.bind_eq_some_iff.1 H19
       refine ent_pick [8, 9, 0, 1, 2, 3, 4, 5, 6, 7] (by decide) rfl ?_
       refine ent_op (ot_call (Lr := [(box b146 65 [(int .i64 x174.1), (int .i64 x174.2.1), (int .i64 x174.2.2.1), (int .i64 x174.2.2.2.1), (int .i64 x174.2.2.2.2.1), (bool x174.2.2.2.2.2.1)]), (box b144 63 [(int .i64 ((l1.getD i12.toNat z_Api_Part).Tier)), (int .i64 ((l1.getD i12.toNat z_Api_Part).Index))]), (box p0 139 [(pt p1 0)]), (box p1 192 [sv0]), (own sv0 196 7 l0.length (fl enc_Omap_pair__int64__api_Entry l0)), A1, (box b107 59 [sv1, sv2]), (box b108 139 [(pt b109 0)])]) (first := []) (cap := []) (xs := [.tmp 42, .tmp 43]) rfl rfl F_call_83 rfl (omap_Map__int64__api_Entry_Drop_O.spec K b109 sv78 l19 x175.1 _ h171) rfl) rfl rfl rfl ?_
       rintro _ _ ⟨_, ⟨sv82, rfl, rfl⟩, rfl⟩
       refine ent_nil ?_
       refine ent_region ?_
       refine ent_value (ov_bin rfl rfl (b_add _ _ _) ) rfl rfl rfl ?_
       refine ent_value (ov_move rfl) rfl rfl rfl ?_
       refine ent_nil ?_
       exact ent_fin [4, 5, 6, 7, 8, 9, 0, 1] (by decide) rfl (sub_cons (t := 0) rfl (sub_cons (t := 3) rfl (sub_cons (t := 5) rfl (sub_cons (t := 20) rfl (sub_cons (t := 21) rfl (sub_cons (t := 22) rfl (sub_nil _))))))) fun a w h => ⟨k, Nat.lt_succ_self k, _, _, _, H19, h⟩
     ·rw [if_neg c194] at H19
      cases H19
    ·rw [if_neg c190] at H19
     refine ent_cond_false rfl (decide_eq_false c190) ?_
     refine ent_exit ?_
     cases H19
     exact ent_fin [0, 1, 2, 3, 4, 5, 6, 7] (by decide) rfl (sub_cons (t := 0) rfl (sub_cons (t := 3) rfl (sub_cons (t := 5) rfl (sub_nil _)))) fun a w h => ⟨_, rfl, _, _, h⟩
 ·refine ent_exi fun v5 => ent_and fun e_ => ?_
  subst e_
  rw [cas_inl] at H
  refine ent_exi fun b128 => ent_exi fun sv75 => ?_
  obtain ⟨x183, H22, H⟩ := Option.bind_eq_some_iff.1 H
  refine ent_seq_cut (fun a w => ∃ v6, x183 = Sum.inl v6 ∧ ∃ sv90 : Value, St 67 w0 F [(0, (pt p0 0)), (5, (pt b108 0))] [(box p0 139 [(pt p1 0)]), (box p1 192 [sv0]), (own sv0 196 7 l0.length (fl enc_Omap_pair__int64__api_Entry l0)), A1, (box b108 139 [(pt b109 0)]), (box b109 192 [sv90]), (own sv90 196 7 v6.length (fl enc_Omap_pair__int64__api_Entry v6))] a w) ?_ ?_
  ·refine ent_seq ?_
   refine ent_region ?_
   refine ent_value (ov_fieldAddr (sz := 0) (o := 0) rfl F_field_59_1 F_size_53) rfl rfl rfl ?_
   refine ent_value (ov_load (v := sv2) rfl F_agg_53 (reads_box1 (i := 4) rfl rfl)) rfl rfl rfl ?_
   refine ent_value (ov_len 3 rfl F_slice_53 rfl hA2) rfl rfl rfl ?_
   refine ent_value (ov_move rfl) rfl rfl rfl ?_
   refine ent_nil ?_
   refine ent_block ?_
   refine ent_loop (fun k a w => ∃ i14, ∃ l22, ∃ sv93 : Value, catalog_Catalog_Apply_ORR_l1 K l0 l2 k i14 l22 = some x183 ∧ St 67 w0 F [(0, (pt p0 0)), (5, (pt b108 0)), (47, sv2), (48, (int .i64 (l2.length : Int))), (49, (int .i64 i14))] [(box p0 139 [(pt p1 0)]), (box p1 192 [sv0]), (own sv0 196 7 l0.length (fl enc_Omap_pair__int64__api_Entry l0)), A1, (box b108 139 [(pt b109 0)]), (box b109 192 [sv93]), (own sv93 196 7 l22.length (fl enc_Omap_pair__int64__api_Entry l22))] a w) K ?_ ?_
   ·exact ent_fin [0, 1, 2, 3, 5, 6, 7] (by decide) rfl (sub_cons (t := 0) rfl (sub_cons (t := 5) rfl (sub_cons (t := 47) rfl (sub_cons (t := 48) rfl (sub_cons (t := 49) rfl (sub_nil _)))))) fun a w h => ⟨_, _, _, H22, h⟩
   ·refine fun k => ent_exi fun i14 => ent_exi fun l22 => ent_exi fun sv93 => ent_and fun H23 => ?_
    cases k with
    | zero => exact absurd H23 (by simp [catalog_Catalog_Apply_ORR_l1])
    | succ k =>
     rw [catalog_Catalog_Apply_ORR_l1] at H23
     refine ent_seq ?_
     refine ent_region ?_
     refine ent_value (ov_bin rfl rfl (b_lss _ _ _)) rfl rfl rfl ?_
     refine ent_nil ?_
     refine ent_seq ?_
     by_cases c224 : i14 < (l2.length : Int)
     ·rw [if_pos c224] at H23
      refine ent_cond_true rfl (decide_eq_true c224) ?_
      refine ent_skip ?_
      refine ent_seq ?_
      refine ent_block ?_
      refine ent_seq ?_
      refine ent_region ?_
      by_cases c227 : 0 ≤ i14
      ·rw [if_pos c227] at H23
       refine ent_value (ov_indexAddr (sz := 5) 3 rfl rfl F_slice_53 F_size_65 rfl hA2 c227 c224) rfl rfl rfl ?_
       refine ent_value (ov_load_agg (vs := [(int .i64 (((l2.getD i14.toNat z_Api_Entry).Part).Tier)), (int .i64 (((l2.getD i14.toNat z_Api_Entry).Part).Index)), (int .i64 ((l2.getD i14.toNat z_Api_Entry).Seg)), (int .i64 ((l2.getD i14.toNat z_Api_Entry).Mark)), (int .i64 ((l2.getD i14.toNat z_Api_Entry).Rows)), (bool ((l2.getD i14.toNat z_Api_Entry).Cold))]) rfl F_agg_65 F_size_65 (reads_rd (i := 3) rfl hA2 (by simp) (fl_read0 enc_Api_Entry_len (ix_lt c227 c224) rfl))) rfl rfl rfl ?_
       refine ent_op (ot_alloc F_zero_65) rfl rfl rfl ?_
       rintro _ _ ⟨b158, rfl, rfl⟩
       refine ent_op0 (ot_storeG (cs := [(int .i64 0), (int .i64 0), (int .i64 0), (int .i64 0), (int .i64 0), (bool false)]) (cs' := [(int .i64 (((l2.getD i14.toNat z_Api_Entry).Part).Tier)), (int .i64 (((l2.getD i14.toNat z_Api_Entry).Part).Index)), (int .i64 ((l2.getD i14.toNat z_Api_Entry).Seg)), (int .i64 ((l2.getD i14.toNat z_Api_Entry).Mark)), (int .i64 ((l2.getD i14.toNat z_Api_Entry).Rows)), (bool ((l2.getD i14.toNat z_Api_Entry).Cold))]) (us := [(int .i64 (((l2.getD i14.toNat z_Api_Entry).Part).Tier)), (int .i64 (((l2.getD i14.toNat z_Api_Entry).Part).Index)), (int .i64 ((l2.getD i14.toNat z_Api_Entry).Seg)), (int .i64 ((l2.getD i14.toNat z_Api_Entry).Mark)), (int .i64 ((l2.getD i14.toNat z_Api_Entry).Rows)), (bool ((l2.getD i14.toNat z_Api_Entry).Cold))]) (L' := [(box b158 65 [(int .i64 (((l2.getD i14.toNat z_Api_Entry).Part).Tier)), (int .i64 (((l2.getD i14.toNat z_Api_Entry).Part).Index)), (int .i64 ((l2.getD i14.toNat z_Api_Entry).Seg)), (int .i64 ((l2.getD i14.toNat z_Api_Entry).Mark)), (int .i64 ((l2.getD i14.toNat z_Api_Entry).Rows)), (bool ((l2.getD i14.toNat z_Api_Entry).Cold))]), (box p0 139 [(pt p1 0)]), (box p1 192 [sv0]), (own sv0 196 7 l0.length (fl enc_Omap_pair__int64__api_Entry l0)), A1, (box b108 139 [(pt b109 0)]), (box b109 192 [sv93]), (own sv93 196 7 l22.length (fl enc_Omap_pair__int64__api_Entry l22))]) 0 rfl rfl rfl (one_all rfl) F_size_65 rfl rfl (by simp) rfl) rfl rfl ?_
       rintro _ _ rfl
       refine ent_nil ?_
       refine ent_seq ?_
       refine ent_region ?_
       refine ent_value (ov_move rfl) rfl rfl rfl ?_
       refine ent_value (ov_load_agg (vs := [(int .i64 (((l2.getD i14.toNat z_Api_Entry).Part).Tier)), (int .i64 (((l2.getD i14.toNat z_Api_Entry).Part).Index)), (int .i64 ((l2.getD i14.toNat z_Api_Entry).Seg)), (int .i64 ((l2.getD i14.toNat z_Api_Entry).Mark)), (int .i64 ((l2.getD i14.toNat z_Api_Entry).Rows)), (bool ((l2.getD i14.toNat z_Api_Entry).Cold))]) rfl F_agg_65 F_size_65 (reads_boxW (i := 0) rfl)) rfl rfl rfl ?_
       obtain ⟨x189, h183, H23⟩ := Option.bind_eq_some_iff.1 H23
       refine ent_pick [5, 6, 7, 0, 1, 2, 3, 4] (by decide) rfl ?_
       refine ent_op (ot_call (Lr := [(box b158 65 [(int .i64 (((l2.getD i14.toNat z_Api_Entry).Part).Tier)), (int .i64 (((l2.getD i14.toNat z_Api_Entry).Part).Index)), (int .i64 ((l2.getD i14.toNat z_Api_Entry).Seg)), (int .i64 ((l2.getD i14.toNat z_Api_Entry).Mark)), (int .i64 ((l2.getD i14.toNat z_Api_Entry).Rows)), (bool ((l2.getD i14.toNat z_Api_Entry).Cold))]), (box p0 139 [(pt p1 0)]), (box p1 192 [sv0]), (own sv0 196 7 l0.length (fl enc_Omap_pair__int64__api_Entry l0)), A1]) (first := []) (cap := []) (xs := [.tmp 53, .tmp 54]) rfl rfl F_call_84 rfl (catalog_Catalog_put_O.spec K b108 b109 sv93 l22 (((l2.getD i14.toNat z_Api_Entry).Part).Tier) (((l2.getD i14.toNat z_Api_Entry).Part).Index) ((l2.getD i14.toNat z_Api_Entry).Seg) ((l2.getD i14.toNat z_Api_Entry).Mark) ((l2.getD i14.toNat z_Api_Entry).Rows) ((l2.getD i14.toNat z_Api_Entry).Cold) _ h183) rfl) rfl rfl rfl ?_
       rintro _ _ ⟨_, ⟨sv97, rfl, rfl⟩, rfl⟩
       refine ent_value (ov_assign rfl) rfl rfl rfl ?_
       refine ent_nil ?_
       refine ent_seq ?_
       refine ent_region ?_
       refine ent_value (ov_move rfl) rfl rfl rfl ?_
       refine ent_value (ov_bin rfl rfl (b_neq _ _ _)) rfl rfl rfl ?_
       refine ent_nil ?_
       by_cases c228 : ¬ (x189.1 = 0)
       ·rw [if_pos c228] at H23
        refine ent_cond_true rfl (ne_t c228) ?_
        refine ent_seq ?_
        refine ent_region ?_
        refine ent_value (ov_move rfl) rfl rfl rfl ?_
        refine ent_value (ov_assign rfl) rfl rfl rfl ?_
        refine ent_nil ?_
        refine ent_retc ?_
        cases H23
        have H24 := Option.some.inj (show some _ = some _ from H)
        cases H24
        refine ent_pick [4, 5, 6, 7] (by decide) rfl ?_
        exact ret_tmp rfl rfl ⟨_, _, rfl, rfl⟩
       ·rw [if_neg c228] at H23
        refine ent_cond_false rfl (ne_f c228) ?_
        refine ent_skip ?_
        refine ent_region ?_
        refine ent_value (ov_bin rfl rfl (b_add _ _ _) ) rfl rfl rfl ?_
        refine ent_value (ov_move rfl) rfl rfl rfl ?_
        refine ent_nil ?_
        exact ent_fin [4, 5, 6, 7, 0, 1, 2] (by decide) rfl (sub_cons (t := 0) rfl (sub_cons (t := 5) rfl (sub_cons (t := 47) rfl (sub_cons (t := 48) rfl (sub_cons (t := 49) rfl (sub_nil _)))))) fun a w h => ⟨k, Nat.lt_succ_self k, _, _, _, H23, h⟩
      ·rw [if_neg c227] at H23
       cases H23
     ·rw [if_neg c224] at H23
      refine ent_cond_false rfl (decide_eq_false c224) ?_
      refine ent_exit ?_
      cases H23
      exact ent_fin [0, 1, 2, 3, 4, 5, 6] (by decide) rfl (sub_cons (t := 0) rfl (sub_cons (t := 5) rfl (sub_nil _))) fun a w h => ⟨_, rfl, _, h⟩
  ·refine ent_exi fun v6 => ent_and fun e_ => ?_
   subst e_
   rw [cas_inl] at H
   refine ent_exi fun sv90 => ?_
   refine ent_seq ?_
   refine ent_region ?_
   refine ent_value (ov_move rfl) rfl rfl rfl ?_
   refine ent_value (ov_move rfl) rfl rfl rfl ?_
   refine ent_value (ov_nilCheck rfl) rfl rfl rfl ?_
   refine ent_value (ov_fieldAddr (sz := 0) (o := 0) rfl F_field_139_0 F_size_136) rfl rfl rfl ?_
   refine ent_value (ov_load (v := (pt b109 0)) rfl F_agg_136 (reads_box1 (i := 4) rfl rfl)) rfl rfl rfl ?_
   refine ent_value (ov_nilCheck rfl) rfl rfl rfl ?_
   refine ent_value (ov_fieldAddr (sz := 0) (o := 0) rfl F_field_139_0 F_size_136) rfl rfl rfl ?_
   refine ent_op0 (ot_storeG (cs := [(pt p1 0)]) (cs' := [(pt b109 0)]) (us := [(pt b109 0)]) (L' := [(box p0 139 [(pt b109 0)]), (box p1 192 [sv0]), (own sv0 196 7 l0.length (fl enc_Omap_pair__int64__api_Entry l0)), A1, (box b108 139 [(pt b109 0)]), (box b109 192 [sv90]), (own sv90 196 7 v6.length (fl enc_Omap_pair__int64__api_Entry v6))]) 0 rfl rfl rfl (one_all rfl) F_size_136 rfl rfl (by simp) rfl) rfl rfl ?_
   rintro _ _ rfl
   refine ent_nil ?_
   refine ent_seq ?_
   refine ent_region ?_
   refine ent_value (ov_assign rfl) rfl rfl rfl ?_
   refine ent_nil ?_
   refine ent_retc ?_
   cases H
   refine ent_pick [0, 5, 6, 3] (by decide) rfl ?_
   exact ret_tmp rfl rfl ⟨_, _, rfl, rfl⟩

set_option maxRecDepth 100000 in
theorem ossuaryref04_Leap.spec (a0 : Int) (r : Bool) (H : ossuaryref04_Leap a0 = r) : FnSpec Try.prog 211 [(int .i64 a0)] [] (fun v M => v = (bool r) ∧ M = []) := by
 unfold ossuaryref04_Leap at H
 refine spec_of Try.func211 rfl 16 rfl (Nat.le_of_ble_eq_true rfl) fun F w0 => ?_
 show Ent (St 16 w0 F [(0, (int .i64 a0))] []) _
 refine ent_seq ?_
 refine ent_region ?_
 refine ent_value (ov_assign rfl) rfl rfl rfl ?_
 refine ent_nil ?_
 refine ent_seq ?_
 refine ent_region ?_
 refine ent_value (ov_move rfl) rfl rfl rfl ?_
 refine ent_value (ov_bin rfl rfl fun w => b_rem _ _ _ w (by decide)) rfl rfl rfl ?_
 refine ent_value (ov_bin rfl rfl (b_eql _ _ _)) rfl rfl rfl ?_
 refine ent_value (ov_move rfl) rfl rfl rfl ?_
 by_cases c3 : (Int.tmod a0 4) = 0
 ·rw [if_pos c3] at H
  refine ent_value_on (ov_move rfl) rfl rfl rfl (eq_t c3) rfl rfl ?_
  refine ent_value_on (ov_bin rfl rfl fun w => b_rem _ _ _ w (by decide)) rfl rfl rfl (eq_t c3) rfl rfl ?_
  refine ent_value_on (ov_bin rfl rfl (b_neq _ _ _)) rfl rfl rfl (eq_t c3) rfl rfl ?_
  refine ent_value_on (ov_move rfl) rfl rfl rfl (eq_t c3) rfl rfl ?_
  by_cases c4 : ¬ ((Int.tmod a0 100) = 0)
  ·rw [if_pos c4] at H
   refine ent_off rfl rfl rfl (ne_t c4) rfl rfl ?_
   refine ent_off rfl rfl rfl (ne_t c4) rfl rfl ?_
   refine ent_off rfl rfl rfl (ne_t c4) rfl rfl ?_
   refine ent_value_on (ov_pick rfl rfl rfl (pick_t (ne_t c4))) rfl rfl rfl (eq_t c3) rfl rfl ?_
   refine ent_value (ov_pick rfl rfl rfl (pick_t (eq_t c3))) rfl rfl rfl ?_
   refine ent_value (ov_assign rfl) rfl rfl rfl ?_
   refine ent_nil ?_
   refine ent_retc ?_
   cases H
   refine ent_pick [] (by decide) rfl ?_
   exact ret_tmp rfl rfl ⟨rfl, rfl⟩
  ·rw [if_neg c4] at H
   refine ent_value_on (ov_move rfl) rfl rfl rfl (ne_f c4) rfl rfl ?_
   refine ent_value_on (ov_bin rfl rfl fun w => b_rem _ _ _ w (by decide)) rfl rfl rfl (ne_f c4) rfl rfl ?_
   refine ent_value_on (ov_bin rfl rfl (b_eql _ _ _)) rfl rfl rfl (ne_f c4) rfl rfl ?_
   refine ent_value_on (ov_pick rfl rfl rfl (pick_f (ne_f c4))) rfl rfl rfl (eq_t c3) rfl rfl ?_
   refine ent_value (ov_pick rfl rfl rfl (pick_t (eq_t c3))) rfl rfl rfl ?_
   refine ent_value (ov_assign rfl) rfl rfl rfl ?_
   refine ent_nil ?_
   refine ent_retc ?_
   cases H
   refine ent_pick [] (by decide) rfl ?_
   exact ret_tmp rfl rfl ⟨rfl, rfl⟩
 ·rw [if_neg c3] at H
  refine ent_off rfl rfl rfl (eq_f c3) rfl rfl ?_
  refine ent_off rfl rfl rfl (eq_f c3) rfl rfl ?_
  refine ent_off rfl rfl rfl (eq_f c3) rfl rfl ?_
  refine ent_off rfl rfl rfl (eq_f c3) rfl rfl ?_
  refine ent_offu rfl rfl rfl rfl rfl ?_
  refine ent_offu rfl rfl rfl rfl rfl ?_
  refine ent_offu rfl rfl rfl rfl rfl ?_
  refine ent_off rfl rfl rfl (eq_f c3) rfl rfl ?_
  refine ent_value (ov_pick rfl rfl rfl (pick_f (eq_f c3))) rfl rfl rfl ?_
  refine ent_value (ov_assign rfl) rfl rfl rfl ?_
  refine ent_nil ?_
  refine ent_retc ?_
  cases H
  refine ent_pick [] (by decide) rfl ?_
  exact ret_tmp rfl rfl ⟨rfl, rfl⟩

set_option maxRecDepth 100000 in
theorem ossuaryref04_days.spec (a0 : Int) (r : Int) (H : ossuaryref04_days a0 = r) : FnSpec Try.prog 210 [(int .i64 a0)] [] (fun v M => v = (int .i64 r) ∧ M = []) := by
 unfold ossuaryref04_days at H
 refine spec_of Try.func210 rfl 5 rfl (Nat.le_of_ble_eq_true rfl) fun F w0 => ?_
 show Ent (St 5 w0 F [(0, (int .i64 a0))] []) _
 refine ent_seq ?_
 refine ent_region ?_
 refine ent_value (ov_assign rfl) rfl rfl rfl ?_
 refine ent_nil ?_
 refine ent_seq ?_
 refine ent_seq ?_
 refine ent_region ?_
 refine ent_value (ov_move rfl) rfl rfl rfl ?_
 obtain ⟨x4, h4, H⟩ := thn_elim H
 refine ent_op (ot_call0 (first := []) (cap := []) (xs := [.tmp 3]) rfl rfl F_call_211 rfl (ossuaryref04_Leap.spec a0 _ h4)) rfl rfl rfl ?_
 rintro _ _ ⟨rfl, rfl⟩
 refine ent_nil ?_
 by_cases c4 : x4 = true
 ·rw [if_pos c4] at H
  refine ent_cond_true rfl c4 ?_
  refine ent_seq ?_
  refine ent_region ?_
  refine ent_value (ov_assign rfl) rfl rfl rfl ?_
  refine ent_nil ?_
  refine ent_retc ?_
  cases H
  refine ent_pick [] (by decide) rfl ?_
  exact ret_tmp rfl rfl ⟨rfl, rfl⟩
 ·rw [if_neg c4] at H
  refine ent_cond_false rfl (Bool.eq_false_iff.2 c4) ?_
  refine ent_skip ?_
  refine ent_seq ?_
  refine ent_region ?_
  refine ent_value (ov_assign rfl) rfl rfl rfl ?_
  refine ent_nil ?_
  refine ent_retc ?_
  cases H
  refine ent_pick [] (by decide) rfl ?_
  exact ret_tmp rfl rfl ⟨rfl, rfl⟩

set_option maxRecDepth 100000 in
theorem ossuaryref04_Length.spec (a0 : Int) (a1 : Int) (r : Int) (H : ossuaryref04_Length a0 a1 = r) : FnSpec Try.prog 172 [(int .i64 a0), (int .i64 a1)] [] (fun v M => v = (int .i64 r) ∧ M = []) := by
 unfold ossuaryref04_Length at H
 refine spec_of Try.func172 rfl 23 rfl (Nat.le_of_ble_eq_true rfl) fun F w0 => ?_
 show Ent (St 23 w0 F [(0, (int .i64 a0)), (1, (int .i64 a1))] []) _
 refine ent_seq ?_
 refine ent_region ?_
 refine ent_value (ov_assign rfl) rfl rfl rfl ?_
 refine ent_nil ?_
 refine ent_seq ?_
 refine ent_seq ?_
 refine ent_region ?_
 refine ent_value (ov_move rfl) rfl rfl rfl ?_
 refine ent_nil ?_
 refine ent_block ?_
 refine ent_seq ?_
 refine ent_region ?_
 refine ent_value (ov_bin rfl rfl (b_eql _ _ _)) rfl rfl rfl ?_
 refine ent_value (ov_assign rfl) rfl rfl rfl ?_
 refine ent_nil ?_
 by_cases c70 : a1 = 2
 ·rw [if_pos c70] at H
  refine ent_cond_true rfl (eq_t c70) ?_
  refine ent_seq ?_
  refine ent_seq ?_
  refine ent_region ?_
  refine ent_value (ov_move rfl) rfl rfl rfl ?_
  obtain ⟨x14, h8, H⟩ := thn_elim H
  refine ent_op (ot_call0 (first := []) (cap := []) (xs := [.tmp 8]) rfl rfl F_call_211 rfl (ossuaryref04_Leap.spec a0 _ h8)) rfl rfl rfl ?_
  rintro _ _ ⟨rfl, rfl⟩
  refine ent_nil ?_
  by_cases c72 : x14 = true
  ·rw [if_pos c72] at H
   refine ent_cond_true rfl c72 ?_
   refine ent_seq ?_
   refine ent_region ?_
   refine ent_value (ov_assign rfl) rfl rfl rfl ?_
   refine ent_nil ?_
   refine ent_retc ?_
   cases H
   refine ent_pick [] (by decide) rfl ?_
   exact ret_tmp rfl rfl ⟨rfl, rfl⟩
  ·rw [if_neg c72] at H
   refine ent_cond_false rfl (Bool.eq_false_iff.2 c72) ?_
   refine ent_skip ?_
   refine ent_seq ?_
   refine ent_region ?_
   refine ent_value (ov_assign rfl) rfl rfl rfl ?_
   refine ent_nil ?_
   refine ent_retc ?_
   cases H
   refine ent_pick [] (by decide) rfl ?_
   exact ret_tmp rfl rfl ⟨rfl, rfl⟩
 ·rw [if_neg c70] at H
  refine ent_cond_false rfl (eq_f c70) ?_
  obtain ⟨x15, H7, H⟩ := thn_elim H
  refine ent_seq_cut (fun a w => St 23 w0 F [(5, (int .i64 a1)), (10, (bool x15))] [] a w) ?_ ?_
  ·refine ent_seq ?_
   refine ent_region ?_
   refine ent_value (ov_bin rfl rfl (b_eql _ _ _)) rfl rfl rfl ?_
   refine ent_value (ov_assign rfl) rfl rfl rfl ?_
   refine ent_nil ?_
   by_cases c76 : a1 = 4
   ·rw [if_pos c76] at H7
    refine ent_cond_true rfl (eq_t c76) ?_
    refine ent_skip ?_
    cases H7
    exact ent_fin [] (by decide) rfl (sub_cons (t := 5) rfl (sub_cons (t := 10) rfl (sub_nil _))) fun a w h => h
   ·rw [if_neg c76] at H7
    refine ent_cond_false rfl (eq_f c76) ?_
    refine ent_seq ?_
    refine ent_region ?_
    refine ent_value (ov_bin rfl rfl (b_eql _ _ _)) rfl rfl rfl ?_
    refine ent_value (ov_assign rfl) rfl rfl rfl ?_
    refine ent_nil ?_
    by_cases c77 : a1 = 6
    ·rw [if_pos c77] at H7
     refine ent_cond_true rfl (eq_t c77) ?_
     refine ent_skip ?_
     cases H7
     exact ent_fin [] (by decide) rfl (sub_cons (t := 5) rfl (sub_cons (t := 10) rfl (sub_nil _))) fun a w h => h
    ·rw [if_neg c77] at H7
     refine ent_cond_false rfl (eq_f c77) ?_
     refine ent_seq ?_
     refine ent_region ?_
     refine ent_value (ov_bin rfl rfl (b_eql _ _ _)) rfl rfl rfl ?_
     refine ent_value (ov_assign rfl) rfl rfl rfl ?_
     refine ent_nil ?_
     by_cases c78 : a1 = 9
     ·rw [if_pos c78] at H7
      refine ent_cond_true rfl (eq_t c78) ?_
      refine ent_skip ?_
      cases H7
      exact ent_fin [] (by decide) rfl (sub_cons (t := 5) rfl (sub_cons (t := 10) rfl (sub_nil _))) fun a w h => h
     ·rw [if_neg c78] at H7
      refine ent_cond_false rfl (eq_f c78) ?_
      refine ent_region ?_
      refine ent_value (ov_bin rfl rfl (b_eql _ _ _)) rfl rfl rfl ?_
      refine ent_value (ov_assign rfl) rfl rfl rfl ?_
      refine ent_nil ?_
      cases H7
      exact ent_fin [] (by decide) rfl (sub_cons (t := 5) rfl (sub_cons (t := 10) rfl (sub_nil _))) fun a w h => h
  ·by_cases c79 : x15 = true
   ·rw [if_pos c79] at H
    refine ent_cond_true rfl c79 ?_
    refine ent_seq ?_
    refine ent_region ?_
    refine ent_value (ov_assign rfl) rfl rfl rfl ?_
    refine ent_nil ?_
    refine ent_retc ?_
    cases H
    refine ent_pick [] (by decide) rfl ?_
    exact ret_tmp rfl rfl ⟨rfl, rfl⟩
   ·rw [if_neg c79] at H
    refine ent_cond_false rfl (Bool.eq_false_iff.2 c79) ?_
    obtain ⟨x16, H8, H⟩ := thn_elim H
    refine ent_seq_cut (fun a w => St 23 w0 F [(15, (bool x16))] [] a w) ?_ ?_
    ·refine ent_seq ?_
     refine ent_region ?_
     refine ent_value (ov_bin rfl rfl (b_eql _ _ _)) rfl rfl rfl ?_
     refine ent_value (ov_assign rfl) rfl rfl rfl ?_
     refine ent_nil ?_
     by_cases c86 : a1 = 1
     ·rw [if_pos c86] at H8
      refine ent_cond_true rfl (eq_t c86) ?_
      refine ent_skip ?_
      cases H8
      exact ent_fin [] (by decide) rfl (sub_cons (t := 15) rfl (sub_nil _)) fun a w h => h
     ·rw [if_neg c86] at H8
      refine ent_cond_false rfl (eq_f c86) ?_
      refine ent_seq ?_
      refine ent_region ?_
      refine ent_value (ov_bin rfl rfl (b_eql _ _ _)) rfl rfl rfl ?_
      refine ent_value (ov_assign rfl) rfl rfl rfl ?_
      refine ent_nil ?_
      by_cases c87 : a1 = 3
      ·rw [if_pos c87] at H8
       refine ent_cond_true rfl (eq_t c87) ?_
       refine ent_skip ?_
       cases H8
       exact ent_fin [] (by decide) rfl (sub_cons (t := 15) rfl (sub_nil _)) fun a w h => h
      ·rw [if_neg c87] at H8
       refine ent_cond_false rfl (eq_f c87) ?_
       refine ent_seq ?_
       refine ent_region ?_
       refine ent_value (ov_bin rfl rfl (b_eql _ _ _)) rfl rfl rfl ?_
       refine ent_value (ov_assign rfl) rfl rfl rfl ?_
       refine ent_nil ?_
       by_cases c88 : a1 = 5
       ·rw [if_pos c88] at H8
        refine ent_cond_true rfl (eq_t c88) ?_
        refine ent_skip ?_
        cases H8
        exact ent_fin [] (by decide) rfl (sub_cons (t := 15) rfl (sub_nil _)) fun a w h => h
       ·rw [if_neg c88] at H8
        refine ent_cond_false rfl (eq_f c88) ?_
        refine ent_seq ?_
        refine ent_region ?_
        refine ent_value (ov_bin rfl rfl (b_eql _ _ _)) rfl rfl rfl ?_
        refine ent_value (ov_assign rfl) rfl rfl rfl ?_
        refine ent_nil ?_
        by_cases c89 : a1 = 7
        ·rw [if_pos c89] at H8
         refine ent_cond_true rfl (eq_t c89) ?_
         refine ent_skip ?_
         cases H8
         exact ent_fin [] (by decide) rfl (sub_cons (t := 15) rfl (sub_nil _)) fun a w h => h
        ·rw [if_neg c89] at H8
         refine ent_cond_false rfl (eq_f c89) ?_
         refine ent_seq ?_
         refine ent_region ?_
         refine ent_value (ov_bin rfl rfl (b_eql _ _ _)) rfl rfl rfl ?_
         refine ent_value (ov_assign rfl) rfl rfl rfl ?_
         refine ent_nil ?_
         by_cases c90 : a1 = 8
         ·rw [if_pos c90] at H8
          refine ent_cond_true rfl (eq_t c90) ?_
          refine ent_skip ?_
          cases H8
          exact ent_fin [] (by decide) rfl (sub_cons (t := 15) rfl (sub_nil _)) fun a w h => h
         ·rw [if_neg c90] at H8
          refine ent_cond_false rfl (eq_f c90) ?_
          refine ent_seq ?_
          refine ent_region ?_
          refine ent_value (ov_bin rfl rfl (b_eql _ _ _)) rfl rfl rfl ?_
          refine ent_value (ov_assign rfl) rfl rfl rfl ?_
          refine ent_nil ?_
          by_cases c91 : a1 = 10
          ·rw [if_pos c91] at H8
           refine ent_cond_true rfl (eq_t c91) ?_
           refine ent_skip ?_
           cases H8
           exact ent_fin [] (by decide) rfl (sub_cons (t := 15) rfl (sub_nil _)) fun a w h => h
          ·rw [if_neg c91] at H8
           refine ent_cond_false rfl (eq_f c91) ?_
           refine ent_region ?_
           refine ent_value (ov_bin rfl rfl (b_eql _ _ _)) rfl rfl rfl ?_
           refine ent_value (ov_assign rfl) rfl rfl rfl ?_
           refine ent_nil ?_
           cases H8
           exact ent_fin [] (by decide) rfl (sub_cons (t := 15) rfl (sub_nil _)) fun a w h => h
    ·by_cases c92 : x16 = true
     ·rw [if_pos c92] at H
      refine ent_cond_true rfl c92 ?_
      refine ent_seq ?_
      refine ent_region ?_
      refine ent_value (ov_assign rfl) rfl rfl rfl ?_
      refine ent_nil ?_
      refine ent_retc ?_
      cases H
      refine ent_pick [] (by decide) rfl ?_
      exact ret_tmp rfl rfl ⟨rfl, rfl⟩
     ·rw [if_neg c92] at H
      refine ent_cond_false rfl (Bool.eq_false_iff.2 c92) ?_
      refine ent_skip ?_
      refine ent_seq ?_
      refine ent_region ?_
      refine ent_value (ov_assign rfl) rfl rfl rfl ?_
      refine ent_nil ?_
      refine ent_retc ?_
      cases H
      refine ent_pick [] (by decide) rfl ?_
      exact ret_tmp rfl rfl ⟨rfl, rfl⟩

set_option maxRecDepth 100000 in
theorem ossuaryref04_Date.spec (K : Nat) (a0 : Int) (r : (Int × Int × Int)) (H : ossuaryref04_Date K a0 = some r) : FnSpec Try.prog 228 [(int .i64 a0)] [] (fun v M => v = (Value.tuple #[(int .i64 r.1), (int .i64 r.2.1), (int .i64 r.2.2)]) ∧ M = []) := by
 unfold ossuaryref04_Date at H
 refine spec_of Try.func228 rfl 41 rfl (Nat.le_of_ble_eq_true rfl) fun F w0 => ?_
 show Ent (St 41 w0 F [(0, (int .i64 a0))] []) _
 refine ent_seq ?_
 refine ent_region ?_
 refine ent_value (ov_assign rfl) rfl rfl rfl ?_
 refine ent_value (ov_assign rfl) rfl rfl rfl ?_
 refine ent_value (ov_assign rfl) rfl rfl rfl ?_
 refine ent_nil ?_
 refine ent_seq ?_
 refine ent_region ?_
 refine ent_value (ov_assign rfl) rfl rfl rfl ?_
 refine ent_nil ?_
 obtain ⟨x48, H8, H⟩ := Option.bind_eq_some_iff.1 H
 refine ent_seq_cut (fun a w => St 41 w0 F [(0, (int .i64 x48.1)), (5, (int .i64 x48.2))] [] a w) ?_ ?_
 ·refine ent_block ?_
  refine ent_loop (fun k a w => ∃ i17, ∃ i18, ossuaryref04_Date_l0 K k i17 i18 = some x48 ∧ St 41 w0 F [(0, (int .i64 i17)), (5, (int .i64 i18))] [] a w) K ?_ ?_
  ·exact ent_fin [] (by decide) rfl (sub_cons (t := 0) rfl (sub_cons (t := 5) rfl (sub_nil _))) fun a w h => ⟨_, _, H8, h⟩
  ·refine fun k => ent_exi fun i17 => ent_exi fun i18 => ent_and fun H9 => ?_
   cases k with
   | zero => exact absurd H9 (by simp [ossuaryref04_Date_l0])
   | succ k =>
    rw [ossuaryref04_Date_l0] at H9
    refine ent_seq ?_
    refine ent_seq ?_
    refine ent_region ?_
    refine ent_value (ov_move rfl) rfl rfl rfl ?_
    refine ent_value (ov_move rfl) rfl rfl rfl ?_
    obtain ⟨x56, h53, H9⟩ := thn_elim H9
    refine ent_op (ot_call0 (first := []) (cap := []) (xs := [.tmp 8]) rfl rfl F_call_210 rfl (ossuaryref04_days.spec i18 _ h53)) rfl rfl rfl ?_
    rintro _ _ ⟨rfl, rfl⟩
    refine ent_value (ov_bin rfl rfl (b_geq _ _ _)) rfl rfl rfl ?_
    refine ent_value (ov_move rfl) rfl rfl rfl ?_
    by_cases c59 : x56 ≤ i17
    ·rw [if_pos c59] at H9
     refine ent_value_on (ov_move rfl) rfl rfl rfl (decide_eq_true c59) rfl rfl ?_
     refine ent_value_on (ov_bin rfl rfl (b_lss _ _ _)) rfl rfl rfl (decide_eq_true c59) rfl rfl ?_
     refine ent_value (ov_pick rfl rfl rfl (pick_t (decide_eq_true c59))) rfl rfl rfl ?_
     refine ent_nil ?_
     by_cases c60 : i18 < 5000
     ·rw [if_pos c60] at H9
      refine ent_cond_true rfl (decide_eq_true c60) ?_
      refine ent_skip ?_
      refine ent_block ?_
      refine ent_seq ?_
      refine ent_region ?_
      refine ent_value (ov_move rfl) rfl rfl rfl ?_
      refine ent_value (ov_move rfl) rfl rfl rfl ?_
      obtain ⟨x57, h54, H9⟩ := thn_elim H9
      refine ent_op (ot_call0 (first := []) (cap := []) (xs := [.tmp 16]) rfl rfl F_call_210 rfl (ossuaryref04_days.spec i18 _ h54)) rfl rfl rfl ?_
      rintro _ _ ⟨rfl, rfl⟩
      refine ent_value (ov_bin rfl rfl (b_sub _ _ _) ) rfl rfl rfl ?_
      refine ent_value (ov_assign rfl) rfl rfl rfl ?_
      refine ent_nil ?_
      refine ent_region ?_
      refine ent_value (ov_move rfl) rfl rfl rfl ?_
      refine ent_value (ov_bin rfl rfl (b_add _ _ _) ) rfl rfl rfl ?_
      refine ent_value (ov_assign rfl) rfl rfl rfl ?_
      refine ent_nil ?_
      exact ent_fin [] (by decide) rfl (sub_cons (t := 0) rfl (sub_cons (t := 5) rfl (sub_nil _))) fun a w h => ⟨k, Nat.lt_succ_self k, _, _, H9, h⟩
     ·rw [if_neg c60] at H9
      refine ent_cond_false rfl (decide_eq_false c60) ?_
      refine ent_exit ?_
      cases H9
      exact ent_fin [] (by decide) rfl (sub_cons (t := 0) rfl (sub_cons (t := 5) rfl (sub_nil _))) fun a w h => h
    ·rw [if_neg c59] at H9
     refine ent_off rfl rfl rfl (decide_eq_false c59) rfl rfl ?_
     refine ent_off rfl rfl rfl (decide_eq_false c59) rfl rfl ?_
     refine ent_value (ov_pick rfl rfl rfl (pick_f (decide_eq_false c59))) rfl rfl rfl ?_
     refine ent_nil ?_
     refine ent_cond_false rfl rfl ?_
     refine ent_exit ?_
     cases H9
     exact ent_fin [] (by decide) rfl (sub_cons (t := 0) rfl (sub_cons (t := 5) rfl (sub_nil _))) fun a w h => h
 ·refine ent_seq ?_
  refine ent_region ?_
  refine ent_value (ov_assign rfl) rfl rfl rfl ?_
  refine ent_nil ?_
  obtain ⟨x67, H11, H⟩ := Option.bind_eq_some_iff.1 H
  refine ent_seq_cut (fun a w => St 41 w0 F [(0, (int .i64 x67.1)), (5, (int .i64 x48.2)), (6, (int .i64 x67.2))] [] a w) ?_ ?_
  ·refine ent_block ?_
   refine ent_loop (fun k a w => ∃ i23, ∃ i24, ossuaryref04_Date_l1 K x48 k i23 i24 = some x67 ∧ St 41 w0 F [(0, (int .i64 i23)), (5, (int .i64 x48.2)), (6, (int .i64 i24))] [] a w) K ?_ ?_
   ·exact ent_fin [] (by decide) rfl (sub_cons (t := 0) rfl (sub_cons (t := 5) rfl (sub_cons (t := 6) rfl (sub_nil _)))) fun a w h => ⟨_, _, H11, h⟩
   ·refine fun k => ent_exi fun i23 => ent_exi fun i24 => ent_and fun H12 => ?_
    cases k with
    | zero => exact absurd H12 (by simp [ossuaryref04_Date_l1])
    | succ k =>
     rw [ossuaryref04_Date_l1] at H12
     refine ent_seq ?_
     refine ent_seq ?_
     refine ent_region ?_
     refine ent_value (ov_move rfl) rfl rfl rfl ?_
     refine ent_value (ov_bin rfl rfl (b_lss _ _ _)) rfl rfl rfl ?_
     refine ent_value (ov_move rfl) rfl rfl rfl ?_
     by_cases c79 : i24 < 12
     ·rw [if_pos c79] at H12
      refine ent_value_on (ov_move rfl) rfl rfl rfl (decide_eq_true c79) rfl rfl ?_
      refine ent_value_on (ov_move rfl) rfl rfl rfl (decide_eq_true c79) rfl rfl ?_
      refine ent_value_on (ov_move rfl) rfl rfl rfl (decide_eq_true c79) rfl rfl ?_
      obtain ⟨x75, h71, H12⟩ := thn_elim H12
      refine ent_op_on (ot_call0 (first := []) (cap := []) (xs := [.tmp 25, .tmp 26]) rfl rfl F_call_172 rfl (ossuaryref04_Length.spec x48.2 i24 _ h71)) rfl rfl rfl (decide_eq_true c79) rfl rfl ?_
      rintro _ _ ⟨rfl, rfl⟩
      refine ent_value_on (ov_bin rfl rfl (b_geq _ _ _)) rfl rfl rfl (decide_eq_true c79) rfl rfl ?_
      refine ent_value (ov_pick rfl rfl rfl (pick_t (decide_eq_true c79))) rfl rfl rfl ?_
      refine ent_nil ?_
      by_cases c80 : x75 ≤ i23
      ·rw [if_pos c80] at H12
       refine ent_cond_true rfl (decide_eq_true c80) ?_
       refine ent_skip ?_
       refine ent_block ?_
       refine ent_seq ?_
       refine ent_region ?_
       refine ent_value (ov_move rfl) rfl rfl rfl ?_
       refine ent_value (ov_move rfl) rfl rfl rfl ?_
       refine ent_value (ov_move rfl) rfl rfl rfl ?_
       obtain ⟨x76, h72, H12⟩ := thn_elim H12
       refine ent_op (ot_call0 (first := []) (cap := []) (xs := [.tmp 31, .tmp 32]) rfl rfl F_call_172 rfl (ossuaryref04_Length.spec x48.2 i24 _ h72)) rfl rfl rfl ?_
       rintro _ _ ⟨rfl, rfl⟩
       refine ent_value (ov_bin rfl rfl (b_sub _ _ _) ) rfl rfl rfl ?_
       refine ent_value (ov_assign rfl) rfl rfl rfl ?_
       refine ent_nil ?_
       refine ent_region ?_
       refine ent_value (ov_move rfl) rfl rfl rfl ?_
       refine ent_value (ov_bin rfl rfl (b_add _ _ _) ) rfl rfl rfl ?_
       refine ent_value (ov_assign rfl) rfl rfl rfl ?_
       refine ent_nil ?_
       exact ent_fin [] (by decide) rfl (sub_cons (t := 0) rfl (sub_cons (t := 5) rfl (sub_cons (t := 6) rfl (sub_nil _)))) fun a w h => ⟨k, Nat.lt_succ_self k, _, _, H12, h⟩
      ·rw [if_neg c80] at H12
       refine ent_cond_false rfl (decide_eq_false c80) ?_
       refine ent_exit ?_
       cases H12
       exact ent_fin [] (by decide) rfl (sub_cons (t := 0) rfl (sub_cons (t := 5) rfl (sub_cons (t := 6) rfl (sub_nil _)))) fun a w h => h
     ·rw [if_neg c79] at H12
      refine ent_off rfl rfl rfl (decide_eq_false c79) rfl rfl ?_
      refine ent_off rfl rfl rfl (decide_eq_false c79) rfl rfl ?_
      refine ent_off rfl rfl rfl (decide_eq_false c79) rfl rfl ?_
      refine ent_off rfl rfl rfl (decide_eq_false c79) rfl rfl ?_
      refine ent_off rfl rfl rfl (decide_eq_false c79) rfl rfl ?_
      refine ent_value (ov_pick rfl rfl rfl (pick_f (decide_eq_false c79))) rfl rfl rfl ?_
      refine ent_nil ?_
      refine ent_cond_false rfl rfl ?_
      refine ent_exit ?_
      cases H12
      exact ent_fin [] (by decide) rfl (sub_cons (t := 0) rfl (sub_cons (t := 5) rfl (sub_cons (t := 6) rfl (sub_nil _)))) fun a w h => h
  ·refine ent_seq ?_
   refine ent_region ?_
   refine ent_value (ov_move rfl) rfl rfl rfl ?_
   refine ent_value (ov_move rfl) rfl rfl rfl ?_
   refine ent_value (ov_move rfl) rfl rfl rfl ?_
   refine ent_value (ov_bin rfl rfl (b_add _ _ _) ) rfl rfl rfl ?_
   refine ent_value (ov_assign rfl) rfl rfl rfl ?_
   refine ent_value (ov_assign rfl) rfl rfl rfl ?_
   refine ent_value (ov_assign rfl) rfl rfl rfl ?_
   refine ent_nil ?_
   refine ent_retc ?_
   cases H
   refine ent_pick [] (by decide) rfl ?_
   exact ret_mem (vs := [(int .i64 x48.2), (int .i64 x67.2), (int .i64 (w64 (x67.1 + 1)))]) rfl ⟨rfl, ⟨rfl, ⟨rfl, trivial⟩⟩⟩ _ rfl ⟨rfl, rfl⟩

set_option maxRecDepth 100000 in
theorem ossuaryref04_MonthOf.spec (K : Nat) (a0 : Int) (r : Int) (H : ossuaryref04_MonthOf K a0 = some r) : FnSpec Try.prog 209 [(int .i64 a0)] [] (fun v M => v = (int .i64 r) ∧ M = []) := by
 unfold ossuaryref04_MonthOf at H
 refine spec_of Try.func209 rfl 18 rfl (Nat.le_of_ble_eq_true rfl) fun F w0 => ?_
 show Ent (St 18 w0 F [(0, (int .i64 a0))] []) _
 refine ent_seq ?_
 refine ent_region ?_
 refine ent_value (ov_assign rfl) rfl rfl rfl ?_
 refine ent_nil ?_
 refine ent_seq ?_
 refine ent_region ?_
 refine ent_value (ov_move rfl) rfl rfl rfl ?_
 obtain ⟨x2, h2, H⟩ := Option.bind_eq_some_iff.1 H
 refine ent_op (ot_call0 (first := []) (cap := []) (xs := [.tmp 7]) rfl rfl F_call_228 rfl (ossuaryref04_Date.spec K a0 _ h2)) rfl rfl rfl ?_
 rintro _ _ ⟨rfl, rfl⟩
 refine ent_value (ov_move rfl) rfl rfl rfl ?_
 refine ent_value (ov_extract rfl rfl) rfl rfl rfl ?_
 refine ent_value (ov_extract rfl rfl) rfl rfl rfl ?_
 refine ent_value (ov_extract rfl rfl) rfl rfl rfl ?_
 refine ent_value (ov_assign rfl) rfl rfl rfl ?_
 refine ent_value (ov_assign rfl) rfl rfl rfl ?_
 refine ent_value (ov_assign rfl) rfl rfl rfl ?_
 refine ent_nil ?_
 refine ent_seq ?_
 refine ent_region ?_
 refine ent_value (ov_move rfl) rfl rfl rfl ?_
 refine ent_value (ov_bin rfl rfl (b_sub _ _ _) ) rfl rfl rfl ?_
 refine ent_value (ov_bin rfl rfl (b_mul _ _ _) ) rfl rfl rfl ?_
 refine ent_value (ov_move rfl) rfl rfl rfl ?_
 refine ent_value (ov_bin rfl rfl (b_add _ _ _) ) rfl rfl rfl ?_
 refine ent_value (ov_bin rfl rfl (b_sub _ _ _) ) rfl rfl rfl ?_
 refine ent_value (ov_assign rfl) rfl rfl rfl ?_
 refine ent_nil ?_
 refine ent_retc ?_
 cases H
 refine ent_pick [] (by decide) rfl ?_
 exact ret_tmp rfl rfl ⟨rfl, rfl⟩

set_option maxRecDepth 100000 in
theorem ossuaryref19_most.spec (K : Nat) (a0 : Int) (r : Int) (H : ossuaryref19_most K a0 = some r) : FnSpec Try.prog 170 [(int .i64 a0)] [] (fun v M => v = (int .i64 r) ∧ M = []) := by
 unfold ossuaryref19_most at H
 refine spec_of Try.func170 rfl 11 rfl (Nat.le_of_ble_eq_true rfl) fun F w0 => ?_
 show Ent (St 11 w0 F [(0, (int .i64 a0))] []) _
 refine ent_seq ?_
 refine ent_region ?_
 refine ent_value (ov_assign rfl) rfl rfl rfl ?_
 refine ent_nil ?_
 refine ent_seq ?_
 refine ent_seq ?_
 refine ent_region ?_
 refine ent_value (ov_move rfl) rfl rfl rfl ?_
 refine ent_nil ?_
 refine ent_block ?_
 refine ent_seq ?_
 refine ent_region ?_
 refine ent_value (ov_bin rfl rfl (b_eql _ _ _)) rfl rfl rfl ?_
 refine ent_value (ov_assign rfl) rfl rfl rfl ?_
 refine ent_nil ?_
 by_cases c10 : a0 = 1
 ·rw [if_pos c10] at H
  refine ent_cond_true rfl (eq_t c10) ?_
  refine ent_seq ?_
  refine ent_region ?_
  refine ent_value (ov_assign rfl) rfl rfl rfl ?_
  refine ent_nil ?_
  refine ent_retc ?_
  cases H
  refine ent_pick [] (by decide) rfl ?_
  exact ret_tmp rfl rfl ⟨rfl, rfl⟩
 ·rw [if_neg c10] at H
  refine ent_cond_false rfl (eq_f c10) ?_
  refine ent_seq ?_
  refine ent_region ?_
  refine ent_value (ov_bin rfl rfl (b_eql _ _ _)) rfl rfl rfl ?_
  refine ent_value (ov_assign rfl) rfl rfl rfl ?_
  refine ent_nil ?_
  by_cases c11 : a0 = 2
  ·rw [if_pos c11] at H
   refine ent_cond_true rfl (eq_t c11) ?_
   refine ent_seq ?_
   refine ent_region ?_
   refine ent_value (ov_assign rfl) rfl rfl rfl ?_
   refine ent_nil ?_
   refine ent_retc ?_
   cases H
   refine ent_pick [] (by decide) rfl ?_
   exact ret_tmp rfl rfl ⟨rfl, rfl⟩
  ·rw [if_neg c11] at H
   refine ent_cond_false rfl (eq_f c11) ?_
   refine ent_seq ?_
   refine ent_region ?_
   refine ent_value (ov_bin rfl rfl (b_eql _ _ _)) rfl rfl rfl ?_
   refine ent_value (ov_assign rfl) rfl rfl rfl ?_
   refine ent_nil ?_
   by_cases c12 : a0 = 3
   ·rw [if_pos c12] at H
    refine ent_cond_true rfl (eq_t c12) ?_
    refine ent_seq ?_
    refine ent_region ?_
    obtain ⟨x4, h4, H⟩ := Option.bind_eq_some_iff.1 H
    refine ent_op (ot_call0 (first := []) (cap := []) (xs := [.const (int .i64 699050)]) rfl rfl F_call_209 rfl (ossuaryref04_MonthOf.spec K 699050 _ h4)) rfl rfl rfl ?_
    rintro _ _ ⟨rfl, rfl⟩
    refine ent_value (ov_assign rfl) rfl rfl rfl ?_
    refine ent_nil ?_
    refine ent_retc ?_
    cases H
    refine ent_pick [] (by decide) rfl ?_
    exact ret_tmp rfl rfl ⟨rfl, rfl⟩
   ·rw [if_neg c12] at H
    refine ent_cond_false rfl (eq_f c12) ?_
    refine ent_skip ?_
    refine ent_seq ?_
    refine ent_region ?_
    refine ent_value (ov_assign rfl) rfl rfl rfl ?_
    refine ent_nil ?_
    refine ent_retc ?_
    cases H
    refine ent_pick [] (by decide) rfl ?_
    exact ret_tmp rfl rfl ⟨rfl, rfl⟩

set_option maxRecDepth 100000 in
theorem ossuaryref19_Right.spec (K : Nat) (a0_0 : Int) (a0_1 : Int) (r : Bool) (H : ossuaryref19_Right K a0_0 a0_1 = some r) : FnSpec Try.prog 135 [(agg #[(int .i64 a0_0), (int .i64 a0_1)])] [] (fun v M => v = (bool r) ∧ M = []) := by
 unfold ossuaryref19_Right at H
 refine spec_of Try.func135 rfl 14 rfl (Nat.le_of_ble_eq_true rfl) fun F w0 => ?_
 show Ent (St 14 w0 F [(0, (agg #[(int .i64 a0_0), (int .i64 a0_1)]))] []) _
 refine ent_seq ?_
 refine ent_region ?_
 refine ent_op (ot_box (cs := [(int .i64 a0_0), (int .i64 a0_1)]) rfl rfl) rfl rfl rfl ?_
 rintro _ _ ⟨b2, rfl, rfl⟩
 refine ent_value (ov_assign rfl) rfl rfl rfl ?_
 refine ent_nil ?_
 refine ent_seq ?_
 by_cases c2 : 0 ≤ a0_1
 ·rw [if_pos c2] at H
  obtain ⟨x2, h2, H⟩ := Option.bind_eq_some_iff.1 H
  refine ent_drawm 12 rfl (fun done a w => StD 14 w0 F [(0, (agg #[(int .i64 a0_0), (int .i64 a0_1)])), (1, (pt b2 0))] [(0, 3, (pt b2 1)), (1, 4, (int .i64 a0_1)), (2, 5, (bool (decide (0 ≤ a0_1)))), (3, 6, (bool (decide (0 ≤ a0_1)))), (4, 7, (pt b2 1)), (5, 8, (int .i64 a0_1)), (6, 9, (pt b2 0)), (7, 10, (int .i64 a0_0)), (8, 11, (int .i64 x2)), (9, 12, (bool (decide (a0_1 ≤ x2)))), (10, 13, (bool (decide (a0_1 ≤ x2)))), (11, 2, (bool (decide (a0_1 ≤ x2))))] done [(box b2 63 [(int .i64 a0_0), (int .i64 a0_1)])] a w) (by kernel_rfl) (by kernel_rfl) (draw_startL (sub_cons (t := 0) rfl (sub_cons (t := 1) rfl (sub_nil _))) rfl) ?_ ?_
  ·refine ⟨?_, ?_, ?_, ?_, ?_, ?_, ?_, ?_, ?_, ?_, ?_, ?_, trivial⟩
   ·intro done hi hc hcu
    exact draw_value (i := 0) (t := 3) (v := (pt b2 1)) rfl rfl (wanted_none rfl) (fun a => hasA_base) (ov_fieldAddr (sz := 0) (o := 0) rfl F_field_63_1 F_size_2) rfl rfl (onlyT_spec (k0 := 0) rfl rfl rfl)
   ·intro done hi hc hcu
    have d0 : done 0 = true := done_of (j := 0) hcu rfl (by decide) rfl
    exact draw_value (i := 1) (t := 4) (v := (int .i64 a0_1)) rfl rfl (wanted_none rfl) (fun a => (hasA_cons (k := 0) rfl d0 hasA_base)) (ov_load (v := (int .i64 a0_1)) rfl F_agg_2 (reads_box1 (i := 0) rfl rfl)) rfl rfl (onlyT_spec (k0 := 1) rfl rfl rfl)
   ·intro done hi hc hcu
    have d1 : done 1 = true := done_of (j := 1) hcu rfl (by decide) rfl
    exact draw_value (i := 2) (t := 5) (v := (bool (decide (0 ≤ a0_1)))) rfl rfl (wanted_none rfl) (fun a => (hasA_cons (k := 1) rfl d1 hasA_base)) (ov_bin rfl rfl (b_geq _ _ _)) rfl rfl (onlyT_spec (k0 := 2) rfl rfl rfl)
   ·intro done hi hc hcu
    have d2 : done 2 = true := done_of (j := 2) hcu rfl (by decide) rfl
    exact draw_value (i := 3) (t := 6) (v := (bool (decide (0 ≤ a0_1)))) rfl rfl (wanted_none rfl) (fun a => (hasA_cons (k := 2) rfl d2 hasA_base)) (ov_move rfl) rfl rfl (onlyT_spec (k0 := 3) rfl rfl rfl)
   ·intro done hi hc hcu
    have d3 : done 3 = true := done_of (j := 3) hcu rfl (by decide) rfl
    exact draw_value (i := 4) (t := 7) (v := (pt b2 1)) rfl rfl (wanted_on rfl rfl rfl (decide_eq_true c2)) (fun a => (hasA_cons (k := 3) rfl d3 hasA_base)) (ov_fieldAddr (sz := 0) (o := 0) rfl F_field_63_1 F_size_2) rfl rfl (onlyT_spec (k0 := 4) rfl rfl rfl)
   ·intro done hi hc hcu
    have d4 : done 4 = true := done_of (j := 4) hcu rfl (by decide) rfl
    have d3 : done 3 = true := done_of (j := 3) hcu rfl (by decide) rfl
    exact draw_value (i := 5) (t := 8) (v := (int .i64 a0_1)) rfl rfl (wanted_on rfl rfl rfl (decide_eq_true c2)) (fun a => (hasA_cons (k := 3) rfl d3 (hasA_cons (k := 4) rfl d4 hasA_base))) (ov_load (v := (int .i64 a0_1)) rfl F_agg_2 (reads_box1 (i := 0) rfl rfl)) rfl rfl (onlyT_spec (k0 := 5) rfl rfl rfl)
   ·intro done hi hc hcu
    have d3 : done 3 = true := done_of (j := 3) hcu rfl (by decide) rfl
    exact draw_value (i := 6) (t := 9) (v := (pt b2 0)) rfl rfl (wanted_on rfl rfl rfl (decide_eq_true c2)) (fun a => (hasA_cons (k := 3) rfl d3 hasA_base)) (ov_fieldAddr (sz := 0) (o := 0) rfl F_field_63_0 F_size_3) rfl rfl (onlyT_spec (k0 := 6) rfl rfl rfl)
   ·intro done hi hc hcu
    have d6 : done 6 = true := done_of (j := 6) hcu rfl (by decide) rfl
    have d3 : done 3 = true := done_of (j := 3) hcu rfl (by decide) rfl
    exact draw_value (i := 7) (t := 10) (v := (int .i64 a0_0)) rfl rfl (wanted_on rfl rfl rfl (decide_eq_true c2)) (fun a => (hasA_cons (k := 3) rfl d3 (hasA_cons (k := 6) rfl d6 hasA_base))) (ov_load (v := (int .i64 a0_0)) rfl F_agg_3 (reads_box1 (i := 0) rfl rfl)) rfl rfl (onlyT_spec (k0 := 7) rfl rfl rfl)
   ·intro done hi hc hcu
    have d7 : done 7 = true := done_of (j := 7) hcu rfl (by decide) rfl
    have d3 : done 3 = true := done_of (j := 3) hcu rfl (by decide) rfl
    exact draw_same (i := 8) (t := 11) (v := (int .i64 x2)) rfl rfl (wanted_on rfl rfl rfl (decide_eq_true c2)) (fun a => (hasA_cons (k := 3) rfl d3 (hasA_cons (k := 7) rfl d7 hasA_base))) (ot_call0 (first := []) (cap := []) (xs := [.tmp 10]) rfl rfl F_call_170 rfl (ossuaryref19_most.spec K a0_0 _ h2)) rfl rfl (onlyT_spec (k0 := 8) rfl rfl rfl)
   ·intro done hi hc hcu
    have d5 : done 5 = true := done_of (j := 5) hcu rfl (by decide) rfl
    have d8 : done 8 = true := done_of (j := 8) hcu rfl (by decide) rfl
    have d3 : done 3 = true := done_of (j := 3) hcu rfl (by decide) rfl
    exact draw_value (i := 9) (t := 12) (v := (bool (decide (a0_1 ≤ x2)))) rfl rfl (wanted_on rfl rfl rfl (decide_eq_true c2)) (fun a => (hasA_cons (k := 3) rfl d3 (hasA_cons (k := 8) rfl d8 (hasA_cons (k := 5) rfl d5 hasA_base)))) (ov_bin rfl rfl (b_leq _ _ _)) rfl rfl (onlyT_spec (k0 := 9) rfl rfl rfl)
   ·intro done hi hc hcu
    have d3 : done 3 = true := done_of (j := 3) hcu rfl (by decide) rfl
    have d9 : done 9 = true := done_of (j := 9) hcu rfl (by decide) rfl
    exact draw_value (i := 10) (t := 13) (v := (bool (decide (a0_1 ≤ x2)))) rfl rfl (wanted_none rfl) (fun a => (hasA_cons (k := 9) rfl d9 (hasA_cons (k := 3) rfl d3 hasA_base))) (ov_pick rfl rfl rfl (pick_t (decide_eq_true c2))) rfl rfl (onlyT_spec (k0 := 10) rfl rfl rfl)
   ·intro done hi hc hcu
    have d10 : done 10 = true := done_of (j := 10) hcu rfl (by decide) rfl
    exact draw_value (i := 11) (t := 2) (v := (bool (decide (a0_1 ≤ x2)))) rfl rfl (wanted_none rfl) (fun a => (hasA_cons (k := 10) rfl d10 hasA_base)) (ov_assign rfl) rfl rfl (onlyT_spec (k0 := 11) rfl rfl rfl)
  ·intro done hall
   refine draw_endL [(box b2 63 [(int .i64 a0_0), (int .i64 a0_1)])] rfl (fun a => (hasA_cons (k := 11) rfl (hall 11 (by decide)) (hasA_cons (k := 0) rfl (hall 0 (by decide)) (hasA_cons (k := 1) rfl (hall 1 (by decide)) (hasA_cons (k := 2) rfl (hall 2 (by decide)) (hasA_cons (k := 3) rfl (hall 3 (by decide)) (hasA_cons (k := 4) rfl (hall 4 (by decide)) (hasA_cons (k := 5) rfl (hall 5 (by decide)) (hasA_cons (k := 6) rfl (hall 6 (by decide)) (hasA_cons (k := 7) rfl (hall 7 (by decide)) (hasA_cons (k := 8) rfl (hall 8 (by decide)) (hasA_cons (k := 9) rfl (hall 9 (by decide)) (hasA_cons (k := 10) rfl (hall 10 (by decide)) hasA_base))))))))))))) ?_
   refine ent_retc ?_
   cases H
   refine ent_pick [] (by decide) rfl ?_
   exact ret_tmp rfl rfl ⟨rfl, rfl⟩
 ·rw [if_neg c2] at H
  refine ent_drawm 12 rfl (fun done a w => StD 14 w0 F [(0, (agg #[(int .i64 a0_0), (int .i64 a0_1)])), (1, (pt b2 0))] [(0, 3, (pt b2 1)), (1, 4, (int .i64 a0_1)), (2, 5, (bool (decide (0 ≤ a0_1)))), (3, 6, (bool (decide (0 ≤ a0_1)))), (4, 7, undef), (5, 8, undef), (6, 9, undef), (7, 10, undef), (8, 11, undef), (9, 12, undef), (10, 13, (bool false)), (11, 2, (bool false))] done [(box b2 63 [(int .i64 a0_0), (int .i64 a0_1)])] a w) (by kernel_rfl) (by kernel_rfl) (draw_startL (sub_cons (t := 0) rfl (sub_cons (t := 1) rfl (sub_nil _))) rfl) ?_ ?_
  ·refine ⟨?_, ?_, ?_, ?_, ?_, ?_, ?_, ?_, ?_, ?_, ?_, ?_, trivial⟩
   ·intro done hi hc hcu
    exact draw_value (i := 0) (t := 3) (v := (pt b2 1)) rfl rfl (wanted_none rfl) (fun a => hasA_base) (ov_fieldAddr (sz := 0) (o := 0) rfl F_field_63_1 F_size_2) rfl rfl (onlyT_spec (k0 := 0) rfl rfl rfl)
   ·intro done hi hc hcu
    have d0 : done 0 = true := done_of (j := 0) hcu rfl (by decide) rfl
    exact draw_value (i := 1) (t := 4) (v := (int .i64 a0_1)) rfl rfl (wanted_none rfl) (fun a => (hasA_cons (k := 0) rfl d0 hasA_base)) (ov_load (v := (int .i64 a0_1)) rfl F_agg_2 (reads_box1 (i := 0) rfl rfl)) rfl rfl (onlyT_spec (k0 := 1) rfl rfl rfl)
   ·intro done hi hc hcu
    have d1 : done 1 = true := done_of (j := 1) hcu rfl (by decide) rfl
    exact draw_value (i := 2) (t := 5) (v := (bool (decide (0 ≤ a0_1)))) rfl rfl (wanted_none rfl) (fun a => (hasA_cons (k := 1) rfl d1 hasA_base)) (ov_bin rfl rfl (b_geq _ _ _)) rfl rfl (onlyT_spec (k0 := 2) rfl rfl rfl)
   ·intro done hi hc hcu
    have d2 : done 2 = true := done_of (j := 2) hcu rfl (by decide) rfl
    exact draw_value (i := 3) (t := 6) (v := (bool (decide (0 ≤ a0_1)))) rfl rfl (wanted_none rfl) (fun a => (hasA_cons (k := 2) rfl d2 hasA_base)) (ov_move rfl) rfl rfl (onlyT_spec (k0 := 3) rfl rfl rfl)
   ·intro done hi hc hcu
    have d3 : done 3 = true := done_of (j := 3) hcu rfl (by decide) rfl
    exact draw_off (i := 4) (t := 7) rfl rfl (wanted_off rfl rfl rfl (decide_eq_false c2)) (fun a => (hasA_cons (k := 3) rfl d3 hasA_base)) rfl rfl (onlyT_spec (k0 := 4) rfl rfl rfl)
   ·intro done hi hc hcu
    have d3 : done 3 = true := done_of (j := 3) hcu rfl (by decide) rfl
    exact draw_off (i := 5) (t := 8) rfl rfl (wanted_off rfl rfl rfl (decide_eq_false c2)) (fun a => (hasA_cons (k := 3) rfl d3 hasA_base)) rfl rfl (onlyT_spec (k0 := 5) rfl rfl rfl)
   ·intro done hi hc hcu
    have d3 : done 3 = true := done_of (j := 3) hcu rfl (by decide) rfl
    exact draw_off (i := 6) (t := 9) rfl rfl (wanted_off rfl rfl rfl (decide_eq_false c2)) (fun a => (hasA_cons (k := 3) rfl d3 hasA_base)) rfl rfl (onlyT_spec (k0 := 6) rfl rfl rfl)
   ·intro done hi hc hcu
    have d3 : done 3 = true := done_of (j := 3) hcu rfl (by decide) rfl
    exact draw_off (i := 7) (t := 10) rfl rfl (wanted_off rfl rfl rfl (decide_eq_false c2)) (fun a => (hasA_cons (k := 3) rfl d3 hasA_base)) rfl rfl (onlyT_spec (k0 := 7) rfl rfl rfl)
   ·intro done hi hc hcu
    have d3 : done 3 = true := done_of (j := 3) hcu rfl (by decide) rfl
    exact draw_off (i := 8) (t := 11) rfl rfl (wanted_off rfl rfl rfl (decide_eq_false c2)) (fun a => (hasA_cons (k := 3) rfl d3 hasA_base)) rfl rfl (onlyT_spec (k0 := 8) rfl rfl rfl)
   ·intro done hi hc hcu
    have d3 : done 3 = true := done_of (j := 3) hcu rfl (by decide) rfl
    exact draw_off (i := 9) (t := 12) rfl rfl (wanted_off rfl rfl rfl (decide_eq_false c2)) (fun a => (hasA_cons (k := 3) rfl d3 hasA_base)) rfl rfl (onlyT_spec (k0 := 9) rfl rfl rfl)
   ·intro done hi hc hcu
    have d3 : done 3 = true := done_of (j := 3) hcu rfl (by decide) rfl
    have d9 : done 9 = true := done_of (j := 9) hcu rfl (by decide) rfl
    exact draw_value (i := 10) (t := 13) (v := (bool false)) rfl rfl (wanted_none rfl) (fun a => (hasA_cons (k := 9) rfl d9 (hasA_cons (k := 3) rfl d3 hasA_base))) (ov_pick rfl rfl rfl (pick_f (decide_eq_false c2))) rfl rfl (onlyT_spec (k0 := 10) rfl rfl rfl)
   ·intro done hi hc hcu
    have d10 : done 10 = true := done_of (j := 10) hcu rfl (by decide) rfl
    exact draw_value (i := 11) (t := 2) (v := (bool false)) rfl rfl (wanted_none rfl) (fun a => (hasA_cons (k := 10) rfl d10 hasA_base)) (ov_assign rfl) rfl rfl (onlyT_spec (k0 := 11) rfl rfl rfl)
  ·intro done hall
   refine draw_endL [(box b2 63 [(int .i64 a0_0), (int .i64 a0_1)])] rfl (fun a => (hasA_cons (k := 11) rfl (hall 11 (by decide)) (hasA_cons (k := 0) rfl (hall 0 (by decide)) (hasA_cons (k := 1) rfl (hall 1 (by decide)) (hasA_cons (k := 2) rfl (hall 2 (by decide)) (hasA_cons (k := 3) rfl (hall 3 (by decide)) (hasA_cons (k := 4) rfl (hall 4 (by decide)) (hasA_cons (k := 5) rfl (hall 5 (by decide)) (hasA_cons (k := 6) rfl (hall 6 (by decide)) (hasA_cons (k := 7) rfl (hall 7 (by decide)) (hasA_cons (k := 8) rfl (hall 8 (by decide)) (hasA_cons (k := 9) rfl (hall 9 (by decide)) (hasA_cons (k := 10) rfl (hall 10 (by decide)) hasA_base))))))))))))) ?_
   refine ent_retc ?_
   cases H
   refine ent_pick [] (by decide) rfl ?_
   exact ret_tmp rfl rfl ⟨rfl, rfl⟩

set_option maxRecDepth 100000 in
theorem ossuaryref04_Number.spec (K : Nat) (a0 : Int) (a1 : Int) (a2 : Int) (r : (Int × Bool)) (H : ossuaryref04_Number K a0 a1 a2 = some r) : FnSpec Try.prog 171 [(int .i64 a0), (int .i64 a1), (int .i64 a2)] [] (fun v M => v = (Value.tuple #[(int .i64 r.1), (bool r.2)]) ∧ M = []) := by
 unfold ossuaryref04_Number at H
 refine spec_of Try.func171 rfl 51 rfl (Nat.le_of_ble_eq_true rfl) fun F w0 => ?_
 show Ent (St 51 w0 F [(0, (int .i64 a0)), (1, (int .i64 a1)), (2, (int .i64 a2))] []) _
 refine ent_seq ?_
 refine ent_region ?_
 refine ent_value (ov_assign rfl) rfl rfl rfl ?_
 refine ent_value (ov_assign rfl) rfl rfl rfl ?_
 refine ent_nil ?_
 refine ent_seq ?_
 refine ent_seq ?_
 refine ent_region ?_
 refine ent_value (ov_move rfl) rfl rfl rfl ?_
 refine ent_value (ov_bin rfl rfl (b_lss _ _ _)) rfl rfl rfl ?_
 refine ent_value (ov_move rfl) rfl rfl rfl ?_
 by_cases c37 : a0 < 1970
 ·rw [if_pos c37] at H
  refine ent_off rfl rfl rfl (decide_eq_true c37) rfl rfl ?_
  refine ent_off rfl rfl rfl (decide_eq_true c37) rfl rfl ?_
  refine ent_value (ov_pick rfl rfl rfl (pick_t (decide_eq_true c37))) rfl rfl rfl ?_
  refine ent_value (ov_move rfl) rfl rfl rfl ?_
  refine ent_off rfl rfl rfl rfl rfl rfl ?_
  refine ent_off rfl rfl rfl rfl rfl rfl ?_
  refine ent_value (ov_pick rfl rfl rfl rfl) rfl rfl rfl ?_
  refine ent_value (ov_move rfl) rfl rfl rfl ?_
  refine ent_off rfl rfl rfl rfl rfl rfl ?_
  refine ent_off rfl rfl rfl rfl rfl rfl ?_
  refine ent_off rfl rfl rfl rfl rfl rfl ?_
  refine ent_off rfl rfl rfl rfl rfl rfl ?_
  refine ent_off rfl rfl rfl rfl rfl rfl ?_
  refine ent_value (ov_pick rfl rfl rfl rfl) rfl rfl rfl ?_
  refine ent_nil ?_
  refine ent_cond_true rfl rfl ?_
  refine ent_seq ?_
  refine ent_region ?_
  refine ent_value (ov_assign rfl) rfl rfl rfl ?_
  refine ent_value (ov_assign rfl) rfl rfl rfl ?_
  refine ent_nil ?_
  refine ent_retc ?_
  cases H
  refine ent_pick [] (by decide) rfl ?_
  exact ret_mem (vs := [(int .i64 0), (bool false)]) rfl ⟨rfl, ⟨rfl, trivial⟩⟩ _ rfl ⟨rfl, rfl⟩
 ·rw [if_neg c37] at H
  refine ent_value_on (ov_move rfl) rfl rfl rfl (decide_eq_false c37) rfl rfl ?_
  refine ent_value_on (ov_bin rfl rfl (b_gtr _ _ _)) rfl rfl rfl (decide_eq_false c37) rfl rfl ?_
  refine ent_value (ov_pick rfl rfl rfl (pick_f (decide_eq_false c37))) rfl rfl rfl ?_
  refine ent_value (ov_move rfl) rfl rfl rfl ?_
  by_cases c38 : 4900 < a0
  ·rw [if_pos c38] at H
   refine ent_off rfl rfl rfl (decide_eq_true c38) rfl rfl ?_
   refine ent_off rfl rfl rfl (decide_eq_true c38) rfl rfl ?_
   refine ent_value (ov_pick rfl rfl rfl (pick_t (decide_eq_true c38))) rfl rfl rfl ?_
   refine ent_value (ov_move rfl) rfl rfl rfl ?_
   refine ent_off rfl rfl rfl rfl rfl rfl ?_
   refine ent_off rfl rfl rfl rfl rfl rfl ?_
   refine ent_off rfl rfl rfl rfl rfl rfl ?_
   refine ent_off rfl rfl rfl rfl rfl rfl ?_
   refine ent_off rfl rfl rfl rfl rfl rfl ?_
   refine ent_value (ov_pick rfl rfl rfl rfl) rfl rfl rfl ?_
   refine ent_nil ?_
   refine ent_cond_true rfl rfl ?_
   refine ent_seq ?_
   refine ent_region ?_
   refine ent_value (ov_assign rfl) rfl rfl rfl ?_
   refine ent_value (ov_assign rfl) rfl rfl rfl ?_
   refine ent_nil ?_
   refine ent_retc ?_
   cases H
   refine ent_pick [] (by decide) rfl ?_
   exact ret_mem (vs := [(int .i64 0), (bool false)]) rfl ⟨rfl, ⟨rfl, trivial⟩⟩ _ rfl ⟨rfl, rfl⟩
  ·rw [if_neg c38] at H
   refine ent_value_on (ov_move rfl) rfl rfl rfl (decide_eq_false c38) rfl rfl ?_
   refine ent_value_on (ov_bin rfl rfl (b_lss _ _ _)) rfl rfl rfl (decide_eq_false c38) rfl rfl ?_
   refine ent_value (ov_pick rfl rfl rfl (pick_f (decide_eq_false c38))) rfl rfl rfl ?_
   refine ent_value (ov_move rfl) rfl rfl rfl ?_
   by_cases c39 : a2 < 1
   ·rw [if_pos c39] at H
    refine ent_off rfl rfl rfl (decide_eq_true c39) rfl rfl ?_
    refine ent_off rfl rfl rfl (decide_eq_true c39) rfl rfl ?_
    refine ent_off rfl rfl rfl (decide_eq_true c39) rfl rfl ?_
    refine ent_off rfl rfl rfl (decide_eq_true c39) rfl rfl ?_
    refine ent_off rfl rfl rfl (decide_eq_true c39) rfl rfl ?_
    refine ent_value (ov_pick rfl rfl rfl (pick_t (decide_eq_true c39))) rfl rfl rfl ?_
    refine ent_nil ?_
    refine ent_cond_true rfl rfl ?_
    refine ent_seq ?_
    refine ent_region ?_
    refine ent_value (ov_assign rfl) rfl rfl rfl ?_
    refine ent_value (ov_assign rfl) rfl rfl rfl ?_
    refine ent_nil ?_
    refine ent_retc ?_
    cases H
    refine ent_pick [] (by decide) rfl ?_
    exact ret_mem (vs := [(int .i64 0), (bool false)]) rfl ⟨rfl, ⟨rfl, trivial⟩⟩ _ rfl ⟨rfl, rfl⟩
   ·rw [if_neg c39] at H
    refine ent_value_on (ov_move rfl) rfl rfl rfl (decide_eq_false c39) rfl rfl ?_
    refine ent_value_on (ov_move rfl) rfl rfl rfl (decide_eq_false c39) rfl rfl ?_
    refine ent_value_on (ov_move rfl) rfl rfl rfl (decide_eq_false c39) rfl rfl ?_
    obtain ⟨x30, h28, H⟩ := thn_elim H
    refine ent_op_on (ot_call0 (first := []) (cap := []) (xs := [.tmp 23, .tmp 24]) rfl rfl F_call_172 rfl (ossuaryref04_Length.spec a0 a1 _ h28)) rfl rfl rfl (decide_eq_false c39) rfl rfl ?_
    rintro _ _ ⟨rfl, rfl⟩
    refine ent_value_on (ov_bin rfl rfl (b_gtr _ _ _)) rfl rfl rfl (decide_eq_false c39) rfl rfl ?_
    refine ent_value (ov_pick rfl rfl rfl (pick_f (decide_eq_false c39))) rfl rfl rfl ?_
    refine ent_nil ?_
    by_cases c40 : x30 < a2
    ·rw [if_pos c40] at H
     refine ent_cond_true rfl (decide_eq_true c40) ?_
     refine ent_seq ?_
     refine ent_region ?_
     refine ent_value (ov_assign rfl) rfl rfl rfl ?_
     refine ent_value (ov_assign rfl) rfl rfl rfl ?_
     refine ent_nil ?_
     refine ent_retc ?_
     cases H
     refine ent_pick [] (by decide) rfl ?_
     exact ret_mem (vs := [(int .i64 0), (bool false)]) rfl ⟨rfl, ⟨rfl, trivial⟩⟩ _ rfl ⟨rfl, rfl⟩
    ·rw [if_neg c40] at H
     refine ent_cond_false rfl (decide_eq_false c40) ?_
     refine ent_skip ?_
     refine ent_seq ?_
     refine ent_region ?_
     refine ent_value (ov_assign rfl) rfl rfl rfl ?_
     refine ent_nil ?_
     obtain ⟨x37, H8, H⟩ := Option.bind_eq_some_iff.1 H
     refine ent_seq_cut (fun a w => St 51 w0 F [(0, (int .i64 a0)), (1, (int .i64 a1)), (2, (int .i64 a2)), (8, (int .i64 x37))] [] a w) ?_ ?_
     ·refine ent_seq ?_
      refine ent_region ?_
      refine ent_value (ov_assign rfl) rfl rfl rfl ?_
      refine ent_nil ?_
      refine ent_block ?_
      refine ent_loop (fun k a w => ∃ i15, ∃ i16, ossuaryref04_Number_l0 K a0 k i15 i16 = some x37 ∧ St 51 w0 F [(0, (int .i64 a0)), (1, (int .i64 a1)), (2, (int .i64 a2)), (8, (int .i64 i15)), (9, (int .i64 i16))] [] a w) K ?_ ?_
      ·exact ent_fin [] (by decide) rfl (sub_cons (t := 0) rfl (sub_cons (t := 1) rfl (sub_cons (t := 2) rfl (sub_cons (t := 8) rfl (sub_cons (t := 9) rfl (sub_nil _)))))) fun a w h => ⟨_, _, H8, h⟩
      ·refine fun k => ent_exi fun i15 => ent_exi fun i16 => ent_and fun H9 => ?_
       cases k with
       | zero => exact absurd H9 (by simp [ossuaryref04_Number_l0])
       | succ k =>
        rw [ossuaryref04_Number_l0] at H9
        refine ent_seq ?_
        refine ent_seq ?_
        refine ent_region ?_
        refine ent_value (ov_move rfl) rfl rfl rfl ?_
        refine ent_value (ov_move rfl) rfl rfl rfl ?_
        refine ent_value (ov_bin rfl rfl (b_lss _ _ _)) rfl rfl rfl ?_
        refine ent_nil ?_
        by_cases c52 : i16 < a0
        ·rw [if_pos c52] at H9
         refine ent_cond_true rfl (decide_eq_true c52) ?_
         refine ent_skip ?_
         refine ent_seq ?_
         refine ent_block ?_
         refine ent_region ?_
         refine ent_value (ov_move rfl) rfl rfl rfl ?_
         refine ent_value (ov_move rfl) rfl rfl rfl ?_
         obtain ⟨x43, h40, H9⟩ := thn_elim H9
         refine ent_op (ot_call0 (first := []) (cap := []) (xs := [.tmp 34]) rfl rfl F_call_210 rfl (ossuaryref04_days.spec i16 _ h40)) rfl rfl rfl ?_
         rintro _ _ ⟨rfl, rfl⟩
         refine ent_value (ov_bin rfl rfl (b_add _ _ _) ) rfl rfl rfl ?_
         refine ent_value (ov_assign rfl) rfl rfl rfl ?_
         refine ent_nil ?_
         refine ent_region ?_
         refine ent_value (ov_move rfl) rfl rfl rfl ?_
         refine ent_value (ov_bin rfl rfl (b_add _ _ _) ) rfl rfl rfl ?_
         refine ent_value (ov_assign rfl) rfl rfl rfl ?_
         refine ent_nil ?_
         exact ent_fin [] (by decide) rfl (sub_cons (t := 0) rfl (sub_cons (t := 1) rfl (sub_cons (t := 2) rfl (sub_cons (t := 8) rfl (sub_cons (t := 9) rfl (sub_nil _)))))) fun a w h => ⟨k, Nat.lt_succ_self k, _, _, H9, h⟩
        ·rw [if_neg c52] at H9
         refine ent_cond_false rfl (decide_eq_false c52) ?_
         refine ent_exit ?_
         cases H9
         exact ent_fin [] (by decide) rfl (sub_cons (t := 0) rfl (sub_cons (t := 1) rfl (sub_cons (t := 2) rfl (sub_cons (t := 8) rfl (sub_nil _))))) fun a w h => h
     ·obtain ⟨x50, H11, H⟩ := Option.bind_eq_some_iff.1 H
      refine ent_seq_cut (fun a w => St 51 w0 F [(2, (int .i64 a2)), (8, (int .i64 x50))] [] a w) ?_ ?_
      ·refine ent_seq ?_
       refine ent_region ?_
       refine ent_value (ov_assign rfl) rfl rfl rfl ?_
       refine ent_nil ?_
       refine ent_block ?_
       refine ent_loop (fun k a w => ∃ i20, ∃ i21, ossuaryref04_Number_l1 K a0 a1 k i20 i21 = some x50 ∧ St 51 w0 F [(0, (int .i64 a0)), (1, (int .i64 a1)), (2, (int .i64 a2)), (8, (int .i64 i20)), (10, (int .i64 i21))] [] a w) K ?_ ?_
       ·exact ent_fin [] (by decide) rfl (sub_cons (t := 0) rfl (sub_cons (t := 1) rfl (sub_cons (t := 2) rfl (sub_cons (t := 8) rfl (sub_cons (t := 10) rfl (sub_nil _)))))) fun a w h => ⟨_, _, H11, h⟩
       ·refine fun k => ent_exi fun i20 => ent_exi fun i21 => ent_and fun H12 => ?_
        cases k with
        | zero => exact absurd H12 (by simp [ossuaryref04_Number_l1])
        | succ k =>
         rw [ossuaryref04_Number_l1] at H12
         refine ent_seq ?_
         refine ent_seq ?_
         refine ent_region ?_
         refine ent_value (ov_move rfl) rfl rfl rfl ?_
         refine ent_value (ov_move rfl) rfl rfl rfl ?_
         refine ent_value (ov_bin rfl rfl (b_lss _ _ _)) rfl rfl rfl ?_
         refine ent_nil ?_
         by_cases c64 : i21 < a1
         ·rw [if_pos c64] at H12
          refine ent_cond_true rfl (decide_eq_true c64) ?_
          refine ent_skip ?_
          refine ent_seq ?_
          refine ent_block ?_
          refine ent_region ?_
          refine ent_value (ov_move rfl) rfl rfl rfl ?_
          refine ent_value (ov_move rfl) rfl rfl rfl ?_
          refine ent_value (ov_move rfl) rfl rfl rfl ?_
          obtain ⟨x56, h52, H12⟩ := thn_elim H12
          refine ent_op (ot_call0 (first := []) (cap := []) (xs := [.tmp 43, .tmp 44]) rfl rfl F_call_172 rfl (ossuaryref04_Length.spec a0 i21 _ h52)) rfl rfl rfl ?_
          rintro _ _ ⟨rfl, rfl⟩
          refine ent_value (ov_bin rfl rfl (b_add _ _ _) ) rfl rfl rfl ?_
          refine ent_value (ov_assign rfl) rfl rfl rfl ?_
          refine ent_nil ?_
          refine ent_region ?_
          refine ent_value (ov_move rfl) rfl rfl rfl ?_
          refine ent_value (ov_bin rfl rfl (b_add _ _ _) ) rfl rfl rfl ?_
          refine ent_value (ov_assign rfl) rfl rfl rfl ?_
          refine ent_nil ?_
          exact ent_fin [] (by decide) rfl (sub_cons (t := 0) rfl (sub_cons (t := 1) rfl (sub_cons (t := 2) rfl (sub_cons (t := 8) rfl (sub_cons (t := 10) rfl (sub_nil _)))))) fun a w h => ⟨k, Nat.lt_succ_self k, _, _, H12, h⟩
         ·rw [if_neg c64] at H12
          refine ent_cond_false rfl (decide_eq_false c64) ?_
          refine ent_exit ?_
          cases H12
          exact ent_fin [] (by decide) rfl (sub_cons (t := 2) rfl (sub_cons (t := 8) rfl (sub_nil _))) fun a w h => h
      ·refine ent_seq ?_
       refine ent_region ?_
       refine ent_value (ov_move rfl) rfl rfl rfl ?_
       refine ent_value (ov_move rfl) rfl rfl rfl ?_
       refine ent_value (ov_bin rfl rfl (b_add _ _ _) ) rfl rfl rfl ?_
       refine ent_value (ov_bin rfl rfl (b_sub _ _ _) ) rfl rfl rfl ?_
       refine ent_value (ov_assign rfl) rfl rfl rfl ?_
       refine ent_value (ov_assign rfl) rfl rfl rfl ?_
       refine ent_nil ?_
       refine ent_retc ?_
       cases H
       refine ent_pick [] (by decide) rfl ?_
       exact ret_mem (vs := [(int .i64 (w64 ((w64 (x50 + a2)) - 1))), (bool true)]) rfl ⟨rfl, ⟨rfl, trivial⟩⟩ _ rfl ⟨rfl, rfl⟩

set_option maxRecDepth 100000 in
theorem ossuaryref04_Span.spec (K : Nat) (a0 : Int) (r : (Int × Int)) (H : ossuaryref04_Span K a0 = some r) : FnSpec Try.prog 136 [(int .i64 a0)] [] (fun v M => v = (Value.tuple #[(int .i64 r.1), (int .i64 r.2)]) ∧ M = []) := by
 unfold ossuaryref04_Span at H
 refine spec_of Try.func136 rfl 26 rfl (Nat.le_of_ble_eq_true rfl) fun F w0 => ?_
 show Ent (St 26 w0 F [(0, (int .i64 a0))] []) _
 refine ent_seq ?_
 refine ent_region ?_
 refine ent_value (ov_assign rfl) rfl rfl rfl ?_
 refine ent_value (ov_assign rfl) rfl rfl rfl ?_
 refine ent_nil ?_
 refine ent_seq ?_
 refine ent_region ?_
 refine ent_value (ov_move rfl) rfl rfl rfl ?_
 refine ent_value (ov_bin rfl rfl fun w => b_quo _ _ _ w (by decide)) rfl rfl rfl ?_
 refine ent_value (ov_bin rfl rfl (b_add _ _ _) ) rfl rfl rfl ?_
 refine ent_value (ov_assign rfl) rfl rfl rfl ?_
 refine ent_nil ?_
 refine ent_seq ?_
 refine ent_region ?_
 refine ent_value (ov_move rfl) rfl rfl rfl ?_
 refine ent_value (ov_bin rfl rfl fun w => b_rem _ _ _ w (by decide)) rfl rfl rfl ?_
 refine ent_value (ov_bin rfl rfl (b_add _ _ _) ) rfl rfl rfl ?_
 refine ent_value (ov_assign rfl) rfl rfl rfl ?_
 refine ent_nil ?_
 refine ent_seq ?_
 refine ent_region ?_
 refine ent_value (ov_move rfl) rfl rfl rfl ?_
 refine ent_value (ov_move rfl) rfl rfl rfl ?_
 obtain ⟨x3, h3, H⟩ := Option.bind_eq_some_iff.1 H
 refine ent_op (ot_call0 (first := []) (cap := []) (xs := [.tmp 15, .tmp 16, .const (int .i64 1)]) rfl rfl F_call_171 rfl (ossuaryref04_Number.spec K (w64 (1970 + (w64 (Int.tdiv a0 12)))) (w64 ((Int.tmod a0 12) + 1)) 1 _ h3)) rfl rfl rfl ?_
 rintro _ _ ⟨rfl, rfl⟩
 refine ent_value (ov_move rfl) rfl rfl rfl ?_
 refine ent_value (ov_extract rfl rfl) rfl rfl rfl ?_
 refine ent_value (ov_extract rfl rfl) rfl rfl rfl ?_
 refine ent_value (ov_assign rfl) rfl rfl rfl ?_
 refine ent_value (ov_assign rfl) rfl rfl rfl ?_
 refine ent_nil ?_
 refine ent_seq ?_
 refine ent_region ?_
 refine ent_value (ov_move rfl) rfl rfl rfl ?_
 refine ent_value (ov_move rfl) rfl rfl rfl ?_
 refine ent_value (ov_move rfl) rfl rfl rfl ?_
 refine ent_value (ov_move rfl) rfl rfl rfl ?_
 obtain ⟨x4, h4, H⟩ := thn_elim H
 refine ent_op (ot_call0 (first := []) (cap := []) (xs := [.tmp 22, .tmp 23]) rfl rfl F_call_172 rfl (ossuaryref04_Length.spec (w64 (1970 + (w64 (Int.tdiv a0 12)))) (w64 ((Int.tmod a0 12) + 1)) _ h4)) rfl rfl rfl ?_
 rintro _ _ ⟨rfl, rfl⟩
 refine ent_value (ov_bin rfl rfl (b_add _ _ _) ) rfl rfl rfl ?_
 refine ent_value (ov_assign rfl) rfl rfl rfl ?_
 refine ent_value (ov_assign rfl) rfl rfl rfl ?_
 refine ent_nil ?_
 refine ent_retc ?_
 cases H
 refine ent_pick [] (by decide) rfl ?_
 exact ret_mem (vs := [(int .i64 x3.1), (int .i64 (w64 (x3.1 + x4)))]) rfl ⟨rfl, ⟨rfl, trivial⟩⟩ _ rfl ⟨rfl, rfl⟩

set_option maxRecDepth 100000 in
theorem ossuaryref19_Span.spec (K : Nat) (a0_0 : Int) (a0_1 : Int) (r : (Int × Int)) (H : ossuaryref19_Span K a0_0 a0_1 = some r) : FnSpec Try.prog 85 [(agg #[(int .i64 a0_0), (int .i64 a0_1)])] [] (fun v M => v = (Value.tuple #[(int .i64 r.1), (int .i64 r.2)]) ∧ M = []) := by
 unfold ossuaryref19_Span at H
 refine spec_of Try.func85 rfl 37 rfl (Nat.le_of_ble_eq_true rfl) fun F w0 => ?_
 show Ent (St 37 w0 F [(0, (agg #[(int .i64 a0_0), (int .i64 a0_1)]))] []) _
 refine ent_seq ?_
 refine ent_region ?_
 refine ent_op (ot_box (cs := [(int .i64 a0_0), (int .i64 a0_1)]) rfl rfl) rfl rfl rfl ?_
 rintro _ _ ⟨b2, rfl, rfl⟩
 refine ent_value (ov_assign rfl) rfl rfl rfl ?_
 refine ent_value (ov_assign rfl) rfl rfl rfl ?_
 refine ent_nil ?_
 refine ent_seq ?_
 refine ent_seq ?_
 refine ent_region ?_
 refine ent_value (ov_load_agg (vs := [(int .i64 a0_0), (int .i64 a0_1)]) rfl F_agg_63 F_size_63 (reads_boxW (i := 0) rfl)) rfl rfl rfl ?_
 obtain ⟨x5, h5, H⟩ := Option.bind_eq_some_iff.1 H
 refine ent_op (ot_call0 (first := []) (cap := []) (xs := [.tmp 6]) rfl rfl F_call_135 rfl (ossuaryref19_Right.spec K a0_0 a0_1 _ h5)) rfl rfl rfl ?_
 rintro _ _ ⟨rfl, rfl⟩
 refine ent_value (ov_un rfl (u_not _)) rfl rfl rfl ?_
 refine ent_nil ?_
 by_cases c8 : (!x5) = true
 ·rw [if_pos c8] at H
  refine ent_cond_true rfl c8 ?_
  refine ent_seq ?_
  refine ent_region ?_
  refine ent_value (ov_assign rfl) rfl rfl rfl ?_
  refine ent_value (ov_assign rfl) rfl rfl rfl ?_
  refine ent_nil ?_
  refine ent_retc ?_
  cases H
  refine ent_pick [] (by decide) rfl ?_
  exact ret_mem (vs := [(int .i64 0), (int .i64 0)]) rfl ⟨rfl, ⟨rfl, trivial⟩⟩ _ rfl ⟨rfl, rfl⟩
 ·rw [if_neg c8] at H
  refine ent_cond_false rfl (Bool.eq_false_iff.2 c8) ?_
  refine ent_skip ?_
  refine ent_seq ?_
  refine ent_seq ?_
  refine ent_region ?_
  refine ent_value (ov_fieldAddr (sz := 0) (o := 0) rfl F_field_63_0 F_size_3) rfl rfl rfl ?_
  refine ent_value (ov_load (v := (int .i64 a0_0)) rfl F_agg_3 (reads_box1 (i := 0) rfl rfl)) rfl rfl rfl ?_
  refine ent_nil ?_
  refine ent_block ?_
  refine ent_seq ?_
  refine ent_region ?_
  refine ent_value (ov_bin rfl rfl (b_eql _ _ _)) rfl rfl rfl ?_
  refine ent_value (ov_assign rfl) rfl rfl rfl ?_
  refine ent_nil ?_
  by_cases c11 : a0_0 = 1
  ·rw [if_pos c11] at H
   refine ent_cond_true rfl (eq_t c11) ?_
   refine ent_seq ?_
   refine ent_drawm 7 rfl (fun done a w => StD 37 w0 F [(0, (agg #[(int .i64 a0_0), (int .i64 a0_1)])), (1, (pt b2 0)), (6, (agg #[(int .i64 a0_0), (int .i64 a0_1)])), (7, (bool x5)), (8, (bool (!x5))), (9, (pt b2 0)), (10, (int .i64 a0_0)), (11, (bool (a0_0 == 1))), (12, (bool (a0_0 == 1)))] [(0, 13, (pt b2 1)), (1, 14, (int .i64 a0_1)), (2, 15, (pt b2 1)), (3, 16, (int .i64 a0_1)), (4, 17, (int .i64 (w64 (a0_1 + 1)))), (5, 2, (int .i64 a0_1)), (6, 3, (int .i64 (w64 (a0_1 + 1))))] done [(box b2 63 [(int .i64 a0_0), (int .i64 a0_1)])] a w) (by kernel_rfl) (by kernel_rfl) (draw_startL (sub_cons (t := 0) rfl (sub_cons (t := 1) rfl (sub_cons (t := 6) rfl (sub_cons (t := 7) rfl (sub_cons (t := 8) rfl (sub_cons (t := 9) rfl (sub_cons (t := 10) rfl (sub_cons (t := 11) rfl (sub_cons (t := 12) rfl (sub_nil _)))))))))) rfl) ?_ ?_
   ·refine ⟨?_, ?_, ?_, ?_, ?_, ?_, ?_, trivial⟩
    ·intro done hi hc hcu
     exact draw_value (i := 0) (t := 13) (v := (pt b2 1)) rfl rfl (wanted_none rfl) (fun a => hasA_base) (ov_fieldAddr (sz := 0) (o := 0) rfl F_field_63_1 F_size_2) rfl rfl (onlyT_spec (k0 := 0) rfl rfl rfl)
    ·intro done hi hc hcu
     have d0 : done 0 = true := done_of (j := 0) hcu rfl (by decide) rfl
     exact draw_value (i := 1) (t := 14) (v := (int .i64 a0_1)) rfl rfl (wanted_none rfl) (fun a => (hasA_cons (k := 0) rfl d0 hasA_base)) (ov_load (v := (int .i64 a0_1)) rfl F_agg_2 (reads_box1 (i := 0) rfl rfl)) rfl rfl (onlyT_spec (k0 := 1) rfl rfl rfl)
    ·intro done hi hc hcu
     exact draw_value (i := 2) (t := 15) (v := (pt b2 1)) rfl rfl (wanted_none rfl) (fun a => hasA_base) (ov_fieldAddr (sz := 0) (o := 0) rfl F_field_63_1 F_size_2) rfl rfl (onlyT_spec (k0 := 2) rfl rfl rfl)
    ·intro done hi hc hcu
     have d2 : done 2 = true := done_of (j := 2) hcu rfl (by decide) rfl
     exact draw_value (i := 3) (t := 16) (v := (int .i64 a0_1)) rfl rfl (wanted_none rfl) (fun a => (hasA_cons (k := 2) rfl d2 hasA_base)) (ov_load (v := (int .i64 a0_1)) rfl F_agg_2 (reads_box1 (i := 0) rfl rfl)) rfl rfl (onlyT_spec (k0 := 3) rfl rfl rfl)
    ·intro done hi hc hcu
     have d3 : done 3 = true := done_of (j := 3) hcu rfl (by decide) rfl
     exact draw_value (i := 4) (t := 17) (v := (int .i64 (w64 (a0_1 + 1)))) rfl rfl (wanted_none rfl) (fun a => (hasA_cons (k := 3) rfl d3 hasA_base)) (ov_bin rfl rfl (b_add _ _ _) ) rfl rfl (onlyT_spec (k0 := 4) rfl rfl rfl)
    ·intro done hi hc hcu
     have d1 : done 1 = true := done_of (j := 1) hcu rfl (by decide) rfl
     exact draw_value (i := 5) (t := 2) (v := (int .i64 a0_1)) rfl rfl (wanted_none rfl) (fun a => (hasA_cons (k := 1) rfl d1 hasA_base)) (ov_assign rfl) rfl rfl (onlyT_spec (k0 := 5) rfl rfl rfl)
    ·intro done hi hc hcu
     have d4 : done 4 = true := done_of (j := 4) hcu rfl (by decide) rfl
     exact draw_value (i := 6) (t := 3) (v := (int .i64 (w64 (a0_1 + 1)))) rfl rfl (wanted_none rfl) (fun a => (hasA_cons (k := 4) rfl d4 hasA_base)) (ov_assign rfl) rfl rfl (onlyT_spec (k0 := 6) rfl rfl rfl)
   ·intro done hall
    refine draw_endL [(box b2 63 [(int .i64 a0_0), (int .i64 a0_1)])] rfl (fun a => (hasA_cons (k := 5) rfl (hall 5 (by decide)) (hasA_cons (k := 6) rfl (hall 6 (by decide)) (hasA_cons (k := 0) rfl (hall 0 (by decide)) (hasA_cons (k := 1) rfl (hall 1 (by decide)) (hasA_cons (k := 2) rfl (hall 2 (by decide)) (hasA_cons (k := 3) rfl (hall 3 (by decide)) (hasA_cons (k := 4) rfl (hall 4 (by decide)) hasA_base)))))))) ?_
    refine ent_retc ?_
    cases H
    refine ent_pick [] (by decide) rfl ?_
    exact ret_mem (vs := [(int .i64 a0_1), (int .i64 (w64 (a0_1 + 1)))]) rfl ⟨rfl, ⟨rfl, trivial⟩⟩ _ rfl ⟨rfl, rfl⟩
  ·rw [if_neg c11] at H
   refine ent_cond_false rfl (eq_f c11) ?_
   refine ent_seq ?_
   refine ent_region ?_
   refine ent_value (ov_bin rfl rfl (b_eql _ _ _)) rfl rfl rfl ?_
   refine ent_value (ov_assign rfl) rfl rfl rfl ?_
   refine ent_nil ?_
   by_cases c12 : a0_0 = 2
   ·rw [if_pos c12] at H
    refine ent_cond_true rfl (eq_t c12) ?_
    refine ent_seq ?_
    refine ent_drawm 9 rfl (fun done a w => StD 37 w0 F [(0, (agg #[(int .i64 a0_0), (int .i64 a0_1)])), (1, (pt b2 0)), (6, (agg #[(int .i64 a0_0), (int .i64 a0_1)])), (7, (bool x5)), (8, (bool (!x5))), (9, (pt b2 0)), (10, (int .i64 a0_0)), (11, (bool (a0_0 == 1))), (12, (bool (a0_0 == 1))), (18, (bool (a0_0 == 2))), (19, (bool (a0_0 == 2)))] [(0, 20, (pt b2 1)), (1, 21, (int .i64 a0_1)), (2, 22, (int .i64 (w64 (24 * a0_1)))), (3, 23, (pt b2 1)), (4, 24, (int .i64 a0_1)), (5, 25, (int .i64 (w64 (a0_1 + 1)))), (6, 26, (int .i64 (w64 (24 * (w64 (a0_1 + 1)))))), (7, 2, (int .i64 (w64 (24 * a0_1)))), (8, 3, (int .i64 (w64 (24 * (w64 (a0_1 + 1))))))] done [(box b2 63 [(int .i64 a0_0), (int .i64 a0_1)])] a w) (by kernel_rfl) (by kernel_rfl) (draw_startL (sub_cons (t := 0) rfl (sub_cons (t := 1) rfl (sub_cons (t := 6) rfl (sub_cons (t := 7) rfl (sub_cons (t := 8) rfl (sub_cons (t := 9) rfl (sub_cons (t := 10) rfl (sub_cons (t := 11) rfl (sub_cons (t := 12) rfl (sub_cons (t := 18) rfl (sub_cons (t := 19) rfl (sub_nil _)))))))))))) rfl) ?_ ?_
    ·refine ⟨?_, ?_, ?_, ?_, ?_, ?_, ?_, ?_, ?_, trivial⟩
     ·intro done hi hc hcu
      exact draw_value (i := 0) (t := 20) (v := (pt b2 1)) rfl rfl (wanted_none rfl) (fun a => hasA_base) (ov_fieldAddr (sz := 0) (o := 0) rfl F_field_63_1 F_size_2) rfl rfl (onlyT_spec (k0 := 0) rfl rfl rfl)
     ·intro done hi hc hcu
      have d0 : done 0 = true := done_of (j := 0) hcu rfl (by decide) rfl
      exact draw_value (i := 1) (t := 21) (v := (int .i64 a0_1)) rfl rfl (wanted_none rfl) (fun a => (hasA_cons (k := 0) rfl d0 hasA_base)) (ov_load (v := (int .i64 a0_1)) rfl F_agg_2 (reads_box1 (i := 0) rfl rfl)) rfl rfl (onlyT_spec (k0 := 1) rfl rfl rfl)
     ·intro done hi hc hcu
      have d1 : done 1 = true := done_of (j := 1) hcu rfl (by decide) rfl
      exact draw_value (i := 2) (t := 22) (v := (int .i64 (w64 (24 * a0_1)))) rfl rfl (wanted_none rfl) (fun a => (hasA_cons (k := 1) rfl d1 hasA_base)) (ov_bin rfl rfl (b_mul _ _ _) ) rfl rfl (onlyT_spec (k0 := 2) rfl rfl rfl)
     ·intro done hi hc hcu
      exact draw_value (i := 3) (t := 23) (v := (pt b2 1)) rfl rfl (wanted_none rfl) (fun a => hasA_base) (ov_fieldAddr (sz := 0) (o := 0) rfl F_field_63_1 F_size_2) rfl rfl (onlyT_spec (k0 := 3) rfl rfl rfl)
     ·intro done hi hc hcu
      have d3 : done 3 = true := done_of (j := 3) hcu rfl (by decide) rfl
      exact draw_value (i := 4) (t := 24) (v := (int .i64 a0_1)) rfl rfl (wanted_none rfl) (fun a => (hasA_cons (k := 3) rfl d3 hasA_base)) (ov_load (v := (int .i64 a0_1)) rfl F_agg_2 (reads_box1 (i := 0) rfl rfl)) rfl rfl (onlyT_spec (k0 := 4) rfl rfl rfl)
     ·intro done hi hc hcu
      have d4 : done 4 = true := done_of (j := 4) hcu rfl (by decide) rfl
      exact draw_value (i := 5) (t := 25) (v := (int .i64 (w64 (a0_1 + 1)))) rfl rfl (wanted_none rfl) (fun a => (hasA_cons (k := 4) rfl d4 hasA_base)) (ov_bin rfl rfl (b_add _ _ _) ) rfl rfl (onlyT_spec (k0 := 5) rfl rfl rfl)
     ·intro done hi hc hcu
      have d5 : done 5 = true := done_of (j := 5) hcu rfl (by decide) rfl
      exact draw_value (i := 6) (t := 26) (v := (int .i64 (w64 (24 * (w64 (a0_1 + 1)))))) rfl rfl (wanted_none rfl) (fun a => (hasA_cons (k := 5) rfl d5 hasA_base)) (ov_bin rfl rfl (b_mul _ _ _) ) rfl rfl (onlyT_spec (k0 := 6) rfl rfl rfl)
     ·intro done hi hc hcu
      have d2 : done 2 = true := done_of (j := 2) hcu rfl (by decide) rfl
      exact draw_value (i := 7) (t := 2) (v := (int .i64 (w64 (24 * a0_1)))) rfl rfl (wanted_none rfl) (fun a => (hasA_cons (k := 2) rfl d2 hasA_base)) (ov_assign rfl) rfl rfl (onlyT_spec (k0 := 7) rfl rfl rfl)
     ·intro done hi hc hcu
      have d6 : done 6 = true := done_of (j := 6) hcu rfl (by decide) rfl
      exact draw_value (i := 8) (t := 3) (v := (int .i64 (w64 (24 * (w64 (a0_1 + 1)))))) rfl rfl (wanted_none rfl) (fun a => (hasA_cons (k := 6) rfl d6 hasA_base)) (ov_assign rfl) rfl rfl (onlyT_spec (k0 := 8) rfl rfl rfl)
    ·intro done hall
     refine draw_endL [(box b2 63 [(int .i64 a0_0), (int .i64 a0_1)])] rfl (fun a => (hasA_cons (k := 7) rfl (hall 7 (by decide)) (hasA_cons (k := 8) rfl (hall 8 (by decide)) (hasA_cons (k := 0) rfl (hall 0 (by decide)) (hasA_cons (k := 1) rfl (hall 1 (by decide)) (hasA_cons (k := 2) rfl (hall 2 (by decide)) (hasA_cons (k := 3) rfl (hall 3 (by decide)) (hasA_cons (k := 4) rfl (hall 4 (by decide)) (hasA_cons (k := 5) rfl (hall 5 (by decide)) (hasA_cons (k := 6) rfl (hall 6 (by decide)) hasA_base)))))))))) ?_
     refine ent_retc ?_
     cases H
     refine ent_pick [] (by decide) rfl ?_
     exact ret_mem (vs := [(int .i64 (w64 (24 * a0_1))), (int .i64 (w64 (24 * (w64 (a0_1 + 1)))))]) rfl ⟨rfl, ⟨rfl, trivial⟩⟩ _ rfl ⟨rfl, rfl⟩
   ·rw [if_neg c12] at H
    refine ent_cond_false rfl (eq_f c12) ?_
    refine ent_skip ?_
    refine ent_seq ?_
    refine ent_region ?_
    refine ent_value (ov_fieldAddr (sz := 0) (o := 0) rfl F_field_63_1 F_size_2) rfl rfl rfl ?_
    refine ent_value (ov_load (v := (int .i64 a0_1)) rfl F_agg_2 (reads_box1 (i := 0) rfl rfl)) rfl rfl rfl ?_
    obtain ⟨x6, h6, H⟩ := Option.bind_eq_some_iff.1 H
    refine ent_op (ot_call0 (first := []) (cap := []) (xs := [.tmp 29]) rfl rfl F_call_136 rfl (ossuaryref04_Span.spec K a0_1 _ h6)) rfl rfl rfl ?_
    rintro _ _ ⟨rfl, rfl⟩
    refine ent_value (ov_move rfl) rfl rfl rfl ?_
    refine ent_value (ov_extract rfl rfl) rfl rfl rfl ?_
    refine ent_value (ov_extract rfl rfl) rfl rfl rfl ?_
    refine ent_value (ov_assign rfl) rfl rfl rfl ?_
    refine ent_value (ov_assign rfl) rfl rfl rfl ?_
    refine ent_nil ?_
    refine ent_seq ?_
    refine ent_region ?_
    refine ent_value (ov_move rfl) rfl rfl rfl ?_
    refine ent_value (ov_bin rfl rfl (b_mul _ _ _) ) rfl rfl rfl ?_
    refine ent_value (ov_move rfl) rfl rfl rfl ?_
    refine ent_value (ov_bin rfl rfl (b_mul _ _ _) ) rfl rfl rfl ?_
    refine ent_value (ov_assign rfl) rfl rfl rfl ?_
    refine ent_value (ov_assign rfl) rfl rfl rfl ?_
    refine ent_nil ?_
    refine ent_retc ?_
    cases H
    refine ent_pick [] (by decide) rfl ?_
    exact ret_mem (vs := [(int .i64 (w64 (24 * x6.1))), (int .i64 (w64 (24 * x6.2)))]) rfl ⟨rfl, ⟨rfl, trivial⟩⟩ _ rfl ⟨rfl, rfl⟩

set_option maxRecDepth 100000 in
theorem ossuaryref20_Over_R.spec (K : Nat) (sv0 : Value) (A0 : HP) (l0 : List Api_Entry) (a1 : Int) (a2 : Int) (hA0 : IsRd A0 sv0 l0.length 6 (fl enc_Api_Entry l0)) (r : List Api_Entry) (H : ossuaryref20_Over_R K l0 a1 a2 = some r) : FnSpec Try.prog 27 [sv0, (int .i64 a1), (int .i64 a2)] [A0] (fun v M => ∃ sv27 : Value, v = sv27 ∧ M = [A0, (own sv27 65 6 r.length (fl enc_Api_Entry r))]) := by
 unfold ossuaryref20_Over_R at H
 refine spec_of Try.func27 rfl 41 rfl (Nat.le_of_ble_eq_true rfl) fun F w0 => ?_
 show Ent (St 41 w0 F [(0, sv0), (1, (int .i64 a1)), (2, (int .i64 a2))] [A0]) _
 refine ent_seq ?_
 refine ent_region ?_
 refine ent_value (ov_assign rfl) rfl rfl rfl ?_
 refine ent_nil ?_
 refine ent_seq ?_
 refine ent_region ?_
 refine ent_value (ov_assign rfl) rfl rfl rfl ?_
 refine ent_nil ?_
 refine ent_seq ?_
 refine ent_seq ?_
 refine ent_region ?_
 refine ent_value (ov_assign rfl) rfl rfl rfl ?_
 refine ent_nil ?_
 refine ent_block ?_
 refine ent_loop (fun k a w => ∃ i4, ∃ l5, ∃ sv45 : Value, ossuaryref20_Over_R_l0 K l0 a1 a2 k i4 l5 = some r ∧ St 41 w0 F [(0, sv0), (1, (int .i64 a1)), (2, (int .i64 a2)), (7, sv45), (8, (int .i64 i4))] [A0, (own sv45 65 6 l5.length (fl enc_Api_Entry l5))] a w) K ?_ ?_
 ·refine ent_ownnil 65 6 ?_
  exact ent_fin [1, 0] (by decide) rfl (sub_cons (t := 0) rfl (sub_cons (t := 1) rfl (sub_cons (t := 2) rfl (sub_cons (t := 7) rfl (sub_cons (t := 8) rfl (sub_nil _)))))) fun a w h => ⟨_, _, _, H, h⟩
 ·refine fun k => ent_exi fun i4 => ent_exi fun l5 => ent_exi fun sv45 => ent_and fun H4 => ?_
  cases k with
  | zero => exact absurd H4 (by simp [ossuaryref20_Over_R_l0])
  | succ k =>
   rw [ossuaryref20_Over_R_l0] at H4
   refine ent_seq ?_
   refine ent_seq ?_
   refine ent_region ?_
   refine ent_value (ov_move rfl) rfl rfl rfl ?_
   refine ent_value (ov_move rfl) rfl rfl rfl ?_
   refine ent_value (ov_len 0 rfl F_slice_53 rfl hA0) rfl rfl rfl ?_
   refine ent_value (ov_bin rfl rfl (b_lss _ _ _)) rfl rfl rfl ?_
   refine ent_nil ?_
   by_cases c82 : i4 < (l0.length : Int)
   ·rw [if_pos c82] at H4
    refine ent_cond_true rfl (decide_eq_true c82) ?_
    refine ent_skip ?_
    refine ent_seq ?_
    refine ent_block ?_
    refine ent_seq ?_
    refine ent_region ?_
    refine ent_value (ov_move rfl) rfl rfl rfl ?_
    refine ent_value (ov_move rfl) rfl rfl rfl ?_
    by_cases c86 : 0 ≤ i4
    ·rw [if_pos c86] at H4
     refine ent_value (ov_indexAddr (sz := 5) 0 rfl rfl F_slice_53 F_size_65 rfl hA0 c86 c82) rfl rfl rfl ?_
     refine ent_value (ov_fieldAddrE (sz := 1) (k0 := i4.toNat * 6) (off := 0) 0 rfl F_field_65_0 F_size_63 rfl hA0 (fl_pos enc_Api_Entry_len (ix_lt c86 c82))) rfl rfl rfl ?_
     refine ent_value (ov_load_agg (vs := [(int .i64 (((l0.getD i4.toNat z_Api_Entry).Part).Tier)), (int .i64 (((l0.getD i4.toNat z_Api_Entry).Part).Index))]) rfl F_agg_63 F_size_63 (reads_rd (i := 0) rfl hA0 (by simp) (fl_read (off := 0) enc_Api_Entry_len (ix_lt c86 c82) rfl))) rfl rfl rfl ?_
     obtain ⟨x24, h24, H4⟩ := Option.bind_eq_some_iff.1 H4
     refine ent_op (ot_call0 (first := []) (cap := []) (xs := [.tmp 22]) rfl rfl F_call_85 rfl (ossuaryref19_Span.spec K (((l0.getD i4.toNat z_Api_Entry).Part).Tier) (((l0.getD i4.toNat z_Api_Entry).Part).Index) _ h24)) rfl rfl rfl ?_
     rintro _ _ ⟨rfl, rfl⟩
     refine ent_value (ov_move rfl) rfl rfl rfl ?_
     refine ent_value (ov_extract rfl rfl) rfl rfl rfl ?_
     refine ent_value (ov_extract rfl rfl) rfl rfl rfl ?_
     refine ent_value (ov_assign rfl) rfl rfl rfl ?_
     refine ent_value (ov_assign rfl) rfl rfl rfl ?_
     refine ent_nil ?_
     refine ent_seq ?_
     refine ent_region ?_
     refine ent_value (ov_move rfl) rfl rfl rfl ?_
     refine ent_value (ov_move rfl) rfl rfl rfl ?_
     refine ent_value (ov_max2 rfl rfl) rfl rfl rfl ?_
     refine ent_value (ov_move rfl) rfl rfl rfl ?_
     refine ent_value (ov_move rfl) rfl rfl rfl ?_
     refine ent_value (ov_min2 rfl rfl) rfl rfl rfl ?_
     refine ent_value (ov_bin rfl rfl (b_lss _ _ _)) rfl rfl rfl ?_
     refine ent_nil ?_
     by_cases c87 : (mx x24.1 a1) < (mn x24.2 a2)
     ·rw [if_pos c87] at H4
      refine ent_cond_true rfl (decide_eq_true c87) ?_
      refine ent_region ?_
      refine ent_value (ov_move rfl) rfl rfl rfl ?_
      refine ent_value (ov_move rfl) rfl rfl rfl ?_
      refine ent_value (ov_move rfl) rfl rfl rfl ?_
      refine ent_value (ov_indexAddr (sz := 5) 0 rfl rfl F_slice_53 F_size_65 rfl hA0 c86 c82) rfl rfl rfl ?_
      refine ent_value (ov_load_agg (vs := [(int .i64 (((l0.getD i4.toNat z_Api_Entry).Part).Tier)), (int .i64 (((l0.getD i4.toNat z_Api_Entry).Part).Index)), (int .i64 ((l0.getD i4.toNat z_Api_Entry).Seg)), (int .i64 ((l0.getD i4.toNat z_Api_Entry).Mark)), (int .i64 ((l0.getD i4.toNat z_Api_Entry).Rows)), (bool ((l0.getD i4.toNat z_Api_Entry).Cold))]) rfl F_agg_65 F_size_65 (reads_rd (i := 0) rfl hA0 (by simp) (fl_read0 enc_Api_Entry_len (ix_lt c86 c82) rfl))) rfl rfl rfl ?_
      refine ent_op (ot_buildSlice (sz := 5) (xs := [.tmp 37]) (cs := fl enc_Api_Entry [(⟨(⟨((l0.getD i4.toNat z_Api_Entry).Part).Tier, ((l0.getD i4.toNat z_Api_Entry).Part).Index⟩ : Api_Part), (l0.getD i4.toNat z_Api_Entry).Seg, (l0.getD i4.toNat z_Api_Entry).Mark, (l0.getD i4.toNat z_Api_Entry).Rows, (l0.getD i4.toNat z_Api_Entry).Cold⟩ : Api_Entry)]) rfl rfl F_slice_53 F_size_65 F_zero_65 rfl rfl (all_size rfl) rfl (by decide)) rfl rfl rfl ?_
      rintro sv52 _ rfl
      by_cases c88 : (l5.length + [(⟨(⟨((l0.getD i4.toNat z_Api_Entry).Part).Tier, ((l0.getD i4.toNat z_Api_Entry).Part).Index⟩ : Api_Part), (l0.getD i4.toNat z_Api_Entry).Seg, (l0.getD i4.toNat z_Api_Entry).Mark, (l0.getD i4.toNat z_Api_Entry).Rows, (l0.getD i4.toNat z_Api_Entry).Cold⟩ : Api_Entry)].length) * 48 ≤ 140737488355328
      ·rw [if_pos c88] at H4
       refine ent_op (ot_appendx (sz := 5) (xs := l5) (ys := [(⟨(⟨((l0.getD i4.toNat z_Api_Entry).Part).Tier, ((l0.getD i4.toNat z_Api_Entry).Part).Index⟩ : Api_Part), (l0.getD i4.toNat z_Api_Entry).Seg, (l0.getD i4.toNat z_Api_Entry).Mark, (l0.getD i4.toNat z_Api_Entry).Rows, (l0.getD i4.toNat z_Api_Entry).Cold⟩ : Api_Entry)]) 2 0 rfl rfl F_slice_53 F_size_65 F_zero_65 rfl F_bytes_65 rfl rfl rfl (isRd_ownx 65) rfl enc_Api_Entry_one c88) rfl rfl rfl ?_
       rintro sv53 _ rfl
       refine ent_L [(own sv52 65 6 [(⟨(⟨((l0.getD i4.toNat z_Api_Entry).Part).Tier, ((l0.getD i4.toNat z_Api_Entry).Part).Index⟩ : Api_Part), (l0.getD i4.toNat z_Api_Entry).Seg, (l0.getD i4.toNat z_Api_Entry).Mark, (l0.getD i4.toNat z_Api_Entry).Rows, (l0.getD i4.toNat z_Api_Entry).Cold⟩ : Api_Entry)].length (fl enc_Api_Entry [(⟨(⟨((l0.getD i4.toNat z_Api_Entry).Part).Tier, ((l0.getD i4.toNat z_Api_Entry).Part).Index⟩ : Api_Part), (l0.getD i4.toNat z_Api_Entry).Seg, (l0.getD i4.toNat z_Api_Entry).Mark, (l0.getD i4.toNat z_Api_Entry).Rows, (l0.getD i4.toNat z_Api_Entry).Cold⟩ : Api_Entry)])), A0, (own sv53 65 6 (l5 ++ [(⟨(⟨((l0.getD i4.toNat z_Api_Entry).Part).Tier, ((l0.getD i4.toNat z_Api_Entry).Part).Index⟩ : Api_Part), (l0.getD i4.toNat z_Api_Entry).Seg, (l0.getD i4.toNat z_Api_Entry).Mark, (l0.getD i4.toNat z_Api_Entry).Rows, (l0.getD i4.toNat z_Api_Entry).Cold⟩ : Api_Entry)]).length (fl enc_Api_Entry (l5 ++ [(⟨(⟨((l0.getD i4.toNat z_Api_Entry).Part).Tier, ((l0.getD i4.toNat z_Api_Entry).Part).Index⟩ : Api_Part), (l0.getD i4.toNat z_Api_Entry).Seg, (l0.getD i4.toNat z_Api_Entry).Mark, (l0.getD i4.toNat z_Api_Entry).Rows, (l0.getD i4.toNat z_Api_Entry).Cold⟩ : Api_Entry)])))] rfl ?_
       refine ent_value (ov_assign rfl) rfl rfl rfl ?_
       refine ent_nil ?_
       refine ent_region ?_
       refine ent_value (ov_move rfl) rfl rfl rfl ?_
       refine ent_value (ov_bin rfl rfl (b_add _ _ _) ) rfl rfl rfl ?_
       refine ent_value (ov_assign rfl) rfl rfl rfl ?_
       refine ent_nil ?_
       exact ent_fin [1, 2] (by decide) rfl (sub_cons (t := 0) rfl (sub_cons (t := 1) rfl (sub_cons (t := 2) rfl (sub_cons (t := 7) rfl (sub_cons (t := 8) rfl (sub_nil _)))))) fun a w h => ⟨k, Nat.lt_succ_self k, _, _, _, H4, h⟩
      ·rw [if_neg c88] at H4
       cases H4
     ·rw [if_neg c87] at H4
      refine ent_cond_false rfl (decide_eq_false c87) ?_
      refine ent_skip ?_
      refine ent_region ?_
      refine ent_value (ov_move rfl) rfl rfl rfl ?_
      refine ent_value (ov_bin rfl rfl (b_add _ _ _) ) rfl rfl rfl ?_
      refine ent_value (ov_assign rfl) rfl rfl rfl ?_
      refine ent_nil ?_
      exact ent_fin [0, 1] (by decide) rfl (sub_cons (t := 0) rfl (sub_cons (t := 1) rfl (sub_cons (t := 2) rfl (sub_cons (t := 7) rfl (sub_cons (t := 8) rfl (sub_nil _)))))) fun a w h => ⟨k, Nat.lt_succ_self k, _, _, _, H4, h⟩
    ·rw [if_neg c86] at H4
     cases H4
   ·rw [if_neg c82] at H4
    refine ent_cond_false rfl (decide_eq_false c82) ?_
    refine ent_exit ?_
    refine ent_seq ?_
    refine ent_region ?_
    refine ent_value (ov_move rfl) rfl rfl rfl ?_
    refine ent_value (ov_assign rfl) rfl rfl rfl ?_
    refine ent_nil ?_
    refine ent_retc ?_
    cases H4
    refine ent_pick [0, 1] (by decide) rfl ?_
    exact ret_tmp rfl rfl ⟨_, rfl, rfl⟩

set_option maxRecDepth 100000 in
theorem ossuarylaw20_CatalogOnce.spec (K : Nat) (A : HP) (s0 : Value) (s1 : Value) (l0 : List Ossuarylaw20_Act) (l1 : List Int) (hA0 : IsRd A s0 l0.length 2 (fl enc_Ossuarylaw20_Act l0)) (hJ0 : ∀ x ∈ l0, IsRd A x.Drop.v x.Drop.xs.length 2 (fl enc_Api_Part x.Drop.xs) ∧ IsRd A x.Put.v x.Put.xs.length 6 (fl enc_Api_Entry x.Put.xs)) (hA1 : IsRd A s1 l1.length 1 (fl (eI .i64) l1)) (r : Bool) (H : ossuarylaw20_CatalogOnce K l0 l1 = some r) : FnSpec Try.prog 5 [s0, s1] [A] (fun v M => v = (bool r) ∧ M = [A]) := by
 unfold ossuarylaw20_CatalogOnce at H
 refine spec_of Try.func5 rfl 117 rfl (Nat.le_of_ble_eq_true rfl) fun F w0 => ?_
 show Ent (St 117 w0 F [(0, s0), (1, s1)] [A]) _
 refine ent_seq ?_
 refine ent_region ?_
 refine ent_value (ov_assign rfl) rfl rfl rfl ?_
 refine ent_nil ?_
 refine ent_seq ?_
 refine ent_seq ?_
 refine ent_region ?_
 refine ent_value (ov_move rfl) rfl rfl rfl ?_
 obtain ⟨x290, h272, H⟩ := Option.bind_eq_some_iff.1 H
 refine ent_op (ot_call_same (Lr := []) [0] [0] (first := []) (cap := []) (xs := [.tmp 14]) rfl rfl F_call_21 rfl (ossuarylaw20_light_R.spec K s0 A l0 hA0 hJ0 _ h272) (by decide) rfl (by decide) rfl) rfl rfl rfl ?_
 rintro _ _ ⟨rfl, rfl⟩
 refine ent_value (ov_un rfl (u_not _)) rfl rfl rfl ?_
 refine ent_value (ov_move rfl) rfl rfl rfl ?_
 by_cases c538 : (!x290) = true
 ·rw [if_pos c538] at H
  refine ent_off rfl rfl rfl c538 rfl rfl ?_
  refine ent_off rfl rfl rfl c538 rfl rfl ?_
  refine ent_off rfl rfl rfl c538 rfl rfl ?_
  refine ent_value (ov_pick rfl rfl rfl (pick_t c538)) rfl rfl rfl ?_
  refine ent_nil ?_
  refine ent_cond_true rfl rfl ?_
  refine ent_seq ?_
  refine ent_region ?_
  obtain ⟨x291, h273, H⟩ := Option.bind_eq_some_iff.1 H
  refine ent_op (ot_call0 (first := []) (cap := []) (xs := []) rfl rfl F_call_22 rfl (ossuarylaw20_alive.spec K _ h273)) rfl rfl rfl ?_
  rintro _ _ ⟨rfl, rfl⟩
  refine ent_value (ov_assign rfl) rfl rfl rfl ?_
  refine ent_nil ?_
  refine ent_retc ?_
  cases H
  refine ent_pick [0] (by decide) rfl ?_
  exact ret_tmp rfl rfl ⟨rfl, rfl⟩
 ·rw [if_neg c538] at H
  refine ent_value_on (ov_move rfl) rfl rfl rfl (Bool.eq_false_iff.2 c538) rfl rfl ?_
  refine ent_value_on (ov_len 0 rfl F_slice_25 rfl hA1) rfl rfl rfl (Bool.eq_false_iff.2 c538) rfl rfl ?_
  refine ent_value_on (ov_bin rfl rfl (b_gtr _ _ _)) rfl rfl rfl (Bool.eq_false_iff.2 c538) rfl rfl ?_
  refine ent_value (ov_pick rfl rfl rfl (pick_f (Bool.eq_false_iff.2 c538))) rfl rfl rfl ?_
  refine ent_nil ?_
  by_cases c539 : 60 < (l1.length : Int)
  ·rw [if_pos c539] at H
   refine ent_cond_true rfl (decide_eq_true c539) ?_
   refine ent_seq ?_
   refine ent_region ?_
   obtain ⟨x292, h274, H⟩ := Option.bind_eq_some_iff.1 H
   refine ent_op (ot_call0 (first := []) (cap := []) (xs := []) rfl rfl F_call_22 rfl (ossuarylaw20_alive.spec K _ h274)) rfl rfl rfl ?_
   rintro _ _ ⟨rfl, rfl⟩
   refine ent_value (ov_assign rfl) rfl rfl rfl ?_
   refine ent_nil ?_
   refine ent_retc ?_
   cases H
   refine ent_pick [0] (by decide) rfl ?_
   exact ret_tmp rfl rfl ⟨rfl, rfl⟩
  ·rw [if_neg c539] at H
   refine ent_cond_false rfl (decide_eq_false c539) ?_
   refine ent_skip ?_
   refine ent_seq ?_
   refine ent_region ?_
   obtain ⟨u2, h275, H⟩ := thn_elim H
   refine ent_op (ot_call (Lr := [A]) (first := []) (cap := []) (xs := []) rfl rfl F_call_23 rfl (catalog_New.spec _ h275) rfl) rfl rfl rfl ?_
   rintro _ _ ⟨_, ⟨b35, b36, rfl, rfl⟩, rfl⟩
   refine ent_value (ov_assign rfl) rfl rfl rfl ?_
   refine ent_nil ?_
   obtain ⟨x319, H74, H⟩ := Option.bind_eq_some_iff.1 H
   refine ent_seq_cut (fun a w => ∃ v8, x319 = Sum.inl v8 ∧ ∃ b46 : Nat, ∃ sv358 : Value, St 117 w0 F [(1, s1), (5, (pt b35 0))] [A, (box b35 139 [(pt b46 0)]), (box b46 192 [sv358]), (own sv358 196 7 v8.length (fl enc_Omap_pair__int64__api_Entry v8))] a w) ?_ ?_
   ·refine ent_seq ?_
    refine ent_region ?_
    refine ent_value (ov_assign rfl) rfl rfl rfl ?_
    refine ent_nil ?_
    refine ent_block ?_
    refine ent_loop (fun k a w => ∃ i66, ∃ l7, ∃ b50 : Nat, ∃ sv366 : Value, ossuarylaw20_CatalogOnce_l0 K l0 k i66 l7 = some x319 ∧ St 117 w0 F [(0, s0), (1, s1), (5, (pt b35 0)), (6, (int .i64 i66))] [A, (box b35 139 [(pt b50 0)]), (box b50 192 [sv366]), (own sv366 196 7 l7.length (fl enc_Omap_pair__int64__api_Entry l7))] a w) K ?_ ?_
    ·refine ent_ownnil 196 7 ?_
     exact ent_fin [3, 1, 2, 0] (by decide) rfl (sub_cons (t := 0) rfl (sub_cons (t := 1) rfl (sub_cons (t := 5) rfl (sub_cons (t := 6) rfl (sub_nil _))))) fun a w h => ⟨_, _, _, _, H74, h⟩
    ·refine fun k => ent_exi fun i66 => ent_exi fun l7 => ent_exi fun b50 => ent_exi fun sv366 => ent_and fun H75 => ?_
     cases k with
     | zero => exact absurd H75 (by simp [ossuarylaw20_CatalogOnce_l0])
     | succ k =>
      rw [ossuarylaw20_CatalogOnce_l0] at H75
      refine ent_seq ?_
      refine ent_seq ?_
      refine ent_region ?_
      refine ent_value (ov_move rfl) rfl rfl rfl ?_
      refine ent_value (ov_move rfl) rfl rfl rfl ?_
      refine ent_value (ov_len 0 rfl F_slice_49 rfl hA0) rfl rfl rfl ?_
      refine ent_value (ov_bin rfl rfl (b_lss _ _ _)) rfl rfl rfl ?_
      refine ent_nil ?_
      by_cases c579 : i66 < (l0.length : Int)
      ·rw [if_pos c579] at H75
       refine ent_cond_true rfl (decide_eq_true c579) ?_
       refine ent_skip ?_
       refine ent_seq ?_
       refine ent_block ?_
       refine ent_seq ?_
       refine ent_region ?_
       refine ent_value (ov_move rfl) rfl rfl rfl ?_
       obtain ⟨x342, h324, H75⟩ := Option.bind_eq_some_iff.1 H75
       refine ent_pick [1, 2, 3, 0] (by decide) rfl ?_
       refine ent_op (ot_call (Lr := [A]) (first := []) (cap := []) (xs := [.tmp 30]) rfl rfl F_call_24 rfl (ossuarylaw20_Back_O.spec K b35 b50 sv366 l7 _ h324) rfl) rfl rfl rfl ?_
       rintro sv377 _ ⟨_, ⟨_, rfl, rfl⟩, rfl⟩
       refine ent_value (ov_assign rfl) rfl rfl rfl ?_
       refine ent_nil ?_
       refine ent_seq ?_
       by_cases c583 : 0 ≤ i66
       ·rw [if_pos c583] at H75
        obtain ⟨x343, h325, H75⟩ := Option.bind_eq_some_iff.1 H75
        by_cases c584 : ¬ (x343.1 = 0)
        ·rw [if_pos c584] at H75
         obtain ⟨x344, h326, H75⟩ := Option.bind_eq_some_iff.1 H75
         obtain ⟨x345, h327, H75⟩ := Option.bind_eq_some_iff.1 H75
         let Z191_I : (Nat → Value) → (Nat → Bool) → Act → World → Prop := fun (ga177 : Nat → Value) done a w => StD 117 w0 F [(0, s0), (1, s1), (5, (pt b35 0)), (6, (int .i64 i66)), (7, sv377), (24, (int .i64 i66)), (25, s0), (26, (int .i64 (l0.length : Int))), (27, (bool (decide (i66 < (l0.length : Int))))), (30, (pt b35 0)), (31, sv377)] [(0, 32, (pt b35 0)), (1, 33, s0), (2, 34, (int .i64 i66)), (3, 35, (eptr s0 (i66.toNat * 2))), (4, 36, (eptr s0 (i66.toNat * 2 + 0))), (5, 37, ((l0.getD i66.toNat z_Ossuarylaw20_Act).Drop).v), (6, 38, s0), (7, 39, (int .i64 i66)), (8, 40, (eptr s0 (i66.toNat * 2))), (9, 41, (eptr s0 (i66.toNat * 2 + 1))), (10, 42, ((l0.getD i66.toNat z_Ossuarylaw20_Act).Put).v), (11, 43, (agg #[((l0.getD i66.toNat z_Ossuarylaw20_Act).Drop).v, ((l0.getD i66.toNat z_Ossuarylaw20_Act).Put).v])), (12, 44, (int .i64 x343.1)), (13, 45, (bool (x343.1 != 0))), (14, 46, (bool (x343.1 != 0))), (15, 47, (pt b35 0)), (16, 48, (ga177 16)), (17, 49, sv377), (18, 50, (bool x345)), (19, 51, (bool (!x345))), (20, 52, (bool (!x345)))] done [(sel (done 16) (own (ga177 16) 65 6 x344.length (fl enc_Api_Entry x344)) emp), (sel (done 12) (box b35 139 [(pt (blk (ga177 12)) 0)]) (box b35 139 [(pt b50 0)])), (sel (done 12) (box (blk (ga177 12)) 192 [(ga177 1012)]) (box b50 192 [sv366])), (sel (done 12) (own (ga177 1012) 196 7 x343.2.length (fl enc_Omap_pair__int64__api_Entry x343.2)) (own sv366 196 7 l7.length (fl enc_Omap_pair__int64__api_Entry l7))), (own sv377 65 6 x342.length (fl enc_Api_Entry x342)), A] a w
         refine ent_drawm 21 rfl (fun done a w => ∃ ga177 : Nat → Value, Z191_I ga177 done a w) (by kernel_rfl) (by kernel_rfl) (draw_startG (T := (fun ga177 : Nat → Value => [(0, 32, (pt b35 0)), (1, 33, s0), (2, 34, (int .i64 i66)), (3, 35, (eptr s0 (i66.toNat * 2))), (4, 36, (eptr s0 (i66.toNat * 2 + 0))), (5, 37, ((l0.getD i66.toNat z_Ossuarylaw20_Act).Drop).v), (6, 38, s0), (7, 39, (int .i64 i66)), (8, 40, (eptr s0 (i66.toNat * 2))), (9, 41, (eptr s0 (i66.toNat * 2 + 1))), (10, 42, ((l0.getD i66.toNat z_Ossuarylaw20_Act).Put).v), (11, 43, (agg #[((l0.getD i66.toNat z_Ossuarylaw20_Act).Drop).v, ((l0.getD i66.toNat z_Ossuarylaw20_Act).Put).v])), (12, 44, (int .i64 x343.1)), (13, 45, (bool (x343.1 != 0))), (14, 46, (bool (x343.1 != 0))), (15, 47, (pt b35 0)), (16, 48, (ga177 16)), (17, 49, sv377), (18, 50, (bool x345)), (19, 51, (bool (!x345))), (20, 52, (bool (!x345)))])) (L' := fun ga177 : Nat → Value => [(sel false (own (ga177 16) 65 6 x344.length (fl enc_Api_Entry x344)) emp), (sel false (box b35 139 [(pt (blk (ga177 12)) 0)]) (box b35 139 [(pt b50 0)])), (sel false (box (blk (ga177 12)) 192 [(ga177 1012)]) (box b50 192 [sv366])), (sel false (own (ga177 1012) 196 7 x343.2.length (fl enc_Omap_pair__int64__api_Entry x343.2)) (own sv366 196 7 l7.length (fl enc_Omap_pair__int64__api_Entry l7))), (own sv377 65 6 x342.length (fl enc_Api_Entry x342)), A]) 1 (sub_cons (t := 0) rfl (sub_cons (t := 1) rfl (sub_cons (t := 5) rfl (sub_cons (t := 6) rfl (sub_cons (t := 7) rfl (sub_cons (t := 24) rfl (sub_cons (t := 25) rfl (sub_cons (t := 26) rfl (sub_cons (t := 27) rfl (sub_cons (t := 30) rfl (sub_cons (t := 31) rfl (sub_nil _)))))))))))) (fun _ => rfl)) ?_ ?_
         ·refine ⟨?_, ?_, ?_, ?_, ?_, ?_, ?_, ?_, ?_, ?_, ?_, ?_, ?_, ?_, ?_, ?_, ?_, ?_, ?_, ?_, ?_, trivial⟩
          ·intro done hi hc hcu
           refine draw_exi (I := Z191_I) fun ga177 => ?_
           exact draw_value (i := 0) (t := 32) (v := (pt b35 0)) rfl rfl (wanted_none rfl) (fun a => hasA_base) (ov_move rfl) rfl rfl (onlyT_spec (k0 := 0) rfl rfl rfl)
          ·intro done hi hc hcu
           refine draw_exi (I := Z191_I) fun ga177 => ?_
           exact draw_value (i := 1) (t := 33) (v := s0) rfl rfl (wanted_none rfl) (fun a => hasA_base) (ov_move rfl) rfl rfl (onlyT_spec (k0 := 1) rfl rfl rfl)
          ·intro done hi hc hcu
           refine draw_exi (I := Z191_I) fun ga177 => ?_
           exact draw_value (i := 2) (t := 34) (v := (int .i64 i66)) rfl rfl (wanted_none rfl) (fun a => hasA_base) (ov_move rfl) rfl rfl (onlyT_spec (k0 := 2) rfl rfl rfl)
          ·intro done hi hc hcu
           refine draw_exi (I := Z191_I) fun ga177 => ?_
           have d1 : done 1 = true := done_of (j := 1) hcu rfl (by decide) rfl
           have d2 : done 2 = true := done_of (j := 2) hcu rfl (by decide) rfl
           exact draw_value (i := 3) (t := 35) (v := (eptr s0 (i66.toNat * 2))) rfl rfl (wanted_none rfl) (fun a => (hasA_cons (k := 2) rfl d2 (hasA_cons (k := 1) rfl d1 hasA_base))) (ov_indexAddr (sz := 1) 5 rfl rfl F_slice_49 F_size_58 rfl hA0 c583 c579) rfl rfl (onlyT_spec (k0 := 3) rfl rfl rfl)
          ·intro done hi hc hcu
           refine draw_exi (I := Z191_I) fun ga177 => ?_
           have d3 : done 3 = true := done_of (j := 3) hcu rfl (by decide) rfl
           exact draw_value (i := 4) (t := 36) (v := (eptr s0 (i66.toNat * 2 + 0))) rfl rfl (wanted_none rfl) (fun a => (hasA_cons (k := 3) rfl d3 hasA_base)) (ov_fieldAddrE (sz := 0) (k0 := i66.toNat * 2) (off := 0) 5 rfl F_field_58_0 F_size_56 rfl hA0 (fl_pos enc_Ossuarylaw20_Act_len (ix_lt c583 c579))) rfl rfl (onlyT_spec (k0 := 4) rfl rfl rfl)
          ·intro done hi hc hcu
           refine draw_exi (I := Z191_I) fun ga177 => ?_
           have d4 : done 4 = true := done_of (j := 4) hcu rfl (by decide) rfl
           exact draw_value (i := 5) (t := 37) (v := ((l0.getD i66.toNat z_Ossuarylaw20_Act).Drop).v) rfl rfl (wanted_none rfl) (fun a => (hasA_cons (k := 4) rfl d4 hasA_base)) (ov_load (v := ((l0.getD i66.toNat z_Ossuarylaw20_Act).Drop).v) rfl F_agg_56 (reads_rd (i := 5) rfl hA0 (by simp) (fl_read (off := 0) enc_Ossuarylaw20_Act_len (ix_lt c583 c579) rfl))) rfl rfl (onlyT_spec (k0 := 5) rfl rfl rfl)
          ·intro done hi hc hcu
           refine draw_exi (I := Z191_I) fun ga177 => ?_
           exact draw_value (i := 6) (t := 38) (v := s0) rfl rfl (wanted_none rfl) (fun a => hasA_base) (ov_move rfl) rfl rfl (onlyT_spec (k0 := 6) rfl rfl rfl)
          ·intro done hi hc hcu
           refine draw_exi (I := Z191_I) fun ga177 => ?_
           exact draw_value (i := 7) (t := 39) (v := (int .i64 i66)) rfl rfl (wanted_none rfl) (fun a => hasA_base) (ov_move rfl) rfl rfl (onlyT_spec (k0 := 7) rfl rfl rfl)
          ·intro done hi hc hcu
           refine draw_exi (I := Z191_I) fun ga177 => ?_
           have d6 : done 6 = true := done_of (j := 6) hcu rfl (by decide) rfl
           have d7 : done 7 = true := done_of (j := 7) hcu rfl (by decide) rfl
           exact draw_value (i := 8) (t := 40) (v := (eptr s0 (i66.toNat * 2))) rfl rfl (wanted_none rfl) (fun a => (hasA_cons (k := 7) rfl d7 (hasA_cons (k := 6) rfl d6 hasA_base))) (ov_indexAddr (sz := 1) 5 rfl rfl F_slice_49 F_size_58 rfl hA0 c583 c579) rfl rfl (onlyT_spec (k0 := 8) rfl rfl rfl)
          ·intro done hi hc hcu
           refine draw_exi (I := Z191_I) fun ga177 => ?_
           have d8 : done 8 = true := done_of (j := 8) hcu rfl (by decide) rfl
           exact draw_value (i := 9) (t := 41) (v := (eptr s0 (i66.toNat * 2 + 1))) rfl rfl (wanted_none rfl) (fun a => (hasA_cons (k := 8) rfl d8 hasA_base)) (ov_fieldAddrE (sz := 0) (k0 := i66.toNat * 2) (off := 1) 5 rfl F_field_58_1 F_size_53 rfl hA0 (fl_pos enc_Ossuarylaw20_Act_len (ix_lt c583 c579))) rfl rfl (onlyT_spec (k0 := 9) rfl rfl rfl)
          ·intro done hi hc hcu
           refine draw_exi (I := Z191_I) fun ga177 => ?_
           have d9 : done 9 = true := done_of (j := 9) hcu rfl (by decide) rfl
           exact draw_value (i := 10) (t := 42) (v := ((l0.getD i66.toNat z_Ossuarylaw20_Act).Put).v) rfl rfl (wanted_none rfl) (fun a => (hasA_cons (k := 9) rfl d9 hasA_base)) (ov_load (v := ((l0.getD i66.toNat z_Ossuarylaw20_Act).Put).v) rfl F_agg_53 (reads_rd (i := 5) rfl hA0 (by simp) (fl_read (off := 1) enc_Ossuarylaw20_Act_len (ix_lt c583 c579) rfl))) rfl rfl (onlyT_spec (k0 := 10) rfl rfl rfl)
          ·intro done hi hc hcu
           refine draw_exi (I := Z191_I) fun ga177 => ?_
           have d5 : done 5 = true := done_of (j := 5) hcu rfl (by decide) rfl
           have d10 : done 10 = true := done_of (j := 10) hcu rfl (by decide) rfl
           exact draw_value (i := 11) (t := 43) (v := (agg #[((l0.getD i66.toNat z_Ossuarylaw20_Act).Drop).v, ((l0.getD i66.toNat z_Ossuarylaw20_Act).Put).v])) rfl rfl (wanted_none rfl) (fun a => (hasA_cons (k := 10) rfl d10 (hasA_cons (k := 5) rfl d5 hasA_base))) (ov_sl 5 rfl (hJ0 _ (getD_mem_ z_Ossuarylaw20_Act (ix_lt c583 c579))).2 fun hc1_ => (ov_sl 5 rfl (hJ0 _ (getD_mem_ z_Ossuarylaw20_Act (ix_lt c583 c579))).1 fun hc0_ => (ov_build (is := [0, 1]) (xs := [.tmp 37, .tmp 42]) (vs := [((l0.getD i66.toNat z_Ossuarylaw20_Act).Drop).v, ((l0.getD i66.toNat z_Ossuarylaw20_Act).Put).v]) rfl rfl (build_struct (cs := [((l0.getD i66.toNat z_Ossuarylaw20_Act).Drop).v, ((l0.getD i66.toNat z_Ossuarylaw20_Act).Put).v]) F_zero_59 F_places_59 (by revert hc0_ hc1_; generalize ((l0.getD i66.toNat z_Ossuarylaw20_Act).Drop).v = vv0_; generalize ((l0.getD i66.toNat z_Ossuarylaw20_Act).Put).v = vv1_; intro hc0_ hc1_; simp [Instr.fill, cells_int, cells_bool, cells_str, cells_func, cells_slice, cells_ptr, cells_nilFunc, cells_agg, hc0_, hc1_]))))) rfl rfl (onlyT_spec (k0 := 11) rfl rfl rfl)
          ·intro done hi hc hcu
           refine ent_exi (S := fun ga177 => Z191_I ga177 done) fun ga177 => ?_
           have d0 : done 0 = true := done_of (j := 0) hcu rfl (by decide) rfl
           have d11 : done 11 = true := done_of (j := 11) hcu rfl (by decide) rfl
           refine draw_turnP (i := 12) (t := 44) (x := ga177) (L := (fun (ga177 : Nat → Value) (done : Nat → Bool) => [(sel (done 16) (own (ga177 16) 65 6 x344.length (fl enc_Api_Entry x344)) emp), (sel (done 12) (box b35 139 [(pt (blk (ga177 12)) 0)]) (box b35 139 [(pt b50 0)])), (sel (done 12) (box (blk (ga177 12)) 192 [(ga177 1012)]) (box b50 192 [sv366])), (sel (done 12) (own (ga177 1012) 196 7 x343.2.length (fl enc_Omap_pair__int64__api_Entry x343.2)) (own sv366 196 7 l7.length (fl enc_Omap_pair__int64__api_Entry l7))), (own sv377 65 6 x342.length (fl enc_Api_Entry x342)), A])) (T := (fun ga177 : Nat → Value => [(0, 32, (pt b35 0)), (1, 33, s0), (2, 34, (int .i64 i66)), (3, 35, (eptr s0 (i66.toNat * 2))), (4, 36, (eptr s0 (i66.toNat * 2 + 0))), (5, 37, ((l0.getD i66.toNat z_Ossuarylaw20_Act).Drop).v), (6, 38, s0), (7, 39, (int .i64 i66)), (8, 40, (eptr s0 (i66.toNat * 2))), (9, 41, (eptr s0 (i66.toNat * 2 + 1))), (10, 42, ((l0.getD i66.toNat z_Ossuarylaw20_Act).Put).v), (11, 43, (agg #[((l0.getD i66.toNat z_Ossuarylaw20_Act).Drop).v, ((l0.getD i66.toNat z_Ossuarylaw20_Act).Put).v])), (12, 44, (int .i64 x343.1)), (13, 45, (bool (x343.1 != 0))), (14, 46, (bool (x343.1 != 0))), (15, 47, (pt b35 0)), (16, 48, (ga177 16)), (17, 49, sv377), (18, 50, (bool x345)), (19, 51, (bool (!x345))), (20, 52, (bool (!x345)))])) (L2 := [(sel (done 16) (own (ga177 16) 65 6 x344.length (fl enc_Api_Entry x344)) emp), (box b35 139 [(pt b50 0)]), (box b50 192 [sv366]), (own sv366 196 7 l7.length (fl enc_Omap_pair__int64__api_Entry l7)), (own sv377 65 6 x342.length (fl enc_Api_Entry x342)), A]) [1, 2, 3, 5, 0, 4] [4, 0, 1, 2, 5, 3] rfl rfl (wanted_none rfl) (fun a => (hasA_cons (k := 11) rfl d11 (hasA_cons (k := 0) rfl d0 hasA_base))) (by simp only [hi, sel]) (by decide) rfl (ot_call (Lr := [(sel (done 16) (own (ga177 16) 65 6 x344.length (fl enc_Api_Entry x344)) emp), (own sv377 65 6 x342.length (fl enc_Api_Entry x342))]) (first := []) (cap := []) (xs := [.tmp 32, .tmp 43]) rfl rfl F_call_25 rfl (catalog_Catalog_Apply_ORR.spec K b35 b50 sv366 (((l0.getD i66.toNat z_Ossuarylaw20_Act).Drop).v) A (((l0.getD i66.toNat z_Ossuarylaw20_Act).Put).v) l7 (((l0.getD i66.toNat z_Ossuarylaw20_Act).Drop).xs) (((l0.getD i66.toNat z_Ossuarylaw20_Act).Put).xs) ((hJ0 _ (getD_mem_ z_Ossuarylaw20_Act (ix_lt c583 c579))).1) ((hJ0 _ (getD_mem_ z_Ossuarylaw20_Act (ix_lt c583 c579))).2) _ h325) rfl) (by decide) rfl rfl ?_
           rintro _ _ ⟨_, ⟨g0_, g1_, rfl, rfl⟩, rfl⟩
           exact ⟨(upb (upb ga177 12 (pt g0_ 0)) 1012 g1_), show some [(sel (done 16) (own (ga177 16) 65 6 x344.length (fl enc_Api_Entry x344)) emp), (box b35 139 [(pt (blk (pt g0_ 0)) 0)]), (box (blk (pt g0_ 0)) 192 [g1_]), (own g1_ 196 7 x343.2.length (fl enc_Omap_pair__int64__api_Entry x343.2)), (own sv377 65 6 x342.length (fl enc_Api_Entry x342)), A] = _ by simp [up, upb, sel, hi], (tr_same rfl rfl (tr_same rfl rfl (tr_same rfl rfl (tr_same rfl rfl (tr_same rfl rfl (tr_same rfl rfl (tr_same rfl rfl (tr_same rfl rfl (tr_same rfl rfl (tr_same rfl rfl (tr_same rfl rfl (tr_same rfl rfl (tr_this (tr_same rfl rfl (tr_same rfl rfl (tr_same rfl rfl (tr_same rfl rfl (tr_same rfl rfl (tr_same rfl rfl (tr_same rfl rfl (tr_same rfl rfl tr_nil)))))))))))))))))))))⟩
          ·intro done hi hc hcu
           refine draw_exi (I := Z191_I) fun ga177 => ?_
           have d12 : done 12 = true := done_of (j := 12) hcu rfl (by decide) rfl
           exact draw_value (i := 13) (t := 45) (v := (bool (x343.1 != 0))) rfl rfl (wanted_none rfl) (fun a => (hasA_cons (k := 12) rfl d12 hasA_base)) (ov_bin rfl rfl (b_neq _ _ _)) rfl rfl (onlyT_spec (k0 := 13) rfl rfl rfl)
          ·intro done hi hc hcu
           refine draw_exi (I := Z191_I) fun ga177 => ?_
           have d13 : done 13 = true := done_of (j := 13) hcu rfl (by decide) rfl
           exact draw_value (i := 14) (t := 46) (v := (bool (x343.1 != 0))) rfl rfl (wanted_none rfl) (fun a => (hasA_cons (k := 13) rfl d13 hasA_base)) (ov_move rfl) rfl rfl (onlyT_spec (k0 := 14) rfl rfl rfl)
          ·intro done hi hc hcu
           refine draw_exi (I := Z191_I) fun ga177 => ?_
           have d14 : done 14 = true := done_of (j := 14) hcu rfl (by decide) rfl
           exact draw_value (i := 15) (t := 47) (v := (pt b35 0)) rfl rfl (wanted_on rfl rfl rfl (ne_t c584)) (fun a => (hasA_cons (k := 14) rfl d14 hasA_base)) (ov_move rfl) rfl rfl (onlyT_spec (k0 := 15) rfl rfl rfl)
          ·intro done hi hc hcu
           refine ent_exi (S := fun ga177 => Z191_I ga177 done) fun ga177 => ?_
           have d15 : done 15 = true := done_of (j := 15) hcu rfl (by decide) rfl
           have d14 : done 14 = true := done_of (j := 14) hcu rfl (by decide) rfl
           have d12 : done 12 = true := done_step (i := 14) (j := 12) hc d14 rfl rfl
           refine draw_turnP (i := 16) (t := 48) (x := ga177) (L := (fun (ga177 : Nat → Value) (done : Nat → Bool) => [(sel (done 16) (own (ga177 16) 65 6 x344.length (fl enc_Api_Entry x344)) emp), (sel (done 12) (box b35 139 [(pt (blk (ga177 12)) 0)]) (box b35 139 [(pt b50 0)])), (sel (done 12) (box (blk (ga177 12)) 192 [(ga177 1012)]) (box b50 192 [sv366])), (sel (done 12) (own (ga177 1012) 196 7 x343.2.length (fl enc_Omap_pair__int64__api_Entry x343.2)) (own sv366 196 7 l7.length (fl enc_Omap_pair__int64__api_Entry l7))), (own sv377 65 6 x342.length (fl enc_Api_Entry x342)), A])) (T := (fun ga177 : Nat → Value => [(0, 32, (pt b35 0)), (1, 33, s0), (2, 34, (int .i64 i66)), (3, 35, (eptr s0 (i66.toNat * 2))), (4, 36, (eptr s0 (i66.toNat * 2 + 0))), (5, 37, ((l0.getD i66.toNat z_Ossuarylaw20_Act).Drop).v), (6, 38, s0), (7, 39, (int .i64 i66)), (8, 40, (eptr s0 (i66.toNat * 2))), (9, 41, (eptr s0 (i66.toNat * 2 + 1))), (10, 42, ((l0.getD i66.toNat z_Ossuarylaw20_Act).Put).v), (11, 43, (agg #[((l0.getD i66.toNat z_Ossuarylaw20_Act).Drop).v, ((l0.getD i66.toNat z_Ossuarylaw20_Act).Put).v])), (12, 44, (int .i64 x343.1)), (13, 45, (bool (x343.1 != 0))), (14, 46, (bool (x343.1 != 0))), (15, 47, (pt b35 0)), (16, 48, (ga177 16)), (17, 49, sv377), (18, 50, (bool x345)), (19, 51, (bool (!x345))), (20, 52, (bool (!x345)))])) (L2 := [emp, (box b35 139 [(pt (blk (ga177 12)) 0)]), (box (blk (ga177 12)) 192 [(ga177 1012)]), (own (ga177 1012) 196 7 x343.2.length (fl enc_Omap_pair__int64__api_Entry x343.2)), (own sv377 65 6 x342.length (fl enc_Api_Entry x342)), A]) [1, 2, 3, 0, 4, 5] [3, 0, 1, 2, 5, 6] rfl rfl (wanted_on rfl rfl rfl (ne_t c584)) (fun a => (hasA_cons (k := 14) rfl d14 (hasA_cons (k := 15) rfl d15 hasA_base))) (by simp only [d12, hi, sel]) (by decide) rfl (ot_call (Lr := [emp, (own sv377 65 6 x342.length (fl enc_Api_Entry x342)), A]) (first := []) (cap := []) (xs := [.tmp 47]) rfl rfl F_call_24 rfl (ossuarylaw20_Back_O.spec K b35 (blk (ga177 12)) (ga177 1012) x343.2 _ h326) rfl) (by decide) rfl rfl ?_
           rintro g0_ _ ⟨_, ⟨_, rfl, rfl⟩, rfl⟩
           exact ⟨(upb ga177 16 g0_), show some [(own g0_ 65 6 x344.length (fl enc_Api_Entry x344)), (box b35 139 [(pt (blk (ga177 12)) 0)]), (box (blk (ga177 12)) 192 [(ga177 1012)]), (own (ga177 1012) 196 7 x343.2.length (fl enc_Omap_pair__int64__api_Entry x343.2)), (own sv377 65 6 x342.length (fl enc_Api_Entry x342)), A] = _ by simp [up, upb, sel, d12, hi], (tr_same rfl rfl (tr_same rfl rfl (tr_same rfl rfl (tr_same rfl rfl (tr_same rfl rfl (tr_same rfl rfl (tr_same rfl rfl (tr_same rfl rfl (tr_same rfl rfl (tr_same rfl rfl (tr_same rfl rfl (tr_same rfl rfl (tr_same rfl rfl (tr_same rfl rfl (tr_same rfl rfl (tr_same rfl rfl (tr_this (tr_same rfl rfl (tr_same rfl rfl (tr_same rfl rfl (tr_same rfl rfl tr_nil)))))))))))))))))))))⟩
          ·intro done hi hc hcu
           refine draw_exi (I := Z191_I) fun ga177 => ?_
           have d14 : done 14 = true := done_of (j := 14) hcu rfl (by decide) rfl
           exact draw_value (i := 17) (t := 49) (v := sv377) rfl rfl (wanted_on rfl rfl rfl (ne_t c584)) (fun a => (hasA_cons (k := 14) rfl d14 hasA_base)) (ov_move rfl) rfl rfl (onlyT_spec (k0 := 17) rfl rfl rfl)
          ·intro done hi hc hcu
           refine draw_exi (I := Z191_I) fun ga177 => ?_
           have d16 : done 16 = true := done_of (j := 16) hcu rfl (by decide) rfl
           have d17 : done 17 = true := done_of (j := 17) hcu rfl (by decide) rfl
           have d14 : done 14 = true := done_of (j := 14) hcu rfl (by decide) rfl
           exact draw_same (i := 18) (t := 50) (v := (bool x345)) rfl rfl (wanted_on rfl rfl rfl (ne_t c584)) (fun a => (hasA_cons (k := 14) rfl d14 (hasA_cons (k := 17) rfl d17 (hasA_cons (k := 16) rfl d16 hasA_base)))) (ot_L (L2 := [(own (ga177 16) 65 6 x344.length (fl enc_Api_Entry x344)), (sel (done 12) (box b35 139 [(pt (blk (ga177 12)) 0)]) (box b35 139 [(pt b50 0)])), (sel (done 12) (box (blk (ga177 12)) 192 [(ga177 1012)]) (box b50 192 [sv366])), (sel (done 12) (own (ga177 1012) 196 7 x343.2.length (fl enc_Omap_pair__int64__api_Entry x343.2)) (own sv366 196 7 l7.length (fl enc_Omap_pair__int64__api_Entry l7))), (own sv377 65 6 x342.length (fl enc_Api_Entry x342)), A]) (by simp only [d16, sel]) (ot_call_same (Lr := [(sel (done 12) (box b35 139 [(pt (blk (ga177 12)) 0)]) (box b35 139 [(pt b50 0)])), (sel (done 12) (box (blk (ga177 12)) 192 [(ga177 1012)]) (box b50 192 [sv366])), (sel (done 12) (own (ga177 1012) 196 7 x343.2.length (fl enc_Omap_pair__int64__api_Entry x343.2)) (own sv366 196 7 l7.length (fl enc_Omap_pair__int64__api_Entry l7))), A]) [0, 4, 1, 2, 3, 5] [0, 2, 3, 4, 1, 5] (first := []) (cap := []) (xs := [.tmp 48, .tmp 49]) rfl rfl F_call_26 rfl (ossuaryref20_Same_RR.spec K (ga177 16) (own (ga177 16) 65 6 x344.length (fl enc_Api_Entry x344)) sv377 (own sv377 65 6 x342.length (fl enc_Api_Entry x342)) x344 x342 (isRd_ownx 65) (isRd_ownx 65) _ h327) (by decide) rfl (by decide) rfl)) rfl rfl (onlyT_spec (k0 := 18) rfl rfl rfl)
          ·intro done hi hc hcu
           refine draw_exi (I := Z191_I) fun ga177 => ?_
           have d18 : done 18 = true := done_of (j := 18) hcu rfl (by decide) rfl
           have d14 : done 14 = true := done_of (j := 14) hcu rfl (by decide) rfl
           exact draw_value (i := 19) (t := 51) (v := (bool (!x345))) rfl rfl (wanted_on rfl rfl rfl (ne_t c584)) (fun a => (hasA_cons (k := 14) rfl d14 (hasA_cons (k := 18) rfl d18 hasA_base))) (ov_un rfl (u_not _)) rfl rfl (onlyT_spec (k0 := 19) rfl rfl rfl)
          ·intro done hi hc hcu
           refine draw_exi (I := Z191_I) fun ga177 => ?_
           have d14 : done 14 = true := done_of (j := 14) hcu rfl (by decide) rfl
           have d19 : done 19 = true := done_of (j := 19) hcu rfl (by decide) rfl
           exact draw_value (i := 20) (t := 52) (v := (bool (!x345))) rfl rfl (wanted_none rfl) (fun a => (hasA_cons (k := 19) rfl d19 (hasA_cons (k := 14) rfl d14 hasA_base))) (ov_pick rfl rfl rfl (pick_t (ne_t c584))) rfl rfl (onlyT_spec (k0 := 20) rfl rfl rfl)
         ·intro done hall
          refine ent_exi (S := fun ga177 => Z191_I ga177 done) fun ga177 => ?_
          refine draw_endL [(own (ga177 16) 65 6 x344.length (fl enc_Api_Entry x344)), (box b35 139 [(pt (blk (ga177 12)) 0)]), (box (blk (ga177 12)) 192 [(ga177 1012)]), (own (ga177 1012) 196 7 x343.2.length (fl enc_Omap_pair__int64__api_Entry x343.2)), (own sv377 65 6 x342.length (fl enc_Api_Entry x342)), A] (by simp only [hall 12 (by decide), hall 16 (by decide), sel]) (fun a => (hasA_cons (k := 0) rfl (hall 0 (by decide)) (hasA_cons (k := 1) rfl (hall 1 (by decide)) (hasA_cons (k := 2) rfl (hall 2 (by decide)) (hasA_cons (k := 3) rfl (hall 3 (by decide)) (hasA_cons (k := 4) rfl (hall 4 (by decide)) (hasA_cons (k := 5) rfl (hall 5 (by decide)) (hasA_cons (k := 6) rfl (hall 6 (by decide)) (hasA_cons (k := 7) rfl (hall 7 (by decide)) (hasA_cons (k := 8) rfl (hall 8 (by decide)) (hasA_cons (k := 9) rfl (hall 9 (by decide)) (hasA_cons (k := 10) rfl (hall 10 (by decide)) (hasA_cons (k := 11) rfl (hall 11 (by decide)) (hasA_cons (k := 12) rfl (hall 12 (by decide)) (hasA_cons (k := 13) rfl (hall 13 (by decide)) (hasA_cons (k := 14) rfl (hall 14 (by decide)) (hasA_cons (k := 15) rfl (hall 15 (by decide)) (hasA_cons (k := 16) rfl (hall 16 (by decide)) (hasA_cons (k := 17) rfl (hall 17 (by decide)) (hasA_cons (k := 18) rfl (hall 18 (by decide)) (hasA_cons (k := 19) rfl (hall 19 (by decide)) (hasA_cons (k := 20) rfl (hall 20 (by decide)) hasA_base)))))))))))))))))))))) ?_
          by_cases c585 : (!x345) = true
          ·rw [if_pos c585] at H75
           refine ent_cond_true rfl c585 ?_
           refine ent_seq ?_
           refine ent_region ?_
           refine ent_value (ov_assign rfl) rfl rfl rfl ?_
           refine ent_nil ?_
           refine ent_retc ?_
           cases H75
           have H76 := Option.some.inj (show some _ = some _ from H)
           cases H76
           refine ent_pick [5] (by decide) rfl ?_
           exact ret_tmp rfl rfl ⟨rfl, rfl⟩
          ·rw [if_neg c585] at H75
           refine ent_cond_false rfl (Bool.eq_false_iff.2 c585) ?_
           refine ent_skip ?_
           refine ent_region ?_
           refine ent_value (ov_move rfl) rfl rfl rfl ?_
           refine ent_value (ov_bin rfl rfl (b_add _ _ _) ) rfl rfl rfl ?_
           refine ent_value (ov_assign rfl) rfl rfl rfl ?_
           refine ent_nil ?_
           exact ent_fin [5, 1, 2, 3] (by decide) rfl (sub_cons (t := 0) rfl (sub_cons (t := 1) rfl (sub_cons (t := 5) rfl (sub_cons (t := 6) rfl (sub_nil _))))) fun a w h => ⟨k, Nat.lt_succ_self k, _, _, _, _, H75, h⟩
        ·rw [if_neg c584] at H75
         let Z192_I : (Nat → Value) → (Nat → Bool) → Act → World → Prop := fun (ga177 : Nat → Value) done a w => StD 117 w0 F [(0, s0), (1, s1), (5, (pt b35 0)), (6, (int .i64 i66)), (7, sv377), (24, (int .i64 i66)), (25, s0), (26, (int .i64 (l0.length : Int))), (27, (bool (decide (i66 < (l0.length : Int))))), (30, (pt b35 0)), (31, sv377)] [(0, 32, (pt b35 0)), (1, 33, s0), (2, 34, (int .i64 i66)), (3, 35, (eptr s0 (i66.toNat * 2))), (4, 36, (eptr s0 (i66.toNat * 2 + 0))), (5, 37, ((l0.getD i66.toNat z_Ossuarylaw20_Act).Drop).v), (6, 38, s0), (7, 39, (int .i64 i66)), (8, 40, (eptr s0 (i66.toNat * 2))), (9, 41, (eptr s0 (i66.toNat * 2 + 1))), (10, 42, ((l0.getD i66.toNat z_Ossuarylaw20_Act).Put).v), (11, 43, (agg #[((l0.getD i66.toNat z_Ossuarylaw20_Act).Drop).v, ((l0.getD i66.toNat z_Ossuarylaw20_Act).Put).v])), (12, 44, (int .i64 x343.1)), (13, 45, (bool (x343.1 != 0))), (14, 46, (bool (x343.1 != 0))), (15, 47, undef), (16, 48, undef), (17, 49, undef), (18, 50, undef), (19, 51, undef), (20, 52, (bool false))] done [emp, (sel (done 12) (box b35 139 [(pt (blk (ga177 12)) 0)]) (box b35 139 [(pt b50 0)])), (sel (done 12) (box (blk (ga177 12)) 192 [(ga177 1012)]) (box b50 192 [sv366])), (sel (done 12) (own (ga177 1012) 196 7 x343.2.length (fl enc_Omap_pair__int64__api_Entry x343.2)) (own sv366 196 7 l7.length (fl enc_Omap_pair__int64__api_Entry l7))), (own sv377 65 6 x342.length (fl enc_Api_Entry x342)), A] a w
         refine ent_drawm 21 rfl (fun done a w => ∃ ga177 : Nat → Value, Z192_I ga177 done a w) (by kernel_rfl) (by kernel_rfl) (draw_startG (T := (fun ga177 : Nat → Value => [(0, 32, (pt b35 0)), (1, 33, s0), (2, 34, (int .i64 i66)), (3, 35, (eptr s0 (i66.toNat * 2))), (4, 36, (eptr s0 (i66.toNat * 2 + 0))), (5, 37, ((l0.getD i66.toNat z_Ossuarylaw20_Act).Drop).v), (6, 38, s0), (7, 39, (int .i64 i66)), (8, 40, (eptr s0 (i66.toNat * 2))), (9, 41, (eptr s0 (i66.toNat * 2 + 1))), (10, 42, ((l0.getD i66.toNat z_Ossuarylaw20_Act).Put).v), (11, 43, (agg #[((l0.getD i66.toNat z_Ossuarylaw20_Act).Drop).v, ((l0.getD i66.toNat z_Ossuarylaw20_Act).Put).v])), (12, 44, (int .i64 x343.1)), (13, 45, (bool (x343.1 != 0))), (14, 46, (bool (x343.1 != 0))), (15, 47, undef), (16, 48, undef), (17, 49, undef), (18, 50, undef), (19, 51, undef), (20, 52, (bool false))])) (L' := fun ga177 : Nat → Value => [emp, (sel false (box b35 139 [(pt (blk (ga177 12)) 0)]) (box b35 139 [(pt b50 0)])), (sel false (box (blk (ga177 12)) 192 [(ga177 1012)]) (box b50 192 [sv366])), (sel false (own (ga177 1012) 196 7 x343.2.length (fl enc_Omap_pair__int64__api_Entry x343.2)) (own sv366 196 7 l7.length (fl enc_Omap_pair__int64__api_Entry l7))), (own sv377 65 6 x342.length (fl enc_Api_Entry x342)), A]) 1 (sub_cons (t := 0) rfl (sub_cons (t := 1) rfl (sub_cons (t := 5) rfl (sub_cons (t := 6) rfl (sub_cons (t := 7) rfl (sub_cons (t := 24) rfl (sub_cons (t := 25) rfl (sub_cons (t := 26) rfl (sub_cons (t := 27) rfl (sub_cons (t := 30) rfl (sub_cons (t := 31) rfl (sub_nil _)))))))))))) (fun _ => rfl)) ?_ ?_
         ·refine ⟨?_, ?_, ?_, ?_, ?_, ?_, ?_, ?_, ?_, ?_, ?_, ?_, ?_, ?_, ?_, ?_, ?_, ?_, ?_, ?_, ?_, trivial⟩
          ·intro done hi hc hcu
           refine draw_exi (I := Z192_I) fun ga177 => ?_
           exact draw_value (i := 0) (t := 32) (v := (pt b35 0)) rfl rfl (wanted_none rfl) (fun a => hasA_base) (ov_move rfl) rfl rfl (onlyT_spec (k0 := 0) rfl rfl rfl)
          ·intro done hi hc hcu
           refine draw_exi (I := Z192_I) fun ga177 => ?_
           exact draw_value (i := 1) (t := 33) (v := s0) rfl rfl (wanted_none rfl) (fun a => hasA_base) (ov_move rfl) rfl rfl (onlyT_spec (k0 := 1) rfl rfl rfl)
          ·intro done hi hc hcu
           refine draw_exi (I := Z192_I) fun ga177 => ?_
           exact draw_value (i := 2) (t := 34) (v := (int .i64 i66)) rfl rfl (wanted_none rfl) (fun a => hasA_base) (ov_move rfl) rfl rfl (onlyT_spec (k0 := 2) rfl rfl rfl)
          ·intro done hi hc hcu
           refine draw_exi (I := Z192_I) fun ga177 => ?_
           have d1 : done 1 = true := done_of (j := 1) hcu rfl (by decide) rfl
           have d2 : done 2 = true := done_of (j := 2) hcu rfl (by decide) rfl
           exact draw_value (i := 3) (t := 35) (v := (eptr s0 (i66.toNat * 2))) rfl rfl (wanted_none rfl) (fun a => (hasA_cons (k := 2) rfl d2 (hasA_cons (k := 1) rfl d1 hasA_base))) (ov_indexAddr (sz := 1) 5 rfl rfl F_slice_49 F_size_58 rfl hA0 c583 c579) rfl rfl (onlyT_spec (k0 := 3) rfl rfl rfl)
          ·intro done hi hc hcu
           refine draw_exi (I := Z192_I) fun ga177 => ?_
           have d3 : done 3 = true := done_of (j := 3) hcu rfl (by decide) rfl
           exact draw_value (i := 4) (t := 36) (v := (eptr s0 (i66.toNat * 2 + 0))) rfl rfl (wanted_none rfl) (fun a => (hasA_cons (k := 3) rfl d3 hasA_base)) (ov_fieldAddrE (sz := 0) (k0 := i66.toNat * 2) (off := 0) 5 rfl F_field_58_0 F_size_56 rfl hA0 (fl_pos enc_Ossuarylaw20_Act_len (ix_lt c583 c579))) rfl rfl (onlyT_spec (k0 := 4) rfl rfl rfl)
          ·intro done hi hc hcu
           refine draw_exi (I := Z192_I) fun ga177 => ?_
           have d4 : done 4 = true := done_of (j := 4) hcu rfl (by decide) rfl
           exact draw_value (i := 5) (t := 37) (v := ((l0.getD i66.toNat z_Ossuarylaw20_Act).Drop).v) rfl rfl (wanted_none rfl) (fun a => (hasA_cons (k := 4) rfl d4 hasA_base)) (ov_load (v := ((l0.getD i66.toNat z_Ossuarylaw20_Act).Drop).v) rfl F_agg_56 (reads_rd (i := 5) rfl hA0 (by simp) (fl_read (off := 0) enc_Ossuarylaw20_Act_len (ix_lt c583 c579) rfl))) rfl rfl (onlyT_spec (k0 := 5) rfl rfl rfl)
          ·intro done hi hc hcu
           refine draw_exi (I := Z192_I) fun ga177 => ?_
           exact draw_value (i := 6) (t := 38) (v := s0) rfl rfl (wanted_none rfl) (fun a => hasA_base) (ov_move rfl) rfl rfl (onlyT_spec (k0 := 6) rfl rfl rfl)
          ·intro done hi hc hcu
           refine draw_exi (I := Z192_I) fun ga177 => ?_
           exact draw_value (i := 7) (t := 39) (v := (int .i64 i66)) rfl rfl (wanted_none rfl) (fun a => hasA_base) (ov_move rfl) rfl rfl (onlyT_spec (k0 := 7) rfl rfl rfl)
          ·intro done hi hc hcu
           refine draw_exi (I := Z192_I) fun ga177 => ?_
           have d6 : done 6 = true := done_of (j := 6) hcu rfl (by decide) rfl
           have d7 : done 7 = true := done_of (j := 7) hcu rfl (by decide) rfl
           exact draw_value (i := 8) (t := 40) (v := (eptr s0 (i66.toNat * 2))) rfl rfl (wanted_none rfl) (fun a => (hasA_cons (k := 7) rfl d7 (hasA_cons (k := 6) rfl d6 hasA_base))) (ov_indexAddr (sz := 1) 5 rfl rfl F_slice_49 F_size_58 rfl hA0 c583 c579) rfl rfl (onlyT_spec (k0 := 8) rfl rfl rfl)
          ·intro done hi hc hcu
           refine draw_exi (I := Z192_I) fun ga177 => ?_
           have d8 : done 8 = true := done_of (j := 8) hcu rfl (by decide) rfl
           exact draw_value (i := 9) (t := 41) (v := (eptr s0 (i66.toNat * 2 + 1))) rfl rfl (wanted_none rfl) (fun a => (hasA_cons (k := 8) rfl d8 hasA_base)) (ov_fieldAddrE (sz := 0) (k0 := i66.toNat * 2) (off := 1) 5 rfl F_field_58_1 F_size_53 rfl hA0 (fl_pos enc_Ossuarylaw20_Act_len (ix_lt c583 c579))) rfl rfl (onlyT_spec (k0 := 9) rfl rfl rfl)
          ·intro done hi hc hcu
           refine draw_exi (I := Z192_I) fun ga177 => ?_
           have d9 : done 9 = true := done_of (j := 9) hcu rfl (by decide) rfl
           exact draw_value (i := 10) (t := 42) (v := ((l0.getD i66.toNat z_Ossuarylaw20_Act).Put).v) rfl rfl (wanted_none rfl) (fun a => (hasA_cons (k := 9) rfl d9 hasA_base)) (ov_load (v := ((l0.getD i66.toNat z_Ossuarylaw20_Act).Put).v) rfl F_agg_53 (reads_rd (i := 5) rfl hA0 (by simp) (fl_read (off := 1) enc_Ossuarylaw20_Act_len (ix_lt c583 c579) rfl))) rfl rfl (onlyT_spec (k0 := 10) rfl rfl rfl)
          ·intro done hi hc hcu
           refine draw_exi (I := Z192_I) fun ga177 => ?_
           have d5 : done 5 = true := done_of (j := 5) hcu rfl (by decide) rfl
           have d10 : done 10 = true := done_of (j := 10) hcu rfl (by decide) rfl
           exact draw_value (i := 11) (t := 43) (v := (agg #[((l0.getD i66.toNat z_Ossuarylaw20_Act).Drop).v, ((l0.getD i66.toNat z_Ossuarylaw20_Act).Put).v])) rfl rfl (wanted_none rfl) (fun a => (hasA_cons (k := 10) rfl d10 (hasA_cons (k := 5) rfl d5 hasA_base))) (ov_sl 5 rfl (hJ0 _ (getD_mem_ z_Ossuarylaw20_Act (ix_lt c583 c579))).2 fun hc1_ => (ov_sl 5 rfl (hJ0 _ (getD_mem_ z_Ossuarylaw20_Act (ix_lt c583 c579))).1 fun hc0_ => (ov_build (is := [0, 1]) (xs := [.tmp 37, .tmp 42]) (vs := [((l0.getD i66.toNat z_Ossuarylaw20_Act).Drop).v, ((l0.getD i66.toNat z_Ossuarylaw20_Act).Put).v]) rfl rfl (build_struct (cs := [((l0.getD i66.toNat z_Ossuarylaw20_Act).Drop).v, ((l0.getD i66.toNat z_Ossuarylaw20_Act).Put).v]) F_zero_59 F_places_59 (by revert hc0_ hc1_; generalize ((l0.getD i66.toNat z_Ossuarylaw20_Act).Drop).v = vv0_; generalize ((l0.getD i66.toNat z_Ossuarylaw20_Act).Put).v = vv1_; intro hc0_ hc1_; simp [Instr.fill, cells_int, cells_bool, cells_str, cells_func, cells_slice, cells_ptr, cells_nilFunc, cells_agg, hc0_, hc1_]))))) rfl rfl (onlyT_spec (k0 := 11) rfl rfl rfl)
          ·intro done hi hc hcu
           refine ent_exi (S := fun ga177 => Z192_I ga177 done) fun ga177 => ?_
           have d0 : done 0 = true := done_of (j := 0) hcu rfl (by decide) rfl
           have d11 : done 11 = true := done_of (j := 11) hcu rfl (by decide) rfl
           refine draw_turnP (i := 12) (t := 44) (x := ga177) (L := (fun (ga177 : Nat → Value) (done : Nat → Bool) => [emp, (sel (done 12) (box b35 139 [(pt (blk (ga177 12)) 0)]) (box b35 139 [(pt b50 0)])), (sel (done 12) (box (blk (ga177 12)) 192 [(ga177 1012)]) (box b50 192 [sv366])), (sel (done 12) (own (ga177 1012) 196 7 x343.2.length (fl enc_Omap_pair__int64__api_Entry x343.2)) (own sv366 196 7 l7.length (fl enc_Omap_pair__int64__api_Entry l7))), (own sv377 65 6 x342.length (fl enc_Api_Entry x342)), A])) (T := (fun ga177 : Nat → Value => [(0, 32, (pt b35 0)), (1, 33, s0), (2, 34, (int .i64 i66)), (3, 35, (eptr s0 (i66.toNat * 2))), (4, 36, (eptr s0 (i66.toNat * 2 + 0))), (5, 37, ((l0.getD i66.toNat z_Ossuarylaw20_Act).Drop).v), (6, 38, s0), (7, 39, (int .i64 i66)), (8, 40, (eptr s0 (i66.toNat * 2))), (9, 41, (eptr s0 (i66.toNat * 2 + 1))), (10, 42, ((l0.getD i66.toNat z_Ossuarylaw20_Act).Put).v), (11, 43, (agg #[((l0.getD i66.toNat z_Ossuarylaw20_Act).Drop).v, ((l0.getD i66.toNat z_Ossuarylaw20_Act).Put).v])), (12, 44, (int .i64 x343.1)), (13, 45, (bool (x343.1 != 0))), (14, 46, (bool (x343.1 != 0))), (15, 47, undef), (16, 48, undef), (17, 49, undef), (18, 50, undef), (19, 51, undef), (20, 52, (bool false))])) (L2 := [emp, (box b35 139 [(pt b50 0)]), (box b50 192 [sv366]), (own sv366 196 7 l7.length (fl enc_Omap_pair__int64__api_Entry l7)), (own sv377 65 6 x342.length (fl enc_Api_Entry x342)), A]) [1, 2, 3, 5, 0, 4] [4, 0, 1, 2, 5, 3] rfl rfl (wanted_none rfl) (fun a => (hasA_cons (k := 11) rfl d11 (hasA_cons (k := 0) rfl d0 hasA_base))) (by simp only [hi, sel]) (by decide) rfl (ot_call (Lr := [emp, (own sv377 65 6 x342.length (fl enc_Api_Entry x342))]) (first := []) (cap := []) (xs := [.tmp 32, .tmp 43]) rfl rfl F_call_25 rfl (catalog_Catalog_Apply_ORR.spec K b35 b50 sv366 (((l0.getD i66.toNat z_Ossuarylaw20_Act).Drop).v) A (((l0.getD i66.toNat z_Ossuarylaw20_Act).Put).v) l7 (((l0.getD i66.toNat z_Ossuarylaw20_Act).Drop).xs) (((l0.getD i66.toNat z_Ossuarylaw20_Act).Put).xs) ((hJ0 _ (getD_mem_ z_Ossuarylaw20_Act (ix_lt c583 c579))).1) ((hJ0 _ (getD_mem_ z_Ossuarylaw20_Act (ix_lt c583 c579))).2) _ h325) rfl) (by decide) rfl rfl ?_
           rintro _ _ ⟨_, ⟨g0_, g1_, rfl, rfl⟩, rfl⟩
           exact ⟨(upb (upb ga177 12 (pt g0_ 0)) 1012 g1_), show some [emp, (box b35 139 [(pt (blk (pt g0_ 0)) 0)]), (box (blk (pt g0_ 0)) 192 [g1_]), (own g1_ 196 7 x343.2.length (fl enc_Omap_pair__int64__api_Entry x343.2)), (own sv377 65 6 x342.length (fl enc_Api_Entry x342)), A] = _ by simp [up, upb, sel, hi], (tr_same rfl rfl (tr_same rfl rfl (tr_same rfl rfl (tr_same rfl rfl (tr_same rfl rfl (tr_same rfl rfl (tr_same rfl rfl (tr_same rfl rfl (tr_same rfl rfl (tr_same rfl rfl (tr_same rfl rfl (tr_same rfl rfl (tr_this (tr_same rfl rfl (tr_same rfl rfl (tr_same rfl rfl (tr_same rfl rfl (tr_same rfl rfl (tr_same rfl rfl (tr_same rfl rfl (tr_same rfl rfl tr_nil)))))))))))))))))))))⟩
          ·intro done hi hc hcu
           refine draw_exi (I := Z192_I) fun ga177 => ?_
           have d12 : done 12 = true := done_of (j := 12) hcu rfl (by decide) rfl
           exact draw_value (i := 13) (t := 45) (v := (bool (x343.1 != 0))) rfl rfl (wanted_none rfl) (fun a => (hasA_cons (k := 12) rfl d12 hasA_base)) (ov_bin rfl rfl (b_neq _ _ _)) rfl rfl (onlyT_spec (k0 := 13) rfl rfl rfl)
          ·intro done hi hc hcu
           refine draw_exi (I := Z192_I) fun ga177 => ?_
           have d13 : done 13 = true := done_of (j := 13) hcu rfl (by decide) rfl
           exact draw_value (i := 14) (t := 46) (v := (bool (x343.1 != 0))) rfl rfl (wanted_none rfl) (fun a => (hasA_cons (k := 13) rfl d13 hasA_base)) (ov_move rfl) rfl rfl (onlyT_spec (k0 := 14) rfl rfl rfl)
          ·intro done hi hc hcu
           refine draw_exi (I := Z192_I) fun ga177 => ?_
           have d14 : done 14 = true := done_of (j := 14) hcu rfl (by decide) rfl
           exact draw_off (i := 15) (t := 47) rfl rfl (wanted_off rfl rfl rfl (ne_f c584)) (fun a => (hasA_cons (k := 14) rfl d14 hasA_base)) rfl rfl (onlyT_spec (k0 := 15) rfl rfl rfl)
          ·intro done hi hc hcu
           refine draw_exi (I := Z192_I) fun ga177 => ?_
           have d14 : done 14 = true := done_of (j := 14) hcu rfl (by decide) rfl
           exact draw_off (i := 16) (t := 48) rfl rfl (wanted_off rfl rfl rfl (ne_f c584)) (fun a => (hasA_cons (k := 14) rfl d14 hasA_base)) rfl rfl (onlyT_spec (k0 := 16) rfl rfl rfl)
          ·intro done hi hc hcu
           refine draw_exi (I := Z192_I) fun ga177 => ?_
           have d14 : done 14 = true := done_of (j := 14) hcu rfl (by decide) rfl
           exact draw_off (i := 17) (t := 49) rfl rfl (wanted_off rfl rfl rfl (ne_f c584)) (fun a => (hasA_cons (k := 14) rfl d14 hasA_base)) rfl rfl (onlyT_spec (k0 := 17) rfl rfl rfl)
          ·intro done hi hc hcu
           refine draw_exi (I := Z192_I) fun ga177 => ?_
           have d14 : done 14 = true := done_of (j := 14) hcu rfl (by decide) rfl
           exact draw_off (i := 18) (t := 50) rfl rfl (wanted_off rfl rfl rfl (ne_f c584)) (fun a => (hasA_cons (k := 14) rfl d14 hasA_base)) rfl rfl (onlyT_spec (k0 := 18) rfl rfl rfl)
          ·intro done hi hc hcu
           refine draw_exi (I := Z192_I) fun ga177 => ?_
           have d14 : done 14 = true := done_of (j := 14) hcu rfl (by decide) rfl
           exact draw_off (i := 19) (t := 51) rfl rfl (wanted_off rfl rfl rfl (ne_f c584)) (fun a => (hasA_cons (k := 14) rfl d14 hasA_base)) rfl rfl (onlyT_spec (k0 := 19) rfl rfl rfl)
          ·intro done hi hc hcu
           refine draw_exi (I := Z192_I) fun ga177 => ?_
           have d14 : done 14 = true := done_of (j := 14) hcu rfl (by decide) rfl
           have d19 : done 19 = true := done_of (j := 19) hcu rfl (by decide) rfl
           exact draw_value (i := 20) (t := 52) (v := (bool false)) rfl rfl (wanted_none rfl) (fun a => (hasA_cons (k := 19) rfl d19 (hasA_cons (k := 14) rfl d14 hasA_base))) (ov_pick rfl rfl rfl (pick_f (ne_f c584))) rfl rfl (onlyT_spec (k0 := 20) rfl rfl rfl)
         ·intro done hall
          refine ent_exi (S := fun ga177 => Z192_I ga177 done) fun ga177 => ?_
          refine draw_endL [emp, (box b35 139 [(pt (blk (ga177 12)) 0)]), (box (blk (ga177 12)) 192 [(ga177 1012)]), (own (ga177 1012) 196 7 x343.2.length (fl enc_Omap_pair__int64__api_Entry x343.2)), (own sv377 65 6 x342.length (fl enc_Api_Entry x342)), A] (by simp only [hall 12 (by decide), sel]) (fun a => (hasA_cons (k := 0) rfl (hall 0 (by decide)) (hasA_cons (k := 1) rfl (hall 1 (by decide)) (hasA_cons (k := 2) rfl (hall 2 (by decide)) (hasA_cons (k := 3) rfl (hall 3 (by decide)) (hasA_cons (k := 4) rfl (hall 4 (by decide)) (hasA_cons (k := 5) rfl (hall 5 (by decide)) (hasA_cons (k := 6) rfl (hall 6 (by decide)) (hasA_cons (k := 7) rfl (hall 7 (by decide)) (hasA_cons (k := 8) rfl (hall 8 (by decide)) (hasA_cons (k := 9) rfl (hall 9 (by decide)) (hasA_cons (k := 10) rfl (hall 10 (by decide)) (hasA_cons (k := 11) rfl (hall 11 (by decide)) (hasA_cons (k := 12) rfl (hall 12 (by decide)) (hasA_cons (k := 13) rfl (hall 13 (by decide)) (hasA_cons (k := 14) rfl (hall 14 (by decide)) (hasA_cons (k := 15) rfl (hall 15 (by decide)) (hasA_cons (k := 16) rfl (hall 16 (by decide)) (hasA_cons (k := 17) rfl (hall 17 (by decide)) (hasA_cons (k := 18) rfl (hall 18 (by decide)) (hasA_cons (k := 19) rfl (hall 19 (by decide)) (hasA_cons (k := 20) rfl (hall 20 (by decide)) hasA_base)))))))))))))))))))))) ?_
          refine ent_cond_false rfl rfl ?_
          refine ent_skip ?_
          refine ent_region ?_
          refine ent_value (ov_move rfl) rfl rfl rfl ?_
          refine ent_value (ov_bin rfl rfl (b_add _ _ _) ) rfl rfl rfl ?_
          refine ent_value (ov_assign rfl) rfl rfl rfl ?_
          refine ent_nil ?_
          exact ent_fin [5, 1, 2, 3] (by decide) rfl (sub_cons (t := 0) rfl (sub_cons (t := 1) rfl (sub_cons (t := 5) rfl (sub_cons (t := 6) rfl (sub_nil _))))) fun a w h => ⟨k, Nat.lt_succ_self k, _, _, _, _, H75, h⟩
       ·rw [if_neg c583] at H75
        cases H75
      ·rw [if_neg c579] at H75
       refine ent_cond_false rfl (decide_eq_false c579) ?_
       refine ent_exit ?_
       cases H75
       exact ent_fin [0, 1, 2, 3] (by decide) rfl (sub_cons (t := 1) rfl (sub_cons (t := 5) rfl (sub_nil _))) fun a w h => ⟨_, rfl, _, _, h⟩
   ·refine ent_exi fun v8 => ent_and fun e_ => ?_
    subst e_
    rw [cas_inl] at H
    refine ent_exi fun b46 => ent_exi fun sv358 => ?_
    refine ent_seq ?_
    refine ent_region ?_
    refine ent_value (ov_move rfl) rfl rfl rfl ?_
    obtain ⟨x346, h328, H⟩ := Option.bind_eq_some_iff.1 H
    refine ent_pick [1, 2, 3, 0] (by decide) rfl ?_
    refine ent_op (ot_call (Lr := [A]) (first := []) (cap := []) (xs := [.tmp 53]) rfl rfl F_call_24 rfl (ossuarylaw20_Back_O.spec K b35 b46 sv358 v8 _ h328) rfl) rfl rfl rfl ?_
    rintro sv380 _ ⟨_, ⟨_, rfl, rfl⟩, rfl⟩
    refine ent_value (ov_assign rfl) rfl rfl rfl ?_
    refine ent_nil ?_
    refine ent_seq ?_
    refine ent_seq ?_
    refine ent_region ?_
    refine ent_value (ov_assign rfl) rfl rfl rfl ?_
    refine ent_nil ?_
    refine ent_block ?_
    refine ent_loop (fun k a w => ∃ i108, ossuarylaw20_CatalogOnce_l1 K l1 v8 x346 k i108 = some r ∧ St 117 w0 F [(1, s1), (5, (pt b35 0)), (8, sv380), (9, (int .i64 i108))] [A, (box b35 139 [(pt b46 0)]), (box b46 192 [sv358]), (own sv358 196 7 v8.length (fl enc_Omap_pair__int64__api_Entry v8)), (own sv380 65 6 x346.length (fl enc_Api_Entry x346))] a w) K ?_ ?_
    ·exact ent_fin [4, 0, 1, 2, 3] (by decide) rfl (sub_cons (t := 1) rfl (sub_cons (t := 5) rfl (sub_cons (t := 8) rfl (sub_cons (t := 9) rfl (sub_nil _))))) fun a w h => ⟨_, H, h⟩
    ·refine fun k => ent_exi fun i108 => ent_and fun H133 => ?_
     cases k with
     | zero => exact absurd H133 (by simp [ossuarylaw20_CatalogOnce_l1])
     | succ k =>
      rw [ossuarylaw20_CatalogOnce_l1] at H133
      refine ent_seq ?_
      refine ent_seq ?_
      refine ent_region ?_
      refine ent_value (ov_move rfl) rfl rfl rfl ?_
      refine ent_value (ov_move rfl) rfl rfl rfl ?_
      refine ent_value (ov_len 0 rfl F_slice_25 rfl hA1) rfl rfl rfl ?_
      refine ent_value (ov_bin rfl rfl (b_lss _ _ _)) rfl rfl rfl ?_
      refine ent_nil ?_
      by_cases c989 : i108 < (l1.length : Int)
      ·rw [if_pos c989] at H133
       refine ent_cond_true rfl (decide_eq_true c989) ?_
       refine ent_skip ?_
       obtain ⟨x550, H137, H133⟩ := Option.bind_eq_some_iff.1 H133
       refine ent_seq_cut (fun a w => ∃ v14, x550 = Sum.inl v14 ∧ St 117 w0 F [(1, s1), (5, (pt b35 0)), (8, sv380), (9, (int .i64 i108))] [A, (box b35 139 [(pt b46 0)]), (box b46 192 [sv358]), (own sv358 196 7 v8.length (fl enc_Omap_pair__int64__api_Entry v8)), (own sv380 65 6 x346.length (fl enc_Api_Entry x346))] a w) ?_ ?_
       ·refine ent_block ?_
        refine ent_seq ?_
        refine ent_seq ?_
        refine ent_region ?_
        refine ent_value (ov_move rfl) rfl rfl rfl ?_
        refine ent_value (ov_move rfl) rfl rfl rfl ?_
        by_cases c1033 : 0 ≤ i108
        ·rw [if_pos c1033] at H137
         refine ent_value (ov_indexAddr (sz := 0) 0 rfl rfl F_slice_25 F_size_2 rfl hA1 c1033 c989) rfl rfl rfl ?_
         refine ent_value (ov_load (v := (int .i64 (l1.getD i108.toNat 0))) rfl F_agg_2 (reads_rd (i := 0) rfl hA1 (by simp) (fl_read0 (eI_len _) (ix_lt c1033 c989) rfl))) rfl rfl rfl ?_
         refine ent_value (ov_bin rfl rfl (b_lss _ _ _)) rfl rfl rfl ?_
         refine ent_value (ov_move rfl) rfl rfl rfl ?_
         by_cases c1034 : (l1.getD i108.toNat 0) < 0
         ·rw [if_pos c1034] at H137
          refine ent_off rfl rfl rfl (decide_eq_true c1034) rfl rfl ?_
          refine ent_off rfl rfl rfl (decide_eq_true c1034) rfl rfl ?_
          refine ent_off rfl rfl rfl (decide_eq_true c1034) rfl rfl ?_
          refine ent_off rfl rfl rfl (decide_eq_true c1034) rfl rfl ?_
          refine ent_off rfl rfl rfl (decide_eq_true c1034) rfl rfl ?_
          refine ent_value (ov_pick rfl rfl rfl (pick_t (decide_eq_true c1034))) rfl rfl rfl ?_
          refine ent_nil ?_
          refine ent_cond_true rfl rfl ?_
          refine ent_seq ?_
          refine ent_region ?_
          obtain ⟨x553, h518, H137⟩ := Option.bind_eq_some_iff.1 H137
          refine ent_op (ot_call0 (first := []) (cap := []) (xs := []) rfl rfl F_call_22 rfl (ossuarylaw20_alive.spec K _ h518)) rfl rfl rfl ?_
          rintro _ _ ⟨rfl, rfl⟩
          refine ent_value (ov_assign rfl) rfl rfl rfl ?_
          refine ent_nil ?_
          refine ent_retc ?_
          cases H137
          have H138 := Option.some.inj (show some _ = some _ from H133)
          cases H138
          refine ent_pick [0] (by decide) rfl ?_
          exact ret_tmp rfl rfl ⟨rfl, rfl⟩
         ·rw [if_neg c1034] at H137
          refine ent_value_on (ov_move rfl) rfl rfl rfl (decide_eq_false c1034) rfl rfl ?_
          refine ent_value_on (ov_move rfl) rfl rfl rfl (decide_eq_false c1034) rfl rfl ?_
          refine ent_value_on (ov_indexAddr (sz := 0) 0 rfl rfl F_slice_25 F_size_2 rfl hA1 c1033 c989) rfl rfl rfl (decide_eq_false c1034) rfl rfl ?_
          refine ent_value_on (ov_load (v := (int .i64 (l1.getD i108.toNat 0))) rfl F_agg_2 (reads_rd (i := 0) rfl hA1 (by simp) (fl_read0 (eI_len _) (ix_lt c1033 c989) rfl))) rfl rfl rfl (decide_eq_false c1034) rfl rfl ?_
          refine ent_value_on (ov_bin rfl rfl (b_gtr _ _ _)) rfl rfl rfl (decide_eq_false c1034) rfl rfl ?_
          refine ent_value (ov_pick rfl rfl rfl (pick_f (decide_eq_false c1034))) rfl rfl rfl ?_
          refine ent_nil ?_
          by_cases c1035 : 1099511627776 < (l1.getD i108.toNat 0)
          ·rw [if_pos c1035] at H137
           refine ent_cond_true rfl (decide_eq_true c1035) ?_
           refine ent_seq ?_
           refine ent_region ?_
           obtain ⟨x554, h519, H137⟩ := Option.bind_eq_some_iff.1 H137
           refine ent_op (ot_call0 (first := []) (cap := []) (xs := []) rfl rfl F_call_22 rfl (ossuarylaw20_alive.spec K _ h519)) rfl rfl rfl ?_
           rintro _ _ ⟨rfl, rfl⟩
           refine ent_value (ov_assign rfl) rfl rfl rfl ?_
           refine ent_nil ?_
           refine ent_retc ?_
           cases H137
           have H139 := Option.some.inj (show some _ = some _ from H133)
           cases H139
           refine ent_pick [0] (by decide) rfl ?_
           exact ret_tmp rfl rfl ⟨rfl, rfl⟩
          ·rw [if_neg c1035] at H137
           refine ent_cond_false rfl (decide_eq_false c1035) ?_
           refine ent_skip ?_
           refine ent_seq ?_
           refine ent_region ?_
           refine ent_value (ov_assign rfl) rfl rfl rfl ?_
           refine ent_nil ?_
           obtain ⟨x561, H141, H137⟩ := Option.bind_eq_some_iff.1 H137
           refine ent_seq_cut (fun a w => St 117 w0 F [(1, s1), (5, (pt b35 0)), (8, sv380), (9, (int .i64 i108)), (10, (int .i64 x561))] [A, (box b35 139 [(pt b46 0)]), (box b46 192 [sv358]), (own sv358 196 7 v8.length (fl enc_Omap_pair__int64__api_Entry v8)), (own sv380 65 6 x346.length (fl enc_Api_Entry x346))] a w) ?_ ?_
           ·refine ent_seq ?_
            refine ent_region ?_
            refine ent_value (ov_assign rfl) rfl rfl rfl ?_
            refine ent_nil ?_
            refine ent_block ?_
            refine ent_loop (fun k a w => ∃ i127, ∃ i128, ossuarylaw20_CatalogOnce_l2 K l1 x346 i108 k i127 i128 = some x561 ∧ St 117 w0 F [(1, s1), (5, (pt b35 0)), (8, sv380), (9, (int .i64 i108)), (10, (int .i64 i127)), (11, (int .i64 i128))] [A, (box b35 139 [(pt b46 0)]), (box b46 192 [sv358]), (own sv358 196 7 v8.length (fl enc_Omap_pair__int64__api_Entry v8)), (own sv380 65 6 x346.length (fl enc_Api_Entry x346))] a w) K ?_ ?_
            ·exact ent_fin [0, 1, 2, 3, 4] (by decide) rfl (sub_cons (t := 1) rfl (sub_cons (t := 5) rfl (sub_cons (t := 8) rfl (sub_cons (t := 9) rfl (sub_cons (t := 10) rfl (sub_cons (t := 11) rfl (sub_nil _))))))) fun a w h => ⟨_, _, H141, h⟩
            ·refine fun k => ent_exi fun i127 => ent_exi fun i128 => ent_and fun H142 => ?_
             cases k with
             | zero => exact absurd H142 (by simp [ossuarylaw20_CatalogOnce_l2])
             | succ k =>
              rw [ossuarylaw20_CatalogOnce_l2] at H142
              refine ent_seq ?_
              refine ent_seq ?_
              refine ent_region ?_
              refine ent_value (ov_move rfl) rfl rfl rfl ?_
              refine ent_value (ov_move rfl) rfl rfl rfl ?_
              refine ent_value (ov_len 4 rfl F_slice_53 rfl (isRd_ownx 65)) rfl rfl rfl ?_
              refine ent_value (ov_bin rfl rfl (b_lss _ _ _)) rfl rfl rfl ?_
              refine ent_nil ?_
              by_cases c1063 : i128 < (x346.length : Int)
              ·rw [if_pos c1063] at H142
               refine ent_cond_true rfl (decide_eq_true c1063) ?_
               refine ent_skip ?_
               refine ent_seq ?_
               refine ent_block ?_
               refine ent_seq ?_
               by_cases c1066 : 0 ≤ i128
               ·rw [if_pos c1066] at H142
                obtain ⟨x567, h531, H142⟩ := Option.bind_eq_some_iff.1 H142
                let Z336_I : (Nat → Value) → (Nat → Bool) → Act → World → Prop := fun (ga321 : Nat → Value) done a w => StD 117 w0 F [(1, s1), (5, (pt b35 0)), (8, sv380), (9, (int .i64 i108)), (10, (int .i64 i127)), (11, (int .i64 i128)), (74, (int .i64 i128)), (75, sv380), (76, (int .i64 (x346.length : Int))), (77, (bool (decide (i128 < (x346.length : Int)))))] [(0, 80, sv380), (1, 81, (int .i64 i128)), (2, 82, (eptr sv380 (i128.toNat * 6))), (3, 83, (agg #[(int .i64 (((x346.getD i128.toNat z_Api_Entry).Part).Tier)), (int .i64 (((x346.getD i128.toNat z_Api_Entry).Part).Index)), (int .i64 ((x346.getD i128.toNat z_Api_Entry).Seg)), (int .i64 ((x346.getD i128.toNat z_Api_Entry).Mark)), (int .i64 ((x346.getD i128.toNat z_Api_Entry).Rows)), (bool ((x346.getD i128.toNat z_Api_Entry).Cold))])), (4, 84, (ga321 4)), (5, 85, s1), (6, 86, (int .i64 i108)), (7, 87, (eptr s1 (i108.toNat * 1))), (8, 88, (int .i64 (l1.getD i108.toNat 0))), (9, 89, s1), (10, 90, (int .i64 i108)), (11, 91, (eptr s1 (i108.toNat * 1))), (12, 92, (int .i64 (l1.getD i108.toNat 0))), (13, 93, (int .i64 (w64 ((l1.getD i108.toNat 0) + 1)))), (14, 94, (ga321 14)), (15, 95, (int .i64 (x567.length : Int))), (16, 96, (bool ((x567.length : Int) == 1)))] done [(sel (done 14) (own (ga321 14) 65 6 x567.length (fl enc_Api_Entry x567)) emp), (sel (done 4) (own (ga321 4) 65 6 [(⟨(⟨((x346.getD i128.toNat z_Api_Entry).Part).Tier, ((x346.getD i128.toNat z_Api_Entry).Part).Index⟩ : Api_Part), (x346.getD i128.toNat z_Api_Entry).Seg, (x346.getD i128.toNat z_Api_Entry).Mark, (x346.getD i128.toNat z_Api_Entry).Rows, (x346.getD i128.toNat z_Api_Entry).Cold⟩ : Api_Entry)].length (fl enc_Api_Entry [(⟨(⟨((x346.getD i128.toNat z_Api_Entry).Part).Tier, ((x346.getD i128.toNat z_Api_Entry).Part).Index⟩ : Api_Part), (x346.getD i128.toNat z_Api_Entry).Seg, (x346.getD i128.toNat z_Api_Entry).Mark, (x346.getD i128.toNat z_Api_Entry).Rows, (x346.getD i128.toNat z_Api_Entry).Cold⟩ : Api_Entry)])) emp), A, (box b35 139 [(pt b46 0)]), (box b46 192 [sv358]), (own sv358 196 7 v8.length (fl enc_Omap_pair__int64__api_Entry v8)), (own sv380 65 6 x346.length (fl enc_Api_Entry x346))] a w
                refine ent_drawm 17 rfl (fun done a w => ∃ ga321 : Nat → Value, Z336_I ga321 done a w) (by kernel_rfl) (by kernel_rfl) (draw_startG (T := (fun ga321 : Nat → Value => [(0, 80, sv380), (1, 81, (int .i64 i128)), (2, 82, (eptr sv380 (i128.toNat * 6))), (3, 83, (agg #[(int .i64 (((x346.getD i128.toNat z_Api_Entry).Part).Tier)), (int .i64 (((x346.getD i128.toNat z_Api_Entry).Part).Index)), (int .i64 ((x346.getD i128.toNat z_Api_Entry).Seg)), (int .i64 ((x346.getD i128.toNat z_Api_Entry).Mark)), (int .i64 ((x346.getD i128.toNat z_Api_Entry).Rows)), (bool ((x346.getD i128.toNat z_Api_Entry).Cold))])), (4, 84, (ga321 4)), (5, 85, s1), (6, 86, (int .i64 i108)), (7, 87, (eptr s1 (i108.toNat * 1))), (8, 88, (int .i64 (l1.getD i108.toNat 0))), (9, 89, s1), (10, 90, (int .i64 i108)), (11, 91, (eptr s1 (i108.toNat * 1))), (12, 92, (int .i64 (l1.getD i108.toNat 0))), (13, 93, (int .i64 (w64 ((l1.getD i108.toNat 0) + 1)))), (14, 94, (ga321 14)), (15, 95, (int .i64 (x567.length : Int))), (16, 96, (bool ((x567.length : Int) == 1)))])) (L' := fun ga321 : Nat → Value => [(sel false (own (ga321 14) 65 6 x567.length (fl enc_Api_Entry x567)) emp), (sel false (own (ga321 4) 65 6 [(⟨(⟨((x346.getD i128.toNat z_Api_Entry).Part).Tier, ((x346.getD i128.toNat z_Api_Entry).Part).Index⟩ : Api_Part), (x346.getD i128.toNat z_Api_Entry).Seg, (x346.getD i128.toNat z_Api_Entry).Mark, (x346.getD i128.toNat z_Api_Entry).Rows, (x346.getD i128.toNat z_Api_Entry).Cold⟩ : Api_Entry)].length (fl enc_Api_Entry [(⟨(⟨((x346.getD i128.toNat z_Api_Entry).Part).Tier, ((x346.getD i128.toNat z_Api_Entry).Part).Index⟩ : Api_Part), (x346.getD i128.toNat z_Api_Entry).Seg, (x346.getD i128.toNat z_Api_Entry).Mark, (x346.getD i128.toNat z_Api_Entry).Rows, (x346.getD i128.toNat z_Api_Entry).Cold⟩ : Api_Entry)])) emp), A, (box b35 139 [(pt b46 0)]), (box b46 192 [sv358]), (own sv358 196 7 v8.length (fl enc_Omap_pair__int64__api_Entry v8)), (own sv380 65 6 x346.length (fl enc_Api_Entry x346))]) 2 (sub_cons (t := 1) rfl (sub_cons (t := 5) rfl (sub_cons (t := 8) rfl (sub_cons (t := 9) rfl (sub_cons (t := 10) rfl (sub_cons (t := 11) rfl (sub_cons (t := 74) rfl (sub_cons (t := 75) rfl (sub_cons (t := 76) rfl (sub_cons (t := 77) rfl (sub_nil _))))))))))) (fun _ => rfl)) ?_ ?_
                ·refine ⟨?_, ?_, ?_, ?_, ?_, ?_, ?_, ?_, ?_, ?_, ?_, ?_, ?_, ?_, ?_, ?_, ?_, trivial⟩
                 ·intro done hi hc hcu
                  refine draw_exi (I := Z336_I) fun ga321 => ?_
                  exact draw_value (i := 0) (t := 80) (v := sv380) rfl rfl (wanted_none rfl) (fun a => hasA_base) (ov_move rfl) rfl rfl (onlyT_spec (k0 := 0) rfl rfl rfl)
                 ·intro done hi hc hcu
                  refine draw_exi (I := Z336_I) fun ga321 => ?_
                  exact draw_value (i := 1) (t := 81) (v := (int .i64 i128)) rfl rfl (wanted_none rfl) (fun a => hasA_base) (ov_move rfl) rfl rfl (onlyT_spec (k0 := 1) rfl rfl rfl)
                 ·intro done hi hc hcu
                  refine draw_exi (I := Z336_I) fun ga321 => ?_
                  have d0 : done 0 = true := done_of (j := 0) hcu rfl (by decide) rfl
                  have d1 : done 1 = true := done_of (j := 1) hcu rfl (by decide) rfl
                  exact draw_value (i := 2) (t := 82) (v := (eptr sv380 (i128.toNat * 6))) rfl rfl (wanted_none rfl) (fun a => (hasA_cons (k := 1) rfl d1 (hasA_cons (k := 0) rfl d0 hasA_base))) (ov_indexAddr (sz := 5) 6 rfl rfl F_slice_53 F_size_65 rfl (isRd_ownx 65) c1066 c1063) rfl rfl (onlyT_spec (k0 := 2) rfl rfl rfl)
                 ·intro done hi hc hcu
                  refine draw_exi (I := Z336_I) fun ga321 => ?_
                  have d2 : done 2 = true := done_of (j := 2) hcu rfl (by decide) rfl
                  exact draw_value (i := 3) (t := 83) (v := (agg #[(int .i64 (((x346.getD i128.toNat z_Api_Entry).Part).Tier)), (int .i64 (((x346.getD i128.toNat z_Api_Entry).Part).Index)), (int .i64 ((x346.getD i128.toNat z_Api_Entry).Seg)), (int .i64 ((x346.getD i128.toNat z_Api_Entry).Mark)), (int .i64 ((x346.getD i128.toNat z_Api_Entry).Rows)), (bool ((x346.getD i128.toNat z_Api_Entry).Cold))])) rfl rfl (wanted_none rfl) (fun a => (hasA_cons (k := 2) rfl d2 hasA_base)) (ov_load_agg (vs := [(int .i64 (((x346.getD i128.toNat z_Api_Entry).Part).Tier)), (int .i64 (((x346.getD i128.toNat z_Api_Entry).Part).Index)), (int .i64 ((x346.getD i128.toNat z_Api_Entry).Seg)), (int .i64 ((x346.getD i128.toNat z_Api_Entry).Mark)), (int .i64 ((x346.getD i128.toNat z_Api_Entry).Rows)), (bool ((x346.getD i128.toNat z_Api_Entry).Cold))]) rfl F_agg_65 F_size_65 (reads_rd (i := 6) rfl (isRd_ownx 65) (by simp) (fl_read0 enc_Api_Entry_len (ix_lt c1066 c1063) rfl))) rfl rfl (onlyT_spec (k0 := 3) rfl rfl rfl)
                 ·intro done hi hc hcu
                  refine ent_exi (S := fun ga321 => Z336_I ga321 done) fun ga321 => ?_
                  have d3 : done 3 = true := done_of (j := 3) hcu rfl (by decide) rfl
                  refine draw_newV (i := 4) (t := 84) (x := ga321) (L := (fun (ga321 : Nat → Value) (done : Nat → Bool) => [(sel (done 14) (own (ga321 14) 65 6 x567.length (fl enc_Api_Entry x567)) emp), (sel (done 4) (own (ga321 4) 65 6 [(⟨(⟨((x346.getD i128.toNat z_Api_Entry).Part).Tier, ((x346.getD i128.toNat z_Api_Entry).Part).Index⟩ : Api_Part), (x346.getD i128.toNat z_Api_Entry).Seg, (x346.getD i128.toNat z_Api_Entry).Mark, (x346.getD i128.toNat z_Api_Entry).Rows, (x346.getD i128.toNat z_Api_Entry).Cold⟩ : Api_Entry)].length (fl enc_Api_Entry [(⟨(⟨((x346.getD i128.toNat z_Api_Entry).Part).Tier, ((x346.getD i128.toNat z_Api_Entry).Part).Index⟩ : Api_Part), (x346.getD i128.toNat z_Api_Entry).Seg, (x346.getD i128.toNat z_Api_Entry).Mark, (x346.getD i128.toNat z_Api_Entry).Rows, (x346.getD i128.toNat z_Api_Entry).Cold⟩ : Api_Entry)])) emp), A, (box b35 139 [(pt b46 0)]), (box b46 192 [sv358]), (own sv358 196 7 v8.length (fl enc_Omap_pair__int64__api_Entry v8)), (own sv380 65 6 x346.length (fl enc_Api_Entry x346))])) (T := (fun ga321 : Nat → Value => [(0, 80, sv380), (1, 81, (int .i64 i128)), (2, 82, (eptr sv380 (i128.toNat * 6))), (3, 83, (agg #[(int .i64 (((x346.getD i128.toNat z_Api_Entry).Part).Tier)), (int .i64 (((x346.getD i128.toNat z_Api_Entry).Part).Index)), (int .i64 ((x346.getD i128.toNat z_Api_Entry).Seg)), (int .i64 ((x346.getD i128.toNat z_Api_Entry).Mark)), (int .i64 ((x346.getD i128.toNat z_Api_Entry).Rows)), (bool ((x346.getD i128.toNat z_Api_Entry).Cold))])), (4, 84, (ga321 4)), (5, 85, s1), (6, 86, (int .i64 i108)), (7, 87, (eptr s1 (i108.toNat * 1))), (8, 88, (int .i64 (l1.getD i108.toNat 0))), (9, 89, s1), (10, 90, (int .i64 i108)), (11, 91, (eptr s1 (i108.toNat * 1))), (12, 92, (int .i64 (l1.getD i108.toNat 0))), (13, 93, (int .i64 (w64 ((l1.getD i108.toNat 0) + 1)))), (14, 94, (ga321 14)), (15, 95, (int .i64 (x567.length : Int))), (16, 96, (bool ((x567.length : Int) == 1)))])) (L2 := [(sel (done 14) (own (ga321 14) 65 6 x567.length (fl enc_Api_Entry x567)) emp), emp, A, (box b35 139 [(pt b46 0)]), (box b46 192 [sv358]), (own sv358 196 7 v8.length (fl enc_Omap_pair__int64__api_Entry v8)), (own sv380 65 6 x346.length (fl enc_Api_Entry x346))]) (B := fun v_ => (own v_ 65 6 [(⟨(⟨((x346.getD i128.toNat z_Api_Entry).Part).Tier, ((x346.getD i128.toNat z_Api_Entry).Part).Index⟩ : Api_Part), (x346.getD i128.toNat z_Api_Entry).Seg, (x346.getD i128.toNat z_Api_Entry).Mark, (x346.getD i128.toNat z_Api_Entry).Rows, (x346.getD i128.toNat z_Api_Entry).Cold⟩ : Api_Entry)].length (fl enc_Api_Entry [(⟨(⟨((x346.getD i128.toNat z_Api_Entry).Part).Tier, ((x346.getD i128.toNat z_Api_Entry).Part).Index⟩ : Api_Part), (x346.getD i128.toNat z_Api_Entry).Seg, (x346.getD i128.toNat z_Api_Entry).Mark, (x346.getD i128.toNat z_Api_Entry).Rows, (x346.getD i128.toNat z_Api_Entry).Cold⟩ : Api_Entry)]))) 1 rfl rfl (wanted_none rfl) (fun a => (hasA_cons (k := 3) rfl d3 hasA_base)) (by simp only [hi, sel]) (ot_buildSlice (sz := 5) (xs := [.tmp 83]) (cs := fl enc_Api_Entry [(⟨(⟨((x346.getD i128.toNat z_Api_Entry).Part).Tier, ((x346.getD i128.toNat z_Api_Entry).Part).Index⟩ : Api_Part), (x346.getD i128.toNat z_Api_Entry).Seg, (x346.getD i128.toNat z_Api_Entry).Mark, (x346.getD i128.toNat z_Api_Entry).Rows, (x346.getD i128.toNat z_Api_Entry).Cold⟩ : Api_Entry)]) rfl rfl F_slice_53 F_size_65 F_zero_65 rfl rfl (all_size rfl) rfl (by decide)) ?_ rfl (fun v_ => ?_) rfl rfl ?_
                  ·rintro _ _ rfl; rfl
                  ·simp [up, upb, sel, hi]
                  ·rintro _ _ rfl
                   exact (tr_same rfl rfl (tr_same rfl rfl (tr_same rfl rfl (tr_same rfl rfl (tr_this (tr_same rfl rfl (tr_same rfl rfl (tr_same rfl rfl (tr_same rfl rfl (tr_same rfl rfl (tr_same rfl rfl (tr_same rfl rfl (tr_same rfl rfl (tr_same rfl rfl (tr_same rfl rfl (tr_same rfl rfl (tr_same rfl rfl tr_nil)))))))))))))))))
                 ·intro done hi hc hcu
                  refine draw_exi (I := Z336_I) fun ga321 => ?_
                  exact draw_value (i := 5) (t := 85) (v := s1) rfl rfl (wanted_none rfl) (fun a => hasA_base) (ov_move rfl) rfl rfl (onlyT_spec (k0 := 5) rfl rfl rfl)
                 ·intro done hi hc hcu
                  refine draw_exi (I := Z336_I) fun ga321 => ?_
                  exact draw_value (i := 6) (t := 86) (v := (int .i64 i108)) rfl rfl (wanted_none rfl) (fun a => hasA_base) (ov_move rfl) rfl rfl (onlyT_spec (k0 := 6) rfl rfl rfl)
                 ·intro done hi hc hcu
                  refine draw_exi (I := Z336_I) fun ga321 => ?_
                  have d5 : done 5 = true := done_of (j := 5) hcu rfl (by decide) rfl
                  have d6 : done 6 = true := done_of (j := 6) hcu rfl (by decide) rfl
                  exact draw_value (i := 7) (t := 87) (v := (eptr s1 (i108.toNat * 1))) rfl rfl (wanted_none rfl) (fun a => (hasA_cons (k := 6) rfl d6 (hasA_cons (k := 5) rfl d5 hasA_base))) (ov_indexAddr (sz := 0) 2 rfl rfl F_slice_25 F_size_2 rfl hA1 c1033 c989) rfl rfl (onlyT_spec (k0 := 7) rfl rfl rfl)
                 ·intro done hi hc hcu
                  refine draw_exi (I := Z336_I) fun ga321 => ?_
                  have d7 : done 7 = true := done_of (j := 7) hcu rfl (by decide) rfl
                  exact draw_value (i := 8) (t := 88) (v := (int .i64 (l1.getD i108.toNat 0))) rfl rfl (wanted_none rfl) (fun a => (hasA_cons (k := 7) rfl d7 hasA_base)) (ov_load (v := (int .i64 (l1.getD i108.toNat 0))) rfl F_agg_2 (reads_rd (i := 2) rfl hA1 (by simp) (fl_read0 (eI_len _) (ix_lt c1033 c989) rfl))) rfl rfl (onlyT_spec (k0 := 8) rfl rfl rfl)
                 ·intro done hi hc hcu
                  refine draw_exi (I := Z336_I) fun ga321 => ?_
                  exact draw_value (i := 9) (t := 89) (v := s1) rfl rfl (wanted_none rfl) (fun a => hasA_base) (ov_move rfl) rfl rfl (onlyT_spec (k0 := 9) rfl rfl rfl)
                 ·intro done hi hc hcu
                  refine draw_exi (I := Z336_I) fun ga321 => ?_
                  exact draw_value (i := 10) (t := 90) (v := (int .i64 i108)) rfl rfl (wanted_none rfl) (fun a => hasA_base) (ov_move rfl) rfl rfl (onlyT_spec (k0 := 10) rfl rfl rfl)
                 ·intro done hi hc hcu
                  refine draw_exi (I := Z336_I) fun ga321 => ?_
                  have d9 : done 9 = true := done_of (j := 9) hcu rfl (by decide) rfl
                  have d10 : done 10 = true := done_of (j := 10) hcu rfl (by decide) rfl
                  exact draw_value (i := 11) (t := 91) (v := (eptr s1 (i108.toNat * 1))) rfl rfl (wanted_none rfl) (fun a => (hasA_cons (k := 10) rfl d10 (hasA_cons (k := 9) rfl d9 hasA_base))) (ov_indexAddr (sz := 0) 2 rfl rfl F_slice_25 F_size_2 rfl hA1 c1033 c989) rfl rfl (onlyT_spec (k0 := 11) rfl rfl rfl)
                 ·intro done hi hc hcu
                  refine draw_exi (I := Z336_I) fun ga321 => ?_
                  have d11 : done 11 = true := done_of (j := 11) hcu rfl (by decide) rfl
                  exact draw_value (i := 12) (t := 92) (v := (int .i64 (l1.getD i108.toNat 0))) rfl rfl (wanted_none rfl) (fun a => (hasA_cons (k := 11) rfl d11 hasA_base)) (ov_load (v := (int .i64 (l1.getD i108.toNat 0))) rfl F_agg_2 (reads_rd (i := 2) rfl hA1 (by simp) (fl_read0 (eI_len _) (ix_lt c1033 c989) rfl))) rfl rfl (onlyT_spec (k0 := 12) rfl rfl rfl)
                 ·intro done hi hc hcu
                  refine draw_exi (I := Z336_I) fun ga321 => ?_
                  have d12 : done 12 = true := done_of (j := 12) hcu rfl (by decide) rfl
                  exact draw_value (i := 13) (t := 93) (v := (int .i64 (w64 ((l1.getD i108.toNat 0) + 1)))) rfl rfl (wanted_none rfl) (fun a => (hasA_cons (k := 12) rfl d12 hasA_base)) (ov_bin rfl rfl (b_add _ _ _) ) rfl rfl (onlyT_spec (k0 := 13) rfl rfl rfl)
                 ·intro done hi hc hcu
                  refine ent_exi (S := fun ga321 => Z336_I ga321 done) fun ga321 => ?_
                  have d4 : done 4 = true := done_of (j := 4) hcu rfl (by decide) rfl
                  have d8 : done 8 = true := done_of (j := 8) hcu rfl (by decide) rfl
                  have d13 : done 13 = true := done_of (j := 13) hcu rfl (by decide) rfl
                  refine draw_turnP (i := 14) (t := 94) (x := ga321) (L := (fun (ga321 : Nat → Value) (done : Nat → Bool) => [(sel (done 14) (own (ga321 14) 65 6 x567.length (fl enc_Api_Entry x567)) emp), (sel (done 4) (own (ga321 4) 65 6 [(⟨(⟨((x346.getD i128.toNat z_Api_Entry).Part).Tier, ((x346.getD i128.toNat z_Api_Entry).Part).Index⟩ : Api_Part), (x346.getD i128.toNat z_Api_Entry).Seg, (x346.getD i128.toNat z_Api_Entry).Mark, (x346.getD i128.toNat z_Api_Entry).Rows, (x346.getD i128.toNat z_Api_Entry).Cold⟩ : Api_Entry)].length (fl enc_Api_Entry [(⟨(⟨((x346.getD i128.toNat z_Api_Entry).Part).Tier, ((x346.getD i128.toNat z_Api_Entry).Part).Index⟩ : Api_Part), (x346.getD i128.toNat z_Api_Entry).Seg, (x346.getD i128.toNat z_Api_Entry).Mark, (x346.getD i128.toNat z_Api_Entry).Rows, (x346.getD i128.toNat z_Api_Entry).Cold⟩ : Api_Entry)])) emp), A, (box b35 139 [(pt b46 0)]), (box b46 192 [sv358]), (own sv358 196 7 v8.length (fl enc_Omap_pair__int64__api_Entry v8)), (own sv380 65 6 x346.length (fl enc_Api_Entry x346))])) (T := (fun ga321 : Nat → Value => [(0, 80, sv380), (1, 81, (int .i64 i128)), (2, 82, (eptr sv380 (i128.toNat * 6))), (3, 83, (agg #[(int .i64 (((x346.getD i128.toNat z_Api_Entry).Part).Tier)), (int .i64 (((x346.getD i128.toNat z_Api_Entry).Part).Index)), (int .i64 ((x346.getD i128.toNat z_Api_Entry).Seg)), (int .i64 ((x346.getD i128.toNat z_Api_Entry).Mark)), (int .i64 ((x346.getD i128.toNat z_Api_Entry).Rows)), (bool ((x346.getD i128.toNat z_Api_Entry).Cold))])), (4, 84, (ga321 4)), (5, 85, s1), (6, 86, (int .i64 i108)), (7, 87, (eptr s1 (i108.toNat * 1))), (8, 88, (int .i64 (l1.getD i108.toNat 0))), (9, 89, s1), (10, 90, (int .i64 i108)), (11, 91, (eptr s1 (i108.toNat * 1))), (12, 92, (int .i64 (l1.getD i108.toNat 0))), (13, 93, (int .i64 (w64 ((l1.getD i108.toNat 0) + 1)))), (14, 94, (ga321 14)), (15, 95, (int .i64 (x567.length : Int))), (16, 96, (bool ((x567.length : Int) == 1)))])) (L2 := [emp, (own (ga321 4) 65 6 [(⟨(⟨((x346.getD i128.toNat z_Api_Entry).Part).Tier, ((x346.getD i128.toNat z_Api_Entry).Part).Index⟩ : Api_Part), (x346.getD i128.toNat z_Api_Entry).Seg, (x346.getD i128.toNat z_Api_Entry).Mark, (x346.getD i128.toNat z_Api_Entry).Rows, (x346.getD i128.toNat z_Api_Entry).Cold⟩ : Api_Entry)].length (fl enc_Api_Entry [(⟨(⟨((x346.getD i128.toNat z_Api_Entry).Part).Tier, ((x346.getD i128.toNat z_Api_Entry).Part).Index⟩ : Api_Part), (x346.getD i128.toNat z_Api_Entry).Seg, (x346.getD i128.toNat z_Api_Entry).Mark, (x346.getD i128.toNat z_Api_Entry).Rows, (x346.getD i128.toNat z_Api_Entry).Cold⟩ : Api_Entry)])), A, (box b35 139 [(pt b46 0)]), (box b46 192 [sv358]), (own sv358 196 7 v8.length (fl enc_Omap_pair__int64__api_Entry v8)), (own sv380 65 6 x346.length (fl enc_Api_Entry x346))]) [1, 0, 2, 3, 4, 5, 6] [1, 0, 3, 4, 5, 6, 7] rfl rfl (wanted_none rfl) (fun a => (hasA_cons (k := 13) rfl d13 (hasA_cons (k := 8) rfl d8 (hasA_cons (k := 4) rfl d4 hasA_base)))) (by simp only [d4, hi, sel]) (by decide) rfl (ot_call (Lr := [emp, A, (box b35 139 [(pt b46 0)]), (box b46 192 [sv358]), (own sv358 196 7 v8.length (fl enc_Omap_pair__int64__api_Entry v8)), (own sv380 65 6 x346.length (fl enc_Api_Entry x346))]) (first := []) (cap := []) (xs := [.tmp 84, .tmp 88, .tmp 93]) rfl rfl F_call_27 rfl (ossuaryref20_Over_R.spec K (ga321 4) (own (ga321 4) 65 6 [(⟨(⟨((x346.getD i128.toNat z_Api_Entry).Part).Tier, ((x346.getD i128.toNat z_Api_Entry).Part).Index⟩ : Api_Part), (x346.getD i128.toNat z_Api_Entry).Seg, (x346.getD i128.toNat z_Api_Entry).Mark, (x346.getD i128.toNat z_Api_Entry).Rows, (x346.getD i128.toNat z_Api_Entry).Cold⟩ : Api_Entry)].length (fl enc_Api_Entry [(⟨(⟨((x346.getD i128.toNat z_Api_Entry).Part).Tier, ((x346.getD i128.toNat z_Api_Entry).Part).Index⟩ : Api_Part), (x346.getD i128.toNat z_Api_Entry).Seg, (x346.getD i128.toNat z_Api_Entry).Mark, (x346.getD i128.toNat z_Api_Entry).Rows, (x346.getD i128.toNat z_Api_Entry).Cold⟩ : Api_Entry)])) [(⟨(⟨((x346.getD i128.toNat z_Api_Entry).Part).Tier, ((x346.getD i128.toNat z_Api_Entry).Part).Index⟩ : Api_Part), (x346.getD i128.toNat z_Api_Entry).Seg, (x346.getD i128.toNat z_Api_Entry).Mark, (x346.getD i128.toNat z_Api_Entry).Rows, (x346.getD i128.toNat z_Api_Entry).Cold⟩ : Api_Entry)] (l1.getD i108.toNat 0) (w64 ((l1.getD i108.toNat 0) + 1)) (isRd_ownx 65) _ h531) rfl) (by decide) rfl rfl ?_
                  rintro g0_ _ ⟨_, ⟨_, rfl, rfl⟩, rfl⟩
                  exact ⟨(upb ga321 14 g0_), show some [(own g0_ 65 6 x567.length (fl enc_Api_Entry x567)), (own (ga321 4) 65 6 [(⟨(⟨((x346.getD i128.toNat z_Api_Entry).Part).Tier, ((x346.getD i128.toNat z_Api_Entry).Part).Index⟩ : Api_Part), (x346.getD i128.toNat z_Api_Entry).Seg, (x346.getD i128.toNat z_Api_Entry).Mark, (x346.getD i128.toNat z_Api_Entry).Rows, (x346.getD i128.toNat z_Api_Entry).Cold⟩ : Api_Entry)].length (fl enc_Api_Entry [(⟨(⟨((x346.getD i128.toNat z_Api_Entry).Part).Tier, ((x346.getD i128.toNat z_Api_Entry).Part).Index⟩ : Api_Part), (x346.getD i128.toNat z_Api_Entry).Seg, (x346.getD i128.toNat z_Api_Entry).Mark, (x346.getD i128.toNat z_Api_Entry).Rows, (x346.getD i128.toNat z_Api_Entry).Cold⟩ : Api_Entry)])), A, (box b35 139 [(pt b46 0)]), (box b46 192 [sv358]), (own sv358 196 7 v8.length (fl enc_Omap_pair__int64__api_Entry v8)), (own sv380 65 6 x346.length (fl enc_Api_Entry x346))] = _ by simp [up, upb, sel, d4, hi], (tr_same rfl rfl (tr_same rfl rfl (tr_same rfl rfl (tr_same rfl rfl (tr_same rfl rfl (tr_same rfl rfl (tr_same rfl rfl (tr_same rfl rfl (tr_same rfl rfl (tr_same rfl rfl (tr_same rfl rfl (tr_same rfl rfl (tr_same rfl rfl (tr_same rfl rfl (tr_this (tr_same rfl rfl (tr_same rfl rfl tr_nil)))))))))))))))))⟩
                 ·intro done hi hc hcu
                  refine draw_exi (I := Z336_I) fun ga321 => ?_
                  have d14 : done 14 = true := done_of (j := 14) hcu rfl (by decide) rfl
                  exact draw_value (i := 15) (t := 95) (v := (int .i64 (x567.length : Int))) rfl rfl (wanted_none rfl) (fun a => (hasA_cons (k := 14) rfl d14 hasA_base)) (ov_L (L2 := [(own (ga321 14) 65 6 x567.length (fl enc_Api_Entry x567)), (sel (done 4) (own (ga321 4) 65 6 [(⟨(⟨((x346.getD i128.toNat z_Api_Entry).Part).Tier, ((x346.getD i128.toNat z_Api_Entry).Part).Index⟩ : Api_Part), (x346.getD i128.toNat z_Api_Entry).Seg, (x346.getD i128.toNat z_Api_Entry).Mark, (x346.getD i128.toNat z_Api_Entry).Rows, (x346.getD i128.toNat z_Api_Entry).Cold⟩ : Api_Entry)].length (fl enc_Api_Entry [(⟨(⟨((x346.getD i128.toNat z_Api_Entry).Part).Tier, ((x346.getD i128.toNat z_Api_Entry).Part).Index⟩ : Api_Part), (x346.getD i128.toNat z_Api_Entry).Seg, (x346.getD i128.toNat z_Api_Entry).Mark, (x346.getD i128.toNat z_Api_Entry).Rows, (x346.getD i128.toNat z_Api_Entry).Cold⟩ : Api_Entry)])) emp), A, (box b35 139 [(pt b46 0)]), (box b46 192 [sv358]), (own sv358 196 7 v8.length (fl enc_Omap_pair__int64__api_Entry v8)), (own sv380 65 6 x346.length (fl enc_Api_Entry x346))]) (by simp only [d14, sel]) (ov_len 0 rfl F_slice_53 rfl (isRd_ownx 65))) rfl rfl (onlyT_spec (k0 := 15) rfl rfl rfl)
                 ·intro done hi hc hcu
                  refine draw_exi (I := Z336_I) fun ga321 => ?_
                  have d15 : done 15 = true := done_of (j := 15) hcu rfl (by decide) rfl
                  exact draw_value (i := 16) (t := 96) (v := (bool ((x567.length : Int) == 1))) rfl rfl (wanted_none rfl) (fun a => (hasA_cons (k := 15) rfl d15 hasA_base)) (ov_bin rfl rfl (b_eql _ _ _)) rfl rfl (onlyT_spec (k0 := 16) rfl rfl rfl)
                ·intro done hall
                 refine ent_exi (S := fun ga321 => Z336_I ga321 done) fun ga321 => ?_
                 refine draw_endL [(own (ga321 14) 65 6 x567.length (fl enc_Api_Entry x567)), (own (ga321 4) 65 6 [(⟨(⟨((x346.getD i128.toNat z_Api_Entry).Part).Tier, ((x346.getD i128.toNat z_Api_Entry).Part).Index⟩ : Api_Part), (x346.getD i128.toNat z_Api_Entry).Seg, (x346.getD i128.toNat z_Api_Entry).Mark, (x346.getD i128.toNat z_Api_Entry).Rows, (x346.getD i128.toNat z_Api_Entry).Cold⟩ : Api_Entry)].length (fl enc_Api_Entry [(⟨(⟨((x346.getD i128.toNat z_Api_Entry).Part).Tier, ((x346.getD i128.toNat z_Api_Entry).Part).Index⟩ : Api_Part), (x346.getD i128.toNat z_Api_Entry).Seg, (x346.getD i128.toNat z_Api_Entry).Mark, (x346.getD i128.toNat z_Api_Entry).Rows, (x346.getD i128.toNat z_Api_Entry).Cold⟩ : Api_Entry)])), A, (box b35 139 [(pt b46 0)]), (box b46 192 [sv358]), (own sv358 196 7 v8.length (fl enc_Omap_pair__int64__api_Entry v8)), (own sv380 65 6 x346.length (fl enc_Api_Entry x346))] (by simp only [hall 4 (by decide), hall 14 (by decide), sel]) (fun a => (hasA_cons (k := 0) rfl (hall 0 (by decide)) (hasA_cons (k := 1) rfl (hall 1 (by decide)) (hasA_cons (k := 2) rfl (hall 2 (by decide)) (hasA_cons (k := 3) rfl (hall 3 (by decide)) (hasA_cons (k := 4) rfl (hall 4 (by decide)) (hasA_cons (k := 5) rfl (hall 5 (by decide)) (hasA_cons (k := 6) rfl (hall 6 (by decide)) (hasA_cons (k := 7) rfl (hall 7 (by decide)) (hasA_cons (k := 8) rfl (hall 8 (by decide)) (hasA_cons (k := 9) rfl (hall 9 (by decide)) (hasA_cons (k := 10) rfl (hall 10 (by decide)) (hasA_cons (k := 11) rfl (hall 11 (by decide)) (hasA_cons (k := 12) rfl (hall 12 (by decide)) (hasA_cons (k := 13) rfl (hall 13 (by decide)) (hasA_cons (k := 14) rfl (hall 14 (by decide)) (hasA_cons (k := 15) rfl (hall 15 (by decide)) (hasA_cons (k := 16) rfl (hall 16 (by decide)) hasA_base)))))))))))))))))) ?_
                 by_cases c1067 : (x567.length : Int) = 1
                 ·rw [if_pos c1067] at H142
                  refine ent_cond_true rfl (eq_t c1067) ?_
                  refine ent_region ?_
                  refine ent_value (ov_move rfl) rfl rfl rfl ?_
                  refine ent_value (ov_bin rfl rfl (b_add _ _ _) ) rfl rfl rfl ?_
                  refine ent_value (ov_assign rfl) rfl rfl rfl ?_
                  refine ent_nil ?_
                  refine ent_region ?_
                  refine ent_value (ov_move rfl) rfl rfl rfl ?_
                  refine ent_value (ov_bin rfl rfl (b_add _ _ _) ) rfl rfl rfl ?_
                  refine ent_value (ov_assign rfl) rfl rfl rfl ?_
                  refine ent_nil ?_
                  exact ent_fin [2, 3, 4, 5, 6] (by decide) rfl (sub_cons (t := 1) rfl (sub_cons (t := 5) rfl (sub_cons (t := 8) rfl (sub_cons (t := 9) rfl (sub_cons (t := 10) rfl (sub_cons (t := 11) rfl (sub_nil _))))))) fun a w h => ⟨k, Nat.lt_succ_self k, _, _, H142, h⟩
                 ·rw [if_neg c1067] at H142
                  refine ent_cond_false rfl (eq_f c1067) ?_
                  refine ent_skip ?_
                  refine ent_region ?_
                  refine ent_value (ov_move rfl) rfl rfl rfl ?_
                  refine ent_value (ov_bin rfl rfl (b_add _ _ _) ) rfl rfl rfl ?_
                  refine ent_value (ov_assign rfl) rfl rfl rfl ?_
                  refine ent_nil ?_
                  exact ent_fin [2, 3, 4, 5, 6] (by decide) rfl (sub_cons (t := 1) rfl (sub_cons (t := 5) rfl (sub_cons (t := 8) rfl (sub_cons (t := 9) rfl (sub_cons (t := 10) rfl (sub_cons (t := 11) rfl (sub_nil _))))))) fun a w h => ⟨k, Nat.lt_succ_self k, _, _, H142, h⟩
               ·rw [if_neg c1066] at H142
                cases H142
              ·rw [if_neg c1063] at H142
               refine ent_cond_false rfl (decide_eq_false c1063) ?_
               refine ent_exit ?_
               cases H142
               exact ent_fin [0, 1, 2, 3, 4] (by decide) rfl (sub_cons (t := 1) rfl (sub_cons (t := 5) rfl (sub_cons (t := 8) rfl (sub_cons (t := 9) rfl (sub_cons (t := 10) rfl (sub_nil _)))))) fun a w h => h
           ·refine ent_seq ?_
            refine ent_region ?_
            refine ent_value (ov_move rfl) rfl rfl rfl ?_
            refine ent_value (ov_move rfl) rfl rfl rfl ?_
            refine ent_value (ov_move rfl) rfl rfl rfl ?_
            refine ent_value (ov_indexAddr (sz := 0) 0 rfl rfl F_slice_25 F_size_2 rfl hA1 c1033 c989) rfl rfl rfl ?_
            refine ent_value (ov_load (v := (int .i64 (l1.getD i108.toNat 0))) rfl F_agg_2 (reads_rd (i := 0) rfl hA1 (by simp) (fl_read0 (eI_len _) (ix_lt c1033 c989) rfl))) rfl rfl rfl ?_
            obtain ⟨x568, h532, H137⟩ := Option.bind_eq_some_iff.1 H137
            refine ent_op (ot_call_same (Lr := [A, (own sv380 65 6 x346.length (fl enc_Api_Entry x346))]) [1, 2, 3, 0, 4] [3, 0, 1, 2, 4] (first := []) (cap := []) (xs := [.tmp 100, .tmp 104]) rfl rfl F_call_28 rfl (catalog_Catalog_At_O.spec K b35 b46 sv358 v8 (l1.getD i108.toNat 0) _ h532) (by decide) rfl (by decide) rfl) rfl rfl rfl ?_
            rintro _ _ ⟨rfl, rfl⟩
            refine ent_value (ov_move rfl) rfl rfl rfl ?_
            refine ent_value (ov_extract rfl rfl) rfl rfl rfl ?_
            refine ent_value (ov_extract rfl rfl) rfl rfl rfl ?_
            refine ent_op (ot_alloc F_zero_65) rfl rfl rfl ?_
            rintro _ _ ⟨b67, rfl, rfl⟩
            refine ent_op0 (ot_storeG (cs := [(int .i64 0), (int .i64 0), (int .i64 0), (int .i64 0), (int .i64 0), (bool false)]) (cs' := [(int .i64 x568.1), (int .i64 x568.2.1), (int .i64 x568.2.2.1), (int .i64 x568.2.2.2.1), (int .i64 x568.2.2.2.2.1), (bool x568.2.2.2.2.2.1)]) (us := [(int .i64 x568.1), (int .i64 x568.2.1), (int .i64 x568.2.2.1), (int .i64 x568.2.2.2.1), (int .i64 x568.2.2.2.2.1), (bool x568.2.2.2.2.2.1)]) (L' := [(box b67 65 [(int .i64 x568.1), (int .i64 x568.2.1), (int .i64 x568.2.2.1), (int .i64 x568.2.2.2.1), (int .i64 x568.2.2.2.2.1), (bool x568.2.2.2.2.2.1)]), A, (box b35 139 [(pt b46 0)]), (box b46 192 [sv358]), (own sv358 196 7 v8.length (fl enc_Omap_pair__int64__api_Entry v8)), (own sv380 65 6 x346.length (fl enc_Api_Entry x346))]) 0 rfl rfl rfl (one_all rfl) F_size_65 rfl rfl (by simp) rfl) rfl rfl ?_
            rintro _ _ rfl
            refine ent_value (ov_assign rfl) rfl rfl rfl ?_
            refine ent_nil ?_
            refine ent_seq ?_
            refine ent_region ?_
            refine ent_value (ov_move rfl) rfl rfl rfl ?_
            refine ent_value (ov_bin rfl rfl (b_gtr _ _ _)) rfl rfl rfl ?_
            refine ent_value (ov_move rfl) rfl rfl rfl ?_
            by_cases c1068 : 1 < x561
            ·rw [if_pos c1068] at H137
             refine ent_off rfl rfl rfl (decide_eq_true c1068) rfl rfl ?_
             refine ent_off rfl rfl rfl (decide_eq_true c1068) rfl rfl ?_
             refine ent_off rfl rfl rfl (decide_eq_true c1068) rfl rfl ?_
             refine ent_off rfl rfl rfl (decide_eq_true c1068) rfl rfl ?_
             refine ent_value (ov_pick rfl rfl rfl (pick_t (decide_eq_true c1068))) rfl rfl rfl ?_
             refine ent_nil ?_
             refine ent_cond_true rfl rfl ?_
             refine ent_seq ?_
             refine ent_region ?_
             refine ent_value (ov_assign rfl) rfl rfl rfl ?_
             refine ent_nil ?_
             refine ent_retc ?_
             cases H137
             have H143 := Option.some.inj (show some _ = some _ from H133)
             cases H143
             refine ent_pick [1] (by decide) rfl ?_
             exact ret_tmp rfl rfl ⟨rfl, rfl⟩
            ·rw [if_neg c1068] at H137
             refine ent_value_on (ov_move rfl) rfl rfl rfl (decide_eq_false c1068) rfl rfl ?_
             refine ent_value_on (ov_move rfl) rfl rfl rfl (decide_eq_false c1068) rfl rfl ?_
             refine ent_value_on (ov_bin rfl rfl (b_eql _ _ _)) rfl rfl rfl (decide_eq_false c1068) rfl rfl ?_
             refine ent_value_on (ov_bin rfl rfl (b_neq_bool Try.underlying4 _ _)) rfl rfl rfl (decide_eq_false c1068) rfl rfl ?_
             refine ent_value (ov_pick rfl rfl rfl (pick_f (decide_eq_false c1068))) rfl rfl rfl ?_
             refine ent_nil ?_
             by_cases c1069 : (x568.2.2.2.2.2.2 != (x561 == 1)) = true
             ·rw [if_pos c1069] at H137
              refine ent_cond_true rfl c1069 ?_
              refine ent_seq ?_
              refine ent_region ?_
              refine ent_value (ov_assign rfl) rfl rfl rfl ?_
              refine ent_nil ?_
              refine ent_retc ?_
              cases H137
              have H144 := Option.some.inj (show some _ = some _ from H133)
              cases H144
              refine ent_pick [1] (by decide) rfl ?_
              exact ret_tmp rfl rfl ⟨rfl, rfl⟩
             ·rw [if_neg c1069] at H137
              refine ent_cond_false rfl (Bool.eq_false_iff.2 c1069) ?_
              refine ent_skip ?_
              cases H137
              exact ent_fin [1, 2, 3, 4, 5] (by decide) rfl (sub_cons (t := 1) rfl (sub_cons (t := 5) rfl (sub_cons (t := 8) rfl (sub_cons (t := 9) rfl (sub_nil _))))) fun a w h => ⟨_, rfl, h⟩
        ·rw [if_neg c1033] at H137
         cases H137
       ·refine ent_exi fun v14 => ent_and fun e_ => ?_
        subst e_
        rw [cas_inl] at H133
        refine ent_region ?_
        refine ent_value (ov_move rfl) rfl rfl rfl ?_
        refine ent_value (ov_bin rfl rfl (b_add _ _ _) ) rfl rfl rfl ?_
        refine ent_value (ov_assign rfl) rfl rfl rfl ?_
        refine ent_nil ?_
        exact ent_fin [0, 1, 2, 3, 4] (by decide) rfl (sub_cons (t := 1) rfl (sub_cons (t := 5) rfl (sub_cons (t := 8) rfl (sub_cons (t := 9) rfl (sub_nil _))))) fun a w h => ⟨k, Nat.lt_succ_self k, _, H133, h⟩
      ·rw [if_neg c989] at H133
       refine ent_cond_false rfl (decide_eq_false c989) ?_
       refine ent_exit ?_
       refine ent_seq ?_
       refine ent_region ?_
       obtain ⟨x569, h533, H133⟩ := Option.bind_eq_some_iff.1 H133
       refine ent_op (ot_call0 (first := []) (cap := []) (xs := []) rfl rfl F_call_22 rfl (ossuarylaw20_alive.spec K _ h533)) rfl rfl rfl ?_
       rintro _ _ ⟨rfl, rfl⟩
       refine ent_value (ov_assign rfl) rfl rfl rfl ?_
       refine ent_nil ?_
       refine ent_retc ?_
       cases H133
       refine ent_pick [0] (by decide) rfl ?_
       exact ret_tmp rfl rfl ⟨rfl, rfl⟩

end Go.Proofs.Ythdggcleffadeaa.CatalogOnce
