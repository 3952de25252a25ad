/- Printed by gen.py: that the machine's calls do what the plain functions of CatalogEach say. -/
import Derived.Test.YthdggcleffadeaaProg
import Derived.Test.YthdggcleffadeaaEInsert
import Derived.Test.YthdggcleffadeaaCatalogEachPure
set_option linter.unusedVariables false
set_option linter.unusedSimpArgs false
set_option maxHeartbeats 1000000
namespace Go.Proofs.Ythdggcleffadeaa.CatalogEach
open Go Go.RowKit E
open Go.Value (int bool slice agg)

def enc_Api_Part (x : Api_Part) : List Value := [(Value.int .i64 x.Tier), (Value.int .i64 x.Index)]
theorem enc_Api_Part_one (x : Api_Part) : (enc_Api_Part x).all (·.oneCell') = true := rfl
theorem enc_Api_Part_len (x : Api_Part) : (enc_Api_Part x).length = 2 := rfl
def enc_Api_Entry (x : Api_Entry) : List Value := [(Value.int .i64 x.Part.Tier), (Value.int .i64 x.Part.Index), (Value.int .i64 x.Seg), (Value.int .i64 x.Mark), (Value.int .i64 x.Rows), (Value.bool x.Cold)]
theorem enc_Api_Entry_one (x : Api_Entry) : (enc_Api_Entry x).all (·.oneCell') = true := rfl
theorem enc_Api_Entry_len (x : Api_Entry) : (enc_Api_Entry x).length = 6 := rfl
def enc_Ossuarylaw20_Act (x : Ossuarylaw20_Act) : List Value := [x.Drop.v, x.Put.v]
theorem enc_Ossuarylaw20_Act_len (x : Ossuarylaw20_Act) : (enc_Ossuarylaw20_Act x).length = 2 := rfl
def enc_Omap_pair__int64__api_Entry (x : Omap_pair__int64__api_Entry) : List Value := [(Value.int .i64 x.k), (Value.int .i64 x.v.Part.Tier), (Value.int .i64 x.v.Part.Index), (Value.int .i64 x.v.Seg), (Value.int .i64 x.v.Mark), (Value.int .i64 x.v.Rows), (Value.bool x.v.Cold)]
theorem enc_Omap_pair__int64__api_Entry_one (x : Omap_pair__int64__api_Entry) : (enc_Omap_pair__int64__api_Entry x).all (·.oneCell') = true := rfl
theorem enc_Omap_pair__int64__api_Entry_len (x : Omap_pair__int64__api_Entry) : (enc_Omap_pair__int64__api_Entry x).length = 7 := rfl
theorem F_zero_4 : zeroB Try.prog 4 = some [(Value.bool false)] := by kernel_rfl
theorem F_zero_192 : zeroB Try.prog 192 = some [(Value.slice none 0 0)] := by kernel_rfl
theorem F_places_192 : placesB Try.prog 192 = some [(0, 1)] := by kernel_rfl
theorem F_call_81 : callB Try.prog 81 = true := by kernel_rfl
theorem F_zero_139 : zeroB Try.prog 139 = some [(Value.pointer none)] := by kernel_rfl
theorem F_places_139 : placesB Try.prog 139 = some [(0, 1)] := by kernel_rfl
theorem F_call_23 : callB Try.prog 23 = true := by kernel_rfl
theorem F_zero_65 : zeroB Try.prog 65 = some [(Value.int .i64 0), (Value.int .i64 0), (Value.int .i64 0), (Value.int .i64 0), (Value.int .i64 0), (Value.bool false)] := by kernel_rfl
theorem F_zero_63 : zeroB Try.prog 63 = some [(Value.int .i64 0), (Value.int .i64 0)] := by kernel_rfl
theorem F_places_63 : placesB Try.prog 63 = some [(0, 1), (1, 1)] := by kernel_rfl
theorem F_places_65 : placesB Try.prog 65 = some [(0, 2), (2, 1), (3, 1), (4, 1), (5, 1)] := by kernel_rfl
theorem F_size_65 : sizeB Try.prog 65 = some 6 := by kernel_rfl
theorem F_agg_65 : aggB Try.prog 65 = some true := by kernel_rfl
theorem F_call_80 : callB Try.prog 80 = true := by kernel_rfl
theorem F_slice_53 : sliceB Try.prog 53 = some 65 := by kernel_rfl
theorem F_zero_59 : zeroB Try.prog 59 = some [(Value.slice none 0 0), (Value.slice none 0 0)] := by kernel_rfl
theorem F_places_59 : placesB Try.prog 59 = some [(0, 1), (1, 1)] := by kernel_rfl
theorem F_field_139_0 : fieldB Try.prog 139 0 = some (0, 136) := by kernel_rfl
theorem F_size_136 : sizeB Try.prog 136 = some 1 := by kernel_rfl
theorem F_agg_136 : aggB Try.prog 136 = some false := by kernel_rfl
theorem F_zero_136 : zeroB Try.prog 136 = some [(Value.pointer none)] := by kernel_rfl
theorem F_field_192_0 : fieldB Try.prog 192 0 = some (0, 190) := by kernel_rfl
theorem F_size_190 : sizeB Try.prog 190 = some 1 := by kernel_rfl
theorem F_agg_190 : aggB Try.prog 190 = some false := by kernel_rfl
theorem F_call_140 : callB Try.prog 140 = true := by kernel_rfl
theorem F_call_91 : callB Try.prog 91 = true := by kernel_rfl
theorem F_zero_196 : zeroB Try.prog 196 = some [(Value.int .i64 0), (Value.int .i64 0), (Value.int .i64 0), (Value.int .i64 0), (Value.int .i64 0), (Value.int .i64 0), (Value.bool false)] := by kernel_rfl
theorem F_places_196 : placesB Try.prog 196 = some [(0, 1), (1, 6)] := by kernel_rfl
theorem F_slice_190 : sliceB Try.prog 190 = some 196 := by kernel_rfl
theorem F_size_196 : sizeB Try.prog 196 = some 7 := by kernel_rfl
theorem F_bytes_196 : bytesB Try.prog 196 = some 56 := by kernel_rfl
theorem F_call_89 : callB Try.prog 89 = true := by kernel_rfl
theorem F_call_30 : callB Try.prog 30 = true := by kernel_rfl
theorem F_field_59_0 : fieldB Try.prog 59 0 = some (0, 56) := by kernel_rfl
theorem F_size_56 : sizeB Try.prog 56 = some 1 := by kernel_rfl
theorem F_agg_56 : aggB Try.prog 56 = some false := by kernel_rfl
theorem F_slice_56 : sliceB Try.prog 56 = some 63 := by kernel_rfl
theorem F_field_59_1 : fieldB Try.prog 59 1 = some (1, 53) := by kernel_rfl
theorem F_size_53 : sizeB Try.prog 53 = some 1 := by kernel_rfl
theorem F_agg_53 : aggB Try.prog 53 = some false := by kernel_rfl
theorem F_field_65_0 : fieldB Try.prog 65 0 = some (0, 63) := by kernel_rfl
theorem F_size_63 : sizeB Try.prog 63 = some 2 := by kernel_rfl
theorem F_agg_63 : aggB Try.prog 63 = some true := by kernel_rfl
theorem F_field_63_0 : fieldB Try.prog 63 0 = some (0, 3) := by kernel_rfl
theorem F_size_3 : sizeB Try.prog 3 = some 1 := by kernel_rfl
theorem F_agg_3 : aggB Try.prog 3 = some false := by kernel_rfl
theorem F_call_173 : callB Try.prog 173 = true := by kernel_rfl
theorem F_call_212 : callB Try.prog 212 = true := by kernel_rfl
theorem F_call_174 : callB Try.prog 174 = true := by kernel_rfl
theorem F_call_137 : callB Try.prog 137 = true := by kernel_rfl
theorem F_field_63_1 : fieldB Try.prog 63 1 = some (1, 2) := by kernel_rfl
theorem F_size_2 : sizeB Try.prog 2 = some 1 := by kernel_rfl
theorem F_agg_2 : aggB Try.prog 2 = some false := by kernel_rfl
theorem F_call_94 : callB Try.prog 94 = true := by kernel_rfl
theorem F_field_65_1 : fieldB Try.prog 65 1 = some (2, 2) := by kernel_rfl
theorem F_call_141 : callB Try.prog 141 = true := by kernel_rfl
theorem F_field_65_3 : fieldB Try.prog 65 3 = some (4, 2) := by kernel_rfl
theorem F_field_65_2 : fieldB Try.prog 65 2 = some (3, 2) := by kernel_rfl
theorem F_field_65_4 : fieldB Try.prog 65 4 = some (5, 4) := by kernel_rfl
theorem F_size_4 : sizeB Try.prog 4 = some 1 := by kernel_rfl
theorem F_agg_4 : aggB Try.prog 4 = some false := by kernel_rfl
theorem F_call_92 : callB Try.prog 92 = true := by kernel_rfl
theorem F_call_144 : callB Try.prog 144 = true := by kernel_rfl
theorem F_call_143 : callB Try.prog 143 = true := by kernel_rfl
theorem F_call_95 : callB Try.prog 95 = true := by kernel_rfl
theorem F_call_35 : callB Try.prog 35 = true := by kernel_rfl
theorem F_zero_53 : zeroB Try.prog 53 = some [(Value.slice none 0 0)] := by kernel_rfl
theorem F_field_196_0 : fieldB Try.prog 196 0 = some (0, 2) := by kernel_rfl
theorem F_call_168 : callB Try.prog 168 = true := by kernel_rfl
theorem F_call_70 : callB Try.prog 70 = true := by kernel_rfl
theorem F_call_132 : callB Try.prog 132 = true := by kernel_rfl
theorem F_field_196_1 : fieldB Try.prog 196 1 = some (1, 65) := by kernel_rfl
theorem F_call_86 : callB Try.prog 86 = true := by kernel_rfl
theorem F_guard_63 : Try.prog.eqGuardType Try.prog.depth 63 = false := by kernel_rfl
theorem same_63 {x y : Operand} (x0 : Int) (x1 : Int) (y0 : Int) (y1 : Int) (w : World) : (do eqGuard .eql 63 x y (.agg #[(Value.int .i64 x0), (Value.int .i64 x1)]) (.agg #[(Value.int .i64 y0), (Value.int .i64 y1)]); binOp .eql 63 (.agg #[(Value.int .i64 x0), (Value.int .i64 x1)]) (.agg #[(Value.int .i64 y0), (Value.int .i64 y1)])).run Try.prog w = .ok (.bool ((x0 == y0) && ((x1 == y1) && true))) w :=
  b_eql_agg F_guard_63 (eq_struct Try.underlying63 (by kernel_rfl) (eqf_cons rfl (part_cell F_agg_3 rfl) (part_cell F_agg_3 rfl) (eq_int Try.underlying3 _ _) (eqf_cons rfl (part_cell F_agg_2 rfl) (part_cell F_agg_2 rfl) (eq_int Try.underlying2 _ _) eqf_nil))) w
theorem same_63_n {x y : Operand} (x0 : Int) (x1 : Int) (y0 : Int) (y1 : Int) (w : World) : (do eqGuard .neq 63 x y (.agg #[(Value.int .i64 x0), (Value.int .i64 x1)]) (.agg #[(Value.int .i64 y0), (Value.int .i64 y1)]); binOp .neq 63 (.agg #[(Value.int .i64 x0), (Value.int .i64 x1)]) (.agg #[(Value.int .i64 y0), (Value.int .i64 y1)])).run Try.prog w = .ok (.bool (!((x0 == y0) && ((x1 == y1) && true)))) w :=
  b_neq_agg F_guard_63 (eq_struct Try.underlying63 (by kernel_rfl) (eqf_cons rfl (part_cell F_agg_3 rfl) (part_cell F_agg_3 rfl) (eq_int Try.underlying3 _ _) (eqf_cons rfl (part_cell F_agg_2 rfl) (part_cell F_agg_2 rfl) (eq_int Try.underlying2 _ _) eqf_nil))) w
theorem F_call_87 : callB Try.prog 87 = true := by kernel_rfl
theorem F_call_28 : callB Try.prog 28 = true := by kernel_rfl
theorem F_bytes_65 : bytesB Try.prog 65 = some 48 := by kernel_rfl
theorem F_call_96 : callB Try.prog 96 = true := by kernel_rfl
theorem F_agg_196 : aggB Try.prog 196 = some true := by kernel_rfl
theorem F_call_36 : callB Try.prog 36 = true := by kernel_rfl
theorem F_call_169 : callB Try.prog 169 = true := by kernel_rfl
theorem F_call_134 : callB Try.prog 134 = true := by kernel_rfl
theorem F_call_84 : callB Try.prog 84 = true := by kernel_rfl
theorem F_call_25 : callB Try.prog 25 = true := by kernel_rfl
theorem F_call_82 : callB Try.prog 82 = true := by kernel_rfl
theorem F_call_133 : callB Try.prog 133 = true := by kernel_rfl
theorem F_call_83 : callB Try.prog 83 = true := by kernel_rfl
theorem F_guard_65 : Try.prog.eqGuardType Try.prog.depth 65 = false := by kernel_rfl
theorem same_65 {x y : Operand} (x0 : Int) (x1 : Int) (x2 : Int) (x3 : Int) (x4 : Int) (x5 : Bool) (y0 : Int) (y1 : Int) (y2 : Int) (y3 : Int) (y4 : Int) (y5 : Bool) (w : World) : (do eqGuard .eql 65 x y (.agg #[(Value.int .i64 x0), (Value.int .i64 x1), (Value.int .i64 x2), (Value.int .i64 x3), (Value.int .i64 x4), (Value.bool x5)]) (.agg #[(Value.int .i64 y0), (Value.int .i64 y1), (Value.int .i64 y2), (Value.int .i64 y3), (Value.int .i64 y4), (Value.bool y5)]); binOp .eql 65 (.agg #[(Value.int .i64 x0), (Value.int .i64 x1), (Value.int .i64 x2), (Value.int .i64 x3), (Value.int .i64 x4), (Value.bool x5)]) (.agg #[(Value.int .i64 y0), (Value.int .i64 y1), (Value.int .i64 y2), (Value.int .i64 y3), (Value.int .i64 y4), (Value.bool y5)])).run Try.prog w = .ok (.bool (((x0 == y0) && ((x1 == y1) && true)) && ((x2 == y2) && ((x3 == y3) && ((x4 == y4) && ((x5 == y5) && true)))))) w :=
  b_eql_agg F_guard_65 (eq_struct Try.underlying65 (by kernel_rfl) (eqf_cons rfl (part_agg F_agg_63 F_size_63) (part_agg F_agg_63 F_size_63) (eq_struct Try.underlying63 (by kernel_rfl) (eqf_cons rfl (part_cell F_agg_3 rfl) (part_cell F_agg_3 rfl) (eq_int Try.underlying3 _ _) (eqf_cons rfl (part_cell F_agg_2 rfl) (part_cell F_agg_2 rfl) (eq_int Try.underlying2 _ _) eqf_nil))) (eqf_cons rfl (part_cell F_agg_2 rfl) (part_cell F_agg_2 rfl) (eq_int Try.underlying2 _ _) (eqf_cons rfl (part_cell F_agg_2 rfl) (part_cell F_agg_2 rfl) (eq_int Try.underlying2 _ _) (eqf_cons rfl (part_cell F_agg_2 rfl) (part_cell F_agg_2 rfl) (eq_int Try.underlying2 _ _) (eqf_cons rfl (part_cell F_agg_4 rfl) (part_cell F_agg_4 rfl) (eq_bool Try.underlying4 _ _) eqf_nil)))))) w
theorem same_65_n {x y : Operand} (x0 : Int) (x1 : Int) (x2 : Int) (x3 : Int) (x4 : Int) (x5 : Bool) (y0 : Int) (y1 : Int) (y2 : Int) (y3 : Int) (y4 : Int) (y5 : Bool) (w : World) : (do eqGuard .neq 65 x y (.agg #[(Value.int .i64 x0), (Value.int .i64 x1), (Value.int .i64 x2), (Value.int .i64 x3), (Value.int .i64 x4), (Value.bool x5)]) (.agg #[(Value.int .i64 y0), (Value.int .i64 y1), (Value.int .i64 y2), (Value.int .i64 y3), (Value.int .i64 y4), (Value.bool y5)]); binOp .neq 65 (.agg #[(Value.int .i64 x0), (Value.int .i64 x1), (Value.int .i64 x2), (Value.int .i64 x3), (Value.int .i64 x4), (Value.bool x5)]) (.agg #[(Value.int .i64 y0), (Value.int .i64 y1), (Value.int .i64 y2), (Value.int .i64 y3), (Value.int .i64 y4), (Value.bool y5)])).run Try.prog w = .ok (.bool (!(((x0 == y0) && ((x1 == y1) && true)) && ((x2 == y2) && ((x3 == y3) && ((x4 == y4) && ((x5 == y5) && true))))))) w :=
  b_neq_agg F_guard_65 (eq_struct Try.underlying65 (by kernel_rfl) (eqf_cons rfl (part_agg F_agg_63 F_size_63) (part_agg F_agg_63 F_size_63) (eq_struct Try.underlying63 (by kernel_rfl) (eqf_cons rfl (part_cell F_agg_3 rfl) (part_cell F_agg_3 rfl) (eq_int Try.underlying3 _ _) (eqf_cons rfl (part_cell F_agg_2 rfl) (part_cell F_agg_2 rfl) (eq_int Try.underlying2 _ _) eqf_nil))) (eqf_cons rfl (part_cell F_agg_2 rfl) (part_cell F_agg_2 rfl) (eq_int Try.underlying2 _ _) (eqf_cons rfl (part_cell F_agg_2 rfl) (part_cell F_agg_2 rfl) (eq_int Try.underlying2 _ _) (eqf_cons rfl (part_cell F_agg_2 rfl) (part_cell F_agg_2 rfl) (eq_int Try.underlying2 _ _) (eqf_cons rfl (part_cell F_agg_4 rfl) (part_cell F_agg_4 rfl) (eq_bool Try.underlying4 _ _) eqf_nil)))))) w
theorem F_call_97 : callB Try.prog 97 = true := by kernel_rfl
theorem F_call_37 : callB Try.prog 37 = true := by kernel_rfl
theorem F_call_22 : callB Try.prog 22 = true := by kernel_rfl
theorem F_slice_49 : sliceB Try.prog 49 = some 58 := by kernel_rfl
theorem F_size_58 : sizeB Try.prog 58 = some 2 := by kernel_rfl
theorem F_field_58_0 : fieldB Try.prog 58 0 = some (0, 56) := by kernel_rfl
theorem F_field_58_1 : fieldB Try.prog 58 1 = some (1, 53) := by kernel_rfl
theorem F_call_21 : callB Try.prog 21 = true := by kernel_rfl
theorem F_agg_58 : aggB Try.prog 58 = some true := by kernel_rfl
theorem F_zero_58 : zeroB Try.prog 58 = some [(Value.slice none 0 0), (Value.slice none 0 0)] := by kernel_rfl
theorem F_call_138 : callB Try.prog 138 = true := by kernel_rfl
theorem F_call_211 : callB Try.prog 211 = true := by kernel_rfl
theorem F_call_210 : callB Try.prog 210 = true := by kernel_rfl
theorem F_call_172 : callB Try.prog 172 = true := by kernel_rfl
theorem F_call_228 : callB Try.prog 228 = true := by kernel_rfl
theorem F_call_209 : callB Try.prog 209 = true := by kernel_rfl
theorem F_call_170 : callB Try.prog 170 = true := by kernel_rfl
theorem F_call_135 : callB Try.prog 135 = true := by kernel_rfl
theorem F_call_150 : callB Try.prog 150 = true := by kernel_rfl
theorem F_call_106 : callB Try.prog 106 = true := by kernel_rfl
theorem F_call_139 : callB Try.prog 139 = true := by kernel_rfl
theorem F_call_171 : callB Try.prog 171 = true := by kernel_rfl
theorem F_call_136 : callB Try.prog 136 = true := by kernel_rfl
theorem F_call_85 : callB Try.prog 85 = true := by kernel_rfl
theorem F_call_108 : callB Try.prog 108 = true := by kernel_rfl
theorem F_call_175 : callB Try.prog 175 = true := by kernel_rfl
theorem F_call_88 : callB Try.prog 88 = true := by kernel_rfl
theorem F_call_29 : callB Try.prog 29 = true := by kernel_rfl
theorem F_call_24 : callB Try.prog 24 = true := by kernel_rfl
theorem F_call_26 : callB Try.prog 26 = true := by kernel_rfl
theorem F_zero_3 : zeroB Try.prog 3 = some [(Value.int .i64 0)] := by kernel_rfl
theorem F_call_31 : callB Try.prog 31 = true := by kernel_rfl
theorem F_agg_51 : aggB Try.prog 51 = some false := by kernel_rfl
theorem F_agg_148 : aggB Try.prog 148 = some false := by kernel_rfl
set_option maxRecDepth 100000 in
theorem omap_New__int64__api_Entry.spec (r : Unit) (H : omap_New__int64__api_Entry = r) : FnSpec Try.prog 81 [] [] (fun v M => ∃ b2 : Nat, v = (pt b2 0) ∧ M = [(box b2 192 [(slice none 0 0)])]) := by
 unfold omap_New__int64__api_Entry at H
 refine spec_of Try.func81 rfl 3 rfl (Nat.le_of_ble_eq_true rfl) fun F w0 => ?_
 show Ent (St 3 w0 F [] []) _
 refine ent_seq ?_
 refine ent_region ?_
 refine ent_value (ov_assign rfl) rfl rfl rfl ?_
 refine ent_nil ?_
 refine ent_seq ?_
 refine ent_region ?_
 refine ent_value (ov_build (is := []) (xs := []) (vs := []) rfl rfl (build_struct (cs := [(slice none 0 0)]) F_zero_192 F_places_192 rfl)) rfl rfl rfl ?_
 refine ent_op (ot_box (cs := [(slice none 0 0)]) rfl rfl) rfl rfl rfl ?_
 rintro _ _ ⟨b3, rfl, rfl⟩
 refine ent_value (ov_assign rfl) rfl rfl rfl ?_
 refine ent_nil ?_
 refine ent_retc ?_
 cases H
 refine ent_pick [0] (by decide) rfl ?_
 exact ret_tmp rfl rfl ⟨_, rfl, rfl⟩

set_option maxRecDepth 100000 in
theorem catalog_New.spec (r : Unit) (H : catalog_New = r) : FnSpec Try.prog 23 [] [] (fun v M => ∃ b3 : Nat, ∃ b4 : Nat, v = (pt b3 0) ∧ M = [(box b3 139 [(pt b4 0)]), (box b4 192 [(slice none 0 0)])]) := by
 unfold catalog_New at H
 refine spec_of Try.func23 rfl 4 rfl (Nat.le_of_ble_eq_true rfl) fun F w0 => ?_
 show Ent (St 4 w0 F [] []) _
 refine ent_seq ?_
 refine ent_region ?_
 refine ent_value (ov_assign rfl) rfl rfl rfl ?_
 refine ent_nil ?_
 refine ent_seq ?_
 refine ent_region ?_
 obtain ⟨u2, h2, H⟩ := thn_elim H
 refine ent_op (ot_call (Lr := []) (first := []) (cap := []) (xs := []) rfl rfl F_call_81 rfl (omap_New__int64__api_Entry.spec _ h2) rfl) rfl rfl rfl ?_
 rintro _ _ ⟨_, ⟨b5, rfl, rfl⟩, rfl⟩
 refine ent_value (ov_build (is := [0]) (xs := [.tmp 1]) (vs := [(pt b5 0)]) rfl rfl (build_struct (cs := [(pt b5 0)]) F_zero_139 F_places_139 rfl)) rfl rfl rfl ?_
 refine ent_op (ot_box (cs := [(pt b5 0)]) rfl rfl) rfl rfl rfl ?_
 rintro _ _ ⟨b6, rfl, rfl⟩
 refine ent_value (ov_assign rfl) rfl rfl rfl ?_
 refine ent_nil ?_
 refine ent_retc ?_
 cases H
 refine ent_pick [0, 1] (by decide) rfl ?_
 exact ret_tmp rfl rfl ⟨_, _, rfl, rfl⟩

set_option maxRecDepth 100000 in
theorem ossuarylaw20_entry.spec (a0 : Int) (a1 : Int) (r : (Int × Int × Int × Int × Int × Bool)) (H : ossuarylaw20_entry a0 a1 = r) : FnSpec Try.prog 80 [(int .i64 a0), (int .i64 a1)] [] (fun v M => v = (agg #[(int .i64 r.1), (int .i64 r.2.1), (int .i64 r.2.2.1), (int .i64 r.2.2.2.1), (int .i64 r.2.2.2.2.1), (bool r.2.2.2.2.2)]) ∧ M = []) := by
 unfold ossuarylaw20_entry at H
 refine spec_of Try.func80 rfl 9 rfl (Nat.le_of_ble_eq_true rfl) fun F w0 => ?_
 show Ent (St 9 w0 F [(0, (int .i64 a0)), (1, (int .i64 a1))] []) _
 refine ent_seq ?_
 refine ent_region ?_
 refine ent_op (ot_alloc F_zero_65) rfl rfl rfl ?_
 rintro _ _ ⟨b2, rfl, rfl⟩
 refine ent_nil ?_
 refine ent_seq ?_
 refine ent_region ?_
 refine ent_value (ov_move rfl) rfl rfl rfl ?_
 refine ent_value (ov_move rfl) rfl rfl rfl ?_
 refine ent_value (ov_build (is := [0, 1]) (xs := [.tmp 5, .tmp 6]) (vs := [(int .i64 a0), (int .i64 a1)]) rfl rfl (build_struct (cs := [(int .i64 a0), (int .i64 a1)]) F_zero_63 F_places_63 rfl)) rfl rfl rfl ?_
 refine ent_value (ov_build (is := [0, 1, 3]) (xs := [.tmp 7, .const (int .i64 1), .const (int .i64 1)]) (vs := [(agg #[(int .i64 a0), (int .i64 a1)]), (int .i64 1), (int .i64 1)]) rfl rfl (build_struct (cs := [(int .i64 a0), (int .i64 a1), (int .i64 1), (int .i64 0), (int .i64 1), (bool false)]) F_zero_65 F_places_65 rfl)) rfl rfl rfl ?_
 refine ent_op0 (ot_storeG (cs := [(int .i64 0), (int .i64 0), (int .i64 0), (int .i64 0), (int .i64 0), (bool false)]) (cs' := [(int .i64 a0), (int .i64 a1), (int .i64 1), (int .i64 0), (int .i64 1), (bool false)]) (us := [(int .i64 a0), (int .i64 a1), (int .i64 1), (int .i64 0), (int .i64 1), (bool false)]) (L' := [(box b2 65 [(int .i64 a0), (int .i64 a1), (int .i64 1), (int .i64 0), (int .i64 1), (bool false)])]) 0 rfl rfl rfl (one_all rfl) F_size_65 rfl rfl (by simp) rfl) rfl rfl ?_
 rintro _ _ rfl
 refine ent_nil ?_
 refine ent_retc ?_
 subst H
 exact ret_memp [] (by decide) rfl (vs := [(agg #[(int .i64 a0), (int .i64 a1), (int .i64 1), (int .i64 0), (int .i64 1), (bool false)])]) rfl ⟨⟨_, [(int .i64 a0), (int .i64 a1), (int .i64 1), (int .i64 0), (int .i64 1), (bool false)], rfl, reads_boxW (i := 0) rfl, .inl ⟨F_agg_65, F_size_65, rfl⟩⟩, trivial⟩ _ rfl ⟨rfl, rfl⟩

set_option maxRecDepth 100000 in
theorem omap_each__int64__api_Entry_N.spec (r : Unit) (H : omap_each__int64__api_Entry_N = r) : FnSpec Try.prog 140 [(slice none 0 0)] [] (fun v M => ∃ b2 : Nat, v = (Value.func (.func 176) #[] #[(pt b2 0)]) ∧ M = [(box b2 190 [(slice none 0 0)])]) := by
 unfold omap_each__int64__api_Entry_N at H
 refine spec_of Try.func140 rfl 4 rfl (Nat.le_of_ble_eq_true rfl) fun F w0 => ?_
 show Ent (St 4 w0 F [(0, (slice none 0 0))] []) _
 refine ent_seq ?_
 refine ent_region ?_
 refine ent_op (ot_box (cs := [(slice none 0 0)]) rfl rfl) rfl rfl rfl ?_
 rintro _ _ ⟨b3, rfl, rfl⟩
 refine ent_value (ov_assign rfl) rfl rfl rfl ?_
 refine ent_nil ?_
 refine ent_seq ?_
 refine ent_region ?_
 refine ent_value (ov_makeFunc (first := []) (cap := [.tmp 1]) rfl rfl) rfl rfl rfl ?_
 refine ent_value (ov_assign rfl) rfl rfl rfl ?_
 refine ent_nil ?_
 refine ent_retc ?_
 cases H
 refine ent_pick [0] (by decide) rfl ?_
 exact ret_tmp rfl rfl ⟨_, rfl, rfl⟩

set_option maxRecDepth 100000 in
theorem omap_Map__int64__api_Entry_All_N.spec (p0 : Nat) (r : Unit) (H : omap_Map__int64__api_Entry_All_N = r) : FnSpec Try.prog 91 [(pt p0 0)] [(box p0 192 [(slice none 0 0)])] (fun v M => ∃ b2 : Nat, v = (Value.func (.func 176) #[] #[(pt b2 0)]) ∧ M = [(box p0 192 [(slice none 0 0)]), (box b2 190 [(slice none 0 0)])]) := by
 unfold omap_Map__int64__api_Entry_All_N at H
 refine spec_of Try.func91 rfl 11 rfl (Nat.le_of_ble_eq_true rfl) fun F w0 => ?_
 show Ent (St 11 w0 F [(0, (pt p0 0))] [(box p0 192 [(slice none 0 0)])]) _
 refine ent_seq ?_
 refine ent_region ?_
 refine ent_value (ov_assign rfl) rfl rfl rfl ?_
 refine ent_nil ?_
 refine ent_seq ?_
 refine ent_seq ?_
 refine ent_region ?_
 refine ent_value (ov_move rfl) rfl rfl rfl ?_
 refine ent_value (ov_bin rfl rfl (b_eql_of (fun w => rfl) rfl (eq_pn Try.underlying136 _ _))) rfl rfl rfl ?_
 refine ent_nil ?_
 refine ent_cond_false rfl rfl ?_
 refine ent_skip ?_
 refine ent_seq ?_
 refine ent_region ?_
 refine ent_value (ov_move rfl) rfl rfl rfl ?_
 refine ent_value (ov_nilCheck rfl) rfl rfl rfl ?_
 refine ent_value (ov_fieldAddr (sz := 0) (o := 0) rfl F_field_192_0 F_size_190) rfl rfl rfl ?_
 refine ent_value (ov_load (v := (slice none 0 0)) rfl F_agg_190 (reads_box1 (i := 0) rfl rfl)) rfl rfl rfl ?_
 obtain ⟨u2, h2, H⟩ := thn_elim H
 refine ent_op (ot_call (Lr := [(box p0 192 [(slice none 0 0)])]) (first := []) (cap := []) (xs := [.tmp 9]) rfl rfl F_call_140 rfl (omap_each__int64__api_Entry_N.spec _ h2) rfl) rfl rfl rfl ?_
 rintro _ _ ⟨_, ⟨b3, rfl, rfl⟩, rfl⟩
 refine ent_value (ov_assign rfl) rfl rfl rfl ?_
 refine ent_nil ?_
 refine ent_retc ?_
 cases H
 refine ent_pick [1, 0] (by decide) rfl ?_
 exact ret_tmp rfl rfl ⟨_, rfl, rfl⟩

set_option maxRecDepth 100000 in
theorem omap_each__int64__api_Entry_1_YN.spec (K : Nat) (yl0 : Nat) (p0 : Nat) (Gm0 : Type) (y0 : Int → Api_Entry → Gm0 → Option (Gm0 × Bool)) (x0y : Gm0) (Y0 : Gm0 → HP) (hY0 : ∀ (t0_ : Int) (t1_ : Api_Entry) (z_ : Gm0) (r_ : Gm0 × Bool), y0 t0_ t1_ z_ = some r_ → YSpec Try.prog yl0 [(int .i64 t0_), (agg #[(int .i64 t1_.Part.Tier), (int .i64 t1_.Part.Index), (int .i64 t1_.Seg), (int .i64 t1_.Mark), (int .i64 t1_.Rows), (bool t1_.Cold)])] [Y0 z_] (fun v N => v = .bool r_.2 ∧ N = [Y0 r_.1])) (r : Unit) (H : omap_each__int64__api_Entry_1_YN K Gm0 y0 x0y = some r) : FnSpec Try.prog 176 [(Value.func (.yield yl0) #[] #[]), (pt p0 0)] [(Y0 x0y), (box p0 190 [(slice none 0 0)])] (fun v M => v = (Value.tuple #[]) ∧ M = [(Y0 x0y), (box p0 190 [(slice none 0 0)])]) := by
 unfold omap_each__int64__api_Entry_1_YN at H
 refine spec_of Try.func176 rfl 19 rfl (Nat.le_of_ble_eq_true rfl) fun F w0 => ?_
 show Ent (St 19 w0 F [(0, (Value.func (.yield yl0) #[] #[])), (1, (pt p0 0))] [(Y0 x0y), (box p0 190 [(slice none 0 0)])]) _
 refine ent_seq ?_
 refine ent_region ?_
 refine ent_value (ov_load (v := (slice none 0 0)) rfl F_agg_190 (reads_box1 (i := 1) rfl rfl)) rfl rfl rfl ?_
 refine ent_value (ov_len0 rfl F_slice_190) rfl rfl rfl ?_
 refine ent_value (ov_move rfl) rfl rfl rfl ?_
 refine ent_nil ?_
 refine ent_block ?_
 refine ent_loop (fun k a w => omap_each__int64__api_Entry_1_YN_l0 K k = some r ∧ St 19 w0 F [(0, (Value.func (.yield yl0) #[] #[])), (5, (slice none 0 0)), (6, (int .i64 0)), (7, (int .i64 0))] [(Y0 x0y), (box p0 190 [(slice none 0 0)])] a w) K ?_ ?_
 ·exact ent_fin [0, 1] (by decide) rfl (sub_cons (t := 0) rfl (sub_cons (t := 5) rfl (sub_cons (t := 6) rfl (sub_cons (t := 7) rfl (sub_nil _))))) fun a w h => ⟨H, h⟩
 ·refine fun k => ent_and fun H2 => ?_
  cases k with
  | zero => exact absurd H2 (by simp [omap_each__int64__api_Entry_1_YN_l0])
  | succ k =>
   rw [omap_each__int64__api_Entry_1_YN_l0] at H2
   refine ent_seq ?_
   refine ent_region ?_
   refine ent_value (ov_bin rfl rfl (b_lss _ _ _)) rfl rfl rfl ?_
   refine ent_nil ?_
   refine ent_seq ?_
   refine ent_cond_false rfl rfl ?_
   refine ent_exit ?_
   cases H2
   refine ret_normal ?_
   refine ent_pick [0, 1] (by decide) rfl ?_
   exact ret_none rfl ⟨rfl, rfl⟩

set_option maxRecDepth 100000 in
theorem omap_Map__int64__api_Entry_Copy_N.spec (K : Nat) (p0 : Nat) (r : List Omap_pair__int64__api_Entry) (H : omap_Map__int64__api_Entry_Copy_N K = some r) : FnSpec Try.prog 89 [(pt p0 0)] [(box p0 192 [(slice none 0 0)])] (fun v M => ∃ b15 : Nat, ∃ sv10 : Value, v = (pt b15 0) ∧ M = [(box p0 192 [(slice none 0 0)]), (box b15 192 [sv10]), (own sv10 196 7 r.length (fl enc_Omap_pair__int64__api_Entry r))]) := by
 unfold omap_Map__int64__api_Entry_Copy_N at H
 refine spec_of Try.func89 rfl 26 rfl (Nat.le_of_ble_eq_true rfl) fun F w0 => ?_
 show Ent (St 26 w0 F [(0, (pt p0 0))] [(box p0 192 [(slice none 0 0)])]) _
 refine ent_seq ?_
 refine ent_region ?_
 refine ent_value (ov_assign rfl) rfl rfl rfl ?_
 refine ent_nil ?_
 refine ent_seq ?_
 refine ent_seq ?_
 refine ent_region ?_
 refine ent_value (ov_move rfl) rfl rfl rfl ?_
 refine ent_value (ov_bin rfl rfl (b_eql_of (fun w => rfl) rfl (eq_pn Try.underlying136 _ _))) rfl rfl rfl ?_
 refine ent_nil ?_
 refine ent_cond_false rfl rfl ?_
 refine ent_skip ?_
 refine ent_seq ?_
 refine ent_region ?_
 obtain ⟨u4, h6, H⟩ := thn_elim H
 refine ent_op (ot_call (Lr := [(box p0 192 [(slice none 0 0)])]) (first := []) (cap := []) (xs := []) rfl rfl F_call_81 rfl (omap_New__int64__api_Entry.spec _ h6) rfl) rfl rfl rfl ?_
 rintro _ _ ⟨_, ⟨b16, rfl, rfl⟩, rfl⟩
 refine ent_op (ot_alloc F_zero_136) rfl rfl rfl ?_
 rintro _ _ ⟨b17, rfl, rfl⟩
 refine ent_op0 (ot_storeG (cs := [(Value.pointer none)]) (cs' := [(pt b16 0)]) (us := [(pt b16 0)]) (L' := [(box b17 136 [(pt b16 0)]), (box b16 192 [(slice none 0 0)]), (box p0 192 [(slice none 0 0)])]) 0 rfl rfl rfl (one_all rfl) F_size_136 rfl rfl (by simp) rfl) rfl rfl ?_
 rintro _ _ rfl
 refine ent_nil ?_
 refine ent_seq ?_
 refine ent_seq ?_
 refine ent_region ?_
 refine ent_value (ov_move rfl) rfl rfl rfl ?_
 obtain ⟨u6, h9, H⟩ := thn_elim H
 refine ent_pick [2, 0, 1] (by decide) rfl ?_
 refine ent_op (ot_call (Lr := [(box b17 136 [(pt b16 0)]), (box b16 192 [(slice none 0 0)])]) (first := []) (cap := []) (xs := [.tmp 9]) rfl rfl F_call_91 rfl (omap_Map__int64__api_Entry_All_N.spec p0 _ h9) rfl) rfl rfl rfl ?_
 rintro _ _ ⟨_, ⟨b24, rfl, rfl⟩, rfl⟩
 refine ent_nil ?_
 refine ent_block ?_
 obtain ⟨x4, h10, H⟩ := Option.bind_eq_some_iff.1 H
 refine ent_ownnil 196 7 ?_
 refine ent_rangeY (γ := List Omap_pair__int64__api_Entry) (cap := [(pt b24 0)]) (Lg := [(box b24 190 [(slice none 0 0)])]) (M0 := [(box p0 192 [(slice none 0 0)]), (box b17 136 [(pt b16 0)]), (box b16 192 [(slice none 0 0)]), (own (slice none 0 0) 196 7 0 [])]) (x0 := ([] : List Omap_pair__int64__api_Entry)) (x1 := ([] : List Omap_pair__int64__api_Entry)) (fun (z4 : List Omap_pair__int64__api_Entry) M => ∃ sv16 : Value, M = [(box p0 192 [(slice none 0 0)]), (box b17 136 [(pt b16 0)]), (box b16 192 [sv16]), (own sv16 196 7 z4.length (fl enc_Omap_pair__int64__api_Entry z4))]) (fun vs z_ r_ => ∃ t0_ : Int, ∃ t1_ : Api_Entry, vs = [(int .i64 t0_), (agg #[(int .i64 t1_.Part.Tier), (int .i64 t1_.Part.Index), (int .i64 t1_.Seg), (int .i64 t1_.Mark), (int .i64 t1_.Rows), (bool t1_.Cold)])] ∧ omap_Map__int64__api_Entry_Copy_N_r0 K t0_ t1_ z_ = some r_) [2, 1, 3, 4, 0] rfl rfl (by decide) rfl (by decide) ⟨_, rfl⟩ ?_ ?_ ?_
 ·rintro l _ z4 r _ ⟨t0_, t1_, rfl, Hl⟩ ⟨sv16, rfl⟩
  unfold omap_Map__int64__api_Entry_Copy_N_r0 at Hl
  refine ⟨rfl, Nat, fun g_ => [(3, (pt b17 0)), (4, (int .i64 t0_)), (5, (pt g_ 0)), (11, (int .i64 t0_)), (12, (agg #[(int .i64 t1_.Part.Tier), (int .i64 t1_.Part.Index), (int .i64 t1_.Seg), (int .i64 t1_.Mark), (int .i64 t1_.Rows), (bool t1_.Cold)]))], fun g_ => [(box g_ 65 [(int .i64 t1_.Part.Tier), (int .i64 t1_.Part.Index), (int .i64 t1_.Seg), (int .i64 t1_.Mark), (int .i64 t1_.Rows), (bool t1_.Cold)]), (box p0 192 [(slice none 0 0)]), (box b17 136 [(pt b16 0)]), (box b16 192 [sv16]), (own sv16 196 7 z4.length (fl enc_Omap_pair__int64__api_Entry z4))], fun F w0 => ?_, ?_⟩
  ·refine ent_seq ?_
   refine ent_region ?_
   refine ent_value (ov_assign rfl) rfl rfl rfl ?_
   refine ent_nil ?_
   refine ent_region ?_
   refine ent_op (ot_alloc F_zero_65) rfl rfl rfl ?_
   rintro _ _ ⟨b29, rfl, rfl⟩
   refine ent_op0 (ot_storeG (cs := [(int .i64 0), (int .i64 0), (int .i64 0), (int .i64 0), (int .i64 0), (bool false)]) (cs' := [(int .i64 t1_.Part.Tier), (int .i64 t1_.Part.Index), (int .i64 t1_.Seg), (int .i64 t1_.Mark), (int .i64 t1_.Rows), (bool t1_.Cold)]) (us := [(int .i64 t1_.Part.Tier), (int .i64 t1_.Part.Index), (int .i64 t1_.Seg), (int .i64 t1_.Mark), (int .i64 t1_.Rows), (bool t1_.Cold)]) (L' := [(box b29 65 [(int .i64 t1_.Part.Tier), (int .i64 t1_.Part.Index), (int .i64 t1_.Seg), (int .i64 t1_.Mark), (int .i64 t1_.Rows), (bool t1_.Cold)]), (box p0 192 [(slice none 0 0)]), (box b17 136 [(pt b16 0)]), (box b16 192 [sv16]), (own sv16 196 7 z4.length (fl enc_Omap_pair__int64__api_Entry z4))]) 0 rfl rfl rfl (one_all rfl) F_size_65 rfl rfl (by simp) rfl) rfl rfl ?_
   rintro _ _ rfl
   refine ent_nil ?_
   exact ent_fin [0, 1, 2, 3, 4] (by decide) rfl (sub_cons (t := 3) rfl (sub_cons (t := 4) rfl (sub_cons (t := 5) rfl (sub_cons (t := 11) rfl (sub_cons (t := 12) rfl (sub_nil _)))))) fun a w h => ⟨b29, h⟩
  ·rintro b29 F w0
   show Ent (St 26 w0 F [(3, (pt b17 0)), (4, (int .i64 t0_)), (5, (pt b29 0)), (11, (int .i64 t0_)), (12, (agg #[(int .i64 t1_.Part.Tier), (int .i64 t1_.Part.Index), (int .i64 t1_.Seg), (int .i64 t1_.Mark), (int .i64 t1_.Rows), (bool t1_.Cold)]))] [(box b29 65 [(int .i64 t1_.Part.Tier), (int .i64 t1_.Part.Index), (int .i64 t1_.Seg), (int .i64 t1_.Mark), (int .i64 t1_.Rows), (bool t1_.Cold)]), (box p0 192 [(slice none 0 0)]), (box b17 136 [(pt b16 0)]), (box b16 192 [sv16]), (own sv16 196 7 z4.length (fl enc_Omap_pair__int64__api_Entry z4))]) _
   refine ent_block ?_
   by_cases c12 : (z4.length + [(⟨t0_, (⟨(⟨t1_.Part.Tier, t1_.Part.Index⟩ : Api_Part), t1_.Seg, t1_.Mark, t1_.Rows, t1_.Cold⟩ : Api_Entry)⟩ : Omap_pair__int64__api_Entry)].length) * 56 ≤ 140737488355328
   ·rw [if_pos c12] at Hl
    refine ent_ownnil 196 7 ?_
    let Z12_I : (Nat → Value) → (Nat → Bool) → Act → World → Prop := fun (ga13 : Nat → Value) done a w => StD 26 w0 F [(3, (pt b17 0)), (4, (int .i64 t0_)), (5, (pt b29 0)), (11, (int .i64 t0_)), (12, (agg #[(int .i64 t1_.Part.Tier), (int .i64 t1_.Part.Index), (int .i64 t1_.Seg), (int .i64 t1_.Mark), (int .i64 t1_.Rows), (bool t1_.Cold)]))] [(0, 13, (pt b16 0)), (1, 14, (pt b16 0)), (2, 15, (pt b16 0)), (3, 16, (pt b16 0)), (4, 17, sv16), (5, 18, (int .i64 t0_)), (6, 19, (agg #[(int .i64 t1_.Part.Tier), (int .i64 t1_.Part.Index), (int .i64 t1_.Seg), (int .i64 t1_.Mark), (int .i64 t1_.Rows), (bool t1_.Cold)])), (7, 20, (agg #[(int .i64 t0_), (int .i64 t1_.Part.Tier), (int .i64 t1_.Part.Index), (int .i64 t1_.Seg), (int .i64 t1_.Mark), (int .i64 t1_.Rows), (bool t1_.Cold)])), (8, 21, (ga13 8)), (9, 22, (ga13 9)), (10, 23, (pt b16 0)), (11, 24, (pt b16 0))] done [(sel (done 8) (own (ga13 8) 196 7 [(⟨t0_, (⟨(⟨t1_.Part.Tier, t1_.Part.Index⟩ : Api_Part), t1_.Seg, t1_.Mark, t1_.Rows, t1_.Cold⟩ : Api_Entry)⟩ : Omap_pair__int64__api_Entry)].length (fl enc_Omap_pair__int64__api_Entry [(⟨t0_, (⟨(⟨t1_.Part.Tier, t1_.Part.Index⟩ : Api_Part), t1_.Seg, t1_.Mark, t1_.Rows, t1_.Cold⟩ : Api_Entry)⟩ : Omap_pair__int64__api_Entry)])) emp), (own (slice none 0 0) 196 7 ([] : List Omap_pair__int64__api_Entry).length (fl enc_Omap_pair__int64__api_Entry ([] : List Omap_pair__int64__api_Entry))), (box b29 65 [(int .i64 t1_.Part.Tier), (int .i64 t1_.Part.Index), (int .i64 t1_.Seg), (int .i64 t1_.Mark), (int .i64 t1_.Rows), (bool t1_.Cold)]), (box p0 192 [(slice none 0 0)]), (box b17 136 [(pt b16 0)]), (sel (done 12) (box b16 192 [(ga13 9)]) (box b16 192 [sv16])), (sel (done 9) (own (ga13 9) 196 7 (z4 ++ [(⟨t0_, (⟨(⟨t1_.Part.Tier, t1_.Part.Index⟩ : Api_Part), t1_.Seg, t1_.Mark, t1_.Rows, t1_.Cold⟩ : Api_Entry)⟩ : Omap_pair__int64__api_Entry)]).length (fl enc_Omap_pair__int64__api_Entry (z4 ++ [(⟨t0_, (⟨(⟨t1_.Part.Tier, t1_.Part.Index⟩ : Api_Part), t1_.Seg, t1_.Mark, t1_.Rows, t1_.Cold⟩ : Api_Entry)⟩ : Omap_pair__int64__api_Entry)]))) (own sv16 196 7 z4.length (fl enc_Omap_pair__int64__api_Entry z4)))] a w
    refine ent_drawm 13 rfl (fun done a w => ∃ ga13 : Nat → Value, Z12_I ga13 done a w) (by kernel_rfl) (by kernel_rfl) (draw_startG (T := (fun ga13 : Nat → Value => [(0, 13, (pt b16 0)), (1, 14, (pt b16 0)), (2, 15, (pt b16 0)), (3, 16, (pt b16 0)), (4, 17, sv16), (5, 18, (int .i64 t0_)), (6, 19, (agg #[(int .i64 t1_.Part.Tier), (int .i64 t1_.Part.Index), (int .i64 t1_.Seg), (int .i64 t1_.Mark), (int .i64 t1_.Rows), (bool t1_.Cold)])), (7, 20, (agg #[(int .i64 t0_), (int .i64 t1_.Part.Tier), (int .i64 t1_.Part.Index), (int .i64 t1_.Seg), (int .i64 t1_.Mark), (int .i64 t1_.Rows), (bool t1_.Cold)])), (8, 21, (ga13 8)), (9, 22, (ga13 9)), (10, 23, (pt b16 0)), (11, 24, (pt b16 0))])) (L' := fun ga13 : Nat → Value => [(sel false (own (ga13 8) 196 7 [(⟨t0_, (⟨(⟨t1_.Part.Tier, t1_.Part.Index⟩ : Api_Part), t1_.Seg, t1_.Mark, t1_.Rows, t1_.Cold⟩ : Api_Entry)⟩ : Omap_pair__int64__api_Entry)].length (fl enc_Omap_pair__int64__api_Entry [(⟨t0_, (⟨(⟨t1_.Part.Tier, t1_.Part.Index⟩ : Api_Part), t1_.Seg, t1_.Mark, t1_.Rows, t1_.Cold⟩ : Api_Entry)⟩ : Omap_pair__int64__api_Entry)])) emp), (own (slice none 0 0) 196 7 ([] : List Omap_pair__int64__api_Entry).length (fl enc_Omap_pair__int64__api_Entry ([] : List Omap_pair__int64__api_Entry))), (box b29 65 [(int .i64 t1_.Part.Tier), (int .i64 t1_.Part.Index), (int .i64 t1_.Seg), (int .i64 t1_.Mark), (int .i64 t1_.Rows), (bool t1_.Cold)]), (box p0 192 [(slice none 0 0)]), (box b17 136 [(pt b16 0)]), (sel false (box b16 192 [(ga13 9)]) (box b16 192 [sv16])), (sel false (own (ga13 9) 196 7 (z4 ++ [(⟨t0_, (⟨(⟨t1_.Part.Tier, t1_.Part.Index⟩ : Api_Part), t1_.Seg, t1_.Mark, t1_.Rows, t1_.Cold⟩ : Api_Entry)⟩ : Omap_pair__int64__api_Entry)]).length (fl enc_Omap_pair__int64__api_Entry (z4 ++ [(⟨t0_, (⟨(⟨t1_.Part.Tier, t1_.Part.Index⟩ : Api_Part), t1_.Seg, t1_.Mark, t1_.Rows, t1_.Cold⟩ : Api_Entry)⟩ : Omap_pair__int64__api_Entry)]))) (own sv16 196 7 z4.length (fl enc_Omap_pair__int64__api_Entry z4)))]) 1 (sub_cons (t := 3) rfl (sub_cons (t := 4) rfl (sub_cons (t := 5) rfl (sub_cons (t := 11) rfl (sub_cons (t := 12) rfl (sub_nil _)))))) (fun _ => rfl)) ?_ ?_
    ·refine ⟨?_, ?_, ?_, ?_, ?_, ?_, ?_, ?_, ?_, ?_, ?_, ?_, ?_, trivial⟩
     ·intro done hi hc hcu
      refine draw_exi (I := Z12_I) fun ga13 => ?_
      exact draw_value (i := 0) (t := 13) (v := (pt b16 0)) rfl rfl (wanted_none rfl) (fun a => hasA_base) (ov_load (v := (pt b16 0)) rfl F_agg_136 (reads_box1 (i := 4) rfl rfl)) rfl rfl (onlyT_spec (k0 := 0) rfl rfl rfl)
     ·intro done hi hc hcu
      refine draw_exi (I := Z12_I) fun ga13 => ?_
      exact draw_value (i := 1) (t := 14) (v := (pt b16 0)) rfl rfl (wanted_none rfl) (fun a => hasA_base) (ov_load (v := (pt b16 0)) rfl F_agg_136 (reads_box1 (i := 4) rfl rfl)) rfl rfl (onlyT_spec (k0 := 1) rfl rfl rfl)
     ·intro done hi hc hcu
      refine draw_exi (I := Z12_I) fun ga13 => ?_
      have d1 : done 1 = true := done_of (j := 1) hcu rfl (by decide) rfl
      have n12 : done 12 = false := notdone_of (m := 12) hc hi rfl rfl
      exact draw_value (i := 2) (t := 15) (v := (pt b16 0)) rfl rfl (wanted_none rfl) (fun a => (hasA_cons (k := 1) rfl d1 hasA_base)) (ov_L (L2 := [(sel (done 8) (own (ga13 8) 196 7 [(⟨t0_, (⟨(⟨t1_.Part.Tier, t1_.Part.Index⟩ : Api_Part), t1_.Seg, t1_.Mark, t1_.Rows, t1_.Cold⟩ : Api_Entry)⟩ : Omap_pair__int64__api_Entry)].length (fl enc_Omap_pair__int64__api_Entry [(⟨t0_, (⟨(⟨t1_.Part.Tier, t1_.Part.Index⟩ : Api_Part), t1_.Seg, t1_.Mark, t1_.Rows, t1_.Cold⟩ : Api_Entry)⟩ : Omap_pair__int64__api_Entry)])) emp), (own (slice none 0 0) 196 7 ([] : List Omap_pair__int64__api_Entry).length (fl enc_Omap_pair__int64__api_Entry ([] : List Omap_pair__int64__api_Entry))), (box b29 65 [(int .i64 t1_.Part.Tier), (int .i64 t1_.Part.Index), (int .i64 t1_.Seg), (int .i64 t1_.Mark), (int .i64 t1_.Rows), (bool t1_.Cold)]), (box p0 192 [(slice none 0 0)]), (box b17 136 [(pt b16 0)]), (box b16 192 [sv16]), (sel (done 9) (own (ga13 9) 196 7 (z4 ++ [(⟨t0_, (⟨(⟨t1_.Part.Tier, t1_.Part.Index⟩ : Api_Part), t1_.Seg, t1_.Mark, t1_.Rows, t1_.Cold⟩ : Api_Entry)⟩ : Omap_pair__int64__api_Entry)]).length (fl enc_Omap_pair__int64__api_Entry (z4 ++ [(⟨t0_, (⟨(⟨t1_.Part.Tier, t1_.Part.Index⟩ : Api_Part), t1_.Seg, t1_.Mark, t1_.Rows, t1_.Cold⟩ : Api_Entry)⟩ : Omap_pair__int64__api_Entry)]))) (own sv16 196 7 z4.length (fl enc_Omap_pair__int64__api_Entry z4)))]) (by simp only [n12, sel]) (ov_nilCheck rfl)) rfl rfl (onlyT_spec (k0 := 2) rfl rfl rfl)
     ·intro done hi hc hcu
      refine draw_exi (I := Z12_I) fun ga13 => ?_
      have d2 : done 2 = true := done_of (j := 2) hcu rfl (by decide) rfl
      have n12 : done 12 = false := notdone_of (m := 12) hc hi rfl rfl
      exact draw_value (i := 3) (t := 16) (v := (pt b16 0)) rfl rfl (wanted_none rfl) (fun a => (hasA_cons (k := 2) rfl d2 hasA_base)) (ov_L (L2 := [(sel (done 8) (own (ga13 8) 196 7 [(⟨t0_, (⟨(⟨t1_.Part.Tier, t1_.Part.Index⟩ : Api_Part), t1_.Seg, t1_.Mark, t1_.Rows, t1_.Cold⟩ : Api_Entry)⟩ : Omap_pair__int64__api_Entry)].length (fl enc_Omap_pair__int64__api_Entry [(⟨t0_, (⟨(⟨t1_.Part.Tier, t1_.Part.Index⟩ : Api_Part), t1_.Seg, t1_.Mark, t1_.Rows, t1_.Cold⟩ : Api_Entry)⟩ : Omap_pair__int64__api_Entry)])) emp), (own (slice none 0 0) 196 7 ([] : List Omap_pair__int64__api_Entry).length (fl enc_Omap_pair__int64__api_Entry ([] : List Omap_pair__int64__api_Entry))), (box b29 65 [(int .i64 t1_.Part.Tier), (int .i64 t1_.Part.Index), (int .i64 t1_.Seg), (int .i64 t1_.Mark), (int .i64 t1_.Rows), (bool t1_.Cold)]), (box p0 192 [(slice none 0 0)]), (box b17 136 [(pt b16 0)]), (box b16 192 [sv16]), (sel (done 9) (own (ga13 9) 196 7 (z4 ++ [(⟨t0_, (⟨(⟨t1_.Part.Tier, t1_.Part.Index⟩ : Api_Part), t1_.Seg, t1_.Mark, t1_.Rows, t1_.Cold⟩ : Api_Entry)⟩ : Omap_pair__int64__api_Entry)]).length (fl enc_Omap_pair__int64__api_Entry (z4 ++ [(⟨t0_, (⟨(⟨t1_.Part.Tier, t1_.Part.Index⟩ : Api_Part), t1_.Seg, t1_.Mark, t1_.Rows, t1_.Cold⟩ : Api_Entry)⟩ : Omap_pair__int64__api_Entry)]))) (own sv16 196 7 z4.length (fl enc_Omap_pair__int64__api_Entry z4)))]) (by simp only [n12, sel]) (ov_fieldAddr (sz := 0) (o := 0) rfl F_field_192_0 F_size_190)) rfl rfl (onlyT_spec (k0 := 3) rfl rfl rfl)
     ·intro done hi hc hcu
      refine draw_exi (I := Z12_I) fun ga13 => ?_
      have d3 : done 3 = true := done_of (j := 3) hcu rfl (by decide) rfl
      have n12 : done 12 = false := notdone_of (m := 12) hc hi rfl rfl
      exact draw_value (i := 4) (t := 17) (v := sv16) rfl rfl (wanted_none rfl) (fun a => (hasA_cons (k := 3) rfl d3 hasA_base)) (ov_L (L2 := [(sel (done 8) (own (ga13 8) 196 7 [(⟨t0_, (⟨(⟨t1_.Part.Tier, t1_.Part.Index⟩ : Api_Part), t1_.Seg, t1_.Mark, t1_.Rows, t1_.Cold⟩ : Api_Entry)⟩ : Omap_pair__int64__api_Entry)].length (fl enc_Omap_pair__int64__api_Entry [(⟨t0_, (⟨(⟨t1_.Part.Tier, t1_.Part.Index⟩ : Api_Part), t1_.Seg, t1_.Mark, t1_.Rows, t1_.Cold⟩ : Api_Entry)⟩ : Omap_pair__int64__api_Entry)])) emp), (own (slice none 0 0) 196 7 ([] : List Omap_pair__int64__api_Entry).length (fl enc_Omap_pair__int64__api_Entry ([] : List Omap_pair__int64__api_Entry))), (box b29 65 [(int .i64 t1_.Part.Tier), (int .i64 t1_.Part.Index), (int .i64 t1_.Seg), (int .i64 t1_.Mark), (int .i64 t1_.Rows), (bool t1_.Cold)]), (box p0 192 [(slice none 0 0)]), (box b17 136 [(pt b16 0)]), (box b16 192 [sv16]), (sel (done 9) (own (ga13 9) 196 7 (z4 ++ [(⟨t0_, (⟨(⟨t1_.Part.Tier, t1_.Part.Index⟩ : Api_Part), t1_.Seg, t1_.Mark, t1_.Rows, t1_.Cold⟩ : Api_Entry)⟩ : Omap_pair__int64__api_Entry)]).length (fl enc_Omap_pair__int64__api_Entry (z4 ++ [(⟨t0_, (⟨(⟨t1_.Part.Tier, t1_.Part.Index⟩ : Api_Part), t1_.Seg, t1_.Mark, t1_.Rows, t1_.Cold⟩ : Api_Entry)⟩ : Omap_pair__int64__api_Entry)]))) (own sv16 196 7 z4.length (fl enc_Omap_pair__int64__api_Entry z4)))]) (by simp only [n12, sel]) (ov_load (v := sv16) rfl F_agg_190 (reads_box1 (i := 5) rfl rfl))) rfl rfl (onlyT_spec (k0 := 4) rfl rfl rfl)
     ·intro done hi hc hcu
      refine draw_exi (I := Z12_I) fun ga13 => ?_
      exact draw_value (i := 5) (t := 18) (v := (int .i64 t0_)) rfl rfl (wanted_none rfl) (fun a => hasA_base) (ov_move rfl) rfl rfl (onlyT_spec (k0 := 5) rfl rfl rfl)
     ·intro done hi hc hcu
      refine draw_exi (I := Z12_I) fun ga13 => ?_
      exact draw_value (i := 6) (t := 19) (v := (agg #[(int .i64 t1_.Part.Tier), (int .i64 t1_.Part.Index), (int .i64 t1_.Seg), (int .i64 t1_.Mark), (int .i64 t1_.Rows), (bool t1_.Cold)])) rfl rfl (wanted_none rfl) (fun a => hasA_base) (ov_load_agg (vs := [(int .i64 t1_.Part.Tier), (int .i64 t1_.Part.Index), (int .i64 t1_.Seg), (int .i64 t1_.Mark), (int .i64 t1_.Rows), (bool t1_.Cold)]) rfl F_agg_65 F_size_65 (reads_boxW (i := 2) rfl)) rfl rfl (onlyT_spec (k0 := 6) rfl rfl rfl)
     ·intro done hi hc hcu
      refine draw_exi (I := Z12_I) fun ga13 => ?_
      have d5 : done 5 = true := done_of (j := 5) hcu rfl (by decide) rfl
      have d6 : done 6 = true := done_of (j := 6) hcu rfl (by decide) rfl
      exact draw_value (i := 7) (t := 20) (v := (agg #[(int .i64 t0_), (int .i64 t1_.Part.Tier), (int .i64 t1_.Part.Index), (int .i64 t1_.Seg), (int .i64 t1_.Mark), (int .i64 t1_.Rows), (bool t1_.Cold)])) rfl rfl (wanted_none rfl) (fun a => (hasA_cons (k := 6) rfl d6 (hasA_cons (k := 5) rfl d5 hasA_base))) (ov_build (is := [0, 1]) (xs := [.tmp 18, .tmp 19]) (vs := [(int .i64 t0_), (agg #[(int .i64 t1_.Part.Tier), (int .i64 t1_.Part.Index), (int .i64 t1_.Seg), (int .i64 t1_.Mark), (int .i64 t1_.Rows), (bool t1_.Cold)])]) rfl rfl (build_struct (cs := [(int .i64 t0_), (int .i64 t1_.Part.Tier), (int .i64 t1_.Part.Index), (int .i64 t1_.Seg), (int .i64 t1_.Mark), (int .i64 t1_.Rows), (bool t1_.Cold)]) F_zero_196 F_places_196 (by simp [Instr.fill, cells_int, cells_bool, cells_str, cells_func, cells_slice, cells_ptr, cells_nilFunc, cells_agg, ]))) rfl rfl (onlyT_spec (k0 := 7) rfl rfl rfl)
     ·intro done hi hc hcu
      refine ent_exi (S := fun ga13 => Z12_I ga13 done) fun ga13 => ?_
      have d7 : done 7 = true := done_of (j := 7) hcu rfl (by decide) rfl
      refine draw_newV (i := 8) (t := 21) (x := ga13) (L := (fun (ga13 : Nat → Value) (done : Nat → Bool) => [(sel (done 8) (own (ga13 8) 196 7 [(⟨t0_, (⟨(⟨t1_.Part.Tier, t1_.Part.Index⟩ : Api_Part), t1_.Seg, t1_.Mark, t1_.Rows, t1_.Cold⟩ : Api_Entry)⟩ : Omap_pair__int64__api_Entry)].length (fl enc_Omap_pair__int64__api_Entry [(⟨t0_, (⟨(⟨t1_.Part.Tier, t1_.Part.Index⟩ : Api_Part), t1_.Seg, t1_.Mark, t1_.Rows, t1_.Cold⟩ : Api_Entry)⟩ : Omap_pair__int64__api_Entry)])) emp), (own (slice none 0 0) 196 7 ([] : List Omap_pair__int64__api_Entry).length (fl enc_Omap_pair__int64__api_Entry ([] : List Omap_pair__int64__api_Entry))), (box b29 65 [(int .i64 t1_.Part.Tier), (int .i64 t1_.Part.Index), (int .i64 t1_.Seg), (int .i64 t1_.Mark), (int .i64 t1_.Rows), (bool t1_.Cold)]), (box p0 192 [(slice none 0 0)]), (box b17 136 [(pt b16 0)]), (sel (done 12) (box b16 192 [(ga13 9)]) (box b16 192 [sv16])), (sel (done 9) (own (ga13 9) 196 7 (z4 ++ [(⟨t0_, (⟨(⟨t1_.Part.Tier, t1_.Part.Index⟩ : Api_Part), t1_.Seg, t1_.Mark, t1_.Rows, t1_.Cold⟩ : Api_Entry)⟩ : Omap_pair__int64__api_Entry)]).length (fl enc_Omap_pair__int64__api_Entry (z4 ++ [(⟨t0_, (⟨(⟨t1_.Part.Tier, t1_.Part.Index⟩ : Api_Part), t1_.Seg, t1_.Mark, t1_.Rows, t1_.Cold⟩ : Api_Entry)⟩ : Omap_pair__int64__api_Entry)]))) (own sv16 196 7 z4.length (fl enc_Omap_pair__int64__api_Entry z4)))])) (T := (fun ga13 : Nat → Value => [(0, 13, (pt b16 0)), (1, 14, (pt b16 0)), (2, 15, (pt b16 0)), (3, 16, (pt b16 0)), (4, 17, sv16), (5, 18, (int .i64 t0_)), (6, 19, (agg #[(int .i64 t1_.Part.Tier), (int .i64 t1_.Part.Index), (int .i64 t1_.Seg), (int .i64 t1_.Mark), (int .i64 t1_.Rows), (bool t1_.Cold)])), (7, 20, (agg #[(int .i64 t0_), (int .i64 t1_.Part.Tier), (int .i64 t1_.Part.Index), (int .i64 t1_.Seg), (int .i64 t1_.Mark), (int .i64 t1_.Rows), (bool t1_.Cold)])), (8, 21, (ga13 8)), (9, 22, (ga13 9)), (10, 23, (pt b16 0)), (11, 24, (pt b16 0))])) (L2 := [emp, (own (slice none 0 0) 196 7 ([] : List Omap_pair__int64__api_Entry).length (fl enc_Omap_pair__int64__api_Entry ([] : List Omap_pair__int64__api_Entry))), (box b29 65 [(int .i64 t1_.Part.Tier), (int .i64 t1_.Part.Index), (int .i64 t1_.Seg), (int .i64 t1_.Mark), (int .i64 t1_.Rows), (bool t1_.Cold)]), (box p0 192 [(slice none 0 0)]), (box b17 136 [(pt b16 0)]), (sel (done 12) (box b16 192 [(ga13 9)]) (box b16 192 [sv16])), (sel (done 9) (own (ga13 9) 196 7 (z4 ++ [(⟨t0_, (⟨(⟨t1_.Part.Tier, t1_.Part.Index⟩ : Api_Part), t1_.Seg, t1_.Mark, t1_.Rows, t1_.Cold⟩ : Api_Entry)⟩ : Omap_pair__int64__api_Entry)]).length (fl enc_Omap_pair__int64__api_Entry (z4 ++ [(⟨t0_, (⟨(⟨t1_.Part.Tier, t1_.Part.Index⟩ : Api_Part), t1_.Seg, t1_.Mark, t1_.Rows, t1_.Cold⟩ : Api_Entry)⟩ : Omap_pair__int64__api_Entry)]))) (own sv16 196 7 z4.length (fl enc_Omap_pair__int64__api_Entry z4)))]) (B := fun v_ => (own v_ 196 7 [(⟨t0_, (⟨(⟨t1_.Part.Tier, t1_.Part.Index⟩ : Api_Part), t1_.Seg, t1_.Mark, t1_.Rows, t1_.Cold⟩ : Api_Entry)⟩ : Omap_pair__int64__api_Entry)].length (fl enc_Omap_pair__int64__api_Entry [(⟨t0_, (⟨(⟨t1_.Part.Tier, t1_.Part.Index⟩ : Api_Part), t1_.Seg, t1_.Mark, t1_.Rows, t1_.Cold⟩ : Api_Entry)⟩ : Omap_pair__int64__api_Entry)]))) 0 rfl rfl (wanted_none rfl) (fun a => (hasA_cons (k := 7) rfl d7 hasA_base)) (by simp only [hi, sel]) (ot_buildSlice (sz := 6) (xs := [.tmp 20]) (cs := fl enc_Omap_pair__int64__api_Entry [(⟨t0_, (⟨(⟨t1_.Part.Tier, t1_.Part.Index⟩ : Api_Part), t1_.Seg, t1_.Mark, t1_.Rows, t1_.Cold⟩ : Api_Entry)⟩ : Omap_pair__int64__api_Entry)]) rfl rfl F_slice_190 F_size_196 F_zero_196 rfl rfl (all_size rfl) rfl (by decide)) ?_ rfl (fun v_ => ?_) rfl rfl ?_
      ·rintro _ _ rfl; rfl
      ·simp [up, upb, sel, hi]
      ·rintro _ _ rfl
       exact (tr_same rfl rfl (tr_same rfl rfl (tr_same rfl rfl (tr_same rfl rfl (tr_same rfl rfl (tr_same rfl rfl (tr_same rfl rfl (tr_same rfl rfl (tr_this (tr_same rfl rfl (tr_same rfl rfl (tr_same rfl rfl tr_nil))))))))))))
     ·intro done hi hc hcu
      refine ent_exi (S := fun ga13 => Z12_I ga13 done) fun ga13 => ?_
      have d4 : done 4 = true := done_of (j := 4) hcu rfl (by decide) rfl
      have d8 : done 8 = true := done_of (j := 8) hcu rfl (by decide) rfl
      have n12 : done 12 = false := notdone_of (m := 12) hc hi rfl rfl
      exact draw_turnI (i := 9) (t := 22) (x := ga13) (L := (fun (ga13 : Nat → Value) (done : Nat → Bool) => [(sel (done 8) (own (ga13 8) 196 7 [(⟨t0_, (⟨(⟨t1_.Part.Tier, t1_.Part.Index⟩ : Api_Part), t1_.Seg, t1_.Mark, t1_.Rows, t1_.Cold⟩ : Api_Entry)⟩ : Omap_pair__int64__api_Entry)].length (fl enc_Omap_pair__int64__api_Entry [(⟨t0_, (⟨(⟨t1_.Part.Tier, t1_.Part.Index⟩ : Api_Part), t1_.Seg, t1_.Mark, t1_.Rows, t1_.Cold⟩ : Api_Entry)⟩ : Omap_pair__int64__api_Entry)])) emp), (own (slice none 0 0) 196 7 ([] : List Omap_pair__int64__api_Entry).length (fl enc_Omap_pair__int64__api_Entry ([] : List Omap_pair__int64__api_Entry))), (box b29 65 [(int .i64 t1_.Part.Tier), (int .i64 t1_.Part.Index), (int .i64 t1_.Seg), (int .i64 t1_.Mark), (int .i64 t1_.Rows), (bool t1_.Cold)]), (box p0 192 [(slice none 0 0)]), (box b17 136 [(pt b16 0)]), (sel (done 12) (box b16 192 [(ga13 9)]) (box b16 192 [sv16])), (sel (done 9) (own (ga13 9) 196 7 (z4 ++ [(⟨t0_, (⟨(⟨t1_.Part.Tier, t1_.Part.Index⟩ : Api_Part), t1_.Seg, t1_.Mark, t1_.Rows, t1_.Cold⟩ : Api_Entry)⟩ : Omap_pair__int64__api_Entry)]).length (fl enc_Omap_pair__int64__api_Entry (z4 ++ [(⟨t0_, (⟨(⟨t1_.Part.Tier, t1_.Part.Index⟩ : Api_Part), t1_.Seg, t1_.Mark, t1_.Rows, t1_.Cold⟩ : Api_Entry)⟩ : Omap_pair__int64__api_Entry)]))) (own sv16 196 7 z4.length (fl enc_Omap_pair__int64__api_Entry z4)))])) (T := (fun ga13 : Nat → Value => [(0, 13, (pt b16 0)), (1, 14, (pt b16 0)), (2, 15, (pt b16 0)), (3, 16, (pt b16 0)), (4, 17, sv16), (5, 18, (int .i64 t0_)), (6, 19, (agg #[(int .i64 t1_.Part.Tier), (int .i64 t1_.Part.Index), (int .i64 t1_.Seg), (int .i64 t1_.Mark), (int .i64 t1_.Rows), (bool t1_.Cold)])), (7, 20, (agg #[(int .i64 t0_), (int .i64 t1_.Part.Tier), (int .i64 t1_.Part.Index), (int .i64 t1_.Seg), (int .i64 t1_.Mark), (int .i64 t1_.Rows), (bool t1_.Cold)])), (8, 21, (ga13 8)), (9, 22, (ga13 9)), (10, 23, (pt b16 0)), (11, 24, (pt b16 0))])) (L2 := [(own (ga13 8) 196 7 [(⟨t0_, (⟨(⟨t1_.Part.Tier, t1_.Part.Index⟩ : Api_Part), t1_.Seg, t1_.Mark, t1_.Rows, t1_.Cold⟩ : Api_Entry)⟩ : Omap_pair__int64__api_Entry)].length (fl enc_Omap_pair__int64__api_Entry [(⟨t0_, (⟨(⟨t1_.Part.Tier, t1_.Part.Index⟩ : Api_Part), t1_.Seg, t1_.Mark, t1_.Rows, t1_.Cold⟩ : Api_Entry)⟩ : Omap_pair__int64__api_Entry)])), (own (slice none 0 0) 196 7 ([] : List Omap_pair__int64__api_Entry).length (fl enc_Omap_pair__int64__api_Entry ([] : List Omap_pair__int64__api_Entry))), (box b29 65 [(int .i64 t1_.Part.Tier), (int .i64 t1_.Part.Index), (int .i64 t1_.Seg), (int .i64 t1_.Mark), (int .i64 t1_.Rows), (bool t1_.Cold)]), (box p0 192 [(slice none 0 0)]), (box b17 136 [(pt b16 0)]), (box b16 192 [sv16]), (own sv16 196 7 z4.length (fl enc_Omap_pair__int64__api_Entry z4))]) rfl rfl (wanted_none rfl) (fun a => (hasA_cons (k := 8) rfl d8 (hasA_cons (k := 4) rfl d4 hasA_base))) (by simp only [d8, n12, hi, sel]) (ot_appendx (sz := 6) (xs := z4) (ys := [(⟨t0_, (⟨(⟨t1_.Part.Tier, t1_.Part.Index⟩ : Api_Part), t1_.Seg, t1_.Mark, t1_.Rows, t1_.Cold⟩ : Api_Entry)⟩ : Omap_pair__int64__api_Entry)]) 6 0 rfl rfl F_slice_190 F_size_196 F_zero_196 rfl F_bytes_196 rfl rfl rfl (isRd_ownx 196) rfl enc_Omap_pair__int64__api_Entry_one c12) rfl rfl fun v_ M_ hM_ => ⟨upb ga13 9 v_, hM_.trans (show [(own (ga13 8) 196 7 [(⟨t0_, (⟨(⟨t1_.Part.Tier, t1_.Part.Index⟩ : Api_Part), t1_.Seg, t1_.Mark, t1_.Rows, t1_.Cold⟩ : Api_Entry)⟩ : Omap_pair__int64__api_Entry)].length (fl enc_Omap_pair__int64__api_Entry [(⟨t0_, (⟨(⟨t1_.Part.Tier, t1_.Part.Index⟩ : Api_Part), t1_.Seg, t1_.Mark, t1_.Rows, t1_.Cold⟩ : Api_Entry)⟩ : Omap_pair__int64__api_Entry)])), (own (slice none 0 0) 196 7 ([] : List Omap_pair__int64__api_Entry).length (fl enc_Omap_pair__int64__api_Entry ([] : List Omap_pair__int64__api_Entry))), (box b29 65 [(int .i64 t1_.Part.Tier), (int .i64 t1_.Part.Index), (int .i64 t1_.Seg), (int .i64 t1_.Mark), (int .i64 t1_.Rows), (bool t1_.Cold)]), (box p0 192 [(slice none 0 0)]), (box b17 136 [(pt b16 0)]), (box b16 192 [sv16]), (own v_ 196 7 (z4 ++ [(⟨t0_, (⟨(⟨t1_.Part.Tier, t1_.Part.Index⟩ : Api_Part), t1_.Seg, t1_.Mark, t1_.Rows, t1_.Cold⟩ : Api_Entry)⟩ : Omap_pair__int64__api_Entry)]).length (fl enc_Omap_pair__int64__api_Entry (z4 ++ [(⟨t0_, (⟨(⟨t1_.Part.Tier, t1_.Part.Index⟩ : Api_Part), t1_.Seg, t1_.Mark, t1_.Rows, t1_.Cold⟩ : Api_Entry)⟩ : Omap_pair__int64__api_Entry)])))] = _ by simp [up, upb, sel, d8, n12, n12, hi]), (tr_same rfl rfl (tr_same rfl rfl (tr_same rfl rfl (tr_same rfl rfl (tr_same rfl rfl (tr_same rfl rfl (tr_same rfl rfl (tr_same rfl rfl (tr_same rfl rfl (tr_this (tr_same rfl rfl (tr_same rfl rfl tr_nil))))))))))))⟩
     ·intro done hi hc hcu
      refine draw_exi (I := Z12_I) fun ga13 => ?_
      have d0 : done 0 = true := done_of (j := 0) hcu rfl (by decide) rfl
      have n11 : done 11 = false := notdone_of (m := 11) hc hi rfl rfl
      have n12 : done 12 = false := notdone_of (m := 12) hc n11 rfl rfl
      exact draw_value (i := 10) (t := 23) (v := (pt b16 0)) rfl rfl (wanted_none rfl) (fun a => (hasA_cons (k := 0) rfl d0 hasA_base)) (ov_L (L2 := [(sel (done 8) (own (ga13 8) 196 7 [(⟨t0_, (⟨(⟨t1_.Part.Tier, t1_.Part.Index⟩ : Api_Part), t1_.Seg, t1_.Mark, t1_.Rows, t1_.Cold⟩ : Api_Entry)⟩ : Omap_pair__int64__api_Entry)].length (fl enc_Omap_pair__int64__api_Entry [(⟨t0_, (⟨(⟨t1_.Part.Tier, t1_.Part.Index⟩ : Api_Part), t1_.Seg, t1_.Mark, t1_.Rows, t1_.Cold⟩ : Api_Entry)⟩ : Omap_pair__int64__api_Entry)])) emp), (own (slice none 0 0) 196 7 ([] : List Omap_pair__int64__api_Entry).length (fl enc_Omap_pair__int64__api_Entry ([] : List Omap_pair__int64__api_Entry))), (box b29 65 [(int .i64 t1_.Part.Tier), (int .i64 t1_.Part.Index), (int .i64 t1_.Seg), (int .i64 t1_.Mark), (int .i64 t1_.Rows), (bool t1_.Cold)]), (box p0 192 [(slice none 0 0)]), (box b17 136 [(pt b16 0)]), (box b16 192 [sv16]), (sel (done 9) (own (ga13 9) 196 7 (z4 ++ [(⟨t0_, (⟨(⟨t1_.Part.Tier, t1_.Part.Index⟩ : Api_Part), t1_.Seg, t1_.Mark, t1_.Rows, t1_.Cold⟩ : Api_Entry)⟩ : Omap_pair__int64__api_Entry)]).length (fl enc_Omap_pair__int64__api_Entry (z4 ++ [(⟨t0_, (⟨(⟨t1_.Part.Tier, t1_.Part.Index⟩ : Api_Part), t1_.Seg, t1_.Mark, t1_.Rows, t1_.Cold⟩ : Api_Entry)⟩ : Omap_pair__int64__api_Entry)]))) (own sv16 196 7 z4.length (fl enc_Omap_pair__int64__api_Entry z4)))]) (by simp only [n12, sel]) (ov_nilCheck rfl)) rfl rfl (onlyT_spec (k0 := 10) rfl rfl rfl)
     ·intro done hi hc hcu
      refine draw_exi (I := Z12_I) fun ga13 => ?_
      have d10 : done 10 = true := done_of (j := 10) hcu rfl (by decide) rfl
      have n12 : done 12 = false := notdone_of (m := 12) hc hi rfl rfl
      exact draw_value (i := 11) (t := 24) (v := (pt b16 0)) rfl rfl (wanted_none rfl) (fun a => (hasA_cons (k := 10) rfl d10 hasA_base)) (ov_L (L2 := [(sel (done 8) (own (ga13 8) 196 7 [(⟨t0_, (⟨(⟨t1_.Part.Tier, t1_.Part.Index⟩ : Api_Part), t1_.Seg, t1_.Mark, t1_.Rows, t1_.Cold⟩ : Api_Entry)⟩ : Omap_pair__int64__api_Entry)].length (fl enc_Omap_pair__int64__api_Entry [(⟨t0_, (⟨(⟨t1_.Part.Tier, t1_.Part.Index⟩ : Api_Part), t1_.Seg, t1_.Mark, t1_.Rows, t1_.Cold⟩ : Api_Entry)⟩ : Omap_pair__int64__api_Entry)])) emp), (own (slice none 0 0) 196 7 ([] : List Omap_pair__int64__api_Entry).length (fl enc_Omap_pair__int64__api_Entry ([] : List Omap_pair__int64__api_Entry))), (box b29 65 [(int .i64 t1_.Part.Tier), (int .i64 t1_.Part.Index), (int .i64 t1_.Seg), (int .i64 t1_.Mark), (int .i64 t1_.Rows), (bool t1_.Cold)]), (box p0 192 [(slice none 0 0)]), (box b17 136 [(pt b16 0)]), (box b16 192 [sv16]), (sel (done 9) (own (ga13 9) 196 7 (z4 ++ [(⟨t0_, (⟨(⟨t1_.Part.Tier, t1_.Part.Index⟩ : Api_Part), t1_.Seg, t1_.Mark, t1_.Rows, t1_.Cold⟩ : Api_Entry)⟩ : Omap_pair__int64__api_Entry)]).length (fl enc_Omap_pair__int64__api_Entry (z4 ++ [(⟨t0_, (⟨(⟨t1_.Part.Tier, t1_.Part.Index⟩ : Api_Part), t1_.Seg, t1_.Mark, t1_.Rows, t1_.Cold⟩ : Api_Entry)⟩ : Omap_pair__int64__api_Entry)]))) (own sv16 196 7 z4.length (fl enc_Omap_pair__int64__api_Entry z4)))]) (by simp only [n12, sel]) (ov_fieldAddr (sz := 0) (o := 0) rfl F_field_192_0 F_size_190)) rfl rfl (onlyT_spec (k0 := 11) rfl rfl rfl)
     ·intro done hi hc hcu
      refine draw_exi (I := Z12_I) fun ga13 => ?_
      have d11 : done 11 = true := done_of (j := 11) hcu rfl (by decide) rfl
      have d9 : done 9 = true := done_of (j := 9) hcu rfl (by decide) rfl
      exact draw_store (i := 12) (L2 := [(sel (done 8) (own (ga13 8) 196 7 [(⟨t0_, (⟨(⟨t1_.Part.Tier, t1_.Part.Index⟩ : Api_Part), t1_.Seg, t1_.Mark, t1_.Rows, t1_.Cold⟩ : Api_Entry)⟩ : Omap_pair__int64__api_Entry)].length (fl enc_Omap_pair__int64__api_Entry [(⟨t0_, (⟨(⟨t1_.Part.Tier, t1_.Part.Index⟩ : Api_Part), t1_.Seg, t1_.Mark, t1_.Rows, t1_.Cold⟩ : Api_Entry)⟩ : Omap_pair__int64__api_Entry)])) emp), (own (slice none 0 0) 196 7 ([] : List Omap_pair__int64__api_Entry).length (fl enc_Omap_pair__int64__api_Entry ([] : List Omap_pair__int64__api_Entry))), (box b29 65 [(int .i64 t1_.Part.Tier), (int .i64 t1_.Part.Index), (int .i64 t1_.Seg), (int .i64 t1_.Mark), (int .i64 t1_.Rows), (bool t1_.Cold)]), (box p0 192 [(slice none 0 0)]), (box b17 136 [(pt b16 0)]), (box b16 192 [sv16]), (own (ga13 9) 196 7 (z4 ++ [(⟨t0_, (⟨(⟨t1_.Part.Tier, t1_.Part.Index⟩ : Api_Part), t1_.Seg, t1_.Mark, t1_.Rows, t1_.Cold⟩ : Api_Entry)⟩ : Omap_pair__int64__api_Entry)]).length (fl enc_Omap_pair__int64__api_Entry (z4 ++ [(⟨t0_, (⟨(⟨t1_.Part.Tier, t1_.Part.Index⟩ : Api_Part), t1_.Seg, t1_.Mark, t1_.Rows, t1_.Cold⟩ : Api_Entry)⟩ : Omap_pair__int64__api_Entry)])))]) (L3 := [(sel (done 8) (own (ga13 8) 196 7 [(⟨t0_, (⟨(⟨t1_.Part.Tier, t1_.Part.Index⟩ : Api_Part), t1_.Seg, t1_.Mark, t1_.Rows, t1_.Cold⟩ : Api_Entry)⟩ : Omap_pair__int64__api_Entry)].length (fl enc_Omap_pair__int64__api_Entry [(⟨t0_, (⟨(⟨t1_.Part.Tier, t1_.Part.Index⟩ : Api_Part), t1_.Seg, t1_.Mark, t1_.Rows, t1_.Cold⟩ : Api_Entry)⟩ : Omap_pair__int64__api_Entry)])) emp), (own (slice none 0 0) 196 7 ([] : List Omap_pair__int64__api_Entry).length (fl enc_Omap_pair__int64__api_Entry ([] : List Omap_pair__int64__api_Entry))), (box b29 65 [(int .i64 t1_.Part.Tier), (int .i64 t1_.Part.Index), (int .i64 t1_.Seg), (int .i64 t1_.Mark), (int .i64 t1_.Rows), (bool t1_.Cold)]), (box p0 192 [(slice none 0 0)]), (box b17 136 [(pt b16 0)]), (box b16 192 [(ga13 9)]), (own (ga13 9) 196 7 (z4 ++ [(⟨t0_, (⟨(⟨t1_.Part.Tier, t1_.Part.Index⟩ : Api_Part), t1_.Seg, t1_.Mark, t1_.Rows, t1_.Cold⟩ : Api_Entry)⟩ : Omap_pair__int64__api_Entry)]).length (fl enc_Omap_pair__int64__api_Entry (z4 ++ [(⟨t0_, (⟨(⟨t1_.Part.Tier, t1_.Part.Index⟩ : Api_Part), t1_.Seg, t1_.Mark, t1_.Rows, t1_.Cold⟩ : Api_Entry)⟩ : Omap_pair__int64__api_Entry)])))]) rfl rfl (wanted_none rfl) (fun a => (hasA_cons (k := 9) rfl d9 (hasA_cons (k := 11) rfl d11 hasA_base))) (by simp only [d9, hi, sel]) (by simp [up, d9, sel]) (ot_storeS (cs := [sv16]) (cs' := [(ga13 9)]) (sv := (ga13 9)) (L' := [(sel (done 8) (own (ga13 8) 196 7 [(⟨t0_, (⟨(⟨t1_.Part.Tier, t1_.Part.Index⟩ : Api_Part), t1_.Seg, t1_.Mark, t1_.Rows, t1_.Cold⟩ : Api_Entry)⟩ : Omap_pair__int64__api_Entry)].length (fl enc_Omap_pair__int64__api_Entry [(⟨t0_, (⟨(⟨t1_.Part.Tier, t1_.Part.Index⟩ : Api_Part), t1_.Seg, t1_.Mark, t1_.Rows, t1_.Cold⟩ : Api_Entry)⟩ : Omap_pair__int64__api_Entry)])) emp), (own (slice none 0 0) 196 7 ([] : List Omap_pair__int64__api_Entry).length (fl enc_Omap_pair__int64__api_Entry ([] : List Omap_pair__int64__api_Entry))), (box b29 65 [(int .i64 t1_.Part.Tier), (int .i64 t1_.Part.Index), (int .i64 t1_.Seg), (int .i64 t1_.Mark), (int .i64 t1_.Rows), (bool t1_.Cold)]), (box p0 192 [(slice none 0 0)]), (box b17 136 [(pt b16 0)]), (box b16 192 [(ga13 9)]), (own (ga13 9) 196 7 (z4 ++ [(⟨t0_, (⟨(⟨t1_.Part.Tier, t1_.Part.Index⟩ : Api_Part), t1_.Seg, t1_.Mark, t1_.Rows, t1_.Cold⟩ : Api_Entry)⟩ : Omap_pair__int64__api_Entry)]).length (fl enc_Omap_pair__int64__api_Entry (z4 ++ [(⟨t0_, (⟨(⟨t1_.Part.Tier, t1_.Part.Index⟩ : Api_Part), t1_.Seg, t1_.Mark, t1_.Rows, t1_.Cold⟩ : Api_Entry)⟩ : Omap_pair__int64__api_Entry)])))]) 5 6 rfl rfl F_size_190 rfl rfl (isRd_ownx 196) rfl (by simp) rfl) (offT_spec rfl)
    ·intro done hall
     refine ent_exi (S := fun ga13 => Z12_I ga13 done) fun ga13 => ?_
     refine draw_endL [(own (ga13 8) 196 7 [(⟨t0_, (⟨(⟨t1_.Part.Tier, t1_.Part.Index⟩ : Api_Part), t1_.Seg, t1_.Mark, t1_.Rows, t1_.Cold⟩ : Api_Entry)⟩ : Omap_pair__int64__api_Entry)].length (fl enc_Omap_pair__int64__api_Entry [(⟨t0_, (⟨(⟨t1_.Part.Tier, t1_.Part.Index⟩ : Api_Part), t1_.Seg, t1_.Mark, t1_.Rows, t1_.Cold⟩ : Api_Entry)⟩ : Omap_pair__int64__api_Entry)])), (own (slice none 0 0) 196 7 ([] : List Omap_pair__int64__api_Entry).length (fl enc_Omap_pair__int64__api_Entry ([] : List Omap_pair__int64__api_Entry))), (box b29 65 [(int .i64 t1_.Part.Tier), (int .i64 t1_.Part.Index), (int .i64 t1_.Seg), (int .i64 t1_.Mark), (int .i64 t1_.Rows), (bool t1_.Cold)]), (box p0 192 [(slice none 0 0)]), (box b17 136 [(pt b16 0)]), (box b16 192 [(ga13 9)]), (own (ga13 9) 196 7 (z4 ++ [(⟨t0_, (⟨(⟨t1_.Part.Tier, t1_.Part.Index⟩ : Api_Part), t1_.Seg, t1_.Mark, t1_.Rows, t1_.Cold⟩ : Api_Entry)⟩ : Omap_pair__int64__api_Entry)]).length (fl enc_Omap_pair__int64__api_Entry (z4 ++ [(⟨t0_, (⟨(⟨t1_.Part.Tier, t1_.Part.Index⟩ : Api_Part), t1_.Seg, t1_.Mark, t1_.Rows, t1_.Cold⟩ : Api_Entry)⟩ : Omap_pair__int64__api_Entry)])))] (by simp only [hall 8 (by decide), hall 9 (by decide), hall 12 (by decide), sel]) (fun a => (hasA_cons (k := 0) rfl (hall 0 (by decide)) (hasA_cons (k := 1) rfl (hall 1 (by decide)) (hasA_cons (k := 2) rfl (hall 2 (by decide)) (hasA_cons (k := 3) rfl (hall 3 (by decide)) (hasA_cons (k := 4) rfl (hall 4 (by decide)) (hasA_cons (k := 5) rfl (hall 5 (by decide)) (hasA_cons (k := 6) rfl (hall 6 (by decide)) (hasA_cons (k := 7) rfl (hall 7 (by decide)) (hasA_cons (k := 8) rfl (hall 8 (by decide)) (hasA_cons (k := 9) rfl (hall 9 (by decide)) (hasA_cons (k := 10) rfl (hall 10 (by decide)) (hasA_cons (k := 11) rfl (hall 11 (by decide)) hasA_base))))))))))))) ?_
     cases Hl
     refine ent_pick [3, 4, 5, 6] (by decide) rfl ?_
     refine ent_roundN ?_
     exact ⟨rfl, rfl, _, rfl⟩
   ·rw [if_neg c12] at Hl
    cases Hl
 ·intro Y l hY
  exact (omap_each__int64__api_Entry_1_YN.spec K l b24 (List Omap_pair__int64__api_Entry) (omap_Map__int64__api_Entry_Copy_N_r0 K) ([] : List Omap_pair__int64__api_Entry) Y (fun t0_ t1_ z_ r_ h_ => hY _ z_ r_ ⟨t0_, t1_, rfl, h_⟩) _ h10).mono fun _ _ h_ => h_.2
 ·rintro _ ⟨sv16, rfl⟩
  refine ent_sub [(3, (pt b17 0))] (sub_cons (t := 3) rfl (sub_nil _)) ?_
  refine ent_seq ?_
  refine ent_region ?_
  refine ent_value (ov_load (v := (pt b16 0)) rfl F_agg_136 (reads_box1 (i := 2) rfl rfl)) rfl rfl rfl ?_
  refine ent_value (ov_assign rfl) rfl rfl rfl ?_
  refine ent_nil ?_
  refine ent_retc ?_
  cases H
  refine ent_pick [1, 3, 4] (by decide) rfl ?_
  exact ret_tmp rfl rfl ⟨_, _, rfl, rfl⟩

set_option maxRecDepth 100000 in
theorem catalog_Catalog_Copy_N.spec (K : Nat) (p0 : Nat) (p1 : Nat) (r : List Omap_pair__int64__api_Entry) (H : catalog_Catalog_Copy_N K = some r) : FnSpec Try.prog 30 [(pt p0 0)] [(box p0 139 [(pt p1 0)]), (box p1 192 [(slice none 0 0)])] (fun v M => ∃ b3 : Nat, ∃ b4 : Nat, ∃ sv2 : Value, v = (pt b3 0) ∧ M = [(box p0 139 [(pt p1 0)]), (box p1 192 [(slice none 0 0)]), (box b3 139 [(pt b4 0)]), (box b4 192 [sv2]), (own sv2 196 7 r.length (fl enc_Omap_pair__int64__api_Entry r))]) := by
 unfold catalog_Catalog_Copy_N at H
 refine spec_of Try.func30 rfl 12 rfl (Nat.le_of_ble_eq_true rfl) fun F w0 => ?_
 show Ent (St 12 w0 F [(0, (pt p0 0))] [(box p0 139 [(pt p1 0)]), (box p1 192 [(slice none 0 0)])]) _
 refine ent_seq ?_
 refine ent_region ?_
 refine ent_value (ov_assign rfl) rfl rfl rfl ?_
 refine ent_nil ?_
 refine ent_seq ?_
 refine ent_seq ?_
 refine ent_region ?_
 refine ent_value (ov_move rfl) rfl rfl rfl ?_
 refine ent_value (ov_bin rfl rfl (b_eql_of (fun w => rfl) rfl (eq_pn Try.underlying51 _ _))) rfl rfl rfl ?_
 refine ent_nil ?_
 refine ent_cond_false rfl rfl ?_
 refine ent_skip ?_
 refine ent_seq ?_
 refine ent_region ?_
 refine ent_value (ov_move rfl) rfl rfl rfl ?_
 refine ent_value (ov_nilCheck rfl) rfl rfl rfl ?_
 refine ent_value (ov_fieldAddr (sz := 0) (o := 0) rfl F_field_139_0 F_size_136) rfl rfl rfl ?_
 refine ent_value (ov_load (v := (pt p1 0)) rfl F_agg_136 (reads_box1 (i := 0) rfl rfl)) rfl rfl rfl ?_
 obtain ⟨x2, h2, H⟩ := Option.bind_eq_some_iff.1 H
 refine ent_pick [1, 0] (by decide) rfl ?_
 refine ent_op (ot_call (Lr := [(box p0 139 [(pt p1 0)])]) (first := []) (cap := []) (xs := [.tmp 8]) rfl rfl F_call_89 rfl (omap_Map__int64__api_Entry_Copy_N.spec K p1 _ h2) rfl) rfl rfl rfl ?_
 rintro _ _ ⟨_, ⟨b5, sv3, rfl, rfl⟩, rfl⟩
 refine ent_value (ov_build (is := [0]) (xs := [.tmp 9]) (vs := [(pt b5 0)]) rfl rfl (build_struct (cs := [(pt b5 0)]) F_zero_139 F_places_139 rfl)) rfl rfl rfl ?_
 refine ent_op (ot_box (cs := [(pt b5 0)]) rfl rfl) rfl rfl rfl ?_
 rintro _ _ ⟨b6, rfl, rfl⟩
 refine ent_value (ov_assign rfl) rfl rfl rfl ?_
 refine ent_nil ?_
 refine ent_retc ?_
 cases H
 refine ent_pick [4, 1, 0, 2, 3] (by decide) rfl ?_
 exact ret_tmp rfl rfl ⟨_, _, _, rfl, rfl⟩

set_option maxRecDepth 100000 in
theorem civil_DayOf.spec (a0 : Int) (r : Int) (H : civil_DayOf a0 = r) : FnSpec Try.prog 173 [(int .i64 a0)] [] (fun v M => v = (int .i64 r) ∧ M = []) := by
 unfold civil_DayOf at H
 refine spec_of Try.func173 rfl 5 rfl (Nat.le_of_ble_eq_true rfl) fun F w0 => ?_
 show Ent (St 5 w0 F [(0, (int .i64 a0))] []) _
 refine ent_seq ?_
 refine ent_region ?_
 refine ent_value (ov_assign rfl) rfl rfl rfl ?_
 refine ent_nil ?_
 refine ent_seq ?_
 refine ent_region ?_
 refine ent_value (ov_move rfl) rfl rfl rfl ?_
 refine ent_value (ov_bin rfl rfl fun w => b_quo _ _ _ w (by decide)) rfl rfl rfl ?_
 refine ent_value (ov_assign rfl) rfl rfl rfl ?_
 refine ent_nil ?_
 refine ent_retc ?_
 cases H
 refine ent_pick [] (by decide) rfl ?_
 exact ret_tmp rfl rfl ⟨rfl, rfl⟩

set_option maxRecDepth 100000 in
theorem civil_Date.spec (a0 : Int) (r : (Int × Int × Int)) (H : civil_Date a0 = r) : FnSpec Try.prog 212 [(int .i64 a0)] [] (fun v M => v = (Value.tuple #[(int .i64 r.1), (int .i64 r.2.1), (int .i64 r.2.2)]) ∧ M = []) := by
 unfold civil_Date at H
 refine spec_of Try.func212 rfl 62 rfl (Nat.le_of_ble_eq_true rfl) fun F w0 => ?_
 show Ent (St 62 w0 F [(0, (int .i64 a0))] []) _
 refine ent_seq ?_
 refine ent_region ?_
 refine ent_value (ov_assign rfl) rfl rfl rfl ?_
 refine ent_value (ov_assign rfl) rfl rfl rfl ?_
 refine ent_value (ov_assign rfl) rfl rfl rfl ?_
 refine ent_nil ?_
 refine ent_seq ?_
 refine ent_region ?_
 refine ent_value (ov_move rfl) rfl rfl rfl ?_
 refine ent_value (ov_bin rfl rfl (b_add _ _ _) ) rfl rfl rfl ?_
 refine ent_value (ov_assign rfl) rfl rfl rfl ?_
 refine ent_nil ?_
 refine ent_seq ?_
 refine ent_region ?_
 refine ent_value (ov_move rfl) rfl rfl rfl ?_
 refine ent_value (ov_bin rfl rfl fun w => b_rem _ _ _ w (by decide)) rfl rfl rfl ?_
 refine ent_value (ov_assign rfl) rfl rfl rfl ?_
 refine ent_nil ?_
 refine ent_seq ?_
 refine ent_region ?_
 refine ent_value (ov_move rfl) rfl rfl rfl ?_
 refine ent_value (ov_move rfl) rfl rfl rfl ?_
 refine ent_value (ov_bin rfl rfl fun w => b_quo _ _ _ w (by decide)) rfl rfl rfl ?_
 refine ent_value (ov_bin rfl rfl (b_sub _ _ _) ) rfl rfl rfl ?_
 refine ent_value (ov_move rfl) rfl rfl rfl ?_
 refine ent_value (ov_bin rfl rfl fun w => b_quo _ _ _ w (by decide)) rfl rfl rfl ?_
 refine ent_value (ov_bin rfl rfl (b_add _ _ _) ) rfl rfl rfl ?_
 refine ent_value (ov_move rfl) rfl rfl rfl ?_
 refine ent_value (ov_bin rfl rfl fun w => b_quo _ _ _ w (by decide)) rfl rfl rfl ?_
 refine ent_value (ov_bin rfl rfl (b_sub _ _ _) ) rfl rfl rfl ?_
 refine ent_value (ov_bin rfl rfl fun w => b_quo _ _ _ w (by decide)) rfl rfl rfl ?_
 refine ent_value (ov_assign rfl) rfl rfl rfl ?_
 refine ent_nil ?_
 refine ent_seq ?_
 refine ent_region ?_
 refine ent_value (ov_move rfl) rfl rfl rfl ?_
 refine ent_value (ov_move rfl) rfl rfl rfl ?_
 refine ent_value (ov_bin rfl rfl (b_mul _ _ _) ) rfl rfl rfl ?_
 refine ent_value (ov_move rfl) rfl rfl rfl ?_
 refine ent_value (ov_bin rfl rfl fun w => b_quo _ _ _ w (by decide)) rfl rfl rfl ?_
 refine ent_value (ov_bin rfl rfl (b_add _ _ _) ) rfl rfl rfl ?_
 refine ent_value (ov_move rfl) rfl rfl rfl ?_
 refine ent_value (ov_bin rfl rfl fun w => b_quo _ _ _ w (by decide)) rfl rfl rfl ?_
 refine ent_value (ov_bin rfl rfl (b_sub _ _ _) ) rfl rfl rfl ?_
 refine ent_value (ov_bin rfl rfl (b_sub _ _ _) ) rfl rfl rfl ?_
 refine ent_value (ov_assign rfl) rfl rfl rfl ?_
 refine ent_nil ?_
 refine ent_seq ?_
 refine ent_region ?_
 refine ent_value (ov_move rfl) rfl rfl rfl ?_
 refine ent_value (ov_bin rfl rfl (b_mul _ _ _) ) rfl rfl rfl ?_
 refine ent_value (ov_bin rfl rfl (b_add _ _ _) ) rfl rfl rfl ?_
 refine ent_value (ov_bin rfl rfl fun w => b_quo _ _ _ w (by decide)) rfl rfl rfl ?_
 refine ent_value (ov_assign rfl) rfl rfl rfl ?_
 refine ent_nil ?_
 refine ent_seq ?_
 refine ent_region ?_
 refine ent_value (ov_move rfl) rfl rfl rfl ?_
 refine ent_value (ov_move rfl) rfl rfl rfl ?_
 refine ent_value (ov_bin rfl rfl (b_mul _ _ _) ) rfl rfl rfl ?_
 refine ent_value (ov_bin rfl rfl (b_add _ _ _) ) rfl rfl rfl ?_
 refine ent_value (ov_bin rfl rfl fun w => b_quo _ _ _ w (by decide)) rfl rfl rfl ?_
 refine ent_value (ov_bin rfl rfl (b_sub _ _ _) ) rfl rfl rfl ?_
 refine ent_value (ov_bin rfl rfl (b_add _ _ _) ) rfl rfl rfl ?_
 refine ent_value (ov_assign rfl) rfl rfl rfl ?_
 refine ent_nil ?_
 refine ent_seq ?_
 refine ent_region ?_
 refine ent_value (ov_move rfl) rfl rfl rfl ?_
 refine ent_value (ov_bin rfl rfl fun w => b_quo _ _ _ w (by decide)) rfl rfl rfl ?_
 refine ent_value (ov_bin rfl rfl (b_mul _ _ _) ) rfl rfl rfl ?_
 refine ent_value (ov_move rfl) rfl rfl rfl ?_
 refine ent_value (ov_bin rfl rfl (b_add _ _ _) ) rfl rfl rfl ?_
 refine ent_value (ov_assign rfl) rfl rfl rfl ?_
 refine ent_nil ?_
 refine ent_seq ?_
 refine ent_seq ?_
 refine ent_region ?_
 refine ent_value (ov_move rfl) rfl rfl rfl ?_
 refine ent_value (ov_bin rfl rfl (b_lss _ _ _)) rfl rfl rfl ?_
 refine ent_nil ?_
 by_cases c4 : (w64 (Int.tdiv (w64 ((w64 (5 * (w64 ((Int.tmod (w64 (a0 + 719468)) 146097) - (w64 ((w64 ((w64 (365 * (w64 (Int.tdiv (w64 ((w64 ((w64 ((Int.tmod (w64 (a0 + 719468)) 146097) - (w64 (Int.tdiv (Int.tmod (w64 (a0 + 719468)) 146097) 1460)))) + (w64 (Int.tdiv (Int.tmod (w64 (a0 + 719468)) 146097) 36524)))) - (w64 (Int.tdiv (Int.tmod (w64 (a0 + 719468)) 146097) 146096)))) 365)))) + (w64 (Int.tdiv (w64 (Int.tdiv (w64 ((w64 ((w64 ((Int.tmod (w64 (a0 + 719468)) 146097) - (w64 (Int.tdiv (Int.tmod (w64 (a0 + 719468)) 146097) 1460)))) + (w64 (Int.tdiv (Int.tmod (w64 (a0 + 719468)) 146097) 36524)))) - (w64 (Int.tdiv (Int.tmod (w64 (a0 + 719468)) 146097) 146096)))) 365)) 4)))) - (w64 (Int.tdiv (w64 (Int.tdiv (w64 ((w64 ((w64 ((Int.tmod (w64 (a0 + 719468)) 146097) - (w64 (Int.tdiv (Int.tmod (w64 (a0 + 719468)) 146097) 1460)))) + (w64 (Int.tdiv (Int.tmod (w64 (a0 + 719468)) 146097) 36524)))) - (w64 (Int.tdiv (Int.tmod (w64 (a0 + 719468)) 146097) 146096)))) 365)) 100)))))))) + 2)) 153)) < 10
 ·rw [if_pos c4] at H
  refine ent_cond_true rfl (decide_eq_true c4) ?_
  refine ent_seq ?_
  refine ent_region ?_
  refine ent_value (ov_move rfl) rfl rfl rfl ?_
  refine ent_value (ov_move rfl) rfl rfl rfl ?_
  refine ent_value (ov_bin rfl rfl (b_add _ _ _) ) rfl rfl rfl ?_
  refine ent_value (ov_move rfl) rfl rfl rfl ?_
  refine ent_value (ov_assign rfl) rfl rfl rfl ?_
  refine ent_value (ov_assign rfl) rfl rfl rfl ?_
  refine ent_value (ov_assign rfl) rfl rfl rfl ?_
  refine ent_nil ?_
  refine ent_retc ?_
  cases H
  refine ent_pick [] (by decide) rfl ?_
  exact ret_mem (vs := [(int .i64 (w64 ((w64 ((w64 (Int.tdiv (w64 (a0 + 719468)) 146097)) * 400)) + (w64 (Int.tdiv (w64 ((w64 ((w64 ((Int.tmod (w64 (a0 + 719468)) 146097) - (w64 (Int.tdiv (Int.tmod (w64 (a0 + 719468)) 146097) 1460)))) + (w64 (Int.tdiv (Int.tmod (w64 (a0 + 719468)) 146097) 36524)))) - (w64 (Int.tdiv (Int.tmod (w64 (a0 + 719468)) 146097) 146096)))) 365))))), (int .i64 (w64 ((w64 (Int.tdiv (w64 ((w64 (5 * (w64 ((Int.tmod (w64 (a0 + 719468)) 146097) - (w64 ((w64 ((w64 (365 * (w64 (Int.tdiv (w64 ((w64 ((w64 ((Int.tmod (w64 (a0 + 719468)) 146097) - (w64 (Int.tdiv (Int.tmod (w64 (a0 + 719468)) 146097) 1460)))) + (w64 (Int.tdiv (Int.tmod (w64 (a0 + 719468)) 146097) 36524)))) - (w64 (Int.tdiv (Int.tmod (w64 (a0 + 719468)) 146097) 146096)))) 365)))) + (w64 (Int.tdiv (w64 (Int.tdiv (w64 ((w64 ((w64 ((Int.tmod (w64 (a0 + 719468)) 146097) - (w64 (Int.tdiv (Int.tmod (w64 (a0 + 719468)) 146097) 1460)))) + (w64 (Int.tdiv (Int.tmod (w64 (a0 + 719468)) 146097) 36524)))) - (w64 (Int.tdiv (Int.tmod (w64 (a0 + 719468)) 146097) 146096)))) 365)) 4)))) - (w64 (Int.tdiv (w64 (Int.tdiv (w64 ((w64 ((w64 ((Int.tmod (w64 (a0 + 719468)) 146097) - (w64 (Int.tdiv (Int.tmod (w64 (a0 + 719468)) 146097) 1460)))) + (w64 (Int.tdiv (Int.tmod (w64 (a0 + 719468)) 146097) 36524)))) - (w64 (Int.tdiv (Int.tmod (w64 (a0 + 719468)) 146097) 146096)))) 365)) 100)))))))) + 2)) 153)) + 3))), (int .i64 (w64 ((w64 ((w64 ((Int.tmod (w64 (a0 + 719468)) 146097) - (w64 ((w64 ((w64 (365 * (w64 (Int.tdiv (w64 ((w64 ((w64 ((Int.tmod (w64 (a0 + 719468)) 146097) - (w64 (Int.tdiv (Int.tmod (w64 (a0 + 719468)) 146097) 1460)))) + (w64 (Int.tdiv (Int.tmod (w64 (a0 + 719468)) 146097) 36524)))) - (w64 (Int.tdiv (Int.tmod (w64 (a0 + 719468)) 146097) 146096)))) 365)))) + (w64 (Int.tdiv (w64 (Int.tdiv (w64 ((w64 ((w64 ((Int.tmod (w64 (a0 + 719468)) 146097) - (w64 (Int.tdiv (Int.tmod (w64 (a0 + 719468)) 146097) 1460)))) + (w64 (Int.tdiv (Int.tmod (w64 (a0 + 719468)) 146097) 36524)))) - (w64 (Int.tdiv (Int.tmod (w64 (a0 + 719468)) 146097) 146096)))) 365)) 4)))) - (w64 (Int.tdiv (w64 (Int.tdiv (w64 ((w64 ((w64 ((Int.tmod (w64 (a0 + 719468)) 146097) - (w64 (Int.tdiv (Int.tmod (w64 (a0 + 719468)) 146097) 1460)))) + (w64 (Int.tdiv (Int.tmod (w64 (a0 + 719468)) 146097) 36524)))) - (w64 (Int.tdiv (Int.tmod (w64 (a0 + 719468)) 146097) 146096)))) 365)) 100)))))) - (w64 (Int.tdiv (w64 ((w64 (153 * (w64 (Int.tdiv (w64 ((w64 (5 * (w64 ((Int.tmod (w64 (a0 + 719468)) 146097) - (w64 ((w64 ((w64 (365 * (w64 (Int.tdiv (w64 ((w64 ((w64 ((Int.tmod (w64 (a0 + 719468)) 146097) - (w64 (Int.tdiv (Int.tmod (w64 (a0 + 719468)) 146097) 1460)))) + (w64 (Int.tdiv (Int.tmod (w64 (a0 + 719468)) 146097) 36524)))) - (w64 (Int.tdiv (Int.tmod (w64 (a0 + 719468)) 146097) 146096)))) 365)))) + (w64 (Int.tdiv (w64 (Int.tdiv (w64 ((w64 ((w64 ((Int.tmod (w64 (a0 + 719468)) 146097) - (w64 (Int.tdiv (Int.tmod (w64 (a0 + 719468)) 146097) 1460)))) + (w64 (Int.tdiv (Int.tmod (w64 (a0 + 719468)) 146097) 36524)))) - (w64 (Int.tdiv (Int.tmod (w64 (a0 + 719468)) 146097) 146096)))) 365)) 4)))) - (w64 (Int.tdiv (w64 (Int.tdiv (w64 ((w64 ((w64 ((Int.tmod (w64 (a0 + 719468)) 146097) - (w64 (Int.tdiv (Int.tmod (w64 (a0 + 719468)) 146097) 1460)))) + (w64 (Int.tdiv (Int.tmod (w64 (a0 + 719468)) 146097) 36524)))) - (w64 (Int.tdiv (Int.tmod (w64 (a0 + 719468)) 146097) 146096)))) 365)) 100)))))))) + 2)) 153)))) + 2)) 5)))) + 1)))]) rfl ⟨rfl, ⟨rfl, ⟨rfl, trivial⟩⟩⟩ _ rfl ⟨rfl, rfl⟩
 ·rw [if_neg c4] at H
  refine ent_cond_false rfl (decide_eq_false c4) ?_
  refine ent_skip ?_
  refine ent_seq ?_
  refine ent_region ?_
  refine ent_value (ov_move rfl) rfl rfl rfl ?_
  refine ent_value (ov_bin rfl rfl (b_add _ _ _) ) rfl rfl rfl ?_
  refine ent_value (ov_move rfl) rfl rfl rfl ?_
  refine ent_value (ov_bin rfl rfl (b_sub _ _ _) ) rfl rfl rfl ?_
  refine ent_value (ov_move rfl) rfl rfl rfl ?_
  refine ent_value (ov_assign rfl) rfl rfl rfl ?_
  refine ent_value (ov_assign rfl) rfl rfl rfl ?_
  refine ent_value (ov_assign rfl) rfl rfl rfl ?_
  refine ent_nil ?_
  refine ent_retc ?_
  cases H
  refine ent_pick [] (by decide) rfl ?_
  exact ret_mem (vs := [(int .i64 (w64 ((w64 ((w64 ((w64 (Int.tdiv (w64 (a0 + 719468)) 146097)) * 400)) + (w64 (Int.tdiv (w64 ((w64 ((w64 ((Int.tmod (w64 (a0 + 719468)) 146097) - (w64 (Int.tdiv (Int.tmod (w64 (a0 + 719468)) 146097) 1460)))) + (w64 (Int.tdiv (Int.tmod (w64 (a0 + 719468)) 146097) 36524)))) - (w64 (Int.tdiv (Int.tmod (w64 (a0 + 719468)) 146097) 146096)))) 365)))) + 1))), (int .i64 (w64 ((w64 (Int.tdiv (w64 ((w64 (5 * (w64 ((Int.tmod (w64 (a0 + 719468)) 146097) - (w64 ((w64 ((w64 (365 * (w64 (Int.tdiv (w64 ((w64 ((w64 ((Int.tmod (w64 (a0 + 719468)) 146097) - (w64 (Int.tdiv (Int.tmod (w64 (a0 + 719468)) 146097) 1460)))) + (w64 (Int.tdiv (Int.tmod (w64 (a0 + 719468)) 146097) 36524)))) - (w64 (Int.tdiv (Int.tmod (w64 (a0 + 719468)) 146097) 146096)))) 365)))) + (w64 (Int.tdiv (w64 (Int.tdiv (w64 ((w64 ((w64 ((Int.tmod (w64 (a0 + 719468)) 146097) - (w64 (Int.tdiv (Int.tmod (w64 (a0 + 719468)) 146097) 1460)))) + (w64 (Int.tdiv (Int.tmod (w64 (a0 + 719468)) 146097) 36524)))) - (w64 (Int.tdiv (Int.tmod (w64 (a0 + 719468)) 146097) 146096)))) 365)) 4)))) - (w64 (Int.tdiv (w64 (Int.tdiv (w64 ((w64 ((w64 ((Int.tmod (w64 (a0 + 719468)) 146097) - (w64 (Int.tdiv (Int.tmod (w64 (a0 + 719468)) 146097) 1460)))) + (w64 (Int.tdiv (Int.tmod (w64 (a0 + 719468)) 146097) 36524)))) - (w64 (Int.tdiv (Int.tmod (w64 (a0 + 719468)) 146097) 146096)))) 365)) 100)))))))) + 2)) 153)) - 9))), (int .i64 (w64 ((w64 ((w64 ((Int.tmod (w64 (a0 + 719468)) 146097) - (w64 ((w64 ((w64 (365 * (w64 (Int.tdiv (w64 ((w64 ((w64 ((Int.tmod (w64 (a0 + 719468)) 146097) - (w64 (Int.tdiv (Int.tmod (w64 (a0 + 719468)) 146097) 1460)))) + (w64 (Int.tdiv (Int.tmod (w64 (a0 + 719468)) 146097) 36524)))) - (w64 (Int.tdiv (Int.tmod (w64 (a0 + 719468)) 146097) 146096)))) 365)))) + (w64 (Int.tdiv (w64 (Int.tdiv (w64 ((w64 ((w64 ((Int.tmod (w64 (a0 + 719468)) 146097) - (w64 (Int.tdiv (Int.tmod (w64 (a0 + 719468)) 146097) 1460)))) + (w64 (Int.tdiv (Int.tmod (w64 (a0 + 719468)) 146097) 36524)))) - (w64 (Int.tdiv (Int.tmod (w64 (a0 + 719468)) 146097) 146096)))) 365)) 4)))) - (w64 (Int.tdiv (w64 (Int.tdiv (w64 ((w64 ((w64 ((Int.tmod (w64 (a0 + 719468)) 146097) - (w64 (Int.tdiv (Int.tmod (w64 (a0 + 719468)) 146097) 1460)))) + (w64 (Int.tdiv (Int.tmod (w64 (a0 + 719468)) 146097) 36524)))) - (w64 (Int.tdiv (Int.tmod (w64 (a0 + 719468)) 146097) 146096)))) 365)) 100)))))) - (w64 (Int.tdiv (w64 ((w64 (153 * (w64 (Int.tdiv (w64 ((w64 (5 * (w64 ((Int.tmod (w64 (a0 + 719468)) 146097) - (w64 ((w64 ((w64 (365 * (w64 (Int.tdiv (w64 ((w64 ((w64 ((Int.tmod (w64 (a0 + 719468)) 146097) - (w64 (Int.tdiv (Int.tmod (w64 (a0 + 719468)) 146097) 1460)))) + (w64 (Int.tdiv (Int.tmod (w64 (a0 + 719468)) 146097) 36524)))) - (w64 (Int.tdiv (Int.tmod (w64 (a0 + 719468)) 146097) 146096)))) 365)))) + (w64 (Int.tdiv (w64 (Int.tdiv (w64 ((w64 ((w64 ((Int.tmod (w64 (a0 + 719468)) 146097) - (w64 (Int.tdiv (Int.tmod (w64 (a0 + 719468)) 146097) 1460)))) + (w64 (Int.tdiv (Int.tmod (w64 (a0 + 719468)) 146097) 36524)))) - (w64 (Int.tdiv (Int.tmod (w64 (a0 + 719468)) 146097) 146096)))) 365)) 4)))) - (w64 (Int.tdiv (w64 (Int.tdiv (w64 ((w64 ((w64 ((Int.tmod (w64 (a0 + 719468)) 146097) - (w64 (Int.tdiv (Int.tmod (w64 (a0 + 719468)) 146097) 1460)))) + (w64 (Int.tdiv (Int.tmod (w64 (a0 + 719468)) 146097) 36524)))) - (w64 (Int.tdiv (Int.tmod (w64 (a0 + 719468)) 146097) 146096)))) 365)) 100)))))))) + 2)) 153)))) + 2)) 5)))) + 1)))]) rfl ⟨rfl, ⟨rfl, ⟨rfl, trivial⟩⟩⟩ _ rfl ⟨rfl, rfl⟩

set_option maxRecDepth 100000 in
theorem civil_MonthOf.spec (a0 : Int) (r : Int) (H : civil_MonthOf a0 = r) : FnSpec Try.prog 174 [(int .i64 a0)] [] (fun v M => v = (int .i64 r) ∧ M = []) := by
 unfold civil_MonthOf at H
 refine spec_of Try.func174 rfl 18 rfl (Nat.le_of_ble_eq_true rfl) fun F w0 => ?_
 show Ent (St 18 w0 F [(0, (int .i64 a0))] []) _
 refine ent_seq ?_
 refine ent_region ?_
 refine ent_value (ov_assign rfl) rfl rfl rfl ?_
 refine ent_nil ?_
 refine ent_seq ?_
 refine ent_region ?_
 refine ent_value (ov_move rfl) rfl rfl rfl ?_
 obtain ⟨x2, h2, H⟩ := thn_elim H
 refine ent_op (ot_call0 (first := []) (cap := []) (xs := [.tmp 7]) rfl rfl F_call_212 rfl (civil_Date.spec a0 _ h2)) rfl rfl rfl ?_
 rintro _ _ ⟨rfl, rfl⟩
 refine ent_value (ov_move rfl) rfl rfl rfl ?_
 refine ent_value (ov_extract rfl rfl) rfl rfl rfl ?_
 refine ent_value (ov_extract rfl rfl) rfl rfl rfl ?_
 refine ent_value (ov_extract rfl rfl) rfl rfl rfl ?_
 refine ent_value (ov_assign rfl) rfl rfl rfl ?_
 refine ent_value (ov_assign rfl) rfl rfl rfl ?_
 refine ent_value (ov_assign rfl) rfl rfl rfl ?_
 refine ent_nil ?_
 refine ent_seq ?_
 refine ent_region ?_
 refine ent_value (ov_move rfl) rfl rfl rfl ?_
 refine ent_value (ov_bin rfl rfl (b_sub _ _ _) ) rfl rfl rfl ?_
 refine ent_value (ov_bin rfl rfl (b_mul _ _ _) ) rfl rfl rfl ?_
 refine ent_value (ov_move rfl) rfl rfl rfl ?_
 refine ent_value (ov_bin rfl rfl (b_sub _ _ _) ) rfl rfl rfl ?_
 refine ent_value (ov_bin rfl rfl (b_add _ _ _) ) rfl rfl rfl ?_
 refine ent_value (ov_assign rfl) rfl rfl rfl ?_
 refine ent_nil ?_
 refine ent_retc ?_
 cases H
 refine ent_pick [] (by decide) rfl ?_
 exact ret_tmp rfl rfl ⟨rfl, rfl⟩

set_option maxRecDepth 100000 in
theorem part_Of.spec (a0 : Int) (a1 : Int) (r : (Int × Int × Bool)) (H : part_Of a0 a1 = r) : FnSpec Try.prog 137 [(int .i64 a0), (int .i64 a1)] [] (fun v M => v = (Value.tuple #[(agg #[(int .i64 r.1), (int .i64 r.2.1)]), (bool r.2.2)]) ∧ M = []) := by
 unfold part_Of at H
 refine spec_of Try.func137 rfl 33 rfl (Nat.le_of_ble_eq_true rfl) fun F w0 => ?_
 show Ent (St 33 w0 F [(0, (int .i64 a0)), (1, (int .i64 a1))] []) _
 refine ent_seq ?_
 refine ent_region ?_
 refine ent_op (ot_alloc F_zero_63) rfl rfl rfl ?_
 rintro _ _ ⟨b2, rfl, rfl⟩
 refine ent_value (ov_assign rfl) rfl rfl rfl ?_
 refine ent_nil ?_
 refine ent_seq ?_
 refine ent_seq ?_
 refine ent_region ?_
 refine ent_value (ov_move rfl) rfl rfl rfl ?_
 refine ent_value (ov_bin rfl rfl (b_lss _ _ _)) rfl rfl rfl ?_
 refine ent_value (ov_move rfl) rfl rfl rfl ?_
 by_cases c13 : a1 < 0
 ·rw [if_pos c13] at H
  refine ent_off rfl rfl rfl (decide_eq_true c13) rfl rfl ?_
  refine ent_off rfl rfl rfl (decide_eq_true c13) rfl rfl ?_
  refine ent_value (ov_pick rfl rfl rfl (pick_t (decide_eq_true c13))) rfl rfl rfl ?_
  refine ent_nil ?_
  refine ent_cond_true rfl rfl ?_
  refine ent_seq ?_
  refine ent_region ?_
  refine ent_value (ov_load_agg (vs := [(int .i64 0), (int .i64 0)]) rfl F_agg_63 F_size_63 (reads_boxW (i := 0) rfl)) rfl rfl rfl ?_
  refine ent_op0 (ot_storeG (cs := [(int .i64 0), (int .i64 0)]) (cs' := [(int .i64 0), (int .i64 0)]) (us := [(int .i64 0), (int .i64 0)]) (L' := [(box b2 63 [(int .i64 0), (int .i64 0)])]) 0 rfl rfl rfl (one_all rfl) F_size_63 rfl rfl (by simp) rfl) rfl rfl ?_
  rintro _ _ rfl
  refine ent_value (ov_assign rfl) rfl rfl rfl ?_
  refine ent_nil ?_
  refine ent_retc ?_
  subst H
  exact ret_memp [] (by decide) rfl (vs := [(agg #[(int .i64 0), (int .i64 0)]), (bool false)]) rfl ⟨⟨_, [(int .i64 0), (int .i64 0)], rfl, reads_boxW (i := 0) rfl, .inl ⟨F_agg_63, F_size_63, rfl⟩⟩, ⟨rfl, trivial⟩⟩ _ rfl ⟨rfl, rfl⟩
 ·rw [if_neg c13] at H
  refine ent_value_on (ov_move rfl) rfl rfl rfl (decide_eq_false c13) rfl rfl ?_
  refine ent_value_on (ov_bin rfl rfl (b_gtr _ _ _)) rfl rfl rfl (decide_eq_false c13) rfl rfl ?_
  refine ent_value (ov_pick rfl rfl rfl (pick_f (decide_eq_false c13))) rfl rfl rfl ?_
  refine ent_nil ?_
  by_cases c14 : 16777216 < a1
  ·rw [if_pos c14] at H
   refine ent_cond_true rfl (decide_eq_true c14) ?_
   refine ent_seq ?_
   refine ent_region ?_
   refine ent_value (ov_load_agg (vs := [(int .i64 0), (int .i64 0)]) rfl F_agg_63 F_size_63 (reads_boxW (i := 0) rfl)) rfl rfl rfl ?_
   refine ent_op0 (ot_storeG (cs := [(int .i64 0), (int .i64 0)]) (cs' := [(int .i64 0), (int .i64 0)]) (us := [(int .i64 0), (int .i64 0)]) (L' := [(box b2 63 [(int .i64 0), (int .i64 0)])]) 0 rfl rfl rfl (one_all rfl) F_size_63 rfl rfl (by simp) rfl) rfl rfl ?_
   rintro _ _ rfl
   refine ent_value (ov_assign rfl) rfl rfl rfl ?_
   refine ent_nil ?_
   refine ent_retc ?_
   subst H
   exact ret_memp [] (by decide) rfl (vs := [(agg #[(int .i64 0), (int .i64 0)]), (bool false)]) rfl ⟨⟨_, [(int .i64 0), (int .i64 0)], rfl, reads_boxW (i := 0) rfl, .inl ⟨F_agg_63, F_size_63, rfl⟩⟩, ⟨rfl, trivial⟩⟩ _ rfl ⟨rfl, rfl⟩
  ·rw [if_neg c14] at H
   refine ent_cond_false rfl (decide_eq_false c14) ?_
   refine ent_skip ?_
   refine ent_seq ?_
   refine ent_seq ?_
   refine ent_region ?_
   refine ent_value (ov_move rfl) rfl rfl rfl ?_
   refine ent_nil ?_
   refine ent_block ?_
   refine ent_seq ?_
   refine ent_region ?_
   refine ent_value (ov_bin rfl rfl (b_eql _ _ _)) rfl rfl rfl ?_
   refine ent_value (ov_assign rfl) rfl rfl rfl ?_
   refine ent_nil ?_
   by_cases c18 : a0 = 1
   ·rw [if_pos c18] at H
    refine ent_cond_true rfl (eq_t c18) ?_
    refine ent_seq ?_
    refine ent_region ?_
    refine ent_value (ov_move rfl) rfl rfl rfl ?_
    refine ent_value (ov_move rfl) rfl rfl rfl ?_
    refine ent_value (ov_build (is := [0, 1]) (xs := [.tmp 16, .tmp 17]) (vs := [(int .i64 a0), (int .i64 a1)]) rfl rfl (build_struct (cs := [(int .i64 a0), (int .i64 a1)]) F_zero_63 F_places_63 rfl)) rfl rfl rfl ?_
    refine ent_op0 (ot_storeG (cs := [(int .i64 0), (int .i64 0)]) (cs' := [(int .i64 a0), (int .i64 a1)]) (us := [(int .i64 a0), (int .i64 a1)]) (L' := [(box b2 63 [(int .i64 a0), (int .i64 a1)])]) 0 rfl rfl rfl (one_all rfl) F_size_63 rfl rfl (by simp) rfl) rfl rfl ?_
    rintro _ _ rfl
    refine ent_value (ov_assign rfl) rfl rfl rfl ?_
    refine ent_nil ?_
    refine ent_retc ?_
    subst H
    exact ret_memp [] (by decide) rfl (vs := [(agg #[(int .i64 a0), (int .i64 a1)]), (bool true)]) rfl ⟨⟨_, [(int .i64 a0), (int .i64 a1)], rfl, reads_boxW (i := 0) rfl, .inl ⟨F_agg_63, F_size_63, rfl⟩⟩, ⟨rfl, trivial⟩⟩ _ rfl ⟨rfl, rfl⟩
   ·rw [if_neg c18] at H
    refine ent_cond_false rfl (eq_f c18) ?_
    refine ent_seq ?_
    refine ent_region ?_
    refine ent_value (ov_bin rfl rfl (b_eql _ _ _)) rfl rfl rfl ?_
    refine ent_value (ov_assign rfl) rfl rfl rfl ?_
    refine ent_nil ?_
    by_cases c19 : a0 = 2
    ·rw [if_pos c19] at H
     refine ent_cond_true rfl (eq_t c19) ?_
     refine ent_seq ?_
     refine ent_region ?_
     refine ent_value (ov_move rfl) rfl rfl rfl ?_
     refine ent_value (ov_move rfl) rfl rfl rfl ?_
     obtain ⟨x10, h10, H⟩ := thn_elim H
     refine ent_op (ot_call0 (first := []) (cap := []) (xs := [.tmp 22]) rfl rfl F_call_173 rfl (civil_DayOf.spec a1 _ h10)) rfl rfl rfl ?_
     rintro _ _ ⟨rfl, rfl⟩
     refine ent_value (ov_build (is := [0, 1]) (xs := [.tmp 21, .tmp 23]) (vs := [(int .i64 a0), (int .i64 x10)]) rfl rfl (build_struct (cs := [(int .i64 a0), (int .i64 x10)]) F_zero_63 F_places_63 rfl)) rfl rfl rfl ?_
     refine ent_op0 (ot_storeG (cs := [(int .i64 0), (int .i64 0)]) (cs' := [(int .i64 a0), (int .i64 x10)]) (us := [(int .i64 a0), (int .i64 x10)]) (L' := [(box b2 63 [(int .i64 a0), (int .i64 x10)])]) 0 rfl rfl rfl (one_all rfl) F_size_63 rfl rfl (by simp) rfl) rfl rfl ?_
     rintro _ _ rfl
     refine ent_value (ov_assign rfl) rfl rfl rfl ?_
     refine ent_nil ?_
     refine ent_retc ?_
     subst H
     exact ret_memp [] (by decide) rfl (vs := [(agg #[(int .i64 a0), (int .i64 x10)]), (bool true)]) rfl ⟨⟨_, [(int .i64 a0), (int .i64 x10)], rfl, reads_boxW (i := 0) rfl, .inl ⟨F_agg_63, F_size_63, rfl⟩⟩, ⟨rfl, trivial⟩⟩ _ rfl ⟨rfl, rfl⟩
    ·rw [if_neg c19] at H
     refine ent_cond_false rfl (eq_f c19) ?_
     refine ent_seq ?_
     refine ent_region ?_
     refine ent_value (ov_bin rfl rfl (b_eql _ _ _)) rfl rfl rfl ?_
     refine ent_value (ov_assign rfl) rfl rfl rfl ?_
     refine ent_nil ?_
     by_cases c20 : a0 = 3
     ·rw [if_pos c20] at H
      refine ent_cond_true rfl (eq_t c20) ?_
      refine ent_seq ?_
      refine ent_region ?_
      refine ent_value (ov_move rfl) rfl rfl rfl ?_
      refine ent_value (ov_move rfl) rfl rfl rfl ?_
      obtain ⟨x11, h11, H⟩ := thn_elim H
      refine ent_op (ot_call0 (first := []) (cap := []) (xs := [.tmp 28]) rfl rfl F_call_173 rfl (civil_DayOf.spec a1 _ h11)) rfl rfl rfl ?_
      rintro _ _ ⟨rfl, rfl⟩
      obtain ⟨x12, h12, H⟩ := thn_elim H
      refine ent_op (ot_call0 (first := []) (cap := []) (xs := [.tmp 29]) rfl rfl F_call_174 rfl (civil_MonthOf.spec x11 _ h12)) rfl rfl rfl ?_
      rintro _ _ ⟨rfl, rfl⟩
      refine ent_value (ov_build (is := [0, 1]) (xs := [.tmp 27, .tmp 30]) (vs := [(int .i64 a0), (int .i64 x12)]) rfl rfl (build_struct (cs := [(int .i64 a0), (int .i64 x12)]) F_zero_63 F_places_63 rfl)) rfl rfl rfl ?_
      refine ent_op0 (ot_storeG (cs := [(int .i64 0), (int .i64 0)]) (cs' := [(int .i64 a0), (int .i64 x12)]) (us := [(int .i64 a0), (int .i64 x12)]) (L' := [(box b2 63 [(int .i64 a0), (int .i64 x12)])]) 0 rfl rfl rfl (one_all rfl) F_size_63 rfl rfl (by simp) rfl) rfl rfl ?_
      rintro _ _ rfl
      refine ent_value (ov_assign rfl) rfl rfl rfl ?_
      refine ent_nil ?_
      refine ent_retc ?_
      subst H
      exact ret_memp [] (by decide) rfl (vs := [(agg #[(int .i64 a0), (int .i64 x12)]), (bool true)]) rfl ⟨⟨_, [(int .i64 a0), (int .i64 x12)], rfl, reads_boxW (i := 0) rfl, .inl ⟨F_agg_63, F_size_63, rfl⟩⟩, ⟨rfl, trivial⟩⟩ _ rfl ⟨rfl, rfl⟩
     ·rw [if_neg c20] at H
      refine ent_cond_false rfl (eq_f c20) ?_
      refine ent_skip ?_
      refine ent_seq ?_
      refine ent_region ?_
      refine ent_value (ov_load_agg (vs := [(int .i64 0), (int .i64 0)]) rfl F_agg_63 F_size_63 (reads_boxW (i := 0) rfl)) rfl rfl rfl ?_
      refine ent_op0 (ot_storeG (cs := [(int .i64 0), (int .i64 0)]) (cs' := [(int .i64 0), (int .i64 0)]) (us := [(int .i64 0), (int .i64 0)]) (L' := [(box b2 63 [(int .i64 0), (int .i64 0)])]) 0 rfl rfl rfl (one_all rfl) F_size_63 rfl rfl (by simp) rfl) rfl rfl ?_
      rintro _ _ rfl
      refine ent_value (ov_assign rfl) rfl rfl rfl ?_
      refine ent_nil ?_
      refine ent_retc ?_
      subst H
      exact ret_memp [] (by decide) rfl (vs := [(agg #[(int .i64 0), (int .i64 0)]), (bool false)]) rfl ⟨⟨_, [(int .i64 0), (int .i64 0)], rfl, reads_boxW (i := 0) rfl, .inl ⟨F_agg_63, F_size_63, rfl⟩⟩, ⟨rfl, trivial⟩⟩ _ rfl ⟨rfl, rfl⟩

set_option maxRecDepth 100000 in
theorem part_Right.spec (a0_0 : Int) (a0_1 : Int) (r : Bool) (H : part_Right a0_0 a0_1 = r) : FnSpec Try.prog 94 [(agg #[(int .i64 a0_0), (int .i64 a0_1)])] [] (fun v M => v = (bool r) ∧ M = []) := by
 unfold part_Right at H
 refine spec_of Try.func94 rfl 24 rfl (Nat.le_of_ble_eq_true rfl) fun F w0 => ?_
 show Ent (St 24 w0 F [(0, (agg #[(int .i64 a0_0), (int .i64 a0_1)]))] []) _
 refine ent_seq ?_
 refine ent_region ?_
 refine ent_op (ot_box (cs := [(int .i64 a0_0), (int .i64 a0_1)]) rfl rfl) rfl rfl rfl ?_
 rintro _ _ ⟨b3, rfl, rfl⟩
 refine ent_value (ov_assign rfl) rfl rfl rfl ?_
 refine ent_nil ?_
 refine ent_seq ?_
 refine ent_region ?_
 refine ent_value (ov_fieldAddr (sz := 0) (o := 0) rfl F_field_63_0 F_size_3) rfl rfl rfl ?_
 refine ent_value (ov_load (v := (int .i64 a0_0)) rfl F_agg_3 (reads_box1 (i := 0) rfl rfl)) rfl rfl rfl ?_
 obtain ⟨x2, h2, H⟩ := thn_elim H
 refine ent_op (ot_call0 (first := []) (cap := []) (xs := [.tmp 7, .const (int .i64 16777216)]) rfl rfl F_call_137 rfl (part_Of.spec a0_0 16777216 _ h2)) rfl rfl rfl ?_
 rintro _ _ ⟨rfl, rfl⟩
 refine ent_value (ov_move rfl) rfl rfl rfl ?_
 refine ent_value (ov_extract rfl rfl) rfl rfl rfl ?_
 refine ent_value (ov_extract rfl rfl) rfl rfl rfl ?_
 refine ent_op (ot_alloc F_zero_63) rfl rfl rfl ?_
 rintro _ _ ⟨b4, rfl, rfl⟩
 refine ent_op0 (ot_storeG (cs := [(int .i64 0), (int .i64 0)]) (cs' := [(int .i64 x2.1), (int .i64 x2.2.1)]) (us := [(int .i64 x2.1), (int .i64 x2.2.1)]) (L' := [(box b4 63 [(int .i64 x2.1), (int .i64 x2.2.1)]), (box b3 63 [(int .i64 a0_0), (int .i64 a0_1)])]) 0 rfl rfl rfl (one_all rfl) F_size_63 rfl rfl (by simp) rfl) rfl rfl ?_
 rintro _ _ rfl
 refine ent_value (ov_assign rfl) rfl rfl rfl ?_
 refine ent_nil ?_
 refine ent_seq ?_
 refine ent_region ?_
 refine ent_value (ov_move rfl) rfl rfl rfl ?_
 refine ent_value (ov_move rfl) rfl rfl rfl ?_
 by_cases c3 : x2.2.2 = true
 ·rw [if_pos c3] at H
  refine ent_value_on (ov_fieldAddr (sz := 0) (o := 0) rfl F_field_63_1 F_size_2) rfl rfl rfl c3 rfl rfl ?_
  refine ent_value_on (ov_load (v := (int .i64 a0_1)) rfl F_agg_2 (reads_box1 (i := 1) rfl rfl)) rfl rfl rfl c3 rfl rfl ?_
  refine ent_value_on (ov_bin rfl rfl (b_geq _ _ _)) rfl rfl rfl c3 rfl rfl ?_
  refine ent_value (ov_pick rfl rfl rfl (pick_t c3)) rfl rfl rfl ?_
  refine ent_value (ov_move rfl) rfl rfl rfl ?_
  by_cases c4 : 0 ≤ a0_1
  ·rw [if_pos c4] at H
   refine ent_value_on (ov_fieldAddr (sz := 0) (o := 0) rfl F_field_63_1 F_size_2) rfl rfl rfl (decide_eq_true c4) rfl rfl ?_
   refine ent_value_on (ov_load (v := (int .i64 a0_1)) rfl F_agg_2 (reads_box1 (i := 1) rfl rfl)) rfl rfl rfl (decide_eq_true c4) rfl rfl ?_
   refine ent_value_on (ov_fieldAddr (sz := 0) (o := 0) rfl F_field_63_1 F_size_2) rfl rfl rfl (decide_eq_true c4) rfl rfl ?_
   refine ent_value_on (ov_load (v := (int .i64 x2.2.1)) rfl F_agg_2 (reads_box1 (i := 0) rfl rfl)) rfl rfl rfl (decide_eq_true c4) rfl rfl ?_
   refine ent_value_on (ov_bin rfl rfl (b_leq _ _ _)) rfl rfl rfl (decide_eq_true c4) rfl rfl ?_
   refine ent_value (ov_pick rfl rfl rfl (pick_t (decide_eq_true c4))) rfl rfl rfl ?_
   refine ent_value (ov_assign rfl) rfl rfl rfl ?_
   refine ent_nil ?_
   refine ent_retc ?_
   cases H
   refine ent_pick [] (by decide) rfl ?_
   exact ret_tmp rfl rfl ⟨rfl, rfl⟩
  ·rw [if_neg c4] at H
   refine ent_off rfl rfl rfl (decide_eq_false c4) rfl rfl ?_
   refine ent_off rfl rfl rfl (decide_eq_false c4) rfl rfl ?_
   refine ent_off rfl rfl rfl (decide_eq_false c4) rfl rfl ?_
   refine ent_off rfl rfl rfl (decide_eq_false c4) rfl rfl ?_
   refine ent_off rfl rfl rfl (decide_eq_false c4) rfl rfl ?_
   refine ent_value (ov_pick rfl rfl rfl (pick_f (decide_eq_false c4))) rfl rfl rfl ?_
   refine ent_value (ov_assign rfl) rfl rfl rfl ?_
   refine ent_nil ?_
   refine ent_retc ?_
   cases H
   refine ent_pick [] (by decide) rfl ?_
   exact ret_tmp rfl rfl ⟨rfl, rfl⟩
 ·rw [if_neg c3] at H
  refine ent_off rfl rfl rfl (Bool.eq_false_iff.2 c3) rfl rfl ?_
  refine ent_off rfl rfl rfl (Bool.eq_false_iff.2 c3) rfl rfl ?_
  refine ent_off rfl rfl rfl (Bool.eq_false_iff.2 c3) rfl rfl ?_
  refine ent_value (ov_pick rfl rfl rfl (pick_f (Bool.eq_false_iff.2 c3))) rfl rfl rfl ?_
  refine ent_value (ov_move rfl) rfl rfl rfl ?_
  refine ent_off rfl rfl rfl rfl rfl rfl ?_
  refine ent_off rfl rfl rfl rfl rfl rfl ?_
  refine ent_off rfl rfl rfl rfl rfl rfl ?_
  refine ent_off rfl rfl rfl rfl rfl rfl ?_
  refine ent_off rfl rfl rfl rfl rfl rfl ?_
  refine ent_value (ov_pick rfl rfl rfl rfl) rfl rfl rfl ?_
  refine ent_value (ov_assign rfl) rfl rfl rfl ?_
  refine ent_nil ?_
  refine ent_retc ?_
  cases H
  refine ent_pick [] (by decide) rfl ?_
  exact ret_tmp rfl rfl ⟨rfl, rfl⟩

set_option maxRecDepth 100000 in
theorem catalog_Right_1.spec (a0 : Int) (a1 : Int) (r : Bool) (H : catalog_Right_1 a0 a1 = r) : FnSpec Try.prog 141 [(int .i64 a0), (int .i64 a1)] [] (fun v M => v = (bool r) ∧ M = []) := by
 unfold catalog_Right_1 at H
 refine spec_of Try.func141 rfl 12 rfl (Nat.le_of_ble_eq_true rfl) fun F w0 => ?_
 show Ent (St 12 w0 F [(0, (int .i64 a0)), (1, (int .i64 a1))] []) _
 refine ent_seq ?_
 refine ent_region ?_
 refine ent_value (ov_assign rfl) rfl rfl rfl ?_
 refine ent_nil ?_
 refine ent_seq ?_
 refine ent_region ?_
 refine ent_value (ov_move rfl) rfl rfl rfl ?_
 refine ent_value (ov_move rfl) rfl rfl rfl ?_
 refine ent_value (ov_bin rfl rfl (b_geq _ _ _)) rfl rfl rfl ?_
 refine ent_value (ov_move rfl) rfl rfl rfl ?_
 by_cases c2 : a1 ≤ a0
 ·rw [if_pos c2] at H
  refine ent_value_on (ov_move rfl) rfl rfl rfl (decide_eq_true c2) rfl rfl ?_
  refine ent_value_on (ov_bin rfl rfl (b_leq _ _ _)) rfl rfl rfl (decide_eq_true c2) rfl rfl ?_
  refine ent_value (ov_pick rfl rfl rfl (pick_t (decide_eq_true c2))) rfl rfl rfl ?_
  refine ent_value (ov_assign rfl) rfl rfl rfl ?_
  refine ent_nil ?_
  refine ent_retc ?_
  cases H
  refine ent_pick [] (by decide) rfl ?_
  exact ret_tmp rfl rfl ⟨rfl, rfl⟩
 ·rw [if_neg c2] at H
  refine ent_off rfl rfl rfl (decide_eq_false c2) rfl rfl ?_
  refine ent_off rfl rfl rfl (decide_eq_false c2) rfl rfl ?_
  refine ent_value (ov_pick rfl rfl rfl (pick_f (decide_eq_false c2))) rfl rfl rfl ?_
  refine ent_value (ov_assign rfl) rfl rfl rfl ?_
  refine ent_nil ?_
  refine ent_retc ?_
  cases H
  refine ent_pick [] (by decide) rfl ?_
  exact ret_tmp rfl rfl ⟨rfl, rfl⟩

set_option maxRecDepth 100000 in
theorem catalog_Right.spec (a0_0 : Int) (a0_1 : Int) (a0_2 : Int) (a0_3 : Int) (a0_4 : Int) (a0_5 : Bool) (r : Bool) (H : catalog_Right a0_0 a0_1 a0_2 a0_3 a0_4 a0_5 = r) : FnSpec Try.prog 92 [(agg #[(int .i64 a0_0), (int .i64 a0_1), (int .i64 a0_2), (int .i64 a0_3), (int .i64 a0_4), (bool a0_5)])] [] (fun v M => v = (bool r) ∧ M = []) := by
 unfold catalog_Right at H
 refine spec_of Try.func92 rfl 36 rfl (Nat.le_of_ble_eq_true rfl) fun F w0 => ?_
 show Ent (St 36 w0 F [(0, (agg #[(int .i64 a0_0), (int .i64 a0_1), (int .i64 a0_2), (int .i64 a0_3), (int .i64 a0_4), (bool a0_5)]))] []) _
 refine ent_seq ?_
 refine ent_region ?_
 refine ent_op (ot_box (cs := [(int .i64 a0_0), (int .i64 a0_1), (int .i64 a0_2), (int .i64 a0_3), (int .i64 a0_4), (bool a0_5)]) rfl rfl) rfl rfl rfl ?_
 rintro _ _ ⟨b2, rfl, rfl⟩
 refine ent_value (ov_assign rfl) rfl rfl rfl ?_
 refine ent_nil ?_
 refine ent_seq ?_
 refine ent_region ?_
 refine ent_value (ov_assign rfl) rfl rfl rfl ?_
 refine ent_nil ?_
 refine ent_seq ?_
 refine ent_region ?_
 refine ent_value (ov_fieldAddr (sz := 1) (o := 0) rfl F_field_65_0 F_size_63) rfl rfl rfl ?_
 refine ent_value (ov_load_agg (vs := [(int .i64 a0_0), (int .i64 a0_1)]) rfl F_agg_63 F_size_63 (reads_boxN (i := 0) rfl rfl)) rfl rfl rfl ?_
 obtain ⟨x5, h5, H⟩ := thn_elim H
 refine ent_op (ot_call0 (first := []) (cap := []) (xs := [.tmp 5]) rfl rfl F_call_94 rfl (part_Right.spec a0_0 a0_1 _ h5)) rfl rfl rfl ?_
 rintro _ _ ⟨rfl, rfl⟩
 refine ent_value (ov_move rfl) rfl rfl rfl ?_
 by_cases c6 : x5 = true
 ·rw [if_pos c6] at H
  refine ent_value_on (ov_move rfl) rfl rfl rfl c6 rfl rfl ?_
  refine ent_value_on (ov_fieldAddr (sz := 0) (o := 0) rfl F_field_65_1 F_size_2) rfl rfl rfl c6 rfl rfl ?_
  refine ent_value_on (ov_load (v := (int .i64 a0_2)) rfl F_agg_2 (reads_box1 (i := 0) rfl rfl)) rfl rfl rfl c6 rfl rfl ?_
  obtain ⟨x6, h6, H⟩ := thn_elim H
  refine ent_op_on (ot_call0 (first := []) (cap := []) (xs := [.tmp 10, .const (int .i64 1)]) rfl rfl F_call_141 rfl (catalog_Right_1.spec a0_2 1 _ h6)) rfl rfl rfl c6 rfl rfl ?_
  rintro _ _ ⟨rfl, rfl⟩
  refine ent_value (ov_pick rfl rfl rfl (pick_t c6)) rfl rfl rfl ?_
  refine ent_value (ov_move rfl) rfl rfl rfl ?_
  by_cases c7 : x6 = true
  ·rw [if_pos c7] at H
   refine ent_value_on (ov_move rfl) rfl rfl rfl c7 rfl rfl ?_
   refine ent_value_on (ov_fieldAddr (sz := 0) (o := 0) rfl F_field_65_3 F_size_2) rfl rfl rfl c7 rfl rfl ?_
   refine ent_value_on (ov_load (v := (int .i64 a0_4)) rfl F_agg_2 (reads_box1 (i := 0) rfl rfl)) rfl rfl rfl c7 rfl rfl ?_
   obtain ⟨x7, h7, H⟩ := thn_elim H
   refine ent_op_on (ot_call0 (first := []) (cap := []) (xs := [.tmp 16, .const (int .i64 1)]) rfl rfl F_call_141 rfl (catalog_Right_1.spec a0_4 1 _ h7)) rfl rfl rfl c7 rfl rfl ?_
   rintro _ _ ⟨rfl, rfl⟩
   refine ent_value (ov_pick rfl rfl rfl (pick_t c7)) rfl rfl rfl ?_
   refine ent_value (ov_move rfl) rfl rfl rfl ?_
   by_cases c8 : x7 = true
   ·rw [if_pos c8] at H
    refine ent_value_on (ov_move rfl) rfl rfl rfl c8 rfl rfl ?_
    refine ent_value_on (ov_fieldAddr (sz := 0) (o := 0) rfl F_field_65_2 F_size_2) rfl rfl rfl c8 rfl rfl ?_
    refine ent_value_on (ov_load (v := (int .i64 a0_3)) rfl F_agg_2 (reads_box1 (i := 0) rfl rfl)) rfl rfl rfl c8 rfl rfl ?_
    obtain ⟨x8, h8, H⟩ := thn_elim H
    refine ent_op_on (ot_call0 (first := []) (cap := []) (xs := [.tmp 22, .const (int .i64 0)]) rfl rfl F_call_141 rfl (catalog_Right_1.spec a0_3 0 _ h8)) rfl rfl rfl c8 rfl rfl ?_
    rintro _ _ ⟨rfl, rfl⟩
    refine ent_value (ov_pick rfl rfl rfl (pick_t c8)) rfl rfl rfl ?_
    refine ent_value (ov_move rfl) rfl rfl rfl ?_
    by_cases c9 : x8 = true
    ·rw [if_pos c9] at H
     refine ent_value_on (ov_fieldAddr (sz := 1) (o := 0) rfl F_field_65_0 F_size_63) rfl rfl rfl c9 rfl rfl ?_
     refine ent_value_on (ov_fieldAddr (sz := 0) (o := 0) rfl F_field_63_0 F_size_3) rfl rfl rfl c9 rfl rfl ?_
     refine ent_value_on (ov_load (v := (int .i64 a0_0)) rfl F_agg_3 (reads_box1 (i := 0) rfl rfl)) rfl rfl rfl c9 rfl rfl ?_
     refine ent_value_on (ov_bin rfl rfl (b_eql _ _ _)) rfl rfl rfl c9 rfl rfl ?_
     refine ent_value_on (ov_move rfl) rfl rfl rfl c9 rfl rfl ?_
     by_cases c10 : a0_0 = 3
     ·rw [if_pos c10] at H
      refine ent_off rfl rfl rfl (eq_t c10) rfl rfl ?_
      refine ent_off rfl rfl rfl (eq_t c10) rfl rfl ?_
      refine ent_off rfl rfl rfl (eq_t c10) rfl rfl ?_
      refine ent_value_on (ov_pick rfl rfl rfl (pick_t (eq_t c10))) rfl rfl rfl c9 rfl rfl ?_
      refine ent_value (ov_pick rfl rfl rfl (pick_t c9)) rfl rfl rfl ?_
      refine ent_value (ov_assign rfl) rfl rfl rfl ?_
      refine ent_nil ?_
      refine ent_retc ?_
      cases H
      refine ent_pick [] (by decide) rfl ?_
      exact ret_tmp rfl rfl ⟨rfl, rfl⟩
     ·rw [if_neg c10] at H
      refine ent_value_on (ov_fieldAddr (sz := 0) (o := 0) rfl F_field_65_4 F_size_4) rfl rfl rfl (eq_f c10) rfl rfl ?_
      refine ent_value_on (ov_load (v := (bool a0_5)) rfl F_agg_4 (reads_box1 (i := 0) rfl rfl)) rfl rfl rfl (eq_f c10) rfl rfl ?_
      refine ent_value_on (ov_un rfl (u_not _)) rfl rfl rfl (eq_f c10) rfl rfl ?_
      refine ent_value_on (ov_pick rfl rfl rfl (pick_f (eq_f c10))) rfl rfl rfl c9 rfl rfl ?_
      refine ent_value (ov_pick rfl rfl rfl (pick_t c9)) rfl rfl rfl ?_
      refine ent_value (ov_assign rfl) rfl rfl rfl ?_
      refine ent_nil ?_
      refine ent_retc ?_
      cases H
      refine ent_pick [] (by decide) rfl ?_
      exact ret_tmp rfl rfl ⟨rfl, rfl⟩
    ·rw [if_neg c9] at H
     refine ent_off rfl rfl rfl (Bool.eq_false_iff.2 c9) rfl rfl ?_
     refine ent_off rfl rfl rfl (Bool.eq_false_iff.2 c9) rfl rfl ?_
     refine ent_off rfl rfl rfl (Bool.eq_false_iff.2 c9) rfl rfl ?_
     refine ent_off rfl rfl rfl (Bool.eq_false_iff.2 c9) rfl rfl ?_
     refine ent_off rfl rfl rfl (Bool.eq_false_iff.2 c9) rfl rfl ?_
     refine ent_offu rfl rfl rfl rfl rfl ?_
     refine ent_offu rfl rfl rfl rfl rfl ?_
     refine ent_offu rfl rfl rfl rfl rfl ?_
     refine ent_off rfl rfl rfl (Bool.eq_false_iff.2 c9) rfl rfl ?_
     refine ent_value (ov_pick rfl rfl rfl (pick_f (Bool.eq_false_iff.2 c9))) rfl rfl rfl ?_
     refine ent_value (ov_assign rfl) rfl rfl rfl ?_
     refine ent_nil ?_
     refine ent_retc ?_
     cases H
     refine ent_pick [] (by decide) rfl ?_
     exact ret_tmp rfl rfl ⟨rfl, rfl⟩
   ·rw [if_neg c8] at H
    refine ent_off rfl rfl rfl (Bool.eq_false_iff.2 c8) rfl rfl ?_
    refine ent_off rfl rfl rfl (Bool.eq_false_iff.2 c8) rfl rfl ?_
    refine ent_off rfl rfl rfl (Bool.eq_false_iff.2 c8) rfl rfl ?_
    refine ent_off rfl rfl rfl (Bool.eq_false_iff.2 c8) rfl rfl ?_
    refine ent_value (ov_pick rfl rfl rfl (pick_f (Bool.eq_false_iff.2 c8))) rfl rfl rfl ?_
    refine ent_value (ov_move rfl) rfl rfl rfl ?_
    refine ent_off rfl rfl rfl rfl rfl rfl ?_
    refine ent_off rfl rfl rfl rfl rfl rfl ?_
    refine ent_off rfl rfl rfl rfl rfl rfl ?_
    refine ent_off rfl rfl rfl rfl rfl rfl ?_
    refine ent_off rfl rfl rfl rfl rfl rfl ?_
    refine ent_offu rfl rfl rfl rfl rfl ?_
    refine ent_offu rfl rfl rfl rfl rfl ?_
    refine ent_offu rfl rfl rfl rfl rfl ?_
    refine ent_off rfl rfl rfl rfl rfl rfl ?_
    refine ent_value (ov_pick rfl rfl rfl rfl) rfl rfl rfl ?_
    refine ent_value (ov_assign rfl) rfl rfl rfl ?_
    refine ent_nil ?_
    refine ent_retc ?_
    cases H
    refine ent_pick [] (by decide) rfl ?_
    exact ret_tmp rfl rfl ⟨rfl, rfl⟩
  ·rw [if_neg c7] at H
   refine ent_off rfl rfl rfl (Bool.eq_false_iff.2 c7) rfl rfl ?_
   refine ent_off rfl rfl rfl (Bool.eq_false_iff.2 c7) rfl rfl ?_
   refine ent_off rfl rfl rfl (Bool.eq_false_iff.2 c7) rfl rfl ?_
   refine ent_off rfl rfl rfl (Bool.eq_false_iff.2 c7) rfl rfl ?_
   refine ent_value (ov_pick rfl rfl rfl (pick_f (Bool.eq_false_iff.2 c7))) rfl rfl rfl ?_
   refine ent_value (ov_move rfl) rfl rfl rfl ?_
   refine ent_off rfl rfl rfl rfl rfl rfl ?_
   refine ent_off rfl rfl rfl rfl rfl rfl ?_
   refine ent_off rfl rfl rfl rfl rfl rfl ?_
   refine ent_off rfl rfl rfl rfl rfl rfl ?_
   refine ent_value (ov_pick rfl rfl rfl rfl) rfl rfl rfl ?_
   refine ent_value (ov_move rfl) rfl rfl rfl ?_
   refine ent_off rfl rfl rfl rfl rfl rfl ?_
   refine ent_off rfl rfl rfl rfl rfl rfl ?_
   refine ent_off rfl rfl rfl rfl rfl rfl ?_
   refine ent_off rfl rfl rfl rfl rfl rfl ?_
   refine ent_off rfl rfl rfl rfl rfl rfl ?_
   refine ent_offu rfl rfl rfl rfl rfl ?_
   refine ent_offu rfl rfl rfl rfl rfl ?_
   refine ent_offu rfl rfl rfl rfl rfl ?_
   refine ent_off rfl rfl rfl rfl rfl rfl ?_
   refine ent_value (ov_pick rfl rfl rfl rfl) rfl rfl rfl ?_
   refine ent_value (ov_assign rfl) rfl rfl rfl ?_
   refine ent_nil ?_
   refine ent_retc ?_
   cases H
   refine ent_pick [] (by decide) rfl ?_
   exact ret_tmp rfl rfl ⟨rfl, rfl⟩
 ·rw [if_neg c6] at H
  refine ent_off rfl rfl rfl (Bool.eq_false_iff.2 c6) rfl rfl ?_
  refine ent_off rfl rfl rfl (Bool.eq_false_iff.2 c6) rfl rfl ?_
  refine ent_off rfl rfl rfl (Bool.eq_false_iff.2 c6) rfl rfl ?_
  refine ent_off rfl rfl rfl (Bool.eq_false_iff.2 c6) rfl rfl ?_
  refine ent_value (ov_pick rfl rfl rfl (pick_f (Bool.eq_false_iff.2 c6))) rfl rfl rfl ?_
  refine ent_value (ov_move rfl) rfl rfl rfl ?_
  refine ent_off rfl rfl rfl rfl rfl rfl ?_
  refine ent_off rfl rfl rfl rfl rfl rfl ?_
  refine ent_off rfl rfl rfl rfl rfl rfl ?_
  refine ent_off rfl rfl rfl rfl rfl rfl ?_
  refine ent_value (ov_pick rfl rfl rfl rfl) rfl rfl rfl ?_
  refine ent_value (ov_move rfl) rfl rfl rfl ?_
  refine ent_off rfl rfl rfl rfl rfl rfl ?_
  refine ent_off rfl rfl rfl rfl rfl rfl ?_
  refine ent_off rfl rfl rfl rfl rfl rfl ?_
  refine ent_off rfl rfl rfl rfl rfl rfl ?_
  refine ent_value (ov_pick rfl rfl rfl rfl) rfl rfl rfl ?_
  refine ent_value (ov_move rfl) rfl rfl rfl ?_
  refine ent_off rfl rfl rfl rfl rfl rfl ?_
  refine ent_off rfl rfl rfl rfl rfl rfl ?_
  refine ent_off rfl rfl rfl rfl rfl rfl ?_
  refine ent_off rfl rfl rfl rfl rfl rfl ?_
  refine ent_off rfl rfl rfl rfl rfl rfl ?_
  refine ent_offu rfl rfl rfl rfl rfl ?_
  refine ent_offu rfl rfl rfl rfl rfl ?_
  refine ent_offu rfl rfl rfl rfl rfl ?_
  refine ent_off rfl rfl rfl rfl rfl rfl ?_
  refine ent_value (ov_pick rfl rfl rfl rfl) rfl rfl rfl ?_
  refine ent_value (ov_assign rfl) rfl rfl rfl ?_
  refine ent_nil ?_
  refine ent_retc ?_
  cases H
  refine ent_pick [] (by decide) rfl ?_
  exact ret_tmp rfl rfl ⟨rfl, rfl⟩

set_option maxRecDepth 100000 in
theorem civil_number.spec (a0 : Int) (a1 : Int) (a2 : Int) (r : Int) (H : civil_number a0 a1 a2 = r) : FnSpec Try.prog 144 [(int .i64 a0), (int .i64 a1), (int .i64 a2)] [] (fun v M => v = (int .i64 r) ∧ M = []) := by
 unfold civil_number at H
 refine spec_of Try.func144 rfl 42 rfl (Nat.le_of_ble_eq_true rfl) fun F w0 => ?_
 show Ent (St 42 w0 F [(0, (int .i64 a0)), (1, (int .i64 a1)), (2, (int .i64 a2))] []) _
 refine ent_seq ?_
 refine ent_region ?_
 refine ent_value (ov_assign rfl) rfl rfl rfl ?_
 refine ent_nil ?_
 refine ent_seq ?_
 refine ent_region ?_
 refine ent_value (ov_move rfl) rfl rfl rfl ?_
 refine ent_value (ov_bin rfl rfl (b_sub _ _ _) ) rfl rfl rfl ?_
 refine ent_value (ov_assign rfl) rfl rfl rfl ?_
 refine ent_nil ?_
 obtain ⟨x2, H2, H⟩ := thn_elim H
 refine ent_seq_cut (fun a w => St 42 w0 F [(0, (int .i64 x2.1)), (2, (int .i64 a2)), (7, (int .i64 x2.2))] [] a w) ?_ ?_
 ·refine ent_seq ?_
  refine ent_region ?_
  refine ent_value (ov_move rfl) rfl rfl rfl ?_
  refine ent_value (ov_bin rfl rfl (b_lss _ _ _)) rfl rfl rfl ?_
  refine ent_nil ?_
  by_cases c4 : (w64 (a1 - 3)) < 0
  ·rw [if_pos c4] at H2
   refine ent_cond_true rfl (decide_eq_true c4) ?_
   refine ent_seq ?_
   refine ent_region ?_
   refine ent_value (ov_move rfl) rfl rfl rfl ?_
   refine ent_value (ov_bin rfl rfl (b_add _ _ _) ) rfl rfl rfl ?_
   refine ent_value (ov_assign rfl) rfl rfl rfl ?_
   refine ent_nil ?_
   refine ent_region ?_
   refine ent_value (ov_move rfl) rfl rfl rfl ?_
   refine ent_value (ov_bin rfl rfl (b_sub _ _ _) ) rfl rfl rfl ?_
   refine ent_value (ov_assign rfl) rfl rfl rfl ?_
   refine ent_nil ?_
   cases H2
   exact ent_fin [] (by decide) rfl (sub_cons (t := 0) rfl (sub_cons (t := 2) rfl (sub_cons (t := 7) rfl (sub_nil _)))) fun a w h => h
  ·rw [if_neg c4] at H2
   refine ent_cond_false rfl (decide_eq_false c4) ?_
   refine ent_skip ?_
   cases H2
   exact ent_fin [] (by decide) rfl (sub_cons (t := 0) rfl (sub_cons (t := 2) rfl (sub_cons (t := 7) rfl (sub_nil _)))) fun a w h => h
 ·refine ent_seq ?_
  refine ent_region ?_
  refine ent_value (ov_move rfl) rfl rfl rfl ?_
  refine ent_value (ov_bin rfl rfl fun w => b_rem _ _ _ w (by decide)) rfl rfl rfl ?_
  refine ent_value (ov_assign rfl) rfl rfl rfl ?_
  refine ent_nil ?_
  refine ent_seq ?_
  refine ent_region ?_
  refine ent_value (ov_move rfl) rfl rfl rfl ?_
  refine ent_value (ov_bin rfl rfl (b_mul _ _ _) ) rfl rfl rfl ?_
  refine ent_value (ov_move rfl) rfl rfl rfl ?_
  refine ent_value (ov_bin rfl rfl fun w => b_quo _ _ _ w (by decide)) rfl rfl rfl ?_
  refine ent_value (ov_bin rfl rfl (b_add _ _ _) ) rfl rfl rfl ?_
  refine ent_value (ov_move rfl) rfl rfl rfl ?_
  refine ent_value (ov_bin rfl rfl fun w => b_quo _ _ _ w (by decide)) rfl rfl rfl ?_
  refine ent_value (ov_bin rfl rfl (b_sub _ _ _) ) rfl rfl rfl ?_
  refine ent_value (ov_move rfl) rfl rfl rfl ?_
  refine ent_value (ov_bin rfl rfl (b_mul _ _ _) ) rfl rfl rfl ?_
  refine ent_value (ov_bin rfl rfl (b_add _ _ _) ) rfl rfl rfl ?_
  refine ent_value (ov_bin rfl rfl fun w => b_quo _ _ _ w (by decide)) rfl rfl rfl ?_
  refine ent_value (ov_bin rfl rfl (b_add _ _ _) ) rfl rfl rfl ?_
  refine ent_value (ov_move rfl) rfl rfl rfl ?_
  refine ent_value (ov_bin rfl rfl (b_add _ _ _) ) rfl rfl rfl ?_
  refine ent_value (ov_bin rfl rfl (b_sub _ _ _) ) rfl rfl rfl ?_
  refine ent_value (ov_assign rfl) rfl rfl rfl ?_
  refine ent_nil ?_
  refine ent_seq ?_
  refine ent_region ?_
  refine ent_value (ov_move rfl) rfl rfl rfl ?_
  refine ent_value (ov_bin rfl rfl fun w => b_quo _ _ _ w (by decide)) rfl rfl rfl ?_
  refine ent_value (ov_bin rfl rfl (b_mul _ _ _) ) rfl rfl rfl ?_
  refine ent_value (ov_move rfl) rfl rfl rfl ?_
  refine ent_value (ov_bin rfl rfl (b_add _ _ _) ) rfl rfl rfl ?_
  refine ent_value (ov_bin rfl rfl (b_sub _ _ _) ) rfl rfl rfl ?_
  refine ent_value (ov_assign rfl) rfl rfl rfl ?_
  refine ent_nil ?_
  refine ent_retc ?_
  cases H
  refine ent_pick [] (by decide) rfl ?_
  exact ret_tmp rfl rfl ⟨rfl, rfl⟩

set_option maxRecDepth 100000 in
theorem civil_Span_1.spec (a0 : Int) (r : Int) (H : civil_Span_1 a0 = r) : FnSpec Try.prog 143 [(int .i64 a0)] [] (fun v M => v = (int .i64 r) ∧ M = []) := by
 unfold civil_Span_1 at H
 refine spec_of Try.func143 rfl 10 rfl (Nat.le_of_ble_eq_true rfl) fun F w0 => ?_
 show Ent (St 10 w0 F [(0, (int .i64 a0))] []) _
 refine ent_seq ?_
 refine ent_region ?_
 refine ent_value (ov_assign rfl) rfl rfl rfl ?_
 refine ent_nil ?_
 refine ent_seq ?_
 refine ent_region ?_
 refine ent_value (ov_move rfl) rfl rfl rfl ?_
 refine ent_value (ov_bin rfl rfl fun w => b_quo _ _ _ w (by decide)) rfl rfl rfl ?_
 refine ent_value (ov_bin rfl rfl (b_add _ _ _) ) rfl rfl rfl ?_
 refine ent_value (ov_move rfl) rfl rfl rfl ?_
 refine ent_value (ov_bin rfl rfl fun w => b_rem _ _ _ w (by decide)) rfl rfl rfl ?_
 refine ent_value (ov_bin rfl rfl (b_add _ _ _) ) rfl rfl rfl ?_
 obtain ⟨x2, h2, H⟩ := thn_elim H
 refine ent_op (ot_call0 (first := []) (cap := []) (xs := [.tmp 5, .tmp 8, .const (int .i64 1)]) rfl rfl F_call_144 rfl (civil_number.spec (w64 (1970 + (w64 (Int.tdiv a0 12)))) (w64 ((Int.tmod a0 12) + 1)) 1 _ h2)) rfl rfl rfl ?_
 rintro _ _ ⟨rfl, rfl⟩
 refine ent_value (ov_assign rfl) rfl rfl rfl ?_
 refine ent_nil ?_
 refine ent_retc ?_
 cases H
 refine ent_pick [] (by decide) rfl ?_
 exact ret_tmp rfl rfl ⟨rfl, rfl⟩

set_option maxRecDepth 100000 in
theorem civil_Span.spec (a0 : Int) (r : (Int × Int)) (H : civil_Span a0 = r) : FnSpec Try.prog 95 [(int .i64 a0)] [] (fun v M => v = (Value.tuple #[(int .i64 r.1), (int .i64 r.2)]) ∧ M = []) := by
 unfold civil_Span at H
 refine spec_of Try.func95 rfl 12 rfl (Nat.le_of_ble_eq_true rfl) fun F w0 => ?_
 show Ent (St 12 w0 F [(0, (int .i64 a0))] []) _
 refine ent_seq ?_
 refine ent_region ?_
 refine ent_value (ov_assign rfl) rfl rfl rfl ?_
 refine ent_value (ov_assign rfl) rfl rfl rfl ?_
 refine ent_nil ?_
 refine ent_seq ?_
 refine ent_region ?_
 refine ent_value (ov_assign rfl) rfl rfl rfl ?_
 refine ent_nil ?_
 refine ent_seq ?_
 refine ent_region ?_
 refine ent_value (ov_move rfl) rfl rfl rfl ?_
 refine ent_value (ov_move rfl) rfl rfl rfl ?_
 obtain ⟨x3, h3, H⟩ := thn_elim H
 refine ent_op (ot_call0 (first := []) (cap := []) (xs := [.tmp 6]) rfl rfl F_call_143 rfl (civil_Span_1.spec a0 _ h3)) rfl rfl rfl ?_
 rintro _ _ ⟨rfl, rfl⟩
 refine ent_value (ov_move rfl) rfl rfl rfl ?_
 refine ent_value (ov_move rfl) rfl rfl rfl ?_
 refine ent_value (ov_bin rfl rfl (b_add _ _ _) ) rfl rfl rfl ?_
 obtain ⟨x4, h4, H⟩ := thn_elim H
 refine ent_op (ot_call0 (first := []) (cap := []) (xs := [.tmp 10]) rfl rfl F_call_143 rfl (civil_Span_1.spec (w64 (a0 + 1)) _ h4)) rfl rfl rfl ?_
 rintro _ _ ⟨rfl, rfl⟩
 refine ent_value (ov_assign rfl) rfl rfl rfl ?_
 refine ent_value (ov_assign rfl) rfl rfl rfl ?_
 refine ent_nil ?_
 refine ent_retc ?_
 cases H
 refine ent_pick [] (by decide) rfl ?_
 exact ret_mem (vs := [(int .i64 x3), (int .i64 x4)]) rfl ⟨rfl, ⟨rfl, trivial⟩⟩ _ rfl ⟨rfl, rfl⟩

set_option maxRecDepth 100000 in
theorem part_Span.spec (a0_0 : Int) (a0_1 : Int) (r : (Int × Int)) (H : part_Span a0_0 a0_1 = r) : FnSpec Try.prog 35 [(agg #[(int .i64 a0_0), (int .i64 a0_1)])] [] (fun v M => v = (Value.tuple #[(int .i64 r.1), (int .i64 r.2)]) ∧ M = []) := by
 unfold part_Span at H
 refine spec_of Try.func35 rfl 30 rfl (Nat.le_of_ble_eq_true rfl) fun F w0 => ?_
 show Ent (St 30 w0 F [(0, (agg #[(int .i64 a0_0), (int .i64 a0_1)]))] []) _
 refine ent_seq ?_
 refine ent_region ?_
 refine ent_op (ot_box (cs := [(int .i64 a0_0), (int .i64 a0_1)]) rfl rfl) rfl rfl rfl ?_
 rintro _ _ ⟨b2, rfl, rfl⟩
 refine ent_value (ov_assign rfl) rfl rfl rfl ?_
 refine ent_value (ov_assign rfl) rfl rfl rfl ?_
 refine ent_nil ?_
 refine ent_seq ?_
 refine ent_seq ?_
 refine ent_region ?_
 refine ent_value (ov_load_agg (vs := [(int .i64 a0_0), (int .i64 a0_1)]) rfl F_agg_63 F_size_63 (reads_boxW (i := 0) rfl)) rfl rfl rfl ?_
 obtain ⟨x10, h8, H⟩ := thn_elim H
 refine ent_op (ot_call0 (first := []) (cap := []) (xs := [.tmp 4]) rfl rfl F_call_94 rfl (part_Right.spec a0_0 a0_1 _ h8)) rfl rfl rfl ?_
 rintro _ _ ⟨rfl, rfl⟩
 refine ent_value (ov_un rfl (u_not _)) rfl rfl rfl ?_
 refine ent_nil ?_
 by_cases c52 : (!x10) = true
 ·rw [if_pos c52] at H
  refine ent_cond_true rfl c52 ?_
  refine ent_seq ?_
  refine ent_region ?_
  refine ent_value (ov_assign rfl) rfl rfl rfl ?_
  refine ent_value (ov_assign rfl) rfl rfl rfl ?_
  refine ent_nil ?_
  refine ent_retc ?_
  cases H
  refine ent_pick [] (by decide) rfl ?_
  exact ret_mem (vs := [(int .i64 0), (int .i64 0)]) rfl ⟨rfl, ⟨rfl, trivial⟩⟩ _ rfl ⟨rfl, rfl⟩
 ·rw [if_neg c52] at H
  refine ent_cond_false rfl (Bool.eq_false_iff.2 c52) ?_
  refine ent_skip ?_
  refine ent_seq ?_
  refine ent_drawm 7 rfl (fun done a w => StD 30 w0 F [(0, (agg #[(int .i64 a0_0), (int .i64 a0_1)])), (1, (pt b2 0)), (4, (agg #[(int .i64 a0_0), (int .i64 a0_1)])), (5, (bool x10)), (6, (bool (!x10)))] [(0, 7, (pt b2 1)), (1, 8, (int .i64 a0_1)), (2, 9, (pt b2 1)), (3, 10, (int .i64 a0_1)), (4, 11, (int .i64 (w64 (a0_1 + 1)))), (5, 2, (int .i64 a0_1)), (6, 3, (int .i64 (w64 (a0_1 + 1))))] done [(box b2 63 [(int .i64 a0_0), (int .i64 a0_1)])] a w) (by kernel_rfl) (by kernel_rfl) (draw_startL (sub_cons (t := 0) rfl (sub_cons (t := 1) rfl (sub_cons (t := 4) rfl (sub_cons (t := 5) rfl (sub_cons (t := 6) rfl (sub_nil _)))))) rfl) ?_ ?_
  ·refine ⟨?_, ?_, ?_, ?_, ?_, ?_, ?_, trivial⟩
   ·intro done hi hc hcu
    exact draw_value (i := 0) (t := 7) (v := (pt b2 1)) rfl rfl (wanted_none rfl) (fun a => hasA_base) (ov_fieldAddr (sz := 0) (o := 0) rfl F_field_63_1 F_size_2) rfl rfl (onlyT_spec (k0 := 0) rfl rfl rfl)
   ·intro done hi hc hcu
    have d0 : done 0 = true := done_of (j := 0) hcu rfl (by decide) rfl
    exact draw_value (i := 1) (t := 8) (v := (int .i64 a0_1)) rfl rfl (wanted_none rfl) (fun a => (hasA_cons (k := 0) rfl d0 hasA_base)) (ov_load (v := (int .i64 a0_1)) rfl F_agg_2 (reads_box1 (i := 0) rfl rfl)) rfl rfl (onlyT_spec (k0 := 1) rfl rfl rfl)
   ·intro done hi hc hcu
    exact draw_value (i := 2) (t := 9) (v := (pt b2 1)) rfl rfl (wanted_none rfl) (fun a => hasA_base) (ov_fieldAddr (sz := 0) (o := 0) rfl F_field_63_1 F_size_2) rfl rfl (onlyT_spec (k0 := 2) rfl rfl rfl)
   ·intro done hi hc hcu
    have d2 : done 2 = true := done_of (j := 2) hcu rfl (by decide) rfl
    exact draw_value (i := 3) (t := 10) (v := (int .i64 a0_1)) rfl rfl (wanted_none rfl) (fun a => (hasA_cons (k := 2) rfl d2 hasA_base)) (ov_load (v := (int .i64 a0_1)) rfl F_agg_2 (reads_box1 (i := 0) rfl rfl)) rfl rfl (onlyT_spec (k0 := 3) rfl rfl rfl)
   ·intro done hi hc hcu
    have d3 : done 3 = true := done_of (j := 3) hcu rfl (by decide) rfl
    exact draw_value (i := 4) (t := 11) (v := (int .i64 (w64 (a0_1 + 1)))) rfl rfl (wanted_none rfl) (fun a => (hasA_cons (k := 3) rfl d3 hasA_base)) (ov_bin rfl rfl (b_add _ _ _) ) rfl rfl (onlyT_spec (k0 := 4) rfl rfl rfl)
   ·intro done hi hc hcu
    have d1 : done 1 = true := done_of (j := 1) hcu rfl (by decide) rfl
    exact draw_value (i := 5) (t := 2) (v := (int .i64 a0_1)) rfl rfl (wanted_none rfl) (fun a => (hasA_cons (k := 1) rfl d1 hasA_base)) (ov_assign rfl) rfl rfl (onlyT_spec (k0 := 5) rfl rfl rfl)
   ·intro done hi hc hcu
    have d4 : done 4 = true := done_of (j := 4) hcu rfl (by decide) rfl
    exact draw_value (i := 6) (t := 3) (v := (int .i64 (w64 (a0_1 + 1)))) rfl rfl (wanted_none rfl) (fun a => (hasA_cons (k := 4) rfl d4 hasA_base)) (ov_assign rfl) rfl rfl (onlyT_spec (k0 := 6) rfl rfl rfl)
  ·intro done hall
   refine draw_endL [(box b2 63 [(int .i64 a0_0), (int .i64 a0_1)])] rfl (fun a => (hasA_cons (k := 5) rfl (hall 5 (by decide)) (hasA_cons (k := 6) rfl (hall 6 (by decide)) (hasA_cons (k := 0) rfl (hall 0 (by decide)) (hasA_cons (k := 1) rfl (hall 1 (by decide)) (hasA_cons (k := 2) rfl (hall 2 (by decide)) (hasA_cons (k := 3) rfl (hall 3 (by decide)) (hasA_cons (k := 4) rfl (hall 4 (by decide)) hasA_base)))))))) ?_
   refine ent_seq ?_
   refine ent_seq ?_
   refine ent_region ?_
   refine ent_value (ov_fieldAddr (sz := 0) (o := 0) rfl F_field_63_0 F_size_3) rfl rfl rfl ?_
   refine ent_value (ov_load (v := (int .i64 a0_0)) rfl F_agg_3 (reads_box1 (i := 0) rfl rfl)) rfl rfl rfl ?_
   refine ent_nil ?_
   refine ent_block ?_
   obtain ⟨x15, H7, H⟩ := thn_elim H
   refine ent_seq_cut (fun a w => ∃ v4, x15 = Sum.inl v4 ∧ St 30 w0 F [(2, (int .i64 v4.1)), (3, (int .i64 v4.2))] [] a w) ?_ ?_
   ·refine ent_block ?_
    refine ent_seq ?_
    refine ent_block ?_
    refine ent_seq ?_
    refine ent_seq ?_
    refine ent_seq ?_
    refine ent_region ?_
    refine ent_value (ov_bin rfl rfl (b_eql _ _ _)) rfl rfl rfl ?_
    refine ent_value (ov_assign rfl) rfl rfl rfl ?_
    refine ent_nil ?_
    by_cases c99 : a0_0 = 3
    ·rw [if_pos c99] at H7
     refine ent_cond_true rfl (eq_t c99) ?_
     refine ent_exit ?_
     refine ent_region ?_
     refine ent_value (ov_fieldAddr (sz := 0) (o := 0) rfl F_field_63_1 F_size_2) rfl rfl rfl ?_
     refine ent_value (ov_load (v := (int .i64 a0_1)) rfl F_agg_2 (reads_box1 (i := 0) rfl rfl)) rfl rfl rfl ?_
     obtain ⟨x16, h12, H7⟩ := thn_elim H7
     refine ent_op (ot_call0 (first := []) (cap := []) (xs := [.tmp 20]) rfl rfl F_call_95 rfl (civil_Span.spec a0_1 _ h12)) rfl rfl rfl ?_
     rintro _ _ ⟨rfl, rfl⟩
     refine ent_value (ov_move rfl) rfl rfl rfl ?_
     refine ent_value (ov_extract rfl rfl) rfl rfl rfl ?_
     refine ent_value (ov_extract rfl rfl) rfl rfl rfl ?_
     refine ent_value (ov_assign rfl) rfl rfl rfl ?_
     refine ent_value (ov_assign rfl) rfl rfl rfl ?_
     refine ent_nil ?_
     cases H7
     exact ent_fin [] (by decide) rfl (sub_cons (t := 2) rfl (sub_cons (t := 3) rfl (sub_nil _))) fun a w h => ⟨_, rfl, h⟩
    ·rw [if_neg c99] at H7
     refine ent_cond_false rfl (eq_f c99) ?_
     refine ent_skip ?_
     refine ent_seq ?_
     refine ent_region ?_
     refine ent_value (ov_bin rfl rfl (b_eql _ _ _)) rfl rfl rfl ?_
     refine ent_value (ov_assign rfl) rfl rfl rfl ?_
     refine ent_nil ?_
     by_cases c100 : a0_0 = 2
     ·rw [if_pos c100] at H7
      refine ent_cond_true rfl (eq_t c100) ?_
      refine ent_exit ?_
      cases H7
      exact ent_fin [] (by decide) rfl (sub_cons (t := 2) rfl (sub_cons (t := 3) rfl (sub_nil _))) fun a w h => ⟨_, rfl, h⟩
     ·rw [if_neg c100] at H7
      refine ent_cond_false rfl (eq_f c100) ?_
      refine ent_skip ?_
      refine ent_exit ?_
      subst H7
      have H8 := show _ = _ from H
      refine ent_seq ?_
      refine ent_region ?_
      refine ent_value (ov_move rfl) rfl rfl rfl ?_
      refine ent_value (ov_move rfl) rfl rfl rfl ?_
      refine ent_value (ov_assign rfl) rfl rfl rfl ?_
      refine ent_value (ov_assign rfl) rfl rfl rfl ?_
      refine ent_nil ?_
      refine ent_retc ?_
      cases H8
      refine ent_pick [] (by decide) rfl ?_
      exact ret_mem (vs := [(int .i64 a0_1), (int .i64 (w64 (a0_1 + 1)))]) rfl ⟨rfl, ⟨rfl, trivial⟩⟩ _ rfl ⟨rfl, rfl⟩
   ·refine ent_exi fun v4 => ent_and fun e_ => ?_
    subst e_
    rw [cas_inl] at H
    refine ent_seq ?_
    refine ent_region ?_
    refine ent_value (ov_move rfl) rfl rfl rfl ?_
    refine ent_value (ov_bin rfl rfl (b_mul _ _ _) ) rfl rfl rfl ?_
    refine ent_value (ov_move rfl) rfl rfl rfl ?_
    refine ent_value (ov_bin rfl rfl (b_mul _ _ _) ) rfl rfl rfl ?_
    refine ent_value (ov_assign rfl) rfl rfl rfl ?_
    refine ent_value (ov_assign rfl) rfl rfl rfl ?_
    refine ent_nil ?_
    refine ent_exit ?_
    refine ent_seq ?_
    refine ent_region ?_
    refine ent_value (ov_move rfl) rfl rfl rfl ?_
    refine ent_value (ov_move rfl) rfl rfl rfl ?_
    refine ent_value (ov_assign rfl) rfl rfl rfl ?_
    refine ent_value (ov_assign rfl) rfl rfl rfl ?_
    refine ent_nil ?_
    refine ent_retc ?_
    cases H
    refine ent_pick [] (by decide) rfl ?_
    exact ret_mem (vs := [(int .i64 (w64 (v4.1 * 24))), (int .i64 (w64 (v4.2 * 24)))]) rfl ⟨rfl, ⟨rfl, trivial⟩⟩ _ rfl ⟨rfl, rfl⟩

set_option maxRecDepth 100000 in
theorem omap_Map__int64__api_Entry_place_1_O.spec (p0 : Nat) (p1 : Nat) (sv0 : Value) (p2 : Nat) (a0 : Int) (l0 : List Omap_pair__int64__api_Entry) (p2_0 : Int) (r : Bool) (H : omap_Map__int64__api_Entry_place_1_O a0 l0 p2_0 = some r) : FnSpec Try.prog 168 [(int .i64 a0), (pt p0 0), (pt p2 0)] [(box p0 136 [(pt p1 0)]), (box p1 192 [sv0]), (own sv0 196 7 l0.length (fl enc_Omap_pair__int64__api_Entry l0)), (box p2 2 [(int .i64 p2_0)])] (fun v M => v = (bool r) ∧ M = [(box p0 136 [(pt p1 0)]), (box p1 192 [sv0]), (own sv0 196 7 l0.length (fl enc_Omap_pair__int64__api_Entry l0)), (box p2 2 [(int .i64 p2_0)])]) := by
 unfold omap_Map__int64__api_Entry_place_1_O at H
 refine spec_of Try.func168 rfl 15 rfl (Nat.le_of_ble_eq_true rfl) fun F w0 => ?_
 show Ent (St 15 w0 F [(0, (int .i64 a0)), (1, (pt p0 0)), (2, (pt p2 0))] [(box p0 136 [(pt p1 0)]), (box p1 192 [sv0]), (own sv0 196 7 l0.length (fl enc_Omap_pair__int64__api_Entry l0)), (box p2 2 [(int .i64 p2_0)])]) _
 refine ent_seq ?_
 refine ent_region ?_
 refine ent_value (ov_assign rfl) rfl rfl rfl ?_
 refine ent_nil ?_
 refine ent_seq ?_
 by_cases c3 : 0 ≤ a0
 ·rw [if_pos c3] at H
  by_cases c4 : a0 < (l0.length : Int)
  ·rw [if_pos c4] at H
   refine ent_drawm 11 rfl (fun done a w => StD 15 w0 F [(0, (int .i64 a0)), (1, (pt p0 0)), (2, (pt p2 0))] [(0, 5, (pt p1 0)), (1, 6, (pt p1 0)), (2, 7, (pt p1 0)), (3, 8, sv0), (4, 9, (int .i64 a0)), (5, 10, (eptr sv0 (a0.toNat * 7))), (6, 11, (eptr sv0 (a0.toNat * 7 + 0))), (7, 12, (int .i64 ((l0.getD a0.toNat z_Omap_pair__int64__api_Entry).k))), (8, 13, (int .i64 p2_0)), (9, 14, (bool (decide (p2_0 ≤ ((l0.getD a0.toNat z_Omap_pair__int64__api_Entry).k))))), (10, 4, (bool (decide (p2_0 ≤ ((l0.getD a0.toNat z_Omap_pair__int64__api_Entry).k)))))] done [(box p0 136 [(pt p1 0)]), (box p1 192 [sv0]), (own sv0 196 7 l0.length (fl enc_Omap_pair__int64__api_Entry l0)), (box p2 2 [(int .i64 p2_0)])] a w) (by kernel_rfl) (by kernel_rfl) (draw_startL (sub_cons (t := 0) rfl (sub_cons (t := 1) rfl (sub_cons (t := 2) rfl (sub_nil _)))) rfl) ?_ ?_
   ·refine ⟨?_, ?_, ?_, ?_, ?_, ?_, ?_, ?_, ?_, ?_, ?_, trivial⟩
    ·intro done hi hc hcu
     exact draw_value (i := 0) (t := 5) (v := (pt p1 0)) rfl rfl (wanted_none rfl) (fun a => hasA_base) (ov_load (v := (pt p1 0)) rfl F_agg_136 (reads_box1 (i := 0) rfl rfl)) rfl rfl (onlyT_spec (k0 := 0) rfl rfl rfl)
    ·intro done hi hc hcu
     have d0 : done 0 = true := done_of (j := 0) hcu rfl (by decide) rfl
     exact draw_value (i := 1) (t := 6) (v := (pt p1 0)) rfl rfl (wanted_none rfl) (fun a => (hasA_cons (k := 0) rfl d0 hasA_base)) (ov_nilCheck rfl) rfl rfl (onlyT_spec (k0 := 1) rfl rfl rfl)
    ·intro done hi hc hcu
     have d1 : done 1 = true := done_of (j := 1) hcu rfl (by decide) rfl
     exact draw_value (i := 2) (t := 7) (v := (pt p1 0)) rfl rfl (wanted_none rfl) (fun a => (hasA_cons (k := 1) rfl d1 hasA_base)) (ov_fieldAddr (sz := 0) (o := 0) rfl F_field_192_0 F_size_190) rfl rfl (onlyT_spec (k0 := 2) rfl rfl rfl)
    ·intro done hi hc hcu
     have d2 : done 2 = true := done_of (j := 2) hcu rfl (by decide) rfl
     exact draw_value (i := 3) (t := 8) (v := sv0) rfl rfl (wanted_none rfl) (fun a => (hasA_cons (k := 2) rfl d2 hasA_base)) (ov_load (v := sv0) rfl F_agg_190 (reads_box1 (i := 1) rfl rfl)) rfl rfl (onlyT_spec (k0 := 3) rfl rfl rfl)
    ·intro done hi hc hcu
     exact draw_value (i := 4) (t := 9) (v := (int .i64 a0)) rfl rfl (wanted_none rfl) (fun a => hasA_base) (ov_move rfl) rfl rfl (onlyT_spec (k0 := 4) rfl rfl rfl)
    ·intro done hi hc hcu
     have d3 : done 3 = true := done_of (j := 3) hcu rfl (by decide) rfl
     have d4 : done 4 = true := done_of (j := 4) hcu rfl (by decide) rfl
     exact draw_value (i := 5) (t := 10) (v := (eptr sv0 (a0.toNat * 7))) rfl rfl (wanted_none rfl) (fun a => (hasA_cons (k := 4) rfl d4 (hasA_cons (k := 3) rfl d3 hasA_base))) (ov_indexAddr (sz := 6) 2 rfl rfl F_slice_190 F_size_196 rfl (isRd_ownx 196) c3 c4) rfl rfl (onlyT_spec (k0 := 5) rfl rfl rfl)
    ·intro done hi hc hcu
     have d5 : done 5 = true := done_of (j := 5) hcu rfl (by decide) rfl
     exact draw_value (i := 6) (t := 11) (v := (eptr sv0 (a0.toNat * 7 + 0))) rfl rfl (wanted_none rfl) (fun a => (hasA_cons (k := 5) rfl d5 hasA_base)) (ov_fieldAddrE (sz := 0) (k0 := a0.toNat * 7) (off := 0) 2 rfl F_field_196_0 F_size_2 rfl (isRd_ownx 196) (fl_pos enc_Omap_pair__int64__api_Entry_len (ix_lt c3 c4))) rfl rfl (onlyT_spec (k0 := 6) rfl rfl rfl)
    ·intro done hi hc hcu
     have d6 : done 6 = true := done_of (j := 6) hcu rfl (by decide) rfl
     exact draw_value (i := 7) (t := 12) (v := (int .i64 ((l0.getD a0.toNat z_Omap_pair__int64__api_Entry).k))) rfl rfl (wanted_none rfl) (fun a => (hasA_cons (k := 6) rfl d6 hasA_base)) (ov_load (v := (int .i64 ((l0.getD a0.toNat z_Omap_pair__int64__api_Entry).k))) rfl F_agg_2 (reads_rd (i := 2) rfl (isRd_ownx 196) (by simp) (fl_read (off := 0) enc_Omap_pair__int64__api_Entry_len (ix_lt c3 c4) rfl))) rfl rfl (onlyT_spec (k0 := 7) rfl rfl rfl)
    ·intro done hi hc hcu
     exact draw_value (i := 8) (t := 13) (v := (int .i64 p2_0)) rfl rfl (wanted_none rfl) (fun a => hasA_base) (ov_load (v := (int .i64 p2_0)) rfl F_agg_2 (reads_box1 (i := 3) rfl rfl)) rfl rfl (onlyT_spec (k0 := 8) rfl rfl rfl)
    ·intro done hi hc hcu
     have d7 : done 7 = true := done_of (j := 7) hcu rfl (by decide) rfl
     have d8 : done 8 = true := done_of (j := 8) hcu rfl (by decide) rfl
     exact draw_value (i := 9) (t := 14) (v := (bool (decide (p2_0 ≤ ((l0.getD a0.toNat z_Omap_pair__int64__api_Entry).k))))) rfl rfl (wanted_none rfl) (fun a => (hasA_cons (k := 8) rfl d8 (hasA_cons (k := 7) rfl d7 hasA_base))) (ov_bin rfl rfl (b_geq _ _ _)) rfl rfl (onlyT_spec (k0 := 9) rfl rfl rfl)
    ·intro done hi hc hcu
     have d9 : done 9 = true := done_of (j := 9) hcu rfl (by decide) rfl
     exact draw_value (i := 10) (t := 4) (v := (bool (decide (p2_0 ≤ ((l0.getD a0.toNat z_Omap_pair__int64__api_Entry).k))))) rfl rfl (wanted_none rfl) (fun a => (hasA_cons (k := 9) rfl d9 hasA_base)) (ov_assign rfl) rfl rfl (onlyT_spec (k0 := 10) rfl rfl rfl)
   ·intro done hall
    refine draw_endL [(box p0 136 [(pt p1 0)]), (box p1 192 [sv0]), (own sv0 196 7 l0.length (fl enc_Omap_pair__int64__api_Entry l0)), (box p2 2 [(int .i64 p2_0)])] rfl (fun a => (hasA_cons (k := 10) rfl (hall 10 (by decide)) (hasA_cons (k := 0) rfl (hall 0 (by decide)) (hasA_cons (k := 1) rfl (hall 1 (by decide)) (hasA_cons (k := 2) rfl (hall 2 (by decide)) (hasA_cons (k := 3) rfl (hall 3 (by decide)) (hasA_cons (k := 4) rfl (hall 4 (by decide)) (hasA_cons (k := 5) rfl (hall 5 (by decide)) (hasA_cons (k := 6) rfl (hall 6 (by decide)) (hasA_cons (k := 7) rfl (hall 7 (by decide)) (hasA_cons (k := 8) rfl (hall 8 (by decide)) (hasA_cons (k := 9) rfl (hall 9 (by decide)) hasA_base)))))))))))) ?_
    refine ent_retc ?_
    cases H
    refine ent_pick [0, 1, 2, 3] (by decide) rfl ?_
    exact ret_tmp rfl rfl ⟨rfl, rfl⟩
  ·rw [if_neg c4] at H
   cases H
 ·rw [if_neg c3] at H
  cases H

set_option maxRecDepth 100000 in
theorem sort_Search_O.spec (K : Nat) (p0 : Nat) (p1 : Nat) (sv0 : Value) (p2 : Nat) (a0 : Int) (l0 : List Omap_pair__int64__api_Entry) (p2_0 : Int) (r : Int) (H : sort_Search_O K a0 l0 p2_0 = some r) : FnSpec Try.prog 70 [(int .i64 a0), (Value.func (.func 168) #[] #[(pt p0 0), (pt p2 0)])] [(box p0 136 [(pt p1 0)]), (box p1 192 [sv0]), (own sv0 196 7 l0.length (fl enc_Omap_pair__int64__api_Entry l0)), (box p2 2 [(int .i64 p2_0)])] (fun v M => v = (int .i64 r) ∧ M = [(box p0 136 [(pt p1 0)]), (box p1 192 [sv0]), (own sv0 196 7 l0.length (fl enc_Omap_pair__int64__api_Entry l0)), (box p2 2 [(int .i64 p2_0)])]) := by
 unfold sort_Search_O at H
 refine spec_of Try.func70 rfl 26 rfl (Nat.le_of_ble_eq_true rfl) fun F w0 => ?_
 show Ent (St 26 w0 F [(0, (int .i64 a0)), (1, (Value.func (.func 168) #[] #[(pt p0 0), (pt p2 0)]))] [(box p0 136 [(pt p1 0)]), (box p1 192 [sv0]), (own sv0 196 7 l0.length (fl enc_Omap_pair__int64__api_Entry l0)), (box p2 2 [(int .i64 p2_0)])]) _
 refine ent_seq ?_
 refine ent_region ?_
 refine ent_value (ov_assign rfl) rfl rfl rfl ?_
 refine ent_nil ?_
 refine ent_seq ?_
 refine ent_region ?_
 refine ent_value (ov_move rfl) rfl rfl rfl ?_
 refine ent_value (ov_assign rfl) rfl rfl rfl ?_
 refine ent_value (ov_assign rfl) rfl rfl rfl ?_
 refine ent_nil ?_
 refine ent_seq ?_
 refine ent_block ?_
 refine ent_loop (fun k a w => ∃ i7, ∃ i8, sort_Search_O_l0 K l0 p2_0 k i7 i8 = some r ∧ St 26 w0 F [(1, (Value.func (.func 168) #[] #[(pt p0 0), (pt p2 0)])), (5, (int .i64 i7)), (6, (int .i64 i8))] [(box p0 136 [(pt p1 0)]), (box p1 192 [sv0]), (own sv0 196 7 l0.length (fl enc_Omap_pair__int64__api_Entry l0)), (box p2 2 [(int .i64 p2_0)])] a w) K ?_ ?_
 ·exact ent_fin [0, 1, 2, 3] (by decide) rfl (sub_cons (t := 1) rfl (sub_cons (t := 5) rfl (sub_cons (t := 6) rfl (sub_nil _)))) fun a w h => ⟨_, _, H, h⟩
 ·refine fun k => ent_exi fun i7 => ent_exi fun i8 => ent_and fun H4 => ?_
  cases k with
  | zero => exact absurd H4 (by simp [sort_Search_O_l0])
  | succ k =>
   rw [sort_Search_O_l0] at H4
   refine ent_seq ?_
   refine ent_seq ?_
   refine ent_region ?_
   refine ent_value (ov_move rfl) rfl rfl rfl ?_
   refine ent_value (ov_move rfl) rfl rfl rfl ?_
   refine ent_value (ov_bin rfl rfl (b_lss _ _ _)) rfl rfl rfl ?_
   refine ent_nil ?_
   by_cases c35 : i7 < i8
   ·rw [if_pos c35] at H4
    refine ent_cond_true rfl (decide_eq_true c35) ?_
    refine ent_skip ?_
    refine ent_block ?_
    refine ent_seq ?_
    refine ent_region ?_
    refine ent_value (ov_move rfl) rfl rfl rfl ?_
    refine ent_value (ov_move rfl) rfl rfl rfl ?_
    refine ent_value (ov_bin rfl rfl (b_add _ _ _) ) rfl rfl rfl ?_
    refine ent_value (ov_convert rfl (c_int Try.underlying3 Try.underlying126)) rfl rfl rfl ?_
    refine ent_value (ov_bin rfl rfl fun w => b_shr _ _ _ _ w (by decide)) rfl rfl rfl ?_
    refine ent_value (ov_convert rfl (c_int Try.underlying126 Try.underlying3)) rfl rfl rfl ?_
    refine ent_value (ov_assign rfl) rfl rfl rfl ?_
    refine ent_nil ?_
    refine ent_seq ?_
    refine ent_region ?_
    refine ent_value (ov_move rfl) rfl rfl rfl ?_
    refine ent_value (ov_move rfl) rfl rfl rfl ?_
    obtain ⟨x12, h12, H4⟩ := Option.bind_eq_some_iff.1 H4
    refine ent_op (ot_call_same (Lr := []) [0, 1, 2, 3] [0, 1, 2, 3] (first := []) (cap := [(pt p0 0), (pt p2 0)]) (xs := [.tmp 19]) rfl rfl F_call_168 rfl (omap_Map__int64__api_Entry_place_1_O.spec p0 p1 sv0 p2 (w64 (bShr .u64 (wu64 (w64 (i7 + i8))) 1)) l0 p2_0 _ h12) (by decide) rfl (by decide) rfl) rfl rfl rfl ?_
    rintro _ _ ⟨rfl, rfl⟩
    refine ent_value (ov_un rfl (u_not _)) rfl rfl rfl ?_
    refine ent_nil ?_
    by_cases c36 : (!x12) = true
    ·rw [if_pos c36] at H4
     refine ent_cond_true rfl c36 ?_
     refine ent_region ?_
     refine ent_value (ov_move rfl) rfl rfl rfl ?_
     refine ent_value (ov_bin rfl rfl (b_add _ _ _) ) rfl rfl rfl ?_
     refine ent_value (ov_assign rfl) rfl rfl rfl ?_
     refine ent_nil ?_
     exact ent_fin [0, 1, 2, 3] (by decide) rfl (sub_cons (t := 1) rfl (sub_cons (t := 5) rfl (sub_cons (t := 6) rfl (sub_nil _)))) fun a w h => ⟨k, Nat.lt_succ_self k, _, _, H4, h⟩
    ·rw [if_neg c36] at H4
     refine ent_cond_false rfl (Bool.eq_false_iff.2 c36) ?_
     refine ent_region ?_
     refine ent_value (ov_move rfl) rfl rfl rfl ?_
     refine ent_value (ov_assign rfl) rfl rfl rfl ?_
     refine ent_nil ?_
     exact ent_fin [0, 1, 2, 3] (by decide) rfl (sub_cons (t := 1) rfl (sub_cons (t := 5) rfl (sub_cons (t := 6) rfl (sub_nil _)))) fun a w h => ⟨k, Nat.lt_succ_self k, _, _, H4, h⟩
   ·rw [if_neg c35] at H4
    refine ent_cond_false rfl (decide_eq_false c35) ?_
    refine ent_exit ?_
    refine ent_seq ?_
    refine ent_region ?_
    refine ent_value (ov_move rfl) rfl rfl rfl ?_
    refine ent_value (ov_assign rfl) rfl rfl rfl ?_
    refine ent_nil ?_
    refine ent_retc ?_
    cases H4
    refine ent_pick [0, 1, 2, 3] (by decide) rfl ?_
    exact ret_tmp rfl rfl ⟨rfl, rfl⟩

set_option maxRecDepth 100000 in
theorem omap_Map__int64__api_Entry_place_O.spec (K : Nat) (p0 : Nat) (sv0 : Value) (l0 : List Omap_pair__int64__api_Entry) (a1 : Int) (r : (Bool × Int)) (H : omap_Map__int64__api_Entry_place_O K l0 a1 = some r) : FnSpec Try.prog 132 [(pt p0 0), (int .i64 a1)] [(box p0 192 [sv0]), (own sv0 196 7 l0.length (fl enc_Omap_pair__int64__api_Entry l0))] (fun v M => v = (Value.tuple #[(int .i64 r.2), (bool r.1)]) ∧ M = [(box p0 192 [sv0]), (own sv0 196 7 l0.length (fl enc_Omap_pair__int64__api_Entry l0))]) := by
 unfold omap_Map__int64__api_Entry_place_O at H
 refine spec_of Try.func132 rfl 36 rfl (Nat.le_of_ble_eq_true rfl) fun F w0 => ?_
 show Ent (St 36 w0 F [(0, (pt p0 0)), (1, (int .i64 a1))] [(box p0 192 [sv0]), (own sv0 196 7 l0.length (fl enc_Omap_pair__int64__api_Entry l0))]) _
 refine ent_seq ?_
 refine ent_region ?_
 refine ent_op (ot_box (cs := [(pt p0 0)]) rfl rfl) rfl rfl rfl ?_
 rintro _ _ ⟨b3, rfl, rfl⟩
 refine ent_op (ot_box (cs := [(int .i64 a1)]) rfl rfl) rfl rfl rfl ?_
 rintro _ _ ⟨b4, rfl, rfl⟩
 refine ent_value (ov_assign rfl) rfl rfl rfl ?_
 refine ent_value (ov_assign rfl) rfl rfl rfl ?_
 refine ent_nil ?_
 refine ent_seq ?_
 refine ent_seq ?_
 refine ent_region ?_
 refine ent_value (ov_load (v := (pt p0 0)) rfl F_agg_136 (reads_box1 (i := 1) rfl rfl)) rfl rfl rfl ?_
 refine ent_value (ov_bin rfl rfl (b_eql_of (fun w => rfl) rfl (eq_pn Try.underlying136 _ _))) rfl rfl rfl ?_
 refine ent_nil ?_
 refine ent_cond_false rfl rfl ?_
 refine ent_skip ?_
 refine ent_seq ?_
 refine ent_region ?_
 refine ent_value (ov_load (v := (pt p0 0)) rfl F_agg_136 (reads_box1 (i := 1) rfl rfl)) rfl rfl rfl ?_
 refine ent_value (ov_nilCheck rfl) rfl rfl rfl ?_
 refine ent_value (ov_fieldAddr (sz := 0) (o := 0) rfl F_field_192_0 F_size_190) rfl rfl rfl ?_
 refine ent_value (ov_load (v := sv0) rfl F_agg_190 (reads_box1 (i := 2) rfl rfl)) rfl rfl rfl ?_
 refine ent_value (ov_len 3 rfl F_slice_190 rfl (isRd_ownx 196)) rfl rfl rfl ?_
 refine ent_value (ov_makeFunc (first := []) (cap := [.tmp 2, .tmp 3]) rfl rfl) rfl rfl rfl ?_
 obtain ⟨x2, h2, H⟩ := Option.bind_eq_some_iff.1 H
 refine ent_op (ot_call_same (Lr := []) [1, 2, 3, 0] [3, 0, 1, 2] (first := []) (cap := []) (xs := [.tmp 13, .tmp 14]) rfl rfl F_call_70 rfl (sort_Search_O.spec K b3 p0 sv0 b4 (l0.length : Int) l0 a1 _ h2) (by decide) rfl (by decide) rfl) rfl rfl rfl ?_
 rintro _ _ ⟨rfl, rfl⟩
 refine ent_value (ov_assign rfl) rfl rfl rfl ?_
 refine ent_nil ?_
 refine ent_seq ?_
 by_cases c3 : x2 < (l0.length : Int)
 ·rw [if_pos c3] at H
  by_cases c4 : 0 ≤ x2
  ·rw [if_pos c4] at H
   refine ent_drawm 22 rfl (fun done a w => StD 36 w0 F [(0, (pt p0 0)), (1, (int .i64 a1)), (2, (pt b3 0)), (3, (pt b4 0)), (6, (int .i64 x2)), (7, (pt p0 0)), (8, (bool false)), (9, (pt p0 0)), (10, (pt p0 0)), (11, (pt p0 0)), (12, sv0), (13, (int .i64 (l0.length : Int))), (14, (Value.func (.func 168) #[] #[(pt b3 0), (pt b4 0)])), (15, (int .i64 x2))] [(0, 16, (int .i64 x2)), (1, 17, (int .i64 x2)), (2, 18, (pt p0 0)), (3, 19, (pt p0 0)), (4, 20, (pt p0 0)), (5, 21, sv0), (6, 22, (int .i64 (l0.length : Int))), (7, 23, (bool (decide (x2 < (l0.length : Int))))), (8, 24, (bool (decide (x2 < (l0.length : Int))))), (9, 25, (pt p0 0)), (10, 26, (pt p0 0)), (11, 27, (pt p0 0)), (12, 28, sv0), (13, 29, (int .i64 x2)), (14, 30, (eptr sv0 (x2.toNat * 7))), (15, 31, (eptr sv0 (x2.toNat * 7 + 0))), (16, 32, (int .i64 ((l0.getD x2.toNat z_Omap_pair__int64__api_Entry).k))), (17, 33, (int .i64 a1)), (18, 34, (bool (((l0.getD x2.toNat z_Omap_pair__int64__api_Entry).k) == a1))), (19, 35, (bool (((l0.getD x2.toNat z_Omap_pair__int64__api_Entry).k) == a1))), (20, 4, (int .i64 x2)), (21, 5, (bool (((l0.getD x2.toNat z_Omap_pair__int64__api_Entry).k) == a1)))] done [(box b4 2 [(int .i64 a1)]), (box b3 136 [(pt p0 0)]), (box p0 192 [sv0]), (own sv0 196 7 l0.length (fl enc_Omap_pair__int64__api_Entry l0))] a w) (by kernel_rfl) (by kernel_rfl) (draw_startL (sub_cons (t := 0) rfl (sub_cons (t := 1) rfl (sub_cons (t := 2) rfl (sub_cons (t := 3) rfl (sub_cons (t := 6) rfl (sub_cons (t := 7) rfl (sub_cons (t := 8) rfl (sub_cons (t := 9) rfl (sub_cons (t := 10) rfl (sub_cons (t := 11) rfl (sub_cons (t := 12) rfl (sub_cons (t := 13) rfl (sub_cons (t := 14) rfl (sub_cons (t := 15) rfl (sub_nil _))))))))))))))) rfl) ?_ ?_
   ·refine ⟨?_, ?_, ?_, ?_, ?_, ?_, ?_, ?_, ?_, ?_, ?_, ?_, ?_, ?_, ?_, ?_, ?_, ?_, ?_, ?_, ?_, ?_, trivial⟩
    ·intro done hi hc hcu
     exact draw_value (i := 0) (t := 16) (v := (int .i64 x2)) rfl rfl (wanted_none rfl) (fun a => hasA_base) (ov_move rfl) rfl rfl (onlyT_spec (k0 := 0) rfl rfl rfl)
    ·intro done hi hc hcu
     exact draw_value (i := 1) (t := 17) (v := (int .i64 x2)) rfl rfl (wanted_none rfl) (fun a => hasA_base) (ov_move rfl) rfl rfl (onlyT_spec (k0 := 1) rfl rfl rfl)
    ·intro done hi hc hcu
     exact draw_value (i := 2) (t := 18) (v := (pt p0 0)) rfl rfl (wanted_none rfl) (fun a => hasA_base) (ov_load (v := (pt p0 0)) rfl F_agg_136 (reads_box1 (i := 1) rfl rfl)) rfl rfl (onlyT_spec (k0 := 2) rfl rfl rfl)
    ·intro done hi hc hcu
     have d2 : done 2 = true := done_of (j := 2) hcu rfl (by decide) rfl
     exact draw_value (i := 3) (t := 19) (v := (pt p0 0)) rfl rfl (wanted_none rfl) (fun a => (hasA_cons (k := 2) rfl d2 hasA_base)) (ov_nilCheck rfl) rfl rfl (onlyT_spec (k0 := 3) rfl rfl rfl)
    ·intro done hi hc hcu
     have d3 : done 3 = true := done_of (j := 3) hcu rfl (by decide) rfl
     exact draw_value (i := 4) (t := 20) (v := (pt p0 0)) rfl rfl (wanted_none rfl) (fun a => (hasA_cons (k := 3) rfl d3 hasA_base)) (ov_fieldAddr (sz := 0) (o := 0) rfl F_field_192_0 F_size_190) rfl rfl (onlyT_spec (k0 := 4) rfl rfl rfl)
    ·intro done hi hc hcu
     have d4 : done 4 = true := done_of (j := 4) hcu rfl (by decide) rfl
     exact draw_value (i := 5) (t := 21) (v := sv0) rfl rfl (wanted_none rfl) (fun a => (hasA_cons (k := 4) rfl d4 hasA_base)) (ov_load (v := sv0) rfl F_agg_190 (reads_box1 (i := 2) rfl rfl)) rfl rfl (onlyT_spec (k0 := 5) rfl rfl rfl)
    ·intro done hi hc hcu
     have d5 : done 5 = true := done_of (j := 5) hcu rfl (by decide) rfl
     exact draw_value (i := 6) (t := 22) (v := (int .i64 (l0.length : Int))) rfl rfl (wanted_none rfl) (fun a => (hasA_cons (k := 5) rfl d5 hasA_base)) (ov_len 3 rfl F_slice_190 rfl (isRd_ownx 196)) rfl rfl (onlyT_spec (k0 := 6) rfl rfl rfl)
    ·intro done hi hc hcu
     have d1 : done 1 = true := done_of (j := 1) hcu rfl (by decide) rfl
     have d6 : done 6 = true := done_of (j := 6) hcu rfl (by decide) rfl
     exact draw_value (i := 7) (t := 23) (v := (bool (decide (x2 < (l0.length : Int))))) rfl rfl (wanted_none rfl) (fun a => (hasA_cons (k := 6) rfl d6 (hasA_cons (k := 1) rfl d1 hasA_base))) (ov_bin rfl rfl (b_lss _ _ _)) rfl rfl (onlyT_spec (k0 := 7) rfl rfl rfl)
    ·intro done hi hc hcu
     have d7 : done 7 = true := done_of (j := 7) hcu rfl (by decide) rfl
     exact draw_value (i := 8) (t := 24) (v := (bool (decide (x2 < (l0.length : Int))))) rfl rfl (wanted_none rfl) (fun a => (hasA_cons (k := 7) rfl d7 hasA_base)) (ov_move rfl) rfl rfl (onlyT_spec (k0 := 8) rfl rfl rfl)
    ·intro done hi hc hcu
     have d8 : done 8 = true := done_of (j := 8) hcu rfl (by decide) rfl
     exact draw_value (i := 9) (t := 25) (v := (pt p0 0)) rfl rfl (wanted_on rfl rfl rfl (decide_eq_true c3)) (fun a => (hasA_cons (k := 8) rfl d8 hasA_base)) (ov_load (v := (pt p0 0)) rfl F_agg_136 (reads_box1 (i := 1) rfl rfl)) rfl rfl (onlyT_spec (k0 := 9) rfl rfl rfl)
    ·intro done hi hc hcu
     have d9 : done 9 = true := done_of (j := 9) hcu rfl (by decide) rfl
     have d8 : done 8 = true := done_of (j := 8) hcu rfl (by decide) rfl
     exact draw_value (i := 10) (t := 26) (v := (pt p0 0)) rfl rfl (wanted_on rfl rfl rfl (decide_eq_true c3)) (fun a => (hasA_cons (k := 8) rfl d8 (hasA_cons (k := 9) rfl d9 hasA_base))) (ov_nilCheck rfl) rfl rfl (onlyT_spec (k0 := 10) rfl rfl rfl)
    ·intro done hi hc hcu
     have d10 : done 10 = true := done_of (j := 10) hcu rfl (by decide) rfl
     have d8 : done 8 = true := done_of (j := 8) hcu rfl (by decide) rfl
     exact draw_value (i := 11) (t := 27) (v := (pt p0 0)) rfl rfl (wanted_on rfl rfl rfl (decide_eq_true c3)) (fun a => (hasA_cons (k := 8) rfl d8 (hasA_cons (k := 10) rfl d10 hasA_base))) (ov_fieldAddr (sz := 0) (o := 0) rfl F_field_192_0 F_size_190) rfl rfl (onlyT_spec (k0 := 11) rfl rfl rfl)
    ·intro done hi hc hcu
     have d11 : done 11 = true := done_of (j := 11) hcu rfl (by decide) rfl
     have d8 : done 8 = true := done_of (j := 8) hcu rfl (by decide) rfl
     exact draw_value (i := 12) (t := 28) (v := sv0) rfl rfl (wanted_on rfl rfl rfl (decide_eq_true c3)) (fun a => (hasA_cons (k := 8) rfl d8 (hasA_cons (k := 11) rfl d11 hasA_base))) (ov_load (v := sv0) rfl F_agg_190 (reads_box1 (i := 2) rfl rfl)) rfl rfl (onlyT_spec (k0 := 12) rfl rfl rfl)
    ·intro done hi hc hcu
     have d8 : done 8 = true := done_of (j := 8) hcu rfl (by decide) rfl
     exact draw_value (i := 13) (t := 29) (v := (int .i64 x2)) rfl rfl (wanted_on rfl rfl rfl (decide_eq_true c3)) (fun a => (hasA_cons (k := 8) rfl d8 hasA_base)) (ov_move rfl) rfl rfl (onlyT_spec (k0 := 13) rfl rfl rfl)
    ·intro done hi hc hcu
     have d12 : done 12 = true := done_of (j := 12) hcu rfl (by decide) rfl
     have d13 : done 13 = true := done_of (j := 13) hcu rfl (by decide) rfl
     have d8 : done 8 = true := done_of (j := 8) hcu rfl (by decide) rfl
     exact draw_value (i := 14) (t := 30) (v := (eptr sv0 (x2.toNat * 7))) rfl rfl (wanted_on rfl rfl rfl (decide_eq_true c3)) (fun a => (hasA_cons (k := 8) rfl d8 (hasA_cons (k := 13) rfl d13 (hasA_cons (k := 12) rfl d12 hasA_base)))) (ov_indexAddr (sz := 6) 3 rfl rfl F_slice_190 F_size_196 rfl (isRd_ownx 196) c4 c3) rfl rfl (onlyT_spec (k0 := 14) rfl rfl rfl)
    ·intro done hi hc hcu
     have d14 : done 14 = true := done_of (j := 14) hcu rfl (by decide) rfl
     have d8 : done 8 = true := done_of (j := 8) hcu rfl (by decide) rfl
     exact draw_value (i := 15) (t := 31) (v := (eptr sv0 (x2.toNat * 7 + 0))) rfl rfl (wanted_on rfl rfl rfl (decide_eq_true c3)) (fun a => (hasA_cons (k := 8) rfl d8 (hasA_cons (k := 14) rfl d14 hasA_base))) (ov_fieldAddrE (sz := 0) (k0 := x2.toNat * 7) (off := 0) 3 rfl F_field_196_0 F_size_2 rfl (isRd_ownx 196) (fl_pos enc_Omap_pair__int64__api_Entry_len (ix_lt c4 c3))) rfl rfl (onlyT_spec (k0 := 15) rfl rfl rfl)
    ·intro done hi hc hcu
     have d15 : done 15 = true := done_of (j := 15) hcu rfl (by decide) rfl
     have d8 : done 8 = true := done_of (j := 8) hcu rfl (by decide) rfl
     exact draw_value (i := 16) (t := 32) (v := (int .i64 ((l0.getD x2.toNat z_Omap_pair__int64__api_Entry).k))) rfl rfl (wanted_on rfl rfl rfl (decide_eq_true c3)) (fun a => (hasA_cons (k := 8) rfl d8 (hasA_cons (k := 15) rfl d15 hasA_base))) (ov_load (v := (int .i64 ((l0.getD x2.toNat z_Omap_pair__int64__api_Entry).k))) rfl F_agg_2 (reads_rd (i := 3) rfl (isRd_ownx 196) (by simp) (fl_read (off := 0) enc_Omap_pair__int64__api_Entry_len (ix_lt c4 c3) rfl))) rfl rfl (onlyT_spec (k0 := 16) rfl rfl rfl)
    ·intro done hi hc hcu
     have d8 : done 8 = true := done_of (j := 8) hcu rfl (by decide) rfl
     exact draw_value (i := 17) (t := 33) (v := (int .i64 a1)) rfl rfl (wanted_on rfl rfl rfl (decide_eq_true c3)) (fun a => (hasA_cons (k := 8) rfl d8 hasA_base)) (ov_load (v := (int .i64 a1)) rfl F_agg_2 (reads_box1 (i := 0) rfl rfl)) rfl rfl (onlyT_spec (k0 := 17) rfl rfl rfl)
    ·intro done hi hc hcu
     have d16 : done 16 = true := done_of (j := 16) hcu rfl (by decide) rfl
     have d17 : done 17 = true := done_of (j := 17) hcu rfl (by decide) rfl
     have d8 : done 8 = true := done_of (j := 8) hcu rfl (by decide) rfl
     exact draw_value (i := 18) (t := 34) (v := (bool (((l0.getD x2.toNat z_Omap_pair__int64__api_Entry).k) == a1))) rfl rfl (wanted_on rfl rfl rfl (decide_eq_true c3)) (fun a => (hasA_cons (k := 8) rfl d8 (hasA_cons (k := 17) rfl d17 (hasA_cons (k := 16) rfl d16 hasA_base)))) (ov_bin rfl rfl (b_eql _ _ _)) rfl rfl (onlyT_spec (k0 := 18) rfl rfl rfl)
    ·intro done hi hc hcu
     have d8 : done 8 = true := done_of (j := 8) hcu rfl (by decide) rfl
     have d18 : done 18 = true := done_of (j := 18) hcu rfl (by decide) rfl
     exact draw_value (i := 19) (t := 35) (v := (bool (((l0.getD x2.toNat z_Omap_pair__int64__api_Entry).k) == a1))) rfl rfl (wanted_none rfl) (fun a => (hasA_cons (k := 18) rfl d18 (hasA_cons (k := 8) rfl d8 hasA_base))) (ov_pick rfl rfl rfl (pick_t (decide_eq_true c3))) rfl rfl (onlyT_spec (k0 := 19) rfl rfl rfl)
    ·intro done hi hc hcu
     have d0 : done 0 = true := done_of (j := 0) hcu rfl (by decide) rfl
     exact draw_value (i := 20) (t := 4) (v := (int .i64 x2)) rfl rfl (wanted_none rfl) (fun a => (hasA_cons (k := 0) rfl d0 hasA_base)) (ov_assign rfl) rfl rfl (onlyT_spec (k0 := 20) rfl rfl rfl)
    ·intro done hi hc hcu
     have d19 : done 19 = true := done_of (j := 19) hcu rfl (by decide) rfl
     exact draw_value (i := 21) (t := 5) (v := (bool (((l0.getD x2.toNat z_Omap_pair__int64__api_Entry).k) == a1))) rfl rfl (wanted_none rfl) (fun a => (hasA_cons (k := 19) rfl d19 hasA_base)) (ov_assign rfl) rfl rfl (onlyT_spec (k0 := 21) rfl rfl rfl)
   ·intro done hall
    refine draw_endL [(box b4 2 [(int .i64 a1)]), (box b3 136 [(pt p0 0)]), (box p0 192 [sv0]), (own sv0 196 7 l0.length (fl enc_Omap_pair__int64__api_Entry l0))] rfl (fun a => (hasA_cons (k := 20) rfl (hall 20 (by decide)) (hasA_cons (k := 21) rfl (hall 21 (by decide)) (hasA_cons (k := 0) rfl (hall 0 (by decide)) (hasA_cons (k := 1) rfl (hall 1 (by decide)) (hasA_cons (k := 2) rfl (hall 2 (by decide)) (hasA_cons (k := 3) rfl (hall 3 (by decide)) (hasA_cons (k := 4) rfl (hall 4 (by decide)) (hasA_cons (k := 5) rfl (hall 5 (by decide)) (hasA_cons (k := 6) rfl (hall 6 (by decide)) (hasA_cons (k := 7) rfl (hall 7 (by decide)) (hasA_cons (k := 8) rfl (hall 8 (by decide)) (hasA_cons (k := 9) rfl (hall 9 (by decide)) (hasA_cons (k := 10) rfl (hall 10 (by decide)) (hasA_cons (k := 11) rfl (hall 11 (by decide)) (hasA_cons (k := 12) rfl (hall 12 (by decide)) (hasA_cons (k := 13) rfl (hall 13 (by decide)) (hasA_cons (k := 14) rfl (hall 14 (by decide)) (hasA_cons (k := 15) rfl (hall 15 (by decide)) (hasA_cons (k := 16) rfl (hall 16 (by decide)) (hasA_cons (k := 17) rfl (hall 17 (by decide)) (hasA_cons (k := 18) rfl (hall 18 (by decide)) (hasA_cons (k := 19) rfl (hall 19 (by decide)) hasA_base))))))))))))))))))))))) ?_
    refine ent_retc ?_
    cases H
    refine ent_pick [2, 3] (by decide) rfl ?_
    exact ret_mem (vs := [(int .i64 x2), (bool (((l0.getD x2.toNat z_Omap_pair__int64__api_Entry).k) == a1))]) rfl ⟨rfl, ⟨rfl, trivial⟩⟩ _ rfl ⟨rfl, rfl⟩
  ·rw [if_neg c4] at H
   cases H
 ·rw [if_neg c3] at H
  refine ent_drawm 22 rfl (fun done a w => StD 36 w0 F [(0, (pt p0 0)), (1, (int .i64 a1)), (2, (pt b3 0)), (3, (pt b4 0)), (6, (int .i64 x2)), (7, (pt p0 0)), (8, (bool false)), (9, (pt p0 0)), (10, (pt p0 0)), (11, (pt p0 0)), (12, sv0), (13, (int .i64 (l0.length : Int))), (14, (Value.func (.func 168) #[] #[(pt b3 0), (pt b4 0)])), (15, (int .i64 x2))] [(0, 16, (int .i64 x2)), (1, 17, (int .i64 x2)), (2, 18, (pt p0 0)), (3, 19, (pt p0 0)), (4, 20, (pt p0 0)), (5, 21, sv0), (6, 22, (int .i64 (l0.length : Int))), (7, 23, (bool (decide (x2 < (l0.length : Int))))), (8, 24, (bool (decide (x2 < (l0.length : Int))))), (9, 25, undef), (10, 26, undef), (11, 27, undef), (12, 28, undef), (13, 29, undef), (14, 30, undef), (15, 31, undef), (16, 32, undef), (17, 33, undef), (18, 34, undef), (19, 35, (bool false)), (20, 4, (int .i64 x2)), (21, 5, (bool false))] done [(box b4 2 [(int .i64 a1)]), (box b3 136 [(pt p0 0)]), (box p0 192 [sv0]), (own sv0 196 7 l0.length (fl enc_Omap_pair__int64__api_Entry l0))] a w) (by kernel_rfl) (by kernel_rfl) (draw_startL (sub_cons (t := 0) rfl (sub_cons (t := 1) rfl (sub_cons (t := 2) rfl (sub_cons (t := 3) rfl (sub_cons (t := 6) rfl (sub_cons (t := 7) rfl (sub_cons (t := 8) rfl (sub_cons (t := 9) rfl (sub_cons (t := 10) rfl (sub_cons (t := 11) rfl (sub_cons (t := 12) rfl (sub_cons (t := 13) rfl (sub_cons (t := 14) rfl (sub_cons (t := 15) rfl (sub_nil _))))))))))))))) rfl) ?_ ?_
  ·refine ⟨?_, ?_, ?_, ?_, ?_, ?_, ?_, ?_, ?_, ?_, ?_, ?_, ?_, ?_, ?_, ?_, ?_, ?_, ?_, ?_, ?_, ?_, trivial⟩
   ·intro done hi hc hcu
    exact draw_value (i := 0) (t := 16) (v := (int .i64 x2)) rfl rfl (wanted_none rfl) (fun a => hasA_base) (ov_move rfl) rfl rfl (onlyT_spec (k0 := 0) rfl rfl rfl)
   ·intro done hi hc hcu
    exact draw_value (i := 1) (t := 17) (v := (int .i64 x2)) rfl rfl (wanted_none rfl) (fun a => hasA_base) (ov_move rfl) rfl rfl (onlyT_spec (k0 := 1) rfl rfl rfl)
   ·intro done hi hc hcu
    exact draw_value (i := 2) (t := 18) (v := (pt p0 0)) rfl rfl (wanted_none rfl) (fun a => hasA_base) (ov_load (v := (pt p0 0)) rfl F_agg_136 (reads_box1 (i := 1) rfl rfl)) rfl rfl (onlyT_spec (k0 := 2) rfl rfl rfl)
   ·intro done hi hc hcu
    have d2 : done 2 = true := done_of (j := 2) hcu rfl (by decide) rfl
    exact draw_value (i := 3) (t := 19) (v := (pt p0 0)) rfl rfl (wanted_none rfl) (fun a => (hasA_cons (k := 2) rfl d2 hasA_base)) (ov_nilCheck rfl) rfl rfl (onlyT_spec (k0 := 3) rfl rfl rfl)
   ·intro done hi hc hcu
    have d3 : done 3 = true := done_of (j := 3) hcu rfl (by decide) rfl
    exact draw_value (i := 4) (t := 20) (v := (pt p0 0)) rfl rfl (wanted_none rfl) (fun a => (hasA_cons (k := 3) rfl d3 hasA_base)) (ov_fieldAddr (sz := 0) (o := 0) rfl F_field_192_0 F_size_190) rfl rfl (onlyT_spec (k0 := 4) rfl rfl rfl)
   ·intro done hi hc hcu
    have d4 : done 4 = true := done_of (j := 4) hcu rfl (by decide) rfl
    exact draw_value (i := 5) (t := 21) (v := sv0) rfl rfl (wanted_none rfl) (fun a => (hasA_cons (k := 4) rfl d4 hasA_base)) (ov_load (v := sv0) rfl F_agg_190 (reads_box1 (i := 2) rfl rfl)) rfl rfl (onlyT_spec (k0 := 5) rfl rfl rfl)
   ·intro done hi hc hcu
    have d5 : done 5 = true := done_of (j := 5) hcu rfl (by decide) rfl
    exact draw_value (i := 6) (t := 22) (v := (int .i64 (l0.length : Int))) rfl rfl (wanted_none rfl) (fun a => (hasA_cons (k := 5) rfl d5 hasA_base)) (ov_len 3 rfl F_slice_190 rfl (isRd_ownx 196)) rfl rfl (onlyT_spec (k0 := 6) rfl rfl rfl)
   ·intro done hi hc hcu
    have d1 : done 1 = true := done_of (j := 1) hcu rfl (by decide) rfl
    have d6 : done 6 = true := done_of (j := 6) hcu rfl (by decide) rfl
    exact draw_value (i := 7) (t := 23) (v := (bool (decide (x2 < (l0.length : Int))))) rfl rfl (wanted_none rfl) (fun a => (hasA_cons (k := 6) rfl d6 (hasA_cons (k := 1) rfl d1 hasA_base))) (ov_bin rfl rfl (b_lss _ _ _)) rfl rfl (onlyT_spec (k0 := 7) rfl rfl rfl)
   ·intro done hi hc hcu
    have d7 : done 7 = true := done_of (j := 7) hcu rfl (by decide) rfl
    exact draw_value (i := 8) (t := 24) (v := (bool (decide (x2 < (l0.length : Int))))) rfl rfl (wanted_none rfl) (fun a => (hasA_cons (k := 7) rfl d7 hasA_base)) (ov_move rfl) rfl rfl (onlyT_spec (k0 := 8) rfl rfl rfl)
   ·intro done hi hc hcu
    have d8 : done 8 = true := done_of (j := 8) hcu rfl (by decide) rfl
    exact draw_off (i := 9) (t := 25) rfl rfl (wanted_off rfl rfl rfl (decide_eq_false c3)) (fun a => (hasA_cons (k := 8) rfl d8 hasA_base)) rfl rfl (onlyT_spec (k0 := 9) rfl rfl rfl)
   ·intro done hi hc hcu
    have d8 : done 8 = true := done_of (j := 8) hcu rfl (by decide) rfl
    exact draw_off (i := 10) (t := 26) rfl rfl (wanted_off rfl rfl rfl (decide_eq_false c3)) (fun a => (hasA_cons (k := 8) rfl d8 hasA_base)) rfl rfl (onlyT_spec (k0 := 10) rfl rfl rfl)
   ·intro done hi hc hcu
    have d8 : done 8 = true := done_of (j := 8) hcu rfl (by decide) rfl
    exact draw_off (i := 11) (t := 27) rfl rfl (wanted_off rfl rfl rfl (decide_eq_false c3)) (fun a => (hasA_cons (k := 8) rfl d8 hasA_base)) rfl rfl (onlyT_spec (k0 := 11) rfl rfl rfl)
   ·intro done hi hc hcu
    have d8 : done 8 = true := done_of (j := 8) hcu rfl (by decide) rfl
    exact draw_off (i := 12) (t := 28) rfl rfl (wanted_off rfl rfl rfl (decide_eq_false c3)) (fun a => (hasA_cons (k := 8) rfl d8 hasA_base)) rfl rfl (onlyT_spec (k0 := 12) rfl rfl rfl)
   ·intro done hi hc hcu
    have d8 : done 8 = true := done_of (j := 8) hcu rfl (by decide) rfl
    exact draw_off (i := 13) (t := 29) rfl rfl (wanted_off rfl rfl rfl (decide_eq_false c3)) (fun a => (hasA_cons (k := 8) rfl d8 hasA_base)) rfl rfl (onlyT_spec (k0 := 13) rfl rfl rfl)
   ·intro done hi hc hcu
    have d8 : done 8 = true := done_of (j := 8) hcu rfl (by decide) rfl
    exact draw_off (i := 14) (t := 30) rfl rfl (wanted_off rfl rfl rfl (decide_eq_false c3)) (fun a => (hasA_cons (k := 8) rfl d8 hasA_base)) rfl rfl (onlyT_spec (k0 := 14) rfl rfl rfl)
   ·intro done hi hc hcu
    have d8 : done 8 = true := done_of (j := 8) hcu rfl (by decide) rfl
    exact draw_off (i := 15) (t := 31) rfl rfl (wanted_off rfl rfl rfl (decide_eq_false c3)) (fun a => (hasA_cons (k := 8) rfl d8 hasA_base)) rfl rfl (onlyT_spec (k0 := 15) rfl rfl rfl)
   ·intro done hi hc hcu
    have d8 : done 8 = true := done_of (j := 8) hcu rfl (by decide) rfl
    exact draw_off (i := 16) (t := 32) rfl rfl (wanted_off rfl rfl rfl (decide_eq_false c3)) (fun a => (hasA_cons (k := 8) rfl d8 hasA_base)) rfl rfl (onlyT_spec (k0 := 16) rfl rfl rfl)
   ·intro done hi hc hcu
    have d8 : done 8 = true := done_of (j := 8) hcu rfl (by decide) rfl
    exact draw_off (i := 17) (t := 33) rfl rfl (wanted_off rfl rfl rfl (decide_eq_false c3)) (fun a => (hasA_cons (k := 8) rfl d8 hasA_base)) rfl rfl (onlyT_spec (k0 := 17) rfl rfl rfl)
   ·intro done hi hc hcu
    have d8 : done 8 = true := done_of (j := 8) hcu rfl (by decide) rfl
    exact draw_off (i := 18) (t := 34) rfl rfl (wanted_off rfl rfl rfl (decide_eq_false c3)) (fun a => (hasA_cons (k := 8) rfl d8 hasA_base)) rfl rfl (onlyT_spec (k0 := 18) rfl rfl rfl)
   ·intro done hi hc hcu
    have d8 : done 8 = true := done_of (j := 8) hcu rfl (by decide) rfl
    have d18 : done 18 = true := done_of (j := 18) hcu rfl (by decide) rfl
    exact draw_value (i := 19) (t := 35) (v := (bool false)) rfl rfl (wanted_none rfl) (fun a => (hasA_cons (k := 18) rfl d18 (hasA_cons (k := 8) rfl d8 hasA_base))) (ov_pick rfl rfl rfl (pick_f (decide_eq_false c3))) rfl rfl (onlyT_spec (k0 := 19) rfl rfl rfl)
   ·intro done hi hc hcu
    have d0 : done 0 = true := done_of (j := 0) hcu rfl (by decide) rfl
    exact draw_value (i := 20) (t := 4) (v := (int .i64 x2)) rfl rfl (wanted_none rfl) (fun a => (hasA_cons (k := 0) rfl d0 hasA_base)) (ov_assign rfl) rfl rfl (onlyT_spec (k0 := 20) rfl rfl rfl)
   ·intro done hi hc hcu
    have d19 : done 19 = true := done_of (j := 19) hcu rfl (by decide) rfl
    exact draw_value (i := 21) (t := 5) (v := (bool false)) rfl rfl (wanted_none rfl) (fun a => (hasA_cons (k := 19) rfl d19 hasA_base)) (ov_assign rfl) rfl rfl (onlyT_spec (k0 := 21) rfl rfl rfl)
  ·intro done hall
   refine draw_endL [(box b4 2 [(int .i64 a1)]), (box b3 136 [(pt p0 0)]), (box p0 192 [sv0]), (own sv0 196 7 l0.length (fl enc_Omap_pair__int64__api_Entry l0))] rfl (fun a => (hasA_cons (k := 20) rfl (hall 20 (by decide)) (hasA_cons (k := 21) rfl (hall 21 (by decide)) (hasA_cons (k := 0) rfl (hall 0 (by decide)) (hasA_cons (k := 1) rfl (hall 1 (by decide)) (hasA_cons (k := 2) rfl (hall 2 (by decide)) (hasA_cons (k := 3) rfl (hall 3 (by decide)) (hasA_cons (k := 4) rfl (hall 4 (by decide)) (hasA_cons (k := 5) rfl (hall 5 (by decide)) (hasA_cons (k := 6) rfl (hall 6 (by decide)) (hasA_cons (k := 7) rfl (hall 7 (by decide)) (hasA_cons (k := 8) rfl (hall 8 (by decide)) (hasA_cons (k := 9) rfl (hall 9 (by decide)) (hasA_cons (k := 10) rfl (hall 10 (by decide)) (hasA_cons (k := 11) rfl (hall 11 (by decide)) (hasA_cons (k := 12) rfl (hall 12 (by decide)) (hasA_cons (k := 13) rfl (hall 13 (by decide)) (hasA_cons (k := 14) rfl (hall 14 (by decide)) (hasA_cons (k := 15) rfl (hall 15 (by decide)) (hasA_cons (k := 16) rfl (hall 16 (by decide)) (hasA_cons (k := 17) rfl (hall 17 (by decide)) (hasA_cons (k := 18) rfl (hall 18 (by decide)) (hasA_cons (k := 19) rfl (hall 19 (by decide)) hasA_base))))))))))))))))))))))) ?_
   refine ent_retc ?_
   cases H
   refine ent_pick [2, 3] (by decide) rfl ?_
   exact ret_mem (vs := [(int .i64 x2), (bool false)]) rfl ⟨rfl, ⟨rfl, trivial⟩⟩ _ rfl ⟨rfl, rfl⟩

set_option maxRecDepth 100000 in
theorem omap_Map__int64__api_Entry_Floor_O.spec (K : Nat) (p0 : Nat) (sv0 : Value) (l0 : List Omap_pair__int64__api_Entry) (a1 : Int) (r : (Int × Int × Int × Int × Int × Int × Bool × Bool)) (H : omap_Map__int64__api_Entry_Floor_O K l0 a1 = some r) : FnSpec Try.prog 86 [(pt p0 0), (int .i64 a1)] [(box p0 192 [sv0]), (own sv0 196 7 l0.length (fl enc_Omap_pair__int64__api_Entry l0))] (fun v M => v = (Value.tuple #[(int .i64 r.1), (agg #[(int .i64 r.2.1), (int .i64 r.2.2.1), (int .i64 r.2.2.2.1), (int .i64 r.2.2.2.2.1), (int .i64 r.2.2.2.2.2.1), (bool r.2.2.2.2.2.2.1)]), (bool r.2.2.2.2.2.2.2)]) ∧ M = [(box p0 192 [sv0]), (own sv0 196 7 l0.length (fl enc_Omap_pair__int64__api_Entry l0))]) := by
 unfold omap_Map__int64__api_Entry_Floor_O at H
 refine spec_of Try.func86 rfl 42 rfl (Nat.le_of_ble_eq_true rfl) fun F w0 => ?_
 show Ent (St 42 w0 F [(0, (pt p0 0)), (1, (int .i64 a1))] [(box p0 192 [sv0]), (own sv0 196 7 l0.length (fl enc_Omap_pair__int64__api_Entry l0))]) _
 refine ent_seq ?_
 refine ent_region ?_
 refine ent_value (ov_assign rfl) rfl rfl rfl ?_
 refine ent_op (ot_alloc F_zero_65) rfl rfl rfl ?_
 rintro _ _ ⟨b3, rfl, rfl⟩
 refine ent_value (ov_assign rfl) rfl rfl rfl ?_
 refine ent_nil ?_
 refine ent_seq ?_
 refine ent_region ?_
 refine ent_value (ov_move rfl) rfl rfl rfl ?_
 refine ent_value (ov_move rfl) rfl rfl rfl ?_
 obtain ⟨x3, h2, H⟩ := Option.bind_eq_some_iff.1 H
 refine ent_op (ot_call_same (Lr := [(box b3 65 [(int .i64 0), (int .i64 0), (int .i64 0), (int .i64 0), (int .i64 0), (bool false)])]) [1, 2, 0] [2, 0, 1] (first := []) (cap := []) (xs := [.tmp 9, .tmp 10]) rfl rfl F_call_132 rfl (omap_Map__int64__api_Entry_place_O.spec K p0 sv0 l0 a1 _ h2) (by decide) rfl (by decide) rfl) rfl rfl rfl ?_
 rintro _ _ ⟨rfl, rfl⟩
 refine ent_value (ov_move rfl) rfl rfl rfl ?_
 refine ent_value (ov_extract rfl rfl) rfl rfl rfl ?_
 refine ent_value (ov_extract rfl rfl) rfl rfl rfl ?_
 refine ent_value (ov_assign rfl) rfl rfl rfl ?_
 refine ent_value (ov_assign rfl) rfl rfl rfl ?_
 refine ent_nil ?_
 obtain ⟨x4, H2, H⟩ := thn_elim H
 refine ent_seq_cut (fun a w => ∃ b4 : Nat, St 42 w0 F [(0, (pt p0 0)), (4, (int .i64 0)), (5, (pt b4 0)), (7, (int .i64 x4))] [(box p0 192 [sv0]), (own sv0 196 7 l0.length (fl enc_Omap_pair__int64__api_Entry l0)), (box b4 65 [(int .i64 0), (int .i64 0), (int .i64 0), (int .i64 0), (int .i64 0), (bool false)])] a w) ?_ ?_
 ·refine ent_seq ?_
  refine ent_region ?_
  refine ent_value (ov_move rfl) rfl rfl rfl ?_
  refine ent_value (ov_un rfl (u_not _)) rfl rfl rfl ?_
  refine ent_nil ?_
  by_cases c8 : (!x3.1) = true
  ·rw [if_pos c8] at H2
   refine ent_cond_true rfl c8 ?_
   refine ent_region ?_
   refine ent_value (ov_move rfl) rfl rfl rfl ?_
   refine ent_value (ov_bin rfl rfl (b_sub _ _ _) ) rfl rfl rfl ?_
   refine ent_value (ov_assign rfl) rfl rfl rfl ?_
   refine ent_nil ?_
   cases H2
   exact ent_fin [1, 2, 0] (by decide) rfl (sub_cons (t := 0) rfl (sub_cons (t := 4) rfl (sub_cons (t := 5) rfl (sub_cons (t := 7) rfl (sub_nil _))))) fun a w h => ⟨_, h⟩
  ·rw [if_neg c8] at H2
   refine ent_cond_false rfl (Bool.eq_false_iff.2 c8) ?_
   refine ent_skip ?_
   cases H2
   exact ent_fin [1, 2, 0] (by decide) rfl (sub_cons (t := 0) rfl (sub_cons (t := 4) rfl (sub_cons (t := 5) rfl (sub_cons (t := 7) rfl (sub_nil _))))) fun a w h => ⟨_, h⟩
 ·refine ent_exi fun b4 => ?_
  refine ent_seq ?_
  refine ent_seq ?_
  refine ent_region ?_
  refine ent_value (ov_move rfl) rfl rfl rfl ?_
  refine ent_value (ov_bin rfl rfl (b_eql_of (fun w => rfl) rfl (eq_pn Try.underlying136 _ _))) rfl rfl rfl ?_
  refine ent_value (ov_move rfl) rfl rfl rfl ?_
  refine ent_value_on (ov_move rfl) rfl rfl rfl rfl rfl rfl ?_
  refine ent_value_on (ov_bin rfl rfl (b_lss _ _ _)) rfl rfl rfl rfl rfl rfl ?_
  refine ent_value (ov_pick rfl rfl rfl rfl) rfl rfl rfl ?_
  refine ent_nil ?_
  by_cases c10 : x4 < 0
  ·rw [if_pos c10] at H
   refine ent_cond_true rfl (decide_eq_true c10) ?_
   refine ent_seq ?_
   refine ent_drawm 5 rfl (fun done a w => StD 42 w0 F [(0, (pt p0 0)), (4, (selv (done 2) (int .i64 0) (int .i64 0))), (5, (pt b4 0)), (7, (int .i64 x4)), (18, (pt p0 0)), (19, (bool false)), (20, (bool false)), (21, (int .i64 x4)), (22, (bool (decide (x4 < 0)))), (23, (bool (decide (x4 < 0))))] [(0, 24, (int .i64 0)), (1, 25, (agg #[(int .i64 0), (int .i64 0), (int .i64 0), (int .i64 0), (int .i64 0), (bool false)])), (4, 6, (bool false))] done [(box p0 192 [sv0]), (own sv0 196 7 l0.length (fl enc_Omap_pair__int64__api_Entry l0)), (box b4 65 [(int .i64 0), (int .i64 0), (int .i64 0), (int .i64 0), (int .i64 0), (bool false)])] a w) (by kernel_rfl) (by kernel_rfl) (draw_startL (sub_cons (t := 0) rfl (sub_cons (t := 4) rfl (sub_cons (t := 5) rfl (sub_cons (t := 7) rfl (sub_cons (t := 18) rfl (sub_cons (t := 19) rfl (sub_cons (t := 20) rfl (sub_cons (t := 21) rfl (sub_cons (t := 22) rfl (sub_cons (t := 23) rfl (sub_nil _))))))))))) rfl) ?_ ?_
   ·refine ⟨?_, ?_, ?_, ?_, ?_, trivial⟩
    ·intro done hi hc hcu
     have n2 : done 2 = false := notdone_of (m := 2) hc hi rfl rfl
     exact draw_value (i := 0) (t := 24) (v := (int .i64 0)) rfl rfl (wanted_none rfl) (fun a => (hasA_eq (ρ' := [(0, (pt p0 0)), (4, (int .i64 0)), (5, (pt b4 0)), (7, (int .i64 x4)), (18, (pt p0 0)), (19, (bool false)), (20, (bool false)), (21, (int .i64 x4)), (22, (bool (decide (x4 < 0)))), (23, (bool (decide (x4 < 0))))]) (by simp only [n2, selv]))) (ov_move rfl) rfl rfl (onlyT_spec (k0 := 0) rfl rfl rfl)
    ·intro done hi hc hcu
     exact draw_value (i := 1) (t := 25) (v := (agg #[(int .i64 0), (int .i64 0), (int .i64 0), (int .i64 0), (int .i64 0), (bool false)])) rfl rfl (wanted_none rfl) (fun a => hasA_base) (ov_load_agg (vs := [(int .i64 0), (int .i64 0), (int .i64 0), (int .i64 0), (int .i64 0), (bool false)]) rfl F_agg_65 F_size_65 (reads_boxW (i := 2) rfl)) rfl rfl (onlyT_spec (k0 := 1) rfl rfl rfl)
    ·intro done hi hc hcu
     have d0 : done 0 = true := done_of (j := 0) hcu rfl (by decide) rfl
     exact draw_over (i := 2) (t := 4) (v := (int .i64 0)) rfl rfl (wanted_none rfl) (fun a => (hasA_cons (k := 0) rfl d0 hasA_base)) (ov_assign rfl) rfl rfl rfl
    ·intro done hi hc hcu
     have d1 : done 1 = true := done_of (j := 1) hcu rfl (by decide) rfl
     exact draw_store (i := 3) (L2 := [(box p0 192 [sv0]), (own sv0 196 7 l0.length (fl enc_Omap_pair__int64__api_Entry l0)), (box b4 65 [(int .i64 0), (int .i64 0), (int .i64 0), (int .i64 0), (int .i64 0), (bool false)])]) (L3 := [(box p0 192 [sv0]), (own sv0 196 7 l0.length (fl enc_Omap_pair__int64__api_Entry l0)), (box b4 65 [(int .i64 0), (int .i64 0), (int .i64 0), (int .i64 0), (int .i64 0), (bool false)])]) rfl rfl (wanted_none rfl) (fun a => (hasA_cons (k := 1) rfl d1 hasA_base)) rfl (by simp [up, sel]) (ot_storeG (cs := [(int .i64 0), (int .i64 0), (int .i64 0), (int .i64 0), (int .i64 0), (bool false)]) (cs' := [(int .i64 0), (int .i64 0), (int .i64 0), (int .i64 0), (int .i64 0), (bool false)]) (us := [(int .i64 0), (int .i64 0), (int .i64 0), (int .i64 0), (int .i64 0), (bool false)]) (L' := [(box p0 192 [sv0]), (own sv0 196 7 l0.length (fl enc_Omap_pair__int64__api_Entry l0)), (box b4 65 [(int .i64 0), (int .i64 0), (int .i64 0), (int .i64 0), (int .i64 0), (bool false)])]) 2 rfl rfl rfl (one_all rfl) F_size_65 rfl rfl (by simp) rfl) (offT_spec rfl)
    ·intro done hi hc hcu
     exact draw_value (i := 4) (t := 6) (v := (bool false)) rfl rfl (wanted_none rfl) (fun a => hasA_base) (ov_assign rfl) rfl rfl (onlyT_spec (k0 := 2) rfl rfl rfl)
   ·intro done hall
    refine draw_endL [(box p0 192 [sv0]), (own sv0 196 7 l0.length (fl enc_Omap_pair__int64__api_Entry l0)), (box b4 65 [(int .i64 0), (int .i64 0), (int .i64 0), (int .i64 0), (int .i64 0), (bool false)])] rfl (fun a => (hasA_cons (k := 2) rfl (hall 4 (by decide)) (hasA_cons (k := 0) rfl (hall 0 (by decide)) (hasA_cons (k := 1) rfl (hall 1 (by decide)) (hasA_eq (ρ' := [(0, (pt p0 0)), (4, (int .i64 0)), (5, (pt b4 0)), (7, (int .i64 x4)), (18, (pt p0 0)), (19, (bool false)), (20, (bool false)), (21, (int .i64 x4)), (22, (bool (decide (x4 < 0)))), (23, (bool (decide (x4 < 0))))]) (by simp only [hall 2 (by decide), selv])))))) ?_
    refine ent_retc ?_
    first | (have e_ := Option.some.inj (show some _ = some _ from H); subst e_) | subst H
    exact ret_memp [0, 1] (by decide) rfl (vs := [(int .i64 0), (agg #[(int .i64 0), (int .i64 0), (int .i64 0), (int .i64 0), (int .i64 0), (bool false)]), (bool false)]) rfl ⟨rfl, ⟨⟨_, [(int .i64 0), (int .i64 0), (int .i64 0), (int .i64 0), (int .i64 0), (bool false)], rfl, reads_boxW (i := 2) rfl, .inl ⟨F_agg_65, F_size_65, rfl⟩⟩, ⟨rfl, trivial⟩⟩⟩ _ rfl ⟨rfl, rfl⟩
  ·rw [if_neg c10] at H
   refine ent_cond_false rfl (decide_eq_false c10) ?_
   refine ent_skip ?_
   refine ent_seq ?_
   by_cases c11 : 0 ≤ x4
   ·rw [if_pos c11] at H
    by_cases c12 : x4 < (l0.length : Int)
    ·rw [if_pos c12] at H
     refine ent_drawm 19 rfl (fun done a w => StD 42 w0 F [(0, (pt p0 0)), (5, (pt b4 0)), (7, (int .i64 x4)), (18, (pt p0 0)), (19, (bool false)), (20, (bool false)), (21, (int .i64 x4)), (22, (bool (decide (x4 < 0)))), (23, (bool (decide (x4 < 0))))] [(0, 26, (pt p0 0)), (1, 27, (pt p0 0)), (2, 28, (pt p0 0)), (3, 29, sv0), (4, 30, (int .i64 x4)), (5, 31, (eptr sv0 (x4.toNat * 7))), (6, 32, (eptr sv0 (x4.toNat * 7 + 0))), (7, 33, (int .i64 ((l0.getD x4.toNat z_Omap_pair__int64__api_Entry).k))), (8, 34, (pt p0 0)), (9, 35, (pt p0 0)), (10, 36, (pt p0 0)), (11, 37, sv0), (12, 38, (int .i64 x4)), (13, 39, (eptr sv0 (x4.toNat * 7))), (14, 40, (eptr sv0 (x4.toNat * 7 + 1))), (15, 41, (agg #[(int .i64 ((((l0.getD x4.toNat z_Omap_pair__int64__api_Entry).v).Part).Tier)), (int .i64 ((((l0.getD x4.toNat z_Omap_pair__int64__api_Entry).v).Part).Index)), (int .i64 (((l0.getD x4.toNat z_Omap_pair__int64__api_Entry).v).Seg)), (int .i64 (((l0.getD x4.toNat z_Omap_pair__int64__api_Entry).v).Mark)), (int .i64 (((l0.getD x4.toNat z_Omap_pair__int64__api_Entry).v).Rows)), (bool (((l0.getD x4.toNat z_Omap_pair__int64__api_Entry).v).Cold))])), (16, 4, (int .i64 ((l0.getD x4.toNat z_Omap_pair__int64__api_Entry).k))), (18, 6, (bool true))] done [(box p0 192 [sv0]), (own sv0 196 7 l0.length (fl enc_Omap_pair__int64__api_Entry l0)), (sel (done 17) (box b4 65 [(int .i64 ((((l0.getD x4.toNat z_Omap_pair__int64__api_Entry).v).Part).Tier)), (int .i64 ((((l0.getD x4.toNat z_Omap_pair__int64__api_Entry).v).Part).Index)), (int .i64 (((l0.getD x4.toNat z_Omap_pair__int64__api_Entry).v).Seg)), (int .i64 (((l0.getD x4.toNat z_Omap_pair__int64__api_Entry).v).Mark)), (int .i64 (((l0.getD x4.toNat z_Omap_pair__int64__api_Entry).v).Rows)), (bool (((l0.getD x4.toNat z_Omap_pair__int64__api_Entry).v).Cold))]) (box b4 65 [(int .i64 0), (int .i64 0), (int .i64 0), (int .i64 0), (int .i64 0), (bool false)]))] a w) (by kernel_rfl) (by kernel_rfl) (draw_startL (sub_cons (t := 0) rfl (sub_cons (t := 5) rfl (sub_cons (t := 7) rfl (sub_cons (t := 18) rfl (sub_cons (t := 19) rfl (sub_cons (t := 20) rfl (sub_cons (t := 21) rfl (sub_cons (t := 22) rfl (sub_cons (t := 23) rfl (sub_nil _)))))))))) (by simp only [sel])) ?_ ?_
     ·refine ⟨?_, ?_, ?_, ?_, ?_, ?_, ?_, ?_, ?_, ?_, ?_, ?_, ?_, ?_, ?_, ?_, ?_, ?_, ?_, trivial⟩
      ·intro done hi hc hcu
       exact draw_value (i := 0) (t := 26) (v := (pt p0 0)) rfl rfl (wanted_none rfl) (fun a => hasA_base) (ov_move rfl) rfl rfl (onlyT_spec (k0 := 0) rfl rfl rfl)
      ·intro done hi hc hcu
       have d0 : done 0 = true := done_of (j := 0) hcu rfl (by decide) rfl
       exact draw_value (i := 1) (t := 27) (v := (pt p0 0)) rfl rfl (wanted_none rfl) (fun a => (hasA_cons (k := 0) rfl d0 hasA_base)) (ov_nilCheck rfl) rfl rfl (onlyT_spec (k0 := 1) rfl rfl rfl)
      ·intro done hi hc hcu
       have d1 : done 1 = true := done_of (j := 1) hcu rfl (by decide) rfl
       exact draw_value (i := 2) (t := 28) (v := (pt p0 0)) rfl rfl (wanted_none rfl) (fun a => (hasA_cons (k := 1) rfl d1 hasA_base)) (ov_fieldAddr (sz := 0) (o := 0) rfl F_field_192_0 F_size_190) rfl rfl (onlyT_spec (k0 := 2) rfl rfl rfl)
      ·intro done hi hc hcu
       have d2 : done 2 = true := done_of (j := 2) hcu rfl (by decide) rfl
       exact draw_value (i := 3) (t := 29) (v := sv0) rfl rfl (wanted_none rfl) (fun a => (hasA_cons (k := 2) rfl d2 hasA_base)) (ov_load (v := sv0) rfl F_agg_190 (reads_box1 (i := 0) rfl rfl)) rfl rfl (onlyT_spec (k0 := 3) rfl rfl rfl)
      ·intro done hi hc hcu
       exact draw_value (i := 4) (t := 30) (v := (int .i64 x4)) rfl rfl (wanted_none rfl) (fun a => hasA_base) (ov_move rfl) rfl rfl (onlyT_spec (k0 := 4) rfl rfl rfl)
      ·intro done hi hc hcu
       have d3 : done 3 = true := done_of (j := 3) hcu rfl (by decide) rfl
       have d4 : done 4 = true := done_of (j := 4) hcu rfl (by decide) rfl
       exact draw_value (i := 5) (t := 31) (v := (eptr sv0 (x4.toNat * 7))) rfl rfl (wanted_none rfl) (fun a => (hasA_cons (k := 4) rfl d4 (hasA_cons (k := 3) rfl d3 hasA_base))) (ov_indexAddr (sz := 6) 1 rfl rfl F_slice_190 F_size_196 rfl (isRd_ownx 196) c11 c12) rfl rfl (onlyT_spec (k0 := 5) rfl rfl rfl)
      ·intro done hi hc hcu
       have d5 : done 5 = true := done_of (j := 5) hcu rfl (by decide) rfl
       exact draw_value (i := 6) (t := 32) (v := (eptr sv0 (x4.toNat * 7 + 0))) rfl rfl (wanted_none rfl) (fun a => (hasA_cons (k := 5) rfl d5 hasA_base)) (ov_fieldAddrE (sz := 0) (k0 := x4.toNat * 7) (off := 0) 1 rfl F_field_196_0 F_size_2 rfl (isRd_ownx 196) (fl_pos enc_Omap_pair__int64__api_Entry_len (ix_lt c11 c12))) rfl rfl (onlyT_spec (k0 := 6) rfl rfl rfl)
      ·intro done hi hc hcu
       have d6 : done 6 = true := done_of (j := 6) hcu rfl (by decide) rfl
       exact draw_value (i := 7) (t := 33) (v := (int .i64 ((l0.getD x4.toNat z_Omap_pair__int64__api_Entry).k))) rfl rfl (wanted_none rfl) (fun a => (hasA_cons (k := 6) rfl d6 hasA_base)) (ov_load (v := (int .i64 ((l0.getD x4.toNat z_Omap_pair__int64__api_Entry).k))) rfl F_agg_2 (reads_rd (i := 1) rfl (isRd_ownx 196) (by simp) (fl_read (off := 0) enc_Omap_pair__int64__api_Entry_len (ix_lt c11 c12) rfl))) rfl rfl (onlyT_spec (k0 := 7) rfl rfl rfl)
      ·intro done hi hc hcu
       exact draw_value (i := 8) (t := 34) (v := (pt p0 0)) rfl rfl (wanted_none rfl) (fun a => hasA_base) (ov_move rfl) rfl rfl (onlyT_spec (k0 := 8) rfl rfl rfl)
      ·intro done hi hc hcu
       have d8 : done 8 = true := done_of (j := 8) hcu rfl (by decide) rfl
       exact draw_value (i := 9) (t := 35) (v := (pt p0 0)) rfl rfl (wanted_none rfl) (fun a => (hasA_cons (k := 8) rfl d8 hasA_base)) (ov_nilCheck rfl) rfl rfl (onlyT_spec (k0 := 9) rfl rfl rfl)
      ·intro done hi hc hcu
       have d9 : done 9 = true := done_of (j := 9) hcu rfl (by decide) rfl
       exact draw_value (i := 10) (t := 36) (v := (pt p0 0)) rfl rfl (wanted_none rfl) (fun a => (hasA_cons (k := 9) rfl d9 hasA_base)) (ov_fieldAddr (sz := 0) (o := 0) rfl F_field_192_0 F_size_190) rfl rfl (onlyT_spec (k0 := 10) rfl rfl rfl)
      ·intro done hi hc hcu
       have d10 : done 10 = true := done_of (j := 10) hcu rfl (by decide) rfl
       exact draw_value (i := 11) (t := 37) (v := sv0) rfl rfl (wanted_none rfl) (fun a => (hasA_cons (k := 10) rfl d10 hasA_base)) (ov_load (v := sv0) rfl F_agg_190 (reads_box1 (i := 0) rfl rfl)) rfl rfl (onlyT_spec (k0 := 11) rfl rfl rfl)
      ·intro done hi hc hcu
       exact draw_value (i := 12) (t := 38) (v := (int .i64 x4)) rfl rfl (wanted_none rfl) (fun a => hasA_base) (ov_move rfl) rfl rfl (onlyT_spec (k0 := 12) rfl rfl rfl)
      ·intro done hi hc hcu
       have d11 : done 11 = true := done_of (j := 11) hcu rfl (by decide) rfl
       have d12 : done 12 = true := done_of (j := 12) hcu rfl (by decide) rfl
       exact draw_value (i := 13) (t := 39) (v := (eptr sv0 (x4.toNat * 7))) rfl rfl (wanted_none rfl) (fun a => (hasA_cons (k := 12) rfl d12 (hasA_cons (k := 11) rfl d11 hasA_base))) (ov_indexAddr (sz := 6) 1 rfl rfl F_slice_190 F_size_196 rfl (isRd_ownx 196) c11 c12) rfl rfl (onlyT_spec (k0 := 13) rfl rfl rfl)
      ·intro done hi hc hcu
       have d13 : done 13 = true := done_of (j := 13) hcu rfl (by decide) rfl
       exact draw_value (i := 14) (t := 40) (v := (eptr sv0 (x4.toNat * 7 + 1))) rfl rfl (wanted_none rfl) (fun a => (hasA_cons (k := 13) rfl d13 hasA_base)) (ov_fieldAddrE (sz := 5) (k0 := x4.toNat * 7) (off := 1) 1 rfl F_field_196_1 F_size_65 rfl (isRd_ownx 196) (fl_pos enc_Omap_pair__int64__api_Entry_len (ix_lt c11 c12))) rfl rfl (onlyT_spec (k0 := 14) rfl rfl rfl)
      ·intro done hi hc hcu
       have d14 : done 14 = true := done_of (j := 14) hcu rfl (by decide) rfl
       exact draw_value (i := 15) (t := 41) (v := (agg #[(int .i64 ((((l0.getD x4.toNat z_Omap_pair__int64__api_Entry).v).Part).Tier)), (int .i64 ((((l0.getD x4.toNat z_Omap_pair__int64__api_Entry).v).Part).Index)), (int .i64 (((l0.getD x4.toNat z_Omap_pair__int64__api_Entry).v).Seg)), (int .i64 (((l0.getD x4.toNat z_Omap_pair__int64__api_Entry).v).Mark)), (int .i64 (((l0.getD x4.toNat z_Omap_pair__int64__api_Entry).v).Rows)), (bool (((l0.getD x4.toNat z_Omap_pair__int64__api_Entry).v).Cold))])) rfl rfl (wanted_none rfl) (fun a => (hasA_cons (k := 14) rfl d14 hasA_base)) (ov_load_agg (vs := [(int .i64 ((((l0.getD x4.toNat z_Omap_pair__int64__api_Entry).v).Part).Tier)), (int .i64 ((((l0.getD x4.toNat z_Omap_pair__int64__api_Entry).v).Part).Index)), (int .i64 (((l0.getD x4.toNat z_Omap_pair__int64__api_Entry).v).Seg)), (int .i64 (((l0.getD x4.toNat z_Omap_pair__int64__api_Entry).v).Mark)), (int .i64 (((l0.getD x4.toNat z_Omap_pair__int64__api_Entry).v).Rows)), (bool (((l0.getD x4.toNat z_Omap_pair__int64__api_Entry).v).Cold))]) rfl F_agg_65 F_size_65 (reads_rd (i := 1) rfl (isRd_ownx 196) (by simp) (fl_read (off := 1) enc_Omap_pair__int64__api_Entry_len (ix_lt c11 c12) rfl))) rfl rfl (onlyT_spec (k0 := 15) rfl rfl rfl)
      ·intro done hi hc hcu
       have d7 : done 7 = true := done_of (j := 7) hcu rfl (by decide) rfl
       exact draw_value (i := 16) (t := 4) (v := (int .i64 ((l0.getD x4.toNat z_Omap_pair__int64__api_Entry).k))) rfl rfl (wanted_none rfl) (fun a => (hasA_cons (k := 7) rfl d7 hasA_base)) (ov_assign rfl) rfl rfl (onlyT_spec (k0 := 16) rfl rfl rfl)
      ·intro done hi hc hcu
       have d15 : done 15 = true := done_of (j := 15) hcu rfl (by decide) rfl
       exact draw_store (i := 17) (L2 := [(box p0 192 [sv0]), (own sv0 196 7 l0.length (fl enc_Omap_pair__int64__api_Entry l0)), (box b4 65 [(int .i64 0), (int .i64 0), (int .i64 0), (int .i64 0), (int .i64 0), (bool false)])]) (L3 := [(box p0 192 [sv0]), (own sv0 196 7 l0.length (fl enc_Omap_pair__int64__api_Entry l0)), (box b4 65 [(int .i64 ((((l0.getD x4.toNat z_Omap_pair__int64__api_Entry).v).Part).Tier)), (int .i64 ((((l0.getD x4.toNat z_Omap_pair__int64__api_Entry).v).Part).Index)), (int .i64 (((l0.getD x4.toNat z_Omap_pair__int64__api_Entry).v).Seg)), (int .i64 (((l0.getD x4.toNat z_Omap_pair__int64__api_Entry).v).Mark)), (int .i64 (((l0.getD x4.toNat z_Omap_pair__int64__api_Entry).v).Rows)), (bool (((l0.getD x4.toNat z_Omap_pair__int64__api_Entry).v).Cold))])]) rfl rfl (wanted_none rfl) (fun a => (hasA_cons (k := 15) rfl d15 hasA_base)) (by simp only [hi, sel]) (by simp [up, sel]) (ot_storeG (cs := [(int .i64 0), (int .i64 0), (int .i64 0), (int .i64 0), (int .i64 0), (bool false)]) (cs' := [(int .i64 ((((l0.getD x4.toNat z_Omap_pair__int64__api_Entry).v).Part).Tier)), (int .i64 ((((l0.getD x4.toNat z_Omap_pair__int64__api_Entry).v).Part).Index)), (int .i64 (((l0.getD x4.toNat z_Omap_pair__int64__api_Entry).v).Seg)), (int .i64 (((l0.getD x4.toNat z_Omap_pair__int64__api_Entry).v).Mark)), (int .i64 (((l0.getD x4.toNat z_Omap_pair__int64__api_Entry).v).Rows)), (bool (((l0.getD x4.toNat z_Omap_pair__int64__api_Entry).v).Cold))]) (us := [(int .i64 ((((l0.getD x4.toNat z_Omap_pair__int64__api_Entry).v).Part).Tier)), (int .i64 ((((l0.getD x4.toNat z_Omap_pair__int64__api_Entry).v).Part).Index)), (int .i64 (((l0.getD x4.toNat z_Omap_pair__int64__api_Entry).v).Seg)), (int .i64 (((l0.getD x4.toNat z_Omap_pair__int64__api_Entry).v).Mark)), (int .i64 (((l0.getD x4.toNat z_Omap_pair__int64__api_Entry).v).Rows)), (bool (((l0.getD x4.toNat z_Omap_pair__int64__api_Entry).v).Cold))]) (L' := [(box p0 192 [sv0]), (own sv0 196 7 l0.length (fl enc_Omap_pair__int64__api_Entry l0)), (box b4 65 [(int .i64 ((((l0.getD x4.toNat z_Omap_pair__int64__api_Entry).v).Part).Tier)), (int .i64 ((((l0.getD x4.toNat z_Omap_pair__int64__api_Entry).v).Part).Index)), (int .i64 (((l0.getD x4.toNat z_Omap_pair__int64__api_Entry).v).Seg)), (int .i64 (((l0.getD x4.toNat z_Omap_pair__int64__api_Entry).v).Mark)), (int .i64 (((l0.getD x4.toNat z_Omap_pair__int64__api_Entry).v).Rows)), (bool (((l0.getD x4.toNat z_Omap_pair__int64__api_Entry).v).Cold))])]) 2 rfl rfl rfl (one_all rfl) F_size_65 rfl rfl (by simp) rfl) (offT_spec rfl)
      ·intro done hi hc hcu
       exact draw_value (i := 18) (t := 6) (v := (bool true)) rfl rfl (wanted_none rfl) (fun a => hasA_base) (ov_assign rfl) rfl rfl (onlyT_spec (k0 := 17) rfl rfl rfl)
     ·intro done hall
      refine draw_endL [(box p0 192 [sv0]), (own sv0 196 7 l0.length (fl enc_Omap_pair__int64__api_Entry l0)), (box b4 65 [(int .i64 ((((l0.getD x4.toNat z_Omap_pair__int64__api_Entry).v).Part).Tier)), (int .i64 ((((l0.getD x4.toNat z_Omap_pair__int64__api_Entry).v).Part).Index)), (int .i64 (((l0.getD x4.toNat z_Omap_pair__int64__api_Entry).v).Seg)), (int .i64 (((l0.getD x4.toNat z_Omap_pair__int64__api_Entry).v).Mark)), (int .i64 (((l0.getD x4.toNat z_Omap_pair__int64__api_Entry).v).Rows)), (bool (((l0.getD x4.toNat z_Omap_pair__int64__api_Entry).v).Cold))])] (by simp only [hall 17 (by decide), sel]) (fun a => (hasA_cons (k := 16) rfl (hall 16 (by decide)) (hasA_cons (k := 17) rfl (hall 18 (by decide)) (hasA_cons (k := 0) rfl (hall 0 (by decide)) (hasA_cons (k := 1) rfl (hall 1 (by decide)) (hasA_cons (k := 2) rfl (hall 2 (by decide)) (hasA_cons (k := 3) rfl (hall 3 (by decide)) (hasA_cons (k := 4) rfl (hall 4 (by decide)) (hasA_cons (k := 5) rfl (hall 5 (by decide)) (hasA_cons (k := 6) rfl (hall 6 (by decide)) (hasA_cons (k := 7) rfl (hall 7 (by decide)) (hasA_cons (k := 8) rfl (hall 8 (by decide)) (hasA_cons (k := 9) rfl (hall 9 (by decide)) (hasA_cons (k := 10) rfl (hall 10 (by decide)) (hasA_cons (k := 11) rfl (hall 11 (by decide)) (hasA_cons (k := 12) rfl (hall 12 (by decide)) (hasA_cons (k := 13) rfl (hall 13 (by decide)) (hasA_cons (k := 14) rfl (hall 14 (by decide)) (hasA_cons (k := 15) rfl (hall 15 (by decide)) hasA_base))))))))))))))))))) ?_
      refine ent_retc ?_
      first | (have e_ := Option.some.inj (show some _ = some _ from H); subst e_) | subst H
      exact ret_memp [0, 1] (by decide) rfl (vs := [(int .i64 ((l0.getD x4.toNat z_Omap_pair__int64__api_Entry).k)), (agg #[(int .i64 ((((l0.getD x4.toNat z_Omap_pair__int64__api_Entry).v).Part).Tier)), (int .i64 ((((l0.getD x4.toNat z_Omap_pair__int64__api_Entry).v).Part).Index)), (int .i64 (((l0.getD x4.toNat z_Omap_pair__int64__api_Entry).v).Seg)), (int .i64 (((l0.getD x4.toNat z_Omap_pair__int64__api_Entry).v).Mark)), (int .i64 (((l0.getD x4.toNat z_Omap_pair__int64__api_Entry).v).Rows)), (bool (((l0.getD x4.toNat z_Omap_pair__int64__api_Entry).v).Cold))]), (bool true)]) rfl ⟨rfl, ⟨⟨_, [(int .i64 ((((l0.getD x4.toNat z_Omap_pair__int64__api_Entry).v).Part).Tier)), (int .i64 ((((l0.getD x4.toNat z_Omap_pair__int64__api_Entry).v).Part).Index)), (int .i64 (((l0.getD x4.toNat z_Omap_pair__int64__api_Entry).v).Seg)), (int .i64 (((l0.getD x4.toNat z_Omap_pair__int64__api_Entry).v).Mark)), (int .i64 (((l0.getD x4.toNat z_Omap_pair__int64__api_Entry).v).Rows)), (bool (((l0.getD x4.toNat z_Omap_pair__int64__api_Entry).v).Cold))], rfl, reads_boxW (i := 2) rfl, .inl ⟨F_agg_65, F_size_65, rfl⟩⟩, ⟨rfl, trivial⟩⟩⟩ _ rfl ⟨rfl, rfl⟩
    ·rw [if_neg c12] at H
     cases H
   ·rw [if_neg c11] at H
    cases H

set_option maxRecDepth 100000 in
theorem part_Has.spec (a0_0 : Int) (a0_1 : Int) (a1 : Int) (r : Bool) (H : part_Has a0_0 a0_1 a1 = r) : FnSpec Try.prog 87 [(agg #[(int .i64 a0_0), (int .i64 a0_1)]), (int .i64 a1)] [] (fun v M => v = (bool r) ∧ M = []) := by
 unfold part_Has at H
 refine spec_of Try.func87 rfl 34 rfl (Nat.le_of_ble_eq_true rfl) fun F w0 => ?_
 show Ent (St 34 w0 F [(0, (agg #[(int .i64 a0_0), (int .i64 a0_1)])), (1, (int .i64 a1))] []) _
 refine ent_seq ?_
 refine ent_region ?_
 refine ent_op (ot_box (cs := [(int .i64 a0_0), (int .i64 a0_1)]) rfl rfl) rfl rfl rfl ?_
 rintro _ _ ⟨b3, rfl, rfl⟩
 refine ent_value (ov_assign rfl) rfl rfl rfl ?_
 refine ent_nil ?_
 refine ent_seq ?_
 refine ent_region ?_
 refine ent_value (ov_fieldAddr (sz := 0) (o := 0) rfl F_field_63_0 F_size_3) rfl rfl rfl ?_
 refine ent_value (ov_load (v := (int .i64 a0_0)) rfl F_agg_3 (reads_box1 (i := 0) rfl rfl)) rfl rfl rfl ?_
 refine ent_value (ov_move rfl) rfl rfl rfl ?_
 obtain ⟨x4, h4, H⟩ := thn_elim H
 refine ent_op (ot_call0 (first := []) (cap := []) (xs := [.tmp 11, .tmp 12]) rfl rfl F_call_137 rfl (part_Of.spec a0_0 a1 _ h4)) rfl rfl rfl ?_
 rintro _ _ ⟨rfl, rfl⟩
 refine ent_value (ov_move rfl) rfl rfl rfl ?_
 refine ent_value (ov_extract rfl rfl) rfl rfl rfl ?_
 refine ent_value (ov_extract rfl rfl) rfl rfl rfl ?_
 refine ent_op (ot_alloc F_zero_63) rfl rfl rfl ?_
 rintro _ _ ⟨b4, rfl, rfl⟩
 refine ent_op0 (ot_storeG (cs := [(int .i64 0), (int .i64 0)]) (cs' := [(int .i64 x4.1), (int .i64 x4.2.1)]) (us := [(int .i64 x4.1), (int .i64 x4.2.1)]) (L' := [(box b4 63 [(int .i64 x4.1), (int .i64 x4.2.1)]), (box b3 63 [(int .i64 a0_0), (int .i64 a0_1)])]) 0 rfl rfl rfl (one_all rfl) F_size_63 rfl rfl (by simp) rfl) rfl rfl ?_
 rintro _ _ rfl
 refine ent_value (ov_assign rfl) rfl rfl rfl ?_
 refine ent_nil ?_
 refine ent_seq ?_
 refine ent_seq ?_
 refine ent_region ?_
 refine ent_value (ov_move rfl) rfl rfl rfl ?_
 refine ent_value (ov_un rfl (u_not _)) rfl rfl rfl ?_
 refine ent_nil ?_
 by_cases c7 : (!x4.2.2) = true
 ·rw [if_pos c7] at H
  refine ent_cond_true rfl c7 ?_
  refine ent_seq ?_
  refine ent_region ?_
  refine ent_value (ov_load_agg (vs := [(int .i64 a0_0), (int .i64 a0_1)]) rfl F_agg_63 F_size_63 (reads_boxW (i := 1) rfl)) rfl rfl rfl ?_
  obtain ⟨x6, h6, H⟩ := thn_elim H
  refine ent_op (ot_call0 (first := []) (cap := []) (xs := [.tmp 19]) rfl rfl F_call_35 rfl (part_Span.spec a0_0 a0_1 _ h6)) rfl rfl rfl ?_
  rintro _ _ ⟨rfl, rfl⟩
  refine ent_value (ov_move rfl) rfl rfl rfl ?_
  refine ent_value (ov_extract rfl rfl) rfl rfl rfl ?_
  refine ent_value (ov_extract rfl rfl) rfl rfl rfl ?_
  refine ent_value (ov_assign rfl) rfl rfl rfl ?_
  refine ent_value (ov_assign rfl) rfl rfl rfl ?_
  refine ent_nil ?_
  refine ent_seq ?_
  refine ent_region ?_
  refine ent_value (ov_move rfl) rfl rfl rfl ?_
  refine ent_value (ov_move rfl) rfl rfl rfl ?_
  refine ent_value (ov_bin rfl rfl (b_geq _ _ _)) rfl rfl rfl ?_
  refine ent_value (ov_move rfl) rfl rfl rfl ?_
  by_cases c8 : x6.1 ≤ a1
  ·rw [if_pos c8] at H
   refine ent_value_on (ov_move rfl) rfl rfl rfl (decide_eq_true c8) rfl rfl ?_
   refine ent_value_on (ov_move rfl) rfl rfl rfl (decide_eq_true c8) rfl rfl ?_
   refine ent_value_on (ov_bin rfl rfl (b_lss _ _ _)) rfl rfl rfl (decide_eq_true c8) rfl rfl ?_
   refine ent_value (ov_pick rfl rfl rfl (pick_t (decide_eq_true c8))) rfl rfl rfl ?_
   refine ent_value (ov_assign rfl) rfl rfl rfl ?_
   refine ent_nil ?_
   refine ent_retc ?_
   cases H
   refine ent_pick [] (by decide) rfl ?_
   exact ret_tmp rfl rfl ⟨rfl, rfl⟩
  ·rw [if_neg c8] at H
   refine ent_off rfl rfl rfl (decide_eq_false c8) rfl rfl ?_
   refine ent_off rfl rfl rfl (decide_eq_false c8) rfl rfl ?_
   refine ent_off rfl rfl rfl (decide_eq_false c8) rfl rfl ?_
   refine ent_value (ov_pick rfl rfl rfl (pick_f (decide_eq_false c8))) rfl rfl rfl ?_
   refine ent_value (ov_assign rfl) rfl rfl rfl ?_
   refine ent_nil ?_
   refine ent_retc ?_
   cases H
   refine ent_pick [] (by decide) rfl ?_
   exact ret_tmp rfl rfl ⟨rfl, rfl⟩
 ·rw [if_neg c7] at H
  refine ent_cond_false rfl (Bool.eq_false_iff.2 c7) ?_
  refine ent_skip ?_
  refine ent_seq ?_
  refine ent_region ?_
  refine ent_value (ov_load_agg (vs := [(int .i64 x4.1), (int .i64 x4.2.1)]) rfl F_agg_63 F_size_63 (reads_boxW (i := 0) rfl)) rfl rfl rfl ?_
  refine ent_value (ov_load_agg (vs := [(int .i64 a0_0), (int .i64 a0_1)]) rfl F_agg_63 F_size_63 (reads_boxW (i := 1) rfl)) rfl rfl rfl ?_
  refine ent_value (ov_bin rfl rfl (same_63 _ _ _ _)) rfl rfl rfl ?_
  refine ent_value (ov_assign rfl) rfl rfl rfl ?_
  refine ent_nil ?_
  refine ent_retc ?_
  cases H
  refine ent_pick [] (by decide) rfl ?_
  exact ret_tmp rfl rfl ⟨rfl, rfl⟩

set_option maxRecDepth 100000 in
theorem catalog_Catalog_At_O.spec (K : Nat) (p0 : Nat) (p1 : Nat) (sv0 : Value) (l0 : List Omap_pair__int64__api_Entry) (a1 : Int) (r : (Int × Int × Int × Int × Int × Bool × Bool)) (H : catalog_Catalog_At_O K l0 a1 = some r) : FnSpec Try.prog 28 [(pt p0 0), (int .i64 a1)] [(box p0 139 [(pt p1 0)]), (box p1 192 [sv0]), (own sv0 196 7 l0.length (fl enc_Omap_pair__int64__api_Entry l0))] (fun v M => v = (Value.tuple #[(agg #[(int .i64 r.1), (int .i64 r.2.1), (int .i64 r.2.2.1), (int .i64 r.2.2.2.1), (int .i64 r.2.2.2.2.1), (bool r.2.2.2.2.2.1)]), (bool r.2.2.2.2.2.2)]) ∧ M = [(box p0 139 [(pt p1 0)]), (box p1 192 [sv0]), (own sv0 196 7 l0.length (fl enc_Omap_pair__int64__api_Entry l0))]) := by
 unfold catalog_Catalog_At_O at H
 refine spec_of Try.func28 rfl 30 rfl (Nat.le_of_ble_eq_true rfl) fun F w0 => ?_
 show Ent (St 30 w0 F [(0, (pt p0 0)), (1, (int .i64 a1))] [(box p0 139 [(pt p1 0)]), (box p1 192 [sv0]), (own sv0 196 7 l0.length (fl enc_Omap_pair__int64__api_Entry l0))]) _
 refine ent_seq ?_
 refine ent_region ?_
 refine ent_op (ot_alloc F_zero_65) rfl rfl rfl ?_
 rintro _ _ ⟨b2, rfl, rfl⟩
 refine ent_value (ov_assign rfl) rfl rfl rfl ?_
 refine ent_nil ?_
 refine ent_seq ?_
 refine ent_seq ?_
 refine ent_region ?_
 refine ent_value (ov_move rfl) rfl rfl rfl ?_
 refine ent_value (ov_bin rfl rfl (b_eql_of (fun w => rfl) rfl (eq_pn Try.underlying51 _ _))) rfl rfl rfl ?_
 refine ent_nil ?_
 refine ent_cond_false rfl rfl ?_
 refine ent_skip ?_
 refine ent_seq ?_
 refine ent_region ?_
 refine ent_value (ov_move rfl) rfl rfl rfl ?_
 refine ent_value (ov_nilCheck rfl) rfl rfl rfl ?_
 refine ent_value (ov_fieldAddr (sz := 0) (o := 0) rfl F_field_139_0 F_size_136) rfl rfl rfl ?_
 refine ent_value (ov_load (v := (pt p1 0)) rfl F_agg_136 (reads_box1 (i := 1) rfl rfl)) rfl rfl rfl ?_
 refine ent_value (ov_move rfl) rfl rfl rfl ?_
 obtain ⟨x4, h4, H⟩ := Option.bind_eq_some_iff.1 H
 refine ent_op (ot_call_same (Lr := [(box b2 65 [(int .i64 0), (int .i64 0), (int .i64 0), (int .i64 0), (int .i64 0), (bool false)]), (box p0 139 [(pt p1 0)])]) [2, 3, 0, 1] [2, 3, 0, 1] (first := []) (cap := []) (xs := [.tmp 13, .tmp 14]) rfl rfl F_call_86 rfl (omap_Map__int64__api_Entry_Floor_O.spec K p1 sv0 l0 a1 _ h4) (by decide) rfl (by decide) rfl) rfl rfl rfl ?_
 rintro _ _ ⟨rfl, rfl⟩
 refine ent_value (ov_move rfl) rfl rfl rfl ?_
 refine ent_value (ov_extract rfl rfl) rfl rfl rfl ?_
 refine ent_value (ov_extract rfl rfl) rfl rfl rfl ?_
 refine ent_value (ov_extract rfl rfl) rfl rfl rfl ?_
 refine ent_op0 (ot_storeG (cs := [(int .i64 0), (int .i64 0), (int .i64 0), (int .i64 0), (int .i64 0), (bool false)]) (cs' := [(int .i64 x4.2.1), (int .i64 x4.2.2.1), (int .i64 x4.2.2.2.1), (int .i64 x4.2.2.2.2.1), (int .i64 x4.2.2.2.2.2.1), (bool x4.2.2.2.2.2.2.1)]) (us := [(int .i64 x4.2.1), (int .i64 x4.2.2.1), (int .i64 x4.2.2.2.1), (int .i64 x4.2.2.2.2.1), (int .i64 x4.2.2.2.2.2.1), (bool x4.2.2.2.2.2.2.1)]) (L' := [(box b2 65 [(int .i64 x4.2.1), (int .i64 x4.2.2.1), (int .i64 x4.2.2.2.1), (int .i64 x4.2.2.2.2.1), (int .i64 x4.2.2.2.2.2.1), (bool x4.2.2.2.2.2.2.1)]), (box p0 139 [(pt p1 0)]), (box p1 192 [sv0]), (own sv0 196 7 l0.length (fl enc_Omap_pair__int64__api_Entry l0))]) 0 rfl rfl rfl (one_all rfl) F_size_65 rfl rfl (by simp) rfl) rfl rfl ?_
 rintro _ _ rfl
 refine ent_value (ov_assign rfl) rfl rfl rfl ?_
 refine ent_nil ?_
 refine ent_seq ?_
 refine ent_seq ?_
 refine ent_region ?_
 refine ent_value (ov_move rfl) rfl rfl rfl ?_
 refine ent_value (ov_un rfl (u_not _)) rfl rfl rfl ?_
 refine ent_value (ov_move rfl) rfl rfl rfl ?_
 by_cases c7 : (!x4.2.2.2.2.2.2.2) = true
 ·rw [if_pos c7] at H
  refine ent_off rfl rfl rfl c7 rfl rfl ?_
  refine ent_off rfl rfl rfl c7 rfl rfl ?_
  refine ent_off rfl rfl rfl c7 rfl rfl ?_
  refine ent_off rfl rfl rfl c7 rfl rfl ?_
  refine ent_off rfl rfl rfl c7 rfl rfl ?_
  refine ent_value (ov_pick rfl rfl rfl (pick_t c7)) rfl rfl rfl ?_
  refine ent_nil ?_
  refine ent_cond_true rfl rfl ?_
  refine ent_seq ?_
  refine ent_region ?_
  refine ent_value (ov_build (is := []) (xs := []) (vs := []) rfl rfl (build_struct (cs := [(int .i64 0), (int .i64 0), (int .i64 0), (int .i64 0), (int .i64 0), (bool false)]) F_zero_65 F_places_65 rfl)) rfl rfl rfl ?_
  refine ent_op0 (ot_storeG (cs := [(int .i64 x4.2.1), (int .i64 x4.2.2.1), (int .i64 x4.2.2.2.1), (int .i64 x4.2.2.2.2.1), (int .i64 x4.2.2.2.2.2.1), (bool x4.2.2.2.2.2.2.1)]) (cs' := [(int .i64 0), (int .i64 0), (int .i64 0), (int .i64 0), (int .i64 0), (bool false)]) (us := [(int .i64 0), (int .i64 0), (int .i64 0), (int .i64 0), (int .i64 0), (bool false)]) (L' := [(box b2 65 [(int .i64 0), (int .i64 0), (int .i64 0), (int .i64 0), (int .i64 0), (bool false)]), (box p0 139 [(pt p1 0)]), (box p1 192 [sv0]), (own sv0 196 7 l0.length (fl enc_Omap_pair__int64__api_Entry l0))]) 0 rfl rfl rfl (one_all rfl) F_size_65 rfl rfl (by simp) rfl) rfl rfl ?_
  rintro _ _ rfl
  refine ent_value (ov_assign rfl) rfl rfl rfl ?_
  refine ent_nil ?_
  refine ent_retc ?_
  first | (have e_ := Option.some.inj (show some _ = some _ from H); subst e_) | subst H
  exact ret_memp [1, 2, 3] (by decide) rfl (vs := [(agg #[(int .i64 0), (int .i64 0), (int .i64 0), (int .i64 0), (int .i64 0), (bool false)]), (bool false)]) rfl ⟨⟨_, [(int .i64 0), (int .i64 0), (int .i64 0), (int .i64 0), (int .i64 0), (bool false)], rfl, reads_boxW (i := 0) rfl, .inl ⟨F_agg_65, F_size_65, rfl⟩⟩, ⟨rfl, trivial⟩⟩ _ rfl ⟨rfl, rfl⟩
 ·rw [if_neg c7] at H
  refine ent_value_on (ov_fieldAddr (sz := 1) (o := 0) rfl F_field_65_0 F_size_63) rfl rfl rfl (Bool.eq_false_iff.2 c7) rfl rfl ?_
  refine ent_value_on (ov_load_agg (vs := [(int .i64 x4.2.1), (int .i64 x4.2.2.1)]) rfl F_agg_63 F_size_63 (reads_boxN (i := 0) rfl rfl)) rfl rfl rfl (Bool.eq_false_iff.2 c7) rfl rfl ?_
  refine ent_value_on (ov_move rfl) rfl rfl rfl (Bool.eq_false_iff.2 c7) rfl rfl ?_
  obtain ⟨x6, h6, H⟩ := thn_elim H
  refine ent_op_on (ot_call0 (first := []) (cap := []) (xs := [.tmp 23, .tmp 24]) rfl rfl F_call_87 rfl (part_Has.spec x4.2.1 x4.2.2.1 a1 _ h6)) rfl rfl rfl (Bool.eq_false_iff.2 c7) rfl rfl ?_
  rintro _ _ ⟨rfl, rfl⟩
  refine ent_value_on (ov_un rfl (u_not _)) rfl rfl rfl (Bool.eq_false_iff.2 c7) rfl rfl ?_
  refine ent_value (ov_pick rfl rfl rfl (pick_f (Bool.eq_false_iff.2 c7))) rfl rfl rfl ?_
  refine ent_nil ?_
  by_cases c8 : (!x6) = true
  ·rw [if_pos c8] at H
   refine ent_cond_true rfl c8 ?_
   refine ent_seq ?_
   refine ent_region ?_
   refine ent_value (ov_build (is := []) (xs := []) (vs := []) rfl rfl (build_struct (cs := [(int .i64 0), (int .i64 0), (int .i64 0), (int .i64 0), (int .i64 0), (bool false)]) F_zero_65 F_places_65 rfl)) rfl rfl rfl ?_
   refine ent_op0 (ot_storeG (cs := [(int .i64 x4.2.1), (int .i64 x4.2.2.1), (int .i64 x4.2.2.2.1), (int .i64 x4.2.2.2.2.1), (int .i64 x4.2.2.2.2.2.1), (bool x4.2.2.2.2.2.2.1)]) (cs' := [(int .i64 0), (int .i64 0), (int .i64 0), (int .i64 0), (int .i64 0), (bool false)]) (us := [(int .i64 0), (int .i64 0), (int .i64 0), (int .i64 0), (int .i64 0), (bool false)]) (L' := [(box b2 65 [(int .i64 0), (int .i64 0), (int .i64 0), (int .i64 0), (int .i64 0), (bool false)]), (box p0 139 [(pt p1 0)]), (box p1 192 [sv0]), (own sv0 196 7 l0.length (fl enc_Omap_pair__int64__api_Entry l0))]) 0 rfl rfl rfl (one_all rfl) F_size_65 rfl rfl (by simp) rfl) rfl rfl ?_
   rintro _ _ rfl
   refine ent_value (ov_assign rfl) rfl rfl rfl ?_
   refine ent_nil ?_
   refine ent_retc ?_
   first | (have e_ := Option.some.inj (show some _ = some _ from H); subst e_) | subst H
   exact ret_memp [1, 2, 3] (by decide) rfl (vs := [(agg #[(int .i64 0), (int .i64 0), (int .i64 0), (int .i64 0), (int .i64 0), (bool false)]), (bool false)]) rfl ⟨⟨_, [(int .i64 0), (int .i64 0), (int .i64 0), (int .i64 0), (int .i64 0), (bool false)], rfl, reads_boxW (i := 0) rfl, .inl ⟨F_agg_65, F_size_65, rfl⟩⟩, ⟨rfl, trivial⟩⟩ _ rfl ⟨rfl, rfl⟩
  ·rw [if_neg c8] at H
   refine ent_cond_false rfl (Bool.eq_false_iff.2 c8) ?_
   refine ent_skip ?_
   refine ent_seq ?_
   refine ent_region ?_
   refine ent_value (ov_load_agg (vs := [(int .i64 x4.2.1), (int .i64 x4.2.2.1), (int .i64 x4.2.2.2.1), (int .i64 x4.2.2.2.2.1), (int .i64 x4.2.2.2.2.2.1), (bool x4.2.2.2.2.2.2.1)]) rfl F_agg_65 F_size_65 (reads_boxW (i := 0) rfl)) rfl rfl rfl ?_
   refine ent_op0 (ot_storeG (cs := [(int .i64 x4.2.1), (int .i64 x4.2.2.1), (int .i64 x4.2.2.2.1), (int .i64 x4.2.2.2.2.1), (int .i64 x4.2.2.2.2.2.1), (bool x4.2.2.2.2.2.2.1)]) (cs' := [(int .i64 x4.2.1), (int .i64 x4.2.2.1), (int .i64 x4.2.2.2.1), (int .i64 x4.2.2.2.2.1), (int .i64 x4.2.2.2.2.2.1), (bool x4.2.2.2.2.2.2.1)]) (us := [(int .i64 x4.2.1), (int .i64 x4.2.2.1), (int .i64 x4.2.2.2.1), (int .i64 x4.2.2.2.2.1), (int .i64 x4.2.2.2.2.2.1), (bool x4.2.2.2.2.2.2.1)]) (L' := [(box b2 65 [(int .i64 x4.2.1), (int .i64 x4.2.2.1), (int .i64 x4.2.2.2.1), (int .i64 x4.2.2.2.2.1), (int .i64 x4.2.2.2.2.2.1), (bool x4.2.2.2.2.2.2.1)]), (box p0 139 [(pt p1 0)]), (box p1 192 [sv0]), (own sv0 196 7 l0.length (fl enc_Omap_pair__int64__api_Entry l0))]) 0 rfl rfl rfl (one_all rfl) F_size_65 rfl rfl (by simp) rfl) rfl rfl ?_
   rintro _ _ rfl
   refine ent_value (ov_assign rfl) rfl rfl rfl ?_
   refine ent_nil ?_
   refine ent_retc ?_
   first | (have e_ := Option.some.inj (show some _ = some _ from H); subst e_) | subst H
   exact ret_memp [1, 2, 3] (by decide) rfl (vs := [(agg #[(int .i64 x4.2.1), (int .i64 x4.2.2.1), (int .i64 x4.2.2.2.1), (int .i64 x4.2.2.2.2.1), (int .i64 x4.2.2.2.2.2.1), (bool x4.2.2.2.2.2.2.1)]), (bool true)]) rfl ⟨⟨_, [(int .i64 x4.2.1), (int .i64 x4.2.2.1), (int .i64 x4.2.2.2.1), (int .i64 x4.2.2.2.2.1), (int .i64 x4.2.2.2.2.2.1), (bool x4.2.2.2.2.2.2.1)], rfl, reads_boxW (i := 0) rfl, .inl ⟨F_agg_65, F_size_65, rfl⟩⟩, ⟨rfl, trivial⟩⟩ _ rfl ⟨rfl, rfl⟩

set_option maxRecDepth 100000 in
theorem omap_each__int64__api_Entry_R.spec (sv0 : Value) (A0 : HP) (l0 : List Omap_pair__int64__api_Entry) (hA0 : IsRd A0 sv0 l0.length 7 (fl enc_Omap_pair__int64__api_Entry l0)) (r : Unit) (H : omap_each__int64__api_Entry_R l0 = r) : FnSpec Try.prog 140 [sv0] [A0] (fun v M => ∃ b2 : Nat, v = (Value.func (.func 176) #[] #[(pt b2 0)]) ∧ M = [A0, (box b2 190 [sv0])]) := by
 unfold omap_each__int64__api_Entry_R at H
 refine spec_of Try.func140 rfl 4 rfl (Nat.le_of_ble_eq_true rfl) fun F w0 => ?_
 show Ent (St 4 w0 F [(0, sv0)] [A0]) _
 refine ent_seq ?_
 refine ent_region ?_
 refine ent_op (ot_boxS 0 rfl rfl hA0) rfl rfl rfl ?_
 rintro _ _ ⟨b3, rfl, rfl⟩
 refine ent_value (ov_assign rfl) rfl rfl rfl ?_
 refine ent_nil ?_
 refine ent_seq ?_
 refine ent_region ?_
 refine ent_value (ov_makeFunc (first := []) (cap := [.tmp 1]) rfl rfl) rfl rfl rfl ?_
 refine ent_value (ov_assign rfl) rfl rfl rfl ?_
 refine ent_nil ?_
 refine ent_retc ?_
 cases H
 refine ent_pick [1, 0] (by decide) rfl ?_
 exact ret_tmp rfl rfl ⟨_, rfl, rfl⟩

set_option maxRecDepth 100000 in
theorem omap_Map__int64__api_Entry_Range_O.spec (K : Nat) (p0 : Nat) (sv0 : Value) (l0 : List Omap_pair__int64__api_Entry) (a1 : Int) (a2 : Int) (r : List Omap_pair__int64__api_Entry) (H : omap_Map__int64__api_Entry_Range_O K l0 a1 a2 = some r) : FnSpec Try.prog 96 [(pt p0 0), (int .i64 a1), (int .i64 a2)] [(box p0 192 [sv0]), (own sv0 196 7 l0.length (fl enc_Omap_pair__int64__api_Entry l0))] (fun v M => ∃ b4 : Nat, ∃ sv1 : Value, IsRd (own sv0 196 7 l0.length (fl enc_Omap_pair__int64__api_Entry l0)) sv1 r.length 7 (fl enc_Omap_pair__int64__api_Entry r) ∧ v = (Value.func (.func 176) #[] #[(pt b4 0)]) ∧ M = [(box p0 192 [sv0]), (own sv0 196 7 l0.length (fl enc_Omap_pair__int64__api_Entry l0)), (box b4 190 [sv1])]) := by
 unfold omap_Map__int64__api_Entry_Range_O at H
 refine spec_of Try.func96 rfl 35 rfl (Nat.le_of_ble_eq_true rfl) fun F w0 => ?_
 show Ent (St 35 w0 F [(0, (pt p0 0)), (1, (int .i64 a1)), (2, (int .i64 a2))] [(box p0 192 [sv0]), (own sv0 196 7 l0.length (fl enc_Omap_pair__int64__api_Entry l0))]) _
 refine ent_seq ?_
 refine ent_region ?_
 refine ent_value (ov_assign rfl) rfl rfl rfl ?_
 refine ent_nil ?_
 refine ent_seq ?_
 refine ent_region ?_
 refine ent_value (ov_move rfl) rfl rfl rfl ?_
 refine ent_value (ov_move rfl) rfl rfl rfl ?_
 obtain ⟨x3, h6, H⟩ := Option.bind_eq_some_iff.1 H
 refine ent_op (ot_call_same (Lr := []) [0, 1] [0, 1] (first := []) (cap := []) (xs := [.tmp 12, .tmp 13]) rfl rfl F_call_132 rfl (omap_Map__int64__api_Entry_place_O.spec K p0 sv0 l0 a1 _ h6) (by decide) rfl (by decide) rfl) rfl rfl rfl ?_
 rintro _ _ ⟨rfl, rfl⟩
 refine ent_value (ov_move rfl) rfl rfl rfl ?_
 refine ent_value (ov_extract rfl rfl) rfl rfl rfl ?_
 refine ent_value (ov_extract rfl rfl) rfl rfl rfl ?_
 refine ent_value (ov_assign rfl) rfl rfl rfl ?_
 refine ent_value (ov_assign rfl) rfl rfl rfl ?_
 refine ent_nil ?_
 refine ent_seq ?_
 refine ent_region ?_
 refine ent_value (ov_move rfl) rfl rfl rfl ?_
 refine ent_value (ov_move rfl) rfl rfl rfl ?_
 obtain ⟨x4, h7, H⟩ := Option.bind_eq_some_iff.1 H
 refine ent_op (ot_call_same (Lr := []) [0, 1] [0, 1] (first := []) (cap := []) (xs := [.tmp 18, .tmp 19]) rfl rfl F_call_132 rfl (omap_Map__int64__api_Entry_place_O.spec K p0 sv0 l0 a2 _ h7) (by decide) rfl (by decide) rfl) rfl rfl rfl ?_
 rintro _ _ ⟨rfl, rfl⟩
 refine ent_value (ov_move rfl) rfl rfl rfl ?_
 refine ent_value (ov_extract rfl rfl) rfl rfl rfl ?_
 refine ent_value (ov_extract rfl rfl) rfl rfl rfl ?_
 refine ent_value (ov_assign rfl) rfl rfl rfl ?_
 refine ent_value (ov_assign rfl) rfl rfl rfl ?_
 refine ent_nil ?_
 refine ent_seq ?_
 refine ent_seq ?_
 refine ent_region ?_
 refine ent_value (ov_move rfl) rfl rfl rfl ?_
 refine ent_value (ov_move rfl) rfl rfl rfl ?_
 refine ent_value (ov_bin rfl rfl (b_geq _ _ _)) rfl rfl rfl ?_
 refine ent_nil ?_
 by_cases c7 : x4.2 ≤ x3.2
 ·rw [if_pos c7] at H
  refine ent_cond_true rfl (decide_eq_true c7) ?_
  refine ent_seq ?_
  refine ent_region ?_
  obtain ⟨u5, h9, H⟩ := thn_elim H
  refine ent_op (ot_call (Lr := [(box p0 192 [sv0]), (own sv0 196 7 l0.length (fl enc_Omap_pair__int64__api_Entry l0))]) (first := []) (cap := []) (xs := [.const (slice none 0 0)]) rfl rfl F_call_140 rfl (omap_each__int64__api_Entry_N.spec _ h9) rfl) rfl rfl rfl ?_
  rintro _ _ ⟨_, ⟨b6, rfl, rfl⟩, rfl⟩
  refine ent_value (ov_assign rfl) rfl rfl rfl ?_
  refine ent_nil ?_
  refine ent_retc ?_
  cases H
  refine ent_pick [1, 2, 0] (by decide) rfl ?_
  exact ret_tmp rfl rfl ⟨_, _, (isRd_nilA _ _), rfl, rfl⟩
 ·rw [if_neg c7] at H
  refine ent_cond_false rfl (decide_eq_false c7) ?_
  refine ent_skip ?_
  refine ent_seq ?_
  refine ent_region ?_
  refine ent_value (ov_move rfl) rfl rfl rfl ?_
  refine ent_value (ov_nilCheck rfl) rfl rfl rfl ?_
  refine ent_value (ov_fieldAddr (sz := 0) (o := 0) rfl F_field_192_0 F_size_190) rfl rfl rfl ?_
  refine ent_value (ov_load (v := sv0) rfl F_agg_190 (reads_box1 (i := 0) rfl rfl)) rfl rfl rfl ?_
  refine ent_value (ov_move rfl) rfl rfl rfl ?_
  refine ent_value (ov_move rfl) rfl rfl rfl ?_
  by_cases c8 : 0 ≤ x3.2
  ·rw [if_pos c8] at H
   by_cases c9 : x3.2 ≤ x4.2
   ·rw [if_pos c9] at H
    by_cases c10 : x4.2 ≤ (l0.length : Int)
    ·rw [if_pos c10] at H
     refine ent_value (ov_slice_lohi 1 rfl rfl rfl F_slice_190 F_size_196 rfl (isRd_ownx 196) c8 c9 c10) rfl rfl rfl ?_
     obtain ⟨u6, h10, H⟩ := thn_elim H
     refine ent_pick [1, 0] (by decide) rfl ?_
     refine ent_op (ot_call (Lr := [(box p0 192 [sv0])]) (first := []) (cap := []) (xs := [.tmp 33]) rfl rfl F_call_140 rfl (omap_each__int64__api_Entry_R.spec (subs sv0 x3.2.toNat x4.2.toNat 7) (own sv0 196 7 l0.length (fl enc_Omap_pair__int64__api_Entry l0)) ((l0.drop x3.2.toNat).take (x4.2.toNat - x3.2.toNat)) (isRd_view enc_Omap_pair__int64__api_Entry_len (isRd_ownx 196) (nat_le2 c8 c9) (nat_le (Int.le_trans c8 c9) c10)) _ h10) rfl) rfl rfl rfl ?_
     rintro _ _ ⟨_, ⟨b7, rfl, rfl⟩, rfl⟩
     refine ent_value (ov_assign rfl) rfl rfl rfl ?_
     refine ent_nil ?_
     refine ent_retc ?_
     cases H
     refine ent_pick [2, 0, 1] (by decide) rfl ?_
     exact ret_tmp rfl rfl ⟨_, _, (isRd_view enc_Omap_pair__int64__api_Entry_len (isRd_ownx 196) (nat_le2 c8 c9) (nat_le (Int.le_trans c8 c9) c10)), rfl, rfl⟩
    ·rw [if_neg c10] at H
     cases H
   ·rw [if_neg c9] at H
    cases H
  ·rw [if_neg c8] at H
   cases H

set_option maxRecDepth 100000 in
theorem omap_each__int64__api_Entry_1_YR.spec (K : Nat) (yl0 : Nat) (p0 : Nat) (sv0 : Value) (A0 : HP) (Gm0 : Type) (y0 : Int → Api_Entry → Gm0 → Option (Gm0 × Bool)) (x0y : Gm0) (l0 : List Omap_pair__int64__api_Entry) (Y0 : Gm0 → HP) (hY0 : ∀ (t0_ : Int) (t1_ : Api_Entry) (z_ : Gm0) (r_ : Gm0 × Bool), y0 t0_ t1_ z_ = some r_ → YSpec Try.prog yl0 [(int .i64 t0_), (agg #[(int .i64 t1_.Part.Tier), (int .i64 t1_.Part.Index), (int .i64 t1_.Seg), (int .i64 t1_.Mark), (int .i64 t1_.Rows), (bool t1_.Cold)])] [Y0 z_] (fun v N => v = .bool r_.2 ∧ N = [Y0 r_.1])) (hA0 : IsRd A0 sv0 l0.length 7 (fl enc_Omap_pair__int64__api_Entry l0)) (r : Gm0) (H : omap_each__int64__api_Entry_1_YR K Gm0 y0 x0y l0 = some r) : FnSpec Try.prog 176 [(Value.func (.yield yl0) #[] #[]), (pt p0 0)] [(Y0 x0y), (box p0 190 [sv0]), A0] (fun v M => v = (Value.tuple #[]) ∧ M = [(Y0 r), (box p0 190 [sv0]), A0]) := by
 unfold omap_each__int64__api_Entry_1_YR at H
 refine spec_of Try.func176 rfl 19 rfl (Nat.le_of_ble_eq_true rfl) fun F w0 => ?_
 show Ent (St 19 w0 F [(0, (Value.func (.yield yl0) #[] #[])), (1, (pt p0 0))] [(Y0 x0y), (box p0 190 [sv0]), A0]) _
 refine ent_seq ?_
 refine ent_region ?_
 refine ent_value (ov_load (v := sv0) rfl F_agg_190 (reads_box1 (i := 1) rfl rfl)) rfl rfl rfl ?_
 refine ent_value (ov_len 2 rfl F_slice_190 rfl hA0) rfl rfl rfl ?_
 refine ent_value (ov_move rfl) rfl rfl rfl ?_
 refine ent_nil ?_
 refine ent_block ?_
 refine ent_loop (fun k a w => ∃ i2, ∃ l3, omap_each__int64__api_Entry_1_YR_l0 K Gm0 y0 l0 k i2 l3 = some r ∧ St 19 w0 F [(0, (Value.func (.yield yl0) #[] #[])), (5, sv0), (6, (int .i64 (l0.length : Int))), (7, (int .i64 i2))] [(Y0 l3), (box p0 190 [sv0]), A0] a w) K ?_ ?_
 ·exact ent_fin [0, 1, 2] (by decide) rfl (sub_cons (t := 0) rfl (sub_cons (t := 5) rfl (sub_cons (t := 6) rfl (sub_cons (t := 7) rfl (sub_nil _))))) fun a w h => ⟨_, _, H, h⟩
 ·refine fun k => ent_exi fun i2 => ent_exi fun l3 => ent_and fun H2 => ?_
  cases k with
  | zero => exact absurd H2 (by simp [omap_each__int64__api_Entry_1_YR_l0])
  | succ k =>
   rw [omap_each__int64__api_Entry_1_YR_l0] at H2
   refine ent_seq ?_
   refine ent_region ?_
   refine ent_value (ov_bin rfl rfl (b_lss _ _ _)) rfl rfl rfl ?_
   refine ent_nil ?_
   refine ent_seq ?_
   by_cases c28 : i2 < (l0.length : Int)
   ·rw [if_pos c28] at H2
    refine ent_cond_true rfl (decide_eq_true c28) ?_
    refine ent_skip ?_
    refine ent_seq ?_
    refine ent_block ?_
    refine ent_seq ?_
    refine ent_region ?_
    by_cases c31 : 0 ≤ i2
    ·rw [if_pos c31] at H2
     refine ent_value (ov_indexAddr (sz := 6) 2 rfl rfl F_slice_190 F_size_196 rfl hA0 c31 c28) rfl rfl rfl ?_
     refine ent_value (ov_load_agg (vs := [(int .i64 ((l0.getD i2.toNat z_Omap_pair__int64__api_Entry).k)), (int .i64 ((((l0.getD i2.toNat z_Omap_pair__int64__api_Entry).v).Part).Tier)), (int .i64 ((((l0.getD i2.toNat z_Omap_pair__int64__api_Entry).v).Part).Index)), (int .i64 (((l0.getD i2.toNat z_Omap_pair__int64__api_Entry).v).Seg)), (int .i64 (((l0.getD i2.toNat z_Omap_pair__int64__api_Entry).v).Mark)), (int .i64 (((l0.getD i2.toNat z_Omap_pair__int64__api_Entry).v).Rows)), (bool (((l0.getD i2.toNat z_Omap_pair__int64__api_Entry).v).Cold))]) rfl F_agg_196 F_size_196 (reads_rd (i := 2) rfl hA0 (by simp) (fl_read0 enc_Omap_pair__int64__api_Entry_len (ix_lt c31 c28) rfl))) rfl rfl rfl ?_
     refine ent_op (ot_alloc F_zero_196) rfl rfl rfl ?_
     rintro _ _ ⟨b12, rfl, rfl⟩
     refine ent_op0 (ot_storeG (cs := [(int .i64 0), (int .i64 0), (int .i64 0), (int .i64 0), (int .i64 0), (int .i64 0), (bool false)]) (cs' := [(int .i64 ((l0.getD i2.toNat z_Omap_pair__int64__api_Entry).k)), (int .i64 ((((l0.getD i2.toNat z_Omap_pair__int64__api_Entry).v).Part).Tier)), (int .i64 ((((l0.getD i2.toNat z_Omap_pair__int64__api_Entry).v).Part).Index)), (int .i64 (((l0.getD i2.toNat z_Omap_pair__int64__api_Entry).v).Seg)), (int .i64 (((l0.getD i2.toNat z_Omap_pair__int64__api_Entry).v).Mark)), (int .i64 (((l0.getD i2.toNat z_Omap_pair__int64__api_Entry).v).Rows)), (bool (((l0.getD i2.toNat z_Omap_pair__int64__api_Entry).v).Cold))]) (us := [(int .i64 ((l0.getD i2.toNat z_Omap_pair__int64__api_Entry).k)), (int .i64 ((((l0.getD i2.toNat z_Omap_pair__int64__api_Entry).v).Part).Tier)), (int .i64 ((((l0.getD i2.toNat z_Omap_pair__int64__api_Entry).v).Part).Index)), (int .i64 (((l0.getD i2.toNat z_Omap_pair__int64__api_Entry).v).Seg)), (int .i64 (((l0.getD i2.toNat z_Omap_pair__int64__api_Entry).v).Mark)), (int .i64 (((l0.getD i2.toNat z_Omap_pair__int64__api_Entry).v).Rows)), (bool (((l0.getD i2.toNat z_Omap_pair__int64__api_Entry).v).Cold))]) (L' := [(box b12 196 [(int .i64 ((l0.getD i2.toNat z_Omap_pair__int64__api_Entry).k)), (int .i64 ((((l0.getD i2.toNat z_Omap_pair__int64__api_Entry).v).Part).Tier)), (int .i64 ((((l0.getD i2.toNat z_Omap_pair__int64__api_Entry).v).Part).Index)), (int .i64 (((l0.getD i2.toNat z_Omap_pair__int64__api_Entry).v).Seg)), (int .i64 (((l0.getD i2.toNat z_Omap_pair__int64__api_Entry).v).Mark)), (int .i64 (((l0.getD i2.toNat z_Omap_pair__int64__api_Entry).v).Rows)), (bool (((l0.getD i2.toNat z_Omap_pair__int64__api_Entry).v).Cold))]), (Y0 l3), (box p0 190 [sv0]), A0]) 0 rfl rfl rfl (one_all rfl) F_size_196 rfl rfl (by simp) rfl) rfl rfl ?_
     rintro _ _ rfl
     refine ent_nil ?_
     refine ent_seq ?_
     refine ent_region ?_
     refine ent_value (ov_move rfl) rfl rfl rfl ?_
     refine ent_value (ov_fieldAddr (sz := 0) (o := 0) rfl F_field_196_0 F_size_2) rfl rfl rfl ?_
     refine ent_value (ov_load (v := (int .i64 ((l0.getD i2.toNat z_Omap_pair__int64__api_Entry).k))) rfl F_agg_2 (reads_box1 (i := 0) rfl rfl)) rfl rfl rfl ?_
     refine ent_value (ov_fieldAddr (sz := 5) (o := 0) rfl F_field_196_1 F_size_65) rfl rfl rfl ?_
     refine ent_value (ov_load_agg (vs := [(int .i64 ((((l0.getD i2.toNat z_Omap_pair__int64__api_Entry).v).Part).Tier)), (int .i64 ((((l0.getD i2.toNat z_Omap_pair__int64__api_Entry).v).Part).Index)), (int .i64 (((l0.getD i2.toNat z_Omap_pair__int64__api_Entry).v).Seg)), (int .i64 (((l0.getD i2.toNat z_Omap_pair__int64__api_Entry).v).Mark)), (int .i64 (((l0.getD i2.toNat z_Omap_pair__int64__api_Entry).v).Rows)), (bool (((l0.getD i2.toNat z_Omap_pair__int64__api_Entry).v).Cold))]) rfl F_agg_65 F_size_65 (reads_boxN (i := 0) rfl rfl)) rfl rfl rfl ?_
     obtain ⟨x12, h12, H2⟩ := Option.bind_eq_some_iff.1 H2
     refine ent_pick [1, 0, 2, 3] (by decide) rfl ?_
     refine ent_opI (oi_yield (vs := [(int .i64 ((l0.getD i2.toNat z_Omap_pair__int64__api_Entry).k)), (agg #[(int .i64 ((((l0.getD i2.toNat z_Omap_pair__int64__api_Entry).v).Part).Tier)), (int .i64 ((((l0.getD i2.toNat z_Omap_pair__int64__api_Entry).v).Part).Index)), (int .i64 (((l0.getD i2.toNat z_Omap_pair__int64__api_Entry).v).Seg)), (int .i64 (((l0.getD i2.toNat z_Omap_pair__int64__api_Entry).v).Mark)), (int .i64 (((l0.getD i2.toNat z_Omap_pair__int64__api_Entry).v).Rows)), (bool (((l0.getD i2.toNat z_Omap_pair__int64__api_Entry).v).Cold))])]) (Lp := [(Y0 l3)]) (Lr := [(box b12 196 [(int .i64 ((l0.getD i2.toNat z_Omap_pair__int64__api_Entry).k)), (int .i64 ((((l0.getD i2.toNat z_Omap_pair__int64__api_Entry).v).Part).Tier)), (int .i64 ((((l0.getD i2.toNat z_Omap_pair__int64__api_Entry).v).Part).Index)), (int .i64 (((l0.getD i2.toNat z_Omap_pair__int64__api_Entry).v).Seg)), (int .i64 (((l0.getD i2.toNat z_Omap_pair__int64__api_Entry).v).Mark)), (int .i64 (((l0.getD i2.toNat z_Omap_pair__int64__api_Entry).v).Rows)), (bool (((l0.getD i2.toNat z_Omap_pair__int64__api_Entry).v).Cold))]), (box p0 190 [sv0]), A0]) rfl rfl (hY0 _ _ _ _ h12) rfl) rfl rfl rfl ?_
     rintro _ _ ⟨_, ⟨rfl, rfl⟩, rfl⟩
     refine ent_value (ov_un rfl (u_not _)) rfl rfl rfl ?_
     refine ent_nil ?_
     by_cases c32 : (!x12.2) = true
     ·rw [if_pos c32] at H2
      refine ent_cond_true rfl c32 ?_
      refine ent_retc ?_
      cases H2
      refine ent_pick [0, 2, 3] (by decide) rfl ?_
      exact ret_none rfl ⟨rfl, rfl⟩
     ·rw [if_neg c32] at H2
      refine ent_cond_false rfl (Bool.eq_false_iff.2 c32) ?_
      refine ent_skip ?_
      refine ent_region ?_
      refine ent_value (ov_bin rfl rfl (b_add _ _ _) ) rfl rfl rfl ?_
      refine ent_value (ov_move rfl) rfl rfl rfl ?_
      refine ent_nil ?_
      exact ent_fin [0, 2, 3] (by decide) rfl (sub_cons (t := 0) rfl (sub_cons (t := 5) rfl (sub_cons (t := 6) rfl (sub_cons (t := 7) rfl (sub_nil _))))) fun a w h => ⟨k, Nat.lt_succ_self k, _, _, H2, h⟩
    ·rw [if_neg c31] at H2
     cases H2
   ·rw [if_neg c28] at H2
    refine ent_cond_false rfl (decide_eq_false c28) ?_
    refine ent_exit ?_
    cases H2
    refine ret_normal ?_
    refine ent_pick [0, 1, 2] (by decide) rfl ?_
    exact ret_none rfl ⟨rfl, rfl⟩

set_option maxRecDepth 100000 in
theorem catalog_Catalog_Over_O.spec (K : Nat) (p0 : Nat) (p1 : Nat) (sv0 : Value) (l0 : List Omap_pair__int64__api_Entry) (a1 : Int) (a2 : Int) (r : List Api_Entry) (H : catalog_Catalog_Over_O K l0 a1 a2 = some r) : FnSpec Try.prog 36 [(pt p0 0), (int .i64 a1), (int .i64 a2)] [(box p0 139 [(pt p1 0)]), (box p1 192 [sv0]), (own sv0 196 7 l0.length (fl enc_Omap_pair__int64__api_Entry l0))] (fun v M => ∃ sv23 : Value, v = sv23 ∧ M = [(box p0 139 [(pt p1 0)]), (box p1 192 [sv0]), (own sv0 196 7 l0.length (fl enc_Omap_pair__int64__api_Entry l0)), (own sv23 65 6 r.length (fl enc_Api_Entry r))]) := by
 unfold catalog_Catalog_Over_O at H
 refine spec_of Try.func36 rfl 46 rfl (Nat.le_of_ble_eq_true rfl) fun F w0 => ?_
 show Ent (St 46 w0 F [(0, (pt p0 0)), (1, (int .i64 a1)), (2, (int .i64 a2))] [(box p0 139 [(pt p1 0)]), (box p1 192 [sv0]), (own sv0 196 7 l0.length (fl enc_Omap_pair__int64__api_Entry l0))]) _
 refine ent_seq ?_
 refine ent_region ?_
 refine ent_op (ot_box (cs := [(int .i64 a1)]) rfl rfl) rfl rfl rfl ?_
 rintro _ _ ⟨b20, rfl, rfl⟩
 refine ent_op (ot_alloc F_zero_53) rfl rfl rfl ?_
 rintro _ _ ⟨b21, rfl, rfl⟩
 refine ent_nil ?_
 refine ent_scope ?_
 refine ent_seq ?_
 refine ent_seq ?_
 refine ent_region ?_
 refine ent_value (ov_move rfl) rfl rfl rfl ?_
 refine ent_value (ov_bin rfl rfl (b_eql_of (fun w => rfl) rfl (eq_pn Try.underlying51 _ _))) rfl rfl rfl ?_
 refine ent_value (ov_move rfl) rfl rfl rfl ?_
 refine ent_value_on (ov_load (v := (int .i64 a1)) rfl F_agg_2 (reads_box1 (i := 1) rfl rfl)) rfl rfl rfl rfl rfl rfl ?_
 refine ent_value_on (ov_move rfl) rfl rfl rfl rfl rfl rfl ?_
 refine ent_value_on (ov_bin rfl rfl (b_geq _ _ _)) rfl rfl rfl rfl rfl rfl ?_
 refine ent_value (ov_pick rfl rfl rfl rfl) rfl rfl rfl ?_
 refine ent_nil ?_
 by_cases c26 : a2 ≤ a1
 ·rw [if_pos c26] at H
  refine ent_cond_true rfl (decide_eq_true c26) ?_
  refine ent_seq ?_
  refine ent_region ?_
  refine ent_op0 (ot_storeG (cs := [(slice none 0 0)]) (cs' := [(slice none 0 0)]) (us := [(slice none 0 0)]) (L' := [(box b21 53 [(slice none 0 0)]), (box b20 2 [(int .i64 a1)]), (box p0 139 [(pt p1 0)]), (box p1 192 [sv0]), (own sv0 196 7 l0.length (fl enc_Omap_pair__int64__api_Entry l0))]) 0 rfl rfl rfl (one_all rfl) F_size_53 rfl rfl (by simp) rfl) rfl rfl ?_
  rintro _ _ rfl
  refine ent_nil ?_
  refine ent_retc ?_
  first | (have e_ := Option.some.inj (show some _ = some _ from H); subst e_) | subst H
  refine ent_ownnil 65 6 ?_
  exact ret_memp [3, 4, 5, 0] (by decide) rfl (vs := [(slice none 0 0)]) rfl ⟨⟨_, [(slice none 0 0)], rfl, reads_box1 (i := 1) rfl rfl, .inr ⟨F_agg_53, rfl⟩⟩, trivial⟩ _ rfl ⟨_, rfl, rfl⟩
 ·rw [if_neg c26] at H
  refine ent_cond_false rfl (decide_eq_false c26) ?_
  refine ent_skip ?_
  obtain ⟨x10, H2, H⟩ := Option.bind_eq_some_iff.1 H
  refine ent_seq_cut (fun a w => ∃ sv26 : Value, ∃ b23 : Nat, ∃ b24 : Nat, St 46 w0 F [(0, (pt p0 0)), (2, (int .i64 a2)), (4, (pt b23 0)), (6, (pt b24 0))] [(box p0 139 [(pt p1 0)]), (box p1 192 [sv0]), (own sv0 196 7 l0.length (fl enc_Omap_pair__int64__api_Entry l0)), (box b23 2 [(int .i64 a1)]), (box b24 53 [sv26]), (own sv26 65 6 x10.length (fl enc_Api_Entry x10))] a w) ?_ ?_
  ·refine ent_seq ?_
   refine ent_region ?_
   refine ent_value (ov_move rfl) rfl rfl rfl ?_
   refine ent_value (ov_load (v := (int .i64 a1)) rfl F_agg_2 (reads_box1 (i := 1) rfl rfl)) rfl rfl rfl ?_
   obtain ⟨x11, h9, H2⟩ := Option.bind_eq_some_iff.1 H2
   refine ent_op (ot_call_same (Lr := [(box b21 53 [(slice none 0 0)]), (box b20 2 [(int .i64 a1)])]) [2, 3, 4, 0, 1] [3, 4, 0, 1, 2] (first := []) (cap := []) (xs := [.tmp 19, .tmp 20]) rfl rfl F_call_28 rfl (catalog_Catalog_At_O.spec K p0 p1 sv0 l0 a1 _ h9) (by decide) rfl (by decide) rfl) rfl rfl rfl ?_
   rintro _ _ ⟨rfl, rfl⟩
   refine ent_value (ov_move rfl) rfl rfl rfl ?_
   refine ent_value (ov_extract rfl rfl) rfl rfl rfl ?_
   refine ent_value (ov_extract rfl rfl) rfl rfl rfl ?_
   refine ent_op (ot_alloc F_zero_65) rfl rfl rfl ?_
   rintro _ _ ⟨b25, rfl, rfl⟩
   refine ent_op0 (ot_storeG (cs := [(int .i64 0), (int .i64 0), (int .i64 0), (int .i64 0), (int .i64 0), (bool false)]) (cs' := [(int .i64 x11.1), (int .i64 x11.2.1), (int .i64 x11.2.2.1), (int .i64 x11.2.2.2.1), (int .i64 x11.2.2.2.2.1), (bool x11.2.2.2.2.2.1)]) (us := [(int .i64 x11.1), (int .i64 x11.2.1), (int .i64 x11.2.2.1), (int .i64 x11.2.2.2.1), (int .i64 x11.2.2.2.2.1), (bool x11.2.2.2.2.2.1)]) (L' := [(box b25 65 [(int .i64 x11.1), (int .i64 x11.2.1), (int .i64 x11.2.2.1), (int .i64 x11.2.2.2.1), (int .i64 x11.2.2.2.2.1), (bool x11.2.2.2.2.2.1)]), (box b21 53 [(slice none 0 0)]), (box b20 2 [(int .i64 a1)]), (box p0 139 [(pt p1 0)]), (box p1 192 [sv0]), (own sv0 196 7 l0.length (fl enc_Omap_pair__int64__api_Entry l0))]) 0 rfl rfl rfl (one_all rfl) F_size_65 rfl rfl (by simp) rfl) rfl rfl ?_
   rintro _ _ rfl
   refine ent_value (ov_assign rfl) rfl rfl rfl ?_
   refine ent_nil ?_
   refine ent_seq ?_
   refine ent_region ?_
   refine ent_value (ov_move rfl) rfl rfl rfl ?_
   refine ent_nil ?_
   by_cases c29 : x11.2.2.2.2.2.2 = true
   ·rw [if_pos c29] at H2
    refine ent_cond_true rfl c29 ?_
    refine ent_region ?_
    refine ent_value (ov_load (v := (slice none 0 0)) rfl F_agg_53 (reads_box1 (i := 1) rfl rfl)) rfl rfl rfl ?_
    refine ent_value (ov_load_agg (vs := [(int .i64 x11.1), (int .i64 x11.2.1), (int .i64 x11.2.2.1), (int .i64 x11.2.2.2.1), (int .i64 x11.2.2.2.2.1), (bool x11.2.2.2.2.2.1)]) rfl F_agg_65 F_size_65 (reads_boxW (i := 0) rfl)) rfl rfl rfl ?_
    refine ent_op (ot_buildSlice (sz := 5) (xs := [.tmp 26]) (cs := fl enc_Api_Entry [(⟨(⟨x11.1, x11.2.1⟩ : Api_Part), x11.2.2.1, x11.2.2.2.1, x11.2.2.2.2.1, x11.2.2.2.2.2.1⟩ : Api_Entry)]) rfl rfl F_slice_53 F_size_65 F_zero_65 rfl rfl (all_size rfl) rfl (by decide)) rfl rfl rfl ?_
    rintro sv27 _ rfl
    refine ent_ownnil 65 6 ?_
    by_cases c30 : (([] : List Api_Entry).length + [(⟨(⟨x11.1, x11.2.1⟩ : Api_Part), x11.2.2.1, x11.2.2.2.1, x11.2.2.2.2.1, x11.2.2.2.2.2.1⟩ : Api_Entry)].length) * 48 ≤ 140737488355328
    ·rw [if_pos c30] at H2
     refine ent_op (ot_appendx (sz := 5) (xs := ([] : List Api_Entry)) (ys := [(⟨(⟨x11.1, x11.2.1⟩ : Api_Part), x11.2.2.1, x11.2.2.2.1, x11.2.2.2.2.1, x11.2.2.2.2.2.1⟩ : Api_Entry)]) 0 1 rfl rfl F_slice_53 F_size_65 F_zero_65 rfl F_bytes_65 rfl rfl rfl (isRd_ownx 65) rfl enc_Api_Entry_one c30) rfl rfl rfl ?_
     rintro sv28 _ rfl
     refine ent_L [(own sv28 65 6 (([] : List Api_Entry) ++ [(⟨(⟨x11.1, x11.2.1⟩ : Api_Part), x11.2.2.1, x11.2.2.2.1, x11.2.2.2.2.1, x11.2.2.2.2.2.1⟩ : Api_Entry)]).length (fl enc_Api_Entry (([] : List Api_Entry) ++ [(⟨(⟨x11.1, x11.2.1⟩ : Api_Part), x11.2.2.1, x11.2.2.2.1, x11.2.2.2.2.1, x11.2.2.2.2.2.1⟩ : Api_Entry)]))), (own sv27 65 6 [(⟨(⟨x11.1, x11.2.1⟩ : Api_Part), x11.2.2.1, x11.2.2.2.1, x11.2.2.2.2.1, x11.2.2.2.2.2.1⟩ : Api_Entry)].length (fl enc_Api_Entry [(⟨(⟨x11.1, x11.2.1⟩ : Api_Part), x11.2.2.1, x11.2.2.2.1, x11.2.2.2.2.1, x11.2.2.2.2.2.1⟩ : Api_Entry)])), (box b25 65 [(int .i64 x11.1), (int .i64 x11.2.1), (int .i64 x11.2.2.1), (int .i64 x11.2.2.2.1), (int .i64 x11.2.2.2.2.1), (bool x11.2.2.2.2.2.1)]), (box b21 53 [(slice none 0 0)]), (box b20 2 [(int .i64 a1)]), (box p0 139 [(pt p1 0)]), (box p1 192 [sv0]), (own sv0 196 7 l0.length (fl enc_Omap_pair__int64__api_Entry l0))] rfl ?_
     refine ent_op0 (ot_storeS (cs := [(slice none 0 0)]) (cs' := [sv28]) (sv := sv28) (L' := [(own sv28 65 6 (([] : List Api_Entry) ++ [(⟨(⟨x11.1, x11.2.1⟩ : Api_Part), x11.2.2.1, x11.2.2.2.1, x11.2.2.2.2.1, x11.2.2.2.2.2.1⟩ : Api_Entry)]).length (fl enc_Api_Entry (([] : List Api_Entry) ++ [(⟨(⟨x11.1, x11.2.1⟩ : Api_Part), x11.2.2.1, x11.2.2.2.1, x11.2.2.2.2.1, x11.2.2.2.2.2.1⟩ : Api_Entry)]))), (own sv27 65 6 [(⟨(⟨x11.1, x11.2.1⟩ : Api_Part), x11.2.2.1, x11.2.2.2.1, x11.2.2.2.2.1, x11.2.2.2.2.2.1⟩ : Api_Entry)].length (fl enc_Api_Entry [(⟨(⟨x11.1, x11.2.1⟩ : Api_Part), x11.2.2.1, x11.2.2.2.1, x11.2.2.2.2.1, x11.2.2.2.2.2.1⟩ : Api_Entry)])), (box b25 65 [(int .i64 x11.1), (int .i64 x11.2.1), (int .i64 x11.2.2.1), (int .i64 x11.2.2.2.1), (int .i64 x11.2.2.2.2.1), (bool x11.2.2.2.2.2.1)]), (box b21 53 [sv28]), (box b20 2 [(int .i64 a1)]), (box p0 139 [(pt p1 0)]), (box p1 192 [sv0]), (own sv0 196 7 l0.length (fl enc_Omap_pair__int64__api_Entry l0))]) 3 0 rfl rfl F_size_53 rfl rfl (isRd_ownx 65) rfl (by simp) rfl) rfl rfl ?_
     rintro _ _ rfl
     refine ent_nil ?_
     cases H2
     exact ent_fin [5, 6, 7, 4, 3, 0] (by decide) rfl (sub_cons (t := 0) rfl (sub_cons (t := 2) rfl (sub_cons (t := 4) rfl (sub_cons (t := 6) rfl (sub_nil _))))) fun a w h => ⟨_, _, _, h⟩
    ·rw [if_neg c30] at H2
     cases H2
   ·rw [if_neg c29] at H2
    refine ent_cond_false rfl (Bool.eq_false_iff.2 c29) ?_
    refine ent_skip ?_
    cases H2
    refine ent_ownnil 65 6 ?_
    exact ent_fin [4, 5, 6, 3, 2, 0] (by decide) rfl (sub_cons (t := 0) rfl (sub_cons (t := 2) rfl (sub_cons (t := 4) rfl (sub_cons (t := 6) rfl (sub_nil _))))) fun a w h => ⟨_, _, _, h⟩
  ·refine ent_exi fun sv26 => ent_exi fun b23 => ent_exi fun b24 => ?_
   refine ent_seq ?_
   refine ent_label ?_
   refine ent_seq ?_
   refine ent_seq ?_
   obtain ⟨x14, h12, H⟩ := Option.bind_eq_some_iff.1 H
   let Z4_A : (Nat → Bool) → Act → World → Prop := (fun done a w => StD 46 w0 F [(0, (pt p0 0)), (2, (int .i64 a2)), (4, (pt b23 0)), (6, (pt b24 0))] [(0, 29, (pt p0 0)), (1, 30, (pt p0 0)), (2, 31, (pt p0 0)), (3, 32, (pt p1 0)), (4, 33, (int .i64 a1)), (5, 34, (int .i64 a2))] done [(box p0 139 [(pt p1 0)]), (box p1 192 [sv0]), (own sv0 196 7 l0.length (fl enc_Omap_pair__int64__api_Entry l0)), (box b23 2 [(int .i64 a1)]), (box b24 53 [sv26]), (own sv26 65 6 x10.length (fl enc_Api_Entry x10))] a w)
   let Z4_B : Act → World → Prop := (fun a w => ∃ b32 : Nat, ∃ sv37 : Value, IsRd (own sv0 196 7 l0.length (fl enc_Omap_pair__int64__api_Entry l0)) sv37 x14.length 7 (fl enc_Omap_pair__int64__api_Entry x14) ∧ St 46 w0 F [(0, (pt p0 0)), (2, (int .i64 a2)), (4, (pt b23 0)), (6, (pt b24 0)), (29, (pt p0 0)), (30, (pt p0 0)), (31, (pt p0 0)), (32, (pt p1 0)), (33, (int .i64 a1)), (34, (int .i64 a2)), (35, (Value.func (.func 176) #[] #[(pt b32 0)]))] [(box p1 192 [sv0]), (own sv0 196 7 l0.length (fl enc_Omap_pair__int64__api_Entry l0)), (box b32 190 [sv37]), (box p0 139 [(pt p1 0)]), (box b23 2 [(int .i64 a1)]), (box b24 53 [sv26]), (own sv26 65 6 x10.length (fl enc_Api_Entry x10))] a w)
   refine ent_drawm 7 rfl (two 6 Z4_A Z4_B) (by kernel_rfl) (by kernel_rfl) (two_start (draw_startL (sub_cons (t := 0) rfl (sub_cons (t := 2) rfl (sub_cons (t := 4) rfl (sub_cons (t := 6) rfl (sub_nil _))))) rfl)) ?_ ?_
   ·refine ⟨?_, ?_, ?_, ?_, ?_, ?_, ?_, trivial⟩
    ·intro done hi hc hcu
     have n1 : done 1 = false := notdone_of (m := 1) hc hi rfl rfl
     have n2 : done 2 = false := notdone_of (m := 2) hc n1 rfl rfl
     have n3 : done 3 = false := notdone_of (m := 3) hc n2 rfl rfl
     have n6 : done 6 = false := notdone_of (m := 6) hc n3 rfl rfl
     refine two_step (m := 6) (A := Z4_A) n6 rfl ?_
     exact draw_value (i := 0) (t := 29) (v := (pt p0 0)) rfl rfl (wanted_none rfl) (fun a => hasA_base) (ov_move rfl) rfl rfl (onlyT_spec (k0 := 0) rfl rfl rfl)
    ·intro done hi hc hcu
     have n2 : done 2 = false := notdone_of (m := 2) hc hi rfl rfl
     have n3 : done 3 = false := notdone_of (m := 3) hc n2 rfl rfl
     have n6 : done 6 = false := notdone_of (m := 6) hc n3 rfl rfl
     refine two_step (m := 6) (A := Z4_A) n6 rfl ?_
     have d0 : done 0 = true := done_of (j := 0) hcu rfl (by decide) rfl
     exact draw_value (i := 1) (t := 30) (v := (pt p0 0)) rfl rfl (wanted_none rfl) (fun a => (hasA_cons (k := 0) rfl d0 hasA_base)) (ov_nilCheck rfl) rfl rfl (onlyT_spec (k0 := 1) rfl rfl rfl)
    ·intro done hi hc hcu
     have n3 : done 3 = false := notdone_of (m := 3) hc hi rfl rfl
     have n6 : done 6 = false := notdone_of (m := 6) hc n3 rfl rfl
     refine two_step (m := 6) (A := Z4_A) n6 rfl ?_
     have d1 : done 1 = true := done_of (j := 1) hcu rfl (by decide) rfl
     exact draw_value (i := 2) (t := 31) (v := (pt p0 0)) rfl rfl (wanted_none rfl) (fun a => (hasA_cons (k := 1) rfl d1 hasA_base)) (ov_fieldAddr (sz := 0) (o := 0) rfl F_field_139_0 F_size_136) rfl rfl (onlyT_spec (k0 := 2) rfl rfl rfl)
    ·intro done hi hc hcu
     have n6 : done 6 = false := notdone_of (m := 6) hc hi rfl rfl
     refine two_step (m := 6) (A := Z4_A) n6 rfl ?_
     have d2 : done 2 = true := done_of (j := 2) hcu rfl (by decide) rfl
     exact draw_value (i := 3) (t := 32) (v := (pt p1 0)) rfl rfl (wanted_none rfl) (fun a => (hasA_cons (k := 2) rfl d2 hasA_base)) (ov_load (v := (pt p1 0)) rfl F_agg_136 (reads_box1 (i := 0) rfl rfl)) rfl rfl (onlyT_spec (k0 := 3) rfl rfl rfl)
    ·intro done hi hc hcu
     have n6 : done 6 = false := notdone_of (m := 6) hc hi rfl rfl
     refine two_step (m := 6) (A := Z4_A) n6 rfl ?_
     exact draw_value (i := 4) (t := 33) (v := (int .i64 a1)) rfl rfl (wanted_none rfl) (fun a => hasA_base) (ov_load (v := (int .i64 a1)) rfl F_agg_2 (reads_box1 (i := 3) rfl rfl)) rfl rfl (onlyT_spec (k0 := 4) rfl rfl rfl)
    ·intro done hi hc hcu
     have n6 : done 6 = false := notdone_of (m := 6) hc hi rfl rfl
     refine two_step (m := 6) (A := Z4_A) n6 rfl ?_
     exact draw_value (i := 5) (t := 34) (v := (int .i64 a2)) rfl rfl (wanted_none rfl) (fun a => hasA_base) (ov_move rfl) rfl rfl (onlyT_spec (k0 := 5) rfl rfl rfl)
    ·intro done hi hc hcu
     refine two_last (m := 6) (A := Z4_A) (B := Z4_B) hi ?_
     have d3 : done 3 = true := done_of (j := 3) hcu rfl (by decide) rfl
     have d4 : done 4 = true := done_of (j := 4) hcu rfl (by decide) rfl
     have d5 : done 5 = true := done_of (j := 5) hcu rfl (by decide) rfl
     have d2 : done 2 = true := done_step (i := 3) (j := 2) hc d3 rfl rfl
     have d1 : done 1 = true := done_step (i := 2) (j := 1) hc d2 rfl rfl
     have d0 : done 0 = true := done_step (i := 1) (j := 0) hc d1 rfl rfl
     refine draw_endL [(box p0 139 [(pt p1 0)]), (box p1 192 [sv0]), (own sv0 196 7 l0.length (fl enc_Omap_pair__int64__api_Entry l0)), (box b23 2 [(int .i64 a1)]), (box b24 53 [sv26]), (own sv26 65 6 x10.length (fl enc_Api_Entry x10))] rfl (fun a => (hasA_cons (k := 0) rfl d0 (hasA_cons (k := 1) rfl d1 (hasA_cons (k := 2) rfl d2 (hasA_cons (k := 3) rfl d3 (hasA_cons (k := 4) rfl d4 (hasA_cons (k := 5) rfl d5 hasA_base))))))) ?_
     refine ent_pick [1, 2, 0, 3, 4, 5] (by decide) rfl ?_
     refine last_op rfl rfl rfl rfl (ot_call (Lr := [(box p0 139 [(pt p1 0)]), (box b23 2 [(int .i64 a1)]), (box b24 53 [sv26]), (own sv26 65 6 x10.length (fl enc_Api_Entry x10))]) (first := []) (cap := []) (xs := [.tmp 32, .tmp 33, .tmp 34]) rfl rfl F_call_96 rfl (omap_Map__int64__api_Entry_Range_O.spec K p1 sv0 l0 a1 a2 _ h12) rfl) ?_
     rintro _ _ ⟨_, ⟨b32, sv37, hr5, rfl, rfl⟩, rfl⟩
     exact ent_fin [0, 1, 2, 3, 4, 5, 6] (by decide) rfl (sub_cons (t := 0) rfl (sub_cons (t := 2) rfl (sub_cons (t := 4) rfl (sub_cons (t := 6) rfl (sub_cons (t := 29) rfl (sub_cons (t := 30) rfl (sub_cons (t := 31) rfl (sub_cons (t := 32) rfl (sub_cons (t := 33) rfl (sub_cons (t := 34) rfl (sub_cons (t := 35) rfl (sub_nil _)))))))))))) fun a w h => ⟨_, _, hr5, h⟩
   ·intro done hall
    refine two_end (A := Z4_A) (B := Z4_B) (hall 6 (by decide)) ?_
    refine ent_exi fun b32 => ent_exi fun sv37 => ent_and fun hr5 => ?_
    refine ent_block ?_
    obtain ⟨x15, h13, H⟩ := Option.bind_eq_some_iff.1 H
    refine ent_rangeY (γ := List Api_Entry) (cap := [(pt b32 0)]) (Lg := [(box b32 190 [sv37]), (own sv0 196 7 l0.length (fl enc_Omap_pair__int64__api_Entry l0))]) (M0 := [(box p0 139 [(pt p1 0)]), (box b23 2 [(int .i64 a1)]), (box b24 53 [sv26]), (own sv26 65 6 x10.length (fl enc_Api_Entry x10)), (box p1 192 [sv0])]) (x0 := x10) (x1 := x15) (fun (z4 : List Api_Entry) M => ∃ sv40 : Value, M = [(box p0 139 [(pt p1 0)]), (box b23 2 [(int .i64 a1)]), (box b24 53 [sv40]), (own sv40 65 6 z4.length (fl enc_Api_Entry z4)), (box p1 192 [sv0])]) (fun vs z_ r_ => ∃ t0_ : Int, ∃ t1_ : Api_Entry, vs = [(int .i64 t0_), (agg #[(int .i64 t1_.Part.Tier), (int .i64 t1_.Part.Index), (int .i64 t1_.Seg), (int .i64 t1_.Mark), (int .i64 t1_.Rows), (bool t1_.Cold)])] ∧ catalog_Catalog_Over_O_r0 K a1 t0_ t1_ z_ = some r_) [2, 1, 3, 4, 5, 6, 0] rfl rfl (by decide) rfl (by decide) ⟨_, rfl⟩ ?_ ?_ ?_
    ·rintro l _ z4 r _ ⟨t0_, t1_, rfl, Hl⟩ ⟨sv40, rfl⟩
     unfold catalog_Catalog_Over_O_r0 at Hl
     refine ⟨rfl, Nat, fun g_ => [(4, (pt b23 0)), (6, (pt b24 0)), (9, (int .i64 t0_)), (10, (pt g_ 0)), (36, (int .i64 t0_)), (37, (agg #[(int .i64 t1_.Part.Tier), (int .i64 t1_.Part.Index), (int .i64 t1_.Seg), (int .i64 t1_.Mark), (int .i64 t1_.Rows), (bool t1_.Cold)]))], fun g_ => [(box g_ 65 [(int .i64 t1_.Part.Tier), (int .i64 t1_.Part.Index), (int .i64 t1_.Seg), (int .i64 t1_.Mark), (int .i64 t1_.Rows), (bool t1_.Cold)]), (box p0 139 [(pt p1 0)]), (box b23 2 [(int .i64 a1)]), (box b24 53 [sv40]), (own sv40 65 6 z4.length (fl enc_Api_Entry z4)), (box p1 192 [sv0])], fun F w0 => ?_, ?_⟩
     ·refine ent_seq ?_
      refine ent_region ?_
      refine ent_value (ov_assign rfl) rfl rfl rfl ?_
      refine ent_nil ?_
      refine ent_region ?_
      refine ent_op (ot_alloc F_zero_65) rfl rfl rfl ?_
      rintro _ _ ⟨b37, rfl, rfl⟩
      refine ent_op0 (ot_storeG (cs := [(int .i64 0), (int .i64 0), (int .i64 0), (int .i64 0), (int .i64 0), (bool false)]) (cs' := [(int .i64 t1_.Part.Tier), (int .i64 t1_.Part.Index), (int .i64 t1_.Seg), (int .i64 t1_.Mark), (int .i64 t1_.Rows), (bool t1_.Cold)]) (us := [(int .i64 t1_.Part.Tier), (int .i64 t1_.Part.Index), (int .i64 t1_.Seg), (int .i64 t1_.Mark), (int .i64 t1_.Rows), (bool t1_.Cold)]) (L' := [(box b37 65 [(int .i64 t1_.Part.Tier), (int .i64 t1_.Part.Index), (int .i64 t1_.Seg), (int .i64 t1_.Mark), (int .i64 t1_.Rows), (bool t1_.Cold)]), (box p0 139 [(pt p1 0)]), (box b23 2 [(int .i64 a1)]), (box b24 53 [sv40]), (own sv40 65 6 z4.length (fl enc_Api_Entry z4)), (box p1 192 [sv0])]) 0 rfl rfl rfl (one_all rfl) F_size_65 rfl rfl (by simp) rfl) rfl rfl ?_
      rintro _ _ rfl
      refine ent_nil ?_
      exact ent_fin [0, 1, 2, 3, 4, 5] (by decide) rfl (sub_cons (t := 4) rfl (sub_cons (t := 6) rfl (sub_cons (t := 9) rfl (sub_cons (t := 10) rfl (sub_cons (t := 36) rfl (sub_cons (t := 37) rfl (sub_nil _))))))) fun a w h => ⟨b37, h⟩
     ·rintro b37 F w0
      show Ent (St 46 w0 F [(4, (pt b23 0)), (6, (pt b24 0)), (9, (int .i64 t0_)), (10, (pt b37 0)), (36, (int .i64 t0_)), (37, (agg #[(int .i64 t1_.Part.Tier), (int .i64 t1_.Part.Index), (int .i64 t1_.Seg), (int .i64 t1_.Mark), (int .i64 t1_.Rows), (bool t1_.Cold)]))] [(box b37 65 [(int .i64 t1_.Part.Tier), (int .i64 t1_.Part.Index), (int .i64 t1_.Seg), (int .i64 t1_.Mark), (int .i64 t1_.Rows), (bool t1_.Cold)]), (box p0 139 [(pt p1 0)]), (box b23 2 [(int .i64 a1)]), (box b24 53 [sv40]), (own sv40 65 6 z4.length (fl enc_Api_Entry z4)), (box p1 192 [sv0])]) _
      refine ent_block ?_
      refine ent_seq ?_
      refine ent_seq ?_
      refine ent_region ?_
      refine ent_value (ov_move rfl) rfl rfl rfl ?_
      refine ent_value (ov_load (v := (int .i64 a1)) rfl F_agg_2 (reads_box1 (i := 2) rfl rfl)) rfl rfl rfl ?_
      refine ent_value (ov_bin rfl rfl (b_eql _ _ _)) rfl rfl rfl ?_
      refine ent_nil ?_
      by_cases c47 : t0_ = a1
      ·rw [if_pos c47] at Hl
       refine ent_cond_true rfl (eq_t c47) ?_
       refine ent_exit ?_
       cases Hl
       refine ent_pick [1, 2, 3, 4, 5] (by decide) rfl ?_
       refine ent_roundN ?_
       exact ⟨rfl, rfl, _, rfl⟩
      ·rw [if_neg c47] at Hl
       refine ent_cond_false rfl (eq_f c47) ?_
       refine ent_skip ?_
       refine ent_region ?_
       refine ent_value (ov_load (v := sv40) rfl F_agg_53 (reads_box1 (i := 3) rfl rfl)) rfl rfl rfl ?_
       refine ent_value (ov_load_agg (vs := [(int .i64 t1_.Part.Tier), (int .i64 t1_.Part.Index), (int .i64 t1_.Seg), (int .i64 t1_.Mark), (int .i64 t1_.Rows), (bool t1_.Cold)]) rfl F_agg_65 F_size_65 (reads_boxW (i := 0) rfl)) rfl rfl rfl ?_
       refine ent_op (ot_buildSlice (sz := 5) (xs := [.tmp 42]) (cs := fl enc_Api_Entry [(⟨(⟨t1_.Part.Tier, t1_.Part.Index⟩ : Api_Part), t1_.Seg, t1_.Mark, t1_.Rows, t1_.Cold⟩ : Api_Entry)]) rfl rfl F_slice_53 F_size_65 F_zero_65 rfl rfl (all_size rfl) rfl (by decide)) rfl rfl rfl ?_
       rintro sv43 _ rfl
       by_cases c48 : (z4.length + [(⟨(⟨t1_.Part.Tier, t1_.Part.Index⟩ : Api_Part), t1_.Seg, t1_.Mark, t1_.Rows, t1_.Cold⟩ : Api_Entry)].length) * 48 ≤ 140737488355328
       ·rw [if_pos c48] at Hl
        refine ent_op (ot_appendx (sz := 5) (xs := z4) (ys := [(⟨(⟨t1_.Part.Tier, t1_.Part.Index⟩ : Api_Part), t1_.Seg, t1_.Mark, t1_.Rows, t1_.Cold⟩ : Api_Entry)]) 5 0 rfl rfl F_slice_53 F_size_65 F_zero_65 rfl F_bytes_65 rfl rfl rfl (isRd_ownx 65) rfl enc_Api_Entry_one c48) rfl rfl rfl ?_
        rintro sv44 _ rfl
        refine ent_L [(own sv43 65 6 [(⟨(⟨t1_.Part.Tier, t1_.Part.Index⟩ : Api_Part), t1_.Seg, t1_.Mark, t1_.Rows, t1_.Cold⟩ : Api_Entry)].length (fl enc_Api_Entry [(⟨(⟨t1_.Part.Tier, t1_.Part.Index⟩ : Api_Part), t1_.Seg, t1_.Mark, t1_.Rows, t1_.Cold⟩ : Api_Entry)])), (box b37 65 [(int .i64 t1_.Part.Tier), (int .i64 t1_.Part.Index), (int .i64 t1_.Seg), (int .i64 t1_.Mark), (int .i64 t1_.Rows), (bool t1_.Cold)]), (box p0 139 [(pt p1 0)]), (box b23 2 [(int .i64 a1)]), (box b24 53 [sv40]), (own sv44 65 6 (z4 ++ [(⟨(⟨t1_.Part.Tier, t1_.Part.Index⟩ : Api_Part), t1_.Seg, t1_.Mark, t1_.Rows, t1_.Cold⟩ : Api_Entry)]).length (fl enc_Api_Entry (z4 ++ [(⟨(⟨t1_.Part.Tier, t1_.Part.Index⟩ : Api_Part), t1_.Seg, t1_.Mark, t1_.Rows, t1_.Cold⟩ : Api_Entry)]))), (box p1 192 [sv0])] rfl ?_
        refine ent_op0 (ot_storeS (cs := [sv40]) (cs' := [sv44]) (sv := sv44) (L' := [(own sv43 65 6 [(⟨(⟨t1_.Part.Tier, t1_.Part.Index⟩ : Api_Part), t1_.Seg, t1_.Mark, t1_.Rows, t1_.Cold⟩ : Api_Entry)].length (fl enc_Api_Entry [(⟨(⟨t1_.Part.Tier, t1_.Part.Index⟩ : Api_Part), t1_.Seg, t1_.Mark, t1_.Rows, t1_.Cold⟩ : Api_Entry)])), (box b37 65 [(int .i64 t1_.Part.Tier), (int .i64 t1_.Part.Index), (int .i64 t1_.Seg), (int .i64 t1_.Mark), (int .i64 t1_.Rows), (bool t1_.Cold)]), (box p0 139 [(pt p1 0)]), (box b23 2 [(int .i64 a1)]), (box b24 53 [sv44]), (own sv44 65 6 (z4 ++ [(⟨(⟨t1_.Part.Tier, t1_.Part.Index⟩ : Api_Part), t1_.Seg, t1_.Mark, t1_.Rows, t1_.Cold⟩ : Api_Entry)]).length (fl enc_Api_Entry (z4 ++ [(⟨(⟨t1_.Part.Tier, t1_.Part.Index⟩ : Api_Part), t1_.Seg, t1_.Mark, t1_.Rows, t1_.Cold⟩ : Api_Entry)]))), (box p1 192 [sv0])]) 4 5 rfl rfl F_size_53 rfl rfl (isRd_ownx 65) rfl (by simp) rfl) rfl rfl ?_
        rintro _ _ rfl
        refine ent_nil ?_
        cases Hl
        refine ent_pick [2, 3, 4, 5, 6] (by decide) rfl ?_
        refine ent_roundN ?_
        exact ⟨rfl, rfl, _, rfl⟩
       ·rw [if_neg c48] at Hl
        cases Hl
    ·intro Y l hY
     exact (omap_each__int64__api_Entry_1_YR.spec K l b32 sv37 (own sv0 196 7 l0.length (fl enc_Omap_pair__int64__api_Entry l0)) (List Api_Entry) (catalog_Catalog_Over_O_r0 K a1) x10 x14 Y (fun t0_ t1_ z_ r_ h_ => hY _ z_ r_ ⟨t0_, t1_, rfl, h_⟩) hr5 _ h13).mono fun _ _ h_ => h_.2
    ·rintro _ ⟨sv40, rfl⟩
     refine ent_sub [(4, (pt b23 0)), (6, (pt b24 0))] (sub_cons (t := 4) rfl (sub_cons (t := 6) rfl (sub_nil _))) ?_
     refine ent_seq ?_
     refine ent_region ?_
     refine ent_value (ov_load (v := sv40) rfl F_agg_53 (reads_box1 (i := 4) rfl rfl)) rfl rfl rfl ?_
     refine ent_op0 (ot_storeS (cs := [sv40]) (cs' := [sv40]) (sv := sv40) (L' := [(box b32 190 [sv37]), (own sv0 196 7 l0.length (fl enc_Omap_pair__int64__api_Entry l0)), (box p0 139 [(pt p1 0)]), (box b23 2 [(int .i64 a1)]), (box b24 53 [sv40]), (own sv40 65 6 x15.length (fl enc_Api_Entry x15)), (box p1 192 [sv0])]) 4 5 rfl rfl F_size_53 rfl rfl (isRd_ownx 65) rfl (by simp) rfl) rfl rfl ?_
     rintro _ _ rfl
     refine ent_nil ?_
     refine ent_retc ?_
     first | (have e_ := Option.some.inj (show some _ = some _ from H); subst e_) | subst H
     exact ret_memp [2, 6, 1, 5] (by decide) rfl (vs := [sv40]) rfl ⟨⟨_, [sv40], rfl, reads_box1 (i := 4) rfl rfl, .inr ⟨F_agg_53, rfl⟩⟩, trivial⟩ _ rfl ⟨_, rfl, rfl⟩

end Go.Proofs.Ythdggcleffadeaa.CatalogEach
