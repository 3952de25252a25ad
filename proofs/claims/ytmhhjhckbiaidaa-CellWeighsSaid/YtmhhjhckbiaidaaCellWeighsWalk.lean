/- Printed by gen.py: that the machine's calls do what the plain functions of CellWeighs say. -/
import Derived.Test.YtmhhjhckbiaidaaProg
import Derived.Test.YtmhhjhckbiaidaaEAppend
import Derived.Test.YtmhhjhckbiaidaaCellWeighsPure
set_option linter.unusedVariables false
set_option linter.unusedSimpArgs false
set_option maxHeartbeats 400000
namespace Go.Proofs.Ytmhhjhckbiaidaa.CellWeighs
open Go Go.RowKit E

theorem F_slice_22 : sliceB Try.prog 22 = some 2 := by kernel_rfl
theorem F_size_2 : sizeB Try.prog 2 = some 1 := by kernel_rfl
theorem F_zero_2 : zeroB Try.prog 2 = some [(Value.int .i64 0)] := by kernel_rfl
theorem F_zero_25 : zeroB Try.prog 25 = some [(Value.int .i64 0), (Value.int .i64 0), (Value.int .i64 0), (Value.int .i64 0)] := by kernel_rfl
theorem F_zero_4 : zeroB Try.prog 4 = some [(Value.bool false)] := by kernel_rfl
theorem F_size_4 : sizeB Try.prog 4 = some 1 := by kernel_rfl
theorem F_agg_2 : aggB Try.prog 2 = some false := by kernel_rfl
theorem F_agg_4 : aggB Try.prog 4 = some false := by kernel_rfl
theorem F_agg_25 : aggB Try.prog 25 = some true := by kernel_rfl
theorem F_size_25 : sizeB Try.prog 25 = some 4 := by kernel_rfl
theorem F_places_25 : placesB Try.prog 25 = some [(0, 1), (1, 1), (2, 1), (3, 1)] := by kernel_rfl
theorem F_call_66 : callB Try.prog 66 = true := by kernel_rfl
theorem F_field_25_0 : fieldB Try.prog 25 0 = some (0, 2) := by kernel_rfl
theorem F_call_71 : callB Try.prog 71 = true := by kernel_rfl
theorem F_field_25_1 : fieldB Try.prog 25 1 = some (1, 2) := by kernel_rfl
theorem F_field_25_2 : fieldB Try.prog 25 2 = some (2, 2) := by kernel_rfl
theorem F_field_25_3 : fieldB Try.prog 25 3 = some (3, 2) := by kernel_rfl
theorem F_call_24 : callB Try.prog 24 = true := by kernel_rfl
theorem F_call_65 : callB Try.prog 65 = true := by kernel_rfl
theorem F_call_16 : callB Try.prog 16 = true := by kernel_rfl
theorem F_guard_25 : Try.prog.eqGuardType Try.prog.depth 25 = false := by kernel_rfl
theorem same_25 {x y : Operand} (x0 : Int) (x1 : Int) (x2 : Int) (x3 : Int) (y0 : Int) (y1 : Int) (y2 : Int) (y3 : Int) (w : World) : (do eqGuard .eql 25 x y (.agg #[(Value.int .i64 x0), (Value.int .i64 x1), (Value.int .i64 x2), (Value.int .i64 x3)]) (.agg #[(Value.int .i64 y0), (Value.int .i64 y1), (Value.int .i64 y2), (Value.int .i64 y3)]); binOp .eql 25 (.agg #[(Value.int .i64 x0), (Value.int .i64 x1), (Value.int .i64 x2), (Value.int .i64 x3)]) (.agg #[(Value.int .i64 y0), (Value.int .i64 y1), (Value.int .i64 y2), (Value.int .i64 y3)])).run Try.prog w = .ok (.bool ((x0 == y0) && ((x1 == y1) && ((x2 == y2) && ((x3 == y3) && true))))) w :=
  b_eql_agg F_guard_25 (eq_struct Try.underlying25 (by kernel_rfl) (eqf_cons rfl (part_cell F_agg_2 rfl) (part_cell F_agg_2 rfl) (eq_int Try.underlying2 _ _) (eqf_cons rfl (part_cell F_agg_2 rfl) (part_cell F_agg_2 rfl) (eq_int Try.underlying2 _ _) (eqf_cons rfl (part_cell F_agg_2 rfl) (part_cell F_agg_2 rfl) (eq_int Try.underlying2 _ _) (eqf_cons rfl (part_cell F_agg_2 rfl) (part_cell F_agg_2 rfl) (eq_int Try.underlying2 _ _) eqf_nil))))) w
theorem same_25_n {x y : Operand} (x0 : Int) (x1 : Int) (x2 : Int) (x3 : Int) (y0 : Int) (y1 : Int) (y2 : Int) (y3 : Int) (w : World) : (do eqGuard .neq 25 x y (.agg #[(Value.int .i64 x0), (Value.int .i64 x1), (Value.int .i64 x2), (Value.int .i64 x3)]) (.agg #[(Value.int .i64 y0), (Value.int .i64 y1), (Value.int .i64 y2), (Value.int .i64 y3)]); binOp .neq 25 (.agg #[(Value.int .i64 x0), (Value.int .i64 x1), (Value.int .i64 x2), (Value.int .i64 x3)]) (.agg #[(Value.int .i64 y0), (Value.int .i64 y1), (Value.int .i64 y2), (Value.int .i64 y3)])).run Try.prog w = .ok (.bool (!((x0 == y0) && ((x1 == y1) && ((x2 == y2) && ((x3 == y3) && true)))))) w :=
  b_neq_agg F_guard_25 (eq_struct Try.underlying25 (by kernel_rfl) (eqf_cons rfl (part_cell F_agg_2 rfl) (part_cell F_agg_2 rfl) (eq_int Try.underlying2 _ _) (eqf_cons rfl (part_cell F_agg_2 rfl) (part_cell F_agg_2 rfl) (eq_int Try.underlying2 _ _) (eqf_cons rfl (part_cell F_agg_2 rfl) (part_cell F_agg_2 rfl) (eq_int Try.underlying2 _ _) (eqf_cons rfl (part_cell F_agg_2 rfl) (part_cell F_agg_2 rfl) (eq_int Try.underlying2 _ _) eqf_nil))))) w
theorem F_call_15 : callB Try.prog 15 = true := by kernel_rfl
theorem F_call_69 : callB Try.prog 69 = true := by kernel_rfl
theorem F_call_18 : callB Try.prog 18 = true := by kernel_rfl
theorem F_call_22 : callB Try.prog 22 = true := by kernel_rfl
set_option maxRecDepth 100000 in
theorem cell_Of.spec (a0 : Int) (r : (Int × Int × Int × Int)) (H : cell_Of a0 = r) : FnSpec Try.prog 66 [(Value.int .i64 a0)] [] (fun v M => v = (Value.agg #[(Value.int .i64 r.1), (Value.int .i64 r.2.1), (Value.int .i64 r.2.2.1), (Value.int .i64 r.2.2.2)]) ∧ M = []) := by
  unfold cell_Of at H
  refine spec_of Try.func66 rfl 7 rfl (Nat.le_of_ble_eq_true rfl) fun F w0 => ?_
  show Ent (St 7 w0 F [(0, (Value.int .i64 a0))] []) _
  refine ent_seq ?_
  refine ent_region ?_
  refine ent_op (ot_alloc F_zero_25) rfl rfl rfl ?_
  rintro _ _ ⟨b1, rfl, rfl⟩
  refine ent_nil ?_
  refine ent_seq ?_
  refine ent_region ?_
  refine ent_value (ov_move rfl) rfl rfl rfl ?_
  refine ent_value (ov_move rfl) rfl rfl rfl ?_
  refine ent_value (ov_move rfl) rfl rfl rfl ?_
  refine ent_value (ov_build (is := [0, 1, 2, 3]) (xs := [.const (Value.int .i64 1), .tmp 3, .tmp 4, .tmp 5]) (vs := [(Value.int .i64 1), (Value.int .i64 a0), (Value.int .i64 a0), (Value.int .i64 a0)]) rfl rfl (build_struct (cs := [(Value.int .i64 1), (Value.int .i64 a0), (Value.int .i64 a0), (Value.int .i64 a0)]) F_zero_25 F_places_25 rfl)) rfl rfl rfl ?_
  refine ent_op0 (ot_store (cs := [(Value.int .i64 0), (Value.int .i64 0), (Value.int .i64 0), (Value.int .i64 0)]) (cs' := [(Value.int .i64 1), (Value.int .i64 a0), (Value.int .i64 a0), (Value.int .i64 a0)]) (us := [(Value.int .i64 1), (Value.int .i64 a0), (Value.int .i64 a0), (Value.int .i64 a0)]) (L' := [(box b1 25 [(Value.int .i64 1), (Value.int .i64 a0), (Value.int .i64 a0), (Value.int .i64 a0)])]) 0 rfl rfl rfl (all_one rfl) F_size_25 rfl rfl (by simp) rfl) rfl rfl ?_
  rintro _ _ rfl
  refine ent_nil ?_
  refine ent_retc ?_
  cases H
  exact ret_memp [] (by decide) rfl (vs := [(Value.agg #[(Value.int .i64 1), (Value.int .i64 a0), (Value.int .i64 a0), (Value.int .i64 a0)])]) rfl ⟨⟨_, [(Value.int .i64 1), (Value.int .i64 a0), (Value.int .i64 a0), (Value.int .i64 a0)], rfl, reads_boxW (i := 0) rfl, .inl ⟨F_agg_25, F_size_25, rfl⟩⟩, trivial⟩ _ rfl ⟨rfl, rfl⟩

set_option maxRecDepth 100000 in
theorem cell_plus.spec (a0 : Int) (a1 : Int) (r : (Int × Bool)) (H : cell_plus a0 a1 = r) : FnSpec Try.prog 71 [(Value.int .i64 a0), (Value.int .i64 a1)] [] (fun v M => v = (Value.tuple #[(Value.int .i64 r.1), (Value.bool r.2)]) ∧ M = []) := by
  unfold cell_plus at H
  refine spec_of Try.func71 rfl 20 rfl (Nat.le_of_ble_eq_true rfl) fun F w0 => ?_
  show Ent (St 20 w0 F [(0, (Value.int .i64 a0)), (1, (Value.int .i64 a1))] []) _
  refine ent_seq ?_
  refine ent_region ?_
  refine ent_value (ov_assign rfl) rfl rfl rfl ?_
  refine ent_value (ov_assign rfl) rfl rfl rfl ?_
  refine ent_nil ?_
  refine ent_seq ?_
  refine ent_region ?_
  refine ent_value (ov_move rfl) rfl rfl rfl ?_
  refine ent_value (ov_move rfl) rfl rfl rfl ?_
  refine ent_value (ov_bin rfl rfl (b_add _ _ _) ) rfl rfl rfl ?_
  refine ent_value (ov_assign rfl) rfl rfl rfl ?_
  refine ent_nil ?_
  refine ent_seq ?_
  refine ent_region ?_
  refine ent_value (ov_move rfl) rfl rfl rfl ?_
  refine ent_value (ov_move rfl) rfl rfl rfl ?_
  refine ent_value (ov_move rfl) rfl rfl rfl ?_
  refine ent_value (ov_bin rfl rfl (b_xor _ _ _)) rfl rfl rfl ?_
  refine ent_value (ov_move rfl) rfl rfl rfl ?_
  refine ent_value (ov_move rfl) rfl rfl rfl ?_
  refine ent_value (ov_bin rfl rfl (b_xor _ _ _)) rfl rfl rfl ?_
  refine ent_value (ov_bin rfl rfl (b_and _ _ _)) rfl rfl rfl ?_
  refine ent_value (ov_bin rfl rfl fun w => b_shr _ _ _ _ w (by decide)) rfl rfl rfl ?_
  refine ent_value (ov_bin rfl rfl (b_eql _ _ _)) rfl rfl rfl ?_
  refine ent_value (ov_assign rfl) rfl rfl rfl ?_
  refine ent_value (ov_assign rfl) rfl rfl rfl ?_
  refine ent_nil ?_
  refine ent_retc ?_
  cases H
  exact ret_mem (vs := [(Value.int .i64 (w64 (a0 + a1))), (Value.bool ((bShr .i64 (bAnd .i64 (bXor .i64 a0 (w64 (a0 + a1))) (bXor .i64 a1 (w64 (a0 + a1)))) 63) == 0))]) rfl ⟨rfl, ⟨rfl, trivial⟩⟩ _ rfl ⟨rfl, rfl⟩

set_option maxRecDepth 100000 in
theorem cell_Merge.spec (a0_0 : Int) (a0_1 : Int) (a0_2 : Int) (a0_3 : Int) (a1_0 : Int) (a1_1 : Int) (a1_2 : Int) (a1_3 : Int) (r : (Int × Int × Int × Int × Bool)) (H : cell_Merge a0_0 a0_1 a0_2 a0_3 a1_0 a1_1 a1_2 a1_3 = r) : FnSpec Try.prog 24 [(Value.agg #[(Value.int .i64 a0_0), (Value.int .i64 a0_1), (Value.int .i64 a0_2), (Value.int .i64 a0_3)]), (Value.agg #[(Value.int .i64 a1_0), (Value.int .i64 a1_1), (Value.int .i64 a1_2), (Value.int .i64 a1_3)])] [] (fun v M => v = (Value.tuple #[(Value.agg #[(Value.int .i64 r.1), (Value.int .i64 r.2.1), (Value.int .i64 r.2.2.1), (Value.int .i64 r.2.2.2.1)]), (Value.bool r.2.2.2.2)]) ∧ M = []) := by
  unfold cell_Merge at H
  refine spec_of Try.func24 rfl 56 rfl (Nat.le_of_ble_eq_true rfl) fun F w0 => ?_
  show Ent (St 56 w0 F [(0, (Value.agg #[(Value.int .i64 a0_0), (Value.int .i64 a0_1), (Value.int .i64 a0_2), (Value.int .i64 a0_3)])), (1, (Value.agg #[(Value.int .i64 a1_0), (Value.int .i64 a1_1), (Value.int .i64 a1_2), (Value.int .i64 a1_3)]))] []) _
  refine ent_seq ?_
  refine ent_region ?_
  refine ent_op (ot_box (cs := [(Value.int .i64 a0_0), (Value.int .i64 a0_1), (Value.int .i64 a0_2), (Value.int .i64 a0_3)]) rfl rfl) rfl rfl rfl ?_
  rintro _ _ ⟨b1, rfl, rfl⟩
  refine ent_op (ot_box (cs := [(Value.int .i64 a1_0), (Value.int .i64 a1_1), (Value.int .i64 a1_2), (Value.int .i64 a1_3)]) rfl rfl) rfl rfl rfl ?_
  rintro _ _ ⟨b2, rfl, rfl⟩
  refine ent_op (ot_alloc F_zero_25) rfl rfl rfl ?_
  rintro _ _ ⟨b3, rfl, rfl⟩
  refine ent_value (ov_assign rfl) rfl rfl rfl ?_
  refine ent_nil ?_
  refine ent_seq ?_
  refine ent_block ?_
  refine ent_seq ?_
  refine ent_region ?_
  refine ent_value (ov_fieldAddr (sz := 0) (o := 0) rfl F_field_25_0 F_size_2) rfl rfl rfl ?_
  refine ent_value (ov_load (v := (Value.int .i64 a0_0)) rfl F_agg_2 (reads_box1 (i := 2) rfl rfl)) rfl rfl rfl ?_
  refine ent_value (ov_bin rfl rfl (b_eql _ _ _)) rfl rfl rfl ?_
  refine ent_value (ov_assign rfl) rfl rfl rfl ?_
  refine ent_nil ?_
  by_cases c1 : a0_0 = 0
  · rw [if_pos c1] at H
    refine ent_cond_true rfl (by simpa using c1) ?_
    refine ent_seq ?_
    refine ent_region ?_
    refine ent_value (ov_load_agg (vs := [(Value.int .i64 a1_0), (Value.int .i64 a1_1), (Value.int .i64 a1_2), (Value.int .i64 a1_3)]) rfl F_agg_25 F_size_25 (reads_boxW (i := 1) rfl)) rfl rfl rfl ?_
    refine ent_op0 (ot_store (cs := [(Value.int .i64 0), (Value.int .i64 0), (Value.int .i64 0), (Value.int .i64 0)]) (cs' := [(Value.int .i64 a1_0), (Value.int .i64 a1_1), (Value.int .i64 a1_2), (Value.int .i64 a1_3)]) (us := [(Value.int .i64 a1_0), (Value.int .i64 a1_1), (Value.int .i64 a1_2), (Value.int .i64 a1_3)]) (L' := [(box b3 25 [(Value.int .i64 a1_0), (Value.int .i64 a1_1), (Value.int .i64 a1_2), (Value.int .i64 a1_3)]), (box b2 25 [(Value.int .i64 a1_0), (Value.int .i64 a1_1), (Value.int .i64 a1_2), (Value.int .i64 a1_3)]), (box b1 25 [(Value.int .i64 a0_0), (Value.int .i64 a0_1), (Value.int .i64 a0_2), (Value.int .i64 a0_3)])]) 0 rfl rfl rfl (all_one rfl) F_size_25 rfl rfl (by simp) rfl) rfl rfl ?_
    rintro _ _ rfl
    refine ent_value (ov_assign rfl) rfl rfl rfl ?_
    refine ent_nil ?_
    refine ent_retc ?_
    cases H
    exact ret_memp [] (by decide) rfl (vs := [(Value.agg #[(Value.int .i64 a1_0), (Value.int .i64 a1_1), (Value.int .i64 a1_2), (Value.int .i64 a1_3)]), (Value.bool true)]) rfl ⟨⟨_, [(Value.int .i64 a1_0), (Value.int .i64 a1_1), (Value.int .i64 a1_2), (Value.int .i64 a1_3)], rfl, reads_boxW (i := 0) rfl, .inl ⟨F_agg_25, F_size_25, rfl⟩⟩, ⟨rfl, trivial⟩⟩ _ rfl ⟨rfl, rfl⟩
  · rw [if_neg c1] at H
    refine ent_cond_false rfl (by simpa using c1) ?_
    refine ent_seq ?_
    refine ent_region ?_
    refine ent_value (ov_fieldAddr (sz := 0) (o := 0) rfl F_field_25_0 F_size_2) rfl rfl rfl ?_
    refine ent_value (ov_load (v := (Value.int .i64 a1_0)) rfl F_agg_2 (reads_box1 (i := 1) rfl rfl)) rfl rfl rfl ?_
    refine ent_value (ov_bin rfl rfl (b_eql _ _ _)) rfl rfl rfl ?_
    refine ent_value (ov_assign rfl) rfl rfl rfl ?_
    refine ent_nil ?_
    by_cases c2 : a1_0 = 0
    · rw [if_pos c2] at H
      refine ent_cond_true rfl (by simpa using c2) ?_
      refine ent_seq ?_
      refine ent_region ?_
      refine ent_value (ov_load_agg (vs := [(Value.int .i64 a0_0), (Value.int .i64 a0_1), (Value.int .i64 a0_2), (Value.int .i64 a0_3)]) rfl F_agg_25 F_size_25 (reads_boxW (i := 2) rfl)) rfl rfl rfl ?_
      refine ent_op0 (ot_store (cs := [(Value.int .i64 0), (Value.int .i64 0), (Value.int .i64 0), (Value.int .i64 0)]) (cs' := [(Value.int .i64 a0_0), (Value.int .i64 a0_1), (Value.int .i64 a0_2), (Value.int .i64 a0_3)]) (us := [(Value.int .i64 a0_0), (Value.int .i64 a0_1), (Value.int .i64 a0_2), (Value.int .i64 a0_3)]) (L' := [(box b3 25 [(Value.int .i64 a0_0), (Value.int .i64 a0_1), (Value.int .i64 a0_2), (Value.int .i64 a0_3)]), (box b2 25 [(Value.int .i64 a1_0), (Value.int .i64 a1_1), (Value.int .i64 a1_2), (Value.int .i64 a1_3)]), (box b1 25 [(Value.int .i64 a0_0), (Value.int .i64 a0_1), (Value.int .i64 a0_2), (Value.int .i64 a0_3)])]) 0 rfl rfl rfl (all_one rfl) F_size_25 rfl rfl (by simp) rfl) rfl rfl ?_
      rintro _ _ rfl
      refine ent_value (ov_assign rfl) rfl rfl rfl ?_
      refine ent_nil ?_
      refine ent_retc ?_
      cases H
      exact ret_memp [] (by decide) rfl (vs := [(Value.agg #[(Value.int .i64 a0_0), (Value.int .i64 a0_1), (Value.int .i64 a0_2), (Value.int .i64 a0_3)]), (Value.bool true)]) rfl ⟨⟨_, [(Value.int .i64 a0_0), (Value.int .i64 a0_1), (Value.int .i64 a0_2), (Value.int .i64 a0_3)], rfl, reads_boxW (i := 0) rfl, .inl ⟨F_agg_25, F_size_25, rfl⟩⟩, ⟨rfl, trivial⟩⟩ _ rfl ⟨rfl, rfl⟩
    · rw [if_neg c2] at H
      refine ent_cond_false rfl (by simpa using c2) ?_
      refine ent_skip ?_
      refine ent_seq ?_
      refine ent_region ?_
      refine ent_value (ov_fieldAddr (sz := 0) (o := 0) rfl F_field_25_0 F_size_2) rfl rfl rfl ?_
      refine ent_value (ov_load (v := (Value.int .i64 a0_0)) rfl F_agg_2 (reads_box1 (i := 2) rfl rfl)) rfl rfl rfl ?_
      refine ent_value (ov_fieldAddr (sz := 0) (o := 0) rfl F_field_25_0 F_size_2) rfl rfl rfl ?_
      refine ent_value (ov_load (v := (Value.int .i64 a1_0)) rfl F_agg_2 (reads_box1 (i := 1) rfl rfl)) rfl rfl rfl ?_
      obtain ⟨x1, h1, H⟩ := thn_elim H
      refine ent_op (ot_call0 (first := []) (cap := []) (xs := [.tmp 22, .tmp 24]) rfl rfl F_call_71 rfl (cell_plus.spec a0_0 a1_0 _ h1)) rfl rfl rfl ?_
      rintro _ _ ⟨rfl, rfl⟩
      refine ent_value (ov_move rfl) rfl rfl rfl ?_
      refine ent_value (ov_extract rfl rfl) rfl rfl rfl ?_
      refine ent_value (ov_extract rfl rfl) rfl rfl rfl ?_
      refine ent_value (ov_assign rfl) rfl rfl rfl ?_
      refine ent_value (ov_assign rfl) rfl rfl rfl ?_
      refine ent_nil ?_
      refine ent_seq ?_
      refine ent_region ?_
      refine ent_value (ov_fieldAddr (sz := 0) (o := 0) rfl F_field_25_1 F_size_2) rfl rfl rfl ?_
      refine ent_value (ov_load (v := (Value.int .i64 a0_1)) rfl F_agg_2 (reads_box1 (i := 2) rfl rfl)) rfl rfl rfl ?_
      refine ent_value (ov_fieldAddr (sz := 0) (o := 0) rfl F_field_25_1 F_size_2) rfl rfl rfl ?_
      refine ent_value (ov_load (v := (Value.int .i64 a1_1)) rfl F_agg_2 (reads_box1 (i := 1) rfl rfl)) rfl rfl rfl ?_
      obtain ⟨x2, h2, H⟩ := thn_elim H
      refine ent_op (ot_call0 (first := []) (cap := []) (xs := [.tmp 30, .tmp 32]) rfl rfl F_call_71 rfl (cell_plus.spec a0_1 a1_1 _ h2)) rfl rfl rfl ?_
      rintro _ _ ⟨rfl, rfl⟩
      refine ent_value (ov_move rfl) rfl rfl rfl ?_
      refine ent_value (ov_extract rfl rfl) rfl rfl rfl ?_
      refine ent_value (ov_extract rfl rfl) rfl rfl rfl ?_
      refine ent_value (ov_assign rfl) rfl rfl rfl ?_
      refine ent_value (ov_assign rfl) rfl rfl rfl ?_
      refine ent_nil ?_
      refine ent_seq ?_
      refine ent_seq ?_
      refine ent_region ?_
      refine ent_value (ov_move rfl) rfl rfl rfl ?_
      refine ent_value (ov_un rfl (u_not _)) rfl rfl rfl ?_
      refine ent_value (ov_move rfl) rfl rfl rfl ?_
      by_cases c3 : (!x1.2) = true
      · rw [if_pos c3] at H
        refine ent_off rfl rfl rfl c3 rfl rfl ?_
        refine ent_off rfl rfl rfl c3 rfl rfl ?_
        refine ent_value (ov_pick rfl rfl rfl (pick_t c3)) rfl rfl rfl ?_
        refine ent_nil ?_
        refine ent_cond_true rfl rfl ?_
        refine ent_seq ?_
        refine ent_region ?_
        refine ent_value (ov_build (is := []) (xs := []) (vs := []) rfl rfl (build_struct (cs := [(Value.int .i64 0), (Value.int .i64 0), (Value.int .i64 0), (Value.int .i64 0)]) F_zero_25 F_places_25 rfl)) rfl rfl rfl ?_
        refine ent_op0 (ot_store (cs := [(Value.int .i64 0), (Value.int .i64 0), (Value.int .i64 0), (Value.int .i64 0)]) (cs' := [(Value.int .i64 0), (Value.int .i64 0), (Value.int .i64 0), (Value.int .i64 0)]) (us := [(Value.int .i64 0), (Value.int .i64 0), (Value.int .i64 0), (Value.int .i64 0)]) (L' := [(box b3 25 [(Value.int .i64 0), (Value.int .i64 0), (Value.int .i64 0), (Value.int .i64 0)]), (box b2 25 [(Value.int .i64 a1_0), (Value.int .i64 a1_1), (Value.int .i64 a1_2), (Value.int .i64 a1_3)]), (box b1 25 [(Value.int .i64 a0_0), (Value.int .i64 a0_1), (Value.int .i64 a0_2), (Value.int .i64 a0_3)])]) 0 rfl rfl rfl (all_one rfl) F_size_25 rfl rfl (by simp) rfl) rfl rfl ?_
        rintro _ _ rfl
        refine ent_value (ov_assign rfl) rfl rfl rfl ?_
        refine ent_nil ?_
        refine ent_retc ?_
        cases H
        exact ret_memp [] (by decide) rfl (vs := [(Value.agg #[(Value.int .i64 0), (Value.int .i64 0), (Value.int .i64 0), (Value.int .i64 0)]), (Value.bool false)]) rfl ⟨⟨_, [(Value.int .i64 0), (Value.int .i64 0), (Value.int .i64 0), (Value.int .i64 0)], rfl, reads_boxW (i := 0) rfl, .inl ⟨F_agg_25, F_size_25, rfl⟩⟩, ⟨rfl, trivial⟩⟩ _ rfl ⟨rfl, rfl⟩
      · rw [if_neg c3] at H
        refine ent_value_on (ov_move rfl) rfl rfl rfl (Bool.eq_false_iff.2 c3) rfl rfl ?_
        refine ent_value_on (ov_un rfl (u_not _)) rfl rfl rfl (Bool.eq_false_iff.2 c3) rfl rfl ?_
        refine ent_value (ov_pick rfl rfl rfl (pick_f (Bool.eq_false_iff.2 c3))) rfl rfl rfl ?_
        refine ent_nil ?_
        by_cases c4 : (!x2.2) = true
        · rw [if_pos c4] at H
          refine ent_cond_true rfl c4 ?_
          refine ent_seq ?_
          refine ent_region ?_
          refine ent_value (ov_build (is := []) (xs := []) (vs := []) rfl rfl (build_struct (cs := [(Value.int .i64 0), (Value.int .i64 0), (Value.int .i64 0), (Value.int .i64 0)]) F_zero_25 F_places_25 rfl)) rfl rfl rfl ?_
          refine ent_op0 (ot_store (cs := [(Value.int .i64 0), (Value.int .i64 0), (Value.int .i64 0), (Value.int .i64 0)]) (cs' := [(Value.int .i64 0), (Value.int .i64 0), (Value.int .i64 0), (Value.int .i64 0)]) (us := [(Value.int .i64 0), (Value.int .i64 0), (Value.int .i64 0), (Value.int .i64 0)]) (L' := [(box b3 25 [(Value.int .i64 0), (Value.int .i64 0), (Value.int .i64 0), (Value.int .i64 0)]), (box b2 25 [(Value.int .i64 a1_0), (Value.int .i64 a1_1), (Value.int .i64 a1_2), (Value.int .i64 a1_3)]), (box b1 25 [(Value.int .i64 a0_0), (Value.int .i64 a0_1), (Value.int .i64 a0_2), (Value.int .i64 a0_3)])]) 0 rfl rfl rfl (all_one rfl) F_size_25 rfl rfl (by simp) rfl) rfl rfl ?_
          rintro _ _ rfl
          refine ent_value (ov_assign rfl) rfl rfl rfl ?_
          refine ent_nil ?_
          refine ent_retc ?_
          cases H
          exact ret_memp [] (by decide) rfl (vs := [(Value.agg #[(Value.int .i64 0), (Value.int .i64 0), (Value.int .i64 0), (Value.int .i64 0)]), (Value.bool false)]) rfl ⟨⟨_, [(Value.int .i64 0), (Value.int .i64 0), (Value.int .i64 0), (Value.int .i64 0)], rfl, reads_boxW (i := 0) rfl, .inl ⟨F_agg_25, F_size_25, rfl⟩⟩, ⟨rfl, trivial⟩⟩ _ rfl ⟨rfl, rfl⟩
        · rw [if_neg c4] at H
          refine ent_cond_false rfl (Bool.eq_false_iff.2 c4) ?_
          refine ent_skip ?_
          refine ent_seq ?_
          refine ent_region ?_
          refine ent_value (ov_move rfl) rfl rfl rfl ?_
          refine ent_value (ov_move rfl) rfl rfl rfl ?_
          refine ent_value (ov_fieldAddr (sz := 0) (o := 0) rfl F_field_25_2 F_size_2) rfl rfl rfl ?_
          refine ent_value (ov_load (v := (Value.int .i64 a0_2)) rfl F_agg_2 (reads_box1 (i := 2) rfl rfl)) rfl rfl rfl ?_
          refine ent_value (ov_fieldAddr (sz := 0) (o := 0) rfl F_field_25_2 F_size_2) rfl rfl rfl ?_
          refine ent_value (ov_load (v := (Value.int .i64 a1_2)) rfl F_agg_2 (reads_box1 (i := 1) rfl rfl)) rfl rfl rfl ?_
          refine ent_value (ov_min2 rfl rfl) rfl rfl rfl ?_
          refine ent_value (ov_fieldAddr (sz := 0) (o := 0) rfl F_field_25_3 F_size_2) rfl rfl rfl ?_
          refine ent_value (ov_load (v := (Value.int .i64 a0_3)) rfl F_agg_2 (reads_box1 (i := 2) rfl rfl)) rfl rfl rfl ?_
          refine ent_value (ov_fieldAddr (sz := 0) (o := 0) rfl F_field_25_3 F_size_2) rfl rfl rfl ?_
          refine ent_value (ov_load (v := (Value.int .i64 a1_3)) rfl F_agg_2 (reads_box1 (i := 1) rfl rfl)) rfl rfl rfl ?_
          refine ent_value (ov_max2 rfl rfl) rfl rfl rfl ?_
          refine ent_value (ov_build (is := [0, 1, 2, 3]) (xs := [.tmp 43, .tmp 44, .tmp 49, .tmp 54]) (vs := [(Value.int .i64 x1.1), (Value.int .i64 x2.1), (Value.int .i64 (mn a0_2 a1_2)), (Value.int .i64 (mx a0_3 a1_3))]) rfl rfl (build_struct (cs := [(Value.int .i64 x1.1), (Value.int .i64 x2.1), (Value.int .i64 (mn a0_2 a1_2)), (Value.int .i64 (mx a0_3 a1_3))]) F_zero_25 F_places_25 rfl)) rfl rfl rfl ?_
          refine ent_op0 (ot_store (cs := [(Value.int .i64 0), (Value.int .i64 0), (Value.int .i64 0), (Value.int .i64 0)]) (cs' := [(Value.int .i64 x1.1), (Value.int .i64 x2.1), (Value.int .i64 (mn a0_2 a1_2)), (Value.int .i64 (mx a0_3 a1_3))]) (us := [(Value.int .i64 x1.1), (Value.int .i64 x2.1), (Value.int .i64 (mn a0_2 a1_2)), (Value.int .i64 (mx a0_3 a1_3))]) (L' := [(box b3 25 [(Value.int .i64 x1.1), (Value.int .i64 x2.1), (Value.int .i64 (mn a0_2 a1_2)), (Value.int .i64 (mx a0_3 a1_3))]), (box b2 25 [(Value.int .i64 a1_0), (Value.int .i64 a1_1), (Value.int .i64 a1_2), (Value.int .i64 a1_3)]), (box b1 25 [(Value.int .i64 a0_0), (Value.int .i64 a0_1), (Value.int .i64 a0_2), (Value.int .i64 a0_3)])]) 0 rfl rfl rfl (all_one rfl) F_size_25 rfl rfl (by simp) rfl) rfl rfl ?_
          rintro _ _ rfl
          refine ent_value (ov_assign rfl) rfl rfl rfl ?_
          refine ent_nil ?_
          refine ent_retc ?_
          cases H
          exact ret_memp [] (by decide) rfl (vs := [(Value.agg #[(Value.int .i64 x1.1), (Value.int .i64 x2.1), (Value.int .i64 (mn a0_2 a1_2)), (Value.int .i64 (mx a0_3 a1_3))]), (Value.bool true)]) rfl ⟨⟨_, [(Value.int .i64 x1.1), (Value.int .i64 x2.1), (Value.int .i64 (mn a0_2 a1_2)), (Value.int .i64 (mx a0_3 a1_3))], rfl, reads_boxW (i := 0) rfl, .inl ⟨F_agg_25, F_size_25, rfl⟩⟩, ⟨rfl, trivial⟩⟩ _ rfl ⟨rfl, rfl⟩

set_option maxRecDepth 100000 in
theorem cell_All_1.spec (p0 : Nat) (p1 : Nat) (a0 : Int) (p0_0 : Bool) (p1_0 : Int) (p1_1 : Int) (p1_2 : Int) (p1_3 : Int) (r : (Bool × Int × Int × Int × Int)) (H : cell_All_1 a0 p0_0 p1_0 p1_1 p1_2 p1_3 = r) : FnSpec Try.prog 65 [(Value.int .i64 a0), (pt p0 0), (pt p1 0)] [(box p0 4 [(Value.bool p0_0)]), (box p1 25 [(Value.int .i64 p1_0), (Value.int .i64 p1_1), (Value.int .i64 p1_2), (Value.int .i64 p1_3)])] (fun v M => v = (Value.tuple #[]) ∧ M = [(box p0 4 [(Value.bool r.1)]), (box p1 25 [(Value.int .i64 r.2.1), (Value.int .i64 r.2.2.1), (Value.int .i64 r.2.2.2.1), (Value.int .i64 r.2.2.2.2)])]) := by
  unfold cell_All_1 at H
  refine spec_of Try.func65 rfl 12 rfl (Nat.le_of_ble_eq_true rfl) fun F w0 => ?_
  show Ent (St 12 w0 F [(0, (Value.int .i64 a0)), (1, (pt p0 0)), (2, (pt p1 0))] [(box p0 4 [(Value.bool p0_0)]), (box p1 25 [(Value.int .i64 p1_0), (Value.int .i64 p1_1), (Value.int .i64 p1_2), (Value.int .i64 p1_3)])]) _
  refine ent_seq ?_
  refine ent_region ?_
  refine ent_value (ov_load (v := (Value.bool p0_0)) rfl F_agg_4 (reads_box1 (i := 0) rfl rfl)) rfl rfl rfl ?_
  refine ent_nil ?_
  by_cases c1 : p0_0 = true
  · rw [if_pos c1] at H
    refine ent_cond_true rfl c1 ?_
    obtain ⟨x1, h1, H⟩ := thn_elim H
    obtain ⟨x2, h2, H⟩ := thn_elim H
    refine ent_drawm 9 rfl (fun done a w => StD 12 w0 F [(0, (Value.int .i64 a0)), (1, (pt p0 0)), (2, (pt p1 0)), (4, (Value.bool p0_0))] [(0, 6, (Value.agg #[(Value.int .i64 p1_0), (Value.int .i64 p1_1), (Value.int .i64 p1_2), (Value.int .i64 p1_3)])), (1, 7, (Value.int .i64 a0)), (2, 8, (Value.agg #[(Value.int .i64 x1.1), (Value.int .i64 x1.2.1), (Value.int .i64 x1.2.2.1), (Value.int .i64 x1.2.2.2)])), (3, 9, (Value.tuple #[(Value.agg #[(Value.int .i64 x2.1), (Value.int .i64 x2.2.1), (Value.int .i64 x2.2.2.1), (Value.int .i64 x2.2.2.2.1)]), (Value.bool x2.2.2.2.2)])), (4, 5, (Value.tuple #[(Value.agg #[(Value.int .i64 x2.1), (Value.int .i64 x2.2.1), (Value.int .i64 x2.2.2.1), (Value.int .i64 x2.2.2.2.1)]), (Value.bool x2.2.2.2.2)])), (5, 10, (Value.agg #[(Value.int .i64 x2.1), (Value.int .i64 x2.2.1), (Value.int .i64 x2.2.2.1), (Value.int .i64 x2.2.2.2.1)])), (6, 11, (Value.bool x2.2.2.2.2))] done [(sel (done 8) (box p0 4 [(Value.bool x2.2.2.2.2)]) (box p0 4 [(Value.bool p0_0)])), (sel (done 7) (box p1 25 [(Value.int .i64 x2.1), (Value.int .i64 x2.2.1), (Value.int .i64 x2.2.2.1), (Value.int .i64 x2.2.2.2.1)]) (box p1 25 [(Value.int .i64 p1_0), (Value.int .i64 p1_1), (Value.int .i64 p1_2), (Value.int .i64 p1_3)]))] a w) (by kernel_rfl) (by kernel_rfl) (draw_startL (sub_cons (t := 0) rfl (sub_cons (t := 1) rfl (sub_cons (t := 2) rfl (sub_cons (t := 4) rfl (sub_nil _))))) (by simp only [sel])) ?_ ?_
    · refine ⟨?_, ?_, ?_, ?_, ?_, ?_, ?_, ?_, ?_, trivial⟩
      · intro done hi hc hcu
        have n7 : done 7 = false := notdone_of (m := 7) hc hi rfl rfl
        exact draw_value (i := 0) (t := 6) (v := (Value.agg #[(Value.int .i64 p1_0), (Value.int .i64 p1_1), (Value.int .i64 p1_2), (Value.int .i64 p1_3)])) rfl rfl (wanted_none rfl) (fun a => hasA_base) (ov_L (L2 := [(sel (done 8) (box p0 4 [(Value.bool x2.2.2.2.2)]) (box p0 4 [(Value.bool p0_0)])), (box p1 25 [(Value.int .i64 p1_0), (Value.int .i64 p1_1), (Value.int .i64 p1_2), (Value.int .i64 p1_3)])]) (by simp only [n7, sel]) (ov_load_agg (vs := [(Value.int .i64 p1_0), (Value.int .i64 p1_1), (Value.int .i64 p1_2), (Value.int .i64 p1_3)]) rfl F_agg_25 F_size_25 (reads_boxW (i := 1) rfl))) rfl rfl (onlyT_spec (k0 := 0) rfl rfl rfl)
      · intro done hi hc hcu
        exact draw_value (i := 1) (t := 7) (v := (Value.int .i64 a0)) rfl rfl (wanted_none rfl) (fun a => hasA_base) (ov_move rfl) rfl rfl (onlyT_spec (k0 := 1) rfl rfl rfl)
      · intro done hi hc hcu
        have d1 : done 1 = true := done_of (j := 1) hcu rfl (by decide) rfl
        exact draw_same (i := 2) (t := 8) (v := (Value.agg #[(Value.int .i64 x1.1), (Value.int .i64 x1.2.1), (Value.int .i64 x1.2.2.1), (Value.int .i64 x1.2.2.2)])) rfl rfl (wanted_none rfl) (fun a => (hasA_cons (k := 1) rfl d1 hasA_base)) (ot_call0 (first := []) (cap := []) (xs := [.tmp 7]) rfl rfl F_call_66 rfl (cell_Of.spec a0 _ h1)) rfl rfl (onlyT_spec (k0 := 2) rfl rfl rfl)
      · intro done hi hc hcu
        have d0 : done 0 = true := done_of (j := 0) hcu rfl (by decide) rfl
        have d2 : done 2 = true := done_of (j := 2) hcu rfl (by decide) rfl
        exact draw_same (i := 3) (t := 9) (v := (Value.tuple #[(Value.agg #[(Value.int .i64 x2.1), (Value.int .i64 x2.2.1), (Value.int .i64 x2.2.2.1), (Value.int .i64 x2.2.2.2.1)]), (Value.bool x2.2.2.2.2)])) rfl rfl (wanted_none rfl) (fun a => (hasA_cons (k := 2) rfl d2 (hasA_cons (k := 0) rfl d0 hasA_base))) (ot_call0 (first := []) (cap := []) (xs := [.tmp 6, .tmp 8]) rfl rfl F_call_24 rfl (cell_Merge.spec p1_0 p1_1 p1_2 p1_3 x1.1 x1.2.1 x1.2.2.1 x1.2.2.2 _ h2)) rfl rfl (onlyT_spec (k0 := 3) rfl rfl rfl)
      · intro done hi hc hcu
        have d3 : done 3 = true := done_of (j := 3) hcu rfl (by decide) rfl
        exact draw_value (i := 4) (t := 5) (v := (Value.tuple #[(Value.agg #[(Value.int .i64 x2.1), (Value.int .i64 x2.2.1), (Value.int .i64 x2.2.2.1), (Value.int .i64 x2.2.2.2.1)]), (Value.bool x2.2.2.2.2)])) rfl rfl (wanted_none rfl) (fun a => (hasA_cons (k := 3) rfl d3 hasA_base)) (ov_move rfl) rfl rfl (onlyT_spec (k0 := 4) rfl rfl rfl)
      · intro done hi hc hcu
        have d4 : done 4 = true := done_of (j := 4) hcu rfl (by decide) rfl
        exact draw_value (i := 5) (t := 10) (v := (Value.agg #[(Value.int .i64 x2.1), (Value.int .i64 x2.2.1), (Value.int .i64 x2.2.2.1), (Value.int .i64 x2.2.2.2.1)])) rfl rfl (wanted_none rfl) (fun a => (hasA_cons (k := 4) rfl d4 hasA_base)) (ov_extract rfl rfl) rfl rfl (onlyT_spec (k0 := 5) rfl rfl rfl)
      · intro done hi hc hcu
        have d4 : done 4 = true := done_of (j := 4) hcu rfl (by decide) rfl
        exact draw_value (i := 6) (t := 11) (v := (Value.bool x2.2.2.2.2)) rfl rfl (wanted_none rfl) (fun a => (hasA_cons (k := 4) rfl d4 hasA_base)) (ov_extract rfl rfl) rfl rfl (onlyT_spec (k0 := 6) rfl rfl rfl)
      · intro done hi hc hcu
        have d5 : done 5 = true := done_of (j := 5) hcu rfl (by decide) rfl
        exact draw_store (i := 7) (L2 := [(sel (done 8) (box p0 4 [(Value.bool x2.2.2.2.2)]) (box p0 4 [(Value.bool p0_0)])), (box p1 25 [(Value.int .i64 p1_0), (Value.int .i64 p1_1), (Value.int .i64 p1_2), (Value.int .i64 p1_3)])]) (L3 := [(sel (done 8) (box p0 4 [(Value.bool x2.2.2.2.2)]) (box p0 4 [(Value.bool p0_0)])), (box p1 25 [(Value.int .i64 x2.1), (Value.int .i64 x2.2.1), (Value.int .i64 x2.2.2.1), (Value.int .i64 x2.2.2.2.1)])]) rfl rfl (wanted_none rfl) (fun a => (hasA_cons (k := 5) rfl d5 hasA_base)) (by simp only [hi, sel]) (by simp [up, sel]) (ot_store (cs := [(Value.int .i64 p1_0), (Value.int .i64 p1_1), (Value.int .i64 p1_2), (Value.int .i64 p1_3)]) (cs' := [(Value.int .i64 x2.1), (Value.int .i64 x2.2.1), (Value.int .i64 x2.2.2.1), (Value.int .i64 x2.2.2.2.1)]) (us := [(Value.int .i64 x2.1), (Value.int .i64 x2.2.1), (Value.int .i64 x2.2.2.1), (Value.int .i64 x2.2.2.2.1)]) (L' := [(sel (done 8) (box p0 4 [(Value.bool x2.2.2.2.2)]) (box p0 4 [(Value.bool p0_0)])), (box p1 25 [(Value.int .i64 x2.1), (Value.int .i64 x2.2.1), (Value.int .i64 x2.2.2.1), (Value.int .i64 x2.2.2.2.1)])]) 1 rfl rfl rfl (all_one rfl) F_size_25 rfl rfl (by simp) rfl) (offT_spec rfl)
      · intro done hi hc hcu
        have d6 : done 6 = true := done_of (j := 6) hcu rfl (by decide) rfl
        exact draw_store (i := 8) (L2 := [(box p0 4 [(Value.bool p0_0)]), (sel (done 7) (box p1 25 [(Value.int .i64 x2.1), (Value.int .i64 x2.2.1), (Value.int .i64 x2.2.2.1), (Value.int .i64 x2.2.2.2.1)]) (box p1 25 [(Value.int .i64 p1_0), (Value.int .i64 p1_1), (Value.int .i64 p1_2), (Value.int .i64 p1_3)]))]) (L3 := [(box p0 4 [(Value.bool x2.2.2.2.2)]), (sel (done 7) (box p1 25 [(Value.int .i64 x2.1), (Value.int .i64 x2.2.1), (Value.int .i64 x2.2.2.1), (Value.int .i64 x2.2.2.2.1)]) (box p1 25 [(Value.int .i64 p1_0), (Value.int .i64 p1_1), (Value.int .i64 p1_2), (Value.int .i64 p1_3)]))]) rfl rfl (wanted_none rfl) (fun a => (hasA_cons (k := 6) rfl d6 hasA_base)) (by simp only [hi, sel]) (by simp [up, sel]) (ot_store (cs := [(Value.bool p0_0)]) (cs' := [(Value.bool x2.2.2.2.2)]) (us := [(Value.bool x2.2.2.2.2)]) (L' := [(box p0 4 [(Value.bool x2.2.2.2.2)]), (sel (done 7) (box p1 25 [(Value.int .i64 x2.1), (Value.int .i64 x2.2.1), (Value.int .i64 x2.2.2.1), (Value.int .i64 x2.2.2.2.1)]) (box p1 25 [(Value.int .i64 p1_0), (Value.int .i64 p1_1), (Value.int .i64 p1_2), (Value.int .i64 p1_3)]))]) 0 rfl rfl rfl (all_one rfl) F_size_4 rfl rfl (by simp) rfl) (offT_spec rfl)
    · intro done hall
      refine draw_endL [(box p0 4 [(Value.bool x2.2.2.2.2)]), (box p1 25 [(Value.int .i64 x2.1), (Value.int .i64 x2.2.1), (Value.int .i64 x2.2.2.1), (Value.int .i64 x2.2.2.2.1)])] (by simp only [hall 7 (by decide), hall 8 (by decide), sel]) (fun a => (hasA_cons (k := 4) rfl (hall 4 (by decide)) (hasA_cons (k := 0) rfl (hall 0 (by decide)) (hasA_cons (k := 1) rfl (hall 1 (by decide)) (hasA_cons (k := 2) rfl (hall 2 (by decide)) (hasA_cons (k := 3) rfl (hall 3 (by decide)) (hasA_cons (k := 5) rfl (hall 5 (by decide)) (hasA_cons (k := 6) rfl (hall 6 (by decide)) hasA_base)))))))) ?_
      cases H
      refine ret_normal ?_
      exact ret_none rfl ⟨rfl, rfl⟩
  · rw [if_neg c1] at H
    refine ent_cond_false rfl (Bool.eq_false_iff.2 c1) ?_
    refine ent_skip ?_
    cases H
    refine ret_normal ?_
    exact ret_none rfl ⟨rfl, rfl⟩

set_option maxRecDepth 100000 in
theorem cell_All.spec (K : Nat) (sv0 : Value) (A0 : HP) (l0 : List Int) (hA0 : IsRd A0 sv0 l0.length 1 (fl (eI .i64) l0)) (r : (Int × Int × Int × Int × Bool)) (H : cell_All K l0 = some r) : FnSpec Try.prog 16 [sv0] [A0] (fun v M => v = (Value.tuple #[(Value.agg #[(Value.int .i64 r.1), (Value.int .i64 r.2.1), (Value.int .i64 r.2.2.1), (Value.int .i64 r.2.2.2.1)]), (Value.bool r.2.2.2.2)]) ∧ M = [A0]) := by
  unfold cell_All at H
  refine spec_of Try.func16 rfl 20 rfl (Nat.le_of_ble_eq_true rfl) fun F w0 => ?_
  show Ent (St 20 w0 F [(0, sv0)] [A0]) _
  refine ent_seq ?_
  refine ent_region ?_
  refine ent_op (ot_alloc F_zero_25) rfl rfl rfl ?_
  rintro _ _ ⟨b1, rfl, rfl⟩
  refine ent_op (ot_alloc F_zero_4) rfl rfl rfl ?_
  rintro _ _ ⟨b2, rfl, rfl⟩
  refine ent_nil ?_
  refine ent_seq ?_
  refine ent_region ?_
  refine ent_op0 (ot_store (cs := [(Value.bool false)]) (cs' := [(Value.bool true)]) (us := [(Value.bool true)]) (L' := [(box b2 4 [(Value.bool true)]), (box b1 25 [(Value.int .i64 0), (Value.int .i64 0), (Value.int .i64 0), (Value.int .i64 0)]), A0]) 0 rfl rfl rfl (all_one rfl) F_size_4 rfl rfl (by simp) rfl) rfl rfl ?_
  rintro _ _ rfl
  refine ent_nil ?_
  refine ent_seq ?_
  refine ent_region ?_
  refine ent_value (ov_makeFunc (first := []) (cap := [.tmp 3, .tmp 2]) rfl rfl) rfl rfl rfl ?_
  refine ent_value (ov_assign rfl) rfl rfl rfl ?_
  refine ent_nil ?_
  refine ent_seq ?_
  refine ent_seq ?_
  refine ent_region ?_
  refine ent_value (ov_move rfl) rfl rfl rfl ?_
  refine ent_value (ov_len 2 rfl F_slice_22 rfl hA0) rfl rfl rfl ?_
  refine ent_value (ov_move rfl) rfl rfl rfl ?_
  refine ent_nil ?_
  refine ent_block ?_
  refine ent_loop (fun k a w => ∃ i1, ∃ i2, ∃ i3, ∃ i4, ∃ i5, ∃ q1, cell_All_l0 K l0 k i1 i2 i3 i4 i5 q1 = some r ∧ St 20 w0 F [(2, (pt b1 0)), (3, (pt b2 0)), (4, (Value.func (.func 65) #[] #[(pt b2 0), (pt b1 0)])), (8, sv0), (9, (Value.int .i64 (l0.length : Int))), (10, (Value.int .i64 i1))] [A0, (box b1 25 [(Value.int .i64 i2), (Value.int .i64 i3), (Value.int .i64 i4), (Value.int .i64 i5)]), (box b2 4 [(Value.bool q1)])] a w) K ?_ ?_
  · exact ent_fin [2, 1, 0] (by decide) rfl (sub_cons (t := 2) rfl (sub_cons (t := 3) rfl (sub_cons (t := 4) rfl (sub_cons (t := 8) rfl (sub_cons (t := 9) rfl (sub_cons (t := 10) rfl (sub_nil _))))))) fun a w h => ⟨_, _, _, _, _, _, H, h⟩
  · refine fun k => ent_exi fun i1 => ent_exi fun i2 => ent_exi fun i3 => ent_exi fun i4 => ent_exi fun i5 => ent_exi fun q1 => ent_and fun H1 => ?_
    cases k with
    | zero => exact absurd H1 (by simp [cell_All_l0])
    | succ k =>
      rw [cell_All_l0] at H1
      refine ent_seq ?_
      refine ent_region ?_
      refine ent_value (ov_bin rfl rfl (b_lss _ _ _)) rfl rfl rfl ?_
      refine ent_nil ?_
      refine ent_seq ?_
      by_cases c1 : i1 < (l0.length : Int)
      · rw [if_pos c1] at H1
        refine ent_cond_true rfl (decide_eq_true c1) ?_
        refine ent_skip ?_
        refine ent_seq ?_
        refine ent_block ?_
        refine ent_seq ?_
        refine ent_region ?_
        by_cases c2 : 0 ≤ i1
        · rw [if_pos c2] at H1
          refine ent_value (ov_indexAddr (sz := 0) 0 rfl rfl F_slice_22 F_size_2 rfl hA0 c2 c1) rfl rfl rfl ?_
          refine ent_value (ov_load (v := (Value.int .i64 (l0.getD i1.toNat 0))) rfl F_agg_2 (reads_rd (i := 0) rfl hA0 (by simp) (fl_read0 (eI_len _) (ix_lt c2 c1) rfl))) rfl rfl rfl ?_
          refine ent_value (ov_assign rfl) rfl rfl rfl ?_
          refine ent_nil ?_
          refine ent_region ?_
          refine ent_value (ov_move rfl) rfl rfl rfl ?_
          refine ent_value (ov_move rfl) rfl rfl rfl ?_
          obtain ⟨x1, h1, H1⟩ := thn_elim H1
          refine ent_pick [2, 1, 0] (by decide) rfl ?_
          refine ent_op (ot_call (Lr := [A0]) (first := []) (cap := [(pt b2 0), (pt b1 0)]) (xs := [.tmp 15]) rfl rfl F_call_65 rfl (cell_All_1.spec b2 b1 (l0.getD i1.toNat 0) q1 i2 i3 i4 i5 _ h1) rfl) rfl rfl rfl ?_
          rintro _ _ ⟨_, ⟨rfl, rfl⟩, rfl⟩
          refine ent_nil ?_
          refine ent_region ?_
          refine ent_value (ov_bin rfl rfl (b_add _ _ _) ) rfl rfl rfl ?_
          refine ent_value (ov_move rfl) rfl rfl rfl ?_
          refine ent_nil ?_
          exact ent_fin [2, 1, 0] (by decide) rfl (sub_cons (t := 2) rfl (sub_cons (t := 3) rfl (sub_cons (t := 4) rfl (sub_cons (t := 8) rfl (sub_cons (t := 9) rfl (sub_cons (t := 10) rfl (sub_nil _))))))) fun a w h => ⟨k, Nat.lt_succ_self k, _, _, _, _, _, _, H1, h⟩
        · rw [if_neg c2] at H1
          cases H1
      · rw [if_neg c1] at H1
        refine ent_cond_false rfl (decide_eq_false c1) ?_
        refine ent_exit ?_
        refine ent_seq ?_
        refine ent_drawm 4 rfl (fun done a w => StD 20 w0 F [(2, (pt b1 0)), (3, (pt b2 0)), (4, (Value.func (.func 65) #[] #[(pt b2 0), (pt b1 0)])), (8, sv0), (9, (Value.int .i64 (l0.length : Int))), (10, (Value.int .i64 i1)), (11, (Value.bool (decide (i1 < (l0.length : Int)))))] [(0, 18, (Value.agg #[(Value.int .i64 i2), (Value.int .i64 i3), (Value.int .i64 i4), (Value.int .i64 i5)])), (1, 19, (Value.bool q1))] done [A0, (box b1 25 [(Value.int .i64 i2), (Value.int .i64 i3), (Value.int .i64 i4), (Value.int .i64 i5)]), (box b2 4 [(Value.bool q1)])] a w) (by kernel_rfl) (by kernel_rfl) (draw_startL (sub_cons (t := 2) rfl (sub_cons (t := 3) rfl (sub_cons (t := 4) rfl (sub_cons (t := 8) rfl (sub_cons (t := 9) rfl (sub_cons (t := 10) rfl (sub_cons (t := 11) rfl (sub_nil _)))))))) rfl) ?_ ?_
        · refine ⟨?_, ?_, ?_, ?_, trivial⟩
          · intro done hi hc hcu
            exact draw_value (i := 0) (t := 18) (v := (Value.agg #[(Value.int .i64 i2), (Value.int .i64 i3), (Value.int .i64 i4), (Value.int .i64 i5)])) rfl rfl (wanted_none rfl) (fun a => hasA_base) (ov_load_agg (vs := [(Value.int .i64 i2), (Value.int .i64 i3), (Value.int .i64 i4), (Value.int .i64 i5)]) rfl F_agg_25 F_size_25 (reads_boxW (i := 1) rfl)) rfl rfl (onlyT_spec (k0 := 0) rfl rfl rfl)
          · intro done hi hc hcu
            exact draw_value (i := 1) (t := 19) (v := (Value.bool q1)) rfl rfl (wanted_none rfl) (fun a => hasA_base) (ov_load (v := (Value.bool q1)) rfl F_agg_4 (reads_box1 (i := 2) rfl rfl)) rfl rfl (onlyT_spec (k0 := 1) rfl rfl rfl)
          · intro done hi hc hcu
            have d0 : done 0 = true := done_of (j := 0) hcu rfl (by decide) rfl
            exact draw_store (i := 2) (L2 := [A0, (box b1 25 [(Value.int .i64 i2), (Value.int .i64 i3), (Value.int .i64 i4), (Value.int .i64 i5)]), (box b2 4 [(Value.bool q1)])]) (L3 := [A0, (box b1 25 [(Value.int .i64 i2), (Value.int .i64 i3), (Value.int .i64 i4), (Value.int .i64 i5)]), (box b2 4 [(Value.bool q1)])]) rfl rfl (wanted_none rfl) (fun a => (hasA_cons (k := 0) rfl d0 hasA_base)) rfl (by simp [up, sel]) (ot_store (cs := [(Value.int .i64 i2), (Value.int .i64 i3), (Value.int .i64 i4), (Value.int .i64 i5)]) (cs' := [(Value.int .i64 i2), (Value.int .i64 i3), (Value.int .i64 i4), (Value.int .i64 i5)]) (us := [(Value.int .i64 i2), (Value.int .i64 i3), (Value.int .i64 i4), (Value.int .i64 i5)]) (L' := [A0, (box b1 25 [(Value.int .i64 i2), (Value.int .i64 i3), (Value.int .i64 i4), (Value.int .i64 i5)]), (box b2 4 [(Value.bool q1)])]) 1 rfl rfl rfl (all_one rfl) F_size_25 rfl rfl (by simp) rfl) (offT_spec rfl)
          · intro done hi hc hcu
            have d1 : done 1 = true := done_of (j := 1) hcu rfl (by decide) rfl
            exact draw_store (i := 3) (L2 := [A0, (box b1 25 [(Value.int .i64 i2), (Value.int .i64 i3), (Value.int .i64 i4), (Value.int .i64 i5)]), (box b2 4 [(Value.bool q1)])]) (L3 := [A0, (box b1 25 [(Value.int .i64 i2), (Value.int .i64 i3), (Value.int .i64 i4), (Value.int .i64 i5)]), (box b2 4 [(Value.bool q1)])]) rfl rfl (wanted_none rfl) (fun a => (hasA_cons (k := 1) rfl d1 hasA_base)) rfl (by simp [up, sel]) (ot_store (cs := [(Value.bool q1)]) (cs' := [(Value.bool q1)]) (us := [(Value.bool q1)]) (L' := [A0, (box b1 25 [(Value.int .i64 i2), (Value.int .i64 i3), (Value.int .i64 i4), (Value.int .i64 i5)]), (box b2 4 [(Value.bool q1)])]) 2 rfl rfl rfl (all_one rfl) F_size_4 rfl rfl (by simp) rfl) (offT_spec rfl)
        · intro done hall
          refine draw_endL [A0, (box b1 25 [(Value.int .i64 i2), (Value.int .i64 i3), (Value.int .i64 i4), (Value.int .i64 i5)]), (box b2 4 [(Value.bool q1)])] rfl (fun a => (hasA_cons (k := 0) rfl (hall 0 (by decide)) (hasA_cons (k := 1) rfl (hall 1 (by decide)) hasA_base))) ?_
          refine ent_retc ?_
          cases H1
          exact ret_memp [0] (by decide) rfl (vs := [(Value.agg #[(Value.int .i64 i2), (Value.int .i64 i3), (Value.int .i64 i4), (Value.int .i64 i5)]), (Value.bool q1)]) rfl ⟨⟨_, [(Value.int .i64 i2), (Value.int .i64 i3), (Value.int .i64 i4), (Value.int .i64 i5)], rfl, reads_boxW (i := 1) rfl, .inl ⟨F_agg_25, F_size_25, rfl⟩⟩, ⟨⟨_, [(Value.bool q1)], rfl, reads_box1 (i := 2) rfl rfl, .inr ⟨F_agg_4, rfl⟩⟩, trivial⟩⟩ _ rfl ⟨rfl, rfl⟩

set_option maxRecDepth 100000 in
theorem ossuarylaw05_alive.spec (K : Nat) (r : Bool) (H : ossuarylaw05_alive K = some r) : FnSpec Try.prog 15 [] [] (fun v M => v = (Value.bool r) ∧ M = []) := by
  unfold ossuarylaw05_alive at H
  refine spec_of Try.func15 rfl 14 rfl (Nat.le_of_ble_eq_true rfl) fun F w0 => ?_
  show Ent (St 14 w0 F [] []) _
  refine ent_seq ?_
  refine ent_region ?_
  refine ent_value (ov_assign rfl) rfl rfl rfl ?_
  refine ent_nil ?_
  refine ent_seq ?_
  refine ent_region ?_
  refine ent_op (ot_buildSlice (sz := 0) (xs := [.const (Value.int .i64 3), .const (Value.int .i64 (-1))]) (cs := fl (eI .i64) [3, (-1)]) rfl rfl F_slice_22 F_size_2 F_zero_2 rfl rfl (all_size rfl) rfl (by decide)) rfl rfl rfl ?_
  rintro sv1 _ rfl
  obtain ⟨x1, h1, H⟩ := Option.bind_eq_some_iff.1 H
  refine ent_op (ot_call_same (Lr := []) [0] [0] (first := []) (cap := []) (xs := [.tmp 4]) rfl rfl F_call_16 rfl (cell_All.spec K sv1 (own sv1 2 1 [3, (-1)].length (fl (eI .i64) [3, (-1)])) [3, (-1)] (isRd_ownx 2) _ h1) (by decide) rfl (by decide) rfl) rfl rfl rfl ?_
  rintro _ _ ⟨rfl, rfl⟩
  refine ent_value (ov_move rfl) rfl rfl rfl ?_
  refine ent_value (ov_extract rfl rfl) rfl rfl rfl ?_
  refine ent_value (ov_extract rfl rfl) rfl rfl rfl ?_
  refine ent_op (ot_alloc F_zero_25) rfl rfl rfl ?_
  rintro _ _ ⟨b1, rfl, rfl⟩
  refine ent_op0 (ot_store (cs := [(Value.int .i64 0), (Value.int .i64 0), (Value.int .i64 0), (Value.int .i64 0)]) (cs' := [(Value.int .i64 x1.1), (Value.int .i64 x1.2.1), (Value.int .i64 x1.2.2.1), (Value.int .i64 x1.2.2.2.1)]) (us := [(Value.int .i64 x1.1), (Value.int .i64 x1.2.1), (Value.int .i64 x1.2.2.1), (Value.int .i64 x1.2.2.2.1)]) (L' := [(box b1 25 [(Value.int .i64 x1.1), (Value.int .i64 x1.2.1), (Value.int .i64 x1.2.2.1), (Value.int .i64 x1.2.2.2.1)]), (own sv1 2 1 [3, (-1)].length (fl (eI .i64) [3, (-1)]))]) 0 rfl rfl rfl (all_one rfl) F_size_25 rfl rfl (by simp) rfl) rfl rfl ?_
  rintro _ _ rfl
  refine ent_value (ov_assign rfl) rfl rfl rfl ?_
  refine ent_nil ?_
  refine ent_seq ?_
  refine ent_region ?_
  refine ent_value (ov_move rfl) rfl rfl rfl ?_
  refine ent_value (ov_move rfl) rfl rfl rfl ?_
  by_cases c1 : x1.2.2.2.2 = true
  · rw [if_pos c1] at H
    refine ent_value_on (ov_load_agg (vs := [(Value.int .i64 x1.1), (Value.int .i64 x1.2.1), (Value.int .i64 x1.2.2.1), (Value.int .i64 x1.2.2.2.1)]) rfl F_agg_25 F_size_25 (reads_boxW (i := 0) rfl)) rfl rfl rfl c1 rfl rfl ?_
    refine ent_value_on (ov_build (is := [0, 1, 2, 3]) (xs := [.const (Value.int .i64 2), .const (Value.int .i64 2), .const (Value.int .i64 (-1)), .const (Value.int .i64 3)]) (vs := [(Value.int .i64 2), (Value.int .i64 2), (Value.int .i64 (-1)), (Value.int .i64 3)]) rfl rfl (build_struct (cs := [(Value.int .i64 2), (Value.int .i64 2), (Value.int .i64 (-1)), (Value.int .i64 3)]) F_zero_25 F_places_25 rfl)) rfl rfl rfl c1 rfl rfl ?_
    refine ent_value_on (ov_bin rfl rfl (same_25 _ _ _ _ _ _ _ _)) rfl rfl rfl c1 rfl rfl ?_
    refine ent_value (ov_pick rfl rfl rfl (pick_t c1)) rfl rfl rfl ?_
    refine ent_value (ov_assign rfl) rfl rfl rfl ?_
    refine ent_nil ?_
    refine ent_retc ?_
    cases H
    refine ent_pick [] (by decide) rfl ?_
    exact ret_tmp rfl rfl ⟨rfl, rfl⟩
  · rw [if_neg c1] at H
    refine ent_off rfl rfl rfl (Bool.eq_false_iff.2 c1) rfl rfl ?_
    refine ent_off rfl rfl rfl (Bool.eq_false_iff.2 c1) rfl rfl ?_
    refine ent_off rfl rfl rfl (Bool.eq_false_iff.2 c1) rfl rfl ?_
    refine ent_value (ov_pick rfl rfl rfl (pick_f (Bool.eq_false_iff.2 c1))) rfl rfl rfl ?_
    refine ent_value (ov_assign rfl) rfl rfl rfl ?_
    refine ent_nil ?_
    refine ent_retc ?_
    cases H
    refine ent_pick [] (by decide) rfl ?_
    exact ret_tmp rfl rfl ⟨rfl, rfl⟩

set_option maxRecDepth 100000 in
theorem cell_size.spec (a0 : Int) (r : Int) (H : cell_size a0 = r) : FnSpec Try.prog 69 [(Value.int .i64 a0)] [] (fun v M => v = (Value.int .u64 r) ∧ M = []) := by
  unfold cell_size at H
  refine spec_of Try.func69 rfl 12 rfl (Nat.le_of_ble_eq_true rfl) fun F w0 => ?_
  show Ent (St 12 w0 F [(0, (Value.int .i64 a0))] []) _
  refine ent_seq ?_
  refine ent_region ?_
  refine ent_value (ov_assign rfl) rfl rfl rfl ?_
  refine ent_nil ?_
  refine ent_seq ?_
  refine ent_region ?_
  refine ent_value (ov_move rfl) rfl rfl rfl ?_
  refine ent_value (ov_bin rfl rfl fun w => b_shr _ _ _ _ w (by decide)) rfl rfl rfl ?_
  refine ent_value (ov_assign rfl) rfl rfl rfl ?_
  refine ent_nil ?_
  refine ent_seq ?_
  refine ent_region ?_
  refine ent_value (ov_move rfl) rfl rfl rfl ?_
  refine ent_value (ov_move rfl) rfl rfl rfl ?_
  refine ent_value (ov_bin rfl rfl (b_xor _ _ _)) rfl rfl rfl ?_
  refine ent_value (ov_move rfl) rfl rfl rfl ?_
  refine ent_value (ov_bin rfl rfl (b_sub _ _ _) ) rfl rfl rfl ?_
  refine ent_value (ov_convert rfl (c_int Try.underlying2 Try.underlying90)) rfl rfl rfl ?_
  refine ent_value (ov_assign rfl) rfl rfl rfl ?_
  refine ent_nil ?_
  refine ent_retc ?_
  cases H
  exact ret_tmp rfl rfl ⟨rfl, rfl⟩

set_option maxRecDepth 100000 in
theorem cell_Weight.spec (K : Nat) (sv0 : Value) (A0 : HP) (l0 : List Int) (hA0 : IsRd A0 sv0 l0.length 1 (fl (eI .i64) l0)) (r : (Int × Bool)) (H : cell_Weight K l0 = some r) : FnSpec Try.prog 18 [sv0] [A0] (fun v M => v = (Value.tuple #[(Value.int .i64 r.1), (Value.bool r.2)]) ∧ M = [A0]) := by
  unfold cell_Weight at H
  refine spec_of Try.func18 rfl 22 rfl (Nat.le_of_ble_eq_true rfl) fun F w0 => ?_
  show Ent (St 22 w0 F [(0, sv0)] [A0]) _
  refine ent_seq ?_
  refine ent_region ?_
  refine ent_value (ov_assign rfl) rfl rfl rfl ?_
  refine ent_value (ov_assign rfl) rfl rfl rfl ?_
  refine ent_nil ?_
  refine ent_seq ?_
  refine ent_region ?_
  refine ent_value (ov_assign rfl) rfl rfl rfl ?_
  refine ent_nil ?_
  refine ent_seq ?_
  refine ent_seq ?_
  refine ent_region ?_
  refine ent_value (ov_move rfl) rfl rfl rfl ?_
  refine ent_value (ov_len 0 rfl F_slice_22 rfl hA0) rfl rfl rfl ?_
  refine ent_value (ov_move rfl) rfl rfl rfl ?_
  refine ent_nil ?_
  refine ent_block ?_
  refine ent_loop (fun k a w => ∃ i2, ∃ i3, cell_Weight_l0 K l0 k i2 i3 = some r ∧ St 22 w0 F [(4, (Value.int .u64 i2)), (7, sv0), (8, (Value.int .i64 (l0.length : Int))), (9, (Value.int .i64 i3))] [A0] a w) K ?_ ?_
  · exact ent_fin [0] (by decide) rfl (sub_cons (t := 4) rfl (sub_cons (t := 7) rfl (sub_cons (t := 8) rfl (sub_cons (t := 9) rfl (sub_nil _))))) fun a w h => ⟨_, _, H, h⟩
  · refine fun k => ent_exi fun i2 => ent_exi fun i3 => ent_and fun H1 => ?_
    cases k with
    | zero => exact absurd H1 (by simp [cell_Weight_l0])
    | succ k =>
      rw [cell_Weight_l0] at H1
      refine ent_seq ?_
      refine ent_region ?_
      refine ent_value (ov_bin rfl rfl (b_lss _ _ _)) rfl rfl rfl ?_
      refine ent_nil ?_
      refine ent_seq ?_
      by_cases c1 : i3 < (l0.length : Int)
      · rw [if_pos c1] at H1
        refine ent_cond_true rfl (decide_eq_true c1) ?_
        refine ent_skip ?_
        refine ent_seq ?_
        refine ent_block ?_
        refine ent_seq ?_
        refine ent_region ?_
        by_cases c2 : 0 ≤ i3
        · rw [if_pos c2] at H1
          refine ent_value (ov_indexAddr (sz := 0) 0 rfl rfl F_slice_22 F_size_2 rfl hA0 c2 c1) rfl rfl rfl ?_
          refine ent_value (ov_load (v := (Value.int .i64 (l0.getD i3.toNat 0))) rfl F_agg_2 (reads_rd (i := 0) rfl hA0 (by simp) (fl_read0 (eI_len _) (ix_lt c2 c1) rfl))) rfl rfl rfl ?_
          refine ent_value (ov_assign rfl) rfl rfl rfl ?_
          refine ent_nil ?_
          refine ent_seq ?_
          refine ent_region ?_
          refine ent_value (ov_move rfl) rfl rfl rfl ?_
          refine ent_value (ov_move rfl) rfl rfl rfl ?_
          obtain ⟨x1, h1, H1⟩ := thn_elim H1
          refine ent_op (ot_call0 (first := []) (cap := []) (xs := [.tmp 14]) rfl rfl F_call_69 rfl (cell_size.spec (l0.getD i3.toNat 0) _ h1)) rfl rfl rfl ?_
          rintro _ _ ⟨rfl, rfl⟩
          refine ent_value (ov_bin rfl rfl (b_add _ _ _) ) rfl rfl rfl ?_
          refine ent_value (ov_assign rfl) rfl rfl rfl ?_
          refine ent_nil ?_
          refine ent_seq ?_
          refine ent_region ?_
          refine ent_value (ov_move rfl) rfl rfl rfl ?_
          refine ent_value (ov_bin rfl rfl (b_gtr _ _ _)) rfl rfl rfl ?_
          refine ent_nil ?_
          by_cases c3 : 4611686018427387904 < (wu64 (i2 + x1))
          · rw [if_pos c3] at H1
            refine ent_cond_true rfl (decide_eq_true c3) ?_
            refine ent_seq ?_
            refine ent_region ?_
            refine ent_value (ov_assign rfl) rfl rfl rfl ?_
            refine ent_value (ov_assign rfl) rfl rfl rfl ?_
            refine ent_nil ?_
            refine ent_retc ?_
            cases H1
            exact ret_mem (vs := [(Value.int .i64 0), (Value.bool false)]) rfl ⟨rfl, ⟨rfl, trivial⟩⟩ _ rfl ⟨rfl, rfl⟩
          · rw [if_neg c3] at H1
            refine ent_cond_false rfl (decide_eq_false c3) ?_
            refine ent_skip ?_
            refine ent_region ?_
            refine ent_value (ov_bin rfl rfl (b_add _ _ _) ) rfl rfl rfl ?_
            refine ent_value (ov_move rfl) rfl rfl rfl ?_
            refine ent_nil ?_
            exact ent_fin [0] (by decide) rfl (sub_cons (t := 4) rfl (sub_cons (t := 7) rfl (sub_cons (t := 8) rfl (sub_cons (t := 9) rfl (sub_nil _))))) fun a w h => ⟨k, Nat.lt_succ_self k, _, _, H1, h⟩
        · rw [if_neg c2] at H1
          cases H1
      · rw [if_neg c1] at H1
        refine ent_cond_false rfl (decide_eq_false c1) ?_
        refine ent_exit ?_
        refine ent_seq ?_
        refine ent_region ?_
        refine ent_value (ov_move rfl) rfl rfl rfl ?_
        refine ent_value (ov_convert rfl (c_int Try.underlying90 Try.underlying2)) rfl rfl rfl ?_
        refine ent_value (ov_assign rfl) rfl rfl rfl ?_
        refine ent_value (ov_assign rfl) rfl rfl rfl ?_
        refine ent_nil ?_
        refine ent_retc ?_
        cases H1
        exact ret_mem (vs := [(Value.int .i64 (w64 i2)), (Value.bool true)]) rfl ⟨rfl, ⟨rfl, trivial⟩⟩ _ rfl ⟨rfl, rfl⟩

set_option maxRecDepth 100000 in
theorem cell_Right.spec (a0_0 : Int) (a0_1 : Int) (a0_2 : Int) (a0_3 : Int) (r : Bool) (H : cell_Right a0_0 a0_1 a0_2 a0_3 = r) : FnSpec Try.prog 22 [(Value.agg #[(Value.int .i64 a0_0), (Value.int .i64 a0_1), (Value.int .i64 a0_2), (Value.int .i64 a0_3)])] [] (fun v M => v = (Value.bool r) ∧ M = []) := by
  unfold cell_Right at H
  refine spec_of Try.func22 rfl 29 rfl (Nat.le_of_ble_eq_true rfl) fun F w0 => ?_
  show Ent (St 29 w0 F [(0, (Value.agg #[(Value.int .i64 a0_0), (Value.int .i64 a0_1), (Value.int .i64 a0_2), (Value.int .i64 a0_3)]))] []) _
  refine ent_seq ?_
  refine ent_region ?_
  refine ent_op (ot_box (cs := [(Value.int .i64 a0_0), (Value.int .i64 a0_1), (Value.int .i64 a0_2), (Value.int .i64 a0_3)]) rfl rfl) rfl rfl rfl ?_
  rintro _ _ ⟨b1, rfl, rfl⟩
  refine ent_value (ov_assign rfl) rfl rfl rfl ?_
  refine ent_nil ?_
  refine ent_seq ?_
  refine ent_block ?_
  refine ent_seq ?_
  refine ent_region ?_
  refine ent_value (ov_fieldAddr (sz := 0) (o := 0) rfl F_field_25_0 F_size_2) rfl rfl rfl ?_
  refine ent_value (ov_load (v := (Value.int .i64 a0_0)) rfl F_agg_2 (reads_box1 (i := 0) rfl rfl)) rfl rfl rfl ?_
  refine ent_value (ov_bin rfl rfl (b_eql _ _ _)) rfl rfl rfl ?_
  refine ent_value (ov_assign rfl) rfl rfl rfl ?_
  refine ent_nil ?_
  by_cases c1 : a0_0 = 0
  · rw [if_pos c1] at H
    refine ent_cond_true rfl (by simpa using c1) ?_
    refine ent_seq ?_
    refine ent_region ?_
    refine ent_value (ov_load_agg (vs := [(Value.int .i64 a0_0), (Value.int .i64 a0_1), (Value.int .i64 a0_2), (Value.int .i64 a0_3)]) rfl F_agg_25 F_size_25 (reads_boxW (i := 0) rfl)) rfl rfl rfl ?_
    refine ent_value (ov_build (is := []) (xs := []) (vs := []) rfl rfl (build_struct (cs := [(Value.int .i64 0), (Value.int .i64 0), (Value.int .i64 0), (Value.int .i64 0)]) F_zero_25 F_places_25 rfl)) rfl rfl rfl ?_
    refine ent_value (ov_bin rfl rfl (same_25 _ _ _ _ _ _ _ _)) rfl rfl rfl ?_
    refine ent_value (ov_assign rfl) rfl rfl rfl ?_
    refine ent_nil ?_
    refine ent_retc ?_
    cases H
    refine ent_pick [] (by decide) rfl ?_
    exact ret_tmp rfl rfl ⟨rfl, rfl⟩
  · rw [if_neg c1] at H
    refine ent_cond_false rfl (by simpa using c1) ?_
    refine ent_seq ?_
    refine ent_region ?_
    refine ent_value (ov_fieldAddr (sz := 0) (o := 0) rfl F_field_25_0 F_size_2) rfl rfl rfl ?_
    refine ent_value (ov_load (v := (Value.int .i64 a0_0)) rfl F_agg_2 (reads_box1 (i := 0) rfl rfl)) rfl rfl rfl ?_
    refine ent_value (ov_bin rfl rfl (b_eql _ _ _)) rfl rfl rfl ?_
    refine ent_value (ov_assign rfl) rfl rfl rfl ?_
    refine ent_nil ?_
    by_cases c2 : a0_0 = 1
    · rw [if_pos c2] at H
      refine ent_cond_true rfl (by simpa using c2) ?_
      refine ent_seq ?_
      obtain ⟨x1, h1, H⟩ := thn_elim H
      refine ent_drawm 6 rfl (fun done a w => StD 29 w0 F [(0, (Value.agg #[(Value.int .i64 a0_0), (Value.int .i64 a0_1), (Value.int .i64 a0_2), (Value.int .i64 a0_3)])), (1, (pt b1 0)), (3, (Value.bool (a0_0 == 0))), (4, (pt b1 0)), (5, (Value.int .i64 a0_0)), (6, (Value.bool (a0_0 == 0))), (10, (Value.bool (a0_0 == 1))), (11, (pt b1 0)), (12, (Value.int .i64 a0_0)), (13, (Value.bool (a0_0 == 1)))] [(0, 14, (Value.agg #[(Value.int .i64 a0_0), (Value.int .i64 a0_1), (Value.int .i64 a0_2), (Value.int .i64 a0_3)])), (1, 15, (pt b1 1)), (2, 16, (Value.int .i64 a0_1)), (3, 17, (Value.agg #[(Value.int .i64 x1.1), (Value.int .i64 x1.2.1), (Value.int .i64 x1.2.2.1), (Value.int .i64 x1.2.2.2)])), (4, 18, (Value.bool ((a0_0 == x1.1) && ((a0_1 == x1.2.1) && ((a0_2 == x1.2.2.1) && ((a0_3 == x1.2.2.2) && true)))))), (5, 2, (Value.bool ((a0_0 == x1.1) && ((a0_1 == x1.2.1) && ((a0_2 == x1.2.2.1) && ((a0_3 == x1.2.2.2) && true))))))] done [(box b1 25 [(Value.int .i64 a0_0), (Value.int .i64 a0_1), (Value.int .i64 a0_2), (Value.int .i64 a0_3)])] a w) (by kernel_rfl) (by kernel_rfl) (draw_startL (sub_cons (t := 0) rfl (sub_cons (t := 1) rfl (sub_cons (t := 3) rfl (sub_cons (t := 4) rfl (sub_cons (t := 5) rfl (sub_cons (t := 6) rfl (sub_cons (t := 10) rfl (sub_cons (t := 11) rfl (sub_cons (t := 12) rfl (sub_cons (t := 13) rfl (sub_nil _))))))))))) rfl) ?_ ?_
      · refine ⟨?_, ?_, ?_, ?_, ?_, ?_, trivial⟩
        · intro done hi hc hcu
          exact draw_value (i := 0) (t := 14) (v := (Value.agg #[(Value.int .i64 a0_0), (Value.int .i64 a0_1), (Value.int .i64 a0_2), (Value.int .i64 a0_3)])) rfl rfl (wanted_none rfl) (fun a => hasA_base) (ov_load_agg (vs := [(Value.int .i64 a0_0), (Value.int .i64 a0_1), (Value.int .i64 a0_2), (Value.int .i64 a0_3)]) rfl F_agg_25 F_size_25 (reads_boxW (i := 0) rfl)) rfl rfl (onlyT_spec (k0 := 0) rfl rfl rfl)
        · intro done hi hc hcu
          exact draw_value (i := 1) (t := 15) (v := (pt b1 1)) rfl rfl (wanted_none rfl) (fun a => hasA_base) (ov_fieldAddr (sz := 0) (o := 0) rfl F_field_25_1 F_size_2) rfl rfl (onlyT_spec (k0 := 1) rfl rfl rfl)
        · intro done hi hc hcu
          have d1 : done 1 = true := done_of (j := 1) hcu rfl (by decide) rfl
          exact draw_value (i := 2) (t := 16) (v := (Value.int .i64 a0_1)) rfl rfl (wanted_none rfl) (fun a => (hasA_cons (k := 1) rfl d1 hasA_base)) (ov_load (v := (Value.int .i64 a0_1)) rfl F_agg_2 (reads_box1 (i := 0) rfl rfl)) rfl rfl (onlyT_spec (k0 := 2) rfl rfl rfl)
        · intro done hi hc hcu
          have d2 : done 2 = true := done_of (j := 2) hcu rfl (by decide) rfl
          exact draw_same (i := 3) (t := 17) (v := (Value.agg #[(Value.int .i64 x1.1), (Value.int .i64 x1.2.1), (Value.int .i64 x1.2.2.1), (Value.int .i64 x1.2.2.2)])) rfl rfl (wanted_none rfl) (fun a => (hasA_cons (k := 2) rfl d2 hasA_base)) (ot_call0 (first := []) (cap := []) (xs := [.tmp 16]) rfl rfl F_call_66 rfl (cell_Of.spec a0_1 _ h1)) rfl rfl (onlyT_spec (k0 := 3) rfl rfl rfl)
        · intro done hi hc hcu
          have d0 : done 0 = true := done_of (j := 0) hcu rfl (by decide) rfl
          have d3 : done 3 = true := done_of (j := 3) hcu rfl (by decide) rfl
          exact draw_value (i := 4) (t := 18) (v := (Value.bool ((a0_0 == x1.1) && ((a0_1 == x1.2.1) && ((a0_2 == x1.2.2.1) && ((a0_3 == x1.2.2.2) && true)))))) rfl rfl (wanted_none rfl) (fun a => (hasA_cons (k := 3) rfl d3 (hasA_cons (k := 0) rfl d0 hasA_base))) (ov_bin rfl rfl (same_25 _ _ _ _ _ _ _ _)) rfl rfl (onlyT_spec (k0 := 4) rfl rfl rfl)
        · intro done hi hc hcu
          have d4 : done 4 = true := done_of (j := 4) hcu rfl (by decide) rfl
          exact draw_value (i := 5) (t := 2) (v := (Value.bool ((a0_0 == x1.1) && ((a0_1 == x1.2.1) && ((a0_2 == x1.2.2.1) && ((a0_3 == x1.2.2.2) && true)))))) rfl rfl (wanted_none rfl) (fun a => (hasA_cons (k := 4) rfl d4 hasA_base)) (ov_assign rfl) rfl rfl (onlyT_spec (k0 := 5) rfl rfl rfl)
      · intro done hall
        refine draw_endL [(box b1 25 [(Value.int .i64 a0_0), (Value.int .i64 a0_1), (Value.int .i64 a0_2), (Value.int .i64 a0_3)])] rfl (fun a => (hasA_cons (k := 5) rfl (hall 5 (by decide)) (hasA_cons (k := 0) rfl (hall 0 (by decide)) (hasA_cons (k := 1) rfl (hall 1 (by decide)) (hasA_cons (k := 2) rfl (hall 2 (by decide)) (hasA_cons (k := 3) rfl (hall 3 (by decide)) (hasA_cons (k := 4) rfl (hall 4 (by decide)) hasA_base))))))) ?_
        refine ent_retc ?_
        cases H
        refine ent_pick [] (by decide) rfl ?_
        exact ret_tmp rfl rfl ⟨rfl, rfl⟩
    · rw [if_neg c2] at H
      refine ent_cond_false rfl (by simpa using c2) ?_
      refine ent_skip ?_
      refine ent_seq ?_
      refine ent_region ?_
      refine ent_value (ov_fieldAddr (sz := 0) (o := 0) rfl F_field_25_0 F_size_2) rfl rfl rfl ?_
      refine ent_value (ov_load (v := (Value.int .i64 a0_0)) rfl F_agg_2 (reads_box1 (i := 0) rfl rfl)) rfl rfl rfl ?_
      refine ent_value (ov_bin rfl rfl (b_gtr _ _ _)) rfl rfl rfl ?_
      refine ent_value (ov_move rfl) rfl rfl rfl ?_
      by_cases c3 : 0 < a0_0
      · rw [if_pos c3] at H
        refine ent_value_on (ov_fieldAddr (sz := 0) (o := 0) rfl F_field_25_2 F_size_2) rfl rfl rfl (decide_eq_true c3) rfl rfl ?_
        refine ent_value_on (ov_load (v := (Value.int .i64 a0_2)) rfl F_agg_2 (reads_box1 (i := 0) rfl rfl)) rfl rfl rfl (decide_eq_true c3) rfl rfl ?_
        refine ent_value_on (ov_fieldAddr (sz := 0) (o := 0) rfl F_field_25_3 F_size_2) rfl rfl rfl (decide_eq_true c3) rfl rfl ?_
        refine ent_value_on (ov_load (v := (Value.int .i64 a0_3)) rfl F_agg_2 (reads_box1 (i := 0) rfl rfl)) rfl rfl rfl (decide_eq_true c3) rfl rfl ?_
        refine ent_value_on (ov_bin rfl rfl (b_leq _ _ _)) rfl rfl rfl (decide_eq_true c3) rfl rfl ?_
        refine ent_value (ov_pick rfl rfl rfl (pick_t (decide_eq_true c3))) rfl rfl rfl ?_
        refine ent_value (ov_assign rfl) rfl rfl rfl ?_
        refine ent_nil ?_
        refine ent_retc ?_
        cases H
        refine ent_pick [] (by decide) rfl ?_
        exact ret_tmp rfl rfl ⟨rfl, rfl⟩
      · rw [if_neg c3] at H
        refine ent_off rfl rfl rfl (decide_eq_false c3) rfl rfl ?_
        refine ent_off rfl rfl rfl (decide_eq_false c3) rfl rfl ?_
        refine ent_off rfl rfl rfl (decide_eq_false c3) rfl rfl ?_
        refine ent_off rfl rfl rfl (decide_eq_false c3) rfl rfl ?_
        refine ent_off rfl rfl rfl (decide_eq_false c3) rfl rfl ?_
        refine ent_value (ov_pick rfl rfl rfl (pick_f (decide_eq_false c3))) rfl rfl rfl ?_
        refine ent_value (ov_assign rfl) rfl rfl rfl ?_
        refine ent_nil ?_
        refine ent_retc ?_
        cases H
        refine ent_pick [] (by decide) rfl ?_
        exact ret_tmp rfl rfl ⟨rfl, rfl⟩

set_option maxRecDepth 100000 in
theorem ossuarylaw05_CellWeighs.spec (K : Nat) (A0 : HP) (sv0 : Value) (l0 : List Int) (a1 : Int) (hA0 : IsRd A0 sv0 l0.length 1 (fl (eI .i64) l0)) (r : Bool) (H : ossuarylaw05_CellWeighs K l0 a1 = some r) : FnSpec Try.prog 5 [sv0, (Value.int .i64 a1)] [A0] (fun v M => v = (Value.bool r) ∧ M = [A0]) := by
  unfold ossuarylaw05_CellWeighs at H
  refine spec_of Try.func5 rfl 108 rfl (Nat.le_of_ble_eq_true rfl) fun F w0 => ?_
  show Ent (St 108 w0 F [(0, sv0), (1, (Value.int .i64 a1))] [A0]) _
  refine ent_seq ?_
  refine ent_region ?_
  refine ent_value (ov_assign rfl) rfl rfl rfl ?_
  refine ent_nil ?_
  refine ent_seq ?_
  refine ent_seq ?_
  refine ent_region ?_
  refine ent_value (ov_move rfl) rfl rfl rfl ?_
  refine ent_value (ov_len 0 rfl F_slice_22 rfl hA0) rfl rfl rfl ?_
  refine ent_value (ov_bin rfl rfl (b_gtr _ _ _)) rfl rfl rfl ?_
  refine ent_value (ov_move rfl) rfl rfl rfl ?_
  by_cases c1 : 200 < (l0.length : Int)
  · rw [if_pos c1] at H
    refine ent_off rfl rfl rfl (decide_eq_true c1) rfl rfl ?_
    refine ent_off rfl rfl rfl (decide_eq_true c1) rfl rfl ?_
    refine ent_value (ov_pick rfl rfl rfl (pick_t (decide_eq_true c1))) rfl rfl rfl ?_
    refine ent_value (ov_move rfl) rfl rfl rfl ?_
    refine ent_off rfl rfl rfl rfl rfl rfl ?_
    refine ent_off rfl rfl rfl rfl rfl rfl ?_
    refine ent_off rfl rfl rfl rfl rfl rfl ?_
    refine ent_off rfl rfl rfl rfl rfl rfl ?_
    refine ent_value (ov_pick rfl rfl rfl rfl) rfl rfl rfl ?_
    refine ent_nil ?_
    refine ent_cond_true rfl rfl ?_
    refine ent_seq ?_
    refine ent_region ?_
    obtain ⟨x1, h1, H⟩ := Option.bind_eq_some_iff.1 H
    refine ent_op (ot_call0 (first := []) (cap := []) (xs := []) rfl rfl F_call_15 rfl (ossuarylaw05_alive.spec K _ h1)) rfl rfl rfl ?_
    rintro _ _ ⟨rfl, rfl⟩
    refine ent_value (ov_assign rfl) rfl rfl rfl ?_
    refine ent_nil ?_
    refine ent_retc ?_
    cases H
    exact ret_tmp rfl rfl ⟨rfl, rfl⟩
  · rw [if_neg c1] at H
    refine ent_value_on (ov_move rfl) rfl rfl rfl (decide_eq_false c1) rfl rfl ?_
    refine ent_value_on (ov_bin rfl rfl (b_lss _ _ _)) rfl rfl rfl (decide_eq_false c1) rfl rfl ?_
    refine ent_value (ov_pick rfl rfl rfl (pick_f (decide_eq_false c1))) rfl rfl rfl ?_
    refine ent_value (ov_move rfl) rfl rfl rfl ?_
    by_cases c2 : a1 < 0
    · rw [if_pos c2] at H
      refine ent_off rfl rfl rfl (decide_eq_true c2) rfl rfl ?_
      refine ent_off rfl rfl rfl (decide_eq_true c2) rfl rfl ?_
      refine ent_off rfl rfl rfl (decide_eq_true c2) rfl rfl ?_
      refine ent_off rfl rfl rfl (decide_eq_true c2) rfl rfl ?_
      refine ent_value (ov_pick rfl rfl rfl (pick_t (decide_eq_true c2))) rfl rfl rfl ?_
      refine ent_nil ?_
      refine ent_cond_true rfl rfl ?_
      refine ent_seq ?_
      refine ent_region ?_
      obtain ⟨x2, h2, H⟩ := Option.bind_eq_some_iff.1 H
      refine ent_op (ot_call0 (first := []) (cap := []) (xs := []) rfl rfl F_call_15 rfl (ossuarylaw05_alive.spec K _ h2)) rfl rfl rfl ?_
      rintro _ _ ⟨rfl, rfl⟩
      refine ent_value (ov_assign rfl) rfl rfl rfl ?_
      refine ent_nil ?_
      refine ent_retc ?_
      cases H
      exact ret_tmp rfl rfl ⟨rfl, rfl⟩
    · rw [if_neg c2] at H
      refine ent_value_on (ov_move rfl) rfl rfl rfl (decide_eq_false c2) rfl rfl ?_
      refine ent_value_on (ov_move rfl) rfl rfl rfl (decide_eq_false c2) rfl rfl ?_
      refine ent_value_on (ov_len 0 rfl F_slice_22 rfl hA0) rfl rfl rfl (decide_eq_false c2) rfl rfl ?_
      refine ent_value_on (ov_bin rfl rfl (b_gtr _ _ _)) rfl rfl rfl (decide_eq_false c2) rfl rfl ?_
      refine ent_value (ov_pick rfl rfl rfl (pick_f (decide_eq_false c2))) rfl rfl rfl ?_
      refine ent_nil ?_
      by_cases c3 : (l0.length : Int) < a1
      · rw [if_pos c3] at H
        refine ent_cond_true rfl (decide_eq_true c3) ?_
        refine ent_seq ?_
        refine ent_region ?_
        obtain ⟨x3, h3, H⟩ := Option.bind_eq_some_iff.1 H
        refine ent_op (ot_call0 (first := []) (cap := []) (xs := []) rfl rfl F_call_15 rfl (ossuarylaw05_alive.spec K _ h3)) rfl rfl rfl ?_
        rintro _ _ ⟨rfl, rfl⟩
        refine ent_value (ov_assign rfl) rfl rfl rfl ?_
        refine ent_nil ?_
        refine ent_retc ?_
        cases H
        exact ret_tmp rfl rfl ⟨rfl, rfl⟩
      · rw [if_neg c3] at H
        refine ent_cond_false rfl (decide_eq_false c3) ?_
        refine ent_skip ?_
        refine ent_seq ?_
        refine ent_region ?_
        refine ent_value (ov_move rfl) rfl rfl rfl ?_
        obtain ⟨x4, h4, H⟩ := Option.bind_eq_some_iff.1 H
        refine ent_op (ot_call_same (Lr := []) [0] [0] (first := []) (cap := []) (xs := [.tmp 30]) rfl rfl F_call_18 rfl (cell_Weight.spec K sv0 A0 l0 hA0 _ h4) (by decide) rfl (by decide) rfl) rfl rfl rfl ?_
        rintro _ _ ⟨rfl, rfl⟩
        refine ent_value (ov_move rfl) rfl rfl rfl ?_
        refine ent_value (ov_extract rfl rfl) rfl rfl rfl ?_
        refine ent_value (ov_extract rfl rfl) rfl rfl rfl ?_
        refine ent_value (ov_assign rfl) rfl rfl rfl ?_
        refine ent_value (ov_assign rfl) rfl rfl rfl ?_
        refine ent_nil ?_
        refine ent_seq ?_
        refine ent_seq ?_
        refine ent_region ?_
        refine ent_value (ov_move rfl) rfl rfl rfl ?_
        refine ent_value (ov_un rfl (u_not _)) rfl rfl rfl ?_
        refine ent_nil ?_
        by_cases c4 : (!x4.2) = true
        · rw [if_pos c4] at H
          refine ent_cond_true rfl c4 ?_
          refine ent_seq ?_
          refine ent_region ?_
          refine ent_value (ov_move rfl) rfl rfl rfl ?_
          refine ent_value (ov_bin rfl rfl (b_eql _ _ _)) rfl rfl rfl ?_
          refine ent_value (ov_move rfl) rfl rfl rfl ?_
          by_cases c5 : x4.1 = 0
          · rw [if_pos c5] at H
            obtain ⟨x5, h5, H⟩ := Option.bind_eq_some_iff.1 H
            refine ent_op_on (ot_call0 (first := []) (cap := []) (xs := []) rfl rfl F_call_15 rfl (ossuarylaw05_alive.spec K _ h5)) rfl rfl rfl (by simpa using c5) rfl rfl ?_
            rintro _ _ ⟨rfl, rfl⟩
            refine ent_value (ov_pick rfl rfl rfl (pick_t (by simpa using c5))) rfl rfl rfl ?_
            refine ent_value (ov_assign rfl) rfl rfl rfl ?_
            refine ent_nil ?_
            refine ent_retc ?_
            cases H
            exact ret_tmp rfl rfl ⟨rfl, rfl⟩
          · rw [if_neg c5] at H
            refine ent_off rfl rfl rfl (by simpa using c5) rfl rfl ?_
            refine ent_value (ov_pick rfl rfl rfl (pick_f (by simpa using c5))) rfl rfl rfl ?_
            refine ent_value (ov_assign rfl) rfl rfl rfl ?_
            refine ent_nil ?_
            refine ent_retc ?_
            cases H
            exact ret_tmp rfl rfl ⟨rfl, rfl⟩
        · rw [if_neg c4] at H
          refine ent_cond_false rfl (Bool.eq_false_iff.2 c4) ?_
          refine ent_skip ?_
          refine ent_seq ?_
          refine ent_region ?_
          refine ent_value (ov_move rfl) rfl rfl rfl ?_
          obtain ⟨x6, h6, H⟩ := Option.bind_eq_some_iff.1 H
          refine ent_op (ot_call_same (Lr := []) [0] [0] (first := []) (cap := []) (xs := [.tmp 42]) rfl rfl F_call_16 rfl (cell_All.spec K sv0 A0 l0 hA0 _ h6) (by decide) rfl (by decide) rfl) rfl rfl rfl ?_
          rintro _ _ ⟨rfl, rfl⟩
          refine ent_value (ov_move rfl) rfl rfl rfl ?_
          refine ent_value (ov_extract rfl rfl) rfl rfl rfl ?_
          refine ent_value (ov_extract rfl rfl) rfl rfl rfl ?_
          refine ent_op (ot_alloc F_zero_25) rfl rfl rfl ?_
          rintro _ _ ⟨b1, rfl, rfl⟩
          refine ent_op0 (ot_store (cs := [(Value.int .i64 0), (Value.int .i64 0), (Value.int .i64 0), (Value.int .i64 0)]) (cs' := [(Value.int .i64 x6.1), (Value.int .i64 x6.2.1), (Value.int .i64 x6.2.2.1), (Value.int .i64 x6.2.2.2.1)]) (us := [(Value.int .i64 x6.1), (Value.int .i64 x6.2.1), (Value.int .i64 x6.2.2.1), (Value.int .i64 x6.2.2.2.1)]) (L' := [(box b1 25 [(Value.int .i64 x6.1), (Value.int .i64 x6.2.1), (Value.int .i64 x6.2.2.1), (Value.int .i64 x6.2.2.2.1)]), A0]) 0 rfl rfl rfl (all_one rfl) F_size_25 rfl rfl (by simp) rfl) rfl rfl ?_
          rintro _ _ rfl
          refine ent_value (ov_assign rfl) rfl rfl rfl ?_
          refine ent_nil ?_
          refine ent_seq ?_
          refine ent_region ?_
          refine ent_value (ov_move rfl) rfl rfl rfl ?_
          refine ent_value (ov_move rfl) rfl rfl rfl ?_
          by_cases c6 : 0 ≤ a1
          · rw [if_pos c6] at H
            by_cases c7 : a1 ≤ (l0.length : Int)
            · rw [if_pos c7] at H
              refine ent_value (ov_slice_hi 1 rfl rfl F_slice_22 F_size_2 rfl hA0 c6 c7) rfl rfl rfl ?_
              obtain ⟨x7, h7, H⟩ := Option.bind_eq_some_iff.1 H
              refine ent_op (ot_call_same (Lr := [(box b1 25 [(Value.int .i64 x6.1), (Value.int .i64 x6.2.1), (Value.int .i64 x6.2.2.1), (Value.int .i64 x6.2.2.2.1)])]) [1, 0] [1, 0] (first := []) (cap := []) (xs := [.tmp 49]) rfl rfl F_call_16 rfl (cell_All.spec K (subs sv0 0 a1.toNat 1) A0 (l0.take a1.toNat) (isRd_take (eI_len _) hA0 (nat_le c6 c7)) _ h7) (by decide) rfl (by decide) rfl) rfl rfl rfl ?_
              rintro _ _ ⟨rfl, rfl⟩
              refine ent_value (ov_move rfl) rfl rfl rfl ?_
              refine ent_value (ov_extract rfl rfl) rfl rfl rfl ?_
              refine ent_value (ov_extract rfl rfl) rfl rfl rfl ?_
              refine ent_op (ot_alloc F_zero_25) rfl rfl rfl ?_
              rintro _ _ ⟨b2, rfl, rfl⟩
              refine ent_op0 (ot_store (cs := [(Value.int .i64 0), (Value.int .i64 0), (Value.int .i64 0), (Value.int .i64 0)]) (cs' := [(Value.int .i64 x7.1), (Value.int .i64 x7.2.1), (Value.int .i64 x7.2.2.1), (Value.int .i64 x7.2.2.2.1)]) (us := [(Value.int .i64 x7.1), (Value.int .i64 x7.2.1), (Value.int .i64 x7.2.2.1), (Value.int .i64 x7.2.2.2.1)]) (L' := [(box b2 25 [(Value.int .i64 x7.1), (Value.int .i64 x7.2.1), (Value.int .i64 x7.2.2.1), (Value.int .i64 x7.2.2.2.1)]), (box b1 25 [(Value.int .i64 x6.1), (Value.int .i64 x6.2.1), (Value.int .i64 x6.2.2.1), (Value.int .i64 x6.2.2.2.1)]), A0]) 0 rfl rfl rfl (all_one rfl) F_size_25 rfl rfl (by simp) rfl) rfl rfl ?_
              rintro _ _ rfl
              refine ent_value (ov_assign rfl) rfl rfl rfl ?_
              refine ent_nil ?_
              refine ent_seq ?_
              refine ent_region ?_
              refine ent_value (ov_move rfl) rfl rfl rfl ?_
              refine ent_value (ov_move rfl) rfl rfl rfl ?_
              refine ent_value (ov_slice_lo 2 rfl rfl F_slice_22 F_size_2 rfl hA0 c6 c7) rfl rfl rfl ?_
              obtain ⟨x8, h8, H⟩ := Option.bind_eq_some_iff.1 H
              refine ent_op (ot_call_same (Lr := [(box b2 25 [(Value.int .i64 x7.1), (Value.int .i64 x7.2.1), (Value.int .i64 x7.2.2.1), (Value.int .i64 x7.2.2.2.1)]), (box b1 25 [(Value.int .i64 x6.1), (Value.int .i64 x6.2.1), (Value.int .i64 x6.2.2.1), (Value.int .i64 x6.2.2.2.1)])]) [2, 0, 1] [1, 2, 0] (first := []) (cap := []) (xs := [.tmp 56]) rfl rfl F_call_16 rfl (cell_All.spec K (subs sv0 a1.toNat l0.length 1) A0 (l0.drop a1.toNat) (isRd_drop (eI_len _) hA0 (nat_le c6 c7)) _ h8) (by decide) rfl (by decide) rfl) rfl rfl rfl ?_
              rintro _ _ ⟨rfl, rfl⟩
              refine ent_value (ov_move rfl) rfl rfl rfl ?_
              refine ent_value (ov_extract rfl rfl) rfl rfl rfl ?_
              refine ent_value (ov_extract rfl rfl) rfl rfl rfl ?_
              refine ent_op (ot_alloc F_zero_25) rfl rfl rfl ?_
              rintro _ _ ⟨b3, rfl, rfl⟩
              refine ent_op0 (ot_store (cs := [(Value.int .i64 0), (Value.int .i64 0), (Value.int .i64 0), (Value.int .i64 0)]) (cs' := [(Value.int .i64 x8.1), (Value.int .i64 x8.2.1), (Value.int .i64 x8.2.2.1), (Value.int .i64 x8.2.2.2.1)]) (us := [(Value.int .i64 x8.1), (Value.int .i64 x8.2.1), (Value.int .i64 x8.2.2.1), (Value.int .i64 x8.2.2.2.1)]) (L' := [(box b3 25 [(Value.int .i64 x8.1), (Value.int .i64 x8.2.1), (Value.int .i64 x8.2.2.1), (Value.int .i64 x8.2.2.2.1)]), (box b2 25 [(Value.int .i64 x7.1), (Value.int .i64 x7.2.1), (Value.int .i64 x7.2.2.1), (Value.int .i64 x7.2.2.2.1)]), (box b1 25 [(Value.int .i64 x6.1), (Value.int .i64 x6.2.1), (Value.int .i64 x6.2.2.1), (Value.int .i64 x6.2.2.2.1)]), A0]) 0 rfl rfl rfl (all_one rfl) F_size_25 rfl rfl (by simp) rfl) rfl rfl ?_
              rintro _ _ rfl
              refine ent_value (ov_assign rfl) rfl rfl rfl ?_
              refine ent_nil ?_
              refine ent_seq ?_
              refine ent_region ?_
              refine ent_value (ov_load_agg (vs := [(Value.int .i64 x8.1), (Value.int .i64 x8.2.1), (Value.int .i64 x8.2.2.1), (Value.int .i64 x8.2.2.2.1)]) rfl F_agg_25 F_size_25 (reads_boxW (i := 0) rfl)) rfl rfl rfl ?_
              refine ent_value (ov_load_agg (vs := [(Value.int .i64 x7.1), (Value.int .i64 x7.2.1), (Value.int .i64 x7.2.2.1), (Value.int .i64 x7.2.2.2.1)]) rfl F_agg_25 F_size_25 (reads_boxW (i := 1) rfl)) rfl rfl rfl ?_
              obtain ⟨x9, h9, H⟩ := thn_elim H
              refine ent_op (ot_call0 (first := []) (cap := []) (xs := [.tmp 61, .tmp 62]) rfl rfl F_call_24 rfl (cell_Merge.spec x8.1 x8.2.1 x8.2.2.1 x8.2.2.2.1 x7.1 x7.2.1 x7.2.2.1 x7.2.2.2.1 _ h9)) rfl rfl rfl ?_
              rintro _ _ ⟨rfl, rfl⟩
              refine ent_value (ov_move rfl) rfl rfl rfl ?_
              refine ent_value (ov_extract rfl rfl) rfl rfl rfl ?_
              refine ent_value (ov_extract rfl rfl) rfl rfl rfl ?_
              refine ent_op (ot_alloc F_zero_25) rfl rfl rfl ?_
              rintro _ _ ⟨b4, rfl, rfl⟩
              refine ent_op0 (ot_store (cs := [(Value.int .i64 0), (Value.int .i64 0), (Value.int .i64 0), (Value.int .i64 0)]) (cs' := [(Value.int .i64 x9.1), (Value.int .i64 x9.2.1), (Value.int .i64 x9.2.2.1), (Value.int .i64 x9.2.2.2.1)]) (us := [(Value.int .i64 x9.1), (Value.int .i64 x9.2.1), (Value.int .i64 x9.2.2.1), (Value.int .i64 x9.2.2.2.1)]) (L' := [(box b4 25 [(Value.int .i64 x9.1), (Value.int .i64 x9.2.1), (Value.int .i64 x9.2.2.1), (Value.int .i64 x9.2.2.2.1)]), (box b3 25 [(Value.int .i64 x8.1), (Value.int .i64 x8.2.1), (Value.int .i64 x8.2.2.1), (Value.int .i64 x8.2.2.2.1)]), (box b2 25 [(Value.int .i64 x7.1), (Value.int .i64 x7.2.1), (Value.int .i64 x7.2.2.1), (Value.int .i64 x7.2.2.2.1)]), (box b1 25 [(Value.int .i64 x6.1), (Value.int .i64 x6.2.1), (Value.int .i64 x6.2.2.1), (Value.int .i64 x6.2.2.2.1)]), A0]) 0 rfl rfl rfl (all_one rfl) F_size_25 rfl rfl (by simp) rfl) rfl rfl ?_
              rintro _ _ rfl
              refine ent_value (ov_assign rfl) rfl rfl rfl ?_
              refine ent_nil ?_
              refine ent_seq ?_
              refine ent_region ?_
              refine ent_value (ov_move rfl) rfl rfl rfl ?_
              refine ent_value (ov_move rfl) rfl rfl rfl ?_
              by_cases c8 : x6.2.2.2.2 = true
              · rw [if_pos c8] at H
                refine ent_value_on (ov_move rfl) rfl rfl rfl c8 rfl rfl ?_
                refine ent_value (ov_pick rfl rfl rfl (pick_t c8)) rfl rfl rfl ?_
                refine ent_value (ov_move rfl) rfl rfl rfl ?_
                by_cases c9 : x7.2.2.2.2 = true
                · rw [if_pos c9] at H
                  refine ent_value_on (ov_move rfl) rfl rfl rfl c9 rfl rfl ?_
                  refine ent_value (ov_pick rfl rfl rfl (pick_t c9)) rfl rfl rfl ?_
                  refine ent_value (ov_move rfl) rfl rfl rfl ?_
                  by_cases c10 : x8.2.2.2.2 = true
                  · rw [if_pos c10] at H
                    refine ent_value_on (ov_move rfl) rfl rfl rfl c10 rfl rfl ?_
                    refine ent_value (ov_pick rfl rfl rfl (pick_t c10)) rfl rfl rfl ?_
                    refine ent_value (ov_move rfl) rfl rfl rfl ?_
                    by_cases c11 : x9.2.2.2.2 = true
                    · rw [if_pos c11] at H
                      refine ent_value_on (ov_load_agg (vs := [(Value.int .i64 x6.1), (Value.int .i64 x6.2.1), (Value.int .i64 x6.2.2.1), (Value.int .i64 x6.2.2.2.1)]) rfl F_agg_25 F_size_25 (reads_boxW (i := 3) rfl)) rfl rfl rfl c11 rfl rfl ?_
                      refine ent_value_on (ov_load_agg (vs := [(Value.int .i64 x9.1), (Value.int .i64 x9.2.1), (Value.int .i64 x9.2.2.1), (Value.int .i64 x9.2.2.2.1)]) rfl F_agg_25 F_size_25 (reads_boxW (i := 0) rfl)) rfl rfl rfl c11 rfl rfl ?_
                      refine ent_value_on (ov_bin rfl rfl (same_25 _ _ _ _ _ _ _ _)) rfl rfl rfl c11 rfl rfl ?_
                      refine ent_value (ov_pick rfl rfl rfl (pick_t c11)) rfl rfl rfl ?_
                      refine ent_value (ov_move rfl) rfl rfl rfl ?_
                      by_cases c12 : ((x6.1 == x9.1) && ((x6.2.1 == x9.2.1) && ((x6.2.2.1 == x9.2.2.1) && ((x6.2.2.2.1 == x9.2.2.2.1) && true)))) = true
                      · rw [if_pos c12] at H
                        refine ent_value_on (ov_load_agg (vs := [(Value.int .i64 x6.1), (Value.int .i64 x6.2.1), (Value.int .i64 x6.2.2.1), (Value.int .i64 x6.2.2.2.1)]) rfl F_agg_25 F_size_25 (reads_boxW (i := 3) rfl)) rfl rfl rfl c12 rfl rfl ?_
                        obtain ⟨x10, h10, H⟩ := thn_elim H
                        refine ent_op_on (ot_call0 (first := []) (cap := []) (xs := [.tmp 82]) rfl rfl F_call_22 rfl (cell_Right.spec x6.1 x6.2.1 x6.2.2.1 x6.2.2.2.1 _ h10)) rfl rfl rfl c12 rfl rfl ?_
                        rintro _ _ ⟨rfl, rfl⟩
                        refine ent_value (ov_pick rfl rfl rfl (pick_t c12)) rfl rfl rfl ?_
                        refine ent_value (ov_move rfl) rfl rfl rfl ?_
                        by_cases c13 : x10 = true
                        · rw [if_pos c13] at H
                          refine ent_value_on (ov_fieldAddr (sz := 0) (o := 0) rfl F_field_25_0 F_size_2) rfl rfl rfl c13 rfl rfl ?_
                          refine ent_value_on (ov_load (v := (Value.int .i64 x6.1)) rfl F_agg_2 (reads_box1 (i := 3) rfl rfl)) rfl rfl rfl c13 rfl rfl ?_
                          refine ent_value_on (ov_move rfl) rfl rfl rfl c13 rfl rfl ?_
                          refine ent_value_on (ov_len 4 rfl F_slice_22 rfl hA0) rfl rfl rfl c13 rfl rfl ?_
                          refine ent_value_on (ov_bin rfl rfl (b_eql _ _ _)) rfl rfl rfl c13 rfl rfl ?_
                          refine ent_value (ov_pick rfl rfl rfl (pick_t c13)) rfl rfl rfl ?_
                          refine ent_value (ov_move rfl) rfl rfl rfl ?_
                          by_cases c14 : x6.1 = (l0.length : Int)
                          · rw [if_pos c14] at H
                            refine ent_value_on (ov_fieldAddr (sz := 0) (o := 0) rfl F_field_25_1 F_size_2) rfl rfl rfl (by simpa using c14) rfl rfl ?_
                            refine ent_value_on (ov_load (v := (Value.int .i64 x6.2.1)) rfl F_agg_2 (reads_box1 (i := 3) rfl rfl)) rfl rfl rfl (by simpa using c14) rfl rfl ?_
                            refine ent_value_on (ov_move rfl) rfl rfl rfl (by simpa using c14) rfl rfl ?_
                            refine ent_value_on (ov_bin rfl rfl (b_leq _ _ _)) rfl rfl rfl (by simpa using c14) rfl rfl ?_
                            refine ent_value (ov_pick rfl rfl rfl (pick_t (by simpa using c14))) rfl rfl rfl ?_
                            refine ent_value (ov_move rfl) rfl rfl rfl ?_
                            by_cases c15 : x6.2.1 ≤ x4.1
                            · rw [if_pos c15] at H
                              refine ent_value_on (ov_fieldAddr (sz := 0) (o := 0) rfl F_field_25_1 F_size_2) rfl rfl rfl (decide_eq_true c15) rfl rfl ?_
                              refine ent_value_on (ov_load (v := (Value.int .i64 x6.2.1)) rfl F_agg_2 (reads_box1 (i := 3) rfl rfl)) rfl rfl rfl (decide_eq_true c15) rfl rfl ?_
                              refine ent_value_on (ov_un rfl (u_neg _ _)) rfl rfl rfl (decide_eq_true c15) rfl rfl ?_
                              refine ent_value_on (ov_move rfl) rfl rfl rfl (decide_eq_true c15) rfl rfl ?_
                              refine ent_value_on (ov_bin rfl rfl (b_leq _ _ _)) rfl rfl rfl (decide_eq_true c15) rfl rfl ?_
                              refine ent_value (ov_pick rfl rfl rfl (pick_t (decide_eq_true c15))) rfl rfl rfl ?_
                              refine ent_value (ov_move rfl) rfl rfl rfl ?_
                              by_cases c16 : (w64 (0 - x6.2.1)) ≤ x4.1
                              · rw [if_pos c16] at H
                                obtain ⟨x11, h11, H⟩ := Option.bind_eq_some_iff.1 H
                                refine ent_op_on (ot_call0 (first := []) (cap := []) (xs := []) rfl rfl F_call_15 rfl (ossuarylaw05_alive.spec K _ h11)) rfl rfl rfl (decide_eq_true c16) rfl rfl ?_
                                rintro _ _ ⟨rfl, rfl⟩
                                refine ent_value (ov_pick rfl rfl rfl (pick_t (decide_eq_true c16))) rfl rfl rfl ?_
                                refine ent_value (ov_assign rfl) rfl rfl rfl ?_
                                refine ent_nil ?_
                                refine ent_retc ?_
                                cases H
                                refine ent_pick [4] (by decide) rfl ?_
                                exact ret_tmp rfl rfl ⟨rfl, rfl⟩
                              · rw [if_neg c16] at H
                                refine ent_off rfl rfl rfl (decide_eq_false c16) rfl rfl ?_
                                refine ent_value (ov_pick rfl rfl rfl (pick_f (decide_eq_false c16))) rfl rfl rfl ?_
                                refine ent_value (ov_assign rfl) rfl rfl rfl ?_
                                refine ent_nil ?_
                                refine ent_retc ?_
                                cases H
                                refine ent_pick [4] (by decide) rfl ?_
                                exact ret_tmp rfl rfl ⟨rfl, rfl⟩
                            · rw [if_neg c15] at H
                              refine ent_off rfl rfl rfl (decide_eq_false c15) rfl rfl ?_
                              refine ent_off rfl rfl rfl (decide_eq_false c15) rfl rfl ?_
                              refine ent_off rfl rfl rfl (decide_eq_false c15) rfl rfl ?_
                              refine ent_off rfl rfl rfl (decide_eq_false c15) rfl rfl ?_
                              refine ent_off rfl rfl rfl (decide_eq_false c15) rfl rfl ?_
                              refine ent_value (ov_pick rfl rfl rfl (pick_f (decide_eq_false c15))) rfl rfl rfl ?_
                              refine ent_value (ov_move rfl) rfl rfl rfl ?_
                              refine ent_off rfl rfl rfl rfl rfl rfl ?_
                              refine ent_value (ov_pick rfl rfl rfl rfl) rfl rfl rfl ?_
                              refine ent_value (ov_assign rfl) rfl rfl rfl ?_
                              refine ent_nil ?_
                              refine ent_retc ?_
                              cases H
                              refine ent_pick [4] (by decide) rfl ?_
                              exact ret_tmp rfl rfl ⟨rfl, rfl⟩
                          · rw [if_neg c14] at H
                            refine ent_off rfl rfl rfl (by simpa using c14) rfl rfl ?_
                            refine ent_off rfl rfl rfl (by simpa using c14) rfl rfl ?_
                            refine ent_off rfl rfl rfl (by simpa using c14) rfl rfl ?_
                            refine ent_off rfl rfl rfl (by simpa using c14) rfl rfl ?_
                            refine ent_value (ov_pick rfl rfl rfl (pick_f (by simpa using c14))) rfl rfl rfl ?_
                            refine ent_value (ov_move rfl) rfl rfl rfl ?_
                            refine ent_off rfl rfl rfl rfl rfl rfl ?_
                            refine ent_off rfl rfl rfl rfl rfl rfl ?_
                            refine ent_off rfl rfl rfl rfl rfl rfl ?_
                            refine ent_off rfl rfl rfl rfl rfl rfl ?_
                            refine ent_off rfl rfl rfl rfl rfl rfl ?_
                            refine ent_value (ov_pick rfl rfl rfl rfl) rfl rfl rfl ?_
                            refine ent_value (ov_move rfl) rfl rfl rfl ?_
                            refine ent_off rfl rfl rfl rfl rfl rfl ?_
                            refine ent_value (ov_pick rfl rfl rfl rfl) rfl rfl rfl ?_
                            refine ent_value (ov_assign rfl) rfl rfl rfl ?_
                            refine ent_nil ?_
                            refine ent_retc ?_
                            cases H
                            refine ent_pick [4] (by decide) rfl ?_
                            exact ret_tmp rfl rfl ⟨rfl, rfl⟩
                        · rw [if_neg c13] at H
                          refine ent_off rfl rfl rfl (Bool.eq_false_iff.2 c13) rfl rfl ?_
                          refine ent_off rfl rfl rfl (Bool.eq_false_iff.2 c13) rfl rfl ?_
                          refine ent_off rfl rfl rfl (Bool.eq_false_iff.2 c13) rfl rfl ?_
                          refine ent_off rfl rfl rfl (Bool.eq_false_iff.2 c13) rfl rfl ?_
                          refine ent_off rfl rfl rfl (Bool.eq_false_iff.2 c13) rfl rfl ?_
                          refine ent_value (ov_pick rfl rfl rfl (pick_f (Bool.eq_false_iff.2 c13))) rfl rfl rfl ?_
                          refine ent_value (ov_move rfl) rfl rfl rfl ?_
                          refine ent_off rfl rfl rfl rfl rfl rfl ?_
                          refine ent_off rfl rfl rfl rfl rfl rfl ?_
                          refine ent_off rfl rfl rfl rfl rfl rfl ?_
                          refine ent_off rfl rfl rfl rfl rfl rfl ?_
                          refine ent_value (ov_pick rfl rfl rfl rfl) rfl rfl rfl ?_
                          refine ent_value (ov_move rfl) rfl rfl rfl ?_
                          refine ent_off rfl rfl rfl rfl rfl rfl ?_
                          refine ent_off rfl rfl rfl rfl rfl rfl ?_
                          refine ent_off rfl rfl rfl rfl rfl rfl ?_
                          refine ent_off rfl rfl rfl rfl rfl rfl ?_
                          refine ent_off rfl rfl rfl rfl rfl rfl ?_
                          refine ent_value (ov_pick rfl rfl rfl rfl) rfl rfl rfl ?_
                          refine ent_value (ov_move rfl) rfl rfl rfl ?_
                          refine ent_off rfl rfl rfl rfl rfl rfl ?_
                          refine ent_value (ov_pick rfl rfl rfl rfl) rfl rfl rfl ?_
                          refine ent_value (ov_assign rfl) rfl rfl rfl ?_
                          refine ent_nil ?_
                          refine ent_retc ?_
                          cases H
                          refine ent_pick [4] (by decide) rfl ?_
                          exact ret_tmp rfl rfl ⟨rfl, rfl⟩
                      · rw [if_neg c12] at H
                        refine ent_off rfl rfl rfl (Bool.eq_false_iff.2 c12) rfl rfl ?_
                        refine ent_off rfl rfl rfl (Bool.eq_false_iff.2 c12) rfl rfl ?_
                        refine ent_value (ov_pick rfl rfl rfl (pick_f (Bool.eq_false_iff.2 c12))) rfl rfl rfl ?_
                        refine ent_value (ov_move rfl) rfl rfl rfl ?_
                        refine ent_off rfl rfl rfl rfl rfl rfl ?_
                        refine ent_off rfl rfl rfl rfl rfl rfl ?_
                        refine ent_off rfl rfl rfl rfl rfl rfl ?_
                        refine ent_off rfl rfl rfl rfl rfl rfl ?_
                        refine ent_off rfl rfl rfl rfl rfl rfl ?_
                        refine ent_value (ov_pick rfl rfl rfl rfl) rfl rfl rfl ?_
                        refine ent_value (ov_move rfl) rfl rfl rfl ?_
                        refine ent_off rfl rfl rfl rfl rfl rfl ?_
                        refine ent_off rfl rfl rfl rfl rfl rfl ?_
                        refine ent_off rfl rfl rfl rfl rfl rfl ?_
                        refine ent_off rfl rfl rfl rfl rfl rfl ?_
                        refine ent_value (ov_pick rfl rfl rfl rfl) rfl rfl rfl ?_
                        refine ent_value (ov_move rfl) rfl rfl rfl ?_
                        refine ent_off rfl rfl rfl rfl rfl rfl ?_
                        refine ent_off rfl rfl rfl rfl rfl rfl ?_
                        refine ent_off rfl rfl rfl rfl rfl rfl ?_
                        refine ent_off rfl rfl rfl rfl rfl rfl ?_
                        refine ent_off rfl rfl rfl rfl rfl rfl ?_
                        refine ent_value (ov_pick rfl rfl rfl rfl) rfl rfl rfl ?_
                        refine ent_value (ov_move rfl) rfl rfl rfl ?_
                        refine ent_off rfl rfl rfl rfl rfl rfl ?_
                        refine ent_value (ov_pick rfl rfl rfl rfl) rfl rfl rfl ?_
                        refine ent_value (ov_assign rfl) rfl rfl rfl ?_
                        refine ent_nil ?_
                        refine ent_retc ?_
                        cases H
                        refine ent_pick [4] (by decide) rfl ?_
                        exact ret_tmp rfl rfl ⟨rfl, rfl⟩
                    · rw [if_neg c11] at H
                      refine ent_off rfl rfl rfl (Bool.eq_false_iff.2 c11) rfl rfl ?_
                      refine ent_off rfl rfl rfl (Bool.eq_false_iff.2 c11) rfl rfl ?_
                      refine ent_off rfl rfl rfl (Bool.eq_false_iff.2 c11) rfl rfl ?_
                      refine ent_value (ov_pick rfl rfl rfl (pick_f (Bool.eq_false_iff.2 c11))) rfl rfl rfl ?_
                      refine ent_value (ov_move rfl) rfl rfl rfl ?_
                      refine ent_off rfl rfl rfl rfl rfl rfl ?_
                      refine ent_off rfl rfl rfl rfl rfl rfl ?_
                      refine ent_value (ov_pick rfl rfl rfl rfl) rfl rfl rfl ?_
                      refine ent_value (ov_move rfl) rfl rfl rfl ?_
                      refine ent_off rfl rfl rfl rfl rfl rfl ?_
                      refine ent_off rfl rfl rfl rfl rfl rfl ?_
                      refine ent_off rfl rfl rfl rfl rfl rfl ?_
                      refine ent_off rfl rfl rfl rfl rfl rfl ?_
                      refine ent_off rfl rfl rfl rfl rfl rfl ?_
                      refine ent_value (ov_pick rfl rfl rfl rfl) rfl rfl rfl ?_
                      refine ent_value (ov_move rfl) rfl rfl rfl ?_
                      refine ent_off rfl rfl rfl rfl rfl rfl ?_
                      refine ent_off rfl rfl rfl rfl rfl rfl ?_
                      refine ent_off rfl rfl rfl rfl rfl rfl ?_
                      refine ent_off rfl rfl rfl rfl rfl rfl ?_
                      refine ent_value (ov_pick rfl rfl rfl rfl) rfl rfl rfl ?_
                      refine ent_value (ov_move rfl) rfl rfl rfl ?_
                      refine ent_off rfl rfl rfl rfl rfl rfl ?_
                      refine ent_off rfl rfl rfl rfl rfl rfl ?_
                      refine ent_off rfl rfl rfl rfl rfl rfl ?_
                      refine ent_off rfl rfl rfl rfl rfl rfl ?_
                      refine ent_off rfl rfl rfl rfl rfl rfl ?_
                      refine ent_value (ov_pick rfl rfl rfl rfl) rfl rfl rfl ?_
                      refine ent_value (ov_move rfl) rfl rfl rfl ?_
                      refine ent_off rfl rfl rfl rfl rfl rfl ?_
                      refine ent_value (ov_pick rfl rfl rfl rfl) rfl rfl rfl ?_
                      refine ent_value (ov_assign rfl) rfl rfl rfl ?_
                      refine ent_nil ?_
                      refine ent_retc ?_
                      cases H
                      refine ent_pick [4] (by decide) rfl ?_
                      exact ret_tmp rfl rfl ⟨rfl, rfl⟩
                  · rw [if_neg c10] at H
                    refine ent_off rfl rfl rfl (Bool.eq_false_iff.2 c10) rfl rfl ?_
                    refine ent_value (ov_pick rfl rfl rfl (pick_f (Bool.eq_false_iff.2 c10))) rfl rfl rfl ?_
                    refine ent_value (ov_move rfl) rfl rfl rfl ?_
                    refine ent_off rfl rfl rfl rfl rfl rfl ?_
                    refine ent_off rfl rfl rfl rfl rfl rfl ?_
                    refine ent_off rfl rfl rfl rfl rfl rfl ?_
                    refine ent_value (ov_pick rfl rfl rfl rfl) rfl rfl rfl ?_
                    refine ent_value (ov_move rfl) rfl rfl rfl ?_
                    refine ent_off rfl rfl rfl rfl rfl rfl ?_
                    refine ent_off rfl rfl rfl rfl rfl rfl ?_
                    refine ent_value (ov_pick rfl rfl rfl rfl) rfl rfl rfl ?_
                    refine ent_value (ov_move rfl) rfl rfl rfl ?_
                    refine ent_off rfl rfl rfl rfl rfl rfl ?_
                    refine ent_off rfl rfl rfl rfl rfl rfl ?_
                    refine ent_off rfl rfl rfl rfl rfl rfl ?_
                    refine ent_off rfl rfl rfl rfl rfl rfl ?_
                    refine ent_off rfl rfl rfl rfl rfl rfl ?_
                    refine ent_value (ov_pick rfl rfl rfl rfl) rfl rfl rfl ?_
                    refine ent_value (ov_move rfl) rfl rfl rfl ?_
                    refine ent_off rfl rfl rfl rfl rfl rfl ?_
                    refine ent_off rfl rfl rfl rfl rfl rfl ?_
                    refine ent_off rfl rfl rfl rfl rfl rfl ?_
                    refine ent_off rfl rfl rfl rfl rfl rfl ?_
                    refine ent_value (ov_pick rfl rfl rfl rfl) rfl rfl rfl ?_
                    refine ent_value (ov_move rfl) rfl rfl rfl ?_
                    refine ent_off rfl rfl rfl rfl rfl rfl ?_
                    refine ent_off rfl rfl rfl rfl rfl rfl ?_
                    refine ent_off rfl rfl rfl rfl rfl rfl ?_
                    refine ent_off rfl rfl rfl rfl rfl rfl ?_
                    refine ent_off rfl rfl rfl rfl rfl rfl ?_
                    refine ent_value (ov_pick rfl rfl rfl rfl) rfl rfl rfl ?_
                    refine ent_value (ov_move rfl) rfl rfl rfl ?_
                    refine ent_off rfl rfl rfl rfl rfl rfl ?_
                    refine ent_value (ov_pick rfl rfl rfl rfl) rfl rfl rfl ?_
                    refine ent_value (ov_assign rfl) rfl rfl rfl ?_
                    refine ent_nil ?_
                    refine ent_retc ?_
                    cases H
                    refine ent_pick [4] (by decide) rfl ?_
                    exact ret_tmp rfl rfl ⟨rfl, rfl⟩
                · rw [if_neg c9] at H
                  refine ent_off rfl rfl rfl (Bool.eq_false_iff.2 c9) rfl rfl ?_
                  refine ent_value (ov_pick rfl rfl rfl (pick_f (Bool.eq_false_iff.2 c9))) rfl rfl rfl ?_
                  refine ent_value (ov_move rfl) rfl rfl rfl ?_
                  refine ent_off rfl rfl rfl rfl rfl rfl ?_
                  refine ent_value (ov_pick rfl rfl rfl rfl) rfl rfl rfl ?_
                  refine ent_value (ov_move rfl) rfl rfl rfl ?_
                  refine ent_off rfl rfl rfl rfl rfl rfl ?_
                  refine ent_off rfl rfl rfl rfl rfl rfl ?_
                  refine ent_off rfl rfl rfl rfl rfl rfl ?_
                  refine ent_value (ov_pick rfl rfl rfl rfl) rfl rfl rfl ?_
                  refine ent_value (ov_move rfl) rfl rfl rfl ?_
                  refine ent_off rfl rfl rfl rfl rfl rfl ?_
                  refine ent_off rfl rfl rfl rfl rfl rfl ?_
                  refine ent_value (ov_pick rfl rfl rfl rfl) rfl rfl rfl ?_
                  refine ent_value (ov_move rfl) rfl rfl rfl ?_
                  refine ent_off rfl rfl rfl rfl rfl rfl ?_
                  refine ent_off rfl rfl rfl rfl rfl rfl ?_
                  refine ent_off rfl rfl rfl rfl rfl rfl ?_
                  refine ent_off rfl rfl rfl rfl rfl rfl ?_
                  refine ent_off rfl rfl rfl rfl rfl rfl ?_
                  refine ent_value (ov_pick rfl rfl rfl rfl) rfl rfl rfl ?_
                  refine ent_value (ov_move rfl) rfl rfl rfl ?_
                  refine ent_off rfl rfl rfl rfl rfl rfl ?_
                  refine ent_off rfl rfl rfl rfl rfl rfl ?_
                  refine ent_off rfl rfl rfl rfl rfl rfl ?_
                  refine ent_off rfl rfl rfl rfl rfl rfl ?_
                  refine ent_value (ov_pick rfl rfl rfl rfl) rfl rfl rfl ?_
                  refine ent_value (ov_move rfl) rfl rfl rfl ?_
                  refine ent_off rfl rfl rfl rfl rfl rfl ?_
                  refine ent_off rfl rfl rfl rfl rfl rfl ?_
                  refine ent_off rfl rfl rfl rfl rfl rfl ?_
                  refine ent_off rfl rfl rfl rfl rfl rfl ?_
                  refine ent_off rfl rfl rfl rfl rfl rfl ?_
                  refine ent_value (ov_pick rfl rfl rfl rfl) rfl rfl rfl ?_
                  refine ent_value (ov_move rfl) rfl rfl rfl ?_
                  refine ent_off rfl rfl rfl rfl rfl rfl ?_
                  refine ent_value (ov_pick rfl rfl rfl rfl) rfl rfl rfl ?_
                  refine ent_value (ov_assign rfl) rfl rfl rfl ?_
                  refine ent_nil ?_
                  refine ent_retc ?_
                  cases H
                  refine ent_pick [4] (by decide) rfl ?_
                  exact ret_tmp rfl rfl ⟨rfl, rfl⟩
              · rw [if_neg c8] at H
                refine ent_off rfl rfl rfl (Bool.eq_false_iff.2 c8) rfl rfl ?_
                refine ent_value (ov_pick rfl rfl rfl (pick_f (Bool.eq_false_iff.2 c8))) rfl rfl rfl ?_
                refine ent_value (ov_move rfl) rfl rfl rfl ?_
                refine ent_off rfl rfl rfl rfl rfl rfl ?_
                refine ent_value (ov_pick rfl rfl rfl rfl) rfl rfl rfl ?_
                refine ent_value (ov_move rfl) rfl rfl rfl ?_
                refine ent_off rfl rfl rfl rfl rfl rfl ?_
                refine ent_value (ov_pick rfl rfl rfl rfl) rfl rfl rfl ?_
                refine ent_value (ov_move rfl) rfl rfl rfl ?_
                refine ent_off rfl rfl rfl rfl rfl rfl ?_
                refine ent_off rfl rfl rfl rfl rfl rfl ?_
                refine ent_off rfl rfl rfl rfl rfl rfl ?_
                refine ent_value (ov_pick rfl rfl rfl rfl) rfl rfl rfl ?_
                refine ent_value (ov_move rfl) rfl rfl rfl ?_
                refine ent_off rfl rfl rfl rfl rfl rfl ?_
                refine ent_off rfl rfl rfl rfl rfl rfl ?_
                refine ent_value (ov_pick rfl rfl rfl rfl) rfl rfl rfl ?_
                refine ent_value (ov_move rfl) rfl rfl rfl ?_
                refine ent_off rfl rfl rfl rfl rfl rfl ?_
                refine ent_off rfl rfl rfl rfl rfl rfl ?_
                refine ent_off rfl rfl rfl rfl rfl rfl ?_
                refine ent_off rfl rfl rfl rfl rfl rfl ?_
                refine ent_off rfl rfl rfl rfl rfl rfl ?_
                refine ent_value (ov_pick rfl rfl rfl rfl) rfl rfl rfl ?_
                refine ent_value (ov_move rfl) rfl rfl rfl ?_
                refine ent_off rfl rfl rfl rfl rfl rfl ?_
                refine ent_off rfl rfl rfl rfl rfl rfl ?_
                refine ent_off rfl rfl rfl rfl rfl rfl ?_
                refine ent_off rfl rfl rfl rfl rfl rfl ?_
                refine ent_value (ov_pick rfl rfl rfl rfl) rfl rfl rfl ?_
                refine ent_value (ov_move rfl) rfl rfl rfl ?_
                refine ent_off rfl rfl rfl rfl rfl rfl ?_
                refine ent_off rfl rfl rfl rfl rfl rfl ?_
                refine ent_off rfl rfl rfl rfl rfl rfl ?_
                refine ent_off rfl rfl rfl rfl rfl rfl ?_
                refine ent_off rfl rfl rfl rfl rfl rfl ?_
                refine ent_value (ov_pick rfl rfl rfl rfl) rfl rfl rfl ?_
                refine ent_value (ov_move rfl) rfl rfl rfl ?_
                refine ent_off rfl rfl rfl rfl rfl rfl ?_
                refine ent_value (ov_pick rfl rfl rfl rfl) rfl rfl rfl ?_
                refine ent_value (ov_assign rfl) rfl rfl rfl ?_
                refine ent_nil ?_
                refine ent_retc ?_
                cases H
                refine ent_pick [4] (by decide) rfl ?_
                exact ret_tmp rfl rfl ⟨rfl, rfl⟩
            · rw [if_neg c7] at H
              cases H
          · rw [if_neg c6] at H
            cases H

end Go.Proofs.Ytmhhjhckbiaidaa.CellWeighs
