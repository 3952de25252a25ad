/- Printed by gen.py: that the machine's calls do what the plain functions of FactCodes say. -/
import Derived.Test.YtmhhjhckbiaidaaFactCodesWalk0
import Derived.Test.YtmhhjhckbiaidaaProg
import Derived.Test.YtmhhjhckbiaidaaEConv
import Derived.Test.YtmhhjhckbiaidaaFactCodesPure
set_option linter.unusedVariables false
set_option linter.unusedSimpArgs false
set_option maxHeartbeats 400000
namespace Go.Proofs.Ytmhhjhckbiaidaa.FactCodes
open Go Go.RowKit E

set_option maxRecDepth 100000 in
theorem fact_one.spec (K : Nat) (p0 : Nat) (sv0 : Value) (A0 : HP) (l0 : List Int) (p0_1 : Int) (a1 : Int) (hA0 : IsRd A0 sv0 l0.length 1 (fl (eI .u8) l0)) (r : (Int × (List UInt8) × (List UInt8) × (List UInt8) × (List UInt8) × Int × Bool × (List Int) × Int)) (H : fact_one K l0 p0_1 a1 = some r) : FnSpec Try.prog 89 [(pt p0 0), (Value.int .i64 a1)] [(box p0 145 [sv0, (Value.int .i64 p0_1)]), A0] (fun v M => ∃ sv1 : Value, IsRd A0 sv1 r.2.2.2.2.2.2.2.1.length 1 (fl (eI .u8) r.2.2.2.2.2.2.2.1) ∧ v = (Value.tuple #[(Value.agg #[(Value.int .i64 r.1), (str r.2.1), (str r.2.2.1), (str r.2.2.2.1), (str r.2.2.2.2.1), (Value.int .i64 r.2.2.2.2.2.1)]), (Value.bool r.2.2.2.2.2.2.1)]) ∧ M = [(box p0 145 [sv1, (Value.int .i64 r.2.2.2.2.2.2.2.2)]), A0]) := by
  unfold fact_one at H
  refine spec_of Try.func89 rfl 32 rfl (Nat.le_of_ble_eq_true rfl) fun F w0 => ?_
  show Ent (St 32 w0 F [(0, (pt p0 0)), (1, (Value.int .i64 a1))] [(box p0 145 [sv0, (Value.int .i64 p0_1)]), A0]) _
  refine ent_seq ?_
  refine ent_region ?_
  refine ent_op (ot_alloc F_zero_43) rfl rfl rfl ?_
  rintro _ _ ⟨b1, rfl, rfl⟩
  refine ent_value (ov_assign rfl) rfl rfl rfl ?_
  refine ent_nil ?_
  refine ent_seq ?_
  refine ent_region ?_
  refine ent_value (ov_move rfl) rfl rfl rfl ?_
  obtain ⟨x1, h1, H⟩ := Option.bind_eq_some_iff.1 H
  refine ent_pick [1, 2, 0] (by decide) rfl ?_
  refine ent_op (ot_call (Lr := [(box b1 43 [(Value.int .i64 0), (str ([] : List UInt8)), (str ([] : List UInt8)), (str ([] : List UInt8)), (str ([] : List UInt8)), (Value.int .i64 0)])]) (first := []) (cap := []) (xs := [.tmp 8]) rfl rfl F_call_107 rfl (pack_Reader_Num_2.spec K p0 sv0 A0 l0 p0_1 hA0 _ h1) rfl) rfl rfl rfl ?_
  rintro _ _ ⟨_, ⟨sv2, hr2, rfl, rfl⟩, rfl⟩
  refine ent_value (ov_assign rfl) rfl rfl rfl ?_
  refine ent_nil ?_
  refine ent_seq ?_
  refine ent_seq ?_
  refine ent_region ?_
  refine ent_value (ov_move rfl) rfl rfl rfl ?_
  refine ent_value (ov_bin rfl rfl (b_gtr _ _ _)) rfl rfl rfl ?_
  refine ent_nil ?_
  by_cases c1 : 16777216 < x1.1
  · rw [if_pos c1] at H
    refine ent_cond_true rfl (decide_eq_true c1) ?_
    refine ent_seq ?_
    refine ent_region ?_
    refine ent_value (ov_load_agg (vs := [(Value.int .i64 0), (str ([] : List UInt8)), (str ([] : List UInt8)), (str ([] : List UInt8)), (str ([] : List UInt8)), (Value.int .i64 0)]) rfl F_agg_43 F_size_43 (reads_boxW (i := 2) rfl)) rfl rfl rfl ?_
    refine ent_op0 (ot_storeG (cs := [(Value.int .i64 0), (str ([] : List UInt8)), (str ([] : List UInt8)), (str ([] : List UInt8)), (str ([] : List UInt8)), (Value.int .i64 0)]) (cs' := [(Value.int .i64 0), (str ([] : List UInt8)), (str ([] : List UInt8)), (str ([] : List UInt8)), (str ([] : List UInt8)), (Value.int .i64 0)]) (us := [(Value.int .i64 0), (str ([] : List UInt8)), (str ([] : List UInt8)), (str ([] : List UInt8)), (str ([] : List UInt8)), (Value.int .i64 0)]) (L' := [(box p0 145 [sv2, (Value.int .i64 x1.2.2)]), A0, (box b1 43 [(Value.int .i64 0), (str ([] : List UInt8)), (str ([] : List UInt8)), (str ([] : List UInt8)), (str ([] : List UInt8)), (Value.int .i64 0)])]) 2 rfl rfl rfl (one_all rfl) F_size_43 rfl rfl (by simp) rfl) rfl rfl ?_
    rintro _ _ rfl
    refine ent_value (ov_assign rfl) rfl rfl rfl ?_
    refine ent_nil ?_
    refine ent_retc ?_
    cases H
    exact ret_memp [0, 1] (by decide) rfl (vs := [(Value.agg #[(Value.int .i64 0), (str ([] : List UInt8)), (str ([] : List UInt8)), (str ([] : List UInt8)), (str ([] : List UInt8)), (Value.int .i64 0)]), (Value.bool false)]) rfl ⟨⟨_, [(Value.int .i64 0), (str ([] : List UInt8)), (str ([] : List UInt8)), (str ([] : List UInt8)), (str ([] : List UInt8)), (Value.int .i64 0)], rfl, reads_boxW (i := 2) rfl, .inl ⟨F_agg_43, F_size_43, rfl⟩⟩, ⟨rfl, trivial⟩⟩ _ rfl ⟨_, hr2, rfl, rfl⟩
  · rw [if_neg c1] at H
    refine ent_cond_false rfl (decide_eq_false c1) ?_
    refine ent_skip ?_
    refine ent_seq ?_
    refine ent_region ?_
    refine ent_value (ov_move rfl) rfl rfl rfl ?_
    refine ent_value (ov_convert rfl (c_int Try.underlying90 Try.underlying2)) rfl rfl rfl ?_
    refine ent_value (ov_fieldAddr (sz := 4) (o := 0) rfl F_field_43_0 F_size_41) rfl rfl rfl ?_
    refine ent_value (ov_fieldAddr (sz := 0) (o := 0) rfl F_field_41_0 F_size_2) rfl rfl rfl ?_
    refine ent_op0 (ot_storeG (cs := [(Value.int .i64 0), (str ([] : List UInt8)), (str ([] : List UInt8)), (str ([] : List UInt8)), (str ([] : List UInt8)), (Value.int .i64 0)]) (cs' := [(Value.int .i64 (w64 x1.1)), (str ([] : List UInt8)), (str ([] : List UInt8)), (str ([] : List UInt8)), (str ([] : List UInt8)), (Value.int .i64 0)]) (us := [(Value.int .i64 (w64 x1.1))]) (L' := [(box p0 145 [sv2, (Value.int .i64 x1.2.2)]), A0, (box b1 43 [(Value.int .i64 (w64 x1.1)), (str ([] : List UInt8)), (str ([] : List UInt8)), (str ([] : List UInt8)), (str ([] : List UInt8)), (Value.int .i64 0)])]) 2 rfl rfl rfl (one_all rfl) F_size_2 rfl rfl (by simp) rfl) rfl rfl ?_
    rintro _ _ rfl
    refine ent_nil ?_
    obtain ⟨x2, H1, H⟩ := Option.bind_eq_some_iff.1 H
    refine ent_seq_cut (fun a w => ∃ b2 : Nat, ∃ sv3 : Value, IsRd A0 sv3 x2.1.length 1 (fl (eI .u8) x2.1) ∧ St 32 w0 F [(0, (pt p0 0)), (4, (pt b2 0))] [(box p0 145 [sv3, (Value.int .i64 x2.2.1)]), A0, (box b2 43 [(Value.int .i64 x2.2.2.1), (str x2.2.2.2.1), (str x2.2.2.2.2.1), (str x2.2.2.2.2.2.1), (str x2.2.2.2.2.2.2), (Value.int .i64 0)])] a w) ?_ ?_
    · refine ent_seq ?_
      refine ent_region ?_
      refine ent_value (ov_move rfl) rfl rfl rfl ?_
      refine ent_value (ov_move rfl) rfl rfl rfl ?_
      refine ent_nil ?_
      refine ent_block ?_
      refine ent_loop (fun k a w => ∃ i6, ∃ l3, ∃ i7, ∃ t9, ∃ t10, ∃ t11, ∃ t12, ∃ sv4 : Value, IsRd A0 sv4 l3.length 1 (fl (eI .u8) l3) ∧ fact_one_l0 K a1 x1 k i6 l3 i7 t9 t10 t11 t12 = some x2 ∧ St 32 w0 F [(0, (pt p0 0)), (4, (pt b1 0)), (17, (Value.int .i64 a1)), (18, (Value.int .i64 i6))] [(box p0 145 [sv4, (Value.int .i64 i7)]), A0, (box b1 43 [(Value.int .i64 (w64 x1.1)), (str t9), (str t10), (str t11), (str t12), (Value.int .i64 0)])] a w) K ?_ ?_
      · exact ent_fin [0, 1, 2] (by decide) rfl (sub_cons (t := 0) rfl (sub_cons (t := 4) rfl (sub_cons (t := 17) rfl (sub_cons (t := 18) rfl (sub_nil _))))) fun a w h => ⟨_, _, _, _, _, _, _, _, hr2, H1, h⟩
      · refine fun k => ent_exi fun i6 => ent_exi fun l3 => ent_exi fun i7 => ent_exi fun t9 => ent_exi fun t10 => ent_exi fun t11 => ent_exi fun t12 => ent_exi fun sv4 => ent_and fun hr4 => ent_and fun H2 => ?_
        cases k with
        | zero => exact absurd H2 (by simp [fact_one_l0])
        | succ k =>
          rw [fact_one_l0] at H2
          refine ent_seq ?_
          refine ent_region ?_
          refine ent_value (ov_bin rfl rfl (b_lss _ _ _)) rfl rfl rfl ?_
          refine ent_nil ?_
          refine ent_seq ?_
          by_cases c2 : i6 < a1
          · rw [if_pos c2] at H2
            refine ent_cond_true rfl (decide_eq_true c2) ?_
            refine ent_skip ?_
            refine ent_seq ?_
            refine ent_block ?_
            refine ent_seq ?_
            refine ent_region ?_
            refine ent_value (ov_move rfl) rfl rfl rfl ?_
            refine ent_value (ov_assign rfl) rfl rfl rfl ?_
            refine ent_nil ?_
            refine ent_region ?_
            refine ent_value (ov_move rfl) rfl rfl rfl ?_
            refine ent_value (ov_move rfl) rfl rfl rfl ?_
            obtain ⟨x3, h2, H2⟩ := Option.bind_eq_some_iff.1 H2
            refine ent_op (ot_call (Lr := [(box b1 43 [(Value.int .i64 (w64 x1.1)), (str t9), (str t10), (str t11), (str t12), (Value.int .i64 0)])]) (first := []) (cap := []) (xs := [.tmp 22, .const (Value.int .i64 16)]) rfl rfl F_call_108 rfl (pack_Reader_Text.spec K p0 sv4 A0 l3 i7 16 hr4 _ h2) rfl) rfl rfl rfl ?_
            rintro _ _ ⟨_, ⟨sv5, hr5, rfl, rfl⟩, rfl⟩
            refine ent_value (ov_fieldAddr (sz := 4) (o := 0) rfl F_field_43_0 F_size_41) rfl rfl rfl ?_
            refine ent_value (ov_fieldAddr (sz := 3) (o := 0) rfl F_field_41_1 F_size_39) rfl rfl rfl ?_
            by_cases c3 : 0 ≤ i6
            · rw [if_pos c3] at H2
              by_cases c4 : i6 < (4 : Int)
              · rw [if_pos c4] at H2
                refine ent_value (ov_indexArr (o := 1) rfl rfl F_array_39 F_size_9 c3 c4) rfl rfl rfl ?_
                refine ent_op0 (ot_store (cs := [(Value.int .i64 (w64 x1.1)), (str t9), (str t10), (str t11), (str t12), (Value.int .i64 0)]) (cs' := [(Value.int .i64 (w64 x1.1)), (str (if i6.toNat = 0 then x3.2.2 else t9)), (str (if i6.toNat = 1 then x3.2.2 else t10)), (str (if i6.toNat = 2 then x3.2.2 else t11)), (str (if i6.toNat = 3 then x3.2.2 else t12)), (Value.int .i64 0)]) (us := [(str x3.2.2)]) (L' := [(box p0 145 [sv5, (Value.int .i64 x3.2.1)]), A0, (box b1 43 [(Value.int .i64 (w64 x1.1)), (str (if i6.toNat = 0 then x3.2.2 else t9)), (str (if i6.toNat = 1 then x3.2.2 else t10)), (str (if i6.toNat = 2 then x3.2.2 else t11)), (str (if i6.toNat = 3 then x3.2.2 else t12)), (Value.int .i64 0)])]) 2 rfl rfl rfl (all_one rfl) F_size_9 rfl (cases4 (fun i_ => List.take (1 + i_ * 1) [(Value.int .i64 (w64 x1.1)), (str t9), (str t10), (str t11), (str t12), (Value.int .i64 0)] ++ [(str x3.2.2)] ++ List.drop (1 + i_ * 1 + List.length [(str x3.2.2)]) [(Value.int .i64 (w64 x1.1)), (str t9), (str t10), (str t11), (str t12), (Value.int .i64 0)] = [(Value.int .i64 (w64 x1.1)), (str (if i_ = 0 then x3.2.2 else t9)), (str (if i_ = 1 then x3.2.2 else t10)), (str (if i_ = 2 then x3.2.2 else t11)), (str (if i_ = 3 then x3.2.2 else t12)), (Value.int .i64 0)]) (ix_lt c3 c4) rfl rfl rfl rfl) (cases4 (fun i_ => 1 + i_ * 1 + List.length [(str x3.2.2)] ≤ List.length [(Value.int .i64 (w64 x1.1)), (str t9), (str t10), (str t11), (str t12), (Value.int .i64 0)]) (ix_lt c3 c4) (Nat.le_of_ble_eq_true rfl) (Nat.le_of_ble_eq_true rfl) (Nat.le_of_ble_eq_true rfl) (Nat.le_of_ble_eq_true rfl)) rfl) rfl rfl ?_
                rintro _ _ rfl
                refine ent_nil ?_
                refine ent_region ?_
                refine ent_value (ov_bin rfl rfl (b_add _ _ _) ) rfl rfl rfl ?_
                refine ent_value (ov_move rfl) rfl rfl rfl ?_
                refine ent_nil ?_
                exact ent_fin [0, 1, 2] (by decide) rfl (sub_cons (t := 0) rfl (sub_cons (t := 4) rfl (sub_cons (t := 17) rfl (sub_cons (t := 18) rfl (sub_nil _))))) fun a w h => ⟨k, Nat.lt_succ_self k, _, _, _, _, _, _, _, _, hr5, H2, h⟩
              · rw [if_neg c4] at H2
                cases H2
            · rw [if_neg c3] at H2
              cases H2
          · rw [if_neg c2] at H2
            refine ent_cond_false rfl (decide_eq_false c2) ?_
            refine ent_exit ?_
            cases H2
            exact ent_fin [0, 1, 2] (by decide) rfl (sub_cons (t := 0) rfl (sub_cons (t := 4) rfl (sub_nil _))) fun a w h => ⟨_, _, hr4, h⟩
    · refine ent_exi fun b2 => ent_exi fun sv3 => ent_and fun hr3 => ?_
      refine ent_seq ?_
      refine ent_region ?_
      refine ent_value (ov_move rfl) rfl rfl rfl ?_
      obtain ⟨x4, h3, H⟩ := Option.bind_eq_some_iff.1 H
      refine ent_op (ot_call (Lr := [(box b2 43 [(Value.int .i64 x2.2.2.1), (str x2.2.2.2.1), (str x2.2.2.2.2.1), (str x2.2.2.2.2.2.1), (str x2.2.2.2.2.2.2), (Value.int .i64 0)])]) (first := []) (cap := []) (xs := [.tmp 28]) rfl rfl F_call_109 rfl (pack_Reader_Int.spec K p0 sv3 A0 x2.1 x2.2.1 hr3 _ h3) rfl) rfl rfl rfl ?_
      rintro _ _ ⟨_, ⟨sv6, hr6, rfl, rfl⟩, rfl⟩
      refine ent_value (ov_fieldAddr (sz := 0) (o := 0) rfl F_field_43_1 F_size_2) rfl rfl rfl ?_
      refine ent_op0 (ot_storeG (cs := [(Value.int .i64 x2.2.2.1), (str x2.2.2.2.1), (str x2.2.2.2.2.1), (str x2.2.2.2.2.2.1), (str x2.2.2.2.2.2.2), (Value.int .i64 0)]) (cs' := [(Value.int .i64 x2.2.2.1), (str x2.2.2.2.1), (str x2.2.2.2.2.1), (str x2.2.2.2.2.2.1), (str x2.2.2.2.2.2.2), (Value.int .i64 x4.2.2)]) (us := [(Value.int .i64 x4.2.2)]) (L' := [(box p0 145 [sv6, (Value.int .i64 x4.2.1)]), A0, (box b2 43 [(Value.int .i64 x2.2.2.1), (str x2.2.2.2.1), (str x2.2.2.2.2.1), (str x2.2.2.2.2.2.1), (str x2.2.2.2.2.2.2), (Value.int .i64 x4.2.2)])]) 2 rfl rfl rfl (one_all rfl) F_size_2 rfl rfl (by simp) rfl) rfl rfl ?_
      rintro _ _ rfl
      refine ent_nil ?_
      refine ent_seq ?_
      refine ent_region ?_
      refine ent_value (ov_load_agg (vs := [(Value.int .i64 x2.2.2.1), (str x2.2.2.2.1), (str x2.2.2.2.2.1), (str x2.2.2.2.2.2.1), (str x2.2.2.2.2.2.2), (Value.int .i64 x4.2.2)]) rfl F_agg_43 F_size_43 (reads_boxW (i := 2) rfl)) rfl rfl rfl ?_
      refine ent_op0 (ot_storeG (cs := [(Value.int .i64 x2.2.2.1), (str x2.2.2.2.1), (str x2.2.2.2.2.1), (str x2.2.2.2.2.2.1), (str x2.2.2.2.2.2.2), (Value.int .i64 x4.2.2)]) (cs' := [(Value.int .i64 x2.2.2.1), (str x2.2.2.2.1), (str x2.2.2.2.2.1), (str x2.2.2.2.2.2.1), (str x2.2.2.2.2.2.2), (Value.int .i64 x4.2.2)]) (us := [(Value.int .i64 x2.2.2.1), (str x2.2.2.2.1), (str x2.2.2.2.2.1), (str x2.2.2.2.2.2.1), (str x2.2.2.2.2.2.2), (Value.int .i64 x4.2.2)]) (L' := [(box p0 145 [sv6, (Value.int .i64 x4.2.1)]), A0, (box b2 43 [(Value.int .i64 x2.2.2.1), (str x2.2.2.2.1), (str x2.2.2.2.2.1), (str x2.2.2.2.2.2.1), (str x2.2.2.2.2.2.2), (Value.int .i64 x4.2.2)])]) 2 rfl rfl rfl (one_all rfl) F_size_43 rfl rfl (by simp) rfl) rfl rfl ?_
      rintro _ _ rfl
      refine ent_value (ov_assign rfl) rfl rfl rfl ?_
      refine ent_nil ?_
      refine ent_retc ?_
      cases H
      exact ret_memp [0, 1] (by decide) rfl (vs := [(Value.agg #[(Value.int .i64 x2.2.2.1), (str x2.2.2.2.1), (str x2.2.2.2.2.1), (str x2.2.2.2.2.2.1), (str x2.2.2.2.2.2.2), (Value.int .i64 x4.2.2)]), (Value.bool true)]) rfl ⟨⟨_, [(Value.int .i64 x2.2.2.1), (str x2.2.2.2.1), (str x2.2.2.2.2.1), (str x2.2.2.2.2.2.1), (str x2.2.2.2.2.2.2), (Value.int .i64 x4.2.2)], rfl, reads_boxW (i := 2) rfl, .inl ⟨F_agg_43, F_size_43, rfl⟩⟩, ⟨rfl, trivial⟩⟩ _ rfl ⟨_, hr6, rfl, rfl⟩

set_option maxRecDepth 100000 in
theorem pack_Reader_Fault.spec (p0 : Nat) (sv0 : Value) (A0 : HP) (l0 : List Int) (p0_1 : Int) (hA0 : IsRd A0 sv0 l0.length 1 (fl (eI .u8) l0)) (r : Int) (H : pack_Reader_Fault l0 p0_1 = r) : FnSpec Try.prog 90 [(pt p0 0)] [(box p0 145 [sv0, (Value.int .i64 p0_1)]), A0] (fun v M => v = (Value.int .i64 r) ∧ M = [(box p0 145 [sv0, (Value.int .i64 p0_1)]), A0]) := by
  unfold pack_Reader_Fault at H
  refine spec_of Try.func90 rfl 9 rfl (Nat.le_of_ble_eq_true rfl) fun F w0 => ?_
  show Ent (St 9 w0 F [(0, (pt p0 0))] [(box p0 145 [sv0, (Value.int .i64 p0_1)]), A0]) _
  refine ent_seq ?_
  refine ent_region ?_
  refine ent_value (ov_assign rfl) rfl rfl rfl ?_
  refine ent_nil ?_
  refine ent_seq ?_
  refine ent_seq ?_
  refine ent_region ?_
  refine ent_value (ov_move rfl) rfl rfl rfl ?_
  refine ent_value (ov_bin rfl rfl (b_eql_of (fun w => rfl) rfl (eq_pn Try.underlying121 _ _))) rfl rfl rfl ?_
  refine ent_nil ?_
  refine ent_cond_false rfl rfl ?_
  refine ent_skip ?_
  refine ent_seq ?_
  refine ent_region ?_
  refine ent_value (ov_move rfl) rfl rfl rfl ?_
  refine ent_value (ov_nilCheck rfl) rfl rfl rfl ?_
  refine ent_value (ov_fieldAddr (sz := 0) (o := 0) rfl F_field_145_1 F_size_37) rfl rfl rfl ?_
  refine ent_value (ov_load (v := (Value.int .i64 p0_1)) rfl F_agg_37 (reads_box1 (i := 0) rfl rfl)) rfl rfl rfl ?_
  refine ent_value (ov_assign rfl) rfl rfl rfl ?_
  refine ent_nil ?_
  refine ent_retc ?_
  cases H
  exact ret_tmp rfl rfl ⟨rfl, rfl⟩

set_option maxRecDepth 100000 in
theorem pack_Reader_Left.spec (p0 : Nat) (sv0 : Value) (A0 : HP) (l0 : List Int) (p0_1 : Int) (hA0 : IsRd A0 sv0 l0.length 1 (fl (eI .u8) l0)) (r : Int) (H : pack_Reader_Left l0 p0_1 = r) : FnSpec Try.prog 91 [(pt p0 0)] [(box p0 145 [sv0, (Value.int .i64 p0_1)]), A0] (fun v M => v = (Value.int .i64 r) ∧ M = [(box p0 145 [sv0, (Value.int .i64 p0_1)]), A0]) := by
  unfold pack_Reader_Left at H
  refine spec_of Try.func91 rfl 10 rfl (Nat.le_of_ble_eq_true rfl) fun F w0 => ?_
  show Ent (St 10 w0 F [(0, (pt p0 0))] [(box p0 145 [sv0, (Value.int .i64 p0_1)]), A0]) _
  refine ent_seq ?_
  refine ent_region ?_
  refine ent_value (ov_assign rfl) rfl rfl rfl ?_
  refine ent_nil ?_
  refine ent_seq ?_
  refine ent_seq ?_
  refine ent_region ?_
  refine ent_value (ov_move rfl) rfl rfl rfl ?_
  refine ent_value (ov_bin rfl rfl (b_eql_of (fun w => rfl) rfl (eq_pn Try.underlying121 _ _))) rfl rfl rfl ?_
  refine ent_nil ?_
  refine ent_cond_false rfl rfl ?_
  refine ent_skip ?_
  refine ent_seq ?_
  refine ent_region ?_
  refine ent_value (ov_move rfl) rfl rfl rfl ?_
  refine ent_value (ov_nilCheck rfl) rfl rfl rfl ?_
  refine ent_value (ov_fieldAddr (sz := 0) (o := 0) rfl F_field_145_0 F_size_79) rfl rfl rfl ?_
  refine ent_value (ov_load (v := sv0) rfl F_agg_79 (reads_box1 (i := 0) rfl rfl)) rfl rfl rfl ?_
  refine ent_value (ov_len 1 rfl F_slice_79 rfl hA0) rfl rfl rfl ?_
  refine ent_value (ov_assign rfl) rfl rfl rfl ?_
  refine ent_nil ?_
  refine ent_retc ?_
  cases H
  exact ret_tmp rfl rfl ⟨rfl, rfl⟩

set_option maxRecDepth 100000 in
theorem fact_Read.spec (K : Nat) (sv0 : Value) (A0 : HP) (l0 : List Int) (a1 : Int) (hA0 : IsRd A0 sv0 l0.length 1 (fl (eI .u8) l0)) (r : (Int × (List Api_Fact))) (H : fact_Read K l0 a1 = some r) : FnSpec Try.prog 56 [sv0, (Value.int .i64 a1)] [A0] (fun v M => ∃ sv1 : Value, v = (Value.tuple #[sv1, (Value.int .i64 r.1)]) ∧ M = [A0, (own sv1 43 6 r.2.length (fl enc_Api_Fact r.2))]) := by
  unfold fact_Read at H
  refine spec_of Try.func56 rfl 60 rfl (Nat.le_of_ble_eq_true rfl) fun F w0 => ?_
  show Ent (St 60 w0 F [(0, sv0), (1, (Value.int .i64 a1))] [A0]) _
  refine ent_seq ?_
  refine ent_region ?_
  refine ent_value (ov_assign rfl) rfl rfl rfl ?_
  refine ent_value (ov_assign rfl) rfl rfl rfl ?_
  refine ent_nil ?_
  refine ent_seq ?_
  refine ent_seq ?_
  refine ent_region ?_
  refine ent_value (ov_move rfl) rfl rfl rfl ?_
  obtain ⟨x1, h1, H⟩ := thn_elim H
  refine ent_op (ot_call0 (first := []) (cap := []) (xs := [.tmp 11]) rfl rfl F_call_72 rfl (fact_many.spec a1 _ h1)) rfl rfl rfl ?_
  rintro _ _ ⟨rfl, rfl⟩
  refine ent_value (ov_un rfl (u_not _)) rfl rfl rfl ?_
  refine ent_nil ?_
  by_cases c1 : (!x1) = true
  · rw [if_pos c1] at H
    refine ent_cond_true rfl c1 ?_
    refine ent_seq ?_
    refine ent_region ?_
    refine ent_value (ov_assign rfl) rfl rfl rfl ?_
    refine ent_value (ov_assign rfl) rfl rfl rfl ?_
    refine ent_nil ?_
    refine ent_retc ?_
    cases H
    refine ent_ownnil 43 6 ?_
    refine ent_pick [1, 0] (by decide) rfl ?_
    exact ret_mem (vs := [(Value.slice none 0 0), (Value.int .i64 1)]) rfl ⟨rfl, ⟨rfl, trivial⟩⟩ _ rfl ⟨_, rfl, rfl⟩
  · rw [if_neg c1] at H
    refine ent_cond_false rfl (Bool.eq_false_iff.2 c1) ?_
    refine ent_skip ?_
    refine ent_seq ?_
    refine ent_region ?_
    refine ent_value (ov_move rfl) rfl rfl rfl ?_
    obtain ⟨x2, h2, H⟩ := Option.bind_eq_some_iff.1 H
    refine ent_op (ot_call (Lr := []) (first := []) (cap := []) (xs := [.tmp 14]) rfl rfl F_call_87 rfl (pack_NewReader.spec sv0 A0 l0 hA0 _ h2) rfl) rfl rfl rfl ?_
    rintro _ _ ⟨_, ⟨b1, sv2, rfl, rfl⟩, rfl⟩
    refine ent_value (ov_assign rfl) rfl rfl rfl ?_
    refine ent_nil ?_
    obtain ⟨x3, H1, H⟩ := Option.bind_eq_some_iff.1 H
    refine ent_seq_cut (fun a w => ∃ v1, x3 = Sum.inl v1 ∧ ∃ sv3 : Value, ∃ sv4 : Value, IsRd (own sv2 5 1 x2.1.length (fl (eI .u8) x2.1)) sv4 v1.2.1.length 1 (fl (eI .u8) v1.2.1) ∧ St 60 w0 F [(1, (Value.int .i64 a1)), (4, sv3), (6, (pt b1 0))] [A0, (own sv3 43 6 v1.1.length (fl enc_Api_Fact v1.1)), (box b1 145 [sv4, (Value.int .i64 v1.2.2)]), (own sv2 5 1 x2.1.length (fl (eI .u8) x2.1))] a w) ?_ ?_
    · refine ent_seq ?_
      refine ent_region ?_
      refine ent_value (ov_move rfl) rfl rfl rfl ?_
      obtain ⟨x4, h3, H1⟩ := Option.bind_eq_some_iff.1 H1
      refine ent_pick [1, 2, 0] (by decide) rfl ?_
      refine ent_op (ot_call (Lr := [A0]) (first := []) (cap := []) (xs := [.tmp 16, .const (Value.int .i64 50)]) rfl rfl F_call_88 rfl (pack_Reader_Count.spec K b1 sv2 x2.1 x2.2 50 _ h3) rfl) rfl rfl rfl ?_
      rintro _ _ ⟨_, ⟨sv5, hr2, rfl, rfl⟩, rfl⟩
      refine ent_value (ov_move rfl) rfl rfl rfl ?_
      refine ent_nil ?_
      refine ent_block ?_
      refine ent_loop (fun k a w => ∃ i3, ∃ l4, ∃ l5, ∃ i4, ∃ sv6 : Value, ∃ sv7 : Value, IsRd (own sv2 5 1 x2.1.length (fl (eI .u8) x2.1)) sv7 l5.length 1 (fl (eI .u8) l5) ∧ fact_Read_l0 K a1 x4 k i3 l4 l5 i4 = some x3 ∧ St 60 w0 F [(1, (Value.int .i64 a1)), (4, sv6), (6, (pt b1 0)), (17, (Value.int .i64 x4.2.2)), (18, (Value.int .i64 i3))] [A0, (own sv6 43 6 l4.length (fl enc_Api_Fact l4)), (box b1 145 [sv7, (Value.int .i64 i4)]), (own sv2 5 1 x2.1.length (fl (eI .u8) x2.1))] a w) K ?_ ?_
      · refine ent_ownnil 43 6 ?_
        exact ent_fin [3, 0, 1, 2] (by decide) rfl (sub_cons (t := 1) rfl (sub_cons (t := 4) rfl (sub_cons (t := 6) rfl (sub_cons (t := 17) rfl (sub_cons (t := 18) rfl (sub_nil _)))))) fun a w h => ⟨_, _, _, _, _, _, hr2, H1, h⟩
      · refine fun k => ent_exi fun i3 => ent_exi fun l4 => ent_exi fun l5 => ent_exi fun i4 => ent_exi fun sv6 => ent_exi fun sv7 => ent_and fun hr3 => ent_and fun H2 => ?_
        cases k with
        | zero => exact absurd H2 (by simp [fact_Read_l0])
        | succ k =>
          rw [fact_Read_l0] at H2
          refine ent_seq ?_
          refine ent_region ?_
          refine ent_value (ov_bin rfl rfl (b_lss _ _ _)) rfl rfl rfl ?_
          refine ent_nil ?_
          refine ent_seq ?_
          by_cases c2 : i3 < x4.2.2
          · rw [if_pos c2] at H2
            refine ent_cond_true rfl (decide_eq_true c2) ?_
            refine ent_skip ?_
            refine ent_seq ?_
            refine ent_block ?_
            refine ent_seq ?_
            refine ent_region ?_
            refine ent_value (ov_move rfl) rfl rfl rfl ?_
            refine ent_value (ov_move rfl) rfl rfl rfl ?_
            obtain ⟨x5, h4, H2⟩ := Option.bind_eq_some_iff.1 H2
            refine ent_pick [2, 3, 0, 1] (by decide) rfl ?_
            refine ent_op (ot_call (Lr := [A0, (own sv6 43 6 l4.length (fl enc_Api_Fact l4))]) (first := []) (cap := []) (xs := [.tmp 21, .tmp 22]) rfl rfl F_call_89 rfl (fact_one.spec K b1 sv7 (own sv2 5 1 x2.1.length (fl (eI .u8) x2.1)) l5 i4 a1 hr3 _ h4) rfl) rfl rfl rfl ?_
            rintro _ _ ⟨_, ⟨sv8, hr4, rfl, rfl⟩, rfl⟩
            refine ent_value (ov_move rfl) rfl rfl rfl ?_
            refine ent_value (ov_extract rfl rfl) rfl rfl rfl ?_
            refine ent_value (ov_extract rfl rfl) rfl rfl rfl ?_
            refine ent_op (ot_alloc F_zero_43) rfl rfl rfl ?_
            rintro _ _ ⟨b2, rfl, rfl⟩
            refine ent_op0 (ot_storeG (cs := [(Value.int .i64 0), (str ([] : List UInt8)), (str ([] : List UInt8)), (str ([] : List UInt8)), (str ([] : List UInt8)), (Value.int .i64 0)]) (cs' := [(Value.int .i64 x5.1), (str x5.2.1), (str x5.2.2.1), (str x5.2.2.2.1), (str x5.2.2.2.2.1), (Value.int .i64 x5.2.2.2.2.2.1)]) (us := [(Value.int .i64 x5.1), (str x5.2.1), (str x5.2.2.1), (str x5.2.2.2.1), (str x5.2.2.2.2.1), (Value.int .i64 x5.2.2.2.2.2.1)]) (L' := [(box b2 43 [(Value.int .i64 x5.1), (str x5.2.1), (str x5.2.2.1), (str x5.2.2.2.1), (str x5.2.2.2.2.1), (Value.int .i64 x5.2.2.2.2.2.1)]), (box b1 145 [sv8, (Value.int .i64 x5.2.2.2.2.2.2.2.2)]), (own sv2 5 1 x2.1.length (fl (eI .u8) x2.1)), A0, (own sv6 43 6 l4.length (fl enc_Api_Fact l4))]) 0 rfl rfl rfl (one_all rfl) F_size_43 rfl rfl (by simp) rfl) rfl rfl ?_
            rintro _ _ rfl
            refine ent_value (ov_assign rfl) rfl rfl rfl ?_
            refine ent_nil ?_
            refine ent_seq ?_
            refine ent_block ?_
            refine ent_seq ?_
            refine ent_region ?_
            refine ent_value (ov_move rfl) rfl rfl rfl ?_
            refine ent_value (ov_un rfl (u_not _)) rfl rfl rfl ?_
            refine ent_value (ov_assign rfl) rfl rfl rfl ?_
            refine ent_nil ?_
            by_cases c3 : (!x5.2.2.2.2.2.2.1) = true
            · rw [if_pos c3] at H2
              refine ent_cond_true rfl c3 ?_
              refine ent_seq ?_
              refine ent_region ?_
              refine ent_value (ov_assign rfl) rfl rfl rfl ?_
              refine ent_value (ov_assign rfl) rfl rfl rfl ?_
              refine ent_nil ?_
              refine ent_retc ?_
              cases H2
              have H3 := Option.some.inj (show some _ = some _ from H)
              cases H3
              refine ent_ownnil 43 6 ?_
              refine ent_pick [4, 0] (by decide) rfl ?_
              exact ret_mem (vs := [(Value.slice none 0 0), (Value.int .i64 2)]) rfl ⟨rfl, ⟨rfl, trivial⟩⟩ _ rfl ⟨_, rfl, rfl⟩
            · rw [if_neg c3] at H2
              refine ent_cond_false rfl (Bool.eq_false_iff.2 c3) ?_
              refine ent_seq ?_
              refine ent_region ?_
              refine ent_value (ov_move rfl) rfl rfl rfl ?_
              obtain ⟨x6, h5, H2⟩ := thn_elim H2
              refine ent_op (ot_call_same (Lr := [(box b2 43 [(Value.int .i64 x5.1), (str x5.2.1), (str x5.2.2.1), (str x5.2.2.2.1), (str x5.2.2.2.2.1), (Value.int .i64 x5.2.2.2.2.2.1)]), A0, (own sv6 43 6 l4.length (fl enc_Api_Fact l4))]) [1, 2, 0, 3, 4] [2, 0, 1, 3, 4] (first := []) (cap := []) (xs := [.tmp 30]) rfl rfl F_call_90 rfl (pack_Reader_Fault.spec b1 sv8 (own sv2 5 1 x2.1.length (fl (eI .u8) x2.1)) x5.2.2.2.2.2.2.2.1 x5.2.2.2.2.2.2.2.2 hr4 _ h5) (by decide) rfl (by decide) rfl) rfl rfl rfl ?_
              rintro _ _ ⟨rfl, rfl⟩
              refine ent_value (ov_bin rfl rfl (b_neq _ _ _)) rfl rfl rfl ?_
              refine ent_value (ov_assign rfl) rfl rfl rfl ?_
              refine ent_nil ?_
              by_cases c4 : ¬ (x6 = 0)
              · rw [if_pos c4] at H2
                refine ent_cond_true rfl (ne_t c4) ?_
                refine ent_seq ?_
                refine ent_region ?_
                refine ent_value (ov_move rfl) rfl rfl rfl ?_
                obtain ⟨x7, h6, H2⟩ := thn_elim H2
                refine ent_op (ot_call_same (Lr := [(box b2 43 [(Value.int .i64 x5.1), (str x5.2.1), (str x5.2.2.1), (str x5.2.2.2.1), (str x5.2.2.2.2.1), (Value.int .i64 x5.2.2.2.2.2.1)]), A0, (own sv6 43 6 l4.length (fl enc_Api_Fact l4))]) [1, 2, 0, 3, 4] [2, 0, 1, 3, 4] (first := []) (cap := []) (xs := [.tmp 33]) rfl rfl F_call_90 rfl (pack_Reader_Fault.spec b1 sv8 (own sv2 5 1 x2.1.length (fl (eI .u8) x2.1)) x5.2.2.2.2.2.2.2.1 x5.2.2.2.2.2.2.2.2 hr4 _ h6) (by decide) rfl (by decide) rfl) rfl rfl rfl ?_
                rintro _ _ ⟨rfl, rfl⟩
                refine ent_value (ov_assign rfl) rfl rfl rfl ?_
                refine ent_value (ov_assign rfl) rfl rfl rfl ?_
                refine ent_nil ?_
                refine ent_retc ?_
                cases H2
                have H4 := Option.some.inj (show some _ = some _ from H)
                cases H4
                refine ent_ownnil 43 6 ?_
                refine ent_pick [4, 0] (by decide) rfl ?_
                exact ret_mem (vs := [(Value.slice none 0 0), (Value.int .i64 x7)]) rfl ⟨rfl, ⟨rfl, trivial⟩⟩ _ rfl ⟨_, rfl, rfl⟩
              · rw [if_neg c4] at H2
                refine ent_cond_false rfl (ne_f c4) ?_
                refine ent_skip ?_
                refine ent_region ?_
                refine ent_value (ov_move rfl) rfl rfl rfl ?_
                refine ent_value (ov_load_agg (vs := [(Value.int .i64 x5.1), (str x5.2.1), (str x5.2.2.1), (str x5.2.2.2.1), (str x5.2.2.2.2.1), (Value.int .i64 x5.2.2.2.2.2.1)]) rfl F_agg_43 F_size_43 (reads_boxW (i := 0) rfl)) rfl rfl rfl ?_
                refine ent_op (ot_buildSlice (sz := 5) (xs := [.tmp 36]) (cs := fl enc_Api_Fact [(⟨(⟨x5.1, x5.2.1, x5.2.2.1, x5.2.2.2.1, x5.2.2.2.2.1⟩ : Api_Key), x5.2.2.2.2.2.1⟩ : Api_Fact)]) rfl rfl F_slice_35 F_size_43 F_zero_43 rfl rfl (all_size rfl) rfl (by decide)) rfl rfl rfl ?_
                rintro sv9 _ rfl
                by_cases c5 : (l4.length + [(⟨(⟨x5.1, x5.2.1, x5.2.2.1, x5.2.2.2.1, x5.2.2.2.2.1⟩ : Api_Key), x5.2.2.2.2.2.1⟩ : Api_Fact)].length) * 80 ≤ 140737488355328
                · rw [if_pos c5] at H2
                  refine ent_op (ot_appendx (sz := 5) (xs := l4) (ys := [(⟨(⟨x5.1, x5.2.1, x5.2.2.1, x5.2.2.2.1, x5.2.2.2.2.1⟩ : Api_Key), x5.2.2.2.2.2.1⟩ : Api_Fact)]) 5 0 rfl rfl F_slice_35 F_size_43 F_zero_43 rfl F_bytes_43 rfl rfl rfl (isRd_ownx 43) rfl enc_Api_Fact_one c5) rfl rfl rfl ?_
                  rintro sv10 _ rfl
                  refine ent_L [(own sv9 43 6 [(⟨(⟨x5.1, x5.2.1, x5.2.2.1, x5.2.2.2.1, x5.2.2.2.2.1⟩ : Api_Key), x5.2.2.2.2.2.1⟩ : Api_Fact)].length (fl enc_Api_Fact [(⟨(⟨x5.1, x5.2.1, x5.2.2.1, x5.2.2.2.1, x5.2.2.2.2.1⟩ : Api_Key), x5.2.2.2.2.2.1⟩ : Api_Fact)])), (box b2 43 [(Value.int .i64 x5.1), (str x5.2.1), (str x5.2.2.1), (str x5.2.2.2.1), (str x5.2.2.2.2.1), (Value.int .i64 x5.2.2.2.2.2.1)]), (box b1 145 [sv8, (Value.int .i64 x5.2.2.2.2.2.2.2.2)]), (own sv2 5 1 x2.1.length (fl (eI .u8) x2.1)), A0, (own sv10 43 6 (l4 ++ [(⟨(⟨x5.1, x5.2.1, x5.2.2.1, x5.2.2.2.1, x5.2.2.2.2.1⟩ : Api_Key), x5.2.2.2.2.2.1⟩ : Api_Fact)]).length (fl enc_Api_Fact (l4 ++ [(⟨(⟨x5.1, x5.2.1, x5.2.2.1, x5.2.2.2.1, x5.2.2.2.2.1⟩ : Api_Key), x5.2.2.2.2.2.1⟩ : Api_Fact)])))] rfl ?_
                  refine ent_value (ov_assign rfl) rfl rfl rfl ?_
                  refine ent_nil ?_
                  refine ent_region ?_
                  refine ent_value (ov_bin rfl rfl (b_add _ _ _) ) rfl rfl rfl ?_
                  refine ent_value (ov_move rfl) rfl rfl rfl ?_
                  refine ent_nil ?_
                  exact ent_fin [4, 5, 2, 3] (by decide) rfl (sub_cons (t := 1) rfl (sub_cons (t := 4) rfl (sub_cons (t := 6) rfl (sub_cons (t := 17) rfl (sub_cons (t := 18) rfl (sub_nil _)))))) fun a w h => ⟨k, Nat.lt_succ_self k, _, _, _, _, _, _, hr4, H2, h⟩
                · rw [if_neg c5] at H2
                  cases H2
          · rw [if_neg c2] at H2
            refine ent_cond_false rfl (decide_eq_false c2) ?_
            refine ent_exit ?_
            cases H2
            exact ent_fin [0, 1, 2, 3] (by decide) rfl (sub_cons (t := 1) rfl (sub_cons (t := 4) rfl (sub_cons (t := 6) rfl (sub_nil _)))) fun a w h => ⟨_, rfl, _, _, hr3, h⟩
    · refine ent_exi fun v1 => ent_and fun e_ => ?_
      subst e_
      rw [cas_inl] at H
      refine ent_exi fun sv3 => ent_exi fun sv4 => ent_and fun hr1 => ?_
      refine ent_seq ?_
      refine ent_block ?_
      refine ent_seq ?_
      refine ent_region ?_
      refine ent_value (ov_move rfl) rfl rfl rfl ?_
      obtain ⟨x8, h7, H⟩ := thn_elim H
      refine ent_op (ot_call_same (Lr := [A0, (own sv3 43 6 v1.1.length (fl enc_Api_Fact v1.1))]) [2, 3, 0, 1] [2, 3, 0, 1] (first := []) (cap := []) (xs := [.tmp 41]) rfl rfl F_call_90 rfl (pack_Reader_Fault.spec b1 sv4 (own sv2 5 1 x2.1.length (fl (eI .u8) x2.1)) v1.2.1 v1.2.2 hr1 _ h7) (by decide) rfl (by decide) rfl) rfl rfl rfl ?_
      rintro _ _ ⟨rfl, rfl⟩
      refine ent_value (ov_bin rfl rfl (b_neq _ _ _)) rfl rfl rfl ?_
      refine ent_value (ov_assign rfl) rfl rfl rfl ?_
      refine ent_nil ?_
      by_cases c6 : ¬ (x8 = 0)
      · rw [if_pos c6] at H
        refine ent_cond_true rfl (ne_t c6) ?_
        refine ent_seq ?_
        refine ent_region ?_
        refine ent_value (ov_move rfl) rfl rfl rfl ?_
        obtain ⟨x9, h8, H⟩ := thn_elim H
        refine ent_op (ot_call_same (Lr := [A0, (own sv3 43 6 v1.1.length (fl enc_Api_Fact v1.1))]) [2, 3, 0, 1] [2, 3, 0, 1] (first := []) (cap := []) (xs := [.tmp 44]) rfl rfl F_call_90 rfl (pack_Reader_Fault.spec b1 sv4 (own sv2 5 1 x2.1.length (fl (eI .u8) x2.1)) v1.2.1 v1.2.2 hr1 _ h8) (by decide) rfl (by decide) rfl) rfl rfl rfl ?_
        rintro _ _ ⟨rfl, rfl⟩
        refine ent_value (ov_assign rfl) rfl rfl rfl ?_
        refine ent_value (ov_assign rfl) rfl rfl rfl ?_
        refine ent_nil ?_
        refine ent_retc ?_
        cases H
        refine ent_ownnil 43 6 ?_
        refine ent_pick [1, 0] (by decide) rfl ?_
        exact ret_mem (vs := [(Value.slice none 0 0), (Value.int .i64 x9)]) rfl ⟨rfl, ⟨rfl, trivial⟩⟩ _ rfl ⟨_, rfl, rfl⟩
      · rw [if_neg c6] at H
        refine ent_cond_false rfl (ne_f c6) ?_
        refine ent_seq ?_
        refine ent_region ?_
        refine ent_value (ov_move rfl) rfl rfl rfl ?_
        obtain ⟨x10, h9, H⟩ := thn_elim H
        refine ent_op (ot_call_same (Lr := [A0, (own sv3 43 6 v1.1.length (fl enc_Api_Fact v1.1))]) [2, 3, 0, 1] [2, 3, 0, 1] (first := []) (cap := []) (xs := [.tmp 47]) rfl rfl F_call_91 rfl (pack_Reader_Left.spec b1 sv4 (own sv2 5 1 x2.1.length (fl (eI .u8) x2.1)) v1.2.1 v1.2.2 hr1 _ h9) (by decide) rfl (by decide) rfl) rfl rfl rfl ?_
        rintro _ _ ⟨rfl, rfl⟩
        refine ent_value (ov_bin rfl rfl (b_gtr _ _ _)) rfl rfl rfl ?_
        refine ent_value (ov_assign rfl) rfl rfl rfl ?_
        refine ent_nil ?_
        by_cases c7 : 0 < x10
        · rw [if_pos c7] at H
          refine ent_cond_true rfl (decide_eq_true c7) ?_
          refine ent_seq ?_
          refine ent_region ?_
          refine ent_value (ov_assign rfl) rfl rfl rfl ?_
          refine ent_value (ov_assign rfl) rfl rfl rfl ?_
          refine ent_nil ?_
          refine ent_retc ?_
          cases H
          refine ent_ownnil 43 6 ?_
          refine ent_pick [1, 0] (by decide) rfl ?_
          exact ret_mem (vs := [(Value.slice none 0 0), (Value.int .i64 4)]) rfl ⟨rfl, ⟨rfl, trivial⟩⟩ _ rfl ⟨_, rfl, rfl⟩
        · rw [if_neg c7] at H
          refine ent_cond_false rfl (decide_eq_false c7) ?_
          refine ent_skip ?_
          refine ent_seq ?_
          refine ent_seq ?_
          refine ent_region ?_
          refine ent_value (ov_move rfl) rfl rfl rfl ?_
          refine ent_value (ov_move rfl) rfl rfl rfl ?_
          obtain ⟨x11, h10, H⟩ := Option.bind_eq_some_iff.1 H
          refine ent_op (ot_call_same (Lr := [A0, (box b1 145 [sv4, (Value.int .i64 v1.2.2)]), (own sv2 5 1 x2.1.length (fl (eI .u8) x2.1))]) [1, 0, 2, 3] [1, 0, 2, 3] (first := []) (cap := []) (xs := [.tmp 51, .tmp 52]) rfl rfl F_call_29 rfl (fact_All.spec K sv3 (own sv3 43 6 v1.1.length (fl enc_Api_Fact v1.1)) v1.1 a1 (isRd_ownx 43) _ h10) (by decide) rfl (by decide) rfl) rfl rfl rfl ?_
          rintro _ _ ⟨rfl, rfl⟩
          refine ent_value (ov_move rfl) rfl rfl rfl ?_
          refine ent_value (ov_extract rfl rfl) rfl rfl rfl ?_
          refine ent_value (ov_extract rfl rfl) rfl rfl rfl ?_
          refine ent_value (ov_assign rfl) rfl rfl rfl ?_
          refine ent_value (ov_assign rfl) rfl rfl rfl ?_
          refine ent_nil ?_
          refine ent_seq ?_
          refine ent_region ?_
          refine ent_value (ov_move rfl) rfl rfl rfl ?_
          refine ent_value (ov_bin rfl rfl (b_neq _ _ _)) rfl rfl rfl ?_
          refine ent_nil ?_
          by_cases c8 : ¬ (x11.1 = 0)
          · rw [if_pos c8] at H
            refine ent_cond_true rfl (ne_t c8) ?_
            refine ent_seq ?_
            refine ent_region ?_
            refine ent_value (ov_move rfl) rfl rfl rfl ?_
            refine ent_value (ov_assign rfl) rfl rfl rfl ?_
            refine ent_value (ov_assign rfl) rfl rfl rfl ?_
            refine ent_nil ?_
            refine ent_retc ?_
            cases H
            refine ent_ownnil 43 6 ?_
            refine ent_pick [1, 0] (by decide) rfl ?_
            exact ret_mem (vs := [(Value.slice none 0 0), (Value.int .i64 x11.1)]) rfl ⟨rfl, ⟨rfl, trivial⟩⟩ _ rfl ⟨_, rfl, rfl⟩
          · rw [if_neg c8] at H
            refine ent_cond_false rfl (ne_f c8) ?_
            refine ent_skip ?_
            refine ent_seq ?_
            refine ent_region ?_
            refine ent_value (ov_move rfl) rfl rfl rfl ?_
            refine ent_value (ov_assign rfl) rfl rfl rfl ?_
            refine ent_value (ov_assign rfl) rfl rfl rfl ?_
            refine ent_nil ?_
            refine ent_retc ?_
            cases H
            refine ent_pick [0, 1] (by decide) rfl ?_
            exact ret_mem (vs := [sv3, (Value.int .i64 0)]) rfl ⟨rfl, ⟨rfl, trivial⟩⟩ _ rfl ⟨_, rfl, rfl⟩

set_option maxRecDepth 100000 in
theorem ossuaryref01_Reader_one.spec (p0 : Nat) (sv0 : Value) (A0 : HP) (l0 : List Int) (p0_1 : Int) (hA0 : IsRd A0 sv0 l0.length 1 (fl (eI .u8) l0)) (r : (Int × Int × (List Int))) (H : ossuaryref01_Reader_one l0 p0_1 = some r) : FnSpec Try.prog 111 [(pt p0 0)] [(box p0 129 [sv0, (Value.int .i64 p0_1)]), A0] (fun v M => ∃ sv1 : Value, IsRd A0 sv1 r.2.2.length 1 (fl (eI .u8) r.2.2) ∧ v = (Value.int .i64 r.2.1) ∧ M = [(box p0 129 [sv1, (Value.int .i64 r.1)]), A0]) := by
  unfold ossuaryref01_Reader_one at H
  refine spec_of Try.func111 rfl 34 rfl (Nat.le_of_ble_eq_true rfl) fun F w0 => ?_
  show Ent (St 34 w0 F [(0, (pt p0 0))] [(box p0 129 [sv0, (Value.int .i64 p0_1)]), A0]) _
  refine ent_seq ?_
  refine ent_region ?_
  refine ent_value (ov_assign rfl) rfl rfl rfl ?_
  refine ent_nil ?_
  refine ent_seq ?_
  refine ent_seq ?_
  refine ent_region ?_
  refine ent_value (ov_move rfl) rfl rfl rfl ?_
  refine ent_value (ov_nilCheck rfl) rfl rfl rfl ?_
  refine ent_value (ov_fieldAddr (sz := 0) (o := 0) rfl F_field_129_1 F_size_37) rfl rfl rfl ?_
  refine ent_value (ov_load (v := (Value.int .i64 p0_1)) rfl F_agg_37 (reads_box1 (i := 0) rfl rfl)) rfl rfl rfl ?_
  refine ent_value (ov_bin rfl rfl (b_neq _ _ _)) rfl rfl rfl ?_
  refine ent_nil ?_
  by_cases c1 : ¬ (p0_1 = 0)
  · rw [if_pos c1] at H
    refine ent_cond_true rfl (ne_t c1) ?_
    refine ent_seq ?_
    refine ent_region ?_
    refine ent_value (ov_assign rfl) rfl rfl rfl ?_
    refine ent_nil ?_
    refine ent_retc ?_
    cases H
    exact ret_tmp rfl rfl ⟨_, hA0, rfl, rfl⟩
  · rw [if_neg c1] at H
    refine ent_cond_false rfl (ne_f c1) ?_
    refine ent_skip ?_
    refine ent_seq ?_
    refine ent_seq ?_
    refine ent_region ?_
    refine ent_value (ov_move rfl) rfl rfl rfl ?_
    refine ent_value (ov_nilCheck rfl) rfl rfl rfl ?_
    refine ent_value (ov_fieldAddr (sz := 0) (o := 0) rfl F_field_129_0 F_size_79) rfl rfl rfl ?_
    refine ent_value (ov_load (v := sv0) rfl F_agg_79 (reads_box1 (i := 0) rfl rfl)) rfl rfl rfl ?_
    refine ent_value (ov_len 1 rfl F_slice_79 rfl hA0) rfl rfl rfl ?_
    refine ent_value (ov_bin rfl rfl (b_eql _ _ _)) rfl rfl rfl ?_
    refine ent_nil ?_
    by_cases c2 : (l0.length : Int) = 0
    · rw [if_pos c2] at H
      refine ent_cond_true rfl (eq_t c2) ?_
      refine ent_seq ?_
      refine ent_region ?_
      refine ent_value (ov_move rfl) rfl rfl rfl ?_
      refine ent_value (ov_nilCheck rfl) rfl rfl rfl ?_
      refine ent_value (ov_fieldAddr (sz := 0) (o := 0) rfl F_field_129_1 F_size_37) rfl rfl rfl ?_
      refine ent_op0 (ot_storeG (cs := [sv0, (Value.int .i64 p0_1)]) (cs' := [sv0, (Value.int .i64 3)]) (us := [(Value.int .i64 3)]) (L' := [(box p0 129 [sv0, (Value.int .i64 3)]), A0]) 0 rfl rfl rfl (one_all rfl) F_size_37 rfl rfl (by simp) rfl) rfl rfl ?_
      rintro _ _ rfl
      refine ent_nil ?_
      refine ent_seq ?_
      refine ent_region ?_
      refine ent_value (ov_assign rfl) rfl rfl rfl ?_
      refine ent_nil ?_
      refine ent_retc ?_
      cases H
      exact ret_tmp rfl rfl ⟨_, hA0, rfl, rfl⟩
    · rw [if_neg c2] at H
      refine ent_cond_false rfl (eq_f c2) ?_
      refine ent_skip ?_
      refine ent_seq ?_
      refine ent_region ?_
      refine ent_value (ov_move rfl) rfl rfl rfl ?_
      refine ent_value (ov_nilCheck rfl) rfl rfl rfl ?_
      refine ent_value (ov_fieldAddr (sz := 0) (o := 0) rfl F_field_129_0 F_size_79) rfl rfl rfl ?_
      refine ent_value (ov_load (v := sv0) rfl F_agg_79 (reads_box1 (i := 0) rfl rfl)) rfl rfl rfl ?_
      by_cases c3 : 0 < (l0.length : Int)
      · rw [if_pos c3] at H
        refine ent_value (ov_indexAddr (sz := 0) 1 rfl rfl F_slice_79 F_size_5 rfl hA0 (by decide) c3) rfl rfl rfl ?_
        refine ent_value (ov_load (v := (Value.int .u8 (l0.getD ((0 : Int).toNat) 0))) rfl F_agg_5 (reads_rd (i := 1) rfl hA0 (by simp) (fl_read0 (eI_len _) (ix_lt (by decide) c3) rfl))) rfl rfl rfl ?_
        refine ent_value (ov_assign rfl) rfl rfl rfl ?_
        refine ent_nil ?_
        refine ent_seq ?_
        refine ent_region ?_
        refine ent_value (ov_move rfl) rfl rfl rfl ?_
        refine ent_value (ov_move rfl) rfl rfl rfl ?_
        refine ent_value (ov_nilCheck rfl) rfl rfl rfl ?_
        refine ent_value (ov_fieldAddr (sz := 0) (o := 0) rfl F_field_129_0 F_size_79) rfl rfl rfl ?_
        refine ent_value (ov_load (v := sv0) rfl F_agg_79 (reads_box1 (i := 0) rfl rfl)) rfl rfl rfl ?_
        by_cases c4 : 1 ≤ (l0.length : Int)
        · rw [if_pos c4] at H
          refine ent_value (ov_slice_lo 1 rfl rfl F_slice_79 F_size_5 rfl hA0 (by decide) c4) rfl rfl rfl ?_
          refine ent_value (ov_nilCheck rfl) rfl rfl rfl ?_
          refine ent_value (ov_fieldAddr (sz := 0) (o := 0) rfl F_field_129_0 F_size_79) rfl rfl rfl ?_
          refine ent_op0 (ot_storeS (cs := [sv0, (Value.int .i64 p0_1)]) (cs' := [(subs sv0 (1 : Int).toNat l0.length 1), (Value.int .i64 p0_1)]) (sv := (subs sv0 (1 : Int).toNat l0.length 1)) (L' := [(box p0 129 [(subs sv0 (1 : Int).toNat l0.length 1), (Value.int .i64 p0_1)]), A0]) 0 1 rfl rfl F_size_79 rfl rfl (isRd_drop (eI_len _) hA0 (nat_le (by decide) c4)) rfl (by simp) rfl) rfl rfl ?_
          rintro _ _ rfl
          refine ent_nil ?_
          refine ent_seq ?_
          refine ent_region ?_
          refine ent_value (ov_move rfl) rfl rfl rfl ?_
          refine ent_value (ov_convert rfl (c_int Try.underlying5 Try.underlying3)) rfl rfl rfl ?_
          refine ent_value (ov_assign rfl) rfl rfl rfl ?_
          refine ent_nil ?_
          refine ent_retc ?_
          cases H
          exact ret_tmp rfl rfl ⟨_, (isRd_drop (eI_len _) hA0 (nat_le (by decide) c4)), rfl, rfl⟩
        · rw [if_neg c4] at H
          cases H
      · rw [if_neg c3] at H
        cases H

set_option maxRecDepth 100000 in
theorem ossuaryref01_Reader_bad.spec (p0 : Nat) (sv0 : Value) (A0 : HP) (l0 : List Int) (p0_1 : Int) (hA0 : IsRd A0 sv0 l0.length 1 (fl (eI .u8) l0)) (r : Int) (H : ossuaryref01_Reader_bad l0 p0_1 = r) : FnSpec Try.prog 110 [(pt p0 0)] [(box p0 129 [sv0, (Value.int .i64 p0_1)]), A0] (fun v M => v = (Value.tuple #[]) ∧ M = [(box p0 129 [sv0, (Value.int .i64 r)]), A0]) := by
  unfold ossuaryref01_Reader_bad at H
  refine spec_of Try.func110 rfl 10 rfl (Nat.le_of_ble_eq_true rfl) fun F w0 => ?_
  show Ent (St 10 w0 F [(0, (pt p0 0))] [(box p0 129 [sv0, (Value.int .i64 p0_1)]), A0]) _
  refine ent_seq ?_
  refine ent_region ?_
  refine ent_value (ov_move rfl) rfl rfl rfl ?_
  refine ent_value (ov_nilCheck rfl) rfl rfl rfl ?_
  refine ent_value (ov_fieldAddr (sz := 0) (o := 0) rfl F_field_129_1 F_size_37) rfl rfl rfl ?_
  refine ent_value (ov_load (v := (Value.int .i64 p0_1)) rfl F_agg_37 (reads_box1 (i := 0) rfl rfl)) rfl rfl rfl ?_
  refine ent_value (ov_bin rfl rfl (b_eql _ _ _)) rfl rfl rfl ?_
  refine ent_nil ?_
  by_cases c1 : p0_1 = 0
  · rw [if_pos c1] at H
    refine ent_cond_true rfl (eq_t c1) ?_
    refine ent_region ?_
    refine ent_value (ov_move rfl) rfl rfl rfl ?_
    refine ent_value (ov_nilCheck rfl) rfl rfl rfl ?_
    refine ent_value (ov_fieldAddr (sz := 0) (o := 0) rfl F_field_129_1 F_size_37) rfl rfl rfl ?_
    refine ent_op0 (ot_storeG (cs := [sv0, (Value.int .i64 p0_1)]) (cs' := [sv0, (Value.int .i64 4)]) (us := [(Value.int .i64 4)]) (L' := [(box p0 129 [sv0, (Value.int .i64 4)]), A0]) 0 rfl rfl rfl (one_all rfl) F_size_37 rfl rfl (by simp) rfl) rfl rfl ?_
    rintro _ _ rfl
    refine ent_nil ?_
    cases H
    refine ret_normal ?_
    exact ret_none rfl ⟨rfl, rfl⟩
  · rw [if_neg c1] at H
    refine ent_cond_false rfl (eq_f c1) ?_
    refine ent_skip ?_
    cases H
    refine ret_normal ?_
    exact ret_none rfl ⟨rfl, rfl⟩

set_option maxRecDepth 100000 in
theorem ossuaryref01_Reader_Num.spec (K : Nat) (p0 : Nat) (sv0 : Value) (A0 : HP) (l0 : List Int) (p0_1 : Int) (hA0 : IsRd A0 sv0 l0.length 1 (fl (eI .u8) l0)) (r : (Int × (List Int) × Int)) (H : ossuaryref01_Reader_Num K l0 p0_1 = some r) : FnSpec Try.prog 93 [(pt p0 0)] [(box p0 129 [sv0, (Value.int .i64 p0_1)]), A0] (fun v M => ∃ sv1 : Value, IsRd A0 sv1 r.2.1.length 1 (fl (eI .u8) r.2.1) ∧ v = (Value.int .u64 r.2.2) ∧ M = [(box p0 129 [sv1, (Value.int .i64 r.1)]), A0]) := by
  unfold ossuaryref01_Reader_Num at H
  refine spec_of Try.func93 rfl 50 rfl (Nat.le_of_ble_eq_true rfl) fun F w0 => ?_
  show Ent (St 50 w0 F [(0, (pt p0 0))] [(box p0 129 [sv0, (Value.int .i64 p0_1)]), A0]) _
  refine ent_seq ?_
  refine ent_region ?_
  refine ent_value (ov_assign rfl) rfl rfl rfl ?_
  refine ent_nil ?_
  refine ent_seq ?_
  refine ent_region ?_
  refine ent_value (ov_assign rfl) rfl rfl rfl ?_
  refine ent_value (ov_assign rfl) rfl rfl rfl ?_
  refine ent_nil ?_
  refine ent_seq ?_
  refine ent_seq ?_
  refine ent_region ?_
  refine ent_value (ov_assign rfl) rfl rfl rfl ?_
  refine ent_nil ?_
  refine ent_block ?_
  refine ent_loop (fun k a w => ∃ i3, ∃ i4, ∃ i5, ∃ l2, ∃ i6, ∃ sv2 : Value, IsRd A0 sv2 l2.length 1 (fl (eI .u8) l2) ∧ ossuaryref01_Reader_Num_l0 K k i3 i4 i5 l2 i6 = some r ∧ St 50 w0 F [(0, (pt p0 0)), (3, (Value.int .u64 i3)), (4, (Value.int .u64 i4)), (5, (Value.int .i64 i5))] [(box p0 129 [sv2, (Value.int .i64 i6)]), A0] a w) K ?_ ?_
  · exact ent_fin [0, 1] (by decide) rfl (sub_cons (t := 0) rfl (sub_cons (t := 3) rfl (sub_cons (t := 4) rfl (sub_cons (t := 5) rfl (sub_nil _))))) fun a w h => ⟨_, _, _, _, _, _, hA0, H, h⟩
  · refine fun k => ent_exi fun i3 => ent_exi fun i4 => ent_exi fun i5 => ent_exi fun l2 => ent_exi fun i6 => ent_exi fun sv2 => ent_and fun hr2 => ent_and fun H1 => ?_
    cases k with
    | zero => exact absurd H1 (by simp [ossuaryref01_Reader_Num_l0])
    | succ k =>
      rw [ossuaryref01_Reader_Num_l0] at H1
      refine ent_seq ?_
      refine ent_seq ?_
      refine ent_region ?_
      refine ent_value (ov_move rfl) rfl rfl rfl ?_
      refine ent_value (ov_bin rfl rfl (b_lss _ _ _)) rfl rfl rfl ?_
      refine ent_nil ?_
      by_cases c1 : i5 < 10
      · rw [if_pos c1] at H1
        refine ent_cond_true rfl (decide_eq_true c1) ?_
        refine ent_skip ?_
        refine ent_seq ?_
        refine ent_block ?_
        refine ent_seq ?_
        refine ent_region ?_
        refine ent_value (ov_move rfl) rfl rfl rfl ?_
        obtain ⟨x1, h1, H1⟩ := Option.bind_eq_some_iff.1 H1
        refine ent_op (ot_call (Lr := []) (first := []) (cap := []) (xs := [.tmp 12]) rfl rfl F_call_111 rfl (ossuaryref01_Reader_one.spec p0 sv2 A0 l2 i6 hr2 _ h1) rfl) rfl rfl rfl ?_
        rintro _ _ ⟨_, ⟨sv3, hr3, rfl, rfl⟩, rfl⟩
        refine ent_value (ov_assign rfl) rfl rfl rfl ?_
        refine ent_nil ?_
        refine ent_seq ?_
        refine ent_seq ?_
        refine ent_region ?_
        refine ent_value (ov_move rfl) rfl rfl rfl ?_
        refine ent_value (ov_nilCheck rfl) rfl rfl rfl ?_
        refine ent_value (ov_fieldAddr (sz := 0) (o := 0) rfl F_field_129_1 F_size_37) rfl rfl rfl ?_
        refine ent_value (ov_load (v := (Value.int .i64 x1.1)) rfl F_agg_37 (reads_box1 (i := 0) rfl rfl)) rfl rfl rfl ?_
        refine ent_value (ov_bin rfl rfl (b_neq _ _ _)) rfl rfl rfl ?_
        refine ent_nil ?_
        by_cases c2 : ¬ (x1.1 = 0)
        · rw [if_pos c2] at H1
          refine ent_cond_true rfl (ne_t c2) ?_
          refine ent_seq ?_
          refine ent_region ?_
          refine ent_value (ov_assign rfl) rfl rfl rfl ?_
          refine ent_nil ?_
          refine ent_retc ?_
          cases H1
          exact ret_tmp rfl rfl ⟨_, hr3, rfl, rfl⟩
        · rw [if_neg c2] at H1
          refine ent_cond_false rfl (ne_f c2) ?_
          refine ent_skip ?_
          refine ent_seq ?_
          refine ent_region ?_
          refine ent_value (ov_move rfl) rfl rfl rfl ?_
          refine ent_value (ov_bin rfl rfl fun w => b_rem _ _ _ w (by decide)) rfl rfl rfl ?_
          refine ent_value (ov_convert rfl (c_int Try.underlying3 Try.underlying90)) rfl rfl rfl ?_
          refine ent_value (ov_assign rfl) rfl rfl rfl ?_
          refine ent_nil ?_
          obtain ⟨x2, H2, H1⟩ := thn_elim H1
          refine ent_seq_cut (fun a w => ∃ v1, x2 = Sum.inl v1 ∧ ∃ sv4 : Value, IsRd A0 sv4 v1.1.length 1 (fl (eI .u8) v1.1) ∧ St 50 w0 F [(0, (pt p0 0)), (3, (Value.int .u64 i3)), (4, (Value.int .u64 i4)), (5, (Value.int .i64 i5)), (6, (Value.int .i64 x1.2.1)), (7, (Value.int .u64 v1.2))] [(box p0 129 [sv4, (Value.int .i64 x1.1)]), A0] a w) ?_ ?_
          · refine ent_seq ?_
            refine ent_region ?_
            refine ent_value (ov_move rfl) rfl rfl rfl ?_
            refine ent_value (ov_bin rfl rfl (b_eql _ _ _)) rfl rfl rfl ?_
            refine ent_value (ov_move rfl) rfl rfl rfl ?_
            by_cases c3 : i5 = 9
            · rw [if_pos c3] at H2
              refine ent_value_on (ov_move rfl) rfl rfl rfl (eq_t c3) rfl rfl ?_
              refine ent_value_on (ov_bin rfl rfl (b_gtr _ _ _)) rfl rfl rfl (eq_t c3) rfl rfl ?_
              refine ent_value (ov_pick rfl rfl rfl (pick_t (eq_t c3))) rfl rfl rfl ?_
              refine ent_nil ?_
              by_cases c4 : 1 < (wu64 (Int.tmod x1.2.1 128))
              · rw [if_pos c4] at H2
                refine ent_cond_true rfl (decide_eq_true c4) ?_
                refine ent_seq ?_
                refine ent_region ?_
                refine ent_value (ov_move rfl) rfl rfl rfl ?_
                obtain ⟨x3, h2, H2⟩ := thn_elim H2
                refine ent_op (ot_call (Lr := []) (first := []) (cap := []) (xs := [.tmp 28]) rfl rfl F_call_110 rfl (ossuaryref01_Reader_bad.spec p0 sv3 A0 x1.2.2 x1.1 hr3 _ h2) rfl) rfl rfl rfl ?_
                rintro _ _ ⟨_, ⟨rfl, rfl⟩, rfl⟩
                refine ent_nil ?_
                refine ent_seq ?_
                refine ent_region ?_
                refine ent_value (ov_assign rfl) rfl rfl rfl ?_
                refine ent_nil ?_
                refine ent_retc ?_
                subst H2
                have H3 := Option.some.inj (show some _ = some _ from H1)
                cases H3
                exact ret_tmp rfl rfl ⟨_, hr3, rfl, rfl⟩
              · rw [if_neg c4] at H2
                refine ent_cond_false rfl (decide_eq_false c4) ?_
                refine ent_skip ?_
                cases H2
                exact ent_fin [0, 1] (by decide) rfl (sub_cons (t := 0) rfl (sub_cons (t := 3) rfl (sub_cons (t := 4) rfl (sub_cons (t := 5) rfl (sub_cons (t := 6) rfl (sub_cons (t := 7) rfl (sub_nil _))))))) fun a w h => ⟨_, rfl, _, hr3, h⟩
            · rw [if_neg c3] at H2
              refine ent_off rfl rfl rfl (eq_f c3) rfl rfl ?_
              refine ent_off rfl rfl rfl (eq_f c3) rfl rfl ?_
              refine ent_value (ov_pick rfl rfl rfl (pick_f (eq_f c3))) rfl rfl rfl ?_
              refine ent_nil ?_
              refine ent_cond_false rfl rfl ?_
              refine ent_skip ?_
              cases H2
              exact ent_fin [0, 1] (by decide) rfl (sub_cons (t := 0) rfl (sub_cons (t := 3) rfl (sub_cons (t := 4) rfl (sub_cons (t := 5) rfl (sub_cons (t := 6) rfl (sub_cons (t := 7) rfl (sub_nil _))))))) fun a w h => ⟨_, rfl, _, hr3, h⟩
          · refine ent_exi fun v1 => ent_and fun e_ => ?_
            subst e_
            rw [cas_inl] at H1
            refine ent_exi fun sv4 => ent_and fun hr4 => ?_
            refine ent_seq ?_
            refine ent_region ?_
            refine ent_value (ov_move rfl) rfl rfl rfl ?_
            refine ent_value (ov_move rfl) rfl rfl rfl ?_
            refine ent_value (ov_move rfl) rfl rfl rfl ?_
            refine ent_value (ov_bin rfl rfl (b_mul _ _ _) ) rfl rfl rfl ?_
            refine ent_value (ov_bin rfl rfl (b_add _ _ _) ) rfl rfl rfl ?_
            refine ent_value (ov_assign rfl) rfl rfl rfl ?_
            refine ent_nil ?_
            refine ent_seq ?_
            refine ent_region ?_
            refine ent_value (ov_move rfl) rfl rfl rfl ?_
            refine ent_value (ov_bin rfl rfl (b_mul _ _ _) ) rfl rfl rfl ?_
            refine ent_value (ov_assign rfl) rfl rfl rfl ?_
            refine ent_nil ?_
            refine ent_seq ?_
            refine ent_region ?_
            refine ent_value (ov_move rfl) rfl rfl rfl ?_
            refine ent_value (ov_bin rfl rfl (b_lss _ _ _)) rfl rfl rfl ?_
            refine ent_nil ?_
            by_cases c5 : x1.2.1 < 128
            · rw [if_pos c5] at H1
              refine ent_cond_true rfl (decide_eq_true c5) ?_
              refine ent_seq ?_
              refine ent_seq ?_
              refine ent_region ?_
              refine ent_value (ov_move rfl) rfl rfl rfl ?_
              refine ent_value (ov_bin rfl rfl (b_eql _ _ _)) rfl rfl rfl ?_
              refine ent_value (ov_move rfl) rfl rfl rfl ?_
              by_cases c6 : v1.2 = 0
              · rw [if_pos c6] at H1
                refine ent_value_on (ov_move rfl) rfl rfl rfl (eq_t c6) rfl rfl ?_
                refine ent_value_on (ov_bin rfl rfl (b_gtr _ _ _)) rfl rfl rfl (eq_t c6) rfl rfl ?_
                refine ent_value (ov_pick rfl rfl rfl (pick_t (eq_t c6))) rfl rfl rfl ?_
                refine ent_nil ?_
                by_cases c7 : 0 < i5
                · rw [if_pos c7] at H1
                  refine ent_cond_true rfl (decide_eq_true c7) ?_
                  refine ent_seq ?_
                  refine ent_region ?_
                  refine ent_value (ov_move rfl) rfl rfl rfl ?_
                  obtain ⟨x4, h3, H1⟩ := thn_elim H1
                  refine ent_op (ot_call (Lr := []) (first := []) (cap := []) (xs := [.tmp 45]) rfl rfl F_call_110 rfl (ossuaryref01_Reader_bad.spec p0 sv4 A0 v1.1 x1.1 hr4 _ h3) rfl) rfl rfl rfl ?_
                  rintro _ _ ⟨_, ⟨rfl, rfl⟩, rfl⟩
                  refine ent_nil ?_
                  refine ent_seq ?_
                  refine ent_region ?_
                  refine ent_value (ov_assign rfl) rfl rfl rfl ?_
                  refine ent_nil ?_
                  refine ent_retc ?_
                  cases H1
                  exact ret_tmp rfl rfl ⟨_, hr4, rfl, rfl⟩
                · rw [if_neg c7] at H1
                  refine ent_cond_false rfl (decide_eq_false c7) ?_
                  refine ent_skip ?_
                  refine ent_seq ?_
                  refine ent_region ?_
                  refine ent_value (ov_move rfl) rfl rfl rfl ?_
                  refine ent_value (ov_assign rfl) rfl rfl rfl ?_
                  refine ent_nil ?_
                  refine ent_retc ?_
                  cases H1
                  exact ret_tmp rfl rfl ⟨_, hr4, rfl, rfl⟩
              · rw [if_neg c6] at H1
                refine ent_off rfl rfl rfl (eq_f c6) rfl rfl ?_
                refine ent_off rfl rfl rfl (eq_f c6) rfl rfl ?_
                refine ent_value (ov_pick rfl rfl rfl (pick_f (eq_f c6))) rfl rfl rfl ?_
                refine ent_nil ?_
                refine ent_cond_false rfl rfl ?_
                refine ent_skip ?_
                refine ent_seq ?_
                refine ent_region ?_
                refine ent_value (ov_move rfl) rfl rfl rfl ?_
                refine ent_value (ov_assign rfl) rfl rfl rfl ?_
                refine ent_nil ?_
                refine ent_retc ?_
                cases H1
                exact ret_tmp rfl rfl ⟨_, hr4, rfl, rfl⟩
            · rw [if_neg c5] at H1
              refine ent_cond_false rfl (decide_eq_false c5) ?_
              refine ent_skip ?_
              refine ent_region ?_
              refine ent_value (ov_move rfl) rfl rfl rfl ?_
              refine ent_value (ov_bin rfl rfl (b_add _ _ _) ) rfl rfl rfl ?_
              refine ent_value (ov_assign rfl) rfl rfl rfl ?_
              refine ent_nil ?_
              exact ent_fin [0, 1] (by decide) rfl (sub_cons (t := 0) rfl (sub_cons (t := 3) rfl (sub_cons (t := 4) rfl (sub_cons (t := 5) rfl (sub_nil _))))) fun a w h => ⟨k, Nat.lt_succ_self k, _, _, _, _, _, _, hr4, H1, h⟩
      · rw [if_neg c1] at H1
        refine ent_cond_false rfl (decide_eq_false c1) ?_
        refine ent_exit ?_
        refine ent_seq ?_
        refine ent_region ?_
        refine ent_value (ov_move rfl) rfl rfl rfl ?_
        obtain ⟨x5, h4, H1⟩ := thn_elim H1
        refine ent_op (ot_call (Lr := []) (first := []) (cap := []) (xs := [.tmp 48]) rfl rfl F_call_110 rfl (ossuaryref01_Reader_bad.spec p0 sv2 A0 l2 i6 hr2 _ h4) rfl) rfl rfl rfl ?_
        rintro _ _ ⟨_, ⟨rfl, rfl⟩, rfl⟩
        refine ent_nil ?_
        refine ent_seq ?_
        refine ent_region ?_
        refine ent_value (ov_assign rfl) rfl rfl rfl ?_
        refine ent_nil ?_
        refine ent_retc ?_
        cases H1
        exact ret_tmp rfl rfl ⟨_, hr2, rfl, rfl⟩

set_option maxRecDepth 100000 in
theorem ossuaryref01_Reader_Count.spec (K : Nat) (p0 : Nat) (sv0 : Value) (A0 : HP) (l0 : List Int) (p0_1 : Int) (a1 : Int) (hA0 : IsRd A0 sv0 l0.length 1 (fl (eI .u8) l0)) (r : (Int × Int × (List Int))) (H : ossuaryref01_Reader_Count K l0 p0_1 a1 = some r) : FnSpec Try.prog 92 [(pt p0 0), (Value.int .i64 a1)] [(box p0 129 [sv0, (Value.int .i64 p0_1)]), A0] (fun v M => ∃ sv1 : Value, IsRd A0 sv1 r.2.2.length 1 (fl (eI .u8) r.2.2) ∧ v = (Value.int .i64 r.1) ∧ M = [(box p0 129 [sv1, (Value.int .i64 r.2.1)]), A0]) := by
  unfold ossuaryref01_Reader_Count at H
  refine spec_of Try.func92 rfl 17 rfl (Nat.le_of_ble_eq_true rfl) fun F w0 => ?_
  show Ent (St 17 w0 F [(0, (pt p0 0)), (1, (Value.int .i64 a1))] [(box p0 129 [sv0, (Value.int .i64 p0_1)]), A0]) _
  refine ent_seq ?_
  refine ent_region ?_
  refine ent_value (ov_assign rfl) rfl rfl rfl ?_
  refine ent_nil ?_
  refine ent_seq ?_
  refine ent_region ?_
  refine ent_value (ov_move rfl) rfl rfl rfl ?_
  obtain ⟨x1, h1, H⟩ := Option.bind_eq_some_iff.1 H
  refine ent_op (ot_call (Lr := []) (first := []) (cap := []) (xs := [.tmp 6]) rfl rfl F_call_93 rfl (ossuaryref01_Reader_Num.spec K p0 sv0 A0 l0 p0_1 hA0 _ h1) rfl) rfl rfl rfl ?_
  rintro _ _ ⟨_, ⟨sv2, hr2, rfl, rfl⟩, rfl⟩
  refine ent_value (ov_assign rfl) rfl rfl rfl ?_
  refine ent_nil ?_
  refine ent_seq ?_
  refine ent_seq ?_
  refine ent_region ?_
  refine ent_value (ov_move rfl) rfl rfl rfl ?_
  refine ent_value (ov_move rfl) rfl rfl rfl ?_
  refine ent_value (ov_max2 rfl rfl) rfl rfl rfl ?_
  refine ent_value (ov_convert rfl (c_int Try.underlying3 Try.underlying90)) rfl rfl rfl ?_
  refine ent_value (ov_bin rfl rfl (b_gtr _ _ _)) rfl rfl rfl ?_
  refine ent_nil ?_
  by_cases c1 : (wu64 (mx a1 0)) < x1.2.2
  · rw [if_pos c1] at H
    refine ent_cond_true rfl (decide_eq_true c1) ?_
    refine ent_seq ?_
    refine ent_region ?_
    refine ent_value (ov_move rfl) rfl rfl rfl ?_
    obtain ⟨x2, h2, H⟩ := thn_elim H
    refine ent_op (ot_call (Lr := []) (first := []) (cap := []) (xs := [.tmp 13]) rfl rfl F_call_110 rfl (ossuaryref01_Reader_bad.spec p0 sv2 A0 x1.2.1 x1.1 hr2 _ h2) rfl) rfl rfl rfl ?_
    rintro _ _ ⟨_, ⟨rfl, rfl⟩, rfl⟩
    refine ent_nil ?_
    refine ent_seq ?_
    refine ent_region ?_
    refine ent_value (ov_assign rfl) rfl rfl rfl ?_
    refine ent_nil ?_
    refine ent_retc ?_
    cases H
    exact ret_tmp rfl rfl ⟨_, hr2, rfl, rfl⟩
  · rw [if_neg c1] at H
    refine ent_cond_false rfl (decide_eq_false c1) ?_
    refine ent_skip ?_
    refine ent_seq ?_
    refine ent_region ?_
    refine ent_value (ov_move rfl) rfl rfl rfl ?_
    refine ent_value (ov_convert rfl (c_int Try.underlying90 Try.underlying3)) rfl rfl rfl ?_
    refine ent_value (ov_assign rfl) rfl rfl rfl ?_
    refine ent_nil ?_
    refine ent_retc ?_
    cases H
    exact ret_tmp rfl rfl ⟨_, hr2, rfl, rfl⟩

set_option maxRecDepth 100000 in
theorem ossuaryref01_Reader_Text.spec (K : Nat) (p0 : Nat) (sv0 : Value) (A0 : HP) (l0 : List Int) (p0_1 : Int) (a1 : Int) (hA0 : IsRd A0 sv0 l0.length 1 (fl (eI .u8) l0)) (r : (Int × (List UInt8) × (List Int))) (H : ossuaryref01_Reader_Text K l0 p0_1 a1 = some r) : FnSpec Try.prog 94 [(pt p0 0), (Value.int .i64 a1)] [(box p0 129 [sv0, (Value.int .i64 p0_1)]), A0] (fun v M => ∃ sv1 : Value, IsRd A0 sv1 r.2.2.length 1 (fl (eI .u8) r.2.2) ∧ v = (str r.2.1) ∧ M = [(box p0 129 [sv1, (Value.int .i64 r.1)]), A0]) := by
  unfold ossuaryref01_Reader_Text at H
  refine spec_of Try.func94 rfl 49 rfl (Nat.le_of_ble_eq_true rfl) fun F w0 => ?_
  show Ent (St 49 w0 F [(0, (pt p0 0)), (1, (Value.int .i64 a1))] [(box p0 129 [sv0, (Value.int .i64 p0_1)]), A0]) _
  refine ent_seq ?_
  refine ent_region ?_
  refine ent_value (ov_assign rfl) rfl rfl rfl ?_
  refine ent_nil ?_
  refine ent_seq ?_
  refine ent_region ?_
  refine ent_value (ov_move rfl) rfl rfl rfl ?_
  obtain ⟨x1, h1, H⟩ := Option.bind_eq_some_iff.1 H
  refine ent_op (ot_call (Lr := []) (first := []) (cap := []) (xs := [.tmp 7]) rfl rfl F_call_93 rfl (ossuaryref01_Reader_Num.spec K p0 sv0 A0 l0 p0_1 hA0 _ h1) rfl) rfl rfl rfl ?_
  rintro _ _ ⟨_, ⟨sv2, hr2, rfl, rfl⟩, rfl⟩
  refine ent_value (ov_assign rfl) rfl rfl rfl ?_
  refine ent_nil ?_
  refine ent_seq ?_
  refine ent_seq ?_
  refine ent_region ?_
  refine ent_value (ov_move rfl) rfl rfl rfl ?_
  refine ent_value (ov_nilCheck rfl) rfl rfl rfl ?_
  refine ent_value (ov_fieldAddr (sz := 0) (o := 0) rfl F_field_129_1 F_size_37) rfl rfl rfl ?_
  refine ent_value (ov_load (v := (Value.int .i64 x1.1)) rfl F_agg_37 (reads_box1 (i := 0) rfl rfl)) rfl rfl rfl ?_
  refine ent_value (ov_bin rfl rfl (b_neq _ _ _)) rfl rfl rfl ?_
  refine ent_nil ?_
  by_cases c1 : ¬ (x1.1 = 0)
  · rw [if_pos c1] at H
    refine ent_cond_true rfl (ne_t c1) ?_
    refine ent_seq ?_
    refine ent_region ?_
    refine ent_value (ov_assign rfl) rfl rfl rfl ?_
    refine ent_nil ?_
    refine ent_retc ?_
    cases H
    exact ret_tmp rfl rfl ⟨_, hr2, rfl, rfl⟩
  · rw [if_neg c1] at H
    refine ent_cond_false rfl (ne_f c1) ?_
    refine ent_skip ?_
    refine ent_seq ?_
    refine ent_seq ?_
    refine ent_region ?_
    refine ent_value (ov_move rfl) rfl rfl rfl ?_
    refine ent_value (ov_move rfl) rfl rfl rfl ?_
    refine ent_value (ov_max2 rfl rfl) rfl rfl rfl ?_
    refine ent_value (ov_convert rfl (c_int Try.underlying3 Try.underlying90)) rfl rfl rfl ?_
    refine ent_value (ov_bin rfl rfl (b_gtr _ _ _)) rfl rfl rfl ?_
    refine ent_nil ?_
    by_cases c2 : (wu64 (mx a1 0)) < x1.2.2
    · rw [if_pos c2] at H
      refine ent_cond_true rfl (decide_eq_true c2) ?_
      refine ent_seq ?_
      refine ent_region ?_
      refine ent_value (ov_move rfl) rfl rfl rfl ?_
      obtain ⟨x2, h2, H⟩ := thn_elim H
      refine ent_op (ot_call (Lr := []) (first := []) (cap := []) (xs := [.tmp 19]) rfl rfl F_call_110 rfl (ossuaryref01_Reader_bad.spec p0 sv2 A0 x1.2.1 x1.1 hr2 _ h2) rfl) rfl rfl rfl ?_
      rintro _ _ ⟨_, ⟨rfl, rfl⟩, rfl⟩
      refine ent_nil ?_
      refine ent_seq ?_
      refine ent_region ?_
      refine ent_value (ov_assign rfl) rfl rfl rfl ?_
      refine ent_nil ?_
      refine ent_retc ?_
      cases H
      exact ret_tmp rfl rfl ⟨_, hr2, rfl, rfl⟩
    · rw [if_neg c2] at H
      refine ent_cond_false rfl (decide_eq_false c2) ?_
      refine ent_skip ?_
      refine ent_seq ?_
      refine ent_seq ?_
      refine ent_region ?_
      refine ent_value (ov_move rfl) rfl rfl rfl ?_
      refine ent_value (ov_nilCheck rfl) rfl rfl rfl ?_
      refine ent_value (ov_fieldAddr (sz := 0) (o := 0) rfl F_field_129_0 F_size_79) rfl rfl rfl ?_
      refine ent_value (ov_load (v := sv2) rfl F_agg_79 (reads_box1 (i := 0) rfl rfl)) rfl rfl rfl ?_
      refine ent_value (ov_len 1 rfl F_slice_79 rfl hr2) rfl rfl rfl ?_
      refine ent_value (ov_convert rfl (c_int Try.underlying3 Try.underlying90)) rfl rfl rfl ?_
      refine ent_value (ov_move rfl) rfl rfl rfl ?_
      refine ent_value (ov_bin rfl rfl (b_lss _ _ _)) rfl rfl rfl ?_
      refine ent_nil ?_
      by_cases c3 : (wu64 (x1.2.1.length : Int)) < x1.2.2
      · rw [if_pos c3] at H
        refine ent_cond_true rfl (decide_eq_true c3) ?_
        refine ent_seq ?_
        refine ent_region ?_
        refine ent_value (ov_move rfl) rfl rfl rfl ?_
        refine ent_value (ov_nilCheck rfl) rfl rfl rfl ?_
        refine ent_value (ov_fieldAddr (sz := 0) (o := 0) rfl F_field_129_1 F_size_37) rfl rfl rfl ?_
        refine ent_op0 (ot_storeG (cs := [sv2, (Value.int .i64 x1.1)]) (cs' := [sv2, (Value.int .i64 3)]) (us := [(Value.int .i64 3)]) (L' := [(box p0 129 [sv2, (Value.int .i64 3)]), A0]) 0 rfl rfl rfl (one_all rfl) F_size_37 rfl rfl (by simp) rfl) rfl rfl ?_
        rintro _ _ rfl
        refine ent_nil ?_
        refine ent_seq ?_
        refine ent_region ?_
        refine ent_value (ov_assign rfl) rfl rfl rfl ?_
        refine ent_nil ?_
        refine ent_retc ?_
        cases H
        exact ret_tmp rfl rfl ⟨_, hr2, rfl, rfl⟩
      · rw [if_neg c3] at H
        refine ent_cond_false rfl (decide_eq_false c3) ?_
        refine ent_skip ?_
        refine ent_seq ?_
        refine ent_region ?_
        refine ent_value (ov_move rfl) rfl rfl rfl ?_
        refine ent_value (ov_nilCheck rfl) rfl rfl rfl ?_
        refine ent_value (ov_fieldAddr (sz := 0) (o := 0) rfl F_field_129_0 F_size_79) rfl rfl rfl ?_
        refine ent_value (ov_load (v := sv2) rfl F_agg_79 (reads_box1 (i := 0) rfl rfl)) rfl rfl rfl ?_
        refine ent_value (ov_move rfl) rfl rfl rfl ?_
        by_cases c4 : 0 ≤ x1.2.2
        · rw [if_pos c4] at H
          by_cases c5 : x1.2.2 ≤ (x1.2.1.length : Int)
          · rw [if_pos c5] at H
            refine ent_value (ov_slice_hi 1 rfl rfl F_slice_79 F_size_5 rfl hr2 c4 c5) rfl rfl rfl ?_
            refine ent_value (ov_b2s 1 rfl F_slice_79 Try.underlying5 Try.underlying9 rfl (isRd_take (eI_len _) hr2 (nat_le c4 c5))) rfl rfl rfl ?_
            refine ent_value (ov_assign rfl) rfl rfl rfl ?_
            refine ent_nil ?_
            refine ent_seq ?_
            refine ent_region ?_
            refine ent_value (ov_move rfl) rfl rfl rfl ?_
            refine ent_value (ov_move rfl) rfl rfl rfl ?_
            refine ent_value (ov_nilCheck rfl) rfl rfl rfl ?_
            refine ent_value (ov_fieldAddr (sz := 0) (o := 0) rfl F_field_129_0 F_size_79) rfl rfl rfl ?_
            refine ent_value (ov_load (v := sv2) rfl F_agg_79 (reads_box1 (i := 0) rfl rfl)) rfl rfl rfl ?_
            refine ent_value (ov_move rfl) rfl rfl rfl ?_
            refine ent_value (ov_slice_lo 1 rfl rfl F_slice_79 F_size_5 rfl hr2 c4 c5) rfl rfl rfl ?_
            refine ent_value (ov_nilCheck rfl) rfl rfl rfl ?_
            refine ent_value (ov_fieldAddr (sz := 0) (o := 0) rfl F_field_129_0 F_size_79) rfl rfl rfl ?_
            refine ent_op0 (ot_storeS (cs := [sv2, (Value.int .i64 x1.1)]) (cs' := [(subs sv2 x1.2.2.toNat x1.2.1.length 1), (Value.int .i64 x1.1)]) (sv := (subs sv2 x1.2.2.toNat x1.2.1.length 1)) (L' := [(box p0 129 [(subs sv2 x1.2.2.toNat x1.2.1.length 1), (Value.int .i64 x1.1)]), A0]) 0 1 rfl rfl F_size_79 rfl rfl (isRd_drop (eI_len _) hr2 (nat_le c4 c5)) rfl (by simp) rfl) rfl rfl ?_
            rintro _ _ rfl
            refine ent_nil ?_
            refine ent_seq ?_
            refine ent_region ?_
            refine ent_value (ov_move rfl) rfl rfl rfl ?_
            refine ent_value (ov_assign rfl) rfl rfl rfl ?_
            refine ent_nil ?_
            refine ent_retc ?_
            cases H
            exact ret_tmp rfl rfl ⟨_, (isRd_drop (eI_len _) hr2 (nat_le c4 c5)), rfl, rfl⟩
          · rw [if_neg c5] at H
            cases H
        · rw [if_neg c4] at H
          cases H

set_option maxRecDepth 100000 in
theorem ossuaryref01_Reader_Int.spec (K : Nat) (p0 : Nat) (sv0 : Value) (A0 : HP) (l0 : List Int) (p0_1 : Int) (hA0 : IsRd A0 sv0 l0.length 1 (fl (eI .u8) l0)) (r : (Int × (List Int) × Int)) (H : ossuaryref01_Reader_Int K l0 p0_1 = some r) : FnSpec Try.prog 95 [(pt p0 0)] [(box p0 129 [sv0, (Value.int .i64 p0_1)]), A0] (fun v M => ∃ sv1 : Value, IsRd A0 sv1 r.2.1.length 1 (fl (eI .u8) r.2.1) ∧ v = (Value.int .i64 r.1) ∧ M = [(box p0 129 [sv1, (Value.int .i64 r.2.2)]), A0]) := by
  unfold ossuaryref01_Reader_Int at H
  refine spec_of Try.func95 rfl 17 rfl (Nat.le_of_ble_eq_true rfl) fun F w0 => ?_
  show Ent (St 17 w0 F [(0, (pt p0 0))] [(box p0 129 [sv0, (Value.int .i64 p0_1)]), A0]) _
  refine ent_seq ?_
  refine ent_region ?_
  refine ent_value (ov_assign rfl) rfl rfl rfl ?_
  refine ent_nil ?_
  refine ent_seq ?_
  refine ent_region ?_
  refine ent_value (ov_move rfl) rfl rfl rfl ?_
  obtain ⟨x1, h1, H⟩ := Option.bind_eq_some_iff.1 H
  refine ent_op (ot_call (Lr := []) (first := []) (cap := []) (xs := [.tmp 4]) rfl rfl F_call_93 rfl (ossuaryref01_Reader_Num.spec K p0 sv0 A0 l0 p0_1 hA0 _ h1) rfl) rfl rfl rfl ?_
  rintro _ _ ⟨_, ⟨sv2, hr2, rfl, rfl⟩, rfl⟩
  refine ent_value (ov_assign rfl) rfl rfl rfl ?_
  refine ent_nil ?_
  refine ent_seq ?_
  refine ent_seq ?_
  refine ent_region ?_
  refine ent_value (ov_move rfl) rfl rfl rfl ?_
  refine ent_value (ov_bin rfl rfl fun w => b_rem _ _ _ w (by decide)) rfl rfl rfl ?_
  refine ent_value (ov_bin rfl rfl (b_eql _ _ _)) rfl rfl rfl ?_
  refine ent_nil ?_
  by_cases c1 : (Int.tmod x1.2.2 2) = 0
  · rw [if_pos c1] at H
    refine ent_cond_true rfl (eq_t c1) ?_
    refine ent_seq ?_
    refine ent_region ?_
    refine ent_value (ov_move rfl) rfl rfl rfl ?_
    refine ent_value (ov_bin rfl rfl fun w => b_quo _ _ _ w (by decide)) rfl rfl rfl ?_
    refine ent_value (ov_convert rfl (c_int Try.underlying90 Try.underlying2)) rfl rfl rfl ?_
    refine ent_value (ov_assign rfl) rfl rfl rfl ?_
    refine ent_nil ?_
    refine ent_retc ?_
    cases H
    exact ret_tmp rfl rfl ⟨_, hr2, rfl, rfl⟩
  · rw [if_neg c1] at H
    refine ent_cond_false rfl (eq_f c1) ?_
    refine ent_skip ?_
    refine ent_seq ?_
    refine ent_region ?_
    refine ent_value (ov_move rfl) rfl rfl rfl ?_
    refine ent_value (ov_bin rfl rfl fun w => b_quo _ _ _ w (by decide)) rfl rfl rfl ?_
    refine ent_value (ov_convert rfl (c_int Try.underlying90 Try.underlying2)) rfl rfl rfl ?_
    refine ent_value (ov_un rfl (u_neg _ _)) rfl rfl rfl ?_
    refine ent_value (ov_bin rfl rfl (b_sub _ _ _) ) rfl rfl rfl ?_
    refine ent_value (ov_assign rfl) rfl rfl rfl ?_
    refine ent_nil ?_
    refine ent_retc ?_
    cases H
    exact ret_tmp rfl rfl ⟨_, hr2, rfl, rfl⟩

set_option maxRecDepth 100000 in
theorem ossuaryref09_Read.spec (K : Nat) (sv0 : Value) (A0 : HP) (l0 : List Int) (a1 : Int) (hA0 : IsRd A0 sv0 l0.length 1 (fl (eI .u8) l0)) (r : (Int × (List Api_Fact))) (H : ossuaryref09_Read K l0 a1 = some r) : FnSpec Try.prog 57 [sv0, (Value.int .i64 a1)] [A0] (fun v M => ∃ sv1 : Value, v = (Value.tuple #[sv1, (Value.int .i64 r.1)]) ∧ M = [A0, (own sv1 43 6 r.2.length (fl enc_Api_Fact r.2))]) := by
  unfold ossuaryref09_Read at H
  refine spec_of Try.func57 rfl 91 rfl (Nat.le_of_ble_eq_true rfl) fun F w0 => ?_
  show Ent (St 91 w0 F [(0, sv0), (1, (Value.int .i64 a1))] [A0]) _
  refine ent_seq ?_
  refine ent_region ?_
  refine ent_value (ov_assign rfl) rfl rfl rfl ?_
  refine ent_value (ov_assign rfl) rfl rfl rfl ?_
  refine ent_nil ?_
  refine ent_seq ?_
  refine ent_seq ?_
  refine ent_region ?_
  refine ent_value (ov_move rfl) rfl rfl rfl ?_
  refine ent_value (ov_bin rfl rfl (b_lss _ _ _)) rfl rfl rfl ?_
  refine ent_value (ov_move rfl) rfl rfl rfl ?_
  by_cases c1 : a1 < 1
  · rw [if_pos c1] at H
    refine ent_off rfl rfl rfl (decide_eq_true c1) rfl rfl ?_
    refine ent_off rfl rfl rfl (decide_eq_true c1) rfl rfl ?_
    refine ent_value (ov_pick rfl rfl rfl (pick_t (decide_eq_true c1))) rfl rfl rfl ?_
    refine ent_nil ?_
    refine ent_cond_true rfl rfl ?_
    refine ent_seq ?_
    refine ent_region ?_
    refine ent_value (ov_assign rfl) rfl rfl rfl ?_
    refine ent_value (ov_assign rfl) rfl rfl rfl ?_
    refine ent_nil ?_
    refine ent_retc ?_
    cases H
    refine ent_ownnil 43 6 ?_
    refine ent_pick [1, 0] (by decide) rfl ?_
    exact ret_mem (vs := [(Value.slice none 0 0), (Value.int .i64 1)]) rfl ⟨rfl, ⟨rfl, trivial⟩⟩ _ rfl ⟨_, rfl, rfl⟩
  · rw [if_neg c1] at H
    refine ent_value_on (ov_move rfl) rfl rfl rfl (decide_eq_false c1) rfl rfl ?_
    refine ent_value_on (ov_bin rfl rfl (b_gtr _ _ _)) rfl rfl rfl (decide_eq_false c1) rfl rfl ?_
    refine ent_value (ov_pick rfl rfl rfl (pick_f (decide_eq_false c1))) rfl rfl rfl ?_
    refine ent_nil ?_
    by_cases c2 : 4 < a1
    · rw [if_pos c2] at H
      refine ent_cond_true rfl (decide_eq_true c2) ?_
      refine ent_seq ?_
      refine ent_region ?_
      refine ent_value (ov_assign rfl) rfl rfl rfl ?_
      refine ent_value (ov_assign rfl) rfl rfl rfl ?_
      refine ent_nil ?_
      refine ent_retc ?_
      cases H
      refine ent_ownnil 43 6 ?_
      refine ent_pick [1, 0] (by decide) rfl ?_
      exact ret_mem (vs := [(Value.slice none 0 0), (Value.int .i64 1)]) rfl ⟨rfl, ⟨rfl, trivial⟩⟩ _ rfl ⟨_, rfl, rfl⟩
    · rw [if_neg c2] at H
      refine ent_cond_false rfl (decide_eq_false c2) ?_
      refine ent_skip ?_
      refine ent_seq ?_
      refine ent_region ?_
      refine ent_value (ov_move rfl) rfl rfl rfl ?_
      refine ent_value (ov_sl 0 rfl hA0 fun hc0_ => (ov_build (is := [0]) (xs := [.tmp 21]) (vs := [sv0]) rfl rfl (build_struct (cs := [sv0, (Value.int .i64 0)]) F_zero_129 F_places_129 (by simp [Instr.fill, cells_int, cells_bool, cells_str, cells_func, cells_slice, cells_ptr, cells_nilFunc, cells_agg, hc0_])))) rfl rfl rfl ?_
      refine ent_op (ot_box (cs := [sv0, (Value.int .i64 0)]) rfl rfl) rfl rfl rfl ?_
      rintro _ _ ⟨b1, rfl, rfl⟩
      refine ent_value (ov_assign rfl) rfl rfl rfl ?_
      refine ent_nil ?_
      refine ent_seq ?_
      refine ent_region ?_
      refine ent_value (ov_move rfl) rfl rfl rfl ?_
      obtain ⟨x1, h1, H⟩ := Option.bind_eq_some_iff.1 H
      refine ent_op (ot_call (Lr := []) (first := []) (cap := []) (xs := [.tmp 24, .const (Value.int .i64 50)]) rfl rfl F_call_92 rfl (ossuaryref01_Reader_Count.spec K b1 sv0 A0 l0 0 50 hA0 _ h1) rfl) rfl rfl rfl ?_
      rintro _ _ ⟨_, ⟨sv2, hr1, rfl, rfl⟩, rfl⟩
      refine ent_value (ov_assign rfl) rfl rfl rfl ?_
      refine ent_nil ?_
      refine ent_seq ?_
      refine ent_region ?_
      refine ent_value (ov_assign rfl) rfl rfl rfl ?_
      refine ent_nil ?_
      obtain ⟨x2, H1, H⟩ := Option.bind_eq_some_iff.1 H
      refine ent_seq_cut (fun a w => ∃ v1, x2 = Sum.inl v1 ∧ ∃ b2 : Nat, ∃ sv3 : Value, ∃ sv4 : Value, IsRd A0 sv4 v1.2.1.length 1 (fl (eI .u8) v1.2.1) ∧ St 91 w0 F [(1, (Value.int .i64 a1)), (6, (pt b2 0)), (8, sv3)] [A0, (box b2 129 [sv4, (Value.int .i64 v1.2.2)]), (own sv3 43 6 v1.1.length (fl enc_Api_Fact v1.1))] a w) ?_ ?_
      · refine ent_seq ?_
        refine ent_region ?_
        refine ent_value (ov_assign rfl) rfl rfl rfl ?_
        refine ent_nil ?_
        refine ent_block ?_
        refine ent_loop (fun k a w => ∃ i3, ∃ l4, ∃ i4, ∃ l5, ∃ b3 : Nat, ∃ sv5 : Value, ∃ sv6 : Value, IsRd A0 sv5 l4.length 1 (fl (eI .u8) l4) ∧ ossuaryref09_Read_l0 K a1 x1 k i3 l4 i4 l5 = some x2 ∧ St 91 w0 F [(1, (Value.int .i64 a1)), (6, (pt b3 0)), (7, (Value.int .i64 x1.1)), (8, sv6), (9, (Value.int .i64 i3))] [A0, (box b3 129 [sv5, (Value.int .i64 i4)]), (own sv6 43 6 l5.length (fl enc_Api_Fact l5))] a w) K ?_ ?_
        · refine ent_ownnil 43 6 ?_
          exact ent_fin [2, 1, 0] (by decide) rfl (sub_cons (t := 1) rfl (sub_cons (t := 6) rfl (sub_cons (t := 7) rfl (sub_cons (t := 8) rfl (sub_cons (t := 9) rfl (sub_nil _)))))) fun a w h => ⟨_, _, _, _, _, _, _, hr1, H1, h⟩
        · refine fun k => ent_exi fun i3 => ent_exi fun l4 => ent_exi fun i4 => ent_exi fun l5 => ent_exi fun b3 => ent_exi fun sv5 => ent_exi fun sv6 => ent_and fun hr3 => ent_and fun H2 => ?_
          cases k with
          | zero => exact absurd H2 (by simp [ossuaryref09_Read_l0])
          | succ k =>
            rw [ossuaryref09_Read_l0] at H2
            refine ent_seq ?_
            refine ent_seq ?_
            refine ent_region ?_
            refine ent_value (ov_move rfl) rfl rfl rfl ?_
            refine ent_value (ov_move rfl) rfl rfl rfl ?_
            refine ent_value (ov_bin rfl rfl (b_lss _ _ _)) rfl rfl rfl ?_
            refine ent_nil ?_
            by_cases c3 : i3 < x1.1
            · rw [if_pos c3] at H2
              refine ent_cond_true rfl (decide_eq_true c3) ?_
              refine ent_skip ?_
              obtain ⟨x3, H3, H2⟩ := Option.bind_eq_some_iff.1 H2
              refine ent_seq_cut (fun a w => ∃ v2, x3 = Sum.inl v2 ∧ ∃ sv7 : Value, ∃ sv8 : Value, IsRd A0 sv8 v2.2.1.length 1 (fl (eI .u8) v2.2.1) ∧ St 91 w0 F [(1, (Value.int .i64 a1)), (6, (pt b3 0)), (7, (Value.int .i64 x1.1)), (8, sv7), (9, (Value.int .i64 i3))] [A0, (box b3 129 [sv8, (Value.int .i64 v2.2.2)]), (own sv7 43 6 v2.1.length (fl enc_Api_Fact v2.1))] a w) ?_ ?_
              · refine ent_block ?_
                refine ent_seq ?_
                refine ent_region ?_
                refine ent_value (ov_move rfl) rfl rfl rfl ?_
                obtain ⟨x4, h2, H3⟩ := Option.bind_eq_some_iff.1 H3
                refine ent_pick [1, 0, 2] (by decide) rfl ?_
                refine ent_op (ot_call (Lr := [(own sv6 43 6 l5.length (fl enc_Api_Fact l5))]) (first := []) (cap := []) (xs := [.tmp 31]) rfl rfl F_call_93 rfl (ossuaryref01_Reader_Num.spec K b3 sv5 A0 l4 i4 hr3 _ h2) rfl) rfl rfl rfl ?_
                rintro _ _ ⟨_, ⟨sv9, hr5, rfl, rfl⟩, rfl⟩
                refine ent_value (ov_assign rfl) rfl rfl rfl ?_
                refine ent_nil ?_
                refine ent_seq ?_
                refine ent_seq ?_
                refine ent_region ?_
                refine ent_value (ov_move rfl) rfl rfl rfl ?_
                refine ent_value (ov_bin rfl rfl (b_gtr _ _ _)) rfl rfl rfl ?_
                refine ent_nil ?_
                by_cases c4 : 16777216 < x4.2.2
                · rw [if_pos c4] at H3
                  refine ent_cond_true rfl (decide_eq_true c4) ?_
                  refine ent_seq ?_
                  refine ent_region ?_
                  refine ent_value (ov_assign rfl) rfl rfl rfl ?_
                  refine ent_value (ov_assign rfl) rfl rfl rfl ?_
                  refine ent_nil ?_
                  refine ent_retc ?_
                  cases H3
                  have H4 := Option.some.inj (show some _ = some _ from H2)
                  cases H4
                  have H5 := Option.some.inj (show some _ = some _ from H)
                  cases H5
                  refine ent_ownnil 43 6 ?_
                  refine ent_pick [2, 0] (by decide) rfl ?_
                  exact ret_mem (vs := [(Value.slice none 0 0), (Value.int .i64 2)]) rfl ⟨rfl, ⟨rfl, trivial⟩⟩ _ rfl ⟨_, rfl, rfl⟩
                · rw [if_neg c4] at H3
                  refine ent_cond_false rfl (decide_eq_false c4) ?_
                  refine ent_skip ?_
                  refine ent_seq ?_
                  refine ent_region ?_
                  refine ent_value (ov_move rfl) rfl rfl rfl ?_
                  refine ent_value (ov_convert rfl (c_int Try.underlying90 Try.underlying2)) rfl rfl rfl ?_
                  refine ent_value (ov_build (is := [0]) (xs := [.tmp 36]) (vs := [(Value.int .i64 (w64 x4.2.2))]) rfl rfl (build_struct (cs := [(Value.int .i64 (w64 x4.2.2)), (str ([] : List UInt8)), (str ([] : List UInt8)), (str ([] : List UInt8)), (str ([] : List UInt8))]) F_zero_41 F_places_41 rfl)) rfl rfl rfl ?_
                  refine ent_value (ov_build (is := [0]) (xs := [.tmp 37]) (vs := [(Value.agg #[(Value.int .i64 (w64 x4.2.2)), (str ([] : List UInt8)), (str ([] : List UInt8)), (str ([] : List UInt8)), (str ([] : List UInt8))])]) rfl rfl (build_struct (cs := [(Value.int .i64 (w64 x4.2.2)), (str ([] : List UInt8)), (str ([] : List UInt8)), (str ([] : List UInt8)), (str ([] : List UInt8)), (Value.int .i64 0)]) F_zero_43 F_places_43 rfl)) rfl rfl rfl ?_
                  refine ent_op (ot_alloc F_zero_43) rfl rfl rfl ?_
                  rintro _ _ ⟨b4, rfl, rfl⟩
                  refine ent_op0 (ot_storeG (cs := [(Value.int .i64 0), (str ([] : List UInt8)), (str ([] : List UInt8)), (str ([] : List UInt8)), (str ([] : List UInt8)), (Value.int .i64 0)]) (cs' := [(Value.int .i64 (w64 x4.2.2)), (str ([] : List UInt8)), (str ([] : List UInt8)), (str ([] : List UInt8)), (str ([] : List UInt8)), (Value.int .i64 0)]) (us := [(Value.int .i64 (w64 x4.2.2)), (str ([] : List UInt8)), (str ([] : List UInt8)), (str ([] : List UInt8)), (str ([] : List UInt8)), (Value.int .i64 0)]) (L' := [(box b4 43 [(Value.int .i64 (w64 x4.2.2)), (str ([] : List UInt8)), (str ([] : List UInt8)), (str ([] : List UInt8)), (str ([] : List UInt8)), (Value.int .i64 0)]), (box b3 129 [sv9, (Value.int .i64 x4.1)]), A0, (own sv6 43 6 l5.length (fl enc_Api_Fact l5))]) 0 rfl rfl rfl (one_all rfl) F_size_43 rfl rfl (by simp) rfl) rfl rfl ?_
                  rintro _ _ rfl
                  refine ent_nil ?_
                  obtain ⟨x5, H6, H3⟩ := Option.bind_eq_some_iff.1 H3
                  refine ent_seq_cut (fun a w => ∃ b5 : Nat, ∃ sv10 : Value, IsRd A0 sv10 x5.1.length 1 (fl (eI .u8) x5.1) ∧ St 91 w0 F [(1, (Value.int .i64 a1)), (6, (pt b3 0)), (7, (Value.int .i64 x1.1)), (8, sv6), (9, (Value.int .i64 i3)), (11, (pt b5 0))] [A0, (box b3 129 [sv10, (Value.int .i64 x5.2.1)]), (own sv6 43 6 l5.length (fl enc_Api_Fact l5)), (box b5 43 [(Value.int .i64 x5.2.2.1), (str x5.2.2.2.1), (str x5.2.2.2.2.1), (str x5.2.2.2.2.2.1), (str x5.2.2.2.2.2.2), (Value.int .i64 0)])] a w) ?_ ?_
                  · refine ent_seq ?_
                    refine ent_region ?_
                    refine ent_value (ov_assign rfl) rfl rfl rfl ?_
                    refine ent_nil ?_
                    refine ent_block ?_
                    refine ent_loop (fun k a w => ∃ i8, ∃ l9, ∃ i9, ∃ t5, ∃ t6, ∃ t7, ∃ t8, ∃ sv11 : Value, IsRd A0 sv11 l9.length 1 (fl (eI .u8) l9) ∧ ossuaryref09_Read_l1 K a1 x4 k i8 l9 i9 t5 t6 t7 t8 = some x5 ∧ St 91 w0 F [(1, (Value.int .i64 a1)), (6, (pt b3 0)), (7, (Value.int .i64 x1.1)), (8, sv6), (9, (Value.int .i64 i3)), (11, (pt b4 0)), (12, (Value.int .i64 i8))] [A0, (box b3 129 [sv11, (Value.int .i64 i9)]), (own sv6 43 6 l5.length (fl enc_Api_Fact l5)), (box b4 43 [(Value.int .i64 (w64 x4.2.2)), (str t5), (str t6), (str t7), (str t8), (Value.int .i64 0)])] a w) K ?_ ?_
                    · exact ent_fin [2, 1, 3, 0] (by decide) rfl (sub_cons (t := 1) rfl (sub_cons (t := 6) rfl (sub_cons (t := 7) rfl (sub_cons (t := 8) rfl (sub_cons (t := 9) rfl (sub_cons (t := 11) rfl (sub_cons (t := 12) rfl (sub_nil _)))))))) fun a w h => ⟨_, _, _, _, _, _, _, _, hr5, H6, h⟩
                    · refine fun k => ent_exi fun i8 => ent_exi fun l9 => ent_exi fun i9 => ent_exi fun t5 => ent_exi fun t6 => ent_exi fun t7 => ent_exi fun t8 => ent_exi fun sv11 => ent_and fun hr7 => ent_and fun H7 => ?_
                      cases k with
                      | zero => exact absurd H7 (by simp [ossuaryref09_Read_l1])
                      | succ k =>
                        rw [ossuaryref09_Read_l1] at H7
                        refine ent_seq ?_
                        refine ent_seq ?_
                        refine ent_region ?_
                        refine ent_value (ov_move rfl) rfl rfl rfl ?_
                        refine ent_value (ov_move rfl) rfl rfl rfl ?_
                        refine ent_value (ov_bin rfl rfl (b_lss _ _ _)) rfl rfl rfl ?_
                        refine ent_nil ?_
                        by_cases c5 : i8 < a1
                        · rw [if_pos c5] at H7
                          refine ent_cond_true rfl (decide_eq_true c5) ?_
                          refine ent_skip ?_
                          refine ent_seq ?_
                          refine ent_block ?_
                          refine ent_region ?_
                          refine ent_value (ov_move rfl) rfl rfl rfl ?_
                          refine ent_value (ov_move rfl) rfl rfl rfl ?_
                          obtain ⟨x6, h3, H7⟩ := Option.bind_eq_some_iff.1 H7
                          refine ent_pick [1, 0, 2, 3] (by decide) rfl ?_
                          refine ent_op (ot_call (Lr := [(own sv6 43 6 l5.length (fl enc_Api_Fact l5)), (box b4 43 [(Value.int .i64 (w64 x4.2.2)), (str t5), (str t6), (str t7), (str t8), (Value.int .i64 0)])]) (first := []) (cap := []) (xs := [.tmp 45, .const (Value.int .i64 16)]) rfl rfl F_call_94 rfl (ossuaryref01_Reader_Text.spec K b3 sv11 A0 l9 i9 16 hr7 _ h3) rfl) rfl rfl rfl ?_
                          rintro _ _ ⟨_, ⟨sv12, hr8, rfl, rfl⟩, rfl⟩
                          refine ent_value (ov_fieldAddr (sz := 4) (o := 0) rfl F_field_43_0 F_size_41) rfl rfl rfl ?_
                          refine ent_value (ov_fieldAddr (sz := 3) (o := 0) rfl F_field_41_1 F_size_39) rfl rfl rfl ?_
                          by_cases c6 : 0 ≤ i8
                          · rw [if_pos c6] at H7
                            by_cases c7 : i8 < (4 : Int)
                            · rw [if_pos c7] at H7
                              refine ent_value (ov_indexArr (o := 1) rfl rfl F_array_39 F_size_9 c6 c7) rfl rfl rfl ?_
                              refine ent_op0 (ot_store (cs := [(Value.int .i64 (w64 x4.2.2)), (str t5), (str t6), (str t7), (str t8), (Value.int .i64 0)]) (cs' := [(Value.int .i64 (w64 x4.2.2)), (str (if i8.toNat = 0 then x6.2.1 else t5)), (str (if i8.toNat = 1 then x6.2.1 else t6)), (str (if i8.toNat = 2 then x6.2.1 else t7)), (str (if i8.toNat = 3 then x6.2.1 else t8)), (Value.int .i64 0)]) (us := [(str x6.2.1)]) (L' := [(box b3 129 [sv12, (Value.int .i64 x6.1)]), A0, (own sv6 43 6 l5.length (fl enc_Api_Fact l5)), (box b4 43 [(Value.int .i64 (w64 x4.2.2)), (str (if i8.toNat = 0 then x6.2.1 else t5)), (str (if i8.toNat = 1 then x6.2.1 else t6)), (str (if i8.toNat = 2 then x6.2.1 else t7)), (str (if i8.toNat = 3 then x6.2.1 else t8)), (Value.int .i64 0)])]) 3 rfl rfl rfl (all_one rfl) F_size_9 rfl (cases4 (fun i_ => List.take (1 + i_ * 1) [(Value.int .i64 (w64 x4.2.2)), (str t5), (str t6), (str t7), (str t8), (Value.int .i64 0)] ++ [(str x6.2.1)] ++ List.drop (1 + i_ * 1 + List.length [(str x6.2.1)]) [(Value.int .i64 (w64 x4.2.2)), (str t5), (str t6), (str t7), (str t8), (Value.int .i64 0)] = [(Value.int .i64 (w64 x4.2.2)), (str (if i_ = 0 then x6.2.1 else t5)), (str (if i_ = 1 then x6.2.1 else t6)), (str (if i_ = 2 then x6.2.1 else t7)), (str (if i_ = 3 then x6.2.1 else t8)), (Value.int .i64 0)]) (ix_lt c6 c7) rfl rfl rfl rfl) (cases4 (fun i_ => 1 + i_ * 1 + List.length [(str x6.2.1)] ≤ List.length [(Value.int .i64 (w64 x4.2.2)), (str t5), (str t6), (str t7), (str t8), (Value.int .i64 0)]) (ix_lt c6 c7) (Nat.le_of_ble_eq_true rfl) (Nat.le_of_ble_eq_true rfl) (Nat.le_of_ble_eq_true rfl) (Nat.le_of_ble_eq_true rfl)) rfl) rfl rfl ?_
                              rintro _ _ rfl
                              refine ent_nil ?_
                              refine ent_region ?_
                              refine ent_value (ov_move rfl) rfl rfl rfl ?_
                              refine ent_value (ov_bin rfl rfl (b_add _ _ _) ) rfl rfl rfl ?_
                              refine ent_value (ov_assign rfl) rfl rfl rfl ?_
                              refine ent_nil ?_
                              exact ent_fin [1, 0, 2, 3] (by decide) rfl (sub_cons (t := 1) rfl (sub_cons (t := 6) rfl (sub_cons (t := 7) rfl (sub_cons (t := 8) rfl (sub_cons (t := 9) rfl (sub_cons (t := 11) rfl (sub_cons (t := 12) rfl (sub_nil _)))))))) fun a w h => ⟨k, Nat.lt_succ_self k, _, _, _, _, _, _, _, _, hr8, H7, h⟩
                            · rw [if_neg c7] at H7
                              cases H7
                          · rw [if_neg c6] at H7
                            cases H7
                        · rw [if_neg c5] at H7
                          refine ent_cond_false rfl (decide_eq_false c5) ?_
                          refine ent_exit ?_
                          cases H7
                          exact ent_fin [0, 1, 2, 3] (by decide) rfl (sub_cons (t := 1) rfl (sub_cons (t := 6) rfl (sub_cons (t := 7) rfl (sub_cons (t := 8) rfl (sub_cons (t := 9) rfl (sub_cons (t := 11) rfl (sub_nil _))))))) fun a w h => ⟨_, _, hr7, h⟩
                  · refine ent_exi fun b5 => ent_exi fun sv10 => ent_and fun hr6 => ?_
                    refine ent_seq ?_
                    refine ent_region ?_
                    refine ent_value (ov_move rfl) rfl rfl rfl ?_
                    obtain ⟨x7, h4, H3⟩ := Option.bind_eq_some_iff.1 H3
                    refine ent_pick [1, 0, 2, 3] (by decide) rfl ?_
                    refine ent_op (ot_call (Lr := [(own sv6 43 6 l5.length (fl enc_Api_Fact l5)), (box b5 43 [(Value.int .i64 x5.2.2.1), (str x5.2.2.2.1), (str x5.2.2.2.2.1), (str x5.2.2.2.2.2.1), (str x5.2.2.2.2.2.2), (Value.int .i64 0)])]) (first := []) (cap := []) (xs := [.tmp 50]) rfl rfl F_call_95 rfl (ossuaryref01_Reader_Int.spec K b3 sv10 A0 x5.1 x5.2.1 hr6 _ h4) rfl) rfl rfl rfl ?_
                    rintro _ _ ⟨_, ⟨sv13, hr9, rfl, rfl⟩, rfl⟩
                    refine ent_value (ov_fieldAddr (sz := 0) (o := 0) rfl F_field_43_1 F_size_2) rfl rfl rfl ?_
                    refine ent_op0 (ot_storeG (cs := [(Value.int .i64 x5.2.2.1), (str x5.2.2.2.1), (str x5.2.2.2.2.1), (str x5.2.2.2.2.2.1), (str x5.2.2.2.2.2.2), (Value.int .i64 0)]) (cs' := [(Value.int .i64 x5.2.2.1), (str x5.2.2.2.1), (str x5.2.2.2.2.1), (str x5.2.2.2.2.2.1), (str x5.2.2.2.2.2.2), (Value.int .i64 x7.1)]) (us := [(Value.int .i64 x7.1)]) (L' := [(box b3 129 [sv13, (Value.int .i64 x7.2.2)]), A0, (own sv6 43 6 l5.length (fl enc_Api_Fact l5)), (box b5 43 [(Value.int .i64 x5.2.2.1), (str x5.2.2.2.1), (str x5.2.2.2.2.1), (str x5.2.2.2.2.2.1), (str x5.2.2.2.2.2.2), (Value.int .i64 x7.1)])]) 3 rfl rfl rfl (one_all rfl) F_size_2 rfl rfl (by simp) rfl) rfl rfl ?_
                    rintro _ _ rfl
                    refine ent_nil ?_
                    refine ent_seq ?_
                    refine ent_seq ?_
                    refine ent_region ?_
                    refine ent_value (ov_move rfl) rfl rfl rfl ?_
                    refine ent_value (ov_nilCheck rfl) rfl rfl rfl ?_
                    refine ent_value (ov_fieldAddr (sz := 0) (o := 0) rfl F_field_129_1 F_size_37) rfl rfl rfl ?_
                    refine ent_value (ov_load (v := (Value.int .i64 x7.2.2)) rfl F_agg_37 (reads_box1 (i := 0) rfl rfl)) rfl rfl rfl ?_
                    refine ent_value (ov_bin rfl rfl (b_neq _ _ _)) rfl rfl rfl ?_
                    refine ent_nil ?_
                    by_cases c8 : ¬ (x7.2.2 = 0)
                    · rw [if_pos c8] at H3
                      refine ent_cond_true rfl (ne_t c8) ?_
                      refine ent_seq ?_
                      refine ent_drawm 6 rfl (fun done a w => StD 91 w0 F [(1, (Value.int .i64 a1)), (6, (pt b3 0)), (7, (Value.int .i64 x1.1)), (8, sv6), (9, (Value.int .i64 i3)), (11, (pt b5 0)), (50, (pt b3 0)), (51, (Value.int .i64 x7.1)), (52, (pt b5 5)), (53, (pt b3 0)), (54, (pt b3 0)), (55, (pt b3 1)), (56, (Value.int .i64 x7.2.2)), (57, (Value.bool (x7.2.2 != 0)))] [(0, 58, (pt b3 0)), (1, 59, (pt b3 0)), (2, 60, (pt b3 1)), (3, 61, (Value.int .i64 x7.2.2)), (4, 4, (Value.slice none 0 0)), (5, 5, (Value.int .i64 x7.2.2))] done [(box b3 129 [sv13, (Value.int .i64 x7.2.2)]), A0, (own sv6 43 6 l5.length (fl enc_Api_Fact l5)), (box b5 43 [(Value.int .i64 x5.2.2.1), (str x5.2.2.2.1), (str x5.2.2.2.2.1), (str x5.2.2.2.2.2.1), (str x5.2.2.2.2.2.2), (Value.int .i64 x7.1)])] a w) (by kernel_rfl) (by kernel_rfl) (draw_startL (sub_cons (t := 1) rfl (sub_cons (t := 6) rfl (sub_cons (t := 7) rfl (sub_cons (t := 8) rfl (sub_cons (t := 9) rfl (sub_cons (t := 11) rfl (sub_cons (t := 50) rfl (sub_cons (t := 51) rfl (sub_cons (t := 52) rfl (sub_cons (t := 53) rfl (sub_cons (t := 54) rfl (sub_cons (t := 55) rfl (sub_cons (t := 56) rfl (sub_cons (t := 57) rfl (sub_nil _))))))))))))))) rfl) ?_ ?_
                      · refine ⟨?_, ?_, ?_, ?_, ?_, ?_, trivial⟩
                        · intro done hi hc hcu
                          exact draw_value (i := 0) (t := 58) (v := (pt b3 0)) rfl rfl (wanted_none rfl) (fun a => hasA_base) (ov_move rfl) rfl rfl (onlyT_spec (k0 := 0) rfl rfl rfl)
                        · intro done hi hc hcu
                          have d0 : done 0 = true := done_of (j := 0) hcu rfl (by decide) rfl
                          exact draw_value (i := 1) (t := 59) (v := (pt b3 0)) rfl rfl (wanted_none rfl) (fun a => (hasA_cons (k := 0) rfl d0 hasA_base)) (ov_nilCheck rfl) rfl rfl (onlyT_spec (k0 := 1) rfl rfl rfl)
                        · intro done hi hc hcu
                          have d1 : done 1 = true := done_of (j := 1) hcu rfl (by decide) rfl
                          exact draw_value (i := 2) (t := 60) (v := (pt b3 1)) rfl rfl (wanted_none rfl) (fun a => (hasA_cons (k := 1) rfl d1 hasA_base)) (ov_fieldAddr (sz := 0) (o := 0) rfl F_field_129_1 F_size_37) rfl rfl (onlyT_spec (k0 := 2) rfl rfl rfl)
                        · intro done hi hc hcu
                          have d2 : done 2 = true := done_of (j := 2) hcu rfl (by decide) rfl
                          exact draw_value (i := 3) (t := 61) (v := (Value.int .i64 x7.2.2)) rfl rfl (wanted_none rfl) (fun a => (hasA_cons (k := 2) rfl d2 hasA_base)) (ov_load (v := (Value.int .i64 x7.2.2)) rfl F_agg_37 (reads_box1 (i := 0) rfl rfl)) rfl rfl (onlyT_spec (k0 := 3) rfl rfl rfl)
                        · intro done hi hc hcu
                          exact draw_value (i := 4) (t := 4) (v := (Value.slice none 0 0)) rfl rfl (wanted_none rfl) (fun a => hasA_base) (ov_assign rfl) rfl rfl (onlyT_spec (k0 := 4) rfl rfl rfl)
                        · intro done hi hc hcu
                          have d3 : done 3 = true := done_of (j := 3) hcu rfl (by decide) rfl
                          exact draw_value (i := 5) (t := 5) (v := (Value.int .i64 x7.2.2)) rfl rfl (wanted_none rfl) (fun a => (hasA_cons (k := 3) rfl d3 hasA_base)) (ov_assign rfl) rfl rfl (onlyT_spec (k0 := 5) rfl rfl rfl)
                      · intro done hall
                        refine draw_endL [(box b3 129 [sv13, (Value.int .i64 x7.2.2)]), A0, (own sv6 43 6 l5.length (fl enc_Api_Fact l5)), (box b5 43 [(Value.int .i64 x5.2.2.1), (str x5.2.2.2.1), (str x5.2.2.2.2.1), (str x5.2.2.2.2.2.1), (str x5.2.2.2.2.2.2), (Value.int .i64 x7.1)])] rfl (fun a => (hasA_cons (k := 4) rfl (hall 4 (by decide)) (hasA_cons (k := 5) rfl (hall 5 (by decide)) (hasA_cons (k := 0) rfl (hall 0 (by decide)) (hasA_cons (k := 1) rfl (hall 1 (by decide)) (hasA_cons (k := 2) rfl (hall 2 (by decide)) (hasA_cons (k := 3) rfl (hall 3 (by decide)) hasA_base))))))) ?_
                        refine ent_retc ?_
                        cases H3
                        have H8 := Option.some.inj (show some _ = some _ from H2)
                        cases H8
                        have H9 := Option.some.inj (show some _ = some _ from H)
                        cases H9
                        refine ent_ownnil 43 6 ?_
                        refine ent_pick [2, 0] (by decide) rfl ?_
                        exact ret_mem (vs := [(Value.slice none 0 0), (Value.int .i64 x7.2.2)]) rfl ⟨rfl, ⟨rfl, trivial⟩⟩ _ rfl ⟨_, rfl, rfl⟩
                    · rw [if_neg c8] at H3
                      refine ent_cond_false rfl (ne_f c8) ?_
                      refine ent_skip ?_
                      refine ent_region ?_
                      refine ent_value (ov_move rfl) rfl rfl rfl ?_
                      refine ent_value (ov_load_agg (vs := [(Value.int .i64 x5.2.2.1), (str x5.2.2.2.1), (str x5.2.2.2.2.1), (str x5.2.2.2.2.2.1), (str x5.2.2.2.2.2.2), (Value.int .i64 x7.1)]) rfl F_agg_43 F_size_43 (reads_boxW (i := 3) rfl)) rfl rfl rfl ?_
                      refine ent_op (ot_buildSlice (sz := 5) (xs := [.tmp 63]) (cs := fl enc_Api_Fact [(⟨(⟨x5.2.2.1, x5.2.2.2.1, x5.2.2.2.2.1, x5.2.2.2.2.2.1, x5.2.2.2.2.2.2⟩ : Api_Key), x7.1⟩ : Api_Fact)]) rfl rfl F_slice_35 F_size_43 F_zero_43 rfl rfl (all_size rfl) rfl (by decide)) rfl rfl rfl ?_
                      rintro sv14 _ rfl
                      by_cases c9 : (l5.length + [(⟨(⟨x5.2.2.1, x5.2.2.2.1, x5.2.2.2.2.1, x5.2.2.2.2.2.1, x5.2.2.2.2.2.2⟩ : Api_Key), x7.1⟩ : Api_Fact)].length) * 80 ≤ 140737488355328
                      · rw [if_pos c9] at H3
                        refine ent_op (ot_appendx (sz := 5) (xs := l5) (ys := [(⟨(⟨x5.2.2.1, x5.2.2.2.1, x5.2.2.2.2.1, x5.2.2.2.2.2.1, x5.2.2.2.2.2.2⟩ : Api_Key), x7.1⟩ : Api_Fact)]) 3 0 rfl rfl F_slice_35 F_size_43 F_zero_43 rfl F_bytes_43 rfl rfl rfl (isRd_ownx 43) rfl enc_Api_Fact_one c9) rfl rfl rfl ?_
                        rintro sv15 _ rfl
                        refine ent_L [(own sv14 43 6 [(⟨(⟨x5.2.2.1, x5.2.2.2.1, x5.2.2.2.2.1, x5.2.2.2.2.2.1, x5.2.2.2.2.2.2⟩ : Api_Key), x7.1⟩ : Api_Fact)].length (fl enc_Api_Fact [(⟨(⟨x5.2.2.1, x5.2.2.2.1, x5.2.2.2.2.1, x5.2.2.2.2.2.1, x5.2.2.2.2.2.2⟩ : Api_Key), x7.1⟩ : Api_Fact)])), (box b3 129 [sv13, (Value.int .i64 x7.2.2)]), A0, (own sv15 43 6 (l5 ++ [(⟨(⟨x5.2.2.1, x5.2.2.2.1, x5.2.2.2.2.1, x5.2.2.2.2.2.1, x5.2.2.2.2.2.2⟩ : Api_Key), x7.1⟩ : Api_Fact)]).length (fl enc_Api_Fact (l5 ++ [(⟨(⟨x5.2.2.1, x5.2.2.2.1, x5.2.2.2.2.1, x5.2.2.2.2.2.1, x5.2.2.2.2.2.2⟩ : Api_Key), x7.1⟩ : Api_Fact)]))), (box b5 43 [(Value.int .i64 x5.2.2.1), (str x5.2.2.2.1), (str x5.2.2.2.2.1), (str x5.2.2.2.2.2.1), (str x5.2.2.2.2.2.2), (Value.int .i64 x7.1)])] rfl ?_
                        refine ent_value (ov_assign rfl) rfl rfl rfl ?_
                        refine ent_nil ?_
                        cases H3
                        exact ent_fin [2, 1, 3] (by decide) rfl (sub_cons (t := 1) rfl (sub_cons (t := 6) rfl (sub_cons (t := 7) rfl (sub_cons (t := 8) rfl (sub_cons (t := 9) rfl (sub_nil _)))))) fun a w h => ⟨_, rfl, _, _, hr9, h⟩
                      · rw [if_neg c9] at H3
                        cases H3
              · refine ent_exi fun v2 => ent_and fun e_ => ?_
                subst e_
                rw [cas_inl] at H2
                refine ent_exi fun sv7 => ent_exi fun sv8 => ent_and fun hr4 => ?_
                refine ent_region ?_
                refine ent_value (ov_move rfl) rfl rfl rfl ?_
                refine ent_value (ov_bin rfl rfl (b_add _ _ _) ) rfl rfl rfl ?_
                refine ent_value (ov_assign rfl) rfl rfl rfl ?_
                refine ent_nil ?_
                exact ent_fin [0, 1, 2] (by decide) rfl (sub_cons (t := 1) rfl (sub_cons (t := 6) rfl (sub_cons (t := 7) rfl (sub_cons (t := 8) rfl (sub_cons (t := 9) rfl (sub_nil _)))))) fun a w h => ⟨k, Nat.lt_succ_self k, _, _, _, _, _, _, _, hr4, H2, h⟩
            · rw [if_neg c3] at H2
              refine ent_cond_false rfl (decide_eq_false c3) ?_
              refine ent_exit ?_
              cases H2
              exact ent_fin [0, 1, 2] (by decide) rfl (sub_cons (t := 1) rfl (sub_cons (t := 6) rfl (sub_cons (t := 8) rfl (sub_nil _)))) fun a w h => ⟨_, rfl, _, _, _, hr3, h⟩
      · refine ent_exi fun v1 => ent_and fun e_ => ?_
        subst e_
        rw [cas_inl] at H
        refine ent_exi fun b2 => ent_exi fun sv3 => ent_exi fun sv4 => ent_and fun hr2 => ?_
        refine ent_seq ?_
        refine ent_seq ?_
        refine ent_region ?_
        refine ent_value (ov_move rfl) rfl rfl rfl ?_
        refine ent_value (ov_nilCheck rfl) rfl rfl rfl ?_
        refine ent_value (ov_fieldAddr (sz := 0) (o := 0) rfl F_field_129_1 F_size_37) rfl rfl rfl ?_
        refine ent_value (ov_load (v := (Value.int .i64 v1.2.2)) rfl F_agg_37 (reads_box1 (i := 1) rfl rfl)) rfl rfl rfl ?_
        refine ent_value (ov_bin rfl rfl (b_neq _ _ _)) rfl rfl rfl ?_
        refine ent_nil ?_
        by_cases c10 : ¬ (v1.2.2 = 0)
        · rw [if_pos c10] at H
          refine ent_cond_true rfl (ne_t c10) ?_
          refine ent_seq ?_
          refine ent_drawm 6 rfl (fun done a w => StD 91 w0 F [(1, (Value.int .i64 a1)), (6, (pt b2 0)), (8, sv3), (66, (pt b2 0)), (67, (pt b2 0)), (68, (pt b2 1)), (69, (Value.int .i64 v1.2.2)), (70, (Value.bool (v1.2.2 != 0)))] [(0, 71, (pt b2 0)), (1, 72, (pt b2 0)), (2, 73, (pt b2 1)), (3, 74, (Value.int .i64 v1.2.2)), (4, 4, (Value.slice none 0 0)), (5, 5, (Value.int .i64 v1.2.2))] done [A0, (box b2 129 [sv4, (Value.int .i64 v1.2.2)]), (own sv3 43 6 v1.1.length (fl enc_Api_Fact v1.1))] a w) (by kernel_rfl) (by kernel_rfl) (draw_startL (sub_cons (t := 1) rfl (sub_cons (t := 6) rfl (sub_cons (t := 8) rfl (sub_cons (t := 66) rfl (sub_cons (t := 67) rfl (sub_cons (t := 68) rfl (sub_cons (t := 69) rfl (sub_cons (t := 70) rfl (sub_nil _))))))))) rfl) ?_ ?_
          · refine ⟨?_, ?_, ?_, ?_, ?_, ?_, trivial⟩
            · intro done hi hc hcu
              exact draw_value (i := 0) (t := 71) (v := (pt b2 0)) rfl rfl (wanted_none rfl) (fun a => hasA_base) (ov_move rfl) rfl rfl (onlyT_spec (k0 := 0) rfl rfl rfl)
            · intro done hi hc hcu
              have d0 : done 0 = true := done_of (j := 0) hcu rfl (by decide) rfl
              exact draw_value (i := 1) (t := 72) (v := (pt b2 0)) rfl rfl (wanted_none rfl) (fun a => (hasA_cons (k := 0) rfl d0 hasA_base)) (ov_nilCheck rfl) rfl rfl (onlyT_spec (k0 := 1) rfl rfl rfl)
            · intro done hi hc hcu
              have d1 : done 1 = true := done_of (j := 1) hcu rfl (by decide) rfl
              exact draw_value (i := 2) (t := 73) (v := (pt b2 1)) rfl rfl (wanted_none rfl) (fun a => (hasA_cons (k := 1) rfl d1 hasA_base)) (ov_fieldAddr (sz := 0) (o := 0) rfl F_field_129_1 F_size_37) rfl rfl (onlyT_spec (k0 := 2) rfl rfl rfl)
            · intro done hi hc hcu
              have d2 : done 2 = true := done_of (j := 2) hcu rfl (by decide) rfl
              exact draw_value (i := 3) (t := 74) (v := (Value.int .i64 v1.2.2)) rfl rfl (wanted_none rfl) (fun a => (hasA_cons (k := 2) rfl d2 hasA_base)) (ov_load (v := (Value.int .i64 v1.2.2)) rfl F_agg_37 (reads_box1 (i := 1) rfl rfl)) rfl rfl (onlyT_spec (k0 := 3) rfl rfl rfl)
            · intro done hi hc hcu
              exact draw_value (i := 4) (t := 4) (v := (Value.slice none 0 0)) rfl rfl (wanted_none rfl) (fun a => hasA_base) (ov_assign rfl) rfl rfl (onlyT_spec (k0 := 4) rfl rfl rfl)
            · intro done hi hc hcu
              have d3 : done 3 = true := done_of (j := 3) hcu rfl (by decide) rfl
              exact draw_value (i := 5) (t := 5) (v := (Value.int .i64 v1.2.2)) rfl rfl (wanted_none rfl) (fun a => (hasA_cons (k := 3) rfl d3 hasA_base)) (ov_assign rfl) rfl rfl (onlyT_spec (k0 := 5) rfl rfl rfl)
          · intro done hall
            refine draw_endL [A0, (box b2 129 [sv4, (Value.int .i64 v1.2.2)]), (own sv3 43 6 v1.1.length (fl enc_Api_Fact v1.1))] rfl (fun a => (hasA_cons (k := 4) rfl (hall 4 (by decide)) (hasA_cons (k := 5) rfl (hall 5 (by decide)) (hasA_cons (k := 0) rfl (hall 0 (by decide)) (hasA_cons (k := 1) rfl (hall 1 (by decide)) (hasA_cons (k := 2) rfl (hall 2 (by decide)) (hasA_cons (k := 3) rfl (hall 3 (by decide)) hasA_base))))))) ?_
            refine ent_retc ?_
            cases H
            refine ent_ownnil 43 6 ?_
            refine ent_pick [1, 0] (by decide) rfl ?_
            exact ret_mem (vs := [(Value.slice none 0 0), (Value.int .i64 v1.2.2)]) rfl ⟨rfl, ⟨rfl, trivial⟩⟩ _ rfl ⟨_, rfl, rfl⟩
        · rw [if_neg c10] at H
          refine ent_cond_false rfl (ne_f c10) ?_
          refine ent_skip ?_
          refine ent_seq ?_
          refine ent_seq ?_
          refine ent_region ?_
          refine ent_value (ov_move rfl) rfl rfl rfl ?_
          refine ent_value (ov_nilCheck rfl) rfl rfl rfl ?_
          refine ent_value (ov_fieldAddr (sz := 0) (o := 0) rfl F_field_129_0 F_size_79) rfl rfl rfl ?_
          refine ent_value (ov_load (v := sv4) rfl F_agg_79 (reads_box1 (i := 1) rfl rfl)) rfl rfl rfl ?_
          refine ent_value (ov_len 0 rfl F_slice_79 rfl hr2) rfl rfl rfl ?_
          refine ent_value (ov_bin rfl rfl (b_gtr _ _ _)) rfl rfl rfl ?_
          refine ent_nil ?_
          by_cases c11 : 0 < (v1.2.1.length : Int)
          · rw [if_pos c11] at H
            refine ent_cond_true rfl (decide_eq_true c11) ?_
            refine ent_seq ?_
            refine ent_region ?_
            refine ent_value (ov_assign rfl) rfl rfl rfl ?_
            refine ent_value (ov_assign rfl) rfl rfl rfl ?_
            refine ent_nil ?_
            refine ent_retc ?_
            cases H
            refine ent_ownnil 43 6 ?_
            refine ent_pick [1, 0] (by decide) rfl ?_
            exact ret_mem (vs := [(Value.slice none 0 0), (Value.int .i64 4)]) rfl ⟨rfl, ⟨rfl, trivial⟩⟩ _ rfl ⟨_, rfl, rfl⟩
          · rw [if_neg c11] at H
            refine ent_cond_false rfl (decide_eq_false c11) ?_
            refine ent_skip ?_
            refine ent_seq ?_
            refine ent_seq ?_
            refine ent_region ?_
            refine ent_value (ov_move rfl) rfl rfl rfl ?_
            refine ent_value (ov_move rfl) rfl rfl rfl ?_
            obtain ⟨x8, h5, H⟩ := Option.bind_eq_some_iff.1 H
            refine ent_op (ot_call_same (Lr := [A0, (box b2 129 [sv4, (Value.int .i64 v1.2.2)])]) [2, 0, 1] [1, 2, 0] (first := []) (cap := []) (xs := [.tmp 82, .tmp 83]) rfl rfl F_call_30 rfl (ossuaryref09_All.spec K sv3 (own sv3 43 6 v1.1.length (fl enc_Api_Fact v1.1)) v1.1 a1 (isRd_ownx 43) _ h5) (by decide) rfl (by decide) rfl) rfl rfl rfl ?_
            rintro _ _ ⟨rfl, rfl⟩
            refine ent_value (ov_move rfl) rfl rfl rfl ?_
            refine ent_value (ov_extract rfl rfl) rfl rfl rfl ?_
            refine ent_value (ov_extract rfl rfl) rfl rfl rfl ?_
            refine ent_value (ov_assign rfl) rfl rfl rfl ?_
            refine ent_value (ov_assign rfl) rfl rfl rfl ?_
            refine ent_nil ?_
            refine ent_seq ?_
            refine ent_region ?_
            refine ent_value (ov_move rfl) rfl rfl rfl ?_
            refine ent_value (ov_bin rfl rfl (b_neq _ _ _)) rfl rfl rfl ?_
            refine ent_nil ?_
            by_cases c12 : ¬ (x8.1 = 0)
            · rw [if_pos c12] at H
              refine ent_cond_true rfl (ne_t c12) ?_
              refine ent_seq ?_
              refine ent_region ?_
              refine ent_value (ov_move rfl) rfl rfl rfl ?_
              refine ent_value (ov_assign rfl) rfl rfl rfl ?_
              refine ent_value (ov_assign rfl) rfl rfl rfl ?_
              refine ent_nil ?_
              refine ent_retc ?_
              cases H
              refine ent_ownnil 43 6 ?_
              refine ent_pick [1, 0] (by decide) rfl ?_
              exact ret_mem (vs := [(Value.slice none 0 0), (Value.int .i64 x8.1)]) rfl ⟨rfl, ⟨rfl, trivial⟩⟩ _ rfl ⟨_, rfl, rfl⟩
            · rw [if_neg c12] at H
              refine ent_cond_false rfl (ne_f c12) ?_
              refine ent_skip ?_
              refine ent_seq ?_
              refine ent_region ?_
              refine ent_value (ov_move rfl) rfl rfl rfl ?_
              refine ent_value (ov_assign rfl) rfl rfl rfl ?_
              refine ent_value (ov_assign rfl) rfl rfl rfl ?_
              refine ent_nil ?_
              refine ent_retc ?_
              cases H
              refine ent_pick [0, 2] (by decide) rfl ?_
              exact ret_mem (vs := [sv3, (Value.int .i64 0)]) rfl ⟨rfl, ⟨rfl, trivial⟩⟩ _ rfl ⟨_, rfl, rfl⟩

set_option maxRecDepth 100000 in
theorem ossuaryref01_Same.spec (sv0 : Value) (A0 : HP) (sv1 : Value) (A1 : HP) (l0 : List Int) (l1 : List Int) (hA0 : IsRd A0 sv0 l0.length 1 (fl (eI .u8) l0)) (hA1 : IsRd A1 sv1 l1.length 1 (fl (eI .u8) l1)) (r : Bool) (H : ossuaryref01_Same l0 l1 = r) : FnSpec Try.prog 58 [sv0, sv1] [A0, A1] (fun v M => v = (Value.bool r) ∧ M = [A0, A1]) := by
  unfold ossuaryref01_Same at H
  refine spec_of Try.func58 rfl 10 rfl (Nat.le_of_ble_eq_true rfl) fun F w0 => ?_
  show Ent (St 10 w0 F [(0, sv0), (1, sv1)] [A0, A1]) _
  refine ent_seq ?_
  refine ent_region ?_
  refine ent_value (ov_assign rfl) rfl rfl rfl ?_
  refine ent_nil ?_
  refine ent_seq ?_
  refine ent_region ?_
  refine ent_value (ov_move rfl) rfl rfl rfl ?_
  refine ent_value (ov_b2s 0 rfl F_slice_79 Try.underlying5 Try.underlying9 rfl hA0) rfl rfl rfl ?_
  refine ent_value (ov_move rfl) rfl rfl rfl ?_
  refine ent_value (ov_b2s 1 rfl F_slice_79 Try.underlying5 Try.underlying9 rfl hA1) rfl rfl rfl ?_
  refine ent_value (ov_bin rfl rfl (b_eql_str _ _)) rfl rfl rfl ?_
  refine ent_value (ov_assign rfl) rfl rfl rfl ?_
  refine ent_nil ?_
  refine ent_retc ?_
  cases H
  exact ret_tmp rfl rfl ⟨rfl, rfl⟩

set_option maxRecDepth 100000 in
theorem ossuaryref09_Same.spec (K : Nat) (sv0 : Value) (A0 : HP) (sv1 : Value) (A1 : HP) (l0 : List Api_Fact) (l1 : List Api_Fact) (hA0 : IsRd A0 sv0 l0.length 6 (fl enc_Api_Fact l0)) (hA1 : IsRd A1 sv1 l1.length 6 (fl enc_Api_Fact l1)) (r : Bool) (H : ossuaryref09_Same K l0 l1 = some r) : FnSpec Try.prog 59 [sv0, sv1] [A0, A1] (fun v M => v = (Value.bool r) ∧ M = [A0, A1]) := by
  unfold ossuaryref09_Same at H
  refine spec_of Try.func59 rfl 26 rfl (Nat.le_of_ble_eq_true rfl) fun F w0 => ?_
  show Ent (St 26 w0 F [(0, sv0), (1, sv1)] [A0, A1]) _
  refine ent_seq ?_
  refine ent_region ?_
  refine ent_value (ov_assign rfl) rfl rfl rfl ?_
  refine ent_nil ?_
  refine ent_seq ?_
  refine ent_seq ?_
  refine ent_region ?_
  refine ent_value (ov_move rfl) rfl rfl rfl ?_
  refine ent_value (ov_len 0 rfl F_slice_35 rfl hA0) rfl rfl rfl ?_
  refine ent_value (ov_move rfl) rfl rfl rfl ?_
  refine ent_value (ov_len 1 rfl F_slice_35 rfl hA1) rfl rfl rfl ?_
  refine ent_value (ov_bin rfl rfl (b_neq _ _ _)) rfl rfl rfl ?_
  refine ent_nil ?_
  by_cases c1 : ¬ ((l0.length : Int) = (l1.length : Int))
  · rw [if_pos c1] at H
    refine ent_cond_true rfl (ne_t c1) ?_
    refine ent_seq ?_
    refine ent_region ?_
    refine ent_value (ov_assign rfl) rfl rfl rfl ?_
    refine ent_nil ?_
    refine ent_retc ?_
    cases H
    exact ret_tmp rfl rfl ⟨rfl, rfl⟩
  · rw [if_neg c1] at H
    refine ent_cond_false rfl (ne_f c1) ?_
    refine ent_skip ?_
    refine ent_seq ?_
    refine ent_seq ?_
    refine ent_region ?_
    refine ent_value (ov_assign rfl) rfl rfl rfl ?_
    refine ent_nil ?_
    refine ent_block ?_
    refine ent_loop (fun k a w => ∃ i1, ossuaryref09_Same_l0 K l0 l1 k i1 = some r ∧ St 26 w0 F [(0, sv0), (1, sv1), (5, (Value.int .i64 i1))] [A0, A1] a w) K ?_ ?_
    · exact ent_fin [0, 1] (by decide) rfl (sub_cons (t := 0) rfl (sub_cons (t := 1) rfl (sub_cons (t := 5) rfl (sub_nil _)))) fun a w h => ⟨_, H, h⟩
    · refine fun k => ent_exi fun i1 => ent_and fun H1 => ?_
      cases k with
      | zero => exact absurd H1 (by simp [ossuaryref09_Same_l0])
      | succ k =>
        rw [ossuaryref09_Same_l0] at H1
        refine ent_seq ?_
        refine ent_seq ?_
        refine ent_region ?_
        refine ent_value (ov_move rfl) rfl rfl rfl ?_
        refine ent_value (ov_move rfl) rfl rfl rfl ?_
        refine ent_value (ov_len 0 rfl F_slice_35 rfl hA0) rfl rfl rfl ?_
        refine ent_value (ov_bin rfl rfl (b_lss _ _ _)) rfl rfl rfl ?_
        refine ent_nil ?_
        by_cases c2 : i1 < (l0.length : Int)
        · rw [if_pos c2] at H1
          refine ent_cond_true rfl (decide_eq_true c2) ?_
          refine ent_skip ?_
          refine ent_seq ?_
          refine ent_block ?_
          refine ent_seq ?_
          by_cases c3 : 0 ≤ i1
          · rw [if_pos c3] at H1
            by_cases c4 : i1 < (l1.length : Int)
            · rw [if_pos c4] at H1
              refine ent_drawm 9 rfl (fun done a w => StD 26 w0 F [(0, sv0), (1, sv1), (5, (Value.int .i64 i1)), (11, (Value.int .i64 i1)), (12, sv0), (13, (Value.int .i64 (l0.length : Int))), (14, (Value.bool (decide (i1 < (l0.length : Int)))))] [(0, 17, sv0), (1, 18, (Value.int .i64 i1)), (2, 19, (eptr sv0 (i1.toNat * 6))), (3, 20, (Value.agg #[(Value.int .i64 (((l0.getD i1.toNat z_Api_Fact).Key).Hour)), (str (((l0.getD i1.toNat z_Api_Fact).Key).Dims_0)), (str (((l0.getD i1.toNat z_Api_Fact).Key).Dims_1)), (str (((l0.getD i1.toNat z_Api_Fact).Key).Dims_2)), (str (((l0.getD i1.toNat z_Api_Fact).Key).Dims_3)), (Value.int .i64 ((l0.getD i1.toNat z_Api_Fact).Value))])), (4, 21, sv1), (5, 22, (Value.int .i64 i1)), (6, 23, (eptr sv1 (i1.toNat * 6))), (7, 24, (Value.agg #[(Value.int .i64 (((l1.getD i1.toNat z_Api_Fact).Key).Hour)), (str (((l1.getD i1.toNat z_Api_Fact).Key).Dims_0)), (str (((l1.getD i1.toNat z_Api_Fact).Key).Dims_1)), (str (((l1.getD i1.toNat z_Api_Fact).Key).Dims_2)), (str (((l1.getD i1.toNat z_Api_Fact).Key).Dims_3)), (Value.int .i64 ((l1.getD i1.toNat z_Api_Fact).Value))])), (8, 25, (Value.bool (!((((((l0.getD i1.toNat z_Api_Fact).Key).Hour) == (((l1.getD i1.toNat z_Api_Fact).Key).Hour)) && ((((((l0.getD i1.toNat z_Api_Fact).Key).Dims_0) == (((l1.getD i1.toNat z_Api_Fact).Key).Dims_0)) && (((((l0.getD i1.toNat z_Api_Fact).Key).Dims_1) == (((l1.getD i1.toNat z_Api_Fact).Key).Dims_1)) && (((((l0.getD i1.toNat z_Api_Fact).Key).Dims_2) == (((l1.getD i1.toNat z_Api_Fact).Key).Dims_2)) && (((((l0.getD i1.toNat z_Api_Fact).Key).Dims_3) == (((l1.getD i1.toNat z_Api_Fact).Key).Dims_3)) && true)))) && true)) && ((((l0.getD i1.toNat z_Api_Fact).Value) == ((l1.getD i1.toNat z_Api_Fact).Value)) && true)))))] done [A0, A1] a w) (by kernel_rfl) (by kernel_rfl) (draw_startL (sub_cons (t := 0) rfl (sub_cons (t := 1) rfl (sub_cons (t := 5) rfl (sub_cons (t := 11) rfl (sub_cons (t := 12) rfl (sub_cons (t := 13) rfl (sub_cons (t := 14) rfl (sub_nil _)))))))) rfl) ?_ ?_
              · refine ⟨?_, ?_, ?_, ?_, ?_, ?_, ?_, ?_, ?_, trivial⟩
                · intro done hi hc hcu
                  exact draw_value (i := 0) (t := 17) (v := sv0) rfl rfl (wanted_none rfl) (fun a => hasA_base) (ov_move rfl) rfl rfl (onlyT_spec (k0 := 0) rfl rfl rfl)
                · intro done hi hc hcu
                  exact draw_value (i := 1) (t := 18) (v := (Value.int .i64 i1)) rfl rfl (wanted_none rfl) (fun a => hasA_base) (ov_move rfl) rfl rfl (onlyT_spec (k0 := 1) rfl rfl rfl)
                · intro done hi hc hcu
                  have d0 : done 0 = true := done_of (j := 0) hcu rfl (by decide) rfl
                  have d1 : done 1 = true := done_of (j := 1) hcu rfl (by decide) rfl
                  exact draw_value (i := 2) (t := 19) (v := (eptr sv0 (i1.toNat * 6))) rfl rfl (wanted_none rfl) (fun a => (hasA_cons (k := 1) rfl d1 (hasA_cons (k := 0) rfl d0 hasA_base))) (ov_indexAddr (sz := 5) 0 rfl rfl F_slice_35 F_size_43 rfl hA0 c3 c2) rfl rfl (onlyT_spec (k0 := 2) rfl rfl rfl)
                · intro done hi hc hcu
                  have d2 : done 2 = true := done_of (j := 2) hcu rfl (by decide) rfl
                  exact draw_value (i := 3) (t := 20) (v := (Value.agg #[(Value.int .i64 (((l0.getD i1.toNat z_Api_Fact).Key).Hour)), (str (((l0.getD i1.toNat z_Api_Fact).Key).Dims_0)), (str (((l0.getD i1.toNat z_Api_Fact).Key).Dims_1)), (str (((l0.getD i1.toNat z_Api_Fact).Key).Dims_2)), (str (((l0.getD i1.toNat z_Api_Fact).Key).Dims_3)), (Value.int .i64 ((l0.getD i1.toNat z_Api_Fact).Value))])) rfl rfl (wanted_none rfl) (fun a => (hasA_cons (k := 2) rfl d2 hasA_base)) (ov_load_agg (vs := [(Value.int .i64 (((l0.getD i1.toNat z_Api_Fact).Key).Hour)), (str (((l0.getD i1.toNat z_Api_Fact).Key).Dims_0)), (str (((l0.getD i1.toNat z_Api_Fact).Key).Dims_1)), (str (((l0.getD i1.toNat z_Api_Fact).Key).Dims_2)), (str (((l0.getD i1.toNat z_Api_Fact).Key).Dims_3)), (Value.int .i64 ((l0.getD i1.toNat z_Api_Fact).Value))]) rfl F_agg_43 F_size_43 (reads_rd (i := 0) rfl hA0 (by simp) (fl_read0 enc_Api_Fact_len (ix_lt c3 c2) rfl))) rfl rfl (onlyT_spec (k0 := 3) rfl rfl rfl)
                · intro done hi hc hcu
                  exact draw_value (i := 4) (t := 21) (v := sv1) rfl rfl (wanted_none rfl) (fun a => hasA_base) (ov_move rfl) rfl rfl (onlyT_spec (k0 := 4) rfl rfl rfl)
                · intro done hi hc hcu
                  exact draw_value (i := 5) (t := 22) (v := (Value.int .i64 i1)) rfl rfl (wanted_none rfl) (fun a => hasA_base) (ov_move rfl) rfl rfl (onlyT_spec (k0 := 5) rfl rfl rfl)
                · intro done hi hc hcu
                  have d4 : done 4 = true := done_of (j := 4) hcu rfl (by decide) rfl
                  have d5 : done 5 = true := done_of (j := 5) hcu rfl (by decide) rfl
                  exact draw_value (i := 6) (t := 23) (v := (eptr sv1 (i1.toNat * 6))) rfl rfl (wanted_none rfl) (fun a => (hasA_cons (k := 5) rfl d5 (hasA_cons (k := 4) rfl d4 hasA_base))) (ov_indexAddr (sz := 5) 1 rfl rfl F_slice_35 F_size_43 rfl hA1 c3 c4) rfl rfl (onlyT_spec (k0 := 6) rfl rfl rfl)
                · intro done hi hc hcu
                  have d6 : done 6 = true := done_of (j := 6) hcu rfl (by decide) rfl
                  exact draw_value (i := 7) (t := 24) (v := (Value.agg #[(Value.int .i64 (((l1.getD i1.toNat z_Api_Fact).Key).Hour)), (str (((l1.getD i1.toNat z_Api_Fact).Key).Dims_0)), (str (((l1.getD i1.toNat z_Api_Fact).Key).Dims_1)), (str (((l1.getD i1.toNat z_Api_Fact).Key).Dims_2)), (str (((l1.getD i1.toNat z_Api_Fact).Key).Dims_3)), (Value.int .i64 ((l1.getD i1.toNat z_Api_Fact).Value))])) rfl rfl (wanted_none rfl) (fun a => (hasA_cons (k := 6) rfl d6 hasA_base)) (ov_load_agg (vs := [(Value.int .i64 (((l1.getD i1.toNat z_Api_Fact).Key).Hour)), (str (((l1.getD i1.toNat z_Api_Fact).Key).Dims_0)), (str (((l1.getD i1.toNat z_Api_Fact).Key).Dims_1)), (str (((l1.getD i1.toNat z_Api_Fact).Key).Dims_2)), (str (((l1.getD i1.toNat z_Api_Fact).Key).Dims_3)), (Value.int .i64 ((l1.getD i1.toNat z_Api_Fact).Value))]) rfl F_agg_43 F_size_43 (reads_rd (i := 1) rfl hA1 (by simp) (fl_read0 enc_Api_Fact_len (ix_lt c3 c4) rfl))) rfl rfl (onlyT_spec (k0 := 7) rfl rfl rfl)
                · intro done hi hc hcu
                  have d3 : done 3 = true := done_of (j := 3) hcu rfl (by decide) rfl
                  have d7 : done 7 = true := done_of (j := 7) hcu rfl (by decide) rfl
                  exact draw_value (i := 8) (t := 25) (v := (Value.bool (!((((((l0.getD i1.toNat z_Api_Fact).Key).Hour) == (((l1.getD i1.toNat z_Api_Fact).Key).Hour)) && ((((((l0.getD i1.toNat z_Api_Fact).Key).Dims_0) == (((l1.getD i1.toNat z_Api_Fact).Key).Dims_0)) && (((((l0.getD i1.toNat z_Api_Fact).Key).Dims_1) == (((l1.getD i1.toNat z_Api_Fact).Key).Dims_1)) && (((((l0.getD i1.toNat z_Api_Fact).Key).Dims_2) == (((l1.getD i1.toNat z_Api_Fact).Key).Dims_2)) && (((((l0.getD i1.toNat z_Api_Fact).Key).Dims_3) == (((l1.getD i1.toNat z_Api_Fact).Key).Dims_3)) && true)))) && true)) && ((((l0.getD i1.toNat z_Api_Fact).Value) == ((l1.getD i1.toNat z_Api_Fact).Value)) && true))))) rfl rfl (wanted_none rfl) (fun a => (hasA_cons (k := 7) rfl d7 (hasA_cons (k := 3) rfl d3 hasA_base))) (ov_bin rfl rfl (same_43_n _ _ _ _ _ _ _ _ _ _ _ _)) rfl rfl (onlyT_spec (k0 := 8) rfl rfl rfl)
              · intro done hall
                refine draw_endL [A0, A1] rfl (fun a => (hasA_cons (k := 0) rfl (hall 0 (by decide)) (hasA_cons (k := 1) rfl (hall 1 (by decide)) (hasA_cons (k := 2) rfl (hall 2 (by decide)) (hasA_cons (k := 3) rfl (hall 3 (by decide)) (hasA_cons (k := 4) rfl (hall 4 (by decide)) (hasA_cons (k := 5) rfl (hall 5 (by decide)) (hasA_cons (k := 6) rfl (hall 6 (by decide)) (hasA_cons (k := 7) rfl (hall 7 (by decide)) (hasA_cons (k := 8) rfl (hall 8 (by decide)) hasA_base)))))))))) ?_
                by_cases c5 : (!((((((l0.getD i1.toNat z_Api_Fact).Key).Hour) == (((l1.getD i1.toNat z_Api_Fact).Key).Hour)) && ((((((l0.getD i1.toNat z_Api_Fact).Key).Dims_0) == (((l1.getD i1.toNat z_Api_Fact).Key).Dims_0)) && (((((l0.getD i1.toNat z_Api_Fact).Key).Dims_1) == (((l1.getD i1.toNat z_Api_Fact).Key).Dims_1)) && (((((l0.getD i1.toNat z_Api_Fact).Key).Dims_2) == (((l1.getD i1.toNat z_Api_Fact).Key).Dims_2)) && (((((l0.getD i1.toNat z_Api_Fact).Key).Dims_3) == (((l1.getD i1.toNat z_Api_Fact).Key).Dims_3)) && true)))) && true)) && ((((l0.getD i1.toNat z_Api_Fact).Value) == ((l1.getD i1.toNat z_Api_Fact).Value)) && true))) = true
                · rw [if_pos c5] at H1
                  refine ent_cond_true rfl c5 ?_
                  refine ent_seq ?_
                  refine ent_region ?_
                  refine ent_value (ov_assign rfl) rfl rfl rfl ?_
                  refine ent_nil ?_
                  refine ent_retc ?_
                  cases H1
                  exact ret_tmp rfl rfl ⟨rfl, rfl⟩
                · rw [if_neg c5] at H1
                  refine ent_cond_false rfl (Bool.eq_false_iff.2 c5) ?_
                  refine ent_skip ?_
                  refine ent_region ?_
                  refine ent_value (ov_move rfl) rfl rfl rfl ?_
                  refine ent_value (ov_bin rfl rfl (b_add _ _ _) ) rfl rfl rfl ?_
                  refine ent_value (ov_assign rfl) rfl rfl rfl ?_
                  refine ent_nil ?_
                  exact ent_fin [0, 1] (by decide) rfl (sub_cons (t := 0) rfl (sub_cons (t := 1) rfl (sub_cons (t := 5) rfl (sub_nil _)))) fun a w h => ⟨k, Nat.lt_succ_self k, _, H1, h⟩
            · rw [if_neg c4] at H1
              cases H1
          · rw [if_neg c3] at H1
            cases H1
        · rw [if_neg c2] at H1
          refine ent_cond_false rfl (decide_eq_false c2) ?_
          refine ent_exit ?_
          refine ent_seq ?_
          refine ent_region ?_
          refine ent_value (ov_assign rfl) rfl rfl rfl ?_
          refine ent_nil ?_
          refine ent_retc ?_
          cases H1
          exact ret_tmp rfl rfl ⟨rfl, rfl⟩

set_option maxRecDepth 100000 in
theorem ossuarylaw09_FactCodes.spec (K : Nat) (A0 : HP) (sv0 : Value) (A1 : HP) (sv1 : Value) (l0 : List Api_Fact) (l1 : List Int) (a2 : Int) (hA0 : IsRd A0 sv0 l0.length 6 (fl enc_Api_Fact l0)) (hA1 : IsRd A1 sv1 l1.length 1 (fl (eI .u8) l1)) (r : Bool) (H : ossuarylaw09_FactCodes K l0 l1 a2 = some r) : FnSpec Try.prog 12 [sv0, sv1, (Value.int .i64 a2)] [A0, A1] (fun v M => v = (Value.bool r) ∧ M = [A0, A1]) := by
  unfold ossuarylaw09_FactCodes at H
  refine spec_of Try.func12 rfl 69 rfl (Nat.le_of_ble_eq_true rfl) fun F w0 => ?_
  show Ent (St 69 w0 F [(0, sv0), (1, sv1), (2, (Value.int .i64 a2))] [A0, A1]) _
  refine ent_seq ?_
  refine ent_region ?_
  refine ent_value (ov_assign rfl) rfl rfl rfl ?_
  refine ent_nil ?_
  refine ent_seq ?_
  refine ent_seq ?_
  refine ent_region ?_
  refine ent_value (ov_move rfl) rfl rfl rfl ?_
  obtain ⟨x1, h1, H⟩ := Option.bind_eq_some_iff.1 H
  refine ent_op (ot_call_same (Lr := [A1]) [0, 1] [0, 1] (first := []) (cap := []) (xs := [.tmp 15]) rfl rfl F_call_25 rfl (ossuarylaw09_Light.spec K sv0 A0 l0 hA0 _ h1) (by decide) rfl (by decide) rfl) rfl rfl rfl ?_
  rintro _ _ ⟨rfl, rfl⟩
  refine ent_value (ov_un rfl (u_not _)) rfl rfl rfl ?_
  refine ent_value (ov_move rfl) rfl rfl rfl ?_
  by_cases c1 : (!x1) = true
  · rw [if_pos c1] at H
    refine ent_off rfl rfl rfl c1 rfl rfl ?_
    refine ent_off rfl rfl rfl c1 rfl rfl ?_
    refine ent_off rfl rfl rfl c1 rfl rfl ?_
    refine ent_value (ov_pick rfl rfl rfl (pick_t c1)) rfl rfl rfl ?_
    refine ent_nil ?_
    refine ent_cond_true rfl rfl ?_
    refine ent_seq ?_
    refine ent_region ?_
    obtain ⟨x2, h2, H⟩ := Option.bind_eq_some_iff.1 H
    refine ent_op (ot_call0 (first := []) (cap := []) (xs := []) rfl rfl F_call_26 rfl (ossuarylaw09_alive.spec K _ h2)) rfl rfl rfl ?_
    rintro _ _ ⟨rfl, rfl⟩
    refine ent_value (ov_assign rfl) rfl rfl rfl ?_
    refine ent_nil ?_
    refine ent_retc ?_
    cases H
    exact ret_tmp rfl rfl ⟨rfl, rfl⟩
  · rw [if_neg c1] at H
    refine ent_value_on (ov_move rfl) rfl rfl rfl (Bool.eq_false_iff.2 c1) rfl rfl ?_
    refine ent_value_on (ov_len 1 rfl F_slice_79 rfl hA1) rfl rfl rfl (Bool.eq_false_iff.2 c1) rfl rfl ?_
    refine ent_value_on (ov_bin rfl rfl (b_gtr _ _ _)) rfl rfl rfl (Bool.eq_false_iff.2 c1) rfl rfl ?_
    refine ent_value (ov_pick rfl rfl rfl (pick_f (Bool.eq_false_iff.2 c1))) rfl rfl rfl ?_
    refine ent_nil ?_
    by_cases c2 : 1000 < (l1.length : Int)
    · rw [if_pos c2] at H
      refine ent_cond_true rfl (decide_eq_true c2) ?_
      refine ent_seq ?_
      refine ent_region ?_
      obtain ⟨x3, h3, H⟩ := Option.bind_eq_some_iff.1 H
      refine ent_op (ot_call0 (first := []) (cap := []) (xs := []) rfl rfl F_call_26 rfl (ossuarylaw09_alive.spec K _ h3)) rfl rfl rfl ?_
      rintro _ _ ⟨rfl, rfl⟩
      refine ent_value (ov_assign rfl) rfl rfl rfl ?_
      refine ent_nil ?_
      refine ent_retc ?_
      cases H
      exact ret_tmp rfl rfl ⟨rfl, rfl⟩
    · rw [if_neg c2] at H
      refine ent_cond_false rfl (decide_eq_false c2) ?_
      refine ent_skip ?_
      refine ent_seq ?_
      refine ent_region ?_
      refine ent_value (ov_move rfl) rfl rfl rfl ?_
      refine ent_value (ov_move rfl) rfl rfl rfl ?_
      obtain ⟨x4, h4, H⟩ := Option.bind_eq_some_iff.1 H
      refine ent_op (ot_call (Lr := [A1]) (first := []) (cap := []) (xs := [.tmp 25, .tmp 26]) rfl rfl F_call_54 rfl (fact_Encode.spec K sv0 A0 l0 a2 hA0 _ h4) rfl) rfl rfl rfl ?_
      rintro _ _ ⟨_, ⟨sv2, rfl, rfl⟩, rfl⟩
      refine ent_value (ov_move rfl) rfl rfl rfl ?_
      refine ent_value (ov_extract rfl rfl) rfl rfl rfl ?_
      refine ent_value (ov_extract rfl rfl) rfl rfl rfl ?_
      refine ent_value (ov_assign rfl) rfl rfl rfl ?_
      refine ent_value (ov_assign rfl) rfl rfl rfl ?_
      refine ent_nil ?_
      refine ent_seq ?_
      refine ent_region ?_
      refine ent_value (ov_move rfl) rfl rfl rfl ?_
      refine ent_value (ov_move rfl) rfl rfl rfl ?_
      obtain ⟨x5, h5, H⟩ := Option.bind_eq_some_iff.1 H
      refine ent_op (ot_call (Lr := [(own sv2 5 1 x4.2.length (fl (eI .u8) x4.2)), A1]) (first := []) (cap := []) (xs := [.tmp 31, .tmp 32]) rfl rfl F_call_55 rfl (ossuaryref09_Encode.spec K sv0 A0 l0 a2 hA0 _ h5) rfl) rfl rfl rfl ?_
      rintro _ _ ⟨_, ⟨sv3, rfl, rfl⟩, rfl⟩
      refine ent_value (ov_move rfl) rfl rfl rfl ?_
      refine ent_value (ov_extract rfl rfl) rfl rfl rfl ?_
      refine ent_value (ov_extract rfl rfl) rfl rfl rfl ?_
      refine ent_value (ov_assign rfl) rfl rfl rfl ?_
      refine ent_value (ov_assign rfl) rfl rfl rfl ?_
      refine ent_nil ?_
      refine ent_seq ?_
      refine ent_region ?_
      refine ent_value (ov_move rfl) rfl rfl rfl ?_
      refine ent_value (ov_move rfl) rfl rfl rfl ?_
      obtain ⟨x6, h6, H⟩ := Option.bind_eq_some_iff.1 H
      refine ent_pick [3, 0, 1, 2] (by decide) rfl ?_
      refine ent_op (ot_call (Lr := [A0, (own sv3 5 1 x5.2.length (fl (eI .u8) x5.2)), (own sv2 5 1 x4.2.length (fl (eI .u8) x4.2))]) (first := []) (cap := []) (xs := [.tmp 37, .tmp 38]) rfl rfl F_call_56 rfl (fact_Read.spec K sv1 A1 l1 a2 hA1 _ h6) rfl) rfl rfl rfl ?_
      rintro _ _ ⟨_, ⟨sv4, rfl, rfl⟩, rfl⟩
      refine ent_value (ov_move rfl) rfl rfl rfl ?_
      refine ent_value (ov_extract rfl rfl) rfl rfl rfl ?_
      refine ent_value (ov_extract rfl rfl) rfl rfl rfl ?_
      refine ent_value (ov_assign rfl) rfl rfl rfl ?_
      refine ent_value (ov_assign rfl) rfl rfl rfl ?_
      refine ent_nil ?_
      refine ent_seq ?_
      refine ent_region ?_
      refine ent_value (ov_move rfl) rfl rfl rfl ?_
      refine ent_value (ov_move rfl) rfl rfl rfl ?_
      obtain ⟨x7, h7, H⟩ := Option.bind_eq_some_iff.1 H
      refine ent_op (ot_call (Lr := [(own sv4 43 6 x6.2.length (fl enc_Api_Fact x6.2)), A0, (own sv3 5 1 x5.2.length (fl (eI .u8) x5.2)), (own sv2 5 1 x4.2.length (fl (eI .u8) x4.2))]) (first := []) (cap := []) (xs := [.tmp 43, .tmp 44]) rfl rfl F_call_57 rfl (ossuaryref09_Read.spec K sv1 A1 l1 a2 hA1 _ h7) rfl) rfl rfl rfl ?_
      rintro _ _ ⟨_, ⟨sv5, rfl, rfl⟩, rfl⟩
      refine ent_value (ov_move rfl) rfl rfl rfl ?_
      refine ent_value (ov_extract rfl rfl) rfl rfl rfl ?_
      refine ent_value (ov_extract rfl rfl) rfl rfl rfl ?_
      refine ent_value (ov_assign rfl) rfl rfl rfl ?_
      refine ent_value (ov_assign rfl) rfl rfl rfl ?_
      refine ent_nil ?_
      refine ent_seq ?_
      refine ent_region ?_
      refine ent_value (ov_move rfl) rfl rfl rfl ?_
      refine ent_value (ov_move rfl) rfl rfl rfl ?_
      obtain ⟨x8, h8, H⟩ := thn_elim H
      refine ent_op (ot_call_same (Lr := [A1, (own sv5 43 6 x7.2.length (fl enc_Api_Fact x7.2)), (own sv4 43 6 x6.2.length (fl enc_Api_Fact x6.2)), A0]) [5, 4, 0, 1, 2, 3] [2, 3, 4, 5, 1, 0] (first := []) (cap := []) (xs := [.tmp 48, .tmp 49]) rfl rfl F_call_58 rfl (ossuaryref01_Same.spec sv2 (own sv2 5 1 x4.2.length (fl (eI .u8) x4.2)) sv3 (own sv3 5 1 x5.2.length (fl (eI .u8) x5.2)) x4.2 x5.2 (isRd_ownx 5) (isRd_ownx 5) _ h8) (by decide) rfl (by decide) rfl) rfl rfl rfl ?_
      rintro _ _ ⟨rfl, rfl⟩
      refine ent_value (ov_move rfl) rfl rfl rfl ?_
      by_cases c3 : x8 = true
      · rw [if_pos c3] at H
        refine ent_value_on (ov_move rfl) rfl rfl rfl c3 rfl rfl ?_
        refine ent_value_on (ov_move rfl) rfl rfl rfl c3 rfl rfl ?_
        refine ent_value_on (ov_bin rfl rfl (b_eql _ _ _)) rfl rfl rfl c3 rfl rfl ?_
        refine ent_value (ov_pick rfl rfl rfl (pick_t c3)) rfl rfl rfl ?_
        refine ent_value (ov_move rfl) rfl rfl rfl ?_
        by_cases c4 : x4.1 = x5.1
        · rw [if_pos c4] at H
          refine ent_value_on (ov_move rfl) rfl rfl rfl (eq_t c4) rfl rfl ?_
          refine ent_value_on (ov_move rfl) rfl rfl rfl (eq_t c4) rfl rfl ?_
          obtain ⟨x9, h9, H⟩ := Option.bind_eq_some_iff.1 H
          refine ent_op_on (ot_call_same (Lr := [A1, A0, (own sv3 5 1 x5.2.length (fl (eI .u8) x5.2)), (own sv2 5 1 x4.2.length (fl (eI .u8) x4.2))]) [2, 1, 0, 3, 4, 5] [2, 1, 0, 3, 4, 5] (first := []) (cap := []) (xs := [.tmp 57, .tmp 58]) rfl rfl F_call_59 rfl (ossuaryref09_Same.spec K sv4 (own sv4 43 6 x6.2.length (fl enc_Api_Fact x6.2)) sv5 (own sv5 43 6 x7.2.length (fl enc_Api_Fact x7.2)) x6.2 x7.2 (isRd_ownx 43) (isRd_ownx 43) _ h9) (by decide) rfl (by decide) rfl) rfl rfl rfl (eq_t c4) rfl rfl ?_
          rintro _ _ ⟨rfl, rfl⟩
          refine ent_value (ov_pick rfl rfl rfl (pick_t (eq_t c4))) rfl rfl rfl ?_
          refine ent_value (ov_move rfl) rfl rfl rfl ?_
          by_cases c5 : x9 = true
          · rw [if_pos c5] at H
            refine ent_value_on (ov_move rfl) rfl rfl rfl c5 rfl rfl ?_
            refine ent_value_on (ov_move rfl) rfl rfl rfl c5 rfl rfl ?_
            refine ent_value_on (ov_bin rfl rfl (b_eql _ _ _)) rfl rfl rfl c5 rfl rfl ?_
            refine ent_value (ov_pick rfl rfl rfl (pick_t c5)) rfl rfl rfl ?_
            refine ent_value (ov_move rfl) rfl rfl rfl ?_
            by_cases c6 : x6.1 = x7.1
            · rw [if_pos c6] at H
              obtain ⟨x10, h10, H⟩ := Option.bind_eq_some_iff.1 H
              refine ent_op_on (ot_call0 (first := []) (cap := []) (xs := []) rfl rfl F_call_26 rfl (ossuarylaw09_alive.spec K _ h10)) rfl rfl rfl (eq_t c6) rfl rfl ?_
              rintro _ _ ⟨rfl, rfl⟩
              refine ent_value (ov_pick rfl rfl rfl (pick_t (eq_t c6))) rfl rfl rfl ?_
              refine ent_value (ov_assign rfl) rfl rfl rfl ?_
              refine ent_nil ?_
              refine ent_retc ?_
              cases H
              refine ent_pick [3, 0] (by decide) rfl ?_
              exact ret_tmp rfl rfl ⟨rfl, rfl⟩
            · rw [if_neg c6] at H
              refine ent_off rfl rfl rfl (eq_f c6) rfl rfl ?_
              refine ent_value (ov_pick rfl rfl rfl (pick_f (eq_f c6))) rfl rfl rfl ?_
              refine ent_value (ov_assign rfl) rfl rfl rfl ?_
              refine ent_nil ?_
              refine ent_retc ?_
              cases H
              refine ent_pick [3, 0] (by decide) rfl ?_
              exact ret_tmp rfl rfl ⟨rfl, rfl⟩
          · rw [if_neg c5] at H
            refine ent_off rfl rfl rfl (Bool.eq_false_iff.2 c5) rfl rfl ?_
            refine ent_off rfl rfl rfl (Bool.eq_false_iff.2 c5) rfl rfl ?_
            refine ent_off rfl rfl rfl (Bool.eq_false_iff.2 c5) rfl rfl ?_
            refine ent_value (ov_pick rfl rfl rfl (pick_f (Bool.eq_false_iff.2 c5))) rfl rfl rfl ?_
            refine ent_value (ov_move rfl) rfl rfl rfl ?_
            refine ent_off rfl rfl rfl rfl rfl rfl ?_
            refine ent_value (ov_pick rfl rfl rfl rfl) rfl rfl rfl ?_
            refine ent_value (ov_assign rfl) rfl rfl rfl ?_
            refine ent_nil ?_
            refine ent_retc ?_
            cases H
            refine ent_pick [3, 0] (by decide) rfl ?_
            exact ret_tmp rfl rfl ⟨rfl, rfl⟩
        · rw [if_neg c4] at H
          refine ent_off rfl rfl rfl (eq_f c4) rfl rfl ?_
          refine ent_off rfl rfl rfl (eq_f c4) rfl rfl ?_
          refine ent_off rfl rfl rfl (eq_f c4) rfl rfl ?_
          refine ent_value (ov_pick rfl rfl rfl (pick_f (eq_f c4))) rfl rfl rfl ?_
          refine ent_value (ov_move rfl) rfl rfl rfl ?_
          refine ent_off rfl rfl rfl rfl rfl rfl ?_
          refine ent_off rfl rfl rfl rfl rfl rfl ?_
          refine ent_off rfl rfl rfl rfl rfl rfl ?_
          refine ent_value (ov_pick rfl rfl rfl rfl) rfl rfl rfl ?_
          refine ent_value (ov_move rfl) rfl rfl rfl ?_
          refine ent_off rfl rfl rfl rfl rfl rfl ?_
          refine ent_value (ov_pick rfl rfl rfl rfl) rfl rfl rfl ?_
          refine ent_value (ov_assign rfl) rfl rfl rfl ?_
          refine ent_nil ?_
          refine ent_retc ?_
          cases H
          refine ent_pick [3, 0] (by decide) rfl ?_
          exact ret_tmp rfl rfl ⟨rfl, rfl⟩
      · rw [if_neg c3] at H
        refine ent_off rfl rfl rfl (Bool.eq_false_iff.2 c3) rfl rfl ?_
        refine ent_off rfl rfl rfl (Bool.eq_false_iff.2 c3) rfl rfl ?_
        refine ent_off rfl rfl rfl (Bool.eq_false_iff.2 c3) rfl rfl ?_
        refine ent_value (ov_pick rfl rfl rfl (pick_f (Bool.eq_false_iff.2 c3))) rfl rfl rfl ?_
        refine ent_value (ov_move rfl) rfl rfl rfl ?_
        refine ent_off rfl rfl rfl rfl rfl rfl ?_
        refine ent_off rfl rfl rfl rfl rfl rfl ?_
        refine ent_off rfl rfl rfl rfl rfl rfl ?_
        refine ent_value (ov_pick rfl rfl rfl rfl) rfl rfl rfl ?_
        refine ent_value (ov_move rfl) rfl rfl rfl ?_
        refine ent_off rfl rfl rfl rfl rfl rfl ?_
        refine ent_off rfl rfl rfl rfl rfl rfl ?_
        refine ent_off rfl rfl rfl rfl rfl rfl ?_
        refine ent_value (ov_pick rfl rfl rfl rfl) rfl rfl rfl ?_
        refine ent_value (ov_move rfl) rfl rfl rfl ?_
        refine ent_off rfl rfl rfl rfl rfl rfl ?_
        refine ent_value (ov_pick rfl rfl rfl rfl) rfl rfl rfl ?_
        refine ent_value (ov_assign rfl) rfl rfl rfl ?_
        refine ent_nil ?_
        refine ent_retc ?_
        cases H
        refine ent_pick [3, 0] (by decide) rfl ?_
        exact ret_tmp rfl rfl ⟨rfl, rfl⟩

end Go.Proofs.Ytmhhjhckbiaidaa.FactCodes
