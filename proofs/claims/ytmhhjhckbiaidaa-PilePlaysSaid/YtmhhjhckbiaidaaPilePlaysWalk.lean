/- Printed by gen.py: that the machine's calls do what the plain functions of PilePlays say. -/
import Derived.Test.YtmhhjhckbiaidaaPilePlaysWalk3
import Derived.Test.YtmhhjhckbiaidaaProg
import Derived.Test.YtmhhjhckbiaidaaEByte
import Derived.Test.YtmhhjhckbiaidaaPilePlaysPure
set_option linter.unusedVariables false
set_option linter.unusedSimpArgs false
set_option maxHeartbeats 400000
namespace Go.Proofs.Ytmhhjhckbiaidaa.PilePlays
open Go Go.RowKit E

set_option maxRecDepth 100000 in
theorem ossuarylaw07_PilePlays.spec (K : Nat) (A0 : HP) (sv0 : Value) (l0 : List Ossuarylaw07_Act) (hA0 : IsRd A0 sv0 l0.length 3 (fl enc_Ossuarylaw07_Act l0)) (r : Bool) (H : ossuarylaw07_PilePlays K l0 = some r) : FnSpec Try.prog 7 [sv0] [A0] (fun v M => v = (Value.bool r) ∧ M = [A0]) := by
  unfold ossuarylaw07_PilePlays at H
  refine spec_of Try.func7 rfl 122 rfl (Nat.le_of_ble_eq_true rfl) fun F w0 => ?_
  show Ent (St 122 w0 F [(0, sv0)] [A0]) _
  refine ent_seq ?_
  refine ent_region ?_
  refine ent_value (ov_assign rfl) rfl rfl rfl ?_
  refine ent_nil ?_
  refine ent_seq ?_
  refine ent_seq ?_
  refine ent_region ?_
  refine ent_value (ov_move rfl) rfl rfl rfl ?_
  refine ent_value (ov_len 0 rfl F_slice_47 rfl hA0) rfl rfl rfl ?_
  refine ent_value (ov_bin rfl rfl (b_gtr _ _ _)) rfl rfl rfl ?_
  refine ent_nil ?_
  by_cases c1 : 150 < (l0.length : Int)
  · rw [if_pos c1] at H
    refine ent_cond_true rfl (decide_eq_true c1) ?_
    refine ent_seq ?_
    refine ent_region ?_
    obtain ⟨x1, h1, H⟩ := Option.bind_eq_some_iff.1 H
    refine ent_op (ot_call0 (first := []) (cap := []) (xs := []) rfl rfl F_call_31 rfl (ossuarylaw07_alive.spec K _ h1)) rfl rfl rfl ?_
    rintro _ _ ⟨rfl, rfl⟩
    refine ent_value (ov_assign rfl) rfl rfl rfl ?_
    refine ent_nil ?_
    refine ent_retc ?_
    cases H
    exact ret_tmp rfl rfl ⟨rfl, rfl⟩
  · rw [if_neg c1] at H
    refine ent_cond_false rfl (decide_eq_false c1) ?_
    refine ent_skip ?_
    refine ent_seq ?_
    refine ent_region ?_
    obtain ⟨x2, h2, H⟩ := thn_elim H
    refine ent_op (ot_call (Lr := [A0]) (first := []) (cap := []) (xs := [.func 33]) rfl rfl F_call_32 rfl (pile_New__ossuaryref07_Item.spec _ h2) rfl) rfl rfl rfl ?_
    rintro _ _ ⟨_, ⟨b1, rfl, rfl⟩, rfl⟩
    refine ent_value (ov_assign rfl) rfl rfl rfl ?_
    refine ent_nil ?_
    refine ent_seq ?_
    refine ent_region ?_
    refine ent_value (ov_build (is := []) (xs := []) (vs := []) rfl rfl (build_struct (cs := [(Value.slice none 0 0)]) F_zero_56 F_places_56 rfl)) rfl rfl rfl ?_
    refine ent_op (ot_box (cs := [(Value.slice none 0 0)]) rfl rfl) rfl rfl rfl ?_
    rintro _ _ ⟨b2, rfl, rfl⟩
    refine ent_value (ov_assign rfl) rfl rfl rfl ?_
    refine ent_nil ?_
    obtain ⟨x3, H1, H⟩ := Option.bind_eq_some_iff.1 H
    refine ent_seq_cut (fun a w => ∃ v1, x3 = Sum.inl v1 ∧ ∃ sv1 : Value, ∃ b3 : Nat, ∃ A1 : HP, ∃ sv2 : Value, IsRd A1 sv2 v1.2.2.length 2 (fl enc_Ossuaryref07_Item v1.2.2) ∧ St 122 w0 F [(3, (pt b1 0)), (4, (pt b3 0))] [A0, (box b1 98 [(Value.func (.func 33) #[] #[]), sv1, (Value.int .i64 v1.2.1)]), (own sv1 100 3 v1.1.length (fl enc_Pile_item__ossuaryref07_Item v1.1)), (box b3 56 [sv2]), A1] a w) ?_ ?_
    · refine ent_seq ?_
      refine ent_region ?_
      refine ent_value (ov_assign rfl) rfl rfl rfl ?_
      refine ent_nil ?_
      refine ent_block ?_
      refine ent_loop (fun k a w => ∃ i2, ∃ l3, ∃ i3, ∃ l5, ∃ sv3 : Value, ∃ b4 : Nat, ∃ A2 : HP, ∃ sv5 : Value, IsRd A2 sv5 l5.length 2 (fl enc_Ossuaryref07_Item l5) ∧ ossuarylaw07_PilePlays_l0 K l0 k i2 l3 i3 l5 = some x3 ∧ St 122 w0 F [(0, sv0), (3, (pt b1 0)), (4, (pt b4 0)), (5, (Value.int .i64 i2))] [A0, (box b1 98 [(Value.func (.func 33) #[] #[]), sv3, (Value.int .i64 i3)]), (own sv3 100 3 l3.length (fl enc_Pile_item__ossuaryref07_Item l3)), (box b4 56 [sv5]), A2] a w) K ?_ ?_
      · refine ent_ownnil 100 3 ?_
        refine ent_emp ?_
        exact ent_fin [4, 3, 1, 2, 0] (by decide) rfl (sub_cons (t := 0) rfl (sub_cons (t := 3) rfl (sub_cons (t := 4) rfl (sub_cons (t := 5) rfl (sub_nil _))))) fun a w h => ⟨_, _, _, _, _, _, _, _, (isRd_nil 0 _), H1, h⟩
      · refine fun k => ent_exi fun i2 => ent_exi fun l3 => ent_exi fun i3 => ent_exi fun l5 => ent_exi fun sv3 => ent_exi fun b4 => ent_exi fun A2 => ent_exi fun sv5 => ent_and fun hr2 => ent_and fun H2 => ?_
        cases k with
        | zero => exact absurd H2 (by simp [ossuarylaw07_PilePlays_l0])
        | succ k =>
          rw [ossuarylaw07_PilePlays_l0] at H2
          refine ent_seq ?_
          refine ent_seq ?_
          refine ent_region ?_
          refine ent_value (ov_move rfl) rfl rfl rfl ?_
          refine ent_value (ov_move rfl) rfl rfl rfl ?_
          refine ent_value (ov_len 0 rfl F_slice_47 rfl hA0) rfl rfl rfl ?_
          refine ent_value (ov_bin rfl rfl (b_lss _ _ _)) rfl rfl rfl ?_
          refine ent_nil ?_
          by_cases c2 : i2 < (l0.length : Int)
          · rw [if_pos c2] at H2
            refine ent_cond_true rfl (decide_eq_true c2) ?_
            refine ent_skip ?_
            refine ent_seq ?_
            refine ent_block ?_
            obtain ⟨x4, H3, H2⟩ := Option.bind_eq_some_iff.1 H2
            refine ent_seq_cut (fun a w => ∃ v2, x4 = Sum.inl v2 ∧ ∃ sv6 : Value, ∃ A3 : HP, ∃ sv7 : Value, IsRd A3 sv7 v2.2.2.length 2 (fl enc_Ossuaryref07_Item v2.2.2) ∧ St 122 w0 F [(0, sv0), (3, (pt b1 0)), (4, (pt b4 0)), (5, (Value.int .i64 i2))] [A0, (box b1 98 [(Value.func (.func 33) #[] #[]), sv6, (Value.int .i64 v2.2.1)]), (own sv6 100 3 v2.1.length (fl enc_Pile_item__ossuaryref07_Item v2.1)), (box b4 56 [sv7]), A3] a w) ?_ ?_
            · refine ent_seq ?_
              refine ent_region ?_
              refine ent_value (ov_move rfl) rfl rfl rfl ?_
              refine ent_value (ov_move rfl) rfl rfl rfl ?_
              by_cases c3 : 0 ≤ i2
              · rw [if_pos c3] at H3
                refine ent_value (ov_indexAddr (sz := 2) 0 rfl rfl F_slice_47 F_size_58 rfl hA0 c3 c2) rfl rfl rfl ?_
                refine ent_value (ov_fieldAddrE (sz := 0) 0 rfl F_field_58_0 F_size_3 rfl hA0 (fl_pos enc_Ossuarylaw07_Act_len (ix_lt c3 c2))) rfl rfl rfl ?_
                refine ent_value (ov_load (v := (Value.int .i64 ((l0.getD i2.toNat z_Ossuarylaw07_Act).Kind))) rfl F_agg_3 (reads_rd (i := 0) rfl hA0 (by simp) (fl_read enc_Ossuarylaw07_Act_len (ix_lt c3 c2) rfl))) rfl rfl rfl ?_
                refine ent_nil ?_
                refine ent_block ?_
                refine ent_seq ?_
                refine ent_region ?_
                refine ent_value (ov_bin rfl rfl (b_eql _ _ _)) rfl rfl rfl ?_
                refine ent_value (ov_assign rfl) rfl rfl rfl ?_
                refine ent_nil ?_
                by_cases c4 : ((l0.getD i2.toNat z_Ossuarylaw07_Act).Kind) = 0
                · rw [if_pos c4] at H3
                  refine ent_cond_true rfl (eq_t c4) ?_
                  refine ent_seq ?_
                  refine ent_region ?_
                  refine ent_value (ov_move rfl) rfl rfl rfl ?_
                  refine ent_value (ov_move rfl) rfl rfl rfl ?_
                  refine ent_value (ov_move rfl) rfl rfl rfl ?_
                  refine ent_value (ov_indexAddr (sz := 2) 0 rfl rfl F_slice_47 F_size_58 rfl hA0 c3 c2) rfl rfl rfl ?_
                  refine ent_value (ov_fieldAddrE (sz := 1) 0 rfl F_field_58_1 F_size_51 rfl hA0 (fl_pos enc_Ossuarylaw07_Act_len (ix_lt c3 c2))) rfl rfl rfl ?_
                  refine ent_value (ov_load_agg (vs := [(Value.int .i64 (((l0.getD i2.toNat z_Ossuarylaw07_Act).X).Weight)), (str (((l0.getD i2.toNat z_Ossuarylaw07_Act).X).Name))]) rfl F_agg_51 F_size_51 (reads_rd (i := 0) rfl hA0 (by simp) (fl_read enc_Ossuarylaw07_Act_len (ix_lt c3 c2) rfl))) rfl rfl rfl ?_
                  obtain ⟨x5, h3, H3⟩ := Option.bind_eq_some_iff.1 H3
                  refine ent_pick [1, 2, 0, 3, 4] (by decide) rfl ?_
                  refine ent_op (ot_call (Lr := [A0, (box b4 56 [sv5]), A2]) (first := []) (cap := []) (xs := [.tmp 32, .tmp 37]) rfl rfl F_call_34 rfl (pile_Pile__ossuaryref07_Item_Push_2.spec K b1 sv3 l3 i3 (((l0.getD i2.toNat z_Ossuarylaw07_Act).X).Weight) (((l0.getD i2.toNat z_Ossuarylaw07_Act).X).Name) _ h3) rfl) rfl rfl rfl ?_
                  rintro _ _ ⟨_, ⟨sv8, rfl, rfl⟩, rfl⟩
                  refine ent_nil ?_
                  refine ent_region ?_
                  refine ent_value (ov_move rfl) rfl rfl rfl ?_
                  refine ent_value (ov_move rfl) rfl rfl rfl ?_
                  refine ent_value (ov_move rfl) rfl rfl rfl ?_
                  refine ent_value (ov_indexAddr (sz := 2) 2 rfl rfl F_slice_47 F_size_58 rfl hA0 c3 c2) rfl rfl rfl ?_
                  refine ent_value (ov_fieldAddrE (sz := 1) 2 rfl F_field_58_1 F_size_51 rfl hA0 (fl_pos enc_Ossuarylaw07_Act_len (ix_lt c3 c2))) rfl rfl rfl ?_
                  refine ent_value (ov_load_agg (vs := [(Value.int .i64 (((l0.getD i2.toNat z_Ossuarylaw07_Act).X).Weight)), (str (((l0.getD i2.toNat z_Ossuarylaw07_Act).X).Name))]) rfl F_agg_51 F_size_51 (reads_rd (i := 2) rfl hA0 (by simp) (fl_read enc_Ossuarylaw07_Act_len (ix_lt c3 c2) rfl))) rfl rfl rfl ?_
                  obtain ⟨x6, h4, H3⟩ := Option.bind_eq_some_iff.1 H3
                  refine ent_pick [3, 4, 0, 1, 2] (by decide) rfl ?_
                  refine ent_op (ot_call (Lr := [(box b1 98 [(Value.func (.func 33) #[] #[]), sv8, (Value.int .i64 x5.2)]), (own sv8 100 3 x5.1.length (fl enc_Pile_item__ossuaryref07_Item x5.1)), A0]) (first := []) (cap := []) (xs := [.tmp 39, .tmp 44]) rfl rfl F_call_35 rfl (ossuaryref07_Pile_Push_3.spec K b4 sv5 A2 l5 (((l0.getD i2.toNat z_Ossuarylaw07_Act).X).Weight) (((l0.getD i2.toNat z_Ossuarylaw07_Act).X).Name) hr2 _ h4) rfl) rfl rfl rfl ?_
                  rintro _ _ ⟨_, ⟨sv9, rfl, rfl⟩, rfl⟩
                  refine ent_nil ?_
                  cases H3
                  exact ent_fin [5, 3, 4, 0, 1] (by decide) rfl (sub_cons (t := 0) rfl (sub_cons (t := 3) rfl (sub_cons (t := 4) rfl (sub_cons (t := 5) rfl (sub_nil _))))) fun a w h => ⟨_, rfl, _, _, _, (isRd_ownx _), h⟩
                · rw [if_neg c4] at H3
                  refine ent_cond_false rfl (eq_f c4) ?_
                  refine ent_seq ?_
                  refine ent_region ?_
                  refine ent_value (ov_bin rfl rfl (b_eql _ _ _)) rfl rfl rfl ?_
                  refine ent_value (ov_assign rfl) rfl rfl rfl ?_
                  refine ent_nil ?_
                  by_cases c5 : ((l0.getD i2.toNat z_Ossuarylaw07_Act).Kind) = 1
                  · rw [if_pos c5] at H3
                    refine ent_cond_true rfl (eq_t c5) ?_
                    refine ent_seq ?_
                    refine ent_region ?_
                    refine ent_value (ov_move rfl) rfl rfl rfl ?_
                    obtain ⟨x7, h5, H3⟩ := Option.bind_eq_some_iff.1 H3
                    refine ent_pick [1, 2, 0, 3, 4] (by decide) rfl ?_
                    refine ent_op (ot_call (Lr := [A0, (box b4 56 [sv5]), A2]) (first := []) (cap := []) (xs := [.tmp 49]) rfl rfl F_call_36 rfl (pile_Pile__ossuaryref07_Item_Pop_2.spec K b1 sv3 l3 i3 _ h5) rfl) rfl rfl rfl ?_
                    rintro _ _ ⟨_, ⟨sv10, rfl, rfl⟩, rfl⟩
                    refine ent_value (ov_move rfl) rfl rfl rfl ?_
                    refine ent_value (ov_extract rfl rfl) rfl rfl rfl ?_
                    refine ent_value (ov_extract rfl rfl) rfl rfl rfl ?_
                    refine ent_op (ot_alloc F_zero_51) rfl rfl rfl ?_
                    rintro _ _ ⟨b5, rfl, rfl⟩
                    refine ent_op0 (ot_storeG (cs := [(Value.int .i64 0), (str ([] : List UInt8))]) (cs' := [(Value.int .i64 x7.2.2.1), (str x7.2.2.2)]) (us := [(Value.int .i64 x7.2.2.1), (str x7.2.2.2)]) (L' := [(box b5 51 [(Value.int .i64 x7.2.2.1), (str x7.2.2.2)]), (box b1 98 [(Value.func (.func 33) #[] #[]), sv10, (Value.int .i64 i3)]), (own sv10 100 3 x7.2.1.length (fl enc_Pile_item__ossuaryref07_Item x7.2.1)), A0, (box b4 56 [sv5]), A2]) 0 rfl rfl rfl (one_all rfl) F_size_51 rfl rfl (by simp) rfl) rfl rfl ?_
                    rintro _ _ rfl
                    refine ent_value (ov_assign rfl) rfl rfl rfl ?_
                    refine ent_nil ?_
                    refine ent_seq ?_
                    refine ent_region ?_
                    refine ent_value (ov_move rfl) rfl rfl rfl ?_
                    obtain ⟨x8, h6, H3⟩ := Option.bind_eq_some_iff.1 H3
                    refine ent_pick [4, 5, 0, 1, 2, 3] (by decide) rfl ?_
                    refine ent_op (ot_call (Lr := [(box b5 51 [(Value.int .i64 x7.2.2.1), (str x7.2.2.2)]), (box b1 98 [(Value.func (.func 33) #[] #[]), sv10, (Value.int .i64 i3)]), (own sv10 100 3 x7.2.1.length (fl enc_Pile_item__ossuaryref07_Item x7.2.1)), A0]) (first := []) (cap := []) (xs := [.tmp 54]) rfl rfl F_call_37 rfl (ossuaryref07_Pile_Pop_3.spec b4 sv5 A2 l5 hr2 _ h6) rfl) rfl rfl rfl ?_
                    rintro _ _ ⟨_, ⟨sv11, hr4, rfl, rfl⟩, rfl⟩
                    refine ent_value (ov_move rfl) rfl rfl rfl ?_
                    refine ent_value (ov_extract rfl rfl) rfl rfl rfl ?_
                    refine ent_value (ov_extract rfl rfl) rfl rfl rfl ?_
                    refine ent_op (ot_alloc F_zero_51) rfl rfl rfl ?_
                    rintro _ _ ⟨b6, rfl, rfl⟩
                    refine ent_op0 (ot_storeG (cs := [(Value.int .i64 0), (str ([] : List UInt8))]) (cs' := [(Value.int .i64 x8.1), (str x8.2.1)]) (us := [(Value.int .i64 x8.1), (str x8.2.1)]) (L' := [(box b6 51 [(Value.int .i64 x8.1), (str x8.2.1)]), (box b4 56 [sv11]), A2, (box b5 51 [(Value.int .i64 x7.2.2.1), (str x7.2.2.2)]), (box b1 98 [(Value.func (.func 33) #[] #[]), sv10, (Value.int .i64 i3)]), (own sv10 100 3 x7.2.1.length (fl enc_Pile_item__ossuaryref07_Item x7.2.1)), A0]) 0 rfl rfl rfl (one_all rfl) F_size_51 rfl rfl (by simp) rfl) rfl rfl ?_
                    rintro _ _ rfl
                    refine ent_value (ov_assign rfl) rfl rfl rfl ?_
                    refine ent_nil ?_
                    refine ent_seq ?_
                    refine ent_region ?_
                    refine ent_value (ov_load_agg (vs := [(Value.int .i64 x7.2.2.1), (str x7.2.2.2)]) rfl F_agg_51 F_size_51 (reads_boxW (i := 3) rfl)) rfl rfl rfl ?_
                    refine ent_value (ov_load_agg (vs := [(Value.int .i64 x8.1), (str x8.2.1)]) rfl F_agg_51 F_size_51 (reads_boxW (i := 0) rfl)) rfl rfl rfl ?_
                    refine ent_value (ov_bin rfl rfl (same_51_n _ _ _ _)) rfl rfl rfl ?_
                    refine ent_value (ov_move rfl) rfl rfl rfl ?_
                    by_cases c6 : (!((x7.2.2.1 == x8.1) && ((x7.2.2.2 == x8.2.1) && true))) = true
                    · rw [if_pos c6] at H3
                      refine ent_off rfl rfl rfl c6 rfl rfl ?_
                      refine ent_off rfl rfl rfl c6 rfl rfl ?_
                      refine ent_off rfl rfl rfl c6 rfl rfl ?_
                      refine ent_value (ov_pick rfl rfl rfl (pick_t c6)) rfl rfl rfl ?_
                      refine ent_nil ?_
                      refine ent_cond_true rfl rfl ?_
                      refine ent_seq ?_
                      refine ent_region ?_
                      refine ent_value (ov_assign rfl) rfl rfl rfl ?_
                      refine ent_nil ?_
                      refine ent_retc ?_
                      cases H3
                      have H4 := Option.some.inj (show some _ = some _ from H2)
                      cases H4
                      have H5 := Option.some.inj (show some _ = some _ from H)
                      cases H5
                      refine ent_pick [6] (by decide) rfl ?_
                      exact ret_tmp rfl rfl ⟨rfl, rfl⟩
                    · rw [if_neg c6] at H3
                      refine ent_value_on (ov_move rfl) rfl rfl rfl (Bool.eq_false_iff.2 c6) rfl rfl ?_
                      refine ent_value_on (ov_move rfl) rfl rfl rfl (Bool.eq_false_iff.2 c6) rfl rfl ?_
                      refine ent_value_on (ov_bin rfl rfl (b_neq_bool Try.underlying4 _ _)) rfl rfl rfl (Bool.eq_false_iff.2 c6) rfl rfl ?_
                      refine ent_value (ov_pick rfl rfl rfl (pick_f (Bool.eq_false_iff.2 c6))) rfl rfl rfl ?_
                      refine ent_nil ?_
                      by_cases c7 : (x7.1 != x8.2.2.1) = true
                      · rw [if_pos c7] at H3
                        refine ent_cond_true rfl c7 ?_
                        refine ent_seq ?_
                        refine ent_region ?_
                        refine ent_value (ov_assign rfl) rfl rfl rfl ?_
                        refine ent_nil ?_
                        refine ent_retc ?_
                        cases H3
                        have H6 := Option.some.inj (show some _ = some _ from H2)
                        cases H6
                        have H7 := Option.some.inj (show some _ = some _ from H)
                        cases H7
                        refine ent_pick [6] (by decide) rfl ?_
                        exact ret_tmp rfl rfl ⟨rfl, rfl⟩
                      · rw [if_neg c7] at H3
                        refine ent_cond_false rfl (Bool.eq_false_iff.2 c7) ?_
                        refine ent_skip ?_
                        cases H3
                        exact ent_fin [6, 4, 5, 1, 2] (by decide) rfl (sub_cons (t := 0) rfl (sub_cons (t := 3) rfl (sub_cons (t := 4) rfl (sub_cons (t := 5) rfl (sub_nil _))))) fun a w h => ⟨_, rfl, _, _, _, hr4, h⟩
                  · rw [if_neg c5] at H3
                    refine ent_cond_false rfl (eq_f c5) ?_
                    refine ent_skip ?_
                    cases H3
                    exact ent_fin [0, 1, 2, 3, 4] (by decide) rfl (sub_cons (t := 0) rfl (sub_cons (t := 3) rfl (sub_cons (t := 4) rfl (sub_cons (t := 5) rfl (sub_nil _))))) fun a w h => ⟨_, rfl, _, _, _, hr2, h⟩
              · rw [if_neg c3] at H3
                cases H3
            · refine ent_exi fun v2 => ent_and fun e_ => ?_
              subst e_
              replace H2 := show _ = _ from H2
              refine ent_exi fun sv6 => ent_exi fun A3 => ent_exi fun sv7 => ent_and fun hr3 => ?_
              refine ent_seq ?_
              refine ent_region ?_
              refine ent_value (ov_move rfl) rfl rfl rfl ?_
              obtain ⟨x9, h7, H2⟩ := Option.bind_eq_some_iff.1 H2
              refine ent_op (ot_call_same (Lr := [A0, (box b4 56 [sv7]), A3]) [1, 2, 0, 3, 4] [2, 0, 1, 3, 4] (first := []) (cap := []) (xs := [.tmp 67]) rfl rfl F_call_38 rfl (pile_Pile__ossuaryref07_Item_Top_2.spec b1 sv6 v2.1 v2.2.1 _ h7) (by decide) rfl (by decide) rfl) rfl rfl rfl ?_
              rintro _ _ ⟨rfl, rfl⟩
              refine ent_value (ov_move rfl) rfl rfl rfl ?_
              refine ent_value (ov_extract rfl rfl) rfl rfl rfl ?_
              refine ent_value (ov_extract rfl rfl) rfl rfl rfl ?_
              refine ent_op (ot_alloc F_zero_51) rfl rfl rfl ?_
              rintro _ _ ⟨b7, rfl, rfl⟩
              refine ent_op0 (ot_storeG (cs := [(Value.int .i64 0), (str ([] : List UInt8))]) (cs' := [(Value.int .i64 x9.1), (str x9.2.1)]) (us := [(Value.int .i64 x9.1), (str x9.2.1)]) (L' := [(box b7 51 [(Value.int .i64 x9.1), (str x9.2.1)]), A0, (box b1 98 [(Value.func (.func 33) #[] #[]), sv6, (Value.int .i64 v2.2.1)]), (own sv6 100 3 v2.1.length (fl enc_Pile_item__ossuaryref07_Item v2.1)), (box b4 56 [sv7]), A3]) 0 rfl rfl rfl (one_all rfl) F_size_51 rfl rfl (by simp) rfl) rfl rfl ?_
              rintro _ _ rfl
              refine ent_value (ov_assign rfl) rfl rfl rfl ?_
              refine ent_nil ?_
              refine ent_seq ?_
              by_cases c8 : (x9.2.2 != (decide (0 < (v2.2.2.length : Int)))) = true
              · rw [if_pos c8] at H2
                refine ent_drawm 31 rfl (fun done a w => StD 122 w0 F [(0, sv0), (3, (pt b1 0)), (4, (pt b4 0)), (5, (Value.int .i64 i2)), (10, (pt b7 0)), (11, (Value.bool x9.2.2)), (66, (Value.tuple #[(Value.agg #[(Value.int .i64 x9.1), (str x9.2.1)]), (Value.bool x9.2.2)])), (67, (pt b1 0)), (68, (Value.tuple #[(Value.agg #[(Value.int .i64 x9.1), (str x9.2.1)]), (Value.bool x9.2.2)])), (69, (Value.agg #[(Value.int .i64 x9.1), (str x9.2.1)])), (70, (Value.bool x9.2.2))] [(0, 71, (Value.bool x9.2.2)), (1, 72, (pt b4 0)), (2, 73, (pt b4 0)), (3, 74, (pt b4 0)), (4, 75, sv7), (5, 76, (Value.int .i64 (v2.2.2.length : Int))), (6, 77, (Value.bool (decide (0 < (v2.2.2.length : Int))))), (7, 78, (Value.bool (x9.2.2 != (decide (0 < (v2.2.2.length : Int)))))), (8, 79, (Value.bool (x9.2.2 != (decide (0 < (v2.2.2.length : Int)))))), (9, 80, undef), (10, 81, undef), (11, 82, undef), (12, 83, undef), (13, 84, undef), (14, 85, undef), (15, 86, undef), (16, 87, undef), (17, 88, undef), (18, 89, undef), (19, 90, undef), (20, 91, (Value.bool true)), (21, 92, (Value.bool true)), (22, 93, undef), (23, 94, undef), (24, 95, undef), (25, 96, undef), (26, 97, undef), (27, 98, undef), (28, 99, undef), (29, 100, undef), (30, 101, (Value.bool true))] done [(box b7 51 [(Value.int .i64 x9.1), (str x9.2.1)]), A0, (box b1 98 [(Value.func (.func 33) #[] #[]), sv6, (Value.int .i64 v2.2.1)]), (own sv6 100 3 v2.1.length (fl enc_Pile_item__ossuaryref07_Item v2.1)), (box b4 56 [sv7]), A3] a w) (by kernel_rfl) (by kernel_rfl) (draw_startL (sub_cons (t := 0) rfl (sub_cons (t := 3) rfl (sub_cons (t := 4) rfl (sub_cons (t := 5) rfl (sub_cons (t := 10) rfl (sub_cons (t := 11) rfl (sub_cons (t := 66) rfl (sub_cons (t := 67) rfl (sub_cons (t := 68) rfl (sub_cons (t := 69) rfl (sub_cons (t := 70) rfl (sub_nil _)))))))))))) rfl) ?_ ?_
                · refine ⟨?_, ?_, ?_, ?_, ?_, ?_, ?_, ?_, ?_, ?_, ?_, ?_, ?_, ?_, ?_, ?_, ?_, ?_, ?_, ?_, ?_, ?_, ?_, ?_, ?_, ?_, ?_, ?_, ?_, ?_, ?_, trivial⟩
                  · intro done hi hc hcu
                    exact draw_value (i := 0) (t := 71) (v := (Value.bool x9.2.2)) rfl rfl (wanted_none rfl) (fun a => hasA_base) (ov_move rfl) rfl rfl (onlyT_spec (k0 := 0) rfl rfl rfl)
                  · intro done hi hc hcu
                    exact draw_value (i := 1) (t := 72) (v := (pt b4 0)) rfl rfl (wanted_none rfl) (fun a => hasA_base) (ov_move rfl) rfl rfl (onlyT_spec (k0 := 1) rfl rfl rfl)
                  · intro done hi hc hcu
                    have d1 : done 1 = true := done_of (j := 1) hcu rfl (by decide) rfl
                    exact draw_value (i := 2) (t := 73) (v := (pt b4 0)) rfl rfl (wanted_none rfl) (fun a => (hasA_cons (k := 1) rfl d1 hasA_base)) (ov_nilCheck rfl) rfl rfl (onlyT_spec (k0 := 2) rfl rfl rfl)
                  · intro done hi hc hcu
                    have d2 : done 2 = true := done_of (j := 2) hcu rfl (by decide) rfl
                    exact draw_value (i := 3) (t := 74) (v := (pt b4 0)) rfl rfl (wanted_none rfl) (fun a => (hasA_cons (k := 2) rfl d2 hasA_base)) (ov_fieldAddr (sz := 0) (o := 0) rfl F_field_56_0 F_size_54) rfl rfl (onlyT_spec (k0 := 3) rfl rfl rfl)
                  · intro done hi hc hcu
                    have d3 : done 3 = true := done_of (j := 3) hcu rfl (by decide) rfl
                    exact draw_value (i := 4) (t := 75) (v := sv7) rfl rfl (wanted_none rfl) (fun a => (hasA_cons (k := 3) rfl d3 hasA_base)) (ov_load (v := sv7) rfl F_agg_54 (reads_box1 (i := 4) rfl rfl)) rfl rfl (onlyT_spec (k0 := 4) rfl rfl rfl)
                  · intro done hi hc hcu
                    have d4 : done 4 = true := done_of (j := 4) hcu rfl (by decide) rfl
                    exact draw_value (i := 5) (t := 76) (v := (Value.int .i64 (v2.2.2.length : Int))) rfl rfl (wanted_none rfl) (fun a => (hasA_cons (k := 4) rfl d4 hasA_base)) (ov_len 5 rfl F_slice_54 rfl hr3) rfl rfl (onlyT_spec (k0 := 5) rfl rfl rfl)
                  · intro done hi hc hcu
                    have d5 : done 5 = true := done_of (j := 5) hcu rfl (by decide) rfl
                    exact draw_value (i := 6) (t := 77) (v := (Value.bool (decide (0 < (v2.2.2.length : Int))))) rfl rfl (wanted_none rfl) (fun a => (hasA_cons (k := 5) rfl d5 hasA_base)) (ov_bin rfl rfl (b_gtr _ _ _)) rfl rfl (onlyT_spec (k0 := 6) rfl rfl rfl)
                  · intro done hi hc hcu
                    have d0 : done 0 = true := done_of (j := 0) hcu rfl (by decide) rfl
                    have d6 : done 6 = true := done_of (j := 6) hcu rfl (by decide) rfl
                    exact draw_value (i := 7) (t := 78) (v := (Value.bool (x9.2.2 != (decide (0 < (v2.2.2.length : Int)))))) rfl rfl (wanted_none rfl) (fun a => (hasA_cons (k := 6) rfl d6 (hasA_cons (k := 0) rfl d0 hasA_base))) (ov_bin rfl rfl (b_neq_bool Try.underlying4 _ _)) rfl rfl (onlyT_spec (k0 := 7) rfl rfl rfl)
                  · intro done hi hc hcu
                    have d7 : done 7 = true := done_of (j := 7) hcu rfl (by decide) rfl
                    exact draw_value (i := 8) (t := 79) (v := (Value.bool (x9.2.2 != (decide (0 < (v2.2.2.length : Int)))))) rfl rfl (wanted_none rfl) (fun a => (hasA_cons (k := 7) rfl d7 hasA_base)) (ov_move rfl) rfl rfl (onlyT_spec (k0 := 8) rfl rfl rfl)
                  · intro done hi hc hcu
                    have d8 : done 8 = true := done_of (j := 8) hcu rfl (by decide) rfl
                    exact draw_off (i := 9) (t := 80) rfl rfl (wanted_off rfl rfl rfl c8) (fun a => (hasA_cons (k := 8) rfl d8 hasA_base)) rfl rfl (onlyT_spec (k0 := 9) rfl rfl rfl)
                  · intro done hi hc hcu
                    have d8 : done 8 = true := done_of (j := 8) hcu rfl (by decide) rfl
                    exact draw_off (i := 10) (t := 81) rfl rfl (wanted_off rfl rfl rfl c8) (fun a => (hasA_cons (k := 8) rfl d8 hasA_base)) rfl rfl (onlyT_spec (k0 := 10) rfl rfl rfl)
                  · intro done hi hc hcu
                    have d10 : done 10 = true := done_of (j := 10) hcu rfl (by decide) rfl
                    exact draw_off (i := 11) (t := 82) rfl rfl (wanted_offu rfl rfl rfl) (fun a => (hasA_cons (k := 10) rfl d10 hasA_base)) rfl rfl (onlyT_spec (k0 := 11) rfl rfl rfl)
                  · intro done hi hc hcu
                    have d10 : done 10 = true := done_of (j := 10) hcu rfl (by decide) rfl
                    exact draw_off (i := 12) (t := 83) rfl rfl (wanted_offu rfl rfl rfl) (fun a => (hasA_cons (k := 10) rfl d10 hasA_base)) rfl rfl (onlyT_spec (k0 := 12) rfl rfl rfl)
                  · intro done hi hc hcu
                    have d10 : done 10 = true := done_of (j := 10) hcu rfl (by decide) rfl
                    exact draw_off (i := 13) (t := 84) rfl rfl (wanted_offu rfl rfl rfl) (fun a => (hasA_cons (k := 10) rfl d10 hasA_base)) rfl rfl (onlyT_spec (k0 := 13) rfl rfl rfl)
                  · intro done hi hc hcu
                    have d10 : done 10 = true := done_of (j := 10) hcu rfl (by decide) rfl
                    exact draw_off (i := 14) (t := 85) rfl rfl (wanted_offu rfl rfl rfl) (fun a => (hasA_cons (k := 10) rfl d10 hasA_base)) rfl rfl (onlyT_spec (k0 := 14) rfl rfl rfl)
                  · intro done hi hc hcu
                    have d10 : done 10 = true := done_of (j := 10) hcu rfl (by decide) rfl
                    exact draw_off (i := 15) (t := 86) rfl rfl (wanted_offu rfl rfl rfl) (fun a => (hasA_cons (k := 10) rfl d10 hasA_base)) rfl rfl (onlyT_spec (k0 := 15) rfl rfl rfl)
                  · intro done hi hc hcu
                    have d10 : done 10 = true := done_of (j := 10) hcu rfl (by decide) rfl
                    exact draw_off (i := 16) (t := 87) rfl rfl (wanted_offu rfl rfl rfl) (fun a => (hasA_cons (k := 10) rfl d10 hasA_base)) rfl rfl (onlyT_spec (k0 := 16) rfl rfl rfl)
                  · intro done hi hc hcu
                    have d10 : done 10 = true := done_of (j := 10) hcu rfl (by decide) rfl
                    exact draw_off (i := 17) (t := 88) rfl rfl (wanted_offu rfl rfl rfl) (fun a => (hasA_cons (k := 10) rfl d10 hasA_base)) rfl rfl (onlyT_spec (k0 := 17) rfl rfl rfl)
                  · intro done hi hc hcu
                    have d10 : done 10 = true := done_of (j := 10) hcu rfl (by decide) rfl
                    exact draw_off (i := 18) (t := 89) rfl rfl (wanted_offu rfl rfl rfl) (fun a => (hasA_cons (k := 10) rfl d10 hasA_base)) rfl rfl (onlyT_spec (k0 := 18) rfl rfl rfl)
                  · intro done hi hc hcu
                    have d8 : done 8 = true := done_of (j := 8) hcu rfl (by decide) rfl
                    exact draw_off (i := 19) (t := 90) rfl rfl (wanted_off rfl rfl rfl c8) (fun a => (hasA_cons (k := 8) rfl d8 hasA_base)) rfl rfl (onlyT_spec (k0 := 19) rfl rfl rfl)
                  · intro done hi hc hcu
                    have d8 : done 8 = true := done_of (j := 8) hcu rfl (by decide) rfl
                    have d19 : done 19 = true := done_of (j := 19) hcu rfl (by decide) rfl
                    exact draw_value (i := 20) (t := 91) (v := (Value.bool true)) rfl rfl (wanted_none rfl) (fun a => (hasA_cons (k := 19) rfl d19 (hasA_cons (k := 8) rfl d8 hasA_base))) (ov_pick rfl rfl rfl (pick_t c8)) rfl rfl (onlyT_spec (k0 := 20) rfl rfl rfl)
                  · intro done hi hc hcu
                    have d20 : done 20 = true := done_of (j := 20) hcu rfl (by decide) rfl
                    exact draw_value (i := 21) (t := 92) (v := (Value.bool true)) rfl rfl (wanted_none rfl) (fun a => (hasA_cons (k := 20) rfl d20 hasA_base)) (ov_move rfl) rfl rfl (onlyT_spec (k0 := 21) rfl rfl rfl)
                  · intro done hi hc hcu
                    have d21 : done 21 = true := done_of (j := 21) hcu rfl (by decide) rfl
                    exact draw_off (i := 22) (t := 93) rfl rfl (wanted_off rfl rfl rfl rfl) (fun a => (hasA_cons (k := 21) rfl d21 hasA_base)) rfl rfl (onlyT_spec (k0 := 22) rfl rfl rfl)
                  · intro done hi hc hcu
                    have d21 : done 21 = true := done_of (j := 21) hcu rfl (by decide) rfl
                    exact draw_off (i := 23) (t := 94) rfl rfl (wanted_off rfl rfl rfl rfl) (fun a => (hasA_cons (k := 21) rfl d21 hasA_base)) rfl rfl (onlyT_spec (k0 := 23) rfl rfl rfl)
                  · intro done hi hc hcu
                    have d21 : done 21 = true := done_of (j := 21) hcu rfl (by decide) rfl
                    exact draw_off (i := 24) (t := 95) rfl rfl (wanted_off rfl rfl rfl rfl) (fun a => (hasA_cons (k := 21) rfl d21 hasA_base)) rfl rfl (onlyT_spec (k0 := 24) rfl rfl rfl)
                  · intro done hi hc hcu
                    have d21 : done 21 = true := done_of (j := 21) hcu rfl (by decide) rfl
                    exact draw_off (i := 25) (t := 96) rfl rfl (wanted_off rfl rfl rfl rfl) (fun a => (hasA_cons (k := 21) rfl d21 hasA_base)) rfl rfl (onlyT_spec (k0 := 25) rfl rfl rfl)
                  · intro done hi hc hcu
                    have d21 : done 21 = true := done_of (j := 21) hcu rfl (by decide) rfl
                    exact draw_off (i := 26) (t := 97) rfl rfl (wanted_off rfl rfl rfl rfl) (fun a => (hasA_cons (k := 21) rfl d21 hasA_base)) rfl rfl (onlyT_spec (k0 := 26) rfl rfl rfl)
                  · intro done hi hc hcu
                    have d21 : done 21 = true := done_of (j := 21) hcu rfl (by decide) rfl
                    exact draw_off (i := 27) (t := 98) rfl rfl (wanted_off rfl rfl rfl rfl) (fun a => (hasA_cons (k := 21) rfl d21 hasA_base)) rfl rfl (onlyT_spec (k0 := 27) rfl rfl rfl)
                  · intro done hi hc hcu
                    have d21 : done 21 = true := done_of (j := 21) hcu rfl (by decide) rfl
                    exact draw_off (i := 28) (t := 99) rfl rfl (wanted_off rfl rfl rfl rfl) (fun a => (hasA_cons (k := 21) rfl d21 hasA_base)) rfl rfl (onlyT_spec (k0 := 28) rfl rfl rfl)
                  · intro done hi hc hcu
                    have d21 : done 21 = true := done_of (j := 21) hcu rfl (by decide) rfl
                    exact draw_off (i := 29) (t := 100) rfl rfl (wanted_off rfl rfl rfl rfl) (fun a => (hasA_cons (k := 21) rfl d21 hasA_base)) rfl rfl (onlyT_spec (k0 := 29) rfl rfl rfl)
                  · intro done hi hc hcu
                    have d21 : done 21 = true := done_of (j := 21) hcu rfl (by decide) rfl
                    have d29 : done 29 = true := done_of (j := 29) hcu rfl (by decide) rfl
                    exact draw_value (i := 30) (t := 101) (v := (Value.bool true)) rfl rfl (wanted_none rfl) (fun a => (hasA_cons (k := 29) rfl d29 (hasA_cons (k := 21) rfl d21 hasA_base))) (ov_pick rfl rfl rfl rfl) rfl rfl (onlyT_spec (k0 := 30) rfl rfl rfl)
                · intro done hall
                  refine draw_endL [(box b7 51 [(Value.int .i64 x9.1), (str x9.2.1)]), A0, (box b1 98 [(Value.func (.func 33) #[] #[]), sv6, (Value.int .i64 v2.2.1)]), (own sv6 100 3 v2.1.length (fl enc_Pile_item__ossuaryref07_Item v2.1)), (box b4 56 [sv7]), A3] rfl (fun a => (hasA_cons (k := 0) rfl (hall 0 (by decide)) (hasA_cons (k := 1) rfl (hall 1 (by decide)) (hasA_cons (k := 2) rfl (hall 2 (by decide)) (hasA_cons (k := 3) rfl (hall 3 (by decide)) (hasA_cons (k := 4) rfl (hall 4 (by decide)) (hasA_cons (k := 5) rfl (hall 5 (by decide)) (hasA_cons (k := 6) rfl (hall 6 (by decide)) (hasA_cons (k := 7) rfl (hall 7 (by decide)) (hasA_cons (k := 8) rfl (hall 8 (by decide)) (hasA_cons (k := 9) rfl (hall 9 (by decide)) (hasA_cons (k := 10) rfl (hall 10 (by decide)) (hasA_cons (k := 11) rfl (hall 11 (by decide)) (hasA_cons (k := 12) rfl (hall 12 (by decide)) (hasA_cons (k := 13) rfl (hall 13 (by decide)) (hasA_cons (k := 14) rfl (hall 14 (by decide)) (hasA_cons (k := 15) rfl (hall 15 (by decide)) (hasA_cons (k := 16) rfl (hall 16 (by decide)) (hasA_cons (k := 17) rfl (hall 17 (by decide)) (hasA_cons (k := 18) rfl (hall 18 (by decide)) (hasA_cons (k := 19) rfl (hall 19 (by decide)) (hasA_cons (k := 20) rfl (hall 20 (by decide)) (hasA_cons (k := 21) rfl (hall 21 (by decide)) (hasA_cons (k := 22) rfl (hall 22 (by decide)) (hasA_cons (k := 23) rfl (hall 23 (by decide)) (hasA_cons (k := 24) rfl (hall 24 (by decide)) (hasA_cons (k := 25) rfl (hall 25 (by decide)) (hasA_cons (k := 26) rfl (hall 26 (by decide)) (hasA_cons (k := 27) rfl (hall 27 (by decide)) (hasA_cons (k := 28) rfl (hall 28 (by decide)) (hasA_cons (k := 29) rfl (hall 29 (by decide)) (hasA_cons (k := 30) rfl (hall 30 (by decide)) hasA_base)))))))))))))))))))))))))))))))) ?_
                  refine ent_cond_true rfl rfl ?_
                  refine ent_seq ?_
                  refine ent_region ?_
                  refine ent_value (ov_assign rfl) rfl rfl rfl ?_
                  refine ent_nil ?_
                  refine ent_retc ?_
                  cases H2
                  have H8 := Option.some.inj (show some _ = some _ from H)
                  cases H8
                  refine ent_pick [1] (by decide) rfl ?_
                  exact ret_tmp rfl rfl ⟨rfl, rfl⟩
              · rw [if_neg c8] at H2
                by_cases c9 : x9.2.2 = true
                · rw [if_pos c9] at H2
                  by_cases c10 : 0 < (v2.2.2.length : Int)
                  · rw [if_pos c10] at H2
                    by_cases c11 : (!((x9.1 == ((v2.2.2.getD ((0 : Int).toNat) z_Ossuaryref07_Item).Weight)) && ((x9.2.1 == ((v2.2.2.getD ((0 : Int).toNat) z_Ossuaryref07_Item).Name)) && true))) = true
                    · rw [if_pos c11] at H2
                      refine ent_drawm 31 rfl (fun done a w => StD 122 w0 F [(0, sv0), (3, (pt b1 0)), (4, (pt b4 0)), (5, (Value.int .i64 i2)), (10, (pt b7 0)), (11, (Value.bool x9.2.2)), (66, (Value.tuple #[(Value.agg #[(Value.int .i64 x9.1), (str x9.2.1)]), (Value.bool x9.2.2)])), (67, (pt b1 0)), (68, (Value.tuple #[(Value.agg #[(Value.int .i64 x9.1), (str x9.2.1)]), (Value.bool x9.2.2)])), (69, (Value.agg #[(Value.int .i64 x9.1), (str x9.2.1)])), (70, (Value.bool x9.2.2))] [(0, 71, (Value.bool x9.2.2)), (1, 72, (pt b4 0)), (2, 73, (pt b4 0)), (3, 74, (pt b4 0)), (4, 75, sv7), (5, 76, (Value.int .i64 (v2.2.2.length : Int))), (6, 77, (Value.bool (decide (0 < (v2.2.2.length : Int))))), (7, 78, (Value.bool (x9.2.2 != (decide (0 < (v2.2.2.length : Int)))))), (8, 79, (Value.bool (x9.2.2 != (decide (0 < (v2.2.2.length : Int)))))), (9, 80, (Value.bool x9.2.2)), (10, 81, (Value.bool x9.2.2)), (11, 82, (Value.agg #[(Value.int .i64 x9.1), (str x9.2.1)])), (12, 83, (pt b4 0)), (13, 84, (pt b4 0)), (14, 85, (pt b4 0)), (15, 86, sv7), (16, 87, (eptr sv7 (((0 : Int).toNat) * 2))), (17, 88, (Value.agg #[(Value.int .i64 ((v2.2.2.getD ((0 : Int).toNat) z_Ossuaryref07_Item).Weight)), (str ((v2.2.2.getD ((0 : Int).toNat) z_Ossuaryref07_Item).Name))])), (18, 89, (Value.bool (!((x9.1 == ((v2.2.2.getD ((0 : Int).toNat) z_Ossuaryref07_Item).Weight)) && ((x9.2.1 == ((v2.2.2.getD ((0 : Int).toNat) z_Ossuaryref07_Item).Name)) && true))))), (19, 90, (Value.bool (!((x9.1 == ((v2.2.2.getD ((0 : Int).toNat) z_Ossuaryref07_Item).Weight)) && ((x9.2.1 == ((v2.2.2.getD ((0 : Int).toNat) z_Ossuaryref07_Item).Name)) && true))))), (20, 91, (Value.bool (!((x9.1 == ((v2.2.2.getD ((0 : Int).toNat) z_Ossuaryref07_Item).Weight)) && ((x9.2.1 == ((v2.2.2.getD ((0 : Int).toNat) z_Ossuaryref07_Item).Name)) && true))))), (21, 92, (Value.bool (!((x9.1 == ((v2.2.2.getD ((0 : Int).toNat) z_Ossuaryref07_Item).Weight)) && ((x9.2.1 == ((v2.2.2.getD ((0 : Int).toNat) z_Ossuaryref07_Item).Name)) && true))))), (22, 93, undef), (23, 94, undef), (24, 95, undef), (25, 96, undef), (26, 97, undef), (27, 98, undef), (28, 99, undef), (29, 100, undef), (30, 101, (Value.bool true))] done [(box b7 51 [(Value.int .i64 x9.1), (str x9.2.1)]), A0, (box b1 98 [(Value.func (.func 33) #[] #[]), sv6, (Value.int .i64 v2.2.1)]), (own sv6 100 3 v2.1.length (fl enc_Pile_item__ossuaryref07_Item v2.1)), (box b4 56 [sv7]), A3] a w) (by kernel_rfl) (by kernel_rfl) (draw_startL (sub_cons (t := 0) rfl (sub_cons (t := 3) rfl (sub_cons (t := 4) rfl (sub_cons (t := 5) rfl (sub_cons (t := 10) rfl (sub_cons (t := 11) rfl (sub_cons (t := 66) rfl (sub_cons (t := 67) rfl (sub_cons (t := 68) rfl (sub_cons (t := 69) rfl (sub_cons (t := 70) rfl (sub_nil _)))))))))))) rfl) ?_ ?_
                      · refine ⟨?_, ?_, ?_, ?_, ?_, ?_, ?_, ?_, ?_, ?_, ?_, ?_, ?_, ?_, ?_, ?_, ?_, ?_, ?_, ?_, ?_, ?_, ?_, ?_, ?_, ?_, ?_, ?_, ?_, ?_, ?_, trivial⟩
                        · intro done hi hc hcu
                          exact draw_value (i := 0) (t := 71) (v := (Value.bool x9.2.2)) rfl rfl (wanted_none rfl) (fun a => hasA_base) (ov_move rfl) rfl rfl (onlyT_spec (k0 := 0) rfl rfl rfl)
                        · intro done hi hc hcu
                          exact draw_value (i := 1) (t := 72) (v := (pt b4 0)) rfl rfl (wanted_none rfl) (fun a => hasA_base) (ov_move rfl) rfl rfl (onlyT_spec (k0 := 1) rfl rfl rfl)
                        · intro done hi hc hcu
                          have d1 : done 1 = true := done_of (j := 1) hcu rfl (by decide) rfl
                          exact draw_value (i := 2) (t := 73) (v := (pt b4 0)) rfl rfl (wanted_none rfl) (fun a => (hasA_cons (k := 1) rfl d1 hasA_base)) (ov_nilCheck rfl) rfl rfl (onlyT_spec (k0 := 2) rfl rfl rfl)
                        · intro done hi hc hcu
                          have d2 : done 2 = true := done_of (j := 2) hcu rfl (by decide) rfl
                          exact draw_value (i := 3) (t := 74) (v := (pt b4 0)) rfl rfl (wanted_none rfl) (fun a => (hasA_cons (k := 2) rfl d2 hasA_base)) (ov_fieldAddr (sz := 0) (o := 0) rfl F_field_56_0 F_size_54) rfl rfl (onlyT_spec (k0 := 3) rfl rfl rfl)
                        · intro done hi hc hcu
                          have d3 : done 3 = true := done_of (j := 3) hcu rfl (by decide) rfl
                          exact draw_value (i := 4) (t := 75) (v := sv7) rfl rfl (wanted_none rfl) (fun a => (hasA_cons (k := 3) rfl d3 hasA_base)) (ov_load (v := sv7) rfl F_agg_54 (reads_box1 (i := 4) rfl rfl)) rfl rfl (onlyT_spec (k0 := 4) rfl rfl rfl)
                        · intro done hi hc hcu
                          have d4 : done 4 = true := done_of (j := 4) hcu rfl (by decide) rfl
                          exact draw_value (i := 5) (t := 76) (v := (Value.int .i64 (v2.2.2.length : Int))) rfl rfl (wanted_none rfl) (fun a => (hasA_cons (k := 4) rfl d4 hasA_base)) (ov_len 5 rfl F_slice_54 rfl hr3) rfl rfl (onlyT_spec (k0 := 5) rfl rfl rfl)
                        · intro done hi hc hcu
                          have d5 : done 5 = true := done_of (j := 5) hcu rfl (by decide) rfl
                          exact draw_value (i := 6) (t := 77) (v := (Value.bool (decide (0 < (v2.2.2.length : Int))))) rfl rfl (wanted_none rfl) (fun a => (hasA_cons (k := 5) rfl d5 hasA_base)) (ov_bin rfl rfl (b_gtr _ _ _)) rfl rfl (onlyT_spec (k0 := 6) rfl rfl rfl)
                        · intro done hi hc hcu
                          have d0 : done 0 = true := done_of (j := 0) hcu rfl (by decide) rfl
                          have d6 : done 6 = true := done_of (j := 6) hcu rfl (by decide) rfl
                          exact draw_value (i := 7) (t := 78) (v := (Value.bool (x9.2.2 != (decide (0 < (v2.2.2.length : Int)))))) rfl rfl (wanted_none rfl) (fun a => (hasA_cons (k := 6) rfl d6 (hasA_cons (k := 0) rfl d0 hasA_base))) (ov_bin rfl rfl (b_neq_bool Try.underlying4 _ _)) rfl rfl (onlyT_spec (k0 := 7) rfl rfl rfl)
                        · intro done hi hc hcu
                          have d7 : done 7 = true := done_of (j := 7) hcu rfl (by decide) rfl
                          exact draw_value (i := 8) (t := 79) (v := (Value.bool (x9.2.2 != (decide (0 < (v2.2.2.length : Int)))))) rfl rfl (wanted_none rfl) (fun a => (hasA_cons (k := 7) rfl d7 hasA_base)) (ov_move rfl) rfl rfl (onlyT_spec (k0 := 8) rfl rfl rfl)
                        · intro done hi hc hcu
                          have d8 : done 8 = true := done_of (j := 8) hcu rfl (by decide) rfl
                          exact draw_value (i := 9) (t := 80) (v := (Value.bool x9.2.2)) rfl rfl (wanted_on rfl rfl rfl (Bool.eq_false_iff.2 c8)) (fun a => (hasA_cons (k := 8) rfl d8 hasA_base)) (ov_move rfl) rfl rfl (onlyT_spec (k0 := 9) rfl rfl rfl)
                        · intro done hi hc hcu
                          have d9 : done 9 = true := done_of (j := 9) hcu rfl (by decide) rfl
                          have d8 : done 8 = true := done_of (j := 8) hcu rfl (by decide) rfl
                          exact draw_value (i := 10) (t := 81) (v := (Value.bool x9.2.2)) rfl rfl (wanted_on rfl rfl rfl (Bool.eq_false_iff.2 c8)) (fun a => (hasA_cons (k := 8) rfl d8 (hasA_cons (k := 9) rfl d9 hasA_base))) (ov_move rfl) rfl rfl (onlyT_spec (k0 := 10) rfl rfl rfl)
                        · intro done hi hc hcu
                          have d10 : done 10 = true := done_of (j := 10) hcu rfl (by decide) rfl
                          exact draw_value (i := 11) (t := 82) (v := (Value.agg #[(Value.int .i64 x9.1), (str x9.2.1)])) rfl rfl (wanted_on rfl rfl rfl c9) (fun a => (hasA_cons (k := 10) rfl d10 hasA_base)) (ov_load_agg (vs := [(Value.int .i64 x9.1), (str x9.2.1)]) rfl F_agg_51 F_size_51 (reads_boxW (i := 0) rfl)) rfl rfl (onlyT_spec (k0 := 11) rfl rfl rfl)
                        · intro done hi hc hcu
                          have d10 : done 10 = true := done_of (j := 10) hcu rfl (by decide) rfl
                          exact draw_value (i := 12) (t := 83) (v := (pt b4 0)) rfl rfl (wanted_on rfl rfl rfl c9) (fun a => (hasA_cons (k := 10) rfl d10 hasA_base)) (ov_move rfl) rfl rfl (onlyT_spec (k0 := 12) rfl rfl rfl)
                        · intro done hi hc hcu
                          have d12 : done 12 = true := done_of (j := 12) hcu rfl (by decide) rfl
                          have d10 : done 10 = true := done_of (j := 10) hcu rfl (by decide) rfl
                          exact draw_value (i := 13) (t := 84) (v := (pt b4 0)) rfl rfl (wanted_on rfl rfl rfl c9) (fun a => (hasA_cons (k := 10) rfl d10 (hasA_cons (k := 12) rfl d12 hasA_base))) (ov_nilCheck rfl) rfl rfl (onlyT_spec (k0 := 13) rfl rfl rfl)
                        · intro done hi hc hcu
                          have d13 : done 13 = true := done_of (j := 13) hcu rfl (by decide) rfl
                          have d10 : done 10 = true := done_of (j := 10) hcu rfl (by decide) rfl
                          exact draw_value (i := 14) (t := 85) (v := (pt b4 0)) rfl rfl (wanted_on rfl rfl rfl c9) (fun a => (hasA_cons (k := 10) rfl d10 (hasA_cons (k := 13) rfl d13 hasA_base))) (ov_fieldAddr (sz := 0) (o := 0) rfl F_field_56_0 F_size_54) rfl rfl (onlyT_spec (k0 := 14) rfl rfl rfl)
                        · intro done hi hc hcu
                          have d14 : done 14 = true := done_of (j := 14) hcu rfl (by decide) rfl
                          have d10 : done 10 = true := done_of (j := 10) hcu rfl (by decide) rfl
                          exact draw_value (i := 15) (t := 86) (v := sv7) rfl rfl (wanted_on rfl rfl rfl c9) (fun a => (hasA_cons (k := 10) rfl d10 (hasA_cons (k := 14) rfl d14 hasA_base))) (ov_load (v := sv7) rfl F_agg_54 (reads_box1 (i := 4) rfl rfl)) rfl rfl (onlyT_spec (k0 := 15) rfl rfl rfl)
                        · intro done hi hc hcu
                          have d15 : done 15 = true := done_of (j := 15) hcu rfl (by decide) rfl
                          have d10 : done 10 = true := done_of (j := 10) hcu rfl (by decide) rfl
                          exact draw_value (i := 16) (t := 87) (v := (eptr sv7 (((0 : Int).toNat) * 2))) rfl rfl (wanted_on rfl rfl rfl c9) (fun a => (hasA_cons (k := 10) rfl d10 (hasA_cons (k := 15) rfl d15 hasA_base))) (ov_indexAddr (sz := 1) 5 rfl rfl F_slice_54 F_size_51 rfl hr3 (by decide) c10) rfl rfl (onlyT_spec (k0 := 16) rfl rfl rfl)
                        · intro done hi hc hcu
                          have d16 : done 16 = true := done_of (j := 16) hcu rfl (by decide) rfl
                          have d10 : done 10 = true := done_of (j := 10) hcu rfl (by decide) rfl
                          exact draw_value (i := 17) (t := 88) (v := (Value.agg #[(Value.int .i64 ((v2.2.2.getD ((0 : Int).toNat) z_Ossuaryref07_Item).Weight)), (str ((v2.2.2.getD ((0 : Int).toNat) z_Ossuaryref07_Item).Name))])) rfl rfl (wanted_on rfl rfl rfl c9) (fun a => (hasA_cons (k := 10) rfl d10 (hasA_cons (k := 16) rfl d16 hasA_base))) (ov_load_agg (vs := [(Value.int .i64 ((v2.2.2.getD ((0 : Int).toNat) z_Ossuaryref07_Item).Weight)), (str ((v2.2.2.getD ((0 : Int).toNat) z_Ossuaryref07_Item).Name))]) rfl F_agg_51 F_size_51 (reads_rd (i := 5) rfl hr3 (by simp) (fl_read0 enc_Ossuaryref07_Item_len (ix_lt (by decide) c10) rfl))) rfl rfl (onlyT_spec (k0 := 17) rfl rfl rfl)
                        · intro done hi hc hcu
                          have d11 : done 11 = true := done_of (j := 11) hcu rfl (by decide) rfl
                          have d17 : done 17 = true := done_of (j := 17) hcu rfl (by decide) rfl
                          have d10 : done 10 = true := done_of (j := 10) hcu rfl (by decide) rfl
                          exact draw_value (i := 18) (t := 89) (v := (Value.bool (!((x9.1 == ((v2.2.2.getD ((0 : Int).toNat) z_Ossuaryref07_Item).Weight)) && ((x9.2.1 == ((v2.2.2.getD ((0 : Int).toNat) z_Ossuaryref07_Item).Name)) && true))))) rfl rfl (wanted_on rfl rfl rfl c9) (fun a => (hasA_cons (k := 10) rfl d10 (hasA_cons (k := 17) rfl d17 (hasA_cons (k := 11) rfl d11 hasA_base)))) (ov_bin rfl rfl (same_51_n _ _ _ _)) rfl rfl (onlyT_spec (k0 := 18) rfl rfl rfl)
                        · intro done hi hc hcu
                          have d10 : done 10 = true := done_of (j := 10) hcu rfl (by decide) rfl
                          have d18 : done 18 = true := done_of (j := 18) hcu rfl (by decide) rfl
                          have d8 : done 8 = true := done_of (j := 8) hcu rfl (by decide) rfl
                          exact draw_value (i := 19) (t := 90) (v := (Value.bool (!((x9.1 == ((v2.2.2.getD ((0 : Int).toNat) z_Ossuaryref07_Item).Weight)) && ((x9.2.1 == ((v2.2.2.getD ((0 : Int).toNat) z_Ossuaryref07_Item).Name)) && true))))) rfl rfl (wanted_on rfl rfl rfl (Bool.eq_false_iff.2 c8)) (fun a => (hasA_cons (k := 8) rfl d8 (hasA_cons (k := 18) rfl d18 (hasA_cons (k := 10) rfl d10 hasA_base)))) (ov_pick rfl rfl rfl (pick_t c9)) rfl rfl (onlyT_spec (k0 := 19) rfl rfl rfl)
                        · intro done hi hc hcu
                          have d8 : done 8 = true := done_of (j := 8) hcu rfl (by decide) rfl
                          have d19 : done 19 = true := done_of (j := 19) hcu rfl (by decide) rfl
                          exact draw_value (i := 20) (t := 91) (v := (Value.bool (!((x9.1 == ((v2.2.2.getD ((0 : Int).toNat) z_Ossuaryref07_Item).Weight)) && ((x9.2.1 == ((v2.2.2.getD ((0 : Int).toNat) z_Ossuaryref07_Item).Name)) && true))))) rfl rfl (wanted_none rfl) (fun a => (hasA_cons (k := 19) rfl d19 (hasA_cons (k := 8) rfl d8 hasA_base))) (ov_pick rfl rfl rfl (pick_f (Bool.eq_false_iff.2 c8))) rfl rfl (onlyT_spec (k0 := 20) rfl rfl rfl)
                        · intro done hi hc hcu
                          have d20 : done 20 = true := done_of (j := 20) hcu rfl (by decide) rfl
                          exact draw_value (i := 21) (t := 92) (v := (Value.bool (!((x9.1 == ((v2.2.2.getD ((0 : Int).toNat) z_Ossuaryref07_Item).Weight)) && ((x9.2.1 == ((v2.2.2.getD ((0 : Int).toNat) z_Ossuaryref07_Item).Name)) && true))))) rfl rfl (wanted_none rfl) (fun a => (hasA_cons (k := 20) rfl d20 hasA_base)) (ov_move rfl) rfl rfl (onlyT_spec (k0 := 21) rfl rfl rfl)
                        · intro done hi hc hcu
                          have d21 : done 21 = true := done_of (j := 21) hcu rfl (by decide) rfl
                          exact draw_off (i := 22) (t := 93) rfl rfl (wanted_off rfl rfl rfl c11) (fun a => (hasA_cons (k := 21) rfl d21 hasA_base)) rfl rfl (onlyT_spec (k0 := 22) rfl rfl rfl)
                        · intro done hi hc hcu
                          have d21 : done 21 = true := done_of (j := 21) hcu rfl (by decide) rfl
                          exact draw_off (i := 23) (t := 94) rfl rfl (wanted_off rfl rfl rfl c11) (fun a => (hasA_cons (k := 21) rfl d21 hasA_base)) rfl rfl (onlyT_spec (k0 := 23) rfl rfl rfl)
                        · intro done hi hc hcu
                          have d21 : done 21 = true := done_of (j := 21) hcu rfl (by decide) rfl
                          exact draw_off (i := 24) (t := 95) rfl rfl (wanted_off rfl rfl rfl c11) (fun a => (hasA_cons (k := 21) rfl d21 hasA_base)) rfl rfl (onlyT_spec (k0 := 24) rfl rfl rfl)
                        · intro done hi hc hcu
                          have d21 : done 21 = true := done_of (j := 21) hcu rfl (by decide) rfl
                          exact draw_off (i := 25) (t := 96) rfl rfl (wanted_off rfl rfl rfl c11) (fun a => (hasA_cons (k := 21) rfl d21 hasA_base)) rfl rfl (onlyT_spec (k0 := 25) rfl rfl rfl)
                        · intro done hi hc hcu
                          have d21 : done 21 = true := done_of (j := 21) hcu rfl (by decide) rfl
                          exact draw_off (i := 26) (t := 97) rfl rfl (wanted_off rfl rfl rfl c11) (fun a => (hasA_cons (k := 21) rfl d21 hasA_base)) rfl rfl (onlyT_spec (k0 := 26) rfl rfl rfl)
                        · intro done hi hc hcu
                          have d21 : done 21 = true := done_of (j := 21) hcu rfl (by decide) rfl
                          exact draw_off (i := 27) (t := 98) rfl rfl (wanted_off rfl rfl rfl c11) (fun a => (hasA_cons (k := 21) rfl d21 hasA_base)) rfl rfl (onlyT_spec (k0 := 27) rfl rfl rfl)
                        · intro done hi hc hcu
                          have d21 : done 21 = true := done_of (j := 21) hcu rfl (by decide) rfl
                          exact draw_off (i := 28) (t := 99) rfl rfl (wanted_off rfl rfl rfl c11) (fun a => (hasA_cons (k := 21) rfl d21 hasA_base)) rfl rfl (onlyT_spec (k0 := 28) rfl rfl rfl)
                        · intro done hi hc hcu
                          have d21 : done 21 = true := done_of (j := 21) hcu rfl (by decide) rfl
                          exact draw_off (i := 29) (t := 100) rfl rfl (wanted_off rfl rfl rfl c11) (fun a => (hasA_cons (k := 21) rfl d21 hasA_base)) rfl rfl (onlyT_spec (k0 := 29) rfl rfl rfl)
                        · intro done hi hc hcu
                          have d21 : done 21 = true := done_of (j := 21) hcu rfl (by decide) rfl
                          have d29 : done 29 = true := done_of (j := 29) hcu rfl (by decide) rfl
                          exact draw_value (i := 30) (t := 101) (v := (Value.bool true)) rfl rfl (wanted_none rfl) (fun a => (hasA_cons (k := 29) rfl d29 (hasA_cons (k := 21) rfl d21 hasA_base))) (ov_pick rfl rfl rfl (pick_t c11)) rfl rfl (onlyT_spec (k0 := 30) rfl rfl rfl)
                      · intro done hall
                        refine draw_endL [(box b7 51 [(Value.int .i64 x9.1), (str x9.2.1)]), A0, (box b1 98 [(Value.func (.func 33) #[] #[]), sv6, (Value.int .i64 v2.2.1)]), (own sv6 100 3 v2.1.length (fl enc_Pile_item__ossuaryref07_Item v2.1)), (box b4 56 [sv7]), A3] rfl (fun a => (hasA_cons (k := 0) rfl (hall 0 (by decide)) (hasA_cons (k := 1) rfl (hall 1 (by decide)) (hasA_cons (k := 2) rfl (hall 2 (by decide)) (hasA_cons (k := 3) rfl (hall 3 (by decide)) (hasA_cons (k := 4) rfl (hall 4 (by decide)) (hasA_cons (k := 5) rfl (hall 5 (by decide)) (hasA_cons (k := 6) rfl (hall 6 (by decide)) (hasA_cons (k := 7) rfl (hall 7 (by decide)) (hasA_cons (k := 8) rfl (hall 8 (by decide)) (hasA_cons (k := 9) rfl (hall 9 (by decide)) (hasA_cons (k := 10) rfl (hall 10 (by decide)) (hasA_cons (k := 11) rfl (hall 11 (by decide)) (hasA_cons (k := 12) rfl (hall 12 (by decide)) (hasA_cons (k := 13) rfl (hall 13 (by decide)) (hasA_cons (k := 14) rfl (hall 14 (by decide)) (hasA_cons (k := 15) rfl (hall 15 (by decide)) (hasA_cons (k := 16) rfl (hall 16 (by decide)) (hasA_cons (k := 17) rfl (hall 17 (by decide)) (hasA_cons (k := 18) rfl (hall 18 (by decide)) (hasA_cons (k := 19) rfl (hall 19 (by decide)) (hasA_cons (k := 20) rfl (hall 20 (by decide)) (hasA_cons (k := 21) rfl (hall 21 (by decide)) (hasA_cons (k := 22) rfl (hall 22 (by decide)) (hasA_cons (k := 23) rfl (hall 23 (by decide)) (hasA_cons (k := 24) rfl (hall 24 (by decide)) (hasA_cons (k := 25) rfl (hall 25 (by decide)) (hasA_cons (k := 26) rfl (hall 26 (by decide)) (hasA_cons (k := 27) rfl (hall 27 (by decide)) (hasA_cons (k := 28) rfl (hall 28 (by decide)) (hasA_cons (k := 29) rfl (hall 29 (by decide)) (hasA_cons (k := 30) rfl (hall 30 (by decide)) hasA_base)))))))))))))))))))))))))))))))) ?_
                        refine ent_cond_true rfl rfl ?_
                        refine ent_seq ?_
                        refine ent_region ?_
                        refine ent_value (ov_assign rfl) rfl rfl rfl ?_
                        refine ent_nil ?_
                        refine ent_retc ?_
                        cases H2
                        have H9 := Option.some.inj (show some _ = some _ from H)
                        cases H9
                        refine ent_pick [1] (by decide) rfl ?_
                        exact ret_tmp rfl rfl ⟨rfl, rfl⟩
                    · rw [if_neg c11] at H2
                      obtain ⟨x10, h8, H2⟩ := thn_elim H2
                      refine ent_drawm 31 rfl (fun done a w => StD 122 w0 F [(0, sv0), (3, (pt b1 0)), (4, (pt b4 0)), (5, (Value.int .i64 i2)), (10, (pt b7 0)), (11, (Value.bool x9.2.2)), (66, (Value.tuple #[(Value.agg #[(Value.int .i64 x9.1), (str x9.2.1)]), (Value.bool x9.2.2)])), (67, (pt b1 0)), (68, (Value.tuple #[(Value.agg #[(Value.int .i64 x9.1), (str x9.2.1)]), (Value.bool x9.2.2)])), (69, (Value.agg #[(Value.int .i64 x9.1), (str x9.2.1)])), (70, (Value.bool x9.2.2))] [(0, 71, (Value.bool x9.2.2)), (1, 72, (pt b4 0)), (2, 73, (pt b4 0)), (3, 74, (pt b4 0)), (4, 75, sv7), (5, 76, (Value.int .i64 (v2.2.2.length : Int))), (6, 77, (Value.bool (decide (0 < (v2.2.2.length : Int))))), (7, 78, (Value.bool (x9.2.2 != (decide (0 < (v2.2.2.length : Int)))))), (8, 79, (Value.bool (x9.2.2 != (decide (0 < (v2.2.2.length : Int)))))), (9, 80, (Value.bool x9.2.2)), (10, 81, (Value.bool x9.2.2)), (11, 82, (Value.agg #[(Value.int .i64 x9.1), (str x9.2.1)])), (12, 83, (pt b4 0)), (13, 84, (pt b4 0)), (14, 85, (pt b4 0)), (15, 86, sv7), (16, 87, (eptr sv7 (((0 : Int).toNat) * 2))), (17, 88, (Value.agg #[(Value.int .i64 ((v2.2.2.getD ((0 : Int).toNat) z_Ossuaryref07_Item).Weight)), (str ((v2.2.2.getD ((0 : Int).toNat) z_Ossuaryref07_Item).Name))])), (18, 89, (Value.bool (!((x9.1 == ((v2.2.2.getD ((0 : Int).toNat) z_Ossuaryref07_Item).Weight)) && ((x9.2.1 == ((v2.2.2.getD ((0 : Int).toNat) z_Ossuaryref07_Item).Name)) && true))))), (19, 90, (Value.bool (!((x9.1 == ((v2.2.2.getD ((0 : Int).toNat) z_Ossuaryref07_Item).Weight)) && ((x9.2.1 == ((v2.2.2.getD ((0 : Int).toNat) z_Ossuaryref07_Item).Name)) && true))))), (20, 91, (Value.bool (!((x9.1 == ((v2.2.2.getD ((0 : Int).toNat) z_Ossuaryref07_Item).Weight)) && ((x9.2.1 == ((v2.2.2.getD ((0 : Int).toNat) z_Ossuaryref07_Item).Name)) && true))))), (21, 92, (Value.bool (!((x9.1 == ((v2.2.2.getD ((0 : Int).toNat) z_Ossuaryref07_Item).Weight)) && ((x9.2.1 == ((v2.2.2.getD ((0 : Int).toNat) z_Ossuaryref07_Item).Name)) && true))))), (22, 93, (pt b1 0)), (23, 94, (Value.int .i64 x10)), (24, 95, (pt b4 0)), (25, 96, (pt b4 0)), (26, 97, (pt b4 0)), (27, 98, sv7), (28, 99, (Value.int .i64 (v2.2.2.length : Int))), (29, 100, (Value.bool (x10 != (v2.2.2.length : Int)))), (30, 101, (Value.bool (x10 != (v2.2.2.length : Int))))] done [(box b7 51 [(Value.int .i64 x9.1), (str x9.2.1)]), A0, (box b1 98 [(Value.func (.func 33) #[] #[]), sv6, (Value.int .i64 v2.2.1)]), (own sv6 100 3 v2.1.length (fl enc_Pile_item__ossuaryref07_Item v2.1)), (box b4 56 [sv7]), A3] a w) (by kernel_rfl) (by kernel_rfl) (draw_startL (sub_cons (t := 0) rfl (sub_cons (t := 3) rfl (sub_cons (t := 4) rfl (sub_cons (t := 5) rfl (sub_cons (t := 10) rfl (sub_cons (t := 11) rfl (sub_cons (t := 66) rfl (sub_cons (t := 67) rfl (sub_cons (t := 68) rfl (sub_cons (t := 69) rfl (sub_cons (t := 70) rfl (sub_nil _)))))))))))) rfl) ?_ ?_
                      · refine ⟨?_, ?_, ?_, ?_, ?_, ?_, ?_, ?_, ?_, ?_, ?_, ?_, ?_, ?_, ?_, ?_, ?_, ?_, ?_, ?_, ?_, ?_, ?_, ?_, ?_, ?_, ?_, ?_, ?_, ?_, ?_, trivial⟩
                        · intro done hi hc hcu
                          exact draw_value (i := 0) (t := 71) (v := (Value.bool x9.2.2)) rfl rfl (wanted_none rfl) (fun a => hasA_base) (ov_move rfl) rfl rfl (onlyT_spec (k0 := 0) rfl rfl rfl)
                        · intro done hi hc hcu
                          exact draw_value (i := 1) (t := 72) (v := (pt b4 0)) rfl rfl (wanted_none rfl) (fun a => hasA_base) (ov_move rfl) rfl rfl (onlyT_spec (k0 := 1) rfl rfl rfl)
                        · intro done hi hc hcu
                          have d1 : done 1 = true := done_of (j := 1) hcu rfl (by decide) rfl
                          exact draw_value (i := 2) (t := 73) (v := (pt b4 0)) rfl rfl (wanted_none rfl) (fun a => (hasA_cons (k := 1) rfl d1 hasA_base)) (ov_nilCheck rfl) rfl rfl (onlyT_spec (k0 := 2) rfl rfl rfl)
                        · intro done hi hc hcu
                          have d2 : done 2 = true := done_of (j := 2) hcu rfl (by decide) rfl
                          exact draw_value (i := 3) (t := 74) (v := (pt b4 0)) rfl rfl (wanted_none rfl) (fun a => (hasA_cons (k := 2) rfl d2 hasA_base)) (ov_fieldAddr (sz := 0) (o := 0) rfl F_field_56_0 F_size_54) rfl rfl (onlyT_spec (k0 := 3) rfl rfl rfl)
                        · intro done hi hc hcu
                          have d3 : done 3 = true := done_of (j := 3) hcu rfl (by decide) rfl
                          exact draw_value (i := 4) (t := 75) (v := sv7) rfl rfl (wanted_none rfl) (fun a => (hasA_cons (k := 3) rfl d3 hasA_base)) (ov_load (v := sv7) rfl F_agg_54 (reads_box1 (i := 4) rfl rfl)) rfl rfl (onlyT_spec (k0 := 4) rfl rfl rfl)
                        · intro done hi hc hcu
                          have d4 : done 4 = true := done_of (j := 4) hcu rfl (by decide) rfl
                          exact draw_value (i := 5) (t := 76) (v := (Value.int .i64 (v2.2.2.length : Int))) rfl rfl (wanted_none rfl) (fun a => (hasA_cons (k := 4) rfl d4 hasA_base)) (ov_len 5 rfl F_slice_54 rfl hr3) rfl rfl (onlyT_spec (k0 := 5) rfl rfl rfl)
                        · intro done hi hc hcu
                          have d5 : done 5 = true := done_of (j := 5) hcu rfl (by decide) rfl
                          exact draw_value (i := 6) (t := 77) (v := (Value.bool (decide (0 < (v2.2.2.length : Int))))) rfl rfl (wanted_none rfl) (fun a => (hasA_cons (k := 5) rfl d5 hasA_base)) (ov_bin rfl rfl (b_gtr _ _ _)) rfl rfl (onlyT_spec (k0 := 6) rfl rfl rfl)
                        · intro done hi hc hcu
                          have d0 : done 0 = true := done_of (j := 0) hcu rfl (by decide) rfl
                          have d6 : done 6 = true := done_of (j := 6) hcu rfl (by decide) rfl
                          exact draw_value (i := 7) (t := 78) (v := (Value.bool (x9.2.2 != (decide (0 < (v2.2.2.length : Int)))))) rfl rfl (wanted_none rfl) (fun a => (hasA_cons (k := 6) rfl d6 (hasA_cons (k := 0) rfl d0 hasA_base))) (ov_bin rfl rfl (b_neq_bool Try.underlying4 _ _)) rfl rfl (onlyT_spec (k0 := 7) rfl rfl rfl)
                        · intro done hi hc hcu
                          have d7 : done 7 = true := done_of (j := 7) hcu rfl (by decide) rfl
                          exact draw_value (i := 8) (t := 79) (v := (Value.bool (x9.2.2 != (decide (0 < (v2.2.2.length : Int)))))) rfl rfl (wanted_none rfl) (fun a => (hasA_cons (k := 7) rfl d7 hasA_base)) (ov_move rfl) rfl rfl (onlyT_spec (k0 := 8) rfl rfl rfl)
                        · intro done hi hc hcu
                          have d8 : done 8 = true := done_of (j := 8) hcu rfl (by decide) rfl
                          exact draw_value (i := 9) (t := 80) (v := (Value.bool x9.2.2)) rfl rfl (wanted_on rfl rfl rfl (Bool.eq_false_iff.2 c8)) (fun a => (hasA_cons (k := 8) rfl d8 hasA_base)) (ov_move rfl) rfl rfl (onlyT_spec (k0 := 9) rfl rfl rfl)
                        · intro done hi hc hcu
                          have d9 : done 9 = true := done_of (j := 9) hcu rfl (by decide) rfl
                          have d8 : done 8 = true := done_of (j := 8) hcu rfl (by decide) rfl
                          exact draw_value (i := 10) (t := 81) (v := (Value.bool x9.2.2)) rfl rfl (wanted_on rfl rfl rfl (Bool.eq_false_iff.2 c8)) (fun a => (hasA_cons (k := 8) rfl d8 (hasA_cons (k := 9) rfl d9 hasA_base))) (ov_move rfl) rfl rfl (onlyT_spec (k0 := 10) rfl rfl rfl)
                        · intro done hi hc hcu
                          have d10 : done 10 = true := done_of (j := 10) hcu rfl (by decide) rfl
                          exact draw_value (i := 11) (t := 82) (v := (Value.agg #[(Value.int .i64 x9.1), (str x9.2.1)])) rfl rfl (wanted_on rfl rfl rfl c9) (fun a => (hasA_cons (k := 10) rfl d10 hasA_base)) (ov_load_agg (vs := [(Value.int .i64 x9.1), (str x9.2.1)]) rfl F_agg_51 F_size_51 (reads_boxW (i := 0) rfl)) rfl rfl (onlyT_spec (k0 := 11) rfl rfl rfl)
                        · intro done hi hc hcu
                          have d10 : done 10 = true := done_of (j := 10) hcu rfl (by decide) rfl
                          exact draw_value (i := 12) (t := 83) (v := (pt b4 0)) rfl rfl (wanted_on rfl rfl rfl c9) (fun a => (hasA_cons (k := 10) rfl d10 hasA_base)) (ov_move rfl) rfl rfl (onlyT_spec (k0 := 12) rfl rfl rfl)
                        · intro done hi hc hcu
                          have d12 : done 12 = true := done_of (j := 12) hcu rfl (by decide) rfl
                          have d10 : done 10 = true := done_of (j := 10) hcu rfl (by decide) rfl
                          exact draw_value (i := 13) (t := 84) (v := (pt b4 0)) rfl rfl (wanted_on rfl rfl rfl c9) (fun a => (hasA_cons (k := 10) rfl d10 (hasA_cons (k := 12) rfl d12 hasA_base))) (ov_nilCheck rfl) rfl rfl (onlyT_spec (k0 := 13) rfl rfl rfl)
                        · intro done hi hc hcu
                          have d13 : done 13 = true := done_of (j := 13) hcu rfl (by decide) rfl
                          have d10 : done 10 = true := done_of (j := 10) hcu rfl (by decide) rfl
                          exact draw_value (i := 14) (t := 85) (v := (pt b4 0)) rfl rfl (wanted_on rfl rfl rfl c9) (fun a => (hasA_cons (k := 10) rfl d10 (hasA_cons (k := 13) rfl d13 hasA_base))) (ov_fieldAddr (sz := 0) (o := 0) rfl F_field_56_0 F_size_54) rfl rfl (onlyT_spec (k0 := 14) rfl rfl rfl)
                        · intro done hi hc hcu
                          have d14 : done 14 = true := done_of (j := 14) hcu rfl (by decide) rfl
                          have d10 : done 10 = true := done_of (j := 10) hcu rfl (by decide) rfl
                          exact draw_value (i := 15) (t := 86) (v := sv7) rfl rfl (wanted_on rfl rfl rfl c9) (fun a => (hasA_cons (k := 10) rfl d10 (hasA_cons (k := 14) rfl d14 hasA_base))) (ov_load (v := sv7) rfl F_agg_54 (reads_box1 (i := 4) rfl rfl)) rfl rfl (onlyT_spec (k0 := 15) rfl rfl rfl)
                        · intro done hi hc hcu
                          have d15 : done 15 = true := done_of (j := 15) hcu rfl (by decide) rfl
                          have d10 : done 10 = true := done_of (j := 10) hcu rfl (by decide) rfl
                          exact draw_value (i := 16) (t := 87) (v := (eptr sv7 (((0 : Int).toNat) * 2))) rfl rfl (wanted_on rfl rfl rfl c9) (fun a => (hasA_cons (k := 10) rfl d10 (hasA_cons (k := 15) rfl d15 hasA_base))) (ov_indexAddr (sz := 1) 5 rfl rfl F_slice_54 F_size_51 rfl hr3 (by decide) c10) rfl rfl (onlyT_spec (k0 := 16) rfl rfl rfl)
                        · intro done hi hc hcu
                          have d16 : done 16 = true := done_of (j := 16) hcu rfl (by decide) rfl
                          have d10 : done 10 = true := done_of (j := 10) hcu rfl (by decide) rfl
                          exact draw_value (i := 17) (t := 88) (v := (Value.agg #[(Value.int .i64 ((v2.2.2.getD ((0 : Int).toNat) z_Ossuaryref07_Item).Weight)), (str ((v2.2.2.getD ((0 : Int).toNat) z_Ossuaryref07_Item).Name))])) rfl rfl (wanted_on rfl rfl rfl c9) (fun a => (hasA_cons (k := 10) rfl d10 (hasA_cons (k := 16) rfl d16 hasA_base))) (ov_load_agg (vs := [(Value.int .i64 ((v2.2.2.getD ((0 : Int).toNat) z_Ossuaryref07_Item).Weight)), (str ((v2.2.2.getD ((0 : Int).toNat) z_Ossuaryref07_Item).Name))]) rfl F_agg_51 F_size_51 (reads_rd (i := 5) rfl hr3 (by simp) (fl_read0 enc_Ossuaryref07_Item_len (ix_lt (by decide) c10) rfl))) rfl rfl (onlyT_spec (k0 := 17) rfl rfl rfl)
                        · intro done hi hc hcu
                          have d11 : done 11 = true := done_of (j := 11) hcu rfl (by decide) rfl
                          have d17 : done 17 = true := done_of (j := 17) hcu rfl (by decide) rfl
                          have d10 : done 10 = true := done_of (j := 10) hcu rfl (by decide) rfl
                          exact draw_value (i := 18) (t := 89) (v := (Value.bool (!((x9.1 == ((v2.2.2.getD ((0 : Int).toNat) z_Ossuaryref07_Item).Weight)) && ((x9.2.1 == ((v2.2.2.getD ((0 : Int).toNat) z_Ossuaryref07_Item).Name)) && true))))) rfl rfl (wanted_on rfl rfl rfl c9) (fun a => (hasA_cons (k := 10) rfl d10 (hasA_cons (k := 17) rfl d17 (hasA_cons (k := 11) rfl d11 hasA_base)))) (ov_bin rfl rfl (same_51_n _ _ _ _)) rfl rfl (onlyT_spec (k0 := 18) rfl rfl rfl)
                        · intro done hi hc hcu
                          have d10 : done 10 = true := done_of (j := 10) hcu rfl (by decide) rfl
                          have d18 : done 18 = true := done_of (j := 18) hcu rfl (by decide) rfl
                          have d8 : done 8 = true := done_of (j := 8) hcu rfl (by decide) rfl
                          exact draw_value (i := 19) (t := 90) (v := (Value.bool (!((x9.1 == ((v2.2.2.getD ((0 : Int).toNat) z_Ossuaryref07_Item).Weight)) && ((x9.2.1 == ((v2.2.2.getD ((0 : Int).toNat) z_Ossuaryref07_Item).Name)) && true))))) rfl rfl (wanted_on rfl rfl rfl (Bool.eq_false_iff.2 c8)) (fun a => (hasA_cons (k := 8) rfl d8 (hasA_cons (k := 18) rfl d18 (hasA_cons (k := 10) rfl d10 hasA_base)))) (ov_pick rfl rfl rfl (pick_t c9)) rfl rfl (onlyT_spec (k0 := 19) rfl rfl rfl)
                        · intro done hi hc hcu
                          have d8 : done 8 = true := done_of (j := 8) hcu rfl (by decide) rfl
                          have d19 : done 19 = true := done_of (j := 19) hcu rfl (by decide) rfl
                          exact draw_value (i := 20) (t := 91) (v := (Value.bool (!((x9.1 == ((v2.2.2.getD ((0 : Int).toNat) z_Ossuaryref07_Item).Weight)) && ((x9.2.1 == ((v2.2.2.getD ((0 : Int).toNat) z_Ossuaryref07_Item).Name)) && true))))) rfl rfl (wanted_none rfl) (fun a => (hasA_cons (k := 19) rfl d19 (hasA_cons (k := 8) rfl d8 hasA_base))) (ov_pick rfl rfl rfl (pick_f (Bool.eq_false_iff.2 c8))) rfl rfl (onlyT_spec (k0 := 20) rfl rfl rfl)
                        · intro done hi hc hcu
                          have d20 : done 20 = true := done_of (j := 20) hcu rfl (by decide) rfl
                          exact draw_value (i := 21) (t := 92) (v := (Value.bool (!((x9.1 == ((v2.2.2.getD ((0 : Int).toNat) z_Ossuaryref07_Item).Weight)) && ((x9.2.1 == ((v2.2.2.getD ((0 : Int).toNat) z_Ossuaryref07_Item).Name)) && true))))) rfl rfl (wanted_none rfl) (fun a => (hasA_cons (k := 20) rfl d20 hasA_base)) (ov_move rfl) rfl rfl (onlyT_spec (k0 := 21) rfl rfl rfl)
                        · intro done hi hc hcu
                          have d21 : done 21 = true := done_of (j := 21) hcu rfl (by decide) rfl
                          exact draw_value (i := 22) (t := 93) (v := (pt b1 0)) rfl rfl (wanted_on rfl rfl rfl (Bool.eq_false_iff.2 c11)) (fun a => (hasA_cons (k := 21) rfl d21 hasA_base)) (ov_move rfl) rfl rfl (onlyT_spec (k0 := 22) rfl rfl rfl)
                        · intro done hi hc hcu
                          have d22 : done 22 = true := done_of (j := 22) hcu rfl (by decide) rfl
                          have d21 : done 21 = true := done_of (j := 21) hcu rfl (by decide) rfl
                          exact draw_same (i := 23) (t := 94) (v := (Value.int .i64 x10)) rfl rfl (wanted_on rfl rfl rfl (Bool.eq_false_iff.2 c11)) (fun a => (hasA_cons (k := 21) rfl d21 (hasA_cons (k := 22) rfl d22 hasA_base))) (ot_call_same (Lr := [(box b7 51 [(Value.int .i64 x9.1), (str x9.2.1)]), A0, (box b4 56 [sv7]), A3]) [2, 3, 0, 1, 4, 5] [2, 3, 0, 1, 4, 5] (first := []) (cap := []) (xs := [.tmp 93]) rfl rfl F_call_39 rfl (pile_Pile__ossuaryref07_Item_Len_2.spec b1 sv6 v2.1 v2.2.1 _ h8) (by decide) rfl (by decide) rfl) rfl rfl (onlyT_spec (k0 := 23) rfl rfl rfl)
                        · intro done hi hc hcu
                          have d21 : done 21 = true := done_of (j := 21) hcu rfl (by decide) rfl
                          exact draw_value (i := 24) (t := 95) (v := (pt b4 0)) rfl rfl (wanted_on rfl rfl rfl (Bool.eq_false_iff.2 c11)) (fun a => (hasA_cons (k := 21) rfl d21 hasA_base)) (ov_move rfl) rfl rfl (onlyT_spec (k0 := 24) rfl rfl rfl)
                        · intro done hi hc hcu
                          have d24 : done 24 = true := done_of (j := 24) hcu rfl (by decide) rfl
                          have d21 : done 21 = true := done_of (j := 21) hcu rfl (by decide) rfl
                          exact draw_value (i := 25) (t := 96) (v := (pt b4 0)) rfl rfl (wanted_on rfl rfl rfl (Bool.eq_false_iff.2 c11)) (fun a => (hasA_cons (k := 21) rfl d21 (hasA_cons (k := 24) rfl d24 hasA_base))) (ov_nilCheck rfl) rfl rfl (onlyT_spec (k0 := 25) rfl rfl rfl)
                        · intro done hi hc hcu
                          have d25 : done 25 = true := done_of (j := 25) hcu rfl (by decide) rfl
                          have d21 : done 21 = true := done_of (j := 21) hcu rfl (by decide) rfl
                          exact draw_value (i := 26) (t := 97) (v := (pt b4 0)) rfl rfl (wanted_on rfl rfl rfl (Bool.eq_false_iff.2 c11)) (fun a => (hasA_cons (k := 21) rfl d21 (hasA_cons (k := 25) rfl d25 hasA_base))) (ov_fieldAddr (sz := 0) (o := 0) rfl F_field_56_0 F_size_54) rfl rfl (onlyT_spec (k0 := 26) rfl rfl rfl)
                        · intro done hi hc hcu
                          have d26 : done 26 = true := done_of (j := 26) hcu rfl (by decide) rfl
                          have d21 : done 21 = true := done_of (j := 21) hcu rfl (by decide) rfl
                          exact draw_value (i := 27) (t := 98) (v := sv7) rfl rfl (wanted_on rfl rfl rfl (Bool.eq_false_iff.2 c11)) (fun a => (hasA_cons (k := 21) rfl d21 (hasA_cons (k := 26) rfl d26 hasA_base))) (ov_load (v := sv7) rfl F_agg_54 (reads_box1 (i := 4) rfl rfl)) rfl rfl (onlyT_spec (k0 := 27) rfl rfl rfl)
                        · intro done hi hc hcu
                          have d27 : done 27 = true := done_of (j := 27) hcu rfl (by decide) rfl
                          have d21 : done 21 = true := done_of (j := 21) hcu rfl (by decide) rfl
                          exact draw_value (i := 28) (t := 99) (v := (Value.int .i64 (v2.2.2.length : Int))) rfl rfl (wanted_on rfl rfl rfl (Bool.eq_false_iff.2 c11)) (fun a => (hasA_cons (k := 21) rfl d21 (hasA_cons (k := 27) rfl d27 hasA_base))) (ov_len 5 rfl F_slice_54 rfl hr3) rfl rfl (onlyT_spec (k0 := 28) rfl rfl rfl)
                        · intro done hi hc hcu
                          have d23 : done 23 = true := done_of (j := 23) hcu rfl (by decide) rfl
                          have d28 : done 28 = true := done_of (j := 28) hcu rfl (by decide) rfl
                          have d21 : done 21 = true := done_of (j := 21) hcu rfl (by decide) rfl
                          exact draw_value (i := 29) (t := 100) (v := (Value.bool (x10 != (v2.2.2.length : Int)))) rfl rfl (wanted_on rfl rfl rfl (Bool.eq_false_iff.2 c11)) (fun a => (hasA_cons (k := 21) rfl d21 (hasA_cons (k := 28) rfl d28 (hasA_cons (k := 23) rfl d23 hasA_base)))) (ov_bin rfl rfl (b_neq _ _ _)) rfl rfl (onlyT_spec (k0 := 29) rfl rfl rfl)
                        · intro done hi hc hcu
                          have d21 : done 21 = true := done_of (j := 21) hcu rfl (by decide) rfl
                          have d29 : done 29 = true := done_of (j := 29) hcu rfl (by decide) rfl
                          exact draw_value (i := 30) (t := 101) (v := (Value.bool (x10 != (v2.2.2.length : Int)))) rfl rfl (wanted_none rfl) (fun a => (hasA_cons (k := 29) rfl d29 (hasA_cons (k := 21) rfl d21 hasA_base))) (ov_pick rfl rfl rfl (pick_f (Bool.eq_false_iff.2 c11))) rfl rfl (onlyT_spec (k0 := 30) rfl rfl rfl)
                      · intro done hall
                        refine draw_endL [(box b7 51 [(Value.int .i64 x9.1), (str x9.2.1)]), A0, (box b1 98 [(Value.func (.func 33) #[] #[]), sv6, (Value.int .i64 v2.2.1)]), (own sv6 100 3 v2.1.length (fl enc_Pile_item__ossuaryref07_Item v2.1)), (box b4 56 [sv7]), A3] rfl (fun a => (hasA_cons (k := 0) rfl (hall 0 (by decide)) (hasA_cons (k := 1) rfl (hall 1 (by decide)) (hasA_cons (k := 2) rfl (hall 2 (by decide)) (hasA_cons (k := 3) rfl (hall 3 (by decide)) (hasA_cons (k := 4) rfl (hall 4 (by decide)) (hasA_cons (k := 5) rfl (hall 5 (by decide)) (hasA_cons (k := 6) rfl (hall 6 (by decide)) (hasA_cons (k := 7) rfl (hall 7 (by decide)) (hasA_cons (k := 8) rfl (hall 8 (by decide)) (hasA_cons (k := 9) rfl (hall 9 (by decide)) (hasA_cons (k := 10) rfl (hall 10 (by decide)) (hasA_cons (k := 11) rfl (hall 11 (by decide)) (hasA_cons (k := 12) rfl (hall 12 (by decide)) (hasA_cons (k := 13) rfl (hall 13 (by decide)) (hasA_cons (k := 14) rfl (hall 14 (by decide)) (hasA_cons (k := 15) rfl (hall 15 (by decide)) (hasA_cons (k := 16) rfl (hall 16 (by decide)) (hasA_cons (k := 17) rfl (hall 17 (by decide)) (hasA_cons (k := 18) rfl (hall 18 (by decide)) (hasA_cons (k := 19) rfl (hall 19 (by decide)) (hasA_cons (k := 20) rfl (hall 20 (by decide)) (hasA_cons (k := 21) rfl (hall 21 (by decide)) (hasA_cons (k := 22) rfl (hall 22 (by decide)) (hasA_cons (k := 23) rfl (hall 23 (by decide)) (hasA_cons (k := 24) rfl (hall 24 (by decide)) (hasA_cons (k := 25) rfl (hall 25 (by decide)) (hasA_cons (k := 26) rfl (hall 26 (by decide)) (hasA_cons (k := 27) rfl (hall 27 (by decide)) (hasA_cons (k := 28) rfl (hall 28 (by decide)) (hasA_cons (k := 29) rfl (hall 29 (by decide)) (hasA_cons (k := 30) rfl (hall 30 (by decide)) hasA_base)))))))))))))))))))))))))))))))) ?_
                        by_cases c12 : ¬ (x10 = (v2.2.2.length : Int))
                        · rw [if_pos c12] at H2
                          refine ent_cond_true rfl (ne_t c12) ?_
                          refine ent_seq ?_
                          refine ent_region ?_
                          refine ent_value (ov_assign rfl) rfl rfl rfl ?_
                          refine ent_nil ?_
                          refine ent_retc ?_
                          cases H2
                          have H10 := Option.some.inj (show some _ = some _ from H)
                          cases H10
                          refine ent_pick [1] (by decide) rfl ?_
                          exact ret_tmp rfl rfl ⟨rfl, rfl⟩
                        · rw [if_neg c12] at H2
                          refine ent_cond_false rfl (ne_f c12) ?_
                          refine ent_skip ?_
                          refine ent_region ?_
                          refine ent_value (ov_move rfl) rfl rfl rfl ?_
                          refine ent_value (ov_bin rfl rfl (b_add _ _ _) ) rfl rfl rfl ?_
                          refine ent_value (ov_assign rfl) rfl rfl rfl ?_
                          refine ent_nil ?_
                          exact ent_fin [1, 2, 3, 4, 5] (by decide) rfl (sub_cons (t := 0) rfl (sub_cons (t := 3) rfl (sub_cons (t := 4) rfl (sub_cons (t := 5) rfl (sub_nil _))))) fun a w h => ⟨k, Nat.lt_succ_self k, _, _, _, _, _, _, _, _, hr3, H2, h⟩
                  · rw [if_neg c10] at H2
                    cases H2
                · rw [if_neg c9] at H2
                  obtain ⟨x11, h9, H2⟩ := thn_elim H2
                  refine ent_drawm 31 rfl (fun done a w => StD 122 w0 F [(0, sv0), (3, (pt b1 0)), (4, (pt b4 0)), (5, (Value.int .i64 i2)), (10, (pt b7 0)), (11, (Value.bool x9.2.2)), (66, (Value.tuple #[(Value.agg #[(Value.int .i64 x9.1), (str x9.2.1)]), (Value.bool x9.2.2)])), (67, (pt b1 0)), (68, (Value.tuple #[(Value.agg #[(Value.int .i64 x9.1), (str x9.2.1)]), (Value.bool x9.2.2)])), (69, (Value.agg #[(Value.int .i64 x9.1), (str x9.2.1)])), (70, (Value.bool x9.2.2))] [(0, 71, (Value.bool x9.2.2)), (1, 72, (pt b4 0)), (2, 73, (pt b4 0)), (3, 74, (pt b4 0)), (4, 75, sv7), (5, 76, (Value.int .i64 (v2.2.2.length : Int))), (6, 77, (Value.bool (decide (0 < (v2.2.2.length : Int))))), (7, 78, (Value.bool (x9.2.2 != (decide (0 < (v2.2.2.length : Int)))))), (8, 79, (Value.bool (x9.2.2 != (decide (0 < (v2.2.2.length : Int)))))), (9, 80, (Value.bool x9.2.2)), (10, 81, (Value.bool x9.2.2)), (11, 82, undef), (12, 83, undef), (13, 84, undef), (14, 85, undef), (15, 86, undef), (16, 87, undef), (17, 88, undef), (18, 89, undef), (19, 90, (Value.bool false)), (20, 91, (Value.bool false)), (21, 92, (Value.bool false)), (22, 93, (pt b1 0)), (23, 94, (Value.int .i64 x11)), (24, 95, (pt b4 0)), (25, 96, (pt b4 0)), (26, 97, (pt b4 0)), (27, 98, sv7), (28, 99, (Value.int .i64 (v2.2.2.length : Int))), (29, 100, (Value.bool (x11 != (v2.2.2.length : Int)))), (30, 101, (Value.bool (x11 != (v2.2.2.length : Int))))] done [(box b7 51 [(Value.int .i64 x9.1), (str x9.2.1)]), A0, (box b1 98 [(Value.func (.func 33) #[] #[]), sv6, (Value.int .i64 v2.2.1)]), (own sv6 100 3 v2.1.length (fl enc_Pile_item__ossuaryref07_Item v2.1)), (box b4 56 [sv7]), A3] a w) (by kernel_rfl) (by kernel_rfl) (draw_startL (sub_cons (t := 0) rfl (sub_cons (t := 3) rfl (sub_cons (t := 4) rfl (sub_cons (t := 5) rfl (sub_cons (t := 10) rfl (sub_cons (t := 11) rfl (sub_cons (t := 66) rfl (sub_cons (t := 67) rfl (sub_cons (t := 68) rfl (sub_cons (t := 69) rfl (sub_cons (t := 70) rfl (sub_nil _)))))))))))) rfl) ?_ ?_
                  · refine ⟨?_, ?_, ?_, ?_, ?_, ?_, ?_, ?_, ?_, ?_, ?_, ?_, ?_, ?_, ?_, ?_, ?_, ?_, ?_, ?_, ?_, ?_, ?_, ?_, ?_, ?_, ?_, ?_, ?_, ?_, ?_, trivial⟩
                    · intro done hi hc hcu
                      exact draw_value (i := 0) (t := 71) (v := (Value.bool x9.2.2)) rfl rfl (wanted_none rfl) (fun a => hasA_base) (ov_move rfl) rfl rfl (onlyT_spec (k0 := 0) rfl rfl rfl)
                    · intro done hi hc hcu
                      exact draw_value (i := 1) (t := 72) (v := (pt b4 0)) rfl rfl (wanted_none rfl) (fun a => hasA_base) (ov_move rfl) rfl rfl (onlyT_spec (k0 := 1) rfl rfl rfl)
                    · intro done hi hc hcu
                      have d1 : done 1 = true := done_of (j := 1) hcu rfl (by decide) rfl
                      exact draw_value (i := 2) (t := 73) (v := (pt b4 0)) rfl rfl (wanted_none rfl) (fun a => (hasA_cons (k := 1) rfl d1 hasA_base)) (ov_nilCheck rfl) rfl rfl (onlyT_spec (k0 := 2) rfl rfl rfl)
                    · intro done hi hc hcu
                      have d2 : done 2 = true := done_of (j := 2) hcu rfl (by decide) rfl
                      exact draw_value (i := 3) (t := 74) (v := (pt b4 0)) rfl rfl (wanted_none rfl) (fun a => (hasA_cons (k := 2) rfl d2 hasA_base)) (ov_fieldAddr (sz := 0) (o := 0) rfl F_field_56_0 F_size_54) rfl rfl (onlyT_spec (k0 := 3) rfl rfl rfl)
                    · intro done hi hc hcu
                      have d3 : done 3 = true := done_of (j := 3) hcu rfl (by decide) rfl
                      exact draw_value (i := 4) (t := 75) (v := sv7) rfl rfl (wanted_none rfl) (fun a => (hasA_cons (k := 3) rfl d3 hasA_base)) (ov_load (v := sv7) rfl F_agg_54 (reads_box1 (i := 4) rfl rfl)) rfl rfl (onlyT_spec (k0 := 4) rfl rfl rfl)
                    · intro done hi hc hcu
                      have d4 : done 4 = true := done_of (j := 4) hcu rfl (by decide) rfl
                      exact draw_value (i := 5) (t := 76) (v := (Value.int .i64 (v2.2.2.length : Int))) rfl rfl (wanted_none rfl) (fun a => (hasA_cons (k := 4) rfl d4 hasA_base)) (ov_len 5 rfl F_slice_54 rfl hr3) rfl rfl (onlyT_spec (k0 := 5) rfl rfl rfl)
                    · intro done hi hc hcu
                      have d5 : done 5 = true := done_of (j := 5) hcu rfl (by decide) rfl
                      exact draw_value (i := 6) (t := 77) (v := (Value.bool (decide (0 < (v2.2.2.length : Int))))) rfl rfl (wanted_none rfl) (fun a => (hasA_cons (k := 5) rfl d5 hasA_base)) (ov_bin rfl rfl (b_gtr _ _ _)) rfl rfl (onlyT_spec (k0 := 6) rfl rfl rfl)
                    · intro done hi hc hcu
                      have d0 : done 0 = true := done_of (j := 0) hcu rfl (by decide) rfl
                      have d6 : done 6 = true := done_of (j := 6) hcu rfl (by decide) rfl
                      exact draw_value (i := 7) (t := 78) (v := (Value.bool (x9.2.2 != (decide (0 < (v2.2.2.length : Int)))))) rfl rfl (wanted_none rfl) (fun a => (hasA_cons (k := 6) rfl d6 (hasA_cons (k := 0) rfl d0 hasA_base))) (ov_bin rfl rfl (b_neq_bool Try.underlying4 _ _)) rfl rfl (onlyT_spec (k0 := 7) rfl rfl rfl)
                    · intro done hi hc hcu
                      have d7 : done 7 = true := done_of (j := 7) hcu rfl (by decide) rfl
                      exact draw_value (i := 8) (t := 79) (v := (Value.bool (x9.2.2 != (decide (0 < (v2.2.2.length : Int)))))) rfl rfl (wanted_none rfl) (fun a => (hasA_cons (k := 7) rfl d7 hasA_base)) (ov_move rfl) rfl rfl (onlyT_spec (k0 := 8) rfl rfl rfl)
                    · intro done hi hc hcu
                      have d8 : done 8 = true := done_of (j := 8) hcu rfl (by decide) rfl
                      exact draw_value (i := 9) (t := 80) (v := (Value.bool x9.2.2)) rfl rfl (wanted_on rfl rfl rfl (Bool.eq_false_iff.2 c8)) (fun a => (hasA_cons (k := 8) rfl d8 hasA_base)) (ov_move rfl) rfl rfl (onlyT_spec (k0 := 9) rfl rfl rfl)
                    · intro done hi hc hcu
                      have d9 : done 9 = true := done_of (j := 9) hcu rfl (by decide) rfl
                      have d8 : done 8 = true := done_of (j := 8) hcu rfl (by decide) rfl
                      exact draw_value (i := 10) (t := 81) (v := (Value.bool x9.2.2)) rfl rfl (wanted_on rfl rfl rfl (Bool.eq_false_iff.2 c8)) (fun a => (hasA_cons (k := 8) rfl d8 (hasA_cons (k := 9) rfl d9 hasA_base))) (ov_move rfl) rfl rfl (onlyT_spec (k0 := 10) rfl rfl rfl)
                    · intro done hi hc hcu
                      have d10 : done 10 = true := done_of (j := 10) hcu rfl (by decide) rfl
                      exact draw_off (i := 11) (t := 82) rfl rfl (wanted_off rfl rfl rfl (Bool.eq_false_iff.2 c9)) (fun a => (hasA_cons (k := 10) rfl d10 hasA_base)) rfl rfl (onlyT_spec (k0 := 11) rfl rfl rfl)
                    · intro done hi hc hcu
                      have d10 : done 10 = true := done_of (j := 10) hcu rfl (by decide) rfl
                      exact draw_off (i := 12) (t := 83) rfl rfl (wanted_off rfl rfl rfl (Bool.eq_false_iff.2 c9)) (fun a => (hasA_cons (k := 10) rfl d10 hasA_base)) rfl rfl (onlyT_spec (k0 := 12) rfl rfl rfl)
                    · intro done hi hc hcu
                      have d10 : done 10 = true := done_of (j := 10) hcu rfl (by decide) rfl
                      exact draw_off (i := 13) (t := 84) rfl rfl (wanted_off rfl rfl rfl (Bool.eq_false_iff.2 c9)) (fun a => (hasA_cons (k := 10) rfl d10 hasA_base)) rfl rfl (onlyT_spec (k0 := 13) rfl rfl rfl)
                    · intro done hi hc hcu
                      have d10 : done 10 = true := done_of (j := 10) hcu rfl (by decide) rfl
                      exact draw_off (i := 14) (t := 85) rfl rfl (wanted_off rfl rfl rfl (Bool.eq_false_iff.2 c9)) (fun a => (hasA_cons (k := 10) rfl d10 hasA_base)) rfl rfl (onlyT_spec (k0 := 14) rfl rfl rfl)
                    · intro done hi hc hcu
                      have d10 : done 10 = true := done_of (j := 10) hcu rfl (by decide) rfl
                      exact draw_off (i := 15) (t := 86) rfl rfl (wanted_off rfl rfl rfl (Bool.eq_false_iff.2 c9)) (fun a => (hasA_cons (k := 10) rfl d10 hasA_base)) rfl rfl (onlyT_spec (k0 := 15) rfl rfl rfl)
                    · intro done hi hc hcu
                      have d10 : done 10 = true := done_of (j := 10) hcu rfl (by decide) rfl
                      exact draw_off (i := 16) (t := 87) rfl rfl (wanted_off rfl rfl rfl (Bool.eq_false_iff.2 c9)) (fun a => (hasA_cons (k := 10) rfl d10 hasA_base)) rfl rfl (onlyT_spec (k0 := 16) rfl rfl rfl)
                    · intro done hi hc hcu
                      have d10 : done 10 = true := done_of (j := 10) hcu rfl (by decide) rfl
                      exact draw_off (i := 17) (t := 88) rfl rfl (wanted_off rfl rfl rfl (Bool.eq_false_iff.2 c9)) (fun a => (hasA_cons (k := 10) rfl d10 hasA_base)) rfl rfl (onlyT_spec (k0 := 17) rfl rfl rfl)
                    · intro done hi hc hcu
                      have d10 : done 10 = true := done_of (j := 10) hcu rfl (by decide) rfl
                      exact draw_off (i := 18) (t := 89) rfl rfl (wanted_off rfl rfl rfl (Bool.eq_false_iff.2 c9)) (fun a => (hasA_cons (k := 10) rfl d10 hasA_base)) rfl rfl (onlyT_spec (k0 := 18) rfl rfl rfl)
                    · intro done hi hc hcu
                      have d10 : done 10 = true := done_of (j := 10) hcu rfl (by decide) rfl
                      have d18 : done 18 = true := done_of (j := 18) hcu rfl (by decide) rfl
                      have d8 : done 8 = true := done_of (j := 8) hcu rfl (by decide) rfl
                      exact draw_value (i := 19) (t := 90) (v := (Value.bool false)) rfl rfl (wanted_on rfl rfl rfl (Bool.eq_false_iff.2 c8)) (fun a => (hasA_cons (k := 8) rfl d8 (hasA_cons (k := 18) rfl d18 (hasA_cons (k := 10) rfl d10 hasA_base)))) (ov_pick rfl rfl rfl (pick_f (Bool.eq_false_iff.2 c9))) rfl rfl (onlyT_spec (k0 := 19) rfl rfl rfl)
                    · intro done hi hc hcu
                      have d8 : done 8 = true := done_of (j := 8) hcu rfl (by decide) rfl
                      have d19 : done 19 = true := done_of (j := 19) hcu rfl (by decide) rfl
                      exact draw_value (i := 20) (t := 91) (v := (Value.bool false)) rfl rfl (wanted_none rfl) (fun a => (hasA_cons (k := 19) rfl d19 (hasA_cons (k := 8) rfl d8 hasA_base))) (ov_pick rfl rfl rfl (pick_f (Bool.eq_false_iff.2 c8))) rfl rfl (onlyT_spec (k0 := 20) rfl rfl rfl)
                    · intro done hi hc hcu
                      have d20 : done 20 = true := done_of (j := 20) hcu rfl (by decide) rfl
                      exact draw_value (i := 21) (t := 92) (v := (Value.bool false)) rfl rfl (wanted_none rfl) (fun a => (hasA_cons (k := 20) rfl d20 hasA_base)) (ov_move rfl) rfl rfl (onlyT_spec (k0 := 21) rfl rfl rfl)
                    · intro done hi hc hcu
                      have d21 : done 21 = true := done_of (j := 21) hcu rfl (by decide) rfl
                      exact draw_value (i := 22) (t := 93) (v := (pt b1 0)) rfl rfl (wanted_on rfl rfl rfl rfl) (fun a => (hasA_cons (k := 21) rfl d21 hasA_base)) (ov_move rfl) rfl rfl (onlyT_spec (k0 := 22) rfl rfl rfl)
                    · intro done hi hc hcu
                      have d22 : done 22 = true := done_of (j := 22) hcu rfl (by decide) rfl
                      have d21 : done 21 = true := done_of (j := 21) hcu rfl (by decide) rfl
                      exact draw_same (i := 23) (t := 94) (v := (Value.int .i64 x11)) rfl rfl (wanted_on rfl rfl rfl rfl) (fun a => (hasA_cons (k := 21) rfl d21 (hasA_cons (k := 22) rfl d22 hasA_base))) (ot_call_same (Lr := [(box b7 51 [(Value.int .i64 x9.1), (str x9.2.1)]), A0, (box b4 56 [sv7]), A3]) [2, 3, 0, 1, 4, 5] [2, 3, 0, 1, 4, 5] (first := []) (cap := []) (xs := [.tmp 93]) rfl rfl F_call_39 rfl (pile_Pile__ossuaryref07_Item_Len_2.spec b1 sv6 v2.1 v2.2.1 _ h9) (by decide) rfl (by decide) rfl) rfl rfl (onlyT_spec (k0 := 23) rfl rfl rfl)
                    · intro done hi hc hcu
                      have d21 : done 21 = true := done_of (j := 21) hcu rfl (by decide) rfl
                      exact draw_value (i := 24) (t := 95) (v := (pt b4 0)) rfl rfl (wanted_on rfl rfl rfl rfl) (fun a => (hasA_cons (k := 21) rfl d21 hasA_base)) (ov_move rfl) rfl rfl (onlyT_spec (k0 := 24) rfl rfl rfl)
                    · intro done hi hc hcu
                      have d24 : done 24 = true := done_of (j := 24) hcu rfl (by decide) rfl
                      have d21 : done 21 = true := done_of (j := 21) hcu rfl (by decide) rfl
                      exact draw_value (i := 25) (t := 96) (v := (pt b4 0)) rfl rfl (wanted_on rfl rfl rfl rfl) (fun a => (hasA_cons (k := 21) rfl d21 (hasA_cons (k := 24) rfl d24 hasA_base))) (ov_nilCheck rfl) rfl rfl (onlyT_spec (k0 := 25) rfl rfl rfl)
                    · intro done hi hc hcu
                      have d25 : done 25 = true := done_of (j := 25) hcu rfl (by decide) rfl
                      have d21 : done 21 = true := done_of (j := 21) hcu rfl (by decide) rfl
                      exact draw_value (i := 26) (t := 97) (v := (pt b4 0)) rfl rfl (wanted_on rfl rfl rfl rfl) (fun a => (hasA_cons (k := 21) rfl d21 (hasA_cons (k := 25) rfl d25 hasA_base))) (ov_fieldAddr (sz := 0) (o := 0) rfl F_field_56_0 F_size_54) rfl rfl (onlyT_spec (k0 := 26) rfl rfl rfl)
                    · intro done hi hc hcu
                      have d26 : done 26 = true := done_of (j := 26) hcu rfl (by decide) rfl
                      have d21 : done 21 = true := done_of (j := 21) hcu rfl (by decide) rfl
                      exact draw_value (i := 27) (t := 98) (v := sv7) rfl rfl (wanted_on rfl rfl rfl rfl) (fun a => (hasA_cons (k := 21) rfl d21 (hasA_cons (k := 26) rfl d26 hasA_base))) (ov_load (v := sv7) rfl F_agg_54 (reads_box1 (i := 4) rfl rfl)) rfl rfl (onlyT_spec (k0 := 27) rfl rfl rfl)
                    · intro done hi hc hcu
                      have d27 : done 27 = true := done_of (j := 27) hcu rfl (by decide) rfl
                      have d21 : done 21 = true := done_of (j := 21) hcu rfl (by decide) rfl
                      exact draw_value (i := 28) (t := 99) (v := (Value.int .i64 (v2.2.2.length : Int))) rfl rfl (wanted_on rfl rfl rfl rfl) (fun a => (hasA_cons (k := 21) rfl d21 (hasA_cons (k := 27) rfl d27 hasA_base))) (ov_len 5 rfl F_slice_54 rfl hr3) rfl rfl (onlyT_spec (k0 := 28) rfl rfl rfl)
                    · intro done hi hc hcu
                      have d23 : done 23 = true := done_of (j := 23) hcu rfl (by decide) rfl
                      have d28 : done 28 = true := done_of (j := 28) hcu rfl (by decide) rfl
                      have d21 : done 21 = true := done_of (j := 21) hcu rfl (by decide) rfl
                      exact draw_value (i := 29) (t := 100) (v := (Value.bool (x11 != (v2.2.2.length : Int)))) rfl rfl (wanted_on rfl rfl rfl rfl) (fun a => (hasA_cons (k := 21) rfl d21 (hasA_cons (k := 28) rfl d28 (hasA_cons (k := 23) rfl d23 hasA_base)))) (ov_bin rfl rfl (b_neq _ _ _)) rfl rfl (onlyT_spec (k0 := 29) rfl rfl rfl)
                    · intro done hi hc hcu
                      have d21 : done 21 = true := done_of (j := 21) hcu rfl (by decide) rfl
                      have d29 : done 29 = true := done_of (j := 29) hcu rfl (by decide) rfl
                      exact draw_value (i := 30) (t := 101) (v := (Value.bool (x11 != (v2.2.2.length : Int)))) rfl rfl (wanted_none rfl) (fun a => (hasA_cons (k := 29) rfl d29 (hasA_cons (k := 21) rfl d21 hasA_base))) (ov_pick rfl rfl rfl rfl) rfl rfl (onlyT_spec (k0 := 30) rfl rfl rfl)
                  · intro done hall
                    refine draw_endL [(box b7 51 [(Value.int .i64 x9.1), (str x9.2.1)]), A0, (box b1 98 [(Value.func (.func 33) #[] #[]), sv6, (Value.int .i64 v2.2.1)]), (own sv6 100 3 v2.1.length (fl enc_Pile_item__ossuaryref07_Item v2.1)), (box b4 56 [sv7]), A3] rfl (fun a => (hasA_cons (k := 0) rfl (hall 0 (by decide)) (hasA_cons (k := 1) rfl (hall 1 (by decide)) (hasA_cons (k := 2) rfl (hall 2 (by decide)) (hasA_cons (k := 3) rfl (hall 3 (by decide)) (hasA_cons (k := 4) rfl (hall 4 (by decide)) (hasA_cons (k := 5) rfl (hall 5 (by decide)) (hasA_cons (k := 6) rfl (hall 6 (by decide)) (hasA_cons (k := 7) rfl (hall 7 (by decide)) (hasA_cons (k := 8) rfl (hall 8 (by decide)) (hasA_cons (k := 9) rfl (hall 9 (by decide)) (hasA_cons (k := 10) rfl (hall 10 (by decide)) (hasA_cons (k := 11) rfl (hall 11 (by decide)) (hasA_cons (k := 12) rfl (hall 12 (by decide)) (hasA_cons (k := 13) rfl (hall 13 (by decide)) (hasA_cons (k := 14) rfl (hall 14 (by decide)) (hasA_cons (k := 15) rfl (hall 15 (by decide)) (hasA_cons (k := 16) rfl (hall 16 (by decide)) (hasA_cons (k := 17) rfl (hall 17 (by decide)) (hasA_cons (k := 18) rfl (hall 18 (by decide)) (hasA_cons (k := 19) rfl (hall 19 (by decide)) (hasA_cons (k := 20) rfl (hall 20 (by decide)) (hasA_cons (k := 21) rfl (hall 21 (by decide)) (hasA_cons (k := 22) rfl (hall 22 (by decide)) (hasA_cons (k := 23) rfl (hall 23 (by decide)) (hasA_cons (k := 24) rfl (hall 24 (by decide)) (hasA_cons (k := 25) rfl (hall 25 (by decide)) (hasA_cons (k := 26) rfl (hall 26 (by decide)) (hasA_cons (k := 27) rfl (hall 27 (by decide)) (hasA_cons (k := 28) rfl (hall 28 (by decide)) (hasA_cons (k := 29) rfl (hall 29 (by decide)) (hasA_cons (k := 30) rfl (hall 30 (by decide)) hasA_base)))))))))))))))))))))))))))))))) ?_
                    by_cases c13 : ¬ (x11 = (v2.2.2.length : Int))
                    · rw [if_pos c13] at H2
                      refine ent_cond_true rfl (ne_t c13) ?_
                      refine ent_seq ?_
                      refine ent_region ?_
                      refine ent_value (ov_assign rfl) rfl rfl rfl ?_
                      refine ent_nil ?_
                      refine ent_retc ?_
                      cases H2
                      have H11 := Option.some.inj (show some _ = some _ from H)
                      cases H11
                      refine ent_pick [1] (by decide) rfl ?_
                      exact ret_tmp rfl rfl ⟨rfl, rfl⟩
                    · rw [if_neg c13] at H2
                      refine ent_cond_false rfl (ne_f c13) ?_
                      refine ent_skip ?_
                      refine ent_region ?_
                      refine ent_value (ov_move rfl) rfl rfl rfl ?_
                      refine ent_value (ov_bin rfl rfl (b_add _ _ _) ) rfl rfl rfl ?_
                      refine ent_value (ov_assign rfl) rfl rfl rfl ?_
                      refine ent_nil ?_
                      exact ent_fin [1, 2, 3, 4, 5] (by decide) rfl (sub_cons (t := 0) rfl (sub_cons (t := 3) rfl (sub_cons (t := 4) rfl (sub_cons (t := 5) rfl (sub_nil _))))) fun a w h => ⟨k, Nat.lt_succ_self k, _, _, _, _, _, _, _, _, hr3, H2, h⟩
          · rw [if_neg c2] at H2
            refine ent_cond_false rfl (decide_eq_false c2) ?_
            refine ent_exit ?_
            cases H2
            exact ent_fin [0, 1, 2, 3, 4] (by decide) rfl (sub_cons (t := 3) rfl (sub_cons (t := 4) rfl (sub_nil _))) fun a w h => ⟨_, rfl, _, _, _, _, hr2, h⟩
    · refine ent_exi fun v1 => ent_and fun e_ => ?_
      subst e_
      replace H := show _ = _ from H
      refine ent_exi fun sv1 => ent_exi fun b3 => ent_exi fun A1 => ent_exi fun sv2 => ent_and fun hr1 => ?_
      refine ent_seq ?_
      obtain ⟨x12, h10, H⟩ := Option.bind_eq_some_iff.1 H
      obtain ⟨x13, h11, H⟩ := Option.bind_eq_some_iff.1 H
      by_cases c14 : x13 = true
      · rw [if_pos c14] at H
        obtain ⟨x14, h12, H⟩ := thn_elim H
        by_cases c15 : x14 = (v1.2.2.length : Int)
        · rw [if_pos c15] at H
          obtain ⟨x15, h13, H⟩ := Option.bind_eq_some_iff.1 H
          refine ent_drawm 21 rfl (fun done a w => ∃ ga1 : Nat → Value, StD 122 w0 F [(3, (pt b1 0)), (4, (pt b3 0))] [(0, 102, (pt b1 0)), (1, 103, (ga1 1)), (2, 104, (pt b3 0)), (3, 105, (pt b3 0)), (4, 106, (pt b3 0)), (5, 107, sv2), (6, 108, (Value.bool x13)), (7, 109, (Value.bool x13)), (8, 110, (pt b1 0)), (9, 111, (Value.int .i64 x14)), (10, 112, (pt b3 0)), (11, 113, (pt b3 0)), (12, 114, (pt b3 0)), (13, 115, sv2), (14, 116, (Value.int .i64 (v1.2.2.length : Int))), (15, 117, (Value.bool (x14 == (v1.2.2.length : Int)))), (16, 118, (Value.bool (x14 == (v1.2.2.length : Int)))), (17, 119, (Value.bool (x14 == (v1.2.2.length : Int)))), (18, 120, (Value.bool x15)), (19, 121, (Value.bool x15)), (20, 2, (Value.bool x15))] done [(sel (done 1) (own (ga1 1) 51 2 x12.length (fl enc_Ossuaryref07_Item x12)) emp), A0, (box b1 98 [(Value.func (.func 33) #[] #[]), sv1, (Value.int .i64 v1.2.1)]), (own sv1 100 3 v1.1.length (fl enc_Pile_item__ossuaryref07_Item v1.1)), (box b3 56 [sv2]), A1] a w) (by kernel_rfl) (by kernel_rfl) (draw_startG (T := (fun ga1 : Nat → Value => [(0, 102, (pt b1 0)), (1, 103, (ga1 1)), (2, 104, (pt b3 0)), (3, 105, (pt b3 0)), (4, 106, (pt b3 0)), (5, 107, sv2), (6, 108, (Value.bool x13)), (7, 109, (Value.bool x13)), (8, 110, (pt b1 0)), (9, 111, (Value.int .i64 x14)), (10, 112, (pt b3 0)), (11, 113, (pt b3 0)), (12, 114, (pt b3 0)), (13, 115, sv2), (14, 116, (Value.int .i64 (v1.2.2.length : Int))), (15, 117, (Value.bool (x14 == (v1.2.2.length : Int)))), (16, 118, (Value.bool (x14 == (v1.2.2.length : Int)))), (17, 119, (Value.bool (x14 == (v1.2.2.length : Int)))), (18, 120, (Value.bool x15)), (19, 121, (Value.bool x15)), (20, 2, (Value.bool x15))])) (L' := fun ga1 : Nat → Value => [(sel false (own (ga1 1) 51 2 x12.length (fl enc_Ossuaryref07_Item x12)) emp), A0, (box b1 98 [(Value.func (.func 33) #[] #[]), sv1, (Value.int .i64 v1.2.1)]), (own sv1 100 3 v1.1.length (fl enc_Pile_item__ossuaryref07_Item v1.1)), (box b3 56 [sv2]), A1]) 1 (sub_cons (t := 3) rfl (sub_cons (t := 4) rfl (sub_nil _))) (fun _ => rfl)) ?_ ?_
          · refine ⟨?_, ?_, ?_, ?_, ?_, ?_, ?_, ?_, ?_, ?_, ?_, ?_, ?_, ?_, ?_, ?_, ?_, ?_, ?_, ?_, ?_, trivial⟩
            · intro done hi hc hcu
              refine draw_exi (I := fun (ga1 : Nat → Value) done a w => StD 122 w0 F [(3, (pt b1 0)), (4, (pt b3 0))] [(0, 102, (pt b1 0)), (1, 103, (ga1 1)), (2, 104, (pt b3 0)), (3, 105, (pt b3 0)), (4, 106, (pt b3 0)), (5, 107, sv2), (6, 108, (Value.bool x13)), (7, 109, (Value.bool x13)), (8, 110, (pt b1 0)), (9, 111, (Value.int .i64 x14)), (10, 112, (pt b3 0)), (11, 113, (pt b3 0)), (12, 114, (pt b3 0)), (13, 115, sv2), (14, 116, (Value.int .i64 (v1.2.2.length : Int))), (15, 117, (Value.bool (x14 == (v1.2.2.length : Int)))), (16, 118, (Value.bool (x14 == (v1.2.2.length : Int)))), (17, 119, (Value.bool (x14 == (v1.2.2.length : Int)))), (18, 120, (Value.bool x15)), (19, 121, (Value.bool x15)), (20, 2, (Value.bool x15))] done [(sel (done 1) (own (ga1 1) 51 2 x12.length (fl enc_Ossuaryref07_Item x12)) emp), A0, (box b1 98 [(Value.func (.func 33) #[] #[]), sv1, (Value.int .i64 v1.2.1)]), (own sv1 100 3 v1.1.length (fl enc_Pile_item__ossuaryref07_Item v1.1)), (box b3 56 [sv2]), A1] a w) fun ga1 => ?_
              exact draw_value (i := 0) (t := 102) (v := (pt b1 0)) rfl rfl (wanted_none rfl) (fun a => hasA_base) (ov_move rfl) rfl rfl (onlyT_spec (k0 := 0) rfl rfl rfl)
            · intro done hi hc hcu
              refine ent_exi (S := fun ga1 => (fun (ga1 : Nat → Value) done a w => StD 122 w0 F [(3, (pt b1 0)), (4, (pt b3 0))] [(0, 102, (pt b1 0)), (1, 103, (ga1 1)), (2, 104, (pt b3 0)), (3, 105, (pt b3 0)), (4, 106, (pt b3 0)), (5, 107, sv2), (6, 108, (Value.bool x13)), (7, 109, (Value.bool x13)), (8, 110, (pt b1 0)), (9, 111, (Value.int .i64 x14)), (10, 112, (pt b3 0)), (11, 113, (pt b3 0)), (12, 114, (pt b3 0)), (13, 115, sv2), (14, 116, (Value.int .i64 (v1.2.2.length : Int))), (15, 117, (Value.bool (x14 == (v1.2.2.length : Int)))), (16, 118, (Value.bool (x14 == (v1.2.2.length : Int)))), (17, 119, (Value.bool (x14 == (v1.2.2.length : Int)))), (18, 120, (Value.bool x15)), (19, 121, (Value.bool x15)), (20, 2, (Value.bool x15))] done [(sel (done 1) (own (ga1 1) 51 2 x12.length (fl enc_Ossuaryref07_Item x12)) emp), A0, (box b1 98 [(Value.func (.func 33) #[] #[]), sv1, (Value.int .i64 v1.2.1)]), (own sv1 100 3 v1.1.length (fl enc_Pile_item__ossuaryref07_Item v1.1)), (box b3 56 [sv2]), A1] a w) ga1 done) fun ga1 => ?_
              have d0 : done 0 = true := done_of (j := 0) hcu rfl (by decide) rfl
              refine draw_turnP (i := 1) (t := 103) (x := ga1) (L := (fun (ga1 : Nat → Value) (done : Nat → Bool) => [(sel (done 1) (own (ga1 1) 51 2 x12.length (fl enc_Ossuaryref07_Item x12)) emp), A0, (box b1 98 [(Value.func (.func 33) #[] #[]), sv1, (Value.int .i64 v1.2.1)]), (own sv1 100 3 v1.1.length (fl enc_Pile_item__ossuaryref07_Item v1.1)), (box b3 56 [sv2]), A1])) (T := (fun ga1 : Nat → Value => [(0, 102, (pt b1 0)), (1, 103, (ga1 1)), (2, 104, (pt b3 0)), (3, 105, (pt b3 0)), (4, 106, (pt b3 0)), (5, 107, sv2), (6, 108, (Value.bool x13)), (7, 109, (Value.bool x13)), (8, 110, (pt b1 0)), (9, 111, (Value.int .i64 x14)), (10, 112, (pt b3 0)), (11, 113, (pt b3 0)), (12, 114, (pt b3 0)), (13, 115, sv2), (14, 116, (Value.int .i64 (v1.2.2.length : Int))), (15, 117, (Value.bool (x14 == (v1.2.2.length : Int)))), (16, 118, (Value.bool (x14 == (v1.2.2.length : Int)))), (17, 119, (Value.bool (x14 == (v1.2.2.length : Int)))), (18, 120, (Value.bool x15)), (19, 121, (Value.bool x15)), (20, 2, (Value.bool x15))])) (L2 := [emp, A0, (box b1 98 [(Value.func (.func 33) #[] #[]), sv1, (Value.int .i64 v1.2.1)]), (own sv1 100 3 v1.1.length (fl enc_Pile_item__ossuaryref07_Item v1.1)), (box b3 56 [sv2]), A1]) [2, 3, 0, 1, 4, 5] [2, 4, 0, 1, 5, 6] rfl rfl (wanted_none rfl) (fun a => (hasA_cons (k := 0) rfl d0 hasA_base)) (by simp only [hi, sel]) (by decide) rfl (ot_call (Lr := [emp, A0, (box b3 56 [sv2]), A1]) (first := []) (cap := []) (xs := [.tmp 102]) rfl rfl F_call_41 rfl (pile_Pile__ossuaryref07_Item_Sorted.spec K b1 sv1 v1.1 v1.2.1 _ h10) rfl) (by decide) rfl rfl ?_
              rintro g0_ _ ⟨_, ⟨_, rfl, rfl⟩, rfl⟩
              exact ⟨(upb ga1 1 g0_), show some [(own g0_ 51 2 x12.length (fl enc_Ossuaryref07_Item x12)), A0, (box b1 98 [(Value.func (.func 33) #[] #[]), sv1, (Value.int .i64 v1.2.1)]), (own sv1 100 3 v1.1.length (fl enc_Pile_item__ossuaryref07_Item v1.1)), (box b3 56 [sv2]), A1] = _ by simp [up, upb, sel, hi], (tr_same rfl rfl (tr_this (tr_same rfl rfl (tr_same rfl rfl (tr_same rfl rfl (tr_same rfl rfl (tr_same rfl rfl (tr_same rfl rfl (tr_same rfl rfl (tr_same rfl rfl (tr_same rfl rfl (tr_same rfl rfl (tr_same rfl rfl (tr_same rfl rfl (tr_same rfl rfl (tr_same rfl rfl (tr_same rfl rfl (tr_same rfl rfl (tr_same rfl rfl (tr_same rfl rfl (tr_same rfl rfl tr_nil)))))))))))))))))))))⟩
            · intro done hi hc hcu
              refine draw_exi (I := fun (ga1 : Nat → Value) done a w => StD 122 w0 F [(3, (pt b1 0)), (4, (pt b3 0))] [(0, 102, (pt b1 0)), (1, 103, (ga1 1)), (2, 104, (pt b3 0)), (3, 105, (pt b3 0)), (4, 106, (pt b3 0)), (5, 107, sv2), (6, 108, (Value.bool x13)), (7, 109, (Value.bool x13)), (8, 110, (pt b1 0)), (9, 111, (Value.int .i64 x14)), (10, 112, (pt b3 0)), (11, 113, (pt b3 0)), (12, 114, (pt b3 0)), (13, 115, sv2), (14, 116, (Value.int .i64 (v1.2.2.length : Int))), (15, 117, (Value.bool (x14 == (v1.2.2.length : Int)))), (16, 118, (Value.bool (x14 == (v1.2.2.length : Int)))), (17, 119, (Value.bool (x14 == (v1.2.2.length : Int)))), (18, 120, (Value.bool x15)), (19, 121, (Value.bool x15)), (20, 2, (Value.bool x15))] done [(sel (done 1) (own (ga1 1) 51 2 x12.length (fl enc_Ossuaryref07_Item x12)) emp), A0, (box b1 98 [(Value.func (.func 33) #[] #[]), sv1, (Value.int .i64 v1.2.1)]), (own sv1 100 3 v1.1.length (fl enc_Pile_item__ossuaryref07_Item v1.1)), (box b3 56 [sv2]), A1] a w) fun ga1 => ?_
              exact draw_value (i := 2) (t := 104) (v := (pt b3 0)) rfl rfl (wanted_none rfl) (fun a => hasA_base) (ov_move rfl) rfl rfl (onlyT_spec (k0 := 2) rfl rfl rfl)
            · intro done hi hc hcu
              refine draw_exi (I := fun (ga1 : Nat → Value) done a w => StD 122 w0 F [(3, (pt b1 0)), (4, (pt b3 0))] [(0, 102, (pt b1 0)), (1, 103, (ga1 1)), (2, 104, (pt b3 0)), (3, 105, (pt b3 0)), (4, 106, (pt b3 0)), (5, 107, sv2), (6, 108, (Value.bool x13)), (7, 109, (Value.bool x13)), (8, 110, (pt b1 0)), (9, 111, (Value.int .i64 x14)), (10, 112, (pt b3 0)), (11, 113, (pt b3 0)), (12, 114, (pt b3 0)), (13, 115, sv2), (14, 116, (Value.int .i64 (v1.2.2.length : Int))), (15, 117, (Value.bool (x14 == (v1.2.2.length : Int)))), (16, 118, (Value.bool (x14 == (v1.2.2.length : Int)))), (17, 119, (Value.bool (x14 == (v1.2.2.length : Int)))), (18, 120, (Value.bool x15)), (19, 121, (Value.bool x15)), (20, 2, (Value.bool x15))] done [(sel (done 1) (own (ga1 1) 51 2 x12.length (fl enc_Ossuaryref07_Item x12)) emp), A0, (box b1 98 [(Value.func (.func 33) #[] #[]), sv1, (Value.int .i64 v1.2.1)]), (own sv1 100 3 v1.1.length (fl enc_Pile_item__ossuaryref07_Item v1.1)), (box b3 56 [sv2]), A1] a w) fun ga1 => ?_
              have d2 : done 2 = true := done_of (j := 2) hcu rfl (by decide) rfl
              exact draw_value (i := 3) (t := 105) (v := (pt b3 0)) rfl rfl (wanted_none rfl) (fun a => (hasA_cons (k := 2) rfl d2 hasA_base)) (ov_nilCheck rfl) rfl rfl (onlyT_spec (k0 := 3) rfl rfl rfl)
            · intro done hi hc hcu
              refine draw_exi (I := fun (ga1 : Nat → Value) done a w => StD 122 w0 F [(3, (pt b1 0)), (4, (pt b3 0))] [(0, 102, (pt b1 0)), (1, 103, (ga1 1)), (2, 104, (pt b3 0)), (3, 105, (pt b3 0)), (4, 106, (pt b3 0)), (5, 107, sv2), (6, 108, (Value.bool x13)), (7, 109, (Value.bool x13)), (8, 110, (pt b1 0)), (9, 111, (Value.int .i64 x14)), (10, 112, (pt b3 0)), (11, 113, (pt b3 0)), (12, 114, (pt b3 0)), (13, 115, sv2), (14, 116, (Value.int .i64 (v1.2.2.length : Int))), (15, 117, (Value.bool (x14 == (v1.2.2.length : Int)))), (16, 118, (Value.bool (x14 == (v1.2.2.length : Int)))), (17, 119, (Value.bool (x14 == (v1.2.2.length : Int)))), (18, 120, (Value.bool x15)), (19, 121, (Value.bool x15)), (20, 2, (Value.bool x15))] done [(sel (done 1) (own (ga1 1) 51 2 x12.length (fl enc_Ossuaryref07_Item x12)) emp), A0, (box b1 98 [(Value.func (.func 33) #[] #[]), sv1, (Value.int .i64 v1.2.1)]), (own sv1 100 3 v1.1.length (fl enc_Pile_item__ossuaryref07_Item v1.1)), (box b3 56 [sv2]), A1] a w) fun ga1 => ?_
              have d3 : done 3 = true := done_of (j := 3) hcu rfl (by decide) rfl
              exact draw_value (i := 4) (t := 106) (v := (pt b3 0)) rfl rfl (wanted_none rfl) (fun a => (hasA_cons (k := 3) rfl d3 hasA_base)) (ov_fieldAddr (sz := 0) (o := 0) rfl F_field_56_0 F_size_54) rfl rfl (onlyT_spec (k0 := 4) rfl rfl rfl)
            · intro done hi hc hcu
              refine draw_exi (I := fun (ga1 : Nat → Value) done a w => StD 122 w0 F [(3, (pt b1 0)), (4, (pt b3 0))] [(0, 102, (pt b1 0)), (1, 103, (ga1 1)), (2, 104, (pt b3 0)), (3, 105, (pt b3 0)), (4, 106, (pt b3 0)), (5, 107, sv2), (6, 108, (Value.bool x13)), (7, 109, (Value.bool x13)), (8, 110, (pt b1 0)), (9, 111, (Value.int .i64 x14)), (10, 112, (pt b3 0)), (11, 113, (pt b3 0)), (12, 114, (pt b3 0)), (13, 115, sv2), (14, 116, (Value.int .i64 (v1.2.2.length : Int))), (15, 117, (Value.bool (x14 == (v1.2.2.length : Int)))), (16, 118, (Value.bool (x14 == (v1.2.2.length : Int)))), (17, 119, (Value.bool (x14 == (v1.2.2.length : Int)))), (18, 120, (Value.bool x15)), (19, 121, (Value.bool x15)), (20, 2, (Value.bool x15))] done [(sel (done 1) (own (ga1 1) 51 2 x12.length (fl enc_Ossuaryref07_Item x12)) emp), A0, (box b1 98 [(Value.func (.func 33) #[] #[]), sv1, (Value.int .i64 v1.2.1)]), (own sv1 100 3 v1.1.length (fl enc_Pile_item__ossuaryref07_Item v1.1)), (box b3 56 [sv2]), A1] a w) fun ga1 => ?_
              have d4 : done 4 = true := done_of (j := 4) hcu rfl (by decide) rfl
              exact draw_value (i := 5) (t := 107) (v := sv2) rfl rfl (wanted_none rfl) (fun a => (hasA_cons (k := 4) rfl d4 hasA_base)) (ov_load (v := sv2) rfl F_agg_54 (reads_box1 (i := 4) rfl rfl)) rfl rfl (onlyT_spec (k0 := 5) rfl rfl rfl)
            · intro done hi hc hcu
              refine draw_exi (I := fun (ga1 : Nat → Value) done a w => StD 122 w0 F [(3, (pt b1 0)), (4, (pt b3 0))] [(0, 102, (pt b1 0)), (1, 103, (ga1 1)), (2, 104, (pt b3 0)), (3, 105, (pt b3 0)), (4, 106, (pt b3 0)), (5, 107, sv2), (6, 108, (Value.bool x13)), (7, 109, (Value.bool x13)), (8, 110, (pt b1 0)), (9, 111, (Value.int .i64 x14)), (10, 112, (pt b3 0)), (11, 113, (pt b3 0)), (12, 114, (pt b3 0)), (13, 115, sv2), (14, 116, (Value.int .i64 (v1.2.2.length : Int))), (15, 117, (Value.bool (x14 == (v1.2.2.length : Int)))), (16, 118, (Value.bool (x14 == (v1.2.2.length : Int)))), (17, 119, (Value.bool (x14 == (v1.2.2.length : Int)))), (18, 120, (Value.bool x15)), (19, 121, (Value.bool x15)), (20, 2, (Value.bool x15))] done [(sel (done 1) (own (ga1 1) 51 2 x12.length (fl enc_Ossuaryref07_Item x12)) emp), A0, (box b1 98 [(Value.func (.func 33) #[] #[]), sv1, (Value.int .i64 v1.2.1)]), (own sv1 100 3 v1.1.length (fl enc_Pile_item__ossuaryref07_Item v1.1)), (box b3 56 [sv2]), A1] a w) fun ga1 => ?_
              have d1 : done 1 = true := done_of (j := 1) hcu rfl (by decide) rfl
              have d5 : done 5 = true := done_of (j := 5) hcu rfl (by decide) rfl
              exact draw_same (i := 6) (t := 108) (v := (Value.bool x13)) rfl rfl (wanted_none rfl) (fun a => (hasA_cons (k := 5) rfl d5 (hasA_cons (k := 1) rfl d1 hasA_base))) (ot_L (L2 := [(own (ga1 1) 51 2 x12.length (fl enc_Ossuaryref07_Item x12)), A0, (box b1 98 [(Value.func (.func 33) #[] #[]), sv1, (Value.int .i64 v1.2.1)]), (own sv1 100 3 v1.1.length (fl enc_Pile_item__ossuaryref07_Item v1.1)), (box b3 56 [sv2]), A1]) (by simp only [d1, sel]) (ot_call_same (Lr := [A0, (box b1 98 [(Value.func (.func 33) #[] #[]), sv1, (Value.int .i64 v1.2.1)]), (own sv1 100 3 v1.1.length (fl enc_Pile_item__ossuaryref07_Item v1.1)), (box b3 56 [sv2])]) [0, 5, 1, 2, 3, 4] [0, 2, 3, 4, 5, 1] (first := []) (cap := []) (xs := [.tmp 103, .tmp 107]) rfl rfl F_call_40 rfl (ossuaryref07_Same.spec K (ga1 1) (own (ga1 1) 51 2 x12.length (fl enc_Ossuaryref07_Item x12)) sv2 A1 x12 v1.2.2 (isRd_ownx 51) hr1 _ h11) (by decide) rfl (by decide) rfl)) rfl rfl (onlyT_spec (k0 := 6) rfl rfl rfl)
            · intro done hi hc hcu
              refine draw_exi (I := fun (ga1 : Nat → Value) done a w => StD 122 w0 F [(3, (pt b1 0)), (4, (pt b3 0))] [(0, 102, (pt b1 0)), (1, 103, (ga1 1)), (2, 104, (pt b3 0)), (3, 105, (pt b3 0)), (4, 106, (pt b3 0)), (5, 107, sv2), (6, 108, (Value.bool x13)), (7, 109, (Value.bool x13)), (8, 110, (pt b1 0)), (9, 111, (Value.int .i64 x14)), (10, 112, (pt b3 0)), (11, 113, (pt b3 0)), (12, 114, (pt b3 0)), (13, 115, sv2), (14, 116, (Value.int .i64 (v1.2.2.length : Int))), (15, 117, (Value.bool (x14 == (v1.2.2.length : Int)))), (16, 118, (Value.bool (x14 == (v1.2.2.length : Int)))), (17, 119, (Value.bool (x14 == (v1.2.2.length : Int)))), (18, 120, (Value.bool x15)), (19, 121, (Value.bool x15)), (20, 2, (Value.bool x15))] done [(sel (done 1) (own (ga1 1) 51 2 x12.length (fl enc_Ossuaryref07_Item x12)) emp), A0, (box b1 98 [(Value.func (.func 33) #[] #[]), sv1, (Value.int .i64 v1.2.1)]), (own sv1 100 3 v1.1.length (fl enc_Pile_item__ossuaryref07_Item v1.1)), (box b3 56 [sv2]), A1] a w) fun ga1 => ?_
              have d6 : done 6 = true := done_of (j := 6) hcu rfl (by decide) rfl
              exact draw_value (i := 7) (t := 109) (v := (Value.bool x13)) rfl rfl (wanted_none rfl) (fun a => (hasA_cons (k := 6) rfl d6 hasA_base)) (ov_move rfl) rfl rfl (onlyT_spec (k0 := 7) rfl rfl rfl)
            · intro done hi hc hcu
              refine draw_exi (I := fun (ga1 : Nat → Value) done a w => StD 122 w0 F [(3, (pt b1 0)), (4, (pt b3 0))] [(0, 102, (pt b1 0)), (1, 103, (ga1 1)), (2, 104, (pt b3 0)), (3, 105, (pt b3 0)), (4, 106, (pt b3 0)), (5, 107, sv2), (6, 108, (Value.bool x13)), (7, 109, (Value.bool x13)), (8, 110, (pt b1 0)), (9, 111, (Value.int .i64 x14)), (10, 112, (pt b3 0)), (11, 113, (pt b3 0)), (12, 114, (pt b3 0)), (13, 115, sv2), (14, 116, (Value.int .i64 (v1.2.2.length : Int))), (15, 117, (Value.bool (x14 == (v1.2.2.length : Int)))), (16, 118, (Value.bool (x14 == (v1.2.2.length : Int)))), (17, 119, (Value.bool (x14 == (v1.2.2.length : Int)))), (18, 120, (Value.bool x15)), (19, 121, (Value.bool x15)), (20, 2, (Value.bool x15))] done [(sel (done 1) (own (ga1 1) 51 2 x12.length (fl enc_Ossuaryref07_Item x12)) emp), A0, (box b1 98 [(Value.func (.func 33) #[] #[]), sv1, (Value.int .i64 v1.2.1)]), (own sv1 100 3 v1.1.length (fl enc_Pile_item__ossuaryref07_Item v1.1)), (box b3 56 [sv2]), A1] a w) fun ga1 => ?_
              have d7 : done 7 = true := done_of (j := 7) hcu rfl (by decide) rfl
              exact draw_value (i := 8) (t := 110) (v := (pt b1 0)) rfl rfl (wanted_on rfl rfl rfl c14) (fun a => (hasA_cons (k := 7) rfl d7 hasA_base)) (ov_move rfl) rfl rfl (onlyT_spec (k0 := 8) rfl rfl rfl)
            · intro done hi hc hcu
              refine draw_exi (I := fun (ga1 : Nat → Value) done a w => StD 122 w0 F [(3, (pt b1 0)), (4, (pt b3 0))] [(0, 102, (pt b1 0)), (1, 103, (ga1 1)), (2, 104, (pt b3 0)), (3, 105, (pt b3 0)), (4, 106, (pt b3 0)), (5, 107, sv2), (6, 108, (Value.bool x13)), (7, 109, (Value.bool x13)), (8, 110, (pt b1 0)), (9, 111, (Value.int .i64 x14)), (10, 112, (pt b3 0)), (11, 113, (pt b3 0)), (12, 114, (pt b3 0)), (13, 115, sv2), (14, 116, (Value.int .i64 (v1.2.2.length : Int))), (15, 117, (Value.bool (x14 == (v1.2.2.length : Int)))), (16, 118, (Value.bool (x14 == (v1.2.2.length : Int)))), (17, 119, (Value.bool (x14 == (v1.2.2.length : Int)))), (18, 120, (Value.bool x15)), (19, 121, (Value.bool x15)), (20, 2, (Value.bool x15))] done [(sel (done 1) (own (ga1 1) 51 2 x12.length (fl enc_Ossuaryref07_Item x12)) emp), A0, (box b1 98 [(Value.func (.func 33) #[] #[]), sv1, (Value.int .i64 v1.2.1)]), (own sv1 100 3 v1.1.length (fl enc_Pile_item__ossuaryref07_Item v1.1)), (box b3 56 [sv2]), A1] a w) fun ga1 => ?_
              have d8 : done 8 = true := done_of (j := 8) hcu rfl (by decide) rfl
              have d7 : done 7 = true := done_of (j := 7) hcu rfl (by decide) rfl
              exact draw_same (i := 9) (t := 111) (v := (Value.int .i64 x14)) rfl rfl (wanted_on rfl rfl rfl c14) (fun a => (hasA_cons (k := 7) rfl d7 (hasA_cons (k := 8) rfl d8 hasA_base))) (ot_call_same (Lr := [(sel (done 1) (own (ga1 1) 51 2 x12.length (fl enc_Ossuaryref07_Item x12)) emp), A0, (box b3 56 [sv2]), A1]) [2, 3, 0, 1, 4, 5] [2, 3, 0, 1, 4, 5] (first := []) (cap := []) (xs := [.tmp 110]) rfl rfl F_call_39 rfl (pile_Pile__ossuaryref07_Item_Len_2.spec b1 sv1 v1.1 v1.2.1 _ h12) (by decide) rfl (by decide) rfl) rfl rfl (onlyT_spec (k0 := 9) rfl rfl rfl)
            · intro done hi hc hcu
              refine draw_exi (I := fun (ga1 : Nat → Value) done a w => StD 122 w0 F [(3, (pt b1 0)), (4, (pt b3 0))] [(0, 102, (pt b1 0)), (1, 103, (ga1 1)), (2, 104, (pt b3 0)), (3, 105, (pt b3 0)), (4, 106, (pt b3 0)), (5, 107, sv2), (6, 108, (Value.bool x13)), (7, 109, (Value.bool x13)), (8, 110, (pt b1 0)), (9, 111, (Value.int .i64 x14)), (10, 112, (pt b3 0)), (11, 113, (pt b3 0)), (12, 114, (pt b3 0)), (13, 115, sv2), (14, 116, (Value.int .i64 (v1.2.2.length : Int))), (15, 117, (Value.bool (x14 == (v1.2.2.length : Int)))), (16, 118, (Value.bool (x14 == (v1.2.2.length : Int)))), (17, 119, (Value.bool (x14 == (v1.2.2.length : Int)))), (18, 120, (Value.bool x15)), (19, 121, (Value.bool x15)), (20, 2, (Value.bool x15))] done [(sel (done 1) (own (ga1 1) 51 2 x12.length (fl enc_Ossuaryref07_Item x12)) emp), A0, (box b1 98 [(Value.func (.func 33) #[] #[]), sv1, (Value.int .i64 v1.2.1)]), (own sv1 100 3 v1.1.length (fl enc_Pile_item__ossuaryref07_Item v1.1)), (box b3 56 [sv2]), A1] a w) fun ga1 => ?_
              have d7 : done 7 = true := done_of (j := 7) hcu rfl (by decide) rfl
              exact draw_value (i := 10) (t := 112) (v := (pt b3 0)) rfl rfl (wanted_on rfl rfl rfl c14) (fun a => (hasA_cons (k := 7) rfl d7 hasA_base)) (ov_move rfl) rfl rfl (onlyT_spec (k0 := 10) rfl rfl rfl)
            · intro done hi hc hcu
              refine draw_exi (I := fun (ga1 : Nat → Value) done a w => StD 122 w0 F [(3, (pt b1 0)), (4, (pt b3 0))] [(0, 102, (pt b1 0)), (1, 103, (ga1 1)), (2, 104, (pt b3 0)), (3, 105, (pt b3 0)), (4, 106, (pt b3 0)), (5, 107, sv2), (6, 108, (Value.bool x13)), (7, 109, (Value.bool x13)), (8, 110, (pt b1 0)), (9, 111, (Value.int .i64 x14)), (10, 112, (pt b3 0)), (11, 113, (pt b3 0)), (12, 114, (pt b3 0)), (13, 115, sv2), (14, 116, (Value.int .i64 (v1.2.2.length : Int))), (15, 117, (Value.bool (x14 == (v1.2.2.length : Int)))), (16, 118, (Value.bool (x14 == (v1.2.2.length : Int)))), (17, 119, (Value.bool (x14 == (v1.2.2.length : Int)))), (18, 120, (Value.bool x15)), (19, 121, (Value.bool x15)), (20, 2, (Value.bool x15))] done [(sel (done 1) (own (ga1 1) 51 2 x12.length (fl enc_Ossuaryref07_Item x12)) emp), A0, (box b1 98 [(Value.func (.func 33) #[] #[]), sv1, (Value.int .i64 v1.2.1)]), (own sv1 100 3 v1.1.length (fl enc_Pile_item__ossuaryref07_Item v1.1)), (box b3 56 [sv2]), A1] a w) fun ga1 => ?_
              have d10 : done 10 = true := done_of (j := 10) hcu rfl (by decide) rfl
              have d7 : done 7 = true := done_of (j := 7) hcu rfl (by decide) rfl
              exact draw_value (i := 11) (t := 113) (v := (pt b3 0)) rfl rfl (wanted_on rfl rfl rfl c14) (fun a => (hasA_cons (k := 7) rfl d7 (hasA_cons (k := 10) rfl d10 hasA_base))) (ov_nilCheck rfl) rfl rfl (onlyT_spec (k0 := 11) rfl rfl rfl)
            · intro done hi hc hcu
              refine draw_exi (I := fun (ga1 : Nat → Value) done a w => StD 122 w0 F [(3, (pt b1 0)), (4, (pt b3 0))] [(0, 102, (pt b1 0)), (1, 103, (ga1 1)), (2, 104, (pt b3 0)), (3, 105, (pt b3 0)), (4, 106, (pt b3 0)), (5, 107, sv2), (6, 108, (Value.bool x13)), (7, 109, (Value.bool x13)), (8, 110, (pt b1 0)), (9, 111, (Value.int .i64 x14)), (10, 112, (pt b3 0)), (11, 113, (pt b3 0)), (12, 114, (pt b3 0)), (13, 115, sv2), (14, 116, (Value.int .i64 (v1.2.2.length : Int))), (15, 117, (Value.bool (x14 == (v1.2.2.length : Int)))), (16, 118, (Value.bool (x14 == (v1.2.2.length : Int)))), (17, 119, (Value.bool (x14 == (v1.2.2.length : Int)))), (18, 120, (Value.bool x15)), (19, 121, (Value.bool x15)), (20, 2, (Value.bool x15))] done [(sel (done 1) (own (ga1 1) 51 2 x12.length (fl enc_Ossuaryref07_Item x12)) emp), A0, (box b1 98 [(Value.func (.func 33) #[] #[]), sv1, (Value.int .i64 v1.2.1)]), (own sv1 100 3 v1.1.length (fl enc_Pile_item__ossuaryref07_Item v1.1)), (box b3 56 [sv2]), A1] a w) fun ga1 => ?_
              have d11 : done 11 = true := done_of (j := 11) hcu rfl (by decide) rfl
              have d7 : done 7 = true := done_of (j := 7) hcu rfl (by decide) rfl
              exact draw_value (i := 12) (t := 114) (v := (pt b3 0)) rfl rfl (wanted_on rfl rfl rfl c14) (fun a => (hasA_cons (k := 7) rfl d7 (hasA_cons (k := 11) rfl d11 hasA_base))) (ov_fieldAddr (sz := 0) (o := 0) rfl F_field_56_0 F_size_54) rfl rfl (onlyT_spec (k0 := 12) rfl rfl rfl)
            · intro done hi hc hcu
              refine draw_exi (I := fun (ga1 : Nat → Value) done a w => StD 122 w0 F [(3, (pt b1 0)), (4, (pt b3 0))] [(0, 102, (pt b1 0)), (1, 103, (ga1 1)), (2, 104, (pt b3 0)), (3, 105, (pt b3 0)), (4, 106, (pt b3 0)), (5, 107, sv2), (6, 108, (Value.bool x13)), (7, 109, (Value.bool x13)), (8, 110, (pt b1 0)), (9, 111, (Value.int .i64 x14)), (10, 112, (pt b3 0)), (11, 113, (pt b3 0)), (12, 114, (pt b3 0)), (13, 115, sv2), (14, 116, (Value.int .i64 (v1.2.2.length : Int))), (15, 117, (Value.bool (x14 == (v1.2.2.length : Int)))), (16, 118, (Value.bool (x14 == (v1.2.2.length : Int)))), (17, 119, (Value.bool (x14 == (v1.2.2.length : Int)))), (18, 120, (Value.bool x15)), (19, 121, (Value.bool x15)), (20, 2, (Value.bool x15))] done [(sel (done 1) (own (ga1 1) 51 2 x12.length (fl enc_Ossuaryref07_Item x12)) emp), A0, (box b1 98 [(Value.func (.func 33) #[] #[]), sv1, (Value.int .i64 v1.2.1)]), (own sv1 100 3 v1.1.length (fl enc_Pile_item__ossuaryref07_Item v1.1)), (box b3 56 [sv2]), A1] a w) fun ga1 => ?_
              have d12 : done 12 = true := done_of (j := 12) hcu rfl (by decide) rfl
              have d7 : done 7 = true := done_of (j := 7) hcu rfl (by decide) rfl
              exact draw_value (i := 13) (t := 115) (v := sv2) rfl rfl (wanted_on rfl rfl rfl c14) (fun a => (hasA_cons (k := 7) rfl d7 (hasA_cons (k := 12) rfl d12 hasA_base))) (ov_load (v := sv2) rfl F_agg_54 (reads_box1 (i := 4) rfl rfl)) rfl rfl (onlyT_spec (k0 := 13) rfl rfl rfl)
            · intro done hi hc hcu
              refine draw_exi (I := fun (ga1 : Nat → Value) done a w => StD 122 w0 F [(3, (pt b1 0)), (4, (pt b3 0))] [(0, 102, (pt b1 0)), (1, 103, (ga1 1)), (2, 104, (pt b3 0)), (3, 105, (pt b3 0)), (4, 106, (pt b3 0)), (5, 107, sv2), (6, 108, (Value.bool x13)), (7, 109, (Value.bool x13)), (8, 110, (pt b1 0)), (9, 111, (Value.int .i64 x14)), (10, 112, (pt b3 0)), (11, 113, (pt b3 0)), (12, 114, (pt b3 0)), (13, 115, sv2), (14, 116, (Value.int .i64 (v1.2.2.length : Int))), (15, 117, (Value.bool (x14 == (v1.2.2.length : Int)))), (16, 118, (Value.bool (x14 == (v1.2.2.length : Int)))), (17, 119, (Value.bool (x14 == (v1.2.2.length : Int)))), (18, 120, (Value.bool x15)), (19, 121, (Value.bool x15)), (20, 2, (Value.bool x15))] done [(sel (done 1) (own (ga1 1) 51 2 x12.length (fl enc_Ossuaryref07_Item x12)) emp), A0, (box b1 98 [(Value.func (.func 33) #[] #[]), sv1, (Value.int .i64 v1.2.1)]), (own sv1 100 3 v1.1.length (fl enc_Pile_item__ossuaryref07_Item v1.1)), (box b3 56 [sv2]), A1] a w) fun ga1 => ?_
              have d13 : done 13 = true := done_of (j := 13) hcu rfl (by decide) rfl
              have d7 : done 7 = true := done_of (j := 7) hcu rfl (by decide) rfl
              exact draw_value (i := 14) (t := 116) (v := (Value.int .i64 (v1.2.2.length : Int))) rfl rfl (wanted_on rfl rfl rfl c14) (fun a => (hasA_cons (k := 7) rfl d7 (hasA_cons (k := 13) rfl d13 hasA_base))) (ov_len 5 rfl F_slice_54 rfl hr1) rfl rfl (onlyT_spec (k0 := 14) rfl rfl rfl)
            · intro done hi hc hcu
              refine draw_exi (I := fun (ga1 : Nat → Value) done a w => StD 122 w0 F [(3, (pt b1 0)), (4, (pt b3 0))] [(0, 102, (pt b1 0)), (1, 103, (ga1 1)), (2, 104, (pt b3 0)), (3, 105, (pt b3 0)), (4, 106, (pt b3 0)), (5, 107, sv2), (6, 108, (Value.bool x13)), (7, 109, (Value.bool x13)), (8, 110, (pt b1 0)), (9, 111, (Value.int .i64 x14)), (10, 112, (pt b3 0)), (11, 113, (pt b3 0)), (12, 114, (pt b3 0)), (13, 115, sv2), (14, 116, (Value.int .i64 (v1.2.2.length : Int))), (15, 117, (Value.bool (x14 == (v1.2.2.length : Int)))), (16, 118, (Value.bool (x14 == (v1.2.2.length : Int)))), (17, 119, (Value.bool (x14 == (v1.2.2.length : Int)))), (18, 120, (Value.bool x15)), (19, 121, (Value.bool x15)), (20, 2, (Value.bool x15))] done [(sel (done 1) (own (ga1 1) 51 2 x12.length (fl enc_Ossuaryref07_Item x12)) emp), A0, (box b1 98 [(Value.func (.func 33) #[] #[]), sv1, (Value.int .i64 v1.2.1)]), (own sv1 100 3 v1.1.length (fl enc_Pile_item__ossuaryref07_Item v1.1)), (box b3 56 [sv2]), A1] a w) fun ga1 => ?_
              have d9 : done 9 = true := done_of (j := 9) hcu rfl (by decide) rfl
              have d14 : done 14 = true := done_of (j := 14) hcu rfl (by decide) rfl
              have d7 : done 7 = true := done_of (j := 7) hcu rfl (by decide) rfl
              exact draw_value (i := 15) (t := 117) (v := (Value.bool (x14 == (v1.2.2.length : Int)))) rfl rfl (wanted_on rfl rfl rfl c14) (fun a => (hasA_cons (k := 7) rfl d7 (hasA_cons (k := 14) rfl d14 (hasA_cons (k := 9) rfl d9 hasA_base)))) (ov_bin rfl rfl (b_eql _ _ _)) rfl rfl (onlyT_spec (k0 := 15) rfl rfl rfl)
            · intro done hi hc hcu
              refine draw_exi (I := fun (ga1 : Nat → Value) done a w => StD 122 w0 F [(3, (pt b1 0)), (4, (pt b3 0))] [(0, 102, (pt b1 0)), (1, 103, (ga1 1)), (2, 104, (pt b3 0)), (3, 105, (pt b3 0)), (4, 106, (pt b3 0)), (5, 107, sv2), (6, 108, (Value.bool x13)), (7, 109, (Value.bool x13)), (8, 110, (pt b1 0)), (9, 111, (Value.int .i64 x14)), (10, 112, (pt b3 0)), (11, 113, (pt b3 0)), (12, 114, (pt b3 0)), (13, 115, sv2), (14, 116, (Value.int .i64 (v1.2.2.length : Int))), (15, 117, (Value.bool (x14 == (v1.2.2.length : Int)))), (16, 118, (Value.bool (x14 == (v1.2.2.length : Int)))), (17, 119, (Value.bool (x14 == (v1.2.2.length : Int)))), (18, 120, (Value.bool x15)), (19, 121, (Value.bool x15)), (20, 2, (Value.bool x15))] done [(sel (done 1) (own (ga1 1) 51 2 x12.length (fl enc_Ossuaryref07_Item x12)) emp), A0, (box b1 98 [(Value.func (.func 33) #[] #[]), sv1, (Value.int .i64 v1.2.1)]), (own sv1 100 3 v1.1.length (fl enc_Pile_item__ossuaryref07_Item v1.1)), (box b3 56 [sv2]), A1] a w) fun ga1 => ?_
              have d7 : done 7 = true := done_of (j := 7) hcu rfl (by decide) rfl
              have d15 : done 15 = true := done_of (j := 15) hcu rfl (by decide) rfl
              exact draw_value (i := 16) (t := 118) (v := (Value.bool (x14 == (v1.2.2.length : Int)))) rfl rfl (wanted_none rfl) (fun a => (hasA_cons (k := 15) rfl d15 (hasA_cons (k := 7) rfl d7 hasA_base))) (ov_pick rfl rfl rfl (pick_t c14)) rfl rfl (onlyT_spec (k0 := 16) rfl rfl rfl)
            · intro done hi hc hcu
              refine draw_exi (I := fun (ga1 : Nat → Value) done a w => StD 122 w0 F [(3, (pt b1 0)), (4, (pt b3 0))] [(0, 102, (pt b1 0)), (1, 103, (ga1 1)), (2, 104, (pt b3 0)), (3, 105, (pt b3 0)), (4, 106, (pt b3 0)), (5, 107, sv2), (6, 108, (Value.bool x13)), (7, 109, (Value.bool x13)), (8, 110, (pt b1 0)), (9, 111, (Value.int .i64 x14)), (10, 112, (pt b3 0)), (11, 113, (pt b3 0)), (12, 114, (pt b3 0)), (13, 115, sv2), (14, 116, (Value.int .i64 (v1.2.2.length : Int))), (15, 117, (Value.bool (x14 == (v1.2.2.length : Int)))), (16, 118, (Value.bool (x14 == (v1.2.2.length : Int)))), (17, 119, (Value.bool (x14 == (v1.2.2.length : Int)))), (18, 120, (Value.bool x15)), (19, 121, (Value.bool x15)), (20, 2, (Value.bool x15))] done [(sel (done 1) (own (ga1 1) 51 2 x12.length (fl enc_Ossuaryref07_Item x12)) emp), A0, (box b1 98 [(Value.func (.func 33) #[] #[]), sv1, (Value.int .i64 v1.2.1)]), (own sv1 100 3 v1.1.length (fl enc_Pile_item__ossuaryref07_Item v1.1)), (box b3 56 [sv2]), A1] a w) fun ga1 => ?_
              have d16 : done 16 = true := done_of (j := 16) hcu rfl (by decide) rfl
              exact draw_value (i := 17) (t := 119) (v := (Value.bool (x14 == (v1.2.2.length : Int)))) rfl rfl (wanted_none rfl) (fun a => (hasA_cons (k := 16) rfl d16 hasA_base)) (ov_move rfl) rfl rfl (onlyT_spec (k0 := 17) rfl rfl rfl)
            · intro done hi hc hcu
              refine draw_exi (I := fun (ga1 : Nat → Value) done a w => StD 122 w0 F [(3, (pt b1 0)), (4, (pt b3 0))] [(0, 102, (pt b1 0)), (1, 103, (ga1 1)), (2, 104, (pt b3 0)), (3, 105, (pt b3 0)), (4, 106, (pt b3 0)), (5, 107, sv2), (6, 108, (Value.bool x13)), (7, 109, (Value.bool x13)), (8, 110, (pt b1 0)), (9, 111, (Value.int .i64 x14)), (10, 112, (pt b3 0)), (11, 113, (pt b3 0)), (12, 114, (pt b3 0)), (13, 115, sv2), (14, 116, (Value.int .i64 (v1.2.2.length : Int))), (15, 117, (Value.bool (x14 == (v1.2.2.length : Int)))), (16, 118, (Value.bool (x14 == (v1.2.2.length : Int)))), (17, 119, (Value.bool (x14 == (v1.2.2.length : Int)))), (18, 120, (Value.bool x15)), (19, 121, (Value.bool x15)), (20, 2, (Value.bool x15))] done [(sel (done 1) (own (ga1 1) 51 2 x12.length (fl enc_Ossuaryref07_Item x12)) emp), A0, (box b1 98 [(Value.func (.func 33) #[] #[]), sv1, (Value.int .i64 v1.2.1)]), (own sv1 100 3 v1.1.length (fl enc_Pile_item__ossuaryref07_Item v1.1)), (box b3 56 [sv2]), A1] a w) fun ga1 => ?_
              have d17 : done 17 = true := done_of (j := 17) hcu rfl (by decide) rfl
              exact draw_same (i := 18) (t := 120) (v := (Value.bool x15)) rfl rfl (wanted_on rfl rfl rfl (eq_t c15)) (fun a => (hasA_cons (k := 17) rfl d17 hasA_base)) (ot_call0 (first := []) (cap := []) (xs := []) rfl rfl F_call_31 rfl (ossuarylaw07_alive.spec K _ h13)) rfl rfl (onlyT_spec (k0 := 18) rfl rfl rfl)
            · intro done hi hc hcu
              refine draw_exi (I := fun (ga1 : Nat → Value) done a w => StD 122 w0 F [(3, (pt b1 0)), (4, (pt b3 0))] [(0, 102, (pt b1 0)), (1, 103, (ga1 1)), (2, 104, (pt b3 0)), (3, 105, (pt b3 0)), (4, 106, (pt b3 0)), (5, 107, sv2), (6, 108, (Value.bool x13)), (7, 109, (Value.bool x13)), (8, 110, (pt b1 0)), (9, 111, (Value.int .i64 x14)), (10, 112, (pt b3 0)), (11, 113, (pt b3 0)), (12, 114, (pt b3 0)), (13, 115, sv2), (14, 116, (Value.int .i64 (v1.2.2.length : Int))), (15, 117, (Value.bool (x14 == (v1.2.2.length : Int)))), (16, 118, (Value.bool (x14 == (v1.2.2.length : Int)))), (17, 119, (Value.bool (x14 == (v1.2.2.length : Int)))), (18, 120, (Value.bool x15)), (19, 121, (Value.bool x15)), (20, 2, (Value.bool x15))] done [(sel (done 1) (own (ga1 1) 51 2 x12.length (fl enc_Ossuaryref07_Item x12)) emp), A0, (box b1 98 [(Value.func (.func 33) #[] #[]), sv1, (Value.int .i64 v1.2.1)]), (own sv1 100 3 v1.1.length (fl enc_Pile_item__ossuaryref07_Item v1.1)), (box b3 56 [sv2]), A1] a w) fun ga1 => ?_
              have d17 : done 17 = true := done_of (j := 17) hcu rfl (by decide) rfl
              have d18 : done 18 = true := done_of (j := 18) hcu rfl (by decide) rfl
              exact draw_value (i := 19) (t := 121) (v := (Value.bool x15)) rfl rfl (wanted_none rfl) (fun a => (hasA_cons (k := 18) rfl d18 (hasA_cons (k := 17) rfl d17 hasA_base))) (ov_pick rfl rfl rfl (pick_t (eq_t c15))) rfl rfl (onlyT_spec (k0 := 19) rfl rfl rfl)
            · intro done hi hc hcu
              refine draw_exi (I := fun (ga1 : Nat → Value) done a w => StD 122 w0 F [(3, (pt b1 0)), (4, (pt b3 0))] [(0, 102, (pt b1 0)), (1, 103, (ga1 1)), (2, 104, (pt b3 0)), (3, 105, (pt b3 0)), (4, 106, (pt b3 0)), (5, 107, sv2), (6, 108, (Value.bool x13)), (7, 109, (Value.bool x13)), (8, 110, (pt b1 0)), (9, 111, (Value.int .i64 x14)), (10, 112, (pt b3 0)), (11, 113, (pt b3 0)), (12, 114, (pt b3 0)), (13, 115, sv2), (14, 116, (Value.int .i64 (v1.2.2.length : Int))), (15, 117, (Value.bool (x14 == (v1.2.2.length : Int)))), (16, 118, (Value.bool (x14 == (v1.2.2.length : Int)))), (17, 119, (Value.bool (x14 == (v1.2.2.length : Int)))), (18, 120, (Value.bool x15)), (19, 121, (Value.bool x15)), (20, 2, (Value.bool x15))] done [(sel (done 1) (own (ga1 1) 51 2 x12.length (fl enc_Ossuaryref07_Item x12)) emp), A0, (box b1 98 [(Value.func (.func 33) #[] #[]), sv1, (Value.int .i64 v1.2.1)]), (own sv1 100 3 v1.1.length (fl enc_Pile_item__ossuaryref07_Item v1.1)), (box b3 56 [sv2]), A1] a w) fun ga1 => ?_
              have d19 : done 19 = true := done_of (j := 19) hcu rfl (by decide) rfl
              exact draw_value (i := 20) (t := 2) (v := (Value.bool x15)) rfl rfl (wanted_none rfl) (fun a => (hasA_cons (k := 19) rfl d19 hasA_base)) (ov_assign rfl) rfl rfl (onlyT_spec (k0 := 20) rfl rfl rfl)
          · intro done hall
            refine ent_exi (S := fun ga1 => (fun (ga1 : Nat → Value) done a w => StD 122 w0 F [(3, (pt b1 0)), (4, (pt b3 0))] [(0, 102, (pt b1 0)), (1, 103, (ga1 1)), (2, 104, (pt b3 0)), (3, 105, (pt b3 0)), (4, 106, (pt b3 0)), (5, 107, sv2), (6, 108, (Value.bool x13)), (7, 109, (Value.bool x13)), (8, 110, (pt b1 0)), (9, 111, (Value.int .i64 x14)), (10, 112, (pt b3 0)), (11, 113, (pt b3 0)), (12, 114, (pt b3 0)), (13, 115, sv2), (14, 116, (Value.int .i64 (v1.2.2.length : Int))), (15, 117, (Value.bool (x14 == (v1.2.2.length : Int)))), (16, 118, (Value.bool (x14 == (v1.2.2.length : Int)))), (17, 119, (Value.bool (x14 == (v1.2.2.length : Int)))), (18, 120, (Value.bool x15)), (19, 121, (Value.bool x15)), (20, 2, (Value.bool x15))] done [(sel (done 1) (own (ga1 1) 51 2 x12.length (fl enc_Ossuaryref07_Item x12)) emp), A0, (box b1 98 [(Value.func (.func 33) #[] #[]), sv1, (Value.int .i64 v1.2.1)]), (own sv1 100 3 v1.1.length (fl enc_Pile_item__ossuaryref07_Item v1.1)), (box b3 56 [sv2]), A1] a w) ga1 done) fun ga1 => ?_
            refine draw_endL [(own (ga1 1) 51 2 x12.length (fl enc_Ossuaryref07_Item x12)), A0, (box b1 98 [(Value.func (.func 33) #[] #[]), sv1, (Value.int .i64 v1.2.1)]), (own sv1 100 3 v1.1.length (fl enc_Pile_item__ossuaryref07_Item v1.1)), (box b3 56 [sv2]), A1] (by simp only [hall 1 (by decide), sel]) (fun a => (hasA_cons (k := 20) rfl (hall 20 (by decide)) (hasA_cons (k := 0) rfl (hall 0 (by decide)) (hasA_cons (k := 1) rfl (hall 1 (by decide)) (hasA_cons (k := 2) rfl (hall 2 (by decide)) (hasA_cons (k := 3) rfl (hall 3 (by decide)) (hasA_cons (k := 4) rfl (hall 4 (by decide)) (hasA_cons (k := 5) rfl (hall 5 (by decide)) (hasA_cons (k := 6) rfl (hall 6 (by decide)) (hasA_cons (k := 7) rfl (hall 7 (by decide)) (hasA_cons (k := 8) rfl (hall 8 (by decide)) (hasA_cons (k := 9) rfl (hall 9 (by decide)) (hasA_cons (k := 10) rfl (hall 10 (by decide)) (hasA_cons (k := 11) rfl (hall 11 (by decide)) (hasA_cons (k := 12) rfl (hall 12 (by decide)) (hasA_cons (k := 13) rfl (hall 13 (by decide)) (hasA_cons (k := 14) rfl (hall 14 (by decide)) (hasA_cons (k := 15) rfl (hall 15 (by decide)) (hasA_cons (k := 16) rfl (hall 16 (by decide)) (hasA_cons (k := 17) rfl (hall 17 (by decide)) (hasA_cons (k := 18) rfl (hall 18 (by decide)) (hasA_cons (k := 19) rfl (hall 19 (by decide)) hasA_base)))))))))))))))))))))) ?_
            refine ent_retc ?_
            cases H
            refine ent_pick [1] (by decide) rfl ?_
            exact ret_tmp rfl rfl ⟨rfl, rfl⟩
        · rw [if_neg c15] at H
          refine ent_drawm 21 rfl (fun done a w => ∃ ga1 : Nat → Value, StD 122 w0 F [(3, (pt b1 0)), (4, (pt b3 0))] [(0, 102, (pt b1 0)), (1, 103, (ga1 1)), (2, 104, (pt b3 0)), (3, 105, (pt b3 0)), (4, 106, (pt b3 0)), (5, 107, sv2), (6, 108, (Value.bool x13)), (7, 109, (Value.bool x13)), (8, 110, (pt b1 0)), (9, 111, (Value.int .i64 x14)), (10, 112, (pt b3 0)), (11, 113, (pt b3 0)), (12, 114, (pt b3 0)), (13, 115, sv2), (14, 116, (Value.int .i64 (v1.2.2.length : Int))), (15, 117, (Value.bool (x14 == (v1.2.2.length : Int)))), (16, 118, (Value.bool (x14 == (v1.2.2.length : Int)))), (17, 119, (Value.bool (x14 == (v1.2.2.length : Int)))), (18, 120, undef), (19, 121, (Value.bool false)), (20, 2, (Value.bool false))] done [(sel (done 1) (own (ga1 1) 51 2 x12.length (fl enc_Ossuaryref07_Item x12)) emp), A0, (box b1 98 [(Value.func (.func 33) #[] #[]), sv1, (Value.int .i64 v1.2.1)]), (own sv1 100 3 v1.1.length (fl enc_Pile_item__ossuaryref07_Item v1.1)), (box b3 56 [sv2]), A1] a w) (by kernel_rfl) (by kernel_rfl) (draw_startG (T := (fun ga1 : Nat → Value => [(0, 102, (pt b1 0)), (1, 103, (ga1 1)), (2, 104, (pt b3 0)), (3, 105, (pt b3 0)), (4, 106, (pt b3 0)), (5, 107, sv2), (6, 108, (Value.bool x13)), (7, 109, (Value.bool x13)), (8, 110, (pt b1 0)), (9, 111, (Value.int .i64 x14)), (10, 112, (pt b3 0)), (11, 113, (pt b3 0)), (12, 114, (pt b3 0)), (13, 115, sv2), (14, 116, (Value.int .i64 (v1.2.2.length : Int))), (15, 117, (Value.bool (x14 == (v1.2.2.length : Int)))), (16, 118, (Value.bool (x14 == (v1.2.2.length : Int)))), (17, 119, (Value.bool (x14 == (v1.2.2.length : Int)))), (18, 120, undef), (19, 121, (Value.bool false)), (20, 2, (Value.bool false))])) (L' := fun ga1 : Nat → Value => [(sel false (own (ga1 1) 51 2 x12.length (fl enc_Ossuaryref07_Item x12)) emp), A0, (box b1 98 [(Value.func (.func 33) #[] #[]), sv1, (Value.int .i64 v1.2.1)]), (own sv1 100 3 v1.1.length (fl enc_Pile_item__ossuaryref07_Item v1.1)), (box b3 56 [sv2]), A1]) 1 (sub_cons (t := 3) rfl (sub_cons (t := 4) rfl (sub_nil _))) (fun _ => rfl)) ?_ ?_
          · refine ⟨?_, ?_, ?_, ?_, ?_, ?_, ?_, ?_, ?_, ?_, ?_, ?_, ?_, ?_, ?_, ?_, ?_, ?_, ?_, ?_, ?_, trivial⟩
            · intro done hi hc hcu
              refine draw_exi (I := fun (ga1 : Nat → Value) done a w => StD 122 w0 F [(3, (pt b1 0)), (4, (pt b3 0))] [(0, 102, (pt b1 0)), (1, 103, (ga1 1)), (2, 104, (pt b3 0)), (3, 105, (pt b3 0)), (4, 106, (pt b3 0)), (5, 107, sv2), (6, 108, (Value.bool x13)), (7, 109, (Value.bool x13)), (8, 110, (pt b1 0)), (9, 111, (Value.int .i64 x14)), (10, 112, (pt b3 0)), (11, 113, (pt b3 0)), (12, 114, (pt b3 0)), (13, 115, sv2), (14, 116, (Value.int .i64 (v1.2.2.length : Int))), (15, 117, (Value.bool (x14 == (v1.2.2.length : Int)))), (16, 118, (Value.bool (x14 == (v1.2.2.length : Int)))), (17, 119, (Value.bool (x14 == (v1.2.2.length : Int)))), (18, 120, undef), (19, 121, (Value.bool false)), (20, 2, (Value.bool false))] done [(sel (done 1) (own (ga1 1) 51 2 x12.length (fl enc_Ossuaryref07_Item x12)) emp), A0, (box b1 98 [(Value.func (.func 33) #[] #[]), sv1, (Value.int .i64 v1.2.1)]), (own sv1 100 3 v1.1.length (fl enc_Pile_item__ossuaryref07_Item v1.1)), (box b3 56 [sv2]), A1] a w) fun ga1 => ?_
              exact draw_value (i := 0) (t := 102) (v := (pt b1 0)) rfl rfl (wanted_none rfl) (fun a => hasA_base) (ov_move rfl) rfl rfl (onlyT_spec (k0 := 0) rfl rfl rfl)
            · intro done hi hc hcu
              refine ent_exi (S := fun ga1 => (fun (ga1 : Nat → Value) done a w => StD 122 w0 F [(3, (pt b1 0)), (4, (pt b3 0))] [(0, 102, (pt b1 0)), (1, 103, (ga1 1)), (2, 104, (pt b3 0)), (3, 105, (pt b3 0)), (4, 106, (pt b3 0)), (5, 107, sv2), (6, 108, (Value.bool x13)), (7, 109, (Value.bool x13)), (8, 110, (pt b1 0)), (9, 111, (Value.int .i64 x14)), (10, 112, (pt b3 0)), (11, 113, (pt b3 0)), (12, 114, (pt b3 0)), (13, 115, sv2), (14, 116, (Value.int .i64 (v1.2.2.length : Int))), (15, 117, (Value.bool (x14 == (v1.2.2.length : Int)))), (16, 118, (Value.bool (x14 == (v1.2.2.length : Int)))), (17, 119, (Value.bool (x14 == (v1.2.2.length : Int)))), (18, 120, undef), (19, 121, (Value.bool false)), (20, 2, (Value.bool false))] done [(sel (done 1) (own (ga1 1) 51 2 x12.length (fl enc_Ossuaryref07_Item x12)) emp), A0, (box b1 98 [(Value.func (.func 33) #[] #[]), sv1, (Value.int .i64 v1.2.1)]), (own sv1 100 3 v1.1.length (fl enc_Pile_item__ossuaryref07_Item v1.1)), (box b3 56 [sv2]), A1] a w) ga1 done) fun ga1 => ?_
              have d0 : done 0 = true := done_of (j := 0) hcu rfl (by decide) rfl
              refine draw_turnP (i := 1) (t := 103) (x := ga1) (L := (fun (ga1 : Nat → Value) (done : Nat → Bool) => [(sel (done 1) (own (ga1 1) 51 2 x12.length (fl enc_Ossuaryref07_Item x12)) emp), A0, (box b1 98 [(Value.func (.func 33) #[] #[]), sv1, (Value.int .i64 v1.2.1)]), (own sv1 100 3 v1.1.length (fl enc_Pile_item__ossuaryref07_Item v1.1)), (box b3 56 [sv2]), A1])) (T := (fun ga1 : Nat → Value => [(0, 102, (pt b1 0)), (1, 103, (ga1 1)), (2, 104, (pt b3 0)), (3, 105, (pt b3 0)), (4, 106, (pt b3 0)), (5, 107, sv2), (6, 108, (Value.bool x13)), (7, 109, (Value.bool x13)), (8, 110, (pt b1 0)), (9, 111, (Value.int .i64 x14)), (10, 112, (pt b3 0)), (11, 113, (pt b3 0)), (12, 114, (pt b3 0)), (13, 115, sv2), (14, 116, (Value.int .i64 (v1.2.2.length : Int))), (15, 117, (Value.bool (x14 == (v1.2.2.length : Int)))), (16, 118, (Value.bool (x14 == (v1.2.2.length : Int)))), (17, 119, (Value.bool (x14 == (v1.2.2.length : Int)))), (18, 120, undef), (19, 121, (Value.bool false)), (20, 2, (Value.bool false))])) (L2 := [emp, A0, (box b1 98 [(Value.func (.func 33) #[] #[]), sv1, (Value.int .i64 v1.2.1)]), (own sv1 100 3 v1.1.length (fl enc_Pile_item__ossuaryref07_Item v1.1)), (box b3 56 [sv2]), A1]) [2, 3, 0, 1, 4, 5] [2, 4, 0, 1, 5, 6] rfl rfl (wanted_none rfl) (fun a => (hasA_cons (k := 0) rfl d0 hasA_base)) (by simp only [hi, sel]) (by decide) rfl (ot_call (Lr := [emp, A0, (box b3 56 [sv2]), A1]) (first := []) (cap := []) (xs := [.tmp 102]) rfl rfl F_call_41 rfl (pile_Pile__ossuaryref07_Item_Sorted.spec K b1 sv1 v1.1 v1.2.1 _ h10) rfl) (by decide) rfl rfl ?_
              rintro g0_ _ ⟨_, ⟨_, rfl, rfl⟩, rfl⟩
              exact ⟨(upb ga1 1 g0_), show some [(own g0_ 51 2 x12.length (fl enc_Ossuaryref07_Item x12)), A0, (box b1 98 [(Value.func (.func 33) #[] #[]), sv1, (Value.int .i64 v1.2.1)]), (own sv1 100 3 v1.1.length (fl enc_Pile_item__ossuaryref07_Item v1.1)), (box b3 56 [sv2]), A1] = _ by simp [up, upb, sel, hi], (tr_same rfl rfl (tr_this (tr_same rfl rfl (tr_same rfl rfl (tr_same rfl rfl (tr_same rfl rfl (tr_same rfl rfl (tr_same rfl rfl (tr_same rfl rfl (tr_same rfl rfl (tr_same rfl rfl (tr_same rfl rfl (tr_same rfl rfl (tr_same rfl rfl (tr_same rfl rfl (tr_same rfl rfl (tr_same rfl rfl (tr_same rfl rfl (tr_same rfl rfl (tr_same rfl rfl (tr_same rfl rfl tr_nil)))))))))))))))))))))⟩
            · intro done hi hc hcu
              refine draw_exi (I := fun (ga1 : Nat → Value) done a w => StD 122 w0 F [(3, (pt b1 0)), (4, (pt b3 0))] [(0, 102, (pt b1 0)), (1, 103, (ga1 1)), (2, 104, (pt b3 0)), (3, 105, (pt b3 0)), (4, 106, (pt b3 0)), (5, 107, sv2), (6, 108, (Value.bool x13)), (7, 109, (Value.bool x13)), (8, 110, (pt b1 0)), (9, 111, (Value.int .i64 x14)), (10, 112, (pt b3 0)), (11, 113, (pt b3 0)), (12, 114, (pt b3 0)), (13, 115, sv2), (14, 116, (Value.int .i64 (v1.2.2.length : Int))), (15, 117, (Value.bool (x14 == (v1.2.2.length : Int)))), (16, 118, (Value.bool (x14 == (v1.2.2.length : Int)))), (17, 119, (Value.bool (x14 == (v1.2.2.length : Int)))), (18, 120, undef), (19, 121, (Value.bool false)), (20, 2, (Value.bool false))] done [(sel (done 1) (own (ga1 1) 51 2 x12.length (fl enc_Ossuaryref07_Item x12)) emp), A0, (box b1 98 [(Value.func (.func 33) #[] #[]), sv1, (Value.int .i64 v1.2.1)]), (own sv1 100 3 v1.1.length (fl enc_Pile_item__ossuaryref07_Item v1.1)), (box b3 56 [sv2]), A1] a w) fun ga1 => ?_
              exact draw_value (i := 2) (t := 104) (v := (pt b3 0)) rfl rfl (wanted_none rfl) (fun a => hasA_base) (ov_move rfl) rfl rfl (onlyT_spec (k0 := 2) rfl rfl rfl)
            · intro done hi hc hcu
              refine draw_exi (I := fun (ga1 : Nat → Value) done a w => StD 122 w0 F [(3, (pt b1 0)), (4, (pt b3 0))] [(0, 102, (pt b1 0)), (1, 103, (ga1 1)), (2, 104, (pt b3 0)), (3, 105, (pt b3 0)), (4, 106, (pt b3 0)), (5, 107, sv2), (6, 108, (Value.bool x13)), (7, 109, (Value.bool x13)), (8, 110, (pt b1 0)), (9, 111, (Value.int .i64 x14)), (10, 112, (pt b3 0)), (11, 113, (pt b3 0)), (12, 114, (pt b3 0)), (13, 115, sv2), (14, 116, (Value.int .i64 (v1.2.2.length : Int))), (15, 117, (Value.bool (x14 == (v1.2.2.length : Int)))), (16, 118, (Value.bool (x14 == (v1.2.2.length : Int)))), (17, 119, (Value.bool (x14 == (v1.2.2.length : Int)))), (18, 120, undef), (19, 121, (Value.bool false)), (20, 2, (Value.bool false))] done [(sel (done 1) (own (ga1 1) 51 2 x12.length (fl enc_Ossuaryref07_Item x12)) emp), A0, (box b1 98 [(Value.func (.func 33) #[] #[]), sv1, (Value.int .i64 v1.2.1)]), (own sv1 100 3 v1.1.length (fl enc_Pile_item__ossuaryref07_Item v1.1)), (box b3 56 [sv2]), A1] a w) fun ga1 => ?_
              have d2 : done 2 = true := done_of (j := 2) hcu rfl (by decide) rfl
              exact draw_value (i := 3) (t := 105) (v := (pt b3 0)) rfl rfl (wanted_none rfl) (fun a => (hasA_cons (k := 2) rfl d2 hasA_base)) (ov_nilCheck rfl) rfl rfl (onlyT_spec (k0 := 3) rfl rfl rfl)
            · intro done hi hc hcu
              refine draw_exi (I := fun (ga1 : Nat → Value) done a w => StD 122 w0 F [(3, (pt b1 0)), (4, (pt b3 0))] [(0, 102, (pt b1 0)), (1, 103, (ga1 1)), (2, 104, (pt b3 0)), (3, 105, (pt b3 0)), (4, 106, (pt b3 0)), (5, 107, sv2), (6, 108, (Value.bool x13)), (7, 109, (Value.bool x13)), (8, 110, (pt b1 0)), (9, 111, (Value.int .i64 x14)), (10, 112, (pt b3 0)), (11, 113, (pt b3 0)), (12, 114, (pt b3 0)), (13, 115, sv2), (14, 116, (Value.int .i64 (v1.2.2.length : Int))), (15, 117, (Value.bool (x14 == (v1.2.2.length : Int)))), (16, 118, (Value.bool (x14 == (v1.2.2.length : Int)))), (17, 119, (Value.bool (x14 == (v1.2.2.length : Int)))), (18, 120, undef), (19, 121, (Value.bool false)), (20, 2, (Value.bool false))] done [(sel (done 1) (own (ga1 1) 51 2 x12.length (fl enc_Ossuaryref07_Item x12)) emp), A0, (box b1 98 [(Value.func (.func 33) #[] #[]), sv1, (Value.int .i64 v1.2.1)]), (own sv1 100 3 v1.1.length (fl enc_Pile_item__ossuaryref07_Item v1.1)), (box b3 56 [sv2]), A1] a w) fun ga1 => ?_
              have d3 : done 3 = true := done_of (j := 3) hcu rfl (by decide) rfl
              exact draw_value (i := 4) (t := 106) (v := (pt b3 0)) rfl rfl (wanted_none rfl) (fun a => (hasA_cons (k := 3) rfl d3 hasA_base)) (ov_fieldAddr (sz := 0) (o := 0) rfl F_field_56_0 F_size_54) rfl rfl (onlyT_spec (k0 := 4) rfl rfl rfl)
            · intro done hi hc hcu
              refine draw_exi (I := fun (ga1 : Nat → Value) done a w => StD 122 w0 F [(3, (pt b1 0)), (4, (pt b3 0))] [(0, 102, (pt b1 0)), (1, 103, (ga1 1)), (2, 104, (pt b3 0)), (3, 105, (pt b3 0)), (4, 106, (pt b3 0)), (5, 107, sv2), (6, 108, (Value.bool x13)), (7, 109, (Value.bool x13)), (8, 110, (pt b1 0)), (9, 111, (Value.int .i64 x14)), (10, 112, (pt b3 0)), (11, 113, (pt b3 0)), (12, 114, (pt b3 0)), (13, 115, sv2), (14, 116, (Value.int .i64 (v1.2.2.length : Int))), (15, 117, (Value.bool (x14 == (v1.2.2.length : Int)))), (16, 118, (Value.bool (x14 == (v1.2.2.length : Int)))), (17, 119, (Value.bool (x14 == (v1.2.2.length : Int)))), (18, 120, undef), (19, 121, (Value.bool false)), (20, 2, (Value.bool false))] done [(sel (done 1) (own (ga1 1) 51 2 x12.length (fl enc_Ossuaryref07_Item x12)) emp), A0, (box b1 98 [(Value.func (.func 33) #[] #[]), sv1, (Value.int .i64 v1.2.1)]), (own sv1 100 3 v1.1.length (fl enc_Pile_item__ossuaryref07_Item v1.1)), (box b3 56 [sv2]), A1] a w) fun ga1 => ?_
              have d4 : done 4 = true := done_of (j := 4) hcu rfl (by decide) rfl
              exact draw_value (i := 5) (t := 107) (v := sv2) rfl rfl (wanted_none rfl) (fun a => (hasA_cons (k := 4) rfl d4 hasA_base)) (ov_load (v := sv2) rfl F_agg_54 (reads_box1 (i := 4) rfl rfl)) rfl rfl (onlyT_spec (k0 := 5) rfl rfl rfl)
            · intro done hi hc hcu
              refine draw_exi (I := fun (ga1 : Nat → Value) done a w => StD 122 w0 F [(3, (pt b1 0)), (4, (pt b3 0))] [(0, 102, (pt b1 0)), (1, 103, (ga1 1)), (2, 104, (pt b3 0)), (3, 105, (pt b3 0)), (4, 106, (pt b3 0)), (5, 107, sv2), (6, 108, (Value.bool x13)), (7, 109, (Value.bool x13)), (8, 110, (pt b1 0)), (9, 111, (Value.int .i64 x14)), (10, 112, (pt b3 0)), (11, 113, (pt b3 0)), (12, 114, (pt b3 0)), (13, 115, sv2), (14, 116, (Value.int .i64 (v1.2.2.length : Int))), (15, 117, (Value.bool (x14 == (v1.2.2.length : Int)))), (16, 118, (Value.bool (x14 == (v1.2.2.length : Int)))), (17, 119, (Value.bool (x14 == (v1.2.2.length : Int)))), (18, 120, undef), (19, 121, (Value.bool false)), (20, 2, (Value.bool false))] done [(sel (done 1) (own (ga1 1) 51 2 x12.length (fl enc_Ossuaryref07_Item x12)) emp), A0, (box b1 98 [(Value.func (.func 33) #[] #[]), sv1, (Value.int .i64 v1.2.1)]), (own sv1 100 3 v1.1.length (fl enc_Pile_item__ossuaryref07_Item v1.1)), (box b3 56 [sv2]), A1] a w) fun ga1 => ?_
              have d1 : done 1 = true := done_of (j := 1) hcu rfl (by decide) rfl
              have d5 : done 5 = true := done_of (j := 5) hcu rfl (by decide) rfl
              exact draw_same (i := 6) (t := 108) (v := (Value.bool x13)) rfl rfl (wanted_none rfl) (fun a => (hasA_cons (k := 5) rfl d5 (hasA_cons (k := 1) rfl d1 hasA_base))) (ot_L (L2 := [(own (ga1 1) 51 2 x12.length (fl enc_Ossuaryref07_Item x12)), A0, (box b1 98 [(Value.func (.func 33) #[] #[]), sv1, (Value.int .i64 v1.2.1)]), (own sv1 100 3 v1.1.length (fl enc_Pile_item__ossuaryref07_Item v1.1)), (box b3 56 [sv2]), A1]) (by simp only [d1, sel]) (ot_call_same (Lr := [A0, (box b1 98 [(Value.func (.func 33) #[] #[]), sv1, (Value.int .i64 v1.2.1)]), (own sv1 100 3 v1.1.length (fl enc_Pile_item__ossuaryref07_Item v1.1)), (box b3 56 [sv2])]) [0, 5, 1, 2, 3, 4] [0, 2, 3, 4, 5, 1] (first := []) (cap := []) (xs := [.tmp 103, .tmp 107]) rfl rfl F_call_40 rfl (ossuaryref07_Same.spec K (ga1 1) (own (ga1 1) 51 2 x12.length (fl enc_Ossuaryref07_Item x12)) sv2 A1 x12 v1.2.2 (isRd_ownx 51) hr1 _ h11) (by decide) rfl (by decide) rfl)) rfl rfl (onlyT_spec (k0 := 6) rfl rfl rfl)
            · intro done hi hc hcu
              refine draw_exi (I := fun (ga1 : Nat → Value) done a w => StD 122 w0 F [(3, (pt b1 0)), (4, (pt b3 0))] [(0, 102, (pt b1 0)), (1, 103, (ga1 1)), (2, 104, (pt b3 0)), (3, 105, (pt b3 0)), (4, 106, (pt b3 0)), (5, 107, sv2), (6, 108, (Value.bool x13)), (7, 109, (Value.bool x13)), (8, 110, (pt b1 0)), (9, 111, (Value.int .i64 x14)), (10, 112, (pt b3 0)), (11, 113, (pt b3 0)), (12, 114, (pt b3 0)), (13, 115, sv2), (14, 116, (Value.int .i64 (v1.2.2.length : Int))), (15, 117, (Value.bool (x14 == (v1.2.2.length : Int)))), (16, 118, (Value.bool (x14 == (v1.2.2.length : Int)))), (17, 119, (Value.bool (x14 == (v1.2.2.length : Int)))), (18, 120, undef), (19, 121, (Value.bool false)), (20, 2, (Value.bool false))] done [(sel (done 1) (own (ga1 1) 51 2 x12.length (fl enc_Ossuaryref07_Item x12)) emp), A0, (box b1 98 [(Value.func (.func 33) #[] #[]), sv1, (Value.int .i64 v1.2.1)]), (own sv1 100 3 v1.1.length (fl enc_Pile_item__ossuaryref07_Item v1.1)), (box b3 56 [sv2]), A1] a w) fun ga1 => ?_
              have d6 : done 6 = true := done_of (j := 6) hcu rfl (by decide) rfl
              exact draw_value (i := 7) (t := 109) (v := (Value.bool x13)) rfl rfl (wanted_none rfl) (fun a => (hasA_cons (k := 6) rfl d6 hasA_base)) (ov_move rfl) rfl rfl (onlyT_spec (k0 := 7) rfl rfl rfl)
            · intro done hi hc hcu
              refine draw_exi (I := fun (ga1 : Nat → Value) done a w => StD 122 w0 F [(3, (pt b1 0)), (4, (pt b3 0))] [(0, 102, (pt b1 0)), (1, 103, (ga1 1)), (2, 104, (pt b3 0)), (3, 105, (pt b3 0)), (4, 106, (pt b3 0)), (5, 107, sv2), (6, 108, (Value.bool x13)), (7, 109, (Value.bool x13)), (8, 110, (pt b1 0)), (9, 111, (Value.int .i64 x14)), (10, 112, (pt b3 0)), (11, 113, (pt b3 0)), (12, 114, (pt b3 0)), (13, 115, sv2), (14, 116, (Value.int .i64 (v1.2.2.length : Int))), (15, 117, (Value.bool (x14 == (v1.2.2.length : Int)))), (16, 118, (Value.bool (x14 == (v1.2.2.length : Int)))), (17, 119, (Value.bool (x14 == (v1.2.2.length : Int)))), (18, 120, undef), (19, 121, (Value.bool false)), (20, 2, (Value.bool false))] done [(sel (done 1) (own (ga1 1) 51 2 x12.length (fl enc_Ossuaryref07_Item x12)) emp), A0, (box b1 98 [(Value.func (.func 33) #[] #[]), sv1, (Value.int .i64 v1.2.1)]), (own sv1 100 3 v1.1.length (fl enc_Pile_item__ossuaryref07_Item v1.1)), (box b3 56 [sv2]), A1] a w) fun ga1 => ?_
              have d7 : done 7 = true := done_of (j := 7) hcu rfl (by decide) rfl
              exact draw_value (i := 8) (t := 110) (v := (pt b1 0)) rfl rfl (wanted_on rfl rfl rfl c14) (fun a => (hasA_cons (k := 7) rfl d7 hasA_base)) (ov_move rfl) rfl rfl (onlyT_spec (k0 := 8) rfl rfl rfl)
            · intro done hi hc hcu
              refine draw_exi (I := fun (ga1 : Nat → Value) done a w => StD 122 w0 F [(3, (pt b1 0)), (4, (pt b3 0))] [(0, 102, (pt b1 0)), (1, 103, (ga1 1)), (2, 104, (pt b3 0)), (3, 105, (pt b3 0)), (4, 106, (pt b3 0)), (5, 107, sv2), (6, 108, (Value.bool x13)), (7, 109, (Value.bool x13)), (8, 110, (pt b1 0)), (9, 111, (Value.int .i64 x14)), (10, 112, (pt b3 0)), (11, 113, (pt b3 0)), (12, 114, (pt b3 0)), (13, 115, sv2), (14, 116, (Value.int .i64 (v1.2.2.length : Int))), (15, 117, (Value.bool (x14 == (v1.2.2.length : Int)))), (16, 118, (Value.bool (x14 == (v1.2.2.length : Int)))), (17, 119, (Value.bool (x14 == (v1.2.2.length : Int)))), (18, 120, undef), (19, 121, (Value.bool false)), (20, 2, (Value.bool false))] done [(sel (done 1) (own (ga1 1) 51 2 x12.length (fl enc_Ossuaryref07_Item x12)) emp), A0, (box b1 98 [(Value.func (.func 33) #[] #[]), sv1, (Value.int .i64 v1.2.1)]), (own sv1 100 3 v1.1.length (fl enc_Pile_item__ossuaryref07_Item v1.1)), (box b3 56 [sv2]), A1] a w) fun ga1 => ?_
              have d8 : done 8 = true := done_of (j := 8) hcu rfl (by decide) rfl
              have d7 : done 7 = true := done_of (j := 7) hcu rfl (by decide) rfl
              exact draw_same (i := 9) (t := 111) (v := (Value.int .i64 x14)) rfl rfl (wanted_on rfl rfl rfl c14) (fun a => (hasA_cons (k := 7) rfl d7 (hasA_cons (k := 8) rfl d8 hasA_base))) (ot_call_same (Lr := [(sel (done 1) (own (ga1 1) 51 2 x12.length (fl enc_Ossuaryref07_Item x12)) emp), A0, (box b3 56 [sv2]), A1]) [2, 3, 0, 1, 4, 5] [2, 3, 0, 1, 4, 5] (first := []) (cap := []) (xs := [.tmp 110]) rfl rfl F_call_39 rfl (pile_Pile__ossuaryref07_Item_Len_2.spec b1 sv1 v1.1 v1.2.1 _ h12) (by decide) rfl (by decide) rfl) rfl rfl (onlyT_spec (k0 := 9) rfl rfl rfl)
            · intro done hi hc hcu
              refine draw_exi (I := fun (ga1 : Nat → Value) done a w => StD 122 w0 F [(3, (pt b1 0)), (4, (pt b3 0))] [(0, 102, (pt b1 0)), (1, 103, (ga1 1)), (2, 104, (pt b3 0)), (3, 105, (pt b3 0)), (4, 106, (pt b3 0)), (5, 107, sv2), (6, 108, (Value.bool x13)), (7, 109, (Value.bool x13)), (8, 110, (pt b1 0)), (9, 111, (Value.int .i64 x14)), (10, 112, (pt b3 0)), (11, 113, (pt b3 0)), (12, 114, (pt b3 0)), (13, 115, sv2), (14, 116, (Value.int .i64 (v1.2.2.length : Int))), (15, 117, (Value.bool (x14 == (v1.2.2.length : Int)))), (16, 118, (Value.bool (x14 == (v1.2.2.length : Int)))), (17, 119, (Value.bool (x14 == (v1.2.2.length : Int)))), (18, 120, undef), (19, 121, (Value.bool false)), (20, 2, (Value.bool false))] done [(sel (done 1) (own (ga1 1) 51 2 x12.length (fl enc_Ossuaryref07_Item x12)) emp), A0, (box b1 98 [(Value.func (.func 33) #[] #[]), sv1, (Value.int .i64 v1.2.1)]), (own sv1 100 3 v1.1.length (fl enc_Pile_item__ossuaryref07_Item v1.1)), (box b3 56 [sv2]), A1] a w) fun ga1 => ?_
              have d7 : done 7 = true := done_of (j := 7) hcu rfl (by decide) rfl
              exact draw_value (i := 10) (t := 112) (v := (pt b3 0)) rfl rfl (wanted_on rfl rfl rfl c14) (fun a => (hasA_cons (k := 7) rfl d7 hasA_base)) (ov_move rfl) rfl rfl (onlyT_spec (k0 := 10) rfl rfl rfl)
            · intro done hi hc hcu
              refine draw_exi (I := fun (ga1 : Nat → Value) done a w => StD 122 w0 F [(3, (pt b1 0)), (4, (pt b3 0))] [(0, 102, (pt b1 0)), (1, 103, (ga1 1)), (2, 104, (pt b3 0)), (3, 105, (pt b3 0)), (4, 106, (pt b3 0)), (5, 107, sv2), (6, 108, (Value.bool x13)), (7, 109, (Value.bool x13)), (8, 110, (pt b1 0)), (9, 111, (Value.int .i64 x14)), (10, 112, (pt b3 0)), (11, 113, (pt b3 0)), (12, 114, (pt b3 0)), (13, 115, sv2), (14, 116, (Value.int .i64 (v1.2.2.length : Int))), (15, 117, (Value.bool (x14 == (v1.2.2.length : Int)))), (16, 118, (Value.bool (x14 == (v1.2.2.length : Int)))), (17, 119, (Value.bool (x14 == (v1.2.2.length : Int)))), (18, 120, undef), (19, 121, (Value.bool false)), (20, 2, (Value.bool false))] done [(sel (done 1) (own (ga1 1) 51 2 x12.length (fl enc_Ossuaryref07_Item x12)) emp), A0, (box b1 98 [(Value.func (.func 33) #[] #[]), sv1, (Value.int .i64 v1.2.1)]), (own sv1 100 3 v1.1.length (fl enc_Pile_item__ossuaryref07_Item v1.1)), (box b3 56 [sv2]), A1] a w) fun ga1 => ?_
              have d10 : done 10 = true := done_of (j := 10) hcu rfl (by decide) rfl
              have d7 : done 7 = true := done_of (j := 7) hcu rfl (by decide) rfl
              exact draw_value (i := 11) (t := 113) (v := (pt b3 0)) rfl rfl (wanted_on rfl rfl rfl c14) (fun a => (hasA_cons (k := 7) rfl d7 (hasA_cons (k := 10) rfl d10 hasA_base))) (ov_nilCheck rfl) rfl rfl (onlyT_spec (k0 := 11) rfl rfl rfl)
            · intro done hi hc hcu
              refine draw_exi (I := fun (ga1 : Nat → Value) done a w => StD 122 w0 F [(3, (pt b1 0)), (4, (pt b3 0))] [(0, 102, (pt b1 0)), (1, 103, (ga1 1)), (2, 104, (pt b3 0)), (3, 105, (pt b3 0)), (4, 106, (pt b3 0)), (5, 107, sv2), (6, 108, (Value.bool x13)), (7, 109, (Value.bool x13)), (8, 110, (pt b1 0)), (9, 111, (Value.int .i64 x14)), (10, 112, (pt b3 0)), (11, 113, (pt b3 0)), (12, 114, (pt b3 0)), (13, 115, sv2), (14, 116, (Value.int .i64 (v1.2.2.length : Int))), (15, 117, (Value.bool (x14 == (v1.2.2.length : Int)))), (16, 118, (Value.bool (x14 == (v1.2.2.length : Int)))), (17, 119, (Value.bool (x14 == (v1.2.2.length : Int)))), (18, 120, undef), (19, 121, (Value.bool false)), (20, 2, (Value.bool false))] done [(sel (done 1) (own (ga1 1) 51 2 x12.length (fl enc_Ossuaryref07_Item x12)) emp), A0, (box b1 98 [(Value.func (.func 33) #[] #[]), sv1, (Value.int .i64 v1.2.1)]), (own sv1 100 3 v1.1.length (fl enc_Pile_item__ossuaryref07_Item v1.1)), (box b3 56 [sv2]), A1] a w) fun ga1 => ?_
              have d11 : done 11 = true := done_of (j := 11) hcu rfl (by decide) rfl
              have d7 : done 7 = true := done_of (j := 7) hcu rfl (by decide) rfl
              exact draw_value (i := 12) (t := 114) (v := (pt b3 0)) rfl rfl (wanted_on rfl rfl rfl c14) (fun a => (hasA_cons (k := 7) rfl d7 (hasA_cons (k := 11) rfl d11 hasA_base))) (ov_fieldAddr (sz := 0) (o := 0) rfl F_field_56_0 F_size_54) rfl rfl (onlyT_spec (k0 := 12) rfl rfl rfl)
            · intro done hi hc hcu
              refine draw_exi (I := fun (ga1 : Nat → Value) done a w => StD 122 w0 F [(3, (pt b1 0)), (4, (pt b3 0))] [(0, 102, (pt b1 0)), (1, 103, (ga1 1)), (2, 104, (pt b3 0)), (3, 105, (pt b3 0)), (4, 106, (pt b3 0)), (5, 107, sv2), (6, 108, (Value.bool x13)), (7, 109, (Value.bool x13)), (8, 110, (pt b1 0)), (9, 111, (Value.int .i64 x14)), (10, 112, (pt b3 0)), (11, 113, (pt b3 0)), (12, 114, (pt b3 0)), (13, 115, sv2), (14, 116, (Value.int .i64 (v1.2.2.length : Int))), (15, 117, (Value.bool (x14 == (v1.2.2.length : Int)))), (16, 118, (Value.bool (x14 == (v1.2.2.length : Int)))), (17, 119, (Value.bool (x14 == (v1.2.2.length : Int)))), (18, 120, undef), (19, 121, (Value.bool false)), (20, 2, (Value.bool false))] done [(sel (done 1) (own (ga1 1) 51 2 x12.length (fl enc_Ossuaryref07_Item x12)) emp), A0, (box b1 98 [(Value.func (.func 33) #[] #[]), sv1, (Value.int .i64 v1.2.1)]), (own sv1 100 3 v1.1.length (fl enc_Pile_item__ossuaryref07_Item v1.1)), (box b3 56 [sv2]), A1] a w) fun ga1 => ?_
              have d12 : done 12 = true := done_of (j := 12) hcu rfl (by decide) rfl
              have d7 : done 7 = true := done_of (j := 7) hcu rfl (by decide) rfl
              exact draw_value (i := 13) (t := 115) (v := sv2) rfl rfl (wanted_on rfl rfl rfl c14) (fun a => (hasA_cons (k := 7) rfl d7 (hasA_cons (k := 12) rfl d12 hasA_base))) (ov_load (v := sv2) rfl F_agg_54 (reads_box1 (i := 4) rfl rfl)) rfl rfl (onlyT_spec (k0 := 13) rfl rfl rfl)
            · intro done hi hc hcu
              refine draw_exi (I := fun (ga1 : Nat → Value) done a w => StD 122 w0 F [(3, (pt b1 0)), (4, (pt b3 0))] [(0, 102, (pt b1 0)), (1, 103, (ga1 1)), (2, 104, (pt b3 0)), (3, 105, (pt b3 0)), (4, 106, (pt b3 0)), (5, 107, sv2), (6, 108, (Value.bool x13)), (7, 109, (Value.bool x13)), (8, 110, (pt b1 0)), (9, 111, (Value.int .i64 x14)), (10, 112, (pt b3 0)), (11, 113, (pt b3 0)), (12, 114, (pt b3 0)), (13, 115, sv2), (14, 116, (Value.int .i64 (v1.2.2.length : Int))), (15, 117, (Value.bool (x14 == (v1.2.2.length : Int)))), (16, 118, (Value.bool (x14 == (v1.2.2.length : Int)))), (17, 119, (Value.bool (x14 == (v1.2.2.length : Int)))), (18, 120, undef), (19, 121, (Value.bool false)), (20, 2, (Value.bool false))] done [(sel (done 1) (own (ga1 1) 51 2 x12.length (fl enc_Ossuaryref07_Item x12)) emp), A0, (box b1 98 [(Value.func (.func 33) #[] #[]), sv1, (Value.int .i64 v1.2.1)]), (own sv1 100 3 v1.1.length (fl enc_Pile_item__ossuaryref07_Item v1.1)), (box b3 56 [sv2]), A1] a w) fun ga1 => ?_
              have d13 : done 13 = true := done_of (j := 13) hcu rfl (by decide) rfl
              have d7 : done 7 = true := done_of (j := 7) hcu rfl (by decide) rfl
              exact draw_value (i := 14) (t := 116) (v := (Value.int .i64 (v1.2.2.length : Int))) rfl rfl (wanted_on rfl rfl rfl c14) (fun a => (hasA_cons (k := 7) rfl d7 (hasA_cons (k := 13) rfl d13 hasA_base))) (ov_len 5 rfl F_slice_54 rfl hr1) rfl rfl (onlyT_spec (k0 := 14) rfl rfl rfl)
            · intro done hi hc hcu
              refine draw_exi (I := fun (ga1 : Nat → Value) done a w => StD 122 w0 F [(3, (pt b1 0)), (4, (pt b3 0))] [(0, 102, (pt b1 0)), (1, 103, (ga1 1)), (2, 104, (pt b3 0)), (3, 105, (pt b3 0)), (4, 106, (pt b3 0)), (5, 107, sv2), (6, 108, (Value.bool x13)), (7, 109, (Value.bool x13)), (8, 110, (pt b1 0)), (9, 111, (Value.int .i64 x14)), (10, 112, (pt b3 0)), (11, 113, (pt b3 0)), (12, 114, (pt b3 0)), (13, 115, sv2), (14, 116, (Value.int .i64 (v1.2.2.length : Int))), (15, 117, (Value.bool (x14 == (v1.2.2.length : Int)))), (16, 118, (Value.bool (x14 == (v1.2.2.length : Int)))), (17, 119, (Value.bool (x14 == (v1.2.2.length : Int)))), (18, 120, undef), (19, 121, (Value.bool false)), (20, 2, (Value.bool false))] done [(sel (done 1) (own (ga1 1) 51 2 x12.length (fl enc_Ossuaryref07_Item x12)) emp), A0, (box b1 98 [(Value.func (.func 33) #[] #[]), sv1, (Value.int .i64 v1.2.1)]), (own sv1 100 3 v1.1.length (fl enc_Pile_item__ossuaryref07_Item v1.1)), (box b3 56 [sv2]), A1] a w) fun ga1 => ?_
              have d9 : done 9 = true := done_of (j := 9) hcu rfl (by decide) rfl
              have d14 : done 14 = true := done_of (j := 14) hcu rfl (by decide) rfl
              have d7 : done 7 = true := done_of (j := 7) hcu rfl (by decide) rfl
              exact draw_value (i := 15) (t := 117) (v := (Value.bool (x14 == (v1.2.2.length : Int)))) rfl rfl (wanted_on rfl rfl rfl c14) (fun a => (hasA_cons (k := 7) rfl d7 (hasA_cons (k := 14) rfl d14 (hasA_cons (k := 9) rfl d9 hasA_base)))) (ov_bin rfl rfl (b_eql _ _ _)) rfl rfl (onlyT_spec (k0 := 15) rfl rfl rfl)
            · intro done hi hc hcu
              refine draw_exi (I := fun (ga1 : Nat → Value) done a w => StD 122 w0 F [(3, (pt b1 0)), (4, (pt b3 0))] [(0, 102, (pt b1 0)), (1, 103, (ga1 1)), (2, 104, (pt b3 0)), (3, 105, (pt b3 0)), (4, 106, (pt b3 0)), (5, 107, sv2), (6, 108, (Value.bool x13)), (7, 109, (Value.bool x13)), (8, 110, (pt b1 0)), (9, 111, (Value.int .i64 x14)), (10, 112, (pt b3 0)), (11, 113, (pt b3 0)), (12, 114, (pt b3 0)), (13, 115, sv2), (14, 116, (Value.int .i64 (v1.2.2.length : Int))), (15, 117, (Value.bool (x14 == (v1.2.2.length : Int)))), (16, 118, (Value.bool (x14 == (v1.2.2.length : Int)))), (17, 119, (Value.bool (x14 == (v1.2.2.length : Int)))), (18, 120, undef), (19, 121, (Value.bool false)), (20, 2, (Value.bool false))] done [(sel (done 1) (own (ga1 1) 51 2 x12.length (fl enc_Ossuaryref07_Item x12)) emp), A0, (box b1 98 [(Value.func (.func 33) #[] #[]), sv1, (Value.int .i64 v1.2.1)]), (own sv1 100 3 v1.1.length (fl enc_Pile_item__ossuaryref07_Item v1.1)), (box b3 56 [sv2]), A1] a w) fun ga1 => ?_
              have d7 : done 7 = true := done_of (j := 7) hcu rfl (by decide) rfl
              have d15 : done 15 = true := done_of (j := 15) hcu rfl (by decide) rfl
              exact draw_value (i := 16) (t := 118) (v := (Value.bool (x14 == (v1.2.2.length : Int)))) rfl rfl (wanted_none rfl) (fun a => (hasA_cons (k := 15) rfl d15 (hasA_cons (k := 7) rfl d7 hasA_base))) (ov_pick rfl rfl rfl (pick_t c14)) rfl rfl (onlyT_spec (k0 := 16) rfl rfl rfl)
            · intro done hi hc hcu
              refine draw_exi (I := fun (ga1 : Nat → Value) done a w => StD 122 w0 F [(3, (pt b1 0)), (4, (pt b3 0))] [(0, 102, (pt b1 0)), (1, 103, (ga1 1)), (2, 104, (pt b3 0)), (3, 105, (pt b3 0)), (4, 106, (pt b3 0)), (5, 107, sv2), (6, 108, (Value.bool x13)), (7, 109, (Value.bool x13)), (8, 110, (pt b1 0)), (9, 111, (Value.int .i64 x14)), (10, 112, (pt b3 0)), (11, 113, (pt b3 0)), (12, 114, (pt b3 0)), (13, 115, sv2), (14, 116, (Value.int .i64 (v1.2.2.length : Int))), (15, 117, (Value.bool (x14 == (v1.2.2.length : Int)))), (16, 118, (Value.bool (x14 == (v1.2.2.length : Int)))), (17, 119, (Value.bool (x14 == (v1.2.2.length : Int)))), (18, 120, undef), (19, 121, (Value.bool false)), (20, 2, (Value.bool false))] done [(sel (done 1) (own (ga1 1) 51 2 x12.length (fl enc_Ossuaryref07_Item x12)) emp), A0, (box b1 98 [(Value.func (.func 33) #[] #[]), sv1, (Value.int .i64 v1.2.1)]), (own sv1 100 3 v1.1.length (fl enc_Pile_item__ossuaryref07_Item v1.1)), (box b3 56 [sv2]), A1] a w) fun ga1 => ?_
              have d16 : done 16 = true := done_of (j := 16) hcu rfl (by decide) rfl
              exact draw_value (i := 17) (t := 119) (v := (Value.bool (x14 == (v1.2.2.length : Int)))) rfl rfl (wanted_none rfl) (fun a => (hasA_cons (k := 16) rfl d16 hasA_base)) (ov_move rfl) rfl rfl (onlyT_spec (k0 := 17) rfl rfl rfl)
            · intro done hi hc hcu
              refine draw_exi (I := fun (ga1 : Nat → Value) done a w => StD 122 w0 F [(3, (pt b1 0)), (4, (pt b3 0))] [(0, 102, (pt b1 0)), (1, 103, (ga1 1)), (2, 104, (pt b3 0)), (3, 105, (pt b3 0)), (4, 106, (pt b3 0)), (5, 107, sv2), (6, 108, (Value.bool x13)), (7, 109, (Value.bool x13)), (8, 110, (pt b1 0)), (9, 111, (Value.int .i64 x14)), (10, 112, (pt b3 0)), (11, 113, (pt b3 0)), (12, 114, (pt b3 0)), (13, 115, sv2), (14, 116, (Value.int .i64 (v1.2.2.length : Int))), (15, 117, (Value.bool (x14 == (v1.2.2.length : Int)))), (16, 118, (Value.bool (x14 == (v1.2.2.length : Int)))), (17, 119, (Value.bool (x14 == (v1.2.2.length : Int)))), (18, 120, undef), (19, 121, (Value.bool false)), (20, 2, (Value.bool false))] done [(sel (done 1) (own (ga1 1) 51 2 x12.length (fl enc_Ossuaryref07_Item x12)) emp), A0, (box b1 98 [(Value.func (.func 33) #[] #[]), sv1, (Value.int .i64 v1.2.1)]), (own sv1 100 3 v1.1.length (fl enc_Pile_item__ossuaryref07_Item v1.1)), (box b3 56 [sv2]), A1] a w) fun ga1 => ?_
              have d17 : done 17 = true := done_of (j := 17) hcu rfl (by decide) rfl
              exact draw_off (i := 18) (t := 120) rfl rfl (wanted_off rfl rfl rfl (eq_f c15)) (fun a => (hasA_cons (k := 17) rfl d17 hasA_base)) rfl rfl (onlyT_spec (k0 := 18) rfl rfl rfl)
            · intro done hi hc hcu
              refine draw_exi (I := fun (ga1 : Nat → Value) done a w => StD 122 w0 F [(3, (pt b1 0)), (4, (pt b3 0))] [(0, 102, (pt b1 0)), (1, 103, (ga1 1)), (2, 104, (pt b3 0)), (3, 105, (pt b3 0)), (4, 106, (pt b3 0)), (5, 107, sv2), (6, 108, (Value.bool x13)), (7, 109, (Value.bool x13)), (8, 110, (pt b1 0)), (9, 111, (Value.int .i64 x14)), (10, 112, (pt b3 0)), (11, 113, (pt b3 0)), (12, 114, (pt b3 0)), (13, 115, sv2), (14, 116, (Value.int .i64 (v1.2.2.length : Int))), (15, 117, (Value.bool (x14 == (v1.2.2.length : Int)))), (16, 118, (Value.bool (x14 == (v1.2.2.length : Int)))), (17, 119, (Value.bool (x14 == (v1.2.2.length : Int)))), (18, 120, undef), (19, 121, (Value.bool false)), (20, 2, (Value.bool false))] done [(sel (done 1) (own (ga1 1) 51 2 x12.length (fl enc_Ossuaryref07_Item x12)) emp), A0, (box b1 98 [(Value.func (.func 33) #[] #[]), sv1, (Value.int .i64 v1.2.1)]), (own sv1 100 3 v1.1.length (fl enc_Pile_item__ossuaryref07_Item v1.1)), (box b3 56 [sv2]), A1] a w) fun ga1 => ?_
              have d17 : done 17 = true := done_of (j := 17) hcu rfl (by decide) rfl
              have d18 : done 18 = true := done_of (j := 18) hcu rfl (by decide) rfl
              exact draw_value (i := 19) (t := 121) (v := (Value.bool false)) rfl rfl (wanted_none rfl) (fun a => (hasA_cons (k := 18) rfl d18 (hasA_cons (k := 17) rfl d17 hasA_base))) (ov_pick rfl rfl rfl (pick_f (eq_f c15))) rfl rfl (onlyT_spec (k0 := 19) rfl rfl rfl)
            · intro done hi hc hcu
              refine draw_exi (I := fun (ga1 : Nat → Value) done a w => StD 122 w0 F [(3, (pt b1 0)), (4, (pt b3 0))] [(0, 102, (pt b1 0)), (1, 103, (ga1 1)), (2, 104, (pt b3 0)), (3, 105, (pt b3 0)), (4, 106, (pt b3 0)), (5, 107, sv2), (6, 108, (Value.bool x13)), (7, 109, (Value.bool x13)), (8, 110, (pt b1 0)), (9, 111, (Value.int .i64 x14)), (10, 112, (pt b3 0)), (11, 113, (pt b3 0)), (12, 114, (pt b3 0)), (13, 115, sv2), (14, 116, (Value.int .i64 (v1.2.2.length : Int))), (15, 117, (Value.bool (x14 == (v1.2.2.length : Int)))), (16, 118, (Value.bool (x14 == (v1.2.2.length : Int)))), (17, 119, (Value.bool (x14 == (v1.2.2.length : Int)))), (18, 120, undef), (19, 121, (Value.bool false)), (20, 2, (Value.bool false))] done [(sel (done 1) (own (ga1 1) 51 2 x12.length (fl enc_Ossuaryref07_Item x12)) emp), A0, (box b1 98 [(Value.func (.func 33) #[] #[]), sv1, (Value.int .i64 v1.2.1)]), (own sv1 100 3 v1.1.length (fl enc_Pile_item__ossuaryref07_Item v1.1)), (box b3 56 [sv2]), A1] a w) fun ga1 => ?_
              have d19 : done 19 = true := done_of (j := 19) hcu rfl (by decide) rfl
              exact draw_value (i := 20) (t := 2) (v := (Value.bool false)) rfl rfl (wanted_none rfl) (fun a => (hasA_cons (k := 19) rfl d19 hasA_base)) (ov_assign rfl) rfl rfl (onlyT_spec (k0 := 20) rfl rfl rfl)
          · intro done hall
            refine ent_exi (S := fun ga1 => (fun (ga1 : Nat → Value) done a w => StD 122 w0 F [(3, (pt b1 0)), (4, (pt b3 0))] [(0, 102, (pt b1 0)), (1, 103, (ga1 1)), (2, 104, (pt b3 0)), (3, 105, (pt b3 0)), (4, 106, (pt b3 0)), (5, 107, sv2), (6, 108, (Value.bool x13)), (7, 109, (Value.bool x13)), (8, 110, (pt b1 0)), (9, 111, (Value.int .i64 x14)), (10, 112, (pt b3 0)), (11, 113, (pt b3 0)), (12, 114, (pt b3 0)), (13, 115, sv2), (14, 116, (Value.int .i64 (v1.2.2.length : Int))), (15, 117, (Value.bool (x14 == (v1.2.2.length : Int)))), (16, 118, (Value.bool (x14 == (v1.2.2.length : Int)))), (17, 119, (Value.bool (x14 == (v1.2.2.length : Int)))), (18, 120, undef), (19, 121, (Value.bool false)), (20, 2, (Value.bool false))] done [(sel (done 1) (own (ga1 1) 51 2 x12.length (fl enc_Ossuaryref07_Item x12)) emp), A0, (box b1 98 [(Value.func (.func 33) #[] #[]), sv1, (Value.int .i64 v1.2.1)]), (own sv1 100 3 v1.1.length (fl enc_Pile_item__ossuaryref07_Item v1.1)), (box b3 56 [sv2]), A1] a w) ga1 done) fun ga1 => ?_
            refine draw_endL [(own (ga1 1) 51 2 x12.length (fl enc_Ossuaryref07_Item x12)), A0, (box b1 98 [(Value.func (.func 33) #[] #[]), sv1, (Value.int .i64 v1.2.1)]), (own sv1 100 3 v1.1.length (fl enc_Pile_item__ossuaryref07_Item v1.1)), (box b3 56 [sv2]), A1] (by simp only [hall 1 (by decide), sel]) (fun a => (hasA_cons (k := 20) rfl (hall 20 (by decide)) (hasA_cons (k := 0) rfl (hall 0 (by decide)) (hasA_cons (k := 1) rfl (hall 1 (by decide)) (hasA_cons (k := 2) rfl (hall 2 (by decide)) (hasA_cons (k := 3) rfl (hall 3 (by decide)) (hasA_cons (k := 4) rfl (hall 4 (by decide)) (hasA_cons (k := 5) rfl (hall 5 (by decide)) (hasA_cons (k := 6) rfl (hall 6 (by decide)) (hasA_cons (k := 7) rfl (hall 7 (by decide)) (hasA_cons (k := 8) rfl (hall 8 (by decide)) (hasA_cons (k := 9) rfl (hall 9 (by decide)) (hasA_cons (k := 10) rfl (hall 10 (by decide)) (hasA_cons (k := 11) rfl (hall 11 (by decide)) (hasA_cons (k := 12) rfl (hall 12 (by decide)) (hasA_cons (k := 13) rfl (hall 13 (by decide)) (hasA_cons (k := 14) rfl (hall 14 (by decide)) (hasA_cons (k := 15) rfl (hall 15 (by decide)) (hasA_cons (k := 16) rfl (hall 16 (by decide)) (hasA_cons (k := 17) rfl (hall 17 (by decide)) (hasA_cons (k := 18) rfl (hall 18 (by decide)) (hasA_cons (k := 19) rfl (hall 19 (by decide)) hasA_base)))))))))))))))))))))) ?_
            refine ent_retc ?_
            cases H
            refine ent_pick [1] (by decide) rfl ?_
            exact ret_tmp rfl rfl ⟨rfl, rfl⟩
      · rw [if_neg c14] at H
        refine ent_drawm 21 rfl (fun done a w => ∃ ga1 : Nat → Value, StD 122 w0 F [(3, (pt b1 0)), (4, (pt b3 0))] [(0, 102, (pt b1 0)), (1, 103, (ga1 1)), (2, 104, (pt b3 0)), (3, 105, (pt b3 0)), (4, 106, (pt b3 0)), (5, 107, sv2), (6, 108, (Value.bool x13)), (7, 109, (Value.bool x13)), (8, 110, undef), (9, 111, undef), (10, 112, undef), (11, 113, undef), (12, 114, undef), (13, 115, undef), (14, 116, undef), (15, 117, undef), (16, 118, (Value.bool false)), (17, 119, (Value.bool false)), (18, 120, undef), (19, 121, (Value.bool false)), (20, 2, (Value.bool false))] done [(sel (done 1) (own (ga1 1) 51 2 x12.length (fl enc_Ossuaryref07_Item x12)) emp), A0, (box b1 98 [(Value.func (.func 33) #[] #[]), sv1, (Value.int .i64 v1.2.1)]), (own sv1 100 3 v1.1.length (fl enc_Pile_item__ossuaryref07_Item v1.1)), (box b3 56 [sv2]), A1] a w) (by kernel_rfl) (by kernel_rfl) (draw_startG (T := (fun ga1 : Nat → Value => [(0, 102, (pt b1 0)), (1, 103, (ga1 1)), (2, 104, (pt b3 0)), (3, 105, (pt b3 0)), (4, 106, (pt b3 0)), (5, 107, sv2), (6, 108, (Value.bool x13)), (7, 109, (Value.bool x13)), (8, 110, undef), (9, 111, undef), (10, 112, undef), (11, 113, undef), (12, 114, undef), (13, 115, undef), (14, 116, undef), (15, 117, undef), (16, 118, (Value.bool false)), (17, 119, (Value.bool false)), (18, 120, undef), (19, 121, (Value.bool false)), (20, 2, (Value.bool false))])) (L' := fun ga1 : Nat → Value => [(sel false (own (ga1 1) 51 2 x12.length (fl enc_Ossuaryref07_Item x12)) emp), A0, (box b1 98 [(Value.func (.func 33) #[] #[]), sv1, (Value.int .i64 v1.2.1)]), (own sv1 100 3 v1.1.length (fl enc_Pile_item__ossuaryref07_Item v1.1)), (box b3 56 [sv2]), A1]) 1 (sub_cons (t := 3) rfl (sub_cons (t := 4) rfl (sub_nil _))) (fun _ => rfl)) ?_ ?_
        · refine ⟨?_, ?_, ?_, ?_, ?_, ?_, ?_, ?_, ?_, ?_, ?_, ?_, ?_, ?_, ?_, ?_, ?_, ?_, ?_, ?_, ?_, trivial⟩
          · intro done hi hc hcu
            refine draw_exi (I := fun (ga1 : Nat → Value) done a w => StD 122 w0 F [(3, (pt b1 0)), (4, (pt b3 0))] [(0, 102, (pt b1 0)), (1, 103, (ga1 1)), (2, 104, (pt b3 0)), (3, 105, (pt b3 0)), (4, 106, (pt b3 0)), (5, 107, sv2), (6, 108, (Value.bool x13)), (7, 109, (Value.bool x13)), (8, 110, undef), (9, 111, undef), (10, 112, undef), (11, 113, undef), (12, 114, undef), (13, 115, undef), (14, 116, undef), (15, 117, undef), (16, 118, (Value.bool false)), (17, 119, (Value.bool false)), (18, 120, undef), (19, 121, (Value.bool false)), (20, 2, (Value.bool false))] done [(sel (done 1) (own (ga1 1) 51 2 x12.length (fl enc_Ossuaryref07_Item x12)) emp), A0, (box b1 98 [(Value.func (.func 33) #[] #[]), sv1, (Value.int .i64 v1.2.1)]), (own sv1 100 3 v1.1.length (fl enc_Pile_item__ossuaryref07_Item v1.1)), (box b3 56 [sv2]), A1] a w) fun ga1 => ?_
            exact draw_value (i := 0) (t := 102) (v := (pt b1 0)) rfl rfl (wanted_none rfl) (fun a => hasA_base) (ov_move rfl) rfl rfl (onlyT_spec (k0 := 0) rfl rfl rfl)
          · intro done hi hc hcu
            refine ent_exi (S := fun ga1 => (fun (ga1 : Nat → Value) done a w => StD 122 w0 F [(3, (pt b1 0)), (4, (pt b3 0))] [(0, 102, (pt b1 0)), (1, 103, (ga1 1)), (2, 104, (pt b3 0)), (3, 105, (pt b3 0)), (4, 106, (pt b3 0)), (5, 107, sv2), (6, 108, (Value.bool x13)), (7, 109, (Value.bool x13)), (8, 110, undef), (9, 111, undef), (10, 112, undef), (11, 113, undef), (12, 114, undef), (13, 115, undef), (14, 116, undef), (15, 117, undef), (16, 118, (Value.bool false)), (17, 119, (Value.bool false)), (18, 120, undef), (19, 121, (Value.bool false)), (20, 2, (Value.bool false))] done [(sel (done 1) (own (ga1 1) 51 2 x12.length (fl enc_Ossuaryref07_Item x12)) emp), A0, (box b1 98 [(Value.func (.func 33) #[] #[]), sv1, (Value.int .i64 v1.2.1)]), (own sv1 100 3 v1.1.length (fl enc_Pile_item__ossuaryref07_Item v1.1)), (box b3 56 [sv2]), A1] a w) ga1 done) fun ga1 => ?_
            have d0 : done 0 = true := done_of (j := 0) hcu rfl (by decide) rfl
            refine draw_turnP (i := 1) (t := 103) (x := ga1) (L := (fun (ga1 : Nat → Value) (done : Nat → Bool) => [(sel (done 1) (own (ga1 1) 51 2 x12.length (fl enc_Ossuaryref07_Item x12)) emp), A0, (box b1 98 [(Value.func (.func 33) #[] #[]), sv1, (Value.int .i64 v1.2.1)]), (own sv1 100 3 v1.1.length (fl enc_Pile_item__ossuaryref07_Item v1.1)), (box b3 56 [sv2]), A1])) (T := (fun ga1 : Nat → Value => [(0, 102, (pt b1 0)), (1, 103, (ga1 1)), (2, 104, (pt b3 0)), (3, 105, (pt b3 0)), (4, 106, (pt b3 0)), (5, 107, sv2), (6, 108, (Value.bool x13)), (7, 109, (Value.bool x13)), (8, 110, undef), (9, 111, undef), (10, 112, undef), (11, 113, undef), (12, 114, undef), (13, 115, undef), (14, 116, undef), (15, 117, undef), (16, 118, (Value.bool false)), (17, 119, (Value.bool false)), (18, 120, undef), (19, 121, (Value.bool false)), (20, 2, (Value.bool false))])) (L2 := [emp, A0, (box b1 98 [(Value.func (.func 33) #[] #[]), sv1, (Value.int .i64 v1.2.1)]), (own sv1 100 3 v1.1.length (fl enc_Pile_item__ossuaryref07_Item v1.1)), (box b3 56 [sv2]), A1]) [2, 3, 0, 1, 4, 5] [2, 4, 0, 1, 5, 6] rfl rfl (wanted_none rfl) (fun a => (hasA_cons (k := 0) rfl d0 hasA_base)) (by simp only [hi, sel]) (by decide) rfl (ot_call (Lr := [emp, A0, (box b3 56 [sv2]), A1]) (first := []) (cap := []) (xs := [.tmp 102]) rfl rfl F_call_41 rfl (pile_Pile__ossuaryref07_Item_Sorted.spec K b1 sv1 v1.1 v1.2.1 _ h10) rfl) (by decide) rfl rfl ?_
            rintro g0_ _ ⟨_, ⟨_, rfl, rfl⟩, rfl⟩
            exact ⟨(upb ga1 1 g0_), show some [(own g0_ 51 2 x12.length (fl enc_Ossuaryref07_Item x12)), A0, (box b1 98 [(Value.func (.func 33) #[] #[]), sv1, (Value.int .i64 v1.2.1)]), (own sv1 100 3 v1.1.length (fl enc_Pile_item__ossuaryref07_Item v1.1)), (box b3 56 [sv2]), A1] = _ by simp [up, upb, sel, hi], (tr_same rfl rfl (tr_this (tr_same rfl rfl (tr_same rfl rfl (tr_same rfl rfl (tr_same rfl rfl (tr_same rfl rfl (tr_same rfl rfl (tr_same rfl rfl (tr_same rfl rfl (tr_same rfl rfl (tr_same rfl rfl (tr_same rfl rfl (tr_same rfl rfl (tr_same rfl rfl (tr_same rfl rfl (tr_same rfl rfl (tr_same rfl rfl (tr_same rfl rfl (tr_same rfl rfl (tr_same rfl rfl tr_nil)))))))))))))))))))))⟩
          · intro done hi hc hcu
            refine draw_exi (I := fun (ga1 : Nat → Value) done a w => StD 122 w0 F [(3, (pt b1 0)), (4, (pt b3 0))] [(0, 102, (pt b1 0)), (1, 103, (ga1 1)), (2, 104, (pt b3 0)), (3, 105, (pt b3 0)), (4, 106, (pt b3 0)), (5, 107, sv2), (6, 108, (Value.bool x13)), (7, 109, (Value.bool x13)), (8, 110, undef), (9, 111, undef), (10, 112, undef), (11, 113, undef), (12, 114, undef), (13, 115, undef), (14, 116, undef), (15, 117, undef), (16, 118, (Value.bool false)), (17, 119, (Value.bool false)), (18, 120, undef), (19, 121, (Value.bool false)), (20, 2, (Value.bool false))] done [(sel (done 1) (own (ga1 1) 51 2 x12.length (fl enc_Ossuaryref07_Item x12)) emp), A0, (box b1 98 [(Value.func (.func 33) #[] #[]), sv1, (Value.int .i64 v1.2.1)]), (own sv1 100 3 v1.1.length (fl enc_Pile_item__ossuaryref07_Item v1.1)), (box b3 56 [sv2]), A1] a w) fun ga1 => ?_
            exact draw_value (i := 2) (t := 104) (v := (pt b3 0)) rfl rfl (wanted_none rfl) (fun a => hasA_base) (ov_move rfl) rfl rfl (onlyT_spec (k0 := 2) rfl rfl rfl)
          · intro done hi hc hcu
            refine draw_exi (I := fun (ga1 : Nat → Value) done a w => StD 122 w0 F [(3, (pt b1 0)), (4, (pt b3 0))] [(0, 102, (pt b1 0)), (1, 103, (ga1 1)), (2, 104, (pt b3 0)), (3, 105, (pt b3 0)), (4, 106, (pt b3 0)), (5, 107, sv2), (6, 108, (Value.bool x13)), (7, 109, (Value.bool x13)), (8, 110, undef), (9, 111, undef), (10, 112, undef), (11, 113, undef), (12, 114, undef), (13, 115, undef), (14, 116, undef), (15, 117, undef), (16, 118, (Value.bool false)), (17, 119, (Value.bool false)), (18, 120, undef), (19, 121, (Value.bool false)), (20, 2, (Value.bool false))] done [(sel (done 1) (own (ga1 1) 51 2 x12.length (fl enc_Ossuaryref07_Item x12)) emp), A0, (box b1 98 [(Value.func (.func 33) #[] #[]), sv1, (Value.int .i64 v1.2.1)]), (own sv1 100 3 v1.1.length (fl enc_Pile_item__ossuaryref07_Item v1.1)), (box b3 56 [sv2]), A1] a w) fun ga1 => ?_
            have d2 : done 2 = true := done_of (j := 2) hcu rfl (by decide) rfl
            exact draw_value (i := 3) (t := 105) (v := (pt b3 0)) rfl rfl (wanted_none rfl) (fun a => (hasA_cons (k := 2) rfl d2 hasA_base)) (ov_nilCheck rfl) rfl rfl (onlyT_spec (k0 := 3) rfl rfl rfl)
          · intro done hi hc hcu
            refine draw_exi (I := fun (ga1 : Nat → Value) done a w => StD 122 w0 F [(3, (pt b1 0)), (4, (pt b3 0))] [(0, 102, (pt b1 0)), (1, 103, (ga1 1)), (2, 104, (pt b3 0)), (3, 105, (pt b3 0)), (4, 106, (pt b3 0)), (5, 107, sv2), (6, 108, (Value.bool x13)), (7, 109, (Value.bool x13)), (8, 110, undef), (9, 111, undef), (10, 112, undef), (11, 113, undef), (12, 114, undef), (13, 115, undef), (14, 116, undef), (15, 117, undef), (16, 118, (Value.bool false)), (17, 119, (Value.bool false)), (18, 120, undef), (19, 121, (Value.bool false)), (20, 2, (Value.bool false))] done [(sel (done 1) (own (ga1 1) 51 2 x12.length (fl enc_Ossuaryref07_Item x12)) emp), A0, (box b1 98 [(Value.func (.func 33) #[] #[]), sv1, (Value.int .i64 v1.2.1)]), (own sv1 100 3 v1.1.length (fl enc_Pile_item__ossuaryref07_Item v1.1)), (box b3 56 [sv2]), A1] a w) fun ga1 => ?_
            have d3 : done 3 = true := done_of (j := 3) hcu rfl (by decide) rfl
            exact draw_value (i := 4) (t := 106) (v := (pt b3 0)) rfl rfl (wanted_none rfl) (fun a => (hasA_cons (k := 3) rfl d3 hasA_base)) (ov_fieldAddr (sz := 0) (o := 0) rfl F_field_56_0 F_size_54) rfl rfl (onlyT_spec (k0 := 4) rfl rfl rfl)
          · intro done hi hc hcu
            refine draw_exi (I := fun (ga1 : Nat → Value) done a w => StD 122 w0 F [(3, (pt b1 0)), (4, (pt b3 0))] [(0, 102, (pt b1 0)), (1, 103, (ga1 1)), (2, 104, (pt b3 0)), (3, 105, (pt b3 0)), (4, 106, (pt b3 0)), (5, 107, sv2), (6, 108, (Value.bool x13)), (7, 109, (Value.bool x13)), (8, 110, undef), (9, 111, undef), (10, 112, undef), (11, 113, undef), (12, 114, undef), (13, 115, undef), (14, 116, undef), (15, 117, undef), (16, 118, (Value.bool false)), (17, 119, (Value.bool false)), (18, 120, undef), (19, 121, (Value.bool false)), (20, 2, (Value.bool false))] done [(sel (done 1) (own (ga1 1) 51 2 x12.length (fl enc_Ossuaryref07_Item x12)) emp), A0, (box b1 98 [(Value.func (.func 33) #[] #[]), sv1, (Value.int .i64 v1.2.1)]), (own sv1 100 3 v1.1.length (fl enc_Pile_item__ossuaryref07_Item v1.1)), (box b3 56 [sv2]), A1] a w) fun ga1 => ?_
            have d4 : done 4 = true := done_of (j := 4) hcu rfl (by decide) rfl
            exact draw_value (i := 5) (t := 107) (v := sv2) rfl rfl (wanted_none rfl) (fun a => (hasA_cons (k := 4) rfl d4 hasA_base)) (ov_load (v := sv2) rfl F_agg_54 (reads_box1 (i := 4) rfl rfl)) rfl rfl (onlyT_spec (k0 := 5) rfl rfl rfl)
          · intro done hi hc hcu
            refine draw_exi (I := fun (ga1 : Nat → Value) done a w => StD 122 w0 F [(3, (pt b1 0)), (4, (pt b3 0))] [(0, 102, (pt b1 0)), (1, 103, (ga1 1)), (2, 104, (pt b3 0)), (3, 105, (pt b3 0)), (4, 106, (pt b3 0)), (5, 107, sv2), (6, 108, (Value.bool x13)), (7, 109, (Value.bool x13)), (8, 110, undef), (9, 111, undef), (10, 112, undef), (11, 113, undef), (12, 114, undef), (13, 115, undef), (14, 116, undef), (15, 117, undef), (16, 118, (Value.bool false)), (17, 119, (Value.bool false)), (18, 120, undef), (19, 121, (Value.bool false)), (20, 2, (Value.bool false))] done [(sel (done 1) (own (ga1 1) 51 2 x12.length (fl enc_Ossuaryref07_Item x12)) emp), A0, (box b1 98 [(Value.func (.func 33) #[] #[]), sv1, (Value.int .i64 v1.2.1)]), (own sv1 100 3 v1.1.length (fl enc_Pile_item__ossuaryref07_Item v1.1)), (box b3 56 [sv2]), A1] a w) fun ga1 => ?_
            have d1 : done 1 = true := done_of (j := 1) hcu rfl (by decide) rfl
            have d5 : done 5 = true := done_of (j := 5) hcu rfl (by decide) rfl
            exact draw_same (i := 6) (t := 108) (v := (Value.bool x13)) rfl rfl (wanted_none rfl) (fun a => (hasA_cons (k := 5) rfl d5 (hasA_cons (k := 1) rfl d1 hasA_base))) (ot_L (L2 := [(own (ga1 1) 51 2 x12.length (fl enc_Ossuaryref07_Item x12)), A0, (box b1 98 [(Value.func (.func 33) #[] #[]), sv1, (Value.int .i64 v1.2.1)]), (own sv1 100 3 v1.1.length (fl enc_Pile_item__ossuaryref07_Item v1.1)), (box b3 56 [sv2]), A1]) (by simp only [d1, sel]) (ot_call_same (Lr := [A0, (box b1 98 [(Value.func (.func 33) #[] #[]), sv1, (Value.int .i64 v1.2.1)]), (own sv1 100 3 v1.1.length (fl enc_Pile_item__ossuaryref07_Item v1.1)), (box b3 56 [sv2])]) [0, 5, 1, 2, 3, 4] [0, 2, 3, 4, 5, 1] (first := []) (cap := []) (xs := [.tmp 103, .tmp 107]) rfl rfl F_call_40 rfl (ossuaryref07_Same.spec K (ga1 1) (own (ga1 1) 51 2 x12.length (fl enc_Ossuaryref07_Item x12)) sv2 A1 x12 v1.2.2 (isRd_ownx 51) hr1 _ h11) (by decide) rfl (by decide) rfl)) rfl rfl (onlyT_spec (k0 := 6) rfl rfl rfl)
          · intro done hi hc hcu
            refine draw_exi (I := fun (ga1 : Nat → Value) done a w => StD 122 w0 F [(3, (pt b1 0)), (4, (pt b3 0))] [(0, 102, (pt b1 0)), (1, 103, (ga1 1)), (2, 104, (pt b3 0)), (3, 105, (pt b3 0)), (4, 106, (pt b3 0)), (5, 107, sv2), (6, 108, (Value.bool x13)), (7, 109, (Value.bool x13)), (8, 110, undef), (9, 111, undef), (10, 112, undef), (11, 113, undef), (12, 114, undef), (13, 115, undef), (14, 116, undef), (15, 117, undef), (16, 118, (Value.bool false)), (17, 119, (Value.bool false)), (18, 120, undef), (19, 121, (Value.bool false)), (20, 2, (Value.bool false))] done [(sel (done 1) (own (ga1 1) 51 2 x12.length (fl enc_Ossuaryref07_Item x12)) emp), A0, (box b1 98 [(Value.func (.func 33) #[] #[]), sv1, (Value.int .i64 v1.2.1)]), (own sv1 100 3 v1.1.length (fl enc_Pile_item__ossuaryref07_Item v1.1)), (box b3 56 [sv2]), A1] a w) fun ga1 => ?_
            have d6 : done 6 = true := done_of (j := 6) hcu rfl (by decide) rfl
            exact draw_value (i := 7) (t := 109) (v := (Value.bool x13)) rfl rfl (wanted_none rfl) (fun a => (hasA_cons (k := 6) rfl d6 hasA_base)) (ov_move rfl) rfl rfl (onlyT_spec (k0 := 7) rfl rfl rfl)
          · intro done hi hc hcu
            refine draw_exi (I := fun (ga1 : Nat → Value) done a w => StD 122 w0 F [(3, (pt b1 0)), (4, (pt b3 0))] [(0, 102, (pt b1 0)), (1, 103, (ga1 1)), (2, 104, (pt b3 0)), (3, 105, (pt b3 0)), (4, 106, (pt b3 0)), (5, 107, sv2), (6, 108, (Value.bool x13)), (7, 109, (Value.bool x13)), (8, 110, undef), (9, 111, undef), (10, 112, undef), (11, 113, undef), (12, 114, undef), (13, 115, undef), (14, 116, undef), (15, 117, undef), (16, 118, (Value.bool false)), (17, 119, (Value.bool false)), (18, 120, undef), (19, 121, (Value.bool false)), (20, 2, (Value.bool false))] done [(sel (done 1) (own (ga1 1) 51 2 x12.length (fl enc_Ossuaryref07_Item x12)) emp), A0, (box b1 98 [(Value.func (.func 33) #[] #[]), sv1, (Value.int .i64 v1.2.1)]), (own sv1 100 3 v1.1.length (fl enc_Pile_item__ossuaryref07_Item v1.1)), (box b3 56 [sv2]), A1] a w) fun ga1 => ?_
            have d7 : done 7 = true := done_of (j := 7) hcu rfl (by decide) rfl
            exact draw_off (i := 8) (t := 110) rfl rfl (wanted_off rfl rfl rfl (Bool.eq_false_iff.2 c14)) (fun a => (hasA_cons (k := 7) rfl d7 hasA_base)) rfl rfl (onlyT_spec (k0 := 8) rfl rfl rfl)
          · intro done hi hc hcu
            refine draw_exi (I := fun (ga1 : Nat → Value) done a w => StD 122 w0 F [(3, (pt b1 0)), (4, (pt b3 0))] [(0, 102, (pt b1 0)), (1, 103, (ga1 1)), (2, 104, (pt b3 0)), (3, 105, (pt b3 0)), (4, 106, (pt b3 0)), (5, 107, sv2), (6, 108, (Value.bool x13)), (7, 109, (Value.bool x13)), (8, 110, undef), (9, 111, undef), (10, 112, undef), (11, 113, undef), (12, 114, undef), (13, 115, undef), (14, 116, undef), (15, 117, undef), (16, 118, (Value.bool false)), (17, 119, (Value.bool false)), (18, 120, undef), (19, 121, (Value.bool false)), (20, 2, (Value.bool false))] done [(sel (done 1) (own (ga1 1) 51 2 x12.length (fl enc_Ossuaryref07_Item x12)) emp), A0, (box b1 98 [(Value.func (.func 33) #[] #[]), sv1, (Value.int .i64 v1.2.1)]), (own sv1 100 3 v1.1.length (fl enc_Pile_item__ossuaryref07_Item v1.1)), (box b3 56 [sv2]), A1] a w) fun ga1 => ?_
            have d7 : done 7 = true := done_of (j := 7) hcu rfl (by decide) rfl
            exact draw_off (i := 9) (t := 111) rfl rfl (wanted_off rfl rfl rfl (Bool.eq_false_iff.2 c14)) (fun a => (hasA_cons (k := 7) rfl d7 hasA_base)) rfl rfl (onlyT_spec (k0 := 9) rfl rfl rfl)
          · intro done hi hc hcu
            refine draw_exi (I := fun (ga1 : Nat → Value) done a w => StD 122 w0 F [(3, (pt b1 0)), (4, (pt b3 0))] [(0, 102, (pt b1 0)), (1, 103, (ga1 1)), (2, 104, (pt b3 0)), (3, 105, (pt b3 0)), (4, 106, (pt b3 0)), (5, 107, sv2), (6, 108, (Value.bool x13)), (7, 109, (Value.bool x13)), (8, 110, undef), (9, 111, undef), (10, 112, undef), (11, 113, undef), (12, 114, undef), (13, 115, undef), (14, 116, undef), (15, 117, undef), (16, 118, (Value.bool false)), (17, 119, (Value.bool false)), (18, 120, undef), (19, 121, (Value.bool false)), (20, 2, (Value.bool false))] done [(sel (done 1) (own (ga1 1) 51 2 x12.length (fl enc_Ossuaryref07_Item x12)) emp), A0, (box b1 98 [(Value.func (.func 33) #[] #[]), sv1, (Value.int .i64 v1.2.1)]), (own sv1 100 3 v1.1.length (fl enc_Pile_item__ossuaryref07_Item v1.1)), (box b3 56 [sv2]), A1] a w) fun ga1 => ?_
            have d7 : done 7 = true := done_of (j := 7) hcu rfl (by decide) rfl
            exact draw_off (i := 10) (t := 112) rfl rfl (wanted_off rfl rfl rfl (Bool.eq_false_iff.2 c14)) (fun a => (hasA_cons (k := 7) rfl d7 hasA_base)) rfl rfl (onlyT_spec (k0 := 10) rfl rfl rfl)
          · intro done hi hc hcu
            refine draw_exi (I := fun (ga1 : Nat → Value) done a w => StD 122 w0 F [(3, (pt b1 0)), (4, (pt b3 0))] [(0, 102, (pt b1 0)), (1, 103, (ga1 1)), (2, 104, (pt b3 0)), (3, 105, (pt b3 0)), (4, 106, (pt b3 0)), (5, 107, sv2), (6, 108, (Value.bool x13)), (7, 109, (Value.bool x13)), (8, 110, undef), (9, 111, undef), (10, 112, undef), (11, 113, undef), (12, 114, undef), (13, 115, undef), (14, 116, undef), (15, 117, undef), (16, 118, (Value.bool false)), (17, 119, (Value.bool false)), (18, 120, undef), (19, 121, (Value.bool false)), (20, 2, (Value.bool false))] done [(sel (done 1) (own (ga1 1) 51 2 x12.length (fl enc_Ossuaryref07_Item x12)) emp), A0, (box b1 98 [(Value.func (.func 33) #[] #[]), sv1, (Value.int .i64 v1.2.1)]), (own sv1 100 3 v1.1.length (fl enc_Pile_item__ossuaryref07_Item v1.1)), (box b3 56 [sv2]), A1] a w) fun ga1 => ?_
            have d7 : done 7 = true := done_of (j := 7) hcu rfl (by decide) rfl
            exact draw_off (i := 11) (t := 113) rfl rfl (wanted_off rfl rfl rfl (Bool.eq_false_iff.2 c14)) (fun a => (hasA_cons (k := 7) rfl d7 hasA_base)) rfl rfl (onlyT_spec (k0 := 11) rfl rfl rfl)
          · intro done hi hc hcu
            refine draw_exi (I := fun (ga1 : Nat → Value) done a w => StD 122 w0 F [(3, (pt b1 0)), (4, (pt b3 0))] [(0, 102, (pt b1 0)), (1, 103, (ga1 1)), (2, 104, (pt b3 0)), (3, 105, (pt b3 0)), (4, 106, (pt b3 0)), (5, 107, sv2), (6, 108, (Value.bool x13)), (7, 109, (Value.bool x13)), (8, 110, undef), (9, 111, undef), (10, 112, undef), (11, 113, undef), (12, 114, undef), (13, 115, undef), (14, 116, undef), (15, 117, undef), (16, 118, (Value.bool false)), (17, 119, (Value.bool false)), (18, 120, undef), (19, 121, (Value.bool false)), (20, 2, (Value.bool false))] done [(sel (done 1) (own (ga1 1) 51 2 x12.length (fl enc_Ossuaryref07_Item x12)) emp), A0, (box b1 98 [(Value.func (.func 33) #[] #[]), sv1, (Value.int .i64 v1.2.1)]), (own sv1 100 3 v1.1.length (fl enc_Pile_item__ossuaryref07_Item v1.1)), (box b3 56 [sv2]), A1] a w) fun ga1 => ?_
            have d7 : done 7 = true := done_of (j := 7) hcu rfl (by decide) rfl
            exact draw_off (i := 12) (t := 114) rfl rfl (wanted_off rfl rfl rfl (Bool.eq_false_iff.2 c14)) (fun a => (hasA_cons (k := 7) rfl d7 hasA_base)) rfl rfl (onlyT_spec (k0 := 12) rfl rfl rfl)
          · intro done hi hc hcu
            refine draw_exi (I := fun (ga1 : Nat → Value) done a w => StD 122 w0 F [(3, (pt b1 0)), (4, (pt b3 0))] [(0, 102, (pt b1 0)), (1, 103, (ga1 1)), (2, 104, (pt b3 0)), (3, 105, (pt b3 0)), (4, 106, (pt b3 0)), (5, 107, sv2), (6, 108, (Value.bool x13)), (7, 109, (Value.bool x13)), (8, 110, undef), (9, 111, undef), (10, 112, undef), (11, 113, undef), (12, 114, undef), (13, 115, undef), (14, 116, undef), (15, 117, undef), (16, 118, (Value.bool false)), (17, 119, (Value.bool false)), (18, 120, undef), (19, 121, (Value.bool false)), (20, 2, (Value.bool false))] done [(sel (done 1) (own (ga1 1) 51 2 x12.length (fl enc_Ossuaryref07_Item x12)) emp), A0, (box b1 98 [(Value.func (.func 33) #[] #[]), sv1, (Value.int .i64 v1.2.1)]), (own sv1 100 3 v1.1.length (fl enc_Pile_item__ossuaryref07_Item v1.1)), (box b3 56 [sv2]), A1] a w) fun ga1 => ?_
            have d7 : done 7 = true := done_of (j := 7) hcu rfl (by decide) rfl
            exact draw_off (i := 13) (t := 115) rfl rfl (wanted_off rfl rfl rfl (Bool.eq_false_iff.2 c14)) (fun a => (hasA_cons (k := 7) rfl d7 hasA_base)) rfl rfl (onlyT_spec (k0 := 13) rfl rfl rfl)
          · intro done hi hc hcu
            refine draw_exi (I := fun (ga1 : Nat → Value) done a w => StD 122 w0 F [(3, (pt b1 0)), (4, (pt b3 0))] [(0, 102, (pt b1 0)), (1, 103, (ga1 1)), (2, 104, (pt b3 0)), (3, 105, (pt b3 0)), (4, 106, (pt b3 0)), (5, 107, sv2), (6, 108, (Value.bool x13)), (7, 109, (Value.bool x13)), (8, 110, undef), (9, 111, undef), (10, 112, undef), (11, 113, undef), (12, 114, undef), (13, 115, undef), (14, 116, undef), (15, 117, undef), (16, 118, (Value.bool false)), (17, 119, (Value.bool false)), (18, 120, undef), (19, 121, (Value.bool false)), (20, 2, (Value.bool false))] done [(sel (done 1) (own (ga1 1) 51 2 x12.length (fl enc_Ossuaryref07_Item x12)) emp), A0, (box b1 98 [(Value.func (.func 33) #[] #[]), sv1, (Value.int .i64 v1.2.1)]), (own sv1 100 3 v1.1.length (fl enc_Pile_item__ossuaryref07_Item v1.1)), (box b3 56 [sv2]), A1] a w) fun ga1 => ?_
            have d7 : done 7 = true := done_of (j := 7) hcu rfl (by decide) rfl
            exact draw_off (i := 14) (t := 116) rfl rfl (wanted_off rfl rfl rfl (Bool.eq_false_iff.2 c14)) (fun a => (hasA_cons (k := 7) rfl d7 hasA_base)) rfl rfl (onlyT_spec (k0 := 14) rfl rfl rfl)
          · intro done hi hc hcu
            refine draw_exi (I := fun (ga1 : Nat → Value) done a w => StD 122 w0 F [(3, (pt b1 0)), (4, (pt b3 0))] [(0, 102, (pt b1 0)), (1, 103, (ga1 1)), (2, 104, (pt b3 0)), (3, 105, (pt b3 0)), (4, 106, (pt b3 0)), (5, 107, sv2), (6, 108, (Value.bool x13)), (7, 109, (Value.bool x13)), (8, 110, undef), (9, 111, undef), (10, 112, undef), (11, 113, undef), (12, 114, undef), (13, 115, undef), (14, 116, undef), (15, 117, undef), (16, 118, (Value.bool false)), (17, 119, (Value.bool false)), (18, 120, undef), (19, 121, (Value.bool false)), (20, 2, (Value.bool false))] done [(sel (done 1) (own (ga1 1) 51 2 x12.length (fl enc_Ossuaryref07_Item x12)) emp), A0, (box b1 98 [(Value.func (.func 33) #[] #[]), sv1, (Value.int .i64 v1.2.1)]), (own sv1 100 3 v1.1.length (fl enc_Pile_item__ossuaryref07_Item v1.1)), (box b3 56 [sv2]), A1] a w) fun ga1 => ?_
            have d7 : done 7 = true := done_of (j := 7) hcu rfl (by decide) rfl
            exact draw_off (i := 15) (t := 117) rfl rfl (wanted_off rfl rfl rfl (Bool.eq_false_iff.2 c14)) (fun a => (hasA_cons (k := 7) rfl d7 hasA_base)) rfl rfl (onlyT_spec (k0 := 15) rfl rfl rfl)
          · intro done hi hc hcu
            refine draw_exi (I := fun (ga1 : Nat → Value) done a w => StD 122 w0 F [(3, (pt b1 0)), (4, (pt b3 0))] [(0, 102, (pt b1 0)), (1, 103, (ga1 1)), (2, 104, (pt b3 0)), (3, 105, (pt b3 0)), (4, 106, (pt b3 0)), (5, 107, sv2), (6, 108, (Value.bool x13)), (7, 109, (Value.bool x13)), (8, 110, undef), (9, 111, undef), (10, 112, undef), (11, 113, undef), (12, 114, undef), (13, 115, undef), (14, 116, undef), (15, 117, undef), (16, 118, (Value.bool false)), (17, 119, (Value.bool false)), (18, 120, undef), (19, 121, (Value.bool false)), (20, 2, (Value.bool false))] done [(sel (done 1) (own (ga1 1) 51 2 x12.length (fl enc_Ossuaryref07_Item x12)) emp), A0, (box b1 98 [(Value.func (.func 33) #[] #[]), sv1, (Value.int .i64 v1.2.1)]), (own sv1 100 3 v1.1.length (fl enc_Pile_item__ossuaryref07_Item v1.1)), (box b3 56 [sv2]), A1] a w) fun ga1 => ?_
            have d7 : done 7 = true := done_of (j := 7) hcu rfl (by decide) rfl
            have d15 : done 15 = true := done_of (j := 15) hcu rfl (by decide) rfl
            exact draw_value (i := 16) (t := 118) (v := (Value.bool false)) rfl rfl (wanted_none rfl) (fun a => (hasA_cons (k := 15) rfl d15 (hasA_cons (k := 7) rfl d7 hasA_base))) (ov_pick rfl rfl rfl (pick_f (Bool.eq_false_iff.2 c14))) rfl rfl (onlyT_spec (k0 := 16) rfl rfl rfl)
          · intro done hi hc hcu
            refine draw_exi (I := fun (ga1 : Nat → Value) done a w => StD 122 w0 F [(3, (pt b1 0)), (4, (pt b3 0))] [(0, 102, (pt b1 0)), (1, 103, (ga1 1)), (2, 104, (pt b3 0)), (3, 105, (pt b3 0)), (4, 106, (pt b3 0)), (5, 107, sv2), (6, 108, (Value.bool x13)), (7, 109, (Value.bool x13)), (8, 110, undef), (9, 111, undef), (10, 112, undef), (11, 113, undef), (12, 114, undef), (13, 115, undef), (14, 116, undef), (15, 117, undef), (16, 118, (Value.bool false)), (17, 119, (Value.bool false)), (18, 120, undef), (19, 121, (Value.bool false)), (20, 2, (Value.bool false))] done [(sel (done 1) (own (ga1 1) 51 2 x12.length (fl enc_Ossuaryref07_Item x12)) emp), A0, (box b1 98 [(Value.func (.func 33) #[] #[]), sv1, (Value.int .i64 v1.2.1)]), (own sv1 100 3 v1.1.length (fl enc_Pile_item__ossuaryref07_Item v1.1)), (box b3 56 [sv2]), A1] a w) fun ga1 => ?_
            have d16 : done 16 = true := done_of (j := 16) hcu rfl (by decide) rfl
            exact draw_value (i := 17) (t := 119) (v := (Value.bool false)) rfl rfl (wanted_none rfl) (fun a => (hasA_cons (k := 16) rfl d16 hasA_base)) (ov_move rfl) rfl rfl (onlyT_spec (k0 := 17) rfl rfl rfl)
          · intro done hi hc hcu
            refine draw_exi (I := fun (ga1 : Nat → Value) done a w => StD 122 w0 F [(3, (pt b1 0)), (4, (pt b3 0))] [(0, 102, (pt b1 0)), (1, 103, (ga1 1)), (2, 104, (pt b3 0)), (3, 105, (pt b3 0)), (4, 106, (pt b3 0)), (5, 107, sv2), (6, 108, (Value.bool x13)), (7, 109, (Value.bool x13)), (8, 110, undef), (9, 111, undef), (10, 112, undef), (11, 113, undef), (12, 114, undef), (13, 115, undef), (14, 116, undef), (15, 117, undef), (16, 118, (Value.bool false)), (17, 119, (Value.bool false)), (18, 120, undef), (19, 121, (Value.bool false)), (20, 2, (Value.bool false))] done [(sel (done 1) (own (ga1 1) 51 2 x12.length (fl enc_Ossuaryref07_Item x12)) emp), A0, (box b1 98 [(Value.func (.func 33) #[] #[]), sv1, (Value.int .i64 v1.2.1)]), (own sv1 100 3 v1.1.length (fl enc_Pile_item__ossuaryref07_Item v1.1)), (box b3 56 [sv2]), A1] a w) fun ga1 => ?_
            have d17 : done 17 = true := done_of (j := 17) hcu rfl (by decide) rfl
            exact draw_off (i := 18) (t := 120) rfl rfl (wanted_off rfl rfl rfl rfl) (fun a => (hasA_cons (k := 17) rfl d17 hasA_base)) rfl rfl (onlyT_spec (k0 := 18) rfl rfl rfl)
          · intro done hi hc hcu
            refine draw_exi (I := fun (ga1 : Nat → Value) done a w => StD 122 w0 F [(3, (pt b1 0)), (4, (pt b3 0))] [(0, 102, (pt b1 0)), (1, 103, (ga1 1)), (2, 104, (pt b3 0)), (3, 105, (pt b3 0)), (4, 106, (pt b3 0)), (5, 107, sv2), (6, 108, (Value.bool x13)), (7, 109, (Value.bool x13)), (8, 110, undef), (9, 111, undef), (10, 112, undef), (11, 113, undef), (12, 114, undef), (13, 115, undef), (14, 116, undef), (15, 117, undef), (16, 118, (Value.bool false)), (17, 119, (Value.bool false)), (18, 120, undef), (19, 121, (Value.bool false)), (20, 2, (Value.bool false))] done [(sel (done 1) (own (ga1 1) 51 2 x12.length (fl enc_Ossuaryref07_Item x12)) emp), A0, (box b1 98 [(Value.func (.func 33) #[] #[]), sv1, (Value.int .i64 v1.2.1)]), (own sv1 100 3 v1.1.length (fl enc_Pile_item__ossuaryref07_Item v1.1)), (box b3 56 [sv2]), A1] a w) fun ga1 => ?_
            have d17 : done 17 = true := done_of (j := 17) hcu rfl (by decide) rfl
            have d18 : done 18 = true := done_of (j := 18) hcu rfl (by decide) rfl
            exact draw_value (i := 19) (t := 121) (v := (Value.bool false)) rfl rfl (wanted_none rfl) (fun a => (hasA_cons (k := 18) rfl d18 (hasA_cons (k := 17) rfl d17 hasA_base))) (ov_pick rfl rfl rfl rfl) rfl rfl (onlyT_spec (k0 := 19) rfl rfl rfl)
          · intro done hi hc hcu
            refine draw_exi (I := fun (ga1 : Nat → Value) done a w => StD 122 w0 F [(3, (pt b1 0)), (4, (pt b3 0))] [(0, 102, (pt b1 0)), (1, 103, (ga1 1)), (2, 104, (pt b3 0)), (3, 105, (pt b3 0)), (4, 106, (pt b3 0)), (5, 107, sv2), (6, 108, (Value.bool x13)), (7, 109, (Value.bool x13)), (8, 110, undef), (9, 111, undef), (10, 112, undef), (11, 113, undef), (12, 114, undef), (13, 115, undef), (14, 116, undef), (15, 117, undef), (16, 118, (Value.bool false)), (17, 119, (Value.bool false)), (18, 120, undef), (19, 121, (Value.bool false)), (20, 2, (Value.bool false))] done [(sel (done 1) (own (ga1 1) 51 2 x12.length (fl enc_Ossuaryref07_Item x12)) emp), A0, (box b1 98 [(Value.func (.func 33) #[] #[]), sv1, (Value.int .i64 v1.2.1)]), (own sv1 100 3 v1.1.length (fl enc_Pile_item__ossuaryref07_Item v1.1)), (box b3 56 [sv2]), A1] a w) fun ga1 => ?_
            have d19 : done 19 = true := done_of (j := 19) hcu rfl (by decide) rfl
            exact draw_value (i := 20) (t := 2) (v := (Value.bool false)) rfl rfl (wanted_none rfl) (fun a => (hasA_cons (k := 19) rfl d19 hasA_base)) (ov_assign rfl) rfl rfl (onlyT_spec (k0 := 20) rfl rfl rfl)
        · intro done hall
          refine ent_exi (S := fun ga1 => (fun (ga1 : Nat → Value) done a w => StD 122 w0 F [(3, (pt b1 0)), (4, (pt b3 0))] [(0, 102, (pt b1 0)), (1, 103, (ga1 1)), (2, 104, (pt b3 0)), (3, 105, (pt b3 0)), (4, 106, (pt b3 0)), (5, 107, sv2), (6, 108, (Value.bool x13)), (7, 109, (Value.bool x13)), (8, 110, undef), (9, 111, undef), (10, 112, undef), (11, 113, undef), (12, 114, undef), (13, 115, undef), (14, 116, undef), (15, 117, undef), (16, 118, (Value.bool false)), (17, 119, (Value.bool false)), (18, 120, undef), (19, 121, (Value.bool false)), (20, 2, (Value.bool false))] done [(sel (done 1) (own (ga1 1) 51 2 x12.length (fl enc_Ossuaryref07_Item x12)) emp), A0, (box b1 98 [(Value.func (.func 33) #[] #[]), sv1, (Value.int .i64 v1.2.1)]), (own sv1 100 3 v1.1.length (fl enc_Pile_item__ossuaryref07_Item v1.1)), (box b3 56 [sv2]), A1] a w) ga1 done) fun ga1 => ?_
          refine draw_endL [(own (ga1 1) 51 2 x12.length (fl enc_Ossuaryref07_Item x12)), A0, (box b1 98 [(Value.func (.func 33) #[] #[]), sv1, (Value.int .i64 v1.2.1)]), (own sv1 100 3 v1.1.length (fl enc_Pile_item__ossuaryref07_Item v1.1)), (box b3 56 [sv2]), A1] (by simp only [hall 1 (by decide), sel]) (fun a => (hasA_cons (k := 20) rfl (hall 20 (by decide)) (hasA_cons (k := 0) rfl (hall 0 (by decide)) (hasA_cons (k := 1) rfl (hall 1 (by decide)) (hasA_cons (k := 2) rfl (hall 2 (by decide)) (hasA_cons (k := 3) rfl (hall 3 (by decide)) (hasA_cons (k := 4) rfl (hall 4 (by decide)) (hasA_cons (k := 5) rfl (hall 5 (by decide)) (hasA_cons (k := 6) rfl (hall 6 (by decide)) (hasA_cons (k := 7) rfl (hall 7 (by decide)) (hasA_cons (k := 8) rfl (hall 8 (by decide)) (hasA_cons (k := 9) rfl (hall 9 (by decide)) (hasA_cons (k := 10) rfl (hall 10 (by decide)) (hasA_cons (k := 11) rfl (hall 11 (by decide)) (hasA_cons (k := 12) rfl (hall 12 (by decide)) (hasA_cons (k := 13) rfl (hall 13 (by decide)) (hasA_cons (k := 14) rfl (hall 14 (by decide)) (hasA_cons (k := 15) rfl (hall 15 (by decide)) (hasA_cons (k := 16) rfl (hall 16 (by decide)) (hasA_cons (k := 17) rfl (hall 17 (by decide)) (hasA_cons (k := 18) rfl (hall 18 (by decide)) (hasA_cons (k := 19) rfl (hall 19 (by decide)) hasA_base)))))))))))))))))))))) ?_
          refine ent_retc ?_
          cases H
          refine ent_pick [1] (by decide) rfl ?_
          exact ret_tmp rfl rfl ⟨rfl, rfl⟩

end Go.Proofs.Ytmhhjhckbiaidaa.PilePlays
