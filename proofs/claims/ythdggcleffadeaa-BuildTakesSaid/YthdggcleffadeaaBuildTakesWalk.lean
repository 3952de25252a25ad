/- Printed by gen.py: that the machine's calls do what the plain functions of BuildTakes say. -/
import Derived.Test.YthdggcleffadeaaBuildTakesWalk2
import Derived.Test.YthdggcleffadeaaProg
import Derived.Test.YthdggcleffadeaaEInsert
import Derived.Test.YthdggcleffadeaaBuildTakesPure
set_option linter.unusedVariables false
set_option linter.unusedSimpArgs false
set_option maxHeartbeats 1000000
namespace Go.Proofs.Ythdggcleffadeaa.BuildTakes
open Go Go.RowKit E

set_option maxRecDepth 100000 in
theorem catalog_Catalog_Apply_OOO.spec (K : Nat) (p0 : Nat) (p1 : Nat) (sv0 : Value) (sv1 : Value) (sv2 : Value) (l0 : List Omap_pair__int64__api_Entry) (l1 : List Api_Part) (l2 : List Api_Entry) (r : (Int × (List Omap_pair__int64__api_Entry))) (H : catalog_Catalog_Apply_OOO K l0 l1 l2 = some r) : FnSpec Try.prog 25 [(pt p0 0), (Value.agg #[sv1, sv2])] [(box p0 139 [(pt p1 0)]), (box p1 192 [sv0]), (own sv0 196 7 l0.length (fl enc_Omap_pair__int64__api_Entry l0)), (own sv1 63 2 l1.length (fl enc_Api_Part l1)), (own sv2 65 6 l2.length (fl enc_Api_Entry l2))] (fun v M => ∃ b106 : Nat, ∃ sv66 : Value, v = (Value.int .i64 r.1) ∧ M = [(box p0 139 [(pt b106 0)]), (box b106 192 [sv66]), (own sv66 196 7 r.2.length (fl enc_Omap_pair__int64__api_Entry r.2)), (own sv1 63 2 l1.length (fl enc_Api_Part l1)), (own sv2 65 6 l2.length (fl enc_Api_Entry l2))]) := by
  unfold catalog_Catalog_Apply_OOO at H
  refine spec_of Try.func25 rfl 67 rfl (Nat.le_of_ble_eq_true rfl) fun F w0 => ?_
  show Ent (St 67 w0 F [(0, (pt p0 0)), (1, (Value.agg #[sv1, sv2]))] [(box p0 139 [(pt p1 0)]), (box p1 192 [sv0]), (own sv0 196 7 l0.length (fl enc_Omap_pair__int64__api_Entry l0)), (own sv1 63 2 l1.length (fl enc_Api_Part l1)), (own sv2 65 6 l2.length (fl enc_Api_Entry l2))]) _
  refine ent_seq ?_
  refine ent_region ?_
  refine ent_op (ot_box (cs := [sv1, sv2]) rfl rfl) rfl rfl rfl ?_
  rintro _ _ ⟨b107, rfl, rfl⟩
  refine ent_value (ov_assign rfl) rfl rfl rfl ?_
  refine ent_nil ?_
  refine ent_seq ?_
  refine ent_seq ?_
  refine ent_region ?_
  refine ent_value (ov_move rfl) rfl rfl rfl ?_
  refine ent_value (ov_bin rfl rfl (b_eql_of (fun w => rfl) rfl (eq_pn Try.underlying51 _ _))) rfl rfl rfl ?_
  refine ent_nil ?_
  refine ent_cond_false rfl rfl ?_
  refine ent_skip ?_
  refine ent_seq ?_
  refine ent_region ?_
  refine ent_value (ov_move rfl) rfl rfl rfl ?_
  obtain ⟨x127, h123, H⟩ := Option.bind_eq_some_iff.1 H
  refine ent_pick [1, 2, 3, 0, 4, 5] (by decide) rfl ?_
  refine ent_op (ot_call (Lr := [(box b107 59 [sv1, sv2]), (own sv1 63 2 l1.length (fl enc_Api_Part l1)), (own sv2 65 6 l2.length (fl enc_Api_Entry l2))]) (first := []) (cap := []) (xs := [.tmp 17]) rfl rfl F_call_30 rfl (catalog_Catalog_Copy_O.spec K p0 p1 sv0 l0 _ h123) rfl) rfl rfl rfl ?_
  rintro _ _ ⟨_, ⟨b108, b109, sv67, rfl, rfl⟩, rfl⟩
  refine ent_value (ov_assign rfl) rfl rfl rfl ?_
  refine ent_nil ?_
  obtain ⟨x152, H18, H⟩ := Option.bind_eq_some_iff.1 H
  refine ent_seq_cut (fun a w => ∃ v5, x152 = Sum.inl v5 ∧ ∃ b128 : Nat, ∃ sv75 : Value, St 67 w0 F [(0, (pt p0 0)), (3, (pt b128 0)), (5, (pt b108 0))] [(box p0 139 [(pt p1 0)]), (box p1 192 [sv0]), (own sv0 196 7 l0.length (fl enc_Omap_pair__int64__api_Entry l0)), (own sv1 63 2 l1.length (fl enc_Api_Part l1)), (own sv2 65 6 l2.length (fl enc_Api_Entry l2)), (box b128 59 [sv1, sv2]), (box b108 139 [(pt b109 0)]), (box b109 192 [sv75]), (own sv75 196 7 v5.length (fl enc_Omap_pair__int64__api_Entry v5))] a w) ?_ ?_
  · refine ent_seq ?_
    refine ent_region ?_
    refine ent_value (ov_fieldAddr (sz := 0) (o := 0) rfl F_field_59_0 F_size_56) rfl rfl rfl ?_
    refine ent_value (ov_load (v := sv1) rfl F_agg_56 (reads_box1 (i := 6) rfl rfl)) rfl rfl rfl ?_
    refine ent_value (ov_len 7 rfl F_slice_56 rfl (isRd_ownx 63)) rfl rfl rfl ?_
    refine ent_value (ov_move rfl) rfl rfl rfl ?_
    refine ent_nil ?_
    refine ent_block ?_
    refine ent_loop (fun k a w => ∃ i12, ∃ l19, ∃ sv78 : Value, catalog_Catalog_Apply_OOO_l0 K l0 l1 k i12 l19 = some x152 ∧ St 67 w0 F [(0, (pt p0 0)), (3, (pt b107 0)), (5, (pt b108 0)), (20, sv1), (21, (Value.int .i64 (l1.length : Int))), (22, (Value.int .i64 i12))] [(box p0 139 [(pt p1 0)]), (box p1 192 [sv0]), (own sv0 196 7 l0.length (fl enc_Omap_pair__int64__api_Entry l0)), (own sv1 63 2 l1.length (fl enc_Api_Part l1)), (own sv2 65 6 l2.length (fl enc_Api_Entry l2)), (box b107 59 [sv1, sv2]), (box b108 139 [(pt b109 0)]), (box b109 192 [sv78]), (own sv78 196 7 l19.length (fl enc_Omap_pair__int64__api_Entry l19))] a w) K ?_ ?_
    · exact ent_fin [0, 1, 2, 7, 8, 6, 3, 4, 5] (by decide) rfl (sub_cons (t := 0) rfl (sub_cons (t := 3) rfl (sub_cons (t := 5) rfl (sub_cons (t := 20) rfl (sub_cons (t := 21) rfl (sub_cons (t := 22) rfl (sub_nil _))))))) fun a w h => ⟨_, _, _, H18, h⟩
    · refine fun k => ent_exi fun i12 => ent_exi fun l19 => ent_exi fun sv78 => ent_and fun H19 => ?_
      cases k with
      | zero => exact absurd H19 (by simp [catalog_Catalog_Apply_OOO_l0])
      | succ k =>
        rw [catalog_Catalog_Apply_OOO_l0] at H19
        refine ent_seq ?_
        refine ent_region ?_
        refine ent_value (ov_bin rfl rfl (b_lss _ _ _)) rfl rfl rfl ?_
        refine ent_nil ?_
        refine ent_seq ?_
        by_cases c190 : i12 < (l1.length : Int)
        · rw [if_pos c190] at H19
          refine ent_cond_true rfl (decide_eq_true c190) ?_
          refine ent_skip ?_
          refine ent_seq ?_
          refine ent_block ?_
          refine ent_seq ?_
          refine ent_region ?_
          by_cases c194 : 0 ≤ i12
          · rw [if_pos c194] at H19
            refine ent_value (ov_indexAddr (sz := 1) 3 rfl rfl F_slice_56 F_size_63 rfl (isRd_ownx 63) c194 c190) rfl rfl rfl ?_
            refine ent_value (ov_load_agg (vs := [(Value.int .i64 ((l1.getD i12.toNat z_Api_Part).Tier)), (Value.int .i64 ((l1.getD i12.toNat z_Api_Part).Index))]) rfl F_agg_63 F_size_63 (reads_rd (i := 3) rfl (isRd_ownx 63) (by simp) (fl_read0 enc_Api_Part_len (ix_lt c194 c190) rfl))) rfl rfl rfl ?_
            refine ent_op (ot_alloc F_zero_63) rfl rfl rfl ?_
            rintro _ _ ⟨b144, rfl, rfl⟩
            refine ent_op0 (ot_storeG (cs := [(Value.int .i64 0), (Value.int .i64 0)]) (cs' := [(Value.int .i64 ((l1.getD i12.toNat z_Api_Part).Tier)), (Value.int .i64 ((l1.getD i12.toNat z_Api_Part).Index))]) (us := [(Value.int .i64 ((l1.getD i12.toNat z_Api_Part).Tier)), (Value.int .i64 ((l1.getD i12.toNat z_Api_Part).Index))]) (L' := [(box b144 63 [(Value.int .i64 ((l1.getD i12.toNat z_Api_Part).Tier)), (Value.int .i64 ((l1.getD i12.toNat z_Api_Part).Index))]), (box p0 139 [(pt p1 0)]), (box p1 192 [sv0]), (own sv0 196 7 l0.length (fl enc_Omap_pair__int64__api_Entry l0)), (own sv1 63 2 l1.length (fl enc_Api_Part l1)), (own sv2 65 6 l2.length (fl enc_Api_Entry l2)), (box b107 59 [sv1, sv2]), (box b108 139 [(pt b109 0)]), (box b109 192 [sv78]), (own sv78 196 7 l19.length (fl enc_Omap_pair__int64__api_Entry l19))]) 0 rfl rfl rfl (one_all rfl) F_size_63 rfl rfl (by simp) rfl) rfl rfl ?_
            rintro _ _ rfl
            refine ent_nil ?_
            refine ent_seq ?_
            refine ent_seq ?_
            refine ent_region ?_
            refine ent_value (ov_move rfl) rfl rfl rfl ?_
            refine ent_value (ov_load_agg (vs := [(Value.int .i64 ((l1.getD i12.toNat z_Api_Part).Tier)), (Value.int .i64 ((l1.getD i12.toNat z_Api_Part).Index))]) rfl F_agg_63 F_size_63 (reads_boxW (i := 0) rfl)) rfl rfl rfl ?_
            obtain ⟨x174, h169, H19⟩ := Option.bind_eq_some_iff.1 H19
            refine ent_op (ot_call_same (Lr := [(box b144 63 [(Value.int .i64 ((l1.getD i12.toNat z_Api_Part).Tier)), (Value.int .i64 ((l1.getD i12.toNat z_Api_Part).Index))]), (box p0 139 [(pt p1 0)]), (box p1 192 [sv0]), (own sv0 196 7 l0.length (fl enc_Omap_pair__int64__api_Entry l0)), (own sv1 63 2 l1.length (fl enc_Api_Part l1)), (own sv2 65 6 l2.length (fl enc_Api_Entry l2)), (box b107 59 [sv1, sv2])]) [7, 8, 9, 0, 1, 2, 3, 4, 5, 6] [3, 4, 5, 6, 7, 8, 9, 0, 1, 2] (first := []) (cap := []) (xs := [.tmp 27, .tmp 28]) rfl rfl F_call_82 rfl (catalog_Catalog_Get_O.spec K b108 b109 sv78 l19 ((l1.getD i12.toNat z_Api_Part).Tier) ((l1.getD i12.toNat z_Api_Part).Index) _ h169) (by decide) rfl (by decide) rfl) rfl rfl rfl ?_
            rintro _ _ ⟨rfl, rfl⟩
            refine ent_value (ov_move rfl) rfl rfl rfl ?_
            refine ent_value (ov_extract rfl rfl) rfl rfl rfl ?_
            refine ent_value (ov_extract rfl rfl) rfl rfl rfl ?_
            refine ent_op (ot_alloc F_zero_65) rfl rfl rfl ?_
            rintro _ _ ⟨b146, rfl, rfl⟩
            refine ent_op0 (ot_storeG (cs := [(Value.int .i64 0), (Value.int .i64 0), (Value.int .i64 0), (Value.int .i64 0), (Value.int .i64 0), (Value.bool false)]) (cs' := [(Value.int .i64 x174.1), (Value.int .i64 x174.2.1), (Value.int .i64 x174.2.2.1), (Value.int .i64 x174.2.2.2.1), (Value.int .i64 x174.2.2.2.2.1), (Value.bool x174.2.2.2.2.2.1)]) (us := [(Value.int .i64 x174.1), (Value.int .i64 x174.2.1), (Value.int .i64 x174.2.2.1), (Value.int .i64 x174.2.2.2.1), (Value.int .i64 x174.2.2.2.2.1), (Value.bool x174.2.2.2.2.2.1)]) (L' := [(box b146 65 [(Value.int .i64 x174.1), (Value.int .i64 x174.2.1), (Value.int .i64 x174.2.2.1), (Value.int .i64 x174.2.2.2.1), (Value.int .i64 x174.2.2.2.2.1), (Value.bool x174.2.2.2.2.2.1)]), (box b144 63 [(Value.int .i64 ((l1.getD i12.toNat z_Api_Part).Tier)), (Value.int .i64 ((l1.getD i12.toNat z_Api_Part).Index))]), (box p0 139 [(pt p1 0)]), (box p1 192 [sv0]), (own sv0 196 7 l0.length (fl enc_Omap_pair__int64__api_Entry l0)), (own sv1 63 2 l1.length (fl enc_Api_Part l1)), (own sv2 65 6 l2.length (fl enc_Api_Entry l2)), (box b107 59 [sv1, sv2]), (box b108 139 [(pt b109 0)]), (box b109 192 [sv78]), (own sv78 196 7 l19.length (fl enc_Omap_pair__int64__api_Entry l19))]) 0 rfl rfl rfl (one_all rfl) F_size_65 rfl rfl (by simp) rfl) rfl rfl ?_
            rintro _ _ rfl
            refine ent_value (ov_assign rfl) rfl rfl rfl ?_
            refine ent_nil ?_
            refine ent_seq ?_
            refine ent_region ?_
            refine ent_value (ov_move rfl) rfl rfl rfl ?_
            refine ent_value (ov_un rfl (u_not _)) rfl rfl rfl ?_
            refine ent_nil ?_
            by_cases c196 : (!x174.2.2.2.2.2.2) = true
            · rw [if_pos c196] at H19
              refine ent_cond_true rfl c196 ?_
              refine ent_seq ?_
              refine ent_region ?_
              refine ent_value (ov_assign rfl) rfl rfl rfl ?_
              refine ent_nil ?_
              refine ent_retc ?_
              cases H19
              have H20 := Option.some.inj (show some _ = some _ from H)
              cases H20
              refine ent_pick [2, 3, 4, 5, 6] (by decide) rfl ?_
              exact ret_tmp rfl rfl ⟨_, _, rfl, rfl⟩
            · rw [if_neg c196] at H19
              refine ent_cond_false rfl (Bool.eq_false_iff.2 c196) ?_
              refine ent_skip ?_
              refine ent_seq ?_
              refine ent_region ?_
              refine ent_value (ov_load_agg (vs := [(Value.int .i64 ((l1.getD i12.toNat z_Api_Part).Tier)), (Value.int .i64 ((l1.getD i12.toNat z_Api_Part).Index))]) rfl F_agg_63 F_size_63 (reads_boxW (i := 1) rfl)) rfl rfl rfl ?_
              obtain ⟨x175, h170, H19⟩ := thn_elim H19
              refine ent_op (ot_call0 (first := []) (cap := []) (xs := [.tmp 35]) rfl rfl F_call_35 rfl (part_Span.spec ((l1.getD i12.toNat z_Api_Part).Tier) ((l1.getD i12.toNat z_Api_Part).Index) _ h170)) rfl rfl rfl ?_
              rintro _ _ ⟨rfl, rfl⟩
              refine ent_value (ov_move rfl) rfl rfl rfl ?_
              refine ent_value (ov_extract rfl rfl) rfl rfl rfl ?_
              refine ent_value (ov_extract rfl rfl) rfl rfl rfl ?_
              refine ent_value (ov_assign rfl) rfl rfl rfl ?_
              refine ent_value (ov_assign rfl) rfl rfl rfl ?_
              refine ent_nil ?_
              refine ent_region ?_
              refine ent_value (ov_move rfl) rfl rfl rfl ?_
              refine ent_value (ov_nilCheck rfl) rfl rfl rfl ?_
              refine ent_value (ov_fieldAddr (sz := 0) (o := 0) rfl F_field_139_0 F_size_136) rfl rfl rfl ?_
              refine ent_value (ov_load (v := (pt b109 0)) rfl F_agg_136 (reads_box1 (i := 8) rfl rfl)) rfl rfl rfl ?_
              refine ent_value (ov_move rfl) rfl rfl rfl ?_
              obtain ⟨x176, h171, H19⟩ := Option.bind_eq_some_iff.1 H19
              refine ent_pick [9, 10, 0, 1, 2, 3, 4, 5, 6, 7, 8] (by decide) rfl ?_
              refine ent_op (ot_call (Lr := [(box b146 65 [(Value.int .i64 x174.1), (Value.int .i64 x174.2.1), (Value.int .i64 x174.2.2.1), (Value.int .i64 x174.2.2.2.1), (Value.int .i64 x174.2.2.2.2.1), (Value.bool x174.2.2.2.2.2.1)]), (box b144 63 [(Value.int .i64 ((l1.getD i12.toNat z_Api_Part).Tier)), (Value.int .i64 ((l1.getD i12.toNat z_Api_Part).Index))]), (box p0 139 [(pt p1 0)]), (box p1 192 [sv0]), (own sv0 196 7 l0.length (fl enc_Omap_pair__int64__api_Entry l0)), (own sv1 63 2 l1.length (fl enc_Api_Part l1)), (own sv2 65 6 l2.length (fl enc_Api_Entry l2)), (box b107 59 [sv1, sv2]), (box b108 139 [(pt b109 0)])]) (first := []) (cap := []) (xs := [.tmp 42, .tmp 43]) rfl rfl F_call_83 rfl (omap_Map__int64__api_Entry_Drop_O.spec K b109 sv78 l19 x175.1 _ h171) rfl) rfl rfl rfl ?_
              rintro _ _ ⟨_, ⟨sv82, rfl, rfl⟩, rfl⟩
              refine ent_nil ?_
              refine ent_region ?_
              refine ent_value (ov_bin rfl rfl (b_add _ _ _) ) rfl rfl rfl ?_
              refine ent_value (ov_move rfl) rfl rfl rfl ?_
              refine ent_nil ?_
              exact ent_fin [4, 5, 6, 7, 8, 9, 10, 0, 1] (by decide) rfl (sub_cons (t := 0) rfl (sub_cons (t := 3) rfl (sub_cons (t := 5) rfl (sub_cons (t := 20) rfl (sub_cons (t := 21) rfl (sub_cons (t := 22) rfl (sub_nil _))))))) fun a w h => ⟨k, Nat.lt_succ_self k, _, _, _, H19, h⟩
          · rw [if_neg c194] at H19
            cases H19
        · rw [if_neg c190] at H19
          refine ent_cond_false rfl (decide_eq_false c190) ?_
          refine ent_exit ?_
          cases H19
          exact ent_fin [0, 1, 2, 3, 4, 5, 6, 7, 8] (by decide) rfl (sub_cons (t := 0) rfl (sub_cons (t := 3) rfl (sub_cons (t := 5) rfl (sub_nil _)))) fun a w h => ⟨_, rfl, _, _, h⟩
  · refine ent_exi fun v5 => ent_and fun e_ => ?_
    subst e_
    rw [cas_inl] at H
    refine ent_exi fun b128 => ent_exi fun sv75 => ?_
    obtain ⟨x183, H22, H⟩ := Option.bind_eq_some_iff.1 H
    refine ent_seq_cut (fun a w => ∃ v6, x183 = Sum.inl v6 ∧ ∃ sv90 : Value, St 67 w0 F [(0, (pt p0 0)), (5, (pt b108 0))] [(box p0 139 [(pt p1 0)]), (box p1 192 [sv0]), (own sv0 196 7 l0.length (fl enc_Omap_pair__int64__api_Entry l0)), (own sv1 63 2 l1.length (fl enc_Api_Part l1)), (own sv2 65 6 l2.length (fl enc_Api_Entry l2)), (box b108 139 [(pt b109 0)]), (box b109 192 [sv90]), (own sv90 196 7 v6.length (fl enc_Omap_pair__int64__api_Entry v6))] a w) ?_ ?_
    · refine ent_seq ?_
      refine ent_region ?_
      refine ent_value (ov_fieldAddr (sz := 0) (o := 0) rfl F_field_59_1 F_size_53) rfl rfl rfl ?_
      refine ent_value (ov_load (v := sv2) rfl F_agg_53 (reads_box1 (i := 5) rfl rfl)) rfl rfl rfl ?_
      refine ent_value (ov_len 4 rfl F_slice_53 rfl (isRd_ownx 65)) rfl rfl rfl ?_
      refine ent_value (ov_move rfl) rfl rfl rfl ?_
      refine ent_nil ?_
      refine ent_block ?_
      refine ent_loop (fun k a w => ∃ i14, ∃ l22, ∃ sv93 : Value, catalog_Catalog_Apply_OOO_l1 K l0 l2 k i14 l22 = some x183 ∧ St 67 w0 F [(0, (pt p0 0)), (5, (pt b108 0)), (47, sv2), (48, (Value.int .i64 (l2.length : Int))), (49, (Value.int .i64 i14))] [(box p0 139 [(pt p1 0)]), (box p1 192 [sv0]), (own sv0 196 7 l0.length (fl enc_Omap_pair__int64__api_Entry l0)), (own sv1 63 2 l1.length (fl enc_Api_Part l1)), (own sv2 65 6 l2.length (fl enc_Api_Entry l2)), (box b108 139 [(pt b109 0)]), (box b109 192 [sv93]), (own sv93 196 7 l22.length (fl enc_Omap_pair__int64__api_Entry l22))] a w) K ?_ ?_
      · exact ent_fin [0, 1, 2, 3, 4, 6, 7, 8] (by decide) rfl (sub_cons (t := 0) rfl (sub_cons (t := 5) rfl (sub_cons (t := 47) rfl (sub_cons (t := 48) rfl (sub_cons (t := 49) rfl (sub_nil _)))))) fun a w h => ⟨_, _, _, H22, h⟩
      · refine fun k => ent_exi fun i14 => ent_exi fun l22 => ent_exi fun sv93 => ent_and fun H23 => ?_
        cases k with
        | zero => exact absurd H23 (by simp [catalog_Catalog_Apply_OOO_l1])
        | succ k =>
          rw [catalog_Catalog_Apply_OOO_l1] at H23
          refine ent_seq ?_
          refine ent_region ?_
          refine ent_value (ov_bin rfl rfl (b_lss _ _ _)) rfl rfl rfl ?_
          refine ent_nil ?_
          refine ent_seq ?_
          by_cases c224 : i14 < (l2.length : Int)
          · rw [if_pos c224] at H23
            refine ent_cond_true rfl (decide_eq_true c224) ?_
            refine ent_skip ?_
            refine ent_seq ?_
            refine ent_block ?_
            refine ent_seq ?_
            refine ent_region ?_
            by_cases c227 : 0 ≤ i14
            · rw [if_pos c227] at H23
              refine ent_value (ov_indexAddr (sz := 5) 4 rfl rfl F_slice_53 F_size_65 rfl (isRd_ownx 65) c227 c224) rfl rfl rfl ?_
              refine ent_value (ov_load_agg (vs := [(Value.int .i64 (((l2.getD i14.toNat z_Api_Entry).Part).Tier)), (Value.int .i64 (((l2.getD i14.toNat z_Api_Entry).Part).Index)), (Value.int .i64 ((l2.getD i14.toNat z_Api_Entry).Seg)), (Value.int .i64 ((l2.getD i14.toNat z_Api_Entry).Mark)), (Value.int .i64 ((l2.getD i14.toNat z_Api_Entry).Rows)), (Value.bool ((l2.getD i14.toNat z_Api_Entry).Cold))]) rfl F_agg_65 F_size_65 (reads_rd (i := 4) rfl (isRd_ownx 65) (by simp) (fl_read0 enc_Api_Entry_len (ix_lt c227 c224) rfl))) rfl rfl rfl ?_
              refine ent_op (ot_alloc F_zero_65) rfl rfl rfl ?_
              rintro _ _ ⟨b158, rfl, rfl⟩
              refine ent_op0 (ot_storeG (cs := [(Value.int .i64 0), (Value.int .i64 0), (Value.int .i64 0), (Value.int .i64 0), (Value.int .i64 0), (Value.bool false)]) (cs' := [(Value.int .i64 (((l2.getD i14.toNat z_Api_Entry).Part).Tier)), (Value.int .i64 (((l2.getD i14.toNat z_Api_Entry).Part).Index)), (Value.int .i64 ((l2.getD i14.toNat z_Api_Entry).Seg)), (Value.int .i64 ((l2.getD i14.toNat z_Api_Entry).Mark)), (Value.int .i64 ((l2.getD i14.toNat z_Api_Entry).Rows)), (Value.bool ((l2.getD i14.toNat z_Api_Entry).Cold))]) (us := [(Value.int .i64 (((l2.getD i14.toNat z_Api_Entry).Part).Tier)), (Value.int .i64 (((l2.getD i14.toNat z_Api_Entry).Part).Index)), (Value.int .i64 ((l2.getD i14.toNat z_Api_Entry).Seg)), (Value.int .i64 ((l2.getD i14.toNat z_Api_Entry).Mark)), (Value.int .i64 ((l2.getD i14.toNat z_Api_Entry).Rows)), (Value.bool ((l2.getD i14.toNat z_Api_Entry).Cold))]) (L' := [(box b158 65 [(Value.int .i64 (((l2.getD i14.toNat z_Api_Entry).Part).Tier)), (Value.int .i64 (((l2.getD i14.toNat z_Api_Entry).Part).Index)), (Value.int .i64 ((l2.getD i14.toNat z_Api_Entry).Seg)), (Value.int .i64 ((l2.getD i14.toNat z_Api_Entry).Mark)), (Value.int .i64 ((l2.getD i14.toNat z_Api_Entry).Rows)), (Value.bool ((l2.getD i14.toNat z_Api_Entry).Cold))]), (box p0 139 [(pt p1 0)]), (box p1 192 [sv0]), (own sv0 196 7 l0.length (fl enc_Omap_pair__int64__api_Entry l0)), (own sv1 63 2 l1.length (fl enc_Api_Part l1)), (own sv2 65 6 l2.length (fl enc_Api_Entry l2)), (box b108 139 [(pt b109 0)]), (box b109 192 [sv93]), (own sv93 196 7 l22.length (fl enc_Omap_pair__int64__api_Entry l22))]) 0 rfl rfl rfl (one_all rfl) F_size_65 rfl rfl (by simp) rfl) rfl rfl ?_
              rintro _ _ rfl
              refine ent_nil ?_
              refine ent_seq ?_
              refine ent_region ?_
              refine ent_value (ov_move rfl) rfl rfl rfl ?_
              refine ent_value (ov_load_agg (vs := [(Value.int .i64 (((l2.getD i14.toNat z_Api_Entry).Part).Tier)), (Value.int .i64 (((l2.getD i14.toNat z_Api_Entry).Part).Index)), (Value.int .i64 ((l2.getD i14.toNat z_Api_Entry).Seg)), (Value.int .i64 ((l2.getD i14.toNat z_Api_Entry).Mark)), (Value.int .i64 ((l2.getD i14.toNat z_Api_Entry).Rows)), (Value.bool ((l2.getD i14.toNat z_Api_Entry).Cold))]) rfl F_agg_65 F_size_65 (reads_boxW (i := 0) rfl)) rfl rfl rfl ?_
              obtain ⟨x189, h183, H23⟩ := Option.bind_eq_some_iff.1 H23
              refine ent_pick [6, 7, 8, 0, 1, 2, 3, 4, 5] (by decide) rfl ?_
              refine ent_op (ot_call (Lr := [(box b158 65 [(Value.int .i64 (((l2.getD i14.toNat z_Api_Entry).Part).Tier)), (Value.int .i64 (((l2.getD i14.toNat z_Api_Entry).Part).Index)), (Value.int .i64 ((l2.getD i14.toNat z_Api_Entry).Seg)), (Value.int .i64 ((l2.getD i14.toNat z_Api_Entry).Mark)), (Value.int .i64 ((l2.getD i14.toNat z_Api_Entry).Rows)), (Value.bool ((l2.getD i14.toNat z_Api_Entry).Cold))]), (box p0 139 [(pt p1 0)]), (box p1 192 [sv0]), (own sv0 196 7 l0.length (fl enc_Omap_pair__int64__api_Entry l0)), (own sv1 63 2 l1.length (fl enc_Api_Part l1)), (own sv2 65 6 l2.length (fl enc_Api_Entry l2))]) (first := []) (cap := []) (xs := [.tmp 53, .tmp 54]) rfl rfl F_call_84 rfl (catalog_Catalog_put_O.spec K b108 b109 sv93 l22 (((l2.getD i14.toNat z_Api_Entry).Part).Tier) (((l2.getD i14.toNat z_Api_Entry).Part).Index) ((l2.getD i14.toNat z_Api_Entry).Seg) ((l2.getD i14.toNat z_Api_Entry).Mark) ((l2.getD i14.toNat z_Api_Entry).Rows) ((l2.getD i14.toNat z_Api_Entry).Cold) _ h183) rfl) rfl rfl rfl ?_
              rintro _ _ ⟨_, ⟨sv97, rfl, rfl⟩, rfl⟩
              refine ent_value (ov_assign rfl) rfl rfl rfl ?_
              refine ent_nil ?_
              refine ent_seq ?_
              refine ent_region ?_
              refine ent_value (ov_move rfl) rfl rfl rfl ?_
              refine ent_value (ov_bin rfl rfl (b_neq _ _ _)) rfl rfl rfl ?_
              refine ent_nil ?_
              by_cases c228 : ¬ (x189.1 = 0)
              · rw [if_pos c228] at H23
                refine ent_cond_true rfl (ne_t c228) ?_
                refine ent_seq ?_
                refine ent_region ?_
                refine ent_value (ov_move rfl) rfl rfl rfl ?_
                refine ent_value (ov_assign rfl) rfl rfl rfl ?_
                refine ent_nil ?_
                refine ent_retc ?_
                cases H23
                have H24 := Option.some.inj (show some _ = some _ from H)
                cases H24
                refine ent_pick [4, 5, 6, 7, 8] (by decide) rfl ?_
                exact ret_tmp rfl rfl ⟨_, _, rfl, rfl⟩
              · rw [if_neg c228] at H23
                refine ent_cond_false rfl (ne_f c228) ?_
                refine ent_skip ?_
                refine ent_region ?_
                refine ent_value (ov_bin rfl rfl (b_add _ _ _) ) rfl rfl rfl ?_
                refine ent_value (ov_move rfl) rfl rfl rfl ?_
                refine ent_nil ?_
                exact ent_fin [4, 5, 6, 7, 8, 0, 1, 2] (by decide) rfl (sub_cons (t := 0) rfl (sub_cons (t := 5) rfl (sub_cons (t := 47) rfl (sub_cons (t := 48) rfl (sub_cons (t := 49) rfl (sub_nil _)))))) fun a w h => ⟨k, Nat.lt_succ_self k, _, _, _, H23, h⟩
            · rw [if_neg c227] at H23
              cases H23
          · rw [if_neg c224] at H23
            refine ent_cond_false rfl (decide_eq_false c224) ?_
            refine ent_exit ?_
            cases H23
            exact ent_fin [0, 1, 2, 3, 4, 5, 6, 7] (by decide) rfl (sub_cons (t := 0) rfl (sub_cons (t := 5) rfl (sub_nil _))) fun a w h => ⟨_, rfl, _, h⟩
    · refine ent_exi fun v6 => ent_and fun e_ => ?_
      subst e_
      rw [cas_inl] at H
      refine ent_exi fun sv90 => ?_
      refine ent_seq ?_
      refine ent_region ?_
      refine ent_value (ov_move rfl) rfl rfl rfl ?_
      refine ent_value (ov_move rfl) rfl rfl rfl ?_
      refine ent_value (ov_nilCheck rfl) rfl rfl rfl ?_
      refine ent_value (ov_fieldAddr (sz := 0) (o := 0) rfl F_field_139_0 F_size_136) rfl rfl rfl ?_
      refine ent_value (ov_load (v := (pt b109 0)) rfl F_agg_136 (reads_box1 (i := 5) rfl rfl)) rfl rfl rfl ?_
      refine ent_value (ov_nilCheck rfl) rfl rfl rfl ?_
      refine ent_value (ov_fieldAddr (sz := 0) (o := 0) rfl F_field_139_0 F_size_136) rfl rfl rfl ?_
      refine ent_op0 (ot_storeG (cs := [(pt p1 0)]) (cs' := [(pt b109 0)]) (us := [(pt b109 0)]) (L' := [(box p0 139 [(pt b109 0)]), (box p1 192 [sv0]), (own sv0 196 7 l0.length (fl enc_Omap_pair__int64__api_Entry l0)), (own sv1 63 2 l1.length (fl enc_Api_Part l1)), (own sv2 65 6 l2.length (fl enc_Api_Entry l2)), (box b108 139 [(pt b109 0)]), (box b109 192 [sv90]), (own sv90 196 7 v6.length (fl enc_Omap_pair__int64__api_Entry v6))]) 0 rfl rfl rfl (one_all rfl) F_size_136 rfl rfl (by simp) rfl) rfl rfl ?_
      rintro _ _ rfl
      refine ent_nil ?_
      refine ent_seq ?_
      refine ent_region ?_
      refine ent_value (ov_assign rfl) rfl rfl rfl ?_
      refine ent_nil ?_
      refine ent_retc ?_
      cases H
      refine ent_pick [0, 6, 7, 3, 4] (by decide) rfl ?_
      exact ret_tmp rfl rfl ⟨_, _, rfl, rfl⟩

set_option maxRecDepth 100000 in
theorem ossuaryref20_Same_RR.spec (K : Nat) (sv0 : Value) (A0 : HP) (sv1 : Value) (A1 : HP) (l0 : List Api_Entry) (l1 : List Api_Entry) (hA0 : IsRd A0 sv0 l0.length 6 (fl enc_Api_Entry l0)) (hA1 : IsRd A1 sv1 l1.length 6 (fl enc_Api_Entry l1)) (r : Bool) (H : ossuaryref20_Same_RR K l0 l1 = some r) : FnSpec Try.prog 26 [sv0, sv1] [A0, A1] (fun v M => v = (Value.bool r) ∧ M = [A0, A1]) := by
  unfold ossuaryref20_Same_RR at H
  refine spec_of Try.func26 rfl 26 rfl (Nat.le_of_ble_eq_true rfl) fun F w0 => ?_
  show Ent (St 26 w0 F [(0, sv0), (1, sv1)] [A0, A1]) _
  refine ent_seq ?_
  refine ent_region ?_
  refine ent_value (ov_assign rfl) rfl rfl rfl ?_
  refine ent_nil ?_
  refine ent_seq ?_
  refine ent_seq ?_
  refine ent_region ?_
  refine ent_value (ov_move rfl) rfl rfl rfl ?_
  refine ent_value (ov_len 0 rfl F_slice_53 rfl hA0) rfl rfl rfl ?_
  refine ent_value (ov_move rfl) rfl rfl rfl ?_
  refine ent_value (ov_len 1 rfl F_slice_53 rfl hA1) rfl rfl rfl ?_
  refine ent_value (ov_bin rfl rfl (b_neq _ _ _)) rfl rfl rfl ?_
  refine ent_nil ?_
  by_cases c48 : ¬ ((l0.length : Int) = (l1.length : Int))
  · rw [if_pos c48] at H
    refine ent_cond_true rfl (ne_t c48) ?_
    refine ent_seq ?_
    refine ent_region ?_
    refine ent_value (ov_assign rfl) rfl rfl rfl ?_
    refine ent_nil ?_
    refine ent_retc ?_
    cases H
    refine ent_pick [0, 1] (by decide) rfl ?_
    exact ret_tmp rfl rfl ⟨rfl, rfl⟩
  · rw [if_neg c48] at H
    refine ent_cond_false rfl (ne_f c48) ?_
    refine ent_skip ?_
    refine ent_seq ?_
    refine ent_seq ?_
    refine ent_region ?_
    refine ent_value (ov_assign rfl) rfl rfl rfl ?_
    refine ent_nil ?_
    refine ent_block ?_
    refine ent_loop (fun k a w => ∃ i4, ossuaryref20_Same_RR_l0 K l0 l1 k i4 = some r ∧ St 26 w0 F [(0, sv0), (1, sv1), (5, (Value.int .i64 i4))] [A0, A1] a w) K ?_ ?_
    · exact ent_fin [0, 1] (by decide) rfl (sub_cons (t := 0) rfl (sub_cons (t := 1) rfl (sub_cons (t := 5) rfl (sub_nil _)))) fun a w h => ⟨_, H, h⟩
    · refine fun k => ent_exi fun i4 => ent_and fun H4 => ?_
      cases k with
      | zero => exact absurd H4 (by simp [ossuaryref20_Same_RR_l0])
      | succ k =>
        rw [ossuaryref20_Same_RR_l0] at H4
        refine ent_seq ?_
        refine ent_seq ?_
        refine ent_region ?_
        refine ent_value (ov_move rfl) rfl rfl rfl ?_
        refine ent_value (ov_move rfl) rfl rfl rfl ?_
        refine ent_value (ov_len 0 rfl F_slice_53 rfl hA0) rfl rfl rfl ?_
        refine ent_value (ov_bin rfl rfl (b_lss _ _ _)) rfl rfl rfl ?_
        refine ent_nil ?_
        by_cases c86 : i4 < (l0.length : Int)
        · rw [if_pos c86] at H4
          refine ent_cond_true rfl (decide_eq_true c86) ?_
          refine ent_skip ?_
          refine ent_seq ?_
          refine ent_block ?_
          refine ent_seq ?_
          by_cases c90 : 0 ≤ i4
          · rw [if_pos c90] at H4
            by_cases c91 : i4 < (l1.length : Int)
            · rw [if_pos c91] at H4
              refine ent_drawm 9 rfl (fun done a w => StD 26 w0 F [(0, sv0), (1, sv1), (5, (Value.int .i64 i4)), (11, (Value.int .i64 i4)), (12, sv0), (13, (Value.int .i64 (l0.length : Int))), (14, (Value.bool (decide (i4 < (l0.length : Int)))))] [(0, 17, sv0), (1, 18, (Value.int .i64 i4)), (2, 19, (eptr sv0 (i4.toNat * 6))), (3, 20, (Value.agg #[(Value.int .i64 (((l0.getD i4.toNat z_Api_Entry).Part).Tier)), (Value.int .i64 (((l0.getD i4.toNat z_Api_Entry).Part).Index)), (Value.int .i64 ((l0.getD i4.toNat z_Api_Entry).Seg)), (Value.int .i64 ((l0.getD i4.toNat z_Api_Entry).Mark)), (Value.int .i64 ((l0.getD i4.toNat z_Api_Entry).Rows)), (Value.bool ((l0.getD i4.toNat z_Api_Entry).Cold))])), (4, 21, sv1), (5, 22, (Value.int .i64 i4)), (6, 23, (eptr sv1 (i4.toNat * 6))), (7, 24, (Value.agg #[(Value.int .i64 (((l1.getD i4.toNat z_Api_Entry).Part).Tier)), (Value.int .i64 (((l1.getD i4.toNat z_Api_Entry).Part).Index)), (Value.int .i64 ((l1.getD i4.toNat z_Api_Entry).Seg)), (Value.int .i64 ((l1.getD i4.toNat z_Api_Entry).Mark)), (Value.int .i64 ((l1.getD i4.toNat z_Api_Entry).Rows)), (Value.bool ((l1.getD i4.toNat z_Api_Entry).Cold))])), (8, 25, (Value.bool (!((((((l0.getD i4.toNat z_Api_Entry).Part).Tier) == (((l1.getD i4.toNat z_Api_Entry).Part).Tier)) && (((((l0.getD i4.toNat z_Api_Entry).Part).Index) == (((l1.getD i4.toNat z_Api_Entry).Part).Index)) && true)) && ((((l0.getD i4.toNat z_Api_Entry).Seg) == ((l1.getD i4.toNat z_Api_Entry).Seg)) && ((((l0.getD i4.toNat z_Api_Entry).Mark) == ((l1.getD i4.toNat z_Api_Entry).Mark)) && ((((l0.getD i4.toNat z_Api_Entry).Rows) == ((l1.getD i4.toNat z_Api_Entry).Rows)) && ((((l0.getD i4.toNat z_Api_Entry).Cold) == ((l1.getD i4.toNat z_Api_Entry).Cold)) && true))))))))] done [A0, A1] a w) (by kernel_rfl) (by kernel_rfl) (draw_startL (sub_cons (t := 0) rfl (sub_cons (t := 1) rfl (sub_cons (t := 5) rfl (sub_cons (t := 11) rfl (sub_cons (t := 12) rfl (sub_cons (t := 13) rfl (sub_cons (t := 14) rfl (sub_nil _)))))))) rfl) ?_ ?_
              · refine ⟨?_, ?_, ?_, ?_, ?_, ?_, ?_, ?_, ?_, trivial⟩
                · intro done hi hc hcu
                  exact draw_value (i := 0) (t := 17) (v := sv0) rfl rfl (wanted_none rfl) (fun a => hasA_base) (ov_move rfl) rfl rfl (onlyT_spec (k0 := 0) rfl rfl rfl)
                · intro done hi hc hcu
                  exact draw_value (i := 1) (t := 18) (v := (Value.int .i64 i4)) rfl rfl (wanted_none rfl) (fun a => hasA_base) (ov_move rfl) rfl rfl (onlyT_spec (k0 := 1) rfl rfl rfl)
                · intro done hi hc hcu
                  have d0 : done 0 = true := done_of (j := 0) hcu rfl (by decide) rfl
                  have d1 : done 1 = true := done_of (j := 1) hcu rfl (by decide) rfl
                  exact draw_value (i := 2) (t := 19) (v := (eptr sv0 (i4.toNat * 6))) rfl rfl (wanted_none rfl) (fun a => (hasA_cons (k := 1) rfl d1 (hasA_cons (k := 0) rfl d0 hasA_base))) (ov_indexAddr (sz := 5) 0 rfl rfl F_slice_53 F_size_65 rfl hA0 c90 c86) rfl rfl (onlyT_spec (k0 := 2) rfl rfl rfl)
                · intro done hi hc hcu
                  have d2 : done 2 = true := done_of (j := 2) hcu rfl (by decide) rfl
                  exact draw_value (i := 3) (t := 20) (v := (Value.agg #[(Value.int .i64 (((l0.getD i4.toNat z_Api_Entry).Part).Tier)), (Value.int .i64 (((l0.getD i4.toNat z_Api_Entry).Part).Index)), (Value.int .i64 ((l0.getD i4.toNat z_Api_Entry).Seg)), (Value.int .i64 ((l0.getD i4.toNat z_Api_Entry).Mark)), (Value.int .i64 ((l0.getD i4.toNat z_Api_Entry).Rows)), (Value.bool ((l0.getD i4.toNat z_Api_Entry).Cold))])) rfl rfl (wanted_none rfl) (fun a => (hasA_cons (k := 2) rfl d2 hasA_base)) (ov_load_agg (vs := [(Value.int .i64 (((l0.getD i4.toNat z_Api_Entry).Part).Tier)), (Value.int .i64 (((l0.getD i4.toNat z_Api_Entry).Part).Index)), (Value.int .i64 ((l0.getD i4.toNat z_Api_Entry).Seg)), (Value.int .i64 ((l0.getD i4.toNat z_Api_Entry).Mark)), (Value.int .i64 ((l0.getD i4.toNat z_Api_Entry).Rows)), (Value.bool ((l0.getD i4.toNat z_Api_Entry).Cold))]) rfl F_agg_65 F_size_65 (reads_rd (i := 0) rfl hA0 (by simp) (fl_read0 enc_Api_Entry_len (ix_lt c90 c86) rfl))) rfl rfl (onlyT_spec (k0 := 3) rfl rfl rfl)
                · intro done hi hc hcu
                  exact draw_value (i := 4) (t := 21) (v := sv1) rfl rfl (wanted_none rfl) (fun a => hasA_base) (ov_move rfl) rfl rfl (onlyT_spec (k0 := 4) rfl rfl rfl)
                · intro done hi hc hcu
                  exact draw_value (i := 5) (t := 22) (v := (Value.int .i64 i4)) rfl rfl (wanted_none rfl) (fun a => hasA_base) (ov_move rfl) rfl rfl (onlyT_spec (k0 := 5) rfl rfl rfl)
                · intro done hi hc hcu
                  have d4 : done 4 = true := done_of (j := 4) hcu rfl (by decide) rfl
                  have d5 : done 5 = true := done_of (j := 5) hcu rfl (by decide) rfl
                  exact draw_value (i := 6) (t := 23) (v := (eptr sv1 (i4.toNat * 6))) rfl rfl (wanted_none rfl) (fun a => (hasA_cons (k := 5) rfl d5 (hasA_cons (k := 4) rfl d4 hasA_base))) (ov_indexAddr (sz := 5) 1 rfl rfl F_slice_53 F_size_65 rfl hA1 c90 c91) rfl rfl (onlyT_spec (k0 := 6) rfl rfl rfl)
                · intro done hi hc hcu
                  have d6 : done 6 = true := done_of (j := 6) hcu rfl (by decide) rfl
                  exact draw_value (i := 7) (t := 24) (v := (Value.agg #[(Value.int .i64 (((l1.getD i4.toNat z_Api_Entry).Part).Tier)), (Value.int .i64 (((l1.getD i4.toNat z_Api_Entry).Part).Index)), (Value.int .i64 ((l1.getD i4.toNat z_Api_Entry).Seg)), (Value.int .i64 ((l1.getD i4.toNat z_Api_Entry).Mark)), (Value.int .i64 ((l1.getD i4.toNat z_Api_Entry).Rows)), (Value.bool ((l1.getD i4.toNat z_Api_Entry).Cold))])) rfl rfl (wanted_none rfl) (fun a => (hasA_cons (k := 6) rfl d6 hasA_base)) (ov_load_agg (vs := [(Value.int .i64 (((l1.getD i4.toNat z_Api_Entry).Part).Tier)), (Value.int .i64 (((l1.getD i4.toNat z_Api_Entry).Part).Index)), (Value.int .i64 ((l1.getD i4.toNat z_Api_Entry).Seg)), (Value.int .i64 ((l1.getD i4.toNat z_Api_Entry).Mark)), (Value.int .i64 ((l1.getD i4.toNat z_Api_Entry).Rows)), (Value.bool ((l1.getD i4.toNat z_Api_Entry).Cold))]) rfl F_agg_65 F_size_65 (reads_rd (i := 1) rfl hA1 (by simp) (fl_read0 enc_Api_Entry_len (ix_lt c90 c91) rfl))) rfl rfl (onlyT_spec (k0 := 7) rfl rfl rfl)
                · intro done hi hc hcu
                  have d3 : done 3 = true := done_of (j := 3) hcu rfl (by decide) rfl
                  have d7 : done 7 = true := done_of (j := 7) hcu rfl (by decide) rfl
                  exact draw_value (i := 8) (t := 25) (v := (Value.bool (!((((((l0.getD i4.toNat z_Api_Entry).Part).Tier) == (((l1.getD i4.toNat z_Api_Entry).Part).Tier)) && (((((l0.getD i4.toNat z_Api_Entry).Part).Index) == (((l1.getD i4.toNat z_Api_Entry).Part).Index)) && true)) && ((((l0.getD i4.toNat z_Api_Entry).Seg) == ((l1.getD i4.toNat z_Api_Entry).Seg)) && ((((l0.getD i4.toNat z_Api_Entry).Mark) == ((l1.getD i4.toNat z_Api_Entry).Mark)) && ((((l0.getD i4.toNat z_Api_Entry).Rows) == ((l1.getD i4.toNat z_Api_Entry).Rows)) && ((((l0.getD i4.toNat z_Api_Entry).Cold) == ((l1.getD i4.toNat z_Api_Entry).Cold)) && true)))))))) rfl rfl (wanted_none rfl) (fun a => (hasA_cons (k := 7) rfl d7 (hasA_cons (k := 3) rfl d3 hasA_base))) (ov_bin rfl rfl (same_65_n _ _ _ _ _ _ _ _ _ _ _ _)) rfl rfl (onlyT_spec (k0 := 8) rfl rfl rfl)
              · intro done hall
                refine draw_endL [A0, A1] rfl (fun a => (hasA_cons (k := 0) rfl (hall 0 (by decide)) (hasA_cons (k := 1) rfl (hall 1 (by decide)) (hasA_cons (k := 2) rfl (hall 2 (by decide)) (hasA_cons (k := 3) rfl (hall 3 (by decide)) (hasA_cons (k := 4) rfl (hall 4 (by decide)) (hasA_cons (k := 5) rfl (hall 5 (by decide)) (hasA_cons (k := 6) rfl (hall 6 (by decide)) (hasA_cons (k := 7) rfl (hall 7 (by decide)) (hasA_cons (k := 8) rfl (hall 8 (by decide)) hasA_base)))))))))) ?_
                by_cases c92 : (!((((((l0.getD i4.toNat z_Api_Entry).Part).Tier) == (((l1.getD i4.toNat z_Api_Entry).Part).Tier)) && (((((l0.getD i4.toNat z_Api_Entry).Part).Index) == (((l1.getD i4.toNat z_Api_Entry).Part).Index)) && true)) && ((((l0.getD i4.toNat z_Api_Entry).Seg) == ((l1.getD i4.toNat z_Api_Entry).Seg)) && ((((l0.getD i4.toNat z_Api_Entry).Mark) == ((l1.getD i4.toNat z_Api_Entry).Mark)) && ((((l0.getD i4.toNat z_Api_Entry).Rows) == ((l1.getD i4.toNat z_Api_Entry).Rows)) && ((((l0.getD i4.toNat z_Api_Entry).Cold) == ((l1.getD i4.toNat z_Api_Entry).Cold)) && true)))))) = true
                · rw [if_pos c92] at H4
                  refine ent_cond_true rfl c92 ?_
                  refine ent_seq ?_
                  refine ent_region ?_
                  refine ent_value (ov_assign rfl) rfl rfl rfl ?_
                  refine ent_nil ?_
                  refine ent_retc ?_
                  cases H4
                  refine ent_pick [0, 1] (by decide) rfl ?_
                  exact ret_tmp rfl rfl ⟨rfl, rfl⟩
                · rw [if_neg c92] at H4
                  refine ent_cond_false rfl (Bool.eq_false_iff.2 c92) ?_
                  refine ent_skip ?_
                  refine ent_region ?_
                  refine ent_value (ov_move rfl) rfl rfl rfl ?_
                  refine ent_value (ov_bin rfl rfl (b_add _ _ _) ) rfl rfl rfl ?_
                  refine ent_value (ov_assign rfl) rfl rfl rfl ?_
                  refine ent_nil ?_
                  exact ent_fin [0, 1] (by decide) rfl (sub_cons (t := 0) rfl (sub_cons (t := 1) rfl (sub_cons (t := 5) rfl (sub_nil _)))) fun a w h => ⟨k, Nat.lt_succ_self k, _, H4, h⟩
            · rw [if_neg c91] at H4
              cases H4
          · rw [if_neg c90] at H4
            cases H4
        · rw [if_neg c86] at H4
          refine ent_cond_false rfl (decide_eq_false c86) ?_
          refine ent_exit ?_
          refine ent_seq ?_
          refine ent_region ?_
          refine ent_value (ov_assign rfl) rfl rfl rfl ?_
          refine ent_nil ?_
          refine ent_retc ?_
          cases H4
          refine ent_pick [0, 1] (by decide) rfl ?_
          exact ret_tmp rfl rfl ⟨rfl, rfl⟩

set_option maxRecDepth 100000 in
theorem omap_Map__int64__api_Entry_Len_O.spec (p0 : Nat) (sv0 : Value) (l0 : List Omap_pair__int64__api_Entry) (r : Int) (H : omap_Map__int64__api_Entry_Len_O l0 = r) : FnSpec Try.prog 97 [(pt p0 0)] [(box p0 192 [sv0]), (own sv0 196 7 l0.length (fl enc_Omap_pair__int64__api_Entry l0))] (fun v M => v = (Value.int .i64 r) ∧ M = [(box p0 192 [sv0]), (own sv0 196 7 l0.length (fl enc_Omap_pair__int64__api_Entry l0))]) := by
  unfold omap_Map__int64__api_Entry_Len_O at H
  refine spec_of Try.func97 rfl 10 rfl (Nat.le_of_ble_eq_true rfl) fun F w0 => ?_
  show Ent (St 10 w0 F [(0, (pt p0 0))] [(box p0 192 [sv0]), (own sv0 196 7 l0.length (fl enc_Omap_pair__int64__api_Entry l0))]) _
  refine ent_seq ?_
  refine ent_region ?_
  refine ent_value (ov_assign rfl) rfl rfl rfl ?_
  refine ent_nil ?_
  refine ent_seq ?_
  refine ent_seq ?_
  refine ent_region ?_
  refine ent_value (ov_move rfl) rfl rfl rfl ?_
  refine ent_value (ov_bin rfl rfl (b_eql_of (fun w => rfl) rfl (eq_pn Try.underlying136 _ _))) rfl rfl rfl ?_
  refine ent_nil ?_
  refine ent_cond_false rfl rfl ?_
  refine ent_skip ?_
  refine ent_seq ?_
  refine ent_region ?_
  refine ent_value (ov_move rfl) rfl rfl rfl ?_
  refine ent_value (ov_nilCheck rfl) rfl rfl rfl ?_
  refine ent_value (ov_fieldAddr (sz := 0) (o := 0) rfl F_field_192_0 F_size_190) rfl rfl rfl ?_
  refine ent_value (ov_load (v := sv0) rfl F_agg_190 (reads_box1 (i := 0) rfl rfl)) rfl rfl rfl ?_
  refine ent_value (ov_len 1 rfl F_slice_190 rfl (isRd_ownx 196)) rfl rfl rfl ?_
  refine ent_value (ov_assign rfl) rfl rfl rfl ?_
  refine ent_nil ?_
  refine ent_retc ?_
  cases H
  refine ent_pick [0, 1] (by decide) rfl ?_
  exact ret_tmp rfl rfl ⟨rfl, rfl⟩

set_option maxRecDepth 100000 in
theorem catalog_Catalog_Len_O.spec (p0 : Nat) (p1 : Nat) (sv0 : Value) (l0 : List Omap_pair__int64__api_Entry) (r : Int) (H : catalog_Catalog_Len_O l0 = r) : FnSpec Try.prog 37 [(pt p0 0)] [(box p0 139 [(pt p1 0)]), (box p1 192 [sv0]), (own sv0 196 7 l0.length (fl enc_Omap_pair__int64__api_Entry l0))] (fun v M => v = (Value.int .i64 r) ∧ M = [(box p0 139 [(pt p1 0)]), (box p1 192 [sv0]), (own sv0 196 7 l0.length (fl enc_Omap_pair__int64__api_Entry l0))]) := by
  unfold catalog_Catalog_Len_O at H
  refine spec_of Try.func37 rfl 10 rfl (Nat.le_of_ble_eq_true rfl) fun F w0 => ?_
  show Ent (St 10 w0 F [(0, (pt p0 0))] [(box p0 139 [(pt p1 0)]), (box p1 192 [sv0]), (own sv0 196 7 l0.length (fl enc_Omap_pair__int64__api_Entry l0))]) _
  refine ent_seq ?_
  refine ent_region ?_
  refine ent_value (ov_assign rfl) rfl rfl rfl ?_
  refine ent_nil ?_
  refine ent_seq ?_
  refine ent_seq ?_
  refine ent_region ?_
  refine ent_value (ov_move rfl) rfl rfl rfl ?_
  refine ent_value (ov_bin rfl rfl (b_eql_of (fun w => rfl) rfl (eq_pn Try.underlying51 _ _))) rfl rfl rfl ?_
  refine ent_nil ?_
  refine ent_cond_false rfl rfl ?_
  refine ent_skip ?_
  refine ent_seq ?_
  refine ent_region ?_
  refine ent_value (ov_move rfl) rfl rfl rfl ?_
  refine ent_value (ov_nilCheck rfl) rfl rfl rfl ?_
  refine ent_value (ov_fieldAddr (sz := 0) (o := 0) rfl F_field_139_0 F_size_136) rfl rfl rfl ?_
  refine ent_value (ov_load (v := (pt p1 0)) rfl F_agg_136 (reads_box1 (i := 0) rfl rfl)) rfl rfl rfl ?_
  obtain ⟨x2, h2, H⟩ := thn_elim H
  refine ent_op (ot_call_same (Lr := [(box p0 139 [(pt p1 0)])]) [1, 2, 0] [2, 0, 1] (first := []) (cap := []) (xs := [.tmp 8]) rfl rfl F_call_97 rfl (omap_Map__int64__api_Entry_Len_O.spec p1 sv0 l0 _ h2) (by decide) rfl (by decide) rfl) rfl rfl rfl ?_
  rintro _ _ ⟨rfl, rfl⟩
  refine ent_value (ov_assign rfl) rfl rfl rfl ?_
  refine ent_nil ?_
  refine ent_retc ?_
  cases H
  refine ent_pick [0, 1, 2] (by decide) rfl ?_
  exact ret_tmp rfl rfl ⟨rfl, rfl⟩

set_option maxRecDepth 100000 in
theorem build_Gone.spec (a0_0 : Int) (a0_1 : Int) (r : List Api_Part) (H : build_Gone a0_0 a0_1 = r) : FnSpec Try.prog 39 [(Value.agg #[(Value.int .i64 a0_0), (Value.int .i64 a0_1)])] [] (fun v M => ∃ sv2 : Value, v = (Value.agg #[sv2, (Value.slice none 0 0)]) ∧ M = [(own sv2 63 2 r.length (fl enc_Api_Part r))]) := by
  unfold build_Gone at H
  refine spec_of Try.func39 rfl 6 rfl (Nat.le_of_ble_eq_true rfl) fun F w0 => ?_
  show Ent (St 6 w0 F [(0, (Value.agg #[(Value.int .i64 a0_0), (Value.int .i64 a0_1)]))] []) _
  refine ent_seq ?_
  refine ent_region ?_
  refine ent_op (ot_box (cs := [(Value.int .i64 a0_0), (Value.int .i64 a0_1)]) rfl rfl) rfl rfl rfl ?_
  rintro _ _ ⟨b3, rfl, rfl⟩
  refine ent_op (ot_alloc F_zero_59) rfl rfl rfl ?_
  rintro _ _ ⟨b4, rfl, rfl⟩
  refine ent_nil ?_
  refine ent_seq ?_
  refine ent_region ?_
  refine ent_value (ov_load_agg (vs := [(Value.int .i64 a0_0), (Value.int .i64 a0_1)]) rfl F_agg_63 F_size_63 (reads_boxW (i := 1) rfl)) rfl rfl rfl ?_
  refine ent_op (ot_buildSlice (sz := 1) (xs := [.tmp 3]) (cs := fl enc_Api_Part [(⟨a0_0, a0_1⟩ : Api_Part)]) rfl rfl F_slice_56 F_size_63 F_zero_63 rfl rfl (all_size rfl) rfl (by decide)) rfl rfl rfl ?_
  rintro sv3 _ rfl
  refine ent_value (ov_sl 0 rfl (isRd_ownx 63) fun hc0_ => (ov_build (is := [0]) (xs := [.tmp 4]) (vs := [sv3]) rfl rfl (build_struct (cs := [sv3, (Value.slice none 0 0)]) F_zero_59 F_places_59 (by simp [Instr.fill, cells_int, cells_bool, cells_str, cells_func, cells_slice, cells_ptr, cells_nilFunc, cells_agg, hc0_])))) rfl rfl rfl ?_
  refine ent_op0 (ot_storeG (cs := [(Value.slice none 0 0), (Value.slice none 0 0)]) (cs' := [sv3, (Value.slice none 0 0)]) (us := [sv3, (Value.slice none 0 0)]) (L' := [(own sv3 63 2 [(⟨a0_0, a0_1⟩ : Api_Part)].length (fl enc_Api_Part [(⟨a0_0, a0_1⟩ : Api_Part)])), (box b4 59 [sv3, (Value.slice none 0 0)]), (box b3 63 [(Value.int .i64 a0_0), (Value.int .i64 a0_1)])]) 1 rfl rfl rfl (one_sl 0 rfl (isRd_ownx 63) (one_cons rfl one_nil)) F_size_59 rfl rfl (by simp) rfl) rfl rfl ?_
  rintro _ _ rfl
  refine ent_nil ?_
  refine ent_retc ?_
  subst H
  exact ret_memp [0] (by decide) rfl (vs := [(Value.agg #[sv3, (Value.slice none 0 0)])]) rfl ⟨⟨_, [sv3, (Value.slice none 0 0)], rfl, reads_boxW (i := 1) rfl, .inl ⟨F_agg_59, F_size_59, rfl⟩⟩, trivial⟩ _ rfl ⟨_, rfl, rfl⟩

set_option maxRecDepth 100000 in
theorem build_Cooled.spec (a0_0 : Int) (a0_1 : Int) (a0_2 : Int) (a0_3 : Int) (a0_4 : Int) (a0_5 : Bool) (r : ((List Api_Part) × (List Api_Entry))) (H : build_Cooled a0_0 a0_1 a0_2 a0_3 a0_4 a0_5 = some r) : FnSpec Try.prog 38 [(Value.agg #[(Value.int .i64 a0_0), (Value.int .i64 a0_1), (Value.int .i64 a0_2), (Value.int .i64 a0_3), (Value.int .i64 a0_4), (Value.bool a0_5)])] [] (fun v M => ∃ sv4 : Value, ∃ sv5 : Value, v = (Value.agg #[sv4, sv5]) ∧ M = [(own sv4 63 2 r.1.length (fl enc_Api_Part r.1)), (own sv5 65 6 r.2.length (fl enc_Api_Entry r.2))]) := by
  unfold build_Cooled at H
  refine spec_of Try.func38 rfl 15 rfl (Nat.le_of_ble_eq_true rfl) fun F w0 => ?_
  show Ent (St 15 w0 F [(0, (Value.agg #[(Value.int .i64 a0_0), (Value.int .i64 a0_1), (Value.int .i64 a0_2), (Value.int .i64 a0_3), (Value.int .i64 a0_4), (Value.bool a0_5)]))] []) _
  refine ent_seq ?_
  refine ent_region ?_
  refine ent_op (ot_box (cs := [(Value.int .i64 a0_0), (Value.int .i64 a0_1), (Value.int .i64 a0_2), (Value.int .i64 a0_3), (Value.int .i64 a0_4), (Value.bool a0_5)]) rfl rfl) rfl rfl rfl ?_
  rintro _ _ ⟨b4, rfl, rfl⟩
  refine ent_op (ot_alloc F_zero_59) rfl rfl rfl ?_
  rintro _ _ ⟨b5, rfl, rfl⟩
  refine ent_nil ?_
  refine ent_seq ?_
  refine ent_region ?_
  refine ent_value (ov_fieldAddr (sz := 1) (o := 0) rfl F_field_65_0 F_size_63) rfl rfl rfl ?_
  refine ent_value (ov_load_agg (vs := [(Value.int .i64 a0_0), (Value.int .i64 a0_1)]) rfl F_agg_63 F_size_63 (reads_boxN (i := 1) rfl rfl)) rfl rfl rfl ?_
  obtain ⟨x2, h2, H⟩ := thn_elim H
  refine ent_op (ot_call (Lr := [(box b5 59 [(Value.slice none 0 0), (Value.slice none 0 0)]), (box b4 65 [(Value.int .i64 a0_0), (Value.int .i64 a0_1), (Value.int .i64 a0_2), (Value.int .i64 a0_3), (Value.int .i64 a0_4), (Value.bool a0_5)])]) (first := []) (cap := []) (xs := [.tmp 5]) rfl rfl F_call_39 rfl (build_Gone.spec a0_0 a0_1 _ h2) rfl) rfl rfl rfl ?_
  rintro _ _ ⟨_, ⟨sv6, rfl, rfl⟩, rfl⟩
  refine ent_op (ot_alloc F_zero_59) rfl rfl rfl ?_
  rintro _ _ ⟨b6, rfl, rfl⟩
  refine ent_op0 (ot_storeG (cs := [(Value.slice none 0 0), (Value.slice none 0 0)]) (cs' := [sv6, (Value.slice none 0 0)]) (us := [sv6, (Value.slice none 0 0)]) (L' := [(box b6 59 [sv6, (Value.slice none 0 0)]), (own sv6 63 2 x2.length (fl enc_Api_Part x2)), (box b5 59 [(Value.slice none 0 0), (Value.slice none 0 0)]), (box b4 65 [(Value.int .i64 a0_0), (Value.int .i64 a0_1), (Value.int .i64 a0_2), (Value.int .i64 a0_3), (Value.int .i64 a0_4), (Value.bool a0_5)])]) 0 rfl rfl rfl (one_sl 1 rfl (isRd_ownx 63) (one_cons rfl one_nil)) F_size_59 rfl rfl (by simp) rfl) rfl rfl ?_
  rintro _ _ rfl
  refine ent_nil ?_
  refine ent_seq ?_
  refine ent_region ?_
  refine ent_value (ov_fieldAddr (sz := 0) (o := 0) rfl F_field_65_4 F_size_4) rfl rfl rfl ?_
  refine ent_op0 (ot_storeG (cs := [(Value.int .i64 a0_0), (Value.int .i64 a0_1), (Value.int .i64 a0_2), (Value.int .i64 a0_3), (Value.int .i64 a0_4), (Value.bool a0_5)]) (cs' := [(Value.int .i64 a0_0), (Value.int .i64 a0_1), (Value.int .i64 a0_2), (Value.int .i64 a0_3), (Value.int .i64 a0_4), (Value.bool true)]) (us := [(Value.bool true)]) (L' := [(box b6 59 [sv6, (Value.slice none 0 0)]), (own sv6 63 2 x2.length (fl enc_Api_Part x2)), (box b5 59 [(Value.slice none 0 0), (Value.slice none 0 0)]), (box b4 65 [(Value.int .i64 a0_0), (Value.int .i64 a0_1), (Value.int .i64 a0_2), (Value.int .i64 a0_3), (Value.int .i64 a0_4), (Value.bool true)])]) 3 rfl rfl rfl (one_all rfl) F_size_4 rfl rfl (by simp) rfl) rfl rfl ?_
  rintro _ _ rfl
  refine ent_nil ?_
  refine ent_seq ?_
  refine ent_region ?_
  refine ent_value (ov_fieldAddr (sz := 0) (o := 0) rfl F_field_59_1 F_size_53) rfl rfl rfl ?_
  refine ent_value (ov_load (v := (Value.slice none 0 0)) rfl F_agg_53 (reads_box1 (i := 0) rfl rfl)) rfl rfl rfl ?_
  refine ent_value (ov_load_agg (vs := [(Value.int .i64 a0_0), (Value.int .i64 a0_1), (Value.int .i64 a0_2), (Value.int .i64 a0_3), (Value.int .i64 a0_4), (Value.bool true)]) rfl F_agg_65 F_size_65 (reads_boxW (i := 3) rfl)) rfl rfl rfl ?_
  refine ent_op (ot_buildSlice (sz := 5) (xs := [.tmp 10]) (cs := fl enc_Api_Entry [(⟨(⟨a0_0, a0_1⟩ : Api_Part), a0_2, a0_3, a0_4, true⟩ : Api_Entry)]) rfl rfl F_slice_53 F_size_65 F_zero_65 rfl rfl (all_size rfl) rfl (by decide)) rfl rfl rfl ?_
  rintro sv7 _ rfl
  refine ent_ownnil 65 6 ?_
  by_cases c2 : (([] : List Api_Entry).length + [(⟨(⟨a0_0, a0_1⟩ : Api_Part), a0_2, a0_3, a0_4, true⟩ : Api_Entry)].length) * 48 ≤ 140737488355328
  · rw [if_pos c2] at H
    refine ent_op (ot_appendx (sz := 5) (xs := ([] : List Api_Entry)) (ys := [(⟨(⟨a0_0, a0_1⟩ : Api_Part), a0_2, a0_3, a0_4, true⟩ : Api_Entry)]) 0 1 rfl rfl F_slice_53 F_size_65 F_zero_65 rfl F_bytes_65 rfl rfl rfl (isRd_ownx 65) rfl enc_Api_Entry_one c2) rfl rfl rfl ?_
    rintro sv8 _ rfl
    refine ent_L [(own sv8 65 6 (([] : List Api_Entry) ++ [(⟨(⟨a0_0, a0_1⟩ : Api_Part), a0_2, a0_3, a0_4, true⟩ : Api_Entry)]).length (fl enc_Api_Entry (([] : List Api_Entry) ++ [(⟨(⟨a0_0, a0_1⟩ : Api_Part), a0_2, a0_3, a0_4, true⟩ : Api_Entry)]))), (own sv7 65 6 [(⟨(⟨a0_0, a0_1⟩ : Api_Part), a0_2, a0_3, a0_4, true⟩ : Api_Entry)].length (fl enc_Api_Entry [(⟨(⟨a0_0, a0_1⟩ : Api_Part), a0_2, a0_3, a0_4, true⟩ : Api_Entry)])), (box b6 59 [sv6, (Value.slice none 0 0)]), (own sv6 63 2 x2.length (fl enc_Api_Part x2)), (box b5 59 [(Value.slice none 0 0), (Value.slice none 0 0)]), (box b4 65 [(Value.int .i64 a0_0), (Value.int .i64 a0_1), (Value.int .i64 a0_2), (Value.int .i64 a0_3), (Value.int .i64 a0_4), (Value.bool true)])] rfl ?_
    refine ent_value (ov_fieldAddr (sz := 0) (o := 0) rfl F_field_59_1 F_size_53) rfl rfl rfl ?_
    refine ent_op0 (ot_storeS (cs := [sv6, (Value.slice none 0 0)]) (cs' := [sv6, sv8]) (sv := sv8) (L' := [(own sv8 65 6 (([] : List Api_Entry) ++ [(⟨(⟨a0_0, a0_1⟩ : Api_Part), a0_2, a0_3, a0_4, true⟩ : Api_Entry)]).length (fl enc_Api_Entry (([] : List Api_Entry) ++ [(⟨(⟨a0_0, a0_1⟩ : Api_Part), a0_2, a0_3, a0_4, true⟩ : Api_Entry)]))), (own sv7 65 6 [(⟨(⟨a0_0, a0_1⟩ : Api_Part), a0_2, a0_3, a0_4, true⟩ : Api_Entry)].length (fl enc_Api_Entry [(⟨(⟨a0_0, a0_1⟩ : Api_Part), a0_2, a0_3, a0_4, true⟩ : Api_Entry)])), (box b6 59 [sv6, sv8]), (own sv6 63 2 x2.length (fl enc_Api_Part x2)), (box b5 59 [(Value.slice none 0 0), (Value.slice none 0 0)]), (box b4 65 [(Value.int .i64 a0_0), (Value.int .i64 a0_1), (Value.int .i64 a0_2), (Value.int .i64 a0_3), (Value.int .i64 a0_4), (Value.bool true)])]) 2 0 rfl rfl F_size_53 rfl rfl (isRd_ownx 65) rfl (by simp) rfl) rfl rfl ?_
    rintro _ _ rfl
    refine ent_nil ?_
    refine ent_seq ?_
    refine ent_region ?_
    refine ent_value (ov_load_agg (vs := [sv6, sv8]) rfl F_agg_59 F_size_59 (reads_boxW (i := 2) rfl)) rfl rfl rfl ?_
    refine ent_op0 (ot_storeG (cs := [(Value.slice none 0 0), (Value.slice none 0 0)]) (cs' := [sv6, sv8]) (us := [sv6, sv8]) (L' := [(own sv8 65 6 (([] : List Api_Entry) ++ [(⟨(⟨a0_0, a0_1⟩ : Api_Part), a0_2, a0_3, a0_4, true⟩ : Api_Entry)]).length (fl enc_Api_Entry (([] : List Api_Entry) ++ [(⟨(⟨a0_0, a0_1⟩ : Api_Part), a0_2, a0_3, a0_4, true⟩ : Api_Entry)]))), (own sv7 65 6 [(⟨(⟨a0_0, a0_1⟩ : Api_Part), a0_2, a0_3, a0_4, true⟩ : Api_Entry)].length (fl enc_Api_Entry [(⟨(⟨a0_0, a0_1⟩ : Api_Part), a0_2, a0_3, a0_4, true⟩ : Api_Entry)])), (box b6 59 [sv6, sv8]), (own sv6 63 2 x2.length (fl enc_Api_Part x2)), (box b5 59 [sv6, sv8]), (box b4 65 [(Value.int .i64 a0_0), (Value.int .i64 a0_1), (Value.int .i64 a0_2), (Value.int .i64 a0_3), (Value.int .i64 a0_4), (Value.bool true)])]) 4 rfl rfl rfl (one_sl 3 rfl (isRd_ownx 63) (one_sl 0 rfl (isRd_ownx 65) one_nil)) F_size_59 rfl rfl (by simp) rfl) rfl rfl ?_
    rintro _ _ rfl
    refine ent_nil ?_
    refine ent_retc ?_
    first | (have e_ := Option.some.inj (show some _ = some _ from H); subst e_) | subst H
    exact ret_memp [3, 0] (by decide) rfl (vs := [(Value.agg #[sv6, sv8])]) rfl ⟨⟨_, [sv6, sv8], rfl, reads_boxW (i := 4) rfl, .inl ⟨F_agg_59, F_size_59, rfl⟩⟩, trivial⟩ _ rfl ⟨_, _, rfl, rfl⟩
  · rw [if_neg c2] at H
    cases H

set_option maxRecDepth 100000 in
theorem ossuarylaw20_Back_O.spec (K : Nat) (p0 : Nat) (p1 : Nat) (sv0 : Value) (l0 : List Omap_pair__int64__api_Entry) (r : List Api_Entry) (H : ossuarylaw20_Back_O K l0 = some r) : FnSpec Try.prog 24 [(pt p0 0)] [(box p0 139 [(pt p1 0)]), (box p1 192 [sv0]), (own sv0 196 7 l0.length (fl enc_Omap_pair__int64__api_Entry l0))] (fun v M => ∃ sv2 : Value, v = sv2 ∧ M = [(box p0 139 [(pt p1 0)]), (box p1 192 [sv0]), (own sv0 196 7 l0.length (fl enc_Omap_pair__int64__api_Entry l0)), (own sv2 65 6 r.length (fl enc_Api_Entry r))]) := by
  unfold ossuarylaw20_Back_O at H
  refine spec_of Try.func24 rfl 5 rfl (Nat.le_of_ble_eq_true rfl) fun F w0 => ?_
  show Ent (St 5 w0 F [(0, (pt p0 0))] [(box p0 139 [(pt p1 0)]), (box p1 192 [sv0]), (own sv0 196 7 l0.length (fl enc_Omap_pair__int64__api_Entry l0))]) _
  refine ent_seq ?_
  refine ent_region ?_
  refine ent_value (ov_assign rfl) rfl rfl rfl ?_
  refine ent_nil ?_
  refine ent_seq ?_
  refine ent_region ?_
  refine ent_value (ov_move rfl) rfl rfl rfl ?_
  obtain ⟨x2, h2, H⟩ := Option.bind_eq_some_iff.1 H
  refine ent_op (ot_call (Lr := []) (first := []) (cap := []) (xs := [.tmp 3, .const (Value.int .i64 (-4611686018427387904)), .const (Value.int .i64 4611686018427387904)]) rfl rfl F_call_36 rfl (catalog_Catalog_Over_O.spec K p0 p1 sv0 l0 (-4611686018427387904) 4611686018427387904 _ h2) rfl) rfl rfl rfl ?_
  rintro sv3 _ ⟨_, ⟨_, rfl, rfl⟩, rfl⟩
  refine ent_value (ov_assign rfl) rfl rfl rfl ?_
  refine ent_nil ?_
  refine ent_retc ?_
  cases H
  refine ent_pick [0, 1, 2, 3] (by decide) rfl ?_
  exact ret_tmp rfl rfl ⟨_, rfl, rfl⟩

set_option maxRecDepth 100000 in
theorem catalog_Catalog_Apply_OON.spec (K : Nat) (p0 : Nat) (p1 : Nat) (sv0 : Value) (sv1 : Value) (l0 : List Omap_pair__int64__api_Entry) (l1 : List Api_Part) (r : (Int × (List Omap_pair__int64__api_Entry))) (H : catalog_Catalog_Apply_OON K l0 l1 = some r) : FnSpec Try.prog 25 [(pt p0 0), (Value.agg #[sv1, (Value.slice none 0 0)])] [(box p0 139 [(pt p1 0)]), (box p1 192 [sv0]), (own sv0 196 7 l0.length (fl enc_Omap_pair__int64__api_Entry l0)), (own sv1 63 2 l1.length (fl enc_Api_Part l1))] (fun v M => ∃ b82 : Nat, ∃ sv35 : Value, v = (Value.int .i64 r.1) ∧ M = [(box p0 139 [(pt b82 0)]), (box b82 192 [sv35]), (own sv35 196 7 r.2.length (fl enc_Omap_pair__int64__api_Entry r.2)), (own sv1 63 2 l1.length (fl enc_Api_Part l1))]) := by
  unfold catalog_Catalog_Apply_OON at H
  refine spec_of Try.func25 rfl 67 rfl (Nat.le_of_ble_eq_true rfl) fun F w0 => ?_
  show Ent (St 67 w0 F [(0, (pt p0 0)), (1, (Value.agg #[sv1, (Value.slice none 0 0)]))] [(box p0 139 [(pt p1 0)]), (box p1 192 [sv0]), (own sv0 196 7 l0.length (fl enc_Omap_pair__int64__api_Entry l0)), (own sv1 63 2 l1.length (fl enc_Api_Part l1))]) _
  refine ent_seq ?_
  refine ent_region ?_
  refine ent_op (ot_box (cs := [sv1, (Value.slice none 0 0)]) rfl rfl) rfl rfl rfl ?_
  rintro _ _ ⟨b83, rfl, rfl⟩
  refine ent_value (ov_assign rfl) rfl rfl rfl ?_
  refine ent_nil ?_
  refine ent_seq ?_
  refine ent_seq ?_
  refine ent_region ?_
  refine ent_value (ov_move rfl) rfl rfl rfl ?_
  refine ent_value (ov_bin rfl rfl (b_eql_of (fun w => rfl) rfl (eq_pn Try.underlying51 _ _))) rfl rfl rfl ?_
  refine ent_nil ?_
  refine ent_cond_false rfl rfl ?_
  refine ent_skip ?_
  refine ent_seq ?_
  refine ent_region ?_
  refine ent_value (ov_move rfl) rfl rfl rfl ?_
  obtain ⟨x103, h99, H⟩ := Option.bind_eq_some_iff.1 H
  refine ent_pick [1, 2, 3, 0, 4] (by decide) rfl ?_
  refine ent_op (ot_call (Lr := [(box b83 59 [sv1, (Value.slice none 0 0)]), (own sv1 63 2 l1.length (fl enc_Api_Part l1))]) (first := []) (cap := []) (xs := [.tmp 17]) rfl rfl F_call_30 rfl (catalog_Catalog_Copy_O.spec K p0 p1 sv0 l0 _ h99) rfl) rfl rfl rfl ?_
  rintro _ _ ⟨_, ⟨b84, b85, sv36, rfl, rfl⟩, rfl⟩
  refine ent_value (ov_assign rfl) rfl rfl rfl ?_
  refine ent_nil ?_
  obtain ⟨x128, H16, H⟩ := Option.bind_eq_some_iff.1 H
  refine ent_seq_cut (fun a w => ∃ v3, x128 = Sum.inl v3 ∧ ∃ b104 : Nat, ∃ sv44 : Value, St 67 w0 F [(0, (pt p0 0)), (3, (pt b104 0)), (5, (pt b84 0))] [(box p0 139 [(pt p1 0)]), (box p1 192 [sv0]), (own sv0 196 7 l0.length (fl enc_Omap_pair__int64__api_Entry l0)), (own sv1 63 2 l1.length (fl enc_Api_Part l1)), (box b104 59 [sv1, (Value.slice none 0 0)]), (box b84 139 [(pt b85 0)]), (box b85 192 [sv44]), (own sv44 196 7 v3.length (fl enc_Omap_pair__int64__api_Entry v3))] a w) ?_ ?_
  · refine ent_seq ?_
    refine ent_region ?_
    refine ent_value (ov_fieldAddr (sz := 0) (o := 0) rfl F_field_59_0 F_size_56) rfl rfl rfl ?_
    refine ent_value (ov_load (v := sv1) rfl F_agg_56 (reads_box1 (i := 6) rfl rfl)) rfl rfl rfl ?_
    refine ent_value (ov_len 7 rfl F_slice_56 rfl (isRd_ownx 63)) rfl rfl rfl ?_
    refine ent_value (ov_move rfl) rfl rfl rfl ?_
    refine ent_nil ?_
    refine ent_block ?_
    refine ent_loop (fun k a w => ∃ i8, ∃ l12, ∃ sv47 : Value, catalog_Catalog_Apply_OON_l0 K l0 l1 k i8 l12 = some x128 ∧ St 67 w0 F [(0, (pt p0 0)), (3, (pt b83 0)), (5, (pt b84 0)), (20, sv1), (21, (Value.int .i64 (l1.length : Int))), (22, (Value.int .i64 i8))] [(box p0 139 [(pt p1 0)]), (box p1 192 [sv0]), (own sv0 196 7 l0.length (fl enc_Omap_pair__int64__api_Entry l0)), (own sv1 63 2 l1.length (fl enc_Api_Part l1)), (box b83 59 [sv1, (Value.slice none 0 0)]), (box b84 139 [(pt b85 0)]), (box b85 192 [sv47]), (own sv47 196 7 l12.length (fl enc_Omap_pair__int64__api_Entry l12))] a w) K ?_ ?_
    · exact ent_fin [0, 1, 2, 7, 6, 3, 4, 5] (by decide) rfl (sub_cons (t := 0) rfl (sub_cons (t := 3) rfl (sub_cons (t := 5) rfl (sub_cons (t := 20) rfl (sub_cons (t := 21) rfl (sub_cons (t := 22) rfl (sub_nil _))))))) fun a w h => ⟨_, _, _, H16, h⟩
    · refine fun k => ent_exi fun i8 => ent_exi fun l12 => ent_exi fun sv47 => ent_and fun H17 => ?_
      cases k with
      | zero => exact absurd H17 (by simp [catalog_Catalog_Apply_OON_l0])
      | succ k =>
        rw [catalog_Catalog_Apply_OON_l0] at H17
        refine ent_seq ?_
        refine ent_region ?_
        refine ent_value (ov_bin rfl rfl (b_lss _ _ _)) rfl rfl rfl ?_
        refine ent_nil ?_
        refine ent_seq ?_
        by_cases c126 : i8 < (l1.length : Int)
        · rw [if_pos c126] at H17
          refine ent_cond_true rfl (decide_eq_true c126) ?_
          refine ent_skip ?_
          refine ent_seq ?_
          refine ent_block ?_
          refine ent_seq ?_
          refine ent_region ?_
          by_cases c130 : 0 ≤ i8
          · rw [if_pos c130] at H17
            refine ent_value (ov_indexAddr (sz := 1) 3 rfl rfl F_slice_56 F_size_63 rfl (isRd_ownx 63) c130 c126) rfl rfl rfl ?_
            refine ent_value (ov_load_agg (vs := [(Value.int .i64 ((l1.getD i8.toNat z_Api_Part).Tier)), (Value.int .i64 ((l1.getD i8.toNat z_Api_Part).Index))]) rfl F_agg_63 F_size_63 (reads_rd (i := 3) rfl (isRd_ownx 63) (by simp) (fl_read0 enc_Api_Part_len (ix_lt c130 c126) rfl))) rfl rfl rfl ?_
            refine ent_op (ot_alloc F_zero_63) rfl rfl rfl ?_
            rintro _ _ ⟨b120, rfl, rfl⟩
            refine ent_op0 (ot_storeG (cs := [(Value.int .i64 0), (Value.int .i64 0)]) (cs' := [(Value.int .i64 ((l1.getD i8.toNat z_Api_Part).Tier)), (Value.int .i64 ((l1.getD i8.toNat z_Api_Part).Index))]) (us := [(Value.int .i64 ((l1.getD i8.toNat z_Api_Part).Tier)), (Value.int .i64 ((l1.getD i8.toNat z_Api_Part).Index))]) (L' := [(box b120 63 [(Value.int .i64 ((l1.getD i8.toNat z_Api_Part).Tier)), (Value.int .i64 ((l1.getD i8.toNat z_Api_Part).Index))]), (box p0 139 [(pt p1 0)]), (box p1 192 [sv0]), (own sv0 196 7 l0.length (fl enc_Omap_pair__int64__api_Entry l0)), (own sv1 63 2 l1.length (fl enc_Api_Part l1)), (box b83 59 [sv1, (Value.slice none 0 0)]), (box b84 139 [(pt b85 0)]), (box b85 192 [sv47]), (own sv47 196 7 l12.length (fl enc_Omap_pair__int64__api_Entry l12))]) 0 rfl rfl rfl (one_all rfl) F_size_63 rfl rfl (by simp) rfl) rfl rfl ?_
            rintro _ _ rfl
            refine ent_nil ?_
            refine ent_seq ?_
            refine ent_seq ?_
            refine ent_region ?_
            refine ent_value (ov_move rfl) rfl rfl rfl ?_
            refine ent_value (ov_load_agg (vs := [(Value.int .i64 ((l1.getD i8.toNat z_Api_Part).Tier)), (Value.int .i64 ((l1.getD i8.toNat z_Api_Part).Index))]) rfl F_agg_63 F_size_63 (reads_boxW (i := 0) rfl)) rfl rfl rfl ?_
            obtain ⟨x150, h145, H17⟩ := Option.bind_eq_some_iff.1 H17
            refine ent_op (ot_call_same (Lr := [(box b120 63 [(Value.int .i64 ((l1.getD i8.toNat z_Api_Part).Tier)), (Value.int .i64 ((l1.getD i8.toNat z_Api_Part).Index))]), (box p0 139 [(pt p1 0)]), (box p1 192 [sv0]), (own sv0 196 7 l0.length (fl enc_Omap_pair__int64__api_Entry l0)), (own sv1 63 2 l1.length (fl enc_Api_Part l1)), (box b83 59 [sv1, (Value.slice none 0 0)])]) [6, 7, 8, 0, 1, 2, 3, 4, 5] [3, 4, 5, 6, 7, 8, 0, 1, 2] (first := []) (cap := []) (xs := [.tmp 27, .tmp 28]) rfl rfl F_call_82 rfl (catalog_Catalog_Get_O.spec K b84 b85 sv47 l12 ((l1.getD i8.toNat z_Api_Part).Tier) ((l1.getD i8.toNat z_Api_Part).Index) _ h145) (by decide) rfl (by decide) rfl) rfl rfl rfl ?_
            rintro _ _ ⟨rfl, rfl⟩
            refine ent_value (ov_move rfl) rfl rfl rfl ?_
            refine ent_value (ov_extract rfl rfl) rfl rfl rfl ?_
            refine ent_value (ov_extract rfl rfl) rfl rfl rfl ?_
            refine ent_op (ot_alloc F_zero_65) rfl rfl rfl ?_
            rintro _ _ ⟨b122, rfl, rfl⟩
            refine ent_op0 (ot_storeG (cs := [(Value.int .i64 0), (Value.int .i64 0), (Value.int .i64 0), (Value.int .i64 0), (Value.int .i64 0), (Value.bool false)]) (cs' := [(Value.int .i64 x150.1), (Value.int .i64 x150.2.1), (Value.int .i64 x150.2.2.1), (Value.int .i64 x150.2.2.2.1), (Value.int .i64 x150.2.2.2.2.1), (Value.bool x150.2.2.2.2.2.1)]) (us := [(Value.int .i64 x150.1), (Value.int .i64 x150.2.1), (Value.int .i64 x150.2.2.1), (Value.int .i64 x150.2.2.2.1), (Value.int .i64 x150.2.2.2.2.1), (Value.bool x150.2.2.2.2.2.1)]) (L' := [(box b122 65 [(Value.int .i64 x150.1), (Value.int .i64 x150.2.1), (Value.int .i64 x150.2.2.1), (Value.int .i64 x150.2.2.2.1), (Value.int .i64 x150.2.2.2.2.1), (Value.bool x150.2.2.2.2.2.1)]), (box b120 63 [(Value.int .i64 ((l1.getD i8.toNat z_Api_Part).Tier)), (Value.int .i64 ((l1.getD i8.toNat z_Api_Part).Index))]), (box p0 139 [(pt p1 0)]), (box p1 192 [sv0]), (own sv0 196 7 l0.length (fl enc_Omap_pair__int64__api_Entry l0)), (own sv1 63 2 l1.length (fl enc_Api_Part l1)), (box b83 59 [sv1, (Value.slice none 0 0)]), (box b84 139 [(pt b85 0)]), (box b85 192 [sv47]), (own sv47 196 7 l12.length (fl enc_Omap_pair__int64__api_Entry l12))]) 0 rfl rfl rfl (one_all rfl) F_size_65 rfl rfl (by simp) rfl) rfl rfl ?_
            rintro _ _ rfl
            refine ent_value (ov_assign rfl) rfl rfl rfl ?_
            refine ent_nil ?_
            refine ent_seq ?_
            refine ent_region ?_
            refine ent_value (ov_move rfl) rfl rfl rfl ?_
            refine ent_value (ov_un rfl (u_not _)) rfl rfl rfl ?_
            refine ent_nil ?_
            by_cases c132 : (!x150.2.2.2.2.2.2) = true
            · rw [if_pos c132] at H17
              refine ent_cond_true rfl c132 ?_
              refine ent_seq ?_
              refine ent_region ?_
              refine ent_value (ov_assign rfl) rfl rfl rfl ?_
              refine ent_nil ?_
              refine ent_retc ?_
              cases H17
              have H18 := Option.some.inj (show some _ = some _ from H)
              cases H18
              refine ent_pick [2, 3, 4, 5] (by decide) rfl ?_
              exact ret_tmp rfl rfl ⟨_, _, rfl, rfl⟩
            · rw [if_neg c132] at H17
              refine ent_cond_false rfl (Bool.eq_false_iff.2 c132) ?_
              refine ent_skip ?_
              refine ent_seq ?_
              refine ent_region ?_
              refine ent_value (ov_load_agg (vs := [(Value.int .i64 ((l1.getD i8.toNat z_Api_Part).Tier)), (Value.int .i64 ((l1.getD i8.toNat z_Api_Part).Index))]) rfl F_agg_63 F_size_63 (reads_boxW (i := 1) rfl)) rfl rfl rfl ?_
              obtain ⟨x151, h146, H17⟩ := thn_elim H17
              refine ent_op (ot_call0 (first := []) (cap := []) (xs := [.tmp 35]) rfl rfl F_call_35 rfl (part_Span.spec ((l1.getD i8.toNat z_Api_Part).Tier) ((l1.getD i8.toNat z_Api_Part).Index) _ h146)) rfl rfl rfl ?_
              rintro _ _ ⟨rfl, rfl⟩
              refine ent_value (ov_move rfl) rfl rfl rfl ?_
              refine ent_value (ov_extract rfl rfl) rfl rfl rfl ?_
              refine ent_value (ov_extract rfl rfl) rfl rfl rfl ?_
              refine ent_value (ov_assign rfl) rfl rfl rfl ?_
              refine ent_value (ov_assign rfl) rfl rfl rfl ?_
              refine ent_nil ?_
              refine ent_region ?_
              refine ent_value (ov_move rfl) rfl rfl rfl ?_
              refine ent_value (ov_nilCheck rfl) rfl rfl rfl ?_
              refine ent_value (ov_fieldAddr (sz := 0) (o := 0) rfl F_field_139_0 F_size_136) rfl rfl rfl ?_
              refine ent_value (ov_load (v := (pt b85 0)) rfl F_agg_136 (reads_box1 (i := 7) rfl rfl)) rfl rfl rfl ?_
              refine ent_value (ov_move rfl) rfl rfl rfl ?_
              obtain ⟨x152, h147, H17⟩ := Option.bind_eq_some_iff.1 H17
              refine ent_pick [8, 9, 0, 1, 2, 3, 4, 5, 6, 7] (by decide) rfl ?_
              refine ent_op (ot_call (Lr := [(box b122 65 [(Value.int .i64 x150.1), (Value.int .i64 x150.2.1), (Value.int .i64 x150.2.2.1), (Value.int .i64 x150.2.2.2.1), (Value.int .i64 x150.2.2.2.2.1), (Value.bool x150.2.2.2.2.2.1)]), (box b120 63 [(Value.int .i64 ((l1.getD i8.toNat z_Api_Part).Tier)), (Value.int .i64 ((l1.getD i8.toNat z_Api_Part).Index))]), (box p0 139 [(pt p1 0)]), (box p1 192 [sv0]), (own sv0 196 7 l0.length (fl enc_Omap_pair__int64__api_Entry l0)), (own sv1 63 2 l1.length (fl enc_Api_Part l1)), (box b83 59 [sv1, (Value.slice none 0 0)]), (box b84 139 [(pt b85 0)])]) (first := []) (cap := []) (xs := [.tmp 42, .tmp 43]) rfl rfl F_call_83 rfl (omap_Map__int64__api_Entry_Drop_O.spec K b85 sv47 l12 x151.1 _ h147) rfl) rfl rfl rfl ?_
              rintro _ _ ⟨_, ⟨sv51, rfl, rfl⟩, rfl⟩
              refine ent_nil ?_
              refine ent_region ?_
              refine ent_value (ov_bin rfl rfl (b_add _ _ _) ) rfl rfl rfl ?_
              refine ent_value (ov_move rfl) rfl rfl rfl ?_
              refine ent_nil ?_
              exact ent_fin [4, 5, 6, 7, 8, 9, 0, 1] (by decide) rfl (sub_cons (t := 0) rfl (sub_cons (t := 3) rfl (sub_cons (t := 5) rfl (sub_cons (t := 20) rfl (sub_cons (t := 21) rfl (sub_cons (t := 22) rfl (sub_nil _))))))) fun a w h => ⟨k, Nat.lt_succ_self k, _, _, _, H17, h⟩
          · rw [if_neg c130] at H17
            cases H17
        · rw [if_neg c126] at H17
          refine ent_cond_false rfl (decide_eq_false c126) ?_
          refine ent_exit ?_
          cases H17
          exact ent_fin [0, 1, 2, 3, 4, 5, 6, 7] (by decide) rfl (sub_cons (t := 0) rfl (sub_cons (t := 3) rfl (sub_cons (t := 5) rfl (sub_nil _)))) fun a w h => ⟨_, rfl, _, _, h⟩
  · refine ent_exi fun v3 => ent_and fun e_ => ?_
    subst e_
    rw [cas_inl] at H
    refine ent_exi fun b104 => ent_exi fun sv44 => ?_
    obtain ⟨x153, H20, H⟩ := Option.bind_eq_some_iff.1 H
    refine ent_seq_cut (fun a w => St 67 w0 F [(0, (pt p0 0)), (5, (pt b84 0))] [(box p0 139 [(pt p1 0)]), (box p1 192 [sv0]), (own sv0 196 7 l0.length (fl enc_Omap_pair__int64__api_Entry l0)), (own sv1 63 2 l1.length (fl enc_Api_Part l1)), (box b84 139 [(pt b85 0)]), (box b85 192 [sv44]), (own sv44 196 7 v3.length (fl enc_Omap_pair__int64__api_Entry v3))] a w) ?_ ?_
    · refine ent_seq ?_
      refine ent_region ?_
      refine ent_value (ov_fieldAddr (sz := 0) (o := 0) rfl F_field_59_1 F_size_53) rfl rfl rfl ?_
      refine ent_value (ov_load (v := (Value.slice none 0 0)) rfl F_agg_53 (reads_box1 (i := 4) rfl rfl)) rfl rfl rfl ?_
      refine ent_value (ov_len0 rfl F_slice_53) rfl rfl rfl ?_
      refine ent_value (ov_move rfl) rfl rfl rfl ?_
      refine ent_nil ?_
      refine ent_block ?_
      refine ent_loop (fun k a w => catalog_Catalog_Apply_OON_l1 K k = some x153 ∧ St 67 w0 F [(0, (pt p0 0)), (5, (pt b84 0)), (47, (Value.slice none 0 0)), (48, (Value.int .i64 0)), (49, (Value.int .i64 0))] [(box p0 139 [(pt p1 0)]), (box p1 192 [sv0]), (own sv0 196 7 l0.length (fl enc_Omap_pair__int64__api_Entry l0)), (own sv1 63 2 l1.length (fl enc_Api_Part l1)), (box b84 139 [(pt b85 0)]), (box b85 192 [sv44]), (own sv44 196 7 v3.length (fl enc_Omap_pair__int64__api_Entry v3))] a w) K ?_ ?_
      · exact ent_fin [0, 1, 2, 3, 5, 6, 7] (by decide) rfl (sub_cons (t := 0) rfl (sub_cons (t := 5) rfl (sub_cons (t := 47) rfl (sub_cons (t := 48) rfl (sub_cons (t := 49) rfl (sub_nil _)))))) fun a w h => ⟨H20, h⟩
      · refine fun k => ent_and fun H21 => ?_
        cases k with
        | zero => exact absurd H21 (by simp [catalog_Catalog_Apply_OON_l1])
        | succ k =>
          rw [catalog_Catalog_Apply_OON_l1] at H21
          refine ent_seq ?_
          refine ent_region ?_
          refine ent_value (ov_bin rfl rfl (b_lss _ _ _)) rfl rfl rfl ?_
          refine ent_nil ?_
          refine ent_seq ?_
          refine ent_cond_false rfl rfl ?_
          refine ent_exit ?_
          cases H21
          exact ent_fin [0, 1, 2, 3, 4, 5, 6] (by decide) rfl (sub_cons (t := 0) rfl (sub_cons (t := 5) rfl (sub_nil _))) fun a w h => h
    · refine ent_seq ?_
      refine ent_region ?_
      refine ent_value (ov_move rfl) rfl rfl rfl ?_
      refine ent_value (ov_move rfl) rfl rfl rfl ?_
      refine ent_value (ov_nilCheck rfl) rfl rfl rfl ?_
      refine ent_value (ov_fieldAddr (sz := 0) (o := 0) rfl F_field_139_0 F_size_136) rfl rfl rfl ?_
      refine ent_value (ov_load (v := (pt b85 0)) rfl F_agg_136 (reads_box1 (i := 4) rfl rfl)) rfl rfl rfl ?_
      refine ent_value (ov_nilCheck rfl) rfl rfl rfl ?_
      refine ent_value (ov_fieldAddr (sz := 0) (o := 0) rfl F_field_139_0 F_size_136) rfl rfl rfl ?_
      refine ent_op0 (ot_storeG (cs := [(pt p1 0)]) (cs' := [(pt b85 0)]) (us := [(pt b85 0)]) (L' := [(box p0 139 [(pt b85 0)]), (box p1 192 [sv0]), (own sv0 196 7 l0.length (fl enc_Omap_pair__int64__api_Entry l0)), (own sv1 63 2 l1.length (fl enc_Api_Part l1)), (box b84 139 [(pt b85 0)]), (box b85 192 [sv44]), (own sv44 196 7 v3.length (fl enc_Omap_pair__int64__api_Entry v3))]) 0 rfl rfl rfl (one_all rfl) F_size_136 rfl rfl (by simp) rfl) rfl rfl ?_
      rintro _ _ rfl
      refine ent_nil ?_
      refine ent_seq ?_
      refine ent_region ?_
      refine ent_value (ov_assign rfl) rfl rfl rfl ?_
      refine ent_nil ?_
      refine ent_retc ?_
      cases H
      refine ent_pick [0, 5, 6, 3] (by decide) rfl ?_
      exact ret_tmp rfl rfl ⟨_, _, rfl, rfl⟩

set_option maxRecDepth 100000 in
theorem ossuarylaw28_BuildTakes.spec (K : Nat) (A0 : HP) (sv0 : Value) (l0 : List Api_Entry) (a1_0_0 : Int) (a1_0_1 : Int) (a1_1 : Int) (a1_2 : Int) (a1_3 : Int) (a1_4 : Bool) (hA0 : IsRd A0 sv0 l0.length 6 (fl enc_Api_Entry l0)) (r : Bool) (H : ossuarylaw28_BuildTakes K l0 a1_0_0 a1_0_1 a1_1 a1_2 a1_3 a1_4 = some r) : FnSpec Try.prog 7 [sv0, (Value.agg #[(Value.int .i64 a1_0_0), (Value.int .i64 a1_0_1), (Value.int .i64 a1_1), (Value.int .i64 a1_2), (Value.int .i64 a1_3), (Value.bool a1_4)])] [A0] (fun v M => v = (Value.bool r) ∧ M = [A0]) := by
  unfold ossuarylaw28_BuildTakes at H
  refine spec_of Try.func7 rfl 119 rfl (Nat.le_of_ble_eq_true rfl) fun F w0 => ?_
  show Ent (St 119 w0 F [(0, sv0), (1, (Value.agg #[(Value.int .i64 a1_0_0), (Value.int .i64 a1_0_1), (Value.int .i64 a1_1), (Value.int .i64 a1_2), (Value.int .i64 a1_3), (Value.bool a1_4)]))] [A0]) _
  refine ent_seq ?_
  refine ent_region ?_
  refine ent_op (ot_box (cs := [(Value.int .i64 a1_0_0), (Value.int .i64 a1_0_1), (Value.int .i64 a1_1), (Value.int .i64 a1_2), (Value.int .i64 a1_3), (Value.bool a1_4)]) rfl rfl) rfl rfl rfl ?_
  rintro _ _ ⟨b15, rfl, rfl⟩
  refine ent_value (ov_assign rfl) rfl rfl rfl ?_
  refine ent_nil ?_
  refine ent_seq ?_
  refine ent_seq ?_
  refine ent_region ?_
  refine ent_value (ov_move rfl) rfl rfl rfl ?_
  refine ent_value (ov_len 1 rfl F_slice_53 rfl hA0) rfl rfl rfl ?_
  refine ent_value (ov_bin rfl rfl (b_gtr _ _ _)) rfl rfl rfl ?_
  refine ent_nil ?_
  by_cases c24 : 40 < (l0.length : Int)
  · rw [if_pos c24] at H
    refine ent_cond_true rfl (decide_eq_true c24) ?_
    refine ent_seq ?_
    refine ent_region ?_
    obtain ⟨x37, h36, H⟩ := Option.bind_eq_some_iff.1 H
    refine ent_op (ot_call0 (first := []) (cap := []) (xs := []) rfl rfl F_call_32 rfl (ossuarylaw28_alive.spec K _ h36)) rfl rfl rfl ?_
    rintro _ _ ⟨rfl, rfl⟩
    refine ent_value (ov_assign rfl) rfl rfl rfl ?_
    refine ent_nil ?_
    refine ent_retc ?_
    cases H
    refine ent_pick [1] (by decide) rfl ?_
    exact ret_tmp rfl rfl ⟨rfl, rfl⟩
  · rw [if_neg c24] at H
    refine ent_cond_false rfl (decide_eq_false c24) ?_
    refine ent_skip ?_
    refine ent_seq ?_
    refine ent_region ?_
    refine ent_value (ov_move rfl) rfl rfl rfl ?_
    obtain ⟨x38, h37, H⟩ := Option.bind_eq_some_iff.1 H
    refine ent_pick [1, 0] (by decide) rfl ?_
    refine ent_op (ot_call (Lr := [(box b15 65 [(Value.int .i64 a1_0_0), (Value.int .i64 a1_0_1), (Value.int .i64 a1_1), (Value.int .i64 a1_2), (Value.int .i64 a1_3), (Value.bool a1_4)])]) (first := []) (cap := []) (xs := [.tmp 18]) rfl rfl F_call_33 rfl (ossuarylaw28_made_R.spec K sv0 A0 l0 hA0 _ h37) rfl) rfl rfl rfl ?_
    rintro _ _ ⟨_, ⟨b16, b17, sv33, A2, sv34, hr2, rfl, rfl⟩, rfl⟩
    refine ent_value (ov_move rfl) rfl rfl rfl ?_
    refine ent_value (ov_extract rfl rfl) rfl rfl rfl ?_
    refine ent_value (ov_extract rfl rfl) rfl rfl rfl ?_
    refine ent_value (ov_assign rfl) rfl rfl rfl ?_
    refine ent_value (ov_assign rfl) rfl rfl rfl ?_
    refine ent_nil ?_
    refine ent_seq ?_
    refine ent_region ?_
    refine ent_value (ov_move rfl) rfl rfl rfl ?_
    refine ent_value (ov_load_agg (vs := [(Value.int .i64 a1_0_0), (Value.int .i64 a1_0_1), (Value.int .i64 a1_1), (Value.int .i64 a1_2), (Value.int .i64 a1_3), (Value.bool a1_4)]) rfl F_agg_65 F_size_65 (reads_boxW (i := 5) rfl)) rfl rfl rfl ?_
    obtain ⟨x39, h38, H⟩ := Option.bind_eq_some_iff.1 H
    refine ent_pick [1, 2, 3, 0, 4, 5] (by decide) rfl ?_
    refine ent_op (ot_call (Lr := [A0, A2, (box b15 65 [(Value.int .i64 a1_0_0), (Value.int .i64 a1_0_1), (Value.int .i64 a1_1), (Value.int .i64 a1_2), (Value.int .i64 a1_3), (Value.bool a1_4)])]) (first := []) (cap := []) (xs := [.tmp 23, .tmp 24]) rfl rfl F_call_34 rfl (build_Edit_O.spec K b16 b17 sv33 x38.1 a1_0_0 a1_0_1 a1_1 a1_2 a1_3 a1_4 _ h38) rfl) rfl rfl rfl ?_
    rintro _ _ ⟨_, ⟨sv35, sv36, rfl, rfl⟩, rfl⟩
    refine ent_value (ov_move rfl) rfl rfl rfl ?_
    refine ent_value (ov_extract rfl rfl) rfl rfl rfl ?_
    refine ent_value (ov_extract rfl rfl) rfl rfl rfl ?_
    refine ent_op (ot_alloc F_zero_59) rfl rfl rfl ?_
    rintro _ _ ⟨b18, rfl, rfl⟩
    refine ent_op0 (ot_storeG (cs := [(Value.slice none 0 0), (Value.slice none 0 0)]) (cs' := [sv35, sv36]) (us := [sv35, sv36]) (L' := [(box b18 59 [sv35, sv36]), (own sv35 63 2 x39.2.1.length (fl enc_Api_Part x39.2.1)), (own sv36 65 6 x39.2.2.length (fl enc_Api_Entry x39.2.2)), (box b16 139 [(pt b17 0)]), (box b17 192 [sv33]), (own sv33 196 7 x38.1.length (fl enc_Omap_pair__int64__api_Entry x38.1)), A0, A2, (box b15 65 [(Value.int .i64 a1_0_0), (Value.int .i64 a1_0_1), (Value.int .i64 a1_1), (Value.int .i64 a1_2), (Value.int .i64 a1_3), (Value.bool a1_4)])]) 0 rfl rfl rfl (one_sl 1 rfl (isRd_ownx 63) (one_sl 2 rfl (isRd_ownx 65) one_nil)) F_size_59 rfl rfl (by simp) rfl) rfl rfl ?_
    rintro _ _ rfl
    refine ent_value (ov_assign rfl) rfl rfl rfl ?_
    refine ent_nil ?_
    refine ent_seq ?_
    refine ent_seq ?_
    refine ent_region ?_
    refine ent_value (ov_move rfl) rfl rfl rfl ?_
    refine ent_value (ov_bin rfl rfl (b_neq _ _ _)) rfl rfl rfl ?_
    refine ent_nil ?_
    by_cases c27 : ¬ (x39.1 = 0)
    · rw [if_pos c27] at H
      refine ent_cond_true rfl (ne_t c27) ?_
      refine ent_seq ?_
      refine ent_region ?_
      refine ent_value (ov_fieldAddr (sz := 0) (o := 0) rfl F_field_59_0 F_size_56) rfl rfl rfl ?_
      refine ent_value (ov_load (v := sv35) rfl F_agg_56 (reads_box1 (i := 0) rfl rfl)) rfl rfl rfl ?_
      refine ent_value (ov_len 1 rfl F_slice_56 rfl (isRd_ownx 63)) rfl rfl rfl ?_
      refine ent_value (ov_fieldAddr (sz := 0) (o := 0) rfl F_field_59_1 F_size_53) rfl rfl rfl ?_
      refine ent_value (ov_load (v := sv36) rfl F_agg_53 (reads_box1 (i := 0) rfl rfl)) rfl rfl rfl ?_
      refine ent_value (ov_len 2 rfl F_slice_53 rfl (isRd_ownx 65)) rfl rfl rfl ?_
      refine ent_value (ov_bin rfl rfl (b_add _ _ _) ) rfl rfl rfl ?_
      refine ent_value (ov_bin rfl rfl (b_eql _ _ _)) rfl rfl rfl ?_
      refine ent_value (ov_move rfl) rfl rfl rfl ?_
      by_cases c28 : (w64 ((x39.2.1.length : Int) + (x39.2.2.length : Int))) = 0
      · rw [if_pos c28] at H
        obtain ⟨x41, h40, H⟩ := Option.bind_eq_some_iff.1 H
        refine ent_op_on (ot_call0 (first := []) (cap := []) (xs := []) rfl rfl F_call_32 rfl (ossuarylaw28_alive.spec K _ h40)) rfl rfl rfl (eq_t c28) rfl rfl ?_
        rintro _ _ ⟨rfl, rfl⟩
        refine ent_value (ov_pick rfl rfl rfl (pick_t (eq_t c28))) rfl rfl rfl ?_
        refine ent_value (ov_assign rfl) rfl rfl rfl ?_
        refine ent_nil ?_
        refine ent_retc ?_
        cases H
        refine ent_pick [6] (by decide) rfl ?_
        exact ret_tmp rfl rfl ⟨rfl, rfl⟩
      · rw [if_neg c28] at H
        refine ent_off rfl rfl rfl (eq_f c28) rfl rfl ?_
        refine ent_value (ov_pick rfl rfl rfl (pick_f (eq_f c28))) rfl rfl rfl ?_
        refine ent_value (ov_assign rfl) rfl rfl rfl ?_
        refine ent_nil ?_
        refine ent_retc ?_
        cases H
        refine ent_pick [6] (by decide) rfl ?_
        exact ret_tmp rfl rfl ⟨rfl, rfl⟩
    · rw [if_neg c27] at H
      refine ent_cond_false rfl (ne_f c27) ?_
      refine ent_skip ?_
      refine ent_seq ?_
      refine ent_seq ?_
      refine ent_region ?_
      refine ent_value (ov_move rfl) rfl rfl rfl ?_
      refine ent_value (ov_load_agg (vs := [sv35, sv36]) rfl F_agg_59 F_size_59 (reads_boxW (i := 0) rfl)) rfl rfl rfl ?_
      obtain ⟨x43, h42, H⟩ := Option.bind_eq_some_iff.1 H
      refine ent_pick [3, 4, 5, 1, 2, 0, 6, 7, 8] (by decide) rfl ?_
      refine ent_op (ot_call (Lr := [(box b18 59 [sv35, sv36]), A0, A2, (box b15 65 [(Value.int .i64 a1_0_0), (Value.int .i64 a1_0_1), (Value.int .i64 a1_1), (Value.int .i64 a1_2), (Value.int .i64 a1_3), (Value.bool a1_4)])]) (first := []) (cap := []) (xs := [.tmp 41, .tmp 42]) rfl rfl F_call_25 rfl (catalog_Catalog_Apply_OOO.spec K b16 b17 sv33 sv35 sv36 x38.1 x39.2.1 x39.2.2 _ h42) rfl) rfl rfl rfl ?_
      rintro _ _ ⟨_, ⟨b20, sv38, rfl, rfl⟩, rfl⟩
      refine ent_value (ov_bin rfl rfl (b_neq _ _ _)) rfl rfl rfl ?_
      refine ent_nil ?_
      by_cases c30 : ¬ (x43.1 = 0)
      · rw [if_pos c30] at H
        refine ent_cond_true rfl (ne_t c30) ?_
        refine ent_seq ?_
        refine ent_region ?_
        refine ent_value (ov_assign rfl) rfl rfl rfl ?_
        refine ent_nil ?_
        refine ent_retc ?_
        cases H
        refine ent_pick [6] (by decide) rfl ?_
        exact ret_tmp rfl rfl ⟨rfl, rfl⟩
      · rw [if_neg c30] at H
        refine ent_cond_false rfl (ne_f c30) ?_
        refine ent_skip ?_
        refine ent_seq ?_
        refine ent_region ?_
        refine ent_value (ov_fieldAddr (sz := 1) (o := 0) rfl F_field_65_0 F_size_63) rfl rfl rfl ?_
        refine ent_value (ov_load_agg (vs := [(Value.int .i64 a1_0_0), (Value.int .i64 a1_0_1)]) rfl F_agg_63 F_size_63 (reads_boxN (i := 8) rfl rfl)) rfl rfl rfl ?_
        obtain ⟨x44, h43, H⟩ := thn_elim H
        refine ent_op (ot_call0 (first := []) (cap := []) (xs := [.tmp 47]) rfl rfl F_call_35 rfl (part_Span.spec a1_0_0 a1_0_1 _ h43)) rfl rfl rfl ?_
        rintro _ _ ⟨rfl, rfl⟩
        refine ent_value (ov_move rfl) rfl rfl rfl ?_
        refine ent_value (ov_extract rfl rfl) rfl rfl rfl ?_
        refine ent_value (ov_extract rfl rfl) rfl rfl rfl ?_
        refine ent_value (ov_assign rfl) rfl rfl rfl ?_
        refine ent_value (ov_assign rfl) rfl rfl rfl ?_
        refine ent_nil ?_
        refine ent_seq ?_
        refine ent_seq ?_
        obtain ⟨x48, h47, H⟩ := Option.bind_eq_some_iff.1 H
        obtain ⟨x49, h48, H⟩ := Option.bind_eq_some_iff.1 H
        by_cases c33 : (!x49) = true
        · rw [if_pos c33] at H
          let Z12_I : (Nat → Value) → (Nat → Bool) → Act → World → Prop := fun (ga9 : Nat → Value) done a w => StD 119 w0 F [(0, sv0), (1, (Value.agg #[(Value.int .i64 a1_0_0), (Value.int .i64 a1_0_1), (Value.int .i64 a1_1), (Value.int .i64 a1_2), (Value.int .i64 a1_3), (Value.bool a1_4)])), (3, (pt b15 0)), (4, (Value.bool false)), (5, (pt b16 0)), (6, sv34), (7, (pt b18 0)), (8, (Value.int .i64 x39.1)), (9, (Value.int .i64 x44.1)), (10, (Value.int .i64 x44.2)), (13, sv0), (14, (Value.int .i64 (l0.length : Int))), (15, (Value.bool (decide (40 < (l0.length : Int))))), (17, (Value.tuple #[(pt b16 0), sv34])), (18, sv0), (19, (Value.tuple #[(pt b16 0), sv34])), (20, (pt b16 0)), (21, sv34), (22, (Value.tuple #[(Value.agg #[sv35, sv36]), (Value.int .i64 x39.1)])), (23, (pt b16 0)), (24, (Value.agg #[(Value.int .i64 a1_0_0), (Value.int .i64 a1_0_1), (Value.int .i64 a1_1), (Value.int .i64 a1_2), (Value.int .i64 a1_3), (Value.bool a1_4)])), (25, (Value.tuple #[(Value.agg #[sv35, sv36]), (Value.int .i64 x39.1)])), (26, (Value.agg #[sv35, sv36])), (27, (Value.int .i64 x39.1)), (28, (Value.int .i64 x39.1)), (29, (Value.bool (x39.1 != 0))), (41, (pt b16 0)), (42, (Value.agg #[sv35, sv36])), (43, (Value.int .i64 x43.1)), (44, (Value.bool (x43.1 != 0))), (45, (Value.tuple #[(Value.int .i64 x44.1), (Value.int .i64 x44.2)])), (46, (pt b15 0)), (47, (Value.agg #[(Value.int .i64 a1_0_0), (Value.int .i64 a1_0_1)])), (48, (Value.tuple #[(Value.int .i64 x44.1), (Value.int .i64 x44.2)])), (49, (Value.int .i64 x44.1)), (50, (Value.int .i64 x44.2))] [(0, 51, (pt b16 0)), (1, 52, (Value.int .i64 x44.1)), (2, 53, (Value.int .i64 x44.2)), (3, 54, (ga9 3)), (4, 55, (Value.agg #[(Value.int .i64 a1_0_0), (Value.int .i64 a1_0_1), (Value.int .i64 a1_1), (Value.int .i64 a1_2), (Value.int .i64 a1_3), (Value.bool a1_4)])), (5, 56, (ga9 5)), (6, 57, (Value.bool x49)), (7, 58, (Value.bool (!x49))), (8, 59, (Value.bool (!x49))), (9, 60, undef), (10, 61, undef), (11, 62, undef), (12, 63, undef), (13, 64, undef), (14, 65, undef), (15, 66, undef), (16, 67, undef), (17, 68, undef), (18, 69, undef), (19, 70, (Value.bool true))] done [(sel (done 3) (own (ga9 3) 65 6 x48.length (fl enc_Api_Entry x48)) emp), (sel (done 5) (own (ga9 5) 65 6 [(⟨(⟨a1_0_0, a1_0_1⟩ : Api_Part), a1_1, a1_2, a1_3, a1_4⟩ : Api_Entry)].length (fl enc_Api_Entry [(⟨(⟨a1_0_0, a1_0_1⟩ : Api_Part), a1_1, a1_2, a1_3, a1_4⟩ : Api_Entry)])) emp), (box b16 139 [(pt b20 0)]), (box b20 192 [sv38]), (own sv38 196 7 x43.2.length (fl enc_Omap_pair__int64__api_Entry x43.2)), (own sv35 63 2 x39.2.1.length (fl enc_Api_Part x39.2.1)), (own sv36 65 6 x39.2.2.length (fl enc_Api_Entry x39.2.2)), (box b18 59 [sv35, sv36]), A0, A2, (box b15 65 [(Value.int .i64 a1_0_0), (Value.int .i64 a1_0_1), (Value.int .i64 a1_1), (Value.int .i64 a1_2), (Value.int .i64 a1_3), (Value.bool a1_4)])] a w
          refine ent_drawm 20 rfl (fun done a w => ∃ ga9 : Nat → Value, Z12_I ga9 done a w) (by kernel_rfl) (by kernel_rfl) (draw_startG (T := (fun ga9 : Nat → Value => [(0, 51, (pt b16 0)), (1, 52, (Value.int .i64 x44.1)), (2, 53, (Value.int .i64 x44.2)), (3, 54, (ga9 3)), (4, 55, (Value.agg #[(Value.int .i64 a1_0_0), (Value.int .i64 a1_0_1), (Value.int .i64 a1_1), (Value.int .i64 a1_2), (Value.int .i64 a1_3), (Value.bool a1_4)])), (5, 56, (ga9 5)), (6, 57, (Value.bool x49)), (7, 58, (Value.bool (!x49))), (8, 59, (Value.bool (!x49))), (9, 60, undef), (10, 61, undef), (11, 62, undef), (12, 63, undef), (13, 64, undef), (14, 65, undef), (15, 66, undef), (16, 67, undef), (17, 68, undef), (18, 69, undef), (19, 70, (Value.bool true))])) (L' := fun ga9 : Nat → Value => [(sel false (own (ga9 3) 65 6 x48.length (fl enc_Api_Entry x48)) emp), (sel false (own (ga9 5) 65 6 [(⟨(⟨a1_0_0, a1_0_1⟩ : Api_Part), a1_1, a1_2, a1_3, a1_4⟩ : Api_Entry)].length (fl enc_Api_Entry [(⟨(⟨a1_0_0, a1_0_1⟩ : Api_Part), a1_1, a1_2, a1_3, a1_4⟩ : Api_Entry)])) emp), (box b16 139 [(pt b20 0)]), (box b20 192 [sv38]), (own sv38 196 7 x43.2.length (fl enc_Omap_pair__int64__api_Entry x43.2)), (own sv35 63 2 x39.2.1.length (fl enc_Api_Part x39.2.1)), (own sv36 65 6 x39.2.2.length (fl enc_Api_Entry x39.2.2)), (box b18 59 [sv35, sv36]), A0, A2, (box b15 65 [(Value.int .i64 a1_0_0), (Value.int .i64 a1_0_1), (Value.int .i64 a1_1), (Value.int .i64 a1_2), (Value.int .i64 a1_3), (Value.bool a1_4)])]) 2 (sub_cons (t := 0) rfl (sub_cons (t := 1) rfl (sub_cons (t := 3) rfl (sub_cons (t := 4) rfl (sub_cons (t := 5) rfl (sub_cons (t := 6) rfl (sub_cons (t := 7) rfl (sub_cons (t := 8) rfl (sub_cons (t := 9) rfl (sub_cons (t := 10) rfl (sub_cons (t := 13) rfl (sub_cons (t := 14) rfl (sub_cons (t := 15) rfl (sub_cons (t := 17) rfl (sub_cons (t := 18) rfl (sub_cons (t := 19) rfl (sub_cons (t := 20) rfl (sub_cons (t := 21) rfl (sub_cons (t := 22) rfl (sub_cons (t := 23) rfl (sub_cons (t := 24) rfl (sub_cons (t := 25) rfl (sub_cons (t := 26) rfl (sub_cons (t := 27) rfl (sub_cons (t := 28) rfl (sub_cons (t := 29) rfl (sub_cons (t := 41) rfl (sub_cons (t := 42) rfl (sub_cons (t := 43) rfl (sub_cons (t := 44) rfl (sub_cons (t := 45) rfl (sub_cons (t := 46) rfl (sub_cons (t := 47) rfl (sub_cons (t := 48) rfl (sub_cons (t := 49) rfl (sub_cons (t := 50) rfl (sub_nil _))))))))))))))))))))))))))))))))))))) (fun _ => rfl)) ?_ ?_
          · refine ⟨?_, ?_, ?_, ?_, ?_, ?_, ?_, ?_, ?_, ?_, ?_, ?_, ?_, ?_, ?_, ?_, ?_, ?_, ?_, ?_, trivial⟩
            · intro done hi hc hcu
              refine draw_exi (I := Z12_I) fun ga9 => ?_
              exact draw_value (i := 0) (t := 51) (v := (pt b16 0)) rfl rfl (wanted_none rfl) (fun a => hasA_base) (ov_move rfl) rfl rfl (onlyT_spec (k0 := 0) rfl rfl rfl)
            · intro done hi hc hcu
              refine draw_exi (I := Z12_I) fun ga9 => ?_
              exact draw_value (i := 1) (t := 52) (v := (Value.int .i64 x44.1)) rfl rfl (wanted_none rfl) (fun a => hasA_base) (ov_move rfl) rfl rfl (onlyT_spec (k0 := 1) rfl rfl rfl)
            · intro done hi hc hcu
              refine draw_exi (I := Z12_I) fun ga9 => ?_
              exact draw_value (i := 2) (t := 53) (v := (Value.int .i64 x44.2)) rfl rfl (wanted_none rfl) (fun a => hasA_base) (ov_move rfl) rfl rfl (onlyT_spec (k0 := 2) rfl rfl rfl)
            · intro done hi hc hcu
              refine ent_exi (S := fun ga9 => Z12_I ga9 done) fun ga9 => ?_
              have d0 : done 0 = true := done_of (j := 0) hcu rfl (by decide) rfl
              have d1 : done 1 = true := done_of (j := 1) hcu rfl (by decide) rfl
              have d2 : done 2 = true := done_of (j := 2) hcu rfl (by decide) rfl
              refine draw_turnP (i := 3) (t := 54) (x := ga9) (L := (fun (ga9 : Nat → Value) (done : Nat → Bool) => [(sel (done 3) (own (ga9 3) 65 6 x48.length (fl enc_Api_Entry x48)) emp), (sel (done 5) (own (ga9 5) 65 6 [(⟨(⟨a1_0_0, a1_0_1⟩ : Api_Part), a1_1, a1_2, a1_3, a1_4⟩ : Api_Entry)].length (fl enc_Api_Entry [(⟨(⟨a1_0_0, a1_0_1⟩ : Api_Part), a1_1, a1_2, a1_3, a1_4⟩ : Api_Entry)])) emp), (box b16 139 [(pt b20 0)]), (box b20 192 [sv38]), (own sv38 196 7 x43.2.length (fl enc_Omap_pair__int64__api_Entry x43.2)), (own sv35 63 2 x39.2.1.length (fl enc_Api_Part x39.2.1)), (own sv36 65 6 x39.2.2.length (fl enc_Api_Entry x39.2.2)), (box b18 59 [sv35, sv36]), A0, A2, (box b15 65 [(Value.int .i64 a1_0_0), (Value.int .i64 a1_0_1), (Value.int .i64 a1_1), (Value.int .i64 a1_2), (Value.int .i64 a1_3), (Value.bool a1_4)])])) (T := (fun ga9 : Nat → Value => [(0, 51, (pt b16 0)), (1, 52, (Value.int .i64 x44.1)), (2, 53, (Value.int .i64 x44.2)), (3, 54, (ga9 3)), (4, 55, (Value.agg #[(Value.int .i64 a1_0_0), (Value.int .i64 a1_0_1), (Value.int .i64 a1_1), (Value.int .i64 a1_2), (Value.int .i64 a1_3), (Value.bool a1_4)])), (5, 56, (ga9 5)), (6, 57, (Value.bool x49)), (7, 58, (Value.bool (!x49))), (8, 59, (Value.bool (!x49))), (9, 60, undef), (10, 61, undef), (11, 62, undef), (12, 63, undef), (13, 64, undef), (14, 65, undef), (15, 66, undef), (16, 67, undef), (17, 68, undef), (18, 69, undef), (19, 70, (Value.bool true))])) (L2 := [emp, (sel (done 5) (own (ga9 5) 65 6 [(⟨(⟨a1_0_0, a1_0_1⟩ : Api_Part), a1_1, a1_2, a1_3, a1_4⟩ : Api_Entry)].length (fl enc_Api_Entry [(⟨(⟨a1_0_0, a1_0_1⟩ : Api_Part), a1_1, a1_2, a1_3, a1_4⟩ : Api_Entry)])) emp), (box b16 139 [(pt b20 0)]), (box b20 192 [sv38]), (own sv38 196 7 x43.2.length (fl enc_Omap_pair__int64__api_Entry x43.2)), (own sv35 63 2 x39.2.1.length (fl enc_Api_Part x39.2.1)), (own sv36 65 6 x39.2.2.length (fl enc_Api_Entry x39.2.2)), (box b18 59 [sv35, sv36]), A0, A2, (box b15 65 [(Value.int .i64 a1_0_0), (Value.int .i64 a1_0_1), (Value.int .i64 a1_1), (Value.int .i64 a1_2), (Value.int .i64 a1_3), (Value.bool a1_4)])]) [2, 3, 4, 0, 1, 5, 6, 7, 8, 9, 10] [3, 5, 0, 1, 2, 6, 7, 8, 9, 10, 11] rfl rfl (wanted_none rfl) (fun a => (hasA_cons (k := 2) rfl d2 (hasA_cons (k := 1) rfl d1 (hasA_cons (k := 0) rfl d0 hasA_base)))) (by simp only [hi, sel]) (by decide) rfl (ot_call (Lr := [emp, (sel (done 5) (own (ga9 5) 65 6 [(⟨(⟨a1_0_0, a1_0_1⟩ : Api_Part), a1_1, a1_2, a1_3, a1_4⟩ : Api_Entry)].length (fl enc_Api_Entry [(⟨(⟨a1_0_0, a1_0_1⟩ : Api_Part), a1_1, a1_2, a1_3, a1_4⟩ : Api_Entry)])) emp), (own sv35 63 2 x39.2.1.length (fl enc_Api_Part x39.2.1)), (own sv36 65 6 x39.2.2.length (fl enc_Api_Entry x39.2.2)), (box b18 59 [sv35, sv36]), A0, A2, (box b15 65 [(Value.int .i64 a1_0_0), (Value.int .i64 a1_0_1), (Value.int .i64 a1_1), (Value.int .i64 a1_2), (Value.int .i64 a1_3), (Value.bool a1_4)])]) (first := []) (cap := []) (xs := [.tmp 51, .tmp 52, .tmp 53]) rfl rfl F_call_36 rfl (catalog_Catalog_Over_O.spec K b16 b20 sv38 x43.2 x44.1 x44.2 _ h47) rfl) (by decide) rfl rfl ?_
              rintro g0_ _ ⟨_, ⟨_, rfl, rfl⟩, rfl⟩
              exact ⟨(upb ga9 3 g0_), show some [(own g0_ 65 6 x48.length (fl enc_Api_Entry x48)), (sel (done 5) (own (ga9 5) 65 6 [(⟨(⟨a1_0_0, a1_0_1⟩ : Api_Part), a1_1, a1_2, a1_3, a1_4⟩ : Api_Entry)].length (fl enc_Api_Entry [(⟨(⟨a1_0_0, a1_0_1⟩ : Api_Part), a1_1, a1_2, a1_3, a1_4⟩ : Api_Entry)])) emp), (box b16 139 [(pt b20 0)]), (box b20 192 [sv38]), (own sv38 196 7 x43.2.length (fl enc_Omap_pair__int64__api_Entry x43.2)), (own sv35 63 2 x39.2.1.length (fl enc_Api_Part x39.2.1)), (own sv36 65 6 x39.2.2.length (fl enc_Api_Entry x39.2.2)), (box b18 59 [sv35, sv36]), A0, A2, (box b15 65 [(Value.int .i64 a1_0_0), (Value.int .i64 a1_0_1), (Value.int .i64 a1_1), (Value.int .i64 a1_2), (Value.int .i64 a1_3), (Value.bool a1_4)])] = _ by simp [up, upb, sel, hi], (tr_same rfl rfl (tr_same rfl rfl (tr_same rfl rfl (tr_this (tr_same rfl rfl (tr_same rfl rfl (tr_same rfl rfl (tr_same rfl rfl (tr_same rfl rfl (tr_same rfl rfl (tr_same rfl rfl (tr_same rfl rfl (tr_same rfl rfl (tr_same rfl rfl (tr_same rfl rfl (tr_same rfl rfl (tr_same rfl rfl (tr_same rfl rfl (tr_same rfl rfl (tr_same rfl rfl tr_nil))))))))))))))))))))⟩
            · intro done hi hc hcu
              refine draw_exi (I := Z12_I) fun ga9 => ?_
              exact draw_value (i := 4) (t := 55) (v := (Value.agg #[(Value.int .i64 a1_0_0), (Value.int .i64 a1_0_1), (Value.int .i64 a1_1), (Value.int .i64 a1_2), (Value.int .i64 a1_3), (Value.bool a1_4)])) rfl rfl (wanted_none rfl) (fun a => hasA_base) (ov_load_agg (vs := [(Value.int .i64 a1_0_0), (Value.int .i64 a1_0_1), (Value.int .i64 a1_1), (Value.int .i64 a1_2), (Value.int .i64 a1_3), (Value.bool a1_4)]) rfl F_agg_65 F_size_65 (reads_boxW (i := 10) rfl)) rfl rfl (onlyT_spec (k0 := 4) rfl rfl rfl)
            · intro done hi hc hcu
              refine ent_exi (S := fun ga9 => Z12_I ga9 done) fun ga9 => ?_
              have d4 : done 4 = true := done_of (j := 4) hcu rfl (by decide) rfl
              refine draw_newV (i := 5) (t := 56) (x := ga9) (L := (fun (ga9 : Nat → Value) (done : Nat → Bool) => [(sel (done 3) (own (ga9 3) 65 6 x48.length (fl enc_Api_Entry x48)) emp), (sel (done 5) (own (ga9 5) 65 6 [(⟨(⟨a1_0_0, a1_0_1⟩ : Api_Part), a1_1, a1_2, a1_3, a1_4⟩ : Api_Entry)].length (fl enc_Api_Entry [(⟨(⟨a1_0_0, a1_0_1⟩ : Api_Part), a1_1, a1_2, a1_3, a1_4⟩ : Api_Entry)])) emp), (box b16 139 [(pt b20 0)]), (box b20 192 [sv38]), (own sv38 196 7 x43.2.length (fl enc_Omap_pair__int64__api_Entry x43.2)), (own sv35 63 2 x39.2.1.length (fl enc_Api_Part x39.2.1)), (own sv36 65 6 x39.2.2.length (fl enc_Api_Entry x39.2.2)), (box b18 59 [sv35, sv36]), A0, A2, (box b15 65 [(Value.int .i64 a1_0_0), (Value.int .i64 a1_0_1), (Value.int .i64 a1_1), (Value.int .i64 a1_2), (Value.int .i64 a1_3), (Value.bool a1_4)])])) (T := (fun ga9 : Nat → Value => [(0, 51, (pt b16 0)), (1, 52, (Value.int .i64 x44.1)), (2, 53, (Value.int .i64 x44.2)), (3, 54, (ga9 3)), (4, 55, (Value.agg #[(Value.int .i64 a1_0_0), (Value.int .i64 a1_0_1), (Value.int .i64 a1_1), (Value.int .i64 a1_2), (Value.int .i64 a1_3), (Value.bool a1_4)])), (5, 56, (ga9 5)), (6, 57, (Value.bool x49)), (7, 58, (Value.bool (!x49))), (8, 59, (Value.bool (!x49))), (9, 60, undef), (10, 61, undef), (11, 62, undef), (12, 63, undef), (13, 64, undef), (14, 65, undef), (15, 66, undef), (16, 67, undef), (17, 68, undef), (18, 69, undef), (19, 70, (Value.bool true))])) (L2 := [(sel (done 3) (own (ga9 3) 65 6 x48.length (fl enc_Api_Entry x48)) emp), emp, (box b16 139 [(pt b20 0)]), (box b20 192 [sv38]), (own sv38 196 7 x43.2.length (fl enc_Omap_pair__int64__api_Entry x43.2)), (own sv35 63 2 x39.2.1.length (fl enc_Api_Part x39.2.1)), (own sv36 65 6 x39.2.2.length (fl enc_Api_Entry x39.2.2)), (box b18 59 [sv35, sv36]), A0, A2, (box b15 65 [(Value.int .i64 a1_0_0), (Value.int .i64 a1_0_1), (Value.int .i64 a1_1), (Value.int .i64 a1_2), (Value.int .i64 a1_3), (Value.bool a1_4)])]) (B := fun v_ => (own v_ 65 6 [(⟨(⟨a1_0_0, a1_0_1⟩ : Api_Part), a1_1, a1_2, a1_3, a1_4⟩ : Api_Entry)].length (fl enc_Api_Entry [(⟨(⟨a1_0_0, a1_0_1⟩ : Api_Part), a1_1, a1_2, a1_3, a1_4⟩ : Api_Entry)]))) 1 rfl rfl (wanted_none rfl) (fun a => (hasA_cons (k := 4) rfl d4 hasA_base)) (by simp only [hi, sel]) (ot_buildSlice (sz := 5) (xs := [.tmp 55]) (cs := fl enc_Api_Entry [(⟨(⟨a1_0_0, a1_0_1⟩ : Api_Part), a1_1, a1_2, a1_3, a1_4⟩ : Api_Entry)]) rfl rfl F_slice_53 F_size_65 F_zero_65 rfl rfl (all_size rfl) rfl (by decide)) ?_ rfl (fun v_ => ?_) rfl rfl ?_
              · rintro _ _ rfl; rfl
              · simp [up, upb, sel, hi]
              · rintro _ _ rfl
                exact (tr_same rfl rfl (tr_same rfl rfl (tr_same rfl rfl (tr_same rfl rfl (tr_same rfl rfl (tr_this (tr_same rfl rfl (tr_same rfl rfl (tr_same rfl rfl (tr_same rfl rfl (tr_same rfl rfl (tr_same rfl rfl (tr_same rfl rfl (tr_same rfl rfl (tr_same rfl rfl (tr_same rfl rfl (tr_same rfl rfl (tr_same rfl rfl (tr_same rfl rfl (tr_same rfl rfl tr_nil))))))))))))))))))))
            · intro done hi hc hcu
              refine draw_exi (I := Z12_I) fun ga9 => ?_
              have d3 : done 3 = true := done_of (j := 3) hcu rfl (by decide) rfl
              have d5 : done 5 = true := done_of (j := 5) hcu rfl (by decide) rfl
              exact draw_same (i := 6) (t := 57) (v := (Value.bool x49)) rfl rfl (wanted_none rfl) (fun a => (hasA_cons (k := 5) rfl d5 (hasA_cons (k := 3) rfl d3 hasA_base))) (ot_L (L2 := [(own (ga9 3) 65 6 x48.length (fl enc_Api_Entry x48)), (own (ga9 5) 65 6 [(⟨(⟨a1_0_0, a1_0_1⟩ : Api_Part), a1_1, a1_2, a1_3, a1_4⟩ : Api_Entry)].length (fl enc_Api_Entry [(⟨(⟨a1_0_0, a1_0_1⟩ : Api_Part), a1_1, a1_2, a1_3, a1_4⟩ : Api_Entry)])), (box b16 139 [(pt b20 0)]), (box b20 192 [sv38]), (own sv38 196 7 x43.2.length (fl enc_Omap_pair__int64__api_Entry x43.2)), (own sv35 63 2 x39.2.1.length (fl enc_Api_Part x39.2.1)), (own sv36 65 6 x39.2.2.length (fl enc_Api_Entry x39.2.2)), (box b18 59 [sv35, sv36]), A0, A2, (box b15 65 [(Value.int .i64 a1_0_0), (Value.int .i64 a1_0_1), (Value.int .i64 a1_1), (Value.int .i64 a1_2), (Value.int .i64 a1_3), (Value.bool a1_4)])]) (by simp only [d3, d5, sel]) (ot_call_same (Lr := [(box b16 139 [(pt b20 0)]), (box b20 192 [sv38]), (own sv38 196 7 x43.2.length (fl enc_Omap_pair__int64__api_Entry x43.2)), (own sv35 63 2 x39.2.1.length (fl enc_Api_Part x39.2.1)), (own sv36 65 6 x39.2.2.length (fl enc_Api_Entry x39.2.2)), (box b18 59 [sv35, sv36]), A0, A2, (box b15 65 [(Value.int .i64 a1_0_0), (Value.int .i64 a1_0_1), (Value.int .i64 a1_1), (Value.int .i64 a1_2), (Value.int .i64 a1_3), (Value.bool a1_4)])]) [0, 1, 2, 3, 4, 5, 6, 7, 8, 9, 10] [0, 1, 2, 3, 4, 5, 6, 7, 8, 9, 10] (first := []) (cap := []) (xs := [.tmp 54, .tmp 56]) rfl rfl F_call_26 rfl (ossuaryref20_Same_RR.spec K (ga9 3) (own (ga9 3) 65 6 x48.length (fl enc_Api_Entry x48)) (ga9 5) (own (ga9 5) 65 6 [(⟨(⟨a1_0_0, a1_0_1⟩ : Api_Part), a1_1, a1_2, a1_3, a1_4⟩ : Api_Entry)].length (fl enc_Api_Entry [(⟨(⟨a1_0_0, a1_0_1⟩ : Api_Part), a1_1, a1_2, a1_3, a1_4⟩ : Api_Entry)])) x48 [(⟨(⟨a1_0_0, a1_0_1⟩ : Api_Part), a1_1, a1_2, a1_3, a1_4⟩ : Api_Entry)] (isRd_ownx 65) (isRd_ownx 65) _ h48) (by decide) rfl (by decide) rfl)) rfl rfl (onlyT_spec (k0 := 6) rfl rfl rfl)
            · intro done hi hc hcu
              refine draw_exi (I := Z12_I) fun ga9 => ?_
              have d6 : done 6 = true := done_of (j := 6) hcu rfl (by decide) rfl
              exact draw_value (i := 7) (t := 58) (v := (Value.bool (!x49))) rfl rfl (wanted_none rfl) (fun a => (hasA_cons (k := 6) rfl d6 hasA_base)) (ov_un rfl (u_not _)) rfl rfl (onlyT_spec (k0 := 7) rfl rfl rfl)
            · intro done hi hc hcu
              refine draw_exi (I := Z12_I) fun ga9 => ?_
              have d7 : done 7 = true := done_of (j := 7) hcu rfl (by decide) rfl
              exact draw_value (i := 8) (t := 59) (v := (Value.bool (!x49))) rfl rfl (wanted_none rfl) (fun a => (hasA_cons (k := 7) rfl d7 hasA_base)) (ov_move rfl) rfl rfl (onlyT_spec (k0 := 8) rfl rfl rfl)
            · intro done hi hc hcu
              refine draw_exi (I := Z12_I) fun ga9 => ?_
              have d8 : done 8 = true := done_of (j := 8) hcu rfl (by decide) rfl
              exact draw_off (i := 9) (t := 60) rfl rfl (wanted_off rfl rfl rfl c33) (fun a => (hasA_cons (k := 8) rfl d8 hasA_base)) rfl rfl (onlyT_spec (k0 := 9) rfl rfl rfl)
            · intro done hi hc hcu
              refine draw_exi (I := Z12_I) fun ga9 => ?_
              have d8 : done 8 = true := done_of (j := 8) hcu rfl (by decide) rfl
              exact draw_off (i := 10) (t := 61) rfl rfl (wanted_off rfl rfl rfl c33) (fun a => (hasA_cons (k := 8) rfl d8 hasA_base)) rfl rfl (onlyT_spec (k0 := 10) rfl rfl rfl)
            · intro done hi hc hcu
              refine draw_exi (I := Z12_I) fun ga9 => ?_
              have d8 : done 8 = true := done_of (j := 8) hcu rfl (by decide) rfl
              exact draw_off (i := 11) (t := 62) rfl rfl (wanted_off rfl rfl rfl c33) (fun a => (hasA_cons (k := 8) rfl d8 hasA_base)) rfl rfl (onlyT_spec (k0 := 11) rfl rfl rfl)
            · intro done hi hc hcu
              refine draw_exi (I := Z12_I) fun ga9 => ?_
              have d8 : done 8 = true := done_of (j := 8) hcu rfl (by decide) rfl
              exact draw_off (i := 12) (t := 63) rfl rfl (wanted_off rfl rfl rfl c33) (fun a => (hasA_cons (k := 8) rfl d8 hasA_base)) rfl rfl (onlyT_spec (k0 := 12) rfl rfl rfl)
            · intro done hi hc hcu
              refine draw_exi (I := Z12_I) fun ga9 => ?_
              have d8 : done 8 = true := done_of (j := 8) hcu rfl (by decide) rfl
              exact draw_off (i := 13) (t := 64) rfl rfl (wanted_off rfl rfl rfl c33) (fun a => (hasA_cons (k := 8) rfl d8 hasA_base)) rfl rfl (onlyT_spec (k0 := 13) rfl rfl rfl)
            · intro done hi hc hcu
              refine draw_exi (I := Z12_I) fun ga9 => ?_
              have d8 : done 8 = true := done_of (j := 8) hcu rfl (by decide) rfl
              exact draw_off (i := 14) (t := 65) rfl rfl (wanted_off rfl rfl rfl c33) (fun a => (hasA_cons (k := 8) rfl d8 hasA_base)) rfl rfl (onlyT_spec (k0 := 14) rfl rfl rfl)
            · intro done hi hc hcu
              refine draw_exi (I := Z12_I) fun ga9 => ?_
              have d8 : done 8 = true := done_of (j := 8) hcu rfl (by decide) rfl
              exact draw_off (i := 15) (t := 66) rfl rfl (wanted_off rfl rfl rfl c33) (fun a => (hasA_cons (k := 8) rfl d8 hasA_base)) rfl rfl (onlyT_spec (k0 := 15) rfl rfl rfl)
            · intro done hi hc hcu
              refine draw_exi (I := Z12_I) fun ga9 => ?_
              have d8 : done 8 = true := done_of (j := 8) hcu rfl (by decide) rfl
              exact draw_off (i := 16) (t := 67) rfl rfl (wanted_off rfl rfl rfl c33) (fun a => (hasA_cons (k := 8) rfl d8 hasA_base)) rfl rfl (onlyT_spec (k0 := 16) rfl rfl rfl)
            · intro done hi hc hcu
              refine draw_exi (I := Z12_I) fun ga9 => ?_
              have d8 : done 8 = true := done_of (j := 8) hcu rfl (by decide) rfl
              exact draw_off (i := 17) (t := 68) rfl rfl (wanted_off rfl rfl rfl c33) (fun a => (hasA_cons (k := 8) rfl d8 hasA_base)) rfl rfl (onlyT_spec (k0 := 17) rfl rfl rfl)
            · intro done hi hc hcu
              refine draw_exi (I := Z12_I) fun ga9 => ?_
              have d8 : done 8 = true := done_of (j := 8) hcu rfl (by decide) rfl
              exact draw_off (i := 18) (t := 69) rfl rfl (wanted_off rfl rfl rfl c33) (fun a => (hasA_cons (k := 8) rfl d8 hasA_base)) rfl rfl (onlyT_spec (k0 := 18) rfl rfl rfl)
            · intro done hi hc hcu
              refine draw_exi (I := Z12_I) fun ga9 => ?_
              have d8 : done 8 = true := done_of (j := 8) hcu rfl (by decide) rfl
              have d18 : done 18 = true := done_of (j := 18) hcu rfl (by decide) rfl
              exact draw_value (i := 19) (t := 70) (v := (Value.bool true)) rfl rfl (wanted_none rfl) (fun a => (hasA_cons (k := 18) rfl d18 (hasA_cons (k := 8) rfl d8 hasA_base))) (ov_pick rfl rfl rfl (pick_t c33)) rfl rfl (onlyT_spec (k0 := 19) rfl rfl rfl)
          · intro done hall
            refine ent_exi (S := fun ga9 => Z12_I ga9 done) fun ga9 => ?_
            refine draw_endL [(own (ga9 3) 65 6 x48.length (fl enc_Api_Entry x48)), (own (ga9 5) 65 6 [(⟨(⟨a1_0_0, a1_0_1⟩ : Api_Part), a1_1, a1_2, a1_3, a1_4⟩ : Api_Entry)].length (fl enc_Api_Entry [(⟨(⟨a1_0_0, a1_0_1⟩ : Api_Part), a1_1, a1_2, a1_3, a1_4⟩ : Api_Entry)])), (box b16 139 [(pt b20 0)]), (box b20 192 [sv38]), (own sv38 196 7 x43.2.length (fl enc_Omap_pair__int64__api_Entry x43.2)), (own sv35 63 2 x39.2.1.length (fl enc_Api_Part x39.2.1)), (own sv36 65 6 x39.2.2.length (fl enc_Api_Entry x39.2.2)), (box b18 59 [sv35, sv36]), A0, A2, (box b15 65 [(Value.int .i64 a1_0_0), (Value.int .i64 a1_0_1), (Value.int .i64 a1_1), (Value.int .i64 a1_2), (Value.int .i64 a1_3), (Value.bool a1_4)])] (by simp only [hall 3 (by decide), hall 5 (by decide), sel]) (fun a => (hasA_cons (k := 0) rfl (hall 0 (by decide)) (hasA_cons (k := 1) rfl (hall 1 (by decide)) (hasA_cons (k := 2) rfl (hall 2 (by decide)) (hasA_cons (k := 3) rfl (hall 3 (by decide)) (hasA_cons (k := 4) rfl (hall 4 (by decide)) (hasA_cons (k := 5) rfl (hall 5 (by decide)) (hasA_cons (k := 6) rfl (hall 6 (by decide)) (hasA_cons (k := 7) rfl (hall 7 (by decide)) (hasA_cons (k := 8) rfl (hall 8 (by decide)) (hasA_cons (k := 9) rfl (hall 9 (by decide)) (hasA_cons (k := 10) rfl (hall 10 (by decide)) (hasA_cons (k := 11) rfl (hall 11 (by decide)) (hasA_cons (k := 12) rfl (hall 12 (by decide)) (hasA_cons (k := 13) rfl (hall 13 (by decide)) (hasA_cons (k := 14) rfl (hall 14 (by decide)) (hasA_cons (k := 15) rfl (hall 15 (by decide)) (hasA_cons (k := 16) rfl (hall 16 (by decide)) (hasA_cons (k := 17) rfl (hall 17 (by decide)) (hasA_cons (k := 18) rfl (hall 18 (by decide)) (hasA_cons (k := 19) rfl (hall 19 (by decide)) hasA_base))))))))))))))))))))) ?_
            refine ent_cond_true rfl rfl ?_
            refine ent_seq ?_
            refine ent_region ?_
            refine ent_value (ov_assign rfl) rfl rfl rfl ?_
            refine ent_nil ?_
            refine ent_retc ?_
            cases H
            refine ent_pick [8] (by decide) rfl ?_
            exact ret_tmp rfl rfl ⟨rfl, rfl⟩
        · rw [if_neg c33] at H
          obtain ⟨x50, h49, H⟩ := thn_elim H
          let Z17_I : (Nat → Value) → (Nat → Bool) → Act → World → Prop := fun (ga9 : Nat → Value) done a w => StD 119 w0 F [(0, sv0), (1, (Value.agg #[(Value.int .i64 a1_0_0), (Value.int .i64 a1_0_1), (Value.int .i64 a1_1), (Value.int .i64 a1_2), (Value.int .i64 a1_3), (Value.bool a1_4)])), (3, (pt b15 0)), (4, (Value.bool false)), (5, (pt b16 0)), (6, sv34), (7, (pt b18 0)), (8, (Value.int .i64 x39.1)), (9, (Value.int .i64 x44.1)), (10, (Value.int .i64 x44.2)), (13, sv0), (14, (Value.int .i64 (l0.length : Int))), (15, (Value.bool (decide (40 < (l0.length : Int))))), (17, (Value.tuple #[(pt b16 0), sv34])), (18, sv0), (19, (Value.tuple #[(pt b16 0), sv34])), (20, (pt b16 0)), (21, sv34), (22, (Value.tuple #[(Value.agg #[sv35, sv36]), (Value.int .i64 x39.1)])), (23, (pt b16 0)), (24, (Value.agg #[(Value.int .i64 a1_0_0), (Value.int .i64 a1_0_1), (Value.int .i64 a1_1), (Value.int .i64 a1_2), (Value.int .i64 a1_3), (Value.bool a1_4)])), (25, (Value.tuple #[(Value.agg #[sv35, sv36]), (Value.int .i64 x39.1)])), (26, (Value.agg #[sv35, sv36])), (27, (Value.int .i64 x39.1)), (28, (Value.int .i64 x39.1)), (29, (Value.bool (x39.1 != 0))), (41, (pt b16 0)), (42, (Value.agg #[sv35, sv36])), (43, (Value.int .i64 x43.1)), (44, (Value.bool (x43.1 != 0))), (45, (Value.tuple #[(Value.int .i64 x44.1), (Value.int .i64 x44.2)])), (46, (pt b15 0)), (47, (Value.agg #[(Value.int .i64 a1_0_0), (Value.int .i64 a1_0_1)])), (48, (Value.tuple #[(Value.int .i64 x44.1), (Value.int .i64 x44.2)])), (49, (Value.int .i64 x44.1)), (50, (Value.int .i64 x44.2))] [(0, 51, (pt b16 0)), (1, 52, (Value.int .i64 x44.1)), (2, 53, (Value.int .i64 x44.2)), (3, 54, (ga9 3)), (4, 55, (Value.agg #[(Value.int .i64 a1_0_0), (Value.int .i64 a1_0_1), (Value.int .i64 a1_1), (Value.int .i64 a1_2), (Value.int .i64 a1_3), (Value.bool a1_4)])), (5, 56, (ga9 5)), (6, 57, (Value.bool x49)), (7, 58, (Value.bool (!x49))), (8, 59, (Value.bool (!x49))), (9, 60, (pt b16 0)), (10, 61, (Value.int .i64 x50)), (11, 62, sv34), (12, 63, (Value.int .i64 (x38.2.length : Int))), (13, 64, (pt b18 0)), (14, 65, sv35), (15, 66, (Value.int .i64 (x39.2.1.length : Int))), (16, 67, (Value.int .i64 (w64 ((x38.2.length : Int) - (x39.2.1.length : Int))))), (17, 68, (Value.int .i64 (w64 ((w64 ((x38.2.length : Int) - (x39.2.1.length : Int))) + 1)))), (18, 69, (Value.bool (x50 != (w64 ((w64 ((x38.2.length : Int) - (x39.2.1.length : Int))) + 1))))), (19, 70, (Value.bool (x50 != (w64 ((w64 ((x38.2.length : Int) - (x39.2.1.length : Int))) + 1)))))] done [(sel (done 3) (own (ga9 3) 65 6 x48.length (fl enc_Api_Entry x48)) emp), (sel (done 5) (own (ga9 5) 65 6 [(⟨(⟨a1_0_0, a1_0_1⟩ : Api_Part), a1_1, a1_2, a1_3, a1_4⟩ : Api_Entry)].length (fl enc_Api_Entry [(⟨(⟨a1_0_0, a1_0_1⟩ : Api_Part), a1_1, a1_2, a1_3, a1_4⟩ : Api_Entry)])) emp), (box b16 139 [(pt b20 0)]), (box b20 192 [sv38]), (own sv38 196 7 x43.2.length (fl enc_Omap_pair__int64__api_Entry x43.2)), (own sv35 63 2 x39.2.1.length (fl enc_Api_Part x39.2.1)), (own sv36 65 6 x39.2.2.length (fl enc_Api_Entry x39.2.2)), (box b18 59 [sv35, sv36]), A0, A2, (box b15 65 [(Value.int .i64 a1_0_0), (Value.int .i64 a1_0_1), (Value.int .i64 a1_1), (Value.int .i64 a1_2), (Value.int .i64 a1_3), (Value.bool a1_4)])] a w
          refine ent_drawm 20 rfl (fun done a w => ∃ ga9 : Nat → Value, Z17_I ga9 done a w) (by kernel_rfl) (by kernel_rfl) (draw_startG (T := (fun ga9 : Nat → Value => [(0, 51, (pt b16 0)), (1, 52, (Value.int .i64 x44.1)), (2, 53, (Value.int .i64 x44.2)), (3, 54, (ga9 3)), (4, 55, (Value.agg #[(Value.int .i64 a1_0_0), (Value.int .i64 a1_0_1), (Value.int .i64 a1_1), (Value.int .i64 a1_2), (Value.int .i64 a1_3), (Value.bool a1_4)])), (5, 56, (ga9 5)), (6, 57, (Value.bool x49)), (7, 58, (Value.bool (!x49))), (8, 59, (Value.bool (!x49))), (9, 60, (pt b16 0)), (10, 61, (Value.int .i64 x50)), (11, 62, sv34), (12, 63, (Value.int .i64 (x38.2.length : Int))), (13, 64, (pt b18 0)), (14, 65, sv35), (15, 66, (Value.int .i64 (x39.2.1.length : Int))), (16, 67, (Value.int .i64 (w64 ((x38.2.length : Int) - (x39.2.1.length : Int))))), (17, 68, (Value.int .i64 (w64 ((w64 ((x38.2.length : Int) - (x39.2.1.length : Int))) + 1)))), (18, 69, (Value.bool (x50 != (w64 ((w64 ((x38.2.length : Int) - (x39.2.1.length : Int))) + 1))))), (19, 70, (Value.bool (x50 != (w64 ((w64 ((x38.2.length : Int) - (x39.2.1.length : Int))) + 1)))))])) (L' := fun ga9 : Nat → Value => [(sel false (own (ga9 3) 65 6 x48.length (fl enc_Api_Entry x48)) emp), (sel false (own (ga9 5) 65 6 [(⟨(⟨a1_0_0, a1_0_1⟩ : Api_Part), a1_1, a1_2, a1_3, a1_4⟩ : Api_Entry)].length (fl enc_Api_Entry [(⟨(⟨a1_0_0, a1_0_1⟩ : Api_Part), a1_1, a1_2, a1_3, a1_4⟩ : Api_Entry)])) emp), (box b16 139 [(pt b20 0)]), (box b20 192 [sv38]), (own sv38 196 7 x43.2.length (fl enc_Omap_pair__int64__api_Entry x43.2)), (own sv35 63 2 x39.2.1.length (fl enc_Api_Part x39.2.1)), (own sv36 65 6 x39.2.2.length (fl enc_Api_Entry x39.2.2)), (box b18 59 [sv35, sv36]), A0, A2, (box b15 65 [(Value.int .i64 a1_0_0), (Value.int .i64 a1_0_1), (Value.int .i64 a1_1), (Value.int .i64 a1_2), (Value.int .i64 a1_3), (Value.bool a1_4)])]) 2 (sub_cons (t := 0) rfl (sub_cons (t := 1) rfl (sub_cons (t := 3) rfl (sub_cons (t := 4) rfl (sub_cons (t := 5) rfl (sub_cons (t := 6) rfl (sub_cons (t := 7) rfl (sub_cons (t := 8) rfl (sub_cons (t := 9) rfl (sub_cons (t := 10) rfl (sub_cons (t := 13) rfl (sub_cons (t := 14) rfl (sub_cons (t := 15) rfl (sub_cons (t := 17) rfl (sub_cons (t := 18) rfl (sub_cons (t := 19) rfl (sub_cons (t := 20) rfl (sub_cons (t := 21) rfl (sub_cons (t := 22) rfl (sub_cons (t := 23) rfl (sub_cons (t := 24) rfl (sub_cons (t := 25) rfl (sub_cons (t := 26) rfl (sub_cons (t := 27) rfl (sub_cons (t := 28) rfl (sub_cons (t := 29) rfl (sub_cons (t := 41) rfl (sub_cons (t := 42) rfl (sub_cons (t := 43) rfl (sub_cons (t := 44) rfl (sub_cons (t := 45) rfl (sub_cons (t := 46) rfl (sub_cons (t := 47) rfl (sub_cons (t := 48) rfl (sub_cons (t := 49) rfl (sub_cons (t := 50) rfl (sub_nil _))))))))))))))))))))))))))))))))))))) (fun _ => rfl)) ?_ ?_
          · refine ⟨?_, ?_, ?_, ?_, ?_, ?_, ?_, ?_, ?_, ?_, ?_, ?_, ?_, ?_, ?_, ?_, ?_, ?_, ?_, ?_, trivial⟩
            · intro done hi hc hcu
              refine draw_exi (I := Z17_I) fun ga9 => ?_
              exact draw_value (i := 0) (t := 51) (v := (pt b16 0)) rfl rfl (wanted_none rfl) (fun a => hasA_base) (ov_move rfl) rfl rfl (onlyT_spec (k0 := 0) rfl rfl rfl)
            · intro done hi hc hcu
              refine draw_exi (I := Z17_I) fun ga9 => ?_
              exact draw_value (i := 1) (t := 52) (v := (Value.int .i64 x44.1)) rfl rfl (wanted_none rfl) (fun a => hasA_base) (ov_move rfl) rfl rfl (onlyT_spec (k0 := 1) rfl rfl rfl)
            · intro done hi hc hcu
              refine draw_exi (I := Z17_I) fun ga9 => ?_
              exact draw_value (i := 2) (t := 53) (v := (Value.int .i64 x44.2)) rfl rfl (wanted_none rfl) (fun a => hasA_base) (ov_move rfl) rfl rfl (onlyT_spec (k0 := 2) rfl rfl rfl)
            · intro done hi hc hcu
              refine ent_exi (S := fun ga9 => Z17_I ga9 done) fun ga9 => ?_
              have d0 : done 0 = true := done_of (j := 0) hcu rfl (by decide) rfl
              have d1 : done 1 = true := done_of (j := 1) hcu rfl (by decide) rfl
              have d2 : done 2 = true := done_of (j := 2) hcu rfl (by decide) rfl
              refine draw_turnP (i := 3) (t := 54) (x := ga9) (L := (fun (ga9 : Nat → Value) (done : Nat → Bool) => [(sel (done 3) (own (ga9 3) 65 6 x48.length (fl enc_Api_Entry x48)) emp), (sel (done 5) (own (ga9 5) 65 6 [(⟨(⟨a1_0_0, a1_0_1⟩ : Api_Part), a1_1, a1_2, a1_3, a1_4⟩ : Api_Entry)].length (fl enc_Api_Entry [(⟨(⟨a1_0_0, a1_0_1⟩ : Api_Part), a1_1, a1_2, a1_3, a1_4⟩ : Api_Entry)])) emp), (box b16 139 [(pt b20 0)]), (box b20 192 [sv38]), (own sv38 196 7 x43.2.length (fl enc_Omap_pair__int64__api_Entry x43.2)), (own sv35 63 2 x39.2.1.length (fl enc_Api_Part x39.2.1)), (own sv36 65 6 x39.2.2.length (fl enc_Api_Entry x39.2.2)), (box b18 59 [sv35, sv36]), A0, A2, (box b15 65 [(Value.int .i64 a1_0_0), (Value.int .i64 a1_0_1), (Value.int .i64 a1_1), (Value.int .i64 a1_2), (Value.int .i64 a1_3), (Value.bool a1_4)])])) (T := (fun ga9 : Nat → Value => [(0, 51, (pt b16 0)), (1, 52, (Value.int .i64 x44.1)), (2, 53, (Value.int .i64 x44.2)), (3, 54, (ga9 3)), (4, 55, (Value.agg #[(Value.int .i64 a1_0_0), (Value.int .i64 a1_0_1), (Value.int .i64 a1_1), (Value.int .i64 a1_2), (Value.int .i64 a1_3), (Value.bool a1_4)])), (5, 56, (ga9 5)), (6, 57, (Value.bool x49)), (7, 58, (Value.bool (!x49))), (8, 59, (Value.bool (!x49))), (9, 60, (pt b16 0)), (10, 61, (Value.int .i64 x50)), (11, 62, sv34), (12, 63, (Value.int .i64 (x38.2.length : Int))), (13, 64, (pt b18 0)), (14, 65, sv35), (15, 66, (Value.int .i64 (x39.2.1.length : Int))), (16, 67, (Value.int .i64 (w64 ((x38.2.length : Int) - (x39.2.1.length : Int))))), (17, 68, (Value.int .i64 (w64 ((w64 ((x38.2.length : Int) - (x39.2.1.length : Int))) + 1)))), (18, 69, (Value.bool (x50 != (w64 ((w64 ((x38.2.length : Int) - (x39.2.1.length : Int))) + 1))))), (19, 70, (Value.bool (x50 != (w64 ((w64 ((x38.2.length : Int) - (x39.2.1.length : Int))) + 1)))))])) (L2 := [emp, (sel (done 5) (own (ga9 5) 65 6 [(⟨(⟨a1_0_0, a1_0_1⟩ : Api_Part), a1_1, a1_2, a1_3, a1_4⟩ : Api_Entry)].length (fl enc_Api_Entry [(⟨(⟨a1_0_0, a1_0_1⟩ : Api_Part), a1_1, a1_2, a1_3, a1_4⟩ : Api_Entry)])) emp), (box b16 139 [(pt b20 0)]), (box b20 192 [sv38]), (own sv38 196 7 x43.2.length (fl enc_Omap_pair__int64__api_Entry x43.2)), (own sv35 63 2 x39.2.1.length (fl enc_Api_Part x39.2.1)), (own sv36 65 6 x39.2.2.length (fl enc_Api_Entry x39.2.2)), (box b18 59 [sv35, sv36]), A0, A2, (box b15 65 [(Value.int .i64 a1_0_0), (Value.int .i64 a1_0_1), (Value.int .i64 a1_1), (Value.int .i64 a1_2), (Value.int .i64 a1_3), (Value.bool a1_4)])]) [2, 3, 4, 0, 1, 5, 6, 7, 8, 9, 10] [3, 5, 0, 1, 2, 6, 7, 8, 9, 10, 11] rfl rfl (wanted_none rfl) (fun a => (hasA_cons (k := 2) rfl d2 (hasA_cons (k := 1) rfl d1 (hasA_cons (k := 0) rfl d0 hasA_base)))) (by simp only [hi, sel]) (by decide) rfl (ot_call (Lr := [emp, (sel (done 5) (own (ga9 5) 65 6 [(⟨(⟨a1_0_0, a1_0_1⟩ : Api_Part), a1_1, a1_2, a1_3, a1_4⟩ : Api_Entry)].length (fl enc_Api_Entry [(⟨(⟨a1_0_0, a1_0_1⟩ : Api_Part), a1_1, a1_2, a1_3, a1_4⟩ : Api_Entry)])) emp), (own sv35 63 2 x39.2.1.length (fl enc_Api_Part x39.2.1)), (own sv36 65 6 x39.2.2.length (fl enc_Api_Entry x39.2.2)), (box b18 59 [sv35, sv36]), A0, A2, (box b15 65 [(Value.int .i64 a1_0_0), (Value.int .i64 a1_0_1), (Value.int .i64 a1_1), (Value.int .i64 a1_2), (Value.int .i64 a1_3), (Value.bool a1_4)])]) (first := []) (cap := []) (xs := [.tmp 51, .tmp 52, .tmp 53]) rfl rfl F_call_36 rfl (catalog_Catalog_Over_O.spec K b16 b20 sv38 x43.2 x44.1 x44.2 _ h47) rfl) (by decide) rfl rfl ?_
              rintro g0_ _ ⟨_, ⟨_, rfl, rfl⟩, rfl⟩
              exact ⟨(upb ga9 3 g0_), show some [(own g0_ 65 6 x48.length (fl enc_Api_Entry x48)), (sel (done 5) (own (ga9 5) 65 6 [(⟨(⟨a1_0_0, a1_0_1⟩ : Api_Part), a1_1, a1_2, a1_3, a1_4⟩ : Api_Entry)].length (fl enc_Api_Entry [(⟨(⟨a1_0_0, a1_0_1⟩ : Api_Part), a1_1, a1_2, a1_3, a1_4⟩ : Api_Entry)])) emp), (box b16 139 [(pt b20 0)]), (box b20 192 [sv38]), (own sv38 196 7 x43.2.length (fl enc_Omap_pair__int64__api_Entry x43.2)), (own sv35 63 2 x39.2.1.length (fl enc_Api_Part x39.2.1)), (own sv36 65 6 x39.2.2.length (fl enc_Api_Entry x39.2.2)), (box b18 59 [sv35, sv36]), A0, A2, (box b15 65 [(Value.int .i64 a1_0_0), (Value.int .i64 a1_0_1), (Value.int .i64 a1_1), (Value.int .i64 a1_2), (Value.int .i64 a1_3), (Value.bool a1_4)])] = _ by simp [up, upb, sel, hi], (tr_same rfl rfl (tr_same rfl rfl (tr_same rfl rfl (tr_this (tr_same rfl rfl (tr_same rfl rfl (tr_same rfl rfl (tr_same rfl rfl (tr_same rfl rfl (tr_same rfl rfl (tr_same rfl rfl (tr_same rfl rfl (tr_same rfl rfl (tr_same rfl rfl (tr_same rfl rfl (tr_same rfl rfl (tr_same rfl rfl (tr_same rfl rfl (tr_same rfl rfl (tr_same rfl rfl tr_nil))))))))))))))))))))⟩
            · intro done hi hc hcu
              refine draw_exi (I := Z17_I) fun ga9 => ?_
              exact draw_value (i := 4) (t := 55) (v := (Value.agg #[(Value.int .i64 a1_0_0), (Value.int .i64 a1_0_1), (Value.int .i64 a1_1), (Value.int .i64 a1_2), (Value.int .i64 a1_3), (Value.bool a1_4)])) rfl rfl (wanted_none rfl) (fun a => hasA_base) (ov_load_agg (vs := [(Value.int .i64 a1_0_0), (Value.int .i64 a1_0_1), (Value.int .i64 a1_1), (Value.int .i64 a1_2), (Value.int .i64 a1_3), (Value.bool a1_4)]) rfl F_agg_65 F_size_65 (reads_boxW (i := 10) rfl)) rfl rfl (onlyT_spec (k0 := 4) rfl rfl rfl)
            · intro done hi hc hcu
              refine ent_exi (S := fun ga9 => Z17_I ga9 done) fun ga9 => ?_
              have d4 : done 4 = true := done_of (j := 4) hcu rfl (by decide) rfl
              refine draw_newV (i := 5) (t := 56) (x := ga9) (L := (fun (ga9 : Nat → Value) (done : Nat → Bool) => [(sel (done 3) (own (ga9 3) 65 6 x48.length (fl enc_Api_Entry x48)) emp), (sel (done 5) (own (ga9 5) 65 6 [(⟨(⟨a1_0_0, a1_0_1⟩ : Api_Part), a1_1, a1_2, a1_3, a1_4⟩ : Api_Entry)].length (fl enc_Api_Entry [(⟨(⟨a1_0_0, a1_0_1⟩ : Api_Part), a1_1, a1_2, a1_3, a1_4⟩ : Api_Entry)])) emp), (box b16 139 [(pt b20 0)]), (box b20 192 [sv38]), (own sv38 196 7 x43.2.length (fl enc_Omap_pair__int64__api_Entry x43.2)), (own sv35 63 2 x39.2.1.length (fl enc_Api_Part x39.2.1)), (own sv36 65 6 x39.2.2.length (fl enc_Api_Entry x39.2.2)), (box b18 59 [sv35, sv36]), A0, A2, (box b15 65 [(Value.int .i64 a1_0_0), (Value.int .i64 a1_0_1), (Value.int .i64 a1_1), (Value.int .i64 a1_2), (Value.int .i64 a1_3), (Value.bool a1_4)])])) (T := (fun ga9 : Nat → Value => [(0, 51, (pt b16 0)), (1, 52, (Value.int .i64 x44.1)), (2, 53, (Value.int .i64 x44.2)), (3, 54, (ga9 3)), (4, 55, (Value.agg #[(Value.int .i64 a1_0_0), (Value.int .i64 a1_0_1), (Value.int .i64 a1_1), (Value.int .i64 a1_2), (Value.int .i64 a1_3), (Value.bool a1_4)])), (5, 56, (ga9 5)), (6, 57, (Value.bool x49)), (7, 58, (Value.bool (!x49))), (8, 59, (Value.bool (!x49))), (9, 60, (pt b16 0)), (10, 61, (Value.int .i64 x50)), (11, 62, sv34), (12, 63, (Value.int .i64 (x38.2.length : Int))), (13, 64, (pt b18 0)), (14, 65, sv35), (15, 66, (Value.int .i64 (x39.2.1.length : Int))), (16, 67, (Value.int .i64 (w64 ((x38.2.length : Int) - (x39.2.1.length : Int))))), (17, 68, (Value.int .i64 (w64 ((w64 ((x38.2.length : Int) - (x39.2.1.length : Int))) + 1)))), (18, 69, (Value.bool (x50 != (w64 ((w64 ((x38.2.length : Int) - (x39.2.1.length : Int))) + 1))))), (19, 70, (Value.bool (x50 != (w64 ((w64 ((x38.2.length : Int) - (x39.2.1.length : Int))) + 1)))))])) (L2 := [(sel (done 3) (own (ga9 3) 65 6 x48.length (fl enc_Api_Entry x48)) emp), emp, (box b16 139 [(pt b20 0)]), (box b20 192 [sv38]), (own sv38 196 7 x43.2.length (fl enc_Omap_pair__int64__api_Entry x43.2)), (own sv35 63 2 x39.2.1.length (fl enc_Api_Part x39.2.1)), (own sv36 65 6 x39.2.2.length (fl enc_Api_Entry x39.2.2)), (box b18 59 [sv35, sv36]), A0, A2, (box b15 65 [(Value.int .i64 a1_0_0), (Value.int .i64 a1_0_1), (Value.int .i64 a1_1), (Value.int .i64 a1_2), (Value.int .i64 a1_3), (Value.bool a1_4)])]) (B := fun v_ => (own v_ 65 6 [(⟨(⟨a1_0_0, a1_0_1⟩ : Api_Part), a1_1, a1_2, a1_3, a1_4⟩ : Api_Entry)].length (fl enc_Api_Entry [(⟨(⟨a1_0_0, a1_0_1⟩ : Api_Part), a1_1, a1_2, a1_3, a1_4⟩ : Api_Entry)]))) 1 rfl rfl (wanted_none rfl) (fun a => (hasA_cons (k := 4) rfl d4 hasA_base)) (by simp only [hi, sel]) (ot_buildSlice (sz := 5) (xs := [.tmp 55]) (cs := fl enc_Api_Entry [(⟨(⟨a1_0_0, a1_0_1⟩ : Api_Part), a1_1, a1_2, a1_3, a1_4⟩ : Api_Entry)]) rfl rfl F_slice_53 F_size_65 F_zero_65 rfl rfl (all_size rfl) rfl (by decide)) ?_ rfl (fun v_ => ?_) rfl rfl ?_
              · rintro _ _ rfl; rfl
              · simp [up, upb, sel, hi]
              · rintro _ _ rfl
                exact (tr_same rfl rfl (tr_same rfl rfl (tr_same rfl rfl (tr_same rfl rfl (tr_same rfl rfl (tr_this (tr_same rfl rfl (tr_same rfl rfl (tr_same rfl rfl (tr_same rfl rfl (tr_same rfl rfl (tr_same rfl rfl (tr_same rfl rfl (tr_same rfl rfl (tr_same rfl rfl (tr_same rfl rfl (tr_same rfl rfl (tr_same rfl rfl (tr_same rfl rfl (tr_same rfl rfl tr_nil))))))))))))))))))))
            · intro done hi hc hcu
              refine draw_exi (I := Z17_I) fun ga9 => ?_
              have d3 : done 3 = true := done_of (j := 3) hcu rfl (by decide) rfl
              have d5 : done 5 = true := done_of (j := 5) hcu rfl (by decide) rfl
              exact draw_same (i := 6) (t := 57) (v := (Value.bool x49)) rfl rfl (wanted_none rfl) (fun a => (hasA_cons (k := 5) rfl d5 (hasA_cons (k := 3) rfl d3 hasA_base))) (ot_L (L2 := [(own (ga9 3) 65 6 x48.length (fl enc_Api_Entry x48)), (own (ga9 5) 65 6 [(⟨(⟨a1_0_0, a1_0_1⟩ : Api_Part), a1_1, a1_2, a1_3, a1_4⟩ : Api_Entry)].length (fl enc_Api_Entry [(⟨(⟨a1_0_0, a1_0_1⟩ : Api_Part), a1_1, a1_2, a1_3, a1_4⟩ : Api_Entry)])), (box b16 139 [(pt b20 0)]), (box b20 192 [sv38]), (own sv38 196 7 x43.2.length (fl enc_Omap_pair__int64__api_Entry x43.2)), (own sv35 63 2 x39.2.1.length (fl enc_Api_Part x39.2.1)), (own sv36 65 6 x39.2.2.length (fl enc_Api_Entry x39.2.2)), (box b18 59 [sv35, sv36]), A0, A2, (box b15 65 [(Value.int .i64 a1_0_0), (Value.int .i64 a1_0_1), (Value.int .i64 a1_1), (Value.int .i64 a1_2), (Value.int .i64 a1_3), (Value.bool a1_4)])]) (by simp only [d3, d5, sel]) (ot_call_same (Lr := [(box b16 139 [(pt b20 0)]), (box b20 192 [sv38]), (own sv38 196 7 x43.2.length (fl enc_Omap_pair__int64__api_Entry x43.2)), (own sv35 63 2 x39.2.1.length (fl enc_Api_Part x39.2.1)), (own sv36 65 6 x39.2.2.length (fl enc_Api_Entry x39.2.2)), (box b18 59 [sv35, sv36]), A0, A2, (box b15 65 [(Value.int .i64 a1_0_0), (Value.int .i64 a1_0_1), (Value.int .i64 a1_1), (Value.int .i64 a1_2), (Value.int .i64 a1_3), (Value.bool a1_4)])]) [0, 1, 2, 3, 4, 5, 6, 7, 8, 9, 10] [0, 1, 2, 3, 4, 5, 6, 7, 8, 9, 10] (first := []) (cap := []) (xs := [.tmp 54, .tmp 56]) rfl rfl F_call_26 rfl (ossuaryref20_Same_RR.spec K (ga9 3) (own (ga9 3) 65 6 x48.length (fl enc_Api_Entry x48)) (ga9 5) (own (ga9 5) 65 6 [(⟨(⟨a1_0_0, a1_0_1⟩ : Api_Part), a1_1, a1_2, a1_3, a1_4⟩ : Api_Entry)].length (fl enc_Api_Entry [(⟨(⟨a1_0_0, a1_0_1⟩ : Api_Part), a1_1, a1_2, a1_3, a1_4⟩ : Api_Entry)])) x48 [(⟨(⟨a1_0_0, a1_0_1⟩ : Api_Part), a1_1, a1_2, a1_3, a1_4⟩ : Api_Entry)] (isRd_ownx 65) (isRd_ownx 65) _ h48) (by decide) rfl (by decide) rfl)) rfl rfl (onlyT_spec (k0 := 6) rfl rfl rfl)
            · intro done hi hc hcu
              refine draw_exi (I := Z17_I) fun ga9 => ?_
              have d6 : done 6 = true := done_of (j := 6) hcu rfl (by decide) rfl
              exact draw_value (i := 7) (t := 58) (v := (Value.bool (!x49))) rfl rfl (wanted_none rfl) (fun a => (hasA_cons (k := 6) rfl d6 hasA_base)) (ov_un rfl (u_not _)) rfl rfl (onlyT_spec (k0 := 7) rfl rfl rfl)
            · intro done hi hc hcu
              refine draw_exi (I := Z17_I) fun ga9 => ?_
              have d7 : done 7 = true := done_of (j := 7) hcu rfl (by decide) rfl
              exact draw_value (i := 8) (t := 59) (v := (Value.bool (!x49))) rfl rfl (wanted_none rfl) (fun a => (hasA_cons (k := 7) rfl d7 hasA_base)) (ov_move rfl) rfl rfl (onlyT_spec (k0 := 8) rfl rfl rfl)
            · intro done hi hc hcu
              refine draw_exi (I := Z17_I) fun ga9 => ?_
              have d8 : done 8 = true := done_of (j := 8) hcu rfl (by decide) rfl
              exact draw_value (i := 9) (t := 60) (v := (pt b16 0)) rfl rfl (wanted_on rfl rfl rfl (Bool.eq_false_iff.2 c33)) (fun a => (hasA_cons (k := 8) rfl d8 hasA_base)) (ov_move rfl) rfl rfl (onlyT_spec (k0 := 9) rfl rfl rfl)
            · intro done hi hc hcu
              refine draw_exi (I := Z17_I) fun ga9 => ?_
              have d9 : done 9 = true := done_of (j := 9) hcu rfl (by decide) rfl
              have d8 : done 8 = true := done_of (j := 8) hcu rfl (by decide) rfl
              exact draw_same (i := 10) (t := 61) (v := (Value.int .i64 x50)) rfl rfl (wanted_on rfl rfl rfl (Bool.eq_false_iff.2 c33)) (fun a => (hasA_cons (k := 8) rfl d8 (hasA_cons (k := 9) rfl d9 hasA_base))) (ot_call_same (Lr := [(sel (done 3) (own (ga9 3) 65 6 x48.length (fl enc_Api_Entry x48)) emp), (sel (done 5) (own (ga9 5) 65 6 [(⟨(⟨a1_0_0, a1_0_1⟩ : Api_Part), a1_1, a1_2, a1_3, a1_4⟩ : Api_Entry)].length (fl enc_Api_Entry [(⟨(⟨a1_0_0, a1_0_1⟩ : Api_Part), a1_1, a1_2, a1_3, a1_4⟩ : Api_Entry)])) emp), (own sv35 63 2 x39.2.1.length (fl enc_Api_Part x39.2.1)), (own sv36 65 6 x39.2.2.length (fl enc_Api_Entry x39.2.2)), (box b18 59 [sv35, sv36]), A0, A2, (box b15 65 [(Value.int .i64 a1_0_0), (Value.int .i64 a1_0_1), (Value.int .i64 a1_1), (Value.int .i64 a1_2), (Value.int .i64 a1_3), (Value.bool a1_4)])]) [2, 3, 4, 0, 1, 5, 6, 7, 8, 9, 10] [3, 4, 0, 1, 2, 5, 6, 7, 8, 9, 10] (first := []) (cap := []) (xs := [.tmp 60]) rfl rfl F_call_37 rfl (catalog_Catalog_Len_O.spec b16 b20 sv38 x43.2 _ h49) (by decide) rfl (by decide) rfl) rfl rfl (onlyT_spec (k0 := 10) rfl rfl rfl)
            · intro done hi hc hcu
              refine draw_exi (I := Z17_I) fun ga9 => ?_
              have d8 : done 8 = true := done_of (j := 8) hcu rfl (by decide) rfl
              exact draw_value (i := 11) (t := 62) (v := sv34) rfl rfl (wanted_on rfl rfl rfl (Bool.eq_false_iff.2 c33)) (fun a => (hasA_cons (k := 8) rfl d8 hasA_base)) (ov_move rfl) rfl rfl (onlyT_spec (k0 := 11) rfl rfl rfl)
            · intro done hi hc hcu
              refine draw_exi (I := Z17_I) fun ga9 => ?_
              have d11 : done 11 = true := done_of (j := 11) hcu rfl (by decide) rfl
              have d8 : done 8 = true := done_of (j := 8) hcu rfl (by decide) rfl
              exact draw_value (i := 12) (t := 63) (v := (Value.int .i64 (x38.2.length : Int))) rfl rfl (wanted_on rfl rfl rfl (Bool.eq_false_iff.2 c33)) (fun a => (hasA_cons (k := 8) rfl d8 (hasA_cons (k := 11) rfl d11 hasA_base))) (ov_len 9 rfl F_slice_53 rfl hr2) rfl rfl (onlyT_spec (k0 := 12) rfl rfl rfl)
            · intro done hi hc hcu
              refine draw_exi (I := Z17_I) fun ga9 => ?_
              have d8 : done 8 = true := done_of (j := 8) hcu rfl (by decide) rfl
              exact draw_value (i := 13) (t := 64) (v := (pt b18 0)) rfl rfl (wanted_on rfl rfl rfl (Bool.eq_false_iff.2 c33)) (fun a => (hasA_cons (k := 8) rfl d8 hasA_base)) (ov_fieldAddr (sz := 0) (o := 0) rfl F_field_59_0 F_size_56) rfl rfl (onlyT_spec (k0 := 13) rfl rfl rfl)
            · intro done hi hc hcu
              refine draw_exi (I := Z17_I) fun ga9 => ?_
              have d13 : done 13 = true := done_of (j := 13) hcu rfl (by decide) rfl
              have d8 : done 8 = true := done_of (j := 8) hcu rfl (by decide) rfl
              exact draw_value (i := 14) (t := 65) (v := sv35) rfl rfl (wanted_on rfl rfl rfl (Bool.eq_false_iff.2 c33)) (fun a => (hasA_cons (k := 8) rfl d8 (hasA_cons (k := 13) rfl d13 hasA_base))) (ov_load (v := sv35) rfl F_agg_56 (reads_box1 (i := 7) rfl rfl)) rfl rfl (onlyT_spec (k0 := 14) rfl rfl rfl)
            · intro done hi hc hcu
              refine draw_exi (I := Z17_I) fun ga9 => ?_
              have d14 : done 14 = true := done_of (j := 14) hcu rfl (by decide) rfl
              have d8 : done 8 = true := done_of (j := 8) hcu rfl (by decide) rfl
              exact draw_value (i := 15) (t := 66) (v := (Value.int .i64 (x39.2.1.length : Int))) rfl rfl (wanted_on rfl rfl rfl (Bool.eq_false_iff.2 c33)) (fun a => (hasA_cons (k := 8) rfl d8 (hasA_cons (k := 14) rfl d14 hasA_base))) (ov_len 5 rfl F_slice_56 rfl (isRd_ownx 63)) rfl rfl (onlyT_spec (k0 := 15) rfl rfl rfl)
            · intro done hi hc hcu
              refine draw_exi (I := Z17_I) fun ga9 => ?_
              have d12 : done 12 = true := done_of (j := 12) hcu rfl (by decide) rfl
              have d15 : done 15 = true := done_of (j := 15) hcu rfl (by decide) rfl
              have d8 : done 8 = true := done_of (j := 8) hcu rfl (by decide) rfl
              exact draw_value (i := 16) (t := 67) (v := (Value.int .i64 (w64 ((x38.2.length : Int) - (x39.2.1.length : Int))))) rfl rfl (wanted_on rfl rfl rfl (Bool.eq_false_iff.2 c33)) (fun a => (hasA_cons (k := 8) rfl d8 (hasA_cons (k := 15) rfl d15 (hasA_cons (k := 12) rfl d12 hasA_base)))) (ov_bin rfl rfl (b_sub _ _ _) ) rfl rfl (onlyT_spec (k0 := 16) rfl rfl rfl)
            · intro done hi hc hcu
              refine draw_exi (I := Z17_I) fun ga9 => ?_
              have d16 : done 16 = true := done_of (j := 16) hcu rfl (by decide) rfl
              have d8 : done 8 = true := done_of (j := 8) hcu rfl (by decide) rfl
              exact draw_value (i := 17) (t := 68) (v := (Value.int .i64 (w64 ((w64 ((x38.2.length : Int) - (x39.2.1.length : Int))) + 1)))) rfl rfl (wanted_on rfl rfl rfl (Bool.eq_false_iff.2 c33)) (fun a => (hasA_cons (k := 8) rfl d8 (hasA_cons (k := 16) rfl d16 hasA_base))) (ov_bin rfl rfl (b_add _ _ _) ) rfl rfl (onlyT_spec (k0 := 17) rfl rfl rfl)
            · intro done hi hc hcu
              refine draw_exi (I := Z17_I) fun ga9 => ?_
              have d10 : done 10 = true := done_of (j := 10) hcu rfl (by decide) rfl
              have d17 : done 17 = true := done_of (j := 17) hcu rfl (by decide) rfl
              have d8 : done 8 = true := done_of (j := 8) hcu rfl (by decide) rfl
              exact draw_value (i := 18) (t := 69) (v := (Value.bool (x50 != (w64 ((w64 ((x38.2.length : Int) - (x39.2.1.length : Int))) + 1))))) rfl rfl (wanted_on rfl rfl rfl (Bool.eq_false_iff.2 c33)) (fun a => (hasA_cons (k := 8) rfl d8 (hasA_cons (k := 17) rfl d17 (hasA_cons (k := 10) rfl d10 hasA_base)))) (ov_bin rfl rfl (b_neq _ _ _)) rfl rfl (onlyT_spec (k0 := 18) rfl rfl rfl)
            · intro done hi hc hcu
              refine draw_exi (I := Z17_I) fun ga9 => ?_
              have d8 : done 8 = true := done_of (j := 8) hcu rfl (by decide) rfl
              have d18 : done 18 = true := done_of (j := 18) hcu rfl (by decide) rfl
              exact draw_value (i := 19) (t := 70) (v := (Value.bool (x50 != (w64 ((w64 ((x38.2.length : Int) - (x39.2.1.length : Int))) + 1))))) rfl rfl (wanted_none rfl) (fun a => (hasA_cons (k := 18) rfl d18 (hasA_cons (k := 8) rfl d8 hasA_base))) (ov_pick rfl rfl rfl (pick_f (Bool.eq_false_iff.2 c33))) rfl rfl (onlyT_spec (k0 := 19) rfl rfl rfl)
          · intro done hall
            refine ent_exi (S := fun ga9 => Z17_I ga9 done) fun ga9 => ?_
            refine draw_endL [(own (ga9 3) 65 6 x48.length (fl enc_Api_Entry x48)), (own (ga9 5) 65 6 [(⟨(⟨a1_0_0, a1_0_1⟩ : Api_Part), a1_1, a1_2, a1_3, a1_4⟩ : Api_Entry)].length (fl enc_Api_Entry [(⟨(⟨a1_0_0, a1_0_1⟩ : Api_Part), a1_1, a1_2, a1_3, a1_4⟩ : Api_Entry)])), (box b16 139 [(pt b20 0)]), (box b20 192 [sv38]), (own sv38 196 7 x43.2.length (fl enc_Omap_pair__int64__api_Entry x43.2)), (own sv35 63 2 x39.2.1.length (fl enc_Api_Part x39.2.1)), (own sv36 65 6 x39.2.2.length (fl enc_Api_Entry x39.2.2)), (box b18 59 [sv35, sv36]), A0, A2, (box b15 65 [(Value.int .i64 a1_0_0), (Value.int .i64 a1_0_1), (Value.int .i64 a1_1), (Value.int .i64 a1_2), (Value.int .i64 a1_3), (Value.bool a1_4)])] (by simp only [hall 3 (by decide), hall 5 (by decide), sel]) (fun a => (hasA_cons (k := 0) rfl (hall 0 (by decide)) (hasA_cons (k := 1) rfl (hall 1 (by decide)) (hasA_cons (k := 2) rfl (hall 2 (by decide)) (hasA_cons (k := 3) rfl (hall 3 (by decide)) (hasA_cons (k := 4) rfl (hall 4 (by decide)) (hasA_cons (k := 5) rfl (hall 5 (by decide)) (hasA_cons (k := 6) rfl (hall 6 (by decide)) (hasA_cons (k := 7) rfl (hall 7 (by decide)) (hasA_cons (k := 8) rfl (hall 8 (by decide)) (hasA_cons (k := 9) rfl (hall 9 (by decide)) (hasA_cons (k := 10) rfl (hall 10 (by decide)) (hasA_cons (k := 11) rfl (hall 11 (by decide)) (hasA_cons (k := 12) rfl (hall 12 (by decide)) (hasA_cons (k := 13) rfl (hall 13 (by decide)) (hasA_cons (k := 14) rfl (hall 14 (by decide)) (hasA_cons (k := 15) rfl (hall 15 (by decide)) (hasA_cons (k := 16) rfl (hall 16 (by decide)) (hasA_cons (k := 17) rfl (hall 17 (by decide)) (hasA_cons (k := 18) rfl (hall 18 (by decide)) (hasA_cons (k := 19) rfl (hall 19 (by decide)) hasA_base))))))))))))))))))))) ?_
            by_cases c34 : ¬ (x50 = (w64 ((w64 ((x38.2.length : Int) - (x39.2.1.length : Int))) + 1)))
            · rw [if_pos c34] at H
              refine ent_cond_true rfl (ne_t c34) ?_
              refine ent_seq ?_
              refine ent_region ?_
              refine ent_value (ov_assign rfl) rfl rfl rfl ?_
              refine ent_nil ?_
              refine ent_retc ?_
              cases H
              refine ent_pick [8] (by decide) rfl ?_
              exact ret_tmp rfl rfl ⟨rfl, rfl⟩
            · rw [if_neg c34] at H
              refine ent_cond_false rfl (ne_f c34) ?_
              refine ent_skip ?_
              obtain ⟨x55, H4, H⟩ := Option.bind_eq_some_iff.1 H
              refine ent_seq_cut (fun a w => ∃ v2, x55 = Sum.inl v2 ∧ ∃ b23 : Nat, ∃ sv48 : Value, ∃ b24 : Nat, St 119 w0 F [(3, (pt b24 0)), (5, (pt b16 0)), (9, (Value.int .i64 x44.1)), (10, (Value.int .i64 x44.2))] [A0, (box b24 65 [(Value.int .i64 a1_0_0), (Value.int .i64 a1_0_1), (Value.int .i64 a1_1), (Value.int .i64 a1_2), (Value.int .i64 a1_3), (Value.bool a1_4)]), (box b16 139 [(pt b23 0)]), (box b23 192 [sv48]), (own sv48 196 7 v2.length (fl enc_Omap_pair__int64__api_Entry v2))] a w) ?_ ?_
              · refine ent_seq ?_
                refine ent_region ?_
                refine ent_value (ov_fieldAddr (sz := 1) (o := 0) rfl F_field_65_0 F_size_63) rfl rfl rfl ?_
                refine ent_value (ov_fieldAddr (sz := 0) (o := 0) rfl F_field_63_0 F_size_3) rfl rfl rfl ?_
                refine ent_value (ov_load (v := (Value.int .i64 a1_0_0)) rfl F_agg_3 (reads_box1 (i := 10) rfl rfl)) rfl rfl rfl ?_
                refine ent_value (ov_bin rfl rfl (b_eql _ _ _)) rfl rfl rfl ?_
                refine ent_nil ?_
                by_cases c38 : a1_0_0 = 3
                · rw [if_pos c38] at H4
                  refine ent_cond_true rfl (eq_t c38) ?_
                  refine ent_seq ?_
                  refine ent_region ?_
                  refine ent_value (ov_load_agg (vs := [(Value.int .i64 a1_0_0), (Value.int .i64 a1_0_1), (Value.int .i64 a1_1), (Value.int .i64 a1_2), (Value.int .i64 a1_3), (Value.bool a1_4)]) rfl F_agg_65 F_size_65 (reads_boxW (i := 10) rfl)) rfl rfl rfl ?_
                  refine ent_op (ot_alloc F_zero_65) rfl rfl rfl ?_
                  rintro _ _ ⟨b25, rfl, rfl⟩
                  refine ent_op0 (ot_storeG (cs := [(Value.int .i64 0), (Value.int .i64 0), (Value.int .i64 0), (Value.int .i64 0), (Value.int .i64 0), (Value.bool false)]) (cs' := [(Value.int .i64 a1_0_0), (Value.int .i64 a1_0_1), (Value.int .i64 a1_1), (Value.int .i64 a1_2), (Value.int .i64 a1_3), (Value.bool a1_4)]) (us := [(Value.int .i64 a1_0_0), (Value.int .i64 a1_0_1), (Value.int .i64 a1_1), (Value.int .i64 a1_2), (Value.int .i64 a1_3), (Value.bool a1_4)]) (L' := [(box b25 65 [(Value.int .i64 a1_0_0), (Value.int .i64 a1_0_1), (Value.int .i64 a1_1), (Value.int .i64 a1_2), (Value.int .i64 a1_3), (Value.bool a1_4)]), (own (ga9 3) 65 6 x48.length (fl enc_Api_Entry x48)), (own (ga9 5) 65 6 [(⟨(⟨a1_0_0, a1_0_1⟩ : Api_Part), a1_1, a1_2, a1_3, a1_4⟩ : Api_Entry)].length (fl enc_Api_Entry [(⟨(⟨a1_0_0, a1_0_1⟩ : Api_Part), a1_1, a1_2, a1_3, a1_4⟩ : Api_Entry)])), (box b16 139 [(pt b20 0)]), (box b20 192 [sv38]), (own sv38 196 7 x43.2.length (fl enc_Omap_pair__int64__api_Entry x43.2)), (own sv35 63 2 x39.2.1.length (fl enc_Api_Part x39.2.1)), (own sv36 65 6 x39.2.2.length (fl enc_Api_Entry x39.2.2)), (box b18 59 [sv35, sv36]), A0, A2, (box b15 65 [(Value.int .i64 a1_0_0), (Value.int .i64 a1_0_1), (Value.int .i64 a1_1), (Value.int .i64 a1_2), (Value.int .i64 a1_3), (Value.bool a1_4)])]) 0 rfl rfl rfl (one_all rfl) F_size_65 rfl rfl (by simp) rfl) rfl rfl ?_
                  rintro _ _ rfl
                  refine ent_nil ?_
                  refine ent_seq ?_
                  refine ent_region ?_
                  refine ent_value (ov_fieldAddr (sz := 0) (o := 0) rfl F_field_65_4 F_size_4) rfl rfl rfl ?_
                  refine ent_op0 (ot_storeG (cs := [(Value.int .i64 a1_0_0), (Value.int .i64 a1_0_1), (Value.int .i64 a1_1), (Value.int .i64 a1_2), (Value.int .i64 a1_3), (Value.bool a1_4)]) (cs' := [(Value.int .i64 a1_0_0), (Value.int .i64 a1_0_1), (Value.int .i64 a1_1), (Value.int .i64 a1_2), (Value.int .i64 a1_3), (Value.bool true)]) (us := [(Value.bool true)]) (L' := [(box b25 65 [(Value.int .i64 a1_0_0), (Value.int .i64 a1_0_1), (Value.int .i64 a1_1), (Value.int .i64 a1_2), (Value.int .i64 a1_3), (Value.bool true)]), (own (ga9 3) 65 6 x48.length (fl enc_Api_Entry x48)), (own (ga9 5) 65 6 [(⟨(⟨a1_0_0, a1_0_1⟩ : Api_Part), a1_1, a1_2, a1_3, a1_4⟩ : Api_Entry)].length (fl enc_Api_Entry [(⟨(⟨a1_0_0, a1_0_1⟩ : Api_Part), a1_1, a1_2, a1_3, a1_4⟩ : Api_Entry)])), (box b16 139 [(pt b20 0)]), (box b20 192 [sv38]), (own sv38 196 7 x43.2.length (fl enc_Omap_pair__int64__api_Entry x43.2)), (own sv35 63 2 x39.2.1.length (fl enc_Api_Part x39.2.1)), (own sv36 65 6 x39.2.2.length (fl enc_Api_Entry x39.2.2)), (box b18 59 [sv35, sv36]), A0, A2, (box b15 65 [(Value.int .i64 a1_0_0), (Value.int .i64 a1_0_1), (Value.int .i64 a1_1), (Value.int .i64 a1_2), (Value.int .i64 a1_3), (Value.bool a1_4)])]) 0 rfl rfl rfl (one_all rfl) F_size_4 rfl rfl (by simp) rfl) rfl rfl ?_
                  rintro _ _ rfl
                  refine ent_nil ?_
                  refine ent_seq ?_
                  obtain ⟨x56, h54, H4⟩ := Option.bind_eq_some_iff.1 H4
                  obtain ⟨x57, h55, H4⟩ := Option.bind_eq_some_iff.1 H4
                  by_cases c39 : ¬ (x57.1 = 0)
                  · rw [if_pos c39] at H4
                    let Z15_I : (Nat → Value) → (Nat → Bool) → Act → World → Prop := fun (ga11 : Nat → Value) done a w => StD 119 w0 F [(0, sv0), (1, (Value.agg #[(Value.int .i64 a1_0_0), (Value.int .i64 a1_0_1), (Value.int .i64 a1_1), (Value.int .i64 a1_2), (Value.int .i64 a1_3), (Value.bool a1_4)])), (3, (pt b15 0)), (4, (Value.bool false)), (5, (pt b16 0)), (6, sv34), (7, (pt b18 0)), (8, (Value.int .i64 x39.1)), (9, (Value.int .i64 x44.1)), (10, (Value.int .i64 x44.2)), (11, (pt b25 0)), (13, sv0), (14, (Value.int .i64 (l0.length : Int))), (15, (Value.bool (decide (40 < (l0.length : Int))))), (17, (Value.tuple #[(pt b16 0), sv34])), (18, sv0), (19, (Value.tuple #[(pt b16 0), sv34])), (20, (pt b16 0)), (21, sv34), (22, (Value.tuple #[(Value.agg #[sv35, sv36]), (Value.int .i64 x39.1)])), (23, (pt b16 0)), (24, (Value.agg #[(Value.int .i64 a1_0_0), (Value.int .i64 a1_0_1), (Value.int .i64 a1_1), (Value.int .i64 a1_2), (Value.int .i64 a1_3), (Value.bool a1_4)])), (25, (Value.tuple #[(Value.agg #[sv35, sv36]), (Value.int .i64 x39.1)])), (26, (Value.agg #[sv35, sv36])), (27, (Value.int .i64 x39.1)), (28, (Value.int .i64 x39.1)), (29, (Value.bool (x39.1 != 0))), (41, (pt b16 0)), (42, (Value.agg #[sv35, sv36])), (43, (Value.int .i64 x43.1)), (44, (Value.bool (x43.1 != 0))), (45, (Value.tuple #[(Value.int .i64 x44.1), (Value.int .i64 x44.2)])), (46, (pt b15 0)), (47, (Value.agg #[(Value.int .i64 a1_0_0), (Value.int .i64 a1_0_1)])), (48, (Value.tuple #[(Value.int .i64 x44.1), (Value.int .i64 x44.2)])), (49, (Value.int .i64 x44.1)), (50, (Value.int .i64 x44.2)), (51, (pt b16 0)), (52, (Value.int .i64 x44.1)), (53, (Value.int .i64 x44.2)), (54, (ga9 3)), (55, (Value.agg #[(Value.int .i64 a1_0_0), (Value.int .i64 a1_0_1), (Value.int .i64 a1_1), (Value.int .i64 a1_2), (Value.int .i64 a1_3), (Value.bool a1_4)])), (56, (ga9 5)), (57, (Value.bool x49)), (58, (Value.bool (!x49))), (59, (Value.bool (!x49))), (60, (pt b16 0)), (61, (Value.int .i64 x50)), (62, sv34), (63, (Value.int .i64 (x38.2.length : Int))), (64, (pt b18 0)), (65, sv35), (66, (Value.int .i64 (x39.2.1.length : Int))), (67, (Value.int .i64 (w64 ((x38.2.length : Int) - (x39.2.1.length : Int))))), (68, (Value.int .i64 (w64 ((w64 ((x38.2.length : Int) - (x39.2.1.length : Int))) + 1)))), (69, (Value.bool (x50 != (w64 ((w64 ((x38.2.length : Int) - (x39.2.1.length : Int))) + 1))))), (70, (Value.bool (x50 != (w64 ((w64 ((x38.2.length : Int) - (x39.2.1.length : Int))) + 1))))), (71, (pt b15 0)), (72, (pt b15 0)), (73, (Value.int .i64 a1_0_0)), (74, (Value.bool (a1_0_0 == 3))), (75, (Value.agg #[(Value.int .i64 a1_0_0), (Value.int .i64 a1_0_1), (Value.int .i64 a1_1), (Value.int .i64 a1_2), (Value.int .i64 a1_3), (Value.bool a1_4)])), (76, (pt b25 5))] [(0, 77, (pt b16 0)), (1, 78, (Value.agg #[(Value.int .i64 a1_0_0), (Value.int .i64 a1_0_1), (Value.int .i64 a1_1), (Value.int .i64 a1_2), (Value.int .i64 a1_3), (Value.bool a1_4)])), (2, 79, (Value.agg #[(ga11 2), (ga11 1002)])), (3, 80, (Value.int .i64 x57.1)), (4, 81, (Value.bool (x57.1 != 0))), (5, 82, (Value.bool (x57.1 != 0))), (6, 83, undef), (7, 84, undef), (8, 85, undef), (9, 86, undef), (10, 87, undef), (11, 88, undef), (12, 89, undef), (13, 90, undef), (14, 91, (Value.bool true))] done [emp, (sel (done 2) (own (ga11 1002) 65 6 x56.2.length (fl enc_Api_Entry x56.2)) emp), (sel (done 2) (own (ga11 2) 63 2 x56.1.length (fl enc_Api_Part x56.1)) emp), emp, (box b25 65 [(Value.int .i64 a1_0_0), (Value.int .i64 a1_0_1), (Value.int .i64 a1_1), (Value.int .i64 a1_2), (Value.int .i64 a1_3), (Value.bool true)]), (own (ga9 3) 65 6 x48.length (fl enc_Api_Entry x48)), (own (ga9 5) 65 6 [(⟨(⟨a1_0_0, a1_0_1⟩ : Api_Part), a1_1, a1_2, a1_3, a1_4⟩ : Api_Entry)].length (fl enc_Api_Entry [(⟨(⟨a1_0_0, a1_0_1⟩ : Api_Part), a1_1, a1_2, a1_3, a1_4⟩ : Api_Entry)])), (sel (done 3) (box b16 139 [(pt (blk (ga11 3)) 0)]) (box b16 139 [(pt b20 0)])), (sel (done 3) (box (blk (ga11 3)) 192 [(ga11 1003)]) (box b20 192 [sv38])), (sel (done 3) (own (ga11 1003) 196 7 x57.2.length (fl enc_Omap_pair__int64__api_Entry x57.2)) (own sv38 196 7 x43.2.length (fl enc_Omap_pair__int64__api_Entry x43.2))), (own sv35 63 2 x39.2.1.length (fl enc_Api_Part x39.2.1)), (own sv36 65 6 x39.2.2.length (fl enc_Api_Entry x39.2.2)), (box b18 59 [sv35, sv36]), A0, A2, (box b15 65 [(Value.int .i64 a1_0_0), (Value.int .i64 a1_0_1), (Value.int .i64 a1_1), (Value.int .i64 a1_2), (Value.int .i64 a1_3), (Value.bool a1_4)])] a w
                    refine ent_drawm 15 rfl (fun done a w => ∃ ga11 : Nat → Value, Z15_I ga11 done a w) (by kernel_rfl) (by kernel_rfl) (draw_startG (T := (fun ga11 : Nat → Value => [(0, 77, (pt b16 0)), (1, 78, (Value.agg #[(Value.int .i64 a1_0_0), (Value.int .i64 a1_0_1), (Value.int .i64 a1_1), (Value.int .i64 a1_2), (Value.int .i64 a1_3), (Value.bool a1_4)])), (2, 79, (Value.agg #[(ga11 2), (ga11 1002)])), (3, 80, (Value.int .i64 x57.1)), (4, 81, (Value.bool (x57.1 != 0))), (5, 82, (Value.bool (x57.1 != 0))), (6, 83, undef), (7, 84, undef), (8, 85, undef), (9, 86, undef), (10, 87, undef), (11, 88, undef), (12, 89, undef), (13, 90, undef), (14, 91, (Value.bool true))])) (L' := fun ga11 : Nat → Value => [emp, (sel false (own (ga11 1002) 65 6 x56.2.length (fl enc_Api_Entry x56.2)) emp), (sel false (own (ga11 2) 63 2 x56.1.length (fl enc_Api_Part x56.1)) emp), emp, (box b25 65 [(Value.int .i64 a1_0_0), (Value.int .i64 a1_0_1), (Value.int .i64 a1_1), (Value.int .i64 a1_2), (Value.int .i64 a1_3), (Value.bool true)]), (own (ga9 3) 65 6 x48.length (fl enc_Api_Entry x48)), (own (ga9 5) 65 6 [(⟨(⟨a1_0_0, a1_0_1⟩ : Api_Part), a1_1, a1_2, a1_3, a1_4⟩ : Api_Entry)].length (fl enc_Api_Entry [(⟨(⟨a1_0_0, a1_0_1⟩ : Api_Part), a1_1, a1_2, a1_3, a1_4⟩ : Api_Entry)])), (sel false (box b16 139 [(pt (blk (ga11 3)) 0)]) (box b16 139 [(pt b20 0)])), (sel false (box (blk (ga11 3)) 192 [(ga11 1003)]) (box b20 192 [sv38])), (sel false (own (ga11 1003) 196 7 x57.2.length (fl enc_Omap_pair__int64__api_Entry x57.2)) (own sv38 196 7 x43.2.length (fl enc_Omap_pair__int64__api_Entry x43.2))), (own sv35 63 2 x39.2.1.length (fl enc_Api_Part x39.2.1)), (own sv36 65 6 x39.2.2.length (fl enc_Api_Entry x39.2.2)), (box b18 59 [sv35, sv36]), A0, A2, (box b15 65 [(Value.int .i64 a1_0_0), (Value.int .i64 a1_0_1), (Value.int .i64 a1_1), (Value.int .i64 a1_2), (Value.int .i64 a1_3), (Value.bool a1_4)])]) 4 (sub_cons (t := 0) rfl (sub_cons (t := 1) rfl (sub_cons (t := 3) rfl (sub_cons (t := 4) rfl (sub_cons (t := 5) rfl (sub_cons (t := 6) rfl (sub_cons (t := 7) rfl (sub_cons (t := 8) rfl (sub_cons (t := 9) rfl (sub_cons (t := 10) rfl (sub_cons (t := 11) rfl (sub_cons (t := 13) rfl (sub_cons (t := 14) rfl (sub_cons (t := 15) rfl (sub_cons (t := 17) rfl (sub_cons (t := 18) rfl (sub_cons (t := 19) rfl (sub_cons (t := 20) rfl (sub_cons (t := 21) rfl (sub_cons (t := 22) rfl (sub_cons (t := 23) rfl (sub_cons (t := 24) rfl (sub_cons (t := 25) rfl (sub_cons (t := 26) rfl (sub_cons (t := 27) rfl (sub_cons (t := 28) rfl (sub_cons (t := 29) rfl (sub_cons (t := 41) rfl (sub_cons (t := 42) rfl (sub_cons (t := 43) rfl (sub_cons (t := 44) rfl (sub_cons (t := 45) rfl (sub_cons (t := 46) rfl (sub_cons (t := 47) rfl (sub_cons (t := 48) rfl (sub_cons (t := 49) rfl (sub_cons (t := 50) rfl (sub_cons (t := 51) rfl (sub_cons (t := 52) rfl (sub_cons (t := 53) rfl (sub_cons (t := 54) rfl (sub_cons (t := 55) rfl (sub_cons (t := 56) rfl (sub_cons (t := 57) rfl (sub_cons (t := 58) rfl (sub_cons (t := 59) rfl (sub_cons (t := 60) rfl (sub_cons (t := 61) rfl (sub_cons (t := 62) rfl (sub_cons (t := 63) rfl (sub_cons (t := 64) rfl (sub_cons (t := 65) rfl (sub_cons (t := 66) rfl (sub_cons (t := 67) rfl (sub_cons (t := 68) rfl (sub_cons (t := 69) rfl (sub_cons (t := 70) rfl (sub_cons (t := 71) rfl (sub_cons (t := 72) rfl (sub_cons (t := 73) rfl (sub_cons (t := 74) rfl (sub_cons (t := 75) rfl (sub_cons (t := 76) rfl (sub_nil _)))))))))))))))))))))))))))))))))))))))))))))))))))))))))))))))) (fun _ => rfl)) ?_ ?_
                    · refine ⟨?_, ?_, ?_, ?_, ?_, ?_, ?_, ?_, ?_, ?_, ?_, ?_, ?_, ?_, ?_, trivial⟩
                      · intro done hi hc hcu
                        refine draw_exi (I := Z15_I) fun ga11 => ?_
                        exact draw_value (i := 0) (t := 77) (v := (pt b16 0)) rfl rfl (wanted_none rfl) (fun a => hasA_base) (ov_move rfl) rfl rfl (onlyT_spec (k0 := 0) rfl rfl rfl)
                      · intro done hi hc hcu
                        refine draw_exi (I := Z15_I) fun ga11 => ?_
                        exact draw_value (i := 1) (t := 78) (v := (Value.agg #[(Value.int .i64 a1_0_0), (Value.int .i64 a1_0_1), (Value.int .i64 a1_1), (Value.int .i64 a1_2), (Value.int .i64 a1_3), (Value.bool a1_4)])) rfl rfl (wanted_none rfl) (fun a => hasA_base) (ov_load_agg (vs := [(Value.int .i64 a1_0_0), (Value.int .i64 a1_0_1), (Value.int .i64 a1_1), (Value.int .i64 a1_2), (Value.int .i64 a1_3), (Value.bool a1_4)]) rfl F_agg_65 F_size_65 (reads_boxW (i := 15) rfl)) rfl rfl (onlyT_spec (k0 := 1) rfl rfl rfl)
                      · intro done hi hc hcu
                        refine ent_exi (S := fun ga11 => Z15_I ga11 done) fun ga11 => ?_
                        have d1 : done 1 = true := done_of (j := 1) hcu rfl (by decide) rfl
                        refine draw_turnP (i := 2) (t := 79) (x := ga11) (L := (fun (ga11 : Nat → Value) (done : Nat → Bool) => [emp, (sel (done 2) (own (ga11 1002) 65 6 x56.2.length (fl enc_Api_Entry x56.2)) emp), (sel (done 2) (own (ga11 2) 63 2 x56.1.length (fl enc_Api_Part x56.1)) emp), emp, (box b25 65 [(Value.int .i64 a1_0_0), (Value.int .i64 a1_0_1), (Value.int .i64 a1_1), (Value.int .i64 a1_2), (Value.int .i64 a1_3), (Value.bool true)]), (own (ga9 3) 65 6 x48.length (fl enc_Api_Entry x48)), (own (ga9 5) 65 6 [(⟨(⟨a1_0_0, a1_0_1⟩ : Api_Part), a1_1, a1_2, a1_3, a1_4⟩ : Api_Entry)].length (fl enc_Api_Entry [(⟨(⟨a1_0_0, a1_0_1⟩ : Api_Part), a1_1, a1_2, a1_3, a1_4⟩ : Api_Entry)])), (sel (done 3) (box b16 139 [(pt (blk (ga11 3)) 0)]) (box b16 139 [(pt b20 0)])), (sel (done 3) (box (blk (ga11 3)) 192 [(ga11 1003)]) (box b20 192 [sv38])), (sel (done 3) (own (ga11 1003) 196 7 x57.2.length (fl enc_Omap_pair__int64__api_Entry x57.2)) (own sv38 196 7 x43.2.length (fl enc_Omap_pair__int64__api_Entry x43.2))), (own sv35 63 2 x39.2.1.length (fl enc_Api_Part x39.2.1)), (own sv36 65 6 x39.2.2.length (fl enc_Api_Entry x39.2.2)), (box b18 59 [sv35, sv36]), A0, A2, (box b15 65 [(Value.int .i64 a1_0_0), (Value.int .i64 a1_0_1), (Value.int .i64 a1_1), (Value.int .i64 a1_2), (Value.int .i64 a1_3), (Value.bool a1_4)])])) (T := (fun ga11 : Nat → Value => [(0, 77, (pt b16 0)), (1, 78, (Value.agg #[(Value.int .i64 a1_0_0), (Value.int .i64 a1_0_1), (Value.int .i64 a1_1), (Value.int .i64 a1_2), (Value.int .i64 a1_3), (Value.bool a1_4)])), (2, 79, (Value.agg #[(ga11 2), (ga11 1002)])), (3, 80, (Value.int .i64 x57.1)), (4, 81, (Value.bool (x57.1 != 0))), (5, 82, (Value.bool (x57.1 != 0))), (6, 83, undef), (7, 84, undef), (8, 85, undef), (9, 86, undef), (10, 87, undef), (11, 88, undef), (12, 89, undef), (13, 90, undef), (14, 91, (Value.bool true))])) (L2 := [emp, emp, emp, emp, (box b25 65 [(Value.int .i64 a1_0_0), (Value.int .i64 a1_0_1), (Value.int .i64 a1_1), (Value.int .i64 a1_2), (Value.int .i64 a1_3), (Value.bool true)]), (own (ga9 3) 65 6 x48.length (fl enc_Api_Entry x48)), (own (ga9 5) 65 6 [(⟨(⟨a1_0_0, a1_0_1⟩ : Api_Part), a1_1, a1_2, a1_3, a1_4⟩ : Api_Entry)].length (fl enc_Api_Entry [(⟨(⟨a1_0_0, a1_0_1⟩ : Api_Part), a1_1, a1_2, a1_3, a1_4⟩ : Api_Entry)])), (sel (done 3) (box b16 139 [(pt (blk (ga11 3)) 0)]) (box b16 139 [(pt b20 0)])), (sel (done 3) (box (blk (ga11 3)) 192 [(ga11 1003)]) (box b20 192 [sv38])), (sel (done 3) (own (ga11 1003) 196 7 x57.2.length (fl enc_Omap_pair__int64__api_Entry x57.2)) (own sv38 196 7 x43.2.length (fl enc_Omap_pair__int64__api_Entry x43.2))), (own sv35 63 2 x39.2.1.length (fl enc_Api_Part x39.2.1)), (own sv36 65 6 x39.2.2.length (fl enc_Api_Entry x39.2.2)), (box b18 59 [sv35, sv36]), A0, A2, (box b15 65 [(Value.int .i64 a1_0_0), (Value.int .i64 a1_0_1), (Value.int .i64 a1_1), (Value.int .i64 a1_2), (Value.int .i64 a1_3), (Value.bool a1_4)])]) [0, 1, 2, 3, 4, 5, 6, 7, 8, 9, 10, 11, 12, 13, 14, 15] [2, 1, 0, 5, 6, 7, 8, 9, 10, 11, 12, 13, 14, 15, 16, 17] rfl rfl (wanted_none rfl) (fun a => (hasA_cons (k := 1) rfl d1 hasA_base)) (by simp only [hi, sel]) (by decide) rfl (ot_call (Lr := [emp, emp, emp, emp, (box b25 65 [(Value.int .i64 a1_0_0), (Value.int .i64 a1_0_1), (Value.int .i64 a1_1), (Value.int .i64 a1_2), (Value.int .i64 a1_3), (Value.bool true)]), (own (ga9 3) 65 6 x48.length (fl enc_Api_Entry x48)), (own (ga9 5) 65 6 [(⟨(⟨a1_0_0, a1_0_1⟩ : Api_Part), a1_1, a1_2, a1_3, a1_4⟩ : Api_Entry)].length (fl enc_Api_Entry [(⟨(⟨a1_0_0, a1_0_1⟩ : Api_Part), a1_1, a1_2, a1_3, a1_4⟩ : Api_Entry)])), (sel (done 3) (box b16 139 [(pt (blk (ga11 3)) 0)]) (box b16 139 [(pt b20 0)])), (sel (done 3) (box (blk (ga11 3)) 192 [(ga11 1003)]) (box b20 192 [sv38])), (sel (done 3) (own (ga11 1003) 196 7 x57.2.length (fl enc_Omap_pair__int64__api_Entry x57.2)) (own sv38 196 7 x43.2.length (fl enc_Omap_pair__int64__api_Entry x43.2))), (own sv35 63 2 x39.2.1.length (fl enc_Api_Part x39.2.1)), (own sv36 65 6 x39.2.2.length (fl enc_Api_Entry x39.2.2)), (box b18 59 [sv35, sv36]), A0, A2, (box b15 65 [(Value.int .i64 a1_0_0), (Value.int .i64 a1_0_1), (Value.int .i64 a1_1), (Value.int .i64 a1_2), (Value.int .i64 a1_3), (Value.bool a1_4)])]) (first := []) (cap := []) (xs := [.tmp 78]) rfl rfl F_call_38 rfl (build_Cooled.spec a1_0_0 a1_0_1 a1_1 a1_2 a1_3 a1_4 _ h54) rfl) (by decide) rfl rfl ?_
                        rintro _ _ ⟨_, ⟨g0_, g1_, rfl, rfl⟩, rfl⟩
                        exact ⟨(upb (upb ga11 2 g0_) 1002 g1_), show some [emp, (own g1_ 65 6 x56.2.length (fl enc_Api_Entry x56.2)), (own g0_ 63 2 x56.1.length (fl enc_Api_Part x56.1)), emp, (box b25 65 [(Value.int .i64 a1_0_0), (Value.int .i64 a1_0_1), (Value.int .i64 a1_1), (Value.int .i64 a1_2), (Value.int .i64 a1_3), (Value.bool true)]), (own (ga9 3) 65 6 x48.length (fl enc_Api_Entry x48)), (own (ga9 5) 65 6 [(⟨(⟨a1_0_0, a1_0_1⟩ : Api_Part), a1_1, a1_2, a1_3, a1_4⟩ : Api_Entry)].length (fl enc_Api_Entry [(⟨(⟨a1_0_0, a1_0_1⟩ : Api_Part), a1_1, a1_2, a1_3, a1_4⟩ : Api_Entry)])), (sel (done 3) (box b16 139 [(pt (blk (ga11 3)) 0)]) (box b16 139 [(pt b20 0)])), (sel (done 3) (box (blk (ga11 3)) 192 [(ga11 1003)]) (box b20 192 [sv38])), (sel (done 3) (own (ga11 1003) 196 7 x57.2.length (fl enc_Omap_pair__int64__api_Entry x57.2)) (own sv38 196 7 x43.2.length (fl enc_Omap_pair__int64__api_Entry x43.2))), (own sv35 63 2 x39.2.1.length (fl enc_Api_Part x39.2.1)), (own sv36 65 6 x39.2.2.length (fl enc_Api_Entry x39.2.2)), (box b18 59 [sv35, sv36]), A0, A2, (box b15 65 [(Value.int .i64 a1_0_0), (Value.int .i64 a1_0_1), (Value.int .i64 a1_1), (Value.int .i64 a1_2), (Value.int .i64 a1_3), (Value.bool a1_4)])] = _ by simp [up, upb, sel, hi], (tr_same rfl rfl (tr_same rfl rfl (tr_this (tr_same rfl rfl (tr_same rfl rfl (tr_same rfl rfl (tr_same rfl rfl (tr_same rfl rfl (tr_same rfl rfl (tr_same rfl rfl (tr_same rfl rfl (tr_same rfl rfl (tr_same rfl rfl (tr_same rfl rfl (tr_same rfl rfl tr_nil)))))))))))))))⟩
                      · intro done hi hc hcu
                        refine ent_exi (S := fun ga11 => Z15_I ga11 done) fun ga11 => ?_
                        have d0 : done 0 = true := done_of (j := 0) hcu rfl (by decide) rfl
                        have d2 : done 2 = true := done_of (j := 2) hcu rfl (by decide) rfl
                        refine draw_turnP (i := 3) (t := 80) (x := ga11) (L := (fun (ga11 : Nat → Value) (done : Nat → Bool) => [emp, (sel (done 2) (own (ga11 1002) 65 6 x56.2.length (fl enc_Api_Entry x56.2)) emp), (sel (done 2) (own (ga11 2) 63 2 x56.1.length (fl enc_Api_Part x56.1)) emp), emp, (box b25 65 [(Value.int .i64 a1_0_0), (Value.int .i64 a1_0_1), (Value.int .i64 a1_1), (Value.int .i64 a1_2), (Value.int .i64 a1_3), (Value.bool true)]), (own (ga9 3) 65 6 x48.length (fl enc_Api_Entry x48)), (own (ga9 5) 65 6 [(⟨(⟨a1_0_0, a1_0_1⟩ : Api_Part), a1_1, a1_2, a1_3, a1_4⟩ : Api_Entry)].length (fl enc_Api_Entry [(⟨(⟨a1_0_0, a1_0_1⟩ : Api_Part), a1_1, a1_2, a1_3, a1_4⟩ : Api_Entry)])), (sel (done 3) (box b16 139 [(pt (blk (ga11 3)) 0)]) (box b16 139 [(pt b20 0)])), (sel (done 3) (box (blk (ga11 3)) 192 [(ga11 1003)]) (box b20 192 [sv38])), (sel (done 3) (own (ga11 1003) 196 7 x57.2.length (fl enc_Omap_pair__int64__api_Entry x57.2)) (own sv38 196 7 x43.2.length (fl enc_Omap_pair__int64__api_Entry x43.2))), (own sv35 63 2 x39.2.1.length (fl enc_Api_Part x39.2.1)), (own sv36 65 6 x39.2.2.length (fl enc_Api_Entry x39.2.2)), (box b18 59 [sv35, sv36]), A0, A2, (box b15 65 [(Value.int .i64 a1_0_0), (Value.int .i64 a1_0_1), (Value.int .i64 a1_1), (Value.int .i64 a1_2), (Value.int .i64 a1_3), (Value.bool a1_4)])])) (T := (fun ga11 : Nat → Value => [(0, 77, (pt b16 0)), (1, 78, (Value.agg #[(Value.int .i64 a1_0_0), (Value.int .i64 a1_0_1), (Value.int .i64 a1_1), (Value.int .i64 a1_2), (Value.int .i64 a1_3), (Value.bool a1_4)])), (2, 79, (Value.agg #[(ga11 2), (ga11 1002)])), (3, 80, (Value.int .i64 x57.1)), (4, 81, (Value.bool (x57.1 != 0))), (5, 82, (Value.bool (x57.1 != 0))), (6, 83, undef), (7, 84, undef), (8, 85, undef), (9, 86, undef), (10, 87, undef), (11, 88, undef), (12, 89, undef), (13, 90, undef), (14, 91, (Value.bool true))])) (L2 := [emp, (own (ga11 1002) 65 6 x56.2.length (fl enc_Api_Entry x56.2)), (own (ga11 2) 63 2 x56.1.length (fl enc_Api_Part x56.1)), emp, (box b25 65 [(Value.int .i64 a1_0_0), (Value.int .i64 a1_0_1), (Value.int .i64 a1_1), (Value.int .i64 a1_2), (Value.int .i64 a1_3), (Value.bool true)]), (own (ga9 3) 65 6 x48.length (fl enc_Api_Entry x48)), (own (ga9 5) 65 6 [(⟨(⟨a1_0_0, a1_0_1⟩ : Api_Part), a1_1, a1_2, a1_3, a1_4⟩ : Api_Entry)].length (fl enc_Api_Entry [(⟨(⟨a1_0_0, a1_0_1⟩ : Api_Part), a1_1, a1_2, a1_3, a1_4⟩ : Api_Entry)])), (box b16 139 [(pt b20 0)]), (box b20 192 [sv38]), (own sv38 196 7 x43.2.length (fl enc_Omap_pair__int64__api_Entry x43.2)), (own sv35 63 2 x39.2.1.length (fl enc_Api_Part x39.2.1)), (own sv36 65 6 x39.2.2.length (fl enc_Api_Entry x39.2.2)), (box b18 59 [sv35, sv36]), A0, A2, (box b15 65 [(Value.int .i64 a1_0_0), (Value.int .i64 a1_0_1), (Value.int .i64 a1_1), (Value.int .i64 a1_2), (Value.int .i64 a1_3), (Value.bool a1_4)])]) [7, 8, 9, 2, 1, 0, 3, 4, 5, 6, 10, 11, 12, 13, 14, 15] [5, 4, 3, 6, 7, 8, 9, 0, 1, 2, 10, 11, 12, 13, 14, 15] rfl rfl (wanted_none rfl) (fun a => (hasA_cons (k := 2) rfl d2 (hasA_cons (k := 0) rfl d0 hasA_base))) (by simp only [d2, hi, sel]) (by decide) rfl (ot_call (Lr := [emp, emp, (box b25 65 [(Value.int .i64 a1_0_0), (Value.int .i64 a1_0_1), (Value.int .i64 a1_1), (Value.int .i64 a1_2), (Value.int .i64 a1_3), (Value.bool true)]), (own (ga9 3) 65 6 x48.length (fl enc_Api_Entry x48)), (own (ga9 5) 65 6 [(⟨(⟨a1_0_0, a1_0_1⟩ : Api_Part), a1_1, a1_2, a1_3, a1_4⟩ : Api_Entry)].length (fl enc_Api_Entry [(⟨(⟨a1_0_0, a1_0_1⟩ : Api_Part), a1_1, a1_2, a1_3, a1_4⟩ : Api_Entry)])), (own sv35 63 2 x39.2.1.length (fl enc_Api_Part x39.2.1)), (own sv36 65 6 x39.2.2.length (fl enc_Api_Entry x39.2.2)), (box b18 59 [sv35, sv36]), A0, A2, (box b15 65 [(Value.int .i64 a1_0_0), (Value.int .i64 a1_0_1), (Value.int .i64 a1_1), (Value.int .i64 a1_2), (Value.int .i64 a1_3), (Value.bool a1_4)])]) (first := []) (cap := []) (xs := [.tmp 77, .tmp 79]) rfl rfl F_call_25 rfl (catalog_Catalog_Apply_OOO.spec K b16 b20 sv38 (ga11 2) (ga11 1002) x43.2 x56.1 x56.2 _ h55) rfl) (by decide) rfl rfl ?_
                        rintro _ _ ⟨_, ⟨g0_, g1_, rfl, rfl⟩, rfl⟩
                        exact ⟨(upb (upb ga11 3 (pt g0_ 0)) 1003 g1_), show some [emp, (own (ga11 1002) 65 6 x56.2.length (fl enc_Api_Entry x56.2)), (own (ga11 2) 63 2 x56.1.length (fl enc_Api_Part x56.1)), emp, (box b25 65 [(Value.int .i64 a1_0_0), (Value.int .i64 a1_0_1), (Value.int .i64 a1_1), (Value.int .i64 a1_2), (Value.int .i64 a1_3), (Value.bool true)]), (own (ga9 3) 65 6 x48.length (fl enc_Api_Entry x48)), (own (ga9 5) 65 6 [(⟨(⟨a1_0_0, a1_0_1⟩ : Api_Part), a1_1, a1_2, a1_3, a1_4⟩ : Api_Entry)].length (fl enc_Api_Entry [(⟨(⟨a1_0_0, a1_0_1⟩ : Api_Part), a1_1, a1_2, a1_3, a1_4⟩ : Api_Entry)])), (box b16 139 [(pt (blk (pt g0_ 0)) 0)]), (box (blk (pt g0_ 0)) 192 [g1_]), (own g1_ 196 7 x57.2.length (fl enc_Omap_pair__int64__api_Entry x57.2)), (own sv35 63 2 x39.2.1.length (fl enc_Api_Part x39.2.1)), (own sv36 65 6 x39.2.2.length (fl enc_Api_Entry x39.2.2)), (box b18 59 [sv35, sv36]), A0, A2, (box b15 65 [(Value.int .i64 a1_0_0), (Value.int .i64 a1_0_1), (Value.int .i64 a1_1), (Value.int .i64 a1_2), (Value.int .i64 a1_3), (Value.bool a1_4)])] = _ by simp [up, upb, sel, d2, hi], (tr_same rfl rfl (tr_same rfl rfl (tr_same rfl rfl (tr_this (tr_same rfl rfl (tr_same rfl rfl (tr_same rfl rfl (tr_same rfl rfl (tr_same rfl rfl (tr_same rfl rfl (tr_same rfl rfl (tr_same rfl rfl (tr_same rfl rfl (tr_same rfl rfl (tr_same rfl rfl tr_nil)))))))))))))))⟩
                      · intro done hi hc hcu
                        refine draw_exi (I := Z15_I) fun ga11 => ?_
                        have d3 : done 3 = true := done_of (j := 3) hcu rfl (by decide) rfl
                        exact draw_value (i := 4) (t := 81) (v := (Value.bool (x57.1 != 0))) rfl rfl (wanted_none rfl) (fun a => (hasA_cons (k := 3) rfl d3 hasA_base)) (ov_bin rfl rfl (b_neq _ _ _)) rfl rfl (onlyT_spec (k0 := 4) rfl rfl rfl)
                      · intro done hi hc hcu
                        refine draw_exi (I := Z15_I) fun ga11 => ?_
                        have d4 : done 4 = true := done_of (j := 4) hcu rfl (by decide) rfl
                        exact draw_value (i := 5) (t := 82) (v := (Value.bool (x57.1 != 0))) rfl rfl (wanted_none rfl) (fun a => (hasA_cons (k := 4) rfl d4 hasA_base)) (ov_move rfl) rfl rfl (onlyT_spec (k0 := 5) rfl rfl rfl)
                      · intro done hi hc hcu
                        refine draw_exi (I := Z15_I) fun ga11 => ?_
                        have d5 : done 5 = true := done_of (j := 5) hcu rfl (by decide) rfl
                        exact draw_off (i := 6) (t := 83) rfl rfl (wanted_off rfl rfl rfl (ne_t c39)) (fun a => (hasA_cons (k := 5) rfl d5 hasA_base)) rfl rfl (onlyT_spec (k0 := 6) rfl rfl rfl)
                      · intro done hi hc hcu
                        refine draw_exi (I := Z15_I) fun ga11 => ?_
                        have d5 : done 5 = true := done_of (j := 5) hcu rfl (by decide) rfl
                        exact draw_off (i := 7) (t := 84) rfl rfl (wanted_off rfl rfl rfl (ne_t c39)) (fun a => (hasA_cons (k := 5) rfl d5 hasA_base)) rfl rfl (onlyT_spec (k0 := 7) rfl rfl rfl)
                      · intro done hi hc hcu
                        refine draw_exi (I := Z15_I) fun ga11 => ?_
                        have d5 : done 5 = true := done_of (j := 5) hcu rfl (by decide) rfl
                        exact draw_off (i := 8) (t := 85) rfl rfl (wanted_off rfl rfl rfl (ne_t c39)) (fun a => (hasA_cons (k := 5) rfl d5 hasA_base)) rfl rfl (onlyT_spec (k0 := 8) rfl rfl rfl)
                      · intro done hi hc hcu
                        refine draw_exi (I := Z15_I) fun ga11 => ?_
                        have d5 : done 5 = true := done_of (j := 5) hcu rfl (by decide) rfl
                        exact draw_off (i := 9) (t := 86) rfl rfl (wanted_off rfl rfl rfl (ne_t c39)) (fun a => (hasA_cons (k := 5) rfl d5 hasA_base)) rfl rfl (onlyT_spec (k0 := 9) rfl rfl rfl)
                      · intro done hi hc hcu
                        refine draw_exi (I := Z15_I) fun ga11 => ?_
                        have d5 : done 5 = true := done_of (j := 5) hcu rfl (by decide) rfl
                        exact draw_off (i := 10) (t := 87) rfl rfl (wanted_off rfl rfl rfl (ne_t c39)) (fun a => (hasA_cons (k := 5) rfl d5 hasA_base)) rfl rfl (onlyT_spec (k0 := 10) rfl rfl rfl)
                      · intro done hi hc hcu
                        refine draw_exi (I := Z15_I) fun ga11 => ?_
                        have d5 : done 5 = true := done_of (j := 5) hcu rfl (by decide) rfl
                        exact draw_off (i := 11) (t := 88) rfl rfl (wanted_off rfl rfl rfl (ne_t c39)) (fun a => (hasA_cons (k := 5) rfl d5 hasA_base)) rfl rfl (onlyT_spec (k0 := 11) rfl rfl rfl)
                      · intro done hi hc hcu
                        refine draw_exi (I := Z15_I) fun ga11 => ?_
                        have d5 : done 5 = true := done_of (j := 5) hcu rfl (by decide) rfl
                        exact draw_off (i := 12) (t := 89) rfl rfl (wanted_off rfl rfl rfl (ne_t c39)) (fun a => (hasA_cons (k := 5) rfl d5 hasA_base)) rfl rfl (onlyT_spec (k0 := 12) rfl rfl rfl)
                      · intro done hi hc hcu
                        refine draw_exi (I := Z15_I) fun ga11 => ?_
                        have d5 : done 5 = true := done_of (j := 5) hcu rfl (by decide) rfl
                        exact draw_off (i := 13) (t := 90) rfl rfl (wanted_off rfl rfl rfl (ne_t c39)) (fun a => (hasA_cons (k := 5) rfl d5 hasA_base)) rfl rfl (onlyT_spec (k0 := 13) rfl rfl rfl)
                      · intro done hi hc hcu
                        refine draw_exi (I := Z15_I) fun ga11 => ?_
                        have d5 : done 5 = true := done_of (j := 5) hcu rfl (by decide) rfl
                        have d13 : done 13 = true := done_of (j := 13) hcu rfl (by decide) rfl
                        exact draw_value (i := 14) (t := 91) (v := (Value.bool true)) rfl rfl (wanted_none rfl) (fun a => (hasA_cons (k := 13) rfl d13 (hasA_cons (k := 5) rfl d5 hasA_base))) (ov_pick rfl rfl rfl (pick_t (ne_t c39))) rfl rfl (onlyT_spec (k0 := 14) rfl rfl rfl)
                    · intro done hall
                      refine ent_exi (S := fun ga11 => Z15_I ga11 done) fun ga11 => ?_
                      refine draw_endL [emp, (own (ga11 1002) 65 6 x56.2.length (fl enc_Api_Entry x56.2)), (own (ga11 2) 63 2 x56.1.length (fl enc_Api_Part x56.1)), emp, (box b25 65 [(Value.int .i64 a1_0_0), (Value.int .i64 a1_0_1), (Value.int .i64 a1_1), (Value.int .i64 a1_2), (Value.int .i64 a1_3), (Value.bool true)]), (own (ga9 3) 65 6 x48.length (fl enc_Api_Entry x48)), (own (ga9 5) 65 6 [(⟨(⟨a1_0_0, a1_0_1⟩ : Api_Part), a1_1, a1_2, a1_3, a1_4⟩ : Api_Entry)].length (fl enc_Api_Entry [(⟨(⟨a1_0_0, a1_0_1⟩ : Api_Part), a1_1, a1_2, a1_3, a1_4⟩ : Api_Entry)])), (box b16 139 [(pt (blk (ga11 3)) 0)]), (box (blk (ga11 3)) 192 [(ga11 1003)]), (own (ga11 1003) 196 7 x57.2.length (fl enc_Omap_pair__int64__api_Entry x57.2)), (own sv35 63 2 x39.2.1.length (fl enc_Api_Part x39.2.1)), (own sv36 65 6 x39.2.2.length (fl enc_Api_Entry x39.2.2)), (box b18 59 [sv35, sv36]), A0, A2, (box b15 65 [(Value.int .i64 a1_0_0), (Value.int .i64 a1_0_1), (Value.int .i64 a1_1), (Value.int .i64 a1_2), (Value.int .i64 a1_3), (Value.bool a1_4)])] (by simp only [hall 2 (by decide), hall 3 (by decide), sel]) (fun a => (hasA_cons (k := 0) rfl (hall 0 (by decide)) (hasA_cons (k := 1) rfl (hall 1 (by decide)) (hasA_cons (k := 2) rfl (hall 2 (by decide)) (hasA_cons (k := 3) rfl (hall 3 (by decide)) (hasA_cons (k := 4) rfl (hall 4 (by decide)) (hasA_cons (k := 5) rfl (hall 5 (by decide)) (hasA_cons (k := 6) rfl (hall 6 (by decide)) (hasA_cons (k := 7) rfl (hall 7 (by decide)) (hasA_cons (k := 8) rfl (hall 8 (by decide)) (hasA_cons (k := 9) rfl (hall 9 (by decide)) (hasA_cons (k := 10) rfl (hall 10 (by decide)) (hasA_cons (k := 11) rfl (hall 11 (by decide)) (hasA_cons (k := 12) rfl (hall 12 (by decide)) (hasA_cons (k := 13) rfl (hall 13 (by decide)) (hasA_cons (k := 14) rfl (hall 14 (by decide)) hasA_base)))))))))))))))) ?_
                      refine ent_cond_true rfl rfl ?_
                      refine ent_seq ?_
                      refine ent_region ?_
                      refine ent_value (ov_assign rfl) rfl rfl rfl ?_
                      refine ent_nil ?_
                      refine ent_retc ?_
                      cases H4
                      have H5 := Option.some.inj (show some _ = some _ from H)
                      cases H5
                      refine ent_pick [13] (by decide) rfl ?_
                      exact ret_tmp rfl rfl ⟨rfl, rfl⟩
                  · rw [if_neg c39] at H4
                    obtain ⟨x58, h56, H4⟩ := Option.bind_eq_some_iff.1 H4
                    obtain ⟨x59, h57, H4⟩ := Option.bind_eq_some_iff.1 H4
                    let Z16_I : (Nat → Value) → (Nat → Bool) → Act → World → Prop := fun (ga11 : Nat → Value) done a w => StD 119 w0 F [(0, sv0), (1, (Value.agg #[(Value.int .i64 a1_0_0), (Value.int .i64 a1_0_1), (Value.int .i64 a1_1), (Value.int .i64 a1_2), (Value.int .i64 a1_3), (Value.bool a1_4)])), (3, (pt b15 0)), (4, (Value.bool false)), (5, (pt b16 0)), (6, sv34), (7, (pt b18 0)), (8, (Value.int .i64 x39.1)), (9, (Value.int .i64 x44.1)), (10, (Value.int .i64 x44.2)), (11, (pt b25 0)), (13, sv0), (14, (Value.int .i64 (l0.length : Int))), (15, (Value.bool (decide (40 < (l0.length : Int))))), (17, (Value.tuple #[(pt b16 0), sv34])), (18, sv0), (19, (Value.tuple #[(pt b16 0), sv34])), (20, (pt b16 0)), (21, sv34), (22, (Value.tuple #[(Value.agg #[sv35, sv36]), (Value.int .i64 x39.1)])), (23, (pt b16 0)), (24, (Value.agg #[(Value.int .i64 a1_0_0), (Value.int .i64 a1_0_1), (Value.int .i64 a1_1), (Value.int .i64 a1_2), (Value.int .i64 a1_3), (Value.bool a1_4)])), (25, (Value.tuple #[(Value.agg #[sv35, sv36]), (Value.int .i64 x39.1)])), (26, (Value.agg #[sv35, sv36])), (27, (Value.int .i64 x39.1)), (28, (Value.int .i64 x39.1)), (29, (Value.bool (x39.1 != 0))), (41, (pt b16 0)), (42, (Value.agg #[sv35, sv36])), (43, (Value.int .i64 x43.1)), (44, (Value.bool (x43.1 != 0))), (45, (Value.tuple #[(Value.int .i64 x44.1), (Value.int .i64 x44.2)])), (46, (pt b15 0)), (47, (Value.agg #[(Value.int .i64 a1_0_0), (Value.int .i64 a1_0_1)])), (48, (Value.tuple #[(Value.int .i64 x44.1), (Value.int .i64 x44.2)])), (49, (Value.int .i64 x44.1)), (50, (Value.int .i64 x44.2)), (51, (pt b16 0)), (52, (Value.int .i64 x44.1)), (53, (Value.int .i64 x44.2)), (54, (ga9 3)), (55, (Value.agg #[(Value.int .i64 a1_0_0), (Value.int .i64 a1_0_1), (Value.int .i64 a1_1), (Value.int .i64 a1_2), (Value.int .i64 a1_3), (Value.bool a1_4)])), (56, (ga9 5)), (57, (Value.bool x49)), (58, (Value.bool (!x49))), (59, (Value.bool (!x49))), (60, (pt b16 0)), (61, (Value.int .i64 x50)), (62, sv34), (63, (Value.int .i64 (x38.2.length : Int))), (64, (pt b18 0)), (65, sv35), (66, (Value.int .i64 (x39.2.1.length : Int))), (67, (Value.int .i64 (w64 ((x38.2.length : Int) - (x39.2.1.length : Int))))), (68, (Value.int .i64 (w64 ((w64 ((x38.2.length : Int) - (x39.2.1.length : Int))) + 1)))), (69, (Value.bool (x50 != (w64 ((w64 ((x38.2.length : Int) - (x39.2.1.length : Int))) + 1))))), (70, (Value.bool (x50 != (w64 ((w64 ((x38.2.length : Int) - (x39.2.1.length : Int))) + 1))))), (71, (pt b15 0)), (72, (pt b15 0)), (73, (Value.int .i64 a1_0_0)), (74, (Value.bool (a1_0_0 == 3))), (75, (Value.agg #[(Value.int .i64 a1_0_0), (Value.int .i64 a1_0_1), (Value.int .i64 a1_1), (Value.int .i64 a1_2), (Value.int .i64 a1_3), (Value.bool a1_4)])), (76, (pt b25 5))] [(0, 77, (pt b16 0)), (1, 78, (Value.agg #[(Value.int .i64 a1_0_0), (Value.int .i64 a1_0_1), (Value.int .i64 a1_1), (Value.int .i64 a1_2), (Value.int .i64 a1_3), (Value.bool a1_4)])), (2, 79, (Value.agg #[(ga11 2), (ga11 1002)])), (3, 80, (Value.int .i64 x57.1)), (4, 81, (Value.bool (x57.1 != 0))), (5, 82, (Value.bool (x57.1 != 0))), (6, 83, (pt b16 0)), (7, 84, (Value.int .i64 x44.1)), (8, 85, (Value.int .i64 x44.2)), (9, 86, (ga11 9)), (10, 87, (Value.agg #[(Value.int .i64 a1_0_0), (Value.int .i64 a1_0_1), (Value.int .i64 a1_1), (Value.int .i64 a1_2), (Value.int .i64 a1_3), (Value.bool true)])), (11, 88, (ga11 11)), (12, 89, (Value.bool x59)), (13, 90, (Value.bool (!x59))), (14, 91, (Value.bool (!x59)))] done [(sel (done 9) (own (ga11 9) 65 6 x58.length (fl enc_Api_Entry x58)) emp), (sel (done 2) (own (ga11 1002) 65 6 x56.2.length (fl enc_Api_Entry x56.2)) emp), (sel (done 2) (own (ga11 2) 63 2 x56.1.length (fl enc_Api_Part x56.1)) emp), (sel (done 11) (own (ga11 11) 65 6 [(⟨(⟨a1_0_0, a1_0_1⟩ : Api_Part), a1_1, a1_2, a1_3, true⟩ : Api_Entry)].length (fl enc_Api_Entry [(⟨(⟨a1_0_0, a1_0_1⟩ : Api_Part), a1_1, a1_2, a1_3, true⟩ : Api_Entry)])) emp), (box b25 65 [(Value.int .i64 a1_0_0), (Value.int .i64 a1_0_1), (Value.int .i64 a1_1), (Value.int .i64 a1_2), (Value.int .i64 a1_3), (Value.bool true)]), (own (ga9 3) 65 6 x48.length (fl enc_Api_Entry x48)), (own (ga9 5) 65 6 [(⟨(⟨a1_0_0, a1_0_1⟩ : Api_Part), a1_1, a1_2, a1_3, a1_4⟩ : Api_Entry)].length (fl enc_Api_Entry [(⟨(⟨a1_0_0, a1_0_1⟩ : Api_Part), a1_1, a1_2, a1_3, a1_4⟩ : Api_Entry)])), (sel (done 3) (box b16 139 [(pt (blk (ga11 3)) 0)]) (box b16 139 [(pt b20 0)])), (sel (done 3) (box (blk (ga11 3)) 192 [(ga11 1003)]) (box b20 192 [sv38])), (sel (done 3) (own (ga11 1003) 196 7 x57.2.length (fl enc_Omap_pair__int64__api_Entry x57.2)) (own sv38 196 7 x43.2.length (fl enc_Omap_pair__int64__api_Entry x43.2))), (own sv35 63 2 x39.2.1.length (fl enc_Api_Part x39.2.1)), (own sv36 65 6 x39.2.2.length (fl enc_Api_Entry x39.2.2)), (box b18 59 [sv35, sv36]), A0, A2, (box b15 65 [(Value.int .i64 a1_0_0), (Value.int .i64 a1_0_1), (Value.int .i64 a1_1), (Value.int .i64 a1_2), (Value.int .i64 a1_3), (Value.bool a1_4)])] a w
                    refine ent_drawm 15 rfl (fun done a w => ∃ ga11 : Nat → Value, Z16_I ga11 done a w) (by kernel_rfl) (by kernel_rfl) (draw_startG (T := (fun ga11 : Nat → Value => [(0, 77, (pt b16 0)), (1, 78, (Value.agg #[(Value.int .i64 a1_0_0), (Value.int .i64 a1_0_1), (Value.int .i64 a1_1), (Value.int .i64 a1_2), (Value.int .i64 a1_3), (Value.bool a1_4)])), (2, 79, (Value.agg #[(ga11 2), (ga11 1002)])), (3, 80, (Value.int .i64 x57.1)), (4, 81, (Value.bool (x57.1 != 0))), (5, 82, (Value.bool (x57.1 != 0))), (6, 83, (pt b16 0)), (7, 84, (Value.int .i64 x44.1)), (8, 85, (Value.int .i64 x44.2)), (9, 86, (ga11 9)), (10, 87, (Value.agg #[(Value.int .i64 a1_0_0), (Value.int .i64 a1_0_1), (Value.int .i64 a1_1), (Value.int .i64 a1_2), (Value.int .i64 a1_3), (Value.bool true)])), (11, 88, (ga11 11)), (12, 89, (Value.bool x59)), (13, 90, (Value.bool (!x59))), (14, 91, (Value.bool (!x59)))])) (L' := fun ga11 : Nat → Value => [(sel false (own (ga11 9) 65 6 x58.length (fl enc_Api_Entry x58)) emp), (sel false (own (ga11 1002) 65 6 x56.2.length (fl enc_Api_Entry x56.2)) emp), (sel false (own (ga11 2) 63 2 x56.1.length (fl enc_Api_Part x56.1)) emp), (sel false (own (ga11 11) 65 6 [(⟨(⟨a1_0_0, a1_0_1⟩ : Api_Part), a1_1, a1_2, a1_3, true⟩ : Api_Entry)].length (fl enc_Api_Entry [(⟨(⟨a1_0_0, a1_0_1⟩ : Api_Part), a1_1, a1_2, a1_3, true⟩ : Api_Entry)])) emp), (box b25 65 [(Value.int .i64 a1_0_0), (Value.int .i64 a1_0_1), (Value.int .i64 a1_1), (Value.int .i64 a1_2), (Value.int .i64 a1_3), (Value.bool true)]), (own (ga9 3) 65 6 x48.length (fl enc_Api_Entry x48)), (own (ga9 5) 65 6 [(⟨(⟨a1_0_0, a1_0_1⟩ : Api_Part), a1_1, a1_2, a1_3, a1_4⟩ : Api_Entry)].length (fl enc_Api_Entry [(⟨(⟨a1_0_0, a1_0_1⟩ : Api_Part), a1_1, a1_2, a1_3, a1_4⟩ : Api_Entry)])), (sel false (box b16 139 [(pt (blk (ga11 3)) 0)]) (box b16 139 [(pt b20 0)])), (sel false (box (blk (ga11 3)) 192 [(ga11 1003)]) (box b20 192 [sv38])), (sel false (own (ga11 1003) 196 7 x57.2.length (fl enc_Omap_pair__int64__api_Entry x57.2)) (own sv38 196 7 x43.2.length (fl enc_Omap_pair__int64__api_Entry x43.2))), (own sv35 63 2 x39.2.1.length (fl enc_Api_Part x39.2.1)), (own sv36 65 6 x39.2.2.length (fl enc_Api_Entry x39.2.2)), (box b18 59 [sv35, sv36]), A0, A2, (box b15 65 [(Value.int .i64 a1_0_0), (Value.int .i64 a1_0_1), (Value.int .i64 a1_1), (Value.int .i64 a1_2), (Value.int .i64 a1_3), (Value.bool a1_4)])]) 4 (sub_cons (t := 0) rfl (sub_cons (t := 1) rfl (sub_cons (t := 3) rfl (sub_cons (t := 4) rfl (sub_cons (t := 5) rfl (sub_cons (t := 6) rfl (sub_cons (t := 7) rfl (sub_cons (t := 8) rfl (sub_cons (t := 9) rfl (sub_cons (t := 10) rfl (sub_cons (t := 11) rfl (sub_cons (t := 13) rfl (sub_cons (t := 14) rfl (sub_cons (t := 15) rfl (sub_cons (t := 17) rfl (sub_cons (t := 18) rfl (sub_cons (t := 19) rfl (sub_cons (t := 20) rfl (sub_cons (t := 21) rfl (sub_cons (t := 22) rfl (sub_cons (t := 23) rfl (sub_cons (t := 24) rfl (sub_cons (t := 25) rfl (sub_cons (t := 26) rfl (sub_cons (t := 27) rfl (sub_cons (t := 28) rfl (sub_cons (t := 29) rfl (sub_cons (t := 41) rfl (sub_cons (t := 42) rfl (sub_cons (t := 43) rfl (sub_cons (t := 44) rfl (sub_cons (t := 45) rfl (sub_cons (t := 46) rfl (sub_cons (t := 47) rfl (sub_cons (t := 48) rfl (sub_cons (t := 49) rfl (sub_cons (t := 50) rfl (sub_cons (t := 51) rfl (sub_cons (t := 52) rfl (sub_cons (t := 53) rfl (sub_cons (t := 54) rfl (sub_cons (t := 55) rfl (sub_cons (t := 56) rfl (sub_cons (t := 57) rfl (sub_cons (t := 58) rfl (sub_cons (t := 59) rfl (sub_cons (t := 60) rfl (sub_cons (t := 61) rfl (sub_cons (t := 62) rfl (sub_cons (t := 63) rfl (sub_cons (t := 64) rfl (sub_cons (t := 65) rfl (sub_cons (t := 66) rfl (sub_cons (t := 67) rfl (sub_cons (t := 68) rfl (sub_cons (t := 69) rfl (sub_cons (t := 70) rfl (sub_cons (t := 71) rfl (sub_cons (t := 72) rfl (sub_cons (t := 73) rfl (sub_cons (t := 74) rfl (sub_cons (t := 75) rfl (sub_cons (t := 76) rfl (sub_nil _)))))))))))))))))))))))))))))))))))))))))))))))))))))))))))))))) (fun _ => rfl)) ?_ ?_
                    · refine ⟨?_, ?_, ?_, ?_, ?_, ?_, ?_, ?_, ?_, ?_, ?_, ?_, ?_, ?_, ?_, trivial⟩
                      · intro done hi hc hcu
                        refine draw_exi (I := Z16_I) fun ga11 => ?_
                        exact draw_value (i := 0) (t := 77) (v := (pt b16 0)) rfl rfl (wanted_none rfl) (fun a => hasA_base) (ov_move rfl) rfl rfl (onlyT_spec (k0 := 0) rfl rfl rfl)
                      · intro done hi hc hcu
                        refine draw_exi (I := Z16_I) fun ga11 => ?_
                        exact draw_value (i := 1) (t := 78) (v := (Value.agg #[(Value.int .i64 a1_0_0), (Value.int .i64 a1_0_1), (Value.int .i64 a1_1), (Value.int .i64 a1_2), (Value.int .i64 a1_3), (Value.bool a1_4)])) rfl rfl (wanted_none rfl) (fun a => hasA_base) (ov_load_agg (vs := [(Value.int .i64 a1_0_0), (Value.int .i64 a1_0_1), (Value.int .i64 a1_1), (Value.int .i64 a1_2), (Value.int .i64 a1_3), (Value.bool a1_4)]) rfl F_agg_65 F_size_65 (reads_boxW (i := 15) rfl)) rfl rfl (onlyT_spec (k0 := 1) rfl rfl rfl)
                      · intro done hi hc hcu
                        refine ent_exi (S := fun ga11 => Z16_I ga11 done) fun ga11 => ?_
                        have d1 : done 1 = true := done_of (j := 1) hcu rfl (by decide) rfl
                        refine draw_turnP (i := 2) (t := 79) (x := ga11) (L := (fun (ga11 : Nat → Value) (done : Nat → Bool) => [(sel (done 9) (own (ga11 9) 65 6 x58.length (fl enc_Api_Entry x58)) emp), (sel (done 2) (own (ga11 1002) 65 6 x56.2.length (fl enc_Api_Entry x56.2)) emp), (sel (done 2) (own (ga11 2) 63 2 x56.1.length (fl enc_Api_Part x56.1)) emp), (sel (done 11) (own (ga11 11) 65 6 [(⟨(⟨a1_0_0, a1_0_1⟩ : Api_Part), a1_1, a1_2, a1_3, true⟩ : Api_Entry)].length (fl enc_Api_Entry [(⟨(⟨a1_0_0, a1_0_1⟩ : Api_Part), a1_1, a1_2, a1_3, true⟩ : Api_Entry)])) emp), (box b25 65 [(Value.int .i64 a1_0_0), (Value.int .i64 a1_0_1), (Value.int .i64 a1_1), (Value.int .i64 a1_2), (Value.int .i64 a1_3), (Value.bool true)]), (own (ga9 3) 65 6 x48.length (fl enc_Api_Entry x48)), (own (ga9 5) 65 6 [(⟨(⟨a1_0_0, a1_0_1⟩ : Api_Part), a1_1, a1_2, a1_3, a1_4⟩ : Api_Entry)].length (fl enc_Api_Entry [(⟨(⟨a1_0_0, a1_0_1⟩ : Api_Part), a1_1, a1_2, a1_3, a1_4⟩ : Api_Entry)])), (sel (done 3) (box b16 139 [(pt (blk (ga11 3)) 0)]) (box b16 139 [(pt b20 0)])), (sel (done 3) (box (blk (ga11 3)) 192 [(ga11 1003)]) (box b20 192 [sv38])), (sel (done 3) (own (ga11 1003) 196 7 x57.2.length (fl enc_Omap_pair__int64__api_Entry x57.2)) (own sv38 196 7 x43.2.length (fl enc_Omap_pair__int64__api_Entry x43.2))), (own sv35 63 2 x39.2.1.length (fl enc_Api_Part x39.2.1)), (own sv36 65 6 x39.2.2.length (fl enc_Api_Entry x39.2.2)), (box b18 59 [sv35, sv36]), A0, A2, (box b15 65 [(Value.int .i64 a1_0_0), (Value.int .i64 a1_0_1), (Value.int .i64 a1_1), (Value.int .i64 a1_2), (Value.int .i64 a1_3), (Value.bool a1_4)])])) (T := (fun ga11 : Nat → Value => [(0, 77, (pt b16 0)), (1, 78, (Value.agg #[(Value.int .i64 a1_0_0), (Value.int .i64 a1_0_1), (Value.int .i64 a1_1), (Value.int .i64 a1_2), (Value.int .i64 a1_3), (Value.bool a1_4)])), (2, 79, (Value.agg #[(ga11 2), (ga11 1002)])), (3, 80, (Value.int .i64 x57.1)), (4, 81, (Value.bool (x57.1 != 0))), (5, 82, (Value.bool (x57.1 != 0))), (6, 83, (pt b16 0)), (7, 84, (Value.int .i64 x44.1)), (8, 85, (Value.int .i64 x44.2)), (9, 86, (ga11 9)), (10, 87, (Value.agg #[(Value.int .i64 a1_0_0), (Value.int .i64 a1_0_1), (Value.int .i64 a1_1), (Value.int .i64 a1_2), (Value.int .i64 a1_3), (Value.bool true)])), (11, 88, (ga11 11)), (12, 89, (Value.bool x59)), (13, 90, (Value.bool (!x59))), (14, 91, (Value.bool (!x59)))])) (L2 := [(sel (done 9) (own (ga11 9) 65 6 x58.length (fl enc_Api_Entry x58)) emp), emp, emp, (sel (done 11) (own (ga11 11) 65 6 [(⟨(⟨a1_0_0, a1_0_1⟩ : Api_Part), a1_1, a1_2, a1_3, true⟩ : Api_Entry)].length (fl enc_Api_Entry [(⟨(⟨a1_0_0, a1_0_1⟩ : Api_Part), a1_1, a1_2, a1_3, true⟩ : Api_Entry)])) emp), (box b25 65 [(Value.int .i64 a1_0_0), (Value.int .i64 a1_0_1), (Value.int .i64 a1_1), (Value.int .i64 a1_2), (Value.int .i64 a1_3), (Value.bool true)]), (own (ga9 3) 65 6 x48.length (fl enc_Api_Entry x48)), (own (ga9 5) 65 6 [(⟨(⟨a1_0_0, a1_0_1⟩ : Api_Part), a1_1, a1_2, a1_3, a1_4⟩ : Api_Entry)].length (fl enc_Api_Entry [(⟨(⟨a1_0_0, a1_0_1⟩ : Api_Part), a1_1, a1_2, a1_3, a1_4⟩ : Api_Entry)])), (sel (done 3) (box b16 139 [(pt (blk (ga11 3)) 0)]) (box b16 139 [(pt b20 0)])), (sel (done 3) (box (blk (ga11 3)) 192 [(ga11 1003)]) (box b20 192 [sv38])), (sel (done 3) (own (ga11 1003) 196 7 x57.2.length (fl enc_Omap_pair__int64__api_Entry x57.2)) (own sv38 196 7 x43.2.length (fl enc_Omap_pair__int64__api_Entry x43.2))), (own sv35 63 2 x39.2.1.length (fl enc_Api_Part x39.2.1)), (own sv36 65 6 x39.2.2.length (fl enc_Api_Entry x39.2.2)), (box b18 59 [sv35, sv36]), A0, A2, (box b15 65 [(Value.int .i64 a1_0_0), (Value.int .i64 a1_0_1), (Value.int .i64 a1_1), (Value.int .i64 a1_2), (Value.int .i64 a1_3), (Value.bool a1_4)])]) [0, 1, 2, 3, 4, 5, 6, 7, 8, 9, 10, 11, 12, 13, 14, 15] [2, 1, 0, 5, 6, 7, 8, 9, 10, 11, 12, 13, 14, 15, 16, 17] rfl rfl (wanted_none rfl) (fun a => (hasA_cons (k := 1) rfl d1 hasA_base)) (by simp only [hi, sel]) (by decide) rfl (ot_call (Lr := [(sel (done 9) (own (ga11 9) 65 6 x58.length (fl enc_Api_Entry x58)) emp), emp, emp, (sel (done 11) (own (ga11 11) 65 6 [(⟨(⟨a1_0_0, a1_0_1⟩ : Api_Part), a1_1, a1_2, a1_3, true⟩ : Api_Entry)].length (fl enc_Api_Entry [(⟨(⟨a1_0_0, a1_0_1⟩ : Api_Part), a1_1, a1_2, a1_3, true⟩ : Api_Entry)])) emp), (box b25 65 [(Value.int .i64 a1_0_0), (Value.int .i64 a1_0_1), (Value.int .i64 a1_1), (Value.int .i64 a1_2), (Value.int .i64 a1_3), (Value.bool true)]), (own (ga9 3) 65 6 x48.length (fl enc_Api_Entry x48)), (own (ga9 5) 65 6 [(⟨(⟨a1_0_0, a1_0_1⟩ : Api_Part), a1_1, a1_2, a1_3, a1_4⟩ : Api_Entry)].length (fl enc_Api_Entry [(⟨(⟨a1_0_0, a1_0_1⟩ : Api_Part), a1_1, a1_2, a1_3, a1_4⟩ : Api_Entry)])), (sel (done 3) (box b16 139 [(pt (blk (ga11 3)) 0)]) (box b16 139 [(pt b20 0)])), (sel (done 3) (box (blk (ga11 3)) 192 [(ga11 1003)]) (box b20 192 [sv38])), (sel (done 3) (own (ga11 1003) 196 7 x57.2.length (fl enc_Omap_pair__int64__api_Entry x57.2)) (own sv38 196 7 x43.2.length (fl enc_Omap_pair__int64__api_Entry x43.2))), (own sv35 63 2 x39.2.1.length (fl enc_Api_Part x39.2.1)), (own sv36 65 6 x39.2.2.length (fl enc_Api_Entry x39.2.2)), (box b18 59 [sv35, sv36]), A0, A2, (box b15 65 [(Value.int .i64 a1_0_0), (Value.int .i64 a1_0_1), (Value.int .i64 a1_1), (Value.int .i64 a1_2), (Value.int .i64 a1_3), (Value.bool a1_4)])]) (first := []) (cap := []) (xs := [.tmp 78]) rfl rfl F_call_38 rfl (build_Cooled.spec a1_0_0 a1_0_1 a1_1 a1_2 a1_3 a1_4 _ h54) rfl) (by decide) rfl rfl ?_
                        rintro _ _ ⟨_, ⟨g0_, g1_, rfl, rfl⟩, rfl⟩
                        exact ⟨(upb (upb ga11 2 g0_) 1002 g1_), show some [(sel (done 9) (own (ga11 9) 65 6 x58.length (fl enc_Api_Entry x58)) emp), (own g1_ 65 6 x56.2.length (fl enc_Api_Entry x56.2)), (own g0_ 63 2 x56.1.length (fl enc_Api_Part x56.1)), (sel (done 11) (own (ga11 11) 65 6 [(⟨(⟨a1_0_0, a1_0_1⟩ : Api_Part), a1_1, a1_2, a1_3, true⟩ : Api_Entry)].length (fl enc_Api_Entry [(⟨(⟨a1_0_0, a1_0_1⟩ : Api_Part), a1_1, a1_2, a1_3, true⟩ : Api_Entry)])) emp), (box b25 65 [(Value.int .i64 a1_0_0), (Value.int .i64 a1_0_1), (Value.int .i64 a1_1), (Value.int .i64 a1_2), (Value.int .i64 a1_3), (Value.bool true)]), (own (ga9 3) 65 6 x48.length (fl enc_Api_Entry x48)), (own (ga9 5) 65 6 [(⟨(⟨a1_0_0, a1_0_1⟩ : Api_Part), a1_1, a1_2, a1_3, a1_4⟩ : Api_Entry)].length (fl enc_Api_Entry [(⟨(⟨a1_0_0, a1_0_1⟩ : Api_Part), a1_1, a1_2, a1_3, a1_4⟩ : Api_Entry)])), (sel (done 3) (box b16 139 [(pt (blk (ga11 3)) 0)]) (box b16 139 [(pt b20 0)])), (sel (done 3) (box (blk (ga11 3)) 192 [(ga11 1003)]) (box b20 192 [sv38])), (sel (done 3) (own (ga11 1003) 196 7 x57.2.length (fl enc_Omap_pair__int64__api_Entry x57.2)) (own sv38 196 7 x43.2.length (fl enc_Omap_pair__int64__api_Entry x43.2))), (own sv35 63 2 x39.2.1.length (fl enc_Api_Part x39.2.1)), (own sv36 65 6 x39.2.2.length (fl enc_Api_Entry x39.2.2)), (box b18 59 [sv35, sv36]), A0, A2, (box b15 65 [(Value.int .i64 a1_0_0), (Value.int .i64 a1_0_1), (Value.int .i64 a1_1), (Value.int .i64 a1_2), (Value.int .i64 a1_3), (Value.bool a1_4)])] = _ by simp [up, upb, sel, hi], (tr_same rfl rfl (tr_same rfl rfl (tr_this (tr_same rfl rfl (tr_same rfl rfl (tr_same rfl rfl (tr_same rfl rfl (tr_same rfl rfl (tr_same rfl rfl (tr_same rfl rfl (tr_same rfl rfl (tr_same rfl rfl (tr_same rfl rfl (tr_same rfl rfl (tr_same rfl rfl tr_nil)))))))))))))))⟩
                      · intro done hi hc hcu
                        refine ent_exi (S := fun ga11 => Z16_I ga11 done) fun ga11 => ?_
                        have d0 : done 0 = true := done_of (j := 0) hcu rfl (by decide) rfl
                        have d2 : done 2 = true := done_of (j := 2) hcu rfl (by decide) rfl
                        refine draw_turnP (i := 3) (t := 80) (x := ga11) (L := (fun (ga11 : Nat → Value) (done : Nat → Bool) => [(sel (done 9) (own (ga11 9) 65 6 x58.length (fl enc_Api_Entry x58)) emp), (sel (done 2) (own (ga11 1002) 65 6 x56.2.length (fl enc_Api_Entry x56.2)) emp), (sel (done 2) (own (ga11 2) 63 2 x56.1.length (fl enc_Api_Part x56.1)) emp), (sel (done 11) (own (ga11 11) 65 6 [(⟨(⟨a1_0_0, a1_0_1⟩ : Api_Part), a1_1, a1_2, a1_3, true⟩ : Api_Entry)].length (fl enc_Api_Entry [(⟨(⟨a1_0_0, a1_0_1⟩ : Api_Part), a1_1, a1_2, a1_3, true⟩ : Api_Entry)])) emp), (box b25 65 [(Value.int .i64 a1_0_0), (Value.int .i64 a1_0_1), (Value.int .i64 a1_1), (Value.int .i64 a1_2), (Value.int .i64 a1_3), (Value.bool true)]), (own (ga9 3) 65 6 x48.length (fl enc_Api_Entry x48)), (own (ga9 5) 65 6 [(⟨(⟨a1_0_0, a1_0_1⟩ : Api_Part), a1_1, a1_2, a1_3, a1_4⟩ : Api_Entry)].length (fl enc_Api_Entry [(⟨(⟨a1_0_0, a1_0_1⟩ : Api_Part), a1_1, a1_2, a1_3, a1_4⟩ : Api_Entry)])), (sel (done 3) (box b16 139 [(pt (blk (ga11 3)) 0)]) (box b16 139 [(pt b20 0)])), (sel (done 3) (box (blk (ga11 3)) 192 [(ga11 1003)]) (box b20 192 [sv38])), (sel (done 3) (own (ga11 1003) 196 7 x57.2.length (fl enc_Omap_pair__int64__api_Entry x57.2)) (own sv38 196 7 x43.2.length (fl enc_Omap_pair__int64__api_Entry x43.2))), (own sv35 63 2 x39.2.1.length (fl enc_Api_Part x39.2.1)), (own sv36 65 6 x39.2.2.length (fl enc_Api_Entry x39.2.2)), (box b18 59 [sv35, sv36]), A0, A2, (box b15 65 [(Value.int .i64 a1_0_0), (Value.int .i64 a1_0_1), (Value.int .i64 a1_1), (Value.int .i64 a1_2), (Value.int .i64 a1_3), (Value.bool a1_4)])])) (T := (fun ga11 : Nat → Value => [(0, 77, (pt b16 0)), (1, 78, (Value.agg #[(Value.int .i64 a1_0_0), (Value.int .i64 a1_0_1), (Value.int .i64 a1_1), (Value.int .i64 a1_2), (Value.int .i64 a1_3), (Value.bool a1_4)])), (2, 79, (Value.agg #[(ga11 2), (ga11 1002)])), (3, 80, (Value.int .i64 x57.1)), (4, 81, (Value.bool (x57.1 != 0))), (5, 82, (Value.bool (x57.1 != 0))), (6, 83, (pt b16 0)), (7, 84, (Value.int .i64 x44.1)), (8, 85, (Value.int .i64 x44.2)), (9, 86, (ga11 9)), (10, 87, (Value.agg #[(Value.int .i64 a1_0_0), (Value.int .i64 a1_0_1), (Value.int .i64 a1_1), (Value.int .i64 a1_2), (Value.int .i64 a1_3), (Value.bool true)])), (11, 88, (ga11 11)), (12, 89, (Value.bool x59)), (13, 90, (Value.bool (!x59))), (14, 91, (Value.bool (!x59)))])) (L2 := [(sel (done 9) (own (ga11 9) 65 6 x58.length (fl enc_Api_Entry x58)) emp), (own (ga11 1002) 65 6 x56.2.length (fl enc_Api_Entry x56.2)), (own (ga11 2) 63 2 x56.1.length (fl enc_Api_Part x56.1)), (sel (done 11) (own (ga11 11) 65 6 [(⟨(⟨a1_0_0, a1_0_1⟩ : Api_Part), a1_1, a1_2, a1_3, true⟩ : Api_Entry)].length (fl enc_Api_Entry [(⟨(⟨a1_0_0, a1_0_1⟩ : Api_Part), a1_1, a1_2, a1_3, true⟩ : Api_Entry)])) emp), (box b25 65 [(Value.int .i64 a1_0_0), (Value.int .i64 a1_0_1), (Value.int .i64 a1_1), (Value.int .i64 a1_2), (Value.int .i64 a1_3), (Value.bool true)]), (own (ga9 3) 65 6 x48.length (fl enc_Api_Entry x48)), (own (ga9 5) 65 6 [(⟨(⟨a1_0_0, a1_0_1⟩ : Api_Part), a1_1, a1_2, a1_3, a1_4⟩ : Api_Entry)].length (fl enc_Api_Entry [(⟨(⟨a1_0_0, a1_0_1⟩ : Api_Part), a1_1, a1_2, a1_3, a1_4⟩ : Api_Entry)])), (box b16 139 [(pt b20 0)]), (box b20 192 [sv38]), (own sv38 196 7 x43.2.length (fl enc_Omap_pair__int64__api_Entry x43.2)), (own sv35 63 2 x39.2.1.length (fl enc_Api_Part x39.2.1)), (own sv36 65 6 x39.2.2.length (fl enc_Api_Entry x39.2.2)), (box b18 59 [sv35, sv36]), A0, A2, (box b15 65 [(Value.int .i64 a1_0_0), (Value.int .i64 a1_0_1), (Value.int .i64 a1_1), (Value.int .i64 a1_2), (Value.int .i64 a1_3), (Value.bool a1_4)])]) [7, 8, 9, 2, 1, 0, 3, 4, 5, 6, 10, 11, 12, 13, 14, 15] [5, 4, 3, 6, 7, 8, 9, 0, 1, 2, 10, 11, 12, 13, 14, 15] rfl rfl (wanted_none rfl) (fun a => (hasA_cons (k := 2) rfl d2 (hasA_cons (k := 0) rfl d0 hasA_base))) (by simp only [d2, hi, sel]) (by decide) rfl (ot_call (Lr := [(sel (done 9) (own (ga11 9) 65 6 x58.length (fl enc_Api_Entry x58)) emp), (sel (done 11) (own (ga11 11) 65 6 [(⟨(⟨a1_0_0, a1_0_1⟩ : Api_Part), a1_1, a1_2, a1_3, true⟩ : Api_Entry)].length (fl enc_Api_Entry [(⟨(⟨a1_0_0, a1_0_1⟩ : Api_Part), a1_1, a1_2, a1_3, true⟩ : Api_Entry)])) emp), (box b25 65 [(Value.int .i64 a1_0_0), (Value.int .i64 a1_0_1), (Value.int .i64 a1_1), (Value.int .i64 a1_2), (Value.int .i64 a1_3), (Value.bool true)]), (own (ga9 3) 65 6 x48.length (fl enc_Api_Entry x48)), (own (ga9 5) 65 6 [(⟨(⟨a1_0_0, a1_0_1⟩ : Api_Part), a1_1, a1_2, a1_3, a1_4⟩ : Api_Entry)].length (fl enc_Api_Entry [(⟨(⟨a1_0_0, a1_0_1⟩ : Api_Part), a1_1, a1_2, a1_3, a1_4⟩ : Api_Entry)])), (own sv35 63 2 x39.2.1.length (fl enc_Api_Part x39.2.1)), (own sv36 65 6 x39.2.2.length (fl enc_Api_Entry x39.2.2)), (box b18 59 [sv35, sv36]), A0, A2, (box b15 65 [(Value.int .i64 a1_0_0), (Value.int .i64 a1_0_1), (Value.int .i64 a1_1), (Value.int .i64 a1_2), (Value.int .i64 a1_3), (Value.bool a1_4)])]) (first := []) (cap := []) (xs := [.tmp 77, .tmp 79]) rfl rfl F_call_25 rfl (catalog_Catalog_Apply_OOO.spec K b16 b20 sv38 (ga11 2) (ga11 1002) x43.2 x56.1 x56.2 _ h55) rfl) (by decide) rfl rfl ?_
                        rintro _ _ ⟨_, ⟨g0_, g1_, rfl, rfl⟩, rfl⟩
                        exact ⟨(upb (upb ga11 3 (pt g0_ 0)) 1003 g1_), show some [(sel (done 9) (own (ga11 9) 65 6 x58.length (fl enc_Api_Entry x58)) emp), (own (ga11 1002) 65 6 x56.2.length (fl enc_Api_Entry x56.2)), (own (ga11 2) 63 2 x56.1.length (fl enc_Api_Part x56.1)), (sel (done 11) (own (ga11 11) 65 6 [(⟨(⟨a1_0_0, a1_0_1⟩ : Api_Part), a1_1, a1_2, a1_3, true⟩ : Api_Entry)].length (fl enc_Api_Entry [(⟨(⟨a1_0_0, a1_0_1⟩ : Api_Part), a1_1, a1_2, a1_3, true⟩ : Api_Entry)])) emp), (box b25 65 [(Value.int .i64 a1_0_0), (Value.int .i64 a1_0_1), (Value.int .i64 a1_1), (Value.int .i64 a1_2), (Value.int .i64 a1_3), (Value.bool true)]), (own (ga9 3) 65 6 x48.length (fl enc_Api_Entry x48)), (own (ga9 5) 65 6 [(⟨(⟨a1_0_0, a1_0_1⟩ : Api_Part), a1_1, a1_2, a1_3, a1_4⟩ : Api_Entry)].length (fl enc_Api_Entry [(⟨(⟨a1_0_0, a1_0_1⟩ : Api_Part), a1_1, a1_2, a1_3, a1_4⟩ : Api_Entry)])), (box b16 139 [(pt (blk (pt g0_ 0)) 0)]), (box (blk (pt g0_ 0)) 192 [g1_]), (own g1_ 196 7 x57.2.length (fl enc_Omap_pair__int64__api_Entry x57.2)), (own sv35 63 2 x39.2.1.length (fl enc_Api_Part x39.2.1)), (own sv36 65 6 x39.2.2.length (fl enc_Api_Entry x39.2.2)), (box b18 59 [sv35, sv36]), A0, A2, (box b15 65 [(Value.int .i64 a1_0_0), (Value.int .i64 a1_0_1), (Value.int .i64 a1_1), (Value.int .i64 a1_2), (Value.int .i64 a1_3), (Value.bool a1_4)])] = _ by simp [up, upb, sel, d2, hi], (tr_same rfl rfl (tr_same rfl rfl (tr_same rfl rfl (tr_this (tr_same rfl rfl (tr_same rfl rfl (tr_same rfl rfl (tr_same rfl rfl (tr_same rfl rfl (tr_same rfl rfl (tr_same rfl rfl (tr_same rfl rfl (tr_same rfl rfl (tr_same rfl rfl (tr_same rfl rfl tr_nil)))))))))))))))⟩
                      · intro done hi hc hcu
                        refine draw_exi (I := Z16_I) fun ga11 => ?_
                        have d3 : done 3 = true := done_of (j := 3) hcu rfl (by decide) rfl
                        exact draw_value (i := 4) (t := 81) (v := (Value.bool (x57.1 != 0))) rfl rfl (wanted_none rfl) (fun a => (hasA_cons (k := 3) rfl d3 hasA_base)) (ov_bin rfl rfl (b_neq _ _ _)) rfl rfl (onlyT_spec (k0 := 4) rfl rfl rfl)
                      · intro done hi hc hcu
                        refine draw_exi (I := Z16_I) fun ga11 => ?_
                        have d4 : done 4 = true := done_of (j := 4) hcu rfl (by decide) rfl
                        exact draw_value (i := 5) (t := 82) (v := (Value.bool (x57.1 != 0))) rfl rfl (wanted_none rfl) (fun a => (hasA_cons (k := 4) rfl d4 hasA_base)) (ov_move rfl) rfl rfl (onlyT_spec (k0 := 5) rfl rfl rfl)
                      · intro done hi hc hcu
                        refine draw_exi (I := Z16_I) fun ga11 => ?_
                        have d5 : done 5 = true := done_of (j := 5) hcu rfl (by decide) rfl
                        exact draw_value (i := 6) (t := 83) (v := (pt b16 0)) rfl rfl (wanted_on rfl rfl rfl (ne_f c39)) (fun a => (hasA_cons (k := 5) rfl d5 hasA_base)) (ov_move rfl) rfl rfl (onlyT_spec (k0 := 6) rfl rfl rfl)
                      · intro done hi hc hcu
                        refine draw_exi (I := Z16_I) fun ga11 => ?_
                        have d5 : done 5 = true := done_of (j := 5) hcu rfl (by decide) rfl
                        exact draw_value (i := 7) (t := 84) (v := (Value.int .i64 x44.1)) rfl rfl (wanted_on rfl rfl rfl (ne_f c39)) (fun a => (hasA_cons (k := 5) rfl d5 hasA_base)) (ov_move rfl) rfl rfl (onlyT_spec (k0 := 7) rfl rfl rfl)
                      · intro done hi hc hcu
                        refine draw_exi (I := Z16_I) fun ga11 => ?_
                        have d5 : done 5 = true := done_of (j := 5) hcu rfl (by decide) rfl
                        exact draw_value (i := 8) (t := 85) (v := (Value.int .i64 x44.2)) rfl rfl (wanted_on rfl rfl rfl (ne_f c39)) (fun a => (hasA_cons (k := 5) rfl d5 hasA_base)) (ov_move rfl) rfl rfl (onlyT_spec (k0 := 8) rfl rfl rfl)
                      · intro done hi hc hcu
                        refine ent_exi (S := fun ga11 => Z16_I ga11 done) fun ga11 => ?_
                        have d6 : done 6 = true := done_of (j := 6) hcu rfl (by decide) rfl
                        have d7 : done 7 = true := done_of (j := 7) hcu rfl (by decide) rfl
                        have d8 : done 8 = true := done_of (j := 8) hcu rfl (by decide) rfl
                        have d5 : done 5 = true := done_of (j := 5) hcu rfl (by decide) rfl
                        have d3 : done 3 = true := done_step (i := 5) (j := 3) hc d5 rfl rfl
                        refine draw_turnP (i := 9) (t := 86) (x := ga11) (L := (fun (ga11 : Nat → Value) (done : Nat → Bool) => [(sel (done 9) (own (ga11 9) 65 6 x58.length (fl enc_Api_Entry x58)) emp), (sel (done 2) (own (ga11 1002) 65 6 x56.2.length (fl enc_Api_Entry x56.2)) emp), (sel (done 2) (own (ga11 2) 63 2 x56.1.length (fl enc_Api_Part x56.1)) emp), (sel (done 11) (own (ga11 11) 65 6 [(⟨(⟨a1_0_0, a1_0_1⟩ : Api_Part), a1_1, a1_2, a1_3, true⟩ : Api_Entry)].length (fl enc_Api_Entry [(⟨(⟨a1_0_0, a1_0_1⟩ : Api_Part), a1_1, a1_2, a1_3, true⟩ : Api_Entry)])) emp), (box b25 65 [(Value.int .i64 a1_0_0), (Value.int .i64 a1_0_1), (Value.int .i64 a1_1), (Value.int .i64 a1_2), (Value.int .i64 a1_3), (Value.bool true)]), (own (ga9 3) 65 6 x48.length (fl enc_Api_Entry x48)), (own (ga9 5) 65 6 [(⟨(⟨a1_0_0, a1_0_1⟩ : Api_Part), a1_1, a1_2, a1_3, a1_4⟩ : Api_Entry)].length (fl enc_Api_Entry [(⟨(⟨a1_0_0, a1_0_1⟩ : Api_Part), a1_1, a1_2, a1_3, a1_4⟩ : Api_Entry)])), (sel (done 3) (box b16 139 [(pt (blk (ga11 3)) 0)]) (box b16 139 [(pt b20 0)])), (sel (done 3) (box (blk (ga11 3)) 192 [(ga11 1003)]) (box b20 192 [sv38])), (sel (done 3) (own (ga11 1003) 196 7 x57.2.length (fl enc_Omap_pair__int64__api_Entry x57.2)) (own sv38 196 7 x43.2.length (fl enc_Omap_pair__int64__api_Entry x43.2))), (own sv35 63 2 x39.2.1.length (fl enc_Api_Part x39.2.1)), (own sv36 65 6 x39.2.2.length (fl enc_Api_Entry x39.2.2)), (box b18 59 [sv35, sv36]), A0, A2, (box b15 65 [(Value.int .i64 a1_0_0), (Value.int .i64 a1_0_1), (Value.int .i64 a1_1), (Value.int .i64 a1_2), (Value.int .i64 a1_3), (Value.bool a1_4)])])) (T := (fun ga11 : Nat → Value => [(0, 77, (pt b16 0)), (1, 78, (Value.agg #[(Value.int .i64 a1_0_0), (Value.int .i64 a1_0_1), (Value.int .i64 a1_1), (Value.int .i64 a1_2), (Value.int .i64 a1_3), (Value.bool a1_4)])), (2, 79, (Value.agg #[(ga11 2), (ga11 1002)])), (3, 80, (Value.int .i64 x57.1)), (4, 81, (Value.bool (x57.1 != 0))), (5, 82, (Value.bool (x57.1 != 0))), (6, 83, (pt b16 0)), (7, 84, (Value.int .i64 x44.1)), (8, 85, (Value.int .i64 x44.2)), (9, 86, (ga11 9)), (10, 87, (Value.agg #[(Value.int .i64 a1_0_0), (Value.int .i64 a1_0_1), (Value.int .i64 a1_1), (Value.int .i64 a1_2), (Value.int .i64 a1_3), (Value.bool true)])), (11, 88, (ga11 11)), (12, 89, (Value.bool x59)), (13, 90, (Value.bool (!x59))), (14, 91, (Value.bool (!x59)))])) (L2 := [emp, (sel (done 2) (own (ga11 1002) 65 6 x56.2.length (fl enc_Api_Entry x56.2)) emp), (sel (done 2) (own (ga11 2) 63 2 x56.1.length (fl enc_Api_Part x56.1)) emp), (sel (done 11) (own (ga11 11) 65 6 [(⟨(⟨a1_0_0, a1_0_1⟩ : Api_Part), a1_1, a1_2, a1_3, true⟩ : Api_Entry)].length (fl enc_Api_Entry [(⟨(⟨a1_0_0, a1_0_1⟩ : Api_Part), a1_1, a1_2, a1_3, true⟩ : Api_Entry)])) emp), (box b25 65 [(Value.int .i64 a1_0_0), (Value.int .i64 a1_0_1), (Value.int .i64 a1_1), (Value.int .i64 a1_2), (Value.int .i64 a1_3), (Value.bool true)]), (own (ga9 3) 65 6 x48.length (fl enc_Api_Entry x48)), (own (ga9 5) 65 6 [(⟨(⟨a1_0_0, a1_0_1⟩ : Api_Part), a1_1, a1_2, a1_3, a1_4⟩ : Api_Entry)].length (fl enc_Api_Entry [(⟨(⟨a1_0_0, a1_0_1⟩ : Api_Part), a1_1, a1_2, a1_3, a1_4⟩ : Api_Entry)])), (box b16 139 [(pt (blk (ga11 3)) 0)]), (box (blk (ga11 3)) 192 [(ga11 1003)]), (own (ga11 1003) 196 7 x57.2.length (fl enc_Omap_pair__int64__api_Entry x57.2)), (own sv35 63 2 x39.2.1.length (fl enc_Api_Part x39.2.1)), (own sv36 65 6 x39.2.2.length (fl enc_Api_Entry x39.2.2)), (box b18 59 [sv35, sv36]), A0, A2, (box b15 65 [(Value.int .i64 a1_0_0), (Value.int .i64 a1_0_1), (Value.int .i64 a1_1), (Value.int .i64 a1_2), (Value.int .i64 a1_3), (Value.bool a1_4)])]) [7, 8, 9, 0, 1, 2, 3, 4, 5, 6, 10, 11, 12, 13, 14, 15] [3, 5, 6, 7, 8, 9, 10, 0, 1, 2, 11, 12, 13, 14, 15, 16] rfl rfl (wanted_on rfl rfl rfl (ne_f c39)) (fun a => (hasA_cons (k := 5) rfl d5 (hasA_cons (k := 8) rfl d8 (hasA_cons (k := 7) rfl d7 (hasA_cons (k := 6) rfl d6 hasA_base))))) (by simp only [d3, hi, sel]) (by decide) rfl (ot_call (Lr := [emp, (sel (done 2) (own (ga11 1002) 65 6 x56.2.length (fl enc_Api_Entry x56.2)) emp), (sel (done 2) (own (ga11 2) 63 2 x56.1.length (fl enc_Api_Part x56.1)) emp), (sel (done 11) (own (ga11 11) 65 6 [(⟨(⟨a1_0_0, a1_0_1⟩ : Api_Part), a1_1, a1_2, a1_3, true⟩ : Api_Entry)].length (fl enc_Api_Entry [(⟨(⟨a1_0_0, a1_0_1⟩ : Api_Part), a1_1, a1_2, a1_3, true⟩ : Api_Entry)])) emp), (box b25 65 [(Value.int .i64 a1_0_0), (Value.int .i64 a1_0_1), (Value.int .i64 a1_1), (Value.int .i64 a1_2), (Value.int .i64 a1_3), (Value.bool true)]), (own (ga9 3) 65 6 x48.length (fl enc_Api_Entry x48)), (own (ga9 5) 65 6 [(⟨(⟨a1_0_0, a1_0_1⟩ : Api_Part), a1_1, a1_2, a1_3, a1_4⟩ : Api_Entry)].length (fl enc_Api_Entry [(⟨(⟨a1_0_0, a1_0_1⟩ : Api_Part), a1_1, a1_2, a1_3, a1_4⟩ : Api_Entry)])), (own sv35 63 2 x39.2.1.length (fl enc_Api_Part x39.2.1)), (own sv36 65 6 x39.2.2.length (fl enc_Api_Entry x39.2.2)), (box b18 59 [sv35, sv36]), A0, A2, (box b15 65 [(Value.int .i64 a1_0_0), (Value.int .i64 a1_0_1), (Value.int .i64 a1_1), (Value.int .i64 a1_2), (Value.int .i64 a1_3), (Value.bool a1_4)])]) (first := []) (cap := []) (xs := [.tmp 83, .tmp 84, .tmp 85]) rfl rfl F_call_36 rfl (catalog_Catalog_Over_O.spec K b16 (blk (ga11 3)) (ga11 1003) x57.2 x44.1 x44.2 _ h56) rfl) (by decide) rfl rfl ?_
                        rintro g0_ _ ⟨_, ⟨_, rfl, rfl⟩, rfl⟩
                        exact ⟨(upb ga11 9 g0_), show some [(own g0_ 65 6 x58.length (fl enc_Api_Entry x58)), (sel (done 2) (own (ga11 1002) 65 6 x56.2.length (fl enc_Api_Entry x56.2)) emp), (sel (done 2) (own (ga11 2) 63 2 x56.1.length (fl enc_Api_Part x56.1)) emp), (sel (done 11) (own (ga11 11) 65 6 [(⟨(⟨a1_0_0, a1_0_1⟩ : Api_Part), a1_1, a1_2, a1_3, true⟩ : Api_Entry)].length (fl enc_Api_Entry [(⟨(⟨a1_0_0, a1_0_1⟩ : Api_Part), a1_1, a1_2, a1_3, true⟩ : Api_Entry)])) emp), (box b25 65 [(Value.int .i64 a1_0_0), (Value.int .i64 a1_0_1), (Value.int .i64 a1_1), (Value.int .i64 a1_2), (Value.int .i64 a1_3), (Value.bool true)]), (own (ga9 3) 65 6 x48.length (fl enc_Api_Entry x48)), (own (ga9 5) 65 6 [(⟨(⟨a1_0_0, a1_0_1⟩ : Api_Part), a1_1, a1_2, a1_3, a1_4⟩ : Api_Entry)].length (fl enc_Api_Entry [(⟨(⟨a1_0_0, a1_0_1⟩ : Api_Part), a1_1, a1_2, a1_3, a1_4⟩ : Api_Entry)])), (box b16 139 [(pt (blk (ga11 3)) 0)]), (box (blk (ga11 3)) 192 [(ga11 1003)]), (own (ga11 1003) 196 7 x57.2.length (fl enc_Omap_pair__int64__api_Entry x57.2)), (own sv35 63 2 x39.2.1.length (fl enc_Api_Part x39.2.1)), (own sv36 65 6 x39.2.2.length (fl enc_Api_Entry x39.2.2)), (box b18 59 [sv35, sv36]), A0, A2, (box b15 65 [(Value.int .i64 a1_0_0), (Value.int .i64 a1_0_1), (Value.int .i64 a1_1), (Value.int .i64 a1_2), (Value.int .i64 a1_3), (Value.bool a1_4)])] = _ by simp [up, upb, sel, d3, hi], (tr_same rfl rfl (tr_same rfl rfl (tr_same rfl rfl (tr_same rfl rfl (tr_same rfl rfl (tr_same rfl rfl (tr_same rfl rfl (tr_same rfl rfl (tr_same rfl rfl (tr_this (tr_same rfl rfl (tr_same rfl rfl (tr_same rfl rfl (tr_same rfl rfl (tr_same rfl rfl tr_nil)))))))))))))))⟩
                      · intro done hi hc hcu
                        refine draw_exi (I := Z16_I) fun ga11 => ?_
                        have d5 : done 5 = true := done_of (j := 5) hcu rfl (by decide) rfl
                        exact draw_value (i := 10) (t := 87) (v := (Value.agg #[(Value.int .i64 a1_0_0), (Value.int .i64 a1_0_1), (Value.int .i64 a1_1), (Value.int .i64 a1_2), (Value.int .i64 a1_3), (Value.bool true)])) rfl rfl (wanted_on rfl rfl rfl (ne_f c39)) (fun a => (hasA_cons (k := 5) rfl d5 hasA_base)) (ov_load_agg (vs := [(Value.int .i64 a1_0_0), (Value.int .i64 a1_0_1), (Value.int .i64 a1_1), (Value.int .i64 a1_2), (Value.int .i64 a1_3), (Value.bool true)]) rfl F_agg_65 F_size_65 (reads_boxW (i := 4) rfl)) rfl rfl (onlyT_spec (k0 := 10) rfl rfl rfl)
                      · intro done hi hc hcu
                        refine ent_exi (S := fun ga11 => Z16_I ga11 done) fun ga11 => ?_
                        have d10 : done 10 = true := done_of (j := 10) hcu rfl (by decide) rfl
                        have d5 : done 5 = true := done_of (j := 5) hcu rfl (by decide) rfl
                        refine draw_newV (i := 11) (t := 88) (x := ga11) (L := (fun (ga11 : Nat → Value) (done : Nat → Bool) => [(sel (done 9) (own (ga11 9) 65 6 x58.length (fl enc_Api_Entry x58)) emp), (sel (done 2) (own (ga11 1002) 65 6 x56.2.length (fl enc_Api_Entry x56.2)) emp), (sel (done 2) (own (ga11 2) 63 2 x56.1.length (fl enc_Api_Part x56.1)) emp), (sel (done 11) (own (ga11 11) 65 6 [(⟨(⟨a1_0_0, a1_0_1⟩ : Api_Part), a1_1, a1_2, a1_3, true⟩ : Api_Entry)].length (fl enc_Api_Entry [(⟨(⟨a1_0_0, a1_0_1⟩ : Api_Part), a1_1, a1_2, a1_3, true⟩ : Api_Entry)])) emp), (box b25 65 [(Value.int .i64 a1_0_0), (Value.int .i64 a1_0_1), (Value.int .i64 a1_1), (Value.int .i64 a1_2), (Value.int .i64 a1_3), (Value.bool true)]), (own (ga9 3) 65 6 x48.length (fl enc_Api_Entry x48)), (own (ga9 5) 65 6 [(⟨(⟨a1_0_0, a1_0_1⟩ : Api_Part), a1_1, a1_2, a1_3, a1_4⟩ : Api_Entry)].length (fl enc_Api_Entry [(⟨(⟨a1_0_0, a1_0_1⟩ : Api_Part), a1_1, a1_2, a1_3, a1_4⟩ : Api_Entry)])), (sel (done 3) (box b16 139 [(pt (blk (ga11 3)) 0)]) (box b16 139 [(pt b20 0)])), (sel (done 3) (box (blk (ga11 3)) 192 [(ga11 1003)]) (box b20 192 [sv38])), (sel (done 3) (own (ga11 1003) 196 7 x57.2.length (fl enc_Omap_pair__int64__api_Entry x57.2)) (own sv38 196 7 x43.2.length (fl enc_Omap_pair__int64__api_Entry x43.2))), (own sv35 63 2 x39.2.1.length (fl enc_Api_Part x39.2.1)), (own sv36 65 6 x39.2.2.length (fl enc_Api_Entry x39.2.2)), (box b18 59 [sv35, sv36]), A0, A2, (box b15 65 [(Value.int .i64 a1_0_0), (Value.int .i64 a1_0_1), (Value.int .i64 a1_1), (Value.int .i64 a1_2), (Value.int .i64 a1_3), (Value.bool a1_4)])])) (T := (fun ga11 : Nat → Value => [(0, 77, (pt b16 0)), (1, 78, (Value.agg #[(Value.int .i64 a1_0_0), (Value.int .i64 a1_0_1), (Value.int .i64 a1_1), (Value.int .i64 a1_2), (Value.int .i64 a1_3), (Value.bool a1_4)])), (2, 79, (Value.agg #[(ga11 2), (ga11 1002)])), (3, 80, (Value.int .i64 x57.1)), (4, 81, (Value.bool (x57.1 != 0))), (5, 82, (Value.bool (x57.1 != 0))), (6, 83, (pt b16 0)), (7, 84, (Value.int .i64 x44.1)), (8, 85, (Value.int .i64 x44.2)), (9, 86, (ga11 9)), (10, 87, (Value.agg #[(Value.int .i64 a1_0_0), (Value.int .i64 a1_0_1), (Value.int .i64 a1_1), (Value.int .i64 a1_2), (Value.int .i64 a1_3), (Value.bool true)])), (11, 88, (ga11 11)), (12, 89, (Value.bool x59)), (13, 90, (Value.bool (!x59))), (14, 91, (Value.bool (!x59)))])) (L2 := [(sel (done 9) (own (ga11 9) 65 6 x58.length (fl enc_Api_Entry x58)) emp), (sel (done 2) (own (ga11 1002) 65 6 x56.2.length (fl enc_Api_Entry x56.2)) emp), (sel (done 2) (own (ga11 2) 63 2 x56.1.length (fl enc_Api_Part x56.1)) emp), emp, (box b25 65 [(Value.int .i64 a1_0_0), (Value.int .i64 a1_0_1), (Value.int .i64 a1_1), (Value.int .i64 a1_2), (Value.int .i64 a1_3), (Value.bool true)]), (own (ga9 3) 65 6 x48.length (fl enc_Api_Entry x48)), (own (ga9 5) 65 6 [(⟨(⟨a1_0_0, a1_0_1⟩ : Api_Part), a1_1, a1_2, a1_3, a1_4⟩ : Api_Entry)].length (fl enc_Api_Entry [(⟨(⟨a1_0_0, a1_0_1⟩ : Api_Part), a1_1, a1_2, a1_3, a1_4⟩ : Api_Entry)])), (sel (done 3) (box b16 139 [(pt (blk (ga11 3)) 0)]) (box b16 139 [(pt b20 0)])), (sel (done 3) (box (blk (ga11 3)) 192 [(ga11 1003)]) (box b20 192 [sv38])), (sel (done 3) (own (ga11 1003) 196 7 x57.2.length (fl enc_Omap_pair__int64__api_Entry x57.2)) (own sv38 196 7 x43.2.length (fl enc_Omap_pair__int64__api_Entry x43.2))), (own sv35 63 2 x39.2.1.length (fl enc_Api_Part x39.2.1)), (own sv36 65 6 x39.2.2.length (fl enc_Api_Entry x39.2.2)), (box b18 59 [sv35, sv36]), A0, A2, (box b15 65 [(Value.int .i64 a1_0_0), (Value.int .i64 a1_0_1), (Value.int .i64 a1_1), (Value.int .i64 a1_2), (Value.int .i64 a1_3), (Value.bool a1_4)])]) (B := fun v_ => (own v_ 65 6 [(⟨(⟨a1_0_0, a1_0_1⟩ : Api_Part), a1_1, a1_2, a1_3, true⟩ : Api_Entry)].length (fl enc_Api_Entry [(⟨(⟨a1_0_0, a1_0_1⟩ : Api_Part), a1_1, a1_2, a1_3, true⟩ : Api_Entry)]))) 3 rfl rfl (wanted_on rfl rfl rfl (ne_f c39)) (fun a => (hasA_cons (k := 5) rfl d5 (hasA_cons (k := 10) rfl d10 hasA_base))) (by simp only [hi, sel]) (ot_buildSlice (sz := 5) (xs := [.tmp 87]) (cs := fl enc_Api_Entry [(⟨(⟨a1_0_0, a1_0_1⟩ : Api_Part), a1_1, a1_2, a1_3, true⟩ : Api_Entry)]) rfl rfl F_slice_53 F_size_65 F_zero_65 rfl rfl (all_size rfl) rfl (by decide)) ?_ rfl (fun v_ => ?_) rfl rfl ?_
                        · rintro _ _ rfl; rfl
                        · simp [up, upb, sel, hi]
                        · rintro _ _ rfl
                          exact (tr_same rfl rfl (tr_same rfl rfl (tr_same rfl rfl (tr_same rfl rfl (tr_same rfl rfl (tr_same rfl rfl (tr_same rfl rfl (tr_same rfl rfl (tr_same rfl rfl (tr_same rfl rfl (tr_same rfl rfl (tr_this (tr_same rfl rfl (tr_same rfl rfl (tr_same rfl rfl tr_nil)))))))))))))))
                      · intro done hi hc hcu
                        refine draw_exi (I := Z16_I) fun ga11 => ?_
                        have d9 : done 9 = true := done_of (j := 9) hcu rfl (by decide) rfl
                        have d11 : done 11 = true := done_of (j := 11) hcu rfl (by decide) rfl
                        have d5 : done 5 = true := done_of (j := 5) hcu rfl (by decide) rfl
                        exact draw_same (i := 12) (t := 89) (v := (Value.bool x59)) rfl rfl (wanted_on rfl rfl rfl (ne_f c39)) (fun a => (hasA_cons (k := 5) rfl d5 (hasA_cons (k := 11) rfl d11 (hasA_cons (k := 9) rfl d9 hasA_base)))) (ot_L (L2 := [(own (ga11 9) 65 6 x58.length (fl enc_Api_Entry x58)), (sel (done 2) (own (ga11 1002) 65 6 x56.2.length (fl enc_Api_Entry x56.2)) emp), (sel (done 2) (own (ga11 2) 63 2 x56.1.length (fl enc_Api_Part x56.1)) emp), (own (ga11 11) 65 6 [(⟨(⟨a1_0_0, a1_0_1⟩ : Api_Part), a1_1, a1_2, a1_3, true⟩ : Api_Entry)].length (fl enc_Api_Entry [(⟨(⟨a1_0_0, a1_0_1⟩ : Api_Part), a1_1, a1_2, a1_3, true⟩ : Api_Entry)])), (box b25 65 [(Value.int .i64 a1_0_0), (Value.int .i64 a1_0_1), (Value.int .i64 a1_1), (Value.int .i64 a1_2), (Value.int .i64 a1_3), (Value.bool true)]), (own (ga9 3) 65 6 x48.length (fl enc_Api_Entry x48)), (own (ga9 5) 65 6 [(⟨(⟨a1_0_0, a1_0_1⟩ : Api_Part), a1_1, a1_2, a1_3, a1_4⟩ : Api_Entry)].length (fl enc_Api_Entry [(⟨(⟨a1_0_0, a1_0_1⟩ : Api_Part), a1_1, a1_2, a1_3, a1_4⟩ : Api_Entry)])), (sel (done 3) (box b16 139 [(pt (blk (ga11 3)) 0)]) (box b16 139 [(pt b20 0)])), (sel (done 3) (box (blk (ga11 3)) 192 [(ga11 1003)]) (box b20 192 [sv38])), (sel (done 3) (own (ga11 1003) 196 7 x57.2.length (fl enc_Omap_pair__int64__api_Entry x57.2)) (own sv38 196 7 x43.2.length (fl enc_Omap_pair__int64__api_Entry x43.2))), (own sv35 63 2 x39.2.1.length (fl enc_Api_Part x39.2.1)), (own sv36 65 6 x39.2.2.length (fl enc_Api_Entry x39.2.2)), (box b18 59 [sv35, sv36]), A0, A2, (box b15 65 [(Value.int .i64 a1_0_0), (Value.int .i64 a1_0_1), (Value.int .i64 a1_1), (Value.int .i64 a1_2), (Value.int .i64 a1_3), (Value.bool a1_4)])]) (by simp only [d9, d11, sel]) (ot_call_same (Lr := [(sel (done 2) (own (ga11 1002) 65 6 x56.2.length (fl enc_Api_Entry x56.2)) emp), (sel (done 2) (own (ga11 2) 63 2 x56.1.length (fl enc_Api_Part x56.1)) emp), (box b25 65 [(Value.int .i64 a1_0_0), (Value.int .i64 a1_0_1), (Value.int .i64 a1_1), (Value.int .i64 a1_2), (Value.int .i64 a1_3), (Value.bool true)]), (own (ga9 3) 65 6 x48.length (fl enc_Api_Entry x48)), (own (ga9 5) 65 6 [(⟨(⟨a1_0_0, a1_0_1⟩ : Api_Part), a1_1, a1_2, a1_3, a1_4⟩ : Api_Entry)].length (fl enc_Api_Entry [(⟨(⟨a1_0_0, a1_0_1⟩ : Api_Part), a1_1, a1_2, a1_3, a1_4⟩ : Api_Entry)])), (sel (done 3) (box b16 139 [(pt (blk (ga11 3)) 0)]) (box b16 139 [(pt b20 0)])), (sel (done 3) (box (blk (ga11 3)) 192 [(ga11 1003)]) (box b20 192 [sv38])), (sel (done 3) (own (ga11 1003) 196 7 x57.2.length (fl enc_Omap_pair__int64__api_Entry x57.2)) (own sv38 196 7 x43.2.length (fl enc_Omap_pair__int64__api_Entry x43.2))), (own sv35 63 2 x39.2.1.length (fl enc_Api_Part x39.2.1)), (own sv36 65 6 x39.2.2.length (fl enc_Api_Entry x39.2.2)), (box b18 59 [sv35, sv36]), A0, A2, (box b15 65 [(Value.int .i64 a1_0_0), (Value.int .i64 a1_0_1), (Value.int .i64 a1_1), (Value.int .i64 a1_2), (Value.int .i64 a1_3), (Value.bool a1_4)])]) [0, 3, 1, 2, 4, 5, 6, 7, 8, 9, 10, 11, 12, 13, 14, 15] [0, 2, 3, 1, 4, 5, 6, 7, 8, 9, 10, 11, 12, 13, 14, 15] (first := []) (cap := []) (xs := [.tmp 86, .tmp 88]) rfl rfl F_call_26 rfl (ossuaryref20_Same_RR.spec K (ga11 9) (own (ga11 9) 65 6 x58.length (fl enc_Api_Entry x58)) (ga11 11) (own (ga11 11) 65 6 [(⟨(⟨a1_0_0, a1_0_1⟩ : Api_Part), a1_1, a1_2, a1_3, true⟩ : Api_Entry)].length (fl enc_Api_Entry [(⟨(⟨a1_0_0, a1_0_1⟩ : Api_Part), a1_1, a1_2, a1_3, true⟩ : Api_Entry)])) x58 [(⟨(⟨a1_0_0, a1_0_1⟩ : Api_Part), a1_1, a1_2, a1_3, true⟩ : Api_Entry)] (isRd_ownx 65) (isRd_ownx 65) _ h57) (by decide) rfl (by decide) rfl)) rfl rfl (onlyT_spec (k0 := 12) rfl rfl rfl)
                      · intro done hi hc hcu
                        refine draw_exi (I := Z16_I) fun ga11 => ?_
                        have d12 : done 12 = true := done_of (j := 12) hcu rfl (by decide) rfl
                        have d5 : done 5 = true := done_of (j := 5) hcu rfl (by decide) rfl
                        exact draw_value (i := 13) (t := 90) (v := (Value.bool (!x59))) rfl rfl (wanted_on rfl rfl rfl (ne_f c39)) (fun a => (hasA_cons (k := 5) rfl d5 (hasA_cons (k := 12) rfl d12 hasA_base))) (ov_un rfl (u_not _)) rfl rfl (onlyT_spec (k0 := 13) rfl rfl rfl)
                      · intro done hi hc hcu
                        refine draw_exi (I := Z16_I) fun ga11 => ?_
                        have d5 : done 5 = true := done_of (j := 5) hcu rfl (by decide) rfl
                        have d13 : done 13 = true := done_of (j := 13) hcu rfl (by decide) rfl
                        exact draw_value (i := 14) (t := 91) (v := (Value.bool (!x59))) rfl rfl (wanted_none rfl) (fun a => (hasA_cons (k := 13) rfl d13 (hasA_cons (k := 5) rfl d5 hasA_base))) (ov_pick rfl rfl rfl (pick_f (ne_f c39))) rfl rfl (onlyT_spec (k0 := 14) rfl rfl rfl)
                    · intro done hall
                      refine ent_exi (S := fun ga11 => Z16_I ga11 done) fun ga11 => ?_
                      refine draw_endL [(own (ga11 9) 65 6 x58.length (fl enc_Api_Entry x58)), (own (ga11 1002) 65 6 x56.2.length (fl enc_Api_Entry x56.2)), (own (ga11 2) 63 2 x56.1.length (fl enc_Api_Part x56.1)), (own (ga11 11) 65 6 [(⟨(⟨a1_0_0, a1_0_1⟩ : Api_Part), a1_1, a1_2, a1_3, true⟩ : Api_Entry)].length (fl enc_Api_Entry [(⟨(⟨a1_0_0, a1_0_1⟩ : Api_Part), a1_1, a1_2, a1_3, true⟩ : Api_Entry)])), (box b25 65 [(Value.int .i64 a1_0_0), (Value.int .i64 a1_0_1), (Value.int .i64 a1_1), (Value.int .i64 a1_2), (Value.int .i64 a1_3), (Value.bool true)]), (own (ga9 3) 65 6 x48.length (fl enc_Api_Entry x48)), (own (ga9 5) 65 6 [(⟨(⟨a1_0_0, a1_0_1⟩ : Api_Part), a1_1, a1_2, a1_3, a1_4⟩ : Api_Entry)].length (fl enc_Api_Entry [(⟨(⟨a1_0_0, a1_0_1⟩ : Api_Part), a1_1, a1_2, a1_3, a1_4⟩ : Api_Entry)])), (box b16 139 [(pt (blk (ga11 3)) 0)]), (box (blk (ga11 3)) 192 [(ga11 1003)]), (own (ga11 1003) 196 7 x57.2.length (fl enc_Omap_pair__int64__api_Entry x57.2)), (own sv35 63 2 x39.2.1.length (fl enc_Api_Part x39.2.1)), (own sv36 65 6 x39.2.2.length (fl enc_Api_Entry x39.2.2)), (box b18 59 [sv35, sv36]), A0, A2, (box b15 65 [(Value.int .i64 a1_0_0), (Value.int .i64 a1_0_1), (Value.int .i64 a1_1), (Value.int .i64 a1_2), (Value.int .i64 a1_3), (Value.bool a1_4)])] (by simp only [hall 2 (by decide), hall 3 (by decide), hall 9 (by decide), hall 11 (by decide), sel]) (fun a => (hasA_cons (k := 0) rfl (hall 0 (by decide)) (hasA_cons (k := 1) rfl (hall 1 (by decide)) (hasA_cons (k := 2) rfl (hall 2 (by decide)) (hasA_cons (k := 3) rfl (hall 3 (by decide)) (hasA_cons (k := 4) rfl (hall 4 (by decide)) (hasA_cons (k := 5) rfl (hall 5 (by decide)) (hasA_cons (k := 6) rfl (hall 6 (by decide)) (hasA_cons (k := 7) rfl (hall 7 (by decide)) (hasA_cons (k := 8) rfl (hall 8 (by decide)) (hasA_cons (k := 9) rfl (hall 9 (by decide)) (hasA_cons (k := 10) rfl (hall 10 (by decide)) (hasA_cons (k := 11) rfl (hall 11 (by decide)) (hasA_cons (k := 12) rfl (hall 12 (by decide)) (hasA_cons (k := 13) rfl (hall 13 (by decide)) (hasA_cons (k := 14) rfl (hall 14 (by decide)) hasA_base)))))))))))))))) ?_
                      by_cases c40 : (!x59) = true
                      · rw [if_pos c40] at H4
                        refine ent_cond_true rfl c40 ?_
                        refine ent_seq ?_
                        refine ent_region ?_
                        refine ent_value (ov_assign rfl) rfl rfl rfl ?_
                        refine ent_nil ?_
                        refine ent_retc ?_
                        cases H4
                        have H6 := Option.some.inj (show some _ = some _ from H)
                        cases H6
                        refine ent_pick [13] (by decide) rfl ?_
                        exact ret_tmp rfl rfl ⟨rfl, rfl⟩
                      · rw [if_neg c40] at H4
                        refine ent_cond_false rfl (Bool.eq_false_iff.2 c40) ?_
                        refine ent_skip ?_
                        cases H4
                        exact ent_fin [13, 15, 7, 8, 9] (by decide) rfl (sub_cons (t := 3) rfl (sub_cons (t := 5) rfl (sub_cons (t := 9) rfl (sub_cons (t := 10) rfl (sub_nil _))))) fun a w h => ⟨_, rfl, _, _, _, h⟩
                · rw [if_neg c38] at H4
                  refine ent_cond_false rfl (eq_f c38) ?_
                  refine ent_skip ?_
                  cases H4
                  exact ent_fin [8, 10, 2, 3, 4] (by decide) rfl (sub_cons (t := 3) rfl (sub_cons (t := 5) rfl (sub_cons (t := 9) rfl (sub_cons (t := 10) rfl (sub_nil _))))) fun a w h => ⟨_, rfl, _, _, _, h⟩
              · refine ent_exi fun v2 => ent_and fun e_ => ?_
                subst e_
                rw [cas_inl] at H
                refine ent_exi fun b23 => ent_exi fun sv48 => ent_exi fun b24 => ?_
                refine ent_seq ?_
                refine ent_region ?_
                refine ent_value (ov_move rfl) rfl rfl rfl ?_
                obtain ⟨x60, h58, H⟩ := Option.bind_eq_some_iff.1 H
                refine ent_pick [2, 3, 4, 0, 1] (by decide) rfl ?_
                refine ent_op (ot_call (Lr := [A0, (box b24 65 [(Value.int .i64 a1_0_0), (Value.int .i64 a1_0_1), (Value.int .i64 a1_1), (Value.int .i64 a1_2), (Value.int .i64 a1_3), (Value.bool a1_4)])]) (first := []) (cap := []) (xs := [.tmp 92]) rfl rfl F_call_24 rfl (ossuarylaw20_Back_O.spec K b16 b23 sv48 v2 _ h58) rfl) rfl rfl rfl ?_
                rintro sv54 _ ⟨_, ⟨_, rfl, rfl⟩, rfl⟩
                refine ent_value (ov_len 3 rfl F_slice_53 rfl (isRd_ownx 65)) rfl rfl rfl ?_
                refine ent_value (ov_assign rfl) rfl rfl rfl ?_
                refine ent_nil ?_
                refine ent_seq ?_
                refine ent_region ?_
                refine ent_value (ov_move rfl) rfl rfl rfl ?_
                refine ent_value (ov_fieldAddr (sz := 1) (o := 0) rfl F_field_65_0 F_size_63) rfl rfl rfl ?_
                refine ent_value (ov_load_agg (vs := [(Value.int .i64 a1_0_0), (Value.int .i64 a1_0_1)]) rfl F_agg_63 F_size_63 (reads_boxN (i := 5) rfl rfl)) rfl rfl rfl ?_
                obtain ⟨x61, h59, H⟩ := thn_elim H
                refine ent_op (ot_call (Lr := [(box b16 139 [(pt b23 0)]), (box b23 192 [sv48]), (own sv48 196 7 v2.length (fl enc_Omap_pair__int64__api_Entry v2)), (own sv54 65 6 x60.length (fl enc_Api_Entry x60)), A0, (box b24 65 [(Value.int .i64 a1_0_0), (Value.int .i64 a1_0_1), (Value.int .i64 a1_1), (Value.int .i64 a1_2), (Value.int .i64 a1_3), (Value.bool a1_4)])]) (first := []) (cap := []) (xs := [.tmp 97]) rfl rfl F_call_39 rfl (build_Gone.spec a1_0_0 a1_0_1 _ h59) rfl) rfl rfl rfl ?_
                rintro _ _ ⟨_, ⟨sv55, rfl, rfl⟩, rfl⟩
                obtain ⟨x62, h60, H⟩ := Option.bind_eq_some_iff.1 H
                refine ent_pick [1, 2, 3, 0, 4, 5, 6] (by decide) rfl ?_
                refine ent_op (ot_call (Lr := [(own sv54 65 6 x60.length (fl enc_Api_Entry x60)), A0, (box b24 65 [(Value.int .i64 a1_0_0), (Value.int .i64 a1_0_1), (Value.int .i64 a1_1), (Value.int .i64 a1_2), (Value.int .i64 a1_3), (Value.bool a1_4)])]) (first := []) (cap := []) (xs := [.tmp 95, .tmp 98]) rfl rfl F_call_25 rfl (catalog_Catalog_Apply_OON.spec K b16 b23 sv48 sv55 v2 x61 _ h60) rfl) rfl rfl rfl ?_
                rintro _ _ ⟨_, ⟨b27, sv56, rfl, rfl⟩, rfl⟩
                refine ent_value (ov_bin rfl rfl (b_eql _ _ _)) rfl rfl rfl ?_
                refine ent_value (ov_move rfl) rfl rfl rfl ?_
                by_cases c41 : x62.1 = 0
                · rw [if_pos c41] at H
                  refine ent_value_on (ov_move rfl) rfl rfl rfl (eq_t c41) rfl rfl ?_
                  refine ent_value_on (ov_move rfl) rfl rfl rfl (eq_t c41) rfl rfl ?_
                  refine ent_value_on (ov_move rfl) rfl rfl rfl (eq_t c41) rfl rfl ?_
                  obtain ⟨x63, h61, H⟩ := Option.bind_eq_some_iff.1 H
                  refine ent_op_on (ot_call (Lr := [(own sv55 63 2 x61.length (fl enc_Api_Part x61)), (own sv54 65 6 x60.length (fl enc_Api_Entry x60)), A0, (box b24 65 [(Value.int .i64 a1_0_0), (Value.int .i64 a1_0_1), (Value.int .i64 a1_1), (Value.int .i64 a1_2), (Value.int .i64 a1_3), (Value.bool a1_4)])]) (first := []) (cap := []) (xs := [.tmp 102, .tmp 103, .tmp 104]) rfl rfl F_call_36 rfl (catalog_Catalog_Over_O.spec K b16 b27 sv56 x62.2 x44.1 x44.2 _ h61) rfl) rfl rfl rfl (eq_t c41) rfl rfl ?_
                  rintro sv57 _ ⟨_, ⟨_, rfl, rfl⟩, rfl⟩
                  refine ent_value_on (ov_len 3 rfl F_slice_53 rfl (isRd_ownx 65)) rfl rfl rfl (eq_t c41) rfl rfl ?_
                  refine ent_value_on (ov_bin rfl rfl (b_eql _ _ _)) rfl rfl rfl (eq_t c41) rfl rfl ?_
                  refine ent_value (ov_pick rfl rfl rfl (pick_t (eq_t c41))) rfl rfl rfl ?_
                  refine ent_value (ov_move rfl) rfl rfl rfl ?_
                  by_cases c42 : (x63.length : Int) = 0
                  · rw [if_pos c42] at H
                    refine ent_value_on (ov_move rfl) rfl rfl rfl (eq_t c42) rfl rfl ?_
                    obtain ⟨x64, h62, H⟩ := thn_elim H
                    refine ent_op_on (ot_call_same (Lr := [(own sv57 65 6 x63.length (fl enc_Api_Entry x63)), (own sv55 63 2 x61.length (fl enc_Api_Part x61)), (own sv54 65 6 x60.length (fl enc_Api_Entry x60)), A0, (box b24 65 [(Value.int .i64 a1_0_0), (Value.int .i64 a1_0_1), (Value.int .i64 a1_1), (Value.int .i64 a1_2), (Value.int .i64 a1_3), (Value.bool a1_4)])]) [0, 1, 2, 3, 4, 5, 6, 7] [0, 1, 2, 3, 4, 5, 6, 7] (first := []) (cap := []) (xs := [.tmp 110]) rfl rfl F_call_37 rfl (catalog_Catalog_Len_O.spec b16 b27 sv56 x62.2 _ h62) (by decide) rfl (by decide) rfl) rfl rfl rfl (eq_t c42) rfl rfl ?_
                    rintro _ _ ⟨rfl, rfl⟩
                    refine ent_value_on (ov_move rfl) rfl rfl rfl (eq_t c42) rfl rfl ?_
                    refine ent_value_on (ov_bin rfl rfl (b_sub _ _ _) ) rfl rfl rfl (eq_t c42) rfl rfl ?_
                    refine ent_value_on (ov_bin rfl rfl (b_eql _ _ _)) rfl rfl rfl (eq_t c42) rfl rfl ?_
                    refine ent_value (ov_pick rfl rfl rfl (pick_t (eq_t c42))) rfl rfl rfl ?_
                    refine ent_value (ov_move rfl) rfl rfl rfl ?_
                    by_cases c43 : x64 = (w64 ((x60.length : Int) - 1))
                    · rw [if_pos c43] at H
                      obtain ⟨x65, h63, H⟩ := Option.bind_eq_some_iff.1 H
                      refine ent_op_on (ot_call0 (first := []) (cap := []) (xs := []) rfl rfl F_call_32 rfl (ossuarylaw28_alive.spec K _ h63)) rfl rfl rfl (eq_t c43) rfl rfl ?_
                      rintro _ _ ⟨rfl, rfl⟩
                      refine ent_value (ov_pick rfl rfl rfl (pick_t (eq_t c43))) rfl rfl rfl ?_
                      refine ent_value (ov_assign rfl) rfl rfl rfl ?_
                      refine ent_nil ?_
                      refine ent_retc ?_
                      cases H
                      refine ent_pick [6] (by decide) rfl ?_
                      exact ret_tmp rfl rfl ⟨rfl, rfl⟩
                    · rw [if_neg c43] at H
                      refine ent_off rfl rfl rfl (eq_f c43) rfl rfl ?_
                      refine ent_value (ov_pick rfl rfl rfl (pick_f (eq_f c43))) rfl rfl rfl ?_
                      refine ent_value (ov_assign rfl) rfl rfl rfl ?_
                      refine ent_nil ?_
                      refine ent_retc ?_
                      cases H
                      refine ent_pick [6] (by decide) rfl ?_
                      exact ret_tmp rfl rfl ⟨rfl, rfl⟩
                  · rw [if_neg c42] at H
                    refine ent_off rfl rfl rfl (eq_f c42) rfl rfl ?_
                    refine ent_off rfl rfl rfl (eq_f c42) rfl rfl ?_
                    refine ent_off rfl rfl rfl (eq_f c42) rfl rfl ?_
                    refine ent_off rfl rfl rfl (eq_f c42) rfl rfl ?_
                    refine ent_off rfl rfl rfl (eq_f c42) rfl rfl ?_
                    refine ent_value (ov_pick rfl rfl rfl (pick_f (eq_f c42))) rfl rfl rfl ?_
                    refine ent_value (ov_move rfl) rfl rfl rfl ?_
                    refine ent_off rfl rfl rfl rfl rfl rfl ?_
                    refine ent_value (ov_pick rfl rfl rfl rfl) rfl rfl rfl ?_
                    refine ent_value (ov_assign rfl) rfl rfl rfl ?_
                    refine ent_nil ?_
                    refine ent_retc ?_
                    cases H
                    refine ent_pick [6] (by decide) rfl ?_
                    exact ret_tmp rfl rfl ⟨rfl, rfl⟩
                · rw [if_neg c41] at H
                  refine ent_off rfl rfl rfl (eq_f c41) rfl rfl ?_
                  refine ent_off rfl rfl rfl (eq_f c41) rfl rfl ?_
                  refine ent_off rfl rfl rfl (eq_f c41) rfl rfl ?_
                  refine ent_off rfl rfl rfl (eq_f c41) rfl rfl ?_
                  refine ent_off rfl rfl rfl (eq_f c41) rfl rfl ?_
                  refine ent_off rfl rfl rfl (eq_f c41) rfl rfl ?_
                  refine ent_value (ov_pick rfl rfl rfl (pick_f (eq_f c41))) rfl rfl rfl ?_
                  refine ent_value (ov_move rfl) rfl rfl rfl ?_
                  refine ent_off rfl rfl rfl rfl rfl rfl ?_
                  refine ent_off rfl rfl rfl rfl rfl rfl ?_
                  refine ent_off rfl rfl rfl rfl rfl rfl ?_
                  refine ent_off rfl rfl rfl rfl rfl rfl ?_
                  refine ent_off rfl rfl rfl rfl rfl rfl ?_
                  refine ent_value (ov_pick rfl rfl rfl rfl) rfl rfl rfl ?_
                  refine ent_value (ov_move rfl) rfl rfl rfl ?_
                  refine ent_off rfl rfl rfl rfl rfl rfl ?_
                  refine ent_value (ov_pick rfl rfl rfl rfl) rfl rfl rfl ?_
                  refine ent_value (ov_assign rfl) rfl rfl rfl ?_
                  refine ent_nil ?_
                  refine ent_retc ?_
                  cases H
                  refine ent_pick [5] (by decide) rfl ?_
                  exact ret_tmp rfl rfl ⟨rfl, rfl⟩

end Go.Proofs.Ythdggcleffadeaa.BuildTakes
