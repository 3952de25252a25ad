/- Printed by gen.py: that the machine's calls do what the plain functions of CatalogEach say. -/
import Derived.Test.YthdggcleffadeaaCatalogEachWalk2
import Derived.Test.YthdggcleffadeaaProg
import Derived.Test.YthdggcleffadeaaEInsert
import Derived.Test.YthdggcleffadeaaCatalogEachPure
set_option linter.unusedVariables false
set_option linter.unusedSimpArgs false
set_option maxHeartbeats 1000000
namespace Go.Proofs.Ythdggcleffadeaa.CatalogEach
open Go Go.RowKit E
open Go.Value (int bool slice agg)

set_option maxRecDepth 100000 in
theorem ossuarylaw20_made_R.spec (K : Nat) (sv0 : Value) (A0 : HP) (l0 : List Ossuarylaw20_Act) (hA0 : IsRd A0 sv0 l0.length 2 (fl enc_Ossuarylaw20_Act l0)) (hJ0 : ∀ x ∈ l0, IsRd A0 x.Drop.v x.Drop.xs.length 2 (fl enc_Api_Part x.Drop.xs) ∧ IsRd A0 x.Put.v x.Put.xs.length 6 (fl enc_Api_Entry x.Put.xs)) (r : ((List Omap_pair__int64__api_Entry) × (List Api_Entry))) (H : ossuarylaw20_made_R K l0 = some r) : FnSpec Try.prog 29 [sv0] [A0] (fun v M => ∃ b25 : Nat, ∃ b26 : Nat, ∃ sv45 : Value, ∃ A15 : HP, ∃ sv46 : Value, IsRd A15 sv46 r.2.length 6 (fl enc_Api_Entry r.2) ∧ v = (Value.tuple #[(pt b25 0), sv46]) ∧ M = [A0, (box b25 139 [(pt b26 0)]), (box b26 192 [sv45]), (own sv45 196 7 r.1.length (fl enc_Omap_pair__int64__api_Entry r.1)), A15]) := by
 unfold ossuarylaw20_made_R at H
 refine spec_of Try.func29 rfl 44 rfl (Nat.le_of_ble_eq_true rfl) fun F w0 => ?_
 show Ent (St 44 w0 F [(0, sv0)] [A0]) _
 refine ent_seq ?_
 refine ent_region ?_
 refine ent_value (ov_assign rfl) rfl rfl rfl ?_
 refine ent_value (ov_assign rfl) rfl rfl rfl ?_
 refine ent_nil ?_
 refine ent_seq ?_
 refine ent_region ?_
 obtain ⟨u2, h40, H⟩ := thn_elim H
 refine ent_op (ot_call (Lr := [A0]) (first := []) (cap := []) (xs := []) rfl rfl F_call_23 rfl (catalog_New.spec _ h40) rfl) rfl rfl rfl ?_
 rintro _ _ ⟨_, ⟨b27, b28, rfl, rfl⟩, rfl⟩
 refine ent_value (ov_assign rfl) rfl rfl rfl ?_
 refine ent_nil ?_
 refine ent_seq ?_
 refine ent_region ?_
 refine ent_value (ov_assign rfl) rfl rfl rfl ?_
 refine ent_nil ?_
 refine ent_seq ?_
 refine ent_seq ?_
 refine ent_region ?_
 refine ent_value (ov_assign rfl) rfl rfl rfl ?_
 refine ent_nil ?_
 refine ent_block ?_
 refine ent_loop (fun k a w => ∃ i4, ∃ l12, ∃ l14, ∃ b43 : Nat, ∃ sv73 : Value, ∃ A25 : HP, ∃ sv80 : Value, IsRd A25 sv80 l14.length 6 (fl enc_Api_Entry l14) ∧ ossuarylaw20_made_R_l0 K l0 k i4 l12 l14 = some r ∧ St 44 w0 F [(0, sv0), (4, (pt b27 0)), (5, sv80), (6, (int .i64 i4))] [A0, (box b27 139 [(pt b43 0)]), (box b43 192 [sv73]), (own sv73 196 7 l12.length (fl enc_Omap_pair__int64__api_Entry l12)), A25] a w) K ?_ ?_
 ·refine ent_ownnil 196 7 ?_
  refine ent_emp ?_
  exact ent_fin [4, 2, 3, 1, 0] (by decide) rfl (sub_cons (t := 0) rfl (sub_cons (t := 4) rfl (sub_cons (t := 5) rfl (sub_cons (t := 6) rfl (sub_nil _))))) fun a w h => ⟨_, _, _, _, _, _, _, (isRd_nilA _ _), H, h⟩
 ·refine fun k => ent_exi fun i4 => ent_exi fun l12 => ent_exi fun l14 => ent_exi fun b43 => ent_exi fun sv73 => ent_exi fun A25 => ent_exi fun sv80 => ent_and fun hr25 => ent_and fun H4 => ?_
  cases k with
  | zero => exact absurd H4 (by simp [ossuarylaw20_made_R_l0])
  | succ k =>
   rw [ossuarylaw20_made_R_l0] at H4
   refine ent_seq ?_
   refine ent_seq ?_
   refine ent_region ?_
   refine ent_value (ov_move rfl) rfl rfl rfl ?_
   refine ent_value (ov_move rfl) rfl rfl rfl ?_
   refine ent_value (ov_len 0 rfl F_slice_49 rfl hA0) rfl rfl rfl ?_
   refine ent_value (ov_bin rfl rfl (b_lss _ _ _)) rfl rfl rfl ?_
   refine ent_nil ?_
   by_cases c58 : i4 < (l0.length : Int)
   ·rw [if_pos c58] at H4
    refine ent_cond_true rfl (decide_eq_true c58) ?_
    refine ent_skip ?_
    refine ent_seq ?_
    refine ent_block ?_
    refine ent_seq ?_
    by_cases c60 : 0 ≤ i4
    ·rw [if_pos c60] at H4
     obtain ⟨x73, h75, H4⟩ := Option.bind_eq_some_iff.1 H4
     let Z64_I : (Nat → Value) → (Nat → Bool) → Act → World → Prop := fun (ga40 : Nat → Value) done a w => StD 44 w0 F [(0, sv0), (4, (pt b27 0)), (5, sv80), (6, (int .i64 i4)), (8, (int .i64 i4)), (9, sv0), (10, (int .i64 (l0.length : Int))), (11, (bool (decide (i4 < (l0.length : Int)))))] [(0, 14, (pt b27 0)), (1, 15, sv0), (2, 16, (int .i64 i4)), (3, 17, (eptr sv0 (i4.toNat * 2))), (4, 18, (eptr sv0 (i4.toNat * 2 + 0))), (5, 19, ((l0.getD i4.toNat z_Ossuarylaw20_Act).Drop).v), (6, 20, sv0), (7, 21, (int .i64 i4)), (8, 22, (eptr sv0 (i4.toNat * 2))), (9, 23, (eptr sv0 (i4.toNat * 2 + 1))), (10, 24, ((l0.getD i4.toNat z_Ossuarylaw20_Act).Put).v), (11, 25, (agg #[((l0.getD i4.toNat z_Ossuarylaw20_Act).Drop).v, ((l0.getD i4.toNat z_Ossuarylaw20_Act).Put).v])), (12, 26, (int .i64 x73.1))] done [A0, (sel (done 12) (box b27 139 [(pt (blk (ga40 12)) 0)]) (box b27 139 [(pt b43 0)])), (sel (done 12) (box (blk (ga40 12)) 192 [(ga40 1012)]) (box b43 192 [sv73])), (sel (done 12) (own (ga40 1012) 196 7 x73.2.length (fl enc_Omap_pair__int64__api_Entry x73.2)) (own sv73 196 7 l12.length (fl enc_Omap_pair__int64__api_Entry l12))), A25] a w
     refine ent_drawm 13 rfl (fun done a w => ∃ ga40 : Nat → Value, Z64_I ga40 done a w) (by kernel_rfl) (by kernel_rfl) (draw_startG (T := (fun ga40 : Nat → Value => [(0, 14, (pt b27 0)), (1, 15, sv0), (2, 16, (int .i64 i4)), (3, 17, (eptr sv0 (i4.toNat * 2))), (4, 18, (eptr sv0 (i4.toNat * 2 + 0))), (5, 19, ((l0.getD i4.toNat z_Ossuarylaw20_Act).Drop).v), (6, 20, sv0), (7, 21, (int .i64 i4)), (8, 22, (eptr sv0 (i4.toNat * 2))), (9, 23, (eptr sv0 (i4.toNat * 2 + 1))), (10, 24, ((l0.getD i4.toNat z_Ossuarylaw20_Act).Put).v), (11, 25, (agg #[((l0.getD i4.toNat z_Ossuarylaw20_Act).Drop).v, ((l0.getD i4.toNat z_Ossuarylaw20_Act).Put).v])), (12, 26, (int .i64 x73.1))])) (L' := fun ga40 : Nat → Value => [A0, (sel false (box b27 139 [(pt (blk (ga40 12)) 0)]) (box b27 139 [(pt b43 0)])), (sel false (box (blk (ga40 12)) 192 [(ga40 1012)]) (box b43 192 [sv73])), (sel false (own (ga40 1012) 196 7 x73.2.length (fl enc_Omap_pair__int64__api_Entry x73.2)) (own sv73 196 7 l12.length (fl enc_Omap_pair__int64__api_Entry l12))), A25]) 0 (sub_cons (t := 0) rfl (sub_cons (t := 4) rfl (sub_cons (t := 5) rfl (sub_cons (t := 6) rfl (sub_cons (t := 8) rfl (sub_cons (t := 9) rfl (sub_cons (t := 10) rfl (sub_cons (t := 11) rfl (sub_nil _))))))))) (fun _ => rfl)) ?_ ?_
     ·refine ⟨?_, ?_, ?_, ?_, ?_, ?_, ?_, ?_, ?_, ?_, ?_, ?_, ?_, trivial⟩
      ·intro done hi hc hcu
       refine draw_exi (I := Z64_I) fun ga40 => ?_
       exact draw_value (i := 0) (t := 14) (v := (pt b27 0)) rfl rfl (wanted_none rfl) (fun a => hasA_base) (ov_move rfl) rfl rfl (onlyT_spec (k0 := 0) rfl rfl rfl)
      ·intro done hi hc hcu
       refine draw_exi (I := Z64_I) fun ga40 => ?_
       exact draw_value (i := 1) (t := 15) (v := sv0) rfl rfl (wanted_none rfl) (fun a => hasA_base) (ov_move rfl) rfl rfl (onlyT_spec (k0 := 1) rfl rfl rfl)
      ·intro done hi hc hcu
       refine draw_exi (I := Z64_I) fun ga40 => ?_
       exact draw_value (i := 2) (t := 16) (v := (int .i64 i4)) rfl rfl (wanted_none rfl) (fun a => hasA_base) (ov_move rfl) rfl rfl (onlyT_spec (k0 := 2) rfl rfl rfl)
      ·intro done hi hc hcu
       refine draw_exi (I := Z64_I) fun ga40 => ?_
       have d1 : done 1 = true := done_of (j := 1) hcu rfl (by decide) rfl
       have d2 : done 2 = true := done_of (j := 2) hcu rfl (by decide) rfl
       exact draw_value (i := 3) (t := 17) (v := (eptr sv0 (i4.toNat * 2))) rfl rfl (wanted_none rfl) (fun a => (hasA_cons (k := 2) rfl d2 (hasA_cons (k := 1) rfl d1 hasA_base))) (ov_indexAddr (sz := 1) 0 rfl rfl F_slice_49 F_size_58 rfl hA0 c60 c58) rfl rfl (onlyT_spec (k0 := 3) rfl rfl rfl)
      ·intro done hi hc hcu
       refine draw_exi (I := Z64_I) fun ga40 => ?_
       have d3 : done 3 = true := done_of (j := 3) hcu rfl (by decide) rfl
       exact draw_value (i := 4) (t := 18) (v := (eptr sv0 (i4.toNat * 2 + 0))) rfl rfl (wanted_none rfl) (fun a => (hasA_cons (k := 3) rfl d3 hasA_base)) (ov_fieldAddrE (sz := 0) (k0 := i4.toNat * 2) (off := 0) 0 rfl F_field_58_0 F_size_56 rfl hA0 (fl_pos enc_Ossuarylaw20_Act_len (ix_lt c60 c58))) rfl rfl (onlyT_spec (k0 := 4) rfl rfl rfl)
      ·intro done hi hc hcu
       refine draw_exi (I := Z64_I) fun ga40 => ?_
       have d4 : done 4 = true := done_of (j := 4) hcu rfl (by decide) rfl
       exact draw_value (i := 5) (t := 19) (v := ((l0.getD i4.toNat z_Ossuarylaw20_Act).Drop).v) rfl rfl (wanted_none rfl) (fun a => (hasA_cons (k := 4) rfl d4 hasA_base)) (ov_load (v := ((l0.getD i4.toNat z_Ossuarylaw20_Act).Drop).v) rfl F_agg_56 (reads_rd (i := 0) rfl hA0 (by simp) (fl_read (off := 0) enc_Ossuarylaw20_Act_len (ix_lt c60 c58) rfl))) rfl rfl (onlyT_spec (k0 := 5) rfl rfl rfl)
      ·intro done hi hc hcu
       refine draw_exi (I := Z64_I) fun ga40 => ?_
       exact draw_value (i := 6) (t := 20) (v := sv0) rfl rfl (wanted_none rfl) (fun a => hasA_base) (ov_move rfl) rfl rfl (onlyT_spec (k0 := 6) rfl rfl rfl)
      ·intro done hi hc hcu
       refine draw_exi (I := Z64_I) fun ga40 => ?_
       exact draw_value (i := 7) (t := 21) (v := (int .i64 i4)) rfl rfl (wanted_none rfl) (fun a => hasA_base) (ov_move rfl) rfl rfl (onlyT_spec (k0 := 7) rfl rfl rfl)
      ·intro done hi hc hcu
       refine draw_exi (I := Z64_I) fun ga40 => ?_
       have d6 : done 6 = true := done_of (j := 6) hcu rfl (by decide) rfl
       have d7 : done 7 = true := done_of (j := 7) hcu rfl (by decide) rfl
       exact draw_value (i := 8) (t := 22) (v := (eptr sv0 (i4.toNat * 2))) rfl rfl (wanted_none rfl) (fun a => (hasA_cons (k := 7) rfl d7 (hasA_cons (k := 6) rfl d6 hasA_base))) (ov_indexAddr (sz := 1) 0 rfl rfl F_slice_49 F_size_58 rfl hA0 c60 c58) rfl rfl (onlyT_spec (k0 := 8) rfl rfl rfl)
      ·intro done hi hc hcu
       refine draw_exi (I := Z64_I) fun ga40 => ?_
       have d8 : done 8 = true := done_of (j := 8) hcu rfl (by decide) rfl
       exact draw_value (i := 9) (t := 23) (v := (eptr sv0 (i4.toNat * 2 + 1))) rfl rfl (wanted_none rfl) (fun a => (hasA_cons (k := 8) rfl d8 hasA_base)) (ov_fieldAddrE (sz := 0) (k0 := i4.toNat * 2) (off := 1) 0 rfl F_field_58_1 F_size_53 rfl hA0 (fl_pos enc_Ossuarylaw20_Act_len (ix_lt c60 c58))) rfl rfl (onlyT_spec (k0 := 9) rfl rfl rfl)
      ·intro done hi hc hcu
       refine draw_exi (I := Z64_I) fun ga40 => ?_
       have d9 : done 9 = true := done_of (j := 9) hcu rfl (by decide) rfl
       exact draw_value (i := 10) (t := 24) (v := ((l0.getD i4.toNat z_Ossuarylaw20_Act).Put).v) rfl rfl (wanted_none rfl) (fun a => (hasA_cons (k := 9) rfl d9 hasA_base)) (ov_load (v := ((l0.getD i4.toNat z_Ossuarylaw20_Act).Put).v) rfl F_agg_53 (reads_rd (i := 0) rfl hA0 (by simp) (fl_read (off := 1) enc_Ossuarylaw20_Act_len (ix_lt c60 c58) rfl))) rfl rfl (onlyT_spec (k0 := 10) rfl rfl rfl)
      ·intro done hi hc hcu
       refine draw_exi (I := Z64_I) fun ga40 => ?_
       have d5 : done 5 = true := done_of (j := 5) hcu rfl (by decide) rfl
       have d10 : done 10 = true := done_of (j := 10) hcu rfl (by decide) rfl
       exact draw_value (i := 11) (t := 25) (v := (agg #[((l0.getD i4.toNat z_Ossuarylaw20_Act).Drop).v, ((l0.getD i4.toNat z_Ossuarylaw20_Act).Put).v])) rfl rfl (wanted_none rfl) (fun a => (hasA_cons (k := 10) rfl d10 (hasA_cons (k := 5) rfl d5 hasA_base))) (ov_sl 0 rfl (hJ0 _ (getD_mem_ z_Ossuarylaw20_Act (ix_lt c60 c58))).2 fun hc1_ => (ov_sl 0 rfl (hJ0 _ (getD_mem_ z_Ossuarylaw20_Act (ix_lt c60 c58))).1 fun hc0_ => (ov_build (is := [0, 1]) (xs := [.tmp 19, .tmp 24]) (vs := [((l0.getD i4.toNat z_Ossuarylaw20_Act).Drop).v, ((l0.getD i4.toNat z_Ossuarylaw20_Act).Put).v]) rfl rfl (build_struct (cs := [((l0.getD i4.toNat z_Ossuarylaw20_Act).Drop).v, ((l0.getD i4.toNat z_Ossuarylaw20_Act).Put).v]) F_zero_59 F_places_59 (by revert hc0_ hc1_; generalize ((l0.getD i4.toNat z_Ossuarylaw20_Act).Drop).v = vv0_; generalize ((l0.getD i4.toNat z_Ossuarylaw20_Act).Put).v = vv1_; intro hc0_ hc1_; simp [Instr.fill, cells_int, cells_bool, cells_str, cells_func, cells_slice, cells_ptr, cells_nilFunc, cells_agg, hc0_, hc1_]))))) rfl rfl (onlyT_spec (k0 := 11) rfl rfl rfl)
      ·intro done hi hc hcu
       refine ent_exi (S := fun ga40 => Z64_I ga40 done) fun ga40 => ?_
       have d0 : done 0 = true := done_of (j := 0) hcu rfl (by decide) rfl
       have d11 : done 11 = true := done_of (j := 11) hcu rfl (by decide) rfl
       refine draw_turnP (i := 12) (t := 26) (x := ga40) (L := (fun (ga40 : Nat → Value) (done : Nat → Bool) => [A0, (sel (done 12) (box b27 139 [(pt (blk (ga40 12)) 0)]) (box b27 139 [(pt b43 0)])), (sel (done 12) (box (blk (ga40 12)) 192 [(ga40 1012)]) (box b43 192 [sv73])), (sel (done 12) (own (ga40 1012) 196 7 x73.2.length (fl enc_Omap_pair__int64__api_Entry x73.2)) (own sv73 196 7 l12.length (fl enc_Omap_pair__int64__api_Entry l12))), A25])) (T := (fun ga40 : Nat → Value => [(0, 14, (pt b27 0)), (1, 15, sv0), (2, 16, (int .i64 i4)), (3, 17, (eptr sv0 (i4.toNat * 2))), (4, 18, (eptr sv0 (i4.toNat * 2 + 0))), (5, 19, ((l0.getD i4.toNat z_Ossuarylaw20_Act).Drop).v), (6, 20, sv0), (7, 21, (int .i64 i4)), (8, 22, (eptr sv0 (i4.toNat * 2))), (9, 23, (eptr sv0 (i4.toNat * 2 + 1))), (10, 24, ((l0.getD i4.toNat z_Ossuarylaw20_Act).Put).v), (11, 25, (agg #[((l0.getD i4.toNat z_Ossuarylaw20_Act).Drop).v, ((l0.getD i4.toNat z_Ossuarylaw20_Act).Put).v])), (12, 26, (int .i64 x73.1))])) (L2 := [A0, (box b27 139 [(pt b43 0)]), (box b43 192 [sv73]), (own sv73 196 7 l12.length (fl enc_Omap_pair__int64__api_Entry l12)), A25]) [1, 2, 3, 0, 4] [3, 0, 1, 2, 4] rfl rfl (wanted_none rfl) (fun a => (hasA_cons (k := 11) rfl d11 (hasA_cons (k := 0) rfl d0 hasA_base))) (by simp only [hi, sel]) (by decide) rfl (ot_call (Lr := [A25]) (first := []) (cap := []) (xs := [.tmp 14, .tmp 25]) rfl rfl F_call_25 rfl (catalog_Catalog_Apply_ORR.spec K b27 b43 sv73 (((l0.getD i4.toNat z_Ossuarylaw20_Act).Drop).v) A0 (((l0.getD i4.toNat z_Ossuarylaw20_Act).Put).v) l12 (((l0.getD i4.toNat z_Ossuarylaw20_Act).Drop).xs) (((l0.getD i4.toNat z_Ossuarylaw20_Act).Put).xs) ((hJ0 _ (getD_mem_ z_Ossuarylaw20_Act (ix_lt c60 c58))).1) ((hJ0 _ (getD_mem_ z_Ossuarylaw20_Act (ix_lt c60 c58))).2) _ h75) rfl) (by decide) rfl rfl ?_
       rintro _ _ ⟨_, ⟨g0_, g1_, rfl, rfl⟩, rfl⟩
       exact ⟨(upb (upb ga40 12 (pt g0_ 0)) 1012 g1_), show some [A0, (box b27 139 [(pt (blk (pt g0_ 0)) 0)]), (box (blk (pt g0_ 0)) 192 [g1_]), (own g1_ 196 7 x73.2.length (fl enc_Omap_pair__int64__api_Entry x73.2)), A25] = _ by simp [up, upb, sel, hi], (tr_same rfl rfl (tr_same rfl rfl (tr_same rfl rfl (tr_same rfl rfl (tr_same rfl rfl (tr_same rfl rfl (tr_same rfl rfl (tr_same rfl rfl (tr_same rfl rfl (tr_same rfl rfl (tr_same rfl rfl (tr_same rfl rfl (tr_this tr_nil)))))))))))))⟩
     ·intro done hall
      refine ent_exi (S := fun ga40 => Z64_I ga40 done) fun ga40 => ?_
      refine draw_endL [A0, (box b27 139 [(pt (blk (ga40 12)) 0)]), (box (blk (ga40 12)) 192 [(ga40 1012)]), (own (ga40 1012) 196 7 x73.2.length (fl enc_Omap_pair__int64__api_Entry x73.2)), A25] (by simp only [hall 12 (by decide), sel]) (fun a => (hasA_cons (k := 0) rfl (hall 0 (by decide)) (hasA_cons (k := 1) rfl (hall 1 (by decide)) (hasA_cons (k := 2) rfl (hall 2 (by decide)) (hasA_cons (k := 3) rfl (hall 3 (by decide)) (hasA_cons (k := 4) rfl (hall 4 (by decide)) (hasA_cons (k := 5) rfl (hall 5 (by decide)) (hasA_cons (k := 6) rfl (hall 6 (by decide)) (hasA_cons (k := 7) rfl (hall 7 (by decide)) (hasA_cons (k := 8) rfl (hall 8 (by decide)) (hasA_cons (k := 9) rfl (hall 9 (by decide)) (hasA_cons (k := 10) rfl (hall 10 (by decide)) (hasA_cons (k := 11) rfl (hall 11 (by decide)) (hasA_cons (k := 12) rfl (hall 12 (by decide)) hasA_base)))))))))))))) ?_
      obtain ⟨x74, h76, H4⟩ := Option.bind_eq_some_iff.1 H4
      let Z63_A : (Nat → Bool) → Act → World → Prop := (fun done a w => StD 44 w0 F [(0, sv0), (4, (pt b27 0)), (5, sv80), (6, (int .i64 i4)), (8, (int .i64 i4)), (9, sv0), (10, (int .i64 (l0.length : Int))), (11, (bool (decide (i4 < (l0.length : Int))))), (14, (pt b27 0)), (15, sv0), (16, (int .i64 i4)), (17, (eptr sv0 (i4.toNat * 2))), (18, (eptr sv0 (i4.toNat * 2 + 0))), (19, ((l0.getD i4.toNat z_Ossuarylaw20_Act).Drop).v), (20, sv0), (21, (int .i64 i4)), (22, (eptr sv0 (i4.toNat * 2))), (23, (eptr sv0 (i4.toNat * 2 + 1))), (24, ((l0.getD i4.toNat z_Ossuarylaw20_Act).Put).v), (25, (agg #[((l0.getD i4.toNat z_Ossuarylaw20_Act).Drop).v, ((l0.getD i4.toNat z_Ossuarylaw20_Act).Put).v])), (26, (int .i64 x73.1))] [(0, 28, sv80), (1, 29, sv0), (2, 30, (int .i64 i4)), (3, 31, (eptr sv0 (i4.toNat * 2))), (4, 32, (eptr sv0 (i4.toNat * 2 + 0))), (5, 33, ((l0.getD i4.toNat z_Ossuarylaw20_Act).Drop).v), (6, 34, sv0), (7, 35, (int .i64 i4)), (8, 36, (eptr sv0 (i4.toNat * 2))), (9, 37, (eptr sv0 (i4.toNat * 2 + 1))), (10, 38, ((l0.getD i4.toNat z_Ossuarylaw20_Act).Put).v)] done [A0, (box b27 139 [(pt (blk (ga40 12)) 0)]), (box (blk (ga40 12)) 192 [(ga40 1012)]), (own (ga40 1012) 196 7 x73.2.length (fl enc_Omap_pair__int64__api_Entry x73.2)), A25] a w)
      let Z63_B : (Nat → Bool) → Act → World → Prop := (fun done a w => ∃ A29 : HP, ∃ sv88 : Value, IsRd A29 sv88 x74.2.length 6 (fl enc_Api_Entry x74.2) ∧ StD 44 w0 F [(0, sv0), (4, (pt b27 0)), (6, (int .i64 i4)), (8, (int .i64 i4)), (9, sv0), (10, (int .i64 (l0.length : Int))), (11, (bool (decide (i4 < (l0.length : Int))))), (14, (pt b27 0)), (15, sv0), (16, (int .i64 i4)), (17, (eptr sv0 (i4.toNat * 2))), (18, (eptr sv0 (i4.toNat * 2 + 0))), (19, ((l0.getD i4.toNat z_Ossuarylaw20_Act).Drop).v), (20, sv0), (21, (int .i64 i4)), (22, (eptr sv0 (i4.toNat * 2))), (23, (eptr sv0 (i4.toNat * 2 + 1))), (24, ((l0.getD i4.toNat z_Ossuarylaw20_Act).Put).v), (25, (agg #[((l0.getD i4.toNat z_Ossuarylaw20_Act).Drop).v, ((l0.getD i4.toNat z_Ossuarylaw20_Act).Put).v])), (26, (int .i64 x73.1)), (29, sv0), (30, (int .i64 i4)), (31, (eptr sv0 (i4.toNat * 2))), (32, (eptr sv0 (i4.toNat * 2 + 0))), (33, ((l0.getD i4.toNat z_Ossuarylaw20_Act).Drop).v), (34, sv0), (35, (int .i64 i4)), (36, (eptr sv0 (i4.toNat * 2))), (37, (eptr sv0 (i4.toNat * 2 + 1))), (38, ((l0.getD i4.toNat z_Ossuarylaw20_Act).Put).v), (39, (Value.tuple #[sv88, (int .i64 x74.1)]))] [(12, 27, (Value.tuple #[sv88, (int .i64 x74.1)])), (13, 40, sv88), (14, 41, (int .i64 x74.1)), (15, 5, sv88)] done [A29, A0, (box b27 139 [(pt (blk (ga40 12)) 0)]), (box (blk (ga40 12)) 192 [(ga40 1012)]), (own (ga40 1012) 196 7 x73.2.length (fl enc_Omap_pair__int64__api_Entry x73.2))] a w)
      refine ent_drawm 16 rfl (twoB 11 Z63_A Z63_B) (by kernel_rfl) (by kernel_rfl) (twoB_start (draw_startL (sub_cons (t := 0) rfl (sub_cons (t := 4) rfl (sub_cons (t := 5) rfl (sub_cons (t := 6) rfl (sub_cons (t := 8) rfl (sub_cons (t := 9) rfl (sub_cons (t := 10) rfl (sub_cons (t := 11) rfl (sub_cons (t := 14) rfl (sub_cons (t := 15) rfl (sub_cons (t := 16) rfl (sub_cons (t := 17) rfl (sub_cons (t := 18) rfl (sub_cons (t := 19) rfl (sub_cons (t := 20) rfl (sub_cons (t := 21) rfl (sub_cons (t := 22) rfl (sub_cons (t := 23) rfl (sub_cons (t := 24) rfl (sub_cons (t := 25) rfl (sub_cons (t := 26) rfl (sub_nil _)))))))))))))))))))))) rfl)) ?_ ?_
      ·refine ⟨?_, ?_, ?_, ?_, ?_, ?_, ?_, ?_, ?_, ?_, ?_, ?_, ?_, ?_, ?_, ?_, trivial⟩
       ·intro done hi hc hcu
        have n11 : done 11 = false := notdone_of (m := 11) hc hi rfl rfl
        refine twoB_step (m := 11) (A := Z63_A) n11 rfl ?_
        exact draw_value (i := 0) (t := 28) (v := sv80) rfl rfl (wanted_none rfl) (fun a => hasA_base) (ov_move rfl) rfl rfl (onlyT_spec (k0 := 0) rfl rfl rfl)
       ·intro done hi hc hcu
        have n3 : done 3 = false := notdone_of (m := 3) hc hi rfl rfl
        have n4 : done 4 = false := notdone_of (m := 4) hc n3 rfl rfl
        have n5 : done 5 = false := notdone_of (m := 5) hc n4 rfl rfl
        have n11 : done 11 = false := notdone_of (m := 11) hc n5 rfl rfl
        refine twoB_step (m := 11) (A := Z63_A) n11 rfl ?_
        exact draw_value (i := 1) (t := 29) (v := sv0) rfl rfl (wanted_none rfl) (fun a => hasA_base) (ov_move rfl) rfl rfl (onlyT_spec (k0 := 1) rfl rfl rfl)
       ·intro done hi hc hcu
        have n3 : done 3 = false := notdone_of (m := 3) hc hi rfl rfl
        have n4 : done 4 = false := notdone_of (m := 4) hc n3 rfl rfl
        have n5 : done 5 = false := notdone_of (m := 5) hc n4 rfl rfl
        have n11 : done 11 = false := notdone_of (m := 11) hc n5 rfl rfl
        refine twoB_step (m := 11) (A := Z63_A) n11 rfl ?_
        exact draw_value (i := 2) (t := 30) (v := (int .i64 i4)) rfl rfl (wanted_none rfl) (fun a => hasA_base) (ov_move rfl) rfl rfl (onlyT_spec (k0 := 2) rfl rfl rfl)
       ·intro done hi hc hcu
        have n4 : done 4 = false := notdone_of (m := 4) hc hi rfl rfl
        have n5 : done 5 = false := notdone_of (m := 5) hc n4 rfl rfl
        have n11 : done 11 = false := notdone_of (m := 11) hc n5 rfl rfl
        refine twoB_step (m := 11) (A := Z63_A) n11 rfl ?_
        have d1 : done 1 = true := done_of (j := 1) hcu rfl (by decide) rfl
        have d2 : done 2 = true := done_of (j := 2) hcu rfl (by decide) rfl
        exact draw_value (i := 3) (t := 31) (v := (eptr sv0 (i4.toNat * 2))) rfl rfl (wanted_none rfl) (fun a => (hasA_cons (k := 2) rfl d2 (hasA_cons (k := 1) rfl d1 hasA_base))) (ov_indexAddr (sz := 1) 0 rfl rfl F_slice_49 F_size_58 rfl hA0 c60 c58) rfl rfl (onlyT_spec (k0 := 3) rfl rfl rfl)
       ·intro done hi hc hcu
        have n5 : done 5 = false := notdone_of (m := 5) hc hi rfl rfl
        have n11 : done 11 = false := notdone_of (m := 11) hc n5 rfl rfl
        refine twoB_step (m := 11) (A := Z63_A) n11 rfl ?_
        have d3 : done 3 = true := done_of (j := 3) hcu rfl (by decide) rfl
        exact draw_value (i := 4) (t := 32) (v := (eptr sv0 (i4.toNat * 2 + 0))) rfl rfl (wanted_none rfl) (fun a => (hasA_cons (k := 3) rfl d3 hasA_base)) (ov_fieldAddrE (sz := 0) (k0 := i4.toNat * 2) (off := 0) 0 rfl F_field_58_0 F_size_56 rfl hA0 (fl_pos enc_Ossuarylaw20_Act_len (ix_lt c60 c58))) rfl rfl (onlyT_spec (k0 := 4) rfl rfl rfl)
       ·intro done hi hc hcu
        have n11 : done 11 = false := notdone_of (m := 11) hc hi rfl rfl
        refine twoB_step (m := 11) (A := Z63_A) n11 rfl ?_
        have d4 : done 4 = true := done_of (j := 4) hcu rfl (by decide) rfl
        exact draw_value (i := 5) (t := 33) (v := ((l0.getD i4.toNat z_Ossuarylaw20_Act).Drop).v) rfl rfl (wanted_none rfl) (fun a => (hasA_cons (k := 4) rfl d4 hasA_base)) (ov_load (v := ((l0.getD i4.toNat z_Ossuarylaw20_Act).Drop).v) rfl F_agg_56 (reads_rd (i := 0) rfl hA0 (by simp) (fl_read (off := 0) enc_Ossuarylaw20_Act_len (ix_lt c60 c58) rfl))) rfl rfl (onlyT_spec (k0 := 5) rfl rfl rfl)
       ·intro done hi hc hcu
        have n8 : done 8 = false := notdone_of (m := 8) hc hi rfl rfl
        have n9 : done 9 = false := notdone_of (m := 9) hc n8 rfl rfl
        have n10 : done 10 = false := notdone_of (m := 10) hc n9 rfl rfl
        have n11 : done 11 = false := notdone_of (m := 11) hc n10 rfl rfl
        refine twoB_step (m := 11) (A := Z63_A) n11 rfl ?_
        exact draw_value (i := 6) (t := 34) (v := sv0) rfl rfl (wanted_none rfl) (fun a => hasA_base) (ov_move rfl) rfl rfl (onlyT_spec (k0 := 6) rfl rfl rfl)
       ·intro done hi hc hcu
        have n8 : done 8 = false := notdone_of (m := 8) hc hi rfl rfl
        have n9 : done 9 = false := notdone_of (m := 9) hc n8 rfl rfl
        have n10 : done 10 = false := notdone_of (m := 10) hc n9 rfl rfl
        have n11 : done 11 = false := notdone_of (m := 11) hc n10 rfl rfl
        refine twoB_step (m := 11) (A := Z63_A) n11 rfl ?_
        exact draw_value (i := 7) (t := 35) (v := (int .i64 i4)) rfl rfl (wanted_none rfl) (fun a => hasA_base) (ov_move rfl) rfl rfl (onlyT_spec (k0 := 7) rfl rfl rfl)
       ·intro done hi hc hcu
        have n9 : done 9 = false := notdone_of (m := 9) hc hi rfl rfl
        have n10 : done 10 = false := notdone_of (m := 10) hc n9 rfl rfl
        have n11 : done 11 = false := notdone_of (m := 11) hc n10 rfl rfl
        refine twoB_step (m := 11) (A := Z63_A) n11 rfl ?_
        have d6 : done 6 = true := done_of (j := 6) hcu rfl (by decide) rfl
        have d7 : done 7 = true := done_of (j := 7) hcu rfl (by decide) rfl
        exact draw_value (i := 8) (t := 36) (v := (eptr sv0 (i4.toNat * 2))) rfl rfl (wanted_none rfl) (fun a => (hasA_cons (k := 7) rfl d7 (hasA_cons (k := 6) rfl d6 hasA_base))) (ov_indexAddr (sz := 1) 0 rfl rfl F_slice_49 F_size_58 rfl hA0 c60 c58) rfl rfl (onlyT_spec (k0 := 8) rfl rfl rfl)
       ·intro done hi hc hcu
        have n10 : done 10 = false := notdone_of (m := 10) hc hi rfl rfl
        have n11 : done 11 = false := notdone_of (m := 11) hc n10 rfl rfl
        refine twoB_step (m := 11) (A := Z63_A) n11 rfl ?_
        have d8 : done 8 = true := done_of (j := 8) hcu rfl (by decide) rfl
        exact draw_value (i := 9) (t := 37) (v := (eptr sv0 (i4.toNat * 2 + 1))) rfl rfl (wanted_none rfl) (fun a => (hasA_cons (k := 8) rfl d8 hasA_base)) (ov_fieldAddrE (sz := 0) (k0 := i4.toNat * 2) (off := 1) 0 rfl F_field_58_1 F_size_53 rfl hA0 (fl_pos enc_Ossuarylaw20_Act_len (ix_lt c60 c58))) rfl rfl (onlyT_spec (k0 := 9) rfl rfl rfl)
       ·intro done hi hc hcu
        have n11 : done 11 = false := notdone_of (m := 11) hc hi rfl rfl
        refine twoB_step (m := 11) (A := Z63_A) n11 rfl ?_
        have d9 : done 9 = true := done_of (j := 9) hcu rfl (by decide) rfl
        exact draw_value (i := 10) (t := 38) (v := ((l0.getD i4.toNat z_Ossuarylaw20_Act).Put).v) rfl rfl (wanted_none rfl) (fun a => (hasA_cons (k := 9) rfl d9 hasA_base)) (ov_load (v := ((l0.getD i4.toNat z_Ossuarylaw20_Act).Put).v) rfl F_agg_53 (reads_rd (i := 0) rfl hA0 (by simp) (fl_read (off := 1) enc_Ossuarylaw20_Act_len (ix_lt c60 c58) rfl))) rfl rfl (onlyT_spec (k0 := 10) rfl rfl rfl)
       ·intro done hi hc hcu
        refine twoB_last (m := 11) (A := Z63_A) (B := Z63_B) hi ?_
        have n12 : done 12 = false := notdone_of (m := 12) hc hi rfl rfl
        have n13 : done 13 = false := notdone_of (m := 13) hc n12 rfl rfl
        have n14 : done 14 = false := notdone_of (m := 14) hc n12 rfl rfl
        have n15 : done 15 = false := notdone_of (m := 15) hc hi rfl rfl
        have d0 : done 0 = true := done_of (j := 0) hcu rfl (by decide) rfl
        have d5 : done 5 = true := done_of (j := 5) hcu rfl (by decide) rfl
        have d10 : done 10 = true := done_of (j := 10) hcu rfl (by decide) rfl
        have d9 : done 9 = true := done_step (i := 10) (j := 9) hc d10 rfl rfl
        have d8 : done 8 = true := done_step (i := 9) (j := 8) hc d9 rfl rfl
        have d7 : done 7 = true := done_step (i := 8) (j := 7) hc d8 rfl rfl
        have d6 : done 6 = true := done_step (i := 8) (j := 6) hc d8 rfl rfl
        have d4 : done 4 = true := done_step (i := 5) (j := 4) hc d5 rfl rfl
        have d3 : done 3 = true := done_step (i := 4) (j := 3) hc d4 rfl rfl
        have d2 : done 2 = true := done_step (i := 3) (j := 2) hc d3 rfl rfl
        have d1 : done 1 = true := done_step (i := 3) (j := 1) hc d3 rfl rfl
        refine draw_endL [A0, (box b27 139 [(pt (blk (ga40 12)) 0)]), (box (blk (ga40 12)) 192 [(ga40 1012)]), (own (ga40 1012) 196 7 x73.2.length (fl enc_Omap_pair__int64__api_Entry x73.2)), A25] rfl (fun a => (hasA_cons (k := 0) rfl d0 (hasA_cons (k := 1) rfl d1 (hasA_cons (k := 2) rfl d2 (hasA_cons (k := 3) rfl d3 (hasA_cons (k := 4) rfl d4 (hasA_cons (k := 5) rfl d5 (hasA_cons (k := 6) rfl d6 (hasA_cons (k := 7) rfl d7 (hasA_cons (k := 8) rfl d8 (hasA_cons (k := 9) rfl d9 (hasA_cons (k := 10) rfl d10 hasA_base)))))))))))) ?_
        refine ent_pick [4, 0, 1, 2, 3] (by decide) rfl ?_
        refine last_op rfl rfl rfl rfl (ot_call (Lr := [(box b27 139 [(pt (blk (ga40 12)) 0)]), (box (blk (ga40 12)) 192 [(ga40 1012)]), (own (ga40 1012) 196 7 x73.2.length (fl enc_Omap_pair__int64__api_Entry x73.2))]) (first := []) (cap := []) (xs := [.tmp 28, .tmp 33, .tmp 38]) rfl rfl F_call_88 rfl (ossuaryref20_Apply_RRR.spec K sv80 A25 (((l0.getD i4.toNat z_Ossuarylaw20_Act).Drop).v) A0 (((l0.getD i4.toNat z_Ossuarylaw20_Act).Put).v) l14 (((l0.getD i4.toNat z_Ossuarylaw20_Act).Drop).xs) (((l0.getD i4.toNat z_Ossuarylaw20_Act).Put).xs) hr25 ((hJ0 _ (getD_mem_ z_Ossuarylaw20_Act (ix_lt c60 c58))).1) ((hJ0 _ (getD_mem_ z_Ossuarylaw20_Act (ix_lt c60 c58))).2) _ h76) rfl) ?_
        rintro _ _ ⟨_, ⟨A29, sv88, hr29, rfl, rfl⟩, rfl⟩
        exact ent_fin [0, 1, 2, 3, 4] (by decide) rfl (sub_cons (t := 0) rfl (sub_cons (t := 4) rfl (sub_cons (t := 6) rfl (sub_cons (t := 8) rfl (sub_cons (t := 9) rfl (sub_cons (t := 10) rfl (sub_cons (t := 11) rfl (sub_cons (t := 14) rfl (sub_cons (t := 15) rfl (sub_cons (t := 16) rfl (sub_cons (t := 17) rfl (sub_cons (t := 18) rfl (sub_cons (t := 19) rfl (sub_cons (t := 20) rfl (sub_cons (t := 21) rfl (sub_cons (t := 22) rfl (sub_cons (t := 23) rfl (sub_cons (t := 24) rfl (sub_cons (t := 25) rfl (sub_cons (t := 26) rfl (sub_cons (t := 29) rfl (sub_cons (t := 30) rfl (sub_cons (t := 31) rfl (sub_cons (t := 32) rfl (sub_cons (t := 33) rfl (sub_cons (t := 34) rfl (sub_cons (t := 35) rfl (sub_cons (t := 36) rfl (sub_cons (t := 37) rfl (sub_cons (t := 38) rfl (sub_cons (t := 39) rfl (sub_nil _)))))))))))))))))))))))))))))))) fun a w h => ⟨_, _, hr29, (std_of (allT_n (up_ne n12 rfl) (allT_n (up_ne n13 rfl) (allT_n (up_ne n14 rfl) (allT_n (up_ne n15 rfl) trivial)))) h)⟩
       ·intro done hi hc hcu
        have d11 : done 11 = true := done_of (j := 11) hcu rfl (by decide) rfl
        refine twoB_suf (m := 11) (A := Z63_A) (B := Z63_B) d11 ?_
        refine last_exi fun A29 => last_exi fun sv88 => suf_and fun hr29 => ?_
        exact draw_value (i := 12) (t := 27) (v := (Value.tuple #[sv88, (int .i64 x74.1)])) rfl rfl (wanted_none rfl) (fun a => hasA_base) (ov_move rfl) rfl rfl (onlyT_spec (k0 := 0) rfl rfl rfl)
       ·intro done hi hc hcu
        have d12 : done 12 = true := done_of (j := 12) hcu rfl (by decide) rfl
        have d11 : done 11 = true := done_step (i := 12) (j := 11) hc d12 rfl rfl
        refine twoB_suf (m := 11) (A := Z63_A) (B := Z63_B) d11 ?_
        refine last_exi fun A29 => last_exi fun sv88 => suf_and fun hr29 => ?_
        exact draw_value (i := 13) (t := 40) (v := sv88) rfl rfl (wanted_none rfl) (fun a => (hasA_cons (k := 0) rfl d12 hasA_base)) (ov_extract rfl rfl) rfl rfl (onlyT_spec (k0 := 1) rfl rfl rfl)
       ·intro done hi hc hcu
        have d12 : done 12 = true := done_of (j := 12) hcu rfl (by decide) rfl
        have d11 : done 11 = true := done_step (i := 12) (j := 11) hc d12 rfl rfl
        refine twoB_suf (m := 11) (A := Z63_A) (B := Z63_B) d11 ?_
        refine last_exi fun A29 => last_exi fun sv88 => suf_and fun hr29 => ?_
        exact draw_value (i := 14) (t := 41) (v := (int .i64 x74.1)) rfl rfl (wanted_none rfl) (fun a => (hasA_cons (k := 0) rfl d12 hasA_base)) (ov_extract rfl rfl) rfl rfl (onlyT_spec (k0 := 2) rfl rfl rfl)
       ·intro done hi hc hcu
        have d11 : done 11 = true := done_of (j := 11) hcu rfl (by decide) rfl
        have d13 : done 13 = true := done_of (j := 13) hcu rfl (by decide) rfl
        refine twoB_suf (m := 11) (A := Z63_A) (B := Z63_B) d11 ?_
        refine last_exi fun A29 => last_exi fun sv88 => suf_and fun hr29 => ?_
        exact draw_value (i := 15) (t := 5) (v := sv88) rfl rfl (wanted_none rfl) (fun a => (hasA_cons (k := 1) rfl d13 hasA_base)) (ov_assign rfl) rfl rfl (onlyT_spec (k0 := 3) rfl rfl rfl)
      ·intro done hall
       refine twoB_end (A := Z63_A) (B := Z63_B) (hall 11 (by decide)) ?_
       refine ent_exi fun A29 => ent_exi fun sv88 => ent_and fun hr29 => ?_
       refine draw_endL [A29, A0, (box b27 139 [(pt (blk (ga40 12)) 0)]), (box (blk (ga40 12)) 192 [(ga40 1012)]), (own (ga40 1012) 196 7 x73.2.length (fl enc_Omap_pair__int64__api_Entry x73.2))] rfl (fun a => (hasA_cons (k := 0) rfl (hall 12 (by decide)) (hasA_cons (k := 1) rfl (hall 13 (by decide)) (hasA_cons (k := 2) rfl (hall 14 (by decide)) (hasA_cons (k := 3) rfl (hall 15 (by decide)) hasA_base))))) ?_
       refine ent_region ?_
       refine ent_value (ov_move rfl) rfl rfl rfl ?_
       refine ent_value (ov_bin rfl rfl (b_add _ _ _) ) rfl rfl rfl ?_
       refine ent_value (ov_assign rfl) rfl rfl rfl ?_
       refine ent_nil ?_
       exact ent_fin [1, 2, 3, 4, 0] (by decide) rfl (sub_cons (t := 0) rfl (sub_cons (t := 4) rfl (sub_cons (t := 5) rfl (sub_cons (t := 6) rfl (sub_nil _))))) fun a w h => ⟨k, Nat.lt_succ_self k, _, _, _, _, _, _, _, hr29, H4, h⟩
    ·rw [if_neg c60] at H4
     cases H4
   ·rw [if_neg c58] at H4
    refine ent_cond_false rfl (decide_eq_false c58) ?_
    refine ent_exit ?_
    refine ent_seq ?_
    refine ent_region ?_
    refine ent_value (ov_move rfl) rfl rfl rfl ?_
    refine ent_value (ov_move rfl) rfl rfl rfl ?_
    refine ent_value (ov_assign rfl) rfl rfl rfl ?_
    refine ent_value (ov_assign rfl) rfl rfl rfl ?_
    refine ent_nil ?_
    refine ent_retc ?_
    cases H4
    refine ent_pick [0, 1, 2, 3, 4] (by decide) rfl ?_
    exact ret_mem (vs := [(pt b27 0), sv80]) rfl ⟨rfl, ⟨rfl, trivial⟩⟩ _ rfl ⟨_, _, _, _, _, hr25, rfl, rfl⟩

set_option maxRecDepth 100000 in
theorem ossuarylaw20_Back_O.spec (K : Nat) (p0 : Nat) (p1 : Nat) (sv0 : Value) (l0 : List Omap_pair__int64__api_Entry) (r : List Api_Entry) (H : ossuarylaw20_Back_O K l0 = some r) : FnSpec Try.prog 24 [(pt p0 0)] [(box p0 139 [(pt p1 0)]), (box p1 192 [sv0]), (own sv0 196 7 l0.length (fl enc_Omap_pair__int64__api_Entry l0))] (fun v M => ∃ sv2 : Value, v = sv2 ∧ M = [(box p0 139 [(pt p1 0)]), (box p1 192 [sv0]), (own sv0 196 7 l0.length (fl enc_Omap_pair__int64__api_Entry l0)), (own sv2 65 6 r.length (fl enc_Api_Entry r))]) := by
 unfold ossuarylaw20_Back_O at H
 refine spec_of Try.func24 rfl 5 rfl (Nat.le_of_ble_eq_true rfl) fun F w0 => ?_
 show Ent (St 5 w0 F [(0, (pt p0 0))] [(box p0 139 [(pt p1 0)]), (box p1 192 [sv0]), (own sv0 196 7 l0.length (fl enc_Omap_pair__int64__api_Entry l0))]) _
 refine ent_seq ?_
 refine ent_region ?_
 refine ent_value (ov_assign rfl) rfl rfl rfl ?_
 refine ent_nil ?_
 refine ent_seq ?_
 refine ent_region ?_
 refine ent_value (ov_move rfl) rfl rfl rfl ?_
 obtain ⟨x2, h2, H⟩ := Option.bind_eq_some_iff.1 H
 refine ent_op (ot_call (Lr := []) (first := []) (cap := []) (xs := [.tmp 3, .const (int .i64 (-4611686018427387904)), .const (int .i64 4611686018427387904)]) rfl rfl F_call_36 rfl (catalog_Catalog_Over_O.spec K p0 p1 sv0 l0 (-4611686018427387904) 4611686018427387904 _ h2) rfl) rfl rfl rfl ?_
 rintro sv3 _ ⟨_, ⟨_, rfl, rfl⟩, rfl⟩
 refine ent_value (ov_assign rfl) rfl rfl rfl ?_
 refine ent_nil ?_
 refine ent_retc ?_
 cases H
 refine ent_pick [0, 1, 2, 3] (by decide) rfl ?_
 exact ret_tmp rfl rfl ⟨_, rfl, rfl⟩

set_option maxRecDepth 100000 in
theorem ossuaryref20_Same_RR.spec (K : Nat) (sv0 : Value) (A0 : HP) (sv1 : Value) (A1 : HP) (l0 : List Api_Entry) (l1 : List Api_Entry) (hA0 : IsRd A0 sv0 l0.length 6 (fl enc_Api_Entry l0)) (hA1 : IsRd A1 sv1 l1.length 6 (fl enc_Api_Entry l1)) (r : Bool) (H : ossuaryref20_Same_RR K l0 l1 = some r) : FnSpec Try.prog 26 [sv0, sv1] [A0, A1] (fun v M => v = (bool r) ∧ M = [A0, A1]) := by
 unfold ossuaryref20_Same_RR at H
 refine spec_of Try.func26 rfl 26 rfl (Nat.le_of_ble_eq_true rfl) fun F w0 => ?_
 show Ent (St 26 w0 F [(0, sv0), (1, sv1)] [A0, A1]) _
 refine ent_seq ?_
 refine ent_region ?_
 refine ent_value (ov_assign rfl) rfl rfl rfl ?_
 refine ent_nil ?_
 refine ent_seq ?_
 refine ent_seq ?_
 refine ent_region ?_
 refine ent_value (ov_move rfl) rfl rfl rfl ?_
 refine ent_value (ov_len 0 rfl F_slice_53 rfl hA0) rfl rfl rfl ?_
 refine ent_value (ov_move rfl) rfl rfl rfl ?_
 refine ent_value (ov_len 1 rfl F_slice_53 rfl hA1) rfl rfl rfl ?_
 refine ent_value (ov_bin rfl rfl (b_neq _ _ _)) rfl rfl rfl ?_
 refine ent_nil ?_
 by_cases c48 : ¬ ((l0.length : Int) = (l1.length : Int))
 ·rw [if_pos c48] at H
  refine ent_cond_true rfl (ne_t c48) ?_
  refine ent_seq ?_
  refine ent_region ?_
  refine ent_value (ov_assign rfl) rfl rfl rfl ?_
  refine ent_nil ?_
  refine ent_retc ?_
  cases H
  refine ent_pick [0, 1] (by decide) rfl ?_
  exact ret_tmp rfl rfl ⟨rfl, rfl⟩
 ·rw [if_neg c48] at H
  refine ent_cond_false rfl (ne_f c48) ?_
  refine ent_skip ?_
  refine ent_seq ?_
  refine ent_seq ?_
  refine ent_region ?_
  refine ent_value (ov_assign rfl) rfl rfl rfl ?_
  refine ent_nil ?_
  refine ent_block ?_
  refine ent_loop (fun k a w => ∃ i4, ossuaryref20_Same_RR_l0 K l0 l1 k i4 = some r ∧ St 26 w0 F [(0, sv0), (1, sv1), (5, (int .i64 i4))] [A0, A1] a w) K ?_ ?_
  ·exact ent_fin [0, 1] (by decide) rfl (sub_cons (t := 0) rfl (sub_cons (t := 1) rfl (sub_cons (t := 5) rfl (sub_nil _)))) fun a w h => ⟨_, H, h⟩
  ·refine fun k => ent_exi fun i4 => ent_and fun H4 => ?_
   cases k with
   | zero => exact absurd H4 (by simp [ossuaryref20_Same_RR_l0])
   | succ k =>
    rw [ossuaryref20_Same_RR_l0] at H4
    refine ent_seq ?_
    refine ent_seq ?_
    refine ent_region ?_
    refine ent_value (ov_move rfl) rfl rfl rfl ?_
    refine ent_value (ov_move rfl) rfl rfl rfl ?_
    refine ent_value (ov_len 0 rfl F_slice_53 rfl hA0) rfl rfl rfl ?_
    refine ent_value (ov_bin rfl rfl (b_lss _ _ _)) rfl rfl rfl ?_
    refine ent_nil ?_
    by_cases c86 : i4 < (l0.length : Int)
    ·rw [if_pos c86] at H4
     refine ent_cond_true rfl (decide_eq_true c86) ?_
     refine ent_skip ?_
     refine ent_seq ?_
     refine ent_block ?_
     refine ent_seq ?_
     by_cases c90 : 0 ≤ i4
     ·rw [if_pos c90] at H4
      by_cases c91 : i4 < (l1.length : Int)
      ·rw [if_pos c91] at H4
       refine ent_drawm 9 rfl (fun done a w => StD 26 w0 F [(0, sv0), (1, sv1), (5, (int .i64 i4)), (11, (int .i64 i4)), (12, sv0), (13, (int .i64 (l0.length : Int))), (14, (bool (decide (i4 < (l0.length : Int)))))] [(0, 17, sv0), (1, 18, (int .i64 i4)), (2, 19, (eptr sv0 (i4.toNat * 6))), (3, 20, (agg #[(int .i64 (((l0.getD i4.toNat z_Api_Entry).Part).Tier)), (int .i64 (((l0.getD i4.toNat z_Api_Entry).Part).Index)), (int .i64 ((l0.getD i4.toNat z_Api_Entry).Seg)), (int .i64 ((l0.getD i4.toNat z_Api_Entry).Mark)), (int .i64 ((l0.getD i4.toNat z_Api_Entry).Rows)), (bool ((l0.getD i4.toNat z_Api_Entry).Cold))])), (4, 21, sv1), (5, 22, (int .i64 i4)), (6, 23, (eptr sv1 (i4.toNat * 6))), (7, 24, (agg #[(int .i64 (((l1.getD i4.toNat z_Api_Entry).Part).Tier)), (int .i64 (((l1.getD i4.toNat z_Api_Entry).Part).Index)), (int .i64 ((l1.getD i4.toNat z_Api_Entry).Seg)), (int .i64 ((l1.getD i4.toNat z_Api_Entry).Mark)), (int .i64 ((l1.getD i4.toNat z_Api_Entry).Rows)), (bool ((l1.getD i4.toNat z_Api_Entry).Cold))])), (8, 25, (bool (!((((((l0.getD i4.toNat z_Api_Entry).Part).Tier) == (((l1.getD i4.toNat z_Api_Entry).Part).Tier)) && (((((l0.getD i4.toNat z_Api_Entry).Part).Index) == (((l1.getD i4.toNat z_Api_Entry).Part).Index)) && true)) && ((((l0.getD i4.toNat z_Api_Entry).Seg) == ((l1.getD i4.toNat z_Api_Entry).Seg)) && ((((l0.getD i4.toNat z_Api_Entry).Mark) == ((l1.getD i4.toNat z_Api_Entry).Mark)) && ((((l0.getD i4.toNat z_Api_Entry).Rows) == ((l1.getD i4.toNat z_Api_Entry).Rows)) && ((((l0.getD i4.toNat z_Api_Entry).Cold) == ((l1.getD i4.toNat z_Api_Entry).Cold)) && true))))))))] done [A0, A1] a w) (by kernel_rfl) (by kernel_rfl) (draw_startL (sub_cons (t := 0) rfl (sub_cons (t := 1) rfl (sub_cons (t := 5) rfl (sub_cons (t := 11) rfl (sub_cons (t := 12) rfl (sub_cons (t := 13) rfl (sub_cons (t := 14) rfl (sub_nil _)))))))) rfl) ?_ ?_
       ·refine ⟨?_, ?_, ?_, ?_, ?_, ?_, ?_, ?_, ?_, trivial⟩
        ·intro done hi hc hcu
         exact draw_value (i := 0) (t := 17) (v := sv0) rfl rfl (wanted_none rfl) (fun a => hasA_base) (ov_move rfl) rfl rfl (onlyT_spec (k0 := 0) rfl rfl rfl)
        ·intro done hi hc hcu
         exact draw_value (i := 1) (t := 18) (v := (int .i64 i4)) rfl rfl (wanted_none rfl) (fun a => hasA_base) (ov_move rfl) rfl rfl (onlyT_spec (k0 := 1) rfl rfl rfl)
        ·intro done hi hc hcu
         have d0 : done 0 = true := done_of (j := 0) hcu rfl (by decide) rfl
         have d1 : done 1 = true := done_of (j := 1) hcu rfl (by decide) rfl
         exact draw_value (i := 2) (t := 19) (v := (eptr sv0 (i4.toNat * 6))) rfl rfl (wanted_none rfl) (fun a => (hasA_cons (k := 1) rfl d1 (hasA_cons (k := 0) rfl d0 hasA_base))) (ov_indexAddr (sz := 5) 0 rfl rfl F_slice_53 F_size_65 rfl hA0 c90 c86) rfl rfl (onlyT_spec (k0 := 2) rfl rfl rfl)
        ·intro done hi hc hcu
         have d2 : done 2 = true := done_of (j := 2) hcu rfl (by decide) rfl
         exact draw_value (i := 3) (t := 20) (v := (agg #[(int .i64 (((l0.getD i4.toNat z_Api_Entry).Part).Tier)), (int .i64 (((l0.getD i4.toNat z_Api_Entry).Part).Index)), (int .i64 ((l0.getD i4.toNat z_Api_Entry).Seg)), (int .i64 ((l0.getD i4.toNat z_Api_Entry).Mark)), (int .i64 ((l0.getD i4.toNat z_Api_Entry).Rows)), (bool ((l0.getD i4.toNat z_Api_Entry).Cold))])) rfl rfl (wanted_none rfl) (fun a => (hasA_cons (k := 2) rfl d2 hasA_base)) (ov_load_agg (vs := [(int .i64 (((l0.getD i4.toNat z_Api_Entry).Part).Tier)), (int .i64 (((l0.getD i4.toNat z_Api_Entry).Part).Index)), (int .i64 ((l0.getD i4.toNat z_Api_Entry).Seg)), (int .i64 ((l0.getD i4.toNat z_Api_Entry).Mark)), (int .i64 ((l0.getD i4.toNat z_Api_Entry).Rows)), (bool ((l0.getD i4.toNat z_Api_Entry).Cold))]) rfl F_agg_65 F_size_65 (reads_rd (i := 0) rfl hA0 (by simp) (fl_read0 enc_Api_Entry_len (ix_lt c90 c86) rfl))) rfl rfl (onlyT_spec (k0 := 3) rfl rfl rfl)
        ·intro done hi hc hcu
         exact draw_value (i := 4) (t := 21) (v := sv1) rfl rfl (wanted_none rfl) (fun a => hasA_base) (ov_move rfl) rfl rfl (onlyT_spec (k0 := 4) rfl rfl rfl)
        ·intro done hi hc hcu
         exact draw_value (i := 5) (t := 22) (v := (int .i64 i4)) rfl rfl (wanted_none rfl) (fun a => hasA_base) (ov_move rfl) rfl rfl (onlyT_spec (k0 := 5) rfl rfl rfl)
        ·intro done hi hc hcu
         have d4 : done 4 = true := done_of (j := 4) hcu rfl (by decide) rfl
         have d5 : done 5 = true := done_of (j := 5) hcu rfl (by decide) rfl
         exact draw_value (i := 6) (t := 23) (v := (eptr sv1 (i4.toNat * 6))) rfl rfl (wanted_none rfl) (fun a => (hasA_cons (k := 5) rfl d5 (hasA_cons (k := 4) rfl d4 hasA_base))) (ov_indexAddr (sz := 5) 1 rfl rfl F_slice_53 F_size_65 rfl hA1 c90 c91) rfl rfl (onlyT_spec (k0 := 6) rfl rfl rfl)
        ·intro done hi hc hcu
         have d6 : done 6 = true := done_of (j := 6) hcu rfl (by decide) rfl
         exact draw_value (i := 7) (t := 24) (v := (agg #[(int .i64 (((l1.getD i4.toNat z_Api_Entry).Part).Tier)), (int .i64 (((l1.getD i4.toNat z_Api_Entry).Part).Index)), (int .i64 ((l1.getD i4.toNat z_Api_Entry).Seg)), (int .i64 ((l1.getD i4.toNat z_Api_Entry).Mark)), (int .i64 ((l1.getD i4.toNat z_Api_Entry).Rows)), (bool ((l1.getD i4.toNat z_Api_Entry).Cold))])) rfl rfl (wanted_none rfl) (fun a => (hasA_cons (k := 6) rfl d6 hasA_base)) (ov_load_agg (vs := [(int .i64 (((l1.getD i4.toNat z_Api_Entry).Part).Tier)), (int .i64 (((l1.getD i4.toNat z_Api_Entry).Part).Index)), (int .i64 ((l1.getD i4.toNat z_Api_Entry).Seg)), (int .i64 ((l1.getD i4.toNat z_Api_Entry).Mark)), (int .i64 ((l1.getD i4.toNat z_Api_Entry).Rows)), (bool ((l1.getD i4.toNat z_Api_Entry).Cold))]) rfl F_agg_65 F_size_65 (reads_rd (i := 1) rfl hA1 (by simp) (fl_read0 enc_Api_Entry_len (ix_lt c90 c91) rfl))) rfl rfl (onlyT_spec (k0 := 7) rfl rfl rfl)
        ·intro done hi hc hcu
         have d3 : done 3 = true := done_of (j := 3) hcu rfl (by decide) rfl
         have d7 : done 7 = true := done_of (j := 7) hcu rfl (by decide) rfl
         exact draw_value (i := 8) (t := 25) (v := (bool (!((((((l0.getD i4.toNat z_Api_Entry).Part).Tier) == (((l1.getD i4.toNat z_Api_Entry).Part).Tier)) && (((((l0.getD i4.toNat z_Api_Entry).Part).Index) == (((l1.getD i4.toNat z_Api_Entry).Part).Index)) && true)) && ((((l0.getD i4.toNat z_Api_Entry).Seg) == ((l1.getD i4.toNat z_Api_Entry).Seg)) && ((((l0.getD i4.toNat z_Api_Entry).Mark) == ((l1.getD i4.toNat z_Api_Entry).Mark)) && ((((l0.getD i4.toNat z_Api_Entry).Rows) == ((l1.getD i4.toNat z_Api_Entry).Rows)) && ((((l0.getD i4.toNat z_Api_Entry).Cold) == ((l1.getD i4.toNat z_Api_Entry).Cold)) && true)))))))) rfl rfl (wanted_none rfl) (fun a => (hasA_cons (k := 7) rfl d7 (hasA_cons (k := 3) rfl d3 hasA_base))) (ov_bin rfl rfl (same_65_n _ _ _ _ _ _ _ _ _ _ _ _)) rfl rfl (onlyT_spec (k0 := 8) rfl rfl rfl)
       ·intro done hall
        refine draw_endL [A0, A1] rfl (fun a => (hasA_cons (k := 0) rfl (hall 0 (by decide)) (hasA_cons (k := 1) rfl (hall 1 (by decide)) (hasA_cons (k := 2) rfl (hall 2 (by decide)) (hasA_cons (k := 3) rfl (hall 3 (by decide)) (hasA_cons (k := 4) rfl (hall 4 (by decide)) (hasA_cons (k := 5) rfl (hall 5 (by decide)) (hasA_cons (k := 6) rfl (hall 6 (by decide)) (hasA_cons (k := 7) rfl (hall 7 (by decide)) (hasA_cons (k := 8) rfl (hall 8 (by decide)) hasA_base)))))))))) ?_
        by_cases c92 : (!((((((l0.getD i4.toNat z_Api_Entry).Part).Tier) == (((l1.getD i4.toNat z_Api_Entry).Part).Tier)) && (((((l0.getD i4.toNat z_Api_Entry).Part).Index) == (((l1.getD i4.toNat z_Api_Entry).Part).Index)) && true)) && ((((l0.getD i4.toNat z_Api_Entry).Seg) == ((l1.getD i4.toNat z_Api_Entry).Seg)) && ((((l0.getD i4.toNat z_Api_Entry).Mark) == ((l1.getD i4.toNat z_Api_Entry).Mark)) && ((((l0.getD i4.toNat z_Api_Entry).Rows) == ((l1.getD i4.toNat z_Api_Entry).Rows)) && ((((l0.getD i4.toNat z_Api_Entry).Cold) == ((l1.getD i4.toNat z_Api_Entry).Cold)) && true)))))) = true
        ·rw [if_pos c92] at H4
         refine ent_cond_true rfl c92 ?_
         refine ent_seq ?_
         refine ent_region ?_
         refine ent_value (ov_assign rfl) rfl rfl rfl ?_
         refine ent_nil ?_
         refine ent_retc ?_
         cases H4
         refine ent_pick [0, 1] (by decide) rfl ?_
         exact ret_tmp rfl rfl ⟨rfl, rfl⟩
        ·rw [if_neg c92] at H4
         refine ent_cond_false rfl (Bool.eq_false_iff.2 c92) ?_
         refine ent_skip ?_
         refine ent_region ?_
         refine ent_value (ov_move rfl) rfl rfl rfl ?_
         refine ent_value (ov_bin rfl rfl (b_add _ _ _) ) rfl rfl rfl ?_
         refine ent_value (ov_assign rfl) rfl rfl rfl ?_
         refine ent_nil ?_
         exact ent_fin [0, 1] (by decide) rfl (sub_cons (t := 0) rfl (sub_cons (t := 1) rfl (sub_cons (t := 5) rfl (sub_nil _)))) fun a w h => ⟨k, Nat.lt_succ_self k, _, H4, h⟩
      ·rw [if_neg c91] at H4
       cases H4
     ·rw [if_neg c90] at H4
      cases H4
    ·rw [if_neg c86] at H4
     refine ent_cond_false rfl (decide_eq_false c86) ?_
     refine ent_exit ?_
     refine ent_seq ?_
     refine ent_region ?_
     refine ent_value (ov_assign rfl) rfl rfl rfl ?_
     refine ent_nil ?_
     refine ent_retc ?_
     cases H4
     refine ent_pick [0, 1] (by decide) rfl ?_
     exact ret_tmp rfl rfl ⟨rfl, rfl⟩

set_option maxRecDepth 100000 in
theorem catalog_Catalog_All_O.spec (p0 : Nat) (p1 : Nat) (sv0 : Value) (l0 : List Omap_pair__int64__api_Entry) (r : Unit) (H : catalog_Catalog_All_O l0 = r) : FnSpec Try.prog 31 [(pt p0 0)] [(box p0 139 [(pt p1 0)]), (box p1 192 [sv0]), (own sv0 196 7 l0.length (fl enc_Omap_pair__int64__api_Entry l0))] (fun v M => ∃ b2 : Nat, v = (Value.func (.func 90) #[] #[(pt b2 0)]) ∧ M = [(box p0 139 [(pt p1 0)]), (box p1 192 [sv0]), (own sv0 196 7 l0.length (fl enc_Omap_pair__int64__api_Entry l0)), (box b2 51 [(pt p0 0)])]) := by
 unfold catalog_Catalog_All_O at H
 refine spec_of Try.func31 rfl 4 rfl (Nat.le_of_ble_eq_true rfl) fun F w0 => ?_
 show Ent (St 4 w0 F [(0, (pt p0 0))] [(box p0 139 [(pt p1 0)]), (box p1 192 [sv0]), (own sv0 196 7 l0.length (fl enc_Omap_pair__int64__api_Entry l0))]) _
 refine ent_seq ?_
 refine ent_region ?_
 refine ent_op (ot_box (cs := [(pt p0 0)]) rfl rfl) rfl rfl rfl ?_
 rintro _ _ ⟨b3, rfl, rfl⟩
 refine ent_value (ov_assign rfl) rfl rfl rfl ?_
 refine ent_nil ?_
 refine ent_seq ?_
 refine ent_region ?_
 refine ent_value (ov_makeFunc (first := []) (cap := [.tmp 1]) rfl rfl) rfl rfl rfl ?_
 refine ent_value (ov_assign rfl) rfl rfl rfl ?_
 refine ent_nil ?_
 refine ent_retc ?_
 cases H
 refine ent_pick [1, 2, 3, 0] (by decide) rfl ?_
 exact ret_tmp rfl rfl ⟨_, rfl, rfl⟩

set_option maxRecDepth 100000 in
theorem catalog_Catalog_All_1_YO.spec (K : Nat) (yl0 : Nat) (p0 : Nat) (p1 : Nat) (p2 : Nat) (sv0 : Value) (Gm0 : Type) (y0 : Api_Entry → Gm0 → Option (Gm0 × Bool)) (x0y : Gm0) (l0 : List Omap_pair__int64__api_Entry) (Y0 : Gm0 → HP) (hY0 : ∀ (t0_ : Api_Entry) (z_ : Gm0) (r_ : Gm0 × Bool), y0 t0_ z_ = some r_ → YSpec Try.prog yl0 [(agg #[(int .i64 t0_.Part.Tier), (int .i64 t0_.Part.Index), (int .i64 t0_.Seg), (int .i64 t0_.Mark), (int .i64 t0_.Rows), (bool t0_.Cold)])] [Y0 z_] (fun v N => v = .bool r_.2 ∧ N = [Y0 r_.1])) (r : Gm0) (H : catalog_Catalog_All_1_YO K Gm0 y0 x0y l0 = some r) : FnSpec Try.prog 90 [(Value.func (.yield yl0) #[] #[]), (pt p0 0)] [(Y0 x0y), (box p0 51 [(pt p1 0)]), (box p1 139 [(pt p2 0)]), (box p2 192 [sv0]), (own sv0 196 7 l0.length (fl enc_Omap_pair__int64__api_Entry l0))] (fun v M => v = (Value.tuple #[]) ∧ M = [(Y0 r), (box p0 51 [(pt p1 0)]), (box p1 139 [(pt p2 0)]), (box p2 192 [sv0]), (own sv0 196 7 l0.length (fl enc_Omap_pair__int64__api_Entry l0))]) := by
 unfold catalog_Catalog_All_1_YO at H
 refine spec_of Try.func90 rfl 18 rfl (Nat.le_of_ble_eq_true rfl) fun F w0 => ?_
 show Ent (St 18 w0 F [(0, (Value.func (.yield yl0) #[] #[])), (1, (pt p0 0))] [(Y0 x0y), (box p0 51 [(pt p1 0)]), (box p1 139 [(pt p2 0)]), (box p2 192 [sv0]), (own sv0 196 7 l0.length (fl enc_Omap_pair__int64__api_Entry l0))]) _
 refine ent_seq ?_
 refine ent_region ?_
 refine ent_op (ot_box (cs := [(Value.func (.yield yl0) #[] #[])]) rfl rfl) rfl rfl rfl ?_
 rintro _ _ ⟨b6, rfl, rfl⟩
 refine ent_nil ?_
 refine ent_seq ?_
 refine ent_seq ?_
 refine ent_region ?_
 refine ent_value (ov_load (v := (pt p1 0)) rfl F_agg_51 (reads_box1 (i := 2) rfl rfl)) rfl rfl rfl ?_
 refine ent_value (ov_bin rfl rfl (b_eql_of (fun w => rfl) rfl (eq_pn Try.underlying51 _ _))) rfl rfl rfl ?_
 refine ent_nil ?_
 refine ent_cond_false rfl rfl ?_
 refine ent_skip ?_
 refine ent_seq ?_
 refine ent_region ?_
 refine ent_value (ov_load (v := (pt p1 0)) rfl F_agg_51 (reads_box1 (i := 2) rfl rfl)) rfl rfl rfl ?_
 refine ent_value (ov_nilCheck rfl) rfl rfl rfl ?_
 refine ent_value (ov_fieldAddr (sz := 0) (o := 0) rfl F_field_139_0 F_size_136) rfl rfl rfl ?_
 refine ent_value (ov_load (v := (pt p2 0)) rfl F_agg_136 (reads_box1 (i := 3) rfl rfl)) rfl rfl rfl ?_
 obtain ⟨u2, h6, H⟩ := thn_elim H
 refine ent_pick [4, 5, 0, 1, 2, 3] (by decide) rfl ?_
 refine ent_op (ot_call (Lr := [(box b6 148 [(Value.func (.yield yl0) #[] #[])]), (Y0 x0y), (box p0 51 [(pt p1 0)]), (box p1 139 [(pt p2 0)])]) (first := []) (cap := []) (xs := [.tmp 10]) rfl rfl F_call_91 rfl (omap_Map__int64__api_Entry_All_O.spec p2 sv0 l0 _ h6) rfl) rfl rfl rfl ?_
 rintro _ _ ⟨_, ⟨b7, rfl, rfl⟩, rfl⟩
 refine ent_nil ?_
 refine ent_block ?_
 obtain ⟨x8, h10, H⟩ := Option.bind_eq_some_iff.1 H
 refine ent_rangeJ (γ := Gm0) (δ := Gm0) (cap := [(pt b7 0)]) (Lg := [(box b7 190 [sv0]), (own sv0 196 7 l0.length (fl enc_Omap_pair__int64__api_Entry l0))]) (M0 := [(Y0 x0y), (box p0 51 [(pt p1 0)]), (box p1 139 [(pt p2 0)]), (box b6 148 [(Value.func (.yield yl0) #[] #[])]), (box p2 192 [sv0])]) (x0 := x0y) (x1 := x8) (fun (z2 : Gm0) M => M = [(Y0 z2), (box p0 51 [(pt p1 0)]), (box p1 139 [(pt p2 0)]), (box b6 148 [(Value.func (.yield yl0) #[] #[])]), (box p2 192 [sv0])]) (fun (d0_ : Gm0) (c : Code) (M : List HP) => (fun d2 => c = Code.ret ∧ M = [(Y0 d2), (box p0 51 [(pt p1 0)]), (box p1 139 [(pt p2 0)]), (box p2 192 [sv0])]) d0_) (fun vs z_ r_ => ∃ t0_ : Int, ∃ t1_ : Api_Entry, vs = [(int .i64 t0_), (agg #[(int .i64 t1_.Part.Tier), (int .i64 t1_.Part.Index), (int .i64 t1_.Seg), (int .i64 t1_.Mark), (int .i64 t1_.Rows), (bool t1_.Cold)])] ∧ catalog_Catalog_All_1_YO_r0 K Gm0 y0 t0_ t1_ (Sum.inl z_) = some r_) [2, 1, 4, 5, 6, 3, 0] rfl rfl (by decide) rfl (by decide) rfl ?_ ?_ ?_ ?_
 ·rintro l _ z2 r _ ⟨t0_, t1_, rfl, Hl⟩ ⟨rfl⟩
  unfold catalog_Catalog_All_1_YO_r0 at Hl
  rw [cas_inl] at Hl
  refine ⟨rfl, Nat, fun g_ => [(2, (pt b6 0)), (4, (pt g_ 0)), (12, (int .i64 t0_)), (13, (agg #[(int .i64 t1_.Part.Tier), (int .i64 t1_.Part.Index), (int .i64 t1_.Seg), (int .i64 t1_.Mark), (int .i64 t1_.Rows), (bool t1_.Cold)]))], fun g_ => [(box g_ 65 [(int .i64 t1_.Part.Tier), (int .i64 t1_.Part.Index), (int .i64 t1_.Seg), (int .i64 t1_.Mark), (int .i64 t1_.Rows), (bool t1_.Cold)]), (Y0 z2), (box p0 51 [(pt p1 0)]), (box p1 139 [(pt p2 0)]), (box b6 148 [(Value.func (.yield yl0) #[] #[])]), (box p2 192 [sv0])], fun F w0 => ?_, ?_⟩
  ·refine ent_region ?_
   refine ent_op (ot_alloc F_zero_65) rfl rfl rfl ?_
   rintro _ _ ⟨b10, rfl, rfl⟩
   refine ent_op0 (ot_storeG (cs := [(int .i64 0), (int .i64 0), (int .i64 0), (int .i64 0), (int .i64 0), (bool false)]) (cs' := [(int .i64 t1_.Part.Tier), (int .i64 t1_.Part.Index), (int .i64 t1_.Seg), (int .i64 t1_.Mark), (int .i64 t1_.Rows), (bool t1_.Cold)]) (us := [(int .i64 t1_.Part.Tier), (int .i64 t1_.Part.Index), (int .i64 t1_.Seg), (int .i64 t1_.Mark), (int .i64 t1_.Rows), (bool t1_.Cold)]) (L' := [(box b10 65 [(int .i64 t1_.Part.Tier), (int .i64 t1_.Part.Index), (int .i64 t1_.Seg), (int .i64 t1_.Mark), (int .i64 t1_.Rows), (bool t1_.Cold)]), (Y0 z2), (box p0 51 [(pt p1 0)]), (box p1 139 [(pt p2 0)]), (box b6 148 [(Value.func (.yield yl0) #[] #[])]), (box p2 192 [sv0])]) 0 rfl rfl rfl (one_all rfl) F_size_65 rfl rfl (by simp) rfl) rfl rfl ?_
   rintro _ _ rfl
   refine ent_nil ?_
   exact ent_fin [0, 1, 2, 3, 4, 5] (by decide) rfl (sub_cons (t := 2) rfl (sub_cons (t := 4) rfl (sub_cons (t := 12) rfl (sub_cons (t := 13) rfl (sub_nil _))))) fun a w h => ⟨b10, h⟩
  ·rintro b10 F w0
   show Ent (St 18 w0 F [(2, (pt b6 0)), (4, (pt b10 0)), (12, (int .i64 t0_)), (13, (agg #[(int .i64 t1_.Part.Tier), (int .i64 t1_.Part.Index), (int .i64 t1_.Seg), (int .i64 t1_.Mark), (int .i64 t1_.Rows), (bool t1_.Cold)]))] [(box b10 65 [(int .i64 t1_.Part.Tier), (int .i64 t1_.Part.Index), (int .i64 t1_.Seg), (int .i64 t1_.Mark), (int .i64 t1_.Rows), (bool t1_.Cold)]), (Y0 z2), (box p0 51 [(pt p1 0)]), (box p1 139 [(pt p2 0)]), (box b6 148 [(Value.func (.yield yl0) #[] #[])]), (box p2 192 [sv0])]) _
   refine ent_block ?_
   refine ent_seq ?_
   refine ent_region ?_
   refine ent_value (ov_load (v := (Value.func (.yield yl0) #[] #[])) rfl F_agg_148 (reads_box1 (i := 4) rfl rfl)) rfl rfl rfl ?_
   refine ent_value (ov_load_agg (vs := [(int .i64 t1_.Part.Tier), (int .i64 t1_.Part.Index), (int .i64 t1_.Seg), (int .i64 t1_.Mark), (int .i64 t1_.Rows), (bool t1_.Cold)]) rfl F_agg_65 F_size_65 (reads_boxW (i := 0) rfl)) rfl rfl rfl ?_
   obtain ⟨x7, h9, Hl⟩ := Option.bind_eq_some_iff.1 Hl
   refine ent_pick [1, 0, 2, 3, 4, 5] (by decide) rfl ?_
   refine ent_opI (oi_yield (vs := [(agg #[(int .i64 t1_.Part.Tier), (int .i64 t1_.Part.Index), (int .i64 t1_.Seg), (int .i64 t1_.Mark), (int .i64 t1_.Rows), (bool t1_.Cold)])]) (Lp := [(Y0 z2)]) (Lr := [(box b10 65 [(int .i64 t1_.Part.Tier), (int .i64 t1_.Part.Index), (int .i64 t1_.Seg), (int .i64 t1_.Mark), (int .i64 t1_.Rows), (bool t1_.Cold)]), (box p0 51 [(pt p1 0)]), (box p1 139 [(pt p2 0)]), (box b6 148 [(Value.func (.yield yl0) #[] #[])]), (box p2 192 [sv0])]) rfl rfl (hY0 _ _ _ h9) rfl) rfl rfl rfl ?_
   rintro _ _ ⟨_, ⟨rfl, rfl⟩, rfl⟩
   refine ent_value (ov_un rfl (u_not _)) rfl rfl rfl ?_
   refine ent_nil ?_
   by_cases c6 : (!x7.2) = true
   ·rw [if_pos c6] at Hl
    refine ent_cond_true rfl c6 ?_
    refine ent_retc ?_
    cases Hl
    refine ent_pick [0, 2, 3, 5] (by decide) rfl ?_
    refine ent_roundR ?_
    exact jq_jump ⟨rfl, rfl⟩
   ·rw [if_neg c6] at Hl
    refine ent_cond_false rfl (Bool.eq_false_iff.2 c6) ?_
    refine ent_skip ?_
    cases Hl
    refine ent_pick [0, 2, 3, 4, 5] (by decide) rfl ?_
    refine ent_roundN ?_
    exact jq_next rfl
 ·intro Y l hY
  exact (omap_each__int64__api_Entry_1_YR.spec K l b7 sv0 (own sv0 196 7 l0.length (fl enc_Omap_pair__int64__api_Entry l0)) (Sum Gm0 Gm0) (catalog_Catalog_All_1_YO_r0 K Gm0 y0) (Sum.inl x0y) l0 Y (by intro t0_ t1_ z_ r_ h_; cases z_ with | inl z_ => exact hY _ z_ r_ ⟨t0_, t1_, rfl, h_⟩ | inr d_ => exact absurd (show (none : Option _) = some r_ from h_) (by simp)) (isRd_ownx 196) _ h10).mono fun _ _ h_ => h_.2
 ·intro y2 e_
  subst e_
  rw [cas_inl] at H
  rintro _ ⟨rfl⟩
  refine ent_sub [(2, (pt b6 0))] (sub_cons (t := 2) rfl (sub_nil _)) ?_
  cases H
  refine ret_normal ?_
  refine ent_pick [2, 3, 4, 6, 1] (by decide) rfl ?_
  exact ret_none rfl ⟨rfl, rfl⟩
 ·intro d2 e_
  subst e_
  rw [cas_inr] at H
  rw [thn_eq0] at H
  rintro c_ _ ⟨rfl, rfl⟩
  refine ent_sub [] (sub_nil _) ?_
  refine ent_retc ?_
  cases H
  refine ent_pick [2, 3, 4, 5, 1] (by decide) rfl ?_
  exact ret_none rfl ⟨rfl, rfl⟩

set_option maxRecDepth 100000 in
theorem ossuarylaw20_CatalogEach.spec (K : Nat) (A : HP) (s0 : Value) (l0 : List Ossuarylaw20_Act) (s1_0 : Value) (l1_0 : List Api_Part) (s1_1 : Value) (l1_1 : List Api_Entry) (a2 : Int) (hA0 : IsRd A s0 l0.length 2 (fl enc_Ossuarylaw20_Act l0)) (hJ0 : ∀ x ∈ l0, IsRd A x.Drop.v x.Drop.xs.length 2 (fl enc_Api_Part x.Drop.xs) ∧ IsRd A x.Put.v x.Put.xs.length 6 (fl enc_Api_Entry x.Put.xs)) (hA1_0 : IsRd A s1_0 l1_0.length 2 (fl enc_Api_Part l1_0)) (hA1_1 : IsRd A s1_1 l1_1.length 6 (fl enc_Api_Entry l1_1)) (r : Bool) (H : ossuarylaw20_CatalogEach K l0 s1_0 l1_0 s1_1 l1_1 a2 = some r) : FnSpec Try.prog 6 [s0, (agg #[s1_0, s1_1]), (int .i64 a2)] [A] (fun v M => v = (bool r) ∧ M = [A]) := by
 unfold ossuarylaw20_CatalogEach at H
 refine spec_of Try.func6 rfl 76 rfl (Nat.le_of_ble_eq_true rfl) fun F w0 => ?_
 show Ent (St 76 w0 F [(0, s0), (1, (agg #[s1_0, s1_1])), (2, (int .i64 a2))] [A]) _
 refine ent_seq ?_
 refine ent_region ?_
 refine ent_op (ot_box (cs := [s1_0, s1_1]) rfl rfl) rfl rfl rfl ?_
 rintro _ _ ⟨b23, rfl, rfl⟩
 refine ent_op (ot_box (cs := [(int .i64 a2)]) rfl rfl) rfl rfl rfl ?_
 rintro _ _ ⟨b24, rfl, rfl⟩
 refine ent_op (ot_alloc F_zero_4) rfl rfl rfl ?_
 rintro _ _ ⟨b25, rfl, rfl⟩
 refine ent_nil ?_
 refine ent_seq ?_
 refine ent_seq ?_
 refine ent_region ?_
 obtain ⟨x19, h20, H⟩ := Option.bind_eq_some_iff.1 H
 refine ent_op (ot_call0 (first := []) (cap := []) (xs := []) rfl rfl F_call_22 rfl (ossuarylaw20_alive.spec K _ h20)) rfl rfl rfl ?_
 rintro _ _ ⟨rfl, rfl⟩
 refine ent_value (ov_un rfl (u_not _)) rfl rfl rfl ?_
 refine ent_nil ?_
 by_cases c64 : (!x19) = true
 ·rw [if_pos c64] at H
  refine ent_cond_true rfl c64 ?_
  refine ent_seq ?_
  refine ent_region ?_
  refine ent_op0 (ot_storeG (cs := [(bool false)]) (cs' := [(bool false)]) (us := [(bool false)]) (L' := [(box b25 4 [(bool false)]), (box b24 3 [(int .i64 a2)]), (box b23 58 [s1_0, s1_1]), A]) 0 rfl rfl rfl (one_all rfl) F_size_4 rfl rfl (by simp) rfl) rfl rfl ?_
  rintro _ _ rfl
  refine ent_nil ?_
  refine ent_retc ?_
  first | (have e_ := Option.some.inj (show some _ = some _ from H); subst e_) | subst H
  exact ret_memp [3] (by decide) rfl (vs := [(bool false)]) rfl ⟨⟨_, [(bool false)], rfl, reads_box1 (i := 0) rfl rfl, .inr ⟨F_agg_4, rfl⟩⟩, trivial⟩ _ rfl ⟨rfl, rfl⟩
 ·rw [if_neg c64] at H
  refine ent_cond_false rfl (Bool.eq_false_iff.2 c64) ?_
  refine ent_skip ?_
  refine ent_seq ?_
  refine ent_seq ?_
  refine ent_region ?_
  refine ent_value (ov_move rfl) rfl rfl rfl ?_
  obtain ⟨x22, h23, H⟩ := Option.bind_eq_some_iff.1 H
  refine ent_op (ot_call_same (Lr := [(box b25 4 [(bool false)]), (box b24 3 [(int .i64 a2)]), (box b23 58 [s1_0, s1_1])]) [3, 0, 1, 2] [1, 2, 3, 0] (first := []) (cap := []) (xs := [.tmp 15]) rfl rfl F_call_21 rfl (ossuarylaw20_light_R.spec K s0 A l0 hA0 hJ0 _ h23) (by decide) rfl (by decide) rfl) rfl rfl rfl ?_
  rintro _ _ ⟨rfl, rfl⟩
  refine ent_value (ov_un rfl (u_not _)) rfl rfl rfl ?_
  refine ent_value (ov_move rfl) rfl rfl rfl ?_
  by_cases c67 : (!x22) = true
  ·rw [if_pos c67] at H
   refine ent_off rfl rfl rfl c67 rfl rfl ?_
   refine ent_off rfl rfl rfl c67 rfl rfl ?_
   refine ent_off rfl rfl rfl c67 rfl rfl ?_
   refine ent_off rfl rfl rfl c67 rfl rfl ?_
   refine ent_value (ov_pick rfl rfl rfl (pick_t c67)) rfl rfl rfl ?_
   refine ent_nil ?_
   refine ent_cond_true rfl rfl ?_
   refine ent_seq ?_
   refine ent_region ?_
   refine ent_op0 (ot_storeG (cs := [(bool false)]) (cs' := [(bool true)]) (us := [(bool true)]) (L' := [(box b25 4 [(bool true)]), (box b24 3 [(int .i64 a2)]), (box b23 58 [s1_0, s1_1]), A]) 0 rfl rfl rfl (one_all rfl) F_size_4 rfl rfl (by simp) rfl) rfl rfl ?_
   rintro _ _ rfl
   refine ent_nil ?_
   refine ent_retc ?_
   first | (have e_ := Option.some.inj (show some _ = some _ from H); subst e_) | subst H
   exact ret_memp [3] (by decide) rfl (vs := [(bool true)]) rfl ⟨⟨_, [(bool true)], rfl, reads_box1 (i := 0) rfl rfl, .inr ⟨F_agg_4, rfl⟩⟩, trivial⟩ _ rfl ⟨rfl, rfl⟩
  ·rw [if_neg c67] at H
   refine ent_value_on (ov_load_agg (vs := [s1_0, s1_1]) rfl F_agg_58 F_size_58 (reads_boxW (i := 2) rfl)) rfl rfl rfl (Bool.eq_false_iff.2 c67) rfl rfl ?_
   refine ent_op_on (ot_buildSlice (sz := 1) (xs := [.tmp 19]) (cs := fl enc_Ossuarylaw20_Act [(⟨(⟨s1_0, l1_0⟩ : Sl Api_Part), (⟨s1_1, l1_1⟩ : Sl Api_Entry)⟩ : Ossuarylaw20_Act)]) rfl rfl F_slice_49 F_size_58 F_zero_58 rfl rfl (all_size rfl) rfl (by decide)) rfl rfl rfl (Bool.eq_false_iff.2 c67) rfl rfl ?_
   rintro sv14 _ rfl
   obtain ⟨x23, h24, H⟩ := Option.bind_eq_some_iff.1 H
   refine ent_op_on (ot_call_same (Lr := [(box b25 4 [(bool false)]), (box b24 3 [(int .i64 a2)]), (box b23 58 [s1_0, s1_1])]) [0, 4, 1, 2, 3] [0, 2, 3, 4, 1] (first := []) (cap := []) (xs := [.tmp 20]) rfl rfl F_call_21 rfl (ossuarylaw20_light_R_2.spec K sv14 (own sv14 58 2 [(⟨(⟨s1_0, l1_0⟩ : Sl Api_Part), (⟨s1_1, l1_1⟩ : Sl Api_Entry)⟩ : Ossuarylaw20_Act)].length (fl enc_Ossuarylaw20_Act [(⟨(⟨s1_0, l1_0⟩ : Sl Api_Part), (⟨s1_1, l1_1⟩ : Sl Api_Entry)⟩ : Ossuarylaw20_Act)])) A [(⟨(⟨s1_0, l1_0⟩ : Sl Api_Part), (⟨s1_1, l1_1⟩ : Sl Api_Entry)⟩ : Ossuarylaw20_Act)] (isRd_ownx 58) (jag_cons ⟨hA1_0, hA1_1⟩ jag_nil) _ h24) (by decide) rfl (by decide) rfl) rfl rfl rfl (Bool.eq_false_iff.2 c67) rfl rfl ?_
   rintro _ _ ⟨rfl, rfl⟩
   refine ent_value_on (ov_un rfl (u_not _)) rfl rfl rfl (Bool.eq_false_iff.2 c67) rfl rfl ?_
   refine ent_value (ov_pick rfl rfl rfl (pick_f (Bool.eq_false_iff.2 c67))) rfl rfl rfl ?_
   refine ent_nil ?_
   by_cases c68 : (!x23) = true
   ·rw [if_pos c68] at H
    refine ent_cond_true rfl c68 ?_
    refine ent_seq ?_
    refine ent_region ?_
    refine ent_op0 (ot_storeG (cs := [(bool false)]) (cs' := [(bool true)]) (us := [(bool true)]) (L' := [(own sv14 58 2 [(⟨(⟨s1_0, l1_0⟩ : Sl Api_Part), (⟨s1_1, l1_1⟩ : Sl Api_Entry)⟩ : Ossuarylaw20_Act)].length (fl enc_Ossuarylaw20_Act [(⟨(⟨s1_0, l1_0⟩ : Sl Api_Part), (⟨s1_1, l1_1⟩ : Sl Api_Entry)⟩ : Ossuarylaw20_Act)])), (box b25 4 [(bool true)]), (box b24 3 [(int .i64 a2)]), (box b23 58 [s1_0, s1_1]), A]) 1 rfl rfl rfl (one_all rfl) F_size_4 rfl rfl (by simp) rfl) rfl rfl ?_
    rintro _ _ rfl
    refine ent_nil ?_
    refine ent_retc ?_
    first | (have e_ := Option.some.inj (show some _ = some _ from H); subst e_) | subst H
    exact ret_memp [4] (by decide) rfl (vs := [(bool true)]) rfl ⟨⟨_, [(bool true)], rfl, reads_box1 (i := 1) rfl rfl, .inr ⟨F_agg_4, rfl⟩⟩, trivial⟩ _ rfl ⟨rfl, rfl⟩
   ·rw [if_neg c68] at H
    refine ent_cond_false rfl (Bool.eq_false_iff.2 c68) ?_
    refine ent_skip ?_
    refine ent_seq ?_
    refine ent_region ?_
    refine ent_value (ov_move rfl) rfl rfl rfl ?_
    obtain ⟨x24, h25, H⟩ := Option.bind_eq_some_iff.1 H
    refine ent_pick [4, 0, 1, 2, 3] (by decide) rfl ?_
    refine ent_op (ot_call (Lr := [(own sv14 58 2 [(⟨(⟨s1_0, l1_0⟩ : Sl Api_Part), (⟨s1_1, l1_1⟩ : Sl Api_Entry)⟩ : Ossuarylaw20_Act)].length (fl enc_Ossuarylaw20_Act [(⟨(⟨s1_0, l1_0⟩ : Sl Api_Part), (⟨s1_1, l1_1⟩ : Sl Api_Entry)⟩ : Ossuarylaw20_Act)])), (box b25 4 [(bool false)]), (box b24 3 [(int .i64 a2)]), (box b23 58 [s1_0, s1_1])]) (first := []) (cap := []) (xs := [.tmp 25]) rfl rfl F_call_29 rfl (ossuarylaw20_made_R.spec K s0 A l0 hA0 hJ0 _ h25) rfl) rfl rfl rfl ?_
    rintro _ _ ⟨_, ⟨b26, b27, sv15, A2, sv16, hr5, rfl, rfl⟩, rfl⟩
    refine ent_value (ov_move rfl) rfl rfl rfl ?_
    refine ent_value (ov_extract rfl rfl) rfl rfl rfl ?_
    refine ent_value (ov_extract rfl rfl) rfl rfl rfl ?_
    refine ent_op (ot_alloc F_zero_53) rfl rfl rfl ?_
    rintro _ _ ⟨b28, rfl, rfl⟩
    refine ent_value (ov_assign rfl) rfl rfl rfl ?_
    refine ent_op0 (ot_storeS (cs := [(slice none 0 0)]) (cs' := [sv16]) (sv := sv16) (L' := [(box b28 53 [sv16]), A, (box b26 139 [(pt b27 0)]), (box b27 192 [sv15]), (own sv15 196 7 x24.1.length (fl enc_Omap_pair__int64__api_Entry x24.1)), A2, (own sv14 58 2 [(⟨(⟨s1_0, l1_0⟩ : Sl Api_Part), (⟨s1_1, l1_1⟩ : Sl Api_Entry)⟩ : Ossuarylaw20_Act)].length (fl enc_Ossuarylaw20_Act [(⟨(⟨s1_0, l1_0⟩ : Sl Api_Part), (⟨s1_1, l1_1⟩ : Sl Api_Entry)⟩ : Ossuarylaw20_Act)])), (box b25 4 [(bool false)]), (box b24 3 [(int .i64 a2)]), (box b23 58 [s1_0, s1_1])]) 0 5 rfl rfl F_size_53 rfl rfl hr5 rfl (by simp) rfl) rfl rfl ?_
    rintro _ _ rfl
    refine ent_nil ?_
    refine ent_seq ?_
    refine ent_region ?_
    refine ent_value (ov_move rfl) rfl rfl rfl ?_
    obtain ⟨x25, h26, H⟩ := Option.bind_eq_some_iff.1 H
    refine ent_pick [2, 3, 4, 0, 1, 5, 6, 7, 8, 9] (by decide) rfl ?_
    refine ent_op (ot_call (Lr := [(box b28 53 [sv16]), A, A2, (own sv14 58 2 [(⟨(⟨s1_0, l1_0⟩ : Sl Api_Part), (⟨s1_1, l1_1⟩ : Sl Api_Entry)⟩ : Ossuarylaw20_Act)].length (fl enc_Ossuarylaw20_Act [(⟨(⟨s1_0, l1_0⟩ : Sl Api_Part), (⟨s1_1, l1_1⟩ : Sl Api_Entry)⟩ : Ossuarylaw20_Act)])), (box b25 4 [(bool false)]), (box b24 3 [(int .i64 a2)]), (box b23 58 [s1_0, s1_1])]) (first := []) (cap := []) (xs := [.tmp 29]) rfl rfl F_call_30 rfl (catalog_Catalog_Copy_O.spec K b26 b27 sv15 x24.1 _ h26) rfl) rfl rfl rfl ?_
    rintro _ _ ⟨_, ⟨b29, b30, sv17, rfl, rfl⟩, rfl⟩
    refine ent_value (ov_assign rfl) rfl rfl rfl ?_
    refine ent_nil ?_
    refine ent_seq ?_
    refine ent_region ?_
    refine ent_value (ov_move rfl) rfl rfl rfl ?_
    refine ent_value (ov_fieldAddr (sz := 0) (o := 0) rfl F_field_58_0 F_size_56) rfl rfl rfl ?_
    refine ent_value (ov_load (v := s1_0) rfl F_agg_56 (reads_box1 (i := 12) rfl rfl)) rfl rfl rfl ?_
    refine ent_value (ov_fieldAddr (sz := 0) (o := 0) rfl F_field_58_1 F_size_53) rfl rfl rfl ?_
    refine ent_value (ov_load (v := s1_1) rfl F_agg_53 (reads_box1 (i := 12) rfl rfl)) rfl rfl rfl ?_
    refine ent_value (ov_sl 7 rfl hA1_1 fun hc1_ => (ov_sl 7 rfl hA1_0 fun hc0_ => (ov_build (is := [0, 1]) (xs := [.tmp 33, .tmp 35]) (vs := [s1_0, s1_1]) rfl rfl (build_struct (cs := [s1_0, s1_1]) F_zero_59 F_places_59 (by simp [Instr.fill, cells_int, cells_bool, cells_str, cells_func, cells_slice, cells_ptr, cells_nilFunc, cells_agg, hc0_, hc1_]))))) rfl rfl rfl ?_
    obtain ⟨x26, h27, H⟩ := Option.bind_eq_some_iff.1 H
    refine ent_pick [0, 1, 2, 7, 3, 4, 5, 6, 8, 9, 10, 11, 12] (by decide) rfl ?_
    refine ent_op (ot_call (Lr := [(box b29 139 [(pt b30 0)]), (box b30 192 [sv17]), (own sv17 196 7 x25.length (fl enc_Omap_pair__int64__api_Entry x25)), (box b28 53 [sv16]), A2, (own sv14 58 2 [(⟨(⟨s1_0, l1_0⟩ : Sl Api_Part), (⟨s1_1, l1_1⟩ : Sl Api_Entry)⟩ : Ossuarylaw20_Act)].length (fl enc_Ossuarylaw20_Act [(⟨(⟨s1_0, l1_0⟩ : Sl Api_Part), (⟨s1_1, l1_1⟩ : Sl Api_Entry)⟩ : Ossuarylaw20_Act)])), (box b25 4 [(bool false)]), (box b24 3 [(int .i64 a2)]), (box b23 58 [s1_0, s1_1])]) (first := []) (cap := []) (xs := [.tmp 31, .tmp 36]) rfl rfl F_call_25 rfl (catalog_Catalog_Apply_ORR.spec K b26 b27 sv15 s1_0 A s1_1 x24.1 l1_0 l1_1 hA1_0 hA1_1 _ h27) rfl) rfl rfl rfl ?_
    rintro _ _ ⟨_, ⟨b31, sv18, rfl, rfl⟩, rfl⟩
    refine ent_nil ?_
    refine ent_seq ?_
    refine ent_seq ?_
    obtain ⟨x29, h30, H⟩ := Option.bind_eq_some_iff.1 H
    obtain ⟨x30, h31, H⟩ := Option.bind_eq_some_iff.1 H
    let Z52_I : (Nat → Value) → (Nat → Bool) → Act → World → Prop := fun (ga4 : Nat → Value) done a w => StD 76 w0 F [(0, s0), (1, (agg #[s1_0, s1_1])), (2, (int .i64 a2)), (4, (pt b23 0)), (5, (pt b24 0)), (6, (pt b25 0)), (7, (pt b26 0)), (8, (pt b28 0)), (9, (pt b29 0)), (13, (bool x19)), (14, (bool (!x19))), (15, s0), (16, (bool x22)), (17, (bool (!x22))), (18, (bool (!x22))), (19, (agg #[s1_0, s1_1])), (20, sv14), (21, (bool x23)), (22, (bool (!x23))), (23, (bool (!x23))), (24, (Value.tuple #[(pt b26 0), sv16])), (25, s0), (26, (Value.tuple #[(pt b26 0), sv16])), (27, (pt b26 0)), (28, sv16), (29, (pt b26 0)), (30, (pt b29 0)), (31, (pt b26 0)), (32, (pt b23 0)), (33, s1_0), (34, (pt b23 1)), (35, s1_1), (36, (agg #[s1_0, s1_1])), (37, (int .i64 x26.1))] [(0, 38, (pt b29 0)), (1, 39, (ga4 1)), (2, 40, sv16), (3, 41, (bool x30)), (4, 42, (bool (!x30)))] done [(sel (done 1) (own (ga4 1) 65 6 x29.length (fl enc_Api_Entry x29)) emp), (box b26 139 [(pt b31 0)]), (box b31 192 [sv18]), (own sv18 196 7 x26.2.length (fl enc_Omap_pair__int64__api_Entry x26.2)), A, (box b29 139 [(pt b30 0)]), (box b30 192 [sv17]), (own sv17 196 7 x25.length (fl enc_Omap_pair__int64__api_Entry x25)), (box b28 53 [sv16]), A2, (own sv14 58 2 [(⟨(⟨s1_0, l1_0⟩ : Sl Api_Part), (⟨s1_1, l1_1⟩ : Sl Api_Entry)⟩ : Ossuarylaw20_Act)].length (fl enc_Ossuarylaw20_Act [(⟨(⟨s1_0, l1_0⟩ : Sl Api_Part), (⟨s1_1, l1_1⟩ : Sl Api_Entry)⟩ : Ossuarylaw20_Act)])), (box b25 4 [(bool false)]), (box b24 3 [(int .i64 a2)]), (box b23 58 [s1_0, s1_1])] a w
    refine ent_drawm 5 rfl (fun done a w => ∃ ga4 : Nat → Value, Z52_I ga4 done a w) (by kernel_rfl) (by kernel_rfl) (draw_startG (T := (fun ga4 : Nat → Value => [(0, 38, (pt b29 0)), (1, 39, (ga4 1)), (2, 40, sv16), (3, 41, (bool x30)), (4, 42, (bool (!x30)))])) (L' := fun ga4 : Nat → Value => [(sel false (own (ga4 1) 65 6 x29.length (fl enc_Api_Entry x29)) emp), (box b26 139 [(pt b31 0)]), (box b31 192 [sv18]), (own sv18 196 7 x26.2.length (fl enc_Omap_pair__int64__api_Entry x26.2)), A, (box b29 139 [(pt b30 0)]), (box b30 192 [sv17]), (own sv17 196 7 x25.length (fl enc_Omap_pair__int64__api_Entry x25)), (box b28 53 [sv16]), A2, (own sv14 58 2 [(⟨(⟨s1_0, l1_0⟩ : Sl Api_Part), (⟨s1_1, l1_1⟩ : Sl Api_Entry)⟩ : Ossuarylaw20_Act)].length (fl enc_Ossuarylaw20_Act [(⟨(⟨s1_0, l1_0⟩ : Sl Api_Part), (⟨s1_1, l1_1⟩ : Sl Api_Entry)⟩ : Ossuarylaw20_Act)])), (box b25 4 [(bool false)]), (box b24 3 [(int .i64 a2)]), (box b23 58 [s1_0, s1_1])]) 1 (sub_cons (t := 0) rfl (sub_cons (t := 1) rfl (sub_cons (t := 2) rfl (sub_cons (t := 4) rfl (sub_cons (t := 5) rfl (sub_cons (t := 6) rfl (sub_cons (t := 7) rfl (sub_cons (t := 8) rfl (sub_cons (t := 9) rfl (sub_cons (t := 13) rfl (sub_cons (t := 14) rfl (sub_cons (t := 15) rfl (sub_cons (t := 16) rfl (sub_cons (t := 17) rfl (sub_cons (t := 18) rfl (sub_cons (t := 19) rfl (sub_cons (t := 20) rfl (sub_cons (t := 21) rfl (sub_cons (t := 22) rfl (sub_cons (t := 23) rfl (sub_cons (t := 24) rfl (sub_cons (t := 25) rfl (sub_cons (t := 26) rfl (sub_cons (t := 27) rfl (sub_cons (t := 28) rfl (sub_cons (t := 29) rfl (sub_cons (t := 30) rfl (sub_cons (t := 31) rfl (sub_cons (t := 32) rfl (sub_cons (t := 33) rfl (sub_cons (t := 34) rfl (sub_cons (t := 35) rfl (sub_cons (t := 36) rfl (sub_cons (t := 37) rfl (sub_nil _))))))))))))))))))))))))))))))))))) (fun _ => rfl)) ?_ ?_
    ·refine ⟨?_, ?_, ?_, ?_, ?_, trivial⟩
     ·intro done hi hc hcu
      refine draw_exi (I := Z52_I) fun ga4 => ?_
      exact draw_value (i := 0) (t := 38) (v := (pt b29 0)) rfl rfl (wanted_none rfl) (fun a => hasA_base) (ov_move rfl) rfl rfl (onlyT_spec (k0 := 0) rfl rfl rfl)
     ·intro done hi hc hcu
      refine ent_exi (S := fun ga4 => Z52_I ga4 done) fun ga4 => ?_
      have d0 : done 0 = true := done_of (j := 0) hcu rfl (by decide) rfl
      refine draw_turnP (i := 1) (t := 39) (x := ga4) (L := (fun (ga4 : Nat → Value) (done : Nat → Bool) => [(sel (done 1) (own (ga4 1) 65 6 x29.length (fl enc_Api_Entry x29)) emp), (box b26 139 [(pt b31 0)]), (box b31 192 [sv18]), (own sv18 196 7 x26.2.length (fl enc_Omap_pair__int64__api_Entry x26.2)), A, (box b29 139 [(pt b30 0)]), (box b30 192 [sv17]), (own sv17 196 7 x25.length (fl enc_Omap_pair__int64__api_Entry x25)), (box b28 53 [sv16]), A2, (own sv14 58 2 [(⟨(⟨s1_0, l1_0⟩ : Sl Api_Part), (⟨s1_1, l1_1⟩ : Sl Api_Entry)⟩ : Ossuarylaw20_Act)].length (fl enc_Ossuarylaw20_Act [(⟨(⟨s1_0, l1_0⟩ : Sl Api_Part), (⟨s1_1, l1_1⟩ : Sl Api_Entry)⟩ : Ossuarylaw20_Act)])), (box b25 4 [(bool false)]), (box b24 3 [(int .i64 a2)]), (box b23 58 [s1_0, s1_1])])) (T := (fun ga4 : Nat → Value => [(0, 38, (pt b29 0)), (1, 39, (ga4 1)), (2, 40, sv16), (3, 41, (bool x30)), (4, 42, (bool (!x30)))])) (L2 := [emp, (box b26 139 [(pt b31 0)]), (box b31 192 [sv18]), (own sv18 196 7 x26.2.length (fl enc_Omap_pair__int64__api_Entry x26.2)), A, (box b29 139 [(pt b30 0)]), (box b30 192 [sv17]), (own sv17 196 7 x25.length (fl enc_Omap_pair__int64__api_Entry x25)), (box b28 53 [sv16]), A2, (own sv14 58 2 [(⟨(⟨s1_0, l1_0⟩ : Sl Api_Part), (⟨s1_1, l1_1⟩ : Sl Api_Entry)⟩ : Ossuarylaw20_Act)].length (fl enc_Ossuarylaw20_Act [(⟨(⟨s1_0, l1_0⟩ : Sl Api_Part), (⟨s1_1, l1_1⟩ : Sl Api_Entry)⟩ : Ossuarylaw20_Act)])), (box b25 4 [(bool false)]), (box b24 3 [(int .i64 a2)]), (box b23 58 [s1_0, s1_1])]) [5, 6, 7, 0, 1, 2, 3, 4, 8, 9, 10, 11, 12, 13] [3, 5, 6, 7, 8, 0, 1, 2, 9, 10, 11, 12, 13, 14] rfl rfl (wanted_none rfl) (fun a => (hasA_cons (k := 0) rfl d0 hasA_base)) (by simp only [hi, sel]) (by decide) rfl (ot_call (Lr := [emp, (box b26 139 [(pt b31 0)]), (box b31 192 [sv18]), (own sv18 196 7 x26.2.length (fl enc_Omap_pair__int64__api_Entry x26.2)), A, (box b28 53 [sv16]), A2, (own sv14 58 2 [(⟨(⟨s1_0, l1_0⟩ : Sl Api_Part), (⟨s1_1, l1_1⟩ : Sl Api_Entry)⟩ : Ossuarylaw20_Act)].length (fl enc_Ossuarylaw20_Act [(⟨(⟨s1_0, l1_0⟩ : Sl Api_Part), (⟨s1_1, l1_1⟩ : Sl Api_Entry)⟩ : Ossuarylaw20_Act)])), (box b25 4 [(bool false)]), (box b24 3 [(int .i64 a2)]), (box b23 58 [s1_0, s1_1])]) (first := []) (cap := []) (xs := [.tmp 38]) rfl rfl F_call_24 rfl (ossuarylaw20_Back_O.spec K b29 b30 sv17 x25 _ h30) rfl) (by decide) rfl rfl ?_
      rintro g0_ _ ⟨_, ⟨_, rfl, rfl⟩, rfl⟩
      exact ⟨(upb ga4 1 g0_), show some [(own g0_ 65 6 x29.length (fl enc_Api_Entry x29)), (box b26 139 [(pt b31 0)]), (box b31 192 [sv18]), (own sv18 196 7 x26.2.length (fl enc_Omap_pair__int64__api_Entry x26.2)), A, (box b29 139 [(pt b30 0)]), (box b30 192 [sv17]), (own sv17 196 7 x25.length (fl enc_Omap_pair__int64__api_Entry x25)), (box b28 53 [sv16]), A2, (own sv14 58 2 [(⟨(⟨s1_0, l1_0⟩ : Sl Api_Part), (⟨s1_1, l1_1⟩ : Sl Api_Entry)⟩ : Ossuarylaw20_Act)].length (fl enc_Ossuarylaw20_Act [(⟨(⟨s1_0, l1_0⟩ : Sl Api_Part), (⟨s1_1, l1_1⟩ : Sl Api_Entry)⟩ : Ossuarylaw20_Act)])), (box b25 4 [(bool false)]), (box b24 3 [(int .i64 a2)]), (box b23 58 [s1_0, s1_1])] = _ by simp [up, upb, sel, hi], (tr_same rfl rfl (tr_this (tr_same rfl rfl (tr_same rfl rfl (tr_same rfl rfl tr_nil)))))⟩
     ·intro done hi hc hcu
      refine draw_exi (I := Z52_I) fun ga4 => ?_
      exact draw_value (i := 2) (t := 40) (v := sv16) rfl rfl (wanted_none rfl) (fun a => hasA_base) (ov_load (v := sv16) rfl F_agg_53 (reads_box1 (i := 8) rfl rfl)) rfl rfl (onlyT_spec (k0 := 2) rfl rfl rfl)
     ·intro done hi hc hcu
      refine draw_exi (I := Z52_I) fun ga4 => ?_
      have d1 : done 1 = true := done_of (j := 1) hcu rfl (by decide) rfl
      have d2 : done 2 = true := done_of (j := 2) hcu rfl (by decide) rfl
      exact draw_same (i := 3) (t := 41) (v := (bool x30)) rfl rfl (wanted_none rfl) (fun a => (hasA_cons (k := 2) rfl d2 (hasA_cons (k := 1) rfl d1 hasA_base))) (ot_L (L2 := [(own (ga4 1) 65 6 x29.length (fl enc_Api_Entry x29)), (box b26 139 [(pt b31 0)]), (box b31 192 [sv18]), (own sv18 196 7 x26.2.length (fl enc_Omap_pair__int64__api_Entry x26.2)), A, (box b29 139 [(pt b30 0)]), (box b30 192 [sv17]), (own sv17 196 7 x25.length (fl enc_Omap_pair__int64__api_Entry x25)), (box b28 53 [sv16]), A2, (own sv14 58 2 [(⟨(⟨s1_0, l1_0⟩ : Sl Api_Part), (⟨s1_1, l1_1⟩ : Sl Api_Entry)⟩ : Ossuarylaw20_Act)].length (fl enc_Ossuarylaw20_Act [(⟨(⟨s1_0, l1_0⟩ : Sl Api_Part), (⟨s1_1, l1_1⟩ : Sl Api_Entry)⟩ : Ossuarylaw20_Act)])), (box b25 4 [(bool false)]), (box b24 3 [(int .i64 a2)]), (box b23 58 [s1_0, s1_1])]) (by simp only [d1, sel]) (ot_call_same (Lr := [(box b26 139 [(pt b31 0)]), (box b31 192 [sv18]), (own sv18 196 7 x26.2.length (fl enc_Omap_pair__int64__api_Entry x26.2)), A, (box b29 139 [(pt b30 0)]), (box b30 192 [sv17]), (own sv17 196 7 x25.length (fl enc_Omap_pair__int64__api_Entry x25)), (box b28 53 [sv16]), (own sv14 58 2 [(⟨(⟨s1_0, l1_0⟩ : Sl Api_Part), (⟨s1_1, l1_1⟩ : Sl Api_Entry)⟩ : Ossuarylaw20_Act)].length (fl enc_Ossuarylaw20_Act [(⟨(⟨s1_0, l1_0⟩ : Sl Api_Part), (⟨s1_1, l1_1⟩ : Sl Api_Entry)⟩ : Ossuarylaw20_Act)])), (box b25 4 [(bool false)]), (box b24 3 [(int .i64 a2)]), (box b23 58 [s1_0, s1_1])]) [0, 9, 1, 2, 3, 4, 5, 6, 7, 8, 10, 11, 12, 13] [0, 2, 3, 4, 5, 6, 7, 8, 9, 1, 10, 11, 12, 13] (first := []) (cap := []) (xs := [.tmp 39, .tmp 40]) rfl rfl F_call_26 rfl (ossuaryref20_Same_RR.spec K (ga4 1) (own (ga4 1) 65 6 x29.length (fl enc_Api_Entry x29)) sv16 A2 x29 x24.2 (isRd_ownx 65) hr5 _ h31) (by decide) rfl (by decide) rfl)) rfl rfl (onlyT_spec (k0 := 3) rfl rfl rfl)
     ·intro done hi hc hcu
      refine draw_exi (I := Z52_I) fun ga4 => ?_
      have d3 : done 3 = true := done_of (j := 3) hcu rfl (by decide) rfl
      exact draw_value (i := 4) (t := 42) (v := (bool (!x30))) rfl rfl (wanted_none rfl) (fun a => (hasA_cons (k := 3) rfl d3 hasA_base)) (ov_un rfl (u_not _)) rfl rfl (onlyT_spec (k0 := 4) rfl rfl rfl)
    ·intro done hall
     refine ent_exi (S := fun ga4 => Z52_I ga4 done) fun ga4 => ?_
     refine draw_endL [(own (ga4 1) 65 6 x29.length (fl enc_Api_Entry x29)), (box b26 139 [(pt b31 0)]), (box b31 192 [sv18]), (own sv18 196 7 x26.2.length (fl enc_Omap_pair__int64__api_Entry x26.2)), A, (box b29 139 [(pt b30 0)]), (box b30 192 [sv17]), (own sv17 196 7 x25.length (fl enc_Omap_pair__int64__api_Entry x25)), (box b28 53 [sv16]), A2, (own sv14 58 2 [(⟨(⟨s1_0, l1_0⟩ : Sl Api_Part), (⟨s1_1, l1_1⟩ : Sl Api_Entry)⟩ : Ossuarylaw20_Act)].length (fl enc_Ossuarylaw20_Act [(⟨(⟨s1_0, l1_0⟩ : Sl Api_Part), (⟨s1_1, l1_1⟩ : Sl Api_Entry)⟩ : Ossuarylaw20_Act)])), (box b25 4 [(bool false)]), (box b24 3 [(int .i64 a2)]), (box b23 58 [s1_0, s1_1])] (by simp only [hall 1 (by decide), sel]) (fun a => (hasA_cons (k := 0) rfl (hall 0 (by decide)) (hasA_cons (k := 1) rfl (hall 1 (by decide)) (hasA_cons (k := 2) rfl (hall 2 (by decide)) (hasA_cons (k := 3) rfl (hall 3 (by decide)) (hasA_cons (k := 4) rfl (hall 4 (by decide)) hasA_base)))))) ?_
     by_cases c70 : (!x30) = true
     ·rw [if_pos c70] at H
      refine ent_cond_true rfl c70 ?_
      refine ent_seq ?_
      refine ent_region ?_
      refine ent_op0 (ot_storeG (cs := [(bool false)]) (cs' := [(bool false)]) (us := [(bool false)]) (L' := [(own (ga4 1) 65 6 x29.length (fl enc_Api_Entry x29)), (box b26 139 [(pt b31 0)]), (box b31 192 [sv18]), (own sv18 196 7 x26.2.length (fl enc_Omap_pair__int64__api_Entry x26.2)), A, (box b29 139 [(pt b30 0)]), (box b30 192 [sv17]), (own sv17 196 7 x25.length (fl enc_Omap_pair__int64__api_Entry x25)), (box b28 53 [sv16]), A2, (own sv14 58 2 [(⟨(⟨s1_0, l1_0⟩ : Sl Api_Part), (⟨s1_1, l1_1⟩ : Sl Api_Entry)⟩ : Ossuarylaw20_Act)].length (fl enc_Ossuarylaw20_Act [(⟨(⟨s1_0, l1_0⟩ : Sl Api_Part), (⟨s1_1, l1_1⟩ : Sl Api_Entry)⟩ : Ossuarylaw20_Act)])), (box b25 4 [(bool false)]), (box b24 3 [(int .i64 a2)]), (box b23 58 [s1_0, s1_1])]) 11 rfl rfl rfl (one_all rfl) F_size_4 rfl rfl (by simp) rfl) rfl rfl ?_
      rintro _ _ rfl
      refine ent_nil ?_
      refine ent_retc ?_
      first | (have e_ := Option.some.inj (show some _ = some _ from H); subst e_) | subst H
      exact ret_memp [4] (by decide) rfl (vs := [(bool false)]) rfl ⟨⟨_, [(bool false)], rfl, reads_box1 (i := 11) rfl rfl, .inr ⟨F_agg_4, rfl⟩⟩, trivial⟩ _ rfl ⟨rfl, rfl⟩
     ·rw [if_neg c70] at H
      refine ent_cond_false rfl (Bool.eq_false_iff.2 c70) ?_
      refine ent_skip ?_
      refine ent_seq ?_
      refine ent_region ?_
      refine ent_op (ot_alloc F_zero_3) rfl rfl rfl ?_
      rintro _ _ ⟨b32, rfl, rfl⟩
      refine ent_op0 (ot_storeG (cs := [(int .i64 0)]) (cs' := [(int .i64 0)]) (us := [(int .i64 0)]) (L' := [(box b32 3 [(int .i64 0)]), (own (ga4 1) 65 6 x29.length (fl enc_Api_Entry x29)), (box b26 139 [(pt b31 0)]), (box b31 192 [sv18]), (own sv18 196 7 x26.2.length (fl enc_Omap_pair__int64__api_Entry x26.2)), A, (box b29 139 [(pt b30 0)]), (box b30 192 [sv17]), (own sv17 196 7 x25.length (fl enc_Omap_pair__int64__api_Entry x25)), (box b28 53 [sv16]), A2, (own sv14 58 2 [(⟨(⟨s1_0, l1_0⟩ : Sl Api_Part), (⟨s1_1, l1_1⟩ : Sl Api_Entry)⟩ : Ossuarylaw20_Act)].length (fl enc_Ossuarylaw20_Act [(⟨(⟨s1_0, l1_0⟩ : Sl Api_Part), (⟨s1_1, l1_1⟩ : Sl Api_Entry)⟩ : Ossuarylaw20_Act)])), (box b25 4 [(bool false)]), (box b24 3 [(int .i64 a2)]), (box b23 58 [s1_0, s1_1])]) 0 rfl rfl rfl (one_all rfl) F_size_3 rfl rfl (by simp) rfl) rfl rfl ?_
      rintro _ _ rfl
      refine ent_nil ?_
      obtain ⟨x32, H3, H⟩ := Option.bind_eq_some_iff.1 H
      refine ent_seq_cut (fun a w => ∃ v2, x32 = Sum.inl v2 ∧ ∃ sv22 : Value, ∃ b37 : Nat, ∃ b38 : Nat, ∃ b39 : Nat, ∃ b40 : Nat, IsRd A2 sv22 v2.1.length 6 (fl enc_Api_Entry v2.1) ∧ St 76 w0 F [(5, (pt b37 0)), (6, (pt b38 0)), (8, (pt b39 0)), (10, (pt b40 0))] [A, (box b37 3 [(int .i64 a2)]), (box b38 4 [(bool false)]), (box b39 53 [sv22]), A2, (box b40 3 [(int .i64 v2.2)])] a w) ?_ ?_
      ·refine ent_seq ?_
       refine ent_region ?_
       refine ent_value (ov_move rfl) rfl rfl rfl ?_
       obtain ⟨u4, h34, H3⟩ := thn_elim H3
       refine ent_pick [6, 7, 8, 0, 1, 2, 3, 4, 5, 9, 10, 11, 12, 13, 14] (by decide) rfl ?_
       refine ent_op (ot_call (Lr := [(box b32 3 [(int .i64 0)]), (own (ga4 1) 65 6 x29.length (fl enc_Api_Entry x29)), (box b26 139 [(pt b31 0)]), (box b31 192 [sv18]), (own sv18 196 7 x26.2.length (fl enc_Omap_pair__int64__api_Entry x26.2)), A, (box b28 53 [sv16]), A2, (own sv14 58 2 [(⟨(⟨s1_0, l1_0⟩ : Sl Api_Part), (⟨s1_1, l1_1⟩ : Sl Api_Entry)⟩ : Ossuarylaw20_Act)].length (fl enc_Ossuarylaw20_Act [(⟨(⟨s1_0, l1_0⟩ : Sl Api_Part), (⟨s1_1, l1_1⟩ : Sl Api_Entry)⟩ : Ossuarylaw20_Act)])), (box b25 4 [(bool false)]), (box b24 3 [(int .i64 a2)]), (box b23 58 [s1_0, s1_1])]) (first := []) (cap := []) (xs := [.tmp 43]) rfl rfl F_call_31 rfl (catalog_Catalog_All_O.spec b29 b30 sv17 x25 _ h34) rfl) rfl rfl rfl ?_
       rintro _ _ ⟨_, ⟨b41, rfl, rfl⟩, rfl⟩
       refine ent_nil ?_
       refine ent_block ?_
       obtain ⟨x33, h35, H3⟩ := Option.bind_eq_some_iff.1 H3
       refine ent_rangeJ (γ := Int) (δ := Sum Unit ((List Api_Entry) × Int)) (cap := [(pt b41 0)]) (Lg := [(box b41 51 [(pt b29 0)]), (box b29 139 [(pt b30 0)]), (box b30 192 [sv17]), (own sv17 196 7 x25.length (fl enc_Omap_pair__int64__api_Entry x25))]) (M0 := [A, (box b24 3 [(int .i64 a2)]), (box b25 4 [(bool false)]), (box b28 53 [sv16]), A2, (box b32 3 [(int .i64 0)])]) (x0 := 0) (x1 := x33) (fun (z4 : Int) M => M = [A, (box b24 3 [(int .i64 a2)]), (box b25 4 [(bool false)]), (box b28 53 [sv16]), A2, (box b32 3 [(int .i64 z4)])]) (fun (d0_ : Sum Unit ((List Api_Entry) × Int)) (c : Code) (M : List HP) => Sum.elim (fun d7 => c = Code.ret ∧ M = [A, (box b25 4 [(bool false)])]) (fun d_ => (fun d8 => ∃ sv23 : Value, IsRd A2 sv23 d8.1.length 6 (fl enc_Api_Entry d8.1) ∧ c = (Code.exit 0) ∧ M = [A, (box b24 3 [(int .i64 a2)]), (box b25 4 [(bool false)]), (box b28 53 [sv23]), A2, (box b32 3 [(int .i64 d8.2)])]) d_) d0_) (fun vs z_ r_ => ∃ t0_ : Api_Entry, vs = [(agg #[(int .i64 t0_.Part.Tier), (int .i64 t0_.Part.Index), (int .i64 t0_.Seg), (int .i64 t0_.Mark), (int .i64 t0_.Rows), (bool t0_.Cold)])] ∧ ossuarylaw20_CatalogEach_r0 K a2 x24 t0_ (Sum.inl z_) = some r_) [3, 0, 1, 2, 9, 14, 13, 10, 11, 4] rfl rfl (by decide) rfl (by decide) rfl ?_ ?_ ?_ ?_
       ·rintro l _ z4 r _ ⟨t0_, rfl, Hl⟩ ⟨rfl⟩
        unfold ossuarylaw20_CatalogEach_r0 at Hl
        rw [cas_inl] at Hl
        refine ⟨rfl, Nat, fun g_ => [(5, (pt b24 0)), (6, (pt b25 0)), (8, (pt b28 0)), (10, (pt b32 0)), (11, (pt g_ 0)), (45, (agg #[(int .i64 t0_.Part.Tier), (int .i64 t0_.Part.Index), (int .i64 t0_.Seg), (int .i64 t0_.Mark), (int .i64 t0_.Rows), (bool t0_.Cold)]))], fun g_ => [(box g_ 65 [(int .i64 t0_.Part.Tier), (int .i64 t0_.Part.Index), (int .i64 t0_.Seg), (int .i64 t0_.Mark), (int .i64 t0_.Rows), (bool t0_.Cold)]), A, (box b24 3 [(int .i64 a2)]), (box b25 4 [(bool false)]), (box b28 53 [sv16]), A2, (box b32 3 [(int .i64 z4)])], fun F w0 => ?_, ?_⟩
        ·refine ent_region ?_
         refine ent_op (ot_alloc F_zero_65) rfl rfl rfl ?_
         rintro _ _ ⟨b44, rfl, rfl⟩
         refine ent_op0 (ot_storeG (cs := [(int .i64 0), (int .i64 0), (int .i64 0), (int .i64 0), (int .i64 0), (bool false)]) (cs' := [(int .i64 t0_.Part.Tier), (int .i64 t0_.Part.Index), (int .i64 t0_.Seg), (int .i64 t0_.Mark), (int .i64 t0_.Rows), (bool t0_.Cold)]) (us := [(int .i64 t0_.Part.Tier), (int .i64 t0_.Part.Index), (int .i64 t0_.Seg), (int .i64 t0_.Mark), (int .i64 t0_.Rows), (bool t0_.Cold)]) (L' := [(box b44 65 [(int .i64 t0_.Part.Tier), (int .i64 t0_.Part.Index), (int .i64 t0_.Seg), (int .i64 t0_.Mark), (int .i64 t0_.Rows), (bool t0_.Cold)]), A, (box b24 3 [(int .i64 a2)]), (box b25 4 [(bool false)]), (box b28 53 [sv16]), A2, (box b32 3 [(int .i64 z4)])]) 0 rfl rfl rfl (one_all rfl) F_size_65 rfl rfl (by simp) rfl) rfl rfl ?_
         rintro _ _ rfl
         refine ent_nil ?_
         exact ent_fin [0, 1, 2, 3, 4, 5, 6] (by decide) rfl (sub_cons (t := 5) rfl (sub_cons (t := 6) rfl (sub_cons (t := 8) rfl (sub_cons (t := 10) rfl (sub_cons (t := 11) rfl (sub_cons (t := 45) rfl (sub_nil _))))))) fun a w h => ⟨b44, h⟩
        ·rintro b44 F w0
         show Ent (St 76 w0 F [(5, (pt b24 0)), (6, (pt b25 0)), (8, (pt b28 0)), (10, (pt b32 0)), (11, (pt b44 0)), (45, (agg #[(int .i64 t0_.Part.Tier), (int .i64 t0_.Part.Index), (int .i64 t0_.Seg), (int .i64 t0_.Mark), (int .i64 t0_.Rows), (bool t0_.Cold)]))] [(box b44 65 [(int .i64 t0_.Part.Tier), (int .i64 t0_.Part.Index), (int .i64 t0_.Seg), (int .i64 t0_.Mark), (int .i64 t0_.Rows), (bool t0_.Cold)]), A, (box b24 3 [(int .i64 a2)]), (box b25 4 [(bool false)]), (box b28 53 [sv16]), A2, (box b32 3 [(int .i64 z4)])]) _
         refine ent_block ?_
         refine ent_seq ?_
         refine ent_seq ?_
         by_cases c116 : (x24.2.length : Int) ≤ z4
         ·rw [if_pos c116] at Hl
          refine ent_drawm 12 rfl (fun done a w => StD 76 w0 F [(5, (pt b24 0)), (6, (pt b25 0)), (8, (pt b28 0)), (10, (pt b32 0)), (11, (pt b44 0)), (45, (agg #[(int .i64 t0_.Part.Tier), (int .i64 t0_.Part.Index), (int .i64 t0_.Seg), (int .i64 t0_.Mark), (int .i64 t0_.Rows), (bool t0_.Cold)]))] [(0, 46, (int .i64 z4)), (1, 47, sv16), (2, 48, (int .i64 (x24.2.length : Int))), (3, 49, (bool (decide ((x24.2.length : Int) ≤ z4)))), (4, 50, (bool (decide ((x24.2.length : Int) ≤ z4)))), (5, 51, undef), (6, 52, undef), (7, 53, undef), (8, 54, undef), (9, 55, undef), (10, 56, undef), (11, 57, (bool true))] done [(box b44 65 [(int .i64 t0_.Part.Tier), (int .i64 t0_.Part.Index), (int .i64 t0_.Seg), (int .i64 t0_.Mark), (int .i64 t0_.Rows), (bool t0_.Cold)]), A, (box b24 3 [(int .i64 a2)]), (box b25 4 [(bool false)]), (box b28 53 [sv16]), A2, (box b32 3 [(int .i64 z4)])] a w) (by kernel_rfl) (by kernel_rfl) (draw_startL (sub_cons (t := 5) rfl (sub_cons (t := 6) rfl (sub_cons (t := 8) rfl (sub_cons (t := 10) rfl (sub_cons (t := 11) rfl (sub_cons (t := 45) rfl (sub_nil _))))))) rfl) ?_ ?_
          ·refine ⟨?_, ?_, ?_, ?_, ?_, ?_, ?_, ?_, ?_, ?_, ?_, ?_, trivial⟩
           ·intro done hi hc hcu
            exact draw_value (i := 0) (t := 46) (v := (int .i64 z4)) rfl rfl (wanted_none rfl) (fun a => hasA_base) (ov_load (v := (int .i64 z4)) rfl F_agg_3 (reads_box1 (i := 6) rfl rfl)) rfl rfl (onlyT_spec (k0 := 0) rfl rfl rfl)
           ·intro done hi hc hcu
            exact draw_value (i := 1) (t := 47) (v := sv16) rfl rfl (wanted_none rfl) (fun a => hasA_base) (ov_load (v := sv16) rfl F_agg_53 (reads_box1 (i := 4) rfl rfl)) rfl rfl (onlyT_spec (k0 := 1) rfl rfl rfl)
           ·intro done hi hc hcu
            have d1 : done 1 = true := done_of (j := 1) hcu rfl (by decide) rfl
            exact draw_value (i := 2) (t := 48) (v := (int .i64 (x24.2.length : Int))) rfl rfl (wanted_none rfl) (fun a => (hasA_cons (k := 1) rfl d1 hasA_base)) (ov_len 5 rfl F_slice_53 rfl hr5) rfl rfl (onlyT_spec (k0 := 2) rfl rfl rfl)
           ·intro done hi hc hcu
            have d0 : done 0 = true := done_of (j := 0) hcu rfl (by decide) rfl
            have d2 : done 2 = true := done_of (j := 2) hcu rfl (by decide) rfl
            exact draw_value (i := 3) (t := 49) (v := (bool (decide ((x24.2.length : Int) ≤ z4)))) rfl rfl (wanted_none rfl) (fun a => (hasA_cons (k := 2) rfl d2 (hasA_cons (k := 0) rfl d0 hasA_base))) (ov_bin rfl rfl (b_geq _ _ _)) rfl rfl (onlyT_spec (k0 := 3) rfl rfl rfl)
           ·intro done hi hc hcu
            have d3 : done 3 = true := done_of (j := 3) hcu rfl (by decide) rfl
            exact draw_value (i := 4) (t := 50) (v := (bool (decide ((x24.2.length : Int) ≤ z4)))) rfl rfl (wanted_none rfl) (fun a => (hasA_cons (k := 3) rfl d3 hasA_base)) (ov_move rfl) rfl rfl (onlyT_spec (k0 := 4) rfl rfl rfl)
           ·intro done hi hc hcu
            have d4 : done 4 = true := done_of (j := 4) hcu rfl (by decide) rfl
            exact draw_off (i := 5) (t := 51) rfl rfl (wanted_off rfl rfl rfl (decide_eq_true c116)) (fun a => (hasA_cons (k := 4) rfl d4 hasA_base)) rfl rfl (onlyT_spec (k0 := 5) rfl rfl rfl)
           ·intro done hi hc hcu
            have d4 : done 4 = true := done_of (j := 4) hcu rfl (by decide) rfl
            exact draw_off (i := 6) (t := 52) rfl rfl (wanted_off rfl rfl rfl (decide_eq_true c116)) (fun a => (hasA_cons (k := 4) rfl d4 hasA_base)) rfl rfl (onlyT_spec (k0 := 6) rfl rfl rfl)
           ·intro done hi hc hcu
            have d4 : done 4 = true := done_of (j := 4) hcu rfl (by decide) rfl
            exact draw_off (i := 7) (t := 53) rfl rfl (wanted_off rfl rfl rfl (decide_eq_true c116)) (fun a => (hasA_cons (k := 4) rfl d4 hasA_base)) rfl rfl (onlyT_spec (k0 := 7) rfl rfl rfl)
           ·intro done hi hc hcu
            have d4 : done 4 = true := done_of (j := 4) hcu rfl (by decide) rfl
            exact draw_off (i := 8) (t := 54) rfl rfl (wanted_off rfl rfl rfl (decide_eq_true c116)) (fun a => (hasA_cons (k := 4) rfl d4 hasA_base)) rfl rfl (onlyT_spec (k0 := 8) rfl rfl rfl)
           ·intro done hi hc hcu
            have d4 : done 4 = true := done_of (j := 4) hcu rfl (by decide) rfl
            exact draw_off (i := 9) (t := 55) rfl rfl (wanted_off rfl rfl rfl (decide_eq_true c116)) (fun a => (hasA_cons (k := 4) rfl d4 hasA_base)) rfl rfl (onlyT_spec (k0 := 9) rfl rfl rfl)
           ·intro done hi hc hcu
            have d4 : done 4 = true := done_of (j := 4) hcu rfl (by decide) rfl
            exact draw_off (i := 10) (t := 56) rfl rfl (wanted_off rfl rfl rfl (decide_eq_true c116)) (fun a => (hasA_cons (k := 4) rfl d4 hasA_base)) rfl rfl (onlyT_spec (k0 := 10) rfl rfl rfl)
           ·intro done hi hc hcu
            have d4 : done 4 = true := done_of (j := 4) hcu rfl (by decide) rfl
            have d10 : done 10 = true := done_of (j := 10) hcu rfl (by decide) rfl
            exact draw_value (i := 11) (t := 57) (v := (bool true)) rfl rfl (wanted_none rfl) (fun a => (hasA_cons (k := 10) rfl d10 (hasA_cons (k := 4) rfl d4 hasA_base))) (ov_pick rfl rfl rfl (pick_t (decide_eq_true c116))) rfl rfl (onlyT_spec (k0 := 11) rfl rfl rfl)
          ·intro done hall
           refine draw_endL [(box b44 65 [(int .i64 t0_.Part.Tier), (int .i64 t0_.Part.Index), (int .i64 t0_.Seg), (int .i64 t0_.Mark), (int .i64 t0_.Rows), (bool t0_.Cold)]), A, (box b24 3 [(int .i64 a2)]), (box b25 4 [(bool false)]), (box b28 53 [sv16]), A2, (box b32 3 [(int .i64 z4)])] rfl (fun a => (hasA_cons (k := 0) rfl (hall 0 (by decide)) (hasA_cons (k := 1) rfl (hall 1 (by decide)) (hasA_cons (k := 2) rfl (hall 2 (by decide)) (hasA_cons (k := 3) rfl (hall 3 (by decide)) (hasA_cons (k := 4) rfl (hall 4 (by decide)) (hasA_cons (k := 5) rfl (hall 5 (by decide)) (hasA_cons (k := 6) rfl (hall 6 (by decide)) (hasA_cons (k := 7) rfl (hall 7 (by decide)) (hasA_cons (k := 8) rfl (hall 8 (by decide)) (hasA_cons (k := 9) rfl (hall 9 (by decide)) (hasA_cons (k := 10) rfl (hall 10 (by decide)) (hasA_cons (k := 11) rfl (hall 11 (by decide)) hasA_base))))))))))))) ?_
           refine ent_cond_true rfl rfl ?_
           refine ent_seq ?_
           refine ent_region ?_
           refine ent_op0 (ot_storeG (cs := [(bool false)]) (cs' := [(bool false)]) (us := [(bool false)]) (L' := [(box b44 65 [(int .i64 t0_.Part.Tier), (int .i64 t0_.Part.Index), (int .i64 t0_.Seg), (int .i64 t0_.Mark), (int .i64 t0_.Rows), (bool t0_.Cold)]), A, (box b24 3 [(int .i64 a2)]), (box b25 4 [(bool false)]), (box b28 53 [sv16]), A2, (box b32 3 [(int .i64 z4)])]) 3 rfl rfl rfl (one_all rfl) F_size_4 rfl rfl (by simp) rfl) rfl rfl ?_
           rintro _ _ rfl
           refine ent_nil ?_
           refine ent_retc ?_
           cases Hl
           refine ent_pick [1, 3] (by decide) rfl ?_
           refine ent_roundR ?_
           exact jq_jump ⟨rfl, rfl⟩
         ·rw [if_neg c116] at Hl
          by_cases c117 : 0 ≤ z4
          ·rw [if_pos c117] at Hl
           by_cases c118 : z4 < (x24.2.length : Int)
           ·rw [if_pos c118] at Hl
            refine ent_drawm 12 rfl (fun done a w => StD 76 w0 F [(5, (pt b24 0)), (6, (pt b25 0)), (8, (pt b28 0)), (10, (pt b32 0)), (11, (pt b44 0)), (45, (agg #[(int .i64 t0_.Part.Tier), (int .i64 t0_.Part.Index), (int .i64 t0_.Seg), (int .i64 t0_.Mark), (int .i64 t0_.Rows), (bool t0_.Cold)]))] [(0, 46, (int .i64 z4)), (1, 47, sv16), (2, 48, (int .i64 (x24.2.length : Int))), (3, 49, (bool (decide ((x24.2.length : Int) ≤ z4)))), (4, 50, (bool (decide ((x24.2.length : Int) ≤ z4)))), (5, 51, (agg #[(int .i64 t0_.Part.Tier), (int .i64 t0_.Part.Index), (int .i64 t0_.Seg), (int .i64 t0_.Mark), (int .i64 t0_.Rows), (bool t0_.Cold)])), (6, 52, sv16), (7, 53, (int .i64 z4)), (8, 54, (eptr sv16 (z4.toNat * 6))), (9, 55, (agg #[(int .i64 (((x24.2.getD z4.toNat z_Api_Entry).Part).Tier)), (int .i64 (((x24.2.getD z4.toNat z_Api_Entry).Part).Index)), (int .i64 ((x24.2.getD z4.toNat z_Api_Entry).Seg)), (int .i64 ((x24.2.getD z4.toNat z_Api_Entry).Mark)), (int .i64 ((x24.2.getD z4.toNat z_Api_Entry).Rows)), (bool ((x24.2.getD z4.toNat z_Api_Entry).Cold))])), (10, 56, (bool (!(((t0_.Part.Tier == (((x24.2.getD z4.toNat z_Api_Entry).Part).Tier)) && ((t0_.Part.Index == (((x24.2.getD z4.toNat z_Api_Entry).Part).Index)) && true)) && ((t0_.Seg == ((x24.2.getD z4.toNat z_Api_Entry).Seg)) && ((t0_.Mark == ((x24.2.getD z4.toNat z_Api_Entry).Mark)) && ((t0_.Rows == ((x24.2.getD z4.toNat z_Api_Entry).Rows)) && ((t0_.Cold == ((x24.2.getD z4.toNat z_Api_Entry).Cold)) && true)))))))), (11, 57, (bool (!(((t0_.Part.Tier == (((x24.2.getD z4.toNat z_Api_Entry).Part).Tier)) && ((t0_.Part.Index == (((x24.2.getD z4.toNat z_Api_Entry).Part).Index)) && true)) && ((t0_.Seg == ((x24.2.getD z4.toNat z_Api_Entry).Seg)) && ((t0_.Mark == ((x24.2.getD z4.toNat z_Api_Entry).Mark)) && ((t0_.Rows == ((x24.2.getD z4.toNat z_Api_Entry).Rows)) && ((t0_.Cold == ((x24.2.getD z4.toNat z_Api_Entry).Cold)) && true))))))))] done [(box b44 65 [(int .i64 t0_.Part.Tier), (int .i64 t0_.Part.Index), (int .i64 t0_.Seg), (int .i64 t0_.Mark), (int .i64 t0_.Rows), (bool t0_.Cold)]), A, (box b24 3 [(int .i64 a2)]), (box b25 4 [(bool false)]), (box b28 53 [sv16]), A2, (box b32 3 [(int .i64 z4)])] a w) (by kernel_rfl) (by kernel_rfl) (draw_startL (sub_cons (t := 5) rfl (sub_cons (t := 6) rfl (sub_cons (t := 8) rfl (sub_cons (t := 10) rfl (sub_cons (t := 11) rfl (sub_cons (t := 45) rfl (sub_nil _))))))) rfl) ?_ ?_
            ·refine ⟨?_, ?_, ?_, ?_, ?_, ?_, ?_, ?_, ?_, ?_, ?_, ?_, trivial⟩
             ·intro done hi hc hcu
              exact draw_value (i := 0) (t := 46) (v := (int .i64 z4)) rfl rfl (wanted_none rfl) (fun a => hasA_base) (ov_load (v := (int .i64 z4)) rfl F_agg_3 (reads_box1 (i := 6) rfl rfl)) rfl rfl (onlyT_spec (k0 := 0) rfl rfl rfl)
             ·intro done hi hc hcu
              exact draw_value (i := 1) (t := 47) (v := sv16) rfl rfl (wanted_none rfl) (fun a => hasA_base) (ov_load (v := sv16) rfl F_agg_53 (reads_box1 (i := 4) rfl rfl)) rfl rfl (onlyT_spec (k0 := 1) rfl rfl rfl)
             ·intro done hi hc hcu
              have d1 : done 1 = true := done_of (j := 1) hcu rfl (by decide) rfl
              exact draw_value (i := 2) (t := 48) (v := (int .i64 (x24.2.length : Int))) rfl rfl (wanted_none rfl) (fun a => (hasA_cons (k := 1) rfl d1 hasA_base)) (ov_len 5 rfl F_slice_53 rfl hr5) rfl rfl (onlyT_spec (k0 := 2) rfl rfl rfl)
             ·intro done hi hc hcu
              have d0 : done 0 = true := done_of (j := 0) hcu rfl (by decide) rfl
              have d2 : done 2 = true := done_of (j := 2) hcu rfl (by decide) rfl
              exact draw_value (i := 3) (t := 49) (v := (bool (decide ((x24.2.length : Int) ≤ z4)))) rfl rfl (wanted_none rfl) (fun a => (hasA_cons (k := 2) rfl d2 (hasA_cons (k := 0) rfl d0 hasA_base))) (ov_bin rfl rfl (b_geq _ _ _)) rfl rfl (onlyT_spec (k0 := 3) rfl rfl rfl)
             ·intro done hi hc hcu
              have d3 : done 3 = true := done_of (j := 3) hcu rfl (by decide) rfl
              exact draw_value (i := 4) (t := 50) (v := (bool (decide ((x24.2.length : Int) ≤ z4)))) rfl rfl (wanted_none rfl) (fun a => (hasA_cons (k := 3) rfl d3 hasA_base)) (ov_move rfl) rfl rfl (onlyT_spec (k0 := 4) rfl rfl rfl)
             ·intro done hi hc hcu
              have d4 : done 4 = true := done_of (j := 4) hcu rfl (by decide) rfl
              exact draw_value (i := 5) (t := 51) (v := (agg #[(int .i64 t0_.Part.Tier), (int .i64 t0_.Part.Index), (int .i64 t0_.Seg), (int .i64 t0_.Mark), (int .i64 t0_.Rows), (bool t0_.Cold)])) rfl rfl (wanted_on rfl rfl rfl (decide_eq_false c116)) (fun a => (hasA_cons (k := 4) rfl d4 hasA_base)) (ov_load_agg (vs := [(int .i64 t0_.Part.Tier), (int .i64 t0_.Part.Index), (int .i64 t0_.Seg), (int .i64 t0_.Mark), (int .i64 t0_.Rows), (bool t0_.Cold)]) rfl F_agg_65 F_size_65 (reads_boxW (i := 0) rfl)) rfl rfl (onlyT_spec (k0 := 5) rfl rfl rfl)
             ·intro done hi hc hcu
              have d4 : done 4 = true := done_of (j := 4) hcu rfl (by decide) rfl
              exact draw_value (i := 6) (t := 52) (v := sv16) rfl rfl (wanted_on rfl rfl rfl (decide_eq_false c116)) (fun a => (hasA_cons (k := 4) rfl d4 hasA_base)) (ov_load (v := sv16) rfl F_agg_53 (reads_box1 (i := 4) rfl rfl)) rfl rfl (onlyT_spec (k0 := 6) rfl rfl rfl)
             ·intro done hi hc hcu
              have d4 : done 4 = true := done_of (j := 4) hcu rfl (by decide) rfl
              exact draw_value (i := 7) (t := 53) (v := (int .i64 z4)) rfl rfl (wanted_on rfl rfl rfl (decide_eq_false c116)) (fun a => (hasA_cons (k := 4) rfl d4 hasA_base)) (ov_load (v := (int .i64 z4)) rfl F_agg_3 (reads_box1 (i := 6) rfl rfl)) rfl rfl (onlyT_spec (k0 := 7) rfl rfl rfl)
             ·intro done hi hc hcu
              have d6 : done 6 = true := done_of (j := 6) hcu rfl (by decide) rfl
              have d7 : done 7 = true := done_of (j := 7) hcu rfl (by decide) rfl
              have d4 : done 4 = true := done_of (j := 4) hcu rfl (by decide) rfl
              exact draw_value (i := 8) (t := 54) (v := (eptr sv16 (z4.toNat * 6))) rfl rfl (wanted_on rfl rfl rfl (decide_eq_false c116)) (fun a => (hasA_cons (k := 4) rfl d4 (hasA_cons (k := 7) rfl d7 (hasA_cons (k := 6) rfl d6 hasA_base)))) (ov_indexAddr (sz := 5) 5 rfl rfl F_slice_53 F_size_65 rfl hr5 c117 c118) rfl rfl (onlyT_spec (k0 := 8) rfl rfl rfl)
             ·intro done hi hc hcu
              have d8 : done 8 = true := done_of (j := 8) hcu rfl (by decide) rfl
              have d4 : done 4 = true := done_of (j := 4) hcu rfl (by decide) rfl
              exact draw_value (i := 9) (t := 55) (v := (agg #[(int .i64 (((x24.2.getD z4.toNat z_Api_Entry).Part).Tier)), (int .i64 (((x24.2.getD z4.toNat z_Api_Entry).Part).Index)), (int .i64 ((x24.2.getD z4.toNat z_Api_Entry).Seg)), (int .i64 ((x24.2.getD z4.toNat z_Api_Entry).Mark)), (int .i64 ((x24.2.getD z4.toNat z_Api_Entry).Rows)), (bool ((x24.2.getD z4.toNat z_Api_Entry).Cold))])) rfl rfl (wanted_on rfl rfl rfl (decide_eq_false c116)) (fun a => (hasA_cons (k := 4) rfl d4 (hasA_cons (k := 8) rfl d8 hasA_base))) (ov_load_agg (vs := [(int .i64 (((x24.2.getD z4.toNat z_Api_Entry).Part).Tier)), (int .i64 (((x24.2.getD z4.toNat z_Api_Entry).Part).Index)), (int .i64 ((x24.2.getD z4.toNat z_Api_Entry).Seg)), (int .i64 ((x24.2.getD z4.toNat z_Api_Entry).Mark)), (int .i64 ((x24.2.getD z4.toNat z_Api_Entry).Rows)), (bool ((x24.2.getD z4.toNat z_Api_Entry).Cold))]) rfl F_agg_65 F_size_65 (reads_rd (i := 5) rfl hr5 (by simp) (fl_read0 enc_Api_Entry_len (ix_lt c117 c118) rfl))) rfl rfl (onlyT_spec (k0 := 9) rfl rfl rfl)
             ·intro done hi hc hcu
              have d5 : done 5 = true := done_of (j := 5) hcu rfl (by decide) rfl
              have d9 : done 9 = true := done_of (j := 9) hcu rfl (by decide) rfl
              have d4 : done 4 = true := done_of (j := 4) hcu rfl (by decide) rfl
              exact draw_value (i := 10) (t := 56) (v := (bool (!(((t0_.Part.Tier == (((x24.2.getD z4.toNat z_Api_Entry).Part).Tier)) && ((t0_.Part.Index == (((x24.2.getD z4.toNat z_Api_Entry).Part).Index)) && true)) && ((t0_.Seg == ((x24.2.getD z4.toNat z_Api_Entry).Seg)) && ((t0_.Mark == ((x24.2.getD z4.toNat z_Api_Entry).Mark)) && ((t0_.Rows == ((x24.2.getD z4.toNat z_Api_Entry).Rows)) && ((t0_.Cold == ((x24.2.getD z4.toNat z_Api_Entry).Cold)) && true)))))))) rfl rfl (wanted_on rfl rfl rfl (decide_eq_false c116)) (fun a => (hasA_cons (k := 4) rfl d4 (hasA_cons (k := 9) rfl d9 (hasA_cons (k := 5) rfl d5 hasA_base)))) (ov_bin rfl rfl (same_65_n _ _ _ _ _ _ _ _ _ _ _ _)) rfl rfl (onlyT_spec (k0 := 10) rfl rfl rfl)
             ·intro done hi hc hcu
              have d4 : done 4 = true := done_of (j := 4) hcu rfl (by decide) rfl
              have d10 : done 10 = true := done_of (j := 10) hcu rfl (by decide) rfl
              exact draw_value (i := 11) (t := 57) (v := (bool (!(((t0_.Part.Tier == (((x24.2.getD z4.toNat z_Api_Entry).Part).Tier)) && ((t0_.Part.Index == (((x24.2.getD z4.toNat z_Api_Entry).Part).Index)) && true)) && ((t0_.Seg == ((x24.2.getD z4.toNat z_Api_Entry).Seg)) && ((t0_.Mark == ((x24.2.getD z4.toNat z_Api_Entry).Mark)) && ((t0_.Rows == ((x24.2.getD z4.toNat z_Api_Entry).Rows)) && ((t0_.Cold == ((x24.2.getD z4.toNat z_Api_Entry).Cold)) && true)))))))) rfl rfl (wanted_none rfl) (fun a => (hasA_cons (k := 10) rfl d10 (hasA_cons (k := 4) rfl d4 hasA_base))) (ov_pick rfl rfl rfl (pick_f (decide_eq_false c116))) rfl rfl (onlyT_spec (k0 := 11) rfl rfl rfl)
            ·intro done hall
             refine draw_endL [(box b44 65 [(int .i64 t0_.Part.Tier), (int .i64 t0_.Part.Index), (int .i64 t0_.Seg), (int .i64 t0_.Mark), (int .i64 t0_.Rows), (bool t0_.Cold)]), A, (box b24 3 [(int .i64 a2)]), (box b25 4 [(bool false)]), (box b28 53 [sv16]), A2, (box b32 3 [(int .i64 z4)])] rfl (fun a => (hasA_cons (k := 0) rfl (hall 0 (by decide)) (hasA_cons (k := 1) rfl (hall 1 (by decide)) (hasA_cons (k := 2) rfl (hall 2 (by decide)) (hasA_cons (k := 3) rfl (hall 3 (by decide)) (hasA_cons (k := 4) rfl (hall 4 (by decide)) (hasA_cons (k := 5) rfl (hall 5 (by decide)) (hasA_cons (k := 6) rfl (hall 6 (by decide)) (hasA_cons (k := 7) rfl (hall 7 (by decide)) (hasA_cons (k := 8) rfl (hall 8 (by decide)) (hasA_cons (k := 9) rfl (hall 9 (by decide)) (hasA_cons (k := 10) rfl (hall 10 (by decide)) (hasA_cons (k := 11) rfl (hall 11 (by decide)) hasA_base))))))))))))) ?_
             by_cases c119 : (!(((t0_.Part.Tier == (((x24.2.getD z4.toNat z_Api_Entry).Part).Tier)) && ((t0_.Part.Index == (((x24.2.getD z4.toNat z_Api_Entry).Part).Index)) && true)) && ((t0_.Seg == ((x24.2.getD z4.toNat z_Api_Entry).Seg)) && ((t0_.Mark == ((x24.2.getD z4.toNat z_Api_Entry).Mark)) && ((t0_.Rows == ((x24.2.getD z4.toNat z_Api_Entry).Rows)) && ((t0_.Cold == ((x24.2.getD z4.toNat z_Api_Entry).Cold)) && true)))))) = true
             ·rw [if_pos c119] at Hl
              refine ent_cond_true rfl c119 ?_
              refine ent_seq ?_
              refine ent_region ?_
              refine ent_op0 (ot_storeG (cs := [(bool false)]) (cs' := [(bool false)]) (us := [(bool false)]) (L' := [(box b44 65 [(int .i64 t0_.Part.Tier), (int .i64 t0_.Part.Index), (int .i64 t0_.Seg), (int .i64 t0_.Mark), (int .i64 t0_.Rows), (bool t0_.Cold)]), A, (box b24 3 [(int .i64 a2)]), (box b25 4 [(bool false)]), (box b28 53 [sv16]), A2, (box b32 3 [(int .i64 z4)])]) 3 rfl rfl rfl (one_all rfl) F_size_4 rfl rfl (by simp) rfl) rfl rfl ?_
              rintro _ _ rfl
              refine ent_nil ?_
              refine ent_retc ?_
              cases Hl
              refine ent_pick [1, 3] (by decide) rfl ?_
              refine ent_roundR ?_
              exact jq_jump ⟨rfl, rfl⟩
             ·rw [if_neg c119] at Hl
              refine ent_cond_false rfl (Bool.eq_false_iff.2 c119) ?_
              refine ent_skip ?_
              refine ent_seq ?_
              refine ent_region ?_
              refine ent_value (ov_load (v := (int .i64 z4)) rfl F_agg_3 (reads_box1 (i := 6) rfl rfl)) rfl rfl rfl ?_
              refine ent_value (ov_bin rfl rfl (b_add _ _ _) ) rfl rfl rfl ?_
              refine ent_op0 (ot_storeG (cs := [(int .i64 z4)]) (cs' := [(int .i64 (w64 (z4 + 1)))]) (us := [(int .i64 (w64 (z4 + 1)))]) (L' := [(box b44 65 [(int .i64 t0_.Part.Tier), (int .i64 t0_.Part.Index), (int .i64 t0_.Seg), (int .i64 t0_.Mark), (int .i64 t0_.Rows), (bool t0_.Cold)]), A, (box b24 3 [(int .i64 a2)]), (box b25 4 [(bool false)]), (box b28 53 [sv16]), A2, (box b32 3 [(int .i64 (w64 (z4 + 1)))])]) 6 rfl rfl rfl (one_all rfl) F_size_3 rfl rfl (by simp) rfl) rfl rfl ?_
              rintro _ _ rfl
              refine ent_nil ?_
              refine ent_seq ?_
              refine ent_region ?_
              refine ent_value (ov_load (v := (int .i64 (w64 (z4 + 1)))) rfl F_agg_3 (reads_box1 (i := 6) rfl rfl)) rfl rfl rfl ?_
              refine ent_value (ov_load (v := (int .i64 a2)) rfl F_agg_3 (reads_box1 (i := 2) rfl rfl)) rfl rfl rfl ?_
              refine ent_value (ov_bin rfl rfl (b_eql _ _ _)) rfl rfl rfl ?_
              refine ent_nil ?_
              by_cases c120 : (w64 (z4 + 1)) = a2
              ·rw [if_pos c120] at Hl
               refine ent_cond_true rfl (eq_t c120) ?_
               refine ent_exit ?_
               cases Hl
               refine ent_pick [1, 2, 3, 4, 5, 6] (by decide) rfl ?_
               refine ent_roundX ?_
               exact jq_jump ⟨_, hr5, rfl, rfl⟩
              ·rw [if_neg c120] at Hl
               refine ent_cond_false rfl (eq_f c120) ?_
               refine ent_skip ?_
               cases Hl
               refine ent_pick [1, 2, 3, 4, 5, 6] (by decide) rfl ?_
               refine ent_roundN ?_
               exact jq_next rfl
           ·rw [if_neg c118] at Hl
            cases Hl
          ·rw [if_neg c117] at Hl
           cases Hl
       ·intro Y l hY
        exact (catalog_Catalog_All_1_YO.spec K l b41 b29 b30 sv17 (Sum Int (Sum Unit ((List Api_Entry) × Int))) (ossuarylaw20_CatalogEach_r0 K a2 x24) (Sum.inl 0) x25 Y (by intro t0_ z_ r_ h_; cases z_ with | inl z_ => exact hY _ z_ r_ ⟨t0_, rfl, h_⟩ | inr d_ => exact absurd (show (none : Option _) = some r_ from h_) (by simp)) _ h35).mono fun _ _ h_ => h_.2
       ·intro y4 e_
        subst e_
        rw [cas_inl] at H3
        rintro _ ⟨rfl⟩
        refine ent_sub [(5, (pt b24 0)), (6, (pt b25 0)), (8, (pt b28 0)), (10, (pt b32 0))] (sub_cons (t := 5) rfl (sub_cons (t := 6) rfl (sub_cons (t := 8) rfl (sub_cons (t := 10) rfl (sub_nil _))))) ?_
        cases H3
        exact ent_fin [4, 5, 6, 7, 8, 9] (by decide) rfl (sub_cons (t := 5) rfl (sub_cons (t := 6) rfl (sub_cons (t := 8) rfl (sub_cons (t := 10) rfl (sub_nil _))))) fun a w h => ⟨_, rfl, _, _, _, _, _, hr5, h⟩
       ·intro d_ e_
        subst e_
        rw [cas_inr] at H3
        cases d_ with
        | inl d7 =>
         rw [cas_inl] at H3
         rintro c_ _ ⟨rfl, rfl⟩
         refine ent_sub [(6, (pt b25 0))] (sub_cons (t := 6) rfl (sub_nil _)) ?_
         refine ent_retc ?_
         cases H3
         have H4 := Option.some.inj (show some _ = some _ from H)
         first | (have e_ := Option.some.inj (show some _ = some _ from H4); subst e_) | subst H4
         exact ret_memp [4] (by decide) rfl (vs := [(bool false)]) rfl ⟨⟨_, [(bool false)], rfl, reads_box1 (i := 5) rfl rfl, .inr ⟨F_agg_4, rfl⟩⟩, trivial⟩ _ rfl ⟨rfl, rfl⟩
        | inr d8 =>
         rw [cas_inr] at H3
         rw [thn_eq0] at H3
         rintro c_ _ ⟨sv23, hr8, rfl, rfl⟩
         refine ent_sub [(5, (pt b24 0)), (6, (pt b25 0)), (8, (pt b28 0)), (10, (pt b32 0))] (sub_cons (t := 5) rfl (sub_cons (t := 6) rfl (sub_cons (t := 8) rfl (sub_cons (t := 10) rfl (sub_nil _))))) ?_
         refine ent_exit ?_
         cases H3
         exact ent_fin [4, 5, 6, 7, 8, 9] (by decide) rfl (sub_cons (t := 5) rfl (sub_cons (t := 6) rfl (sub_cons (t := 8) rfl (sub_cons (t := 10) rfl (sub_nil _))))) fun a w h => ⟨_, rfl, _, _, _, _, _, hr8, h⟩
      ·refine ent_exi fun v2 => ent_and fun e_ => ?_
       subst e_
       rw [cas_inl] at H
       refine ent_exi fun sv22 => ent_exi fun b37 => ent_exi fun b38 => ent_exi fun b39 => ent_exi fun b40 => ent_and fun hr7 => ?_
       refine ent_seq ?_
       refine ent_region ?_
       refine ent_value (ov_load (v := sv22) rfl F_agg_53 (reads_box1 (i := 3) rfl rfl)) rfl rfl rfl ?_
       refine ent_value (ov_len 4 rfl F_slice_53 rfl hr7) rfl rfl rfl ?_
       refine ent_value (ov_assign rfl) rfl rfl rfl ?_
       refine ent_nil ?_
       refine ent_seq ?_
       refine ent_seq ?_
       refine ent_region ?_
       refine ent_value (ov_load (v := (int .i64 a2)) rfl F_agg_3 (reads_box1 (i := 1) rfl rfl)) rfl rfl rfl ?_
       refine ent_value (ov_bin rfl rfl (b_gtr _ _ _)) rfl rfl rfl ?_
       refine ent_value (ov_move rfl) rfl rfl rfl ?_
       by_cases c123 : 0 < a2
       ·rw [if_pos c123] at H
        refine ent_value_on (ov_load (v := (int .i64 a2)) rfl F_agg_3 (reads_box1 (i := 1) rfl rfl)) rfl rfl rfl (decide_eq_true c123) rfl rfl ?_
        refine ent_value_on (ov_move rfl) rfl rfl rfl (decide_eq_true c123) rfl rfl ?_
        refine ent_value_on (ov_bin rfl rfl (b_lss _ _ _)) rfl rfl rfl (decide_eq_true c123) rfl rfl ?_
        refine ent_value (ov_pick rfl rfl rfl (pick_t (decide_eq_true c123))) rfl rfl rfl ?_
        refine ent_nil ?_
        by_cases c124 : a2 < (v2.1.length : Int)
        ·rw [if_pos c124] at H
         refine ent_cond_true rfl (decide_eq_true c124) ?_
         refine ent_region ?_
         refine ent_value (ov_load (v := (int .i64 a2)) rfl F_agg_3 (reads_box1 (i := 1) rfl rfl)) rfl rfl rfl ?_
         refine ent_value (ov_assign rfl) rfl rfl rfl ?_
         refine ent_nil ?_
         refine ent_seq ?_
         refine ent_region ?_
         refine ent_value (ov_load (v := (int .i64 v2.2)) rfl F_agg_3 (reads_box1 (i := 5) rfl rfl)) rfl rfl rfl ?_
         refine ent_value (ov_move rfl) rfl rfl rfl ?_
         refine ent_value (ov_bin rfl rfl (b_eql _ _ _)) rfl rfl rfl ?_
         refine ent_op0 (ot_storeG (cs := [(bool false)]) (cs' := [(bool (v2.2 == a2))]) (us := [(bool (v2.2 == a2))]) (L' := [A, (box b37 3 [(int .i64 a2)]), (box b38 4 [(bool (v2.2 == a2))]), (box b39 53 [sv22]), A2, (box b40 3 [(int .i64 v2.2)])]) 2 rfl rfl rfl (one_all rfl) F_size_4 rfl rfl (by simp) rfl) rfl rfl ?_
         rintro _ _ rfl
         refine ent_nil ?_
         refine ent_retc ?_
         first | (have e_ := Option.some.inj (show some _ = some _ from H); subst e_) | subst H
         exact ret_memp [0] (by decide) rfl (vs := [(bool (v2.2 == a2))]) rfl ⟨⟨_, [(bool (v2.2 == a2))], rfl, reads_box1 (i := 2) rfl rfl, .inr ⟨F_agg_4, rfl⟩⟩, trivial⟩ _ rfl ⟨rfl, rfl⟩
        ·rw [if_neg c124] at H
         refine ent_cond_false rfl (decide_eq_false c124) ?_
         refine ent_skip ?_
         refine ent_seq ?_
         refine ent_region ?_
         refine ent_value (ov_load (v := (int .i64 v2.2)) rfl F_agg_3 (reads_box1 (i := 5) rfl rfl)) rfl rfl rfl ?_
         refine ent_value (ov_move rfl) rfl rfl rfl ?_
         refine ent_value (ov_bin rfl rfl (b_eql _ _ _)) rfl rfl rfl ?_
         refine ent_op0 (ot_storeG (cs := [(bool false)]) (cs' := [(bool (v2.2 == (v2.1.length : Int)))]) (us := [(bool (v2.2 == (v2.1.length : Int)))]) (L' := [A, (box b37 3 [(int .i64 a2)]), (box b38 4 [(bool (v2.2 == (v2.1.length : Int)))]), (box b39 53 [sv22]), A2, (box b40 3 [(int .i64 v2.2)])]) 2 rfl rfl rfl (one_all rfl) F_size_4 rfl rfl (by simp) rfl) rfl rfl ?_
         rintro _ _ rfl
         refine ent_nil ?_
         refine ent_retc ?_
         first | (have e_ := Option.some.inj (show some _ = some _ from H); subst e_) | subst H
         exact ret_memp [0] (by decide) rfl (vs := [(bool (v2.2 == (v2.1.length : Int)))]) rfl ⟨⟨_, [(bool (v2.2 == (v2.1.length : Int)))], rfl, reads_box1 (i := 2) rfl rfl, .inr ⟨F_agg_4, rfl⟩⟩, trivial⟩ _ rfl ⟨rfl, rfl⟩
       ·rw [if_neg c123] at H
        refine ent_off rfl rfl rfl (decide_eq_false c123) rfl rfl ?_
        refine ent_off rfl rfl rfl (decide_eq_false c123) rfl rfl ?_
        refine ent_off rfl rfl rfl (decide_eq_false c123) rfl rfl ?_
        refine ent_value (ov_pick rfl rfl rfl (pick_f (decide_eq_false c123))) rfl rfl rfl ?_
        refine ent_nil ?_
        refine ent_cond_false rfl rfl ?_
        refine ent_skip ?_
        refine ent_seq ?_
        refine ent_region ?_
        refine ent_value (ov_load (v := (int .i64 v2.2)) rfl F_agg_3 (reads_box1 (i := 5) rfl rfl)) rfl rfl rfl ?_
        refine ent_value (ov_move rfl) rfl rfl rfl ?_
        refine ent_value (ov_bin rfl rfl (b_eql _ _ _)) rfl rfl rfl ?_
        refine ent_op0 (ot_storeG (cs := [(bool false)]) (cs' := [(bool (v2.2 == (v2.1.length : Int)))]) (us := [(bool (v2.2 == (v2.1.length : Int)))]) (L' := [A, (box b37 3 [(int .i64 a2)]), (box b38 4 [(bool (v2.2 == (v2.1.length : Int)))]), (box b39 53 [sv22]), A2, (box b40 3 [(int .i64 v2.2)])]) 2 rfl rfl rfl (one_all rfl) F_size_4 rfl rfl (by simp) rfl) rfl rfl ?_
        rintro _ _ rfl
        refine ent_nil ?_
        refine ent_retc ?_
        first | (have e_ := Option.some.inj (show some _ = some _ from H); subst e_) | subst H
        exact ret_memp [0] (by decide) rfl (vs := [(bool (v2.2 == (v2.1.length : Int)))]) rfl ⟨⟨_, [(bool (v2.2 == (v2.1.length : Int)))], rfl, reads_box1 (i := 2) rfl rfl, .inr ⟨F_agg_4, rfl⟩⟩, trivial⟩ _ rfl ⟨rfl, rfl⟩

end Go.Proofs.Ythdggcleffadeaa.CatalogEach
