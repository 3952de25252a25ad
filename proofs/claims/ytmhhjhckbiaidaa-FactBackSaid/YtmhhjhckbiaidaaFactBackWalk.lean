/- Printed by gen.py: that the machine's calls do what the plain functions of FactBack say. -/
import Derived.Test.YtmhhjhckbiaidaaFactBackWalk0
import Derived.Test.YtmhhjhckbiaidaaProg
import Derived.Test.YtmhhjhckbiaidaaEConv
import Derived.Test.YtmhhjhckbiaidaaFactBackPure
set_option linter.unusedVariables false
set_option linter.unusedSimpArgs false
set_option maxHeartbeats 400000
namespace Go.Proofs.Ytmhhjhckbiaidaa.FactBack
open Go Go.RowKit E

set_option maxRecDepth 100000 in
theorem ossuarylaw09_FactBack.spec (K : Nat) (A0 : HP) (sv0 : Value) (A1 : HP) (sv1 : Value) (l0 : List Api_Fact) (l1 : List Int) (a2 : Int) (hA0 : IsRd A0 sv0 l0.length 6 (fl enc_Api_Fact l0)) (hA1 : IsRd A1 sv1 l1.length 1 (fl (eI .u8) l1)) (r : Bool) (H : ossuarylaw09_FactBack K l0 l1 a2 = some r) : FnSpec Try.prog 13 [sv0, sv1, (Value.int .i64 a2)] [A0, A1] (fun v M => v = (Value.bool r) ∧ M = [A0, A1]) := by
  unfold ossuarylaw09_FactBack at H
  refine spec_of Try.func13 rfl 87 rfl (Nat.le_of_ble_eq_true rfl) fun F w0 => ?_
  show Ent (St 87 w0 F [(0, sv0), (1, sv1), (2, (Value.int .i64 a2))] [A0, A1]) _
  refine ent_seq ?_
  refine ent_region ?_
  refine ent_value (ov_assign rfl) rfl rfl rfl ?_
  refine ent_nil ?_
  refine ent_seq ?_
  refine ent_seq ?_
  refine ent_region ?_
  refine ent_value (ov_move rfl) rfl rfl rfl ?_
  obtain ⟨x1, h1, H⟩ := Option.bind_eq_some_iff.1 H
  refine ent_op (ot_call_same (Lr := [A1]) [0, 1] [0, 1] (first := []) (cap := []) (xs := [.tmp 17]) rfl rfl F_call_25 rfl (ossuarylaw09_Light.spec K sv0 A0 l0 hA0 _ h1) (by decide) rfl (by decide) rfl) rfl rfl rfl ?_
  rintro _ _ ⟨rfl, rfl⟩
  refine ent_value (ov_un rfl (u_not _)) rfl rfl rfl ?_
  refine ent_value (ov_move rfl) rfl rfl rfl ?_
  by_cases c1 : (!x1) = true
  · rw [if_pos c1] at H
    refine ent_off rfl rfl rfl c1 rfl rfl ?_
    refine ent_off rfl rfl rfl c1 rfl rfl ?_
    refine ent_off rfl rfl rfl c1 rfl rfl ?_
    refine ent_value (ov_pick rfl rfl rfl (pick_t c1)) rfl rfl rfl ?_
    refine ent_nil ?_
    refine ent_cond_true rfl rfl ?_
    refine ent_seq ?_
    refine ent_region ?_
    obtain ⟨x2, h2, H⟩ := Option.bind_eq_some_iff.1 H
    refine ent_op (ot_call0 (first := []) (cap := []) (xs := []) rfl rfl F_call_26 rfl (ossuarylaw09_alive.spec K _ h2)) rfl rfl rfl ?_
    rintro _ _ ⟨rfl, rfl⟩
    refine ent_value (ov_assign rfl) rfl rfl rfl ?_
    refine ent_nil ?_
    refine ent_retc ?_
    cases H
    exact ret_tmp rfl rfl ⟨rfl, rfl⟩
  · rw [if_neg c1] at H
    refine ent_value_on (ov_move rfl) rfl rfl rfl (Bool.eq_false_iff.2 c1) rfl rfl ?_
    refine ent_value_on (ov_len 1 rfl F_slice_79 rfl hA1) rfl rfl rfl (Bool.eq_false_iff.2 c1) rfl rfl ?_
    refine ent_value_on (ov_bin rfl rfl (b_gtr _ _ _)) rfl rfl rfl (Bool.eq_false_iff.2 c1) rfl rfl ?_
    refine ent_value (ov_pick rfl rfl rfl (pick_f (Bool.eq_false_iff.2 c1))) rfl rfl rfl ?_
    refine ent_nil ?_
    by_cases c2 : 1000 < (l1.length : Int)
    · rw [if_pos c2] at H
      refine ent_cond_true rfl (decide_eq_true c2) ?_
      refine ent_seq ?_
      refine ent_region ?_
      obtain ⟨x3, h3, H⟩ := Option.bind_eq_some_iff.1 H
      refine ent_op (ot_call0 (first := []) (cap := []) (xs := []) rfl rfl F_call_26 rfl (ossuarylaw09_alive.spec K _ h3)) rfl rfl rfl ?_
      rintro _ _ ⟨rfl, rfl⟩
      refine ent_value (ov_assign rfl) rfl rfl rfl ?_
      refine ent_nil ?_
      refine ent_retc ?_
      cases H
      exact ret_tmp rfl rfl ⟨rfl, rfl⟩
    · rw [if_neg c2] at H
      refine ent_cond_false rfl (decide_eq_false c2) ?_
      refine ent_skip ?_
      refine ent_seq ?_
      refine ent_region ?_
      refine ent_value (ov_move rfl) rfl rfl rfl ?_
      refine ent_value (ov_move rfl) rfl rfl rfl ?_
      obtain ⟨x4, h4, H⟩ := Option.bind_eq_some_iff.1 H
      refine ent_op (ot_call (Lr := [A1]) (first := []) (cap := []) (xs := [.tmp 27, .tmp 28]) rfl rfl F_call_54 rfl (fact_Encode.spec K sv0 A0 l0 a2 hA0 _ h4) rfl) rfl rfl rfl ?_
      rintro _ _ ⟨_, ⟨sv2, rfl, rfl⟩, rfl⟩
      refine ent_value (ov_move rfl) rfl rfl rfl ?_
      refine ent_value (ov_extract rfl rfl) rfl rfl rfl ?_
      refine ent_value (ov_extract rfl rfl) rfl rfl rfl ?_
      refine ent_value (ov_assign rfl) rfl rfl rfl ?_
      refine ent_value (ov_assign rfl) rfl rfl rfl ?_
      refine ent_nil ?_
      refine ent_seq ?_
      refine ent_region ?_
      refine ent_value (ov_move rfl) rfl rfl rfl ?_
      refine ent_value (ov_move rfl) rfl rfl rfl ?_
      obtain ⟨x5, h5, H⟩ := Option.bind_eq_some_iff.1 H
      refine ent_op (ot_call_same (Lr := [(own sv2 5 1 x4.2.length (fl (eI .u8) x4.2)), A1]) [0, 1, 2] [0, 1, 2] (first := []) (cap := []) (xs := [.tmp 33, .tmp 34]) rfl rfl F_call_29 rfl (fact_All.spec K sv0 A0 l0 a2 hA0 _ h5) (by decide) rfl (by decide) rfl) rfl rfl rfl ?_
      rintro _ _ ⟨rfl, rfl⟩
      refine ent_value (ov_move rfl) rfl rfl rfl ?_
      refine ent_value (ov_extract rfl rfl) rfl rfl rfl ?_
      refine ent_value (ov_extract rfl rfl) rfl rfl rfl ?_
      refine ent_value (ov_assign rfl) rfl rfl rfl ?_
      refine ent_value (ov_assign rfl) rfl rfl rfl ?_
      refine ent_nil ?_
      refine ent_seq ?_
      refine ent_seq ?_
      refine ent_region ?_
      refine ent_value (ov_move rfl) rfl rfl rfl ?_
      refine ent_value (ov_move rfl) rfl rfl rfl ?_
      refine ent_value (ov_bin rfl rfl (b_neq _ _ _)) rfl rfl rfl ?_
      refine ent_nil ?_
      by_cases c3 : ¬ (x4.1 = x5.1)
      · rw [if_pos c3] at H
        refine ent_cond_true rfl (ne_t c3) ?_
        refine ent_seq ?_
        refine ent_region ?_
        refine ent_value (ov_assign rfl) rfl rfl rfl ?_
        refine ent_nil ?_
        refine ent_retc ?_
        cases H
        refine ent_pick [0, 2] (by decide) rfl ?_
        exact ret_tmp rfl rfl ⟨rfl, rfl⟩
      · rw [if_neg c3] at H
        refine ent_cond_false rfl (ne_f c3) ?_
        refine ent_skip ?_
        obtain ⟨x6, H1, H⟩ := Option.bind_eq_some_iff.1 H
        refine ent_seq_cut (fun a w => ∃ v1, x6 = Sum.inl v1 ∧ St 87 w0 F [(1, sv1), (2, (Value.int .i64 a2))] [A0, A1] a w) ?_ ?_
        · refine ent_seq ?_
          refine ent_region ?_
          refine ent_value (ov_move rfl) rfl rfl rfl ?_
          refine ent_value (ov_bin rfl rfl (b_eql _ _ _)) rfl rfl rfl ?_
          refine ent_nil ?_
          by_cases c4 : x4.1 = 0
          · rw [if_pos c4] at H1
            refine ent_cond_true rfl (eq_t c4) ?_
            refine ent_seq ?_
            refine ent_region ?_
            refine ent_value (ov_move rfl) rfl rfl rfl ?_
            refine ent_value (ov_move rfl) rfl rfl rfl ?_
            obtain ⟨x7, h6, H1⟩ := Option.bind_eq_some_iff.1 H1
            refine ent_pick [1, 0, 2] (by decide) rfl ?_
            refine ent_op (ot_call (Lr := [A0, A1]) (first := []) (cap := []) (xs := [.tmp 44, .tmp 45]) rfl rfl F_call_56 rfl (fact_Read.spec K sv2 (own sv2 5 1 x4.2.length (fl (eI .u8) x4.2)) x4.2 a2 (isRd_ownx 5) _ h6) rfl) rfl rfl rfl ?_
            rintro _ _ ⟨_, ⟨sv3, rfl, rfl⟩, rfl⟩
            refine ent_value (ov_move rfl) rfl rfl rfl ?_
            refine ent_value (ov_extract rfl rfl) rfl rfl rfl ?_
            refine ent_value (ov_extract rfl rfl) rfl rfl rfl ?_
            refine ent_value (ov_assign rfl) rfl rfl rfl ?_
            refine ent_value (ov_assign rfl) rfl rfl rfl ?_
            refine ent_nil ?_
            refine ent_seq ?_
            refine ent_region ?_
            refine ent_value (ov_move rfl) rfl rfl rfl ?_
            refine ent_value (ov_bin rfl rfl (b_neq _ _ _)) rfl rfl rfl ?_
            refine ent_value (ov_move rfl) rfl rfl rfl ?_
            by_cases c5 : ¬ (x7.1 = 0)
            · rw [if_pos c5] at H1
              refine ent_off rfl rfl rfl (ne_t c5) rfl rfl ?_
              refine ent_off rfl rfl rfl (ne_t c5) rfl rfl ?_
              refine ent_off rfl rfl rfl (ne_t c5) rfl rfl ?_
              refine ent_off rfl rfl rfl (ne_t c5) rfl rfl ?_
              refine ent_value (ov_pick rfl rfl rfl (pick_t (ne_t c5))) rfl rfl rfl ?_
              refine ent_nil ?_
              refine ent_cond_true rfl rfl ?_
              refine ent_seq ?_
              refine ent_region ?_
              refine ent_value (ov_assign rfl) rfl rfl rfl ?_
              refine ent_nil ?_
              refine ent_retc ?_
              cases H1
              have H2 := Option.some.inj (show some _ = some _ from H)
              cases H2
              refine ent_pick [2, 3] (by decide) rfl ?_
              exact ret_tmp rfl rfl ⟨rfl, rfl⟩
            · rw [if_neg c5] at H1
              refine ent_value_on (ov_move rfl) rfl rfl rfl (ne_f c5) rfl rfl ?_
              refine ent_value_on (ov_move rfl) rfl rfl rfl (ne_f c5) rfl rfl ?_
              obtain ⟨x8, h7, H1⟩ := Option.bind_eq_some_iff.1 H1
              refine ent_op_on (ot_call_same (Lr := [(own sv2 5 1 x4.2.length (fl (eI .u8) x4.2)), A1]) [2, 1, 0, 3] [2, 1, 0, 3] (first := []) (cap := []) (xs := [.tmp 52, .tmp 53]) rfl rfl F_call_59 rfl (ossuaryref09_Same.spec K sv0 A0 sv3 (own sv3 43 6 x7.2.length (fl enc_Api_Fact x7.2)) l0 x7.2 hA0 (isRd_ownx 43) _ h7) (by decide) rfl (by decide) rfl) rfl rfl rfl (ne_f c5) rfl rfl ?_
              rintro _ _ ⟨rfl, rfl⟩
              refine ent_value_on (ov_un rfl (u_not _)) rfl rfl rfl (ne_f c5) rfl rfl ?_
              refine ent_value (ov_pick rfl rfl rfl (pick_f (ne_f c5))) rfl rfl rfl ?_
              refine ent_nil ?_
              by_cases c6 : (!x8) = true
              · rw [if_pos c6] at H1
                refine ent_cond_true rfl c6 ?_
                refine ent_seq ?_
                refine ent_region ?_
                refine ent_value (ov_assign rfl) rfl rfl rfl ?_
                refine ent_nil ?_
                refine ent_retc ?_
                cases H1
                have H3 := Option.some.inj (show some _ = some _ from H)
                cases H3
                refine ent_pick [2, 3] (by decide) rfl ?_
                exact ret_tmp rfl rfl ⟨rfl, rfl⟩
              · rw [if_neg c6] at H1
                refine ent_cond_false rfl (Bool.eq_false_iff.2 c6) ?_
                refine ent_skip ?_
                cases H1
                exact ent_fin [2, 3] (by decide) rfl (sub_cons (t := 1) rfl (sub_cons (t := 2) rfl (sub_nil _))) fun a w h => ⟨_, rfl, h⟩
          · rw [if_neg c4] at H1
            refine ent_cond_false rfl (eq_f c4) ?_
            refine ent_skip ?_
            cases H1
            exact ent_fin [0, 2] (by decide) rfl (sub_cons (t := 1) rfl (sub_cons (t := 2) rfl (sub_nil _))) fun a w h => ⟨_, rfl, h⟩
        · refine ent_exi fun v1 => ent_and fun e_ => ?_
          subst e_
          rw [cas_inl] at H
          refine ent_seq ?_
          refine ent_region ?_
          refine ent_value (ov_move rfl) rfl rfl rfl ?_
          refine ent_value (ov_move rfl) rfl rfl rfl ?_
          obtain ⟨x9, h8, H⟩ := Option.bind_eq_some_iff.1 H
          refine ent_pick [1, 0] (by decide) rfl ?_
          refine ent_op (ot_call (Lr := [A0]) (first := []) (cap := []) (xs := [.tmp 58, .tmp 59]) rfl rfl F_call_56 rfl (fact_Read.spec K sv1 A1 l1 a2 hA1 _ h8) rfl) rfl rfl rfl ?_
          rintro _ _ ⟨_, ⟨sv4, rfl, rfl⟩, rfl⟩
          refine ent_value (ov_move rfl) rfl rfl rfl ?_
          refine ent_value (ov_extract rfl rfl) rfl rfl rfl ?_
          refine ent_value (ov_extract rfl rfl) rfl rfl rfl ?_
          refine ent_value (ov_assign rfl) rfl rfl rfl ?_
          refine ent_value (ov_assign rfl) rfl rfl rfl ?_
          refine ent_nil ?_
          refine ent_seq ?_
          refine ent_seq ?_
          refine ent_region ?_
          refine ent_value (ov_move rfl) rfl rfl rfl ?_
          refine ent_value (ov_bin rfl rfl (b_neq _ _ _)) rfl rfl rfl ?_
          refine ent_nil ?_
          by_cases c7 : ¬ (x9.1 = 0)
          · rw [if_pos c7] at H
            refine ent_cond_true rfl (ne_t c7) ?_
            refine ent_seq ?_
            refine ent_region ?_
            refine ent_value (ov_move rfl) rfl rfl rfl ?_
            refine ent_value (ov_len 1 rfl F_slice_35 rfl (isRd_ownx 43)) rfl rfl rfl ?_
            refine ent_value (ov_bin rfl rfl (b_eql _ _ _)) rfl rfl rfl ?_
            refine ent_value (ov_move rfl) rfl rfl rfl ?_
            by_cases c8 : (x9.2.length : Int) = 0
            · rw [if_pos c8] at H
              obtain ⟨x10, h9, H⟩ := Option.bind_eq_some_iff.1 H
              refine ent_op_on (ot_call0 (first := []) (cap := []) (xs := []) rfl rfl F_call_26 rfl (ossuarylaw09_alive.spec K _ h9)) rfl rfl rfl (eq_t c8) rfl rfl ?_
              rintro _ _ ⟨rfl, rfl⟩
              refine ent_value (ov_pick rfl rfl rfl (pick_t (eq_t c8))) rfl rfl rfl ?_
              refine ent_value (ov_assign rfl) rfl rfl rfl ?_
              refine ent_nil ?_
              refine ent_retc ?_
              cases H
              refine ent_pick [2, 0] (by decide) rfl ?_
              exact ret_tmp rfl rfl ⟨rfl, rfl⟩
            · rw [if_neg c8] at H
              refine ent_off rfl rfl rfl (eq_f c8) rfl rfl ?_
              refine ent_value (ov_pick rfl rfl rfl (pick_f (eq_f c8))) rfl rfl rfl ?_
              refine ent_value (ov_assign rfl) rfl rfl rfl ?_
              refine ent_nil ?_
              refine ent_retc ?_
              cases H
              refine ent_pick [2, 0] (by decide) rfl ?_
              exact ret_tmp rfl rfl ⟨rfl, rfl⟩
          · rw [if_neg c7] at H
            refine ent_cond_false rfl (ne_f c7) ?_
            refine ent_skip ?_
            refine ent_seq ?_
            refine ent_region ?_
            refine ent_value (ov_move rfl) rfl rfl rfl ?_
            refine ent_value (ov_move rfl) rfl rfl rfl ?_
            obtain ⟨x11, h10, H⟩ := Option.bind_eq_some_iff.1 H
            refine ent_pick [1, 0, 2] (by decide) rfl ?_
            refine ent_op (ot_call (Lr := [A1, A0]) (first := []) (cap := []) (xs := [.tmp 72, .tmp 73]) rfl rfl F_call_54 rfl (fact_Encode.spec K sv4 (own sv4 43 6 x9.2.length (fl enc_Api_Fact x9.2)) x9.2 a2 (isRd_ownx 43) _ h10) rfl) rfl rfl rfl ?_
            rintro _ _ ⟨_, ⟨sv5, rfl, rfl⟩, rfl⟩
            refine ent_value (ov_move rfl) rfl rfl rfl ?_
            refine ent_value (ov_extract rfl rfl) rfl rfl rfl ?_
            refine ent_value (ov_extract rfl rfl) rfl rfl rfl ?_
            refine ent_value (ov_assign rfl) rfl rfl rfl ?_
            refine ent_value (ov_assign rfl) rfl rfl rfl ?_
            refine ent_nil ?_
            refine ent_seq ?_
            refine ent_region ?_
            refine ent_value (ov_move rfl) rfl rfl rfl ?_
            refine ent_value (ov_bin rfl rfl (b_eql _ _ _)) rfl rfl rfl ?_
            refine ent_value (ov_move rfl) rfl rfl rfl ?_
            by_cases c9 : x11.1 = 0
            · rw [if_pos c9] at H
              refine ent_value_on (ov_move rfl) rfl rfl rfl (eq_t c9) rfl rfl ?_
              refine ent_value_on (ov_move rfl) rfl rfl rfl (eq_t c9) rfl rfl ?_
              obtain ⟨x12, h11, H⟩ := thn_elim H
              refine ent_op_on (ot_call_same (Lr := [(own sv4 43 6 x9.2.length (fl enc_Api_Fact x9.2)), A0]) [1, 2, 0, 3] [2, 0, 1, 3] (first := []) (cap := []) (xs := [.tmp 80, .tmp 81]) rfl rfl F_call_58 rfl (ossuaryref01_Same.spec sv5 (own sv5 5 1 x11.2.length (fl (eI .u8) x11.2)) sv1 A1 x11.2 l1 (isRd_ownx 5) hA1 _ h11) (by decide) rfl (by decide) rfl) rfl rfl rfl (eq_t c9) rfl rfl ?_
              rintro _ _ ⟨rfl, rfl⟩
              refine ent_value (ov_pick rfl rfl rfl (pick_t (eq_t c9))) rfl rfl rfl ?_
              refine ent_value (ov_move rfl) rfl rfl rfl ?_
              by_cases c10 : x12 = true
              · rw [if_pos c10] at H
                obtain ⟨x13, h12, H⟩ := Option.bind_eq_some_iff.1 H
                refine ent_op_on (ot_call0 (first := []) (cap := []) (xs := []) rfl rfl F_call_26 rfl (ossuarylaw09_alive.spec K _ h12)) rfl rfl rfl c10 rfl rfl ?_
                rintro _ _ ⟨rfl, rfl⟩
                refine ent_value (ov_pick rfl rfl rfl (pick_t c10)) rfl rfl rfl ?_
                refine ent_value (ov_assign rfl) rfl rfl rfl ?_
                refine ent_nil ?_
                refine ent_retc ?_
                cases H
                refine ent_pick [3, 2] (by decide) rfl ?_
                exact ret_tmp rfl rfl ⟨rfl, rfl⟩
              · rw [if_neg c10] at H
                refine ent_off rfl rfl rfl (Bool.eq_false_iff.2 c10) rfl rfl ?_
                refine ent_value (ov_pick rfl rfl rfl (pick_f (Bool.eq_false_iff.2 c10))) rfl rfl rfl ?_
                refine ent_value (ov_assign rfl) rfl rfl rfl ?_
                refine ent_nil ?_
                refine ent_retc ?_
                cases H
                refine ent_pick [3, 2] (by decide) rfl ?_
                exact ret_tmp rfl rfl ⟨rfl, rfl⟩
            · rw [if_neg c9] at H
              refine ent_off rfl rfl rfl (eq_f c9) rfl rfl ?_
              refine ent_off rfl rfl rfl (eq_f c9) rfl rfl ?_
              refine ent_off rfl rfl rfl (eq_f c9) rfl rfl ?_
              refine ent_value (ov_pick rfl rfl rfl (pick_f (eq_f c9))) rfl rfl rfl ?_
              refine ent_value (ov_move rfl) rfl rfl rfl ?_
              refine ent_off rfl rfl rfl rfl rfl rfl ?_
              refine ent_value (ov_pick rfl rfl rfl rfl) rfl rfl rfl ?_
              refine ent_value (ov_assign rfl) rfl rfl rfl ?_
              refine ent_nil ?_
              refine ent_retc ?_
              cases H
              refine ent_pick [3, 2] (by decide) rfl ?_
              exact ret_tmp rfl rfl ⟨rfl, rfl⟩

end Go.Proofs.Ytmhhjhckbiaidaa.FactBack
