/- Printed by gen.py: that the machine's calls do what the plain functions of StatShares say. -/
import Derived.Test.YthdggcleffadeaaStatSharesWalk0
import Derived.Test.YthdggcleffadeaaProg
import Derived.Test.YthdggcleffadeaaEConv
import Derived.Test.YthdggcleffadeaaStatSharesPure
set_option linter.unusedVariables false
set_option linter.unusedSimpArgs false
set_option maxHeartbeats 400000
namespace Go.Proofs.Ythdggcleffadeaa.StatShares
open Go Go.RowKit E

set_option maxRecDepth 100000 in
theorem pile_Pile__int64_Push_2.spec (K : Nat) (p0 : Nat) (sv0 : Value) (l0 : List Pile_item__int64) (p0_2 : Int) (a1 : Int) (r : ((List Pile_item__int64) × Int)) (H : pile_Pile__int64_Push_2 K l0 p0_2 a1 = some r) : FnSpec Try.prog 126 [(pt p0 0), (Value.int .i64 a1)] [(box p0 229 [(Value.func (.func 69) #[] #[]), sv0, (Value.int .i64 p0_2)]), (own sv0 231 2 l0.length (fl enc_Pile_item__int64 l0))] (fun v M => ∃ sv2 : Value, v = (Value.tuple #[]) ∧ M = [(box p0 229 [(Value.func (.func 69) #[] #[]), sv2, (Value.int .i64 r.2)]), (own sv2 231 2 r.1.length (fl enc_Pile_item__int64 r.1))]) := by
  unfold pile_Pile__int64_Push_2 at H
  refine spec_of Try.func126 rfl 43 rfl (Nat.le_of_ble_eq_true rfl) fun F w0 => ?_
  show Ent (St 43 w0 F [(0, (pt p0 0)), (1, (Value.int .i64 a1))] [(box p0 229 [(Value.func (.func 69) #[] #[]), sv0, (Value.int .i64 p0_2)]), (own sv0 231 2 l0.length (fl enc_Pile_item__int64 l0))]) _
  refine ent_seq ?_
  refine ent_seq ?_
  refine ent_region ?_
  refine ent_value (ov_move rfl) rfl rfl rfl ?_
  refine ent_value (ov_bin rfl rfl (b_eql_of (fun w => rfl) rfl (eq_pn Try.underlying180 _ _))) rfl rfl rfl ?_
  refine ent_value (ov_move rfl) rfl rfl rfl ?_
  refine ent_value_on (ov_move rfl) rfl rfl rfl rfl rfl rfl ?_
  refine ent_value_on (ov_nilCheck rfl) rfl rfl rfl rfl rfl rfl ?_
  refine ent_value_on (ov_fieldAddr (sz := 0) (o := 0) rfl F_field_229_0 F_size_98) rfl rfl rfl rfl rfl rfl ?_
  refine ent_value_on (ov_load (v := (Value.func (.func 69) #[] #[])) rfl F_agg_98 (reads_box1 (i := 0) rfl rfl)) rfl rfl rfl rfl rfl rfl ?_
  refine ent_value_on (ov_bin rfl rfl (b_eql_of (fun w => rfl) rfl (eq_fn Try.underlying98))) rfl rfl rfl rfl rfl rfl ?_
  refine ent_value (ov_pick rfl rfl rfl rfl) rfl rfl rfl ?_
  refine ent_nil ?_
  refine ent_cond_false rfl rfl ?_
  refine ent_skip ?_
  refine ent_seq ?_
  by_cases c2 : (l0.length + [(⟨a1, p0_2⟩ : Pile_item__int64)].length) * 16 ≤ 140737488355328
  · rw [if_pos c2] at H
    refine ent_drawm 16 rfl (fun done a w => ∃ ga2 : Nat → Value, StD 43 w0 F [(0, (pt p0 0)), (1, (Value.int .i64 a1)), (4, (pt p0 0)), (5, (Value.bool false)), (6, (Value.bool false)), (7, (pt p0 0)), (8, (pt p0 0)), (9, (pt p0 0)), (10, (Value.func (.func 69) #[] #[])), (11, (Value.bool false)), (12, (Value.bool false))] [(0, 13, (pt p0 0)), (1, 14, (pt p0 0)), (2, 15, (pt p0 0)), (3, 16, (pt p0 1)), (4, 17, sv0), (5, 18, (Value.int .i64 a1)), (6, 19, (pt p0 0)), (7, 20, (pt p0 0)), (8, 21, (pt p0 2)), (9, 22, (Value.int .i64 p0_2)), (10, 23, (Value.agg #[(Value.int .i64 a1), (Value.int .i64 p0_2)])), (11, 24, (ga2 11)), (12, 25, (ga2 12)), (13, 26, (pt p0 0)), (14, 27, (pt p0 1))] done [(sel (done 11) (own (ga2 11) 231 2 [(⟨a1, p0_2⟩ : Pile_item__int64)].length (fl enc_Pile_item__int64 [(⟨a1, p0_2⟩ : Pile_item__int64)])) emp), (sel (done 15) (box p0 229 [(Value.func (.func 69) #[] #[]), (ga2 12), (Value.int .i64 p0_2)]) (box p0 229 [(Value.func (.func 69) #[] #[]), sv0, (Value.int .i64 p0_2)])), (sel (done 12) (own (ga2 12) 231 2 (l0 ++ [(⟨a1, p0_2⟩ : Pile_item__int64)]).length (fl enc_Pile_item__int64 (l0 ++ [(⟨a1, p0_2⟩ : Pile_item__int64)]))) (own sv0 231 2 l0.length (fl enc_Pile_item__int64 l0)))] a w) (by kernel_rfl) (by kernel_rfl) (draw_startG (T := (fun ga2 : Nat → Value => [(0, 13, (pt p0 0)), (1, 14, (pt p0 0)), (2, 15, (pt p0 0)), (3, 16, (pt p0 1)), (4, 17, sv0), (5, 18, (Value.int .i64 a1)), (6, 19, (pt p0 0)), (7, 20, (pt p0 0)), (8, 21, (pt p0 2)), (9, 22, (Value.int .i64 p0_2)), (10, 23, (Value.agg #[(Value.int .i64 a1), (Value.int .i64 p0_2)])), (11, 24, (ga2 11)), (12, 25, (ga2 12)), (13, 26, (pt p0 0)), (14, 27, (pt p0 1))])) (L' := fun ga2 : Nat → Value => [(sel false (own (ga2 11) 231 2 [(⟨a1, p0_2⟩ : Pile_item__int64)].length (fl enc_Pile_item__int64 [(⟨a1, p0_2⟩ : Pile_item__int64)])) emp), (sel false (box p0 229 [(Value.func (.func 69) #[] #[]), (ga2 12), (Value.int .i64 p0_2)]) (box p0 229 [(Value.func (.func 69) #[] #[]), sv0, (Value.int .i64 p0_2)])), (sel false (own (ga2 12) 231 2 (l0 ++ [(⟨a1, p0_2⟩ : Pile_item__int64)]).length (fl enc_Pile_item__int64 (l0 ++ [(⟨a1, p0_2⟩ : Pile_item__int64)]))) (own sv0 231 2 l0.length (fl enc_Pile_item__int64 l0)))]) 1 (sub_cons (t := 0) rfl (sub_cons (t := 1) rfl (sub_cons (t := 4) rfl (sub_cons (t := 5) rfl (sub_cons (t := 6) rfl (sub_cons (t := 7) rfl (sub_cons (t := 8) rfl (sub_cons (t := 9) rfl (sub_cons (t := 10) rfl (sub_cons (t := 11) rfl (sub_cons (t := 12) rfl (sub_nil _)))))))))))) (fun _ => rfl)) ?_ ?_
    · refine ⟨?_, ?_, ?_, ?_, ?_, ?_, ?_, ?_, ?_, ?_, ?_, ?_, ?_, ?_, ?_, ?_, trivial⟩
      · intro done hi hc hcu
        refine draw_exi (I := fun (ga2 : Nat → Value) done a w => StD 43 w0 F [(0, (pt p0 0)), (1, (Value.int .i64 a1)), (4, (pt p0 0)), (5, (Value.bool false)), (6, (Value.bool false)), (7, (pt p0 0)), (8, (pt p0 0)), (9, (pt p0 0)), (10, (Value.func (.func 69) #[] #[])), (11, (Value.bool false)), (12, (Value.bool false))] [(0, 13, (pt p0 0)), (1, 14, (pt p0 0)), (2, 15, (pt p0 0)), (3, 16, (pt p0 1)), (4, 17, sv0), (5, 18, (Value.int .i64 a1)), (6, 19, (pt p0 0)), (7, 20, (pt p0 0)), (8, 21, (pt p0 2)), (9, 22, (Value.int .i64 p0_2)), (10, 23, (Value.agg #[(Value.int .i64 a1), (Value.int .i64 p0_2)])), (11, 24, (ga2 11)), (12, 25, (ga2 12)), (13, 26, (pt p0 0)), (14, 27, (pt p0 1))] done [(sel (done 11) (own (ga2 11) 231 2 [(⟨a1, p0_2⟩ : Pile_item__int64)].length (fl enc_Pile_item__int64 [(⟨a1, p0_2⟩ : Pile_item__int64)])) emp), (sel (done 15) (box p0 229 [(Value.func (.func 69) #[] #[]), (ga2 12), (Value.int .i64 p0_2)]) (box p0 229 [(Value.func (.func 69) #[] #[]), sv0, (Value.int .i64 p0_2)])), (sel (done 12) (own (ga2 12) 231 2 (l0 ++ [(⟨a1, p0_2⟩ : Pile_item__int64)]).length (fl enc_Pile_item__int64 (l0 ++ [(⟨a1, p0_2⟩ : Pile_item__int64)]))) (own sv0 231 2 l0.length (fl enc_Pile_item__int64 l0)))] a w) fun ga2 => ?_
        exact draw_value (i := 0) (t := 13) (v := (pt p0 0)) rfl rfl (wanted_none rfl) (fun a => hasA_base) (ov_move rfl) rfl rfl (onlyT_spec (k0 := 0) rfl rfl rfl)
      · intro done hi hc hcu
        refine draw_exi (I := fun (ga2 : Nat → Value) done a w => StD 43 w0 F [(0, (pt p0 0)), (1, (Value.int .i64 a1)), (4, (pt p0 0)), (5, (Value.bool false)), (6, (Value.bool false)), (7, (pt p0 0)), (8, (pt p0 0)), (9, (pt p0 0)), (10, (Value.func (.func 69) #[] #[])), (11, (Value.bool false)), (12, (Value.bool false))] [(0, 13, (pt p0 0)), (1, 14, (pt p0 0)), (2, 15, (pt p0 0)), (3, 16, (pt p0 1)), (4, 17, sv0), (5, 18, (Value.int .i64 a1)), (6, 19, (pt p0 0)), (7, 20, (pt p0 0)), (8, 21, (pt p0 2)), (9, 22, (Value.int .i64 p0_2)), (10, 23, (Value.agg #[(Value.int .i64 a1), (Value.int .i64 p0_2)])), (11, 24, (ga2 11)), (12, 25, (ga2 12)), (13, 26, (pt p0 0)), (14, 27, (pt p0 1))] done [(sel (done 11) (own (ga2 11) 231 2 [(⟨a1, p0_2⟩ : Pile_item__int64)].length (fl enc_Pile_item__int64 [(⟨a1, p0_2⟩ : Pile_item__int64)])) emp), (sel (done 15) (box p0 229 [(Value.func (.func 69) #[] #[]), (ga2 12), (Value.int .i64 p0_2)]) (box p0 229 [(Value.func (.func 69) #[] #[]), sv0, (Value.int .i64 p0_2)])), (sel (done 12) (own (ga2 12) 231 2 (l0 ++ [(⟨a1, p0_2⟩ : Pile_item__int64)]).length (fl enc_Pile_item__int64 (l0 ++ [(⟨a1, p0_2⟩ : Pile_item__int64)]))) (own sv0 231 2 l0.length (fl enc_Pile_item__int64 l0)))] a w) fun ga2 => ?_
        exact draw_value (i := 1) (t := 14) (v := (pt p0 0)) rfl rfl (wanted_none rfl) (fun a => hasA_base) (ov_move rfl) rfl rfl (onlyT_spec (k0 := 1) rfl rfl rfl)
      · intro done hi hc hcu
        refine draw_exi (I := fun (ga2 : Nat → Value) done a w => StD 43 w0 F [(0, (pt p0 0)), (1, (Value.int .i64 a1)), (4, (pt p0 0)), (5, (Value.bool false)), (6, (Value.bool false)), (7, (pt p0 0)), (8, (pt p0 0)), (9, (pt p0 0)), (10, (Value.func (.func 69) #[] #[])), (11, (Value.bool false)), (12, (Value.bool false))] [(0, 13, (pt p0 0)), (1, 14, (pt p0 0)), (2, 15, (pt p0 0)), (3, 16, (pt p0 1)), (4, 17, sv0), (5, 18, (Value.int .i64 a1)), (6, 19, (pt p0 0)), (7, 20, (pt p0 0)), (8, 21, (pt p0 2)), (9, 22, (Value.int .i64 p0_2)), (10, 23, (Value.agg #[(Value.int .i64 a1), (Value.int .i64 p0_2)])), (11, 24, (ga2 11)), (12, 25, (ga2 12)), (13, 26, (pt p0 0)), (14, 27, (pt p0 1))] done [(sel (done 11) (own (ga2 11) 231 2 [(⟨a1, p0_2⟩ : Pile_item__int64)].length (fl enc_Pile_item__int64 [(⟨a1, p0_2⟩ : Pile_item__int64)])) emp), (sel (done 15) (box p0 229 [(Value.func (.func 69) #[] #[]), (ga2 12), (Value.int .i64 p0_2)]) (box p0 229 [(Value.func (.func 69) #[] #[]), sv0, (Value.int .i64 p0_2)])), (sel (done 12) (own (ga2 12) 231 2 (l0 ++ [(⟨a1, p0_2⟩ : Pile_item__int64)]).length (fl enc_Pile_item__int64 (l0 ++ [(⟨a1, p0_2⟩ : Pile_item__int64)]))) (own sv0 231 2 l0.length (fl enc_Pile_item__int64 l0)))] a w) fun ga2 => ?_
        have d1 : done 1 = true := done_of (j := 1) hcu rfl (by decide) rfl
        have n15 : done 15 = false := notdone_of (m := 15) hc hi rfl rfl
        exact draw_value (i := 2) (t := 15) (v := (pt p0 0)) rfl rfl (wanted_none rfl) (fun a => (hasA_cons (k := 1) rfl d1 hasA_base)) (ov_L (L2 := [(sel (done 11) (own (ga2 11) 231 2 [(⟨a1, p0_2⟩ : Pile_item__int64)].length (fl enc_Pile_item__int64 [(⟨a1, p0_2⟩ : Pile_item__int64)])) emp), (box p0 229 [(Value.func (.func 69) #[] #[]), sv0, (Value.int .i64 p0_2)]), (sel (done 12) (own (ga2 12) 231 2 (l0 ++ [(⟨a1, p0_2⟩ : Pile_item__int64)]).length (fl enc_Pile_item__int64 (l0 ++ [(⟨a1, p0_2⟩ : Pile_item__int64)]))) (own sv0 231 2 l0.length (fl enc_Pile_item__int64 l0)))]) (by simp only [n15, sel]) (ov_nilCheck rfl)) rfl rfl (onlyT_spec (k0 := 2) rfl rfl rfl)
      · intro done hi hc hcu
        refine draw_exi (I := fun (ga2 : Nat → Value) done a w => StD 43 w0 F [(0, (pt p0 0)), (1, (Value.int .i64 a1)), (4, (pt p0 0)), (5, (Value.bool false)), (6, (Value.bool false)), (7, (pt p0 0)), (8, (pt p0 0)), (9, (pt p0 0)), (10, (Value.func (.func 69) #[] #[])), (11, (Value.bool false)), (12, (Value.bool false))] [(0, 13, (pt p0 0)), (1, 14, (pt p0 0)), (2, 15, (pt p0 0)), (3, 16, (pt p0 1)), (4, 17, sv0), (5, 18, (Value.int .i64 a1)), (6, 19, (pt p0 0)), (7, 20, (pt p0 0)), (8, 21, (pt p0 2)), (9, 22, (Value.int .i64 p0_2)), (10, 23, (Value.agg #[(Value.int .i64 a1), (Value.int .i64 p0_2)])), (11, 24, (ga2 11)), (12, 25, (ga2 12)), (13, 26, (pt p0 0)), (14, 27, (pt p0 1))] done [(sel (done 11) (own (ga2 11) 231 2 [(⟨a1, p0_2⟩ : Pile_item__int64)].length (fl enc_Pile_item__int64 [(⟨a1, p0_2⟩ : Pile_item__int64)])) emp), (sel (done 15) (box p0 229 [(Value.func (.func 69) #[] #[]), (ga2 12), (Value.int .i64 p0_2)]) (box p0 229 [(Value.func (.func 69) #[] #[]), sv0, (Value.int .i64 p0_2)])), (sel (done 12) (own (ga2 12) 231 2 (l0 ++ [(⟨a1, p0_2⟩ : Pile_item__int64)]).length (fl enc_Pile_item__int64 (l0 ++ [(⟨a1, p0_2⟩ : Pile_item__int64)]))) (own sv0 231 2 l0.length (fl enc_Pile_item__int64 l0)))] a w) fun ga2 => ?_
        have d2 : done 2 = true := done_of (j := 2) hcu rfl (by decide) rfl
        have n15 : done 15 = false := notdone_of (m := 15) hc hi rfl rfl
        exact draw_value (i := 3) (t := 16) (v := (pt p0 1)) rfl rfl (wanted_none rfl) (fun a => (hasA_cons (k := 2) rfl d2 hasA_base)) (ov_L (L2 := [(sel (done 11) (own (ga2 11) 231 2 [(⟨a1, p0_2⟩ : Pile_item__int64)].length (fl enc_Pile_item__int64 [(⟨a1, p0_2⟩ : Pile_item__int64)])) emp), (box p0 229 [(Value.func (.func 69) #[] #[]), sv0, (Value.int .i64 p0_2)]), (sel (done 12) (own (ga2 12) 231 2 (l0 ++ [(⟨a1, p0_2⟩ : Pile_item__int64)]).length (fl enc_Pile_item__int64 (l0 ++ [(⟨a1, p0_2⟩ : Pile_item__int64)]))) (own sv0 231 2 l0.length (fl enc_Pile_item__int64 l0)))]) (by simp only [n15, sel]) (ov_fieldAddr (sz := 0) (o := 0) rfl F_field_229_1 F_size_227)) rfl rfl (onlyT_spec (k0 := 3) rfl rfl rfl)
      · intro done hi hc hcu
        refine draw_exi (I := fun (ga2 : Nat → Value) done a w => StD 43 w0 F [(0, (pt p0 0)), (1, (Value.int .i64 a1)), (4, (pt p0 0)), (5, (Value.bool false)), (6, (Value.bool false)), (7, (pt p0 0)), (8, (pt p0 0)), (9, (pt p0 0)), (10, (Value.func (.func 69) #[] #[])), (11, (Value.bool false)), (12, (Value.bool false))] [(0, 13, (pt p0 0)), (1, 14, (pt p0 0)), (2, 15, (pt p0 0)), (3, 16, (pt p0 1)), (4, 17, sv0), (5, 18, (Value.int .i64 a1)), (6, 19, (pt p0 0)), (7, 20, (pt p0 0)), (8, 21, (pt p0 2)), (9, 22, (Value.int .i64 p0_2)), (10, 23, (Value.agg #[(Value.int .i64 a1), (Value.int .i64 p0_2)])), (11, 24, (ga2 11)), (12, 25, (ga2 12)), (13, 26, (pt p0 0)), (14, 27, (pt p0 1))] done [(sel (done 11) (own (ga2 11) 231 2 [(⟨a1, p0_2⟩ : Pile_item__int64)].length (fl enc_Pile_item__int64 [(⟨a1, p0_2⟩ : Pile_item__int64)])) emp), (sel (done 15) (box p0 229 [(Value.func (.func 69) #[] #[]), (ga2 12), (Value.int .i64 p0_2)]) (box p0 229 [(Value.func (.func 69) #[] #[]), sv0, (Value.int .i64 p0_2)])), (sel (done 12) (own (ga2 12) 231 2 (l0 ++ [(⟨a1, p0_2⟩ : Pile_item__int64)]).length (fl enc_Pile_item__int64 (l0 ++ [(⟨a1, p0_2⟩ : Pile_item__int64)]))) (own sv0 231 2 l0.length (fl enc_Pile_item__int64 l0)))] a w) fun ga2 => ?_
        have d3 : done 3 = true := done_of (j := 3) hcu rfl (by decide) rfl
        have n15 : done 15 = false := notdone_of (m := 15) hc hi rfl rfl
        exact draw_value (i := 4) (t := 17) (v := sv0) rfl rfl (wanted_none rfl) (fun a => (hasA_cons (k := 3) rfl d3 hasA_base)) (ov_L (L2 := [(sel (done 11) (own (ga2 11) 231 2 [(⟨a1, p0_2⟩ : Pile_item__int64)].length (fl enc_Pile_item__int64 [(⟨a1, p0_2⟩ : Pile_item__int64)])) emp), (box p0 229 [(Value.func (.func 69) #[] #[]), sv0, (Value.int .i64 p0_2)]), (sel (done 12) (own (ga2 12) 231 2 (l0 ++ [(⟨a1, p0_2⟩ : Pile_item__int64)]).length (fl enc_Pile_item__int64 (l0 ++ [(⟨a1, p0_2⟩ : Pile_item__int64)]))) (own sv0 231 2 l0.length (fl enc_Pile_item__int64 l0)))]) (by simp only [n15, sel]) (ov_load (v := sv0) rfl F_agg_227 (reads_box1 (i := 1) rfl rfl))) rfl rfl (onlyT_spec (k0 := 4) rfl rfl rfl)
      · intro done hi hc hcu
        refine draw_exi (I := fun (ga2 : Nat → Value) done a w => StD 43 w0 F [(0, (pt p0 0)), (1, (Value.int .i64 a1)), (4, (pt p0 0)), (5, (Value.bool false)), (6, (Value.bool false)), (7, (pt p0 0)), (8, (pt p0 0)), (9, (pt p0 0)), (10, (Value.func (.func 69) #[] #[])), (11, (Value.bool false)), (12, (Value.bool false))] [(0, 13, (pt p0 0)), (1, 14, (pt p0 0)), (2, 15, (pt p0 0)), (3, 16, (pt p0 1)), (4, 17, sv0), (5, 18, (Value.int .i64 a1)), (6, 19, (pt p0 0)), (7, 20, (pt p0 0)), (8, 21, (pt p0 2)), (9, 22, (Value.int .i64 p0_2)), (10, 23, (Value.agg #[(Value.int .i64 a1), (Value.int .i64 p0_2)])), (11, 24, (ga2 11)), (12, 25, (ga2 12)), (13, 26, (pt p0 0)), (14, 27, (pt p0 1))] done [(sel (done 11) (own (ga2 11) 231 2 [(⟨a1, p0_2⟩ : Pile_item__int64)].length (fl enc_Pile_item__int64 [(⟨a1, p0_2⟩ : Pile_item__int64)])) emp), (sel (done 15) (box p0 229 [(Value.func (.func 69) #[] #[]), (ga2 12), (Value.int .i64 p0_2)]) (box p0 229 [(Value.func (.func 69) #[] #[]), sv0, (Value.int .i64 p0_2)])), (sel (done 12) (own (ga2 12) 231 2 (l0 ++ [(⟨a1, p0_2⟩ : Pile_item__int64)]).length (fl enc_Pile_item__int64 (l0 ++ [(⟨a1, p0_2⟩ : Pile_item__int64)]))) (own sv0 231 2 l0.length (fl enc_Pile_item__int64 l0)))] a w) fun ga2 => ?_
        exact draw_value (i := 5) (t := 18) (v := (Value.int .i64 a1)) rfl rfl (wanted_none rfl) (fun a => hasA_base) (ov_move rfl) rfl rfl (onlyT_spec (k0 := 5) rfl rfl rfl)
      · intro done hi hc hcu
        refine draw_exi (I := fun (ga2 : Nat → Value) done a w => StD 43 w0 F [(0, (pt p0 0)), (1, (Value.int .i64 a1)), (4, (pt p0 0)), (5, (Value.bool false)), (6, (Value.bool false)), (7, (pt p0 0)), (8, (pt p0 0)), (9, (pt p0 0)), (10, (Value.func (.func 69) #[] #[])), (11, (Value.bool false)), (12, (Value.bool false))] [(0, 13, (pt p0 0)), (1, 14, (pt p0 0)), (2, 15, (pt p0 0)), (3, 16, (pt p0 1)), (4, 17, sv0), (5, 18, (Value.int .i64 a1)), (6, 19, (pt p0 0)), (7, 20, (pt p0 0)), (8, 21, (pt p0 2)), (9, 22, (Value.int .i64 p0_2)), (10, 23, (Value.agg #[(Value.int .i64 a1), (Value.int .i64 p0_2)])), (11, 24, (ga2 11)), (12, 25, (ga2 12)), (13, 26, (pt p0 0)), (14, 27, (pt p0 1))] done [(sel (done 11) (own (ga2 11) 231 2 [(⟨a1, p0_2⟩ : Pile_item__int64)].length (fl enc_Pile_item__int64 [(⟨a1, p0_2⟩ : Pile_item__int64)])) emp), (sel (done 15) (box p0 229 [(Value.func (.func 69) #[] #[]), (ga2 12), (Value.int .i64 p0_2)]) (box p0 229 [(Value.func (.func 69) #[] #[]), sv0, (Value.int .i64 p0_2)])), (sel (done 12) (own (ga2 12) 231 2 (l0 ++ [(⟨a1, p0_2⟩ : Pile_item__int64)]).length (fl enc_Pile_item__int64 (l0 ++ [(⟨a1, p0_2⟩ : Pile_item__int64)]))) (own sv0 231 2 l0.length (fl enc_Pile_item__int64 l0)))] a w) fun ga2 => ?_
        exact draw_value (i := 6) (t := 19) (v := (pt p0 0)) rfl rfl (wanted_none rfl) (fun a => hasA_base) (ov_move rfl) rfl rfl (onlyT_spec (k0 := 6) rfl rfl rfl)
      · intro done hi hc hcu
        refine draw_exi (I := fun (ga2 : Nat → Value) done a w => StD 43 w0 F [(0, (pt p0 0)), (1, (Value.int .i64 a1)), (4, (pt p0 0)), (5, (Value.bool false)), (6, (Value.bool false)), (7, (pt p0 0)), (8, (pt p0 0)), (9, (pt p0 0)), (10, (Value.func (.func 69) #[] #[])), (11, (Value.bool false)), (12, (Value.bool false))] [(0, 13, (pt p0 0)), (1, 14, (pt p0 0)), (2, 15, (pt p0 0)), (3, 16, (pt p0 1)), (4, 17, sv0), (5, 18, (Value.int .i64 a1)), (6, 19, (pt p0 0)), (7, 20, (pt p0 0)), (8, 21, (pt p0 2)), (9, 22, (Value.int .i64 p0_2)), (10, 23, (Value.agg #[(Value.int .i64 a1), (Value.int .i64 p0_2)])), (11, 24, (ga2 11)), (12, 25, (ga2 12)), (13, 26, (pt p0 0)), (14, 27, (pt p0 1))] done [(sel (done 11) (own (ga2 11) 231 2 [(⟨a1, p0_2⟩ : Pile_item__int64)].length (fl enc_Pile_item__int64 [(⟨a1, p0_2⟩ : Pile_item__int64)])) emp), (sel (done 15) (box p0 229 [(Value.func (.func 69) #[] #[]), (ga2 12), (Value.int .i64 p0_2)]) (box p0 229 [(Value.func (.func 69) #[] #[]), sv0, (Value.int .i64 p0_2)])), (sel (done 12) (own (ga2 12) 231 2 (l0 ++ [(⟨a1, p0_2⟩ : Pile_item__int64)]).length (fl enc_Pile_item__int64 (l0 ++ [(⟨a1, p0_2⟩ : Pile_item__int64)]))) (own sv0 231 2 l0.length (fl enc_Pile_item__int64 l0)))] a w) fun ga2 => ?_
        have d6 : done 6 = true := done_of (j := 6) hcu rfl (by decide) rfl
        have n15 : done 15 = false := notdone_of (m := 15) hc hi rfl rfl
        exact draw_value (i := 7) (t := 20) (v := (pt p0 0)) rfl rfl (wanted_none rfl) (fun a => (hasA_cons (k := 6) rfl d6 hasA_base)) (ov_L (L2 := [(sel (done 11) (own (ga2 11) 231 2 [(⟨a1, p0_2⟩ : Pile_item__int64)].length (fl enc_Pile_item__int64 [(⟨a1, p0_2⟩ : Pile_item__int64)])) emp), (box p0 229 [(Value.func (.func 69) #[] #[]), sv0, (Value.int .i64 p0_2)]), (sel (done 12) (own (ga2 12) 231 2 (l0 ++ [(⟨a1, p0_2⟩ : Pile_item__int64)]).length (fl enc_Pile_item__int64 (l0 ++ [(⟨a1, p0_2⟩ : Pile_item__int64)]))) (own sv0 231 2 l0.length (fl enc_Pile_item__int64 l0)))]) (by simp only [n15, sel]) (ov_nilCheck rfl)) rfl rfl (onlyT_spec (k0 := 7) rfl rfl rfl)
      · intro done hi hc hcu
        refine draw_exi (I := fun (ga2 : Nat → Value) done a w => StD 43 w0 F [(0, (pt p0 0)), (1, (Value.int .i64 a1)), (4, (pt p0 0)), (5, (Value.bool false)), (6, (Value.bool false)), (7, (pt p0 0)), (8, (pt p0 0)), (9, (pt p0 0)), (10, (Value.func (.func 69) #[] #[])), (11, (Value.bool false)), (12, (Value.bool false))] [(0, 13, (pt p0 0)), (1, 14, (pt p0 0)), (2, 15, (pt p0 0)), (3, 16, (pt p0 1)), (4, 17, sv0), (5, 18, (Value.int .i64 a1)), (6, 19, (pt p0 0)), (7, 20, (pt p0 0)), (8, 21, (pt p0 2)), (9, 22, (Value.int .i64 p0_2)), (10, 23, (Value.agg #[(Value.int .i64 a1), (Value.int .i64 p0_2)])), (11, 24, (ga2 11)), (12, 25, (ga2 12)), (13, 26, (pt p0 0)), (14, 27, (pt p0 1))] done [(sel (done 11) (own (ga2 11) 231 2 [(⟨a1, p0_2⟩ : Pile_item__int64)].length (fl enc_Pile_item__int64 [(⟨a1, p0_2⟩ : Pile_item__int64)])) emp), (sel (done 15) (box p0 229 [(Value.func (.func 69) #[] #[]), (ga2 12), (Value.int .i64 p0_2)]) (box p0 229 [(Value.func (.func 69) #[] #[]), sv0, (Value.int .i64 p0_2)])), (sel (done 12) (own (ga2 12) 231 2 (l0 ++ [(⟨a1, p0_2⟩ : Pile_item__int64)]).length (fl enc_Pile_item__int64 (l0 ++ [(⟨a1, p0_2⟩ : Pile_item__int64)]))) (own sv0 231 2 l0.length (fl enc_Pile_item__int64 l0)))] a w) fun ga2 => ?_
        have d7 : done 7 = true := done_of (j := 7) hcu rfl (by decide) rfl
        have n15 : done 15 = false := notdone_of (m := 15) hc hi rfl rfl
        exact draw_value (i := 8) (t := 21) (v := (pt p0 2)) rfl rfl (wanted_none rfl) (fun a => (hasA_cons (k := 7) rfl d7 hasA_base)) (ov_L (L2 := [(sel (done 11) (own (ga2 11) 231 2 [(⟨a1, p0_2⟩ : Pile_item__int64)].length (fl enc_Pile_item__int64 [(⟨a1, p0_2⟩ : Pile_item__int64)])) emp), (box p0 229 [(Value.func (.func 69) #[] #[]), sv0, (Value.int .i64 p0_2)]), (sel (done 12) (own (ga2 12) 231 2 (l0 ++ [(⟨a1, p0_2⟩ : Pile_item__int64)]).length (fl enc_Pile_item__int64 (l0 ++ [(⟨a1, p0_2⟩ : Pile_item__int64)]))) (own sv0 231 2 l0.length (fl enc_Pile_item__int64 l0)))]) (by simp only [n15, sel]) (ov_fieldAddr (sz := 0) (o := 0) rfl F_field_229_2 F_size_3)) rfl rfl (onlyT_spec (k0 := 8) rfl rfl rfl)
      · intro done hi hc hcu
        refine draw_exi (I := fun (ga2 : Nat → Value) done a w => StD 43 w0 F [(0, (pt p0 0)), (1, (Value.int .i64 a1)), (4, (pt p0 0)), (5, (Value.bool false)), (6, (Value.bool false)), (7, (pt p0 0)), (8, (pt p0 0)), (9, (pt p0 0)), (10, (Value.func (.func 69) #[] #[])), (11, (Value.bool false)), (12, (Value.bool false))] [(0, 13, (pt p0 0)), (1, 14, (pt p0 0)), (2, 15, (pt p0 0)), (3, 16, (pt p0 1)), (4, 17, sv0), (5, 18, (Value.int .i64 a1)), (6, 19, (pt p0 0)), (7, 20, (pt p0 0)), (8, 21, (pt p0 2)), (9, 22, (Value.int .i64 p0_2)), (10, 23, (Value.agg #[(Value.int .i64 a1), (Value.int .i64 p0_2)])), (11, 24, (ga2 11)), (12, 25, (ga2 12)), (13, 26, (pt p0 0)), (14, 27, (pt p0 1))] done [(sel (done 11) (own (ga2 11) 231 2 [(⟨a1, p0_2⟩ : Pile_item__int64)].length (fl enc_Pile_item__int64 [(⟨a1, p0_2⟩ : Pile_item__int64)])) emp), (sel (done 15) (box p0 229 [(Value.func (.func 69) #[] #[]), (ga2 12), (Value.int .i64 p0_2)]) (box p0 229 [(Value.func (.func 69) #[] #[]), sv0, (Value.int .i64 p0_2)])), (sel (done 12) (own (ga2 12) 231 2 (l0 ++ [(⟨a1, p0_2⟩ : Pile_item__int64)]).length (fl enc_Pile_item__int64 (l0 ++ [(⟨a1, p0_2⟩ : Pile_item__int64)]))) (own sv0 231 2 l0.length (fl enc_Pile_item__int64 l0)))] a w) fun ga2 => ?_
        have d8 : done 8 = true := done_of (j := 8) hcu rfl (by decide) rfl
        have n15 : done 15 = false := notdone_of (m := 15) hc hi rfl rfl
        exact draw_value (i := 9) (t := 22) (v := (Value.int .i64 p0_2)) rfl rfl (wanted_none rfl) (fun a => (hasA_cons (k := 8) rfl d8 hasA_base)) (ov_L (L2 := [(sel (done 11) (own (ga2 11) 231 2 [(⟨a1, p0_2⟩ : Pile_item__int64)].length (fl enc_Pile_item__int64 [(⟨a1, p0_2⟩ : Pile_item__int64)])) emp), (box p0 229 [(Value.func (.func 69) #[] #[]), sv0, (Value.int .i64 p0_2)]), (sel (done 12) (own (ga2 12) 231 2 (l0 ++ [(⟨a1, p0_2⟩ : Pile_item__int64)]).length (fl enc_Pile_item__int64 (l0 ++ [(⟨a1, p0_2⟩ : Pile_item__int64)]))) (own sv0 231 2 l0.length (fl enc_Pile_item__int64 l0)))]) (by simp only [n15, sel]) (ov_load (v := (Value.int .i64 p0_2)) rfl F_agg_3 (reads_box1 (i := 1) rfl rfl))) rfl rfl (onlyT_spec (k0 := 9) rfl rfl rfl)
      · intro done hi hc hcu
        refine draw_exi (I := fun (ga2 : Nat → Value) done a w => StD 43 w0 F [(0, (pt p0 0)), (1, (Value.int .i64 a1)), (4, (pt p0 0)), (5, (Value.bool false)), (6, (Value.bool false)), (7, (pt p0 0)), (8, (pt p0 0)), (9, (pt p0 0)), (10, (Value.func (.func 69) #[] #[])), (11, (Value.bool false)), (12, (Value.bool false))] [(0, 13, (pt p0 0)), (1, 14, (pt p0 0)), (2, 15, (pt p0 0)), (3, 16, (pt p0 1)), (4, 17, sv0), (5, 18, (Value.int .i64 a1)), (6, 19, (pt p0 0)), (7, 20, (pt p0 0)), (8, 21, (pt p0 2)), (9, 22, (Value.int .i64 p0_2)), (10, 23, (Value.agg #[(Value.int .i64 a1), (Value.int .i64 p0_2)])), (11, 24, (ga2 11)), (12, 25, (ga2 12)), (13, 26, (pt p0 0)), (14, 27, (pt p0 1))] done [(sel (done 11) (own (ga2 11) 231 2 [(⟨a1, p0_2⟩ : Pile_item__int64)].length (fl enc_Pile_item__int64 [(⟨a1, p0_2⟩ : Pile_item__int64)])) emp), (sel (done 15) (box p0 229 [(Value.func (.func 69) #[] #[]), (ga2 12), (Value.int .i64 p0_2)]) (box p0 229 [(Value.func (.func 69) #[] #[]), sv0, (Value.int .i64 p0_2)])), (sel (done 12) (own (ga2 12) 231 2 (l0 ++ [(⟨a1, p0_2⟩ : Pile_item__int64)]).length (fl enc_Pile_item__int64 (l0 ++ [(⟨a1, p0_2⟩ : Pile_item__int64)]))) (own sv0 231 2 l0.length (fl enc_Pile_item__int64 l0)))] a w) fun ga2 => ?_
        have d5 : done 5 = true := done_of (j := 5) hcu rfl (by decide) rfl
        have d9 : done 9 = true := done_of (j := 9) hcu rfl (by decide) rfl
        exact draw_value (i := 10) (t := 23) (v := (Value.agg #[(Value.int .i64 a1), (Value.int .i64 p0_2)])) rfl rfl (wanted_none rfl) (fun a => (hasA_cons (k := 9) rfl d9 (hasA_cons (k := 5) rfl d5 hasA_base))) (ov_build (is := [0, 1]) (xs := [.tmp 18, .tmp 22]) (vs := [(Value.int .i64 a1), (Value.int .i64 p0_2)]) rfl rfl (build_struct (cs := [(Value.int .i64 a1), (Value.int .i64 p0_2)]) F_zero_231 F_places_231 rfl)) rfl rfl (onlyT_spec (k0 := 10) rfl rfl rfl)
      · intro done hi hc hcu
        refine ent_exi (S := fun ga2 => (fun (ga2 : Nat → Value) done a w => StD 43 w0 F [(0, (pt p0 0)), (1, (Value.int .i64 a1)), (4, (pt p0 0)), (5, (Value.bool false)), (6, (Value.bool false)), (7, (pt p0 0)), (8, (pt p0 0)), (9, (pt p0 0)), (10, (Value.func (.func 69) #[] #[])), (11, (Value.bool false)), (12, (Value.bool false))] [(0, 13, (pt p0 0)), (1, 14, (pt p0 0)), (2, 15, (pt p0 0)), (3, 16, (pt p0 1)), (4, 17, sv0), (5, 18, (Value.int .i64 a1)), (6, 19, (pt p0 0)), (7, 20, (pt p0 0)), (8, 21, (pt p0 2)), (9, 22, (Value.int .i64 p0_2)), (10, 23, (Value.agg #[(Value.int .i64 a1), (Value.int .i64 p0_2)])), (11, 24, (ga2 11)), (12, 25, (ga2 12)), (13, 26, (pt p0 0)), (14, 27, (pt p0 1))] done [(sel (done 11) (own (ga2 11) 231 2 [(⟨a1, p0_2⟩ : Pile_item__int64)].length (fl enc_Pile_item__int64 [(⟨a1, p0_2⟩ : Pile_item__int64)])) emp), (sel (done 15) (box p0 229 [(Value.func (.func 69) #[] #[]), (ga2 12), (Value.int .i64 p0_2)]) (box p0 229 [(Value.func (.func 69) #[] #[]), sv0, (Value.int .i64 p0_2)])), (sel (done 12) (own (ga2 12) 231 2 (l0 ++ [(⟨a1, p0_2⟩ : Pile_item__int64)]).length (fl enc_Pile_item__int64 (l0 ++ [(⟨a1, p0_2⟩ : Pile_item__int64)]))) (own sv0 231 2 l0.length (fl enc_Pile_item__int64 l0)))] a w) ga2 done) fun ga2 => ?_
        have d10 : done 10 = true := done_of (j := 10) hcu rfl (by decide) rfl
        refine draw_newV (i := 11) (t := 24) (x := ga2) (L := (fun (ga2 : Nat → Value) (done : Nat → Bool) => [(sel (done 11) (own (ga2 11) 231 2 [(⟨a1, p0_2⟩ : Pile_item__int64)].length (fl enc_Pile_item__int64 [(⟨a1, p0_2⟩ : Pile_item__int64)])) emp), (sel (done 15) (box p0 229 [(Value.func (.func 69) #[] #[]), (ga2 12), (Value.int .i64 p0_2)]) (box p0 229 [(Value.func (.func 69) #[] #[]), sv0, (Value.int .i64 p0_2)])), (sel (done 12) (own (ga2 12) 231 2 (l0 ++ [(⟨a1, p0_2⟩ : Pile_item__int64)]).length (fl enc_Pile_item__int64 (l0 ++ [(⟨a1, p0_2⟩ : Pile_item__int64)]))) (own sv0 231 2 l0.length (fl enc_Pile_item__int64 l0)))])) (T := (fun ga2 : Nat → Value => [(0, 13, (pt p0 0)), (1, 14, (pt p0 0)), (2, 15, (pt p0 0)), (3, 16, (pt p0 1)), (4, 17, sv0), (5, 18, (Value.int .i64 a1)), (6, 19, (pt p0 0)), (7, 20, (pt p0 0)), (8, 21, (pt p0 2)), (9, 22, (Value.int .i64 p0_2)), (10, 23, (Value.agg #[(Value.int .i64 a1), (Value.int .i64 p0_2)])), (11, 24, (ga2 11)), (12, 25, (ga2 12)), (13, 26, (pt p0 0)), (14, 27, (pt p0 1))])) (L2 := [emp, (sel (done 15) (box p0 229 [(Value.func (.func 69) #[] #[]), (ga2 12), (Value.int .i64 p0_2)]) (box p0 229 [(Value.func (.func 69) #[] #[]), sv0, (Value.int .i64 p0_2)])), (sel (done 12) (own (ga2 12) 231 2 (l0 ++ [(⟨a1, p0_2⟩ : Pile_item__int64)]).length (fl enc_Pile_item__int64 (l0 ++ [(⟨a1, p0_2⟩ : Pile_item__int64)]))) (own sv0 231 2 l0.length (fl enc_Pile_item__int64 l0)))]) (B := fun v_ => (own v_ 231 2 [(⟨a1, p0_2⟩ : Pile_item__int64)].length (fl enc_Pile_item__int64 [(⟨a1, p0_2⟩ : Pile_item__int64)]))) 0 rfl rfl (wanted_none rfl) (fun a => (hasA_cons (k := 10) rfl d10 hasA_base)) (by simp only [hi, sel]) (ot_buildSlice (sz := 1) (xs := [.tmp 23]) (cs := fl enc_Pile_item__int64 [(⟨a1, p0_2⟩ : Pile_item__int64)]) rfl rfl F_slice_227 F_size_231 F_zero_231 rfl rfl (all_size rfl) rfl (by decide)) ?_ rfl (fun v_ => ?_) rfl rfl ?_
        · rintro _ _ rfl; rfl
        · simp [up, upb, sel, hi]
        · rintro _ _ rfl
          exact (tr_same rfl rfl (tr_same rfl rfl (tr_same rfl rfl (tr_same rfl rfl (tr_same rfl rfl (tr_same rfl rfl (tr_same rfl rfl (tr_same rfl rfl (tr_same rfl rfl (tr_same rfl rfl (tr_same rfl rfl (tr_this (tr_same rfl rfl (tr_same rfl rfl (tr_same rfl rfl tr_nil)))))))))))))))
      · intro done hi hc hcu
        refine ent_exi (S := fun ga2 => (fun (ga2 : Nat → Value) done a w => StD 43 w0 F [(0, (pt p0 0)), (1, (Value.int .i64 a1)), (4, (pt p0 0)), (5, (Value.bool false)), (6, (Value.bool false)), (7, (pt p0 0)), (8, (pt p0 0)), (9, (pt p0 0)), (10, (Value.func (.func 69) #[] #[])), (11, (Value.bool false)), (12, (Value.bool false))] [(0, 13, (pt p0 0)), (1, 14, (pt p0 0)), (2, 15, (pt p0 0)), (3, 16, (pt p0 1)), (4, 17, sv0), (5, 18, (Value.int .i64 a1)), (6, 19, (pt p0 0)), (7, 20, (pt p0 0)), (8, 21, (pt p0 2)), (9, 22, (Value.int .i64 p0_2)), (10, 23, (Value.agg #[(Value.int .i64 a1), (Value.int .i64 p0_2)])), (11, 24, (ga2 11)), (12, 25, (ga2 12)), (13, 26, (pt p0 0)), (14, 27, (pt p0 1))] done [(sel (done 11) (own (ga2 11) 231 2 [(⟨a1, p0_2⟩ : Pile_item__int64)].length (fl enc_Pile_item__int64 [(⟨a1, p0_2⟩ : Pile_item__int64)])) emp), (sel (done 15) (box p0 229 [(Value.func (.func 69) #[] #[]), (ga2 12), (Value.int .i64 p0_2)]) (box p0 229 [(Value.func (.func 69) #[] #[]), sv0, (Value.int .i64 p0_2)])), (sel (done 12) (own (ga2 12) 231 2 (l0 ++ [(⟨a1, p0_2⟩ : Pile_item__int64)]).length (fl enc_Pile_item__int64 (l0 ++ [(⟨a1, p0_2⟩ : Pile_item__int64)]))) (own sv0 231 2 l0.length (fl enc_Pile_item__int64 l0)))] a w) ga2 done) fun ga2 => ?_
        have d4 : done 4 = true := done_of (j := 4) hcu rfl (by decide) rfl
        have d11 : done 11 = true := done_of (j := 11) hcu rfl (by decide) rfl
        have n15 : done 15 = false := notdone_of (m := 15) hc hi rfl rfl
        exact draw_turnI (i := 12) (t := 25) (x := ga2) (L := (fun (ga2 : Nat → Value) (done : Nat → Bool) => [(sel (done 11) (own (ga2 11) 231 2 [(⟨a1, p0_2⟩ : Pile_item__int64)].length (fl enc_Pile_item__int64 [(⟨a1, p0_2⟩ : Pile_item__int64)])) emp), (sel (done 15) (box p0 229 [(Value.func (.func 69) #[] #[]), (ga2 12), (Value.int .i64 p0_2)]) (box p0 229 [(Value.func (.func 69) #[] #[]), sv0, (Value.int .i64 p0_2)])), (sel (done 12) (own (ga2 12) 231 2 (l0 ++ [(⟨a1, p0_2⟩ : Pile_item__int64)]).length (fl enc_Pile_item__int64 (l0 ++ [(⟨a1, p0_2⟩ : Pile_item__int64)]))) (own sv0 231 2 l0.length (fl enc_Pile_item__int64 l0)))])) (T := (fun ga2 : Nat → Value => [(0, 13, (pt p0 0)), (1, 14, (pt p0 0)), (2, 15, (pt p0 0)), (3, 16, (pt p0 1)), (4, 17, sv0), (5, 18, (Value.int .i64 a1)), (6, 19, (pt p0 0)), (7, 20, (pt p0 0)), (8, 21, (pt p0 2)), (9, 22, (Value.int .i64 p0_2)), (10, 23, (Value.agg #[(Value.int .i64 a1), (Value.int .i64 p0_2)])), (11, 24, (ga2 11)), (12, 25, (ga2 12)), (13, 26, (pt p0 0)), (14, 27, (pt p0 1))])) (L2 := [(own (ga2 11) 231 2 [(⟨a1, p0_2⟩ : Pile_item__int64)].length (fl enc_Pile_item__int64 [(⟨a1, p0_2⟩ : Pile_item__int64)])), (box p0 229 [(Value.func (.func 69) #[] #[]), sv0, (Value.int .i64 p0_2)]), (own sv0 231 2 l0.length (fl enc_Pile_item__int64 l0))]) rfl rfl (wanted_none rfl) (fun a => (hasA_cons (k := 11) rfl d11 (hasA_cons (k := 4) rfl d4 hasA_base))) (by simp only [d11, n15, hi, sel]) (ot_appendx (sz := 1) (xs := l0) (ys := [(⟨a1, p0_2⟩ : Pile_item__int64)]) 2 0 rfl rfl F_slice_227 F_size_231 F_zero_231 rfl F_bytes_231 rfl rfl rfl (isRd_ownx 231) rfl enc_Pile_item__int64_one c2) rfl rfl fun v_ M_ hM_ => ⟨upb ga2 12 v_, hM_.trans (show [(own (ga2 11) 231 2 [(⟨a1, p0_2⟩ : Pile_item__int64)].length (fl enc_Pile_item__int64 [(⟨a1, p0_2⟩ : Pile_item__int64)])), (box p0 229 [(Value.func (.func 69) #[] #[]), sv0, (Value.int .i64 p0_2)]), (own v_ 231 2 (l0 ++ [(⟨a1, p0_2⟩ : Pile_item__int64)]).length (fl enc_Pile_item__int64 (l0 ++ [(⟨a1, p0_2⟩ : Pile_item__int64)])))] = _ by simp [up, upb, sel, d11, n15, n15, hi]), (tr_same rfl rfl (tr_same rfl rfl (tr_same rfl rfl (tr_same rfl rfl (tr_same rfl rfl (tr_same rfl rfl (tr_same rfl rfl (tr_same rfl rfl (tr_same rfl rfl (tr_same rfl rfl (tr_same rfl rfl (tr_same rfl rfl (tr_this (tr_same rfl rfl (tr_same rfl rfl tr_nil)))))))))))))))⟩
      · intro done hi hc hcu
        refine draw_exi (I := fun (ga2 : Nat → Value) done a w => StD 43 w0 F [(0, (pt p0 0)), (1, (Value.int .i64 a1)), (4, (pt p0 0)), (5, (Value.bool false)), (6, (Value.bool false)), (7, (pt p0 0)), (8, (pt p0 0)), (9, (pt p0 0)), (10, (Value.func (.func 69) #[] #[])), (11, (Value.bool false)), (12, (Value.bool false))] [(0, 13, (pt p0 0)), (1, 14, (pt p0 0)), (2, 15, (pt p0 0)), (3, 16, (pt p0 1)), (4, 17, sv0), (5, 18, (Value.int .i64 a1)), (6, 19, (pt p0 0)), (7, 20, (pt p0 0)), (8, 21, (pt p0 2)), (9, 22, (Value.int .i64 p0_2)), (10, 23, (Value.agg #[(Value.int .i64 a1), (Value.int .i64 p0_2)])), (11, 24, (ga2 11)), (12, 25, (ga2 12)), (13, 26, (pt p0 0)), (14, 27, (pt p0 1))] done [(sel (done 11) (own (ga2 11) 231 2 [(⟨a1, p0_2⟩ : Pile_item__int64)].length (fl enc_Pile_item__int64 [(⟨a1, p0_2⟩ : Pile_item__int64)])) emp), (sel (done 15) (box p0 229 [(Value.func (.func 69) #[] #[]), (ga2 12), (Value.int .i64 p0_2)]) (box p0 229 [(Value.func (.func 69) #[] #[]), sv0, (Value.int .i64 p0_2)])), (sel (done 12) (own (ga2 12) 231 2 (l0 ++ [(⟨a1, p0_2⟩ : Pile_item__int64)]).length (fl enc_Pile_item__int64 (l0 ++ [(⟨a1, p0_2⟩ : Pile_item__int64)]))) (own sv0 231 2 l0.length (fl enc_Pile_item__int64 l0)))] a w) fun ga2 => ?_
        have d0 : done 0 = true := done_of (j := 0) hcu rfl (by decide) rfl
        have n14 : done 14 = false := notdone_of (m := 14) hc hi rfl rfl
        have n15 : done 15 = false := notdone_of (m := 15) hc n14 rfl rfl
        exact draw_value (i := 13) (t := 26) (v := (pt p0 0)) rfl rfl (wanted_none rfl) (fun a => (hasA_cons (k := 0) rfl d0 hasA_base)) (ov_L (L2 := [(sel (done 11) (own (ga2 11) 231 2 [(⟨a1, p0_2⟩ : Pile_item__int64)].length (fl enc_Pile_item__int64 [(⟨a1, p0_2⟩ : Pile_item__int64)])) emp), (box p0 229 [(Value.func (.func 69) #[] #[]), sv0, (Value.int .i64 p0_2)]), (sel (done 12) (own (ga2 12) 231 2 (l0 ++ [(⟨a1, p0_2⟩ : Pile_item__int64)]).length (fl enc_Pile_item__int64 (l0 ++ [(⟨a1, p0_2⟩ : Pile_item__int64)]))) (own sv0 231 2 l0.length (fl enc_Pile_item__int64 l0)))]) (by simp only [n15, sel]) (ov_nilCheck rfl)) rfl rfl (onlyT_spec (k0 := 13) rfl rfl rfl)
      · intro done hi hc hcu
        refine draw_exi (I := fun (ga2 : Nat → Value) done a w => StD 43 w0 F [(0, (pt p0 0)), (1, (Value.int .i64 a1)), (4, (pt p0 0)), (5, (Value.bool false)), (6, (Value.bool false)), (7, (pt p0 0)), (8, (pt p0 0)), (9, (pt p0 0)), (10, (Value.func (.func 69) #[] #[])), (11, (Value.bool false)), (12, (Value.bool false))] [(0, 13, (pt p0 0)), (1, 14, (pt p0 0)), (2, 15, (pt p0 0)), (3, 16, (pt p0 1)), (4, 17, sv0), (5, 18, (Value.int .i64 a1)), (6, 19, (pt p0 0)), (7, 20, (pt p0 0)), (8, 21, (pt p0 2)), (9, 22, (Value.int .i64 p0_2)), (10, 23, (Value.agg #[(Value.int .i64 a1), (Value.int .i64 p0_2)])), (11, 24, (ga2 11)), (12, 25, (ga2 12)), (13, 26, (pt p0 0)), (14, 27, (pt p0 1))] done [(sel (done 11) (own (ga2 11) 231 2 [(⟨a1, p0_2⟩ : Pile_item__int64)].length (fl enc_Pile_item__int64 [(⟨a1, p0_2⟩ : Pile_item__int64)])) emp), (sel (done 15) (box p0 229 [(Value.func (.func 69) #[] #[]), (ga2 12), (Value.int .i64 p0_2)]) (box p0 229 [(Value.func (.func 69) #[] #[]), sv0, (Value.int .i64 p0_2)])), (sel (done 12) (own (ga2 12) 231 2 (l0 ++ [(⟨a1, p0_2⟩ : Pile_item__int64)]).length (fl enc_Pile_item__int64 (l0 ++ [(⟨a1, p0_2⟩ : Pile_item__int64)]))) (own sv0 231 2 l0.length (fl enc_Pile_item__int64 l0)))] a w) fun ga2 => ?_
        have d13 : done 13 = true := done_of (j := 13) hcu rfl (by decide) rfl
        have n15 : done 15 = false := notdone_of (m := 15) hc hi rfl rfl
        exact draw_value (i := 14) (t := 27) (v := (pt p0 1)) rfl rfl (wanted_none rfl) (fun a => (hasA_cons (k := 13) rfl d13 hasA_base)) (ov_L (L2 := [(sel (done 11) (own (ga2 11) 231 2 [(⟨a1, p0_2⟩ : Pile_item__int64)].length (fl enc_Pile_item__int64 [(⟨a1, p0_2⟩ : Pile_item__int64)])) emp), (box p0 229 [(Value.func (.func 69) #[] #[]), sv0, (Value.int .i64 p0_2)]), (sel (done 12) (own (ga2 12) 231 2 (l0 ++ [(⟨a1, p0_2⟩ : Pile_item__int64)]).length (fl enc_Pile_item__int64 (l0 ++ [(⟨a1, p0_2⟩ : Pile_item__int64)]))) (own sv0 231 2 l0.length (fl enc_Pile_item__int64 l0)))]) (by simp only [n15, sel]) (ov_fieldAddr (sz := 0) (o := 0) rfl F_field_229_1 F_size_227)) rfl rfl (onlyT_spec (k0 := 14) rfl rfl rfl)
      · intro done hi hc hcu
        refine draw_exi (I := fun (ga2 : Nat → Value) done a w => StD 43 w0 F [(0, (pt p0 0)), (1, (Value.int .i64 a1)), (4, (pt p0 0)), (5, (Value.bool false)), (6, (Value.bool false)), (7, (pt p0 0)), (8, (pt p0 0)), (9, (pt p0 0)), (10, (Value.func (.func 69) #[] #[])), (11, (Value.bool false)), (12, (Value.bool false))] [(0, 13, (pt p0 0)), (1, 14, (pt p0 0)), (2, 15, (pt p0 0)), (3, 16, (pt p0 1)), (4, 17, sv0), (5, 18, (Value.int .i64 a1)), (6, 19, (pt p0 0)), (7, 20, (pt p0 0)), (8, 21, (pt p0 2)), (9, 22, (Value.int .i64 p0_2)), (10, 23, (Value.agg #[(Value.int .i64 a1), (Value.int .i64 p0_2)])), (11, 24, (ga2 11)), (12, 25, (ga2 12)), (13, 26, (pt p0 0)), (14, 27, (pt p0 1))] done [(sel (done 11) (own (ga2 11) 231 2 [(⟨a1, p0_2⟩ : Pile_item__int64)].length (fl enc_Pile_item__int64 [(⟨a1, p0_2⟩ : Pile_item__int64)])) emp), (sel (done 15) (box p0 229 [(Value.func (.func 69) #[] #[]), (ga2 12), (Value.int .i64 p0_2)]) (box p0 229 [(Value.func (.func 69) #[] #[]), sv0, (Value.int .i64 p0_2)])), (sel (done 12) (own (ga2 12) 231 2 (l0 ++ [(⟨a1, p0_2⟩ : Pile_item__int64)]).length (fl enc_Pile_item__int64 (l0 ++ [(⟨a1, p0_2⟩ : Pile_item__int64)]))) (own sv0 231 2 l0.length (fl enc_Pile_item__int64 l0)))] a w) fun ga2 => ?_
        have d14 : done 14 = true := done_of (j := 14) hcu rfl (by decide) rfl
        have d12 : done 12 = true := done_of (j := 12) hcu rfl (by decide) rfl
        exact draw_store (i := 15) (L2 := [(sel (done 11) (own (ga2 11) 231 2 [(⟨a1, p0_2⟩ : Pile_item__int64)].length (fl enc_Pile_item__int64 [(⟨a1, p0_2⟩ : Pile_item__int64)])) emp), (box p0 229 [(Value.func (.func 69) #[] #[]), sv0, (Value.int .i64 p0_2)]), (own (ga2 12) 231 2 (l0 ++ [(⟨a1, p0_2⟩ : Pile_item__int64)]).length (fl enc_Pile_item__int64 (l0 ++ [(⟨a1, p0_2⟩ : Pile_item__int64)])))]) (L3 := [(sel (done 11) (own (ga2 11) 231 2 [(⟨a1, p0_2⟩ : Pile_item__int64)].length (fl enc_Pile_item__int64 [(⟨a1, p0_2⟩ : Pile_item__int64)])) emp), (box p0 229 [(Value.func (.func 69) #[] #[]), (ga2 12), (Value.int .i64 p0_2)]), (own (ga2 12) 231 2 (l0 ++ [(⟨a1, p0_2⟩ : Pile_item__int64)]).length (fl enc_Pile_item__int64 (l0 ++ [(⟨a1, p0_2⟩ : Pile_item__int64)])))]) rfl rfl (wanted_none rfl) (fun a => (hasA_cons (k := 12) rfl d12 (hasA_cons (k := 14) rfl d14 hasA_base))) (by simp only [d12, hi, sel]) (by simp [up, d12, sel]) (ot_storeS (cs := [(Value.func (.func 69) #[] #[]), sv0, (Value.int .i64 p0_2)]) (cs' := [(Value.func (.func 69) #[] #[]), (ga2 12), (Value.int .i64 p0_2)]) (sv := (ga2 12)) (L' := [(sel (done 11) (own (ga2 11) 231 2 [(⟨a1, p0_2⟩ : Pile_item__int64)].length (fl enc_Pile_item__int64 [(⟨a1, p0_2⟩ : Pile_item__int64)])) emp), (box p0 229 [(Value.func (.func 69) #[] #[]), (ga2 12), (Value.int .i64 p0_2)]), (own (ga2 12) 231 2 (l0 ++ [(⟨a1, p0_2⟩ : Pile_item__int64)]).length (fl enc_Pile_item__int64 (l0 ++ [(⟨a1, p0_2⟩ : Pile_item__int64)])))]) 1 2 rfl rfl F_size_227 rfl rfl (isRd_ownx 231) rfl (by simp) rfl) (offT_spec rfl)
    · intro done hall
      refine ent_exi (S := fun ga2 => (fun (ga2 : Nat → Value) done a w => StD 43 w0 F [(0, (pt p0 0)), (1, (Value.int .i64 a1)), (4, (pt p0 0)), (5, (Value.bool false)), (6, (Value.bool false)), (7, (pt p0 0)), (8, (pt p0 0)), (9, (pt p0 0)), (10, (Value.func (.func 69) #[] #[])), (11, (Value.bool false)), (12, (Value.bool false))] [(0, 13, (pt p0 0)), (1, 14, (pt p0 0)), (2, 15, (pt p0 0)), (3, 16, (pt p0 1)), (4, 17, sv0), (5, 18, (Value.int .i64 a1)), (6, 19, (pt p0 0)), (7, 20, (pt p0 0)), (8, 21, (pt p0 2)), (9, 22, (Value.int .i64 p0_2)), (10, 23, (Value.agg #[(Value.int .i64 a1), (Value.int .i64 p0_2)])), (11, 24, (ga2 11)), (12, 25, (ga2 12)), (13, 26, (pt p0 0)), (14, 27, (pt p0 1))] done [(sel (done 11) (own (ga2 11) 231 2 [(⟨a1, p0_2⟩ : Pile_item__int64)].length (fl enc_Pile_item__int64 [(⟨a1, p0_2⟩ : Pile_item__int64)])) emp), (sel (done 15) (box p0 229 [(Value.func (.func 69) #[] #[]), (ga2 12), (Value.int .i64 p0_2)]) (box p0 229 [(Value.func (.func 69) #[] #[]), sv0, (Value.int .i64 p0_2)])), (sel (done 12) (own (ga2 12) 231 2 (l0 ++ [(⟨a1, p0_2⟩ : Pile_item__int64)]).length (fl enc_Pile_item__int64 (l0 ++ [(⟨a1, p0_2⟩ : Pile_item__int64)]))) (own sv0 231 2 l0.length (fl enc_Pile_item__int64 l0)))] a w) ga2 done) fun ga2 => ?_
      refine draw_endL [(own (ga2 11) 231 2 [(⟨a1, p0_2⟩ : Pile_item__int64)].length (fl enc_Pile_item__int64 [(⟨a1, p0_2⟩ : Pile_item__int64)])), (box p0 229 [(Value.func (.func 69) #[] #[]), (ga2 12), (Value.int .i64 p0_2)]), (own (ga2 12) 231 2 (l0 ++ [(⟨a1, p0_2⟩ : Pile_item__int64)]).length (fl enc_Pile_item__int64 (l0 ++ [(⟨a1, p0_2⟩ : Pile_item__int64)])))] (by simp only [hall 11 (by decide), hall 12 (by decide), hall 15 (by decide), sel]) (fun a => (hasA_cons (k := 0) rfl (hall 0 (by decide)) (hasA_cons (k := 1) rfl (hall 1 (by decide)) (hasA_cons (k := 2) rfl (hall 2 (by decide)) (hasA_cons (k := 3) rfl (hall 3 (by decide)) (hasA_cons (k := 4) rfl (hall 4 (by decide)) (hasA_cons (k := 5) rfl (hall 5 (by decide)) (hasA_cons (k := 6) rfl (hall 6 (by decide)) (hasA_cons (k := 7) rfl (hall 7 (by decide)) (hasA_cons (k := 8) rfl (hall 8 (by decide)) (hasA_cons (k := 9) rfl (hall 9 (by decide)) (hasA_cons (k := 10) rfl (hall 10 (by decide)) (hasA_cons (k := 11) rfl (hall 11 (by decide)) (hasA_cons (k := 12) rfl (hall 12 (by decide)) (hasA_cons (k := 13) rfl (hall 13 (by decide)) (hasA_cons (k := 14) rfl (hall 14 (by decide)) hasA_base)))))))))))))))) ?_
      refine ent_seq ?_
      refine ent_region ?_
      refine ent_value (ov_move rfl) rfl rfl rfl ?_
      refine ent_value (ov_nilCheck rfl) rfl rfl rfl ?_
      refine ent_value (ov_fieldAddr (sz := 0) (o := 0) rfl F_field_229_2 F_size_3) rfl rfl rfl ?_
      refine ent_value (ov_load (v := (Value.int .i64 p0_2)) rfl F_agg_3 (reads_box1 (i := 1) rfl rfl)) rfl rfl rfl ?_
      refine ent_value (ov_bin rfl rfl (b_add _ _ _) ) rfl rfl rfl ?_
      refine ent_value (ov_nilCheck rfl) rfl rfl rfl ?_
      refine ent_value (ov_fieldAddr (sz := 0) (o := 0) rfl F_field_229_2 F_size_3) rfl rfl rfl ?_
      refine ent_op0 (ot_storeG (cs := [(Value.func (.func 69) #[] #[]), (ga2 12), (Value.int .i64 p0_2)]) (cs' := [(Value.func (.func 69) #[] #[]), (ga2 12), (Value.int .i64 (w64 (p0_2 + 1)))]) (us := [(Value.int .i64 (w64 (p0_2 + 1)))]) (L' := [(own (ga2 11) 231 2 [(⟨a1, p0_2⟩ : Pile_item__int64)].length (fl enc_Pile_item__int64 [(⟨a1, p0_2⟩ : Pile_item__int64)])), (box p0 229 [(Value.func (.func 69) #[] #[]), (ga2 12), (Value.int .i64 (w64 (p0_2 + 1)))]), (own (ga2 12) 231 2 (l0 ++ [(⟨a1, p0_2⟩ : Pile_item__int64)]).length (fl enc_Pile_item__int64 (l0 ++ [(⟨a1, p0_2⟩ : Pile_item__int64)])))]) 1 rfl rfl rfl (one_all rfl) F_size_3 rfl rfl (by simp) rfl) rfl rfl ?_
      rintro _ _ rfl
      refine ent_nil ?_
      refine ent_region ?_
      refine ent_value (ov_move rfl) rfl rfl rfl ?_
      refine ent_value (ov_move rfl) rfl rfl rfl ?_
      refine ent_value (ov_nilCheck rfl) rfl rfl rfl ?_
      refine ent_value (ov_fieldAddr (sz := 0) (o := 0) rfl F_field_229_1 F_size_227) rfl rfl rfl ?_
      refine ent_value (ov_load (v := (ga2 12)) rfl F_agg_227 (reads_box1 (i := 1) rfl rfl)) rfl rfl rfl ?_
      refine ent_value (ov_len 2 rfl F_slice_227 rfl (isRd_ownx 231)) rfl rfl rfl ?_
      refine ent_value (ov_bin rfl rfl (b_sub _ _ _) ) rfl rfl rfl ?_
      obtain ⟨x2, h2, H⟩ := Option.bind_eq_some_iff.1 H
      refine ent_pick [1, 2, 0] (by decide) rfl ?_
      refine ent_op (ot_call (Lr := [(own (ga2 11) 231 2 [(⟨a1, p0_2⟩ : Pile_item__int64)].length (fl enc_Pile_item__int64 [(⟨a1, p0_2⟩ : Pile_item__int64)]))]) (first := []) (cap := []) (xs := [.tmp 35, .tmp 41]) rfl rfl F_call_162 rfl (pile_Pile__int64_up.spec K p0 (ga2 12) (l0 ++ [(⟨a1, p0_2⟩ : Pile_item__int64)]) (w64 (p0_2 + 1)) (w64 (((l0 ++ [(⟨a1, p0_2⟩ : Pile_item__int64)]).length : Int) - 1)) _ h2) rfl) rfl rfl rfl ?_
      rintro _ _ ⟨_, ⟨rfl, rfl⟩, rfl⟩
      refine ent_nil ?_
      cases H
      refine ret_normal ?_
      refine ent_pick [0, 1] (by decide) rfl ?_
      exact ret_none rfl ⟨_, rfl, rfl⟩
  · rw [if_neg c2] at H
    cases H

set_option maxRecDepth 100000 in
theorem pile_Pile__int64_Len.spec (p0 : Nat) (sv0 : Value) (l0 : List Pile_item__int64) (p0_2 : Int) (r : Int) (H : pile_Pile__int64_Len l0 p0_2 = r) : FnSpec Try.prog 223 [(pt p0 0)] [(box p0 229 [(Value.func (.func 69) #[] #[]), sv0, (Value.int .i64 p0_2)]), (own sv0 231 2 l0.length (fl enc_Pile_item__int64 l0))] (fun v M => v = (Value.int .i64 r) ∧ M = [(box p0 229 [(Value.func (.func 69) #[] #[]), sv0, (Value.int .i64 p0_2)]), (own sv0 231 2 l0.length (fl enc_Pile_item__int64 l0))]) := by
  unfold pile_Pile__int64_Len at H
  refine spec_of Try.func223 rfl 10 rfl (Nat.le_of_ble_eq_true rfl) fun F w0 => ?_
  show Ent (St 10 w0 F [(0, (pt p0 0))] [(box p0 229 [(Value.func (.func 69) #[] #[]), sv0, (Value.int .i64 p0_2)]), (own sv0 231 2 l0.length (fl enc_Pile_item__int64 l0))]) _
  refine ent_seq ?_
  refine ent_region ?_
  refine ent_value (ov_assign rfl) rfl rfl rfl ?_
  refine ent_nil ?_
  refine ent_seq ?_
  refine ent_seq ?_
  refine ent_region ?_
  refine ent_value (ov_move rfl) rfl rfl rfl ?_
  refine ent_value (ov_bin rfl rfl (b_eql_of (fun w => rfl) rfl (eq_pn Try.underlying180 _ _))) rfl rfl rfl ?_
  refine ent_nil ?_
  refine ent_cond_false rfl rfl ?_
  refine ent_skip ?_
  refine ent_seq ?_
  refine ent_region ?_
  refine ent_value (ov_move rfl) rfl rfl rfl ?_
  refine ent_value (ov_nilCheck rfl) rfl rfl rfl ?_
  refine ent_value (ov_fieldAddr (sz := 0) (o := 0) rfl F_field_229_1 F_size_227) rfl rfl rfl ?_
  refine ent_value (ov_load (v := sv0) rfl F_agg_227 (reads_box1 (i := 0) rfl rfl)) rfl rfl rfl ?_
  refine ent_value (ov_len 1 rfl F_slice_227 rfl (isRd_ownx 231)) rfl rfl rfl ?_
  refine ent_value (ov_assign rfl) rfl rfl rfl ?_
  refine ent_nil ?_
  refine ent_retc ?_
  cases H
  exact ret_tmp rfl rfl ⟨rfl, rfl⟩

set_option maxRecDepth 100000 in
theorem pile_Pile__int64_Top.spec (p0 : Nat) (sv0 : Value) (l0 : List Pile_item__int64) (p0_2 : Int) (r : (Int × Bool)) (H : pile_Pile__int64_Top l0 p0_2 = some r) : FnSpec Try.prog 202 [(pt p0 0)] [(box p0 229 [(Value.func (.func 69) #[] #[]), sv0, (Value.int .i64 p0_2)]), (own sv0 231 2 l0.length (fl enc_Pile_item__int64 l0))] (fun v M => v = (Value.tuple #[(Value.int .i64 r.1), (Value.bool r.2)]) ∧ M = [(box p0 229 [(Value.func (.func 69) #[] #[]), sv0, (Value.int .i64 p0_2)]), (own sv0 231 2 l0.length (fl enc_Pile_item__int64 l0))]) := by
  unfold pile_Pile__int64_Top at H
  refine spec_of Try.func202 rfl 15 rfl (Nat.le_of_ble_eq_true rfl) fun F w0 => ?_
  show Ent (St 15 w0 F [(0, (pt p0 0))] [(box p0 229 [(Value.func (.func 69) #[] #[]), sv0, (Value.int .i64 p0_2)]), (own sv0 231 2 l0.length (fl enc_Pile_item__int64 l0))]) _
  refine ent_seq ?_
  refine ent_region ?_
  refine ent_value (ov_assign rfl) rfl rfl rfl ?_
  refine ent_value (ov_assign rfl) rfl rfl rfl ?_
  refine ent_nil ?_
  refine ent_seq ?_
  refine ent_seq ?_
  refine ent_region ?_
  refine ent_value (ov_move rfl) rfl rfl rfl ?_
  obtain ⟨x4, h4, H⟩ := thn_elim H
  refine ent_op (ot_call_same (Lr := []) [0, 1] [0, 1] (first := []) (cap := []) (xs := [.tmp 4]) rfl rfl F_call_223 rfl (pile_Pile__int64_Len.spec p0 sv0 l0 p0_2 _ h4) (by decide) rfl (by decide) rfl) rfl rfl rfl ?_
  rintro _ _ ⟨rfl, rfl⟩
  refine ent_value (ov_bin rfl rfl (b_eql _ _ _)) rfl rfl rfl ?_
  refine ent_nil ?_
  by_cases c5 : x4 = 0
  · rw [if_pos c5] at H
    refine ent_cond_true rfl (eq_t c5) ?_
    refine ent_seq ?_
    refine ent_region ?_
    refine ent_value (ov_move rfl) rfl rfl rfl ?_
    refine ent_value (ov_assign rfl) rfl rfl rfl ?_
    refine ent_value (ov_assign rfl) rfl rfl rfl ?_
    refine ent_nil ?_
    refine ent_retc ?_
    cases H
    exact ret_mem (vs := [(Value.int .i64 0), (Value.bool false)]) rfl ⟨rfl, ⟨rfl, trivial⟩⟩ _ rfl ⟨rfl, rfl⟩
  · rw [if_neg c5] at H
    refine ent_cond_false rfl (eq_f c5) ?_
    refine ent_skip ?_
    refine ent_seq ?_
    refine ent_region ?_
    refine ent_value (ov_move rfl) rfl rfl rfl ?_
    refine ent_value (ov_nilCheck rfl) rfl rfl rfl ?_
    refine ent_value (ov_fieldAddr (sz := 0) (o := 0) rfl F_field_229_1 F_size_227) rfl rfl rfl ?_
    refine ent_value (ov_load (v := sv0) rfl F_agg_227 (reads_box1 (i := 0) rfl rfl)) rfl rfl rfl ?_
    by_cases c6 : 0 < (l0.length : Int)
    · rw [if_pos c6] at H
      refine ent_value (ov_indexAddr (sz := 1) 1 rfl rfl F_slice_227 F_size_231 rfl (isRd_ownx 231) (by decide) c6) rfl rfl rfl ?_
      refine ent_value (ov_fieldAddrE (sz := 0) (k0 := ((0 : Int).toNat) * 2) (off := 0) 1 rfl F_field_231_0 F_size_2 rfl (isRd_ownx 231) (fl_pos enc_Pile_item__int64_len (ix_lt (by decide) c6))) rfl rfl rfl ?_
      refine ent_value (ov_load (v := (Value.int .i64 ((l0.getD ((0 : Int).toNat) z_Pile_item__int64).x))) rfl F_agg_2 (reads_rd (i := 1) rfl (isRd_ownx 231) (by simp) (fl_read (off := 0) enc_Pile_item__int64_len (ix_lt (by decide) c6) rfl))) rfl rfl rfl ?_
      refine ent_value (ov_assign rfl) rfl rfl rfl ?_
      refine ent_value (ov_assign rfl) rfl rfl rfl ?_
      refine ent_nil ?_
      refine ent_retc ?_
      cases H
      exact ret_mem (vs := [(Value.int .i64 ((l0.getD ((0 : Int).toNat) z_Pile_item__int64).x)), (Value.bool true)]) rfl ⟨rfl, ⟨rfl, trivial⟩⟩ _ rfl ⟨rfl, rfl⟩
    · rw [if_neg c6] at H
      cases H

set_option maxRecDepth 100000 in
theorem pile_Pile__int64_down.spec (K : Nat) (p0 : Nat) (sv0 : Value) (l0 : List Pile_item__int64) (p0_2 : Int) (a1 : Int) (r : List Pile_item__int64) (H : pile_Pile__int64_down K l0 p0_2 a1 = some r) : FnSpec Try.prog 203 [(pt p0 0), (Value.int .i64 a1)] [(box p0 229 [(Value.func (.func 69) #[] #[]), sv0, (Value.int .i64 p0_2)]), (own sv0 231 2 l0.length (fl enc_Pile_item__int64 l0))] (fun v M => v = (Value.tuple #[]) ∧ M = [(box p0 229 [(Value.func (.func 69) #[] #[]), sv0, (Value.int .i64 p0_2)]), (own sv0 231 2 r.length (fl enc_Pile_item__int64 r))]) := by
  unfold pile_Pile__int64_down at H
  refine spec_of Try.func203 rfl 64 rfl (Nat.le_of_ble_eq_true rfl) fun F w0 => ?_
  show Ent (St 64 w0 F [(0, (pt p0 0)), (1, (Value.int .i64 a1))] [(box p0 229 [(Value.func (.func 69) #[] #[]), sv0, (Value.int .i64 p0_2)]), (own sv0 231 2 l0.length (fl enc_Pile_item__int64 l0))]) _
  refine ent_seq ?_
  refine ent_region ?_
  refine ent_value (ov_move rfl) rfl rfl rfl ?_
  refine ent_value (ov_makeFunc (first := [.tmp 7]) (cap := []) rfl rfl) rfl rfl rfl ?_
  refine ent_value (ov_assign rfl) rfl rfl rfl ?_
  refine ent_nil ?_
  refine ent_block ?_
  refine ent_loop (fun k a w => ∃ i22, ∃ l3, pile_Pile__int64_down_l0 K p0_2 k i22 l3 = some r ∧ St 64 w0 F [(0, (pt p0 0)), (1, (Value.int .i64 i22)), (4, (Value.func (.func 201) #[(pt p0 0)] #[]))] [(box p0 229 [(Value.func (.func 69) #[] #[]), sv0, (Value.int .i64 p0_2)]), (own sv0 231 2 l3.length (fl enc_Pile_item__int64 l3))] a w) K ?_ ?_
  · exact ent_fin [0, 1] (by decide) rfl (sub_cons (t := 0) rfl (sub_cons (t := 1) rfl (sub_cons (t := 4) rfl (sub_nil _)))) fun a w h => ⟨_, _, H, h⟩
  · refine fun k => ent_exi fun i22 => ent_exi fun l3 => ent_and fun H17 => ?_
    cases k with
    | zero => exact absurd H17 (by simp [pile_Pile__int64_down_l0])
    | succ k =>
      rw [pile_Pile__int64_down_l0] at H17
      refine ent_block ?_
      refine ent_seq ?_
      refine ent_region ?_
      refine ent_value (ov_move rfl) rfl rfl rfl ?_
      refine ent_value (ov_assign rfl) rfl rfl rfl ?_
      refine ent_nil ?_
      obtain ⟨x72, H19, H17⟩ := Option.bind_eq_some_iff.1 H17
      refine ent_seq_cut (fun a w => St 64 w0 F [(0, (pt p0 0)), (1, (Value.int .i64 i22)), (4, (Value.func (.func 201) #[(pt p0 0)] #[])), (5, (Value.int .i64 x72))] [(box p0 229 [(Value.func (.func 69) #[] #[]), sv0, (Value.int .i64 p0_2)]), (own sv0 231 2 l3.length (fl enc_Pile_item__int64 l3))] a w) ?_ ?_
      · refine ent_seq ?_
        refine ent_region ?_
        refine ent_value (ov_move rfl) rfl rfl rfl ?_
        refine ent_value (ov_bin rfl rfl fun w => b_shl _ _ _ _ w (by decide)) rfl rfl rfl ?_
        refine ent_value (ov_bin rfl rfl (b_add _ _ _) ) rfl rfl rfl ?_
        refine ent_value (ov_assign rfl) rfl rfl rfl ?_
        refine ent_nil ?_
        refine ent_block ?_
        refine ent_loop (fun k a w => ∃ i31, ∃ i32, pile_Pile__int64_down_l1 K p0_2 i22 l3 k i31 i32 = some x72 ∧ St 64 w0 F [(0, (pt p0 0)), (1, (Value.int .i64 i22)), (4, (Value.func (.func 201) #[(pt p0 0)] #[])), (5, (Value.int .i64 i31)), (6, (Value.int .i64 i32))] [(box p0 229 [(Value.func (.func 69) #[] #[]), sv0, (Value.int .i64 p0_2)]), (own sv0 231 2 l3.length (fl enc_Pile_item__int64 l3))] a w) K ?_ ?_
        · exact ent_fin [0, 1] (by decide) rfl (sub_cons (t := 0) rfl (sub_cons (t := 1) rfl (sub_cons (t := 4) rfl (sub_cons (t := 5) rfl (sub_cons (t := 6) rfl (sub_nil _)))))) fun a w h => ⟨_, _, H19, h⟩
        · refine fun k => ent_exi fun i31 => ent_exi fun i32 => ent_and fun H20 => ?_
          cases k with
          | zero => exact absurd H20 (by simp [pile_Pile__int64_down_l1])
          | succ k =>
            rw [pile_Pile__int64_down_l1] at H20
            refine ent_seq ?_
            refine ent_seq ?_
            refine ent_region ?_
            refine ent_value (ov_move rfl) rfl rfl rfl ?_
            refine ent_value (ov_move rfl) rfl rfl rfl ?_
            refine ent_value (ov_bin rfl rfl fun w => b_shl _ _ _ _ w (by decide)) rfl rfl rfl ?_
            refine ent_value (ov_bin rfl rfl (b_add _ _ _) ) rfl rfl rfl ?_
            refine ent_value (ov_bin rfl rfl (b_leq _ _ _)) rfl rfl rfl ?_
            refine ent_value (ov_move rfl) rfl rfl rfl ?_
            by_cases c248 : i32 ≤ (w64 ((bShl .i64 i22 1) + 2))
            · rw [if_pos c248] at H20
              refine ent_value_on (ov_move rfl) rfl rfl rfl (decide_eq_true c248) rfl rfl ?_
              refine ent_value_on (ov_move rfl) rfl rfl rfl (decide_eq_true c248) rfl rfl ?_
              refine ent_value_on (ov_nilCheck rfl) rfl rfl rfl (decide_eq_true c248) rfl rfl ?_
              refine ent_value_on (ov_fieldAddr (sz := 0) (o := 0) rfl F_field_229_1 F_size_227) rfl rfl rfl (decide_eq_true c248) rfl rfl ?_
              refine ent_value_on (ov_load (v := sv0) rfl F_agg_227 (reads_box1 (i := 0) rfl rfl)) rfl rfl rfl (decide_eq_true c248) rfl rfl ?_
              refine ent_value_on (ov_len 1 rfl F_slice_227 rfl (isRd_ownx 231)) rfl rfl rfl (decide_eq_true c248) rfl rfl ?_
              refine ent_value_on (ov_bin rfl rfl (b_lss _ _ _)) rfl rfl rfl (decide_eq_true c248) rfl rfl ?_
              refine ent_value (ov_pick rfl rfl rfl (pick_t (decide_eq_true c248))) rfl rfl rfl ?_
              refine ent_nil ?_
              by_cases c249 : i32 < (l3.length : Int)
              · rw [if_pos c249] at H20
                refine ent_cond_true rfl (decide_eq_true c249) ?_
                refine ent_skip ?_
                refine ent_seq ?_
                refine ent_block ?_
                refine ent_seq ?_
                refine ent_region ?_
                refine ent_value (ov_move rfl) rfl rfl rfl ?_
                refine ent_value (ov_move rfl) rfl rfl rfl ?_
                refine ent_value (ov_move rfl) rfl rfl rfl ?_
                obtain ⟨x78, h72, H20⟩ := Option.bind_eq_some_iff.1 H20
                refine ent_op (ot_call_same (Lr := []) [0, 1] [0, 1] (first := [(pt p0 0)]) (cap := []) (xs := [.tmp 30, .tmp 31]) rfl rfl F_call_201 rfl (pile_Pile__int64_ahead.spec p0 sv0 l3 p0_2 i32 i31 _ h72) (by decide) rfl (by decide) rfl) rfl rfl rfl ?_
                rintro _ _ ⟨rfl, rfl⟩
                refine ent_nil ?_
                by_cases c251 : x78 = true
                · rw [if_pos c251] at H20
                  refine ent_cond_true rfl c251 ?_
                  refine ent_region ?_
                  refine ent_value (ov_move rfl) rfl rfl rfl ?_
                  refine ent_value (ov_assign rfl) rfl rfl rfl ?_
                  refine ent_nil ?_
                  refine ent_region ?_
                  refine ent_value (ov_move rfl) rfl rfl rfl ?_
                  refine ent_value (ov_bin rfl rfl (b_add _ _ _) ) rfl rfl rfl ?_
                  refine ent_value (ov_assign rfl) rfl rfl rfl ?_
                  refine ent_nil ?_
                  exact ent_fin [0, 1] (by decide) rfl (sub_cons (t := 0) rfl (sub_cons (t := 1) rfl (sub_cons (t := 4) rfl (sub_cons (t := 5) rfl (sub_cons (t := 6) rfl (sub_nil _)))))) fun a w h => ⟨k, Nat.lt_succ_self k, _, _, H20, h⟩
                · rw [if_neg c251] at H20
                  refine ent_cond_false rfl (Bool.eq_false_iff.2 c251) ?_
                  refine ent_skip ?_
                  refine ent_region ?_
                  refine ent_value (ov_move rfl) rfl rfl rfl ?_
                  refine ent_value (ov_bin rfl rfl (b_add _ _ _) ) rfl rfl rfl ?_
                  refine ent_value (ov_assign rfl) rfl rfl rfl ?_
                  refine ent_nil ?_
                  exact ent_fin [0, 1] (by decide) rfl (sub_cons (t := 0) rfl (sub_cons (t := 1) rfl (sub_cons (t := 4) rfl (sub_cons (t := 5) rfl (sub_cons (t := 6) rfl (sub_nil _)))))) fun a w h => ⟨k, Nat.lt_succ_self k, _, _, H20, h⟩
              · rw [if_neg c249] at H20
                refine ent_cond_false rfl (decide_eq_false c249) ?_
                refine ent_exit ?_
                cases H20
                exact ent_fin [0, 1] (by decide) rfl (sub_cons (t := 0) rfl (sub_cons (t := 1) rfl (sub_cons (t := 4) rfl (sub_cons (t := 5) rfl (sub_nil _))))) fun a w h => h
            · rw [if_neg c248] at H20
              refine ent_off rfl rfl rfl (decide_eq_false c248) rfl rfl ?_
              refine ent_off rfl rfl rfl (decide_eq_false c248) rfl rfl ?_
              refine ent_off rfl rfl rfl (decide_eq_false c248) rfl rfl ?_
              refine ent_off rfl rfl rfl (decide_eq_false c248) rfl rfl ?_
              refine ent_off rfl rfl rfl (decide_eq_false c248) rfl rfl ?_
              refine ent_off rfl rfl rfl (decide_eq_false c248) rfl rfl ?_
              refine ent_off rfl rfl rfl (decide_eq_false c248) rfl rfl ?_
              refine ent_value (ov_pick rfl rfl rfl (pick_f (decide_eq_false c248))) rfl rfl rfl ?_
              refine ent_nil ?_
              refine ent_cond_false rfl rfl ?_
              refine ent_exit ?_
              cases H20
              exact ent_fin [0, 1] (by decide) rfl (sub_cons (t := 0) rfl (sub_cons (t := 1) rfl (sub_cons (t := 4) rfl (sub_cons (t := 5) rfl (sub_nil _))))) fun a w h => h
      · refine ent_seq ?_
        refine ent_seq ?_
        refine ent_region ?_
        refine ent_value (ov_move rfl) rfl rfl rfl ?_
        refine ent_value (ov_move rfl) rfl rfl rfl ?_
        refine ent_value (ov_bin rfl rfl (b_eql _ _ _)) rfl rfl rfl ?_
        refine ent_nil ?_
        by_cases c253 : x72 = i22
        · rw [if_pos c253] at H17
          refine ent_cond_true rfl (eq_t c253) ?_
          refine ent_retc ?_
          cases H17
          exact ret_none rfl ⟨rfl, rfl⟩
        · rw [if_neg c253] at H17
          refine ent_cond_false rfl (eq_f c253) ?_
          refine ent_skip ?_
          refine ent_seq ?_
          by_cases c254 : 0 ≤ x72
          · rw [if_pos c254] at H17
            by_cases c255 : x72 < (l3.length : Int)
            · rw [if_pos c255] at H17
              by_cases c256 : 0 ≤ i22
              · rw [if_pos c256] at H17
                by_cases c257 : i22 < (l3.length : Int)
                · rw [if_pos c257] at H17
                  by_cases c258 : x72 < ((l3.set i22.toNat (⟨(l3.getD x72.toNat z_Pile_item__int64).x, (l3.getD x72.toNat z_Pile_item__int64).n⟩ : Pile_item__int64)).length : Int)
                  · rw [if_pos c258] at H17
                    refine ent_drawm 28 rfl (fun done a w => StD 64 w0 F [(0, (pt p0 0)), (1, (Value.int .i64 i22)), (4, (Value.func (.func 201) #[(pt p0 0)] #[])), (5, (Value.int .i64 x72)), (34, (Value.int .i64 x72)), (35, (Value.int .i64 i22)), (36, (Value.bool (x72 == i22)))] [(0, 37, (pt p0 0)), (1, 38, (pt p0 0)), (2, 39, (pt p0 1)), (3, 40, sv0), (4, 41, (Value.int .i64 i22)), (5, 42, (pt p0 0)), (6, 43, (pt p0 0)), (7, 44, (pt p0 1)), (8, 45, sv0), (9, 46, (Value.int .i64 x72)), (10, 47, (pt p0 0)), (11, 48, (pt p0 0)), (12, 49, (pt p0 1)), (13, 50, sv0), (14, 51, (Value.int .i64 x72)), (15, 52, (eptr sv0 (x72.toNat * 2))), (16, 53, (Value.agg #[(Value.int .i64 ((l3.getD x72.toNat z_Pile_item__int64).x)), (Value.int .i64 ((l3.getD x72.toNat z_Pile_item__int64).n))])), (17, 54, (pt p0 0)), (18, 55, (pt p0 0)), (19, 56, (pt p0 1)), (20, 57, sv0), (21, 58, (Value.int .i64 i22)), (22, 59, (eptr sv0 (i22.toNat * 2))), (23, 60, (Value.agg #[(Value.int .i64 ((l3.getD i22.toNat z_Pile_item__int64).x)), (Value.int .i64 ((l3.getD i22.toNat z_Pile_item__int64).n))])), (24, 61, (eptr sv0 (i22.toNat * 2))), (26, 62, (eptr sv0 (x72.toNat * 2)))] done [(box p0 229 [(Value.func (.func 69) #[] #[]), sv0, (Value.int .i64 p0_2)]), (sel (done 27) (own sv0 231 2 ((l3.set i22.toNat (⟨(l3.getD x72.toNat z_Pile_item__int64).x, (l3.getD x72.toNat z_Pile_item__int64).n⟩ : Pile_item__int64)).set x72.toNat (⟨(l3.getD i22.toNat z_Pile_item__int64).x, (l3.getD i22.toNat z_Pile_item__int64).n⟩ : Pile_item__int64)).length (fl enc_Pile_item__int64 ((l3.set i22.toNat (⟨(l3.getD x72.toNat z_Pile_item__int64).x, (l3.getD x72.toNat z_Pile_item__int64).n⟩ : Pile_item__int64)).set x72.toNat (⟨(l3.getD i22.toNat z_Pile_item__int64).x, (l3.getD i22.toNat z_Pile_item__int64).n⟩ : Pile_item__int64)))) (sel (done 25) (own sv0 231 2 (l3.set i22.toNat (⟨(l3.getD x72.toNat z_Pile_item__int64).x, (l3.getD x72.toNat z_Pile_item__int64).n⟩ : Pile_item__int64)).length (fl enc_Pile_item__int64 (l3.set i22.toNat (⟨(l3.getD x72.toNat z_Pile_item__int64).x, (l3.getD x72.toNat z_Pile_item__int64).n⟩ : Pile_item__int64)))) (own sv0 231 2 l3.length (fl enc_Pile_item__int64 l3))))] a w) (by kernel_rfl) (by kernel_rfl) (draw_startL (sub_cons (t := 0) rfl (sub_cons (t := 1) rfl (sub_cons (t := 4) rfl (sub_cons (t := 5) rfl (sub_cons (t := 34) rfl (sub_cons (t := 35) rfl (sub_cons (t := 36) rfl (sub_nil _)))))))) (by simp only [sel])) ?_ ?_
                    · refine ⟨?_, ?_, ?_, ?_, ?_, ?_, ?_, ?_, ?_, ?_, ?_, ?_, ?_, ?_, ?_, ?_, ?_, ?_, ?_, ?_, ?_, ?_, ?_, ?_, ?_, ?_, ?_, ?_, trivial⟩
                      · intro done hi hc hcu
                        exact draw_value (i := 0) (t := 37) (v := (pt p0 0)) rfl rfl (wanted_none rfl) (fun a => hasA_base) (ov_move rfl) rfl rfl (onlyT_spec (k0 := 0) rfl rfl rfl)
                      · intro done hi hc hcu
                        have d0 : done 0 = true := done_of (j := 0) hcu rfl (by decide) rfl
                        exact draw_value (i := 1) (t := 38) (v := (pt p0 0)) rfl rfl (wanted_none rfl) (fun a => (hasA_cons (k := 0) rfl d0 hasA_base)) (ov_nilCheck rfl) rfl rfl (onlyT_spec (k0 := 1) rfl rfl rfl)
                      · intro done hi hc hcu
                        have d1 : done 1 = true := done_of (j := 1) hcu rfl (by decide) rfl
                        exact draw_value (i := 2) (t := 39) (v := (pt p0 1)) rfl rfl (wanted_none rfl) (fun a => (hasA_cons (k := 1) rfl d1 hasA_base)) (ov_fieldAddr (sz := 0) (o := 0) rfl F_field_229_1 F_size_227) rfl rfl (onlyT_spec (k0 := 2) rfl rfl rfl)
                      · intro done hi hc hcu
                        have d2 : done 2 = true := done_of (j := 2) hcu rfl (by decide) rfl
                        exact draw_value (i := 3) (t := 40) (v := sv0) rfl rfl (wanted_none rfl) (fun a => (hasA_cons (k := 2) rfl d2 hasA_base)) (ov_load (v := sv0) rfl F_agg_227 (reads_box1 (i := 0) rfl rfl)) rfl rfl (onlyT_spec (k0 := 3) rfl rfl rfl)
                      · intro done hi hc hcu
                        exact draw_value (i := 4) (t := 41) (v := (Value.int .i64 i22)) rfl rfl (wanted_none rfl) (fun a => hasA_base) (ov_move rfl) rfl rfl (onlyT_spec (k0 := 4) rfl rfl rfl)
                      · intro done hi hc hcu
                        exact draw_value (i := 5) (t := 42) (v := (pt p0 0)) rfl rfl (wanted_none rfl) (fun a => hasA_base) (ov_move rfl) rfl rfl (onlyT_spec (k0 := 5) rfl rfl rfl)
                      · intro done hi hc hcu
                        have d5 : done 5 = true := done_of (j := 5) hcu rfl (by decide) rfl
                        exact draw_value (i := 6) (t := 43) (v := (pt p0 0)) rfl rfl (wanted_none rfl) (fun a => (hasA_cons (k := 5) rfl d5 hasA_base)) (ov_nilCheck rfl) rfl rfl (onlyT_spec (k0 := 6) rfl rfl rfl)
                      · intro done hi hc hcu
                        have d6 : done 6 = true := done_of (j := 6) hcu rfl (by decide) rfl
                        exact draw_value (i := 7) (t := 44) (v := (pt p0 1)) rfl rfl (wanted_none rfl) (fun a => (hasA_cons (k := 6) rfl d6 hasA_base)) (ov_fieldAddr (sz := 0) (o := 0) rfl F_field_229_1 F_size_227) rfl rfl (onlyT_spec (k0 := 7) rfl rfl rfl)
                      · intro done hi hc hcu
                        have d7 : done 7 = true := done_of (j := 7) hcu rfl (by decide) rfl
                        exact draw_value (i := 8) (t := 45) (v := sv0) rfl rfl (wanted_none rfl) (fun a => (hasA_cons (k := 7) rfl d7 hasA_base)) (ov_load (v := sv0) rfl F_agg_227 (reads_box1 (i := 0) rfl rfl)) rfl rfl (onlyT_spec (k0 := 8) rfl rfl rfl)
                      · intro done hi hc hcu
                        exact draw_value (i := 9) (t := 46) (v := (Value.int .i64 x72)) rfl rfl (wanted_none rfl) (fun a => hasA_base) (ov_move rfl) rfl rfl (onlyT_spec (k0 := 9) rfl rfl rfl)
                      · intro done hi hc hcu
                        exact draw_value (i := 10) (t := 47) (v := (pt p0 0)) rfl rfl (wanted_none rfl) (fun a => hasA_base) (ov_move rfl) rfl rfl (onlyT_spec (k0 := 10) rfl rfl rfl)
                      · intro done hi hc hcu
                        have d10 : done 10 = true := done_of (j := 10) hcu rfl (by decide) rfl
                        exact draw_value (i := 11) (t := 48) (v := (pt p0 0)) rfl rfl (wanted_none rfl) (fun a => (hasA_cons (k := 10) rfl d10 hasA_base)) (ov_nilCheck rfl) rfl rfl (onlyT_spec (k0 := 11) rfl rfl rfl)
                      · intro done hi hc hcu
                        have d11 : done 11 = true := done_of (j := 11) hcu rfl (by decide) rfl
                        exact draw_value (i := 12) (t := 49) (v := (pt p0 1)) rfl rfl (wanted_none rfl) (fun a => (hasA_cons (k := 11) rfl d11 hasA_base)) (ov_fieldAddr (sz := 0) (o := 0) rfl F_field_229_1 F_size_227) rfl rfl (onlyT_spec (k0 := 12) rfl rfl rfl)
                      · intro done hi hc hcu
                        have d12 : done 12 = true := done_of (j := 12) hcu rfl (by decide) rfl
                        exact draw_value (i := 13) (t := 50) (v := sv0) rfl rfl (wanted_none rfl) (fun a => (hasA_cons (k := 12) rfl d12 hasA_base)) (ov_load (v := sv0) rfl F_agg_227 (reads_box1 (i := 0) rfl rfl)) rfl rfl (onlyT_spec (k0 := 13) rfl rfl rfl)
                      · intro done hi hc hcu
                        exact draw_value (i := 14) (t := 51) (v := (Value.int .i64 x72)) rfl rfl (wanted_none rfl) (fun a => hasA_base) (ov_move rfl) rfl rfl (onlyT_spec (k0 := 14) rfl rfl rfl)
                      · intro done hi hc hcu
                        have d13 : done 13 = true := done_of (j := 13) hcu rfl (by decide) rfl
                        have d14 : done 14 = true := done_of (j := 14) hcu rfl (by decide) rfl
                        have n25 : done 25 = false := notdone_of (m := 25) hc hi rfl rfl
                        have n27 : done 27 = false := notdone_of (m := 27) hc hi rfl rfl
                        exact draw_value (i := 15) (t := 52) (v := (eptr sv0 (x72.toNat * 2))) rfl rfl (wanted_none rfl) (fun a => (hasA_cons (k := 14) rfl d14 (hasA_cons (k := 13) rfl d13 hasA_base))) (ov_L (L2 := [(box p0 229 [(Value.func (.func 69) #[] #[]), sv0, (Value.int .i64 p0_2)]), (own sv0 231 2 l3.length (fl enc_Pile_item__int64 l3))]) (by simp only [n25, n27, sel]) (ov_indexAddr (sz := 1) 1 rfl rfl F_slice_227 F_size_231 rfl (isRd_ownx 231) c254 c255)) rfl rfl (onlyT_spec (k0 := 15) rfl rfl rfl)
                      · intro done hi hc hcu
                        have d15 : done 15 = true := done_of (j := 15) hcu rfl (by decide) rfl
                        have n25 : done 25 = false := notdone_of (m := 25) hc hi rfl rfl
                        have n27 : done 27 = false := notdone_of (m := 27) hc hi rfl rfl
                        exact draw_value (i := 16) (t := 53) (v := (Value.agg #[(Value.int .i64 ((l3.getD x72.toNat z_Pile_item__int64).x)), (Value.int .i64 ((l3.getD x72.toNat z_Pile_item__int64).n))])) rfl rfl (wanted_none rfl) (fun a => (hasA_cons (k := 15) rfl d15 hasA_base)) (ov_L (L2 := [(box p0 229 [(Value.func (.func 69) #[] #[]), sv0, (Value.int .i64 p0_2)]), (own sv0 231 2 l3.length (fl enc_Pile_item__int64 l3))]) (by simp only [n25, n27, sel]) (ov_load_agg (vs := [(Value.int .i64 ((l3.getD x72.toNat z_Pile_item__int64).x)), (Value.int .i64 ((l3.getD x72.toNat z_Pile_item__int64).n))]) rfl F_agg_231 F_size_231 (reads_rd (i := 1) rfl (isRd_ownx 231) (by simp) (fl_read0 enc_Pile_item__int64_len (ix_lt c254 c255) rfl)))) rfl rfl (onlyT_spec (k0 := 16) rfl rfl rfl)
                      · intro done hi hc hcu
                        exact draw_value (i := 17) (t := 54) (v := (pt p0 0)) rfl rfl (wanted_none rfl) (fun a => hasA_base) (ov_move rfl) rfl rfl (onlyT_spec (k0 := 17) rfl rfl rfl)
                      · intro done hi hc hcu
                        have d17 : done 17 = true := done_of (j := 17) hcu rfl (by decide) rfl
                        exact draw_value (i := 18) (t := 55) (v := (pt p0 0)) rfl rfl (wanted_none rfl) (fun a => (hasA_cons (k := 17) rfl d17 hasA_base)) (ov_nilCheck rfl) rfl rfl (onlyT_spec (k0 := 18) rfl rfl rfl)
                      · intro done hi hc hcu
                        have d18 : done 18 = true := done_of (j := 18) hcu rfl (by decide) rfl
                        exact draw_value (i := 19) (t := 56) (v := (pt p0 1)) rfl rfl (wanted_none rfl) (fun a => (hasA_cons (k := 18) rfl d18 hasA_base)) (ov_fieldAddr (sz := 0) (o := 0) rfl F_field_229_1 F_size_227) rfl rfl (onlyT_spec (k0 := 19) rfl rfl rfl)
                      · intro done hi hc hcu
                        have d19 : done 19 = true := done_of (j := 19) hcu rfl (by decide) rfl
                        exact draw_value (i := 20) (t := 57) (v := sv0) rfl rfl (wanted_none rfl) (fun a => (hasA_cons (k := 19) rfl d19 hasA_base)) (ov_load (v := sv0) rfl F_agg_227 (reads_box1 (i := 0) rfl rfl)) rfl rfl (onlyT_spec (k0 := 20) rfl rfl rfl)
                      · intro done hi hc hcu
                        exact draw_value (i := 21) (t := 58) (v := (Value.int .i64 i22)) rfl rfl (wanted_none rfl) (fun a => hasA_base) (ov_move rfl) rfl rfl (onlyT_spec (k0 := 21) rfl rfl rfl)
                      · intro done hi hc hcu
                        have d20 : done 20 = true := done_of (j := 20) hcu rfl (by decide) rfl
                        have d21 : done 21 = true := done_of (j := 21) hcu rfl (by decide) rfl
                        have n23 : done 23 = false := notdone_of (m := 23) hc hi rfl rfl
                        have n24 : done 24 = false := notdone_of (m := 24) hc n23 rfl rfl
                        have n25 : done 25 = false := notdone_of (m := 25) hc n24 rfl rfl
                        have n27 : done 27 = false := notdone_of (m := 27) hc hi rfl rfl
                        exact draw_value (i := 22) (t := 59) (v := (eptr sv0 (i22.toNat * 2))) rfl rfl (wanted_none rfl) (fun a => (hasA_cons (k := 21) rfl d21 (hasA_cons (k := 20) rfl d20 hasA_base))) (ov_L (L2 := [(box p0 229 [(Value.func (.func 69) #[] #[]), sv0, (Value.int .i64 p0_2)]), (own sv0 231 2 l3.length (fl enc_Pile_item__int64 l3))]) (by simp only [n25, n27, sel]) (ov_indexAddr (sz := 1) 1 rfl rfl F_slice_227 F_size_231 rfl (isRd_ownx 231) c256 c257)) rfl rfl (onlyT_spec (k0 := 22) rfl rfl rfl)
                      · intro done hi hc hcu
                        have d22 : done 22 = true := done_of (j := 22) hcu rfl (by decide) rfl
                        have n25 : done 25 = false := notdone_of (m := 25) hc hi rfl rfl
                        have n27 : done 27 = false := notdone_of (m := 27) hc hi rfl rfl
                        exact draw_value (i := 23) (t := 60) (v := (Value.agg #[(Value.int .i64 ((l3.getD i22.toNat z_Pile_item__int64).x)), (Value.int .i64 ((l3.getD i22.toNat z_Pile_item__int64).n))])) rfl rfl (wanted_none rfl) (fun a => (hasA_cons (k := 22) rfl d22 hasA_base)) (ov_L (L2 := [(box p0 229 [(Value.func (.func 69) #[] #[]), sv0, (Value.int .i64 p0_2)]), (own sv0 231 2 l3.length (fl enc_Pile_item__int64 l3))]) (by simp only [n25, n27, sel]) (ov_load_agg (vs := [(Value.int .i64 ((l3.getD i22.toNat z_Pile_item__int64).x)), (Value.int .i64 ((l3.getD i22.toNat z_Pile_item__int64).n))]) rfl F_agg_231 F_size_231 (reads_rd (i := 1) rfl (isRd_ownx 231) (by simp) (fl_read0 enc_Pile_item__int64_len (ix_lt c256 c257) rfl)))) rfl rfl (onlyT_spec (k0 := 23) rfl rfl rfl)
                      · intro done hi hc hcu
                        have d3 : done 3 = true := done_of (j := 3) hcu rfl (by decide) rfl
                        have d4 : done 4 = true := done_of (j := 4) hcu rfl (by decide) rfl
                        have n25 : done 25 = false := notdone_of (m := 25) hc hi rfl rfl
                        have n27 : done 27 = false := notdone_of (m := 27) hc hi rfl rfl
                        exact draw_value (i := 24) (t := 61) (v := (eptr sv0 (i22.toNat * 2))) rfl rfl (wanted_none rfl) (fun a => (hasA_cons (k := 4) rfl d4 (hasA_cons (k := 3) rfl d3 hasA_base))) (ov_L (L2 := [(box p0 229 [(Value.func (.func 69) #[] #[]), sv0, (Value.int .i64 p0_2)]), (own sv0 231 2 l3.length (fl enc_Pile_item__int64 l3))]) (by simp only [n25, n27, sel]) (ov_indexAddr (sz := 1) 1 rfl rfl F_slice_227 F_size_231 rfl (isRd_ownx 231) c256 c257)) rfl rfl (onlyT_spec (k0 := 24) rfl rfl rfl)
                      · intro done hi hc hcu
                        have d24 : done 24 = true := done_of (j := 24) hcu rfl (by decide) rfl
                        have d16 : done 16 = true := done_of (j := 16) hcu rfl (by decide) rfl
                        have n27 : done 27 = false := notdone_of (m := 27) hc hi rfl rfl
                        exact draw_store (i := 25) (L2 := [(box p0 229 [(Value.func (.func 69) #[] #[]), sv0, (Value.int .i64 p0_2)]), (own sv0 231 2 l3.length (fl enc_Pile_item__int64 l3))]) (L3 := [(box p0 229 [(Value.func (.func 69) #[] #[]), sv0, (Value.int .i64 p0_2)]), (own sv0 231 2 (l3.set i22.toNat (⟨(l3.getD x72.toNat z_Pile_item__int64).x, (l3.getD x72.toNat z_Pile_item__int64).n⟩ : Pile_item__int64)).length (fl enc_Pile_item__int64 (l3.set i22.toNat (⟨(l3.getD x72.toNat z_Pile_item__int64).x, (l3.getD x72.toNat z_Pile_item__int64).n⟩ : Pile_item__int64))))]) rfl rfl (wanted_none rfl) (fun a => (hasA_cons (k := 16) rfl d16 (hasA_cons (k := 24) rfl d24 hasA_base))) (by simp only [n27, hi, sel]) (by simp [up, n27, sel]) (ot_storeEx0 (z := z_Pile_item__int64) (y := (⟨(l3.getD x72.toNat z_Pile_item__int64).x, (l3.getD x72.toNat z_Pile_item__int64).n⟩ : Pile_item__int64)) (us := [(Value.int .i64 ((l3.getD x72.toNat z_Pile_item__int64).x)), (Value.int .i64 ((l3.getD x72.toNat z_Pile_item__int64).n))]) (L' := [(box p0 229 [(Value.func (.func 69) #[] #[]), sv0, (Value.int .i64 p0_2)]), (own sv0 231 2 (l3.set i22.toNat (⟨(l3.getD x72.toNat z_Pile_item__int64).x, (l3.getD x72.toNat z_Pile_item__int64).n⟩ : Pile_item__int64)).length (fl enc_Pile_item__int64 (l3.set i22.toNat (⟨(l3.getD x72.toNat z_Pile_item__int64).x, (l3.getD x72.toNat z_Pile_item__int64).n⟩ : Pile_item__int64))))]) 1 rfl rfl rfl (all_one rfl) F_size_231 enc_Pile_item__int64_len (ix_lt c256 c257) rfl rfl rfl rfl rfl) (offT_spec rfl)
                      · intro done hi hc hcu
                        have d8 : done 8 = true := done_of (j := 8) hcu rfl (by decide) rfl
                        have d9 : done 9 = true := done_of (j := 9) hcu rfl (by decide) rfl
                        have d25 : done 25 = true := done_of (j := 25) hcu rfl (by decide) rfl
                        have n27 : done 27 = false := notdone_of (m := 27) hc hi rfl rfl
                        exact draw_value (i := 26) (t := 62) (v := (eptr sv0 (x72.toNat * 2))) rfl rfl (wanted_none rfl) (fun a => (hasA_cons (k := 9) rfl d9 (hasA_cons (k := 8) rfl d8 hasA_base))) (ov_L (L2 := [(box p0 229 [(Value.func (.func 69) #[] #[]), sv0, (Value.int .i64 p0_2)]), (own sv0 231 2 (l3.set i22.toNat (⟨(l3.getD x72.toNat z_Pile_item__int64).x, (l3.getD x72.toNat z_Pile_item__int64).n⟩ : Pile_item__int64)).length (fl enc_Pile_item__int64 (l3.set i22.toNat (⟨(l3.getD x72.toNat z_Pile_item__int64).x, (l3.getD x72.toNat z_Pile_item__int64).n⟩ : Pile_item__int64))))]) (by simp only [d25, n27, sel]) (ov_indexAddr (sz := 1) 1 rfl rfl F_slice_227 F_size_231 rfl (isRd_ownx 231) c254 c258)) rfl rfl (onlyT_spec (k0 := 25) rfl rfl rfl)
                      · intro done hi hc hcu
                        have d26 : done 26 = true := done_of (j := 26) hcu rfl (by decide) rfl
                        have d23 : done 23 = true := done_of (j := 23) hcu rfl (by decide) rfl
                        have d25 : done 25 = true := done_of (j := 25) hcu rfl (by decide) rfl
                        exact draw_store (i := 27) (L2 := [(box p0 229 [(Value.func (.func 69) #[] #[]), sv0, (Value.int .i64 p0_2)]), (own sv0 231 2 (l3.set i22.toNat (⟨(l3.getD x72.toNat z_Pile_item__int64).x, (l3.getD x72.toNat z_Pile_item__int64).n⟩ : Pile_item__int64)).length (fl enc_Pile_item__int64 (l3.set i22.toNat (⟨(l3.getD x72.toNat z_Pile_item__int64).x, (l3.getD x72.toNat z_Pile_item__int64).n⟩ : Pile_item__int64))))]) (L3 := [(box p0 229 [(Value.func (.func 69) #[] #[]), sv0, (Value.int .i64 p0_2)]), (own sv0 231 2 ((l3.set i22.toNat (⟨(l3.getD x72.toNat z_Pile_item__int64).x, (l3.getD x72.toNat z_Pile_item__int64).n⟩ : Pile_item__int64)).set x72.toNat (⟨(l3.getD i22.toNat z_Pile_item__int64).x, (l3.getD i22.toNat z_Pile_item__int64).n⟩ : Pile_item__int64)).length (fl enc_Pile_item__int64 ((l3.set i22.toNat (⟨(l3.getD x72.toNat z_Pile_item__int64).x, (l3.getD x72.toNat z_Pile_item__int64).n⟩ : Pile_item__int64)).set x72.toNat (⟨(l3.getD i22.toNat z_Pile_item__int64).x, (l3.getD i22.toNat z_Pile_item__int64).n⟩ : Pile_item__int64))))]) rfl rfl (wanted_none rfl) (fun a => (hasA_cons (k := 23) rfl d23 (hasA_cons (k := 25) rfl d26 hasA_base))) (by simp only [d25, hi, sel]) (by simp [up, d25, sel]) (ot_storeEx0 (z := z_Pile_item__int64) (y := (⟨(l3.getD i22.toNat z_Pile_item__int64).x, (l3.getD i22.toNat z_Pile_item__int64).n⟩ : Pile_item__int64)) (us := [(Value.int .i64 ((l3.getD i22.toNat z_Pile_item__int64).x)), (Value.int .i64 ((l3.getD i22.toNat z_Pile_item__int64).n))]) (L' := [(box p0 229 [(Value.func (.func 69) #[] #[]), sv0, (Value.int .i64 p0_2)]), (own sv0 231 2 ((l3.set i22.toNat (⟨(l3.getD x72.toNat z_Pile_item__int64).x, (l3.getD x72.toNat z_Pile_item__int64).n⟩ : Pile_item__int64)).set x72.toNat (⟨(l3.getD i22.toNat z_Pile_item__int64).x, (l3.getD i22.toNat z_Pile_item__int64).n⟩ : Pile_item__int64)).length (fl enc_Pile_item__int64 ((l3.set i22.toNat (⟨(l3.getD x72.toNat z_Pile_item__int64).x, (l3.getD x72.toNat z_Pile_item__int64).n⟩ : Pile_item__int64)).set x72.toNat (⟨(l3.getD i22.toNat z_Pile_item__int64).x, (l3.getD i22.toNat z_Pile_item__int64).n⟩ : Pile_item__int64))))]) 1 rfl rfl rfl (all_one rfl) F_size_231 enc_Pile_item__int64_len (ix_lt c254 c258) rfl rfl rfl rfl rfl) (offT_spec rfl)
                    · intro done hall
                      refine draw_endL [(box p0 229 [(Value.func (.func 69) #[] #[]), sv0, (Value.int .i64 p0_2)]), (own sv0 231 2 ((l3.set i22.toNat (⟨(l3.getD x72.toNat z_Pile_item__int64).x, (l3.getD x72.toNat z_Pile_item__int64).n⟩ : Pile_item__int64)).set x72.toNat (⟨(l3.getD i22.toNat z_Pile_item__int64).x, (l3.getD i22.toNat z_Pile_item__int64).n⟩ : Pile_item__int64)).length (fl enc_Pile_item__int64 ((l3.set i22.toNat (⟨(l3.getD x72.toNat z_Pile_item__int64).x, (l3.getD x72.toNat z_Pile_item__int64).n⟩ : Pile_item__int64)).set x72.toNat (⟨(l3.getD i22.toNat z_Pile_item__int64).x, (l3.getD i22.toNat z_Pile_item__int64).n⟩ : Pile_item__int64))))] (by simp only [hall 25 (by decide), hall 27 (by decide), sel]) (fun a => (hasA_cons (k := 0) rfl (hall 0 (by decide)) (hasA_cons (k := 1) rfl (hall 1 (by decide)) (hasA_cons (k := 2) rfl (hall 2 (by decide)) (hasA_cons (k := 3) rfl (hall 3 (by decide)) (hasA_cons (k := 4) rfl (hall 4 (by decide)) (hasA_cons (k := 5) rfl (hall 5 (by decide)) (hasA_cons (k := 6) rfl (hall 6 (by decide)) (hasA_cons (k := 7) rfl (hall 7 (by decide)) (hasA_cons (k := 8) rfl (hall 8 (by decide)) (hasA_cons (k := 9) rfl (hall 9 (by decide)) (hasA_cons (k := 10) rfl (hall 10 (by decide)) (hasA_cons (k := 11) rfl (hall 11 (by decide)) (hasA_cons (k := 12) rfl (hall 12 (by decide)) (hasA_cons (k := 13) rfl (hall 13 (by decide)) (hasA_cons (k := 14) rfl (hall 14 (by decide)) (hasA_cons (k := 15) rfl (hall 15 (by decide)) (hasA_cons (k := 16) rfl (hall 16 (by decide)) (hasA_cons (k := 17) rfl (hall 17 (by decide)) (hasA_cons (k := 18) rfl (hall 18 (by decide)) (hasA_cons (k := 19) rfl (hall 19 (by decide)) (hasA_cons (k := 20) rfl (hall 20 (by decide)) (hasA_cons (k := 21) rfl (hall 21 (by decide)) (hasA_cons (k := 22) rfl (hall 22 (by decide)) (hasA_cons (k := 23) rfl (hall 23 (by decide)) (hasA_cons (k := 24) rfl (hall 24 (by decide)) (hasA_cons (k := 25) rfl (hall 26 (by decide)) hasA_base))))))))))))))))))))))))))) ?_
                      refine ent_region ?_
                      refine ent_value (ov_move rfl) rfl rfl rfl ?_
                      refine ent_value (ov_assign rfl) rfl rfl rfl ?_
                      refine ent_nil ?_
                      exact ent_fin [0, 1] (by decide) rfl (sub_cons (t := 0) rfl (sub_cons (t := 1) rfl (sub_cons (t := 4) rfl (sub_nil _)))) fun a w h => ⟨k, Nat.lt_succ_self k, _, _, H17, h⟩
                  · rw [if_neg c258] at H17
                    cases H17
                · rw [if_neg c257] at H17
                  cases H17
              · rw [if_neg c256] at H17
                cases H17
            · rw [if_neg c255] at H17
              cases H17
          · rw [if_neg c254] at H17
            cases H17

set_option maxRecDepth 100000 in
theorem pile_Pile__int64_Pop.spec (K : Nat) (p0 : Nat) (sv0 : Value) (l0 : List Pile_item__int64) (p0_2 : Int) (r : (Bool × (List Pile_item__int64) × Int)) (H : pile_Pile__int64_Pop K l0 p0_2 = some r) : FnSpec Try.prog 163 [(pt p0 0)] [(box p0 229 [(Value.func (.func 69) #[] #[]), sv0, (Value.int .i64 p0_2)]), (own sv0 231 2 l0.length (fl enc_Pile_item__int64 l0))] (fun v M => ∃ sv1 : Value, v = (Value.tuple #[(Value.int .i64 r.2.2), (Value.bool r.1)]) ∧ M = [(box p0 229 [(Value.func (.func 69) #[] #[]), sv1, (Value.int .i64 p0_2)]), (own sv1 231 2 r.2.1.length (fl enc_Pile_item__int64 r.2.1))]) := by
  unfold pile_Pile__int64_Pop at H
  refine spec_of Try.func163 rfl 43 rfl (Nat.le_of_ble_eq_true rfl) fun F w0 => ?_
  show Ent (St 43 w0 F [(0, (pt p0 0))] [(box p0 229 [(Value.func (.func 69) #[] #[]), sv0, (Value.int .i64 p0_2)]), (own sv0 231 2 l0.length (fl enc_Pile_item__int64 l0))]) _
  refine ent_seq ?_
  refine ent_region ?_
  refine ent_value (ov_assign rfl) rfl rfl rfl ?_
  refine ent_value (ov_assign rfl) rfl rfl rfl ?_
  refine ent_nil ?_
  refine ent_seq ?_
  refine ent_region ?_
  refine ent_value (ov_move rfl) rfl rfl rfl ?_
  obtain ⟨x3, h3, H⟩ := Option.bind_eq_some_iff.1 H
  refine ent_op (ot_call_same (Lr := []) [0, 1] [0, 1] (first := []) (cap := []) (xs := [.tmp 6]) rfl rfl F_call_202 rfl (pile_Pile__int64_Top.spec p0 sv0 l0 p0_2 _ h3) (by decide) rfl (by decide) rfl) rfl rfl rfl ?_
  rintro _ _ ⟨rfl, rfl⟩
  refine ent_value (ov_move rfl) rfl rfl rfl ?_
  refine ent_value (ov_extract rfl rfl) rfl rfl rfl ?_
  refine ent_value (ov_extract rfl rfl) rfl rfl rfl ?_
  refine ent_value (ov_assign rfl) rfl rfl rfl ?_
  refine ent_value (ov_assign rfl) rfl rfl rfl ?_
  refine ent_nil ?_
  refine ent_seq ?_
  refine ent_seq ?_
  refine ent_region ?_
  refine ent_value (ov_move rfl) rfl rfl rfl ?_
  refine ent_value (ov_un rfl (u_not _)) rfl rfl rfl ?_
  refine ent_nil ?_
  by_cases c8 : (!x3.2) = true
  · rw [if_pos c8] at H
    refine ent_cond_true rfl c8 ?_
    refine ent_seq ?_
    refine ent_region ?_
    refine ent_value (ov_move rfl) rfl rfl rfl ?_
    refine ent_value (ov_assign rfl) rfl rfl rfl ?_
    refine ent_value (ov_assign rfl) rfl rfl rfl ?_
    refine ent_nil ?_
    refine ent_retc ?_
    cases H
    exact ret_mem (vs := [(Value.int .i64 x3.1), (Value.bool false)]) rfl ⟨rfl, ⟨rfl, trivial⟩⟩ _ rfl ⟨_, rfl, rfl⟩
  · rw [if_neg c8] at H
    refine ent_cond_false rfl (Bool.eq_false_iff.2 c8) ?_
    refine ent_skip ?_
    refine ent_seq ?_
    refine ent_region ?_
    refine ent_value (ov_move rfl) rfl rfl rfl ?_
    refine ent_value (ov_nilCheck rfl) rfl rfl rfl ?_
    refine ent_value (ov_fieldAddr (sz := 0) (o := 0) rfl F_field_229_1 F_size_227) rfl rfl rfl ?_
    refine ent_value (ov_load (v := sv0) rfl F_agg_227 (reads_box1 (i := 0) rfl rfl)) rfl rfl rfl ?_
    refine ent_value (ov_len 1 rfl F_slice_227 rfl (isRd_ownx 231)) rfl rfl rfl ?_
    refine ent_value (ov_bin rfl rfl (b_sub _ _ _) ) rfl rfl rfl ?_
    refine ent_value (ov_assign rfl) rfl rfl rfl ?_
    refine ent_nil ?_
    refine ent_seq ?_
    by_cases c9 : 0 ≤ (w64 ((l0.length : Int) - 1))
    · rw [if_pos c9] at H
      by_cases c10 : (w64 ((l0.length : Int) - 1)) < (l0.length : Int)
      · rw [if_pos c10] at H
        by_cases c11 : 0 < (l0.length : Int)
        · rw [if_pos c11] at H
          refine ent_drawm 13 rfl (fun done a w => StD 43 w0 F [(0, (pt p0 0)), (2, (Value.int .i64 x3.1)), (3, (Value.bool x3.2)), (4, (Value.int .i64 (w64 ((l0.length : Int) - 1)))), (5, (Value.tuple #[(Value.int .i64 x3.1), (Value.bool x3.2)])), (6, (pt p0 0)), (7, (Value.tuple #[(Value.int .i64 x3.1), (Value.bool x3.2)])), (8, (Value.int .i64 x3.1)), (9, (Value.bool x3.2)), (10, (Value.bool x3.2)), (11, (Value.bool (!x3.2))), (13, (pt p0 0)), (14, (pt p0 0)), (15, (pt p0 1)), (16, sv0), (17, (Value.int .i64 (l0.length : Int))), (18, (Value.int .i64 (w64 ((l0.length : Int) - 1))))] [(0, 19, (pt p0 0)), (1, 20, (pt p0 0)), (2, 21, (pt p0 1)), (3, 22, sv0), (4, 23, (pt p0 0)), (5, 24, (pt p0 0)), (6, 25, (pt p0 1)), (7, 26, sv0), (8, 27, (Value.int .i64 (w64 ((l0.length : Int) - 1)))), (9, 28, (eptr sv0 (((w64 ((l0.length : Int) - 1)).toNat) * 2))), (10, 29, (Value.agg #[(Value.int .i64 ((l0.getD ((w64 ((l0.length : Int) - 1)).toNat) z_Pile_item__int64).x)), (Value.int .i64 ((l0.getD ((w64 ((l0.length : Int) - 1)).toNat) z_Pile_item__int64).n))])), (11, 30, (eptr sv0 (((0 : Int).toNat) * 2)))] done [(box p0 229 [(Value.func (.func 69) #[] #[]), sv0, (Value.int .i64 p0_2)]), (sel (done 12) (own sv0 231 2 (l0.set ((0 : Int).toNat) (⟨(l0.getD ((w64 ((l0.length : Int) - 1)).toNat) z_Pile_item__int64).x, (l0.getD ((w64 ((l0.length : Int) - 1)).toNat) z_Pile_item__int64).n⟩ : Pile_item__int64)).length (fl enc_Pile_item__int64 (l0.set ((0 : Int).toNat) (⟨(l0.getD ((w64 ((l0.length : Int) - 1)).toNat) z_Pile_item__int64).x, (l0.getD ((w64 ((l0.length : Int) - 1)).toNat) z_Pile_item__int64).n⟩ : Pile_item__int64)))) (own sv0 231 2 l0.length (fl enc_Pile_item__int64 l0)))] a w) (by kernel_rfl) (by kernel_rfl) (draw_startL (sub_cons (t := 0) rfl (sub_cons (t := 2) rfl (sub_cons (t := 3) rfl (sub_cons (t := 4) rfl (sub_cons (t := 5) rfl (sub_cons (t := 6) rfl (sub_cons (t := 7) rfl (sub_cons (t := 8) rfl (sub_cons (t := 9) rfl (sub_cons (t := 10) rfl (sub_cons (t := 11) rfl (sub_cons (t := 13) rfl (sub_cons (t := 14) rfl (sub_cons (t := 15) rfl (sub_cons (t := 16) rfl (sub_cons (t := 17) rfl (sub_cons (t := 18) rfl (sub_nil _)))))))))))))))))) (by simp only [sel])) ?_ ?_
          · refine ⟨?_, ?_, ?_, ?_, ?_, ?_, ?_, ?_, ?_, ?_, ?_, ?_, ?_, trivial⟩
            · intro done hi hc hcu
              exact draw_value (i := 0) (t := 19) (v := (pt p0 0)) rfl rfl (wanted_none rfl) (fun a => hasA_base) (ov_move rfl) rfl rfl (onlyT_spec (k0 := 0) rfl rfl rfl)
            · intro done hi hc hcu
              have d0 : done 0 = true := done_of (j := 0) hcu rfl (by decide) rfl
              exact draw_value (i := 1) (t := 20) (v := (pt p0 0)) rfl rfl (wanted_none rfl) (fun a => (hasA_cons (k := 0) rfl d0 hasA_base)) (ov_nilCheck rfl) rfl rfl (onlyT_spec (k0 := 1) rfl rfl rfl)
            · intro done hi hc hcu
              have d1 : done 1 = true := done_of (j := 1) hcu rfl (by decide) rfl
              exact draw_value (i := 2) (t := 21) (v := (pt p0 1)) rfl rfl (wanted_none rfl) (fun a => (hasA_cons (k := 1) rfl d1 hasA_base)) (ov_fieldAddr (sz := 0) (o := 0) rfl F_field_229_1 F_size_227) rfl rfl (onlyT_spec (k0 := 2) rfl rfl rfl)
            · intro done hi hc hcu
              have d2 : done 2 = true := done_of (j := 2) hcu rfl (by decide) rfl
              exact draw_value (i := 3) (t := 22) (v := sv0) rfl rfl (wanted_none rfl) (fun a => (hasA_cons (k := 2) rfl d2 hasA_base)) (ov_load (v := sv0) rfl F_agg_227 (reads_box1 (i := 0) rfl rfl)) rfl rfl (onlyT_spec (k0 := 3) rfl rfl rfl)
            · intro done hi hc hcu
              exact draw_value (i := 4) (t := 23) (v := (pt p0 0)) rfl rfl (wanted_none rfl) (fun a => hasA_base) (ov_move rfl) rfl rfl (onlyT_spec (k0 := 4) rfl rfl rfl)
            · intro done hi hc hcu
              have d4 : done 4 = true := done_of (j := 4) hcu rfl (by decide) rfl
              exact draw_value (i := 5) (t := 24) (v := (pt p0 0)) rfl rfl (wanted_none rfl) (fun a => (hasA_cons (k := 4) rfl d4 hasA_base)) (ov_nilCheck rfl) rfl rfl (onlyT_spec (k0 := 5) rfl rfl rfl)
            · intro done hi hc hcu
              have d5 : done 5 = true := done_of (j := 5) hcu rfl (by decide) rfl
              exact draw_value (i := 6) (t := 25) (v := (pt p0 1)) rfl rfl (wanted_none rfl) (fun a => (hasA_cons (k := 5) rfl d5 hasA_base)) (ov_fieldAddr (sz := 0) (o := 0) rfl F_field_229_1 F_size_227) rfl rfl (onlyT_spec (k0 := 6) rfl rfl rfl)
            · intro done hi hc hcu
              have d6 : done 6 = true := done_of (j := 6) hcu rfl (by decide) rfl
              exact draw_value (i := 7) (t := 26) (v := sv0) rfl rfl (wanted_none rfl) (fun a => (hasA_cons (k := 6) rfl d6 hasA_base)) (ov_load (v := sv0) rfl F_agg_227 (reads_box1 (i := 0) rfl rfl)) rfl rfl (onlyT_spec (k0 := 7) rfl rfl rfl)
            · intro done hi hc hcu
              exact draw_value (i := 8) (t := 27) (v := (Value.int .i64 (w64 ((l0.length : Int) - 1)))) rfl rfl (wanted_none rfl) (fun a => hasA_base) (ov_move rfl) rfl rfl (onlyT_spec (k0 := 8) rfl rfl rfl)
            · intro done hi hc hcu
              have d7 : done 7 = true := done_of (j := 7) hcu rfl (by decide) rfl
              have d8 : done 8 = true := done_of (j := 8) hcu rfl (by decide) rfl
              have n12 : done 12 = false := notdone_of (m := 12) hc hi rfl rfl
              exact draw_value (i := 9) (t := 28) (v := (eptr sv0 (((w64 ((l0.length : Int) - 1)).toNat) * 2))) rfl rfl (wanted_none rfl) (fun a => (hasA_cons (k := 8) rfl d8 (hasA_cons (k := 7) rfl d7 hasA_base))) (ov_L (L2 := [(box p0 229 [(Value.func (.func 69) #[] #[]), sv0, (Value.int .i64 p0_2)]), (own sv0 231 2 l0.length (fl enc_Pile_item__int64 l0))]) (by simp only [n12, sel]) (ov_indexAddr (sz := 1) 1 rfl rfl F_slice_227 F_size_231 rfl (isRd_ownx 231) c9 c10)) rfl rfl (onlyT_spec (k0 := 9) rfl rfl rfl)
            · intro done hi hc hcu
              have d9 : done 9 = true := done_of (j := 9) hcu rfl (by decide) rfl
              have n12 : done 12 = false := notdone_of (m := 12) hc hi rfl rfl
              exact draw_value (i := 10) (t := 29) (v := (Value.agg #[(Value.int .i64 ((l0.getD ((w64 ((l0.length : Int) - 1)).toNat) z_Pile_item__int64).x)), (Value.int .i64 ((l0.getD ((w64 ((l0.length : Int) - 1)).toNat) z_Pile_item__int64).n))])) rfl rfl (wanted_none rfl) (fun a => (hasA_cons (k := 9) rfl d9 hasA_base)) (ov_L (L2 := [(box p0 229 [(Value.func (.func 69) #[] #[]), sv0, (Value.int .i64 p0_2)]), (own sv0 231 2 l0.length (fl enc_Pile_item__int64 l0))]) (by simp only [n12, sel]) (ov_load_agg (vs := [(Value.int .i64 ((l0.getD ((w64 ((l0.length : Int) - 1)).toNat) z_Pile_item__int64).x)), (Value.int .i64 ((l0.getD ((w64 ((l0.length : Int) - 1)).toNat) z_Pile_item__int64).n))]) rfl F_agg_231 F_size_231 (reads_rd (i := 1) rfl (isRd_ownx 231) (by simp) (fl_read0 enc_Pile_item__int64_len (ix_lt c9 c10) rfl)))) rfl rfl (onlyT_spec (k0 := 10) rfl rfl rfl)
            · intro done hi hc hcu
              have d3 : done 3 = true := done_of (j := 3) hcu rfl (by decide) rfl
              have n12 : done 12 = false := notdone_of (m := 12) hc hi rfl rfl
              exact draw_value (i := 11) (t := 30) (v := (eptr sv0 (((0 : Int).toNat) * 2))) rfl rfl (wanted_none rfl) (fun a => (hasA_cons (k := 3) rfl d3 hasA_base)) (ov_L (L2 := [(box p0 229 [(Value.func (.func 69) #[] #[]), sv0, (Value.int .i64 p0_2)]), (own sv0 231 2 l0.length (fl enc_Pile_item__int64 l0))]) (by simp only [n12, sel]) (ov_indexAddr (sz := 1) 1 rfl rfl F_slice_227 F_size_231 rfl (isRd_ownx 231) (by decide) c11)) rfl rfl (onlyT_spec (k0 := 11) rfl rfl rfl)
            · intro done hi hc hcu
              have d11 : done 11 = true := done_of (j := 11) hcu rfl (by decide) rfl
              have d10 : done 10 = true := done_of (j := 10) hcu rfl (by decide) rfl
              exact draw_store (i := 12) (L2 := [(box p0 229 [(Value.func (.func 69) #[] #[]), sv0, (Value.int .i64 p0_2)]), (own sv0 231 2 l0.length (fl enc_Pile_item__int64 l0))]) (L3 := [(box p0 229 [(Value.func (.func 69) #[] #[]), sv0, (Value.int .i64 p0_2)]), (own sv0 231 2 (l0.set ((0 : Int).toNat) (⟨(l0.getD ((w64 ((l0.length : Int) - 1)).toNat) z_Pile_item__int64).x, (l0.getD ((w64 ((l0.length : Int) - 1)).toNat) z_Pile_item__int64).n⟩ : Pile_item__int64)).length (fl enc_Pile_item__int64 (l0.set ((0 : Int).toNat) (⟨(l0.getD ((w64 ((l0.length : Int) - 1)).toNat) z_Pile_item__int64).x, (l0.getD ((w64 ((l0.length : Int) - 1)).toNat) z_Pile_item__int64).n⟩ : Pile_item__int64))))]) rfl rfl (wanted_none rfl) (fun a => (hasA_cons (k := 10) rfl d10 (hasA_cons (k := 11) rfl d11 hasA_base))) (by simp only [hi, sel]) (by simp [up, sel]) (ot_storeEx0 (z := z_Pile_item__int64) (y := (⟨(l0.getD ((w64 ((l0.length : Int) - 1)).toNat) z_Pile_item__int64).x, (l0.getD ((w64 ((l0.length : Int) - 1)).toNat) z_Pile_item__int64).n⟩ : Pile_item__int64)) (us := [(Value.int .i64 ((l0.getD ((w64 ((l0.length : Int) - 1)).toNat) z_Pile_item__int64).x)), (Value.int .i64 ((l0.getD ((w64 ((l0.length : Int) - 1)).toNat) z_Pile_item__int64).n))]) (L' := [(box p0 229 [(Value.func (.func 69) #[] #[]), sv0, (Value.int .i64 p0_2)]), (own sv0 231 2 (l0.set ((0 : Int).toNat) (⟨(l0.getD ((w64 ((l0.length : Int) - 1)).toNat) z_Pile_item__int64).x, (l0.getD ((w64 ((l0.length : Int) - 1)).toNat) z_Pile_item__int64).n⟩ : Pile_item__int64)).length (fl enc_Pile_item__int64 (l0.set ((0 : Int).toNat) (⟨(l0.getD ((w64 ((l0.length : Int) - 1)).toNat) z_Pile_item__int64).x, (l0.getD ((w64 ((l0.length : Int) - 1)).toNat) z_Pile_item__int64).n⟩ : Pile_item__int64))))]) 1 rfl rfl rfl (all_one rfl) F_size_231 enc_Pile_item__int64_len (ix_lt (by decide) c11) rfl rfl rfl rfl rfl) (offT_spec rfl)
          · intro done hall
            refine draw_endL [(box p0 229 [(Value.func (.func 69) #[] #[]), sv0, (Value.int .i64 p0_2)]), (own sv0 231 2 (l0.set ((0 : Int).toNat) (⟨(l0.getD ((w64 ((l0.length : Int) - 1)).toNat) z_Pile_item__int64).x, (l0.getD ((w64 ((l0.length : Int) - 1)).toNat) z_Pile_item__int64).n⟩ : Pile_item__int64)).length (fl enc_Pile_item__int64 (l0.set ((0 : Int).toNat) (⟨(l0.getD ((w64 ((l0.length : Int) - 1)).toNat) z_Pile_item__int64).x, (l0.getD ((w64 ((l0.length : Int) - 1)).toNat) z_Pile_item__int64).n⟩ : Pile_item__int64))))] (by simp only [hall 12 (by decide), sel]) (fun a => (hasA_cons (k := 0) rfl (hall 0 (by decide)) (hasA_cons (k := 1) rfl (hall 1 (by decide)) (hasA_cons (k := 2) rfl (hall 2 (by decide)) (hasA_cons (k := 3) rfl (hall 3 (by decide)) (hasA_cons (k := 4) rfl (hall 4 (by decide)) (hasA_cons (k := 5) rfl (hall 5 (by decide)) (hasA_cons (k := 6) rfl (hall 6 (by decide)) (hasA_cons (k := 7) rfl (hall 7 (by decide)) (hasA_cons (k := 8) rfl (hall 8 (by decide)) (hasA_cons (k := 9) rfl (hall 9 (by decide)) (hasA_cons (k := 10) rfl (hall 10 (by decide)) (hasA_cons (k := 11) rfl (hall 11 (by decide)) hasA_base))))))))))))) ?_
            refine ent_seq ?_
            refine ent_region ?_
            refine ent_value (ov_move rfl) rfl rfl rfl ?_
            refine ent_value (ov_move rfl) rfl rfl rfl ?_
            refine ent_value (ov_nilCheck rfl) rfl rfl rfl ?_
            refine ent_value (ov_fieldAddr (sz := 0) (o := 0) rfl F_field_229_1 F_size_227) rfl rfl rfl ?_
            refine ent_value (ov_load (v := sv0) rfl F_agg_227 (reads_box1 (i := 0) rfl rfl)) rfl rfl rfl ?_
            refine ent_value (ov_move rfl) rfl rfl rfl ?_
            by_cases c12 : (w64 ((l0.length : Int) - 1)) ≤ ((l0.set ((0 : Int).toNat) (⟨(l0.getD ((w64 ((l0.length : Int) - 1)).toNat) z_Pile_item__int64).x, (l0.getD ((w64 ((l0.length : Int) - 1)).toNat) z_Pile_item__int64).n⟩ : Pile_item__int64)).length : Int)
            · rw [if_pos c12] at H
              refine ent_value (ov_slice_hi 1 rfl rfl F_slice_227 F_size_231 rfl (isRd_ownx 231) c9 c12) rfl rfl rfl ?_
              refine ent_value (ov_nilCheck rfl) rfl rfl rfl ?_
              refine ent_value (ov_fieldAddr (sz := 0) (o := 0) rfl F_field_229_1 F_size_227) rfl rfl rfl ?_
              refine ent_op0 (ot_storeS (cs := [(Value.func (.func 69) #[] #[]), sv0, (Value.int .i64 p0_2)]) (cs' := [(Value.func (.func 69) #[] #[]), (subs sv0 0 (w64 ((l0.length : Int) - 1)).toNat 2), (Value.int .i64 p0_2)]) (sv := (subs sv0 0 (w64 ((l0.length : Int) - 1)).toNat 2)) (L' := [(box p0 229 [(Value.func (.func 69) #[] #[]), (subs sv0 0 (w64 ((l0.length : Int) - 1)).toNat 2), (Value.int .i64 p0_2)]), (own sv0 231 2 (l0.set ((0 : Int).toNat) (⟨(l0.getD ((w64 ((l0.length : Int) - 1)).toNat) z_Pile_item__int64).x, (l0.getD ((w64 ((l0.length : Int) - 1)).toNat) z_Pile_item__int64).n⟩ : Pile_item__int64)).length (fl enc_Pile_item__int64 (l0.set ((0 : Int).toNat) (⟨(l0.getD ((w64 ((l0.length : Int) - 1)).toNat) z_Pile_item__int64).x, (l0.getD ((w64 ((l0.length : Int) - 1)).toNat) z_Pile_item__int64).n⟩ : Pile_item__int64))))]) 0 1 rfl rfl F_size_227 rfl rfl (isRd_take enc_Pile_item__int64_len (isRd_ownx 231) (nat_le c9 c12)) rfl (by simp) rfl) rfl rfl ?_
              rintro _ _ rfl
              refine ent_nil ?_
              refine ent_conv 1 _ (own (subs sv0 0 (w64 ((l0.length : Int) - 1)).toNat 2) 231 2 ((l0.set ((0 : Int).toNat) (⟨(l0.getD ((w64 ((l0.length : Int) - 1)).toNat) z_Pile_item__int64).x, (l0.getD ((w64 ((l0.length : Int) - 1)).toNat) z_Pile_item__int64).n⟩ : Pile_item__int64)).take (w64 ((l0.length : Int) - 1)).toNat).length (fl enc_Pile_item__int64 ((l0.set ((0 : Int).toNat) (⟨(l0.getD ((w64 ((l0.length : Int) - 1)).toNat) z_Pile_item__int64).x, (l0.getD ((w64 ((l0.length : Int) - 1)).toNat) z_Pile_item__int64).n⟩ : Pile_item__int64)).take (w64 ((l0.length : Int) - 1)).toNat))) rfl (own_takex enc_Pile_item__int64_len (nat_le c9 c12)) rfl ?_
              refine ent_L [(box p0 229 [(Value.func (.func 69) #[] #[]), (subs sv0 0 (w64 ((l0.length : Int) - 1)).toNat 2), (Value.int .i64 p0_2)]), (own (subs sv0 0 (w64 ((l0.length : Int) - 1)).toNat 2) 231 2 ((l0.set ((0 : Int).toNat) (⟨(l0.getD ((w64 ((l0.length : Int) - 1)).toNat) z_Pile_item__int64).x, (l0.getD ((w64 ((l0.length : Int) - 1)).toNat) z_Pile_item__int64).n⟩ : Pile_item__int64)).take (w64 ((l0.length : Int) - 1)).toNat).length (fl enc_Pile_item__int64 ((l0.set ((0 : Int).toNat) (⟨(l0.getD ((w64 ((l0.length : Int) - 1)).toNat) z_Pile_item__int64).x, (l0.getD ((w64 ((l0.length : Int) - 1)).toNat) z_Pile_item__int64).n⟩ : Pile_item__int64)).take (w64 ((l0.length : Int) - 1)).toNat)))] rfl ?_
              refine ent_seq ?_
              refine ent_region ?_
              refine ent_value (ov_move rfl) rfl rfl rfl ?_
              obtain ⟨x4, h4, H⟩ := Option.bind_eq_some_iff.1 H
              refine ent_op (ot_call (Lr := []) (first := []) (cap := []) (xs := [.tmp 40, .const (Value.int .i64 0)]) rfl rfl F_call_203 rfl (pile_Pile__int64_down.spec K p0 (subs sv0 0 (w64 ((l0.length : Int) - 1)).toNat 2) ((l0.set ((0 : Int).toNat) (⟨(l0.getD ((w64 ((l0.length : Int) - 1)).toNat) z_Pile_item__int64).x, (l0.getD ((w64 ((l0.length : Int) - 1)).toNat) z_Pile_item__int64).n⟩ : Pile_item__int64)).take (w64 ((l0.length : Int) - 1)).toNat) p0_2 0 _ h4) rfl) rfl rfl rfl ?_
              rintro _ _ ⟨_, ⟨rfl, rfl⟩, rfl⟩
              refine ent_nil ?_
              refine ent_seq ?_
              refine ent_region ?_
              refine ent_value (ov_move rfl) rfl rfl rfl ?_
              refine ent_value (ov_assign rfl) rfl rfl rfl ?_
              refine ent_value (ov_assign rfl) rfl rfl rfl ?_
              refine ent_nil ?_
              refine ent_retc ?_
              cases H
              exact ret_mem (vs := [(Value.int .i64 x3.1), (Value.bool true)]) rfl ⟨rfl, ⟨rfl, trivial⟩⟩ _ rfl ⟨_, rfl, rfl⟩
            · rw [if_neg c12] at H
              cases H
        · rw [if_neg c11] at H
          cases H
      · rw [if_neg c10] at H
        cases H
    · rw [if_neg c9] at H
      cases H

set_option maxRecDepth 100000 in
theorem pile_Pile__int64_Sorted.spec (K : Nat) (p0 : Nat) (sv0 : Value) (l0 : List Pile_item__int64) (p0_2 : Int) (r : List Int) (H : pile_Pile__int64_Sorted K l0 p0_2 = some r) : FnSpec Try.prog 127 [(pt p0 0)] [(box p0 229 [(Value.func (.func 69) #[] #[]), sv0, (Value.int .i64 p0_2)]), (own sv0 231 2 l0.length (fl enc_Pile_item__int64 l0))] (fun v M => ∃ sv13 : Value, v = sv13 ∧ M = [(box p0 229 [(Value.func (.func 69) #[] #[]), sv0, (Value.int .i64 p0_2)]), (own sv0 231 2 l0.length (fl enc_Pile_item__int64 l0)), (own sv13 2 1 r.length (fl (eI .i64) r))]) := by
  unfold pile_Pile__int64_Sorted at H
  refine spec_of Try.func127 rfl 36 rfl (Nat.le_of_ble_eq_true rfl) fun F w0 => ?_
  show Ent (St 36 w0 F [(0, (pt p0 0))] [(box p0 229 [(Value.func (.func 69) #[] #[]), sv0, (Value.int .i64 p0_2)]), (own sv0 231 2 l0.length (fl enc_Pile_item__int64 l0))]) _
  refine ent_seq ?_
  refine ent_region ?_
  refine ent_value (ov_assign rfl) rfl rfl rfl ?_
  refine ent_nil ?_
  refine ent_seq ?_
  refine ent_seq ?_
  refine ent_region ?_
  refine ent_value (ov_move rfl) rfl rfl rfl ?_
  refine ent_value (ov_bin rfl rfl (b_eql_of (fun w => rfl) rfl (eq_pn Try.underlying180 _ _))) rfl rfl rfl ?_
  refine ent_nil ?_
  refine ent_cond_false rfl rfl ?_
  refine ent_skip ?_
  refine ent_seq ?_
  by_cases c11 : (([] : List Pile_item__int64).length + l0.length) * 16 ≤ 140737488355328
  · rw [if_pos c11] at H
    refine ent_drawm 17 rfl (fun done a w => ∃ ga2 : Nat → Value, StD 36 w0 F [(0, (pt p0 0)), (2, (Value.slice none 0 0)), (6, (pt p0 0)), (7, (Value.bool false))] [(0, 8, (pt p0 0)), (1, 9, (pt p0 0)), (2, 10, (pt p0 0)), (3, 11, (Value.func (.func 69) #[] #[])), (4, 12, (ga2 4)), (5, 13, (pt p0 0)), (6, 14, (pt p0 0)), (7, 15, (pt p0 1)), (8, 16, sv0), (9, 17, (ga2 9)), (10, 18, (pt p0 0)), (11, 19, (pt p0 0)), (12, 20, (pt p0 2)), (13, 21, (Value.int .i64 p0_2)), (14, 22, (Value.agg #[(Value.func (.func 69) #[] #[]), (ga2 9), (Value.int .i64 p0_2)])), (15, 23, (pt (blk (ga2 15)) 0)), (16, 3, (pt (blk (ga2 15)) 0))] done [(sel (done 15) (box (blk (ga2 15)) 229 [(Value.func (.func 69) #[] #[]), (ga2 9), (Value.int .i64 p0_2)]) emp), (sel (done 9) (own (ga2 9) 231 2 (([] : List Pile_item__int64) ++ l0).length (fl enc_Pile_item__int64 (([] : List Pile_item__int64) ++ l0))) (sel (done 4) (own (ga2 4) 231 2 ([] : List Pile_item__int64).length (fl enc_Pile_item__int64 ([] : List Pile_item__int64))) emp)), (box p0 229 [(Value.func (.func 69) #[] #[]), sv0, (Value.int .i64 p0_2)]), (own sv0 231 2 l0.length (fl enc_Pile_item__int64 l0))] a w) (by kernel_rfl) (by kernel_rfl) (draw_startG (T := (fun ga2 : Nat → Value => [(0, 8, (pt p0 0)), (1, 9, (pt p0 0)), (2, 10, (pt p0 0)), (3, 11, (Value.func (.func 69) #[] #[])), (4, 12, (ga2 4)), (5, 13, (pt p0 0)), (6, 14, (pt p0 0)), (7, 15, (pt p0 1)), (8, 16, sv0), (9, 17, (ga2 9)), (10, 18, (pt p0 0)), (11, 19, (pt p0 0)), (12, 20, (pt p0 2)), (13, 21, (Value.int .i64 p0_2)), (14, 22, (Value.agg #[(Value.func (.func 69) #[] #[]), (ga2 9), (Value.int .i64 p0_2)])), (15, 23, (pt (blk (ga2 15)) 0)), (16, 3, (pt (blk (ga2 15)) 0))])) (L' := fun ga2 : Nat → Value => [(sel false (box (blk (ga2 15)) 229 [(Value.func (.func 69) #[] #[]), (ga2 9), (Value.int .i64 p0_2)]) emp), (sel false (own (ga2 9) 231 2 (([] : List Pile_item__int64) ++ l0).length (fl enc_Pile_item__int64 (([] : List Pile_item__int64) ++ l0))) (sel false (own (ga2 4) 231 2 ([] : List Pile_item__int64).length (fl enc_Pile_item__int64 ([] : List Pile_item__int64))) emp)), (box p0 229 [(Value.func (.func 69) #[] #[]), sv0, (Value.int .i64 p0_2)]), (own sv0 231 2 l0.length (fl enc_Pile_item__int64 l0))]) 2 (sub_cons (t := 0) rfl (sub_cons (t := 2) rfl (sub_cons (t := 6) rfl (sub_cons (t := 7) rfl (sub_nil _))))) (fun _ => rfl)) ?_ ?_
    · refine ⟨?_, ?_, ?_, ?_, ?_, ?_, ?_, ?_, ?_, ?_, ?_, ?_, ?_, ?_, ?_, ?_, ?_, trivial⟩
      · intro done hi hc hcu
        refine draw_exi (I := fun (ga2 : Nat → Value) done a w => StD 36 w0 F [(0, (pt p0 0)), (2, (Value.slice none 0 0)), (6, (pt p0 0)), (7, (Value.bool false))] [(0, 8, (pt p0 0)), (1, 9, (pt p0 0)), (2, 10, (pt p0 0)), (3, 11, (Value.func (.func 69) #[] #[])), (4, 12, (ga2 4)), (5, 13, (pt p0 0)), (6, 14, (pt p0 0)), (7, 15, (pt p0 1)), (8, 16, sv0), (9, 17, (ga2 9)), (10, 18, (pt p0 0)), (11, 19, (pt p0 0)), (12, 20, (pt p0 2)), (13, 21, (Value.int .i64 p0_2)), (14, 22, (Value.agg #[(Value.func (.func 69) #[] #[]), (ga2 9), (Value.int .i64 p0_2)])), (15, 23, (pt (blk (ga2 15)) 0)), (16, 3, (pt (blk (ga2 15)) 0))] done [(sel (done 15) (box (blk (ga2 15)) 229 [(Value.func (.func 69) #[] #[]), (ga2 9), (Value.int .i64 p0_2)]) emp), (sel (done 9) (own (ga2 9) 231 2 (([] : List Pile_item__int64) ++ l0).length (fl enc_Pile_item__int64 (([] : List Pile_item__int64) ++ l0))) (sel (done 4) (own (ga2 4) 231 2 ([] : List Pile_item__int64).length (fl enc_Pile_item__int64 ([] : List Pile_item__int64))) emp)), (box p0 229 [(Value.func (.func 69) #[] #[]), sv0, (Value.int .i64 p0_2)]), (own sv0 231 2 l0.length (fl enc_Pile_item__int64 l0))] a w) fun ga2 => ?_
        exact draw_value (i := 0) (t := 8) (v := (pt p0 0)) rfl rfl (wanted_none rfl) (fun a => hasA_base) (ov_move rfl) rfl rfl (onlyT_spec (k0 := 0) rfl rfl rfl)
      · intro done hi hc hcu
        refine draw_exi (I := fun (ga2 : Nat → Value) done a w => StD 36 w0 F [(0, (pt p0 0)), (2, (Value.slice none 0 0)), (6, (pt p0 0)), (7, (Value.bool false))] [(0, 8, (pt p0 0)), (1, 9, (pt p0 0)), (2, 10, (pt p0 0)), (3, 11, (Value.func (.func 69) #[] #[])), (4, 12, (ga2 4)), (5, 13, (pt p0 0)), (6, 14, (pt p0 0)), (7, 15, (pt p0 1)), (8, 16, sv0), (9, 17, (ga2 9)), (10, 18, (pt p0 0)), (11, 19, (pt p0 0)), (12, 20, (pt p0 2)), (13, 21, (Value.int .i64 p0_2)), (14, 22, (Value.agg #[(Value.func (.func 69) #[] #[]), (ga2 9), (Value.int .i64 p0_2)])), (15, 23, (pt (blk (ga2 15)) 0)), (16, 3, (pt (blk (ga2 15)) 0))] done [(sel (done 15) (box (blk (ga2 15)) 229 [(Value.func (.func 69) #[] #[]), (ga2 9), (Value.int .i64 p0_2)]) emp), (sel (done 9) (own (ga2 9) 231 2 (([] : List Pile_item__int64) ++ l0).length (fl enc_Pile_item__int64 (([] : List Pile_item__int64) ++ l0))) (sel (done 4) (own (ga2 4) 231 2 ([] : List Pile_item__int64).length (fl enc_Pile_item__int64 ([] : List Pile_item__int64))) emp)), (box p0 229 [(Value.func (.func 69) #[] #[]), sv0, (Value.int .i64 p0_2)]), (own sv0 231 2 l0.length (fl enc_Pile_item__int64 l0))] a w) fun ga2 => ?_
        have d0 : done 0 = true := done_of (j := 0) hcu rfl (by decide) rfl
        exact draw_value (i := 1) (t := 9) (v := (pt p0 0)) rfl rfl (wanted_none rfl) (fun a => (hasA_cons (k := 0) rfl d0 hasA_base)) (ov_nilCheck rfl) rfl rfl (onlyT_spec (k0 := 1) rfl rfl rfl)
      · intro done hi hc hcu
        refine draw_exi (I := fun (ga2 : Nat → Value) done a w => StD 36 w0 F [(0, (pt p0 0)), (2, (Value.slice none 0 0)), (6, (pt p0 0)), (7, (Value.bool false))] [(0, 8, (pt p0 0)), (1, 9, (pt p0 0)), (2, 10, (pt p0 0)), (3, 11, (Value.func (.func 69) #[] #[])), (4, 12, (ga2 4)), (5, 13, (pt p0 0)), (6, 14, (pt p0 0)), (7, 15, (pt p0 1)), (8, 16, sv0), (9, 17, (ga2 9)), (10, 18, (pt p0 0)), (11, 19, (pt p0 0)), (12, 20, (pt p0 2)), (13, 21, (Value.int .i64 p0_2)), (14, 22, (Value.agg #[(Value.func (.func 69) #[] #[]), (ga2 9), (Value.int .i64 p0_2)])), (15, 23, (pt (blk (ga2 15)) 0)), (16, 3, (pt (blk (ga2 15)) 0))] done [(sel (done 15) (box (blk (ga2 15)) 229 [(Value.func (.func 69) #[] #[]), (ga2 9), (Value.int .i64 p0_2)]) emp), (sel (done 9) (own (ga2 9) 231 2 (([] : List Pile_item__int64) ++ l0).length (fl enc_Pile_item__int64 (([] : List Pile_item__int64) ++ l0))) (sel (done 4) (own (ga2 4) 231 2 ([] : List Pile_item__int64).length (fl enc_Pile_item__int64 ([] : List Pile_item__int64))) emp)), (box p0 229 [(Value.func (.func 69) #[] #[]), sv0, (Value.int .i64 p0_2)]), (own sv0 231 2 l0.length (fl enc_Pile_item__int64 l0))] a w) fun ga2 => ?_
        have d1 : done 1 = true := done_of (j := 1) hcu rfl (by decide) rfl
        exact draw_value (i := 2) (t := 10) (v := (pt p0 0)) rfl rfl (wanted_none rfl) (fun a => (hasA_cons (k := 1) rfl d1 hasA_base)) (ov_fieldAddr (sz := 0) (o := 0) rfl F_field_229_0 F_size_98) rfl rfl (onlyT_spec (k0 := 2) rfl rfl rfl)
      · intro done hi hc hcu
        refine draw_exi (I := fun (ga2 : Nat → Value) done a w => StD 36 w0 F [(0, (pt p0 0)), (2, (Value.slice none 0 0)), (6, (pt p0 0)), (7, (Value.bool false))] [(0, 8, (pt p0 0)), (1, 9, (pt p0 0)), (2, 10, (pt p0 0)), (3, 11, (Value.func (.func 69) #[] #[])), (4, 12, (ga2 4)), (5, 13, (pt p0 0)), (6, 14, (pt p0 0)), (7, 15, (pt p0 1)), (8, 16, sv0), (9, 17, (ga2 9)), (10, 18, (pt p0 0)), (11, 19, (pt p0 0)), (12, 20, (pt p0 2)), (13, 21, (Value.int .i64 p0_2)), (14, 22, (Value.agg #[(Value.func (.func 69) #[] #[]), (ga2 9), (Value.int .i64 p0_2)])), (15, 23, (pt (blk (ga2 15)) 0)), (16, 3, (pt (blk (ga2 15)) 0))] done [(sel (done 15) (box (blk (ga2 15)) 229 [(Value.func (.func 69) #[] #[]), (ga2 9), (Value.int .i64 p0_2)]) emp), (sel (done 9) (own (ga2 9) 231 2 (([] : List Pile_item__int64) ++ l0).length (fl enc_Pile_item__int64 (([] : List Pile_item__int64) ++ l0))) (sel (done 4) (own (ga2 4) 231 2 ([] : List Pile_item__int64).length (fl enc_Pile_item__int64 ([] : List Pile_item__int64))) emp)), (box p0 229 [(Value.func (.func 69) #[] #[]), sv0, (Value.int .i64 p0_2)]), (own sv0 231 2 l0.length (fl enc_Pile_item__int64 l0))] a w) fun ga2 => ?_
        have d2 : done 2 = true := done_of (j := 2) hcu rfl (by decide) rfl
        exact draw_value (i := 3) (t := 11) (v := (Value.func (.func 69) #[] #[])) rfl rfl (wanted_none rfl) (fun a => (hasA_cons (k := 2) rfl d2 hasA_base)) (ov_load (v := (Value.func (.func 69) #[] #[])) rfl F_agg_98 (reads_box1 (i := 2) rfl rfl)) rfl rfl (onlyT_spec (k0 := 3) rfl rfl rfl)
      · intro done hi hc hcu
        refine ent_exi (S := fun ga2 => (fun (ga2 : Nat → Value) done a w => StD 36 w0 F [(0, (pt p0 0)), (2, (Value.slice none 0 0)), (6, (pt p0 0)), (7, (Value.bool false))] [(0, 8, (pt p0 0)), (1, 9, (pt p0 0)), (2, 10, (pt p0 0)), (3, 11, (Value.func (.func 69) #[] #[])), (4, 12, (ga2 4)), (5, 13, (pt p0 0)), (6, 14, (pt p0 0)), (7, 15, (pt p0 1)), (8, 16, sv0), (9, 17, (ga2 9)), (10, 18, (pt p0 0)), (11, 19, (pt p0 0)), (12, 20, (pt p0 2)), (13, 21, (Value.int .i64 p0_2)), (14, 22, (Value.agg #[(Value.func (.func 69) #[] #[]), (ga2 9), (Value.int .i64 p0_2)])), (15, 23, (pt (blk (ga2 15)) 0)), (16, 3, (pt (blk (ga2 15)) 0))] done [(sel (done 15) (box (blk (ga2 15)) 229 [(Value.func (.func 69) #[] #[]), (ga2 9), (Value.int .i64 p0_2)]) emp), (sel (done 9) (own (ga2 9) 231 2 (([] : List Pile_item__int64) ++ l0).length (fl enc_Pile_item__int64 (([] : List Pile_item__int64) ++ l0))) (sel (done 4) (own (ga2 4) 231 2 ([] : List Pile_item__int64).length (fl enc_Pile_item__int64 ([] : List Pile_item__int64))) emp)), (box p0 229 [(Value.func (.func 69) #[] #[]), sv0, (Value.int .i64 p0_2)]), (own sv0 231 2 l0.length (fl enc_Pile_item__int64 l0))] a w) ga2 done) fun ga2 => ?_
        have n9 : done 9 = false := notdone_of (m := 9) hc hi rfl rfl
        refine draw_newV (i := 4) (t := 12) (x := ga2) (L := (fun (ga2 : Nat → Value) (done : Nat → Bool) => [(sel (done 15) (box (blk (ga2 15)) 229 [(Value.func (.func 69) #[] #[]), (ga2 9), (Value.int .i64 p0_2)]) emp), (sel (done 9) (own (ga2 9) 231 2 (([] : List Pile_item__int64) ++ l0).length (fl enc_Pile_item__int64 (([] : List Pile_item__int64) ++ l0))) (sel (done 4) (own (ga2 4) 231 2 ([] : List Pile_item__int64).length (fl enc_Pile_item__int64 ([] : List Pile_item__int64))) emp)), (box p0 229 [(Value.func (.func 69) #[] #[]), sv0, (Value.int .i64 p0_2)]), (own sv0 231 2 l0.length (fl enc_Pile_item__int64 l0))])) (T := (fun ga2 : Nat → Value => [(0, 8, (pt p0 0)), (1, 9, (pt p0 0)), (2, 10, (pt p0 0)), (3, 11, (Value.func (.func 69) #[] #[])), (4, 12, (ga2 4)), (5, 13, (pt p0 0)), (6, 14, (pt p0 0)), (7, 15, (pt p0 1)), (8, 16, sv0), (9, 17, (ga2 9)), (10, 18, (pt p0 0)), (11, 19, (pt p0 0)), (12, 20, (pt p0 2)), (13, 21, (Value.int .i64 p0_2)), (14, 22, (Value.agg #[(Value.func (.func 69) #[] #[]), (ga2 9), (Value.int .i64 p0_2)])), (15, 23, (pt (blk (ga2 15)) 0)), (16, 3, (pt (blk (ga2 15)) 0))])) (L2 := [(sel (done 15) (box (blk (ga2 15)) 229 [(Value.func (.func 69) #[] #[]), (ga2 9), (Value.int .i64 p0_2)]) emp), emp, (box p0 229 [(Value.func (.func 69) #[] #[]), sv0, (Value.int .i64 p0_2)]), (own sv0 231 2 l0.length (fl enc_Pile_item__int64 l0))]) (B := fun v_ => (own v_ 231 2 ([] : List Pile_item__int64).length (fl enc_Pile_item__int64 ([] : List Pile_item__int64)))) 1 rfl rfl (wanted_none rfl) (fun a => hasA_base) (by simp only [n9, hi, sel]) (ot_buildSlice (sz := 1) (xs := []) (cs := fl enc_Pile_item__int64 ([] : List Pile_item__int64)) rfl rfl F_slice_227 F_size_231 F_zero_231 rfl rfl (all_size rfl) rfl (by decide)) ?_ rfl (fun v_ => ?_) rfl rfl ?_
        · rintro _ _ rfl; rfl
        · simp [up, upb, sel, n9, hi]
        · rintro _ _ rfl
          exact (tr_same rfl rfl (tr_same rfl rfl (tr_same rfl rfl (tr_same rfl rfl (tr_this (tr_same rfl rfl (tr_same rfl rfl (tr_same rfl rfl (tr_same rfl rfl (tr_same rfl rfl (tr_same rfl rfl (tr_same rfl rfl (tr_same rfl rfl (tr_same rfl rfl (tr_same rfl rfl (tr_same rfl rfl (tr_same rfl rfl tr_nil)))))))))))))))))
      · intro done hi hc hcu
        refine draw_exi (I := fun (ga2 : Nat → Value) done a w => StD 36 w0 F [(0, (pt p0 0)), (2, (Value.slice none 0 0)), (6, (pt p0 0)), (7, (Value.bool false))] [(0, 8, (pt p0 0)), (1, 9, (pt p0 0)), (2, 10, (pt p0 0)), (3, 11, (Value.func (.func 69) #[] #[])), (4, 12, (ga2 4)), (5, 13, (pt p0 0)), (6, 14, (pt p0 0)), (7, 15, (pt p0 1)), (8, 16, sv0), (9, 17, (ga2 9)), (10, 18, (pt p0 0)), (11, 19, (pt p0 0)), (12, 20, (pt p0 2)), (13, 21, (Value.int .i64 p0_2)), (14, 22, (Value.agg #[(Value.func (.func 69) #[] #[]), (ga2 9), (Value.int .i64 p0_2)])), (15, 23, (pt (blk (ga2 15)) 0)), (16, 3, (pt (blk (ga2 15)) 0))] done [(sel (done 15) (box (blk (ga2 15)) 229 [(Value.func (.func 69) #[] #[]), (ga2 9), (Value.int .i64 p0_2)]) emp), (sel (done 9) (own (ga2 9) 231 2 (([] : List Pile_item__int64) ++ l0).length (fl enc_Pile_item__int64 (([] : List Pile_item__int64) ++ l0))) (sel (done 4) (own (ga2 4) 231 2 ([] : List Pile_item__int64).length (fl enc_Pile_item__int64 ([] : List Pile_item__int64))) emp)), (box p0 229 [(Value.func (.func 69) #[] #[]), sv0, (Value.int .i64 p0_2)]), (own sv0 231 2 l0.length (fl enc_Pile_item__int64 l0))] a w) fun ga2 => ?_
        exact draw_value (i := 5) (t := 13) (v := (pt p0 0)) rfl rfl (wanted_none rfl) (fun a => hasA_base) (ov_move rfl) rfl rfl (onlyT_spec (k0 := 5) rfl rfl rfl)
      · intro done hi hc hcu
        refine draw_exi (I := fun (ga2 : Nat → Value) done a w => StD 36 w0 F [(0, (pt p0 0)), (2, (Value.slice none 0 0)), (6, (pt p0 0)), (7, (Value.bool false))] [(0, 8, (pt p0 0)), (1, 9, (pt p0 0)), (2, 10, (pt p0 0)), (3, 11, (Value.func (.func 69) #[] #[])), (4, 12, (ga2 4)), (5, 13, (pt p0 0)), (6, 14, (pt p0 0)), (7, 15, (pt p0 1)), (8, 16, sv0), (9, 17, (ga2 9)), (10, 18, (pt p0 0)), (11, 19, (pt p0 0)), (12, 20, (pt p0 2)), (13, 21, (Value.int .i64 p0_2)), (14, 22, (Value.agg #[(Value.func (.func 69) #[] #[]), (ga2 9), (Value.int .i64 p0_2)])), (15, 23, (pt (blk (ga2 15)) 0)), (16, 3, (pt (blk (ga2 15)) 0))] done [(sel (done 15) (box (blk (ga2 15)) 229 [(Value.func (.func 69) #[] #[]), (ga2 9), (Value.int .i64 p0_2)]) emp), (sel (done 9) (own (ga2 9) 231 2 (([] : List Pile_item__int64) ++ l0).length (fl enc_Pile_item__int64 (([] : List Pile_item__int64) ++ l0))) (sel (done 4) (own (ga2 4) 231 2 ([] : List Pile_item__int64).length (fl enc_Pile_item__int64 ([] : List Pile_item__int64))) emp)), (box p0 229 [(Value.func (.func 69) #[] #[]), sv0, (Value.int .i64 p0_2)]), (own sv0 231 2 l0.length (fl enc_Pile_item__int64 l0))] a w) fun ga2 => ?_
        have d5 : done 5 = true := done_of (j := 5) hcu rfl (by decide) rfl
        exact draw_value (i := 6) (t := 14) (v := (pt p0 0)) rfl rfl (wanted_none rfl) (fun a => (hasA_cons (k := 5) rfl d5 hasA_base)) (ov_nilCheck rfl) rfl rfl (onlyT_spec (k0 := 6) rfl rfl rfl)
      · intro done hi hc hcu
        refine draw_exi (I := fun (ga2 : Nat → Value) done a w => StD 36 w0 F [(0, (pt p0 0)), (2, (Value.slice none 0 0)), (6, (pt p0 0)), (7, (Value.bool false))] [(0, 8, (pt p0 0)), (1, 9, (pt p0 0)), (2, 10, (pt p0 0)), (3, 11, (Value.func (.func 69) #[] #[])), (4, 12, (ga2 4)), (5, 13, (pt p0 0)), (6, 14, (pt p0 0)), (7, 15, (pt p0 1)), (8, 16, sv0), (9, 17, (ga2 9)), (10, 18, (pt p0 0)), (11, 19, (pt p0 0)), (12, 20, (pt p0 2)), (13, 21, (Value.int .i64 p0_2)), (14, 22, (Value.agg #[(Value.func (.func 69) #[] #[]), (ga2 9), (Value.int .i64 p0_2)])), (15, 23, (pt (blk (ga2 15)) 0)), (16, 3, (pt (blk (ga2 15)) 0))] done [(sel (done 15) (box (blk (ga2 15)) 229 [(Value.func (.func 69) #[] #[]), (ga2 9), (Value.int .i64 p0_2)]) emp), (sel (done 9) (own (ga2 9) 231 2 (([] : List Pile_item__int64) ++ l0).length (fl enc_Pile_item__int64 (([] : List Pile_item__int64) ++ l0))) (sel (done 4) (own (ga2 4) 231 2 ([] : List Pile_item__int64).length (fl enc_Pile_item__int64 ([] : List Pile_item__int64))) emp)), (box p0 229 [(Value.func (.func 69) #[] #[]), sv0, (Value.int .i64 p0_2)]), (own sv0 231 2 l0.length (fl enc_Pile_item__int64 l0))] a w) fun ga2 => ?_
        have d6 : done 6 = true := done_of (j := 6) hcu rfl (by decide) rfl
        exact draw_value (i := 7) (t := 15) (v := (pt p0 1)) rfl rfl (wanted_none rfl) (fun a => (hasA_cons (k := 6) rfl d6 hasA_base)) (ov_fieldAddr (sz := 0) (o := 0) rfl F_field_229_1 F_size_227) rfl rfl (onlyT_spec (k0 := 7) rfl rfl rfl)
      · intro done hi hc hcu
        refine draw_exi (I := fun (ga2 : Nat → Value) done a w => StD 36 w0 F [(0, (pt p0 0)), (2, (Value.slice none 0 0)), (6, (pt p0 0)), (7, (Value.bool false))] [(0, 8, (pt p0 0)), (1, 9, (pt p0 0)), (2, 10, (pt p0 0)), (3, 11, (Value.func (.func 69) #[] #[])), (4, 12, (ga2 4)), (5, 13, (pt p0 0)), (6, 14, (pt p0 0)), (7, 15, (pt p0 1)), (8, 16, sv0), (9, 17, (ga2 9)), (10, 18, (pt p0 0)), (11, 19, (pt p0 0)), (12, 20, (pt p0 2)), (13, 21, (Value.int .i64 p0_2)), (14, 22, (Value.agg #[(Value.func (.func 69) #[] #[]), (ga2 9), (Value.int .i64 p0_2)])), (15, 23, (pt (blk (ga2 15)) 0)), (16, 3, (pt (blk (ga2 15)) 0))] done [(sel (done 15) (box (blk (ga2 15)) 229 [(Value.func (.func 69) #[] #[]), (ga2 9), (Value.int .i64 p0_2)]) emp), (sel (done 9) (own (ga2 9) 231 2 (([] : List Pile_item__int64) ++ l0).length (fl enc_Pile_item__int64 (([] : List Pile_item__int64) ++ l0))) (sel (done 4) (own (ga2 4) 231 2 ([] : List Pile_item__int64).length (fl enc_Pile_item__int64 ([] : List Pile_item__int64))) emp)), (box p0 229 [(Value.func (.func 69) #[] #[]), sv0, (Value.int .i64 p0_2)]), (own sv0 231 2 l0.length (fl enc_Pile_item__int64 l0))] a w) fun ga2 => ?_
        have d7 : done 7 = true := done_of (j := 7) hcu rfl (by decide) rfl
        exact draw_value (i := 8) (t := 16) (v := sv0) rfl rfl (wanted_none rfl) (fun a => (hasA_cons (k := 7) rfl d7 hasA_base)) (ov_load (v := sv0) rfl F_agg_227 (reads_box1 (i := 2) rfl rfl)) rfl rfl (onlyT_spec (k0 := 8) rfl rfl rfl)
      · intro done hi hc hcu
        refine ent_exi (S := fun ga2 => (fun (ga2 : Nat → Value) done a w => StD 36 w0 F [(0, (pt p0 0)), (2, (Value.slice none 0 0)), (6, (pt p0 0)), (7, (Value.bool false))] [(0, 8, (pt p0 0)), (1, 9, (pt p0 0)), (2, 10, (pt p0 0)), (3, 11, (Value.func (.func 69) #[] #[])), (4, 12, (ga2 4)), (5, 13, (pt p0 0)), (6, 14, (pt p0 0)), (7, 15, (pt p0 1)), (8, 16, sv0), (9, 17, (ga2 9)), (10, 18, (pt p0 0)), (11, 19, (pt p0 0)), (12, 20, (pt p0 2)), (13, 21, (Value.int .i64 p0_2)), (14, 22, (Value.agg #[(Value.func (.func 69) #[] #[]), (ga2 9), (Value.int .i64 p0_2)])), (15, 23, (pt (blk (ga2 15)) 0)), (16, 3, (pt (blk (ga2 15)) 0))] done [(sel (done 15) (box (blk (ga2 15)) 229 [(Value.func (.func 69) #[] #[]), (ga2 9), (Value.int .i64 p0_2)]) emp), (sel (done 9) (own (ga2 9) 231 2 (([] : List Pile_item__int64) ++ l0).length (fl enc_Pile_item__int64 (([] : List Pile_item__int64) ++ l0))) (sel (done 4) (own (ga2 4) 231 2 ([] : List Pile_item__int64).length (fl enc_Pile_item__int64 ([] : List Pile_item__int64))) emp)), (box p0 229 [(Value.func (.func 69) #[] #[]), sv0, (Value.int .i64 p0_2)]), (own sv0 231 2 l0.length (fl enc_Pile_item__int64 l0))] a w) ga2 done) fun ga2 => ?_
        have d4 : done 4 = true := done_of (j := 4) hcu rfl (by decide) rfl
        have d8 : done 8 = true := done_of (j := 8) hcu rfl (by decide) rfl
        have n14 : done 14 = false := notdone_of (m := 14) hc hi rfl rfl
        have n15 : done 15 = false := notdone_of (m := 15) hc n14 rfl rfl
        exact draw_turnI (i := 9) (t := 17) (x := ga2) (L := (fun (ga2 : Nat → Value) (done : Nat → Bool) => [(sel (done 15) (box (blk (ga2 15)) 229 [(Value.func (.func 69) #[] #[]), (ga2 9), (Value.int .i64 p0_2)]) emp), (sel (done 9) (own (ga2 9) 231 2 (([] : List Pile_item__int64) ++ l0).length (fl enc_Pile_item__int64 (([] : List Pile_item__int64) ++ l0))) (sel (done 4) (own (ga2 4) 231 2 ([] : List Pile_item__int64).length (fl enc_Pile_item__int64 ([] : List Pile_item__int64))) emp)), (box p0 229 [(Value.func (.func 69) #[] #[]), sv0, (Value.int .i64 p0_2)]), (own sv0 231 2 l0.length (fl enc_Pile_item__int64 l0))])) (T := (fun ga2 : Nat → Value => [(0, 8, (pt p0 0)), (1, 9, (pt p0 0)), (2, 10, (pt p0 0)), (3, 11, (Value.func (.func 69) #[] #[])), (4, 12, (ga2 4)), (5, 13, (pt p0 0)), (6, 14, (pt p0 0)), (7, 15, (pt p0 1)), (8, 16, sv0), (9, 17, (ga2 9)), (10, 18, (pt p0 0)), (11, 19, (pt p0 0)), (12, 20, (pt p0 2)), (13, 21, (Value.int .i64 p0_2)), (14, 22, (Value.agg #[(Value.func (.func 69) #[] #[]), (ga2 9), (Value.int .i64 p0_2)])), (15, 23, (pt (blk (ga2 15)) 0)), (16, 3, (pt (blk (ga2 15)) 0))])) (L2 := [emp, (own (ga2 4) 231 2 ([] : List Pile_item__int64).length (fl enc_Pile_item__int64 ([] : List Pile_item__int64))), (box p0 229 [(Value.func (.func 69) #[] #[]), sv0, (Value.int .i64 p0_2)]), (own sv0 231 2 l0.length (fl enc_Pile_item__int64 l0))]) rfl rfl (wanted_none rfl) (fun a => (hasA_cons (k := 8) rfl d8 (hasA_cons (k := 4) rfl d4 hasA_base))) (by simp only [d4, n15, hi, sel]) (ot_appendx (sz := 1) (xs := ([] : List Pile_item__int64)) (ys := l0) 1 3 rfl rfl F_slice_227 F_size_231 F_zero_231 rfl F_bytes_231 rfl rfl rfl (isRd_ownx 231) rfl enc_Pile_item__int64_one c11) rfl rfl fun v_ M_ hM_ => ⟨upb ga2 9 v_, hM_.trans (show [emp, (own v_ 231 2 (([] : List Pile_item__int64) ++ l0).length (fl enc_Pile_item__int64 (([] : List Pile_item__int64) ++ l0))), (box p0 229 [(Value.func (.func 69) #[] #[]), sv0, (Value.int .i64 p0_2)]), (own sv0 231 2 l0.length (fl enc_Pile_item__int64 l0))] = _ by simp [up, upb, sel, d4, n15, n15, hi]), (tr_same rfl rfl (tr_same rfl rfl (tr_same rfl rfl (tr_same rfl rfl (tr_same rfl rfl (tr_same rfl rfl (tr_same rfl rfl (tr_same rfl rfl (tr_same rfl rfl (tr_this (tr_same rfl rfl (tr_same rfl rfl (tr_same rfl rfl (tr_same rfl rfl (tr_nd n14 rfl rfl (tr_same rfl rfl (tr_same rfl rfl tr_nil)))))))))))))))))⟩
      · intro done hi hc hcu
        refine draw_exi (I := fun (ga2 : Nat → Value) done a w => StD 36 w0 F [(0, (pt p0 0)), (2, (Value.slice none 0 0)), (6, (pt p0 0)), (7, (Value.bool false))] [(0, 8, (pt p0 0)), (1, 9, (pt p0 0)), (2, 10, (pt p0 0)), (3, 11, (Value.func (.func 69) #[] #[])), (4, 12, (ga2 4)), (5, 13, (pt p0 0)), (6, 14, (pt p0 0)), (7, 15, (pt p0 1)), (8, 16, sv0), (9, 17, (ga2 9)), (10, 18, (pt p0 0)), (11, 19, (pt p0 0)), (12, 20, (pt p0 2)), (13, 21, (Value.int .i64 p0_2)), (14, 22, (Value.agg #[(Value.func (.func 69) #[] #[]), (ga2 9), (Value.int .i64 p0_2)])), (15, 23, (pt (blk (ga2 15)) 0)), (16, 3, (pt (blk (ga2 15)) 0))] done [(sel (done 15) (box (blk (ga2 15)) 229 [(Value.func (.func 69) #[] #[]), (ga2 9), (Value.int .i64 p0_2)]) emp), (sel (done 9) (own (ga2 9) 231 2 (([] : List Pile_item__int64) ++ l0).length (fl enc_Pile_item__int64 (([] : List Pile_item__int64) ++ l0))) (sel (done 4) (own (ga2 4) 231 2 ([] : List Pile_item__int64).length (fl enc_Pile_item__int64 ([] : List Pile_item__int64))) emp)), (box p0 229 [(Value.func (.func 69) #[] #[]), sv0, (Value.int .i64 p0_2)]), (own sv0 231 2 l0.length (fl enc_Pile_item__int64 l0))] a w) fun ga2 => ?_
        exact draw_value (i := 10) (t := 18) (v := (pt p0 0)) rfl rfl (wanted_none rfl) (fun a => hasA_base) (ov_move rfl) rfl rfl (onlyT_spec (k0 := 10) rfl rfl rfl)
      · intro done hi hc hcu
        refine draw_exi (I := fun (ga2 : Nat → Value) done a w => StD 36 w0 F [(0, (pt p0 0)), (2, (Value.slice none 0 0)), (6, (pt p0 0)), (7, (Value.bool false))] [(0, 8, (pt p0 0)), (1, 9, (pt p0 0)), (2, 10, (pt p0 0)), (3, 11, (Value.func (.func 69) #[] #[])), (4, 12, (ga2 4)), (5, 13, (pt p0 0)), (6, 14, (pt p0 0)), (7, 15, (pt p0 1)), (8, 16, sv0), (9, 17, (ga2 9)), (10, 18, (pt p0 0)), (11, 19, (pt p0 0)), (12, 20, (pt p0 2)), (13, 21, (Value.int .i64 p0_2)), (14, 22, (Value.agg #[(Value.func (.func 69) #[] #[]), (ga2 9), (Value.int .i64 p0_2)])), (15, 23, (pt (blk (ga2 15)) 0)), (16, 3, (pt (blk (ga2 15)) 0))] done [(sel (done 15) (box (blk (ga2 15)) 229 [(Value.func (.func 69) #[] #[]), (ga2 9), (Value.int .i64 p0_2)]) emp), (sel (done 9) (own (ga2 9) 231 2 (([] : List Pile_item__int64) ++ l0).length (fl enc_Pile_item__int64 (([] : List Pile_item__int64) ++ l0))) (sel (done 4) (own (ga2 4) 231 2 ([] : List Pile_item__int64).length (fl enc_Pile_item__int64 ([] : List Pile_item__int64))) emp)), (box p0 229 [(Value.func (.func 69) #[] #[]), sv0, (Value.int .i64 p0_2)]), (own sv0 231 2 l0.length (fl enc_Pile_item__int64 l0))] a w) fun ga2 => ?_
        have d10 : done 10 = true := done_of (j := 10) hcu rfl (by decide) rfl
        exact draw_value (i := 11) (t := 19) (v := (pt p0 0)) rfl rfl (wanted_none rfl) (fun a => (hasA_cons (k := 10) rfl d10 hasA_base)) (ov_nilCheck rfl) rfl rfl (onlyT_spec (k0 := 11) rfl rfl rfl)
      · intro done hi hc hcu
        refine draw_exi (I := fun (ga2 : Nat → Value) done a w => StD 36 w0 F [(0, (pt p0 0)), (2, (Value.slice none 0 0)), (6, (pt p0 0)), (7, (Value.bool false))] [(0, 8, (pt p0 0)), (1, 9, (pt p0 0)), (2, 10, (pt p0 0)), (3, 11, (Value.func (.func 69) #[] #[])), (4, 12, (ga2 4)), (5, 13, (pt p0 0)), (6, 14, (pt p0 0)), (7, 15, (pt p0 1)), (8, 16, sv0), (9, 17, (ga2 9)), (10, 18, (pt p0 0)), (11, 19, (pt p0 0)), (12, 20, (pt p0 2)), (13, 21, (Value.int .i64 p0_2)), (14, 22, (Value.agg #[(Value.func (.func 69) #[] #[]), (ga2 9), (Value.int .i64 p0_2)])), (15, 23, (pt (blk (ga2 15)) 0)), (16, 3, (pt (blk (ga2 15)) 0))] done [(sel (done 15) (box (blk (ga2 15)) 229 [(Value.func (.func 69) #[] #[]), (ga2 9), (Value.int .i64 p0_2)]) emp), (sel (done 9) (own (ga2 9) 231 2 (([] : List Pile_item__int64) ++ l0).length (fl enc_Pile_item__int64 (([] : List Pile_item__int64) ++ l0))) (sel (done 4) (own (ga2 4) 231 2 ([] : List Pile_item__int64).length (fl enc_Pile_item__int64 ([] : List Pile_item__int64))) emp)), (box p0 229 [(Value.func (.func 69) #[] #[]), sv0, (Value.int .i64 p0_2)]), (own sv0 231 2 l0.length (fl enc_Pile_item__int64 l0))] a w) fun ga2 => ?_
        have d11 : done 11 = true := done_of (j := 11) hcu rfl (by decide) rfl
        exact draw_value (i := 12) (t := 20) (v := (pt p0 2)) rfl rfl (wanted_none rfl) (fun a => (hasA_cons (k := 11) rfl d11 hasA_base)) (ov_fieldAddr (sz := 0) (o := 0) rfl F_field_229_2 F_size_3) rfl rfl (onlyT_spec (k0 := 12) rfl rfl rfl)
      · intro done hi hc hcu
        refine draw_exi (I := fun (ga2 : Nat → Value) done a w => StD 36 w0 F [(0, (pt p0 0)), (2, (Value.slice none 0 0)), (6, (pt p0 0)), (7, (Value.bool false))] [(0, 8, (pt p0 0)), (1, 9, (pt p0 0)), (2, 10, (pt p0 0)), (3, 11, (Value.func (.func 69) #[] #[])), (4, 12, (ga2 4)), (5, 13, (pt p0 0)), (6, 14, (pt p0 0)), (7, 15, (pt p0 1)), (8, 16, sv0), (9, 17, (ga2 9)), (10, 18, (pt p0 0)), (11, 19, (pt p0 0)), (12, 20, (pt p0 2)), (13, 21, (Value.int .i64 p0_2)), (14, 22, (Value.agg #[(Value.func (.func 69) #[] #[]), (ga2 9), (Value.int .i64 p0_2)])), (15, 23, (pt (blk (ga2 15)) 0)), (16, 3, (pt (blk (ga2 15)) 0))] done [(sel (done 15) (box (blk (ga2 15)) 229 [(Value.func (.func 69) #[] #[]), (ga2 9), (Value.int .i64 p0_2)]) emp), (sel (done 9) (own (ga2 9) 231 2 (([] : List Pile_item__int64) ++ l0).length (fl enc_Pile_item__int64 (([] : List Pile_item__int64) ++ l0))) (sel (done 4) (own (ga2 4) 231 2 ([] : List Pile_item__int64).length (fl enc_Pile_item__int64 ([] : List Pile_item__int64))) emp)), (box p0 229 [(Value.func (.func 69) #[] #[]), sv0, (Value.int .i64 p0_2)]), (own sv0 231 2 l0.length (fl enc_Pile_item__int64 l0))] a w) fun ga2 => ?_
        have d12 : done 12 = true := done_of (j := 12) hcu rfl (by decide) rfl
        exact draw_value (i := 13) (t := 21) (v := (Value.int .i64 p0_2)) rfl rfl (wanted_none rfl) (fun a => (hasA_cons (k := 12) rfl d12 hasA_base)) (ov_load (v := (Value.int .i64 p0_2)) rfl F_agg_3 (reads_box1 (i := 2) rfl rfl)) rfl rfl (onlyT_spec (k0 := 13) rfl rfl rfl)
      · intro done hi hc hcu
        refine draw_exi (I := fun (ga2 : Nat → Value) done a w => StD 36 w0 F [(0, (pt p0 0)), (2, (Value.slice none 0 0)), (6, (pt p0 0)), (7, (Value.bool false))] [(0, 8, (pt p0 0)), (1, 9, (pt p0 0)), (2, 10, (pt p0 0)), (3, 11, (Value.func (.func 69) #[] #[])), (4, 12, (ga2 4)), (5, 13, (pt p0 0)), (6, 14, (pt p0 0)), (7, 15, (pt p0 1)), (8, 16, sv0), (9, 17, (ga2 9)), (10, 18, (pt p0 0)), (11, 19, (pt p0 0)), (12, 20, (pt p0 2)), (13, 21, (Value.int .i64 p0_2)), (14, 22, (Value.agg #[(Value.func (.func 69) #[] #[]), (ga2 9), (Value.int .i64 p0_2)])), (15, 23, (pt (blk (ga2 15)) 0)), (16, 3, (pt (blk (ga2 15)) 0))] done [(sel (done 15) (box (blk (ga2 15)) 229 [(Value.func (.func 69) #[] #[]), (ga2 9), (Value.int .i64 p0_2)]) emp), (sel (done 9) (own (ga2 9) 231 2 (([] : List Pile_item__int64) ++ l0).length (fl enc_Pile_item__int64 (([] : List Pile_item__int64) ++ l0))) (sel (done 4) (own (ga2 4) 231 2 ([] : List Pile_item__int64).length (fl enc_Pile_item__int64 ([] : List Pile_item__int64))) emp)), (box p0 229 [(Value.func (.func 69) #[] #[]), sv0, (Value.int .i64 p0_2)]), (own sv0 231 2 l0.length (fl enc_Pile_item__int64 l0))] a w) fun ga2 => ?_
        have d3 : done 3 = true := done_of (j := 3) hcu rfl (by decide) rfl
        have d9 : done 9 = true := done_of (j := 9) hcu rfl (by decide) rfl
        have d13 : done 13 = true := done_of (j := 13) hcu rfl (by decide) rfl
        have d4 : done 4 = true := done_step (i := 9) (j := 4) hc d9 rfl rfl
        exact draw_value (i := 14) (t := 22) (v := (Value.agg #[(Value.func (.func 69) #[] #[]), (ga2 9), (Value.int .i64 p0_2)])) rfl rfl (wanted_none rfl) (fun a => (hasA_cons (k := 13) rfl d13 (hasA_cons (k := 9) rfl d9 (hasA_cons (k := 3) rfl d3 hasA_base)))) (ov_L (L2 := [(sel (done 15) (box (blk (ga2 15)) 229 [(Value.func (.func 69) #[] #[]), (ga2 9), (Value.int .i64 p0_2)]) emp), (own (ga2 9) 231 2 (([] : List Pile_item__int64) ++ l0).length (fl enc_Pile_item__int64 (([] : List Pile_item__int64) ++ l0))), (box p0 229 [(Value.func (.func 69) #[] #[]), sv0, (Value.int .i64 p0_2)]), (own sv0 231 2 l0.length (fl enc_Pile_item__int64 l0))]) (by simp only [d4, d9, sel]) (ov_sl 1 rfl (isRd_ownx 231) fun hc0_ => (ov_build (is := [0, 1, 2]) (xs := [.tmp 11, .tmp 17, .tmp 21]) (vs := [(Value.func (.func 69) #[] #[]), (ga2 9), (Value.int .i64 p0_2)]) rfl rfl (build_struct (cs := [(Value.func (.func 69) #[] #[]), (ga2 9), (Value.int .i64 p0_2)]) F_zero_229 F_places_229 (by simp [Instr.fill, cells_int, cells_bool, cells_str, cells_func, cells_slice, cells_ptr, cells_nilFunc, cells_agg, hc0_]))))) rfl rfl (onlyT_spec (k0 := 14) rfl rfl rfl)
      · intro done hi hc hcu
        refine ent_exi (S := fun ga2 => (fun (ga2 : Nat → Value) done a w => StD 36 w0 F [(0, (pt p0 0)), (2, (Value.slice none 0 0)), (6, (pt p0 0)), (7, (Value.bool false))] [(0, 8, (pt p0 0)), (1, 9, (pt p0 0)), (2, 10, (pt p0 0)), (3, 11, (Value.func (.func 69) #[] #[])), (4, 12, (ga2 4)), (5, 13, (pt p0 0)), (6, 14, (pt p0 0)), (7, 15, (pt p0 1)), (8, 16, sv0), (9, 17, (ga2 9)), (10, 18, (pt p0 0)), (11, 19, (pt p0 0)), (12, 20, (pt p0 2)), (13, 21, (Value.int .i64 p0_2)), (14, 22, (Value.agg #[(Value.func (.func 69) #[] #[]), (ga2 9), (Value.int .i64 p0_2)])), (15, 23, (pt (blk (ga2 15)) 0)), (16, 3, (pt (blk (ga2 15)) 0))] done [(sel (done 15) (box (blk (ga2 15)) 229 [(Value.func (.func 69) #[] #[]), (ga2 9), (Value.int .i64 p0_2)]) emp), (sel (done 9) (own (ga2 9) 231 2 (([] : List Pile_item__int64) ++ l0).length (fl enc_Pile_item__int64 (([] : List Pile_item__int64) ++ l0))) (sel (done 4) (own (ga2 4) 231 2 ([] : List Pile_item__int64).length (fl enc_Pile_item__int64 ([] : List Pile_item__int64))) emp)), (box p0 229 [(Value.func (.func 69) #[] #[]), sv0, (Value.int .i64 p0_2)]), (own sv0 231 2 l0.length (fl enc_Pile_item__int64 l0))] a w) ga2 done) fun ga2 => ?_
        have d14 : done 14 = true := done_of (j := 14) hcu rfl (by decide) rfl
        have n16 : done 16 = false := notdone_of (m := 16) hc hi rfl rfl
        refine draw_newV (i := 15) (t := 23) (x := ga2) (L := (fun (ga2 : Nat → Value) (done : Nat → Bool) => [(sel (done 15) (box (blk (ga2 15)) 229 [(Value.func (.func 69) #[] #[]), (ga2 9), (Value.int .i64 p0_2)]) emp), (sel (done 9) (own (ga2 9) 231 2 (([] : List Pile_item__int64) ++ l0).length (fl enc_Pile_item__int64 (([] : List Pile_item__int64) ++ l0))) (sel (done 4) (own (ga2 4) 231 2 ([] : List Pile_item__int64).length (fl enc_Pile_item__int64 ([] : List Pile_item__int64))) emp)), (box p0 229 [(Value.func (.func 69) #[] #[]), sv0, (Value.int .i64 p0_2)]), (own sv0 231 2 l0.length (fl enc_Pile_item__int64 l0))])) (T := (fun ga2 : Nat → Value => [(0, 8, (pt p0 0)), (1, 9, (pt p0 0)), (2, 10, (pt p0 0)), (3, 11, (Value.func (.func 69) #[] #[])), (4, 12, (ga2 4)), (5, 13, (pt p0 0)), (6, 14, (pt p0 0)), (7, 15, (pt p0 1)), (8, 16, sv0), (9, 17, (ga2 9)), (10, 18, (pt p0 0)), (11, 19, (pt p0 0)), (12, 20, (pt p0 2)), (13, 21, (Value.int .i64 p0_2)), (14, 22, (Value.agg #[(Value.func (.func 69) #[] #[]), (ga2 9), (Value.int .i64 p0_2)])), (15, 23, (pt (blk (ga2 15)) 0)), (16, 3, (pt (blk (ga2 15)) 0))])) (L2 := [emp, (sel (done 9) (own (ga2 9) 231 2 (([] : List Pile_item__int64) ++ l0).length (fl enc_Pile_item__int64 (([] : List Pile_item__int64) ++ l0))) (sel (done 4) (own (ga2 4) 231 2 ([] : List Pile_item__int64).length (fl enc_Pile_item__int64 ([] : List Pile_item__int64))) emp)), (box p0 229 [(Value.func (.func 69) #[] #[]), sv0, (Value.int .i64 p0_2)]), (own sv0 231 2 l0.length (fl enc_Pile_item__int64 l0))]) (B := fun v_ => (box (blk v_) 229 [(Value.func (.func 69) #[] #[]), (ga2 9), (Value.int .i64 p0_2)])) 0 rfl rfl (wanted_none rfl) (fun a => (hasA_cons (k := 14) rfl d14 hasA_base)) (by simp only [hi, sel]) (ot_box (cs := [(Value.func (.func 69) #[] #[]), (ga2 9), (Value.int .i64 p0_2)]) rfl rfl) ?_ rfl (fun v_ => ?_) rfl rfl ?_
        · rintro _ _ ⟨_, rfl, rfl⟩; rfl
        · simp [up, upb, sel, hi]
        · rintro _ _ ⟨_, rfl, rfl⟩
          exact (tr_same rfl rfl (tr_same rfl rfl (tr_same rfl rfl (tr_same rfl rfl (tr_same rfl rfl (tr_same rfl rfl (tr_same rfl rfl (tr_same rfl rfl (tr_same rfl rfl (tr_same rfl rfl (tr_same rfl rfl (tr_same rfl rfl (tr_same rfl rfl (tr_same rfl rfl (tr_same rfl rfl (tr_this (tr_nd n16 rfl rfl tr_nil)))))))))))))))))
      · intro done hi hc hcu
        refine draw_exi (I := fun (ga2 : Nat → Value) done a w => StD 36 w0 F [(0, (pt p0 0)), (2, (Value.slice none 0 0)), (6, (pt p0 0)), (7, (Value.bool false))] [(0, 8, (pt p0 0)), (1, 9, (pt p0 0)), (2, 10, (pt p0 0)), (3, 11, (Value.func (.func 69) #[] #[])), (4, 12, (ga2 4)), (5, 13, (pt p0 0)), (6, 14, (pt p0 0)), (7, 15, (pt p0 1)), (8, 16, sv0), (9, 17, (ga2 9)), (10, 18, (pt p0 0)), (11, 19, (pt p0 0)), (12, 20, (pt p0 2)), (13, 21, (Value.int .i64 p0_2)), (14, 22, (Value.agg #[(Value.func (.func 69) #[] #[]), (ga2 9), (Value.int .i64 p0_2)])), (15, 23, (pt (blk (ga2 15)) 0)), (16, 3, (pt (blk (ga2 15)) 0))] done [(sel (done 15) (box (blk (ga2 15)) 229 [(Value.func (.func 69) #[] #[]), (ga2 9), (Value.int .i64 p0_2)]) emp), (sel (done 9) (own (ga2 9) 231 2 (([] : List Pile_item__int64) ++ l0).length (fl enc_Pile_item__int64 (([] : List Pile_item__int64) ++ l0))) (sel (done 4) (own (ga2 4) 231 2 ([] : List Pile_item__int64).length (fl enc_Pile_item__int64 ([] : List Pile_item__int64))) emp)), (box p0 229 [(Value.func (.func 69) #[] #[]), sv0, (Value.int .i64 p0_2)]), (own sv0 231 2 l0.length (fl enc_Pile_item__int64 l0))] a w) fun ga2 => ?_
        have d15 : done 15 = true := done_of (j := 15) hcu rfl (by decide) rfl
        exact draw_value (i := 16) (t := 3) (v := (pt (blk (ga2 15)) 0)) rfl rfl (wanted_none rfl) (fun a => (hasA_cons (k := 15) rfl d15 hasA_base)) (ov_assign rfl) rfl rfl (onlyT_spec (k0 := 16) rfl rfl rfl)
    · intro done hall
      refine ent_exi (S := fun ga2 => (fun (ga2 : Nat → Value) done a w => StD 36 w0 F [(0, (pt p0 0)), (2, (Value.slice none 0 0)), (6, (pt p0 0)), (7, (Value.bool false))] [(0, 8, (pt p0 0)), (1, 9, (pt p0 0)), (2, 10, (pt p0 0)), (3, 11, (Value.func (.func 69) #[] #[])), (4, 12, (ga2 4)), (5, 13, (pt p0 0)), (6, 14, (pt p0 0)), (7, 15, (pt p0 1)), (8, 16, sv0), (9, 17, (ga2 9)), (10, 18, (pt p0 0)), (11, 19, (pt p0 0)), (12, 20, (pt p0 2)), (13, 21, (Value.int .i64 p0_2)), (14, 22, (Value.agg #[(Value.func (.func 69) #[] #[]), (ga2 9), (Value.int .i64 p0_2)])), (15, 23, (pt (blk (ga2 15)) 0)), (16, 3, (pt (blk (ga2 15)) 0))] done [(sel (done 15) (box (blk (ga2 15)) 229 [(Value.func (.func 69) #[] #[]), (ga2 9), (Value.int .i64 p0_2)]) emp), (sel (done 9) (own (ga2 9) 231 2 (([] : List Pile_item__int64) ++ l0).length (fl enc_Pile_item__int64 (([] : List Pile_item__int64) ++ l0))) (sel (done 4) (own (ga2 4) 231 2 ([] : List Pile_item__int64).length (fl enc_Pile_item__int64 ([] : List Pile_item__int64))) emp)), (box p0 229 [(Value.func (.func 69) #[] #[]), sv0, (Value.int .i64 p0_2)]), (own sv0 231 2 l0.length (fl enc_Pile_item__int64 l0))] a w) ga2 done) fun ga2 => ?_
      refine draw_endL [(box (blk (ga2 15)) 229 [(Value.func (.func 69) #[] #[]), (ga2 9), (Value.int .i64 p0_2)]), (own (ga2 9) 231 2 (([] : List Pile_item__int64) ++ l0).length (fl enc_Pile_item__int64 (([] : List Pile_item__int64) ++ l0))), (box p0 229 [(Value.func (.func 69) #[] #[]), sv0, (Value.int .i64 p0_2)]), (own sv0 231 2 l0.length (fl enc_Pile_item__int64 l0))] (by simp only [hall 4 (by decide), hall 9 (by decide), hall 15 (by decide), sel]) (fun a => (hasA_cons (k := 16) rfl (hall 16 (by decide)) (hasA_cons (k := 0) rfl (hall 0 (by decide)) (hasA_cons (k := 1) rfl (hall 1 (by decide)) (hasA_cons (k := 2) rfl (hall 2 (by decide)) (hasA_cons (k := 3) rfl (hall 3 (by decide)) (hasA_cons (k := 4) rfl (hall 4 (by decide)) (hasA_cons (k := 5) rfl (hall 5 (by decide)) (hasA_cons (k := 6) rfl (hall 6 (by decide)) (hasA_cons (k := 7) rfl (hall 7 (by decide)) (hasA_cons (k := 8) rfl (hall 8 (by decide)) (hasA_cons (k := 9) rfl (hall 9 (by decide)) (hasA_cons (k := 10) rfl (hall 10 (by decide)) (hasA_cons (k := 11) rfl (hall 11 (by decide)) (hasA_cons (k := 12) rfl (hall 12 (by decide)) (hasA_cons (k := 13) rfl (hall 13 (by decide)) (hasA_cons (k := 14) rfl (hall 14 (by decide)) (hasA_cons (k := 15) rfl (hall 15 (by decide)) hasA_base)))))))))))))))))) ?_
      refine ent_block ?_
      refine ent_loop (fun k a w => ∃ l4, ∃ l5, ∃ sv18 : Value, ∃ sv19 : Value, pile_Pile__int64_Sorted_l0 K p0_2 k l4 l5 = some r ∧ St 36 w0 F [(2, sv18), (3, (pt (blk (ga2 15)) 0))] [(box p0 229 [(Value.func (.func 69) #[] #[]), sv0, (Value.int .i64 p0_2)]), (own sv0 231 2 l0.length (fl enc_Pile_item__int64 l0)), (own sv18 2 1 l4.length (fl (eI .i64) l4)), (box (blk (ga2 15)) 229 [(Value.func (.func 69) #[] #[]), sv19, (Value.int .i64 p0_2)]), (own sv19 231 2 l5.length (fl enc_Pile_item__int64 l5))] a w) K ?_ ?_
      · refine ent_ownnil 2 1 ?_
        exact ent_fin [3, 4, 0, 1, 2] (by decide) rfl (sub_cons (t := 2) rfl (sub_cons (t := 3) rfl (sub_nil _))) fun a w h => ⟨_, _, _, _, H, h⟩
      · refine fun k => ent_exi fun l4 => ent_exi fun l5 => ent_exi fun sv18 => ent_exi fun sv19 => ent_and fun H2 => ?_
        cases k with
        | zero => exact absurd H2 (by simp [pile_Pile__int64_Sorted_l0])
        | succ k =>
          rw [pile_Pile__int64_Sorted_l0] at H2
          refine ent_block ?_
          refine ent_seq ?_
          refine ent_region ?_
          refine ent_value (ov_move rfl) rfl rfl rfl ?_
          obtain ⟨x6, h6, H2⟩ := Option.bind_eq_some_iff.1 H2
          refine ent_pick [3, 4, 0, 1, 2] (by decide) rfl ?_
          refine ent_op (ot_call (Lr := [(box p0 229 [(Value.func (.func 69) #[] #[]), sv0, (Value.int .i64 p0_2)]), (own sv0 231 2 l0.length (fl enc_Pile_item__int64 l0)), (own sv18 2 1 l4.length (fl (eI .i64) l4))]) (first := []) (cap := []) (xs := [.tmp 25]) rfl rfl F_call_163 rfl (pile_Pile__int64_Pop.spec K (blk (ga2 15)) sv19 l5 p0_2 _ h6) rfl) rfl rfl rfl ?_
          rintro _ _ ⟨_, ⟨sv23, rfl, rfl⟩, rfl⟩
          refine ent_value (ov_move rfl) rfl rfl rfl ?_
          refine ent_value (ov_extract rfl rfl) rfl rfl rfl ?_
          refine ent_value (ov_extract rfl rfl) rfl rfl rfl ?_
          refine ent_value (ov_assign rfl) rfl rfl rfl ?_
          refine ent_value (ov_assign rfl) rfl rfl rfl ?_
          refine ent_nil ?_
          refine ent_seq ?_
          refine ent_seq ?_
          refine ent_region ?_
          refine ent_value (ov_move rfl) rfl rfl rfl ?_
          refine ent_value (ov_un rfl (u_not _)) rfl rfl rfl ?_
          refine ent_nil ?_
          by_cases c19 : (!x6.1) = true
          · rw [if_pos c19] at H2
            refine ent_cond_true rfl c19 ?_
            refine ent_seq ?_
            refine ent_region ?_
            refine ent_value (ov_move rfl) rfl rfl rfl ?_
            refine ent_value (ov_assign rfl) rfl rfl rfl ?_
            refine ent_nil ?_
            refine ent_retc ?_
            cases H2
            refine ent_pick [2, 3, 4] (by decide) rfl ?_
            exact ret_tmp rfl rfl ⟨_, rfl, rfl⟩
          · rw [if_neg c19] at H2
            refine ent_cond_false rfl (Bool.eq_false_iff.2 c19) ?_
            refine ent_skip ?_
            refine ent_region ?_
            refine ent_value (ov_move rfl) rfl rfl rfl ?_
            refine ent_value (ov_move rfl) rfl rfl rfl ?_
            refine ent_op (ot_buildSlice (sz := 0) (xs := [.tmp 33]) (cs := fl (eI .i64) [x6.2.2]) rfl rfl F_slice_25 F_size_2 F_zero_2 rfl rfl (all_size rfl) rfl (by decide)) rfl rfl rfl ?_
            rintro sv24 _ rfl
            by_cases c20 : (l4.length + [x6.2.2].length) * 8 ≤ 140737488355328
            · rw [if_pos c20] at H2
              refine ent_op (ot_appendx (sz := 0) (xs := l4) (ys := [x6.2.2]) 5 0 rfl rfl F_slice_25 F_size_2 F_zero_2 rfl F_bytes_2 rfl rfl rfl (isRd_ownx 2) rfl (eI_one _) c20) rfl rfl rfl ?_
              rintro sv25 _ rfl
              refine ent_L [(own sv24 2 1 [x6.2.2].length (fl (eI .i64) [x6.2.2])), (box (blk (ga2 15)) 229 [(Value.func (.func 69) #[] #[]), sv23, (Value.int .i64 p0_2)]), (own sv23 231 2 x6.2.1.length (fl enc_Pile_item__int64 x6.2.1)), (box p0 229 [(Value.func (.func 69) #[] #[]), sv0, (Value.int .i64 p0_2)]), (own sv0 231 2 l0.length (fl enc_Pile_item__int64 l0)), (own sv25 2 1 (l4 ++ [x6.2.2]).length (fl (eI .i64) (l4 ++ [x6.2.2])))] rfl ?_
              refine ent_value (ov_assign rfl) rfl rfl rfl ?_
              refine ent_nil ?_
              exact ent_fin [3, 4, 5, 1, 2] (by decide) rfl (sub_cons (t := 2) rfl (sub_cons (t := 3) rfl (sub_nil _))) fun a w h => ⟨k, Nat.lt_succ_self k, _, _, _, _, H2, h⟩
            · rw [if_neg c20] at H2
              cases H2
  · rw [if_neg c11] at H
    cases H

set_option maxRecDepth 100000 in
theorem pile_Sort__int64.spec (K : Nat) (sv0 : Value) (A0 : HP) (l0 : List Int) (hA0 : IsRd A0 sv0 l0.length 1 (fl (eI .i64) l0)) (r : List Int) (H : pile_Sort__int64 K l0 = some r) : FnSpec Try.prog 68 [sv0, (Value.func (.func 69) #[] #[])] [A0] (fun v M => ∃ sv16 : Value, v = sv16 ∧ M = [A0, (own sv16 2 1 r.length (fl (eI .i64) r))]) := by
  unfold pile_Sort__int64 at H
  refine spec_of Try.func68 rfl 22 rfl (Nat.le_of_ble_eq_true rfl) fun F w0 => ?_
  show Ent (St 22 w0 F [(0, sv0), (1, (Value.func (.func 69) #[] #[]))] [A0]) _
  refine ent_seq ?_
  refine ent_region ?_
  refine ent_value (ov_assign rfl) rfl rfl rfl ?_
  refine ent_nil ?_
  refine ent_seq ?_
  refine ent_region ?_
  refine ent_value (ov_move rfl) rfl rfl rfl ?_
  obtain ⟨x15, h15, H⟩ := thn_elim H
  refine ent_op (ot_call (Lr := [A0]) (first := []) (cap := []) (xs := [.tmp 8]) rfl rfl F_call_125 rfl (pile_New__int64.spec _ h15) rfl) rfl rfl rfl ?_
  rintro _ _ ⟨_, ⟨b2, rfl, rfl⟩, rfl⟩
  refine ent_value (ov_assign rfl) rfl rfl rfl ?_
  refine ent_nil ?_
  refine ent_seq ?_
  refine ent_seq ?_
  refine ent_region ?_
  refine ent_value (ov_move rfl) rfl rfl rfl ?_
  refine ent_value (ov_len 1 rfl F_slice_25 rfl hA0) rfl rfl rfl ?_
  refine ent_value (ov_move rfl) rfl rfl rfl ?_
  refine ent_nil ?_
  refine ent_block ?_
  refine ent_loop (fun k a w => ∃ i7, ∃ l5, ∃ i8, ∃ sv26 : Value, pile_Sort__int64_l0 K l0 k i7 l5 i8 = some r ∧ St 22 w0 F [(5, (pt b2 0)), (10, sv0), (11, (Value.int .i64 (l0.length : Int))), (12, (Value.int .i64 i7))] [A0, (box b2 229 [(Value.func (.func 69) #[] #[]), sv26, (Value.int .i64 i8)]), (own sv26 231 2 l5.length (fl enc_Pile_item__int64 l5))] a w) K ?_ ?_
  · refine ent_ownnil 231 2 ?_
    exact ent_fin [2, 1, 0] (by decide) rfl (sub_cons (t := 5) rfl (sub_cons (t := 10) rfl (sub_cons (t := 11) rfl (sub_cons (t := 12) rfl (sub_nil _))))) fun a w h => ⟨_, _, _, _, H, h⟩
  · refine fun k => ent_exi fun i7 => ent_exi fun l5 => ent_exi fun i8 => ent_exi fun sv26 => ent_and fun H4 => ?_
    cases k with
    | zero => exact absurd H4 (by simp [pile_Sort__int64_l0])
    | succ k =>
      rw [pile_Sort__int64_l0] at H4
      refine ent_seq ?_
      refine ent_region ?_
      refine ent_value (ov_bin rfl rfl (b_lss _ _ _)) rfl rfl rfl ?_
      refine ent_nil ?_
      refine ent_seq ?_
      by_cases c38 : i7 < (l0.length : Int)
      · rw [if_pos c38] at H4
        refine ent_cond_true rfl (decide_eq_true c38) ?_
        refine ent_skip ?_
        refine ent_seq ?_
        refine ent_block ?_
        refine ent_seq ?_
        refine ent_region ?_
        by_cases c40 : 0 ≤ i7
        · rw [if_pos c40] at H4
          refine ent_value (ov_indexAddr (sz := 0) 0 rfl rfl F_slice_25 F_size_2 rfl hA0 c40 c38) rfl rfl rfl ?_
          refine ent_value (ov_load (v := (Value.int .i64 (l0.getD i7.toNat 0))) rfl F_agg_2 (reads_rd (i := 0) rfl hA0 (by simp) (fl_read0 (eI_len _) (ix_lt c40 c38) rfl))) rfl rfl rfl ?_
          refine ent_value (ov_assign rfl) rfl rfl rfl ?_
          refine ent_nil ?_
          refine ent_region ?_
          refine ent_value (ov_move rfl) rfl rfl rfl ?_
          refine ent_value (ov_move rfl) rfl rfl rfl ?_
          obtain ⟨x27, h27, H4⟩ := Option.bind_eq_some_iff.1 H4
          refine ent_pick [1, 2, 0] (by decide) rfl ?_
          refine ent_op (ot_call (Lr := [A0]) (first := []) (cap := []) (xs := [.tmp 16, .tmp 17]) rfl rfl F_call_126 rfl (pile_Pile__int64_Push_2.spec K b2 sv26 l5 i8 (l0.getD i7.toNat 0) _ h27) rfl) rfl rfl rfl ?_
          rintro _ _ ⟨_, ⟨sv30, rfl, rfl⟩, rfl⟩
          refine ent_nil ?_
          refine ent_region ?_
          refine ent_value (ov_bin rfl rfl (b_add _ _ _) ) rfl rfl rfl ?_
          refine ent_value (ov_move rfl) rfl rfl rfl ?_
          refine ent_nil ?_
          exact ent_fin [2, 0, 1] (by decide) rfl (sub_cons (t := 5) rfl (sub_cons (t := 10) rfl (sub_cons (t := 11) rfl (sub_cons (t := 12) rfl (sub_nil _))))) fun a w h => ⟨k, Nat.lt_succ_self k, _, _, _, _, H4, h⟩
        · rw [if_neg c40] at H4
          cases H4
      · rw [if_neg c38] at H4
        refine ent_cond_false rfl (decide_eq_false c38) ?_
        refine ent_exit ?_
        refine ent_seq ?_
        refine ent_region ?_
        refine ent_value (ov_move rfl) rfl rfl rfl ?_
        obtain ⟨x28, h28, H4⟩ := Option.bind_eq_some_iff.1 H4
        refine ent_pick [1, 2, 0] (by decide) rfl ?_
        refine ent_op (ot_call (Lr := [A0]) (first := []) (cap := []) (xs := [.tmp 20]) rfl rfl F_call_127 rfl (pile_Pile__int64_Sorted.spec K b2 sv26 l5 i8 _ h28) rfl) rfl rfl rfl ?_
        rintro sv31 _ ⟨_, ⟨_, rfl, rfl⟩, rfl⟩
        refine ent_value (ov_assign rfl) rfl rfl rfl ?_
        refine ent_nil ?_
        refine ent_retc ?_
        cases H4
        refine ent_pick [3, 2] (by decide) rfl ?_
        exact ret_tmp rfl rfl ⟨_, rfl, rfl⟩

set_option maxRecDepth 100000 in
theorem stat_Rank_2.spec (p0 : Nat) (sv0 : Value) (p1 : Nat) (a0 : Int) (l0 : List Int) (p1_0 : Int) (p1_1 : List UInt8) (p1_2 : List UInt8) (p1_3 : List UInt8) (p1_4 : List UInt8) (p1_5 : Int) (p1_6 : Int) (p1_7 : Int) (p1_8 : Int) (r : Bool) (H : stat_Rank_2 a0 l0 p1_0 p1_1 p1_2 p1_3 p1_4 p1_5 p1_6 p1_7 p1_8 = some r) : FnSpec Try.prog 71 [(Value.int .i64 a0), (pt p0 0), (pt p1 0)] [(box p0 25 [sv0]), (own sv0 2 1 l0.length (fl (eI .i64) l0)), (box p1 47 [(Value.int .i64 p1_0), (str p1_1), (str p1_2), (str p1_3), (str p1_4), (Value.int .i64 p1_5), (Value.int .i64 p1_6), (Value.int .i64 p1_7), (Value.int .i64 p1_8)])] (fun v M => v = (Value.bool r) ∧ M = [(box p0 25 [sv0]), (own sv0 2 1 l0.length (fl (eI .i64) l0)), (box p1 47 [(Value.int .i64 p1_0), (str p1_1), (str p1_2), (str p1_3), (str p1_4), (Value.int .i64 p1_5), (Value.int .i64 p1_6), (Value.int .i64 p1_7), (Value.int .i64 p1_8)])]) := by
  unfold stat_Rank_2 at H
  refine spec_of Try.func71 rfl 13 rfl (Nat.le_of_ble_eq_true rfl) fun F w0 => ?_
  show Ent (St 13 w0 F [(0, (Value.int .i64 a0)), (1, (pt p0 0)), (2, (pt p1 0))] [(box p0 25 [sv0]), (own sv0 2 1 l0.length (fl (eI .i64) l0)), (box p1 47 [(Value.int .i64 p1_0), (str p1_1), (str p1_2), (str p1_3), (str p1_4), (Value.int .i64 p1_5), (Value.int .i64 p1_6), (Value.int .i64 p1_7), (Value.int .i64 p1_8)])]) _
  refine ent_seq ?_
  refine ent_region ?_
  refine ent_value (ov_assign rfl) rfl rfl rfl ?_
  refine ent_nil ?_
  refine ent_seq ?_
  by_cases c3 : 0 ≤ a0
  · rw [if_pos c3] at H
    by_cases c4 : a0 < (l0.length : Int)
    · rw [if_pos c4] at H
      refine ent_drawm 9 rfl (fun done a w => StD 13 w0 F [(0, (Value.int .i64 a0)), (1, (pt p0 0)), (2, (pt p1 0))] [(0, 5, sv0), (1, 6, (Value.int .i64 a0)), (2, 7, (eptr sv0 (a0.toNat * 1))), (3, 8, (Value.int .i64 (l0.getD a0.toNat 0))), (4, 9, (pt p1 5)), (5, 10, (pt p1 6)), (6, 11, (Value.int .i64 p1_6)), (7, 12, (Value.bool (decide ((l0.getD a0.toNat 0) ≤ p1_6)))), (8, 4, (Value.bool (decide ((l0.getD a0.toNat 0) ≤ p1_6))))] done [(box p0 25 [sv0]), (own sv0 2 1 l0.length (fl (eI .i64) l0)), (box p1 47 [(Value.int .i64 p1_0), (str p1_1), (str p1_2), (str p1_3), (str p1_4), (Value.int .i64 p1_5), (Value.int .i64 p1_6), (Value.int .i64 p1_7), (Value.int .i64 p1_8)])] a w) (by kernel_rfl) (by kernel_rfl) (draw_startL (sub_cons (t := 0) rfl (sub_cons (t := 1) rfl (sub_cons (t := 2) rfl (sub_nil _)))) rfl) ?_ ?_
      · refine ⟨?_, ?_, ?_, ?_, ?_, ?_, ?_, ?_, ?_, trivial⟩
        · intro done hi hc hcu
          exact draw_value (i := 0) (t := 5) (v := sv0) rfl rfl (wanted_none rfl) (fun a => hasA_base) (ov_load (v := sv0) rfl F_agg_25 (reads_box1 (i := 0) rfl rfl)) rfl rfl (onlyT_spec (k0 := 0) rfl rfl rfl)
        · intro done hi hc hcu
          exact draw_value (i := 1) (t := 6) (v := (Value.int .i64 a0)) rfl rfl (wanted_none rfl) (fun a => hasA_base) (ov_move rfl) rfl rfl (onlyT_spec (k0 := 1) rfl rfl rfl)
        · intro done hi hc hcu
          have d0 : done 0 = true := done_of (j := 0) hcu rfl (by decide) rfl
          have d1 : done 1 = true := done_of (j := 1) hcu rfl (by decide) rfl
          exact draw_value (i := 2) (t := 7) (v := (eptr sv0 (a0.toNat * 1))) rfl rfl (wanted_none rfl) (fun a => (hasA_cons (k := 1) rfl d1 (hasA_cons (k := 0) rfl d0 hasA_base))) (ov_indexAddr (sz := 0) 1 rfl rfl F_slice_25 F_size_2 rfl (isRd_ownx 2) c3 c4) rfl rfl (onlyT_spec (k0 := 2) rfl rfl rfl)
        · intro done hi hc hcu
          have d2 : done 2 = true := done_of (j := 2) hcu rfl (by decide) rfl
          exact draw_value (i := 3) (t := 8) (v := (Value.int .i64 (l0.getD a0.toNat 0))) rfl rfl (wanted_none rfl) (fun a => (hasA_cons (k := 2) rfl d2 hasA_base)) (ov_load (v := (Value.int .i64 (l0.getD a0.toNat 0))) rfl F_agg_2 (reads_rd (i := 1) rfl (isRd_ownx 2) (by simp) (fl_read0 (eI_len _) (ix_lt c3 c4) rfl))) rfl rfl (onlyT_spec (k0 := 3) rfl rfl rfl)
        · intro done hi hc hcu
          exact draw_value (i := 4) (t := 9) (v := (pt p1 5)) rfl rfl (wanted_none rfl) (fun a => hasA_base) (ov_fieldAddr (sz := 3) (o := 0) rfl F_field_47_1 F_size_42) rfl rfl (onlyT_spec (k0 := 4) rfl rfl rfl)
        · intro done hi hc hcu
          have d4 : done 4 = true := done_of (j := 4) hcu rfl (by decide) rfl
          exact draw_value (i := 5) (t := 10) (v := (pt p1 6)) rfl rfl (wanted_none rfl) (fun a => (hasA_cons (k := 4) rfl d4 hasA_base)) (ov_fieldAddr (sz := 0) (o := 5) rfl F_field_42_1 F_size_2) rfl rfl (onlyT_spec (k0 := 5) rfl rfl rfl)
        · intro done hi hc hcu
          have d5 : done 5 = true := done_of (j := 5) hcu rfl (by decide) rfl
          exact draw_value (i := 6) (t := 11) (v := (Value.int .i64 p1_6)) rfl rfl (wanted_none rfl) (fun a => (hasA_cons (k := 5) rfl d5 hasA_base)) (ov_load (v := (Value.int .i64 p1_6)) rfl F_agg_2 (reads_box1 (i := 2) rfl rfl)) rfl rfl (onlyT_spec (k0 := 6) rfl rfl rfl)
        · intro done hi hc hcu
          have d3 : done 3 = true := done_of (j := 3) hcu rfl (by decide) rfl
          have d6 : done 6 = true := done_of (j := 6) hcu rfl (by decide) rfl
          exact draw_value (i := 7) (t := 12) (v := (Value.bool (decide ((l0.getD a0.toNat 0) ≤ p1_6)))) rfl rfl (wanted_none rfl) (fun a => (hasA_cons (k := 6) rfl d6 (hasA_cons (k := 3) rfl d3 hasA_base))) (ov_bin rfl rfl (b_leq _ _ _)) rfl rfl (onlyT_spec (k0 := 7) rfl rfl rfl)
        · intro done hi hc hcu
          have d7 : done 7 = true := done_of (j := 7) hcu rfl (by decide) rfl
          exact draw_value (i := 8) (t := 4) (v := (Value.bool (decide ((l0.getD a0.toNat 0) ≤ p1_6)))) rfl rfl (wanted_none rfl) (fun a => (hasA_cons (k := 7) rfl d7 hasA_base)) (ov_assign rfl) rfl rfl (onlyT_spec (k0 := 8) rfl rfl rfl)
      · intro done hall
        refine draw_endL [(box p0 25 [sv0]), (own sv0 2 1 l0.length (fl (eI .i64) l0)), (box p1 47 [(Value.int .i64 p1_0), (str p1_1), (str p1_2), (str p1_3), (str p1_4), (Value.int .i64 p1_5), (Value.int .i64 p1_6), (Value.int .i64 p1_7), (Value.int .i64 p1_8)])] rfl (fun a => (hasA_cons (k := 8) rfl (hall 8 (by decide)) (hasA_cons (k := 0) rfl (hall 0 (by decide)) (hasA_cons (k := 1) rfl (hall 1 (by decide)) (hasA_cons (k := 2) rfl (hall 2 (by decide)) (hasA_cons (k := 3) rfl (hall 3 (by decide)) (hasA_cons (k := 4) rfl (hall 4 (by decide)) (hasA_cons (k := 5) rfl (hall 5 (by decide)) (hasA_cons (k := 6) rfl (hall 6 (by decide)) (hasA_cons (k := 7) rfl (hall 7 (by decide)) hasA_base)))))))))) ?_
        refine ent_retc ?_
        cases H
        exact ret_tmp rfl rfl ⟨rfl, rfl⟩
    · rw [if_neg c4] at H
      cases H
  · rw [if_neg c3] at H
    cases H

set_option maxRecDepth 100000 in
theorem sort_Search.spec (K : Nat) (p0 : Nat) (sv0 : Value) (p1 : Nat) (a0 : Int) (l0 : List Int) (p1_0 : Int) (p1_1 : List UInt8) (p1_2 : List UInt8) (p1_3 : List UInt8) (p1_4 : List UInt8) (p1_5 : Int) (p1_6 : Int) (p1_7 : Int) (p1_8 : Int) (r : Int) (H : sort_Search K a0 l0 p1_0 p1_1 p1_2 p1_3 p1_4 p1_5 p1_6 p1_7 p1_8 = some r) : FnSpec Try.prog 70 [(Value.int .i64 a0), (Value.func (.func 71) #[] #[(pt p0 0), (pt p1 0)])] [(box p0 25 [sv0]), (own sv0 2 1 l0.length (fl (eI .i64) l0)), (box p1 47 [(Value.int .i64 p1_0), (str p1_1), (str p1_2), (str p1_3), (str p1_4), (Value.int .i64 p1_5), (Value.int .i64 p1_6), (Value.int .i64 p1_7), (Value.int .i64 p1_8)])] (fun v M => v = (Value.int .i64 r) ∧ M = [(box p0 25 [sv0]), (own sv0 2 1 l0.length (fl (eI .i64) l0)), (box p1 47 [(Value.int .i64 p1_0), (str p1_1), (str p1_2), (str p1_3), (str p1_4), (Value.int .i64 p1_5), (Value.int .i64 p1_6), (Value.int .i64 p1_7), (Value.int .i64 p1_8)])]) := by
  unfold sort_Search at H
  refine spec_of Try.func70 rfl 26 rfl (Nat.le_of_ble_eq_true rfl) fun F w0 => ?_
  show Ent (St 26 w0 F [(0, (Value.int .i64 a0)), (1, (Value.func (.func 71) #[] #[(pt p0 0), (pt p1 0)]))] [(box p0 25 [sv0]), (own sv0 2 1 l0.length (fl (eI .i64) l0)), (box p1 47 [(Value.int .i64 p1_0), (str p1_1), (str p1_2), (str p1_3), (str p1_4), (Value.int .i64 p1_5), (Value.int .i64 p1_6), (Value.int .i64 p1_7), (Value.int .i64 p1_8)])]) _
  refine ent_seq ?_
  refine ent_region ?_
  refine ent_value (ov_assign rfl) rfl rfl rfl ?_
  refine ent_nil ?_
  refine ent_seq ?_
  refine ent_region ?_
  refine ent_value (ov_move rfl) rfl rfl rfl ?_
  refine ent_value (ov_assign rfl) rfl rfl rfl ?_
  refine ent_value (ov_assign rfl) rfl rfl rfl ?_
  refine ent_nil ?_
  refine ent_seq ?_
  refine ent_block ?_
  refine ent_loop (fun k a w => ∃ i7, ∃ i8, sort_Search_l0 K l0 p1_0 p1_1 p1_2 p1_3 p1_4 p1_5 p1_6 p1_7 p1_8 k i7 i8 = some r ∧ St 26 w0 F [(1, (Value.func (.func 71) #[] #[(pt p0 0), (pt p1 0)])), (5, (Value.int .i64 i7)), (6, (Value.int .i64 i8))] [(box p0 25 [sv0]), (own sv0 2 1 l0.length (fl (eI .i64) l0)), (box p1 47 [(Value.int .i64 p1_0), (str p1_1), (str p1_2), (str p1_3), (str p1_4), (Value.int .i64 p1_5), (Value.int .i64 p1_6), (Value.int .i64 p1_7), (Value.int .i64 p1_8)])] a w) K ?_ ?_
  · exact ent_fin [0, 1, 2] (by decide) rfl (sub_cons (t := 1) rfl (sub_cons (t := 5) rfl (sub_cons (t := 6) rfl (sub_nil _)))) fun a w h => ⟨_, _, H, h⟩
  · refine fun k => ent_exi fun i7 => ent_exi fun i8 => ent_and fun H4 => ?_
    cases k with
    | zero => exact absurd H4 (by simp [sort_Search_l0])
    | succ k =>
      rw [sort_Search_l0] at H4
      refine ent_seq ?_
      refine ent_seq ?_
      refine ent_region ?_
      refine ent_value (ov_move rfl) rfl rfl rfl ?_
      refine ent_value (ov_move rfl) rfl rfl rfl ?_
      refine ent_value (ov_bin rfl rfl (b_lss _ _ _)) rfl rfl rfl ?_
      refine ent_nil ?_
      by_cases c35 : i7 < i8
      · rw [if_pos c35] at H4
        refine ent_cond_true rfl (decide_eq_true c35) ?_
        refine ent_skip ?_
        refine ent_block ?_
        refine ent_seq ?_
        refine ent_region ?_
        refine ent_value (ov_move rfl) rfl rfl rfl ?_
        refine ent_value (ov_move rfl) rfl rfl rfl ?_
        refine ent_value (ov_bin rfl rfl (b_add _ _ _) ) rfl rfl rfl ?_
        refine ent_value (ov_convert rfl (c_int Try.underlying3 Try.underlying126)) rfl rfl rfl ?_
        refine ent_value (ov_bin rfl rfl fun w => b_shr _ _ _ _ w (by decide)) rfl rfl rfl ?_
        refine ent_value (ov_convert rfl (c_int Try.underlying126 Try.underlying3)) rfl rfl rfl ?_
        refine ent_value (ov_assign rfl) rfl rfl rfl ?_
        refine ent_nil ?_
        refine ent_seq ?_
        refine ent_region ?_
        refine ent_value (ov_move rfl) rfl rfl rfl ?_
        refine ent_value (ov_move rfl) rfl rfl rfl ?_
        obtain ⟨x12, h12, H4⟩ := Option.bind_eq_some_iff.1 H4
        refine ent_op (ot_call_same (Lr := []) [0, 1, 2] [0, 1, 2] (first := []) (cap := [(pt p0 0), (pt p1 0)]) (xs := [.tmp 19]) rfl rfl F_call_71 rfl (stat_Rank_2.spec p0 sv0 p1 (w64 (bShr .u64 (wu64 (w64 (i7 + i8))) 1)) l0 p1_0 p1_1 p1_2 p1_3 p1_4 p1_5 p1_6 p1_7 p1_8 _ h12) (by decide) rfl (by decide) rfl) rfl rfl rfl ?_
        rintro _ _ ⟨rfl, rfl⟩
        refine ent_value (ov_un rfl (u_not _)) rfl rfl rfl ?_
        refine ent_nil ?_
        by_cases c36 : (!x12) = true
        · rw [if_pos c36] at H4
          refine ent_cond_true rfl c36 ?_
          refine ent_region ?_
          refine ent_value (ov_move rfl) rfl rfl rfl ?_
          refine ent_value (ov_bin rfl rfl (b_add _ _ _) ) rfl rfl rfl ?_
          refine ent_value (ov_assign rfl) rfl rfl rfl ?_
          refine ent_nil ?_
          exact ent_fin [0, 1, 2] (by decide) rfl (sub_cons (t := 1) rfl (sub_cons (t := 5) rfl (sub_cons (t := 6) rfl (sub_nil _)))) fun a w h => ⟨k, Nat.lt_succ_self k, _, _, H4, h⟩
        · rw [if_neg c36] at H4
          refine ent_cond_false rfl (Bool.eq_false_iff.2 c36) ?_
          refine ent_region ?_
          refine ent_value (ov_move rfl) rfl rfl rfl ?_
          refine ent_value (ov_assign rfl) rfl rfl rfl ?_
          refine ent_nil ?_
          exact ent_fin [0, 1, 2] (by decide) rfl (sub_cons (t := 1) rfl (sub_cons (t := 5) rfl (sub_cons (t := 6) rfl (sub_nil _)))) fun a w h => ⟨k, Nat.lt_succ_self k, _, _, H4, h⟩
      · rw [if_neg c35] at H4
        refine ent_cond_false rfl (decide_eq_false c35) ?_
        refine ent_exit ?_
        refine ent_seq ?_
        refine ent_region ?_
        refine ent_value (ov_move rfl) rfl rfl rfl ?_
        refine ent_value (ov_assign rfl) rfl rfl rfl ?_
        refine ent_nil ?_
        refine ent_retc ?_
        cases H4
        exact ret_tmp rfl rfl ⟨rfl, rfl⟩

set_option maxRecDepth 100000 in
theorem stat_Rank.spec (K : Nat) (sv0 : Value) (A0 : HP) (l0 : List Api_Row) (hA0 : IsRd A0 sv0 l0.length 9 (fl enc_Api_Row l0)) (r : List Int) (H : stat_Rank K l0 = some r) : FnSpec Try.prog 15 [sv0] [A0] (fun v M => ∃ sv55 : Value, v = sv55 ∧ M = [A0, (own sv55 3 1 r.length (fl (eI .i64) r))]) := by
  unfold stat_Rank at H
  refine spec_of Try.func15 rfl 38 rfl (Nat.le_of_ble_eq_true rfl) fun F w0 => ?_
  show Ent (St 38 w0 F [(0, sv0)] [A0]) _
  refine ent_seq ?_
  refine ent_region ?_
  refine ent_value (ov_assign rfl) rfl rfl rfl ?_
  refine ent_nil ?_
  refine ent_seq ?_
  refine ent_region ?_
  refine ent_op (ot_alloc F_zero_25) rfl rfl rfl ?_
  rintro _ _ ⟨b27, rfl, rfl⟩
  refine ent_nil ?_
  obtain ⟨x15, H7, H⟩ := Option.bind_eq_some_iff.1 H
  refine ent_seq_cut (fun a w => ∃ b34 : Nat, ∃ sv69 : Value, St 38 w0 F [(0, sv0), (2, (Value.slice none 0 0)), (3, (pt b34 0))] [A0, (box b34 25 [sv69]), (own sv69 2 1 x15.length (fl (eI .i64) x15))] a w) ?_ ?_
  · refine ent_seq ?_
    refine ent_region ?_
    refine ent_value (ov_move rfl) rfl rfl rfl ?_
    refine ent_value (ov_len 1 rfl F_slice_22 rfl hA0) rfl rfl rfl ?_
    refine ent_value (ov_move rfl) rfl rfl rfl ?_
    refine ent_nil ?_
    refine ent_block ?_
    refine ent_loop (fun k a w => ∃ i6, ∃ l9, ∃ sv74 : Value, stat_Rank_l0 K l0 k i6 l9 = some x15 ∧ St 38 w0 F [(0, sv0), (2, (Value.slice none 0 0)), (3, (pt b27 0)), (8, sv0), (9, (Value.int .i64 (l0.length : Int))), (10, (Value.int .i64 i6))] [A0, (box b27 25 [sv74]), (own sv74 2 1 l9.length (fl (eI .i64) l9))] a w) K ?_ ?_
    · refine ent_ownnil 2 1 ?_
      exact ent_fin [2, 1, 0] (by decide) rfl (sub_cons (t := 0) rfl (sub_cons (t := 2) rfl (sub_cons (t := 3) rfl (sub_cons (t := 8) rfl (sub_cons (t := 9) rfl (sub_cons (t := 10) rfl (sub_nil _))))))) fun a w h => ⟨_, _, _, H7, h⟩
    · refine fun k => ent_exi fun i6 => ent_exi fun l9 => ent_exi fun sv74 => ent_and fun H8 => ?_
      cases k with
      | zero => exact absurd H8 (by simp [stat_Rank_l0])
      | succ k =>
        rw [stat_Rank_l0] at H8
        refine ent_seq ?_
        refine ent_region ?_
        refine ent_value (ov_bin rfl rfl (b_lss _ _ _)) rfl rfl rfl ?_
        refine ent_nil ?_
        refine ent_seq ?_
        by_cases c92 : i6 < (l0.length : Int)
        · rw [if_pos c92] at H8
          refine ent_cond_true rfl (decide_eq_true c92) ?_
          refine ent_skip ?_
          refine ent_seq ?_
          refine ent_block ?_
          refine ent_seq ?_
          refine ent_region ?_
          by_cases c95 : 0 ≤ i6
          · rw [if_pos c95] at H8
            refine ent_value (ov_indexAddr (sz := 8) 0 rfl rfl F_slice_22 F_size_47 rfl hA0 c95 c92) rfl rfl rfl ?_
            refine ent_value (ov_load_agg (vs := [(Value.int .i64 (((l0.getD i6.toNat z_Api_Row).Key).Hour)), (str (((l0.getD i6.toNat z_Api_Row).Key).Dims_0)), (str (((l0.getD i6.toNat z_Api_Row).Key).Dims_1)), (str (((l0.getD i6.toNat z_Api_Row).Key).Dims_2)), (str (((l0.getD i6.toNat z_Api_Row).Key).Dims_3)), (Value.int .i64 (((l0.getD i6.toNat z_Api_Row).Cell).Count)), (Value.int .i64 (((l0.getD i6.toNat z_Api_Row).Cell).Sum)), (Value.int .i64 (((l0.getD i6.toNat z_Api_Row).Cell).Min)), (Value.int .i64 (((l0.getD i6.toNat z_Api_Row).Cell).Max))]) rfl F_agg_47 F_size_47 (reads_rd (i := 0) rfl hA0 (by simp) (fl_read0 enc_Api_Row_len (ix_lt c95 c92) rfl))) rfl rfl rfl ?_
            refine ent_op (ot_alloc F_zero_47) rfl rfl rfl ?_
            rintro _ _ ⟨b40, rfl, rfl⟩
            refine ent_op0 (ot_storeG (cs := [(Value.int .i64 0), (str ([] : List UInt8)), (str ([] : List UInt8)), (str ([] : List UInt8)), (str ([] : List UInt8)), (Value.int .i64 0), (Value.int .i64 0), (Value.int .i64 0), (Value.int .i64 0)]) (cs' := [(Value.int .i64 (((l0.getD i6.toNat z_Api_Row).Key).Hour)), (str (((l0.getD i6.toNat z_Api_Row).Key).Dims_0)), (str (((l0.getD i6.toNat z_Api_Row).Key).Dims_1)), (str (((l0.getD i6.toNat z_Api_Row).Key).Dims_2)), (str (((l0.getD i6.toNat z_Api_Row).Key).Dims_3)), (Value.int .i64 (((l0.getD i6.toNat z_Api_Row).Cell).Count)), (Value.int .i64 (((l0.getD i6.toNat z_Api_Row).Cell).Sum)), (Value.int .i64 (((l0.getD i6.toNat z_Api_Row).Cell).Min)), (Value.int .i64 (((l0.getD i6.toNat z_Api_Row).Cell).Max))]) (us := [(Value.int .i64 (((l0.getD i6.toNat z_Api_Row).Key).Hour)), (str (((l0.getD i6.toNat z_Api_Row).Key).Dims_0)), (str (((l0.getD i6.toNat z_Api_Row).Key).Dims_1)), (str (((l0.getD i6.toNat z_Api_Row).Key).Dims_2)), (str (((l0.getD i6.toNat z_Api_Row).Key).Dims_3)), (Value.int .i64 (((l0.getD i6.toNat z_Api_Row).Cell).Count)), (Value.int .i64 (((l0.getD i6.toNat z_Api_Row).Cell).Sum)), (Value.int .i64 (((l0.getD i6.toNat z_Api_Row).Cell).Min)), (Value.int .i64 (((l0.getD i6.toNat z_Api_Row).Cell).Max))]) (L' := [(box b40 47 [(Value.int .i64 (((l0.getD i6.toNat z_Api_Row).Key).Hour)), (str (((l0.getD i6.toNat z_Api_Row).Key).Dims_0)), (str (((l0.getD i6.toNat z_Api_Row).Key).Dims_1)), (str (((l0.getD i6.toNat z_Api_Row).Key).Dims_2)), (str (((l0.getD i6.toNat z_Api_Row).Key).Dims_3)), (Value.int .i64 (((l0.getD i6.toNat z_Api_Row).Cell).Count)), (Value.int .i64 (((l0.getD i6.toNat z_Api_Row).Cell).Sum)), (Value.int .i64 (((l0.getD i6.toNat z_Api_Row).Cell).Min)), (Value.int .i64 (((l0.getD i6.toNat z_Api_Row).Cell).Max))]), A0, (box b27 25 [sv74]), (own sv74 2 1 l9.length (fl (eI .i64) l9))]) 0 rfl rfl rfl (one_all rfl) F_size_47 rfl rfl (by simp) rfl) rfl rfl ?_
            rintro _ _ rfl
            refine ent_nil ?_
            refine ent_region ?_
            refine ent_value (ov_load (v := sv74) rfl F_agg_25 (reads_box1 (i := 2) rfl rfl)) rfl rfl rfl ?_
            refine ent_value (ov_fieldAddr (sz := 3) (o := 0) rfl F_field_47_1 F_size_42) rfl rfl rfl ?_
            refine ent_value (ov_fieldAddr (sz := 0) (o := 5) rfl F_field_42_1 F_size_2) rfl rfl rfl ?_
            refine ent_value (ov_load (v := (Value.int .i64 (((l0.getD i6.toNat z_Api_Row).Cell).Sum))) rfl F_agg_2 (reads_box1 (i := 0) rfl rfl)) rfl rfl rfl ?_
            refine ent_op (ot_buildSlice (sz := 0) (xs := [.tmp 17]) (cs := fl (eI .i64) [((l0.getD i6.toNat z_Api_Row).Cell).Sum]) rfl rfl F_slice_25 F_size_2 F_zero_2 rfl rfl (all_size rfl) rfl (by decide)) rfl rfl rfl ?_
            rintro sv81 _ rfl
            by_cases c96 : (l9.length + [((l0.getD i6.toNat z_Api_Row).Cell).Sum].length) * 8 ≤ 140737488355328
            · rw [if_pos c96] at H8
              refine ent_op (ot_appendx (sz := 0) (xs := l9) (ys := [((l0.getD i6.toNat z_Api_Row).Cell).Sum]) 4 0 rfl rfl F_slice_25 F_size_2 F_zero_2 rfl F_bytes_2 rfl rfl rfl (isRd_ownx 2) rfl (eI_one _) c96) rfl rfl rfl ?_
              rintro sv82 _ rfl
              refine ent_L [(own sv81 2 1 [((l0.getD i6.toNat z_Api_Row).Cell).Sum].length (fl (eI .i64) [((l0.getD i6.toNat z_Api_Row).Cell).Sum])), (box b40 47 [(Value.int .i64 (((l0.getD i6.toNat z_Api_Row).Key).Hour)), (str (((l0.getD i6.toNat z_Api_Row).Key).Dims_0)), (str (((l0.getD i6.toNat z_Api_Row).Key).Dims_1)), (str (((l0.getD i6.toNat z_Api_Row).Key).Dims_2)), (str (((l0.getD i6.toNat z_Api_Row).Key).Dims_3)), (Value.int .i64 (((l0.getD i6.toNat z_Api_Row).Cell).Count)), (Value.int .i64 (((l0.getD i6.toNat z_Api_Row).Cell).Sum)), (Value.int .i64 (((l0.getD i6.toNat z_Api_Row).Cell).Min)), (Value.int .i64 (((l0.getD i6.toNat z_Api_Row).Cell).Max))]), A0, (box b27 25 [sv74]), (own sv82 2 1 (l9 ++ [((l0.getD i6.toNat z_Api_Row).Cell).Sum]).length (fl (eI .i64) (l9 ++ [((l0.getD i6.toNat z_Api_Row).Cell).Sum])))] rfl ?_
              refine ent_op0 (ot_storeS (cs := [sv74]) (cs' := [sv82]) (sv := sv82) (L' := [(own sv81 2 1 [((l0.getD i6.toNat z_Api_Row).Cell).Sum].length (fl (eI .i64) [((l0.getD i6.toNat z_Api_Row).Cell).Sum])), (box b40 47 [(Value.int .i64 (((l0.getD i6.toNat z_Api_Row).Key).Hour)), (str (((l0.getD i6.toNat z_Api_Row).Key).Dims_0)), (str (((l0.getD i6.toNat z_Api_Row).Key).Dims_1)), (str (((l0.getD i6.toNat z_Api_Row).Key).Dims_2)), (str (((l0.getD i6.toNat z_Api_Row).Key).Dims_3)), (Value.int .i64 (((l0.getD i6.toNat z_Api_Row).Cell).Count)), (Value.int .i64 (((l0.getD i6.toNat z_Api_Row).Cell).Sum)), (Value.int .i64 (((l0.getD i6.toNat z_Api_Row).Cell).Min)), (Value.int .i64 (((l0.getD i6.toNat z_Api_Row).Cell).Max))]), A0, (box b27 25 [sv82]), (own sv82 2 1 (l9 ++ [((l0.getD i6.toNat z_Api_Row).Cell).Sum]).length (fl (eI .i64) (l9 ++ [((l0.getD i6.toNat z_Api_Row).Cell).Sum])))]) 3 4 rfl rfl F_size_25 rfl rfl (isRd_ownx 2) rfl (by simp) rfl) rfl rfl ?_
              rintro _ _ rfl
              refine ent_nil ?_
              refine ent_region ?_
              refine ent_value (ov_bin rfl rfl (b_add _ _ _) ) rfl rfl rfl ?_
              refine ent_value (ov_move rfl) rfl rfl rfl ?_
              refine ent_nil ?_
              exact ent_fin [2, 3, 4] (by decide) rfl (sub_cons (t := 0) rfl (sub_cons (t := 2) rfl (sub_cons (t := 3) rfl (sub_cons (t := 8) rfl (sub_cons (t := 9) rfl (sub_cons (t := 10) rfl (sub_nil _))))))) fun a w h => ⟨k, Nat.lt_succ_self k, _, _, _, H8, h⟩
            · rw [if_neg c96] at H8
              cases H8
          · rw [if_neg c95] at H8
            cases H8
        · rw [if_neg c92] at H8
          refine ent_cond_false rfl (decide_eq_false c92) ?_
          refine ent_exit ?_
          cases H8
          exact ent_fin [0, 1, 2] (by decide) rfl (sub_cons (t := 0) rfl (sub_cons (t := 2) rfl (sub_cons (t := 3) rfl (sub_nil _)))) fun a w h => ⟨_, _, h⟩
  · refine ent_exi fun b34 => ent_exi fun sv69 => ?_
    refine ent_seq ?_
    refine ent_region ?_
    refine ent_value (ov_load (v := sv69) rfl F_agg_25 (reads_box1 (i := 1) rfl rfl)) rfl rfl rfl ?_
    obtain ⟨x16, h14, H⟩ := Option.bind_eq_some_iff.1 H
    refine ent_pick [2, 0, 1] (by decide) rfl ?_
    refine ent_op (ot_call (Lr := [A0, (box b34 25 [sv69])]) (first := []) (cap := []) (xs := [.tmp 21, .func 69]) rfl rfl F_call_68 rfl (pile_Sort__int64.spec K sv69 (own sv69 2 1 x15.length (fl (eI .i64) x15)) x15 (isRd_ownx 2) _ h14) rfl) rfl rfl rfl ?_
    rintro sv83 _ ⟨_, ⟨_, rfl, rfl⟩, rfl⟩
    refine ent_op0 (ot_storeS (cs := [sv69]) (cs' := [sv83]) (sv := sv83) (L' := [(own sv69 2 1 x15.length (fl (eI .i64) x15)), (own sv83 2 1 x16.length (fl (eI .i64) x16)), A0, (box b34 25 [sv83])]) 3 1 rfl rfl F_size_25 rfl rfl (isRd_ownx 2) rfl (by simp) rfl) rfl rfl ?_
    rintro _ _ rfl
    refine ent_nil ?_
    refine ent_seq ?_
    refine ent_seq ?_
    refine ent_region ?_
    refine ent_value (ov_move rfl) rfl rfl rfl ?_
    refine ent_value (ov_len 2 rfl F_slice_22 rfl hA0) rfl rfl rfl ?_
    refine ent_value (ov_move rfl) rfl rfl rfl ?_
    refine ent_nil ?_
    refine ent_block ?_
    refine ent_loop (fun k a w => ∃ i8, ∃ l11, ∃ sv101 : Value, stat_Rank_l1 K l0 x16 k i8 l11 = some r ∧ St 38 w0 F [(2, sv101), (3, (pt b34 0)), (23, sv0), (24, (Value.int .i64 (l0.length : Int))), (25, (Value.int .i64 i8))] [A0, (own sv101 3 1 l11.length (fl (eI .i64) l11)), (box b34 25 [sv83]), (own sv83 2 1 x16.length (fl (eI .i64) x16))] a w) K ?_ ?_
    · refine ent_ownnil 3 1 ?_
      exact ent_fin [3, 0, 4, 2] (by decide) rfl (sub_cons (t := 2) rfl (sub_cons (t := 3) rfl (sub_cons (t := 23) rfl (sub_cons (t := 24) rfl (sub_cons (t := 25) rfl (sub_nil _)))))) fun a w h => ⟨_, _, _, H, h⟩
    · refine fun k => ent_exi fun i8 => ent_exi fun l11 => ent_exi fun sv101 => ent_and fun H10 => ?_
      cases k with
      | zero => exact absurd H10 (by simp [stat_Rank_l1])
      | succ k =>
        rw [stat_Rank_l1] at H10
        refine ent_seq ?_
        refine ent_region ?_
        refine ent_value (ov_bin rfl rfl (b_lss _ _ _)) rfl rfl rfl ?_
        refine ent_nil ?_
        refine ent_seq ?_
        by_cases c124 : i8 < (l0.length : Int)
        · rw [if_pos c124] at H10
          refine ent_cond_true rfl (decide_eq_true c124) ?_
          refine ent_skip ?_
          refine ent_seq ?_
          refine ent_block ?_
          refine ent_seq ?_
          refine ent_region ?_
          by_cases c127 : 0 ≤ i8
          · rw [if_pos c127] at H10
            refine ent_value (ov_indexAddr (sz := 8) 0 rfl rfl F_slice_22 F_size_47 rfl hA0 c127 c124) rfl rfl rfl ?_
            refine ent_value (ov_load_agg (vs := [(Value.int .i64 (((l0.getD i8.toNat z_Api_Row).Key).Hour)), (str (((l0.getD i8.toNat z_Api_Row).Key).Dims_0)), (str (((l0.getD i8.toNat z_Api_Row).Key).Dims_1)), (str (((l0.getD i8.toNat z_Api_Row).Key).Dims_2)), (str (((l0.getD i8.toNat z_Api_Row).Key).Dims_3)), (Value.int .i64 (((l0.getD i8.toNat z_Api_Row).Cell).Count)), (Value.int .i64 (((l0.getD i8.toNat z_Api_Row).Cell).Sum)), (Value.int .i64 (((l0.getD i8.toNat z_Api_Row).Cell).Min)), (Value.int .i64 (((l0.getD i8.toNat z_Api_Row).Cell).Max))]) rfl F_agg_47 F_size_47 (reads_rd (i := 0) rfl hA0 (by simp) (fl_read0 enc_Api_Row_len (ix_lt c127 c124) rfl))) rfl rfl rfl ?_
            refine ent_op (ot_alloc F_zero_47) rfl rfl rfl ?_
            rintro _ _ ⟨b52, rfl, rfl⟩
            refine ent_op0 (ot_storeG (cs := [(Value.int .i64 0), (str ([] : List UInt8)), (str ([] : List UInt8)), (str ([] : List UInt8)), (str ([] : List UInt8)), (Value.int .i64 0), (Value.int .i64 0), (Value.int .i64 0), (Value.int .i64 0)]) (cs' := [(Value.int .i64 (((l0.getD i8.toNat z_Api_Row).Key).Hour)), (str (((l0.getD i8.toNat z_Api_Row).Key).Dims_0)), (str (((l0.getD i8.toNat z_Api_Row).Key).Dims_1)), (str (((l0.getD i8.toNat z_Api_Row).Key).Dims_2)), (str (((l0.getD i8.toNat z_Api_Row).Key).Dims_3)), (Value.int .i64 (((l0.getD i8.toNat z_Api_Row).Cell).Count)), (Value.int .i64 (((l0.getD i8.toNat z_Api_Row).Cell).Sum)), (Value.int .i64 (((l0.getD i8.toNat z_Api_Row).Cell).Min)), (Value.int .i64 (((l0.getD i8.toNat z_Api_Row).Cell).Max))]) (us := [(Value.int .i64 (((l0.getD i8.toNat z_Api_Row).Key).Hour)), (str (((l0.getD i8.toNat z_Api_Row).Key).Dims_0)), (str (((l0.getD i8.toNat z_Api_Row).Key).Dims_1)), (str (((l0.getD i8.toNat z_Api_Row).Key).Dims_2)), (str (((l0.getD i8.toNat z_Api_Row).Key).Dims_3)), (Value.int .i64 (((l0.getD i8.toNat z_Api_Row).Cell).Count)), (Value.int .i64 (((l0.getD i8.toNat z_Api_Row).Cell).Sum)), (Value.int .i64 (((l0.getD i8.toNat z_Api_Row).Cell).Min)), (Value.int .i64 (((l0.getD i8.toNat z_Api_Row).Cell).Max))]) (L' := [(box b52 47 [(Value.int .i64 (((l0.getD i8.toNat z_Api_Row).Key).Hour)), (str (((l0.getD i8.toNat z_Api_Row).Key).Dims_0)), (str (((l0.getD i8.toNat z_Api_Row).Key).Dims_1)), (str (((l0.getD i8.toNat z_Api_Row).Key).Dims_2)), (str (((l0.getD i8.toNat z_Api_Row).Key).Dims_3)), (Value.int .i64 (((l0.getD i8.toNat z_Api_Row).Cell).Count)), (Value.int .i64 (((l0.getD i8.toNat z_Api_Row).Cell).Sum)), (Value.int .i64 (((l0.getD i8.toNat z_Api_Row).Cell).Min)), (Value.int .i64 (((l0.getD i8.toNat z_Api_Row).Cell).Max))]), A0, (own sv101 3 1 l11.length (fl (eI .i64) l11)), (box b34 25 [sv83]), (own sv83 2 1 x16.length (fl (eI .i64) x16))]) 0 rfl rfl rfl (one_all rfl) F_size_47 rfl rfl (by simp) rfl) rfl rfl ?_
            rintro _ _ rfl
            refine ent_nil ?_
            refine ent_region ?_
            refine ent_value (ov_move rfl) rfl rfl rfl ?_
            refine ent_value (ov_load (v := sv83) rfl F_agg_25 (reads_box1 (i := 3) rfl rfl)) rfl rfl rfl ?_
            refine ent_value (ov_len 4 rfl F_slice_25 rfl (isRd_ownx 2)) rfl rfl rfl ?_
            refine ent_value (ov_makeFunc (first := []) (cap := [.tmp 3, .tmp 7]) rfl rfl) rfl rfl rfl ?_
            obtain ⟨x28, h26, H10⟩ := Option.bind_eq_some_iff.1 H10
            refine ent_op (ot_call_same (Lr := [A0, (own sv101 3 1 l11.length (fl (eI .i64) l11))]) [3, 4, 0, 1, 2] [2, 3, 4, 0, 1] (first := []) (cap := []) (xs := [.tmp 31, .tmp 32]) rfl rfl F_call_70 rfl (sort_Search.spec K b34 sv83 b52 (x16.length : Int) x16 (((l0.getD i8.toNat z_Api_Row).Key).Hour) (((l0.getD i8.toNat z_Api_Row).Key).Dims_0) (((l0.getD i8.toNat z_Api_Row).Key).Dims_1) (((l0.getD i8.toNat z_Api_Row).Key).Dims_2) (((l0.getD i8.toNat z_Api_Row).Key).Dims_3) (((l0.getD i8.toNat z_Api_Row).Cell).Count) (((l0.getD i8.toNat z_Api_Row).Cell).Sum) (((l0.getD i8.toNat z_Api_Row).Cell).Min) (((l0.getD i8.toNat z_Api_Row).Cell).Max) _ h26) (by decide) rfl (by decide) rfl) rfl rfl rfl ?_
            rintro _ _ ⟨rfl, rfl⟩
            refine ent_op (ot_buildSlice (sz := 0) (xs := [.tmp 33]) (cs := fl (eI .i64) [x28]) rfl rfl F_slice_28 F_size_3 F_zero_3 rfl rfl (all_size rfl) rfl (by decide)) rfl rfl rfl ?_
            rintro sv108 _ rfl
            by_cases c128 : (l11.length + [x28].length) * 8 ≤ 140737488355328
            · rw [if_pos c128] at H10
              refine ent_op (ot_appendx (sz := 0) (xs := l11) (ys := [x28]) 3 0 rfl rfl F_slice_28 F_size_3 F_zero_3 rfl F_bytes_3 rfl rfl rfl (isRd_ownx 3) rfl (eI_one _) c128) rfl rfl rfl ?_
              rintro sv109 _ rfl
              refine ent_L [(own sv108 3 1 [x28].length (fl (eI .i64) [x28])), (box b52 47 [(Value.int .i64 (((l0.getD i8.toNat z_Api_Row).Key).Hour)), (str (((l0.getD i8.toNat z_Api_Row).Key).Dims_0)), (str (((l0.getD i8.toNat z_Api_Row).Key).Dims_1)), (str (((l0.getD i8.toNat z_Api_Row).Key).Dims_2)), (str (((l0.getD i8.toNat z_Api_Row).Key).Dims_3)), (Value.int .i64 (((l0.getD i8.toNat z_Api_Row).Cell).Count)), (Value.int .i64 (((l0.getD i8.toNat z_Api_Row).Cell).Sum)), (Value.int .i64 (((l0.getD i8.toNat z_Api_Row).Cell).Min)), (Value.int .i64 (((l0.getD i8.toNat z_Api_Row).Cell).Max))]), A0, (own sv109 3 1 (l11 ++ [x28]).length (fl (eI .i64) (l11 ++ [x28]))), (box b34 25 [sv83]), (own sv83 2 1 x16.length (fl (eI .i64) x16))] rfl ?_
              refine ent_value (ov_assign rfl) rfl rfl rfl ?_
              refine ent_nil ?_
              refine ent_region ?_
              refine ent_value (ov_bin rfl rfl (b_add _ _ _) ) rfl rfl rfl ?_
              refine ent_value (ov_move rfl) rfl rfl rfl ?_
              refine ent_nil ?_
              exact ent_fin [2, 3, 4, 5] (by decide) rfl (sub_cons (t := 2) rfl (sub_cons (t := 3) rfl (sub_cons (t := 23) rfl (sub_cons (t := 24) rfl (sub_cons (t := 25) rfl (sub_nil _)))))) fun a w h => ⟨k, Nat.lt_succ_self k, _, _, _, H10, h⟩
            · rw [if_neg c128] at H10
              cases H10
          · rw [if_neg c127] at H10
            cases H10
        · rw [if_neg c124] at H10
          refine ent_cond_false rfl (decide_eq_false c124) ?_
          refine ent_exit ?_
          refine ent_seq ?_
          refine ent_region ?_
          refine ent_value (ov_move rfl) rfl rfl rfl ?_
          refine ent_value (ov_assign rfl) rfl rfl rfl ?_
          refine ent_nil ?_
          refine ent_retc ?_
          cases H10
          refine ent_pick [0, 1] (by decide) rfl ?_
          exact ret_tmp rfl rfl ⟨_, rfl, rfl⟩

set_option maxRecDepth 100000 in
theorem ossuaryref35_Rank.spec (K : Nat) (sv0 : Value) (A0 : HP) (l0 : List Api_Row) (hA0 : IsRd A0 sv0 l0.length 9 (fl enc_Api_Row l0)) (r : List Int) (H : ossuaryref35_Rank K l0 = some r) : FnSpec Try.prog 16 [sv0] [A0] (fun v M => ∃ sv33 : Value, v = sv33 ∧ M = [A0, (own sv33 3 1 r.length (fl (eI .i64) r))]) := by
  unfold ossuaryref35_Rank at H
  refine spec_of Try.func16 rfl 39 rfl (Nat.le_of_ble_eq_true rfl) fun F w0 => ?_
  show Ent (St 39 w0 F [(0, sv0)] [A0]) _
  refine ent_seq ?_
  refine ent_region ?_
  refine ent_value (ov_assign rfl) rfl rfl rfl ?_
  refine ent_nil ?_
  refine ent_seq ?_
  refine ent_region ?_
  refine ent_value (ov_assign rfl) rfl rfl rfl ?_
  refine ent_nil ?_
  refine ent_seq ?_
  refine ent_seq ?_
  refine ent_region ?_
  refine ent_value (ov_assign rfl) rfl rfl rfl ?_
  refine ent_nil ?_
  refine ent_block ?_
  refine ent_loop (fun k a w => ∃ i104, ∃ l15, ∃ sv55 : Value, ossuaryref35_Rank_l0 K l0 k i104 l15 = some r ∧ St 39 w0 F [(0, sv0), (3, sv55), (4, (Value.int .i64 i104))] [A0, (own sv55 3 1 l15.length (fl (eI .i64) l15))] a w) K ?_ ?_
  · refine ent_ownnil 3 1 ?_
    exact ent_fin [1, 0] (by decide) rfl (sub_cons (t := 0) rfl (sub_cons (t := 3) rfl (sub_cons (t := 4) rfl (sub_nil _)))) fun a w h => ⟨_, _, _, H, h⟩
  · refine fun k => ent_exi fun i104 => ent_exi fun l15 => ent_exi fun sv55 => ent_and fun H81 => ?_
    cases k with
    | zero => exact absurd H81 (by simp [ossuaryref35_Rank_l0])
    | succ k =>
      rw [ossuaryref35_Rank_l0] at H81
      refine ent_seq ?_
      refine ent_seq ?_
      refine ent_region ?_
      refine ent_value (ov_move rfl) rfl rfl rfl ?_
      refine ent_value (ov_move rfl) rfl rfl rfl ?_
      refine ent_value (ov_len 0 rfl F_slice_22 rfl hA0) rfl rfl rfl ?_
      refine ent_value (ov_bin rfl rfl (b_lss _ _ _)) rfl rfl rfl ?_
      refine ent_nil ?_
      by_cases c886 : i104 < (l0.length : Int)
      · rw [if_pos c886] at H81
        refine ent_cond_true rfl (decide_eq_true c886) ?_
        refine ent_skip ?_
        obtain ⟨x35, H85, H81⟩ := Option.bind_eq_some_iff.1 H81
        refine ent_seq_cut (fun a w => ∃ sv63 : Value, St 39 w0 F [(0, sv0), (3, sv63), (4, (Value.int .i64 i104))] [A0, (own sv63 3 1 x35.length (fl (eI .i64) x35))] a w) ?_ ?_
        · refine ent_block ?_
          refine ent_seq ?_
          refine ent_region ?_
          refine ent_value (ov_assign rfl) rfl rfl rfl ?_
          refine ent_nil ?_
          obtain ⟨x36, H87, H85⟩ := Option.bind_eq_some_iff.1 H85
          refine ent_seq_cut (fun a w => St 39 w0 F [(0, sv0), (3, sv55), (4, (Value.int .i64 i104)), (5, (Value.int .i64 x36))] [A0, (own sv55 3 1 l15.length (fl (eI .i64) l15))] a w) ?_ ?_
          · refine ent_seq ?_
            refine ent_region ?_
            refine ent_value (ov_assign rfl) rfl rfl rfl ?_
            refine ent_nil ?_
            refine ent_block ?_
            refine ent_loop (fun k a w => ∃ i123, ∃ i124, ossuaryref35_Rank_l1 K l0 i104 k i123 i124 = some x36 ∧ St 39 w0 F [(0, sv0), (3, sv55), (4, (Value.int .i64 i104)), (5, (Value.int .i64 i123)), (6, (Value.int .i64 i124))] [A0, (own sv55 3 1 l15.length (fl (eI .i64) l15))] a w) K ?_ ?_
            · exact ent_fin [0, 1] (by decide) rfl (sub_cons (t := 0) rfl (sub_cons (t := 3) rfl (sub_cons (t := 4) rfl (sub_cons (t := 5) rfl (sub_cons (t := 6) rfl (sub_nil _)))))) fun a w h => ⟨_, _, H87, h⟩
            · refine fun k => ent_exi fun i123 => ent_exi fun i124 => ent_and fun H88 => ?_
              cases k with
              | zero => exact absurd H88 (by simp [ossuaryref35_Rank_l1])
              | succ k =>
                rw [ossuaryref35_Rank_l1] at H88
                refine ent_seq ?_
                refine ent_seq ?_
                refine ent_region ?_
                refine ent_value (ov_move rfl) rfl rfl rfl ?_
                refine ent_value (ov_move rfl) rfl rfl rfl ?_
                refine ent_value (ov_len 0 rfl F_slice_22 rfl hA0) rfl rfl rfl ?_
                refine ent_value (ov_bin rfl rfl (b_lss _ _ _)) rfl rfl rfl ?_
                refine ent_nil ?_
                by_cases c969 : i124 < (l0.length : Int)
                · rw [if_pos c969] at H88
                  refine ent_cond_true rfl (decide_eq_true c969) ?_
                  refine ent_skip ?_
                  refine ent_seq ?_
                  refine ent_block ?_
                  refine ent_seq ?_
                  by_cases c973 : 0 ≤ i124
                  · rw [if_pos c973] at H88
                    by_cases c974 : 0 ≤ i104
                    · rw [if_pos c974] at H88
                      refine ent_drawm 13 rfl (fun done a w => StD 39 w0 F [(0, sv0), (3, sv55), (4, (Value.int .i64 i104)), (5, (Value.int .i64 i123)), (6, (Value.int .i64 i124)), (13, (Value.int .i64 i124)), (14, sv0), (15, (Value.int .i64 (l0.length : Int))), (16, (Value.bool (decide (i124 < (l0.length : Int)))))] [(0, 19, sv0), (1, 20, (Value.int .i64 i124)), (2, 21, (eptr sv0 (i124.toNat * 9))), (3, 22, (eptr sv0 (i124.toNat * 9 + 5))), (4, 23, (eptr sv0 (i124.toNat * 9 + 6))), (5, 24, (Value.int .i64 (((l0.getD i124.toNat z_Api_Row).Cell).Sum))), (6, 25, sv0), (7, 26, (Value.int .i64 i104)), (8, 27, (eptr sv0 (i104.toNat * 9))), (9, 28, (eptr sv0 (i104.toNat * 9 + 5))), (10, 29, (eptr sv0 (i104.toNat * 9 + 6))), (11, 30, (Value.int .i64 (((l0.getD i104.toNat z_Api_Row).Cell).Sum))), (12, 31, (Value.bool (decide ((((l0.getD i104.toNat z_Api_Row).Cell).Sum) < (((l0.getD i124.toNat z_Api_Row).Cell).Sum)))))] done [A0, (own sv55 3 1 l15.length (fl (eI .i64) l15))] a w) (by kernel_rfl) (by kernel_rfl) (draw_startL (sub_cons (t := 0) rfl (sub_cons (t := 3) rfl (sub_cons (t := 4) rfl (sub_cons (t := 5) rfl (sub_cons (t := 6) rfl (sub_cons (t := 13) rfl (sub_cons (t := 14) rfl (sub_cons (t := 15) rfl (sub_cons (t := 16) rfl (sub_nil _)))))))))) rfl) ?_ ?_
                      · refine ⟨?_, ?_, ?_, ?_, ?_, ?_, ?_, ?_, ?_, ?_, ?_, ?_, ?_, trivial⟩
                        · intro done hi hc hcu
                          exact draw_value (i := 0) (t := 19) (v := sv0) rfl rfl (wanted_none rfl) (fun a => hasA_base) (ov_move rfl) rfl rfl (onlyT_spec (k0 := 0) rfl rfl rfl)
                        · intro done hi hc hcu
                          exact draw_value (i := 1) (t := 20) (v := (Value.int .i64 i124)) rfl rfl (wanted_none rfl) (fun a => hasA_base) (ov_move rfl) rfl rfl (onlyT_spec (k0 := 1) rfl rfl rfl)
                        · intro done hi hc hcu
                          have d0 : done 0 = true := done_of (j := 0) hcu rfl (by decide) rfl
                          have d1 : done 1 = true := done_of (j := 1) hcu rfl (by decide) rfl
                          exact draw_value (i := 2) (t := 21) (v := (eptr sv0 (i124.toNat * 9))) rfl rfl (wanted_none rfl) (fun a => (hasA_cons (k := 1) rfl d1 (hasA_cons (k := 0) rfl d0 hasA_base))) (ov_indexAddr (sz := 8) 0 rfl rfl F_slice_22 F_size_47 rfl hA0 c973 c969) rfl rfl (onlyT_spec (k0 := 2) rfl rfl rfl)
                        · intro done hi hc hcu
                          have d2 : done 2 = true := done_of (j := 2) hcu rfl (by decide) rfl
                          exact draw_value (i := 3) (t := 22) (v := (eptr sv0 (i124.toNat * 9 + 5))) rfl rfl (wanted_none rfl) (fun a => (hasA_cons (k := 2) rfl d2 hasA_base)) (ov_fieldAddrE (sz := 3) (k0 := i124.toNat * 9) (off := 5) 0 rfl F_field_47_1 F_size_42 rfl hA0 (fl_pos enc_Api_Row_len (ix_lt c973 c969))) rfl rfl (onlyT_spec (k0 := 3) rfl rfl rfl)
                        · intro done hi hc hcu
                          have d3 : done 3 = true := done_of (j := 3) hcu rfl (by decide) rfl
                          exact draw_value (i := 4) (t := 23) (v := (eptr sv0 (i124.toNat * 9 + 6))) rfl rfl (wanted_none rfl) (fun a => (hasA_cons (k := 3) rfl d3 hasA_base)) (ov_fieldAddrE (sz := 0) (k0 := i124.toNat * 9 + 5) (off := 1) 0 rfl F_field_42_1 F_size_2 rfl hA0 (fl_pos enc_Api_Row_len (ix_lt c973 c969))) rfl rfl (onlyT_spec (k0 := 4) rfl rfl rfl)
                        · intro done hi hc hcu
                          have d4 : done 4 = true := done_of (j := 4) hcu rfl (by decide) rfl
                          exact draw_value (i := 5) (t := 24) (v := (Value.int .i64 (((l0.getD i124.toNat z_Api_Row).Cell).Sum))) rfl rfl (wanted_none rfl) (fun a => (hasA_cons (k := 4) rfl d4 hasA_base)) (ov_load (v := (Value.int .i64 (((l0.getD i124.toNat z_Api_Row).Cell).Sum))) rfl F_agg_2 (reads_rd (i := 0) rfl hA0 (by simp) (fl_read (off := 6) enc_Api_Row_len (ix_lt c973 c969) rfl))) rfl rfl (onlyT_spec (k0 := 5) rfl rfl rfl)
                        · intro done hi hc hcu
                          exact draw_value (i := 6) (t := 25) (v := sv0) rfl rfl (wanted_none rfl) (fun a => hasA_base) (ov_move rfl) rfl rfl (onlyT_spec (k0 := 6) rfl rfl rfl)
                        · intro done hi hc hcu
                          exact draw_value (i := 7) (t := 26) (v := (Value.int .i64 i104)) rfl rfl (wanted_none rfl) (fun a => hasA_base) (ov_move rfl) rfl rfl (onlyT_spec (k0 := 7) rfl rfl rfl)
                        · intro done hi hc hcu
                          have d6 : done 6 = true := done_of (j := 6) hcu rfl (by decide) rfl
                          have d7 : done 7 = true := done_of (j := 7) hcu rfl (by decide) rfl
                          exact draw_value (i := 8) (t := 27) (v := (eptr sv0 (i104.toNat * 9))) rfl rfl (wanted_none rfl) (fun a => (hasA_cons (k := 7) rfl d7 (hasA_cons (k := 6) rfl d6 hasA_base))) (ov_indexAddr (sz := 8) 0 rfl rfl F_slice_22 F_size_47 rfl hA0 c974 c886) rfl rfl (onlyT_spec (k0 := 8) rfl rfl rfl)
                        · intro done hi hc hcu
                          have d8 : done 8 = true := done_of (j := 8) hcu rfl (by decide) rfl
                          exact draw_value (i := 9) (t := 28) (v := (eptr sv0 (i104.toNat * 9 + 5))) rfl rfl (wanted_none rfl) (fun a => (hasA_cons (k := 8) rfl d8 hasA_base)) (ov_fieldAddrE (sz := 3) (k0 := i104.toNat * 9) (off := 5) 0 rfl F_field_47_1 F_size_42 rfl hA0 (fl_pos enc_Api_Row_len (ix_lt c974 c886))) rfl rfl (onlyT_spec (k0 := 9) rfl rfl rfl)
                        · intro done hi hc hcu
                          have d9 : done 9 = true := done_of (j := 9) hcu rfl (by decide) rfl
                          exact draw_value (i := 10) (t := 29) (v := (eptr sv0 (i104.toNat * 9 + 6))) rfl rfl (wanted_none rfl) (fun a => (hasA_cons (k := 9) rfl d9 hasA_base)) (ov_fieldAddrE (sz := 0) (k0 := i104.toNat * 9 + 5) (off := 1) 0 rfl F_field_42_1 F_size_2 rfl hA0 (fl_pos enc_Api_Row_len (ix_lt c974 c886))) rfl rfl (onlyT_spec (k0 := 10) rfl rfl rfl)
                        · intro done hi hc hcu
                          have d10 : done 10 = true := done_of (j := 10) hcu rfl (by decide) rfl
                          exact draw_value (i := 11) (t := 30) (v := (Value.int .i64 (((l0.getD i104.toNat z_Api_Row).Cell).Sum))) rfl rfl (wanted_none rfl) (fun a => (hasA_cons (k := 10) rfl d10 hasA_base)) (ov_load (v := (Value.int .i64 (((l0.getD i104.toNat z_Api_Row).Cell).Sum))) rfl F_agg_2 (reads_rd (i := 0) rfl hA0 (by simp) (fl_read (off := 6) enc_Api_Row_len (ix_lt c974 c886) rfl))) rfl rfl (onlyT_spec (k0 := 11) rfl rfl rfl)
                        · intro done hi hc hcu
                          have d5 : done 5 = true := done_of (j := 5) hcu rfl (by decide) rfl
                          have d11 : done 11 = true := done_of (j := 11) hcu rfl (by decide) rfl
                          exact draw_value (i := 12) (t := 31) (v := (Value.bool (decide ((((l0.getD i104.toNat z_Api_Row).Cell).Sum) < (((l0.getD i124.toNat z_Api_Row).Cell).Sum))))) rfl rfl (wanted_none rfl) (fun a => (hasA_cons (k := 11) rfl d11 (hasA_cons (k := 5) rfl d5 hasA_base))) (ov_bin rfl rfl (b_gtr _ _ _)) rfl rfl (onlyT_spec (k0 := 12) rfl rfl rfl)
                      · intro done hall
                        refine draw_endL [A0, (own sv55 3 1 l15.length (fl (eI .i64) l15))] rfl (fun a => (hasA_cons (k := 0) rfl (hall 0 (by decide)) (hasA_cons (k := 1) rfl (hall 1 (by decide)) (hasA_cons (k := 2) rfl (hall 2 (by decide)) (hasA_cons (k := 3) rfl (hall 3 (by decide)) (hasA_cons (k := 4) rfl (hall 4 (by decide)) (hasA_cons (k := 5) rfl (hall 5 (by decide)) (hasA_cons (k := 6) rfl (hall 6 (by decide)) (hasA_cons (k := 7) rfl (hall 7 (by decide)) (hasA_cons (k := 8) rfl (hall 8 (by decide)) (hasA_cons (k := 9) rfl (hall 9 (by decide)) (hasA_cons (k := 10) rfl (hall 10 (by decide)) (hasA_cons (k := 11) rfl (hall 11 (by decide)) (hasA_cons (k := 12) rfl (hall 12 (by decide)) hasA_base)))))))))))))) ?_
                        by_cases c975 : (((l0.getD i104.toNat z_Api_Row).Cell).Sum) < (((l0.getD i124.toNat z_Api_Row).Cell).Sum)
                        · rw [if_pos c975] at H88
                          refine ent_cond_true rfl (decide_eq_true c975) ?_
                          refine ent_region ?_
                          refine ent_value (ov_move rfl) rfl rfl rfl ?_
                          refine ent_value (ov_bin rfl rfl (b_add _ _ _) ) rfl rfl rfl ?_
                          refine ent_value (ov_assign rfl) rfl rfl rfl ?_
                          refine ent_nil ?_
                          refine ent_region ?_
                          refine ent_value (ov_move rfl) rfl rfl rfl ?_
                          refine ent_value (ov_bin rfl rfl (b_add _ _ _) ) rfl rfl rfl ?_
                          refine ent_value (ov_assign rfl) rfl rfl rfl ?_
                          refine ent_nil ?_
                          exact ent_fin [0, 1] (by decide) rfl (sub_cons (t := 0) rfl (sub_cons (t := 3) rfl (sub_cons (t := 4) rfl (sub_cons (t := 5) rfl (sub_cons (t := 6) rfl (sub_nil _)))))) fun a w h => ⟨k, Nat.lt_succ_self k, _, _, H88, h⟩
                        · rw [if_neg c975] at H88
                          refine ent_cond_false rfl (decide_eq_false c975) ?_
                          refine ent_skip ?_
                          refine ent_region ?_
                          refine ent_value (ov_move rfl) rfl rfl rfl ?_
                          refine ent_value (ov_bin rfl rfl (b_add _ _ _) ) rfl rfl rfl ?_
                          refine ent_value (ov_assign rfl) rfl rfl rfl ?_
                          refine ent_nil ?_
                          exact ent_fin [0, 1] (by decide) rfl (sub_cons (t := 0) rfl (sub_cons (t := 3) rfl (sub_cons (t := 4) rfl (sub_cons (t := 5) rfl (sub_cons (t := 6) rfl (sub_nil _)))))) fun a w h => ⟨k, Nat.lt_succ_self k, _, _, H88, h⟩
                    · rw [if_neg c974] at H88
                      cases H88
                  · rw [if_neg c973] at H88
                    cases H88
                · rw [if_neg c969] at H88
                  refine ent_cond_false rfl (decide_eq_false c969) ?_
                  refine ent_exit ?_
                  cases H88
                  exact ent_fin [0, 1] (by decide) rfl (sub_cons (t := 0) rfl (sub_cons (t := 3) rfl (sub_cons (t := 4) rfl (sub_cons (t := 5) rfl (sub_nil _))))) fun a w h => h
          · refine ent_region ?_
            refine ent_value (ov_move rfl) rfl rfl rfl ?_
            refine ent_value (ov_move rfl) rfl rfl rfl ?_
            refine ent_op (ot_buildSlice (sz := 0) (xs := [.tmp 35]) (cs := fl (eI .i64) [x36]) rfl rfl F_slice_28 F_size_3 F_zero_3 rfl rfl (all_size rfl) rfl (by decide)) rfl rfl rfl ?_
            rintro sv64 _ rfl
            by_cases c976 : (l15.length + [x36].length) * 8 ≤ 140737488355328
            · rw [if_pos c976] at H85
              refine ent_op (ot_appendx (sz := 0) (xs := l15) (ys := [x36]) 2 0 rfl rfl F_slice_28 F_size_3 F_zero_3 rfl F_bytes_3 rfl rfl rfl (isRd_ownx 3) rfl (eI_one _) c976) rfl rfl rfl ?_
              rintro sv65 _ rfl
              refine ent_L [(own sv64 3 1 [x36].length (fl (eI .i64) [x36])), A0, (own sv65 3 1 (l15 ++ [x36]).length (fl (eI .i64) (l15 ++ [x36])))] rfl ?_
              refine ent_value (ov_assign rfl) rfl rfl rfl ?_
              refine ent_nil ?_
              cases H85
              exact ent_fin [1, 2] (by decide) rfl (sub_cons (t := 0) rfl (sub_cons (t := 3) rfl (sub_cons (t := 4) rfl (sub_nil _)))) fun a w h => ⟨_, h⟩
            · rw [if_neg c976] at H85
              cases H85
        · refine ent_exi fun sv63 => ?_
          refine ent_region ?_
          refine ent_value (ov_move rfl) rfl rfl rfl ?_
          refine ent_value (ov_bin rfl rfl (b_add _ _ _) ) rfl rfl rfl ?_
          refine ent_value (ov_assign rfl) rfl rfl rfl ?_
          refine ent_nil ?_
          exact ent_fin [0, 1] (by decide) rfl (sub_cons (t := 0) rfl (sub_cons (t := 3) rfl (sub_cons (t := 4) rfl (sub_nil _)))) fun a w h => ⟨k, Nat.lt_succ_self k, _, _, _, H81, h⟩
      · rw [if_neg c886] at H81
        refine ent_cond_false rfl (decide_eq_false c886) ?_
        refine ent_exit ?_
        refine ent_seq ?_
        refine ent_region ?_
        refine ent_value (ov_move rfl) rfl rfl rfl ?_
        refine ent_value (ov_assign rfl) rfl rfl rfl ?_
        refine ent_nil ?_
        refine ent_retc ?_
        cases H81
        exact ret_tmp rfl rfl ⟨_, rfl, rfl⟩

set_option maxRecDepth 100000 in
theorem ossuaryref08_Same.spec (K : Nat) (sv0 : Value) (A0 : HP) (sv1 : Value) (A1 : HP) (l0 : List Int) (l1 : List Int) (hA0 : IsRd A0 sv0 l0.length 1 (fl (eI .i64) l0)) (hA1 : IsRd A1 sv1 l1.length 1 (fl (eI .i64) l1)) (r : Bool) (H : ossuaryref08_Same K l0 l1 = some r) : FnSpec Try.prog 17 [sv0, sv1] [A0, A1] (fun v M => v = (Value.bool r) ∧ M = [A0, A1]) := by
  unfold ossuaryref08_Same at H
  refine spec_of Try.func17 rfl 26 rfl (Nat.le_of_ble_eq_true rfl) fun F w0 => ?_
  show Ent (St 26 w0 F [(0, sv0), (1, sv1)] [A0, A1]) _
  refine ent_seq ?_
  refine ent_region ?_
  refine ent_value (ov_assign rfl) rfl rfl rfl ?_
  refine ent_nil ?_
  refine ent_seq ?_
  refine ent_seq ?_
  refine ent_region ?_
  refine ent_value (ov_move rfl) rfl rfl rfl ?_
  refine ent_value (ov_len 0 rfl F_slice_25 rfl hA0) rfl rfl rfl ?_
  refine ent_value (ov_move rfl) rfl rfl rfl ?_
  refine ent_value (ov_len 1 rfl F_slice_25 rfl hA1) rfl rfl rfl ?_
  refine ent_value (ov_bin rfl rfl (b_neq _ _ _)) rfl rfl rfl ?_
  refine ent_nil ?_
  by_cases c48 : ¬ ((l0.length : Int) = (l1.length : Int))
  · rw [if_pos c48] at H
    refine ent_cond_true rfl (ne_t c48) ?_
    refine ent_seq ?_
    refine ent_region ?_
    refine ent_value (ov_assign rfl) rfl rfl rfl ?_
    refine ent_nil ?_
    refine ent_retc ?_
    cases H
    exact ret_tmp rfl rfl ⟨rfl, rfl⟩
  · rw [if_neg c48] at H
    refine ent_cond_false rfl (ne_f c48) ?_
    refine ent_skip ?_
    refine ent_seq ?_
    refine ent_seq ?_
    refine ent_region ?_
    refine ent_value (ov_assign rfl) rfl rfl rfl ?_
    refine ent_nil ?_
    refine ent_block ?_
    refine ent_loop (fun k a w => ∃ i4, ossuaryref08_Same_l0 K l0 l1 k i4 = some r ∧ St 26 w0 F [(0, sv0), (1, sv1), (5, (Value.int .i64 i4))] [A0, A1] a w) K ?_ ?_
    · exact ent_fin [0, 1] (by decide) rfl (sub_cons (t := 0) rfl (sub_cons (t := 1) rfl (sub_cons (t := 5) rfl (sub_nil _)))) fun a w h => ⟨_, H, h⟩
    · refine fun k => ent_exi fun i4 => ent_and fun H4 => ?_
      cases k with
      | zero => exact absurd H4 (by simp [ossuaryref08_Same_l0])
      | succ k =>
        rw [ossuaryref08_Same_l0] at H4
        refine ent_seq ?_
        refine ent_seq ?_
        refine ent_region ?_
        refine ent_value (ov_move rfl) rfl rfl rfl ?_
        refine ent_value (ov_move rfl) rfl rfl rfl ?_
        refine ent_value (ov_len 0 rfl F_slice_25 rfl hA0) rfl rfl rfl ?_
        refine ent_value (ov_bin rfl rfl (b_lss _ _ _)) rfl rfl rfl ?_
        refine ent_nil ?_
        by_cases c86 : i4 < (l0.length : Int)
        · rw [if_pos c86] at H4
          refine ent_cond_true rfl (decide_eq_true c86) ?_
          refine ent_skip ?_
          refine ent_seq ?_
          refine ent_block ?_
          refine ent_seq ?_
          by_cases c90 : 0 ≤ i4
          · rw [if_pos c90] at H4
            by_cases c91 : i4 < (l1.length : Int)
            · rw [if_pos c91] at H4
              refine ent_drawm 9 rfl (fun done a w => StD 26 w0 F [(0, sv0), (1, sv1), (5, (Value.int .i64 i4)), (11, (Value.int .i64 i4)), (12, sv0), (13, (Value.int .i64 (l0.length : Int))), (14, (Value.bool (decide (i4 < (l0.length : Int)))))] [(0, 17, sv0), (1, 18, (Value.int .i64 i4)), (2, 19, (eptr sv0 (i4.toNat * 1))), (3, 20, (Value.int .i64 (l0.getD i4.toNat 0))), (4, 21, sv1), (5, 22, (Value.int .i64 i4)), (6, 23, (eptr sv1 (i4.toNat * 1))), (7, 24, (Value.int .i64 (l1.getD i4.toNat 0))), (8, 25, (Value.bool ((l0.getD i4.toNat 0) != (l1.getD i4.toNat 0))))] done [A0, A1] a w) (by kernel_rfl) (by kernel_rfl) (draw_startL (sub_cons (t := 0) rfl (sub_cons (t := 1) rfl (sub_cons (t := 5) rfl (sub_cons (t := 11) rfl (sub_cons (t := 12) rfl (sub_cons (t := 13) rfl (sub_cons (t := 14) rfl (sub_nil _)))))))) rfl) ?_ ?_
              · refine ⟨?_, ?_, ?_, ?_, ?_, ?_, ?_, ?_, ?_, trivial⟩
                · intro done hi hc hcu
                  exact draw_value (i := 0) (t := 17) (v := sv0) rfl rfl (wanted_none rfl) (fun a => hasA_base) (ov_move rfl) rfl rfl (onlyT_spec (k0 := 0) rfl rfl rfl)
                · intro done hi hc hcu
                  exact draw_value (i := 1) (t := 18) (v := (Value.int .i64 i4)) rfl rfl (wanted_none rfl) (fun a => hasA_base) (ov_move rfl) rfl rfl (onlyT_spec (k0 := 1) rfl rfl rfl)
                · intro done hi hc hcu
                  have d0 : done 0 = true := done_of (j := 0) hcu rfl (by decide) rfl
                  have d1 : done 1 = true := done_of (j := 1) hcu rfl (by decide) rfl
                  exact draw_value (i := 2) (t := 19) (v := (eptr sv0 (i4.toNat * 1))) rfl rfl (wanted_none rfl) (fun a => (hasA_cons (k := 1) rfl d1 (hasA_cons (k := 0) rfl d0 hasA_base))) (ov_indexAddr (sz := 0) 0 rfl rfl F_slice_25 F_size_2 rfl hA0 c90 c86) rfl rfl (onlyT_spec (k0 := 2) rfl rfl rfl)
                · intro done hi hc hcu
                  have d2 : done 2 = true := done_of (j := 2) hcu rfl (by decide) rfl
                  exact draw_value (i := 3) (t := 20) (v := (Value.int .i64 (l0.getD i4.toNat 0))) rfl rfl (wanted_none rfl) (fun a => (hasA_cons (k := 2) rfl d2 hasA_base)) (ov_load (v := (Value.int .i64 (l0.getD i4.toNat 0))) rfl F_agg_2 (reads_rd (i := 0) rfl hA0 (by simp) (fl_read0 (eI_len _) (ix_lt c90 c86) rfl))) rfl rfl (onlyT_spec (k0 := 3) rfl rfl rfl)
                · intro done hi hc hcu
                  exact draw_value (i := 4) (t := 21) (v := sv1) rfl rfl (wanted_none rfl) (fun a => hasA_base) (ov_move rfl) rfl rfl (onlyT_spec (k0 := 4) rfl rfl rfl)
                · intro done hi hc hcu
                  exact draw_value (i := 5) (t := 22) (v := (Value.int .i64 i4)) rfl rfl (wanted_none rfl) (fun a => hasA_base) (ov_move rfl) rfl rfl (onlyT_spec (k0 := 5) rfl rfl rfl)
                · intro done hi hc hcu
                  have d4 : done 4 = true := done_of (j := 4) hcu rfl (by decide) rfl
                  have d5 : done 5 = true := done_of (j := 5) hcu rfl (by decide) rfl
                  exact draw_value (i := 6) (t := 23) (v := (eptr sv1 (i4.toNat * 1))) rfl rfl (wanted_none rfl) (fun a => (hasA_cons (k := 5) rfl d5 (hasA_cons (k := 4) rfl d4 hasA_base))) (ov_indexAddr (sz := 0) 1 rfl rfl F_slice_25 F_size_2 rfl hA1 c90 c91) rfl rfl (onlyT_spec (k0 := 6) rfl rfl rfl)
                · intro done hi hc hcu
                  have d6 : done 6 = true := done_of (j := 6) hcu rfl (by decide) rfl
                  exact draw_value (i := 7) (t := 24) (v := (Value.int .i64 (l1.getD i4.toNat 0))) rfl rfl (wanted_none rfl) (fun a => (hasA_cons (k := 6) rfl d6 hasA_base)) (ov_load (v := (Value.int .i64 (l1.getD i4.toNat 0))) rfl F_agg_2 (reads_rd (i := 1) rfl hA1 (by simp) (fl_read0 (eI_len _) (ix_lt c90 c91) rfl))) rfl rfl (onlyT_spec (k0 := 7) rfl rfl rfl)
                · intro done hi hc hcu
                  have d3 : done 3 = true := done_of (j := 3) hcu rfl (by decide) rfl
                  have d7 : done 7 = true := done_of (j := 7) hcu rfl (by decide) rfl
                  exact draw_value (i := 8) (t := 25) (v := (Value.bool ((l0.getD i4.toNat 0) != (l1.getD i4.toNat 0)))) rfl rfl (wanted_none rfl) (fun a => (hasA_cons (k := 7) rfl d7 (hasA_cons (k := 3) rfl d3 hasA_base))) (ov_bin rfl rfl (b_neq _ _ _)) rfl rfl (onlyT_spec (k0 := 8) rfl rfl rfl)
              · intro done hall
                refine draw_endL [A0, A1] rfl (fun a => (hasA_cons (k := 0) rfl (hall 0 (by decide)) (hasA_cons (k := 1) rfl (hall 1 (by decide)) (hasA_cons (k := 2) rfl (hall 2 (by decide)) (hasA_cons (k := 3) rfl (hall 3 (by decide)) (hasA_cons (k := 4) rfl (hall 4 (by decide)) (hasA_cons (k := 5) rfl (hall 5 (by decide)) (hasA_cons (k := 6) rfl (hall 6 (by decide)) (hasA_cons (k := 7) rfl (hall 7 (by decide)) (hasA_cons (k := 8) rfl (hall 8 (by decide)) hasA_base)))))))))) ?_
                by_cases c92 : ¬ ((l0.getD i4.toNat 0) = (l1.getD i4.toNat 0))
                · rw [if_pos c92] at H4
                  refine ent_cond_true rfl (ne_t c92) ?_
                  refine ent_seq ?_
                  refine ent_region ?_
                  refine ent_value (ov_assign rfl) rfl rfl rfl ?_
                  refine ent_nil ?_
                  refine ent_retc ?_
                  cases H4
                  exact ret_tmp rfl rfl ⟨rfl, rfl⟩
                · rw [if_neg c92] at H4
                  refine ent_cond_false rfl (ne_f c92) ?_
                  refine ent_skip ?_
                  refine ent_region ?_
                  refine ent_value (ov_move rfl) rfl rfl rfl ?_
                  refine ent_value (ov_bin rfl rfl (b_add _ _ _) ) rfl rfl rfl ?_
                  refine ent_value (ov_assign rfl) rfl rfl rfl ?_
                  refine ent_nil ?_
                  exact ent_fin [0, 1] (by decide) rfl (sub_cons (t := 0) rfl (sub_cons (t := 1) rfl (sub_cons (t := 5) rfl (sub_nil _)))) fun a w h => ⟨k, Nat.lt_succ_self k, _, H4, h⟩
            · rw [if_neg c91] at H4
              cases H4
          · rw [if_neg c90] at H4
            cases H4
        · rw [if_neg c86] at H4
          refine ent_cond_false rfl (decide_eq_false c86) ?_
          refine ent_exit ?_
          refine ent_seq ?_
          refine ent_region ?_
          refine ent_value (ov_assign rfl) rfl rfl rfl ?_
          refine ent_nil ?_
          refine ent_retc ?_
          cases H4
          exact ret_tmp rfl rfl ⟨rfl, rfl⟩

set_option maxRecDepth 100000 in
theorem ossuarylaw35_StatShares.spec (K : Nat) (A0 : HP) (sv0 : Value) (l0 : List Api_Row) (hA0 : IsRd A0 sv0 l0.length 9 (fl enc_Api_Row l0)) (r : Bool) (H : ossuarylaw35_StatShares K l0 = some r) : FnSpec Try.prog 3 [sv0] [A0] (fun v M => v = (Value.bool r) ∧ M = [A0]) := by
  unfold ossuarylaw35_StatShares at H
  refine spec_of Try.func3 rfl 59 rfl (Nat.le_of_ble_eq_true rfl) fun F w0 => ?_
  show Ent (St 59 w0 F [(0, sv0)] [A0]) _
  refine ent_seq ?_
  refine ent_region ?_
  refine ent_value (ov_assign rfl) rfl rfl rfl ?_
  refine ent_nil ?_
  refine ent_seq ?_
  refine ent_seq ?_
  refine ent_region ?_
  refine ent_value (ov_move rfl) rfl rfl rfl ?_
  obtain ⟨x14, h13, H⟩ := Option.bind_eq_some_iff.1 H
  refine ent_op (ot_call_same (Lr := []) [0] [0] (first := []) (cap := []) (xs := [.tmp 10]) rfl rfl F_call_11 rfl (ossuarylaw35_light.spec K sv0 A0 l0 hA0 _ h13) (by decide) rfl (by decide) rfl) rfl rfl rfl ?_
  rintro _ _ ⟨rfl, rfl⟩
  refine ent_value (ov_un rfl (u_not _)) rfl rfl rfl ?_
  refine ent_nil ?_
  by_cases c52 : (!x14) = true
  · rw [if_pos c52] at H
    refine ent_cond_true rfl c52 ?_
    refine ent_seq ?_
    refine ent_region ?_
    obtain ⟨x15, h14, H⟩ := Option.bind_eq_some_iff.1 H
    refine ent_op (ot_call0 (first := []) (cap := []) (xs := []) rfl rfl F_call_12 rfl (ossuarylaw35_alive.spec K _ h14)) rfl rfl rfl ?_
    rintro _ _ ⟨rfl, rfl⟩
    refine ent_value (ov_assign rfl) rfl rfl rfl ?_
    refine ent_nil ?_
    refine ent_retc ?_
    cases H
    exact ret_tmp rfl rfl ⟨rfl, rfl⟩
  · rw [if_neg c52] at H
    refine ent_cond_false rfl (Bool.eq_false_iff.2 c52) ?_
    refine ent_skip ?_
    refine ent_seq ?_
    refine ent_region ?_
    refine ent_value (ov_move rfl) rfl rfl rfl ?_
    obtain ⟨x16, h15, H⟩ := Option.bind_eq_some_iff.1 H
    refine ent_op (ot_call (Lr := []) (first := []) (cap := []) (xs := [.tmp 15]) rfl rfl F_call_13 rfl (stat_Shares.spec K sv0 A0 l0 hA0 _ h15) rfl) rfl rfl rfl ?_
    rintro _ _ ⟨_, ⟨sv5, rfl, rfl⟩, rfl⟩
    refine ent_value (ov_move rfl) rfl rfl rfl ?_
    refine ent_value (ov_extract rfl rfl) rfl rfl rfl ?_
    refine ent_value (ov_extract rfl rfl) rfl rfl rfl ?_
    refine ent_value (ov_assign rfl) rfl rfl rfl ?_
    refine ent_value (ov_assign rfl) rfl rfl rfl ?_
    refine ent_nil ?_
    refine ent_seq ?_
    refine ent_region ?_
    refine ent_value (ov_move rfl) rfl rfl rfl ?_
    obtain ⟨x17, h16, H⟩ := Option.bind_eq_some_iff.1 H
    refine ent_op (ot_call (Lr := [(own sv5 2 1 x16.2.length (fl (eI .i64) x16.2))]) (first := []) (cap := []) (xs := [.tmp 20]) rfl rfl F_call_14 rfl (ossuaryref35_Shares.spec K sv0 A0 l0 hA0 _ h16) rfl) rfl rfl rfl ?_
    rintro _ _ ⟨_, ⟨sv6, rfl, rfl⟩, rfl⟩
    refine ent_value (ov_move rfl) rfl rfl rfl ?_
    refine ent_value (ov_extract rfl rfl) rfl rfl rfl ?_
    refine ent_value (ov_extract rfl rfl) rfl rfl rfl ?_
    refine ent_value (ov_assign rfl) rfl rfl rfl ?_
    refine ent_value (ov_assign rfl) rfl rfl rfl ?_
    refine ent_nil ?_
    refine ent_seq ?_
    refine ent_region ?_
    refine ent_value (ov_move rfl) rfl rfl rfl ?_
    obtain ⟨x18, h17, H⟩ := Option.bind_eq_some_iff.1 H
    refine ent_op (ot_call (Lr := [(own sv6 2 1 x17.2.length (fl (eI .i64) x17.2)), (own sv5 2 1 x16.2.length (fl (eI .i64) x16.2))]) (first := []) (cap := []) (xs := [.tmp 24]) rfl rfl F_call_15 rfl (stat_Rank.spec K sv0 A0 l0 hA0 _ h17) rfl) rfl rfl rfl ?_
    rintro sv7 _ ⟨_, ⟨_, rfl, rfl⟩, rfl⟩
    refine ent_value (ov_move rfl) rfl rfl rfl ?_
    obtain ⟨x19, h18, H⟩ := Option.bind_eq_some_iff.1 H
    refine ent_op (ot_call (Lr := [(own sv7 3 1 x18.length (fl (eI .i64) x18)), (own sv6 2 1 x17.2.length (fl (eI .i64) x17.2)), (own sv5 2 1 x16.2.length (fl (eI .i64) x16.2))]) (first := []) (cap := []) (xs := [.tmp 26]) rfl rfl F_call_16 rfl (ossuaryref35_Rank.spec K sv0 A0 l0 hA0 _ h18) rfl) rfl rfl rfl ?_
    rintro sv8 _ ⟨_, ⟨_, rfl, rfl⟩, rfl⟩
    refine ent_value (ov_assign rfl) rfl rfl rfl ?_
    refine ent_value (ov_assign rfl) rfl rfl rfl ?_
    refine ent_nil ?_
    refine ent_seq ?_
    refine ent_seq ?_
    refine ent_region ?_
    refine ent_value (ov_move rfl) rfl rfl rfl ?_
    refine ent_value (ov_len 2 rfl F_slice_28 rfl (isRd_ownx 3)) rfl rfl rfl ?_
    refine ent_value (ov_move rfl) rfl rfl rfl ?_
    refine ent_value (ov_len 1 rfl F_slice_28 rfl (isRd_ownx 3)) rfl rfl rfl ?_
    refine ent_value (ov_bin rfl rfl (b_neq _ _ _)) rfl rfl rfl ?_
    refine ent_nil ?_
    by_cases c54 : ¬ ((x18.length : Int) = (x19.length : Int))
    · rw [if_pos c54] at H
      refine ent_cond_true rfl (ne_t c54) ?_
      refine ent_seq ?_
      refine ent_region ?_
      refine ent_value (ov_assign rfl) rfl rfl rfl ?_
      refine ent_nil ?_
      refine ent_retc ?_
      cases H
      refine ent_pick [0] (by decide) rfl ?_
      exact ret_tmp rfl rfl ⟨rfl, rfl⟩
    · rw [if_neg c54] at H
      refine ent_cond_false rfl (ne_f c54) ?_
      refine ent_skip ?_
      obtain ⟨x20, H6, H⟩ := Option.bind_eq_some_iff.1 H
      refine ent_seq_cut (fun a w => ∃ v2, x20 = Sum.inl v2 ∧ St 59 w0 F [(3, sv5), (4, (Value.bool x16.1)), (5, sv6), (6, (Value.bool x17.1))] [A0, (own sv5 2 1 x16.2.length (fl (eI .i64) x16.2)), (own sv6 2 1 x17.2.length (fl (eI .i64) x17.2))] a w) ?_ ?_
      · refine ent_seq ?_
        refine ent_region ?_
        refine ent_value (ov_assign rfl) rfl rfl rfl ?_
        refine ent_nil ?_
        refine ent_block ?_
        refine ent_loop (fun k a w => ∃ i4, ossuarylaw35_StatShares_l0 K x18 x19 k i4 = some x20 ∧ St 59 w0 F [(3, sv5), (4, (Value.bool x16.1)), (5, sv6), (6, (Value.bool x17.1)), (7, sv7), (8, sv8), (9, (Value.int .i64 i4))] [A0, (own sv5 2 1 x16.2.length (fl (eI .i64) x16.2)), (own sv6 2 1 x17.2.length (fl (eI .i64) x17.2)), (own sv7 3 1 x18.length (fl (eI .i64) x18)), (own sv8 3 1 x19.length (fl (eI .i64) x19))] a w) K ?_ ?_
        · exact ent_fin [0, 4, 3, 2, 1] (by decide) rfl (sub_cons (t := 3) rfl (sub_cons (t := 4) rfl (sub_cons (t := 5) rfl (sub_cons (t := 6) rfl (sub_cons (t := 7) rfl (sub_cons (t := 8) rfl (sub_cons (t := 9) rfl (sub_nil _)))))))) fun a w h => ⟨_, H6, h⟩
        · refine fun k => ent_exi fun i4 => ent_and fun H7 => ?_
          cases k with
          | zero => exact absurd H7 (by simp [ossuarylaw35_StatShares_l0])
          | succ k =>
            rw [ossuarylaw35_StatShares_l0] at H7
            refine ent_seq ?_
            refine ent_seq ?_
            refine ent_region ?_
            refine ent_value (ov_move rfl) rfl rfl rfl ?_
            refine ent_value (ov_move rfl) rfl rfl rfl ?_
            refine ent_value (ov_len 3 rfl F_slice_28 rfl (isRd_ownx 3)) rfl rfl rfl ?_
            refine ent_value (ov_bin rfl rfl (b_lss _ _ _)) rfl rfl rfl ?_
            refine ent_nil ?_
            by_cases c92 : i4 < (x18.length : Int)
            · rw [if_pos c92] at H7
              refine ent_cond_true rfl (decide_eq_true c92) ?_
              refine ent_skip ?_
              refine ent_seq ?_
              refine ent_block ?_
              refine ent_seq ?_
              by_cases c96 : 0 ≤ i4
              · rw [if_pos c96] at H7
                by_cases c97 : i4 < (x19.length : Int)
                · rw [if_pos c97] at H7
                  refine ent_drawm 9 rfl (fun done a w => StD 59 w0 F [(3, sv5), (4, (Value.bool x16.1)), (5, sv6), (6, (Value.bool x17.1)), (7, sv7), (8, sv8), (9, (Value.int .i64 i4)), (33, (Value.int .i64 i4)), (34, sv7), (35, (Value.int .i64 (x18.length : Int))), (36, (Value.bool (decide (i4 < (x18.length : Int)))))] [(0, 39, sv7), (1, 40, (Value.int .i64 i4)), (2, 41, (eptr sv7 (i4.toNat * 1))), (3, 42, (Value.int .i64 (x18.getD i4.toNat 0))), (4, 43, sv8), (5, 44, (Value.int .i64 i4)), (6, 45, (eptr sv8 (i4.toNat * 1))), (7, 46, (Value.int .i64 (x19.getD i4.toNat 0))), (8, 47, (Value.bool ((x18.getD i4.toNat 0) != (x19.getD i4.toNat 0))))] done [A0, (own sv5 2 1 x16.2.length (fl (eI .i64) x16.2)), (own sv6 2 1 x17.2.length (fl (eI .i64) x17.2)), (own sv7 3 1 x18.length (fl (eI .i64) x18)), (own sv8 3 1 x19.length (fl (eI .i64) x19))] a w) (by kernel_rfl) (by kernel_rfl) (draw_startL (sub_cons (t := 3) rfl (sub_cons (t := 4) rfl (sub_cons (t := 5) rfl (sub_cons (t := 6) rfl (sub_cons (t := 7) rfl (sub_cons (t := 8) rfl (sub_cons (t := 9) rfl (sub_cons (t := 33) rfl (sub_cons (t := 34) rfl (sub_cons (t := 35) rfl (sub_cons (t := 36) rfl (sub_nil _)))))))))))) rfl) ?_ ?_
                  · refine ⟨?_, ?_, ?_, ?_, ?_, ?_, ?_, ?_, ?_, trivial⟩
                    · intro done hi hc hcu
                      exact draw_value (i := 0) (t := 39) (v := sv7) rfl rfl (wanted_none rfl) (fun a => hasA_base) (ov_move rfl) rfl rfl (onlyT_spec (k0 := 0) rfl rfl rfl)
                    · intro done hi hc hcu
                      exact draw_value (i := 1) (t := 40) (v := (Value.int .i64 i4)) rfl rfl (wanted_none rfl) (fun a => hasA_base) (ov_move rfl) rfl rfl (onlyT_spec (k0 := 1) rfl rfl rfl)
                    · intro done hi hc hcu
                      have d0 : done 0 = true := done_of (j := 0) hcu rfl (by decide) rfl
                      have d1 : done 1 = true := done_of (j := 1) hcu rfl (by decide) rfl
                      exact draw_value (i := 2) (t := 41) (v := (eptr sv7 (i4.toNat * 1))) rfl rfl (wanted_none rfl) (fun a => (hasA_cons (k := 1) rfl d1 (hasA_cons (k := 0) rfl d0 hasA_base))) (ov_indexAddr (sz := 0) 3 rfl rfl F_slice_28 F_size_3 rfl (isRd_ownx 3) c96 c92) rfl rfl (onlyT_spec (k0 := 2) rfl rfl rfl)
                    · intro done hi hc hcu
                      have d2 : done 2 = true := done_of (j := 2) hcu rfl (by decide) rfl
                      exact draw_value (i := 3) (t := 42) (v := (Value.int .i64 (x18.getD i4.toNat 0))) rfl rfl (wanted_none rfl) (fun a => (hasA_cons (k := 2) rfl d2 hasA_base)) (ov_load (v := (Value.int .i64 (x18.getD i4.toNat 0))) rfl F_agg_3 (reads_rd (i := 3) rfl (isRd_ownx 3) (by simp) (fl_read0 (eI_len _) (ix_lt c96 c92) rfl))) rfl rfl (onlyT_spec (k0 := 3) rfl rfl rfl)
                    · intro done hi hc hcu
                      exact draw_value (i := 4) (t := 43) (v := sv8) rfl rfl (wanted_none rfl) (fun a => hasA_base) (ov_move rfl) rfl rfl (onlyT_spec (k0 := 4) rfl rfl rfl)
                    · intro done hi hc hcu
                      exact draw_value (i := 5) (t := 44) (v := (Value.int .i64 i4)) rfl rfl (wanted_none rfl) (fun a => hasA_base) (ov_move rfl) rfl rfl (onlyT_spec (k0 := 5) rfl rfl rfl)
                    · intro done hi hc hcu
                      have d4 : done 4 = true := done_of (j := 4) hcu rfl (by decide) rfl
                      have d5 : done 5 = true := done_of (j := 5) hcu rfl (by decide) rfl
                      exact draw_value (i := 6) (t := 45) (v := (eptr sv8 (i4.toNat * 1))) rfl rfl (wanted_none rfl) (fun a => (hasA_cons (k := 5) rfl d5 (hasA_cons (k := 4) rfl d4 hasA_base))) (ov_indexAddr (sz := 0) 4 rfl rfl F_slice_28 F_size_3 rfl (isRd_ownx 3) c96 c97) rfl rfl (onlyT_spec (k0 := 6) rfl rfl rfl)
                    · intro done hi hc hcu
                      have d6 : done 6 = true := done_of (j := 6) hcu rfl (by decide) rfl
                      exact draw_value (i := 7) (t := 46) (v := (Value.int .i64 (x19.getD i4.toNat 0))) rfl rfl (wanted_none rfl) (fun a => (hasA_cons (k := 6) rfl d6 hasA_base)) (ov_load (v := (Value.int .i64 (x19.getD i4.toNat 0))) rfl F_agg_3 (reads_rd (i := 4) rfl (isRd_ownx 3) (by simp) (fl_read0 (eI_len _) (ix_lt c96 c97) rfl))) rfl rfl (onlyT_spec (k0 := 7) rfl rfl rfl)
                    · intro done hi hc hcu
                      have d3 : done 3 = true := done_of (j := 3) hcu rfl (by decide) rfl
                      have d7 : done 7 = true := done_of (j := 7) hcu rfl (by decide) rfl
                      exact draw_value (i := 8) (t := 47) (v := (Value.bool ((x18.getD i4.toNat 0) != (x19.getD i4.toNat 0)))) rfl rfl (wanted_none rfl) (fun a => (hasA_cons (k := 7) rfl d7 (hasA_cons (k := 3) rfl d3 hasA_base))) (ov_bin rfl rfl (b_neq _ _ _)) rfl rfl (onlyT_spec (k0 := 8) rfl rfl rfl)
                  · intro done hall
                    refine draw_endL [A0, (own sv5 2 1 x16.2.length (fl (eI .i64) x16.2)), (own sv6 2 1 x17.2.length (fl (eI .i64) x17.2)), (own sv7 3 1 x18.length (fl (eI .i64) x18)), (own sv8 3 1 x19.length (fl (eI .i64) x19))] rfl (fun a => (hasA_cons (k := 0) rfl (hall 0 (by decide)) (hasA_cons (k := 1) rfl (hall 1 (by decide)) (hasA_cons (k := 2) rfl (hall 2 (by decide)) (hasA_cons (k := 3) rfl (hall 3 (by decide)) (hasA_cons (k := 4) rfl (hall 4 (by decide)) (hasA_cons (k := 5) rfl (hall 5 (by decide)) (hasA_cons (k := 6) rfl (hall 6 (by decide)) (hasA_cons (k := 7) rfl (hall 7 (by decide)) (hasA_cons (k := 8) rfl (hall 8 (by decide)) hasA_base)))))))))) ?_
                    by_cases c98 : ¬ ((x18.getD i4.toNat 0) = (x19.getD i4.toNat 0))
                    · rw [if_pos c98] at H7
                      refine ent_cond_true rfl (ne_t c98) ?_
                      refine ent_seq ?_
                      refine ent_region ?_
                      refine ent_value (ov_assign rfl) rfl rfl rfl ?_
                      refine ent_nil ?_
                      refine ent_retc ?_
                      cases H7
                      have H8 := Option.some.inj (show some _ = some _ from H)
                      cases H8
                      refine ent_pick [0] (by decide) rfl ?_
                      exact ret_tmp rfl rfl ⟨rfl, rfl⟩
                    · rw [if_neg c98] at H7
                      refine ent_cond_false rfl (ne_f c98) ?_
                      refine ent_skip ?_
                      refine ent_region ?_
                      refine ent_value (ov_move rfl) rfl rfl rfl ?_
                      refine ent_value (ov_bin rfl rfl (b_add _ _ _) ) rfl rfl rfl ?_
                      refine ent_value (ov_assign rfl) rfl rfl rfl ?_
                      refine ent_nil ?_
                      exact ent_fin [0, 1, 2, 3, 4] (by decide) rfl (sub_cons (t := 3) rfl (sub_cons (t := 4) rfl (sub_cons (t := 5) rfl (sub_cons (t := 6) rfl (sub_cons (t := 7) rfl (sub_cons (t := 8) rfl (sub_cons (t := 9) rfl (sub_nil _)))))))) fun a w h => ⟨k, Nat.lt_succ_self k, _, H7, h⟩
                · rw [if_neg c97] at H7
                  cases H7
              · rw [if_neg c96] at H7
                cases H7
            · rw [if_neg c92] at H7
              refine ent_cond_false rfl (decide_eq_false c92) ?_
              refine ent_exit ?_
              cases H7
              exact ent_fin [0, 1, 2] (by decide) rfl (sub_cons (t := 3) rfl (sub_cons (t := 4) rfl (sub_cons (t := 5) rfl (sub_cons (t := 6) rfl (sub_nil _))))) fun a w h => ⟨_, rfl, h⟩
      · refine ent_exi fun v2 => ent_and fun e_ => ?_
        subst e_
        rw [cas_inl] at H
        refine ent_seq ?_
        refine ent_region ?_
        refine ent_value (ov_move rfl) rfl rfl rfl ?_
        refine ent_value (ov_move rfl) rfl rfl rfl ?_
        obtain ⟨x21, h19, H⟩ := Option.bind_eq_some_iff.1 H
        refine ent_op (ot_call_same (Lr := [A0]) [1, 2, 0] [2, 0, 1] (first := []) (cap := []) (xs := [.tmp 48, .tmp 49]) rfl rfl F_call_17 rfl (ossuaryref08_Same.spec K sv5 (own sv5 2 1 x16.2.length (fl (eI .i64) x16.2)) sv6 (own sv6 2 1 x17.2.length (fl (eI .i64) x17.2)) x16.2 x17.2 (isRd_ownx 2) (isRd_ownx 2) _ h19) (by decide) rfl (by decide) rfl) rfl rfl rfl ?_
        rintro _ _ ⟨rfl, rfl⟩
        refine ent_value (ov_move rfl) rfl rfl rfl ?_
        by_cases c99 : x21 = true
        · rw [if_pos c99] at H
          refine ent_value_on (ov_move rfl) rfl rfl rfl c99 rfl rfl ?_
          refine ent_value_on (ov_move rfl) rfl rfl rfl c99 rfl rfl ?_
          refine ent_value_on (ov_bin rfl rfl (b_eql_bool Try.underlying4 _ _)) rfl rfl rfl c99 rfl rfl ?_
          refine ent_value (ov_pick rfl rfl rfl (pick_t c99)) rfl rfl rfl ?_
          refine ent_value (ov_move rfl) rfl rfl rfl ?_
          by_cases c100 : (x16.1 == x17.1) = true
          · rw [if_pos c100] at H
            obtain ⟨x22, h20, H⟩ := Option.bind_eq_some_iff.1 H
            refine ent_op_on (ot_call0 (first := []) (cap := []) (xs := []) rfl rfl F_call_12 rfl (ossuarylaw35_alive.spec K _ h20)) rfl rfl rfl c100 rfl rfl ?_
            rintro _ _ ⟨rfl, rfl⟩
            refine ent_value (ov_pick rfl rfl rfl (pick_t c100)) rfl rfl rfl ?_
            refine ent_value (ov_assign rfl) rfl rfl rfl ?_
            refine ent_nil ?_
            refine ent_retc ?_
            cases H
            refine ent_pick [0] (by decide) rfl ?_
            exact ret_tmp rfl rfl ⟨rfl, rfl⟩
          · rw [if_neg c100] at H
            refine ent_off rfl rfl rfl (Bool.eq_false_iff.2 c100) rfl rfl ?_
            refine ent_value (ov_pick rfl rfl rfl (pick_f (Bool.eq_false_iff.2 c100))) rfl rfl rfl ?_
            refine ent_value (ov_assign rfl) rfl rfl rfl ?_
            refine ent_nil ?_
            refine ent_retc ?_
            cases H
            refine ent_pick [0] (by decide) rfl ?_
            exact ret_tmp rfl rfl ⟨rfl, rfl⟩
        · rw [if_neg c99] at H
          refine ent_off rfl rfl rfl (Bool.eq_false_iff.2 c99) rfl rfl ?_
          refine ent_off rfl rfl rfl (Bool.eq_false_iff.2 c99) rfl rfl ?_
          refine ent_off rfl rfl rfl (Bool.eq_false_iff.2 c99) rfl rfl ?_
          refine ent_value (ov_pick rfl rfl rfl (pick_f (Bool.eq_false_iff.2 c99))) rfl rfl rfl ?_
          refine ent_value (ov_move rfl) rfl rfl rfl ?_
          refine ent_off rfl rfl rfl rfl rfl rfl ?_
          refine ent_value (ov_pick rfl rfl rfl rfl) rfl rfl rfl ?_
          refine ent_value (ov_assign rfl) rfl rfl rfl ?_
          refine ent_nil ?_
          refine ent_retc ?_
          cases H
          refine ent_pick [0] (by decide) rfl ?_
          exact ret_tmp rfl rfl ⟨rfl, rfl⟩

end Go.Proofs.Ythdggcleffadeaa.StatShares
