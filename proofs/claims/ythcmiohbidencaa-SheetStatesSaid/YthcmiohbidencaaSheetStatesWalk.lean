/- Printed by gen.py: that the machine's calls do what the plain functions of SheetStates say. -/
import Derived.Test.YthcmiohbidencaaSheetStatesWalk4
import Derived.Test.YthcmiohbidencaaProg
import Derived.Test.YthcmiohbidencaaEBun
import Derived.Test.YthcmiohbidencaaEBuild
import Derived.Test.YthcmiohbidencaaEShelf
import Derived.Test.YthcmiohbidencaaELib
import Derived.Test.YthcmiohbidencaaSheetStatesPure
set_option linter.unusedVariables false
set_option linter.unusedSimpArgs false
set_option maxHeartbeats 1000000
set_option maxRecDepth 100000
namespace Go.Proofs.Ythcmiohbidencaa.SheetStates
open Go Go.RowKit E
open Go.Value (int bool slice agg)

theorem ossuarylaw40_alive.spec (K : Nat) (r : Bool) (H : ossuarylaw40_alive K = some r) : FnSpec Try.prog 8 [] [] (fun v M => v = (bool r) ∧ M = []) := by
 unfold ossuarylaw40_alive at H
 refine spec_of Try.func8 rfl 42 rfl (Nat.le_of_ble_eq_true rfl) fun F w0 => ?_
 show Ent (St 42 w0 F [] []) _
 refine ent_seq ?_
 refine ent_region ?_
 refine ent_value (ov_assign rfl) rfl rfl rfl ?_
 refine ent_nil ?_
 refine ent_seq ?_
 refine ent_region ?_
 obtain ⟨x5, h5, H⟩ := thn_elim H
 refine ent_op (ot_call0 (first := []) (cap := []) (xs := []) rfl rfl F_call_25 rfl (ossuaryref18_Plain.spec _ h5)) rfl rfl rfl ?_
 rintro _ _ ⟨rfl, rfl⟩
 obtain ⟨x6, h6, H⟩ := Option.bind_eq_some_iff.1 H
 refine ent_op (ot_call0 (first := []) (cap := []) (xs := [.tmp 7]) rfl rfl F_call_11 rfl (sheet_Text.spec K x5.1 x5.2.1 x5.2.2.1 x5.2.2.2.1 x5.2.2.2.2.1 x5.2.2.2.2.2.1 x5.2.2.2.2.2.2.1 x5.2.2.2.2.2.2.2.1 x5.2.2.2.2.2.2.2.2 _ h6)) rfl rfl rfl ?_
 rintro _ _ ⟨rfl, rfl⟩
 refine ent_value (ov_move rfl) rfl rfl rfl ?_
 refine ent_value (ov_extract rfl rfl) rfl rfl rfl ?_
 refine ent_value (ov_extract rfl rfl) rfl rfl rfl ?_
 refine ent_value (ov_assign rfl) rfl rfl rfl ?_
 refine ent_value (ov_assign rfl) rfl rfl rfl ?_
 refine ent_nil ?_
 refine ent_seq ?_
 refine ent_region ?_
 refine ent_value (ov_move rfl) rfl rfl rfl ?_
 obtain ⟨x7, h7, H⟩ := Option.bind_eq_some_iff.1 H
 refine ent_op (ot_call0 (first := []) (cap := []) (xs := [.tmp 12]) rfl rfl F_call_9 rfl (sheet_Read.spec K x6.1 _ h7)) rfl rfl rfl ?_
 rintro _ _ ⟨rfl, rfl⟩
 refine ent_value (ov_move rfl) rfl rfl rfl ?_
 refine ent_value (ov_extract rfl rfl) rfl rfl rfl ?_
 refine ent_value (ov_extract rfl rfl) rfl rfl rfl ?_
 refine ent_value (ov_extract rfl rfl) rfl rfl rfl ?_
 refine ent_op (ot_alloc F_zero_24) rfl rfl rfl ?_
 rintro _ _ ⟨b2, rfl, rfl⟩
 refine ent_op0 (ot_storeG (cs := [(int .i64 0), (int .i64 0), (int .i64 0), (int .i64 0), (int .i64 0), (int .i64 0), (int .i64 0), (int .i64 0), (int .i64 0)]) (cs' := [(int .i64 x7.2.1), (int .i64 x7.2.2.1), (int .i64 x7.2.2.2.1), (int .i64 x7.2.2.2.2.1), (int .i64 x7.2.2.2.2.2.1), (int .i64 x7.2.2.2.2.2.2.1), (int .i64 x7.2.2.2.2.2.2.2.1), (int .i64 x7.2.2.2.2.2.2.2.2.1), (int .i64 x7.2.2.2.2.2.2.2.2.2.1)]) (us := [(int .i64 x7.2.1), (int .i64 x7.2.2.1), (int .i64 x7.2.2.2.1), (int .i64 x7.2.2.2.2.1), (int .i64 x7.2.2.2.2.2.1), (int .i64 x7.2.2.2.2.2.2.1), (int .i64 x7.2.2.2.2.2.2.2.1), (int .i64 x7.2.2.2.2.2.2.2.2.1), (int .i64 x7.2.2.2.2.2.2.2.2.2.1)]) (L' := [(box b2 24 [(int .i64 x7.2.1), (int .i64 x7.2.2.1), (int .i64 x7.2.2.2.1), (int .i64 x7.2.2.2.2.1), (int .i64 x7.2.2.2.2.2.1), (int .i64 x7.2.2.2.2.2.2.1), (int .i64 x7.2.2.2.2.2.2.2.1), (int .i64 x7.2.2.2.2.2.2.2.2.1), (int .i64 x7.2.2.2.2.2.2.2.2.2.1)])]) 0 rfl rfl rfl (one_all rfl) F_size_24 rfl rfl (by simp) rfl) rfl rfl ?_
 rintro _ _ rfl
 refine ent_value (ov_assign rfl) rfl rfl rfl ?_
 refine ent_value (ov_assign rfl) rfl rfl rfl ?_
 refine ent_nil ?_
 refine ent_seq ?_
 by_cases c7 : x6.2 = 0
 ·rw [if_pos c7] at H
  by_cases c8 : 11 < (x6.1.length : Int)
  ·rw [if_pos c8] at H
   by_cases c9 : 12 ≤ (x6.1.length : Int)
   ·rw [if_pos c9] at H
    by_cases c10 : (x6.1.take (12 : Int).toNat) = ([114, 101, 116, 97, 105, 110, 32, 50, 48, 48, 48, 10] : List UInt8)
    ·rw [if_pos c10] at H
     by_cases c11 : x7.2.2.2.2.2.2.2.2.2.2 = 0
     ·rw [if_pos c11] at H
      by_cases c12 : x7.1 = 0
      ·rw [if_pos c12] at H
       obtain ⟨x8, h8, H⟩ := thn_elim H
       refine ent_drawm 26 rfl (fun done a w => StD 42 w0 F [(1, (str x6.1)), (2, (int .i64 x6.2)), (3, (pt b2 0)), (4, (int .i64 x7.1)), (5, (int .i64 x7.2.2.2.2.2.2.2.2.2.2)), (6, (Value.tuple #[(str x6.1), (int .i64 x6.2)])), (7, (agg #[(int .i64 x5.1), (int .i64 x5.2.1), (int .i64 x5.2.2.1), (int .i64 x5.2.2.2.1), (int .i64 x5.2.2.2.2.1), (int .i64 x5.2.2.2.2.2.1), (int .i64 x5.2.2.2.2.2.2.1), (int .i64 x5.2.2.2.2.2.2.2.1), (int .i64 x5.2.2.2.2.2.2.2.2)])), (8, (Value.tuple #[(str x6.1), (int .i64 x6.2)])), (9, (str x6.1)), (10, (int .i64 x6.2)), (11, (Value.tuple #[(agg #[(int .i64 x7.2.1), (int .i64 x7.2.2.1), (int .i64 x7.2.2.2.1), (int .i64 x7.2.2.2.2.1), (int .i64 x7.2.2.2.2.2.1), (int .i64 x7.2.2.2.2.2.2.1), (int .i64 x7.2.2.2.2.2.2.2.1), (int .i64 x7.2.2.2.2.2.2.2.2.1), (int .i64 x7.2.2.2.2.2.2.2.2.2.1)]), (int .i64 x7.1), (int .i64 x7.2.2.2.2.2.2.2.2.2.2)])), (12, (str x6.1)), (13, (Value.tuple #[(agg #[(int .i64 x7.2.1), (int .i64 x7.2.2.1), (int .i64 x7.2.2.2.1), (int .i64 x7.2.2.2.2.1), (int .i64 x7.2.2.2.2.2.1), (int .i64 x7.2.2.2.2.2.2.1), (int .i64 x7.2.2.2.2.2.2.2.1), (int .i64 x7.2.2.2.2.2.2.2.2.1), (int .i64 x7.2.2.2.2.2.2.2.2.2.1)]), (int .i64 x7.1), (int .i64 x7.2.2.2.2.2.2.2.2.2.2)])), (14, (agg #[(int .i64 x7.2.1), (int .i64 x7.2.2.1), (int .i64 x7.2.2.2.1), (int .i64 x7.2.2.2.2.1), (int .i64 x7.2.2.2.2.2.1), (int .i64 x7.2.2.2.2.2.2.1), (int .i64 x7.2.2.2.2.2.2.2.1), (int .i64 x7.2.2.2.2.2.2.2.2.1), (int .i64 x7.2.2.2.2.2.2.2.2.2.1)])), (15, (int .i64 x7.1)), (16, (int .i64 x7.2.2.2.2.2.2.2.2.2.2))] [(0, 17, (int .i64 x6.2)), (1, 18, (bool (x6.2 == 0))), (2, 19, (bool (x6.2 == 0))), (3, 20, (str x6.1)), (4, 21, (int .i64 (x6.1.length : Int))), (5, 22, (bool (decide (11 < (x6.1.length : Int))))), (6, 23, (bool (decide (11 < (x6.1.length : Int))))), (7, 24, (bool (decide (11 < (x6.1.length : Int))))), (8, 25, (str x6.1)), (9, 26, (str (x6.1.take (12 : Int).toNat))), (10, 27, (bool ((x6.1.take (12 : Int).toNat) == ([114, 101, 116, 97, 105, 110, 32, 50, 48, 48, 48, 10] : List UInt8)))), (11, 28, (bool ((x6.1.take (12 : Int).toNat) == ([114, 101, 116, 97, 105, 110, 32, 50, 48, 48, 48, 10] : List UInt8)))), (12, 29, (bool ((x6.1.take (12 : Int).toNat) == ([114, 101, 116, 97, 105, 110, 32, 50, 48, 48, 48, 10] : List UInt8)))), (13, 30, (int .i64 x7.2.2.2.2.2.2.2.2.2.2)), (14, 31, (bool (x7.2.2.2.2.2.2.2.2.2.2 == 0))), (15, 32, (bool (x7.2.2.2.2.2.2.2.2.2.2 == 0))), (16, 33, (bool (x7.2.2.2.2.2.2.2.2.2.2 == 0))), (17, 34, (int .i64 x7.1)), (18, 35, (bool (x7.1 == 0))), (19, 36, (bool (x7.1 == 0))), (20, 37, (bool (x7.1 == 0))), (21, 38, (agg #[(int .i64 x7.2.1), (int .i64 x7.2.2.1), (int .i64 x7.2.2.2.1), (int .i64 x7.2.2.2.2.1), (int .i64 x7.2.2.2.2.2.1), (int .i64 x7.2.2.2.2.2.2.1), (int .i64 x7.2.2.2.2.2.2.2.1), (int .i64 x7.2.2.2.2.2.2.2.2.1), (int .i64 x7.2.2.2.2.2.2.2.2.2.1)])), (22, 39, (agg #[(int .i64 x8.1), (int .i64 x8.2.1), (int .i64 x8.2.2.1), (int .i64 x8.2.2.2.1), (int .i64 x8.2.2.2.2.1), (int .i64 x8.2.2.2.2.2.1), (int .i64 x8.2.2.2.2.2.2.1), (int .i64 x8.2.2.2.2.2.2.2.1), (int .i64 x8.2.2.2.2.2.2.2.2)])), (23, 40, (bool ((x7.2.1 == x8.1) && ((x7.2.2.1 == x8.2.1) && ((x7.2.2.2.1 == x8.2.2.1) && ((x7.2.2.2.2.1 == x8.2.2.2.1) && ((x7.2.2.2.2.2.1 == x8.2.2.2.2.1) && ((x7.2.2.2.2.2.2.1 == x8.2.2.2.2.2.1) && ((x7.2.2.2.2.2.2.2.1 == x8.2.2.2.2.2.2.1) && ((x7.2.2.2.2.2.2.2.2.1 == x8.2.2.2.2.2.2.2.1) && ((x7.2.2.2.2.2.2.2.2.2.1 == x8.2.2.2.2.2.2.2.2) && true))))))))))), (24, 41, (bool ((x7.2.1 == x8.1) && ((x7.2.2.1 == x8.2.1) && ((x7.2.2.2.1 == x8.2.2.1) && ((x7.2.2.2.2.1 == x8.2.2.2.1) && ((x7.2.2.2.2.2.1 == x8.2.2.2.2.1) && ((x7.2.2.2.2.2.2.1 == x8.2.2.2.2.2.1) && ((x7.2.2.2.2.2.2.2.1 == x8.2.2.2.2.2.2.1) && ((x7.2.2.2.2.2.2.2.2.1 == x8.2.2.2.2.2.2.2.1) && ((x7.2.2.2.2.2.2.2.2.2.1 == x8.2.2.2.2.2.2.2.2) && true))))))))))), (25, 0, (bool ((x7.2.1 == x8.1) && ((x7.2.2.1 == x8.2.1) && ((x7.2.2.2.1 == x8.2.2.1) && ((x7.2.2.2.2.1 == x8.2.2.2.1) && ((x7.2.2.2.2.2.1 == x8.2.2.2.2.1) && ((x7.2.2.2.2.2.2.1 == x8.2.2.2.2.2.1) && ((x7.2.2.2.2.2.2.2.1 == x8.2.2.2.2.2.2.1) && ((x7.2.2.2.2.2.2.2.2.1 == x8.2.2.2.2.2.2.2.1) && ((x7.2.2.2.2.2.2.2.2.2.1 == x8.2.2.2.2.2.2.2.2) && true)))))))))))] done [(box b2 24 [(int .i64 x7.2.1), (int .i64 x7.2.2.1), (int .i64 x7.2.2.2.1), (int .i64 x7.2.2.2.2.1), (int .i64 x7.2.2.2.2.2.1), (int .i64 x7.2.2.2.2.2.2.1), (int .i64 x7.2.2.2.2.2.2.2.1), (int .i64 x7.2.2.2.2.2.2.2.2.1), (int .i64 x7.2.2.2.2.2.2.2.2.2.1)])] a w) (by kernel_rfl) (by kernel_rfl) (draw_startL (sub_cons (t := 1) rfl (sub_cons (t := 2) rfl (sub_cons (t := 3) rfl (sub_cons (t := 4) rfl (sub_cons (t := 5) rfl (sub_cons (t := 6) rfl (sub_cons (t := 7) rfl (sub_cons (t := 8) rfl (sub_cons (t := 9) rfl (sub_cons (t := 10) rfl (sub_cons (t := 11) rfl (sub_cons (t := 12) rfl (sub_cons (t := 13) rfl (sub_cons (t := 14) rfl (sub_cons (t := 15) rfl (sub_cons (t := 16) rfl (sub_nil _))))))))))))))))) rfl) ?_ ?_
       ·refine ⟨?_, ?_, ?_, ?_, ?_, ?_, ?_, ?_, ?_, ?_, ?_, ?_, ?_, ?_, ?_, ?_, ?_, ?_, ?_, ?_, ?_, ?_, ?_, ?_, ?_, ?_, trivial⟩
        ·intro done hi hc hcu
         exact draw_value (i := 0) (t := 17) (v := (int .i64 x6.2)) rfl rfl (wanted_none rfl) (fun a => hasA_base) (ov_move rfl) rfl rfl (onlyT_spec (k0 := 0) rfl rfl rfl)
        ·intro done hi hc hcu
         have d0 : done 0 = true := done_of (j := 0) hcu rfl (by decide) rfl
         exact draw_value (i := 1) (t := 18) (v := (bool (x6.2 == 0))) rfl rfl (wanted_none rfl) (fun a => (hasA_cons (k := 0) rfl d0 hasA_base)) (ov_bin rfl rfl (b_eql _ _ _)) rfl rfl (onlyT_spec (k0 := 1) rfl rfl rfl)
        ·intro done hi hc hcu
         have d1 : done 1 = true := done_of (j := 1) hcu rfl (by decide) rfl
         exact draw_value (i := 2) (t := 19) (v := (bool (x6.2 == 0))) rfl rfl (wanted_none rfl) (fun a => (hasA_cons (k := 1) rfl d1 hasA_base)) (ov_move rfl) rfl rfl (onlyT_spec (k0 := 2) rfl rfl rfl)
        ·intro done hi hc hcu
         have d2 : done 2 = true := done_of (j := 2) hcu rfl (by decide) rfl
         exact draw_value (i := 3) (t := 20) (v := (str x6.1)) rfl rfl (wanted_on rfl rfl rfl (eq_t c7)) (fun a => (hasA_cons (k := 2) rfl d2 hasA_base)) (ov_move rfl) rfl rfl (onlyT_spec (k0 := 3) rfl rfl rfl)
        ·intro done hi hc hcu
         have d3 : done 3 = true := done_of (j := 3) hcu rfl (by decide) rfl
         have d2 : done 2 = true := done_of (j := 2) hcu rfl (by decide) rfl
         exact draw_value (i := 4) (t := 21) (v := (int .i64 (x6.1.length : Int))) rfl rfl (wanted_on rfl rfl rfl (eq_t c7)) (fun a => (hasA_cons (k := 2) rfl d2 (hasA_cons (k := 3) rfl d3 hasA_base))) (ov_lenS rfl Try.underlying9) rfl rfl (onlyT_spec (k0 := 4) rfl rfl rfl)
        ·intro done hi hc hcu
         have d4 : done 4 = true := done_of (j := 4) hcu rfl (by decide) rfl
         have d2 : done 2 = true := done_of (j := 2) hcu rfl (by decide) rfl
         exact draw_value (i := 5) (t := 22) (v := (bool (decide (11 < (x6.1.length : Int))))) rfl rfl (wanted_on rfl rfl rfl (eq_t c7)) (fun a => (hasA_cons (k := 2) rfl d2 (hasA_cons (k := 4) rfl d4 hasA_base))) (ov_bin rfl rfl (b_gtr _ _ _)) rfl rfl (onlyT_spec (k0 := 5) rfl rfl rfl)
        ·intro done hi hc hcu
         have d2 : done 2 = true := done_of (j := 2) hcu rfl (by decide) rfl
         have d5 : done 5 = true := done_of (j := 5) hcu rfl (by decide) rfl
         exact draw_value (i := 6) (t := 23) (v := (bool (decide (11 < (x6.1.length : Int))))) rfl rfl (wanted_none rfl) (fun a => (hasA_cons (k := 5) rfl d5 (hasA_cons (k := 2) rfl d2 hasA_base))) (ov_pick rfl rfl rfl (pick_t (eq_t c7))) rfl rfl (onlyT_spec (k0 := 6) rfl rfl rfl)
        ·intro done hi hc hcu
         have d6 : done 6 = true := done_of (j := 6) hcu rfl (by decide) rfl
         exact draw_value (i := 7) (t := 24) (v := (bool (decide (11 < (x6.1.length : Int))))) rfl rfl (wanted_none rfl) (fun a => (hasA_cons (k := 6) rfl d6 hasA_base)) (ov_move rfl) rfl rfl (onlyT_spec (k0 := 7) rfl rfl rfl)
        ·intro done hi hc hcu
         have d7 : done 7 = true := done_of (j := 7) hcu rfl (by decide) rfl
         exact draw_value (i := 8) (t := 25) (v := (str x6.1)) rfl rfl (wanted_on rfl rfl rfl (decide_eq_true c8)) (fun a => (hasA_cons (k := 7) rfl d7 hasA_base)) (ov_move rfl) rfl rfl (onlyT_spec (k0 := 8) rfl rfl rfl)
        ·intro done hi hc hcu
         have d8 : done 8 = true := done_of (j := 8) hcu rfl (by decide) rfl
         have d7 : done 7 = true := done_of (j := 7) hcu rfl (by decide) rfl
         exact draw_value (i := 9) (t := 26) (v := (str (x6.1.take (12 : Int).toNat))) rfl rfl (wanted_on rfl rfl rfl (decide_eq_true c8)) (fun a => (hasA_cons (k := 7) rfl d7 (hasA_cons (k := 8) rfl d8 hasA_base))) (ov_sls_hi rfl rfl Try.underlying9 (by decide) c9) rfl rfl (onlyT_spec (k0 := 9) rfl rfl rfl)
        ·intro done hi hc hcu
         have d9 : done 9 = true := done_of (j := 9) hcu rfl (by decide) rfl
         have d7 : done 7 = true := done_of (j := 7) hcu rfl (by decide) rfl
         exact draw_value (i := 10) (t := 27) (v := (bool ((x6.1.take (12 : Int).toNat) == ([114, 101, 116, 97, 105, 110, 32, 50, 48, 48, 48, 10] : List UInt8)))) rfl rfl (wanted_on rfl rfl rfl (decide_eq_true c8)) (fun a => (hasA_cons (k := 7) rfl d7 (hasA_cons (k := 9) rfl d9 hasA_base))) (ov_bin rfl rfl (b_eql_str _ _)) rfl rfl (onlyT_spec (k0 := 10) rfl rfl rfl)
        ·intro done hi hc hcu
         have d7 : done 7 = true := done_of (j := 7) hcu rfl (by decide) rfl
         have d10 : done 10 = true := done_of (j := 10) hcu rfl (by decide) rfl
         exact draw_value (i := 11) (t := 28) (v := (bool ((x6.1.take (12 : Int).toNat) == ([114, 101, 116, 97, 105, 110, 32, 50, 48, 48, 48, 10] : List UInt8)))) rfl rfl (wanted_none rfl) (fun a => (hasA_cons (k := 10) rfl d10 (hasA_cons (k := 7) rfl d7 hasA_base))) (ov_pick rfl rfl rfl (pick_t (decide_eq_true c8))) rfl rfl (onlyT_spec (k0 := 11) rfl rfl rfl)
        ·intro done hi hc hcu
         have d11 : done 11 = true := done_of (j := 11) hcu rfl (by decide) rfl
         exact draw_value (i := 12) (t := 29) (v := (bool ((x6.1.take (12 : Int).toNat) == ([114, 101, 116, 97, 105, 110, 32, 50, 48, 48, 48, 10] : List UInt8)))) rfl rfl (wanted_none rfl) (fun a => (hasA_cons (k := 11) rfl d11 hasA_base)) (ov_move rfl) rfl rfl (onlyT_spec (k0 := 12) rfl rfl rfl)
        ·intro done hi hc hcu
         have d12 : done 12 = true := done_of (j := 12) hcu rfl (by decide) rfl
         exact draw_value (i := 13) (t := 30) (v := (int .i64 x7.2.2.2.2.2.2.2.2.2.2)) rfl rfl (wanted_on rfl rfl rfl (eq_t c10)) (fun a => (hasA_cons (k := 12) rfl d12 hasA_base)) (ov_move rfl) rfl rfl (onlyT_spec (k0 := 13) rfl rfl rfl)
        ·intro done hi hc hcu
         have d13 : done 13 = true := done_of (j := 13) hcu rfl (by decide) rfl
         have d12 : done 12 = true := done_of (j := 12) hcu rfl (by decide) rfl
         exact draw_value (i := 14) (t := 31) (v := (bool (x7.2.2.2.2.2.2.2.2.2.2 == 0))) rfl rfl (wanted_on rfl rfl rfl (eq_t c10)) (fun a => (hasA_cons (k := 12) rfl d12 (hasA_cons (k := 13) rfl d13 hasA_base))) (ov_bin rfl rfl (b_eql _ _ _)) rfl rfl (onlyT_spec (k0 := 14) rfl rfl rfl)
        ·intro done hi hc hcu
         have d12 : done 12 = true := done_of (j := 12) hcu rfl (by decide) rfl
         have d14 : done 14 = true := done_of (j := 14) hcu rfl (by decide) rfl
         exact draw_value (i := 15) (t := 32) (v := (bool (x7.2.2.2.2.2.2.2.2.2.2 == 0))) rfl rfl (wanted_none rfl) (fun a => (hasA_cons (k := 14) rfl d14 (hasA_cons (k := 12) rfl d12 hasA_base))) (ov_pick rfl rfl rfl (pick_t (eq_t c10))) rfl rfl (onlyT_spec (k0 := 15) rfl rfl rfl)
        ·intro done hi hc hcu
         have d15 : done 15 = true := done_of (j := 15) hcu rfl (by decide) rfl
         exact draw_value (i := 16) (t := 33) (v := (bool (x7.2.2.2.2.2.2.2.2.2.2 == 0))) rfl rfl (wanted_none rfl) (fun a => (hasA_cons (k := 15) rfl d15 hasA_base)) (ov_move rfl) rfl rfl (onlyT_spec (k0 := 16) rfl rfl rfl)
        ·intro done hi hc hcu
         have d16 : done 16 = true := done_of (j := 16) hcu rfl (by decide) rfl
         exact draw_value (i := 17) (t := 34) (v := (int .i64 x7.1)) rfl rfl (wanted_on rfl rfl rfl (eq_t c11)) (fun a => (hasA_cons (k := 16) rfl d16 hasA_base)) (ov_move rfl) rfl rfl (onlyT_spec (k0 := 17) rfl rfl rfl)
        ·intro done hi hc hcu
         have d17 : done 17 = true := done_of (j := 17) hcu rfl (by decide) rfl
         have d16 : done 16 = true := done_of (j := 16) hcu rfl (by decide) rfl
         exact draw_value (i := 18) (t := 35) (v := (bool (x7.1 == 0))) rfl rfl (wanted_on rfl rfl rfl (eq_t c11)) (fun a => (hasA_cons (k := 16) rfl d16 (hasA_cons (k := 17) rfl d17 hasA_base))) (ov_bin rfl rfl (b_eql _ _ _)) rfl rfl (onlyT_spec (k0 := 18) rfl rfl rfl)
        ·intro done hi hc hcu
         have d16 : done 16 = true := done_of (j := 16) hcu rfl (by decide) rfl
         have d18 : done 18 = true := done_of (j := 18) hcu rfl (by decide) rfl
         exact draw_value (i := 19) (t := 36) (v := (bool (x7.1 == 0))) rfl rfl (wanted_none rfl) (fun a => (hasA_cons (k := 18) rfl d18 (hasA_cons (k := 16) rfl d16 hasA_base))) (ov_pick rfl rfl rfl (pick_t (eq_t c11))) rfl rfl (onlyT_spec (k0 := 19) rfl rfl rfl)
        ·intro done hi hc hcu
         have d19 : done 19 = true := done_of (j := 19) hcu rfl (by decide) rfl
         exact draw_value (i := 20) (t := 37) (v := (bool (x7.1 == 0))) rfl rfl (wanted_none rfl) (fun a => (hasA_cons (k := 19) rfl d19 hasA_base)) (ov_move rfl) rfl rfl (onlyT_spec (k0 := 20) rfl rfl rfl)
        ·intro done hi hc hcu
         have d20 : done 20 = true := done_of (j := 20) hcu rfl (by decide) rfl
         exact draw_value (i := 21) (t := 38) (v := (agg #[(int .i64 x7.2.1), (int .i64 x7.2.2.1), (int .i64 x7.2.2.2.1), (int .i64 x7.2.2.2.2.1), (int .i64 x7.2.2.2.2.2.1), (int .i64 x7.2.2.2.2.2.2.1), (int .i64 x7.2.2.2.2.2.2.2.1), (int .i64 x7.2.2.2.2.2.2.2.2.1), (int .i64 x7.2.2.2.2.2.2.2.2.2.1)])) rfl rfl (wanted_on rfl rfl rfl (eq_t c12)) (fun a => (hasA_cons (k := 20) rfl d20 hasA_base)) (ov_load_agg (vs := [(int .i64 x7.2.1), (int .i64 x7.2.2.1), (int .i64 x7.2.2.2.1), (int .i64 x7.2.2.2.2.1), (int .i64 x7.2.2.2.2.2.1), (int .i64 x7.2.2.2.2.2.2.1), (int .i64 x7.2.2.2.2.2.2.2.1), (int .i64 x7.2.2.2.2.2.2.2.2.1), (int .i64 x7.2.2.2.2.2.2.2.2.2.1)]) rfl F_agg_24 F_size_24 (reads_boxW (i := 0) rfl)) rfl rfl (onlyT_spec (k0 := 21) rfl rfl rfl)
        ·intro done hi hc hcu
         have d20 : done 20 = true := done_of (j := 20) hcu rfl (by decide) rfl
         exact draw_same (i := 22) (t := 39) (v := (agg #[(int .i64 x8.1), (int .i64 x8.2.1), (int .i64 x8.2.2.1), (int .i64 x8.2.2.2.1), (int .i64 x8.2.2.2.2.1), (int .i64 x8.2.2.2.2.2.1), (int .i64 x8.2.2.2.2.2.2.1), (int .i64 x8.2.2.2.2.2.2.2.1), (int .i64 x8.2.2.2.2.2.2.2.2)])) rfl rfl (wanted_on rfl rfl rfl (eq_t c12)) (fun a => (hasA_cons (k := 20) rfl d20 hasA_base)) (ot_call0 (first := []) (cap := []) (xs := []) rfl rfl F_call_25 rfl (ossuaryref18_Plain.spec _ h8)) rfl rfl (onlyT_spec (k0 := 22) rfl rfl rfl)
        ·intro done hi hc hcu
         have d21 : done 21 = true := done_of (j := 21) hcu rfl (by decide) rfl
         have d22 : done 22 = true := done_of (j := 22) hcu rfl (by decide) rfl
         have d20 : done 20 = true := done_of (j := 20) hcu rfl (by decide) rfl
         exact draw_value (i := 23) (t := 40) (v := (bool ((x7.2.1 == x8.1) && ((x7.2.2.1 == x8.2.1) && ((x7.2.2.2.1 == x8.2.2.1) && ((x7.2.2.2.2.1 == x8.2.2.2.1) && ((x7.2.2.2.2.2.1 == x8.2.2.2.2.1) && ((x7.2.2.2.2.2.2.1 == x8.2.2.2.2.2.1) && ((x7.2.2.2.2.2.2.2.1 == x8.2.2.2.2.2.2.1) && ((x7.2.2.2.2.2.2.2.2.1 == x8.2.2.2.2.2.2.2.1) && ((x7.2.2.2.2.2.2.2.2.2.1 == x8.2.2.2.2.2.2.2.2) && true))))))))))) rfl rfl (wanted_on rfl rfl rfl (eq_t c12)) (fun a => (hasA_cons (k := 20) rfl d20 (hasA_cons (k := 22) rfl d22 (hasA_cons (k := 21) rfl d21 hasA_base)))) (ov_bin rfl rfl (same_24 _ _ _ _ _ _ _ _ _ _ _ _ _ _ _ _ _ _)) rfl rfl (onlyT_spec (k0 := 23) rfl rfl rfl)
        ·intro done hi hc hcu
         have d20 : done 20 = true := done_of (j := 20) hcu rfl (by decide) rfl
         have d23 : done 23 = true := done_of (j := 23) hcu rfl (by decide) rfl
         exact draw_value (i := 24) (t := 41) (v := (bool ((x7.2.1 == x8.1) && ((x7.2.2.1 == x8.2.1) && ((x7.2.2.2.1 == x8.2.2.1) && ((x7.2.2.2.2.1 == x8.2.2.2.1) && ((x7.2.2.2.2.2.1 == x8.2.2.2.2.1) && ((x7.2.2.2.2.2.2.1 == x8.2.2.2.2.2.1) && ((x7.2.2.2.2.2.2.2.1 == x8.2.2.2.2.2.2.1) && ((x7.2.2.2.2.2.2.2.2.1 == x8.2.2.2.2.2.2.2.1) && ((x7.2.2.2.2.2.2.2.2.2.1 == x8.2.2.2.2.2.2.2.2) && true))))))))))) rfl rfl (wanted_none rfl) (fun a => (hasA_cons (k := 23) rfl d23 (hasA_cons (k := 20) rfl d20 hasA_base))) (ov_pick rfl rfl rfl (pick_t (eq_t c12))) rfl rfl (onlyT_spec (k0 := 24) rfl rfl rfl)
        ·intro done hi hc hcu
         have d24 : done 24 = true := done_of (j := 24) hcu rfl (by decide) rfl
         exact draw_value (i := 25) (t := 0) (v := (bool ((x7.2.1 == x8.1) && ((x7.2.2.1 == x8.2.1) && ((x7.2.2.2.1 == x8.2.2.1) && ((x7.2.2.2.2.1 == x8.2.2.2.1) && ((x7.2.2.2.2.2.1 == x8.2.2.2.2.1) && ((x7.2.2.2.2.2.2.1 == x8.2.2.2.2.2.1) && ((x7.2.2.2.2.2.2.2.1 == x8.2.2.2.2.2.2.1) && ((x7.2.2.2.2.2.2.2.2.1 == x8.2.2.2.2.2.2.2.1) && ((x7.2.2.2.2.2.2.2.2.2.1 == x8.2.2.2.2.2.2.2.2) && true))))))))))) rfl rfl (wanted_none rfl) (fun a => (hasA_cons (k := 24) rfl d24 hasA_base)) (ov_assign rfl) rfl rfl (onlyT_spec (k0 := 25) rfl rfl rfl)
       ·intro done hall
        refine draw_endL [(box b2 24 [(int .i64 x7.2.1), (int .i64 x7.2.2.1), (int .i64 x7.2.2.2.1), (int .i64 x7.2.2.2.2.1), (int .i64 x7.2.2.2.2.2.1), (int .i64 x7.2.2.2.2.2.2.1), (int .i64 x7.2.2.2.2.2.2.2.1), (int .i64 x7.2.2.2.2.2.2.2.2.1), (int .i64 x7.2.2.2.2.2.2.2.2.2.1)])] rfl (fun a => (hasA_cons (k := 25) rfl (hall 25 (by decide)) (hasA_cons (k := 0) rfl (hall 0 (by decide)) (hasA_cons (k := 1) rfl (hall 1 (by decide)) (hasA_cons (k := 2) rfl (hall 2 (by decide)) (hasA_cons (k := 3) rfl (hall 3 (by decide)) (hasA_cons (k := 4) rfl (hall 4 (by decide)) (hasA_cons (k := 5) rfl (hall 5 (by decide)) (hasA_cons (k := 6) rfl (hall 6 (by decide)) (hasA_cons (k := 7) rfl (hall 7 (by decide)) (hasA_cons (k := 8) rfl (hall 8 (by decide)) (hasA_cons (k := 9) rfl (hall 9 (by decide)) (hasA_cons (k := 10) rfl (hall 10 (by decide)) (hasA_cons (k := 11) rfl (hall 11 (by decide)) (hasA_cons (k := 12) rfl (hall 12 (by decide)) (hasA_cons (k := 13) rfl (hall 13 (by decide)) (hasA_cons (k := 14) rfl (hall 14 (by decide)) (hasA_cons (k := 15) rfl (hall 15 (by decide)) (hasA_cons (k := 16) rfl (hall 16 (by decide)) (hasA_cons (k := 17) rfl (hall 17 (by decide)) (hasA_cons (k := 18) rfl (hall 18 (by decide)) (hasA_cons (k := 19) rfl (hall 19 (by decide)) (hasA_cons (k := 20) rfl (hall 20 (by decide)) (hasA_cons (k := 21) rfl (hall 21 (by decide)) (hasA_cons (k := 22) rfl (hall 22 (by decide)) (hasA_cons (k := 23) rfl (hall 23 (by decide)) (hasA_cons (k := 24) rfl (hall 24 (by decide)) hasA_base))))))))))))))))))))))))))) ?_
        refine ent_retc ?_
        cases H
        refine ent_pick [] (by decide) rfl ?_
        exact ret_tmp rfl rfl ⟨rfl, rfl⟩
      ·rw [if_neg c12] at H
       refine ent_drawm 26 rfl (fun done a w => StD 42 w0 F [(1, (str x6.1)), (2, (int .i64 x6.2)), (3, (pt b2 0)), (4, (int .i64 x7.1)), (5, (int .i64 x7.2.2.2.2.2.2.2.2.2.2)), (6, (Value.tuple #[(str x6.1), (int .i64 x6.2)])), (7, (agg #[(int .i64 x5.1), (int .i64 x5.2.1), (int .i64 x5.2.2.1), (int .i64 x5.2.2.2.1), (int .i64 x5.2.2.2.2.1), (int .i64 x5.2.2.2.2.2.1), (int .i64 x5.2.2.2.2.2.2.1), (int .i64 x5.2.2.2.2.2.2.2.1), (int .i64 x5.2.2.2.2.2.2.2.2)])), (8, (Value.tuple #[(str x6.1), (int .i64 x6.2)])), (9, (str x6.1)), (10, (int .i64 x6.2)), (11, (Value.tuple #[(agg #[(int .i64 x7.2.1), (int .i64 x7.2.2.1), (int .i64 x7.2.2.2.1), (int .i64 x7.2.2.2.2.1), (int .i64 x7.2.2.2.2.2.1), (int .i64 x7.2.2.2.2.2.2.1), (int .i64 x7.2.2.2.2.2.2.2.1), (int .i64 x7.2.2.2.2.2.2.2.2.1), (int .i64 x7.2.2.2.2.2.2.2.2.2.1)]), (int .i64 x7.1), (int .i64 x7.2.2.2.2.2.2.2.2.2.2)])), (12, (str x6.1)), (13, (Value.tuple #[(agg #[(int .i64 x7.2.1), (int .i64 x7.2.2.1), (int .i64 x7.2.2.2.1), (int .i64 x7.2.2.2.2.1), (int .i64 x7.2.2.2.2.2.1), (int .i64 x7.2.2.2.2.2.2.1), (int .i64 x7.2.2.2.2.2.2.2.1), (int .i64 x7.2.2.2.2.2.2.2.2.1), (int .i64 x7.2.2.2.2.2.2.2.2.2.1)]), (int .i64 x7.1), (int .i64 x7.2.2.2.2.2.2.2.2.2.2)])), (14, (agg #[(int .i64 x7.2.1), (int .i64 x7.2.2.1), (int .i64 x7.2.2.2.1), (int .i64 x7.2.2.2.2.1), (int .i64 x7.2.2.2.2.2.1), (int .i64 x7.2.2.2.2.2.2.1), (int .i64 x7.2.2.2.2.2.2.2.1), (int .i64 x7.2.2.2.2.2.2.2.2.1), (int .i64 x7.2.2.2.2.2.2.2.2.2.1)])), (15, (int .i64 x7.1)), (16, (int .i64 x7.2.2.2.2.2.2.2.2.2.2))] [(0, 17, (int .i64 x6.2)), (1, 18, (bool (x6.2 == 0))), (2, 19, (bool (x6.2 == 0))), (3, 20, (str x6.1)), (4, 21, (int .i64 (x6.1.length : Int))), (5, 22, (bool (decide (11 < (x6.1.length : Int))))), (6, 23, (bool (decide (11 < (x6.1.length : Int))))), (7, 24, (bool (decide (11 < (x6.1.length : Int))))), (8, 25, (str x6.1)), (9, 26, (str (x6.1.take (12 : Int).toNat))), (10, 27, (bool ((x6.1.take (12 : Int).toNat) == ([114, 101, 116, 97, 105, 110, 32, 50, 48, 48, 48, 10] : List UInt8)))), (11, 28, (bool ((x6.1.take (12 : Int).toNat) == ([114, 101, 116, 97, 105, 110, 32, 50, 48, 48, 48, 10] : List UInt8)))), (12, 29, (bool ((x6.1.take (12 : Int).toNat) == ([114, 101, 116, 97, 105, 110, 32, 50, 48, 48, 48, 10] : List UInt8)))), (13, 30, (int .i64 x7.2.2.2.2.2.2.2.2.2.2)), (14, 31, (bool (x7.2.2.2.2.2.2.2.2.2.2 == 0))), (15, 32, (bool (x7.2.2.2.2.2.2.2.2.2.2 == 0))), (16, 33, (bool (x7.2.2.2.2.2.2.2.2.2.2 == 0))), (17, 34, (int .i64 x7.1)), (18, 35, (bool (x7.1 == 0))), (19, 36, (bool (x7.1 == 0))), (20, 37, (bool (x7.1 == 0))), (21, 38, undef), (22, 39, undef), (23, 40, undef), (24, 41, (bool false)), (25, 0, (bool false))] done [(box b2 24 [(int .i64 x7.2.1), (int .i64 x7.2.2.1), (int .i64 x7.2.2.2.1), (int .i64 x7.2.2.2.2.1), (int .i64 x7.2.2.2.2.2.1), (int .i64 x7.2.2.2.2.2.2.1), (int .i64 x7.2.2.2.2.2.2.2.1), (int .i64 x7.2.2.2.2.2.2.2.2.1), (int .i64 x7.2.2.2.2.2.2.2.2.2.1)])] a w) (by kernel_rfl) (by kernel_rfl) (draw_startL (sub_cons (t := 1) rfl (sub_cons (t := 2) rfl (sub_cons (t := 3) rfl (sub_cons (t := 4) rfl (sub_cons (t := 5) rfl (sub_cons (t := 6) rfl (sub_cons (t := 7) rfl (sub_cons (t := 8) rfl (sub_cons (t := 9) rfl (sub_cons (t := 10) rfl (sub_cons (t := 11) rfl (sub_cons (t := 12) rfl (sub_cons (t := 13) rfl (sub_cons (t := 14) rfl (sub_cons (t := 15) rfl (sub_cons (t := 16) rfl (sub_nil _))))))))))))))))) rfl) ?_ ?_
       ·refine ⟨?_, ?_, ?_, ?_, ?_, ?_, ?_, ?_, ?_, ?_, ?_, ?_, ?_, ?_, ?_, ?_, ?_, ?_, ?_, ?_, ?_, ?_, ?_, ?_, ?_, ?_, trivial⟩
        ·intro done hi hc hcu
         exact draw_value (i := 0) (t := 17) (v := (int .i64 x6.2)) rfl rfl (wanted_none rfl) (fun a => hasA_base) (ov_move rfl) rfl rfl (onlyT_spec (k0 := 0) rfl rfl rfl)
        ·intro done hi hc hcu
         have d0 : done 0 = true := done_of (j := 0) hcu rfl (by decide) rfl
         exact draw_value (i := 1) (t := 18) (v := (bool (x6.2 == 0))) rfl rfl (wanted_none rfl) (fun a => (hasA_cons (k := 0) rfl d0 hasA_base)) (ov_bin rfl rfl (b_eql _ _ _)) rfl rfl (onlyT_spec (k0 := 1) rfl rfl rfl)
        ·intro done hi hc hcu
         have d1 : done 1 = true := done_of (j := 1) hcu rfl (by decide) rfl
         exact draw_value (i := 2) (t := 19) (v := (bool (x6.2 == 0))) rfl rfl (wanted_none rfl) (fun a => (hasA_cons (k := 1) rfl d1 hasA_base)) (ov_move rfl) rfl rfl (onlyT_spec (k0 := 2) rfl rfl rfl)
        ·intro done hi hc hcu
         have d2 : done 2 = true := done_of (j := 2) hcu rfl (by decide) rfl
         exact draw_value (i := 3) (t := 20) (v := (str x6.1)) rfl rfl (wanted_on rfl rfl rfl (eq_t c7)) (fun a => (hasA_cons (k := 2) rfl d2 hasA_base)) (ov_move rfl) rfl rfl (onlyT_spec (k0 := 3) rfl rfl rfl)
        ·intro done hi hc hcu
         have d3 : done 3 = true := done_of (j := 3) hcu rfl (by decide) rfl
         have d2 : done 2 = true := done_of (j := 2) hcu rfl (by decide) rfl
         exact draw_value (i := 4) (t := 21) (v := (int .i64 (x6.1.length : Int))) rfl rfl (wanted_on rfl rfl rfl (eq_t c7)) (fun a => (hasA_cons (k := 2) rfl d2 (hasA_cons (k := 3) rfl d3 hasA_base))) (ov_lenS rfl Try.underlying9) rfl rfl (onlyT_spec (k0 := 4) rfl rfl rfl)
        ·intro done hi hc hcu
         have d4 : done 4 = true := done_of (j := 4) hcu rfl (by decide) rfl
         have d2 : done 2 = true := done_of (j := 2) hcu rfl (by decide) rfl
         exact draw_value (i := 5) (t := 22) (v := (bool (decide (11 < (x6.1.length : Int))))) rfl rfl (wanted_on rfl rfl rfl (eq_t c7)) (fun a => (hasA_cons (k := 2) rfl d2 (hasA_cons (k := 4) rfl d4 hasA_base))) (ov_bin rfl rfl (b_gtr _ _ _)) rfl rfl (onlyT_spec (k0 := 5) rfl rfl rfl)
        ·intro done hi hc hcu
         have d2 : done 2 = true := done_of (j := 2) hcu rfl (by decide) rfl
         have d5 : done 5 = true := done_of (j := 5) hcu rfl (by decide) rfl
         exact draw_value (i := 6) (t := 23) (v := (bool (decide (11 < (x6.1.length : Int))))) rfl rfl (wanted_none rfl) (fun a => (hasA_cons (k := 5) rfl d5 (hasA_cons (k := 2) rfl d2 hasA_base))) (ov_pick rfl rfl rfl (pick_t (eq_t c7))) rfl rfl (onlyT_spec (k0 := 6) rfl rfl rfl)
        ·intro done hi hc hcu
         have d6 : done 6 = true := done_of (j := 6) hcu rfl (by decide) rfl
         exact draw_value (i := 7) (t := 24) (v := (bool (decide (11 < (x6.1.length : Int))))) rfl rfl (wanted_none rfl) (fun a => (hasA_cons (k := 6) rfl d6 hasA_base)) (ov_move rfl) rfl rfl (onlyT_spec (k0 := 7) rfl rfl rfl)
        ·intro done hi hc hcu
         have d7 : done 7 = true := done_of (j := 7) hcu rfl (by decide) rfl
         exact draw_value (i := 8) (t := 25) (v := (str x6.1)) rfl rfl (wanted_on rfl rfl rfl (decide_eq_true c8)) (fun a => (hasA_cons (k := 7) rfl d7 hasA_base)) (ov_move rfl) rfl rfl (onlyT_spec (k0 := 8) rfl rfl rfl)
        ·intro done hi hc hcu
         have d8 : done 8 = true := done_of (j := 8) hcu rfl (by decide) rfl
         have d7 : done 7 = true := done_of (j := 7) hcu rfl (by decide) rfl
         exact draw_value (i := 9) (t := 26) (v := (str (x6.1.take (12 : Int).toNat))) rfl rfl (wanted_on rfl rfl rfl (decide_eq_true c8)) (fun a => (hasA_cons (k := 7) rfl d7 (hasA_cons (k := 8) rfl d8 hasA_base))) (ov_sls_hi rfl rfl Try.underlying9 (by decide) c9) rfl rfl (onlyT_spec (k0 := 9) rfl rfl rfl)
        ·intro done hi hc hcu
         have d9 : done 9 = true := done_of (j := 9) hcu rfl (by decide) rfl
         have d7 : done 7 = true := done_of (j := 7) hcu rfl (by decide) rfl
         exact draw_value (i := 10) (t := 27) (v := (bool ((x6.1.take (12 : Int).toNat) == ([114, 101, 116, 97, 105, 110, 32, 50, 48, 48, 48, 10] : List UInt8)))) rfl rfl (wanted_on rfl rfl rfl (decide_eq_true c8)) (fun a => (hasA_cons (k := 7) rfl d7 (hasA_cons (k := 9) rfl d9 hasA_base))) (ov_bin rfl rfl (b_eql_str _ _)) rfl rfl (onlyT_spec (k0 := 10) rfl rfl rfl)
        ·intro done hi hc hcu
         have d7 : done 7 = true := done_of (j := 7) hcu rfl (by decide) rfl
         have d10 : done 10 = true := done_of (j := 10) hcu rfl (by decide) rfl
         exact draw_value (i := 11) (t := 28) (v := (bool ((x6.1.take (12 : Int).toNat) == ([114, 101, 116, 97, 105, 110, 32, 50, 48, 48, 48, 10] : List UInt8)))) rfl rfl (wanted_none rfl) (fun a => (hasA_cons (k := 10) rfl d10 (hasA_cons (k := 7) rfl d7 hasA_base))) (ov_pick rfl rfl rfl (pick_t (decide_eq_true c8))) rfl rfl (onlyT_spec (k0 := 11) rfl rfl rfl)
        ·intro done hi hc hcu
         have d11 : done 11 = true := done_of (j := 11) hcu rfl (by decide) rfl
         exact draw_value (i := 12) (t := 29) (v := (bool ((x6.1.take (12 : Int).toNat) == ([114, 101, 116, 97, 105, 110, 32, 50, 48, 48, 48, 10] : List UInt8)))) rfl rfl (wanted_none rfl) (fun a => (hasA_cons (k := 11) rfl d11 hasA_base)) (ov_move rfl) rfl rfl (onlyT_spec (k0 := 12) rfl rfl rfl)
        ·intro done hi hc hcu
         have d12 : done 12 = true := done_of (j := 12) hcu rfl (by decide) rfl
         exact draw_value (i := 13) (t := 30) (v := (int .i64 x7.2.2.2.2.2.2.2.2.2.2)) rfl rfl (wanted_on rfl rfl rfl (eq_t c10)) (fun a => (hasA_cons (k := 12) rfl d12 hasA_base)) (ov_move rfl) rfl rfl (onlyT_spec (k0 := 13) rfl rfl rfl)
        ·intro done hi hc hcu
         have d13 : done 13 = true := done_of (j := 13) hcu rfl (by decide) rfl
         have d12 : done 12 = true := done_of (j := 12) hcu rfl (by decide) rfl
         exact draw_value (i := 14) (t := 31) (v := (bool (x7.2.2.2.2.2.2.2.2.2.2 == 0))) rfl rfl (wanted_on rfl rfl rfl (eq_t c10)) (fun a => (hasA_cons (k := 12) rfl d12 (hasA_cons (k := 13) rfl d13 hasA_base))) (ov_bin rfl rfl (b_eql _ _ _)) rfl rfl (onlyT_spec (k0 := 14) rfl rfl rfl)
        ·intro done hi hc hcu
         have d12 : done 12 = true := done_of (j := 12) hcu rfl (by decide) rfl
         have d14 : done 14 = true := done_of (j := 14) hcu rfl (by decide) rfl
         exact draw_value (i := 15) (t := 32) (v := (bool (x7.2.2.2.2.2.2.2.2.2.2 == 0))) rfl rfl (wanted_none rfl) (fun a => (hasA_cons (k := 14) rfl d14 (hasA_cons (k := 12) rfl d12 hasA_base))) (ov_pick rfl rfl rfl (pick_t (eq_t c10))) rfl rfl (onlyT_spec (k0 := 15) rfl rfl rfl)
        ·intro done hi hc hcu
         have d15 : done 15 = true := done_of (j := 15) hcu rfl (by decide) rfl
         exact draw_value (i := 16) (t := 33) (v := (bool (x7.2.2.2.2.2.2.2.2.2.2 == 0))) rfl rfl (wanted_none rfl) (fun a => (hasA_cons (k := 15) rfl d15 hasA_base)) (ov_move rfl) rfl rfl (onlyT_spec (k0 := 16) rfl rfl rfl)
        ·intro done hi hc hcu
         have d16 : done 16 = true := done_of (j := 16) hcu rfl (by decide) rfl
         exact draw_value (i := 17) (t := 34) (v := (int .i64 x7.1)) rfl rfl (wanted_on rfl rfl rfl (eq_t c11)) (fun a => (hasA_cons (k := 16) rfl d16 hasA_base)) (ov_move rfl) rfl rfl (onlyT_spec (k0 := 17) rfl rfl rfl)
        ·intro done hi hc hcu
         have d17 : done 17 = true := done_of (j := 17) hcu rfl (by decide) rfl
         have d16 : done 16 = true := done_of (j := 16) hcu rfl (by decide) rfl
         exact draw_value (i := 18) (t := 35) (v := (bool (x7.1 == 0))) rfl rfl (wanted_on rfl rfl rfl (eq_t c11)) (fun a => (hasA_cons (k := 16) rfl d16 (hasA_cons (k := 17) rfl d17 hasA_base))) (ov_bin rfl rfl (b_eql _ _ _)) rfl rfl (onlyT_spec (k0 := 18) rfl rfl rfl)
        ·intro done hi hc hcu
         have d16 : done 16 = true := done_of (j := 16) hcu rfl (by decide) rfl
         have d18 : done 18 = true := done_of (j := 18) hcu rfl (by decide) rfl
         exact draw_value (i := 19) (t := 36) (v := (bool (x7.1 == 0))) rfl rfl (wanted_none rfl) (fun a => (hasA_cons (k := 18) rfl d18 (hasA_cons (k := 16) rfl d16 hasA_base))) (ov_pick rfl rfl rfl (pick_t (eq_t c11))) rfl rfl (onlyT_spec (k0 := 19) rfl rfl rfl)
        ·intro done hi hc hcu
         have d19 : done 19 = true := done_of (j := 19) hcu rfl (by decide) rfl
         exact draw_value (i := 20) (t := 37) (v := (bool (x7.1 == 0))) rfl rfl (wanted_none rfl) (fun a => (hasA_cons (k := 19) rfl d19 hasA_base)) (ov_move rfl) rfl rfl (onlyT_spec (k0 := 20) rfl rfl rfl)
        ·intro done hi hc hcu
         have d20 : done 20 = true := done_of (j := 20) hcu rfl (by decide) rfl
         exact draw_off (i := 21) (t := 38) rfl rfl (wanted_off rfl rfl rfl (eq_f c12)) (fun a => (hasA_cons (k := 20) rfl d20 hasA_base)) rfl rfl (onlyT_spec (k0 := 21) rfl rfl rfl)
        ·intro done hi hc hcu
         have d20 : done 20 = true := done_of (j := 20) hcu rfl (by decide) rfl
         exact draw_off (i := 22) (t := 39) rfl rfl (wanted_off rfl rfl rfl (eq_f c12)) (fun a => (hasA_cons (k := 20) rfl d20 hasA_base)) rfl rfl (onlyT_spec (k0 := 22) rfl rfl rfl)
        ·intro done hi hc hcu
         have d20 : done 20 = true := done_of (j := 20) hcu rfl (by decide) rfl
         exact draw_off (i := 23) (t := 40) rfl rfl (wanted_off rfl rfl rfl (eq_f c12)) (fun a => (hasA_cons (k := 20) rfl d20 hasA_base)) rfl rfl (onlyT_spec (k0 := 23) rfl rfl rfl)
        ·intro done hi hc hcu
         have d20 : done 20 = true := done_of (j := 20) hcu rfl (by decide) rfl
         have d23 : done 23 = true := done_of (j := 23) hcu rfl (by decide) rfl
         exact draw_value (i := 24) (t := 41) (v := (bool false)) rfl rfl (wanted_none rfl) (fun a => (hasA_cons (k := 23) rfl d23 (hasA_cons (k := 20) rfl d20 hasA_base))) (ov_pick rfl rfl rfl (pick_f (eq_f c12))) rfl rfl (onlyT_spec (k0 := 24) rfl rfl rfl)
        ·intro done hi hc hcu
         have d24 : done 24 = true := done_of (j := 24) hcu rfl (by decide) rfl
         exact draw_value (i := 25) (t := 0) (v := (bool false)) rfl rfl (wanted_none rfl) (fun a => (hasA_cons (k := 24) rfl d24 hasA_base)) (ov_assign rfl) rfl rfl (onlyT_spec (k0 := 25) rfl rfl rfl)
       ·intro done hall
        refine draw_endL [(box b2 24 [(int .i64 x7.2.1), (int .i64 x7.2.2.1), (int .i64 x7.2.2.2.1), (int .i64 x7.2.2.2.2.1), (int .i64 x7.2.2.2.2.2.1), (int .i64 x7.2.2.2.2.2.2.1), (int .i64 x7.2.2.2.2.2.2.2.1), (int .i64 x7.2.2.2.2.2.2.2.2.1), (int .i64 x7.2.2.2.2.2.2.2.2.2.1)])] rfl (fun a => (hasA_cons (k := 25) rfl (hall 25 (by decide)) (hasA_cons (k := 0) rfl (hall 0 (by decide)) (hasA_cons (k := 1) rfl (hall 1 (by decide)) (hasA_cons (k := 2) rfl (hall 2 (by decide)) (hasA_cons (k := 3) rfl (hall 3 (by decide)) (hasA_cons (k := 4) rfl (hall 4 (by decide)) (hasA_cons (k := 5) rfl (hall 5 (by decide)) (hasA_cons (k := 6) rfl (hall 6 (by decide)) (hasA_cons (k := 7) rfl (hall 7 (by decide)) (hasA_cons (k := 8) rfl (hall 8 (by decide)) (hasA_cons (k := 9) rfl (hall 9 (by decide)) (hasA_cons (k := 10) rfl (hall 10 (by decide)) (hasA_cons (k := 11) rfl (hall 11 (by decide)) (hasA_cons (k := 12) rfl (hall 12 (by decide)) (hasA_cons (k := 13) rfl (hall 13 (by decide)) (hasA_cons (k := 14) rfl (hall 14 (by decide)) (hasA_cons (k := 15) rfl (hall 15 (by decide)) (hasA_cons (k := 16) rfl (hall 16 (by decide)) (hasA_cons (k := 17) rfl (hall 17 (by decide)) (hasA_cons (k := 18) rfl (hall 18 (by decide)) (hasA_cons (k := 19) rfl (hall 19 (by decide)) (hasA_cons (k := 20) rfl (hall 20 (by decide)) (hasA_cons (k := 21) rfl (hall 21 (by decide)) (hasA_cons (k := 22) rfl (hall 22 (by decide)) (hasA_cons (k := 23) rfl (hall 23 (by decide)) (hasA_cons (k := 24) rfl (hall 24 (by decide)) hasA_base))))))))))))))))))))))))))) ?_
        refine ent_retc ?_
        cases H
        refine ent_pick [] (by decide) rfl ?_
        exact ret_tmp rfl rfl ⟨rfl, rfl⟩
     ·rw [if_neg c11] at H
      refine ent_drawm 26 rfl (fun done a w => StD 42 w0 F [(1, (str x6.1)), (2, (int .i64 x6.2)), (3, (pt b2 0)), (4, (int .i64 x7.1)), (5, (int .i64 x7.2.2.2.2.2.2.2.2.2.2)), (6, (Value.tuple #[(str x6.1), (int .i64 x6.2)])), (7, (agg #[(int .i64 x5.1), (int .i64 x5.2.1), (int .i64 x5.2.2.1), (int .i64 x5.2.2.2.1), (int .i64 x5.2.2.2.2.1), (int .i64 x5.2.2.2.2.2.1), (int .i64 x5.2.2.2.2.2.2.1), (int .i64 x5.2.2.2.2.2.2.2.1), (int .i64 x5.2.2.2.2.2.2.2.2)])), (8, (Value.tuple #[(str x6.1), (int .i64 x6.2)])), (9, (str x6.1)), (10, (int .i64 x6.2)), (11, (Value.tuple #[(agg #[(int .i64 x7.2.1), (int .i64 x7.2.2.1), (int .i64 x7.2.2.2.1), (int .i64 x7.2.2.2.2.1), (int .i64 x7.2.2.2.2.2.1), (int .i64 x7.2.2.2.2.2.2.1), (int .i64 x7.2.2.2.2.2.2.2.1), (int .i64 x7.2.2.2.2.2.2.2.2.1), (int .i64 x7.2.2.2.2.2.2.2.2.2.1)]), (int .i64 x7.1), (int .i64 x7.2.2.2.2.2.2.2.2.2.2)])), (12, (str x6.1)), (13, (Value.tuple #[(agg #[(int .i64 x7.2.1), (int .i64 x7.2.2.1), (int .i64 x7.2.2.2.1), (int .i64 x7.2.2.2.2.1), (int .i64 x7.2.2.2.2.2.1), (int .i64 x7.2.2.2.2.2.2.1), (int .i64 x7.2.2.2.2.2.2.2.1), (int .i64 x7.2.2.2.2.2.2.2.2.1), (int .i64 x7.2.2.2.2.2.2.2.2.2.1)]), (int .i64 x7.1), (int .i64 x7.2.2.2.2.2.2.2.2.2.2)])), (14, (agg #[(int .i64 x7.2.1), (int .i64 x7.2.2.1), (int .i64 x7.2.2.2.1), (int .i64 x7.2.2.2.2.1), (int .i64 x7.2.2.2.2.2.1), (int .i64 x7.2.2.2.2.2.2.1), (int .i64 x7.2.2.2.2.2.2.2.1), (int .i64 x7.2.2.2.2.2.2.2.2.1), (int .i64 x7.2.2.2.2.2.2.2.2.2.1)])), (15, (int .i64 x7.1)), (16, (int .i64 x7.2.2.2.2.2.2.2.2.2.2))] [(0, 17, (int .i64 x6.2)), (1, 18, (bool (x6.2 == 0))), (2, 19, (bool (x6.2 == 0))), (3, 20, (str x6.1)), (4, 21, (int .i64 (x6.1.length : Int))), (5, 22, (bool (decide (11 < (x6.1.length : Int))))), (6, 23, (bool (decide (11 < (x6.1.length : Int))))), (7, 24, (bool (decide (11 < (x6.1.length : Int))))), (8, 25, (str x6.1)), (9, 26, (str (x6.1.take (12 : Int).toNat))), (10, 27, (bool ((x6.1.take (12 : Int).toNat) == ([114, 101, 116, 97, 105, 110, 32, 50, 48, 48, 48, 10] : List UInt8)))), (11, 28, (bool ((x6.1.take (12 : Int).toNat) == ([114, 101, 116, 97, 105, 110, 32, 50, 48, 48, 48, 10] : List UInt8)))), (12, 29, (bool ((x6.1.take (12 : Int).toNat) == ([114, 101, 116, 97, 105, 110, 32, 50, 48, 48, 48, 10] : List UInt8)))), (13, 30, (int .i64 x7.2.2.2.2.2.2.2.2.2.2)), (14, 31, (bool (x7.2.2.2.2.2.2.2.2.2.2 == 0))), (15, 32, (bool (x7.2.2.2.2.2.2.2.2.2.2 == 0))), (16, 33, (bool (x7.2.2.2.2.2.2.2.2.2.2 == 0))), (17, 34, undef), (18, 35, undef), (19, 36, (bool false)), (20, 37, (bool false)), (21, 38, undef), (22, 39, undef), (23, 40, undef), (24, 41, (bool false)), (25, 0, (bool false))] done [(box b2 24 [(int .i64 x7.2.1), (int .i64 x7.2.2.1), (int .i64 x7.2.2.2.1), (int .i64 x7.2.2.2.2.1), (int .i64 x7.2.2.2.2.2.1), (int .i64 x7.2.2.2.2.2.2.1), (int .i64 x7.2.2.2.2.2.2.2.1), (int .i64 x7.2.2.2.2.2.2.2.2.1), (int .i64 x7.2.2.2.2.2.2.2.2.2.1)])] a w) (by kernel_rfl) (by kernel_rfl) (draw_startL (sub_cons (t := 1) rfl (sub_cons (t := 2) rfl (sub_cons (t := 3) rfl (sub_cons (t := 4) rfl (sub_cons (t := 5) rfl (sub_cons (t := 6) rfl (sub_cons (t := 7) rfl (sub_cons (t := 8) rfl (sub_cons (t := 9) rfl (sub_cons (t := 10) rfl (sub_cons (t := 11) rfl (sub_cons (t := 12) rfl (sub_cons (t := 13) rfl (sub_cons (t := 14) rfl (sub_cons (t := 15) rfl (sub_cons (t := 16) rfl (sub_nil _))))))))))))))))) rfl) ?_ ?_
      ·refine ⟨?_, ?_, ?_, ?_, ?_, ?_, ?_, ?_, ?_, ?_, ?_, ?_, ?_, ?_, ?_, ?_, ?_, ?_, ?_, ?_, ?_, ?_, ?_, ?_, ?_, ?_, trivial⟩
       ·intro done hi hc hcu
        exact draw_value (i := 0) (t := 17) (v := (int .i64 x6.2)) rfl rfl (wanted_none rfl) (fun a => hasA_base) (ov_move rfl) rfl rfl (onlyT_spec (k0 := 0) rfl rfl rfl)
       ·intro done hi hc hcu
        have d0 : done 0 = true := done_of (j := 0) hcu rfl (by decide) rfl
        exact draw_value (i := 1) (t := 18) (v := (bool (x6.2 == 0))) rfl rfl (wanted_none rfl) (fun a => (hasA_cons (k := 0) rfl d0 hasA_base)) (ov_bin rfl rfl (b_eql _ _ _)) rfl rfl (onlyT_spec (k0 := 1) rfl rfl rfl)
       ·intro done hi hc hcu
        have d1 : done 1 = true := done_of (j := 1) hcu rfl (by decide) rfl
        exact draw_value (i := 2) (t := 19) (v := (bool (x6.2 == 0))) rfl rfl (wanted_none rfl) (fun a => (hasA_cons (k := 1) rfl d1 hasA_base)) (ov_move rfl) rfl rfl (onlyT_spec (k0 := 2) rfl rfl rfl)
       ·intro done hi hc hcu
        have d2 : done 2 = true := done_of (j := 2) hcu rfl (by decide) rfl
        exact draw_value (i := 3) (t := 20) (v := (str x6.1)) rfl rfl (wanted_on rfl rfl rfl (eq_t c7)) (fun a => (hasA_cons (k := 2) rfl d2 hasA_base)) (ov_move rfl) rfl rfl (onlyT_spec (k0 := 3) rfl rfl rfl)
       ·intro done hi hc hcu
        have d3 : done 3 = true := done_of (j := 3) hcu rfl (by decide) rfl
        have d2 : done 2 = true := done_of (j := 2) hcu rfl (by decide) rfl
        exact draw_value (i := 4) (t := 21) (v := (int .i64 (x6.1.length : Int))) rfl rfl (wanted_on rfl rfl rfl (eq_t c7)) (fun a => (hasA_cons (k := 2) rfl d2 (hasA_cons (k := 3) rfl d3 hasA_base))) (ov_lenS rfl Try.underlying9) rfl rfl (onlyT_spec (k0 := 4) rfl rfl rfl)
       ·intro done hi hc hcu
        have d4 : done 4 = true := done_of (j := 4) hcu rfl (by decide) rfl
        have d2 : done 2 = true := done_of (j := 2) hcu rfl (by decide) rfl
        exact draw_value (i := 5) (t := 22) (v := (bool (decide (11 < (x6.1.length : Int))))) rfl rfl (wanted_on rfl rfl rfl (eq_t c7)) (fun a => (hasA_cons (k := 2) rfl d2 (hasA_cons (k := 4) rfl d4 hasA_base))) (ov_bin rfl rfl (b_gtr _ _ _)) rfl rfl (onlyT_spec (k0 := 5) rfl rfl rfl)
       ·intro done hi hc hcu
        have d2 : done 2 = true := done_of (j := 2) hcu rfl (by decide) rfl
        have d5 : done 5 = true := done_of (j := 5) hcu rfl (by decide) rfl
        exact draw_value (i := 6) (t := 23) (v := (bool (decide (11 < (x6.1.length : Int))))) rfl rfl (wanted_none rfl) (fun a => (hasA_cons (k := 5) rfl d5 (hasA_cons (k := 2) rfl d2 hasA_base))) (ov_pick rfl rfl rfl (pick_t (eq_t c7))) rfl rfl (onlyT_spec (k0 := 6) rfl rfl rfl)
       ·intro done hi hc hcu
        have d6 : done 6 = true := done_of (j := 6) hcu rfl (by decide) rfl
        exact draw_value (i := 7) (t := 24) (v := (bool (decide (11 < (x6.1.length : Int))))) rfl rfl (wanted_none rfl) (fun a => (hasA_cons (k := 6) rfl d6 hasA_base)) (ov_move rfl) rfl rfl (onlyT_spec (k0 := 7) rfl rfl rfl)
       ·intro done hi hc hcu
        have d7 : done 7 = true := done_of (j := 7) hcu rfl (by decide) rfl
        exact draw_value (i := 8) (t := 25) (v := (str x6.1)) rfl rfl (wanted_on rfl rfl rfl (decide_eq_true c8)) (fun a => (hasA_cons (k := 7) rfl d7 hasA_base)) (ov_move rfl) rfl rfl (onlyT_spec (k0 := 8) rfl rfl rfl)
       ·intro done hi hc hcu
        have d8 : done 8 = true := done_of (j := 8) hcu rfl (by decide) rfl
        have d7 : done 7 = true := done_of (j := 7) hcu rfl (by decide) rfl
        exact draw_value (i := 9) (t := 26) (v := (str (x6.1.take (12 : Int).toNat))) rfl rfl (wanted_on rfl rfl rfl (decide_eq_true c8)) (fun a => (hasA_cons (k := 7) rfl d7 (hasA_cons (k := 8) rfl d8 hasA_base))) (ov_sls_hi rfl rfl Try.underlying9 (by decide) c9) rfl rfl (onlyT_spec (k0 := 9) rfl rfl rfl)
       ·intro done hi hc hcu
        have d9 : done 9 = true := done_of (j := 9) hcu rfl (by decide) rfl
        have d7 : done 7 = true := done_of (j := 7) hcu rfl (by decide) rfl
        exact draw_value (i := 10) (t := 27) (v := (bool ((x6.1.take (12 : Int).toNat) == ([114, 101, 116, 97, 105, 110, 32, 50, 48, 48, 48, 10] : List UInt8)))) rfl rfl (wanted_on rfl rfl rfl (decide_eq_true c8)) (fun a => (hasA_cons (k := 7) rfl d7 (hasA_cons (k := 9) rfl d9 hasA_base))) (ov_bin rfl rfl (b_eql_str _ _)) rfl rfl (onlyT_spec (k0 := 10) rfl rfl rfl)
       ·intro done hi hc hcu
        have d7 : done 7 = true := done_of (j := 7) hcu rfl (by decide) rfl
        have d10 : done 10 = true := done_of (j := 10) hcu rfl (by decide) rfl
        exact draw_value (i := 11) (t := 28) (v := (bool ((x6.1.take (12 : Int).toNat) == ([114, 101, 116, 97, 105, 110, 32, 50, 48, 48, 48, 10] : List UInt8)))) rfl rfl (wanted_none rfl) (fun a => (hasA_cons (k := 10) rfl d10 (hasA_cons (k := 7) rfl d7 hasA_base))) (ov_pick rfl rfl rfl (pick_t (decide_eq_true c8))) rfl rfl (onlyT_spec (k0 := 11) rfl rfl rfl)
       ·intro done hi hc hcu
        have d11 : done 11 = true := done_of (j := 11) hcu rfl (by decide) rfl
        exact draw_value (i := 12) (t := 29) (v := (bool ((x6.1.take (12 : Int).toNat) == ([114, 101, 116, 97, 105, 110, 32, 50, 48, 48, 48, 10] : List UInt8)))) rfl rfl (wanted_none rfl) (fun a => (hasA_cons (k := 11) rfl d11 hasA_base)) (ov_move rfl) rfl rfl (onlyT_spec (k0 := 12) rfl rfl rfl)
       ·intro done hi hc hcu
        have d12 : done 12 = true := done_of (j := 12) hcu rfl (by decide) rfl
        exact draw_value (i := 13) (t := 30) (v := (int .i64 x7.2.2.2.2.2.2.2.2.2.2)) rfl rfl (wanted_on rfl rfl rfl (eq_t c10)) (fun a => (hasA_cons (k := 12) rfl d12 hasA_base)) (ov_move rfl) rfl rfl (onlyT_spec (k0 := 13) rfl rfl rfl)
       ·intro done hi hc hcu
        have d13 : done 13 = true := done_of (j := 13) hcu rfl (by decide) rfl
        have d12 : done 12 = true := done_of (j := 12) hcu rfl (by decide) rfl
        exact draw_value (i := 14) (t := 31) (v := (bool (x7.2.2.2.2.2.2.2.2.2.2 == 0))) rfl rfl (wanted_on rfl rfl rfl (eq_t c10)) (fun a => (hasA_cons (k := 12) rfl d12 (hasA_cons (k := 13) rfl d13 hasA_base))) (ov_bin rfl rfl (b_eql _ _ _)) rfl rfl (onlyT_spec (k0 := 14) rfl rfl rfl)
       ·intro done hi hc hcu
        have d12 : done 12 = true := done_of (j := 12) hcu rfl (by decide) rfl
        have d14 : done 14 = true := done_of (j := 14) hcu rfl (by decide) rfl
        exact draw_value (i := 15) (t := 32) (v := (bool (x7.2.2.2.2.2.2.2.2.2.2 == 0))) rfl rfl (wanted_none rfl) (fun a => (hasA_cons (k := 14) rfl d14 (hasA_cons (k := 12) rfl d12 hasA_base))) (ov_pick rfl rfl rfl (pick_t (eq_t c10))) rfl rfl (onlyT_spec (k0 := 15) rfl rfl rfl)
       ·intro done hi hc hcu
        have d15 : done 15 = true := done_of (j := 15) hcu rfl (by decide) rfl
        exact draw_value (i := 16) (t := 33) (v := (bool (x7.2.2.2.2.2.2.2.2.2.2 == 0))) rfl rfl (wanted_none rfl) (fun a => (hasA_cons (k := 15) rfl d15 hasA_base)) (ov_move rfl) rfl rfl (onlyT_spec (k0 := 16) rfl rfl rfl)
       ·intro done hi hc hcu
        have d16 : done 16 = true := done_of (j := 16) hcu rfl (by decide) rfl
        exact draw_off (i := 17) (t := 34) rfl rfl (wanted_off rfl rfl rfl (eq_f c11)) (fun a => (hasA_cons (k := 16) rfl d16 hasA_base)) rfl rfl (onlyT_spec (k0 := 17) rfl rfl rfl)
       ·intro done hi hc hcu
        have d16 : done 16 = true := done_of (j := 16) hcu rfl (by decide) rfl
        exact draw_off (i := 18) (t := 35) rfl rfl (wanted_off rfl rfl rfl (eq_f c11)) (fun a => (hasA_cons (k := 16) rfl d16 hasA_base)) rfl rfl (onlyT_spec (k0 := 18) rfl rfl rfl)
       ·intro done hi hc hcu
        have d16 : done 16 = true := done_of (j := 16) hcu rfl (by decide) rfl
        have d18 : done 18 = true := done_of (j := 18) hcu rfl (by decide) rfl
        exact draw_value (i := 19) (t := 36) (v := (bool false)) rfl rfl (wanted_none rfl) (fun a => (hasA_cons (k := 18) rfl d18 (hasA_cons (k := 16) rfl d16 hasA_base))) (ov_pick rfl rfl rfl (pick_f (eq_f c11))) rfl rfl (onlyT_spec (k0 := 19) rfl rfl rfl)
       ·intro done hi hc hcu
        have d19 : done 19 = true := done_of (j := 19) hcu rfl (by decide) rfl
        exact draw_value (i := 20) (t := 37) (v := (bool false)) rfl rfl (wanted_none rfl) (fun a => (hasA_cons (k := 19) rfl d19 hasA_base)) (ov_move rfl) rfl rfl (onlyT_spec (k0 := 20) rfl rfl rfl)
       ·intro done hi hc hcu
        have d20 : done 20 = true := done_of (j := 20) hcu rfl (by decide) rfl
        exact draw_off (i := 21) (t := 38) rfl rfl (wanted_off rfl rfl rfl rfl) (fun a => (hasA_cons (k := 20) rfl d20 hasA_base)) rfl rfl (onlyT_spec (k0 := 21) rfl rfl rfl)
       ·intro done hi hc hcu
        have d20 : done 20 = true := done_of (j := 20) hcu rfl (by decide) rfl
        exact draw_off (i := 22) (t := 39) rfl rfl (wanted_off rfl rfl rfl rfl) (fun a => (hasA_cons (k := 20) rfl d20 hasA_base)) rfl rfl (onlyT_spec (k0 := 22) rfl rfl rfl)
       ·intro done hi hc hcu
        have d20 : done 20 = true := done_of (j := 20) hcu rfl (by decide) rfl
        exact draw_off (i := 23) (t := 40) rfl rfl (wanted_off rfl rfl rfl rfl) (fun a => (hasA_cons (k := 20) rfl d20 hasA_base)) rfl rfl (onlyT_spec (k0 := 23) rfl rfl rfl)
       ·intro done hi hc hcu
        have d20 : done 20 = true := done_of (j := 20) hcu rfl (by decide) rfl
        have d23 : done 23 = true := done_of (j := 23) hcu rfl (by decide) rfl
        exact draw_value (i := 24) (t := 41) (v := (bool false)) rfl rfl (wanted_none rfl) (fun a => (hasA_cons (k := 23) rfl d23 (hasA_cons (k := 20) rfl d20 hasA_base))) (ov_pick rfl rfl rfl rfl) rfl rfl (onlyT_spec (k0 := 24) rfl rfl rfl)
       ·intro done hi hc hcu
        have d24 : done 24 = true := done_of (j := 24) hcu rfl (by decide) rfl
        exact draw_value (i := 25) (t := 0) (v := (bool false)) rfl rfl (wanted_none rfl) (fun a => (hasA_cons (k := 24) rfl d24 hasA_base)) (ov_assign rfl) rfl rfl (onlyT_spec (k0 := 25) rfl rfl rfl)
      ·intro done hall
       refine draw_endL [(box b2 24 [(int .i64 x7.2.1), (int .i64 x7.2.2.1), (int .i64 x7.2.2.2.1), (int .i64 x7.2.2.2.2.1), (int .i64 x7.2.2.2.2.2.1), (int .i64 x7.2.2.2.2.2.2.1), (int .i64 x7.2.2.2.2.2.2.2.1), (int .i64 x7.2.2.2.2.2.2.2.2.1), (int .i64 x7.2.2.2.2.2.2.2.2.2.1)])] rfl (fun a => (hasA_cons (k := 25) rfl (hall 25 (by decide)) (hasA_cons (k := 0) rfl (hall 0 (by decide)) (hasA_cons (k := 1) rfl (hall 1 (by decide)) (hasA_cons (k := 2) rfl (hall 2 (by decide)) (hasA_cons (k := 3) rfl (hall 3 (by decide)) (hasA_cons (k := 4) rfl (hall 4 (by decide)) (hasA_cons (k := 5) rfl (hall 5 (by decide)) (hasA_cons (k := 6) rfl (hall 6 (by decide)) (hasA_cons (k := 7) rfl (hall 7 (by decide)) (hasA_cons (k := 8) rfl (hall 8 (by decide)) (hasA_cons (k := 9) rfl (hall 9 (by decide)) (hasA_cons (k := 10) rfl (hall 10 (by decide)) (hasA_cons (k := 11) rfl (hall 11 (by decide)) (hasA_cons (k := 12) rfl (hall 12 (by decide)) (hasA_cons (k := 13) rfl (hall 13 (by decide)) (hasA_cons (k := 14) rfl (hall 14 (by decide)) (hasA_cons (k := 15) rfl (hall 15 (by decide)) (hasA_cons (k := 16) rfl (hall 16 (by decide)) (hasA_cons (k := 17) rfl (hall 17 (by decide)) (hasA_cons (k := 18) rfl (hall 18 (by decide)) (hasA_cons (k := 19) rfl (hall 19 (by decide)) (hasA_cons (k := 20) rfl (hall 20 (by decide)) (hasA_cons (k := 21) rfl (hall 21 (by decide)) (hasA_cons (k := 22) rfl (hall 22 (by decide)) (hasA_cons (k := 23) rfl (hall 23 (by decide)) (hasA_cons (k := 24) rfl (hall 24 (by decide)) hasA_base))))))))))))))))))))))))))) ?_
       refine ent_retc ?_
       cases H
       refine ent_pick [] (by decide) rfl ?_
       exact ret_tmp rfl rfl ⟨rfl, rfl⟩
    ·rw [if_neg c10] at H
     refine ent_drawm 26 rfl (fun done a w => StD 42 w0 F [(1, (str x6.1)), (2, (int .i64 x6.2)), (3, (pt b2 0)), (4, (int .i64 x7.1)), (5, (int .i64 x7.2.2.2.2.2.2.2.2.2.2)), (6, (Value.tuple #[(str x6.1), (int .i64 x6.2)])), (7, (agg #[(int .i64 x5.1), (int .i64 x5.2.1), (int .i64 x5.2.2.1), (int .i64 x5.2.2.2.1), (int .i64 x5.2.2.2.2.1), (int .i64 x5.2.2.2.2.2.1), (int .i64 x5.2.2.2.2.2.2.1), (int .i64 x5.2.2.2.2.2.2.2.1), (int .i64 x5.2.2.2.2.2.2.2.2)])), (8, (Value.tuple #[(str x6.1), (int .i64 x6.2)])), (9, (str x6.1)), (10, (int .i64 x6.2)), (11, (Value.tuple #[(agg #[(int .i64 x7.2.1), (int .i64 x7.2.2.1), (int .i64 x7.2.2.2.1), (int .i64 x7.2.2.2.2.1), (int .i64 x7.2.2.2.2.2.1), (int .i64 x7.2.2.2.2.2.2.1), (int .i64 x7.2.2.2.2.2.2.2.1), (int .i64 x7.2.2.2.2.2.2.2.2.1), (int .i64 x7.2.2.2.2.2.2.2.2.2.1)]), (int .i64 x7.1), (int .i64 x7.2.2.2.2.2.2.2.2.2.2)])), (12, (str x6.1)), (13, (Value.tuple #[(agg #[(int .i64 x7.2.1), (int .i64 x7.2.2.1), (int .i64 x7.2.2.2.1), (int .i64 x7.2.2.2.2.1), (int .i64 x7.2.2.2.2.2.1), (int .i64 x7.2.2.2.2.2.2.1), (int .i64 x7.2.2.2.2.2.2.2.1), (int .i64 x7.2.2.2.2.2.2.2.2.1), (int .i64 x7.2.2.2.2.2.2.2.2.2.1)]), (int .i64 x7.1), (int .i64 x7.2.2.2.2.2.2.2.2.2.2)])), (14, (agg #[(int .i64 x7.2.1), (int .i64 x7.2.2.1), (int .i64 x7.2.2.2.1), (int .i64 x7.2.2.2.2.1), (int .i64 x7.2.2.2.2.2.1), (int .i64 x7.2.2.2.2.2.2.1), (int .i64 x7.2.2.2.2.2.2.2.1), (int .i64 x7.2.2.2.2.2.2.2.2.1), (int .i64 x7.2.2.2.2.2.2.2.2.2.1)])), (15, (int .i64 x7.1)), (16, (int .i64 x7.2.2.2.2.2.2.2.2.2.2))] [(0, 17, (int .i64 x6.2)), (1, 18, (bool (x6.2 == 0))), (2, 19, (bool (x6.2 == 0))), (3, 20, (str x6.1)), (4, 21, (int .i64 (x6.1.length : Int))), (5, 22, (bool (decide (11 < (x6.1.length : Int))))), (6, 23, (bool (decide (11 < (x6.1.length : Int))))), (7, 24, (bool (decide (11 < (x6.1.length : Int))))), (8, 25, (str x6.1)), (9, 26, (str (x6.1.take (12 : Int).toNat))), (10, 27, (bool ((x6.1.take (12 : Int).toNat) == ([114, 101, 116, 97, 105, 110, 32, 50, 48, 48, 48, 10] : List UInt8)))), (11, 28, (bool ((x6.1.take (12 : Int).toNat) == ([114, 101, 116, 97, 105, 110, 32, 50, 48, 48, 48, 10] : List UInt8)))), (12, 29, (bool ((x6.1.take (12 : Int).toNat) == ([114, 101, 116, 97, 105, 110, 32, 50, 48, 48, 48, 10] : List UInt8)))), (13, 30, undef), (14, 31, undef), (15, 32, (bool false)), (16, 33, (bool false)), (17, 34, undef), (18, 35, undef), (19, 36, (bool false)), (20, 37, (bool false)), (21, 38, undef), (22, 39, undef), (23, 40, undef), (24, 41, (bool false)), (25, 0, (bool false))] done [(box b2 24 [(int .i64 x7.2.1), (int .i64 x7.2.2.1), (int .i64 x7.2.2.2.1), (int .i64 x7.2.2.2.2.1), (int .i64 x7.2.2.2.2.2.1), (int .i64 x7.2.2.2.2.2.2.1), (int .i64 x7.2.2.2.2.2.2.2.1), (int .i64 x7.2.2.2.2.2.2.2.2.1), (int .i64 x7.2.2.2.2.2.2.2.2.2.1)])] a w) (by kernel_rfl) (by kernel_rfl) (draw_startL (sub_cons (t := 1) rfl (sub_cons (t := 2) rfl (sub_cons (t := 3) rfl (sub_cons (t := 4) rfl (sub_cons (t := 5) rfl (sub_cons (t := 6) rfl (sub_cons (t := 7) rfl (sub_cons (t := 8) rfl (sub_cons (t := 9) rfl (sub_cons (t := 10) rfl (sub_cons (t := 11) rfl (sub_cons (t := 12) rfl (sub_cons (t := 13) rfl (sub_cons (t := 14) rfl (sub_cons (t := 15) rfl (sub_cons (t := 16) rfl (sub_nil _))))))))))))))))) rfl) ?_ ?_
     ·refine ⟨?_, ?_, ?_, ?_, ?_, ?_, ?_, ?_, ?_, ?_, ?_, ?_, ?_, ?_, ?_, ?_, ?_, ?_, ?_, ?_, ?_, ?_, ?_, ?_, ?_, ?_, trivial⟩
      ·intro done hi hc hcu
       exact draw_value (i := 0) (t := 17) (v := (int .i64 x6.2)) rfl rfl (wanted_none rfl) (fun a => hasA_base) (ov_move rfl) rfl rfl (onlyT_spec (k0 := 0) rfl rfl rfl)
      ·intro done hi hc hcu
       have d0 : done 0 = true := done_of (j := 0) hcu rfl (by decide) rfl
       exact draw_value (i := 1) (t := 18) (v := (bool (x6.2 == 0))) rfl rfl (wanted_none rfl) (fun a => (hasA_cons (k := 0) rfl d0 hasA_base)) (ov_bin rfl rfl (b_eql _ _ _)) rfl rfl (onlyT_spec (k0 := 1) rfl rfl rfl)
      ·intro done hi hc hcu
       have d1 : done 1 = true := done_of (j := 1) hcu rfl (by decide) rfl
       exact draw_value (i := 2) (t := 19) (v := (bool (x6.2 == 0))) rfl rfl (wanted_none rfl) (fun a => (hasA_cons (k := 1) rfl d1 hasA_base)) (ov_move rfl) rfl rfl (onlyT_spec (k0 := 2) rfl rfl rfl)
      ·intro done hi hc hcu
       have d2 : done 2 = true := done_of (j := 2) hcu rfl (by decide) rfl
       exact draw_value (i := 3) (t := 20) (v := (str x6.1)) rfl rfl (wanted_on rfl rfl rfl (eq_t c7)) (fun a => (hasA_cons (k := 2) rfl d2 hasA_base)) (ov_move rfl) rfl rfl (onlyT_spec (k0 := 3) rfl rfl rfl)
      ·intro done hi hc hcu
       have d3 : done 3 = true := done_of (j := 3) hcu rfl (by decide) rfl
       have d2 : done 2 = true := done_of (j := 2) hcu rfl (by decide) rfl
       exact draw_value (i := 4) (t := 21) (v := (int .i64 (x6.1.length : Int))) rfl rfl (wanted_on rfl rfl rfl (eq_t c7)) (fun a => (hasA_cons (k := 2) rfl d2 (hasA_cons (k := 3) rfl d3 hasA_base))) (ov_lenS rfl Try.underlying9) rfl rfl (onlyT_spec (k0 := 4) rfl rfl rfl)
      ·intro done hi hc hcu
       have d4 : done 4 = true := done_of (j := 4) hcu rfl (by decide) rfl
       have d2 : done 2 = true := done_of (j := 2) hcu rfl (by decide) rfl
       exact draw_value (i := 5) (t := 22) (v := (bool (decide (11 < (x6.1.length : Int))))) rfl rfl (wanted_on rfl rfl rfl (eq_t c7)) (fun a => (hasA_cons (k := 2) rfl d2 (hasA_cons (k := 4) rfl d4 hasA_base))) (ov_bin rfl rfl (b_gtr _ _ _)) rfl rfl (onlyT_spec (k0 := 5) rfl rfl rfl)
      ·intro done hi hc hcu
       have d2 : done 2 = true := done_of (j := 2) hcu rfl (by decide) rfl
       have d5 : done 5 = true := done_of (j := 5) hcu rfl (by decide) rfl
       exact draw_value (i := 6) (t := 23) (v := (bool (decide (11 < (x6.1.length : Int))))) rfl rfl (wanted_none rfl) (fun a => (hasA_cons (k := 5) rfl d5 (hasA_cons (k := 2) rfl d2 hasA_base))) (ov_pick rfl rfl rfl (pick_t (eq_t c7))) rfl rfl (onlyT_spec (k0 := 6) rfl rfl rfl)
      ·intro done hi hc hcu
       have d6 : done 6 = true := done_of (j := 6) hcu rfl (by decide) rfl
       exact draw_value (i := 7) (t := 24) (v := (bool (decide (11 < (x6.1.length : Int))))) rfl rfl (wanted_none rfl) (fun a => (hasA_cons (k := 6) rfl d6 hasA_base)) (ov_move rfl) rfl rfl (onlyT_spec (k0 := 7) rfl rfl rfl)
      ·intro done hi hc hcu
       have d7 : done 7 = true := done_of (j := 7) hcu rfl (by decide) rfl
       exact draw_value (i := 8) (t := 25) (v := (str x6.1)) rfl rfl (wanted_on rfl rfl rfl (decide_eq_true c8)) (fun a => (hasA_cons (k := 7) rfl d7 hasA_base)) (ov_move rfl) rfl rfl (onlyT_spec (k0 := 8) rfl rfl rfl)
      ·intro done hi hc hcu
       have d8 : done 8 = true := done_of (j := 8) hcu rfl (by decide) rfl
       have d7 : done 7 = true := done_of (j := 7) hcu rfl (by decide) rfl
       exact draw_value (i := 9) (t := 26) (v := (str (x6.1.take (12 : Int).toNat))) rfl rfl (wanted_on rfl rfl rfl (decide_eq_true c8)) (fun a => (hasA_cons (k := 7) rfl d7 (hasA_cons (k := 8) rfl d8 hasA_base))) (ov_sls_hi rfl rfl Try.underlying9 (by decide) c9) rfl rfl (onlyT_spec (k0 := 9) rfl rfl rfl)
      ·intro done hi hc hcu
       have d9 : done 9 = true := done_of (j := 9) hcu rfl (by decide) rfl
       have d7 : done 7 = true := done_of (j := 7) hcu rfl (by decide) rfl
       exact draw_value (i := 10) (t := 27) (v := (bool ((x6.1.take (12 : Int).toNat) == ([114, 101, 116, 97, 105, 110, 32, 50, 48, 48, 48, 10] : List UInt8)))) rfl rfl (wanted_on rfl rfl rfl (decide_eq_true c8)) (fun a => (hasA_cons (k := 7) rfl d7 (hasA_cons (k := 9) rfl d9 hasA_base))) (ov_bin rfl rfl (b_eql_str _ _)) rfl rfl (onlyT_spec (k0 := 10) rfl rfl rfl)
      ·intro done hi hc hcu
       have d7 : done 7 = true := done_of (j := 7) hcu rfl (by decide) rfl
       have d10 : done 10 = true := done_of (j := 10) hcu rfl (by decide) rfl
       exact draw_value (i := 11) (t := 28) (v := (bool ((x6.1.take (12 : Int).toNat) == ([114, 101, 116, 97, 105, 110, 32, 50, 48, 48, 48, 10] : List UInt8)))) rfl rfl (wanted_none rfl) (fun a => (hasA_cons (k := 10) rfl d10 (hasA_cons (k := 7) rfl d7 hasA_base))) (ov_pick rfl rfl rfl (pick_t (decide_eq_true c8))) rfl rfl (onlyT_spec (k0 := 11) rfl rfl rfl)
      ·intro done hi hc hcu
       have d11 : done 11 = true := done_of (j := 11) hcu rfl (by decide) rfl
       exact draw_value (i := 12) (t := 29) (v := (bool ((x6.1.take (12 : Int).toNat) == ([114, 101, 116, 97, 105, 110, 32, 50, 48, 48, 48, 10] : List UInt8)))) rfl rfl (wanted_none rfl) (fun a => (hasA_cons (k := 11) rfl d11 hasA_base)) (ov_move rfl) rfl rfl (onlyT_spec (k0 := 12) rfl rfl rfl)
      ·intro done hi hc hcu
       have d12 : done 12 = true := done_of (j := 12) hcu rfl (by decide) rfl
       exact draw_off (i := 13) (t := 30) rfl rfl (wanted_off rfl rfl rfl (eq_f c10)) (fun a => (hasA_cons (k := 12) rfl d12 hasA_base)) rfl rfl (onlyT_spec (k0 := 13) rfl rfl rfl)
      ·intro done hi hc hcu
       have d12 : done 12 = true := done_of (j := 12) hcu rfl (by decide) rfl
       exact draw_off (i := 14) (t := 31) rfl rfl (wanted_off rfl rfl rfl (eq_f c10)) (fun a => (hasA_cons (k := 12) rfl d12 hasA_base)) rfl rfl (onlyT_spec (k0 := 14) rfl rfl rfl)
      ·intro done hi hc hcu
       have d12 : done 12 = true := done_of (j := 12) hcu rfl (by decide) rfl
       have d14 : done 14 = true := done_of (j := 14) hcu rfl (by decide) rfl
       exact draw_value (i := 15) (t := 32) (v := (bool false)) rfl rfl (wanted_none rfl) (fun a => (hasA_cons (k := 14) rfl d14 (hasA_cons (k := 12) rfl d12 hasA_base))) (ov_pick rfl rfl rfl (pick_f (eq_f c10))) rfl rfl (onlyT_spec (k0 := 15) rfl rfl rfl)
      ·intro done hi hc hcu
       have d15 : done 15 = true := done_of (j := 15) hcu rfl (by decide) rfl
       exact draw_value (i := 16) (t := 33) (v := (bool false)) rfl rfl (wanted_none rfl) (fun a => (hasA_cons (k := 15) rfl d15 hasA_base)) (ov_move rfl) rfl rfl (onlyT_spec (k0 := 16) rfl rfl rfl)
      ·intro done hi hc hcu
       have d16 : done 16 = true := done_of (j := 16) hcu rfl (by decide) rfl
       exact draw_off (i := 17) (t := 34) rfl rfl (wanted_off rfl rfl rfl rfl) (fun a => (hasA_cons (k := 16) rfl d16 hasA_base)) rfl rfl (onlyT_spec (k0 := 17) rfl rfl rfl)
      ·intro done hi hc hcu
       have d16 : done 16 = true := done_of (j := 16) hcu rfl (by decide) rfl
       exact draw_off (i := 18) (t := 35) rfl rfl (wanted_off rfl rfl rfl rfl) (fun a => (hasA_cons (k := 16) rfl d16 hasA_base)) rfl rfl (onlyT_spec (k0 := 18) rfl rfl rfl)
      ·intro done hi hc hcu
       have d16 : done 16 = true := done_of (j := 16) hcu rfl (by decide) rfl
       have d18 : done 18 = true := done_of (j := 18) hcu rfl (by decide) rfl
       exact draw_value (i := 19) (t := 36) (v := (bool false)) rfl rfl (wanted_none rfl) (fun a => (hasA_cons (k := 18) rfl d18 (hasA_cons (k := 16) rfl d16 hasA_base))) (ov_pick rfl rfl rfl rfl) rfl rfl (onlyT_spec (k0 := 19) rfl rfl rfl)
      ·intro done hi hc hcu
       have d19 : done 19 = true := done_of (j := 19) hcu rfl (by decide) rfl
       exact draw_value (i := 20) (t := 37) (v := (bool false)) rfl rfl (wanted_none rfl) (fun a => (hasA_cons (k := 19) rfl d19 hasA_base)) (ov_move rfl) rfl rfl (onlyT_spec (k0 := 20) rfl rfl rfl)
      ·intro done hi hc hcu
       have d20 : done 20 = true := done_of (j := 20) hcu rfl (by decide) rfl
       exact draw_off (i := 21) (t := 38) rfl rfl (wanted_off rfl rfl rfl rfl) (fun a => (hasA_cons (k := 20) rfl d20 hasA_base)) rfl rfl (onlyT_spec (k0 := 21) rfl rfl rfl)
      ·intro done hi hc hcu
       have d20 : done 20 = true := done_of (j := 20) hcu rfl (by decide) rfl
       exact draw_off (i := 22) (t := 39) rfl rfl (wanted_off rfl rfl rfl rfl) (fun a => (hasA_cons (k := 20) rfl d20 hasA_base)) rfl rfl (onlyT_spec (k0 := 22) rfl rfl rfl)
      ·intro done hi hc hcu
       have d20 : done 20 = true := done_of (j := 20) hcu rfl (by decide) rfl
       exact draw_off (i := 23) (t := 40) rfl rfl (wanted_off rfl rfl rfl rfl) (fun a => (hasA_cons (k := 20) rfl d20 hasA_base)) rfl rfl (onlyT_spec (k0 := 23) rfl rfl rfl)
      ·intro done hi hc hcu
       have d20 : done 20 = true := done_of (j := 20) hcu rfl (by decide) rfl
       have d23 : done 23 = true := done_of (j := 23) hcu rfl (by decide) rfl
       exact draw_value (i := 24) (t := 41) (v := (bool false)) rfl rfl (wanted_none rfl) (fun a => (hasA_cons (k := 23) rfl d23 (hasA_cons (k := 20) rfl d20 hasA_base))) (ov_pick rfl rfl rfl rfl) rfl rfl (onlyT_spec (k0 := 24) rfl rfl rfl)
      ·intro done hi hc hcu
       have d24 : done 24 = true := done_of (j := 24) hcu rfl (by decide) rfl
       exact draw_value (i := 25) (t := 0) (v := (bool false)) rfl rfl (wanted_none rfl) (fun a => (hasA_cons (k := 24) rfl d24 hasA_base)) (ov_assign rfl) rfl rfl (onlyT_spec (k0 := 25) rfl rfl rfl)
     ·intro done hall
      refine draw_endL [(box b2 24 [(int .i64 x7.2.1), (int .i64 x7.2.2.1), (int .i64 x7.2.2.2.1), (int .i64 x7.2.2.2.2.1), (int .i64 x7.2.2.2.2.2.1), (int .i64 x7.2.2.2.2.2.2.1), (int .i64 x7.2.2.2.2.2.2.2.1), (int .i64 x7.2.2.2.2.2.2.2.2.1), (int .i64 x7.2.2.2.2.2.2.2.2.2.1)])] rfl (fun a => (hasA_cons (k := 25) rfl (hall 25 (by decide)) (hasA_cons (k := 0) rfl (hall 0 (by decide)) (hasA_cons (k := 1) rfl (hall 1 (by decide)) (hasA_cons (k := 2) rfl (hall 2 (by decide)) (hasA_cons (k := 3) rfl (hall 3 (by decide)) (hasA_cons (k := 4) rfl (hall 4 (by decide)) (hasA_cons (k := 5) rfl (hall 5 (by decide)) (hasA_cons (k := 6) rfl (hall 6 (by decide)) (hasA_cons (k := 7) rfl (hall 7 (by decide)) (hasA_cons (k := 8) rfl (hall 8 (by decide)) (hasA_cons (k := 9) rfl (hall 9 (by decide)) (hasA_cons (k := 10) rfl (hall 10 (by decide)) (hasA_cons (k := 11) rfl (hall 11 (by decide)) (hasA_cons (k := 12) rfl (hall 12 (by decide)) (hasA_cons (k := 13) rfl (hall 13 (by decide)) (hasA_cons (k := 14) rfl (hall 14 (by decide)) (hasA_cons (k := 15) rfl (hall 15 (by decide)) (hasA_cons (k := 16) rfl (hall 16 (by decide)) (hasA_cons (k := 17) rfl (hall 17 (by decide)) (hasA_cons (k := 18) rfl (hall 18 (by decide)) (hasA_cons (k := 19) rfl (hall 19 (by decide)) (hasA_cons (k := 20) rfl (hall 20 (by decide)) (hasA_cons (k := 21) rfl (hall 21 (by decide)) (hasA_cons (k := 22) rfl (hall 22 (by decide)) (hasA_cons (k := 23) rfl (hall 23 (by decide)) (hasA_cons (k := 24) rfl (hall 24 (by decide)) hasA_base))))))))))))))))))))))))))) ?_
      refine ent_retc ?_
      cases H
      refine ent_pick [] (by decide) rfl ?_
      exact ret_tmp rfl rfl ⟨rfl, rfl⟩
   ·rw [if_neg c9] at H
    cases H
  ·rw [if_neg c8] at H
   refine ent_drawm 26 rfl (fun done a w => StD 42 w0 F [(1, (str x6.1)), (2, (int .i64 x6.2)), (3, (pt b2 0)), (4, (int .i64 x7.1)), (5, (int .i64 x7.2.2.2.2.2.2.2.2.2.2)), (6, (Value.tuple #[(str x6.1), (int .i64 x6.2)])), (7, (agg #[(int .i64 x5.1), (int .i64 x5.2.1), (int .i64 x5.2.2.1), (int .i64 x5.2.2.2.1), (int .i64 x5.2.2.2.2.1), (int .i64 x5.2.2.2.2.2.1), (int .i64 x5.2.2.2.2.2.2.1), (int .i64 x5.2.2.2.2.2.2.2.1), (int .i64 x5.2.2.2.2.2.2.2.2)])), (8, (Value.tuple #[(str x6.1), (int .i64 x6.2)])), (9, (str x6.1)), (10, (int .i64 x6.2)), (11, (Value.tuple #[(agg #[(int .i64 x7.2.1), (int .i64 x7.2.2.1), (int .i64 x7.2.2.2.1), (int .i64 x7.2.2.2.2.1), (int .i64 x7.2.2.2.2.2.1), (int .i64 x7.2.2.2.2.2.2.1), (int .i64 x7.2.2.2.2.2.2.2.1), (int .i64 x7.2.2.2.2.2.2.2.2.1), (int .i64 x7.2.2.2.2.2.2.2.2.2.1)]), (int .i64 x7.1), (int .i64 x7.2.2.2.2.2.2.2.2.2.2)])), (12, (str x6.1)), (13, (Value.tuple #[(agg #[(int .i64 x7.2.1), (int .i64 x7.2.2.1), (int .i64 x7.2.2.2.1), (int .i64 x7.2.2.2.2.1), (int .i64 x7.2.2.2.2.2.1), (int .i64 x7.2.2.2.2.2.2.1), (int .i64 x7.2.2.2.2.2.2.2.1), (int .i64 x7.2.2.2.2.2.2.2.2.1), (int .i64 x7.2.2.2.2.2.2.2.2.2.1)]), (int .i64 x7.1), (int .i64 x7.2.2.2.2.2.2.2.2.2.2)])), (14, (agg #[(int .i64 x7.2.1), (int .i64 x7.2.2.1), (int .i64 x7.2.2.2.1), (int .i64 x7.2.2.2.2.1), (int .i64 x7.2.2.2.2.2.1), (int .i64 x7.2.2.2.2.2.2.1), (int .i64 x7.2.2.2.2.2.2.2.1), (int .i64 x7.2.2.2.2.2.2.2.2.1), (int .i64 x7.2.2.2.2.2.2.2.2.2.1)])), (15, (int .i64 x7.1)), (16, (int .i64 x7.2.2.2.2.2.2.2.2.2.2))] [(0, 17, (int .i64 x6.2)), (1, 18, (bool (x6.2 == 0))), (2, 19, (bool (x6.2 == 0))), (3, 20, (str x6.1)), (4, 21, (int .i64 (x6.1.length : Int))), (5, 22, (bool (decide (11 < (x6.1.length : Int))))), (6, 23, (bool (decide (11 < (x6.1.length : Int))))), (7, 24, (bool (decide (11 < (x6.1.length : Int))))), (8, 25, undef), (9, 26, undef), (10, 27, undef), (11, 28, (bool false)), (12, 29, (bool false)), (13, 30, undef), (14, 31, undef), (15, 32, (bool false)), (16, 33, (bool false)), (17, 34, undef), (18, 35, undef), (19, 36, (bool false)), (20, 37, (bool false)), (21, 38, undef), (22, 39, undef), (23, 40, undef), (24, 41, (bool false)), (25, 0, (bool false))] done [(box b2 24 [(int .i64 x7.2.1), (int .i64 x7.2.2.1), (int .i64 x7.2.2.2.1), (int .i64 x7.2.2.2.2.1), (int .i64 x7.2.2.2.2.2.1), (int .i64 x7.2.2.2.2.2.2.1), (int .i64 x7.2.2.2.2.2.2.2.1), (int .i64 x7.2.2.2.2.2.2.2.2.1), (int .i64 x7.2.2.2.2.2.2.2.2.2.1)])] a w) (by kernel_rfl) (by kernel_rfl) (draw_startL (sub_cons (t := 1) rfl (sub_cons (t := 2) rfl (sub_cons (t := 3) rfl (sub_cons (t := 4) rfl (sub_cons (t := 5) rfl (sub_cons (t := 6) rfl (sub_cons (t := 7) rfl (sub_cons (t := 8) rfl (sub_cons (t := 9) rfl (sub_cons (t := 10) rfl (sub_cons (t := 11) rfl (sub_cons (t := 12) rfl (sub_cons (t := 13) rfl (sub_cons (t := 14) rfl (sub_cons (t := 15) rfl (sub_cons (t := 16) rfl (sub_nil _))))))))))))))))) rfl) ?_ ?_
   ·refine ⟨?_, ?_, ?_, ?_, ?_, ?_, ?_, ?_, ?_, ?_, ?_, ?_, ?_, ?_, ?_, ?_, ?_, ?_, ?_, ?_, ?_, ?_, ?_, ?_, ?_, ?_, trivial⟩
    ·intro done hi hc hcu
     exact draw_value (i := 0) (t := 17) (v := (int .i64 x6.2)) rfl rfl (wanted_none rfl) (fun a => hasA_base) (ov_move rfl) rfl rfl (onlyT_spec (k0 := 0) rfl rfl rfl)
    ·intro done hi hc hcu
     have d0 : done 0 = true := done_of (j := 0) hcu rfl (by decide) rfl
     exact draw_value (i := 1) (t := 18) (v := (bool (x6.2 == 0))) rfl rfl (wanted_none rfl) (fun a => (hasA_cons (k := 0) rfl d0 hasA_base)) (ov_bin rfl rfl (b_eql _ _ _)) rfl rfl (onlyT_spec (k0 := 1) rfl rfl rfl)
    ·intro done hi hc hcu
     have d1 : done 1 = true := done_of (j := 1) hcu rfl (by decide) rfl
     exact draw_value (i := 2) (t := 19) (v := (bool (x6.2 == 0))) rfl rfl (wanted_none rfl) (fun a => (hasA_cons (k := 1) rfl d1 hasA_base)) (ov_move rfl) rfl rfl (onlyT_spec (k0 := 2) rfl rfl rfl)
    ·intro done hi hc hcu
     have d2 : done 2 = true := done_of (j := 2) hcu rfl (by decide) rfl
     exact draw_value (i := 3) (t := 20) (v := (str x6.1)) rfl rfl (wanted_on rfl rfl rfl (eq_t c7)) (fun a => (hasA_cons (k := 2) rfl d2 hasA_base)) (ov_move rfl) rfl rfl (onlyT_spec (k0 := 3) rfl rfl rfl)
    ·intro done hi hc hcu
     have d3 : done 3 = true := done_of (j := 3) hcu rfl (by decide) rfl
     have d2 : done 2 = true := done_of (j := 2) hcu rfl (by decide) rfl
     exact draw_value (i := 4) (t := 21) (v := (int .i64 (x6.1.length : Int))) rfl rfl (wanted_on rfl rfl rfl (eq_t c7)) (fun a => (hasA_cons (k := 2) rfl d2 (hasA_cons (k := 3) rfl d3 hasA_base))) (ov_lenS rfl Try.underlying9) rfl rfl (onlyT_spec (k0 := 4) rfl rfl rfl)
    ·intro done hi hc hcu
     have d4 : done 4 = true := done_of (j := 4) hcu rfl (by decide) rfl
     have d2 : done 2 = true := done_of (j := 2) hcu rfl (by decide) rfl
     exact draw_value (i := 5) (t := 22) (v := (bool (decide (11 < (x6.1.length : Int))))) rfl rfl (wanted_on rfl rfl rfl (eq_t c7)) (fun a => (hasA_cons (k := 2) rfl d2 (hasA_cons (k := 4) rfl d4 hasA_base))) (ov_bin rfl rfl (b_gtr _ _ _)) rfl rfl (onlyT_spec (k0 := 5) rfl rfl rfl)
    ·intro done hi hc hcu
     have d2 : done 2 = true := done_of (j := 2) hcu rfl (by decide) rfl
     have d5 : done 5 = true := done_of (j := 5) hcu rfl (by decide) rfl
     exact draw_value (i := 6) (t := 23) (v := (bool (decide (11 < (x6.1.length : Int))))) rfl rfl (wanted_none rfl) (fun a => (hasA_cons (k := 5) rfl d5 (hasA_cons (k := 2) rfl d2 hasA_base))) (ov_pick rfl rfl rfl (pick_t (eq_t c7))) rfl rfl (onlyT_spec (k0 := 6) rfl rfl rfl)
    ·intro done hi hc hcu
     have d6 : done 6 = true := done_of (j := 6) hcu rfl (by decide) rfl
     exact draw_value (i := 7) (t := 24) (v := (bool (decide (11 < (x6.1.length : Int))))) rfl rfl (wanted_none rfl) (fun a => (hasA_cons (k := 6) rfl d6 hasA_base)) (ov_move rfl) rfl rfl (onlyT_spec (k0 := 7) rfl rfl rfl)
    ·intro done hi hc hcu
     have d7 : done 7 = true := done_of (j := 7) hcu rfl (by decide) rfl
     exact draw_off (i := 8) (t := 25) rfl rfl (wanted_off rfl rfl rfl (decide_eq_false c8)) (fun a => (hasA_cons (k := 7) rfl d7 hasA_base)) rfl rfl (onlyT_spec (k0 := 8) rfl rfl rfl)
    ·intro done hi hc hcu
     have d7 : done 7 = true := done_of (j := 7) hcu rfl (by decide) rfl
     exact draw_off (i := 9) (t := 26) rfl rfl (wanted_off rfl rfl rfl (decide_eq_false c8)) (fun a => (hasA_cons (k := 7) rfl d7 hasA_base)) rfl rfl (onlyT_spec (k0 := 9) rfl rfl rfl)
    ·intro done hi hc hcu
     have d7 : done 7 = true := done_of (j := 7) hcu rfl (by decide) rfl
     exact draw_off (i := 10) (t := 27) rfl rfl (wanted_off rfl rfl rfl (decide_eq_false c8)) (fun a => (hasA_cons (k := 7) rfl d7 hasA_base)) rfl rfl (onlyT_spec (k0 := 10) rfl rfl rfl)
    ·intro done hi hc hcu
     have d7 : done 7 = true := done_of (j := 7) hcu rfl (by decide) rfl
     have d10 : done 10 = true := done_of (j := 10) hcu rfl (by decide) rfl
     exact draw_value (i := 11) (t := 28) (v := (bool false)) rfl rfl (wanted_none rfl) (fun a => (hasA_cons (k := 10) rfl d10 (hasA_cons (k := 7) rfl d7 hasA_base))) (ov_pick rfl rfl rfl (pick_f (decide_eq_false c8))) rfl rfl (onlyT_spec (k0 := 11) rfl rfl rfl)
    ·intro done hi hc hcu
     have d11 : done 11 = true := done_of (j := 11) hcu rfl (by decide) rfl
     exact draw_value (i := 12) (t := 29) (v := (bool false)) rfl rfl (wanted_none rfl) (fun a => (hasA_cons (k := 11) rfl d11 hasA_base)) (ov_move rfl) rfl rfl (onlyT_spec (k0 := 12) rfl rfl rfl)
    ·intro done hi hc hcu
     have d12 : done 12 = true := done_of (j := 12) hcu rfl (by decide) rfl
     exact draw_off (i := 13) (t := 30) rfl rfl (wanted_off rfl rfl rfl rfl) (fun a => (hasA_cons (k := 12) rfl d12 hasA_base)) rfl rfl (onlyT_spec (k0 := 13) rfl rfl rfl)
    ·intro done hi hc hcu
     have d12 : done 12 = true := done_of (j := 12) hcu rfl (by decide) rfl
     exact draw_off (i := 14) (t := 31) rfl rfl (wanted_off rfl rfl rfl rfl) (fun a => (hasA_cons (k := 12) rfl d12 hasA_base)) rfl rfl (onlyT_spec (k0 := 14) rfl rfl rfl)
    ·intro done hi hc hcu
     have d12 : done 12 = true := done_of (j := 12) hcu rfl (by decide) rfl
     have d14 : done 14 = true := done_of (j := 14) hcu rfl (by decide) rfl
     exact draw_value (i := 15) (t := 32) (v := (bool false)) rfl rfl (wanted_none rfl) (fun a => (hasA_cons (k := 14) rfl d14 (hasA_cons (k := 12) rfl d12 hasA_base))) (ov_pick rfl rfl rfl rfl) rfl rfl (onlyT_spec (k0 := 15) rfl rfl rfl)
    ·intro done hi hc hcu
     have d15 : done 15 = true := done_of (j := 15) hcu rfl (by decide) rfl
     exact draw_value (i := 16) (t := 33) (v := (bool false)) rfl rfl (wanted_none rfl) (fun a => (hasA_cons (k := 15) rfl d15 hasA_base)) (ov_move rfl) rfl rfl (onlyT_spec (k0 := 16) rfl rfl rfl)
    ·intro done hi hc hcu
     have d16 : done 16 = true := done_of (j := 16) hcu rfl (by decide) rfl
     exact draw_off (i := 17) (t := 34) rfl rfl (wanted_off rfl rfl rfl rfl) (fun a => (hasA_cons (k := 16) rfl d16 hasA_base)) rfl rfl (onlyT_spec (k0 := 17) rfl rfl rfl)
    ·intro done hi hc hcu
     have d16 : done 16 = true := done_of (j := 16) hcu rfl (by decide) rfl
     exact draw_off (i := 18) (t := 35) rfl rfl (wanted_off rfl rfl rfl rfl) (fun a => (hasA_cons (k := 16) rfl d16 hasA_base)) rfl rfl (onlyT_spec (k0 := 18) rfl rfl rfl)
    ·intro done hi hc hcu
     have d16 : done 16 = true := done_of (j := 16) hcu rfl (by decide) rfl
     have d18 : done 18 = true := done_of (j := 18) hcu rfl (by decide) rfl
     exact draw_value (i := 19) (t := 36) (v := (bool false)) rfl rfl (wanted_none rfl) (fun a => (hasA_cons (k := 18) rfl d18 (hasA_cons (k := 16) rfl d16 hasA_base))) (ov_pick rfl rfl rfl rfl) rfl rfl (onlyT_spec (k0 := 19) rfl rfl rfl)
    ·intro done hi hc hcu
     have d19 : done 19 = true := done_of (j := 19) hcu rfl (by decide) rfl
     exact draw_value (i := 20) (t := 37) (v := (bool false)) rfl rfl (wanted_none rfl) (fun a => (hasA_cons (k := 19) rfl d19 hasA_base)) (ov_move rfl) rfl rfl (onlyT_spec (k0 := 20) rfl rfl rfl)
    ·intro done hi hc hcu
     have d20 : done 20 = true := done_of (j := 20) hcu rfl (by decide) rfl
     exact draw_off (i := 21) (t := 38) rfl rfl (wanted_off rfl rfl rfl rfl) (fun a => (hasA_cons (k := 20) rfl d20 hasA_base)) rfl rfl (onlyT_spec (k0 := 21) rfl rfl rfl)
    ·intro done hi hc hcu
     have d20 : done 20 = true := done_of (j := 20) hcu rfl (by decide) rfl
     exact draw_off (i := 22) (t := 39) rfl rfl (wanted_off rfl rfl rfl rfl) (fun a => (hasA_cons (k := 20) rfl d20 hasA_base)) rfl rfl (onlyT_spec (k0 := 22) rfl rfl rfl)
    ·intro done hi hc hcu
     have d20 : done 20 = true := done_of (j := 20) hcu rfl (by decide) rfl
     exact draw_off (i := 23) (t := 40) rfl rfl (wanted_off rfl rfl rfl rfl) (fun a => (hasA_cons (k := 20) rfl d20 hasA_base)) rfl rfl (onlyT_spec (k0 := 23) rfl rfl rfl)
    ·intro done hi hc hcu
     have d20 : done 20 = true := done_of (j := 20) hcu rfl (by decide) rfl
     have d23 : done 23 = true := done_of (j := 23) hcu rfl (by decide) rfl
     exact draw_value (i := 24) (t := 41) (v := (bool false)) rfl rfl (wanted_none rfl) (fun a => (hasA_cons (k := 23) rfl d23 (hasA_cons (k := 20) rfl d20 hasA_base))) (ov_pick rfl rfl rfl rfl) rfl rfl (onlyT_spec (k0 := 24) rfl rfl rfl)
    ·intro done hi hc hcu
     have d24 : done 24 = true := done_of (j := 24) hcu rfl (by decide) rfl
     exact draw_value (i := 25) (t := 0) (v := (bool false)) rfl rfl (wanted_none rfl) (fun a => (hasA_cons (k := 24) rfl d24 hasA_base)) (ov_assign rfl) rfl rfl (onlyT_spec (k0 := 25) rfl rfl rfl)
   ·intro done hall
    refine draw_endL [(box b2 24 [(int .i64 x7.2.1), (int .i64 x7.2.2.1), (int .i64 x7.2.2.2.1), (int .i64 x7.2.2.2.2.1), (int .i64 x7.2.2.2.2.2.1), (int .i64 x7.2.2.2.2.2.2.1), (int .i64 x7.2.2.2.2.2.2.2.1), (int .i64 x7.2.2.2.2.2.2.2.2.1), (int .i64 x7.2.2.2.2.2.2.2.2.2.1)])] rfl (fun a => (hasA_cons (k := 25) rfl (hall 25 (by decide)) (hasA_cons (k := 0) rfl (hall 0 (by decide)) (hasA_cons (k := 1) rfl (hall 1 (by decide)) (hasA_cons (k := 2) rfl (hall 2 (by decide)) (hasA_cons (k := 3) rfl (hall 3 (by decide)) (hasA_cons (k := 4) rfl (hall 4 (by decide)) (hasA_cons (k := 5) rfl (hall 5 (by decide)) (hasA_cons (k := 6) rfl (hall 6 (by decide)) (hasA_cons (k := 7) rfl (hall 7 (by decide)) (hasA_cons (k := 8) rfl (hall 8 (by decide)) (hasA_cons (k := 9) rfl (hall 9 (by decide)) (hasA_cons (k := 10) rfl (hall 10 (by decide)) (hasA_cons (k := 11) rfl (hall 11 (by decide)) (hasA_cons (k := 12) rfl (hall 12 (by decide)) (hasA_cons (k := 13) rfl (hall 13 (by decide)) (hasA_cons (k := 14) rfl (hall 14 (by decide)) (hasA_cons (k := 15) rfl (hall 15 (by decide)) (hasA_cons (k := 16) rfl (hall 16 (by decide)) (hasA_cons (k := 17) rfl (hall 17 (by decide)) (hasA_cons (k := 18) rfl (hall 18 (by decide)) (hasA_cons (k := 19) rfl (hall 19 (by decide)) (hasA_cons (k := 20) rfl (hall 20 (by decide)) (hasA_cons (k := 21) rfl (hall 21 (by decide)) (hasA_cons (k := 22) rfl (hall 22 (by decide)) (hasA_cons (k := 23) rfl (hall 23 (by decide)) (hasA_cons (k := 24) rfl (hall 24 (by decide)) hasA_base))))))))))))))))))))))))))) ?_
    refine ent_retc ?_
    cases H
    refine ent_pick [] (by decide) rfl ?_
    exact ret_tmp rfl rfl ⟨rfl, rfl⟩
 ·rw [if_neg c7] at H
  refine ent_drawm 26 rfl (fun done a w => StD 42 w0 F [(1, (str x6.1)), (2, (int .i64 x6.2)), (3, (pt b2 0)), (4, (int .i64 x7.1)), (5, (int .i64 x7.2.2.2.2.2.2.2.2.2.2)), (6, (Value.tuple #[(str x6.1), (int .i64 x6.2)])), (7, (agg #[(int .i64 x5.1), (int .i64 x5.2.1), (int .i64 x5.2.2.1), (int .i64 x5.2.2.2.1), (int .i64 x5.2.2.2.2.1), (int .i64 x5.2.2.2.2.2.1), (int .i64 x5.2.2.2.2.2.2.1), (int .i64 x5.2.2.2.2.2.2.2.1), (int .i64 x5.2.2.2.2.2.2.2.2)])), (8, (Value.tuple #[(str x6.1), (int .i64 x6.2)])), (9, (str x6.1)), (10, (int .i64 x6.2)), (11, (Value.tuple #[(agg #[(int .i64 x7.2.1), (int .i64 x7.2.2.1), (int .i64 x7.2.2.2.1), (int .i64 x7.2.2.2.2.1), (int .i64 x7.2.2.2.2.2.1), (int .i64 x7.2.2.2.2.2.2.1), (int .i64 x7.2.2.2.2.2.2.2.1), (int .i64 x7.2.2.2.2.2.2.2.2.1), (int .i64 x7.2.2.2.2.2.2.2.2.2.1)]), (int .i64 x7.1), (int .i64 x7.2.2.2.2.2.2.2.2.2.2)])), (12, (str x6.1)), (13, (Value.tuple #[(agg #[(int .i64 x7.2.1), (int .i64 x7.2.2.1), (int .i64 x7.2.2.2.1), (int .i64 x7.2.2.2.2.1), (int .i64 x7.2.2.2.2.2.1), (int .i64 x7.2.2.2.2.2.2.1), (int .i64 x7.2.2.2.2.2.2.2.1), (int .i64 x7.2.2.2.2.2.2.2.2.1), (int .i64 x7.2.2.2.2.2.2.2.2.2.1)]), (int .i64 x7.1), (int .i64 x7.2.2.2.2.2.2.2.2.2.2)])), (14, (agg #[(int .i64 x7.2.1), (int .i64 x7.2.2.1), (int .i64 x7.2.2.2.1), (int .i64 x7.2.2.2.2.1), (int .i64 x7.2.2.2.2.2.1), (int .i64 x7.2.2.2.2.2.2.1), (int .i64 x7.2.2.2.2.2.2.2.1), (int .i64 x7.2.2.2.2.2.2.2.2.1), (int .i64 x7.2.2.2.2.2.2.2.2.2.1)])), (15, (int .i64 x7.1)), (16, (int .i64 x7.2.2.2.2.2.2.2.2.2.2))] [(0, 17, (int .i64 x6.2)), (1, 18, (bool (x6.2 == 0))), (2, 19, (bool (x6.2 == 0))), (3, 20, undef), (4, 21, undef), (5, 22, undef), (6, 23, (bool false)), (7, 24, (bool false)), (8, 25, undef), (9, 26, undef), (10, 27, undef), (11, 28, (bool false)), (12, 29, (bool false)), (13, 30, undef), (14, 31, undef), (15, 32, (bool false)), (16, 33, (bool false)), (17, 34, undef), (18, 35, undef), (19, 36, (bool false)), (20, 37, (bool false)), (21, 38, undef), (22, 39, undef), (23, 40, undef), (24, 41, (bool false)), (25, 0, (bool false))] done [(box b2 24 [(int .i64 x7.2.1), (int .i64 x7.2.2.1), (int .i64 x7.2.2.2.1), (int .i64 x7.2.2.2.2.1), (int .i64 x7.2.2.2.2.2.1), (int .i64 x7.2.2.2.2.2.2.1), (int .i64 x7.2.2.2.2.2.2.2.1), (int .i64 x7.2.2.2.2.2.2.2.2.1), (int .i64 x7.2.2.2.2.2.2.2.2.2.1)])] a w) (by kernel_rfl) (by kernel_rfl) (draw_startL (sub_cons (t := 1) rfl (sub_cons (t := 2) rfl (sub_cons (t := 3) rfl (sub_cons (t := 4) rfl (sub_cons (t := 5) rfl (sub_cons (t := 6) rfl (sub_cons (t := 7) rfl (sub_cons (t := 8) rfl (sub_cons (t := 9) rfl (sub_cons (t := 10) rfl (sub_cons (t := 11) rfl (sub_cons (t := 12) rfl (sub_cons (t := 13) rfl (sub_cons (t := 14) rfl (sub_cons (t := 15) rfl (sub_cons (t := 16) rfl (sub_nil _))))))))))))))))) rfl) ?_ ?_
  ·refine ⟨?_, ?_, ?_, ?_, ?_, ?_, ?_, ?_, ?_, ?_, ?_, ?_, ?_, ?_, ?_, ?_, ?_, ?_, ?_, ?_, ?_, ?_, ?_, ?_, ?_, ?_, trivial⟩
   ·intro done hi hc hcu
    exact draw_value (i := 0) (t := 17) (v := (int .i64 x6.2)) rfl rfl (wanted_none rfl) (fun a => hasA_base) (ov_move rfl) rfl rfl (onlyT_spec (k0 := 0) rfl rfl rfl)
   ·intro done hi hc hcu
    have d0 : done 0 = true := done_of (j := 0) hcu rfl (by decide) rfl
    exact draw_value (i := 1) (t := 18) (v := (bool (x6.2 == 0))) rfl rfl (wanted_none rfl) (fun a => (hasA_cons (k := 0) rfl d0 hasA_base)) (ov_bin rfl rfl (b_eql _ _ _)) rfl rfl (onlyT_spec (k0 := 1) rfl rfl rfl)
   ·intro done hi hc hcu
    have d1 : done 1 = true := done_of (j := 1) hcu rfl (by decide) rfl
    exact draw_value (i := 2) (t := 19) (v := (bool (x6.2 == 0))) rfl rfl (wanted_none rfl) (fun a => (hasA_cons (k := 1) rfl d1 hasA_base)) (ov_move rfl) rfl rfl (onlyT_spec (k0 := 2) rfl rfl rfl)
   ·intro done hi hc hcu
    have d2 : done 2 = true := done_of (j := 2) hcu rfl (by decide) rfl
    exact draw_off (i := 3) (t := 20) rfl rfl (wanted_off rfl rfl rfl (eq_f c7)) (fun a => (hasA_cons (k := 2) rfl d2 hasA_base)) rfl rfl (onlyT_spec (k0 := 3) rfl rfl rfl)
   ·intro done hi hc hcu
    have d2 : done 2 = true := done_of (j := 2) hcu rfl (by decide) rfl
    exact draw_off (i := 4) (t := 21) rfl rfl (wanted_off rfl rfl rfl (eq_f c7)) (fun a => (hasA_cons (k := 2) rfl d2 hasA_base)) rfl rfl (onlyT_spec (k0 := 4) rfl rfl rfl)
   ·intro done hi hc hcu
    have d2 : done 2 = true := done_of (j := 2) hcu rfl (by decide) rfl
    exact draw_off (i := 5) (t := 22) rfl rfl (wanted_off rfl rfl rfl (eq_f c7)) (fun a => (hasA_cons (k := 2) rfl d2 hasA_base)) rfl rfl (onlyT_spec (k0 := 5) rfl rfl rfl)
   ·intro done hi hc hcu
    have d2 : done 2 = true := done_of (j := 2) hcu rfl (by decide) rfl
    have d5 : done 5 = true := done_of (j := 5) hcu rfl (by decide) rfl
    exact draw_value (i := 6) (t := 23) (v := (bool false)) rfl rfl (wanted_none rfl) (fun a => (hasA_cons (k := 5) rfl d5 (hasA_cons (k := 2) rfl d2 hasA_base))) (ov_pick rfl rfl rfl (pick_f (eq_f c7))) rfl rfl (onlyT_spec (k0 := 6) rfl rfl rfl)
   ·intro done hi hc hcu
    have d6 : done 6 = true := done_of (j := 6) hcu rfl (by decide) rfl
    exact draw_value (i := 7) (t := 24) (v := (bool false)) rfl rfl (wanted_none rfl) (fun a => (hasA_cons (k := 6) rfl d6 hasA_base)) (ov_move rfl) rfl rfl (onlyT_spec (k0 := 7) rfl rfl rfl)
   ·intro done hi hc hcu
    have d7 : done 7 = true := done_of (j := 7) hcu rfl (by decide) rfl
    exact draw_off (i := 8) (t := 25) rfl rfl (wanted_off rfl rfl rfl rfl) (fun a => (hasA_cons (k := 7) rfl d7 hasA_base)) rfl rfl (onlyT_spec (k0 := 8) rfl rfl rfl)
   ·intro done hi hc hcu
    have d7 : done 7 = true := done_of (j := 7) hcu rfl (by decide) rfl
    exact draw_off (i := 9) (t := 26) rfl rfl (wanted_off rfl rfl rfl rfl) (fun a => (hasA_cons (k := 7) rfl d7 hasA_base)) rfl rfl (onlyT_spec (k0 := 9) rfl rfl rfl)
   ·intro done hi hc hcu
    have d7 : done 7 = true := done_of (j := 7) hcu rfl (by decide) rfl
    exact draw_off (i := 10) (t := 27) rfl rfl (wanted_off rfl rfl rfl rfl) (fun a => (hasA_cons (k := 7) rfl d7 hasA_base)) rfl rfl (onlyT_spec (k0 := 10) rfl rfl rfl)
   ·intro done hi hc hcu
    have d7 : done 7 = true := done_of (j := 7) hcu rfl (by decide) rfl
    have d10 : done 10 = true := done_of (j := 10) hcu rfl (by decide) rfl
    exact draw_value (i := 11) (t := 28) (v := (bool false)) rfl rfl (wanted_none rfl) (fun a => (hasA_cons (k := 10) rfl d10 (hasA_cons (k := 7) rfl d7 hasA_base))) (ov_pick rfl rfl rfl rfl) rfl rfl (onlyT_spec (k0 := 11) rfl rfl rfl)
   ·intro done hi hc hcu
    have d11 : done 11 = true := done_of (j := 11) hcu rfl (by decide) rfl
    exact draw_value (i := 12) (t := 29) (v := (bool false)) rfl rfl (wanted_none rfl) (fun a => (hasA_cons (k := 11) rfl d11 hasA_base)) (ov_move rfl) rfl rfl (onlyT_spec (k0 := 12) rfl rfl rfl)
   ·intro done hi hc hcu
    have d12 : done 12 = true := done_of (j := 12) hcu rfl (by decide) rfl
    exact draw_off (i := 13) (t := 30) rfl rfl (wanted_off rfl rfl rfl rfl) (fun a => (hasA_cons (k := 12) rfl d12 hasA_base)) rfl rfl (onlyT_spec (k0 := 13) rfl rfl rfl)
   ·intro done hi hc hcu
    have d12 : done 12 = true := done_of (j := 12) hcu rfl (by decide) rfl
    exact draw_off (i := 14) (t := 31) rfl rfl (wanted_off rfl rfl rfl rfl) (fun a => (hasA_cons (k := 12) rfl d12 hasA_base)) rfl rfl (onlyT_spec (k0 := 14) rfl rfl rfl)
   ·intro done hi hc hcu
    have d12 : done 12 = true := done_of (j := 12) hcu rfl (by decide) rfl
    have d14 : done 14 = true := done_of (j := 14) hcu rfl (by decide) rfl
    exact draw_value (i := 15) (t := 32) (v := (bool false)) rfl rfl (wanted_none rfl) (fun a => (hasA_cons (k := 14) rfl d14 (hasA_cons (k := 12) rfl d12 hasA_base))) (ov_pick rfl rfl rfl rfl) rfl rfl (onlyT_spec (k0 := 15) rfl rfl rfl)
   ·intro done hi hc hcu
    have d15 : done 15 = true := done_of (j := 15) hcu rfl (by decide) rfl
    exact draw_value (i := 16) (t := 33) (v := (bool false)) rfl rfl (wanted_none rfl) (fun a => (hasA_cons (k := 15) rfl d15 hasA_base)) (ov_move rfl) rfl rfl (onlyT_spec (k0 := 16) rfl rfl rfl)
   ·intro done hi hc hcu
    have d16 : done 16 = true := done_of (j := 16) hcu rfl (by decide) rfl
    exact draw_off (i := 17) (t := 34) rfl rfl (wanted_off rfl rfl rfl rfl) (fun a => (hasA_cons (k := 16) rfl d16 hasA_base)) rfl rfl (onlyT_spec (k0 := 17) rfl rfl rfl)
   ·intro done hi hc hcu
    have d16 : done 16 = true := done_of (j := 16) hcu rfl (by decide) rfl
    exact draw_off (i := 18) (t := 35) rfl rfl (wanted_off rfl rfl rfl rfl) (fun a => (hasA_cons (k := 16) rfl d16 hasA_base)) rfl rfl (onlyT_spec (k0 := 18) rfl rfl rfl)
   ·intro done hi hc hcu
    have d16 : done 16 = true := done_of (j := 16) hcu rfl (by decide) rfl
    have d18 : done 18 = true := done_of (j := 18) hcu rfl (by decide) rfl
    exact draw_value (i := 19) (t := 36) (v := (bool false)) rfl rfl (wanted_none rfl) (fun a => (hasA_cons (k := 18) rfl d18 (hasA_cons (k := 16) rfl d16 hasA_base))) (ov_pick rfl rfl rfl rfl) rfl rfl (onlyT_spec (k0 := 19) rfl rfl rfl)
   ·intro done hi hc hcu
    have d19 : done 19 = true := done_of (j := 19) hcu rfl (by decide) rfl
    exact draw_value (i := 20) (t := 37) (v := (bool false)) rfl rfl (wanted_none rfl) (fun a => (hasA_cons (k := 19) rfl d19 hasA_base)) (ov_move rfl) rfl rfl (onlyT_spec (k0 := 20) rfl rfl rfl)
   ·intro done hi hc hcu
    have d20 : done 20 = true := done_of (j := 20) hcu rfl (by decide) rfl
    exact draw_off (i := 21) (t := 38) rfl rfl (wanted_off rfl rfl rfl rfl) (fun a => (hasA_cons (k := 20) rfl d20 hasA_base)) rfl rfl (onlyT_spec (k0 := 21) rfl rfl rfl)
   ·intro done hi hc hcu
    have d20 : done 20 = true := done_of (j := 20) hcu rfl (by decide) rfl
    exact draw_off (i := 22) (t := 39) rfl rfl (wanted_off rfl rfl rfl rfl) (fun a => (hasA_cons (k := 20) rfl d20 hasA_base)) rfl rfl (onlyT_spec (k0 := 22) rfl rfl rfl)
   ·intro done hi hc hcu
    have d20 : done 20 = true := done_of (j := 20) hcu rfl (by decide) rfl
    exact draw_off (i := 23) (t := 40) rfl rfl (wanted_off rfl rfl rfl rfl) (fun a => (hasA_cons (k := 20) rfl d20 hasA_base)) rfl rfl (onlyT_spec (k0 := 23) rfl rfl rfl)
   ·intro done hi hc hcu
    have d20 : done 20 = true := done_of (j := 20) hcu rfl (by decide) rfl
    have d23 : done 23 = true := done_of (j := 23) hcu rfl (by decide) rfl
    exact draw_value (i := 24) (t := 41) (v := (bool false)) rfl rfl (wanted_none rfl) (fun a => (hasA_cons (k := 23) rfl d23 (hasA_cons (k := 20) rfl d20 hasA_base))) (ov_pick rfl rfl rfl rfl) rfl rfl (onlyT_spec (k0 := 24) rfl rfl rfl)
   ·intro done hi hc hcu
    have d24 : done 24 = true := done_of (j := 24) hcu rfl (by decide) rfl
    exact draw_value (i := 25) (t := 0) (v := (bool false)) rfl rfl (wanted_none rfl) (fun a => (hasA_cons (k := 24) rfl d24 hasA_base)) (ov_assign rfl) rfl rfl (onlyT_spec (k0 := 25) rfl rfl rfl)
  ·intro done hall
   refine draw_endL [(box b2 24 [(int .i64 x7.2.1), (int .i64 x7.2.2.1), (int .i64 x7.2.2.2.1), (int .i64 x7.2.2.2.2.1), (int .i64 x7.2.2.2.2.2.1), (int .i64 x7.2.2.2.2.2.2.1), (int .i64 x7.2.2.2.2.2.2.2.1), (int .i64 x7.2.2.2.2.2.2.2.2.1), (int .i64 x7.2.2.2.2.2.2.2.2.2.1)])] rfl (fun a => (hasA_cons (k := 25) rfl (hall 25 (by decide)) (hasA_cons (k := 0) rfl (hall 0 (by decide)) (hasA_cons (k := 1) rfl (hall 1 (by decide)) (hasA_cons (k := 2) rfl (hall 2 (by decide)) (hasA_cons (k := 3) rfl (hall 3 (by decide)) (hasA_cons (k := 4) rfl (hall 4 (by decide)) (hasA_cons (k := 5) rfl (hall 5 (by decide)) (hasA_cons (k := 6) rfl (hall 6 (by decide)) (hasA_cons (k := 7) rfl (hall 7 (by decide)) (hasA_cons (k := 8) rfl (hall 8 (by decide)) (hasA_cons (k := 9) rfl (hall 9 (by decide)) (hasA_cons (k := 10) rfl (hall 10 (by decide)) (hasA_cons (k := 11) rfl (hall 11 (by decide)) (hasA_cons (k := 12) rfl (hall 12 (by decide)) (hasA_cons (k := 13) rfl (hall 13 (by decide)) (hasA_cons (k := 14) rfl (hall 14 (by decide)) (hasA_cons (k := 15) rfl (hall 15 (by decide)) (hasA_cons (k := 16) rfl (hall 16 (by decide)) (hasA_cons (k := 17) rfl (hall 17 (by decide)) (hasA_cons (k := 18) rfl (hall 18 (by decide)) (hasA_cons (k := 19) rfl (hall 19 (by decide)) (hasA_cons (k := 20) rfl (hall 20 (by decide)) (hasA_cons (k := 21) rfl (hall 21 (by decide)) (hasA_cons (k := 22) rfl (hall 22 (by decide)) (hasA_cons (k := 23) rfl (hall 23 (by decide)) (hasA_cons (k := 24) rfl (hall 24 (by decide)) hasA_base))))))))))))))))))))))))))) ?_
   refine ent_retc ?_
   cases H
   refine ent_pick [] (by decide) rfl ?_
   exact ret_tmp rfl rfl ⟨rfl, rfl⟩

theorem ossuarylaw40_SheetStates.spec (K : Nat) (a0_0 : Int) (a0_1 : Int) (a0_2 : Int) (a0_3 : Int) (a0_4 : Int) (a0_5 : Int) (a0_6 : Int) (a0_7 : Int) (a0_8 : Int) (a1_0 : Int) (a1_1 : Int) (a2 : Int) (a3 : Int) (a4 : Int) (r : Bool) (H : ossuarylaw40_SheetStates K a0_0 a0_1 a0_2 a0_3 a0_4 a0_5 a0_6 a0_7 a0_8 a1_0 a1_1 a2 a3 a4 = some r) : FnSpec Try.prog 7 [(agg #[(int .i64 a0_0), (int .i64 a0_1), (int .i64 a0_2), (int .i64 a0_3), (int .i64 a0_4), (int .i64 a0_5), (int .i64 a0_6), (int .i64 a0_7), (int .i64 a0_8)]), (agg #[(int .i64 a1_0), (int .i64 a1_1)]), (int .i64 a2), (int .i64 a3), (int .i64 a4)] [] (fun v M => v = (bool r) ∧ M = []) := by
 unfold ossuarylaw40_SheetStates at H
 refine spec_of Try.func7 rfl 51 rfl (Nat.le_of_ble_eq_true rfl) fun F w0 => ?_
 show Ent (St 51 w0 F [(0, (agg #[(int .i64 a0_0), (int .i64 a0_1), (int .i64 a0_2), (int .i64 a0_3), (int .i64 a0_4), (int .i64 a0_5), (int .i64 a0_6), (int .i64 a0_7), (int .i64 a0_8)])), (1, (agg #[(int .i64 a1_0), (int .i64 a1_1)])), (2, (int .i64 a2)), (3, (int .i64 a3)), (4, (int .i64 a4))] []) _
 refine ent_seq ?_
 refine ent_region ?_
 refine ent_op (ot_box (cs := [(int .i64 a0_0), (int .i64 a0_1), (int .i64 a0_2), (int .i64 a0_3), (int .i64 a0_4), (int .i64 a0_5), (int .i64 a0_6), (int .i64 a0_7), (int .i64 a0_8)]) rfl rfl) rfl rfl rfl ?_
 rintro _ _ ⟨b5, rfl, rfl⟩
 refine ent_op (ot_box (cs := [(int .i64 a1_0), (int .i64 a1_1)]) rfl rfl) rfl rfl rfl ?_
 rintro _ _ ⟨b6, rfl, rfl⟩
 refine ent_value (ov_assign rfl) rfl rfl rfl ?_
 refine ent_nil ?_
 refine ent_seq ?_
 refine ent_region ?_
 refine ent_value (ov_load_agg (vs := [(int .i64 a0_0), (int .i64 a0_1), (int .i64 a0_2), (int .i64 a0_3), (int .i64 a0_4), (int .i64 a0_5), (int .i64 a0_6), (int .i64 a0_7), (int .i64 a0_8)]) rfl F_agg_24 F_size_24 (reads_boxW (i := 1) rfl)) rfl rfl rfl ?_
 refine ent_value (ov_move rfl) rfl rfl rfl ?_
 obtain ⟨x6, h6, H⟩ := Option.bind_eq_some_iff.1 H
 refine ent_op (ot_call0 (first := []) (cap := []) (xs := [.tmp 16, .tmp 17]) rfl rfl F_call_22 rfl (sheet_Dates.spec a0_0 a0_1 a0_2 a0_3 a0_4 a0_5 a0_6 a0_7 a0_8 a4 _ h6)) rfl rfl rfl ?_
 rintro _ _ ⟨rfl, rfl⟩
 refine ent_value (ov_move rfl) rfl rfl rfl ?_
 refine ent_value (ov_extract rfl rfl) rfl rfl rfl ?_
 refine ent_value (ov_extract rfl rfl) rfl rfl rfl ?_
 refine ent_op (ot_alloc F_zero_44) rfl rfl rfl ?_
 rintro _ _ ⟨b7, rfl, rfl⟩
 refine ent_op0 (ot_storeG (cs := [(int .i64 0), (int .i64 0), (int .i64 0), (int .i64 0), (int .i64 0)]) (cs' := [(int .i64 x6.1), (int .i64 x6.2.1), (int .i64 x6.2.2.1), (int .i64 x6.2.2.2.1), (int .i64 x6.2.2.2.2.1)]) (us := [(int .i64 x6.1), (int .i64 x6.2.1), (int .i64 x6.2.2.1), (int .i64 x6.2.2.2.1), (int .i64 x6.2.2.2.2.1)]) (L' := [(box b7 44 [(int .i64 x6.1), (int .i64 x6.2.1), (int .i64 x6.2.2.1), (int .i64 x6.2.2.2.1), (int .i64 x6.2.2.2.2.1)]), (box b6 40 [(int .i64 a1_0), (int .i64 a1_1)]), (box b5 24 [(int .i64 a0_0), (int .i64 a0_1), (int .i64 a0_2), (int .i64 a0_3), (int .i64 a0_4), (int .i64 a0_5), (int .i64 a0_6), (int .i64 a0_7), (int .i64 a0_8)])]) 0 rfl rfl rfl (one_all rfl) F_size_44 rfl rfl (by simp) rfl) rfl rfl ?_
 rintro _ _ rfl
 refine ent_value (ov_assign rfl) rfl rfl rfl ?_
 refine ent_nil ?_
 refine ent_seq ?_
 refine ent_region ?_
 refine ent_value (ov_load_agg (vs := [(int .i64 a0_0), (int .i64 a0_1), (int .i64 a0_2), (int .i64 a0_3), (int .i64 a0_4), (int .i64 a0_5), (int .i64 a0_6), (int .i64 a0_7), (int .i64 a0_8)]) rfl F_agg_24 F_size_24 (reads_boxW (i := 2) rfl)) rfl rfl rfl ?_
 refine ent_value (ov_move rfl) rfl rfl rfl ?_
 obtain ⟨x7, h7, H⟩ := Option.bind_eq_some_iff.1 H
 refine ent_op (ot_call0 (first := []) (cap := []) (xs := [.tmp 22, .tmp 23]) rfl rfl F_call_23 rfl (ossuaryref40_Dates.spec K a0_0 a0_1 a0_2 a0_3 a0_4 a0_5 a0_6 a0_7 a0_8 a4 _ h7)) rfl rfl rfl ?_
 rintro _ _ ⟨rfl, rfl⟩
 refine ent_value (ov_move rfl) rfl rfl rfl ?_
 refine ent_value (ov_extract rfl rfl) rfl rfl rfl ?_
 refine ent_value (ov_extract rfl rfl) rfl rfl rfl ?_
 refine ent_op (ot_alloc F_zero_44) rfl rfl rfl ?_
 rintro _ _ ⟨b8, rfl, rfl⟩
 refine ent_op0 (ot_storeG (cs := [(int .i64 0), (int .i64 0), (int .i64 0), (int .i64 0), (int .i64 0)]) (cs' := [(int .i64 x7.1), (int .i64 x7.2.1), (int .i64 x7.2.2.1), (int .i64 x7.2.2.2.1), (int .i64 x7.2.2.2.2.1)]) (us := [(int .i64 x7.1), (int .i64 x7.2.1), (int .i64 x7.2.2.1), (int .i64 x7.2.2.2.1), (int .i64 x7.2.2.2.2.1)]) (L' := [(box b8 44 [(int .i64 x7.1), (int .i64 x7.2.1), (int .i64 x7.2.2.1), (int .i64 x7.2.2.2.1), (int .i64 x7.2.2.2.2.1)]), (box b7 44 [(int .i64 x6.1), (int .i64 x6.2.1), (int .i64 x6.2.2.1), (int .i64 x6.2.2.2.1), (int .i64 x6.2.2.2.2.1)]), (box b6 40 [(int .i64 a1_0), (int .i64 a1_1)]), (box b5 24 [(int .i64 a0_0), (int .i64 a0_1), (int .i64 a0_2), (int .i64 a0_3), (int .i64 a0_4), (int .i64 a0_5), (int .i64 a0_6), (int .i64 a0_7), (int .i64 a0_8)])]) 0 rfl rfl rfl (one_all rfl) F_size_44 rfl rfl (by simp) rfl) rfl rfl ?_
 rintro _ _ rfl
 refine ent_value (ov_assign rfl) rfl rfl rfl ?_
 refine ent_nil ?_
 refine ent_seq ?_
 obtain ⟨x8, h8, H⟩ := Option.bind_eq_some_iff.1 H
 obtain ⟨x9, h9, H⟩ := Option.bind_eq_some_iff.1 H
 by_cases c4 : x8 = x9
 ·rw [if_pos c4] at H
  by_cases c5 : (([x6.1, x6.2.1, x6.2.2.1, x6.2.2.2.1, x6.2.2.2.2.1] : List Int) == ([x7.1, x7.2.1, x7.2.2.1, x7.2.2.2.1, x7.2.2.2.2.1] : List Int)) = true
  ·rw [if_pos c5] at H
   by_cases c6 : (x6.2.2.2.2.2 == x7.2.2.2.2.2) = true
   ·rw [if_pos c6] at H
    obtain ⟨x10, h10, H⟩ := Option.bind_eq_some_iff.1 H
    refine ent_drawm 25 rfl (fun done a w => StD 51 w0 F [(0, (agg #[(int .i64 a0_0), (int .i64 a0_1), (int .i64 a0_2), (int .i64 a0_3), (int .i64 a0_4), (int .i64 a0_5), (int .i64 a0_6), (int .i64 a0_7), (int .i64 a0_8)])), (1, (agg #[(int .i64 a1_0), (int .i64 a1_1)])), (2, (int .i64 a2)), (3, (int .i64 a3)), (4, (int .i64 a4)), (5, (pt b5 0)), (6, (pt b6 0)), (11, (pt b7 0)), (12, (bool x6.2.2.2.2.2)), (13, (pt b8 0)), (14, (bool x7.2.2.2.2.2)), (15, (Value.tuple #[(agg #[(int .i64 x6.1), (int .i64 x6.2.1), (int .i64 x6.2.2.1), (int .i64 x6.2.2.2.1), (int .i64 x6.2.2.2.2.1)]), (bool x6.2.2.2.2.2)])), (16, (agg #[(int .i64 a0_0), (int .i64 a0_1), (int .i64 a0_2), (int .i64 a0_3), (int .i64 a0_4), (int .i64 a0_5), (int .i64 a0_6), (int .i64 a0_7), (int .i64 a0_8)])), (17, (int .i64 a4)), (18, (Value.tuple #[(agg #[(int .i64 x6.1), (int .i64 x6.2.1), (int .i64 x6.2.2.1), (int .i64 x6.2.2.2.1), (int .i64 x6.2.2.2.2.1)]), (bool x6.2.2.2.2.2)])), (19, (agg #[(int .i64 x6.1), (int .i64 x6.2.1), (int .i64 x6.2.2.1), (int .i64 x6.2.2.2.1), (int .i64 x6.2.2.2.2.1)])), (20, (bool x6.2.2.2.2.2)), (21, (Value.tuple #[(agg #[(int .i64 x7.1), (int .i64 x7.2.1), (int .i64 x7.2.2.1), (int .i64 x7.2.2.2.1), (int .i64 x7.2.2.2.2.1)]), (bool x7.2.2.2.2.2)])), (22, (agg #[(int .i64 a0_0), (int .i64 a0_1), (int .i64 a0_2), (int .i64 a0_3), (int .i64 a0_4), (int .i64 a0_5), (int .i64 a0_6), (int .i64 a0_7), (int .i64 a0_8)])), (23, (int .i64 a4)), (24, (Value.tuple #[(agg #[(int .i64 x7.1), (int .i64 x7.2.1), (int .i64 x7.2.2.1), (int .i64 x7.2.2.2.1), (int .i64 x7.2.2.2.2.1)]), (bool x7.2.2.2.2.2)])), (25, (agg #[(int .i64 x7.1), (int .i64 x7.2.1), (int .i64 x7.2.2.1), (int .i64 x7.2.2.2.1), (int .i64 x7.2.2.2.2.1)])), (26, (bool x7.2.2.2.2.2))] [(0, 27, (agg #[(int .i64 a0_0), (int .i64 a0_1), (int .i64 a0_2), (int .i64 a0_3), (int .i64 a0_4), (int .i64 a0_5), (int .i64 a0_6), (int .i64 a0_7), (int .i64 a0_8)])), (1, 28, (agg #[(int .i64 a1_0), (int .i64 a1_1)])), (2, 29, (int .i64 a2)), (3, 30, (int .i64 a3)), (4, 31, (str x8)), (5, 32, (agg #[(int .i64 a0_0), (int .i64 a0_1), (int .i64 a0_2), (int .i64 a0_3), (int .i64 a0_4), (int .i64 a0_5), (int .i64 a0_6), (int .i64 a0_7), (int .i64 a0_8)])), (6, 33, (agg #[(int .i64 a1_0), (int .i64 a1_1)])), (7, 34, (int .i64 a2)), (8, 35, (int .i64 a3)), (9, 36, (str x9)), (10, 37, (bool (x8 == x9))), (11, 38, (bool (x8 == x9))), (12, 39, (agg #[(int .i64 x6.1), (int .i64 x6.2.1), (int .i64 x6.2.2.1), (int .i64 x6.2.2.2.1), (int .i64 x6.2.2.2.2.1)])), (13, 40, (agg #[(int .i64 x7.1), (int .i64 x7.2.1), (int .i64 x7.2.2.1), (int .i64 x7.2.2.2.1), (int .i64 x7.2.2.2.2.1)])), (14, 41, (bool (([x6.1, x6.2.1, x6.2.2.1, x6.2.2.2.1, x6.2.2.2.2.1] : List Int) == ([x7.1, x7.2.1, x7.2.2.1, x7.2.2.2.1, x7.2.2.2.2.1] : List Int)))), (15, 42, (bool (([x6.1, x6.2.1, x6.2.2.1, x6.2.2.2.1, x6.2.2.2.2.1] : List Int) == ([x7.1, x7.2.1, x7.2.2.1, x7.2.2.2.1, x7.2.2.2.2.1] : List Int)))), (16, 43, (bool (([x6.1, x6.2.1, x6.2.2.1, x6.2.2.2.1, x6.2.2.2.2.1] : List Int) == ([x7.1, x7.2.1, x7.2.2.1, x7.2.2.2.1, x7.2.2.2.2.1] : List Int)))), (17, 44, (bool x6.2.2.2.2.2)), (18, 45, (bool x7.2.2.2.2.2)), (19, 46, (bool (x6.2.2.2.2.2 == x7.2.2.2.2.2))), (20, 47, (bool (x6.2.2.2.2.2 == x7.2.2.2.2.2))), (21, 48, (bool (x6.2.2.2.2.2 == x7.2.2.2.2.2))), (22, 49, (bool x10)), (23, 50, (bool x10)), (24, 10, (bool x10))] done [(box b8 44 [(int .i64 x7.1), (int .i64 x7.2.1), (int .i64 x7.2.2.1), (int .i64 x7.2.2.2.1), (int .i64 x7.2.2.2.2.1)]), (box b7 44 [(int .i64 x6.1), (int .i64 x6.2.1), (int .i64 x6.2.2.1), (int .i64 x6.2.2.2.1), (int .i64 x6.2.2.2.2.1)]), (box b6 40 [(int .i64 a1_0), (int .i64 a1_1)]), (box b5 24 [(int .i64 a0_0), (int .i64 a0_1), (int .i64 a0_2), (int .i64 a0_3), (int .i64 a0_4), (int .i64 a0_5), (int .i64 a0_6), (int .i64 a0_7), (int .i64 a0_8)])] a w) (by kernel_rfl) (by kernel_rfl) (draw_startL (sub_cons (t := 0) rfl (sub_cons (t := 1) rfl (sub_cons (t := 2) rfl (sub_cons (t := 3) rfl (sub_cons (t := 4) rfl (sub_cons (t := 5) rfl (sub_cons (t := 6) rfl (sub_cons (t := 11) rfl (sub_cons (t := 12) rfl (sub_cons (t := 13) rfl (sub_cons (t := 14) rfl (sub_cons (t := 15) rfl (sub_cons (t := 16) rfl (sub_cons (t := 17) rfl (sub_cons (t := 18) rfl (sub_cons (t := 19) rfl (sub_cons (t := 20) rfl (sub_cons (t := 21) rfl (sub_cons (t := 22) rfl (sub_cons (t := 23) rfl (sub_cons (t := 24) rfl (sub_cons (t := 25) rfl (sub_cons (t := 26) rfl (sub_nil _)))))))))))))))))))))))) rfl) ?_ ?_
    ·refine ⟨?_, ?_, ?_, ?_, ?_, ?_, ?_, ?_, ?_, ?_, ?_, ?_, ?_, ?_, ?_, ?_, ?_, ?_, ?_, ?_, ?_, ?_, ?_, ?_, ?_, trivial⟩
     ·intro done hi hc hcu
      exact draw_value (i := 0) (t := 27) (v := (agg #[(int .i64 a0_0), (int .i64 a0_1), (int .i64 a0_2), (int .i64 a0_3), (int .i64 a0_4), (int .i64 a0_5), (int .i64 a0_6), (int .i64 a0_7), (int .i64 a0_8)])) rfl rfl (wanted_none rfl) (fun a => hasA_base) (ov_load_agg (vs := [(int .i64 a0_0), (int .i64 a0_1), (int .i64 a0_2), (int .i64 a0_3), (int .i64 a0_4), (int .i64 a0_5), (int .i64 a0_6), (int .i64 a0_7), (int .i64 a0_8)]) rfl F_agg_24 F_size_24 (reads_boxW (i := 3) rfl)) rfl rfl (onlyT_spec (k0 := 0) rfl rfl rfl)
     ·intro done hi hc hcu
      exact draw_value (i := 1) (t := 28) (v := (agg #[(int .i64 a1_0), (int .i64 a1_1)])) rfl rfl (wanted_none rfl) (fun a => hasA_base) (ov_load_agg (vs := [(int .i64 a1_0), (int .i64 a1_1)]) rfl F_agg_40 F_size_40 (reads_boxW (i := 2) rfl)) rfl rfl (onlyT_spec (k0 := 1) rfl rfl rfl)
     ·intro done hi hc hcu
      exact draw_value (i := 2) (t := 29) (v := (int .i64 a2)) rfl rfl (wanted_none rfl) (fun a => hasA_base) (ov_move rfl) rfl rfl (onlyT_spec (k0 := 2) rfl rfl rfl)
     ·intro done hi hc hcu
      exact draw_value (i := 3) (t := 30) (v := (int .i64 a3)) rfl rfl (wanted_none rfl) (fun a => hasA_base) (ov_move rfl) rfl rfl (onlyT_spec (k0 := 3) rfl rfl rfl)
     ·intro done hi hc hcu
      have d0 : done 0 = true := done_of (j := 0) hcu rfl (by decide) rfl
      have d1 : done 1 = true := done_of (j := 1) hcu rfl (by decide) rfl
      have d2 : done 2 = true := done_of (j := 2) hcu rfl (by decide) rfl
      have d3 : done 3 = true := done_of (j := 3) hcu rfl (by decide) rfl
      exact draw_same (i := 4) (t := 31) (v := (str x8)) rfl rfl (wanted_none rfl) (fun a => (hasA_cons (k := 3) rfl d3 (hasA_cons (k := 2) rfl d2 (hasA_cons (k := 1) rfl d1 (hasA_cons (k := 0) rfl d0 hasA_base))))) (ot_call0 (first := []) (cap := []) (xs := [.tmp 27, .tmp 28, .tmp 29, .tmp 30]) rfl rfl F_call_20 rfl (sheet_State.spec a0_0 a0_1 a0_2 a0_3 a0_4 a0_5 a0_6 a0_7 a0_8 a1_0 a1_1 a2 a3 _ h8)) rfl rfl (onlyT_spec (k0 := 4) rfl rfl rfl)
     ·intro done hi hc hcu
      exact draw_value (i := 5) (t := 32) (v := (agg #[(int .i64 a0_0), (int .i64 a0_1), (int .i64 a0_2), (int .i64 a0_3), (int .i64 a0_4), (int .i64 a0_5), (int .i64 a0_6), (int .i64 a0_7), (int .i64 a0_8)])) rfl rfl (wanted_none rfl) (fun a => hasA_base) (ov_load_agg (vs := [(int .i64 a0_0), (int .i64 a0_1), (int .i64 a0_2), (int .i64 a0_3), (int .i64 a0_4), (int .i64 a0_5), (int .i64 a0_6), (int .i64 a0_7), (int .i64 a0_8)]) rfl F_agg_24 F_size_24 (reads_boxW (i := 3) rfl)) rfl rfl (onlyT_spec (k0 := 5) rfl rfl rfl)
     ·intro done hi hc hcu
      exact draw_value (i := 6) (t := 33) (v := (agg #[(int .i64 a1_0), (int .i64 a1_1)])) rfl rfl (wanted_none rfl) (fun a => hasA_base) (ov_load_agg (vs := [(int .i64 a1_0), (int .i64 a1_1)]) rfl F_agg_40 F_size_40 (reads_boxW (i := 2) rfl)) rfl rfl (onlyT_spec (k0 := 6) rfl rfl rfl)
     ·intro done hi hc hcu
      exact draw_value (i := 7) (t := 34) (v := (int .i64 a2)) rfl rfl (wanted_none rfl) (fun a => hasA_base) (ov_move rfl) rfl rfl (onlyT_spec (k0 := 7) rfl rfl rfl)
     ·intro done hi hc hcu
      exact draw_value (i := 8) (t := 35) (v := (int .i64 a3)) rfl rfl (wanted_none rfl) (fun a => hasA_base) (ov_move rfl) rfl rfl (onlyT_spec (k0 := 8) rfl rfl rfl)
     ·intro done hi hc hcu
      have d5 : done 5 = true := done_of (j := 5) hcu rfl (by decide) rfl
      have d6 : done 6 = true := done_of (j := 6) hcu rfl (by decide) rfl
      have d7 : done 7 = true := done_of (j := 7) hcu rfl (by decide) rfl
      have d8 : done 8 = true := done_of (j := 8) hcu rfl (by decide) rfl
      exact draw_same (i := 9) (t := 36) (v := (str x9)) rfl rfl (wanted_none rfl) (fun a => (hasA_cons (k := 8) rfl d8 (hasA_cons (k := 7) rfl d7 (hasA_cons (k := 6) rfl d6 (hasA_cons (k := 5) rfl d5 hasA_base))))) (ot_call0 (first := []) (cap := []) (xs := [.tmp 32, .tmp 33, .tmp 34, .tmp 35]) rfl rfl F_call_24 rfl (ossuaryref40_State.spec K a0_0 a0_1 a0_2 a0_3 a0_4 a0_5 a0_6 a0_7 a0_8 a1_0 a1_1 a2 a3 _ h9)) rfl rfl (onlyT_spec (k0 := 9) rfl rfl rfl)
     ·intro done hi hc hcu
      have d4 : done 4 = true := done_of (j := 4) hcu rfl (by decide) rfl
      have d9 : done 9 = true := done_of (j := 9) hcu rfl (by decide) rfl
      exact draw_value (i := 10) (t := 37) (v := (bool (x8 == x9))) rfl rfl (wanted_none rfl) (fun a => (hasA_cons (k := 9) rfl d9 (hasA_cons (k := 4) rfl d4 hasA_base))) (ov_bin rfl rfl (b_eql_str _ _)) rfl rfl (onlyT_spec (k0 := 10) rfl rfl rfl)
     ·intro done hi hc hcu
      have d10 : done 10 = true := done_of (j := 10) hcu rfl (by decide) rfl
      exact draw_value (i := 11) (t := 38) (v := (bool (x8 == x9))) rfl rfl (wanted_none rfl) (fun a => (hasA_cons (k := 10) rfl d10 hasA_base)) (ov_move rfl) rfl rfl (onlyT_spec (k0 := 11) rfl rfl rfl)
     ·intro done hi hc hcu
      have d11 : done 11 = true := done_of (j := 11) hcu rfl (by decide) rfl
      exact draw_value (i := 12) (t := 39) (v := (agg #[(int .i64 x6.1), (int .i64 x6.2.1), (int .i64 x6.2.2.1), (int .i64 x6.2.2.2.1), (int .i64 x6.2.2.2.2.1)])) rfl rfl (wanted_on rfl rfl rfl (eq_t c4)) (fun a => (hasA_cons (k := 11) rfl d11 hasA_base)) (ov_load_agg (vs := [(int .i64 x6.1), (int .i64 x6.2.1), (int .i64 x6.2.2.1), (int .i64 x6.2.2.2.1), (int .i64 x6.2.2.2.2.1)]) rfl F_agg_44 F_size_44 (reads_boxW (i := 1) rfl)) rfl rfl (onlyT_spec (k0 := 12) rfl rfl rfl)
     ·intro done hi hc hcu
      have d11 : done 11 = true := done_of (j := 11) hcu rfl (by decide) rfl
      exact draw_value (i := 13) (t := 40) (v := (agg #[(int .i64 x7.1), (int .i64 x7.2.1), (int .i64 x7.2.2.1), (int .i64 x7.2.2.2.1), (int .i64 x7.2.2.2.2.1)])) rfl rfl (wanted_on rfl rfl rfl (eq_t c4)) (fun a => (hasA_cons (k := 11) rfl d11 hasA_base)) (ov_load_agg (vs := [(int .i64 x7.1), (int .i64 x7.2.1), (int .i64 x7.2.2.1), (int .i64 x7.2.2.2.1), (int .i64 x7.2.2.2.2.1)]) rfl F_agg_44 F_size_44 (reads_boxW (i := 0) rfl)) rfl rfl (onlyT_spec (k0 := 13) rfl rfl rfl)
     ·intro done hi hc hcu
      have d12 : done 12 = true := done_of (j := 12) hcu rfl (by decide) rfl
      have d13 : done 13 = true := done_of (j := 13) hcu rfl (by decide) rfl
      have d11 : done 11 = true := done_of (j := 11) hcu rfl (by decide) rfl
      exact draw_value (i := 14) (t := 41) (v := (bool (([x6.1, x6.2.1, x6.2.2.1, x6.2.2.2.1, x6.2.2.2.2.1] : List Int) == ([x7.1, x7.2.1, x7.2.2.1, x7.2.2.2.1, x7.2.2.2.2.1] : List Int)))) rfl rfl (wanted_on rfl rfl rfl (eq_t c4)) (fun a => (hasA_cons (k := 11) rfl d11 (hasA_cons (k := 13) rfl d13 (hasA_cons (k := 12) rfl d12 hasA_base)))) (ov_bin rfl rfl (b_eql_of (fun w => eqg_arrF F_guard_44 w) rfl (eq_arrI F_array_44 F_size_2 F_agg_2 Try.underlying2 [x6.1, x6.2.1, x6.2.2.1, x6.2.2.2.1, x6.2.2.2.2.1] [x7.1, x7.2.1, x7.2.2.1, x7.2.2.2.1, x7.2.2.2.2.1] rfl rfl))) rfl rfl (onlyT_spec (k0 := 14) rfl rfl rfl)
     ·intro done hi hc hcu
      have d11 : done 11 = true := done_of (j := 11) hcu rfl (by decide) rfl
      have d14 : done 14 = true := done_of (j := 14) hcu rfl (by decide) rfl
      exact draw_value (i := 15) (t := 42) (v := (bool (([x6.1, x6.2.1, x6.2.2.1, x6.2.2.2.1, x6.2.2.2.2.1] : List Int) == ([x7.1, x7.2.1, x7.2.2.1, x7.2.2.2.1, x7.2.2.2.2.1] : List Int)))) rfl rfl (wanted_none rfl) (fun a => (hasA_cons (k := 14) rfl d14 (hasA_cons (k := 11) rfl d11 hasA_base))) (ov_pick rfl rfl rfl (pick_t (eq_t c4))) rfl rfl (onlyT_spec (k0 := 15) rfl rfl rfl)
     ·intro done hi hc hcu
      have d15 : done 15 = true := done_of (j := 15) hcu rfl (by decide) rfl
      exact draw_value (i := 16) (t := 43) (v := (bool (([x6.1, x6.2.1, x6.2.2.1, x6.2.2.2.1, x6.2.2.2.2.1] : List Int) == ([x7.1, x7.2.1, x7.2.2.1, x7.2.2.2.1, x7.2.2.2.2.1] : List Int)))) rfl rfl (wanted_none rfl) (fun a => (hasA_cons (k := 15) rfl d15 hasA_base)) (ov_move rfl) rfl rfl (onlyT_spec (k0 := 16) rfl rfl rfl)
     ·intro done hi hc hcu
      have d16 : done 16 = true := done_of (j := 16) hcu rfl (by decide) rfl
      exact draw_value (i := 17) (t := 44) (v := (bool x6.2.2.2.2.2)) rfl rfl (wanted_on rfl rfl rfl c5) (fun a => (hasA_cons (k := 16) rfl d16 hasA_base)) (ov_move rfl) rfl rfl (onlyT_spec (k0 := 17) rfl rfl rfl)
     ·intro done hi hc hcu
      have d16 : done 16 = true := done_of (j := 16) hcu rfl (by decide) rfl
      exact draw_value (i := 18) (t := 45) (v := (bool x7.2.2.2.2.2)) rfl rfl (wanted_on rfl rfl rfl c5) (fun a => (hasA_cons (k := 16) rfl d16 hasA_base)) (ov_move rfl) rfl rfl (onlyT_spec (k0 := 18) rfl rfl rfl)
     ·intro done hi hc hcu
      have d17 : done 17 = true := done_of (j := 17) hcu rfl (by decide) rfl
      have d18 : done 18 = true := done_of (j := 18) hcu rfl (by decide) rfl
      have d16 : done 16 = true := done_of (j := 16) hcu rfl (by decide) rfl
      exact draw_value (i := 19) (t := 46) (v := (bool (x6.2.2.2.2.2 == x7.2.2.2.2.2))) rfl rfl (wanted_on rfl rfl rfl c5) (fun a => (hasA_cons (k := 16) rfl d16 (hasA_cons (k := 18) rfl d18 (hasA_cons (k := 17) rfl d17 hasA_base)))) (ov_bin rfl rfl (b_eql_bool Try.underlying4 _ _)) rfl rfl (onlyT_spec (k0 := 19) rfl rfl rfl)
     ·intro done hi hc hcu
      have d16 : done 16 = true := done_of (j := 16) hcu rfl (by decide) rfl
      have d19 : done 19 = true := done_of (j := 19) hcu rfl (by decide) rfl
      exact draw_value (i := 20) (t := 47) (v := (bool (x6.2.2.2.2.2 == x7.2.2.2.2.2))) rfl rfl (wanted_none rfl) (fun a => (hasA_cons (k := 19) rfl d19 (hasA_cons (k := 16) rfl d16 hasA_base))) (ov_pick rfl rfl rfl (pick_t c5)) rfl rfl (onlyT_spec (k0 := 20) rfl rfl rfl)
     ·intro done hi hc hcu
      have d20 : done 20 = true := done_of (j := 20) hcu rfl (by decide) rfl
      exact draw_value (i := 21) (t := 48) (v := (bool (x6.2.2.2.2.2 == x7.2.2.2.2.2))) rfl rfl (wanted_none rfl) (fun a => (hasA_cons (k := 20) rfl d20 hasA_base)) (ov_move rfl) rfl rfl (onlyT_spec (k0 := 21) rfl rfl rfl)
     ·intro done hi hc hcu
      have d21 : done 21 = true := done_of (j := 21) hcu rfl (by decide) rfl
      exact draw_same (i := 22) (t := 49) (v := (bool x10)) rfl rfl (wanted_on rfl rfl rfl c6) (fun a => (hasA_cons (k := 21) rfl d21 hasA_base)) (ot_call0 (first := []) (cap := []) (xs := []) rfl rfl F_call_8 rfl (ossuarylaw40_alive.spec K _ h10)) rfl rfl (onlyT_spec (k0 := 22) rfl rfl rfl)
     ·intro done hi hc hcu
      have d21 : done 21 = true := done_of (j := 21) hcu rfl (by decide) rfl
      have d22 : done 22 = true := done_of (j := 22) hcu rfl (by decide) rfl
      exact draw_value (i := 23) (t := 50) (v := (bool x10)) rfl rfl (wanted_none rfl) (fun a => (hasA_cons (k := 22) rfl d22 (hasA_cons (k := 21) rfl d21 hasA_base))) (ov_pick rfl rfl rfl (pick_t c6)) rfl rfl (onlyT_spec (k0 := 23) rfl rfl rfl)
     ·intro done hi hc hcu
      have d23 : done 23 = true := done_of (j := 23) hcu rfl (by decide) rfl
      exact draw_value (i := 24) (t := 10) (v := (bool x10)) rfl rfl (wanted_none rfl) (fun a => (hasA_cons (k := 23) rfl d23 hasA_base)) (ov_assign rfl) rfl rfl (onlyT_spec (k0 := 24) rfl rfl rfl)
    ·intro done hall
     refine draw_endL [(box b8 44 [(int .i64 x7.1), (int .i64 x7.2.1), (int .i64 x7.2.2.1), (int .i64 x7.2.2.2.1), (int .i64 x7.2.2.2.2.1)]), (box b7 44 [(int .i64 x6.1), (int .i64 x6.2.1), (int .i64 x6.2.2.1), (int .i64 x6.2.2.2.1), (int .i64 x6.2.2.2.2.1)]), (box b6 40 [(int .i64 a1_0), (int .i64 a1_1)]), (box b5 24 [(int .i64 a0_0), (int .i64 a0_1), (int .i64 a0_2), (int .i64 a0_3), (int .i64 a0_4), (int .i64 a0_5), (int .i64 a0_6), (int .i64 a0_7), (int .i64 a0_8)])] rfl (fun a => (hasA_cons (k := 24) rfl (hall 24 (by decide)) (hasA_cons (k := 0) rfl (hall 0 (by decide)) (hasA_cons (k := 1) rfl (hall 1 (by decide)) (hasA_cons (k := 2) rfl (hall 2 (by decide)) (hasA_cons (k := 3) rfl (hall 3 (by decide)) (hasA_cons (k := 4) rfl (hall 4 (by decide)) (hasA_cons (k := 5) rfl (hall 5 (by decide)) (hasA_cons (k := 6) rfl (hall 6 (by decide)) (hasA_cons (k := 7) rfl (hall 7 (by decide)) (hasA_cons (k := 8) rfl (hall 8 (by decide)) (hasA_cons (k := 9) rfl (hall 9 (by decide)) (hasA_cons (k := 10) rfl (hall 10 (by decide)) (hasA_cons (k := 11) rfl (hall 11 (by decide)) (hasA_cons (k := 12) rfl (hall 12 (by decide)) (hasA_cons (k := 13) rfl (hall 13 (by decide)) (hasA_cons (k := 14) rfl (hall 14 (by decide)) (hasA_cons (k := 15) rfl (hall 15 (by decide)) (hasA_cons (k := 16) rfl (hall 16 (by decide)) (hasA_cons (k := 17) rfl (hall 17 (by decide)) (hasA_cons (k := 18) rfl (hall 18 (by decide)) (hasA_cons (k := 19) rfl (hall 19 (by decide)) (hasA_cons (k := 20) rfl (hall 20 (by decide)) (hasA_cons (k := 21) rfl (hall 21 (by decide)) (hasA_cons (k := 22) rfl (hall 22 (by decide)) (hasA_cons (k := 23) rfl (hall 23 (by decide)) hasA_base)))))))))))))))))))))))))) ?_
     refine ent_retc ?_
     cases H
     refine ent_pick [] (by decide) rfl ?_
     exact ret_tmp rfl rfl ⟨rfl, rfl⟩
   ·rw [if_neg c6] at H
    refine ent_drawm 25 rfl (fun done a w => StD 51 w0 F [(0, (agg #[(int .i64 a0_0), (int .i64 a0_1), (int .i64 a0_2), (int .i64 a0_3), (int .i64 a0_4), (int .i64 a0_5), (int .i64 a0_6), (int .i64 a0_7), (int .i64 a0_8)])), (1, (agg #[(int .i64 a1_0), (int .i64 a1_1)])), (2, (int .i64 a2)), (3, (int .i64 a3)), (4, (int .i64 a4)), (5, (pt b5 0)), (6, (pt b6 0)), (11, (pt b7 0)), (12, (bool x6.2.2.2.2.2)), (13, (pt b8 0)), (14, (bool x7.2.2.2.2.2)), (15, (Value.tuple #[(agg #[(int .i64 x6.1), (int .i64 x6.2.1), (int .i64 x6.2.2.1), (int .i64 x6.2.2.2.1), (int .i64 x6.2.2.2.2.1)]), (bool x6.2.2.2.2.2)])), (16, (agg #[(int .i64 a0_0), (int .i64 a0_1), (int .i64 a0_2), (int .i64 a0_3), (int .i64 a0_4), (int .i64 a0_5), (int .i64 a0_6), (int .i64 a0_7), (int .i64 a0_8)])), (17, (int .i64 a4)), (18, (Value.tuple #[(agg #[(int .i64 x6.1), (int .i64 x6.2.1), (int .i64 x6.2.2.1), (int .i64 x6.2.2.2.1), (int .i64 x6.2.2.2.2.1)]), (bool x6.2.2.2.2.2)])), (19, (agg #[(int .i64 x6.1), (int .i64 x6.2.1), (int .i64 x6.2.2.1), (int .i64 x6.2.2.2.1), (int .i64 x6.2.2.2.2.1)])), (20, (bool x6.2.2.2.2.2)), (21, (Value.tuple #[(agg #[(int .i64 x7.1), (int .i64 x7.2.1), (int .i64 x7.2.2.1), (int .i64 x7.2.2.2.1), (int .i64 x7.2.2.2.2.1)]), (bool x7.2.2.2.2.2)])), (22, (agg #[(int .i64 a0_0), (int .i64 a0_1), (int .i64 a0_2), (int .i64 a0_3), (int .i64 a0_4), (int .i64 a0_5), (int .i64 a0_6), (int .i64 a0_7), (int .i64 a0_8)])), (23, (int .i64 a4)), (24, (Value.tuple #[(agg #[(int .i64 x7.1), (int .i64 x7.2.1), (int .i64 x7.2.2.1), (int .i64 x7.2.2.2.1), (int .i64 x7.2.2.2.2.1)]), (bool x7.2.2.2.2.2)])), (25, (agg #[(int .i64 x7.1), (int .i64 x7.2.1), (int .i64 x7.2.2.1), (int .i64 x7.2.2.2.1), (int .i64 x7.2.2.2.2.1)])), (26, (bool x7.2.2.2.2.2))] [(0, 27, (agg #[(int .i64 a0_0), (int .i64 a0_1), (int .i64 a0_2), (int .i64 a0_3), (int .i64 a0_4), (int .i64 a0_5), (int .i64 a0_6), (int .i64 a0_7), (int .i64 a0_8)])), (1, 28, (agg #[(int .i64 a1_0), (int .i64 a1_1)])), (2, 29, (int .i64 a2)), (3, 30, (int .i64 a3)), (4, 31, (str x8)), (5, 32, (agg #[(int .i64 a0_0), (int .i64 a0_1), (int .i64 a0_2), (int .i64 a0_3), (int .i64 a0_4), (int .i64 a0_5), (int .i64 a0_6), (int .i64 a0_7), (int .i64 a0_8)])), (6, 33, (agg #[(int .i64 a1_0), (int .i64 a1_1)])), (7, 34, (int .i64 a2)), (8, 35, (int .i64 a3)), (9, 36, (str x9)), (10, 37, (bool (x8 == x9))), (11, 38, (bool (x8 == x9))), (12, 39, (agg #[(int .i64 x6.1), (int .i64 x6.2.1), (int .i64 x6.2.2.1), (int .i64 x6.2.2.2.1), (int .i64 x6.2.2.2.2.1)])), (13, 40, (agg #[(int .i64 x7.1), (int .i64 x7.2.1), (int .i64 x7.2.2.1), (int .i64 x7.2.2.2.1), (int .i64 x7.2.2.2.2.1)])), (14, 41, (bool (([x6.1, x6.2.1, x6.2.2.1, x6.2.2.2.1, x6.2.2.2.2.1] : List Int) == ([x7.1, x7.2.1, x7.2.2.1, x7.2.2.2.1, x7.2.2.2.2.1] : List Int)))), (15, 42, (bool (([x6.1, x6.2.1, x6.2.2.1, x6.2.2.2.1, x6.2.2.2.2.1] : List Int) == ([x7.1, x7.2.1, x7.2.2.1, x7.2.2.2.1, x7.2.2.2.2.1] : List Int)))), (16, 43, (bool (([x6.1, x6.2.1, x6.2.2.1, x6.2.2.2.1, x6.2.2.2.2.1] : List Int) == ([x7.1, x7.2.1, x7.2.2.1, x7.2.2.2.1, x7.2.2.2.2.1] : List Int)))), (17, 44, (bool x6.2.2.2.2.2)), (18, 45, (bool x7.2.2.2.2.2)), (19, 46, (bool (x6.2.2.2.2.2 == x7.2.2.2.2.2))), (20, 47, (bool (x6.2.2.2.2.2 == x7.2.2.2.2.2))), (21, 48, (bool (x6.2.2.2.2.2 == x7.2.2.2.2.2))), (22, 49, undef), (23, 50, (bool false)), (24, 10, (bool false))] done [(box b8 44 [(int .i64 x7.1), (int .i64 x7.2.1), (int .i64 x7.2.2.1), (int .i64 x7.2.2.2.1), (int .i64 x7.2.2.2.2.1)]), (box b7 44 [(int .i64 x6.1), (int .i64 x6.2.1), (int .i64 x6.2.2.1), (int .i64 x6.2.2.2.1), (int .i64 x6.2.2.2.2.1)]), (box b6 40 [(int .i64 a1_0), (int .i64 a1_1)]), (box b5 24 [(int .i64 a0_0), (int .i64 a0_1), (int .i64 a0_2), (int .i64 a0_3), (int .i64 a0_4), (int .i64 a0_5), (int .i64 a0_6), (int .i64 a0_7), (int .i64 a0_8)])] a w) (by kernel_rfl) (by kernel_rfl) (draw_startL (sub_cons (t := 0) rfl (sub_cons (t := 1) rfl (sub_cons (t := 2) rfl (sub_cons (t := 3) rfl (sub_cons (t := 4) rfl (sub_cons (t := 5) rfl (sub_cons (t := 6) rfl (sub_cons (t := 11) rfl (sub_cons (t := 12) rfl (sub_cons (t := 13) rfl (sub_cons (t := 14) rfl (sub_cons (t := 15) rfl (sub_cons (t := 16) rfl (sub_cons (t := 17) rfl (sub_cons (t := 18) rfl (sub_cons (t := 19) rfl (sub_cons (t := 20) rfl (sub_cons (t := 21) rfl (sub_cons (t := 22) rfl (sub_cons (t := 23) rfl (sub_cons (t := 24) rfl (sub_cons (t := 25) rfl (sub_cons (t := 26) rfl (sub_nil _)))))))))))))))))))))))) rfl) ?_ ?_
    ·refine ⟨?_, ?_, ?_, ?_, ?_, ?_, ?_, ?_, ?_, ?_, ?_, ?_, ?_, ?_, ?_, ?_, ?_, ?_, ?_, ?_, ?_, ?_, ?_, ?_, ?_, trivial⟩
     ·intro done hi hc hcu
      exact draw_value (i := 0) (t := 27) (v := (agg #[(int .i64 a0_0), (int .i64 a0_1), (int .i64 a0_2), (int .i64 a0_3), (int .i64 a0_4), (int .i64 a0_5), (int .i64 a0_6), (int .i64 a0_7), (int .i64 a0_8)])) rfl rfl (wanted_none rfl) (fun a => hasA_base) (ov_load_agg (vs := [(int .i64 a0_0), (int .i64 a0_1), (int .i64 a0_2), (int .i64 a0_3), (int .i64 a0_4), (int .i64 a0_5), (int .i64 a0_6), (int .i64 a0_7), (int .i64 a0_8)]) rfl F_agg_24 F_size_24 (reads_boxW (i := 3) rfl)) rfl rfl (onlyT_spec (k0 := 0) rfl rfl rfl)
     ·intro done hi hc hcu
      exact draw_value (i := 1) (t := 28) (v := (agg #[(int .i64 a1_0), (int .i64 a1_1)])) rfl rfl (wanted_none rfl) (fun a => hasA_base) (ov_load_agg (vs := [(int .i64 a1_0), (int .i64 a1_1)]) rfl F_agg_40 F_size_40 (reads_boxW (i := 2) rfl)) rfl rfl (onlyT_spec (k0 := 1) rfl rfl rfl)
     ·intro done hi hc hcu
      exact draw_value (i := 2) (t := 29) (v := (int .i64 a2)) rfl rfl (wanted_none rfl) (fun a => hasA_base) (ov_move rfl) rfl rfl (onlyT_spec (k0 := 2) rfl rfl rfl)
     ·intro done hi hc hcu
      exact draw_value (i := 3) (t := 30) (v := (int .i64 a3)) rfl rfl (wanted_none rfl) (fun a => hasA_base) (ov_move rfl) rfl rfl (onlyT_spec (k0 := 3) rfl rfl rfl)
     ·intro done hi hc hcu
      have d0 : done 0 = true := done_of (j := 0) hcu rfl (by decide) rfl
      have d1 : done 1 = true := done_of (j := 1) hcu rfl (by decide) rfl
      have d2 : done 2 = true := done_of (j := 2) hcu rfl (by decide) rfl
      have d3 : done 3 = true := done_of (j := 3) hcu rfl (by decide) rfl
      exact draw_same (i := 4) (t := 31) (v := (str x8)) rfl rfl (wanted_none rfl) (fun a => (hasA_cons (k := 3) rfl d3 (hasA_cons (k := 2) rfl d2 (hasA_cons (k := 1) rfl d1 (hasA_cons (k := 0) rfl d0 hasA_base))))) (ot_call0 (first := []) (cap := []) (xs := [.tmp 27, .tmp 28, .tmp 29, .tmp 30]) rfl rfl F_call_20 rfl (sheet_State.spec a0_0 a0_1 a0_2 a0_3 a0_4 a0_5 a0_6 a0_7 a0_8 a1_0 a1_1 a2 a3 _ h8)) rfl rfl (onlyT_spec (k0 := 4) rfl rfl rfl)
     ·intro done hi hc hcu
      exact draw_value (i := 5) (t := 32) (v := (agg #[(int .i64 a0_0), (int .i64 a0_1), (int .i64 a0_2), (int .i64 a0_3), (int .i64 a0_4), (int .i64 a0_5), (int .i64 a0_6), (int .i64 a0_7), (int .i64 a0_8)])) rfl rfl (wanted_none rfl) (fun a => hasA_base) (ov_load_agg (vs := [(int .i64 a0_0), (int .i64 a0_1), (int .i64 a0_2), (int .i64 a0_3), (int .i64 a0_4), (int .i64 a0_5), (int .i64 a0_6), (int .i64 a0_7), (int .i64 a0_8)]) rfl F_agg_24 F_size_24 (reads_boxW (i := 3) rfl)) rfl rfl (onlyT_spec (k0 := 5) rfl rfl rfl)
     ·intro done hi hc hcu
      exact draw_value (i := 6) (t := 33) (v := (agg #[(int .i64 a1_0), (int .i64 a1_1)])) rfl rfl (wanted_none rfl) (fun a => hasA_base) (ov_load_agg (vs := [(int .i64 a1_0), (int .i64 a1_1)]) rfl F_agg_40 F_size_40 (reads_boxW (i := 2) rfl)) rfl rfl (onlyT_spec (k0 := 6) rfl rfl rfl)
     ·intro done hi hc hcu
      exact draw_value (i := 7) (t := 34) (v := (int .i64 a2)) rfl rfl (wanted_none rfl) (fun a => hasA_base) (ov_move rfl) rfl rfl (onlyT_spec (k0 := 7) rfl rfl rfl)
     ·intro done hi hc hcu
      exact draw_value (i := 8) (t := 35) (v := (int .i64 a3)) rfl rfl (wanted_none rfl) (fun a => hasA_base) (ov_move rfl) rfl rfl (onlyT_spec (k0 := 8) rfl rfl rfl)
     ·intro done hi hc hcu
      have d5 : done 5 = true := done_of (j := 5) hcu rfl (by decide) rfl
      have d6 : done 6 = true := done_of (j := 6) hcu rfl (by decide) rfl
      have d7 : done 7 = true := done_of (j := 7) hcu rfl (by decide) rfl
      have d8 : done 8 = true := done_of (j := 8) hcu rfl (by decide) rfl
      exact draw_same (i := 9) (t := 36) (v := (str x9)) rfl rfl (wanted_none rfl) (fun a => (hasA_cons (k := 8) rfl d8 (hasA_cons (k := 7) rfl d7 (hasA_cons (k := 6) rfl d6 (hasA_cons (k := 5) rfl d5 hasA_base))))) (ot_call0 (first := []) (cap := []) (xs := [.tmp 32, .tmp 33, .tmp 34, .tmp 35]) rfl rfl F_call_24 rfl (ossuaryref40_State.spec K a0_0 a0_1 a0_2 a0_3 a0_4 a0_5 a0_6 a0_7 a0_8 a1_0 a1_1 a2 a3 _ h9)) rfl rfl (onlyT_spec (k0 := 9) rfl rfl rfl)
     ·intro done hi hc hcu
      have d4 : done 4 = true := done_of (j := 4) hcu rfl (by decide) rfl
      have d9 : done 9 = true := done_of (j := 9) hcu rfl (by decide) rfl
      exact draw_value (i := 10) (t := 37) (v := (bool (x8 == x9))) rfl rfl (wanted_none rfl) (fun a => (hasA_cons (k := 9) rfl d9 (hasA_cons (k := 4) rfl d4 hasA_base))) (ov_bin rfl rfl (b_eql_str _ _)) rfl rfl (onlyT_spec (k0 := 10) rfl rfl rfl)
     ·intro done hi hc hcu
      have d10 : done 10 = true := done_of (j := 10) hcu rfl (by decide) rfl
      exact draw_value (i := 11) (t := 38) (v := (bool (x8 == x9))) rfl rfl (wanted_none rfl) (fun a => (hasA_cons (k := 10) rfl d10 hasA_base)) (ov_move rfl) rfl rfl (onlyT_spec (k0 := 11) rfl rfl rfl)
     ·intro done hi hc hcu
      have d11 : done 11 = true := done_of (j := 11) hcu rfl (by decide) rfl
      exact draw_value (i := 12) (t := 39) (v := (agg #[(int .i64 x6.1), (int .i64 x6.2.1), (int .i64 x6.2.2.1), (int .i64 x6.2.2.2.1), (int .i64 x6.2.2.2.2.1)])) rfl rfl (wanted_on rfl rfl rfl (eq_t c4)) (fun a => (hasA_cons (k := 11) rfl d11 hasA_base)) (ov_load_agg (vs := [(int .i64 x6.1), (int .i64 x6.2.1), (int .i64 x6.2.2.1), (int .i64 x6.2.2.2.1), (int .i64 x6.2.2.2.2.1)]) rfl F_agg_44 F_size_44 (reads_boxW (i := 1) rfl)) rfl rfl (onlyT_spec (k0 := 12) rfl rfl rfl)
     ·intro done hi hc hcu
      have d11 : done 11 = true := done_of (j := 11) hcu rfl (by decide) rfl
      exact draw_value (i := 13) (t := 40) (v := (agg #[(int .i64 x7.1), (int .i64 x7.2.1), (int .i64 x7.2.2.1), (int .i64 x7.2.2.2.1), (int .i64 x7.2.2.2.2.1)])) rfl rfl (wanted_on rfl rfl rfl (eq_t c4)) (fun a => (hasA_cons (k := 11) rfl d11 hasA_base)) (ov_load_agg (vs := [(int .i64 x7.1), (int .i64 x7.2.1), (int .i64 x7.2.2.1), (int .i64 x7.2.2.2.1), (int .i64 x7.2.2.2.2.1)]) rfl F_agg_44 F_size_44 (reads_boxW (i := 0) rfl)) rfl rfl (onlyT_spec (k0 := 13) rfl rfl rfl)
     ·intro done hi hc hcu
      have d12 : done 12 = true := done_of (j := 12) hcu rfl (by decide) rfl
      have d13 : done 13 = true := done_of (j := 13) hcu rfl (by decide) rfl
      have d11 : done 11 = true := done_of (j := 11) hcu rfl (by decide) rfl
      exact draw_value (i := 14) (t := 41) (v := (bool (([x6.1, x6.2.1, x6.2.2.1, x6.2.2.2.1, x6.2.2.2.2.1] : List Int) == ([x7.1, x7.2.1, x7.2.2.1, x7.2.2.2.1, x7.2.2.2.2.1] : List Int)))) rfl rfl (wanted_on rfl rfl rfl (eq_t c4)) (fun a => (hasA_cons (k := 11) rfl d11 (hasA_cons (k := 13) rfl d13 (hasA_cons (k := 12) rfl d12 hasA_base)))) (ov_bin rfl rfl (b_eql_of (fun w => eqg_arrF F_guard_44 w) rfl (eq_arrI F_array_44 F_size_2 F_agg_2 Try.underlying2 [x6.1, x6.2.1, x6.2.2.1, x6.2.2.2.1, x6.2.2.2.2.1] [x7.1, x7.2.1, x7.2.2.1, x7.2.2.2.1, x7.2.2.2.2.1] rfl rfl))) rfl rfl (onlyT_spec (k0 := 14) rfl rfl rfl)
     ·intro done hi hc hcu
      have d11 : done 11 = true := done_of (j := 11) hcu rfl (by decide) rfl
      have d14 : done 14 = true := done_of (j := 14) hcu rfl (by decide) rfl
      exact draw_value (i := 15) (t := 42) (v := (bool (([x6.1, x6.2.1, x6.2.2.1, x6.2.2.2.1, x6.2.2.2.2.1] : List Int) == ([x7.1, x7.2.1, x7.2.2.1, x7.2.2.2.1, x7.2.2.2.2.1] : List Int)))) rfl rfl (wanted_none rfl) (fun a => (hasA_cons (k := 14) rfl d14 (hasA_cons (k := 11) rfl d11 hasA_base))) (ov_pick rfl rfl rfl (pick_t (eq_t c4))) rfl rfl (onlyT_spec (k0 := 15) rfl rfl rfl)
     ·intro done hi hc hcu
      have d15 : done 15 = true := done_of (j := 15) hcu rfl (by decide) rfl
      exact draw_value (i := 16) (t := 43) (v := (bool (([x6.1, x6.2.1, x6.2.2.1, x6.2.2.2.1, x6.2.2.2.2.1] : List Int) == ([x7.1, x7.2.1, x7.2.2.1, x7.2.2.2.1, x7.2.2.2.2.1] : List Int)))) rfl rfl (wanted_none rfl) (fun a => (hasA_cons (k := 15) rfl d15 hasA_base)) (ov_move rfl) rfl rfl (onlyT_spec (k0 := 16) rfl rfl rfl)
     ·intro done hi hc hcu
      have d16 : done 16 = true := done_of (j := 16) hcu rfl (by decide) rfl
      exact draw_value (i := 17) (t := 44) (v := (bool x6.2.2.2.2.2)) rfl rfl (wanted_on rfl rfl rfl c5) (fun a => (hasA_cons (k := 16) rfl d16 hasA_base)) (ov_move rfl) rfl rfl (onlyT_spec (k0 := 17) rfl rfl rfl)
     ·intro done hi hc hcu
      have d16 : done 16 = true := done_of (j := 16) hcu rfl (by decide) rfl
      exact draw_value (i := 18) (t := 45) (v := (bool x7.2.2.2.2.2)) rfl rfl (wanted_on rfl rfl rfl c5) (fun a => (hasA_cons (k := 16) rfl d16 hasA_base)) (ov_move rfl) rfl rfl (onlyT_spec (k0 := 18) rfl rfl rfl)
     ·intro done hi hc hcu
      have d17 : done 17 = true := done_of (j := 17) hcu rfl (by decide) rfl
      have d18 : done 18 = true := done_of (j := 18) hcu rfl (by decide) rfl
      have d16 : done 16 = true := done_of (j := 16) hcu rfl (by decide) rfl
      exact draw_value (i := 19) (t := 46) (v := (bool (x6.2.2.2.2.2 == x7.2.2.2.2.2))) rfl rfl (wanted_on rfl rfl rfl c5) (fun a => (hasA_cons (k := 16) rfl d16 (hasA_cons (k := 18) rfl d18 (hasA_cons (k := 17) rfl d17 hasA_base)))) (ov_bin rfl rfl (b_eql_bool Try.underlying4 _ _)) rfl rfl (onlyT_spec (k0 := 19) rfl rfl rfl)
     ·intro done hi hc hcu
      have d16 : done 16 = true := done_of (j := 16) hcu rfl (by decide) rfl
      have d19 : done 19 = true := done_of (j := 19) hcu rfl (by decide) rfl
      exact draw_value (i := 20) (t := 47) (v := (bool (x6.2.2.2.2.2 == x7.2.2.2.2.2))) rfl rfl (wanted_none rfl) (fun a => (hasA_cons (k := 19) rfl d19 (hasA_cons (k := 16) rfl d16 hasA_base))) (ov_pick rfl rfl rfl (pick_t c5)) rfl rfl (onlyT_spec (k0 := 20) rfl rfl rfl)
     ·intro done hi hc hcu
      have d20 : done 20 = true := done_of (j := 20) hcu rfl (by decide) rfl
      exact draw_value (i := 21) (t := 48) (v := (bool (x6.2.2.2.2.2 == x7.2.2.2.2.2))) rfl rfl (wanted_none rfl) (fun a => (hasA_cons (k := 20) rfl d20 hasA_base)) (ov_move rfl) rfl rfl (onlyT_spec (k0 := 21) rfl rfl rfl)
     ·intro done hi hc hcu
      have d21 : done 21 = true := done_of (j := 21) hcu rfl (by decide) rfl
      exact draw_off (i := 22) (t := 49) rfl rfl (wanted_off rfl rfl rfl (Bool.eq_false_iff.2 c6)) (fun a => (hasA_cons (k := 21) rfl d21 hasA_base)) rfl rfl (onlyT_spec (k0 := 22) rfl rfl rfl)
     ·intro done hi hc hcu
      have d21 : done 21 = true := done_of (j := 21) hcu rfl (by decide) rfl
      have d22 : done 22 = true := done_of (j := 22) hcu rfl (by decide) rfl
      exact draw_value (i := 23) (t := 50) (v := (bool false)) rfl rfl (wanted_none rfl) (fun a => (hasA_cons (k := 22) rfl d22 (hasA_cons (k := 21) rfl d21 hasA_base))) (ov_pick rfl rfl rfl (pick_f (Bool.eq_false_iff.2 c6))) rfl rfl (onlyT_spec (k0 := 23) rfl rfl rfl)
     ·intro done hi hc hcu
      have d23 : done 23 = true := done_of (j := 23) hcu rfl (by decide) rfl
      exact draw_value (i := 24) (t := 10) (v := (bool false)) rfl rfl (wanted_none rfl) (fun a => (hasA_cons (k := 23) rfl d23 hasA_base)) (ov_assign rfl) rfl rfl (onlyT_spec (k0 := 24) rfl rfl rfl)
    ·intro done hall
     refine draw_endL [(box b8 44 [(int .i64 x7.1), (int .i64 x7.2.1), (int .i64 x7.2.2.1), (int .i64 x7.2.2.2.1), (int .i64 x7.2.2.2.2.1)]), (box b7 44 [(int .i64 x6.1), (int .i64 x6.2.1), (int .i64 x6.2.2.1), (int .i64 x6.2.2.2.1), (int .i64 x6.2.2.2.2.1)]), (box b6 40 [(int .i64 a1_0), (int .i64 a1_1)]), (box b5 24 [(int .i64 a0_0), (int .i64 a0_1), (int .i64 a0_2), (int .i64 a0_3), (int .i64 a0_4), (int .i64 a0_5), (int .i64 a0_6), (int .i64 a0_7), (int .i64 a0_8)])] rfl (fun a => (hasA_cons (k := 24) rfl (hall 24 (by decide)) (hasA_cons (k := 0) rfl (hall 0 (by decide)) (hasA_cons (k := 1) rfl (hall 1 (by decide)) (hasA_cons (k := 2) rfl (hall 2 (by decide)) (hasA_cons (k := 3) rfl (hall 3 (by decide)) (hasA_cons (k := 4) rfl (hall 4 (by decide)) (hasA_cons (k := 5) rfl (hall 5 (by decide)) (hasA_cons (k := 6) rfl (hall 6 (by decide)) (hasA_cons (k := 7) rfl (hall 7 (by decide)) (hasA_cons (k := 8) rfl (hall 8 (by decide)) (hasA_cons (k := 9) rfl (hall 9 (by decide)) (hasA_cons (k := 10) rfl (hall 10 (by decide)) (hasA_cons (k := 11) rfl (hall 11 (by decide)) (hasA_cons (k := 12) rfl (hall 12 (by decide)) (hasA_cons (k := 13) rfl (hall 13 (by decide)) (hasA_cons (k := 14) rfl (hall 14 (by decide)) (hasA_cons (k := 15) rfl (hall 15 (by decide)) (hasA_cons (k := 16) rfl (hall 16 (by decide)) (hasA_cons (k := 17) rfl (hall 17 (by decide)) (hasA_cons (k := 18) rfl (hall 18 (by decide)) (hasA_cons (k := 19) rfl (hall 19 (by decide)) (hasA_cons (k := 20) rfl (hall 20 (by decide)) (hasA_cons (k := 21) rfl (hall 21 (by decide)) (hasA_cons (k := 22) rfl (hall 22 (by decide)) (hasA_cons (k := 23) rfl (hall 23 (by decide)) hasA_base)))))))))))))))))))))))))) ?_
     refine ent_retc ?_
     cases H
     refine ent_pick [] (by decide) rfl ?_
     exact ret_tmp rfl rfl ⟨rfl, rfl⟩
  ·rw [if_neg c5] at H
   refine ent_drawm 25 rfl (fun done a w => StD 51 w0 F [(0, (agg #[(int .i64 a0_0), (int .i64 a0_1), (int .i64 a0_2), (int .i64 a0_3), (int .i64 a0_4), (int .i64 a0_5), (int .i64 a0_6), (int .i64 a0_7), (int .i64 a0_8)])), (1, (agg #[(int .i64 a1_0), (int .i64 a1_1)])), (2, (int .i64 a2)), (3, (int .i64 a3)), (4, (int .i64 a4)), (5, (pt b5 0)), (6, (pt b6 0)), (11, (pt b7 0)), (12, (bool x6.2.2.2.2.2)), (13, (pt b8 0)), (14, (bool x7.2.2.2.2.2)), (15, (Value.tuple #[(agg #[(int .i64 x6.1), (int .i64 x6.2.1), (int .i64 x6.2.2.1), (int .i64 x6.2.2.2.1), (int .i64 x6.2.2.2.2.1)]), (bool x6.2.2.2.2.2)])), (16, (agg #[(int .i64 a0_0), (int .i64 a0_1), (int .i64 a0_2), (int .i64 a0_3), (int .i64 a0_4), (int .i64 a0_5), (int .i64 a0_6), (int .i64 a0_7), (int .i64 a0_8)])), (17, (int .i64 a4)), (18, (Value.tuple #[(agg #[(int .i64 x6.1), (int .i64 x6.2.1), (int .i64 x6.2.2.1), (int .i64 x6.2.2.2.1), (int .i64 x6.2.2.2.2.1)]), (bool x6.2.2.2.2.2)])), (19, (agg #[(int .i64 x6.1), (int .i64 x6.2.1), (int .i64 x6.2.2.1), (int .i64 x6.2.2.2.1), (int .i64 x6.2.2.2.2.1)])), (20, (bool x6.2.2.2.2.2)), (21, (Value.tuple #[(agg #[(int .i64 x7.1), (int .i64 x7.2.1), (int .i64 x7.2.2.1), (int .i64 x7.2.2.2.1), (int .i64 x7.2.2.2.2.1)]), (bool x7.2.2.2.2.2)])), (22, (agg #[(int .i64 a0_0), (int .i64 a0_1), (int .i64 a0_2), (int .i64 a0_3), (int .i64 a0_4), (int .i64 a0_5), (int .i64 a0_6), (int .i64 a0_7), (int .i64 a0_8)])), (23, (int .i64 a4)), (24, (Value.tuple #[(agg #[(int .i64 x7.1), (int .i64 x7.2.1), (int .i64 x7.2.2.1), (int .i64 x7.2.2.2.1), (int .i64 x7.2.2.2.2.1)]), (bool x7.2.2.2.2.2)])), (25, (agg #[(int .i64 x7.1), (int .i64 x7.2.1), (int .i64 x7.2.2.1), (int .i64 x7.2.2.2.1), (int .i64 x7.2.2.2.2.1)])), (26, (bool x7.2.2.2.2.2))] [(0, 27, (agg #[(int .i64 a0_0), (int .i64 a0_1), (int .i64 a0_2), (int .i64 a0_3), (int .i64 a0_4), (int .i64 a0_5), (int .i64 a0_6), (int .i64 a0_7), (int .i64 a0_8)])), (1, 28, (agg #[(int .i64 a1_0), (int .i64 a1_1)])), (2, 29, (int .i64 a2)), (3, 30, (int .i64 a3)), (4, 31, (str x8)), (5, 32, (agg #[(int .i64 a0_0), (int .i64 a0_1), (int .i64 a0_2), (int .i64 a0_3), (int .i64 a0_4), (int .i64 a0_5), (int .i64 a0_6), (int .i64 a0_7), (int .i64 a0_8)])), (6, 33, (agg #[(int .i64 a1_0), (int .i64 a1_1)])), (7, 34, (int .i64 a2)), (8, 35, (int .i64 a3)), (9, 36, (str x9)), (10, 37, (bool (x8 == x9))), (11, 38, (bool (x8 == x9))), (12, 39, (agg #[(int .i64 x6.1), (int .i64 x6.2.1), (int .i64 x6.2.2.1), (int .i64 x6.2.2.2.1), (int .i64 x6.2.2.2.2.1)])), (13, 40, (agg #[(int .i64 x7.1), (int .i64 x7.2.1), (int .i64 x7.2.2.1), (int .i64 x7.2.2.2.1), (int .i64 x7.2.2.2.2.1)])), (14, 41, (bool (([x6.1, x6.2.1, x6.2.2.1, x6.2.2.2.1, x6.2.2.2.2.1] : List Int) == ([x7.1, x7.2.1, x7.2.2.1, x7.2.2.2.1, x7.2.2.2.2.1] : List Int)))), (15, 42, (bool (([x6.1, x6.2.1, x6.2.2.1, x6.2.2.2.1, x6.2.2.2.2.1] : List Int) == ([x7.1, x7.2.1, x7.2.2.1, x7.2.2.2.1, x7.2.2.2.2.1] : List Int)))), (16, 43, (bool (([x6.1, x6.2.1, x6.2.2.1, x6.2.2.2.1, x6.2.2.2.2.1] : List Int) == ([x7.1, x7.2.1, x7.2.2.1, x7.2.2.2.1, x7.2.2.2.2.1] : List Int)))), (17, 44, undef), (18, 45, undef), (19, 46, undef), (20, 47, (bool false)), (21, 48, (bool false)), (22, 49, undef), (23, 50, (bool false)), (24, 10, (bool false))] done [(box b8 44 [(int .i64 x7.1), (int .i64 x7.2.1), (int .i64 x7.2.2.1), (int .i64 x7.2.2.2.1), (int .i64 x7.2.2.2.2.1)]), (box b7 44 [(int .i64 x6.1), (int .i64 x6.2.1), (int .i64 x6.2.2.1), (int .i64 x6.2.2.2.1), (int .i64 x6.2.2.2.2.1)]), (box b6 40 [(int .i64 a1_0), (int .i64 a1_1)]), (box b5 24 [(int .i64 a0_0), (int .i64 a0_1), (int .i64 a0_2), (int .i64 a0_3), (int .i64 a0_4), (int .i64 a0_5), (int .i64 a0_6), (int .i64 a0_7), (int .i64 a0_8)])] a w) (by kernel_rfl) (by kernel_rfl) (draw_startL (sub_cons (t := 0) rfl (sub_cons (t := 1) rfl (sub_cons (t := 2) rfl (sub_cons (t := 3) rfl (sub_cons (t := 4) rfl (sub_cons (t := 5) rfl (sub_cons (t := 6) rfl (sub_cons (t := 11) rfl (sub_cons (t := 12) rfl (sub_cons (t := 13) rfl (sub_cons (t := 14) rfl (sub_cons (t := 15) rfl (sub_cons (t := 16) rfl (sub_cons (t := 17) rfl (sub_cons (t := 18) rfl (sub_cons (t := 19) rfl (sub_cons (t := 20) rfl (sub_cons (t := 21) rfl (sub_cons (t := 22) rfl (sub_cons (t := 23) rfl (sub_cons (t := 24) rfl (sub_cons (t := 25) rfl (sub_cons (t := 26) rfl (sub_nil _)))))))))))))))))))))))) rfl) ?_ ?_
   ·refine ⟨?_, ?_, ?_, ?_, ?_, ?_, ?_, ?_, ?_, ?_, ?_, ?_, ?_, ?_, ?_, ?_, ?_, ?_, ?_, ?_, ?_, ?_, ?_, ?_, ?_, trivial⟩
    ·intro done hi hc hcu
     exact draw_value (i := 0) (t := 27) (v := (agg #[(int .i64 a0_0), (int .i64 a0_1), (int .i64 a0_2), (int .i64 a0_3), (int .i64 a0_4), (int .i64 a0_5), (int .i64 a0_6), (int .i64 a0_7), (int .i64 a0_8)])) rfl rfl (wanted_none rfl) (fun a => hasA_base) (ov_load_agg (vs := [(int .i64 a0_0), (int .i64 a0_1), (int .i64 a0_2), (int .i64 a0_3), (int .i64 a0_4), (int .i64 a0_5), (int .i64 a0_6), (int .i64 a0_7), (int .i64 a0_8)]) rfl F_agg_24 F_size_24 (reads_boxW (i := 3) rfl)) rfl rfl (onlyT_spec (k0 := 0) rfl rfl rfl)
    ·intro done hi hc hcu
     exact draw_value (i := 1) (t := 28) (v := (agg #[(int .i64 a1_0), (int .i64 a1_1)])) rfl rfl (wanted_none rfl) (fun a => hasA_base) (ov_load_agg (vs := [(int .i64 a1_0), (int .i64 a1_1)]) rfl F_agg_40 F_size_40 (reads_boxW (i := 2) rfl)) rfl rfl (onlyT_spec (k0 := 1) rfl rfl rfl)
    ·intro done hi hc hcu
     exact draw_value (i := 2) (t := 29) (v := (int .i64 a2)) rfl rfl (wanted_none rfl) (fun a => hasA_base) (ov_move rfl) rfl rfl (onlyT_spec (k0 := 2) rfl rfl rfl)
    ·intro done hi hc hcu
     exact draw_value (i := 3) (t := 30) (v := (int .i64 a3)) rfl rfl (wanted_none rfl) (fun a => hasA_base) (ov_move rfl) rfl rfl (onlyT_spec (k0 := 3) rfl rfl rfl)
    ·intro done hi hc hcu
     have d0 : done 0 = true := done_of (j := 0) hcu rfl (by decide) rfl
     have d1 : done 1 = true := done_of (j := 1) hcu rfl (by decide) rfl
     have d2 : done 2 = true := done_of (j := 2) hcu rfl (by decide) rfl
     have d3 : done 3 = true := done_of (j := 3) hcu rfl (by decide) rfl
     exact draw_same (i := 4) (t := 31) (v := (str x8)) rfl rfl (wanted_none rfl) (fun a => (hasA_cons (k := 3) rfl d3 (hasA_cons (k := 2) rfl d2 (hasA_cons (k := 1) rfl d1 (hasA_cons (k := 0) rfl d0 hasA_base))))) (ot_call0 (first := []) (cap := []) (xs := [.tmp 27, .tmp 28, .tmp 29, .tmp 30]) rfl rfl F_call_20 rfl (sheet_State.spec a0_0 a0_1 a0_2 a0_3 a0_4 a0_5 a0_6 a0_7 a0_8 a1_0 a1_1 a2 a3 _ h8)) rfl rfl (onlyT_spec (k0 := 4) rfl rfl rfl)
    ·intro done hi hc hcu
     exact draw_value (i := 5) (t := 32) (v := (agg #[(int .i64 a0_0), (int .i64 a0_1), (int .i64 a0_2), (int .i64 a0_3), (int .i64 a0_4), (int .i64 a0_5), (int .i64 a0_6), (int .i64 a0_7), (int .i64 a0_8)])) rfl rfl (wanted_none rfl) (fun a => hasA_base) (ov_load_agg (vs := [(int .i64 a0_0), (int .i64 a0_1), (int .i64 a0_2), (int .i64 a0_3), (int .i64 a0_4), (int .i64 a0_5), (int .i64 a0_6), (int .i64 a0_7), (int .i64 a0_8)]) rfl F_agg_24 F_size_24 (reads_boxW (i := 3) rfl)) rfl rfl (onlyT_spec (k0 := 5) rfl rfl rfl)
    ·intro done hi hc hcu
     exact draw_value (i := 6) (t := 33) (v := (agg #[(int .i64 a1_0), (int .i64 a1_1)])) rfl rfl (wanted_none rfl) (fun a => hasA_base) (ov_load_agg (vs := [(int .i64 a1_0), (int .i64 a1_1)]) rfl F_agg_40 F_size_40 (reads_boxW (i := 2) rfl)) rfl rfl (onlyT_spec (k0 := 6) rfl rfl rfl)
    ·intro done hi hc hcu
     exact draw_value (i := 7) (t := 34) (v := (int .i64 a2)) rfl rfl (wanted_none rfl) (fun a => hasA_base) (ov_move rfl) rfl rfl (onlyT_spec (k0 := 7) rfl rfl rfl)
    ·intro done hi hc hcu
     exact draw_value (i := 8) (t := 35) (v := (int .i64 a3)) rfl rfl (wanted_none rfl) (fun a => hasA_base) (ov_move rfl) rfl rfl (onlyT_spec (k0 := 8) rfl rfl rfl)
    ·intro done hi hc hcu
     have d5 : done 5 = true := done_of (j := 5) hcu rfl (by decide) rfl
     have d6 : done 6 = true := done_of (j := 6) hcu rfl (by decide) rfl
     have d7 : done 7 = true := done_of (j := 7) hcu rfl (by decide) rfl
     have d8 : done 8 = true := done_of (j := 8) hcu rfl (by decide) rfl
     exact draw_same (i := 9) (t := 36) (v := (str x9)) rfl rfl (wanted_none rfl) (fun a => (hasA_cons (k := 8) rfl d8 (hasA_cons (k := 7) rfl d7 (hasA_cons (k := 6) rfl d6 (hasA_cons (k := 5) rfl d5 hasA_base))))) (ot_call0 (first := []) (cap := []) (xs := [.tmp 32, .tmp 33, .tmp 34, .tmp 35]) rfl rfl F_call_24 rfl (ossuaryref40_State.spec K a0_0 a0_1 a0_2 a0_3 a0_4 a0_5 a0_6 a0_7 a0_8 a1_0 a1_1 a2 a3 _ h9)) rfl rfl (onlyT_spec (k0 := 9) rfl rfl rfl)
    ·intro done hi hc hcu
     have d4 : done 4 = true := done_of (j := 4) hcu rfl (by decide) rfl
     have d9 : done 9 = true := done_of (j := 9) hcu rfl (by decide) rfl
     exact draw_value (i := 10) (t := 37) (v := (bool (x8 == x9))) rfl rfl (wanted_none rfl) (fun a => (hasA_cons (k := 9) rfl d9 (hasA_cons (k := 4) rfl d4 hasA_base))) (ov_bin rfl rfl (b_eql_str _ _)) rfl rfl (onlyT_spec (k0 := 10) rfl rfl rfl)
    ·intro done hi hc hcu
     have d10 : done 10 = true := done_of (j := 10) hcu rfl (by decide) rfl
     exact draw_value (i := 11) (t := 38) (v := (bool (x8 == x9))) rfl rfl (wanted_none rfl) (fun a => (hasA_cons (k := 10) rfl d10 hasA_base)) (ov_move rfl) rfl rfl (onlyT_spec (k0 := 11) rfl rfl rfl)
    ·intro done hi hc hcu
     have d11 : done 11 = true := done_of (j := 11) hcu rfl (by decide) rfl
     exact draw_value (i := 12) (t := 39) (v := (agg #[(int .i64 x6.1), (int .i64 x6.2.1), (int .i64 x6.2.2.1), (int .i64 x6.2.2.2.1), (int .i64 x6.2.2.2.2.1)])) rfl rfl (wanted_on rfl rfl rfl (eq_t c4)) (fun a => (hasA_cons (k := 11) rfl d11 hasA_base)) (ov_load_agg (vs := [(int .i64 x6.1), (int .i64 x6.2.1), (int .i64 x6.2.2.1), (int .i64 x6.2.2.2.1), (int .i64 x6.2.2.2.2.1)]) rfl F_agg_44 F_size_44 (reads_boxW (i := 1) rfl)) rfl rfl (onlyT_spec (k0 := 12) rfl rfl rfl)
    ·intro done hi hc hcu
     have d11 : done 11 = true := done_of (j := 11) hcu rfl (by decide) rfl
     exact draw_value (i := 13) (t := 40) (v := (agg #[(int .i64 x7.1), (int .i64 x7.2.1), (int .i64 x7.2.2.1), (int .i64 x7.2.2.2.1), (int .i64 x7.2.2.2.2.1)])) rfl rfl (wanted_on rfl rfl rfl (eq_t c4)) (fun a => (hasA_cons (k := 11) rfl d11 hasA_base)) (ov_load_agg (vs := [(int .i64 x7.1), (int .i64 x7.2.1), (int .i64 x7.2.2.1), (int .i64 x7.2.2.2.1), (int .i64 x7.2.2.2.2.1)]) rfl F_agg_44 F_size_44 (reads_boxW (i := 0) rfl)) rfl rfl (onlyT_spec (k0 := 13) rfl rfl rfl)
    ·intro done hi hc hcu
     have d12 : done 12 = true := done_of (j := 12) hcu rfl (by decide) rfl
     have d13 : done 13 = true := done_of (j := 13) hcu rfl (by decide) rfl
     have d11 : done 11 = true := done_of (j := 11) hcu rfl (by decide) rfl
     exact draw_value (i := 14) (t := 41) (v := (bool (([x6.1, x6.2.1, x6.2.2.1, x6.2.2.2.1, x6.2.2.2.2.1] : List Int) == ([x7.1, x7.2.1, x7.2.2.1, x7.2.2.2.1, x7.2.2.2.2.1] : List Int)))) rfl rfl (wanted_on rfl rfl rfl (eq_t c4)) (fun a => (hasA_cons (k := 11) rfl d11 (hasA_cons (k := 13) rfl d13 (hasA_cons (k := 12) rfl d12 hasA_base)))) (ov_bin rfl rfl (b_eql_of (fun w => eqg_arrF F_guard_44 w) rfl (eq_arrI F_array_44 F_size_2 F_agg_2 Try.underlying2 [x6.1, x6.2.1, x6.2.2.1, x6.2.2.2.1, x6.2.2.2.2.1] [x7.1, x7.2.1, x7.2.2.1, x7.2.2.2.1, x7.2.2.2.2.1] rfl rfl))) rfl rfl (onlyT_spec (k0 := 14) rfl rfl rfl)
    ·intro done hi hc hcu
     have d11 : done 11 = true := done_of (j := 11) hcu rfl (by decide) rfl
     have d14 : done 14 = true := done_of (j := 14) hcu rfl (by decide) rfl
     exact draw_value (i := 15) (t := 42) (v := (bool (([x6.1, x6.2.1, x6.2.2.1, x6.2.2.2.1, x6.2.2.2.2.1] : List Int) == ([x7.1, x7.2.1, x7.2.2.1, x7.2.2.2.1, x7.2.2.2.2.1] : List Int)))) rfl rfl (wanted_none rfl) (fun a => (hasA_cons (k := 14) rfl d14 (hasA_cons (k := 11) rfl d11 hasA_base))) (ov_pick rfl rfl rfl (pick_t (eq_t c4))) rfl rfl (onlyT_spec (k0 := 15) rfl rfl rfl)
    ·intro done hi hc hcu
     have d15 : done 15 = true := done_of (j := 15) hcu rfl (by decide) rfl
     exact draw_value (i := 16) (t := 43) (v := (bool (([x6.1, x6.2.1, x6.2.2.1, x6.2.2.2.1, x6.2.2.2.2.1] : List Int) == ([x7.1, x7.2.1, x7.2.2.1, x7.2.2.2.1, x7.2.2.2.2.1] : List Int)))) rfl rfl (wanted_none rfl) (fun a => (hasA_cons (k := 15) rfl d15 hasA_base)) (ov_move rfl) rfl rfl (onlyT_spec (k0 := 16) rfl rfl rfl)
    ·intro done hi hc hcu
     have d16 : done 16 = true := done_of (j := 16) hcu rfl (by decide) rfl
     exact draw_off (i := 17) (t := 44) rfl rfl (wanted_off rfl rfl rfl (Bool.eq_false_iff.2 c5)) (fun a => (hasA_cons (k := 16) rfl d16 hasA_base)) rfl rfl (onlyT_spec (k0 := 17) rfl rfl rfl)
    ·intro done hi hc hcu
     have d16 : done 16 = true := done_of (j := 16) hcu rfl (by decide) rfl
     exact draw_off (i := 18) (t := 45) rfl rfl (wanted_off rfl rfl rfl (Bool.eq_false_iff.2 c5)) (fun a => (hasA_cons (k := 16) rfl d16 hasA_base)) rfl rfl (onlyT_spec (k0 := 18) rfl rfl rfl)
    ·intro done hi hc hcu
     have d16 : done 16 = true := done_of (j := 16) hcu rfl (by decide) rfl
     exact draw_off (i := 19) (t := 46) rfl rfl (wanted_off rfl rfl rfl (Bool.eq_false_iff.2 c5)) (fun a => (hasA_cons (k := 16) rfl d16 hasA_base)) rfl rfl (onlyT_spec (k0 := 19) rfl rfl rfl)
    ·intro done hi hc hcu
     have d16 : done 16 = true := done_of (j := 16) hcu rfl (by decide) rfl
     have d19 : done 19 = true := done_of (j := 19) hcu rfl (by decide) rfl
     exact draw_value (i := 20) (t := 47) (v := (bool false)) rfl rfl (wanted_none rfl) (fun a => (hasA_cons (k := 19) rfl d19 (hasA_cons (k := 16) rfl d16 hasA_base))) (ov_pick rfl rfl rfl (pick_f (Bool.eq_false_iff.2 c5))) rfl rfl (onlyT_spec (k0 := 20) rfl rfl rfl)
    ·intro done hi hc hcu
     have d20 : done 20 = true := done_of (j := 20) hcu rfl (by decide) rfl
     exact draw_value (i := 21) (t := 48) (v := (bool false)) rfl rfl (wanted_none rfl) (fun a => (hasA_cons (k := 20) rfl d20 hasA_base)) (ov_move rfl) rfl rfl (onlyT_spec (k0 := 21) rfl rfl rfl)
    ·intro done hi hc hcu
     have d21 : done 21 = true := done_of (j := 21) hcu rfl (by decide) rfl
     exact draw_off (i := 22) (t := 49) rfl rfl (wanted_off rfl rfl rfl rfl) (fun a => (hasA_cons (k := 21) rfl d21 hasA_base)) rfl rfl (onlyT_spec (k0 := 22) rfl rfl rfl)
    ·intro done hi hc hcu
     have d21 : done 21 = true := done_of (j := 21) hcu rfl (by decide) rfl
     have d22 : done 22 = true := done_of (j := 22) hcu rfl (by decide) rfl
     exact draw_value (i := 23) (t := 50) (v := (bool false)) rfl rfl (wanted_none rfl) (fun a => (hasA_cons (k := 22) rfl d22 (hasA_cons (k := 21) rfl d21 hasA_base))) (ov_pick rfl rfl rfl rfl) rfl rfl (onlyT_spec (k0 := 23) rfl rfl rfl)
    ·intro done hi hc hcu
     have d23 : done 23 = true := done_of (j := 23) hcu rfl (by decide) rfl
     exact draw_value (i := 24) (t := 10) (v := (bool false)) rfl rfl (wanted_none rfl) (fun a => (hasA_cons (k := 23) rfl d23 hasA_base)) (ov_assign rfl) rfl rfl (onlyT_spec (k0 := 24) rfl rfl rfl)
   ·intro done hall
    refine draw_endL [(box b8 44 [(int .i64 x7.1), (int .i64 x7.2.1), (int .i64 x7.2.2.1), (int .i64 x7.2.2.2.1), (int .i64 x7.2.2.2.2.1)]), (box b7 44 [(int .i64 x6.1), (int .i64 x6.2.1), (int .i64 x6.2.2.1), (int .i64 x6.2.2.2.1), (int .i64 x6.2.2.2.2.1)]), (box b6 40 [(int .i64 a1_0), (int .i64 a1_1)]), (box b5 24 [(int .i64 a0_0), (int .i64 a0_1), (int .i64 a0_2), (int .i64 a0_3), (int .i64 a0_4), (int .i64 a0_5), (int .i64 a0_6), (int .i64 a0_7), (int .i64 a0_8)])] rfl (fun a => (hasA_cons (k := 24) rfl (hall 24 (by decide)) (hasA_cons (k := 0) rfl (hall 0 (by decide)) (hasA_cons (k := 1) rfl (hall 1 (by decide)) (hasA_cons (k := 2) rfl (hall 2 (by decide)) (hasA_cons (k := 3) rfl (hall 3 (by decide)) (hasA_cons (k := 4) rfl (hall 4 (by decide)) (hasA_cons (k := 5) rfl (hall 5 (by decide)) (hasA_cons (k := 6) rfl (hall 6 (by decide)) (hasA_cons (k := 7) rfl (hall 7 (by decide)) (hasA_cons (k := 8) rfl (hall 8 (by decide)) (hasA_cons (k := 9) rfl (hall 9 (by decide)) (hasA_cons (k := 10) rfl (hall 10 (by decide)) (hasA_cons (k := 11) rfl (hall 11 (by decide)) (hasA_cons (k := 12) rfl (hall 12 (by decide)) (hasA_cons (k := 13) rfl (hall 13 (by decide)) (hasA_cons (k := 14) rfl (hall 14 (by decide)) (hasA_cons (k := 15) rfl (hall 15 (by decide)) (hasA_cons (k := 16) rfl (hall 16 (by decide)) (hasA_cons (k := 17) rfl (hall 17 (by decide)) (hasA_cons (k := 18) rfl (hall 18 (by decide)) (hasA_cons (k := 19) rfl (hall 19 (by decide)) (hasA_cons (k := 20) rfl (hall 20 (by decide)) (hasA_cons (k := 21) rfl (hall 21 (by decide)) (hasA_cons (k := 22) rfl (hall 22 (by decide)) (hasA_cons (k := 23) rfl (hall 23 (by decide)) hasA_base)))))))))))))))))))))))))) ?_
    refine ent_retc ?_
    cases H
    refine ent_pick [] (by decide) rfl ?_
    exact ret_tmp rfl rfl ⟨rfl, rfl⟩
 ·rw [if_neg c4] at H
  refine ent_drawm 25 rfl (fun done a w => StD 51 w0 F [(0, (agg #[(int .i64 a0_0), (int .i64 a0_1), (int .i64 a0_2), (int .i64 a0_3), (int .i64 a0_4), (int .i64 a0_5), (int .i64 a0_6), (int .i64 a0_7), (int .i64 a0_8)])), (1, (agg #[(int .i64 a1_0), (int .i64 a1_1)])), (2, (int .i64 a2)), (3, (int .i64 a3)), (4, (int .i64 a4)), (5, (pt b5 0)), (6, (pt b6 0)), (11, (pt b7 0)), (12, (bool x6.2.2.2.2.2)), (13, (pt b8 0)), (14, (bool x7.2.2.2.2.2)), (15, (Value.tuple #[(agg #[(int .i64 x6.1), (int .i64 x6.2.1), (int .i64 x6.2.2.1), (int .i64 x6.2.2.2.1), (int .i64 x6.2.2.2.2.1)]), (bool x6.2.2.2.2.2)])), (16, (agg #[(int .i64 a0_0), (int .i64 a0_1), (int .i64 a0_2), (int .i64 a0_3), (int .i64 a0_4), (int .i64 a0_5), (int .i64 a0_6), (int .i64 a0_7), (int .i64 a0_8)])), (17, (int .i64 a4)), (18, (Value.tuple #[(agg #[(int .i64 x6.1), (int .i64 x6.2.1), (int .i64 x6.2.2.1), (int .i64 x6.2.2.2.1), (int .i64 x6.2.2.2.2.1)]), (bool x6.2.2.2.2.2)])), (19, (agg #[(int .i64 x6.1), (int .i64 x6.2.1), (int .i64 x6.2.2.1), (int .i64 x6.2.2.2.1), (int .i64 x6.2.2.2.2.1)])), (20, (bool x6.2.2.2.2.2)), (21, (Value.tuple #[(agg #[(int .i64 x7.1), (int .i64 x7.2.1), (int .i64 x7.2.2.1), (int .i64 x7.2.2.2.1), (int .i64 x7.2.2.2.2.1)]), (bool x7.2.2.2.2.2)])), (22, (agg #[(int .i64 a0_0), (int .i64 a0_1), (int .i64 a0_2), (int .i64 a0_3), (int .i64 a0_4), (int .i64 a0_5), (int .i64 a0_6), (int .i64 a0_7), (int .i64 a0_8)])), (23, (int .i64 a4)), (24, (Value.tuple #[(agg #[(int .i64 x7.1), (int .i64 x7.2.1), (int .i64 x7.2.2.1), (int .i64 x7.2.2.2.1), (int .i64 x7.2.2.2.2.1)]), (bool x7.2.2.2.2.2)])), (25, (agg #[(int .i64 x7.1), (int .i64 x7.2.1), (int .i64 x7.2.2.1), (int .i64 x7.2.2.2.1), (int .i64 x7.2.2.2.2.1)])), (26, (bool x7.2.2.2.2.2))] [(0, 27, (agg #[(int .i64 a0_0), (int .i64 a0_1), (int .i64 a0_2), (int .i64 a0_3), (int .i64 a0_4), (int .i64 a0_5), (int .i64 a0_6), (int .i64 a0_7), (int .i64 a0_8)])), (1, 28, (agg #[(int .i64 a1_0), (int .i64 a1_1)])), (2, 29, (int .i64 a2)), (3, 30, (int .i64 a3)), (4, 31, (str x8)), (5, 32, (agg #[(int .i64 a0_0), (int .i64 a0_1), (int .i64 a0_2), (int .i64 a0_3), (int .i64 a0_4), (int .i64 a0_5), (int .i64 a0_6), (int .i64 a0_7), (int .i64 a0_8)])), (6, 33, (agg #[(int .i64 a1_0), (int .i64 a1_1)])), (7, 34, (int .i64 a2)), (8, 35, (int .i64 a3)), (9, 36, (str x9)), (10, 37, (bool (x8 == x9))), (11, 38, (bool (x8 == x9))), (12, 39, undef), (13, 40, undef), (14, 41, undef), (15, 42, (bool false)), (16, 43, (bool false)), (17, 44, undef), (18, 45, undef), (19, 46, undef), (20, 47, (bool false)), (21, 48, (bool false)), (22, 49, undef), (23, 50, (bool false)), (24, 10, (bool false))] done [(box b8 44 [(int .i64 x7.1), (int .i64 x7.2.1), (int .i64 x7.2.2.1), (int .i64 x7.2.2.2.1), (int .i64 x7.2.2.2.2.1)]), (box b7 44 [(int .i64 x6.1), (int .i64 x6.2.1), (int .i64 x6.2.2.1), (int .i64 x6.2.2.2.1), (int .i64 x6.2.2.2.2.1)]), (box b6 40 [(int .i64 a1_0), (int .i64 a1_1)]), (box b5 24 [(int .i64 a0_0), (int .i64 a0_1), (int .i64 a0_2), (int .i64 a0_3), (int .i64 a0_4), (int .i64 a0_5), (int .i64 a0_6), (int .i64 a0_7), (int .i64 a0_8)])] a w) (by kernel_rfl) (by kernel_rfl) (draw_startL (sub_cons (t := 0) rfl (sub_cons (t := 1) rfl (sub_cons (t := 2) rfl (sub_cons (t := 3) rfl (sub_cons (t := 4) rfl (sub_cons (t := 5) rfl (sub_cons (t := 6) rfl (sub_cons (t := 11) rfl (sub_cons (t := 12) rfl (sub_cons (t := 13) rfl (sub_cons (t := 14) rfl (sub_cons (t := 15) rfl (sub_cons (t := 16) rfl (sub_cons (t := 17) rfl (sub_cons (t := 18) rfl (sub_cons (t := 19) rfl (sub_cons (t := 20) rfl (sub_cons (t := 21) rfl (sub_cons (t := 22) rfl (sub_cons (t := 23) rfl (sub_cons (t := 24) rfl (sub_cons (t := 25) rfl (sub_cons (t := 26) rfl (sub_nil _)))))))))))))))))))))))) rfl) ?_ ?_
  ·refine ⟨?_, ?_, ?_, ?_, ?_, ?_, ?_, ?_, ?_, ?_, ?_, ?_, ?_, ?_, ?_, ?_, ?_, ?_, ?_, ?_, ?_, ?_, ?_, ?_, ?_, trivial⟩
   ·intro done hi hc hcu
    exact draw_value (i := 0) (t := 27) (v := (agg #[(int .i64 a0_0), (int .i64 a0_1), (int .i64 a0_2), (int .i64 a0_3), (int .i64 a0_4), (int .i64 a0_5), (int .i64 a0_6), (int .i64 a0_7), (int .i64 a0_8)])) rfl rfl (wanted_none rfl) (fun a => hasA_base) (ov_load_agg (vs := [(int .i64 a0_0), (int .i64 a0_1), (int .i64 a0_2), (int .i64 a0_3), (int .i64 a0_4), (int .i64 a0_5), (int .i64 a0_6), (int .i64 a0_7), (int .i64 a0_8)]) rfl F_agg_24 F_size_24 (reads_boxW (i := 3) rfl)) rfl rfl (onlyT_spec (k0 := 0) rfl rfl rfl)
   ·intro done hi hc hcu
    exact draw_value (i := 1) (t := 28) (v := (agg #[(int .i64 a1_0), (int .i64 a1_1)])) rfl rfl (wanted_none rfl) (fun a => hasA_base) (ov_load_agg (vs := [(int .i64 a1_0), (int .i64 a1_1)]) rfl F_agg_40 F_size_40 (reads_boxW (i := 2) rfl)) rfl rfl (onlyT_spec (k0 := 1) rfl rfl rfl)
   ·intro done hi hc hcu
    exact draw_value (i := 2) (t := 29) (v := (int .i64 a2)) rfl rfl (wanted_none rfl) (fun a => hasA_base) (ov_move rfl) rfl rfl (onlyT_spec (k0 := 2) rfl rfl rfl)
   ·intro done hi hc hcu
    exact draw_value (i := 3) (t := 30) (v := (int .i64 a3)) rfl rfl (wanted_none rfl) (fun a => hasA_base) (ov_move rfl) rfl rfl (onlyT_spec (k0 := 3) rfl rfl rfl)
   ·intro done hi hc hcu
    have d0 : done 0 = true := done_of (j := 0) hcu rfl (by decide) rfl
    have d1 : done 1 = true := done_of (j := 1) hcu rfl (by decide) rfl
    have d2 : done 2 = true := done_of (j := 2) hcu rfl (by decide) rfl
    have d3 : done 3 = true := done_of (j := 3) hcu rfl (by decide) rfl
    exact draw_same (i := 4) (t := 31) (v := (str x8)) rfl rfl (wanted_none rfl) (fun a => (hasA_cons (k := 3) rfl d3 (hasA_cons (k := 2) rfl d2 (hasA_cons (k := 1) rfl d1 (hasA_cons (k := 0) rfl d0 hasA_base))))) (ot_call0 (first := []) (cap := []) (xs := [.tmp 27, .tmp 28, .tmp 29, .tmp 30]) rfl rfl F_call_20 rfl (sheet_State.spec a0_0 a0_1 a0_2 a0_3 a0_4 a0_5 a0_6 a0_7 a0_8 a1_0 a1_1 a2 a3 _ h8)) rfl rfl (onlyT_spec (k0 := 4) rfl rfl rfl)
   ·intro done hi hc hcu
    exact draw_value (i := 5) (t := 32) (v := (agg #[(int .i64 a0_0), (int .i64 a0_1), (int .i64 a0_2), (int .i64 a0_3), (int .i64 a0_4), (int .i64 a0_5), (int .i64 a0_6), (int .i64 a0_7), (int .i64 a0_8)])) rfl rfl (wanted_none rfl) (fun a => hasA_base) (ov_load_agg (vs := [(int .i64 a0_0), (int .i64 a0_1), (int .i64 a0_2), (int .i64 a0_3), (int .i64 a0_4), (int .i64 a0_5), (int .i64 a0_6), (int .i64 a0_7), (int .i64 a0_8)]) rfl F_agg_24 F_size_24 (reads_boxW (i := 3) rfl)) rfl rfl (onlyT_spec (k0 := 5) rfl rfl rfl)
   ·intro done hi hc hcu
    exact draw_value (i := 6) (t := 33) (v := (agg #[(int .i64 a1_0), (int .i64 a1_1)])) rfl rfl (wanted_none rfl) (fun a => hasA_base) (ov_load_agg (vs := [(int .i64 a1_0), (int .i64 a1_1)]) rfl F_agg_40 F_size_40 (reads_boxW (i := 2) rfl)) rfl rfl (onlyT_spec (k0 := 6) rfl rfl rfl)
   ·intro done hi hc hcu
    exact draw_value (i := 7) (t := 34) (v := (int .i64 a2)) rfl rfl (wanted_none rfl) (fun a => hasA_base) (ov_move rfl) rfl rfl (onlyT_spec (k0 := 7) rfl rfl rfl)
   ·intro done hi hc hcu
    exact draw_value (i := 8) (t := 35) (v := (int .i64 a3)) rfl rfl (wanted_none rfl) (fun a => hasA_base) (ov_move rfl) rfl rfl (onlyT_spec (k0 := 8) rfl rfl rfl)
   ·intro done hi hc hcu
    have d5 : done 5 = true := done_of (j := 5) hcu rfl (by decide) rfl
    have d6 : done 6 = true := done_of (j := 6) hcu rfl (by decide) rfl
    have d7 : done 7 = true := done_of (j := 7) hcu rfl (by decide) rfl
    have d8 : done 8 = true := done_of (j := 8) hcu rfl (by decide) rfl
    exact draw_same (i := 9) (t := 36) (v := (str x9)) rfl rfl (wanted_none rfl) (fun a => (hasA_cons (k := 8) rfl d8 (hasA_cons (k := 7) rfl d7 (hasA_cons (k := 6) rfl d6 (hasA_cons (k := 5) rfl d5 hasA_base))))) (ot_call0 (first := []) (cap := []) (xs := [.tmp 32, .tmp 33, .tmp 34, .tmp 35]) rfl rfl F_call_24 rfl (ossuaryref40_State.spec K a0_0 a0_1 a0_2 a0_3 a0_4 a0_5 a0_6 a0_7 a0_8 a1_0 a1_1 a2 a3 _ h9)) rfl rfl (onlyT_spec (k0 := 9) rfl rfl rfl)
   ·intro done hi hc hcu
    have d4 : done 4 = true := done_of (j := 4) hcu rfl (by decide) rfl
    have d9 : done 9 = true := done_of (j := 9) hcu rfl (by decide) rfl
    exact draw_value (i := 10) (t := 37) (v := (bool (x8 == x9))) rfl rfl (wanted_none rfl) (fun a => (hasA_cons (k := 9) rfl d9 (hasA_cons (k := 4) rfl d4 hasA_base))) (ov_bin rfl rfl (b_eql_str _ _)) rfl rfl (onlyT_spec (k0 := 10) rfl rfl rfl)
   ·intro done hi hc hcu
    have d10 : done 10 = true := done_of (j := 10) hcu rfl (by decide) rfl
    exact draw_value (i := 11) (t := 38) (v := (bool (x8 == x9))) rfl rfl (wanted_none rfl) (fun a => (hasA_cons (k := 10) rfl d10 hasA_base)) (ov_move rfl) rfl rfl (onlyT_spec (k0 := 11) rfl rfl rfl)
   ·intro done hi hc hcu
    have d11 : done 11 = true := done_of (j := 11) hcu rfl (by decide) rfl
    exact draw_off (i := 12) (t := 39) rfl rfl (wanted_off rfl rfl rfl (eq_f c4)) (fun a => (hasA_cons (k := 11) rfl d11 hasA_base)) rfl rfl (onlyT_spec (k0 := 12) rfl rfl rfl)
   ·intro done hi hc hcu
    have d11 : done 11 = true := done_of (j := 11) hcu rfl (by decide) rfl
    exact draw_off (i := 13) (t := 40) rfl rfl (wanted_off rfl rfl rfl (eq_f c4)) (fun a => (hasA_cons (k := 11) rfl d11 hasA_base)) rfl rfl (onlyT_spec (k0 := 13) rfl rfl rfl)
   ·intro done hi hc hcu
    have d11 : done 11 = true := done_of (j := 11) hcu rfl (by decide) rfl
    exact draw_off (i := 14) (t := 41) rfl rfl (wanted_off rfl rfl rfl (eq_f c4)) (fun a => (hasA_cons (k := 11) rfl d11 hasA_base)) rfl rfl (onlyT_spec (k0 := 14) rfl rfl rfl)
   ·intro done hi hc hcu
    have d11 : done 11 = true := done_of (j := 11) hcu rfl (by decide) rfl
    have d14 : done 14 = true := done_of (j := 14) hcu rfl (by decide) rfl
    exact draw_value (i := 15) (t := 42) (v := (bool false)) rfl rfl (wanted_none rfl) (fun a => (hasA_cons (k := 14) rfl d14 (hasA_cons (k := 11) rfl d11 hasA_base))) (ov_pick rfl rfl rfl (pick_f (eq_f c4))) rfl rfl (onlyT_spec (k0 := 15) rfl rfl rfl)
   ·intro done hi hc hcu
    have d15 : done 15 = true := done_of (j := 15) hcu rfl (by decide) rfl
    exact draw_value (i := 16) (t := 43) (v := (bool false)) rfl rfl (wanted_none rfl) (fun a => (hasA_cons (k := 15) rfl d15 hasA_base)) (ov_move rfl) rfl rfl (onlyT_spec (k0 := 16) rfl rfl rfl)
   ·intro done hi hc hcu
    have d16 : done 16 = true := done_of (j := 16) hcu rfl (by decide) rfl
    exact draw_off (i := 17) (t := 44) rfl rfl (wanted_off rfl rfl rfl rfl) (fun a => (hasA_cons (k := 16) rfl d16 hasA_base)) rfl rfl (onlyT_spec (k0 := 17) rfl rfl rfl)
   ·intro done hi hc hcu
    have d16 : done 16 = true := done_of (j := 16) hcu rfl (by decide) rfl
    exact draw_off (i := 18) (t := 45) rfl rfl (wanted_off rfl rfl rfl rfl) (fun a => (hasA_cons (k := 16) rfl d16 hasA_base)) rfl rfl (onlyT_spec (k0 := 18) rfl rfl rfl)
   ·intro done hi hc hcu
    have d16 : done 16 = true := done_of (j := 16) hcu rfl (by decide) rfl
    exact draw_off (i := 19) (t := 46) rfl rfl (wanted_off rfl rfl rfl rfl) (fun a => (hasA_cons (k := 16) rfl d16 hasA_base)) rfl rfl (onlyT_spec (k0 := 19) rfl rfl rfl)
   ·intro done hi hc hcu
    have d16 : done 16 = true := done_of (j := 16) hcu rfl (by decide) rfl
    have d19 : done 19 = true := done_of (j := 19) hcu rfl (by decide) rfl
    exact draw_value (i := 20) (t := 47) (v := (bool false)) rfl rfl (wanted_none rfl) (fun a => (hasA_cons (k := 19) rfl d19 (hasA_cons (k := 16) rfl d16 hasA_base))) (ov_pick rfl rfl rfl rfl) rfl rfl (onlyT_spec (k0 := 20) rfl rfl rfl)
   ·intro done hi hc hcu
    have d20 : done 20 = true := done_of (j := 20) hcu rfl (by decide) rfl
    exact draw_value (i := 21) (t := 48) (v := (bool false)) rfl rfl (wanted_none rfl) (fun a => (hasA_cons (k := 20) rfl d20 hasA_base)) (ov_move rfl) rfl rfl (onlyT_spec (k0 := 21) rfl rfl rfl)
   ·intro done hi hc hcu
    have d21 : done 21 = true := done_of (j := 21) hcu rfl (by decide) rfl
    exact draw_off (i := 22) (t := 49) rfl rfl (wanted_off rfl rfl rfl rfl) (fun a => (hasA_cons (k := 21) rfl d21 hasA_base)) rfl rfl (onlyT_spec (k0 := 22) rfl rfl rfl)
   ·intro done hi hc hcu
    have d21 : done 21 = true := done_of (j := 21) hcu rfl (by decide) rfl
    have d22 : done 22 = true := done_of (j := 22) hcu rfl (by decide) rfl
    exact draw_value (i := 23) (t := 50) (v := (bool false)) rfl rfl (wanted_none rfl) (fun a => (hasA_cons (k := 22) rfl d22 (hasA_cons (k := 21) rfl d21 hasA_base))) (ov_pick rfl rfl rfl rfl) rfl rfl (onlyT_spec (k0 := 23) rfl rfl rfl)
   ·intro done hi hc hcu
    have d23 : done 23 = true := done_of (j := 23) hcu rfl (by decide) rfl
    exact draw_value (i := 24) (t := 10) (v := (bool false)) rfl rfl (wanted_none rfl) (fun a => (hasA_cons (k := 23) rfl d23 hasA_base)) (ov_assign rfl) rfl rfl (onlyT_spec (k0 := 24) rfl rfl rfl)
  ·intro done hall
   refine draw_endL [(box b8 44 [(int .i64 x7.1), (int .i64 x7.2.1), (int .i64 x7.2.2.1), (int .i64 x7.2.2.2.1), (int .i64 x7.2.2.2.2.1)]), (box b7 44 [(int .i64 x6.1), (int .i64 x6.2.1), (int .i64 x6.2.2.1), (int .i64 x6.2.2.2.1), (int .i64 x6.2.2.2.2.1)]), (box b6 40 [(int .i64 a1_0), (int .i64 a1_1)]), (box b5 24 [(int .i64 a0_0), (int .i64 a0_1), (int .i64 a0_2), (int .i64 a0_3), (int .i64 a0_4), (int .i64 a0_5), (int .i64 a0_6), (int .i64 a0_7), (int .i64 a0_8)])] rfl (fun a => (hasA_cons (k := 24) rfl (hall 24 (by decide)) (hasA_cons (k := 0) rfl (hall 0 (by decide)) (hasA_cons (k := 1) rfl (hall 1 (by decide)) (hasA_cons (k := 2) rfl (hall 2 (by decide)) (hasA_cons (k := 3) rfl (hall 3 (by decide)) (hasA_cons (k := 4) rfl (hall 4 (by decide)) (hasA_cons (k := 5) rfl (hall 5 (by decide)) (hasA_cons (k := 6) rfl (hall 6 (by decide)) (hasA_cons (k := 7) rfl (hall 7 (by decide)) (hasA_cons (k := 8) rfl (hall 8 (by decide)) (hasA_cons (k := 9) rfl (hall 9 (by decide)) (hasA_cons (k := 10) rfl (hall 10 (by decide)) (hasA_cons (k := 11) rfl (hall 11 (by decide)) (hasA_cons (k := 12) rfl (hall 12 (by decide)) (hasA_cons (k := 13) rfl (hall 13 (by decide)) (hasA_cons (k := 14) rfl (hall 14 (by decide)) (hasA_cons (k := 15) rfl (hall 15 (by decide)) (hasA_cons (k := 16) rfl (hall 16 (by decide)) (hasA_cons (k := 17) rfl (hall 17 (by decide)) (hasA_cons (k := 18) rfl (hall 18 (by decide)) (hasA_cons (k := 19) rfl (hall 19 (by decide)) (hasA_cons (k := 20) rfl (hall 20 (by decide)) (hasA_cons (k := 21) rfl (hall 21 (by decide)) (hasA_cons (k := 22) rfl (hall 22 (by decide)) (hasA_cons (k := 23) rfl (hall 23 (by decide)) hasA_base)))))))))))))))))))))))))) ?_
   refine ent_retc ?_
   cases H
   refine ent_pick [] (by decide) rfl ?_
   exact ret_tmp rfl rfl ⟨rfl, rfl⟩

end Go.Proofs.Ythcmiohbidencaa.SheetStates
