/- Printed by gen.py: that the machine's calls do what the plain functions of SheetBack say. -/
import Derived.Test.YthcmiohbidencaaESq
import Derived.Test.YthcmiohbidencaaProg
import Derived.Test.YthcmiohbidencaaEBun
import Derived.Test.YthcmiohbidencaaEBuild
import Derived.Test.YthcmiohbidencaaEShelf
import Derived.Test.YthcmiohbidencaaELib
import Derived.Test.YthcmiohbidencaaSheetBackPure
set_option linter.unusedVariables false
set_option linter.unusedSimpArgs false
set_option maxHeartbeats 8000000
set_option maxRecDepth 100000
namespace Go.Proofs.Ythcmiohbidencaa.SheetBack
open Go Go.RowKit E
open Go.Value (int bool slice agg)

def enc_Api_Key (x : Api_Key) : List Value := [(Value.int .i64 x.Hour), (str x.Dims_0), (str x.Dims_1), (str x.Dims_2), (str x.Dims_3)]
theorem enc_Api_Key_one (x : Api_Key) : (enc_Api_Key x).all (·.oneCell') = true := rfl
theorem enc_Api_Key_len (x : Api_Key) : (enc_Api_Key x).length = 5 := rfl
def enc_Api_Fact (x : Api_Fact) : List Value := [(Value.int .i64 x.Key.Hour), (str x.Key.Dims_0), (str x.Key.Dims_1), (str x.Key.Dims_2), (str x.Key.Dims_3), (Value.int .i64 x.Value)]
theorem enc_Api_Fact_one (x : Api_Fact) : (enc_Api_Fact x).all (·.oneCell') = true := rfl
theorem enc_Api_Fact_len (x : Api_Fact) : (enc_Api_Fact x).length = 6 := rfl
def enc_Api_Query (x : Api_Query) : List Value := [(Value.int .i64 x.From), (Value.int .i64 x.To), (Value.bool x.Group_0), (Value.bool x.Group_1), (Value.bool x.Group_2), (Value.bool x.Group_3), (Value.bool x.Has_0), (Value.bool x.Has_1), (Value.bool x.Has_2), (Value.bool x.Has_3), (str x.Filter_0), (str x.Filter_1), (str x.Filter_2), (str x.Filter_3)]
theorem enc_Api_Query_one (x : Api_Query) : (enc_Api_Query x).all (·.oneCell') = true := rfl
theorem enc_Api_Query_len (x : Api_Query) : (enc_Api_Query x).length = 14 := rfl
def enc_Api_Policy (x : Api_Policy) : List Value := [(Value.int .i64 x.Retain), (Value.int .i64 x.SealLag), (Value.int .i64 x.DayLag), (Value.int .i64 x.MonthLag), (Value.int .i64 x.ColdLag), (Value.int .i64 x.Base), (Value.int .i64 x.Cap), (Value.int .i64 x.Queue), (Value.int .i64 x.Wal)]
theorem enc_Api_Policy_one (x : Api_Policy) : (enc_Api_Policy x).all (·.oneCell') = true := rfl
theorem enc_Api_Policy_len (x : Api_Policy) : (enc_Api_Policy x).length = 9 := rfl
def enc_Api_Step (x : Api_Step) : List Value := [(Value.int .i64 x.Kind), (Value.int .i64 x.N), x.Facts.v, (Value.int .i64 x.Query.From), (Value.int .i64 x.Query.To), (Value.bool x.Query.Group_0), (Value.bool x.Query.Group_1), (Value.bool x.Query.Group_2), (Value.bool x.Query.Group_3), (Value.bool x.Query.Has_0), (Value.bool x.Query.Has_1), (Value.bool x.Query.Has_2), (Value.bool x.Query.Has_3), (str x.Query.Filter_0), (str x.Query.Filter_1), (str x.Query.Filter_2), (str x.Query.Filter_3), (Value.int .i64 x.Rules.Retain), (Value.int .i64 x.Rules.SealLag), (Value.int .i64 x.Rules.DayLag), (Value.int .i64 x.Rules.MonthLag), (Value.int .i64 x.Rules.ColdLag), (Value.int .i64 x.Rules.Base), (Value.int .i64 x.Rules.Cap), (Value.int .i64 x.Rules.Queue), (Value.int .i64 x.Rules.Wal), x.Fails.v]
theorem enc_Api_Step_len (x : Api_Step) : (enc_Api_Step x).length = 27 := rfl
theorem F_zero_24 : zeroB Try.prog 24 = some [(Value.int .i64 0), (Value.int .i64 0), (Value.int .i64 0), (Value.int .i64 0), (Value.int .i64 0), (Value.int .i64 0), (Value.int .i64 0), (Value.int .i64 0), (Value.int .i64 0)] := by kernel_rfl
theorem F_places_24 : placesB Try.prog 24 = some [(0, 1), (1, 1), (2, 1), (3, 1), (4, 1), (5, 1), (6, 1), (7, 1), (8, 1)] := by kernel_rfl
theorem F_size_24 : sizeB Try.prog 24 = some 9 := by kernel_rfl
theorem F_agg_24 : aggB Try.prog 24 = some true := by kernel_rfl
theorem F_call_25 : callB Try.prog 25 = true := by kernel_rfl
theorem F_zero_96 : zeroB Try.prog 96 = some [(Value.int .i64 0), (Value.int .i64 0), (Value.int .i64 0), (Value.int .i64 0), (Value.int .i64 0), (Value.int .i64 0), (Value.int .i64 0), (Value.int .i64 0), (Value.int .i64 0), (Value.int .i64 0), (Value.int .i64 0), (Value.int .i64 0), (Value.int .i64 0), (Value.int .i64 0), (Value.int .i64 0), (Value.int .i64 0), (Value.int .i64 0), (Value.int .i64 0)] := by kernel_rfl
theorem F_zero_95 : zeroB Try.prog 95 = some [(Value.int .i64 0), (Value.int .i64 0)] := by kernel_rfl
theorem F_places_95 : placesB Try.prog 95 = some [(0, 1), (1, 1)] := by kernel_rfl
theorem F_array_96 : arrayB Try.prog 96 = some (9, 95) := by kernel_rfl
theorem F_size_95 : sizeB Try.prog 95 = some 2 := by kernel_rfl
theorem F_size_96 : sizeB Try.prog 96 = some 18 := by kernel_rfl
theorem F_agg_96 : aggB Try.prog 96 = some true := by kernel_rfl
theorem F_call_60 : callB Try.prog 60 = true := by kernel_rfl
theorem F_zero_98 : zeroB Try.prog 98 = some [(Value.int .i64 0), (Value.int .i64 0), (Value.int .i64 0), (Value.int .i64 0), (Value.int .i64 0), (Value.int .i64 0), (Value.int .i64 0), (Value.int .i64 0), (Value.int .i64 0)] := by kernel_rfl
theorem F_field_24_0 : fieldB Try.prog 24 0 = some (0, 2) := by kernel_rfl
theorem F_size_2 : sizeB Try.prog 2 = some 1 := by kernel_rfl
theorem F_agg_2 : aggB Try.prog 2 = some false := by kernel_rfl
theorem F_field_24_1 : fieldB Try.prog 24 1 = some (1, 2) := by kernel_rfl
theorem F_field_24_2 : fieldB Try.prog 24 2 = some (2, 2) := by kernel_rfl
theorem F_field_24_3 : fieldB Try.prog 24 3 = some (3, 2) := by kernel_rfl
theorem F_field_24_4 : fieldB Try.prog 24 4 = some (4, 2) := by kernel_rfl
theorem F_field_24_5 : fieldB Try.prog 24 5 = some (5, 2) := by kernel_rfl
theorem F_field_24_6 : fieldB Try.prog 24 6 = some (6, 2) := by kernel_rfl
theorem F_field_24_7 : fieldB Try.prog 24 7 = some (7, 3) := by kernel_rfl
theorem F_size_3 : sizeB Try.prog 3 = some 1 := by kernel_rfl
theorem F_agg_3 : aggB Try.prog 3 = some false := by kernel_rfl
theorem F_field_24_8 : fieldB Try.prog 24 8 = some (8, 2) := by kernel_rfl
theorem F_array_98 : arrayB Try.prog 98 = some (9, 2) := by kernel_rfl
theorem F_size_98 : sizeB Try.prog 98 = some 9 := by kernel_rfl
theorem F_agg_98 : aggB Try.prog 98 = some true := by kernel_rfl
theorem F_call_61 : callB Try.prog 61 = true := by kernel_rfl
theorem F_field_95_0 : fieldB Try.prog 95 0 = some (0, 2) := by kernel_rfl
theorem F_field_95_1 : fieldB Try.prog 95 1 = some (1, 2) := by kernel_rfl
theorem F_call_37 : callB Try.prog 37 = true := by kernel_rfl
theorem F_zero_73 : zeroB Try.prog 73 = some [(Value.pointer none), (Value.slice none 0 0)] := by kernel_rfl
theorem F_zero_55 : zeroB Try.prog 55 = some [(str ([] : List UInt8)), (str ([] : List UInt8)), (str ([] : List UInt8)), (str ([] : List UInt8)), (str ([] : List UInt8)), (str ([] : List UInt8)), (str ([] : List UInt8)), (str ([] : List UInt8)), (str ([] : List UInt8))] := by kernel_rfl
theorem F_array_55 : arrayB Try.prog 55 = some (9, 9) := by kernel_rfl
theorem F_size_9 : sizeB Try.prog 9 = some 1 := by kernel_rfl
theorem F_size_55 : sizeB Try.prog 55 = some 9 := by kernel_rfl
theorem F_agg_55 : aggB Try.prog 55 = some true := by kernel_rfl
theorem F_call_27 : callB Try.prog 27 = true := by kernel_rfl
theorem F_zero_51 : zeroB Try.prog 51 = some [(Value.int .i64 0), (Value.int .i64 0), (Value.int .i64 0), (Value.int .i64 0), (Value.int .i64 0), (Value.int .i64 0), (Value.int .i64 0), (Value.int .i64 0), (Value.int .i64 0), (Value.int .i64 0)] := by kernel_rfl
theorem F_places_51 : placesB Try.prog 51 = some [(0, 9), (9, 1)] := by kernel_rfl
theorem F_call_38 : callB Try.prog 38 = true := by kernel_rfl
theorem F_zero_53 : zeroB Try.prog 53 = some [(Value.pointer none), (Value.pointer none), (Value.pointer none), (Value.pointer none), (Value.pointer none), (Value.pointer none), (Value.pointer none), (Value.pointer none), (Value.pointer none)] := by kernel_rfl
theorem F_field_51_0 : fieldB Try.prog 51 0 = some (0, 24) := by kernel_rfl
theorem F_field_51_1 : fieldB Try.prog 51 1 = some (9, 2) := by kernel_rfl
theorem F_array_53 : arrayB Try.prog 53 = some (9, 52) := by kernel_rfl
theorem F_size_52 : sizeB Try.prog 52 = some 1 := by kernel_rfl
theorem F_size_53 : sizeB Try.prog 53 = some 9 := by kernel_rfl
theorem F_agg_53 : aggB Try.prog 53 = some true := by kernel_rfl
theorem F_call_26 : callB Try.prog 26 = true := by kernel_rfl
theorem F_agg_52 : aggB Try.prog 52 = some false := by kernel_rfl
theorem F_agg_9 : aggB Try.prog 9 = some false := by kernel_rfl
theorem F_zero_108 : zeroB Try.prog 108 = some [(Value.int .i64 0), (Value.int .i64 0), (Value.slice none 0 0), (Value.int .i64 0), (Value.int .i64 0), (Value.bool false), (Value.bool false), (Value.bool false), (Value.bool false), (Value.bool false), (Value.bool false), (Value.bool false), (Value.bool false), (str ([] : List UInt8)), (str ([] : List UInt8)), (str ([] : List UInt8)), (str ([] : List UInt8)), (Value.int .i64 0), (Value.int .i64 0), (Value.int .i64 0), (Value.int .i64 0), (Value.int .i64 0), (Value.int .i64 0), (Value.int .i64 0), (Value.int .i64 0), (Value.int .i64 0), (Value.slice none 0 0)] := by kernel_rfl
theorem F_places_108 : placesB Try.prog 108 = some [(0, 1), (1, 1), (2, 1), (3, 14), (17, 9), (26, 1)] := by kernel_rfl
theorem F_agg_108 : aggB Try.prog 108 = some true := by kernel_rfl
theorem F_size_108 : sizeB Try.prog 108 = some 27 := by kernel_rfl
theorem F_field_108_0 : fieldB Try.prog 108 0 = some (0, 3) := by kernel_rfl
theorem F_field_108_1 : fieldB Try.prog 108 1 = some (1, 2) := by kernel_rfl
theorem F_call_93 : callB Try.prog 93 = true := by kernel_rfl
theorem F_slice_141 : sliceB Try.prog 141 = some 108 := by kernel_rfl
theorem F_field_108_3 : fieldB Try.prog 108 3 = some (3, 105) := by kernel_rfl
theorem F_size_105 : sizeB Try.prog 105 = some 14 := by kernel_rfl
theorem F_agg_105 : aggB Try.prog 105 = some true := by kernel_rfl
theorem F_agg_4 : aggB Try.prog 4 = some false := by kernel_rfl
theorem F_array_102 : arrayB Try.prog 102 = some (4, 4) := by kernel_rfl
theorem F_size_4 : sizeB Try.prog 4 = some 1 := by kernel_rfl
theorem F_array_103 : arrayB Try.prog 103 = some (4, 9) := by kernel_rfl
theorem F_agg_103 : aggB Try.prog 103 = some true := by kernel_rfl
theorem F_size_103 : sizeB Try.prog 103 = some 4 := by kernel_rfl
theorem F_agg_102 : aggB Try.prog 102 = some true := by kernel_rfl
theorem F_size_102 : sizeB Try.prog 102 = some 4 := by kernel_rfl
theorem F_guard_105 : Try.prog.eqGuardType Try.prog.depth 105 = false := by kernel_rfl
theorem same_105 {x y : Operand} (x0 : Int) (x1 : Int) (x2 : Bool) (x3 : Bool) (x4 : Bool) (x5 : Bool) (x6 : Bool) (x7 : Bool) (x8 : Bool) (x9 : Bool) (x10 : List UInt8) (x11 : List UInt8) (x12 : List UInt8) (x13 : List UInt8) (y0 : Int) (y1 : Int) (y2 : Bool) (y3 : Bool) (y4 : Bool) (y5 : Bool) (y6 : Bool) (y7 : Bool) (y8 : Bool) (y9 : Bool) (y10 : List UInt8) (y11 : List UInt8) (y12 : List UInt8) (y13 : List UInt8) (w : World) : (do eqGuard .eql 105 x y (.agg #[(Value.int .i64 x0), (Value.int .i64 x1), (Value.bool x2), (Value.bool x3), (Value.bool x4), (Value.bool x5), (Value.bool x6), (Value.bool x7), (Value.bool x8), (Value.bool x9), (str x10), (str x11), (str x12), (str x13)]) (.agg #[(Value.int .i64 y0), (Value.int .i64 y1), (Value.bool y2), (Value.bool y3), (Value.bool y4), (Value.bool y5), (Value.bool y6), (Value.bool y7), (Value.bool y8), (Value.bool y9), (str y10), (str y11), (str y12), (str y13)]); binOp .eql 105 (.agg #[(Value.int .i64 x0), (Value.int .i64 x1), (Value.bool x2), (Value.bool x3), (Value.bool x4), (Value.bool x5), (Value.bool x6), (Value.bool x7), (Value.bool x8), (Value.bool x9), (str x10), (str x11), (str x12), (str x13)]) (.agg #[(Value.int .i64 y0), (Value.int .i64 y1), (Value.bool y2), (Value.bool y3), (Value.bool y4), (Value.bool y5), (Value.bool y6), (Value.bool y7), (Value.bool y8), (Value.bool y9), (str y10), (str y11), (str y12), (str y13)])).run Try.prog w = .ok (.bool ((x0 == y0) && ((x1 == y1) && (((x2 == y2) && ((x3 == y3) && ((x4 == y4) && ((x5 == y5) && true)))) && (((x6 == y6) && ((x7 == y7) && ((x8 == y8) && ((x9 == y9) && true)))) && (((x10 == y10) && ((x11 == y11) && ((x12 == y12) && ((x13 == y13) && true)))) && true)))))) w :=
  b_eql_agg F_guard_105 (eq_struct Try.underlying105 (by kernel_rfl) (eqf_cons rfl (part_cell F_agg_2 rfl) (part_cell F_agg_2 rfl) (eq_int Try.underlying2 _ _) (eqf_cons rfl (part_cell F_agg_2 rfl) (part_cell F_agg_2 rfl) (eq_int Try.underlying2 _ _) (eqf_cons rfl (part_agg F_agg_102 F_size_102) (part_agg F_agg_102 F_size_102) (eq_arr4 F_array_102 F_size_4 (part_cell F_agg_4 rfl) (part_cell F_agg_4 rfl) (part_cell F_agg_4 rfl) (part_cell F_agg_4 rfl) (part_cell F_agg_4 rfl) (part_cell F_agg_4 rfl) (part_cell F_agg_4 rfl) (part_cell F_agg_4 rfl) (eq_bool Try.underlying4 _ _) (eq_bool Try.underlying4 _ _) (eq_bool Try.underlying4 _ _) (eq_bool Try.underlying4 _ _)) (eqf_cons rfl (part_agg F_agg_102 F_size_102) (part_agg F_agg_102 F_size_102) (eq_arr4 F_array_102 F_size_4 (part_cell F_agg_4 rfl) (part_cell F_agg_4 rfl) (part_cell F_agg_4 rfl) (part_cell F_agg_4 rfl) (part_cell F_agg_4 rfl) (part_cell F_agg_4 rfl) (part_cell F_agg_4 rfl) (part_cell F_agg_4 rfl) (eq_bool Try.underlying4 _ _) (eq_bool Try.underlying4 _ _) (eq_bool Try.underlying4 _ _) (eq_bool Try.underlying4 _ _)) (eqf_cons rfl (part_agg F_agg_103 F_size_103) (part_agg F_agg_103 F_size_103) (eq_arr4 F_array_103 F_size_9 (part_cell F_agg_9 rfl) (part_cell F_agg_9 rfl) (part_cell F_agg_9 rfl) (part_cell F_agg_9 rfl) (part_cell F_agg_9 rfl) (part_cell F_agg_9 rfl) (part_cell F_agg_9 rfl) (part_cell F_agg_9 rfl) (eq_str Try.underlying9 _ _) (eq_str Try.underlying9 _ _) (eq_str Try.underlying9 _ _) (eq_str Try.underlying9 _ _)) eqf_nil)))))) w
theorem same_105_n {x y : Operand} (x0 : Int) (x1 : Int) (x2 : Bool) (x3 : Bool) (x4 : Bool) (x5 : Bool) (x6 : Bool) (x7 : Bool) (x8 : Bool) (x9 : Bool) (x10 : List UInt8) (x11 : List UInt8) (x12 : List UInt8) (x13 : List UInt8) (y0 : Int) (y1 : Int) (y2 : Bool) (y3 : Bool) (y4 : Bool) (y5 : Bool) (y6 : Bool) (y7 : Bool) (y8 : Bool) (y9 : Bool) (y10 : List UInt8) (y11 : List UInt8) (y12 : List UInt8) (y13 : List UInt8) (w : World) : (do eqGuard .neq 105 x y (.agg #[(Value.int .i64 x0), (Value.int .i64 x1), (Value.bool x2), (Value.bool x3), (Value.bool x4), (Value.bool x5), (Value.bool x6), (Value.bool x7), (Value.bool x8), (Value.bool x9), (str x10), (str x11), (str x12), (str x13)]) (.agg #[(Value.int .i64 y0), (Value.int .i64 y1), (Value.bool y2), (Value.bool y3), (Value.bool y4), (Value.bool y5), (Value.bool y6), (Value.bool y7), (Value.bool y8), (Value.bool y9), (str y10), (str y11), (str y12), (str y13)]); binOp .neq 105 (.agg #[(Value.int .i64 x0), (Value.int .i64 x1), (Value.bool x2), (Value.bool x3), (Value.bool x4), (Value.bool x5), (Value.bool x6), (Value.bool x7), (Value.bool x8), (Value.bool x9), (str x10), (str x11), (str x12), (str x13)]) (.agg #[(Value.int .i64 y0), (Value.int .i64 y1), (Value.bool y2), (Value.bool y3), (Value.bool y4), (Value.bool y5), (Value.bool y6), (Value.bool y7), (Value.bool y8), (Value.bool y9), (str y10), (str y11), (str y12), (str y13)])).run Try.prog w = .ok (.bool (!((x0 == y0) && ((x1 == y1) && (((x2 == y2) && ((x3 == y3) && ((x4 == y4) && ((x5 == y5) && true)))) && (((x6 == y6) && ((x7 == y7) && ((x8 == y8) && ((x9 == y9) && true)))) && (((x10 == y10) && ((x11 == y11) && ((x12 == y12) && ((x13 == y13) && true)))) && true))))))) w :=
  b_neq_agg F_guard_105 (eq_struct Try.underlying105 (by kernel_rfl) (eqf_cons rfl (part_cell F_agg_2 rfl) (part_cell F_agg_2 rfl) (eq_int Try.underlying2 _ _) (eqf_cons rfl (part_cell F_agg_2 rfl) (part_cell F_agg_2 rfl) (eq_int Try.underlying2 _ _) (eqf_cons rfl (part_agg F_agg_102 F_size_102) (part_agg F_agg_102 F_size_102) (eq_arr4 F_array_102 F_size_4 (part_cell F_agg_4 rfl) (part_cell F_agg_4 rfl) (part_cell F_agg_4 rfl) (part_cell F_agg_4 rfl) (part_cell F_agg_4 rfl) (part_cell F_agg_4 rfl) (part_cell F_agg_4 rfl) (part_cell F_agg_4 rfl) (eq_bool Try.underlying4 _ _) (eq_bool Try.underlying4 _ _) (eq_bool Try.underlying4 _ _) (eq_bool Try.underlying4 _ _)) (eqf_cons rfl (part_agg F_agg_102 F_size_102) (part_agg F_agg_102 F_size_102) (eq_arr4 F_array_102 F_size_4 (part_cell F_agg_4 rfl) (part_cell F_agg_4 rfl) (part_cell F_agg_4 rfl) (part_cell F_agg_4 rfl) (part_cell F_agg_4 rfl) (part_cell F_agg_4 rfl) (part_cell F_agg_4 rfl) (part_cell F_agg_4 rfl) (eq_bool Try.underlying4 _ _) (eq_bool Try.underlying4 _ _) (eq_bool Try.underlying4 _ _) (eq_bool Try.underlying4 _ _)) (eqf_cons rfl (part_agg F_agg_103 F_size_103) (part_agg F_agg_103 F_size_103) (eq_arr4 F_array_103 F_size_9 (part_cell F_agg_9 rfl) (part_cell F_agg_9 rfl) (part_cell F_agg_9 rfl) (part_cell F_agg_9 rfl) (part_cell F_agg_9 rfl) (part_cell F_agg_9 rfl) (part_cell F_agg_9 rfl) (part_cell F_agg_9 rfl) (eq_str Try.underlying9 _ _) (eq_str Try.underlying9 _ _) (eq_str Try.underlying9 _ _) (eq_str Try.underlying9 _ _)) eqf_nil)))))) w
theorem F_field_108_4 : fieldB Try.prog 108 4 = some (17, 24) := by kernel_rfl
theorem F_guard_24 : Try.prog.eqGuardType Try.prog.depth 24 = false := by kernel_rfl
theorem same_24 {x y : Operand} (x0 : Int) (x1 : Int) (x2 : Int) (x3 : Int) (x4 : Int) (x5 : Int) (x6 : Int) (x7 : Int) (x8 : Int) (y0 : Int) (y1 : Int) (y2 : Int) (y3 : Int) (y4 : Int) (y5 : Int) (y6 : Int) (y7 : Int) (y8 : Int) (w : World) : (do eqGuard .eql 24 x y (.agg #[(Value.int .i64 x0), (Value.int .i64 x1), (Value.int .i64 x2), (Value.int .i64 x3), (Value.int .i64 x4), (Value.int .i64 x5), (Value.int .i64 x6), (Value.int .i64 x7), (Value.int .i64 x8)]) (.agg #[(Value.int .i64 y0), (Value.int .i64 y1), (Value.int .i64 y2), (Value.int .i64 y3), (Value.int .i64 y4), (Value.int .i64 y5), (Value.int .i64 y6), (Value.int .i64 y7), (Value.int .i64 y8)]); binOp .eql 24 (.agg #[(Value.int .i64 x0), (Value.int .i64 x1), (Value.int .i64 x2), (Value.int .i64 x3), (Value.int .i64 x4), (Value.int .i64 x5), (Value.int .i64 x6), (Value.int .i64 x7), (Value.int .i64 x8)]) (.agg #[(Value.int .i64 y0), (Value.int .i64 y1), (Value.int .i64 y2), (Value.int .i64 y3), (Value.int .i64 y4), (Value.int .i64 y5), (Value.int .i64 y6), (Value.int .i64 y7), (Value.int .i64 y8)])).run Try.prog w = .ok (.bool ((x0 == y0) && ((x1 == y1) && ((x2 == y2) && ((x3 == y3) && ((x4 == y4) && ((x5 == y5) && ((x6 == y6) && ((x7 == y7) && ((x8 == y8) && true)))))))))) w :=
  b_eql_agg F_guard_24 (eq_struct Try.underlying24 (by kernel_rfl) (eqf_cons rfl (part_cell F_agg_2 rfl) (part_cell F_agg_2 rfl) (eq_int Try.underlying2 _ _) (eqf_cons rfl (part_cell F_agg_2 rfl) (part_cell F_agg_2 rfl) (eq_int Try.underlying2 _ _) (eqf_cons rfl (part_cell F_agg_2 rfl) (part_cell F_agg_2 rfl) (eq_int Try.underlying2 _ _) (eqf_cons rfl (part_cell F_agg_2 rfl) (part_cell F_agg_2 rfl) (eq_int Try.underlying2 _ _) (eqf_cons rfl (part_cell F_agg_2 rfl) (part_cell F_agg_2 rfl) (eq_int Try.underlying2 _ _) (eqf_cons rfl (part_cell F_agg_2 rfl) (part_cell F_agg_2 rfl) (eq_int Try.underlying2 _ _) (eqf_cons rfl (part_cell F_agg_2 rfl) (part_cell F_agg_2 rfl) (eq_int Try.underlying2 _ _) (eqf_cons rfl (part_cell F_agg_3 rfl) (part_cell F_agg_3 rfl) (eq_int Try.underlying3 _ _) (eqf_cons rfl (part_cell F_agg_2 rfl) (part_cell F_agg_2 rfl) (eq_int Try.underlying2 _ _) eqf_nil)))))))))) w
theorem same_24_n {x y : Operand} (x0 : Int) (x1 : Int) (x2 : Int) (x3 : Int) (x4 : Int) (x5 : Int) (x6 : Int) (x7 : Int) (x8 : Int) (y0 : Int) (y1 : Int) (y2 : Int) (y3 : Int) (y4 : Int) (y5 : Int) (y6 : Int) (y7 : Int) (y8 : Int) (w : World) : (do eqGuard .neq 24 x y (.agg #[(Value.int .i64 x0), (Value.int .i64 x1), (Value.int .i64 x2), (Value.int .i64 x3), (Value.int .i64 x4), (Value.int .i64 x5), (Value.int .i64 x6), (Value.int .i64 x7), (Value.int .i64 x8)]) (.agg #[(Value.int .i64 y0), (Value.int .i64 y1), (Value.int .i64 y2), (Value.int .i64 y3), (Value.int .i64 y4), (Value.int .i64 y5), (Value.int .i64 y6), (Value.int .i64 y7), (Value.int .i64 y8)]); binOp .neq 24 (.agg #[(Value.int .i64 x0), (Value.int .i64 x1), (Value.int .i64 x2), (Value.int .i64 x3), (Value.int .i64 x4), (Value.int .i64 x5), (Value.int .i64 x6), (Value.int .i64 x7), (Value.int .i64 x8)]) (.agg #[(Value.int .i64 y0), (Value.int .i64 y1), (Value.int .i64 y2), (Value.int .i64 y3), (Value.int .i64 y4), (Value.int .i64 y5), (Value.int .i64 y6), (Value.int .i64 y7), (Value.int .i64 y8)])).run Try.prog w = .ok (.bool (!((x0 == y0) && ((x1 == y1) && ((x2 == y2) && ((x3 == y3) && ((x4 == y4) && ((x5 == y5) && ((x6 == y6) && ((x7 == y7) && ((x8 == y8) && true))))))))))) w :=
  b_neq_agg F_guard_24 (eq_struct Try.underlying24 (by kernel_rfl) (eqf_cons rfl (part_cell F_agg_2 rfl) (part_cell F_agg_2 rfl) (eq_int Try.underlying2 _ _) (eqf_cons rfl (part_cell F_agg_2 rfl) (part_cell F_agg_2 rfl) (eq_int Try.underlying2 _ _) (eqf_cons rfl (part_cell F_agg_2 rfl) (part_cell F_agg_2 rfl) (eq_int Try.underlying2 _ _) (eqf_cons rfl (part_cell F_agg_2 rfl) (part_cell F_agg_2 rfl) (eq_int Try.underlying2 _ _) (eqf_cons rfl (part_cell F_agg_2 rfl) (part_cell F_agg_2 rfl) (eq_int Try.underlying2 _ _) (eqf_cons rfl (part_cell F_agg_2 rfl) (part_cell F_agg_2 rfl) (eq_int Try.underlying2 _ _) (eqf_cons rfl (part_cell F_agg_2 rfl) (part_cell F_agg_2 rfl) (eq_int Try.underlying2 _ _) (eqf_cons rfl (part_cell F_agg_3 rfl) (part_cell F_agg_3 rfl) (eq_int Try.underlying3 _ _) (eqf_cons rfl (part_cell F_agg_2 rfl) (part_cell F_agg_2 rfl) (eq_int Try.underlying2 _ _) eqf_nil)))))))))) w
theorem F_field_108_2 : fieldB Try.prog 108 2 = some (2, 101) := by kernel_rfl
theorem F_size_101 : sizeB Try.prog 101 = some 1 := by kernel_rfl
theorem F_agg_101 : aggB Try.prog 101 = some false := by kernel_rfl
theorem F_slice_101 : sliceB Try.prog 101 = some 149 := by kernel_rfl
theorem F_size_149 : sizeB Try.prog 149 = some 6 := by kernel_rfl
theorem F_agg_149 : aggB Try.prog 149 = some true := by kernel_rfl
theorem F_agg_147 : aggB Try.prog 147 = some true := by kernel_rfl
theorem F_size_147 : sizeB Try.prog 147 = some 5 := by kernel_rfl
theorem F_guard_149 : Try.prog.eqGuardType Try.prog.depth 149 = false := by kernel_rfl
theorem same_149 {x y : Operand} (x0 : Int) (x1 : List UInt8) (x2 : List UInt8) (x3 : List UInt8) (x4 : List UInt8) (x5 : Int) (y0 : Int) (y1 : List UInt8) (y2 : List UInt8) (y3 : List UInt8) (y4 : List UInt8) (y5 : Int) (w : World) : (do eqGuard .eql 149 x y (.agg #[(Value.int .i64 x0), (str x1), (str x2), (str x3), (str x4), (Value.int .i64 x5)]) (.agg #[(Value.int .i64 y0), (str y1), (str y2), (str y3), (str y4), (Value.int .i64 y5)]); binOp .eql 149 (.agg #[(Value.int .i64 x0), (str x1), (str x2), (str x3), (str x4), (Value.int .i64 x5)]) (.agg #[(Value.int .i64 y0), (str y1), (str y2), (str y3), (str y4), (Value.int .i64 y5)])).run Try.prog w = .ok (.bool (((x0 == y0) && (((x1 == y1) && ((x2 == y2) && ((x3 == y3) && ((x4 == y4) && true)))) && true)) && ((x5 == y5) && true))) w :=
  b_eql_agg F_guard_149 (eq_struct Try.underlying149 (by kernel_rfl) (eqf_cons rfl (part_agg F_agg_147 F_size_147) (part_agg F_agg_147 F_size_147) (eq_struct Try.underlying147 (by kernel_rfl) (eqf_cons rfl (part_cell F_agg_2 rfl) (part_cell F_agg_2 rfl) (eq_int Try.underlying2 _ _) (eqf_cons rfl (part_agg F_agg_103 F_size_103) (part_agg F_agg_103 F_size_103) (eq_arr4 F_array_103 F_size_9 (part_cell F_agg_9 rfl) (part_cell F_agg_9 rfl) (part_cell F_agg_9 rfl) (part_cell F_agg_9 rfl) (part_cell F_agg_9 rfl) (part_cell F_agg_9 rfl) (part_cell F_agg_9 rfl) (part_cell F_agg_9 rfl) (eq_str Try.underlying9 _ _) (eq_str Try.underlying9 _ _) (eq_str Try.underlying9 _ _) (eq_str Try.underlying9 _ _)) eqf_nil))) (eqf_cons rfl (part_cell F_agg_2 rfl) (part_cell F_agg_2 rfl) (eq_int Try.underlying2 _ _) eqf_nil))) w
theorem same_149_n {x y : Operand} (x0 : Int) (x1 : List UInt8) (x2 : List UInt8) (x3 : List UInt8) (x4 : List UInt8) (x5 : Int) (y0 : Int) (y1 : List UInt8) (y2 : List UInt8) (y3 : List UInt8) (y4 : List UInt8) (y5 : Int) (w : World) : (do eqGuard .neq 149 x y (.agg #[(Value.int .i64 x0), (str x1), (str x2), (str x3), (str x4), (Value.int .i64 x5)]) (.agg #[(Value.int .i64 y0), (str y1), (str y2), (str y3), (str y4), (Value.int .i64 y5)]); binOp .neq 149 (.agg #[(Value.int .i64 x0), (str x1), (str x2), (str x3), (str x4), (Value.int .i64 x5)]) (.agg #[(Value.int .i64 y0), (str y1), (str y2), (str y3), (str y4), (Value.int .i64 y5)])).run Try.prog w = .ok (.bool (!(((x0 == y0) && (((x1 == y1) && ((x2 == y2) && ((x3 == y3) && ((x4 == y4) && true)))) && true)) && ((x5 == y5) && true)))) w :=
  b_neq_agg F_guard_149 (eq_struct Try.underlying149 (by kernel_rfl) (eqf_cons rfl (part_agg F_agg_147 F_size_147) (part_agg F_agg_147 F_size_147) (eq_struct Try.underlying147 (by kernel_rfl) (eqf_cons rfl (part_cell F_agg_2 rfl) (part_cell F_agg_2 rfl) (eq_int Try.underlying2 _ _) (eqf_cons rfl (part_agg F_agg_103 F_size_103) (part_agg F_agg_103 F_size_103) (eq_arr4 F_array_103 F_size_9 (part_cell F_agg_9 rfl) (part_cell F_agg_9 rfl) (part_cell F_agg_9 rfl) (part_cell F_agg_9 rfl) (part_cell F_agg_9 rfl) (part_cell F_agg_9 rfl) (part_cell F_agg_9 rfl) (part_cell F_agg_9 rfl) (eq_str Try.underlying9 _ _) (eq_str Try.underlying9 _ _) (eq_str Try.underlying9 _ _) (eq_str Try.underlying9 _ _)) eqf_nil))) (eqf_cons rfl (part_cell F_agg_2 rfl) (part_cell F_agg_2 rfl) (eq_int Try.underlying2 _ _) eqf_nil))) w
theorem F_call_107 : callB Try.prog 107 = true := by kernel_rfl
theorem F_field_108_5 : fieldB Try.prog 108 5 = some (26, 106) := by kernel_rfl
theorem F_size_106 : sizeB Try.prog 106 = some 1 := by kernel_rfl
theorem F_agg_106 : aggB Try.prog 106 = some false := by kernel_rfl
theorem F_slice_106 : sliceB Try.prog 106 = some 4 := by kernel_rfl
theorem F_call_108 : callB Try.prog 108 = true := by kernel_rfl
theorem F_call_106 : callB Try.prog 106 = true := by kernel_rfl
theorem F_call_105 : callB Try.prog 105 = true := by kernel_rfl
theorem F_call_94 : callB Try.prog 94 = true := by kernel_rfl
theorem F_call_73 : callB Try.prog 73 = true := by kernel_rfl
theorem F_zero_119 : zeroB Try.prog 119 = some [(Value.slice none 0 0)] := by kernel_rfl
theorem F_zero_127 : zeroB Try.prog 127 = some [(Value.int .i64 0), (Value.int .i64 0), (Value.int .i64 0), (Value.int .i64 0)] := by kernel_rfl
theorem F_array_127 : arrayB Try.prog 127 = some (4, 3) := by kernel_rfl
theorem F_size_127 : sizeB Try.prog 127 = some 4 := by kernel_rfl
theorem F_agg_127 : aggB Try.prog 127 = some true := by kernel_rfl
theorem F_call_80 : callB Try.prog 80 = true := by kernel_rfl
theorem F_zero_103 : zeroB Try.prog 103 = some [(str ([] : List UInt8)), (str ([] : List UInt8)), (str ([] : List UInt8)), (str ([] : List UInt8))] := by kernel_rfl
theorem F_call_81 : callB Try.prog 81 = true := by kernel_rfl
theorem F_slice_32 : sliceB Try.prog 32 = some 9 := by kernel_rfl
theorem F_zero_9 : zeroB Try.prog 9 = some [(str ([] : List UInt8))] := by kernel_rfl
theorem F_field_119_0 : fieldB Try.prog 119 0 = some (0, 32) := by kernel_rfl
theorem F_size_32 : sizeB Try.prog 32 = some 1 := by kernel_rfl
theorem F_agg_32 : aggB Try.prog 32 = some false := by kernel_rfl
theorem F_bytes_9 : bytesB Try.prog 9 = some 16 := by kernel_rfl
theorem F_call_74 : callB Try.prog 74 = true := by kernel_rfl
theorem F_zero_165 : zeroB Try.prog 165 = some (arrF (eI .u8) 20 (fun _ => 0)) := by kernel_rfl
theorem F_array_165 : arrayB Try.prog 165 = some (20, 5) := by kernel_rfl
theorem F_size_5 : sizeB Try.prog 5 = some 1 := by kernel_rfl
theorem F_slice_71 : sliceB Try.prog 71 = some 5 := by kernel_rfl
theorem F_call_99 : callB Try.prog 99 = true := by kernel_rfl
theorem F_call_78 : callB Try.prog 78 = true := by kernel_rfl
theorem F_call_82 : callB Try.prog 82 = true := by kernel_rfl
theorem F_call_63 : callB Try.prog 63 = true := by kernel_rfl
theorem F_call_70 : callB Try.prog 70 = true := by kernel_rfl
theorem F_call_57 : callB Try.prog 57 = true := by kernel_rfl
theorem F_call_28 : callB Try.prog 28 = true := by kernel_rfl
theorem F_call_40 : callB Try.prog 40 = true := by kernel_rfl
theorem F_call_62 : callB Try.prog 62 = true := by kernel_rfl
theorem F_field_73_1 : fieldB Try.prog 73 1 = some (1, 71) := by kernel_rfl
theorem F_size_71 : sizeB Try.prog 71 = some 1 := by kernel_rfl
theorem F_agg_71 : aggB Try.prog 71 = some false := by kernel_rfl
theorem F_zero1_5 : zero1B Try.prog 5 = some (.int .u8 0) := by kernel_rfl
theorem F_bytes_5 : bytesB Try.prog 5 = some 1 := by kernel_rfl
theorem F_call_39 : callB Try.prog 39 = true := by kernel_rfl
theorem F_call_41 : callB Try.prog 41 = true := by kernel_rfl
theorem F_call_11 : callB Try.prog 11 = true := by kernel_rfl
theorem F_call_29 : callB Try.prog 29 = true := by kernel_rfl
theorem F_agg_5 : aggB Try.prog 5 = some false := by kernel_rfl
theorem F_call_30 : callB Try.prog 30 = true := by kernel_rfl
theorem F_call_31 : callB Try.prog 31 = true := by kernel_rfl
theorem F_call_9 : callB Try.prog 9 = true := by kernel_rfl
theorem F_call_8 : callB Try.prog 8 = true := by kernel_rfl
theorem F_call_18 : callB Try.prog 18 = true := by kernel_rfl
theorem F_field_40_0 : fieldB Try.prog 40 0 = some (0, 3) := by kernel_rfl
theorem F_agg_40 : aggB Try.prog 40 = some true := by kernel_rfl
theorem F_size_40 : sizeB Try.prog 40 = some 2 := by kernel_rfl
theorem F_zero_40 : zeroB Try.prog 40 = some [(Value.int .i64 0), (Value.int .i64 0)] := by kernel_rfl
theorem F_places_40 : placesB Try.prog 40 = some [(0, 1), (1, 1)] := by kernel_rfl
theorem F_call_65 : callB Try.prog 65 = true := by kernel_rfl
theorem F_call_85 : callB Try.prog 85 = true := by kernel_rfl
theorem F_call_66 : callB Try.prog 66 = true := by kernel_rfl
theorem F_call_50 : callB Try.prog 50 = true := by kernel_rfl
theorem F_field_40_1 : fieldB Try.prog 40 1 = some (1, 2) := by kernel_rfl
theorem F_call_46 : callB Try.prog 46 = true := by kernel_rfl
theorem F_call_84 : callB Try.prog 84 = true := by kernel_rfl
theorem F_call_83 : callB Try.prog 83 = true := by kernel_rfl
theorem F_call_64 : callB Try.prog 64 = true := by kernel_rfl
theorem F_call_47 : callB Try.prog 47 = true := by kernel_rfl
theorem F_zero_112 : zeroB Try.prog 112 = some [(Value.int .i64 0), (Value.int .i64 0), (Value.int .i64 0), (Value.int .i64 0)] := by kernel_rfl
theorem F_array_112 : arrayB Try.prog 112 = some (4, 2) := by kernel_rfl
theorem F_size_112 : sizeB Try.prog 112 = some 4 := by kernel_rfl
theorem F_call_51 : callB Try.prog 51 = true := by kernel_rfl
theorem F_call_48 : callB Try.prog 48 = true := by kernel_rfl
theorem F_call_20 : callB Try.prog 20 = true := by kernel_rfl
theorem F_call_21 : callB Try.prog 21 = true := by kernel_rfl
theorem ossuaryref18_Plain.spec (r : (Int × Int × Int × Int × Int × Int × Int × Int × Int)) (H : ossuaryref18_Plain = r) : FnSpec Try.prog 25 [] [] (fun v M => v = (agg #[I r.1,I r.2.1,I r.2.2.1,I r.2.2.2.1,I r.2.2.2.2.1,I r.2.2.2.2.2.1,I r.2.2.2.2.2.2.1,I r.2.2.2.2.2.2.2.1,I r.2.2.2.2.2.2.2.2]) ∧ M = []) := by
 unfold ossuaryref18_Plain at H
 refine spec_of Try.func25 rfl 2 rfl (Nat.le_of_ble_eq_true rfl) fun F w0 => ?_
 let C0_ : List Value := [I 2000,I 1,I 2,I 24,I 48,I 2,I 60,I 16,I 4000]
 show Ent (St 2 w0 F [] []) _
 refine ent_seq (ent_region ?_)
 refine ent_op (ot_alloc F_zero_24) rfl rfl rfl ?_
 rintro _ _ ⟨b2,rfl,rfl⟩
 refine ent_nil (ent_seq (ent_region (ent_value (ov_build (is := [0,1,2,3,4,5,6,7,8]) (xs := [.const (I 2000),.const (I 1),.const (I 2),.const (I 24),.const (I 48),.const (I 2),.const (I 60),.const (I 16),.const (I 4000)]) (vs := C0_) rfl rfl (build_struct (cs := C0_) F_zero_24 F_places_24 rfl)) rfl rfl rfl ?_)))
 refine ent_op0 (ot_storeG (cs := [I 0,I 0,I 0,I 0,I 0,I 0,I 0,I 0,I 0]) (cs' := C0_) (us := C0_) (L' := [box b2 24 C0_]) 0 rfl rfl rfl (one_all rfl) F_size_24 rfl rfl (by simp [C0_]) rfl) rfl rfl ?_
 rintro _ _ rfl
 refine ent_nil (ent_retc ?_)
 subst H
 exact ret_memp [] (by decide) rfl (vs := [agg #[I 2000,I 1,I 2,I 24,I 48,I 2,I 60,I 16,I 4000]]) rfl ⟨⟨_,C0_,rfl,reads_boxW (i := 0) rfl,.inl ⟨F_agg_24,F_size_24,rfl⟩⟩,trivial⟩ _ rfl ⟨rfl,rfl⟩

theorem policy_bounds.spec (r : (Int × Int × Int × Int × Int × Int × Int × Int × Int × Int × Int × Int × Int × Int × Int × Int × Int × Int)) (H : policy_bounds = r) : FnSpec Try.prog 60 [] [] (fun v M => v = (agg #[I r.1,I r.2.1,I r.2.2.1,I r.2.2.2.1,I r.2.2.2.2.1,I r.2.2.2.2.2.1,I r.2.2.2.2.2.2.1,I r.2.2.2.2.2.2.2.1,I r.2.2.2.2.2.2.2.2.1,I r.2.2.2.2.2.2.2.2.2.1,I r.2.2.2.2.2.2.2.2.2.2.1,I r.2.2.2.2.2.2.2.2.2.2.2.1,I r.2.2.2.2.2.2.2.2.2.2.2.2.1,I r.2.2.2.2.2.2.2.2.2.2.2.2.2.1,I r.2.2.2.2.2.2.2.2.2.2.2.2.2.2.1,I r.2.2.2.2.2.2.2.2.2.2.2.2.2.2.2.1,I r.2.2.2.2.2.2.2.2.2.2.2.2.2.2.2.2.1,I r.2.2.2.2.2.2.2.2.2.2.2.2.2.2.2.2.2]) ∧ M = []) := by
 unfold policy_bounds at H
 refine spec_of Try.func60 rfl 11 rfl (Nat.le_of_ble_eq_true rfl) fun F w0 => ?_
 let C0_ : List Value := [I 1,I 1048576,I 0,I 1048576,I 0,I 1048576,I 0,I 1048576,I 0,I 1048576,I 1,I 1048576,I 1,I 1048576,I 1,I 64,I 100,I 1048576]
 show Ent (St 11 w0 F [] []) _
 refine ent_seq (ent_region ?_)
 refine ent_op (ot_alloc F_zero_96) rfl rfl rfl ?_
 rintro _ _ ⟨b2,rfl,rfl⟩
 refine ent_nil (ent_seq (ent_region (ent_value (ov_build (is := [0,1]) (xs := [.const (I 1),.const (I 1048576)]) (vs := [I 1,I 1048576]) rfl rfl (build_struct (cs := [I 1,I 1048576]) F_zero_95 F_places_95 rfl)) rfl rfl rfl (ent_value (ov_build (is := [0,1]) (xs := [.const (I 0),.const (I 1048576)]) (vs := [I 0,I 1048576]) rfl rfl (build_struct (cs := [I 0,I 1048576]) F_zero_95 F_places_95 rfl)) rfl rfl rfl (ent_value (ov_build (is := [0,1]) (xs := [.const (I 0),.const (I 1048576)]) (vs := [I 0,I 1048576]) rfl rfl (build_struct (cs := [I 0,I 1048576]) F_zero_95 F_places_95 rfl)) rfl rfl rfl (ent_value (ov_build (is := [0,1]) (xs := [.const (I 0),.const (I 1048576)]) (vs := [I 0,I 1048576]) rfl rfl (build_struct (cs := [I 0,I 1048576]) F_zero_95 F_places_95 rfl)) rfl rfl rfl (ent_value (ov_build (is := [0,1]) (xs := [.const (I 0),.const (I 1048576)]) (vs := [I 0,I 1048576]) rfl rfl (build_struct (cs := [I 0,I 1048576]) F_zero_95 F_places_95 rfl)) rfl rfl rfl (ent_value (ov_build (is := [0,1]) (xs := [.const (I 1),.const (I 1048576)]) (vs := [I 1,I 1048576]) rfl rfl (build_struct (cs := [I 1,I 1048576]) F_zero_95 F_places_95 rfl)) rfl rfl rfl (ent_value (ov_build (is := [0,1]) (xs := [.const (I 1),.const (I 1048576)]) (vs := [I 1,I 1048576]) rfl rfl (build_struct (cs := [I 1,I 1048576]) F_zero_95 F_places_95 rfl)) rfl rfl rfl (ent_value (ov_build (is := [0,1]) (xs := [.const (I 1),.const (I 64)]) (vs := [I 1,I 64]) rfl rfl (build_struct (cs := [I 1,I 64]) F_zero_95 F_places_95 rfl)) rfl rfl rfl (ent_value (ov_build (is := [0,1]) (xs := [.const (I 100),.const (I 1048576)]) (vs := [I 100,I 1048576]) rfl rfl (build_struct (cs := [I 100,I 1048576]) F_zero_95 F_places_95 rfl)) rfl rfl rfl ?_)))))))))))
 refine ent_value (ov_build (is := [0,1,2,3,4,5,6,7,8]) (xs := [.tmp 1,.tmp 2,.tmp 3,.tmp 4,.tmp 5,.tmp 6,.tmp 7,.tmp 8,.tmp 9]) (vs := [agg #[I 1,I 1048576],agg #[I 0,I 1048576],agg #[I 0,I 1048576],agg #[I 0,I 1048576],agg #[I 0,I 1048576],agg #[I 1,I 1048576],agg #[I 1,I 1048576],agg #[I 1,I 64],agg #[I 100,I 1048576]]) rfl rfl (build_array (cs := C0_) F_zero_96 F_array_96 F_size_95 (by simp [C0_,Instr.fill,cells_int,cells_bool,cells_str,cells_func,cells_slice,cells_ptr,cells_nilFunc,cells_agg,]))) rfl rfl rfl ?_
 refine ent_op0 (ot_storeG (cs := [I 0,I 0,I 0,I 0,I 0,I 0,I 0,I 0,I 0,I 0,I 0,I 0,I 0,I 0,I 0,I 0,I 0,I 0]) (cs' := C0_) (us := C0_) (L' := [box b2 96 C0_]) 0 rfl rfl rfl (one_all rfl) F_size_96 rfl rfl (by simp [C0_]) rfl) rfl rfl ?_
 rintro _ _ rfl
 refine ent_nil (ent_retc ?_)
 subst H
 exact ret_memp [] (by decide) rfl (vs := [agg #[I 1,I 1048576,I 0,I 1048576,I 0,I 1048576,I 0,I 1048576,I 0,I 1048576,I 1,I 1048576,I 1,I 1048576,I 1,I 64,I 100,I 1048576]]) rfl ⟨⟨_,C0_,rfl,reads_boxW (i := 0) rfl,.inl ⟨F_agg_96,F_size_96,rfl⟩⟩,trivial⟩ _ rfl ⟨rfl,rfl⟩

theorem policy_numbers.spec (a0_0 a0_1 : Int) (a0_2 a0_3 : Int) (a0_4 a0_5 : Int) (a0_6 a0_7 a0_8 : Int) (r : (Int × Int × Int × Int × Int × Int × Int × Int × Int)) (H : policy_numbers a0_0 a0_1 a0_2 a0_3 a0_4 a0_5 a0_6 a0_7 a0_8 = r) : FnSpec Try.prog 61 [agg #[I a0_0,I a0_1,I a0_2,I a0_3,I a0_4,I a0_5,I a0_6,I a0_7,I a0_8]] [] (fun v M => v = (agg #[I r.1,I r.2.1,I r.2.2.1,I r.2.2.2.1,I r.2.2.2.2.1,I r.2.2.2.2.2.1,I r.2.2.2.2.2.2.1,I r.2.2.2.2.2.2.2.1,I r.2.2.2.2.2.2.2.2]) ∧ M = []) := by
 unfold policy_numbers at H
 refine spec_of Try.func61 rfl 22 rfl (Nat.le_of_ble_eq_true rfl) fun F w0 => ?_
 let C1_ : Value := agg #[I a0_0,I a0_1,I a0_2,I a0_3,I a0_4,I a0_5,I a0_6,I a0_7,I a0_8]
 let C0_ : List Value := [I a0_0,I a0_1,I a0_2,I a0_3,I a0_4,I a0_5,I a0_6,I a0_7,I a0_8]
 show Ent (St 22 w0 F [(0,C1_)] []) _
 refine ent_seq (ent_region ?_)
 refine ent_op (ot_box (cs := C0_) rfl rfl) rfl rfl rfl ?_
 rintro _ _ ⟨b3,rfl,rfl⟩
 refine ent_op (ot_alloc F_zero_98) rfl rfl rfl ?_
 rintro _ _ ⟨b4,rfl,rfl⟩
 refine ent_nil (ent_seq (ent_region (ent_value (ov_fieldAddr (sz := 0) (o := 0) rfl F_field_24_0 F_size_2) rfl rfl rfl (ent_value (ov_load (v := (I a0_0)) rfl F_agg_2 (reads_box1 (i := 1) rfl rfl)) rfl rfl rfl (ent_value (ov_fieldAddr (sz := 0) (o := 0) rfl F_field_24_1 F_size_2) rfl rfl rfl (ent_value (ov_load (v := (I a0_1)) rfl F_agg_2 (reads_box1 (i := 1) rfl rfl)) rfl rfl rfl (ent_value (ov_fieldAddr (sz := 0) (o := 0) rfl F_field_24_2 F_size_2) rfl rfl rfl (ent_value (ov_load (v := (I a0_2)) rfl F_agg_2 (reads_box1 (i := 1) rfl rfl)) rfl rfl rfl (ent_value (ov_fieldAddr (sz := 0) (o := 0) rfl F_field_24_3 F_size_2) rfl rfl rfl (ent_value (ov_load (v := (I a0_3)) rfl F_agg_2 (reads_box1 (i := 1) rfl rfl)) rfl rfl rfl (ent_value (ov_fieldAddr (sz := 0) (o := 0) rfl F_field_24_4 F_size_2) rfl rfl rfl ?_)))))))))))
 refine ent_value (ov_load (v := (I a0_4)) rfl F_agg_2 (reads_box1 (i := 1) rfl rfl)) rfl rfl rfl (ent_value (ov_fieldAddr (sz := 0) (o := 0) rfl F_field_24_5 F_size_2) rfl rfl rfl (ent_value (ov_load (v := (I a0_5)) rfl F_agg_2 (reads_box1 (i := 1) rfl rfl)) rfl rfl rfl (ent_value (ov_fieldAddr (sz := 0) (o := 0) rfl F_field_24_6 F_size_2) rfl rfl rfl (ent_value (ov_load (v := (I a0_6)) rfl F_agg_2 (reads_box1 (i := 1) rfl rfl)) rfl rfl rfl (ent_value (ov_fieldAddr (sz := 0) (o := 0) rfl F_field_24_7 F_size_3) rfl rfl rfl (ent_value (ov_load (v := (I a0_7)) rfl F_agg_3 (reads_box1 (i := 1) rfl rfl)) rfl rfl rfl (ent_value (ov_fieldAddr (sz := 0) (o := 0) rfl F_field_24_8 F_size_2) rfl rfl rfl (ent_value (ov_load (v := (I a0_8)) rfl F_agg_2 (reads_box1 (i := 1) rfl rfl)) rfl rfl rfl ?_))))))))
 refine ent_value (ov_build (is := [0,1,2,3,4,5,6,7,8]) (xs := [.tmp 4,.tmp 6,.tmp 8,.tmp 10,.tmp 12,.tmp 14,.tmp 16,.tmp 18,.tmp 20]) (vs := C0_) rfl rfl (build_array (cs := C0_) F_zero_98 F_array_98 F_size_2 (by simp [C1_,C0_,Instr.fill,cells_int,cells_bool,cells_str,cells_func,cells_slice,cells_ptr,cells_nilFunc,cells_agg,]))) rfl rfl rfl ?_
 refine ent_op0 (ot_storeG (cs := [I 0,I 0,I 0,I 0,I 0,I 0,I 0,I 0,I 0]) (cs' := C0_) (us := C0_) (L' := [box b4 98 C0_,box b3 24 C0_]) 0 rfl rfl rfl (one_all rfl) F_size_98 rfl rfl (by simp [C1_,C0_]) rfl) rfl rfl ?_
 rintro _ _ rfl
 refine ent_nil (ent_retc ?_)
 subst H
 exact ret_memp [] (by decide) rfl (vs := [C1_]) rfl ⟨⟨_,C0_,rfl,reads_boxW (i := 0) rfl,.inl ⟨F_agg_98,F_size_98,rfl⟩⟩,trivial⟩ _ rfl ⟨rfl,rfl⟩

theorem policy_Check.spec (a0_0 a0_1 : Int) (a0_2 a0_3 : Int) (a0_4 a0_5 : Int) (a0_6 a0_7 : Int) (a0_8 r : Int) (H : policy_Check a0_0 a0_1 a0_2 a0_3 a0_4 a0_5 a0_6 a0_7 a0_8 = some r) : FnSpec Try.prog 37 [agg #[I a0_0,I a0_1,I a0_2,I a0_3,I a0_4,I a0_5,I a0_6,I a0_7,I a0_8]] [] (fun v M => v = (I r) ∧ M = []) := by
 unfold policy_Check at H
 refine spec_of Try.func37 rfl 28 rfl (Nat.le_of_ble_eq_true rfl) fun F w0 => ?_
 let C1_ : List Value := [I a0_0,I a0_1,I a0_2,I a0_3,I a0_4,I a0_5,I a0_6,I a0_7,I a0_8]
 show Ent (St 28 w0 F [(0,agg #[I a0_0,I a0_1,I a0_2,I a0_3,I a0_4,I a0_5,I a0_6,I a0_7,I a0_8])] []) _
 refine ent_seq (ent_region ?_)
 refine ent_op (ot_box (cs := C1_) rfl rfl) rfl rfl rfl ?_
 rintro _ _ ⟨b3,rfl,rfl⟩
 refine ent_value (ov_assign rfl) rfl rfl rfl (ent_nil (ent_seq (ent_region ?_)))
 obtain ⟨x4,h4,H⟩ := thn_elim H
 let C0_ : List Value := [I x4.1,I x4.2.1,I x4.2.2.1,I x4.2.2.2.1,I x4.2.2.2.2.1,I x4.2.2.2.2.2.1,I x4.2.2.2.2.2.2.1,I x4.2.2.2.2.2.2.2.1,I x4.2.2.2.2.2.2.2.2.1,I x4.2.2.2.2.2.2.2.2.2.1,I x4.2.2.2.2.2.2.2.2.2.2.1,I x4.2.2.2.2.2.2.2.2.2.2.2.1,I x4.2.2.2.2.2.2.2.2.2.2.2.2.1,I x4.2.2.2.2.2.2.2.2.2.2.2.2.2.1,I x4.2.2.2.2.2.2.2.2.2.2.2.2.2.2.1,I x4.2.2.2.2.2.2.2.2.2.2.2.2.2.2.2.1,I x4.2.2.2.2.2.2.2.2.2.2.2.2.2.2.2.2.1,I x4.2.2.2.2.2.2.2.2.2.2.2.2.2.2.2.2.2]
 refine ent_op (ot_call0 (first := []) (cap := []) (xs := []) rfl rfl F_call_60 rfl (policy_bounds.spec _ h4)) rfl rfl rfl ?_
 rintro _ _ ⟨rfl,rfl⟩
 refine ent_op (ot_alloc F_zero_96) rfl rfl rfl ?_
 rintro _ _ ⟨b4,rfl,rfl⟩
 refine ent_op0 (ot_storeG (cs := [I 0,I 0,I 0,I 0,I 0,I 0,I 0,I 0,I 0,I 0,I 0,I 0,I 0,I 0,I 0,I 0,I 0,I 0]) (cs' := C0_) (us := C0_) (L' := [box b4 96 C0_,box b3 24 C1_]) 0 rfl rfl rfl (one_all rfl) F_size_96 rfl rfl (by simp [C1_,C0_]) rfl) rfl rfl ?_
 rintro _ _ rfl
 refine ent_nil (ent_seq (ent_seq (ent_region (ent_value (ov_load_agg (vs := C1_) rfl F_agg_24 F_size_24 (reads_boxW (i := 1) rfl)) rfl rfl rfl ?_))))
 obtain ⟨x6,h6,H⟩ := thn_elim H
 refine ent_op (ot_call0 (first := []) (cap := []) (xs := [.tmp 7]) rfl rfl F_call_61 rfl (policy_numbers.spec a0_0 a0_1 a0_2 a0_3 a0_4 a0_5 a0_6 a0_7 a0_8 _ h6)) rfl rfl rfl ?_
 rintro _ _ ⟨rfl,rfl⟩
 refine ent_value (ov_move rfl) rfl rfl rfl (ent_nil (ent_block (ent_rounds 10 (ent_round (ent_seq (ent_region (ent_value (ov_bin rfl rfl (b_lss _ _ _)) rfl rfl rfl (ent_nil (ent_seq (ent_cond_true rfl rfl (ent_skip ?_)))))))))))
 refine ent_seq (ent_block (ent_seq (ent_region (ent_value (ov_move rfl) rfl rfl rfl (ent_value (ov_indexAggN rfl rfl F_array_98 F_size_2 F_agg_2 (by decide) (by decide) rfl) rfl rfl rfl (ent_value (ov_assign rfl) rfl rfl rfl (ent_value (ov_assign rfl) rfl rfl rfl (ent_nil (ent_seq (ent_region (ent_value (ov_move rfl) rfl rfl rfl ?_)))))))))))
 refine ent_value (ov_move rfl) rfl rfl rfl ?_
 obtain ⟨c210,H⟩ := gdT H
 refine ent_value (ov_indexArr (o := 0) rfl rfl F_array_96 F_size_95 (by decide) c210) rfl rfl rfl (ent_value (ov_fieldAddr (sz := 0) (o := 0) rfl F_field_95_0 F_size_2) rfl rfl rfl (ent_value (ov_load (v := (I x4.1)) rfl F_agg_2 (reads_box1 (i := 0) rfl rfl)) rfl rfl rfl (ent_value (ov_bin rfl rfl (b_lss _ _ _)) rfl rfl rfl (ent_value (ov_move rfl) rfl rfl rfl ?_))))
 refine htT H (fun c211 H => ?_) fun c211 H => ?_
 ·refine ent_off rfl rfl rfl (decide_eq_true c211) rfl rfl ?_
  refine ent_off rfl rfl rfl (decide_eq_true c211) rfl rfl ?_
  refine ent_off rfl rfl rfl (decide_eq_true c211) rfl rfl ?_
  refine ent_off rfl rfl rfl (decide_eq_true c211) rfl rfl ?_
  refine ent_off rfl rfl rfl (decide_eq_true c211) rfl rfl ?_
  refine ent_off rfl rfl rfl (decide_eq_true c211) rfl rfl ?_
  refine ent_value (ov_pick rfl rfl rfl (pick_t (decide_eq_true c211))) rfl rfl rfl (ent_nil (ent_cond_true rfl rfl (ent_seq (ent_region (ent_value (ov_assign rfl) rfl rfl rfl (ent_nil (ent_retc ?_)))))))
  cases H
  refine ent_pick [] (by decide) rfl ?_
  exact ret_tmp rfl rfl ⟨rfl,rfl⟩
 refine ent_value_on (ov_move rfl) rfl rfl rfl (decide_eq_false c211) rfl rfl ?_
 refine ent_value_on (ov_move rfl) rfl rfl rfl (decide_eq_false c211) rfl rfl ?_
 refine ent_value_on (ov_indexArr (o := 0) rfl rfl F_array_96 F_size_95 (by decide) c210) rfl rfl rfl (decide_eq_false c211) rfl rfl ?_
 refine ent_value_on (ov_fieldAddr (sz := 0) (o := 0) rfl F_field_95_1 F_size_2) rfl rfl rfl (decide_eq_false c211) rfl rfl ?_
 refine ent_value_on (ov_load (v := (I x4.2.1)) rfl F_agg_2 (reads_box1 (i := 0) rfl rfl)) rfl rfl rfl (decide_eq_false c211) rfl rfl ?_
 refine ent_value_on (ov_bin rfl rfl (b_gtr _ _ _)) rfl rfl rfl (decide_eq_false c211) rfl rfl ?_
 refine ent_value (ov_pick rfl rfl rfl (pick_f (decide_eq_false c211))) rfl rfl rfl (ent_nil ?_)
 refine htT H (fun c212 H => ?_) fun c212 H => ?_
 ·refine ent_cond_true rfl (decide_eq_true c212) (ent_seq (ent_region (ent_value (ov_assign rfl) rfl rfl rfl (ent_nil (ent_retc ?_)))))
  cases H
  refine ent_pick [] (by decide) rfl ?_
  exact ret_tmp rfl rfl ⟨rfl,rfl⟩
 refine ent_cond_false rfl (decide_eq_false c212) (ent_skip (ent_region (ent_value (ov_binL (m' := 1) rfl rfl (b_add _ _ _) (by decide)) rfl rfl rfl (ent_value (ov_move rfl) rfl rfl rfl (ent_nil (ent_round (ent_seq (ent_region (ent_value (ov_bin rfl rfl (b_lss _ _ _)) rfl rfl rfl (ent_nil (ent_seq ?_)))))))))))
 refine ent_cond_true rfl rfl (ent_skip (ent_seq (ent_block (ent_seq (ent_region (ent_value (ov_move rfl) rfl rfl rfl (ent_value (ov_indexAggN rfl rfl F_array_98 F_size_2 F_agg_2 (by decide) (by decide) rfl) rfl rfl rfl (ent_value (ov_assign rfl) rfl rfl rfl (ent_value (ov_assign rfl) rfl rfl rfl (ent_nil (ent_seq ?_)))))))))))
 refine ent_region (ent_value (ov_move rfl) rfl rfl rfl (ent_value (ov_move rfl) rfl rfl rfl ?_))
 obtain ⟨c216,H⟩ := gdT H
 refine ent_value (ov_indexArr (o := 0) rfl rfl F_array_96 F_size_95 (by decide) c216) rfl rfl rfl (ent_value (ov_fieldAddr (sz := 0) (o := 2) rfl F_field_95_0 F_size_2) rfl rfl rfl (ent_value (ov_load (v := (I x4.2.2.1)) rfl F_agg_2 (reads_box1 (i := 0) rfl rfl)) rfl rfl rfl (ent_value (ov_bin rfl rfl (b_lss _ _ _)) rfl rfl rfl (ent_value (ov_move rfl) rfl rfl rfl ?_))))
 refine htT H (fun c217 H => ?_) fun c217 H => ?_
 ·refine ent_off rfl rfl rfl (decide_eq_true c217) rfl rfl ?_
  refine ent_off rfl rfl rfl (decide_eq_true c217) rfl rfl ?_
  refine ent_off rfl rfl rfl (decide_eq_true c217) rfl rfl ?_
  refine ent_off rfl rfl rfl (decide_eq_true c217) rfl rfl ?_
  refine ent_off rfl rfl rfl (decide_eq_true c217) rfl rfl ?_
  refine ent_off rfl rfl rfl (decide_eq_true c217) rfl rfl ?_
  refine ent_value (ov_pick rfl rfl rfl (pick_t (decide_eq_true c217))) rfl rfl rfl (ent_nil (ent_cond_true rfl rfl (ent_seq (ent_region (ent_value (ov_assign rfl) rfl rfl rfl (ent_nil (ent_retc ?_)))))))
  cases H
  refine ent_pick [] (by decide) rfl ?_
  exact ret_tmp rfl rfl ⟨rfl,rfl⟩
 refine ent_value_on (ov_move rfl) rfl rfl rfl (decide_eq_false c217) rfl rfl ?_
 refine ent_value_on (ov_move rfl) rfl rfl rfl (decide_eq_false c217) rfl rfl ?_
 refine ent_value_on (ov_indexArr (o := 0) rfl rfl F_array_96 F_size_95 (by decide) c216) rfl rfl rfl (decide_eq_false c217) rfl rfl ?_
 refine ent_value_on (ov_fieldAddr (sz := 0) (o := 2) rfl F_field_95_1 F_size_2) rfl rfl rfl (decide_eq_false c217) rfl rfl ?_
 refine ent_value_on (ov_load (v := (I x4.2.2.2.1)) rfl F_agg_2 (reads_box1 (i := 0) rfl rfl)) rfl rfl rfl (decide_eq_false c217) rfl rfl ?_
 refine ent_value_on (ov_bin rfl rfl (b_gtr _ _ _)) rfl rfl rfl (decide_eq_false c217) rfl rfl ?_
 refine ent_value (ov_pick rfl rfl rfl (pick_f (decide_eq_false c217))) rfl rfl rfl (ent_nil ?_)
 refine htT H (fun c218 H => ?_) fun c218 H => ?_
 ·refine ent_cond_true rfl (decide_eq_true c218) (ent_seq (ent_region (ent_value (ov_assign rfl) rfl rfl rfl (ent_nil (ent_retc ?_)))))
  cases H
  refine ent_pick [] (by decide) rfl ?_
  exact ret_tmp rfl rfl ⟨rfl,rfl⟩
 refine ent_cond_false rfl (decide_eq_false c218) (ent_skip (ent_region (ent_value (ov_binL (m' := 2) rfl rfl (b_add _ _ _) (by decide)) rfl rfl rfl (ent_value (ov_move rfl) rfl rfl rfl (ent_nil (ent_round (ent_seq (ent_region (ent_value (ov_bin rfl rfl (b_lss _ _ _)) rfl rfl rfl (ent_nil (ent_seq ?_)))))))))))
 refine ent_cond_true rfl rfl (ent_skip (ent_seq (ent_block (ent_seq (ent_region (ent_value (ov_move rfl) rfl rfl rfl (ent_value (ov_indexAggN rfl rfl F_array_98 F_size_2 F_agg_2 (by decide) (by decide) rfl) rfl rfl rfl (ent_value (ov_assign rfl) rfl rfl rfl (ent_value (ov_assign rfl) rfl rfl rfl (ent_nil (ent_seq ?_)))))))))))
 refine ent_region (ent_value (ov_move rfl) rfl rfl rfl (ent_value (ov_move rfl) rfl rfl rfl ?_))
 obtain ⟨c222,H⟩ := gdT H
 refine ent_value (ov_indexArr (o := 0) rfl rfl F_array_96 F_size_95 (by decide) c222) rfl rfl rfl (ent_value (ov_fieldAddr (sz := 0) (o := 4) rfl F_field_95_0 F_size_2) rfl rfl rfl (ent_value (ov_load (v := (I x4.2.2.2.2.1)) rfl F_agg_2 (reads_box1 (i := 0) rfl rfl)) rfl rfl rfl (ent_value (ov_bin rfl rfl (b_lss _ _ _)) rfl rfl rfl (ent_value (ov_move rfl) rfl rfl rfl ?_))))
 refine htT H (fun c223 H => ?_) fun c223 H => ?_
 ·refine ent_off rfl rfl rfl (decide_eq_true c223) rfl rfl ?_
  refine ent_off rfl rfl rfl (decide_eq_true c223) rfl rfl ?_
  refine ent_off rfl rfl rfl (decide_eq_true c223) rfl rfl ?_
  refine ent_off rfl rfl rfl (decide_eq_true c223) rfl rfl ?_
  refine ent_off rfl rfl rfl (decide_eq_true c223) rfl rfl ?_
  refine ent_off rfl rfl rfl (decide_eq_true c223) rfl rfl ?_
  refine ent_value (ov_pick rfl rfl rfl (pick_t (decide_eq_true c223))) rfl rfl rfl (ent_nil (ent_cond_true rfl rfl (ent_seq (ent_region (ent_value (ov_assign rfl) rfl rfl rfl (ent_nil (ent_retc ?_)))))))
  cases H
  refine ent_pick [] (by decide) rfl ?_
  exact ret_tmp rfl rfl ⟨rfl,rfl⟩
 refine ent_value_on (ov_move rfl) rfl rfl rfl (decide_eq_false c223) rfl rfl ?_
 refine ent_value_on (ov_move rfl) rfl rfl rfl (decide_eq_false c223) rfl rfl ?_
 refine ent_value_on (ov_indexArr (o := 0) rfl rfl F_array_96 F_size_95 (by decide) c222) rfl rfl rfl (decide_eq_false c223) rfl rfl ?_
 refine ent_value_on (ov_fieldAddr (sz := 0) (o := 4) rfl F_field_95_1 F_size_2) rfl rfl rfl (decide_eq_false c223) rfl rfl ?_
 refine ent_value_on (ov_load (v := (I x4.2.2.2.2.2.1)) rfl F_agg_2 (reads_box1 (i := 0) rfl rfl)) rfl rfl rfl (decide_eq_false c223) rfl rfl ?_
 refine ent_value_on (ov_bin rfl rfl (b_gtr _ _ _)) rfl rfl rfl (decide_eq_false c223) rfl rfl ?_
 refine ent_value (ov_pick rfl rfl rfl (pick_f (decide_eq_false c223))) rfl rfl rfl (ent_nil ?_)
 refine htT H (fun c224 H => ?_) fun c224 H => ?_
 ·refine ent_cond_true rfl (decide_eq_true c224) (ent_seq (ent_region (ent_value (ov_assign rfl) rfl rfl rfl (ent_nil (ent_retc ?_)))))
  cases H
  refine ent_pick [] (by decide) rfl ?_
  exact ret_tmp rfl rfl ⟨rfl,rfl⟩
 refine ent_cond_false rfl (decide_eq_false c224) (ent_skip (ent_region (ent_value (ov_binL (m' := 3) rfl rfl (b_add _ _ _) (by decide)) rfl rfl rfl (ent_value (ov_move rfl) rfl rfl rfl (ent_nil (ent_round (ent_seq (ent_region (ent_value (ov_bin rfl rfl (b_lss _ _ _)) rfl rfl rfl (ent_nil (ent_seq ?_)))))))))))
 refine ent_cond_true rfl rfl (ent_skip (ent_seq (ent_block (ent_seq (ent_region (ent_value (ov_move rfl) rfl rfl rfl (ent_value (ov_indexAggN rfl rfl F_array_98 F_size_2 F_agg_2 (by decide) (by decide) rfl) rfl rfl rfl (ent_value (ov_assign rfl) rfl rfl rfl (ent_value (ov_assign rfl) rfl rfl rfl (ent_nil (ent_seq ?_)))))))))))
 refine ent_region (ent_value (ov_move rfl) rfl rfl rfl (ent_value (ov_move rfl) rfl rfl rfl ?_))
 obtain ⟨c228,H⟩ := gdT H
 refine ent_value (ov_indexArr (o := 0) rfl rfl F_array_96 F_size_95 (by decide) c228) rfl rfl rfl (ent_value (ov_fieldAddr (sz := 0) (o := 6) rfl F_field_95_0 F_size_2) rfl rfl rfl (ent_value (ov_load (v := (I x4.2.2.2.2.2.2.1)) rfl F_agg_2 (reads_box1 (i := 0) rfl rfl)) rfl rfl rfl (ent_value (ov_bin rfl rfl (b_lss _ _ _)) rfl rfl rfl (ent_value (ov_move rfl) rfl rfl rfl ?_))))
 refine htT H (fun c229 H => ?_) fun c229 H => ?_
 ·refine ent_off rfl rfl rfl (decide_eq_true c229) rfl rfl ?_
  refine ent_off rfl rfl rfl (decide_eq_true c229) rfl rfl ?_
  refine ent_off rfl rfl rfl (decide_eq_true c229) rfl rfl ?_
  refine ent_off rfl rfl rfl (decide_eq_true c229) rfl rfl ?_
  refine ent_off rfl rfl rfl (decide_eq_true c229) rfl rfl ?_
  refine ent_off rfl rfl rfl (decide_eq_true c229) rfl rfl ?_
  refine ent_value (ov_pick rfl rfl rfl (pick_t (decide_eq_true c229))) rfl rfl rfl (ent_nil (ent_cond_true rfl rfl (ent_seq (ent_region (ent_value (ov_assign rfl) rfl rfl rfl (ent_nil (ent_retc ?_)))))))
  cases H
  refine ent_pick [] (by decide) rfl ?_
  exact ret_tmp rfl rfl ⟨rfl,rfl⟩
 refine ent_value_on (ov_move rfl) rfl rfl rfl (decide_eq_false c229) rfl rfl ?_
 refine ent_value_on (ov_move rfl) rfl rfl rfl (decide_eq_false c229) rfl rfl ?_
 refine ent_value_on (ov_indexArr (o := 0) rfl rfl F_array_96 F_size_95 (by decide) c228) rfl rfl rfl (decide_eq_false c229) rfl rfl ?_
 refine ent_value_on (ov_fieldAddr (sz := 0) (o := 6) rfl F_field_95_1 F_size_2) rfl rfl rfl (decide_eq_false c229) rfl rfl ?_
 refine ent_value_on (ov_load (v := (I x4.2.2.2.2.2.2.2.1)) rfl F_agg_2 (reads_box1 (i := 0) rfl rfl)) rfl rfl rfl (decide_eq_false c229) rfl rfl ?_
 refine ent_value_on (ov_bin rfl rfl (b_gtr _ _ _)) rfl rfl rfl (decide_eq_false c229) rfl rfl ?_
 refine ent_value (ov_pick rfl rfl rfl (pick_f (decide_eq_false c229))) rfl rfl rfl (ent_nil ?_)
 refine htT H (fun c230 H => ?_) fun c230 H => ?_
 ·refine ent_cond_true rfl (decide_eq_true c230) (ent_seq (ent_region (ent_value (ov_assign rfl) rfl rfl rfl (ent_nil (ent_retc ?_)))))
  cases H
  refine ent_pick [] (by decide) rfl ?_
  exact ret_tmp rfl rfl ⟨rfl,rfl⟩
 refine ent_cond_false rfl (decide_eq_false c230) (ent_skip (ent_region (ent_value (ov_binL (m' := 4) rfl rfl (b_add _ _ _) (by decide)) rfl rfl rfl (ent_value (ov_move rfl) rfl rfl rfl (ent_nil (ent_round (ent_seq (ent_region (ent_value (ov_bin rfl rfl (b_lss _ _ _)) rfl rfl rfl (ent_nil (ent_seq ?_)))))))))))
 refine ent_cond_true rfl rfl (ent_skip (ent_seq (ent_block (ent_seq (ent_region (ent_value (ov_move rfl) rfl rfl rfl (ent_value (ov_indexAggN rfl rfl F_array_98 F_size_2 F_agg_2 (by decide) (by decide) rfl) rfl rfl rfl (ent_value (ov_assign rfl) rfl rfl rfl (ent_value (ov_assign rfl) rfl rfl rfl (ent_nil (ent_seq ?_)))))))))))
 refine ent_region (ent_value (ov_move rfl) rfl rfl rfl (ent_value (ov_move rfl) rfl rfl rfl ?_))
 obtain ⟨c234,H⟩ := gdT H
 refine ent_value (ov_indexArr (o := 0) rfl rfl F_array_96 F_size_95 (by decide) c234) rfl rfl rfl (ent_value (ov_fieldAddr (sz := 0) (o := 8) rfl F_field_95_0 F_size_2) rfl rfl rfl (ent_value (ov_load (v := (I x4.2.2.2.2.2.2.2.2.1)) rfl F_agg_2 (reads_box1 (i := 0) rfl rfl)) rfl rfl rfl (ent_value (ov_bin rfl rfl (b_lss _ _ _)) rfl rfl rfl (ent_value (ov_move rfl) rfl rfl rfl ?_))))
 refine htT H (fun c235 H => ?_) fun c235 H => ?_
 ·refine ent_off rfl rfl rfl (decide_eq_true c235) rfl rfl ?_
  refine ent_off rfl rfl rfl (decide_eq_true c235) rfl rfl ?_
  refine ent_off rfl rfl rfl (decide_eq_true c235) rfl rfl ?_
  refine ent_off rfl rfl rfl (decide_eq_true c235) rfl rfl ?_
  refine ent_off rfl rfl rfl (decide_eq_true c235) rfl rfl ?_
  refine ent_off rfl rfl rfl (decide_eq_true c235) rfl rfl ?_
  refine ent_value (ov_pick rfl rfl rfl (pick_t (decide_eq_true c235))) rfl rfl rfl (ent_nil (ent_cond_true rfl rfl (ent_seq (ent_region (ent_value (ov_assign rfl) rfl rfl rfl (ent_nil (ent_retc ?_)))))))
  cases H
  refine ent_pick [] (by decide) rfl ?_
  exact ret_tmp rfl rfl ⟨rfl,rfl⟩
 refine ent_value_on (ov_move rfl) rfl rfl rfl (decide_eq_false c235) rfl rfl ?_
 refine ent_value_on (ov_move rfl) rfl rfl rfl (decide_eq_false c235) rfl rfl ?_
 refine ent_value_on (ov_indexArr (o := 0) rfl rfl F_array_96 F_size_95 (by decide) c234) rfl rfl rfl (decide_eq_false c235) rfl rfl ?_
 refine ent_value_on (ov_fieldAddr (sz := 0) (o := 8) rfl F_field_95_1 F_size_2) rfl rfl rfl (decide_eq_false c235) rfl rfl ?_
 refine ent_value_on (ov_load (v := (I x4.2.2.2.2.2.2.2.2.2.1)) rfl F_agg_2 (reads_box1 (i := 0) rfl rfl)) rfl rfl rfl (decide_eq_false c235) rfl rfl ?_
 refine ent_value_on (ov_bin rfl rfl (b_gtr _ _ _)) rfl rfl rfl (decide_eq_false c235) rfl rfl ?_
 refine ent_value (ov_pick rfl rfl rfl (pick_f (decide_eq_false c235))) rfl rfl rfl (ent_nil ?_)
 refine htT H (fun c236 H => ?_) fun c236 H => ?_
 ·refine ent_cond_true rfl (decide_eq_true c236) (ent_seq (ent_region (ent_value (ov_assign rfl) rfl rfl rfl (ent_nil (ent_retc ?_)))))
  cases H
  refine ent_pick [] (by decide) rfl ?_
  exact ret_tmp rfl rfl ⟨rfl,rfl⟩
 refine ent_cond_false rfl (decide_eq_false c236) (ent_skip (ent_region (ent_value (ov_binL (m' := 5) rfl rfl (b_add _ _ _) (by decide)) rfl rfl rfl (ent_value (ov_move rfl) rfl rfl rfl (ent_nil (ent_round (ent_seq (ent_region (ent_value (ov_bin rfl rfl (b_lss _ _ _)) rfl rfl rfl (ent_nil (ent_seq ?_)))))))))))
 refine ent_cond_true rfl rfl (ent_skip (ent_seq (ent_block (ent_seq (ent_region (ent_value (ov_move rfl) rfl rfl rfl (ent_value (ov_indexAggN rfl rfl F_array_98 F_size_2 F_agg_2 (by decide) (by decide) rfl) rfl rfl rfl (ent_value (ov_assign rfl) rfl rfl rfl (ent_value (ov_assign rfl) rfl rfl rfl (ent_nil (ent_seq ?_)))))))))))
 refine ent_region (ent_value (ov_move rfl) rfl rfl rfl (ent_value (ov_move rfl) rfl rfl rfl ?_))
 obtain ⟨c240,H⟩ := gdT H
 refine ent_value (ov_indexArr (o := 0) rfl rfl F_array_96 F_size_95 (by decide) c240) rfl rfl rfl (ent_value (ov_fieldAddr (sz := 0) (o := 10) rfl F_field_95_0 F_size_2) rfl rfl rfl (ent_value (ov_load (v := (I x4.2.2.2.2.2.2.2.2.2.2.1)) rfl F_agg_2 (reads_box1 (i := 0) rfl rfl)) rfl rfl rfl (ent_value (ov_bin rfl rfl (b_lss _ _ _)) rfl rfl rfl (ent_value (ov_move rfl) rfl rfl rfl ?_))))
 refine htT H (fun c241 H => ?_) fun c241 H => ?_
 ·refine ent_off rfl rfl rfl (decide_eq_true c241) rfl rfl ?_
  refine ent_off rfl rfl rfl (decide_eq_true c241) rfl rfl ?_
  refine ent_off rfl rfl rfl (decide_eq_true c241) rfl rfl ?_
  refine ent_off rfl rfl rfl (decide_eq_true c241) rfl rfl ?_
  refine ent_off rfl rfl rfl (decide_eq_true c241) rfl rfl ?_
  refine ent_off rfl rfl rfl (decide_eq_true c241) rfl rfl ?_
  refine ent_value (ov_pick rfl rfl rfl (pick_t (decide_eq_true c241))) rfl rfl rfl (ent_nil (ent_cond_true rfl rfl (ent_seq (ent_region (ent_value (ov_assign rfl) rfl rfl rfl (ent_nil (ent_retc ?_)))))))
  cases H
  refine ent_pick [] (by decide) rfl ?_
  exact ret_tmp rfl rfl ⟨rfl,rfl⟩
 refine ent_value_on (ov_move rfl) rfl rfl rfl (decide_eq_false c241) rfl rfl ?_
 refine ent_value_on (ov_move rfl) rfl rfl rfl (decide_eq_false c241) rfl rfl ?_
 refine ent_value_on (ov_indexArr (o := 0) rfl rfl F_array_96 F_size_95 (by decide) c240) rfl rfl rfl (decide_eq_false c241) rfl rfl ?_
 refine ent_value_on (ov_fieldAddr (sz := 0) (o := 10) rfl F_field_95_1 F_size_2) rfl rfl rfl (decide_eq_false c241) rfl rfl ?_
 refine ent_value_on (ov_load (v := (I x4.2.2.2.2.2.2.2.2.2.2.2.1)) rfl F_agg_2 (reads_box1 (i := 0) rfl rfl)) rfl rfl rfl (decide_eq_false c241) rfl rfl ?_
 refine ent_value_on (ov_bin rfl rfl (b_gtr _ _ _)) rfl rfl rfl (decide_eq_false c241) rfl rfl ?_
 refine ent_value (ov_pick rfl rfl rfl (pick_f (decide_eq_false c241))) rfl rfl rfl (ent_nil ?_)
 refine htT H (fun c242 H => ?_) fun c242 H => ?_
 ·refine ent_cond_true rfl (decide_eq_true c242) (ent_seq (ent_region (ent_value (ov_assign rfl) rfl rfl rfl (ent_nil (ent_retc ?_)))))
  cases H
  refine ent_pick [] (by decide) rfl ?_
  exact ret_tmp rfl rfl ⟨rfl,rfl⟩
 refine ent_cond_false rfl (decide_eq_false c242) (ent_skip (ent_region (ent_value (ov_binL (m' := 6) rfl rfl (b_add _ _ _) (by decide)) rfl rfl rfl (ent_value (ov_move rfl) rfl rfl rfl (ent_nil (ent_round (ent_seq (ent_region (ent_value (ov_bin rfl rfl (b_lss _ _ _)) rfl rfl rfl (ent_nil (ent_seq ?_)))))))))))
 refine ent_cond_true rfl rfl (ent_skip (ent_seq (ent_block (ent_seq (ent_region (ent_value (ov_move rfl) rfl rfl rfl (ent_value (ov_indexAggN rfl rfl F_array_98 F_size_2 F_agg_2 (by decide) (by decide) rfl) rfl rfl rfl (ent_value (ov_assign rfl) rfl rfl rfl (ent_value (ov_assign rfl) rfl rfl rfl (ent_nil (ent_seq ?_)))))))))))
 refine ent_region (ent_value (ov_move rfl) rfl rfl rfl (ent_value (ov_move rfl) rfl rfl rfl ?_))
 obtain ⟨c246,H⟩ := gdT H
 refine ent_value (ov_indexArr (o := 0) rfl rfl F_array_96 F_size_95 (by decide) c246) rfl rfl rfl (ent_value (ov_fieldAddr (sz := 0) (o := 12) rfl F_field_95_0 F_size_2) rfl rfl rfl (ent_value (ov_load (v := (I x4.2.2.2.2.2.2.2.2.2.2.2.2.1)) rfl F_agg_2 (reads_box1 (i := 0) rfl rfl)) rfl rfl rfl (ent_value (ov_bin rfl rfl (b_lss _ _ _)) rfl rfl rfl (ent_value (ov_move rfl) rfl rfl rfl ?_))))
 refine htT H (fun c247 H => ?_) fun c247 H => ?_
 ·refine ent_off rfl rfl rfl (decide_eq_true c247) rfl rfl ?_
  refine ent_off rfl rfl rfl (decide_eq_true c247) rfl rfl ?_
  refine ent_off rfl rfl rfl (decide_eq_true c247) rfl rfl ?_
  refine ent_off rfl rfl rfl (decide_eq_true c247) rfl rfl ?_
  refine ent_off rfl rfl rfl (decide_eq_true c247) rfl rfl ?_
  refine ent_off rfl rfl rfl (decide_eq_true c247) rfl rfl ?_
  refine ent_value (ov_pick rfl rfl rfl (pick_t (decide_eq_true c247))) rfl rfl rfl (ent_nil (ent_cond_true rfl rfl (ent_seq (ent_region (ent_value (ov_assign rfl) rfl rfl rfl (ent_nil (ent_retc ?_)))))))
  cases H
  refine ent_pick [] (by decide) rfl ?_
  exact ret_tmp rfl rfl ⟨rfl,rfl⟩
 refine ent_value_on (ov_move rfl) rfl rfl rfl (decide_eq_false c247) rfl rfl ?_
 refine ent_value_on (ov_move rfl) rfl rfl rfl (decide_eq_false c247) rfl rfl ?_
 refine ent_value_on (ov_indexArr (o := 0) rfl rfl F_array_96 F_size_95 (by decide) c246) rfl rfl rfl (decide_eq_false c247) rfl rfl ?_
 refine ent_value_on (ov_fieldAddr (sz := 0) (o := 12) rfl F_field_95_1 F_size_2) rfl rfl rfl (decide_eq_false c247) rfl rfl ?_
 refine ent_value_on (ov_load (v := (I x4.2.2.2.2.2.2.2.2.2.2.2.2.2.1)) rfl F_agg_2 (reads_box1 (i := 0) rfl rfl)) rfl rfl rfl (decide_eq_false c247) rfl rfl ?_
 refine ent_value_on (ov_bin rfl rfl (b_gtr _ _ _)) rfl rfl rfl (decide_eq_false c247) rfl rfl ?_
 refine ent_value (ov_pick rfl rfl rfl (pick_f (decide_eq_false c247))) rfl rfl rfl (ent_nil ?_)
 refine htT H (fun c248 H => ?_) fun c248 H => ?_
 ·refine ent_cond_true rfl (decide_eq_true c248) (ent_seq (ent_region (ent_value (ov_assign rfl) rfl rfl rfl (ent_nil (ent_retc ?_)))))
  cases H
  refine ent_pick [] (by decide) rfl ?_
  exact ret_tmp rfl rfl ⟨rfl,rfl⟩
 refine ent_cond_false rfl (decide_eq_false c248) (ent_skip (ent_region (ent_value (ov_binL (m' := 7) rfl rfl (b_add _ _ _) (by decide)) rfl rfl rfl (ent_value (ov_move rfl) rfl rfl rfl (ent_nil (ent_round (ent_seq (ent_region (ent_value (ov_bin rfl rfl (b_lss _ _ _)) rfl rfl rfl (ent_nil (ent_seq ?_)))))))))))
 refine ent_cond_true rfl rfl (ent_skip (ent_seq (ent_block (ent_seq (ent_region (ent_value (ov_move rfl) rfl rfl rfl (ent_value (ov_indexAggN rfl rfl F_array_98 F_size_2 F_agg_2 (by decide) (by decide) rfl) rfl rfl rfl (ent_value (ov_assign rfl) rfl rfl rfl (ent_value (ov_assign rfl) rfl rfl rfl (ent_nil (ent_seq ?_)))))))))))
 refine ent_region (ent_value (ov_move rfl) rfl rfl rfl (ent_value (ov_move rfl) rfl rfl rfl ?_))
 obtain ⟨c252,H⟩ := gdT H
 refine ent_value (ov_indexArr (o := 0) rfl rfl F_array_96 F_size_95 (by decide) c252) rfl rfl rfl (ent_value (ov_fieldAddr (sz := 0) (o := 14) rfl F_field_95_0 F_size_2) rfl rfl rfl (ent_value (ov_load (v := (I x4.2.2.2.2.2.2.2.2.2.2.2.2.2.2.1)) rfl F_agg_2 (reads_box1 (i := 0) rfl rfl)) rfl rfl rfl (ent_value (ov_bin rfl rfl (b_lss _ _ _)) rfl rfl rfl (ent_value (ov_move rfl) rfl rfl rfl ?_))))
 refine htT H (fun c253 H => ?_) fun c253 H => ?_
 ·refine ent_off rfl rfl rfl (decide_eq_true c253) rfl rfl ?_
  refine ent_off rfl rfl rfl (decide_eq_true c253) rfl rfl ?_
  refine ent_off rfl rfl rfl (decide_eq_true c253) rfl rfl ?_
  refine ent_off rfl rfl rfl (decide_eq_true c253) rfl rfl ?_
  refine ent_off rfl rfl rfl (decide_eq_true c253) rfl rfl ?_
  refine ent_off rfl rfl rfl (decide_eq_true c253) rfl rfl ?_
  refine ent_value (ov_pick rfl rfl rfl (pick_t (decide_eq_true c253))) rfl rfl rfl (ent_nil (ent_cond_true rfl rfl (ent_seq (ent_region (ent_value (ov_assign rfl) rfl rfl rfl (ent_nil (ent_retc ?_)))))))
  cases H
  refine ent_pick [] (by decide) rfl ?_
  exact ret_tmp rfl rfl ⟨rfl,rfl⟩
 refine ent_value_on (ov_move rfl) rfl rfl rfl (decide_eq_false c253) rfl rfl ?_
 refine ent_value_on (ov_move rfl) rfl rfl rfl (decide_eq_false c253) rfl rfl ?_
 refine ent_value_on (ov_indexArr (o := 0) rfl rfl F_array_96 F_size_95 (by decide) c252) rfl rfl rfl (decide_eq_false c253) rfl rfl ?_
 refine ent_value_on (ov_fieldAddr (sz := 0) (o := 14) rfl F_field_95_1 F_size_2) rfl rfl rfl (decide_eq_false c253) rfl rfl ?_
 refine ent_value_on (ov_load (v := (I x4.2.2.2.2.2.2.2.2.2.2.2.2.2.2.2.1)) rfl F_agg_2 (reads_box1 (i := 0) rfl rfl)) rfl rfl rfl (decide_eq_false c253) rfl rfl ?_
 refine ent_value_on (ov_bin rfl rfl (b_gtr _ _ _)) rfl rfl rfl (decide_eq_false c253) rfl rfl ?_
 refine ent_value (ov_pick rfl rfl rfl (pick_f (decide_eq_false c253))) rfl rfl rfl (ent_nil ?_)
 refine htT H (fun c254 H => ?_) fun c254 H => ?_
 ·refine ent_cond_true rfl (decide_eq_true c254) (ent_seq (ent_region (ent_value (ov_assign rfl) rfl rfl rfl (ent_nil (ent_retc ?_)))))
  cases H
  refine ent_pick [] (by decide) rfl ?_
  exact ret_tmp rfl rfl ⟨rfl,rfl⟩
 refine ent_cond_false rfl (decide_eq_false c254) (ent_skip (ent_region (ent_value (ov_binL (m' := 8) rfl rfl (b_add _ _ _) (by decide)) rfl rfl rfl (ent_value (ov_move rfl) rfl rfl rfl (ent_nil (ent_round (ent_seq (ent_region (ent_value (ov_bin rfl rfl (b_lss _ _ _)) rfl rfl rfl (ent_nil (ent_seq ?_)))))))))))
 refine ent_cond_true rfl rfl (ent_skip (ent_seq (ent_block (ent_seq (ent_region (ent_value (ov_move rfl) rfl rfl rfl (ent_value (ov_indexAggN rfl rfl F_array_98 F_size_2 F_agg_2 (by decide) (by decide) rfl) rfl rfl rfl (ent_value (ov_assign rfl) rfl rfl rfl (ent_value (ov_assign rfl) rfl rfl rfl (ent_nil (ent_seq ?_)))))))))))
 refine ent_region (ent_value (ov_move rfl) rfl rfl rfl (ent_value (ov_move rfl) rfl rfl rfl ?_))
 obtain ⟨c258,H⟩ := gdT H
 refine ent_value (ov_indexArr (o := 0) rfl rfl F_array_96 F_size_95 (by decide) c258) rfl rfl rfl (ent_value (ov_fieldAddr (sz := 0) (o := 16) rfl F_field_95_0 F_size_2) rfl rfl rfl (ent_value (ov_load (v := (I x4.2.2.2.2.2.2.2.2.2.2.2.2.2.2.2.2.1)) rfl F_agg_2 (reads_box1 (i := 0) rfl rfl)) rfl rfl rfl (ent_value (ov_bin rfl rfl (b_lss _ _ _)) rfl rfl rfl (ent_value (ov_move rfl) rfl rfl rfl ?_))))
 refine htT H (fun c259 H => ?_) fun c259 H => ?_
 ·refine ent_off rfl rfl rfl (decide_eq_true c259) rfl rfl ?_
  refine ent_off rfl rfl rfl (decide_eq_true c259) rfl rfl ?_
  refine ent_off rfl rfl rfl (decide_eq_true c259) rfl rfl ?_
  refine ent_off rfl rfl rfl (decide_eq_true c259) rfl rfl ?_
  refine ent_off rfl rfl rfl (decide_eq_true c259) rfl rfl ?_
  refine ent_off rfl rfl rfl (decide_eq_true c259) rfl rfl ?_
  refine ent_value (ov_pick rfl rfl rfl (pick_t (decide_eq_true c259))) rfl rfl rfl (ent_nil (ent_cond_true rfl rfl (ent_seq (ent_region (ent_value (ov_assign rfl) rfl rfl rfl (ent_nil (ent_retc ?_)))))))
  cases H
  refine ent_pick [] (by decide) rfl ?_
  exact ret_tmp rfl rfl ⟨rfl,rfl⟩
 refine ent_value_on (ov_move rfl) rfl rfl rfl (decide_eq_false c259) rfl rfl ?_
 refine ent_value_on (ov_move rfl) rfl rfl rfl (decide_eq_false c259) rfl rfl ?_
 refine ent_value_on (ov_indexArr (o := 0) rfl rfl F_array_96 F_size_95 (by decide) c258) rfl rfl rfl (decide_eq_false c259) rfl rfl ?_
 refine ent_value_on (ov_fieldAddr (sz := 0) (o := 16) rfl F_field_95_1 F_size_2) rfl rfl rfl (decide_eq_false c259) rfl rfl ?_
 refine ent_value_on (ov_load (v := (I x4.2.2.2.2.2.2.2.2.2.2.2.2.2.2.2.2.2)) rfl F_agg_2 (reads_box1 (i := 0) rfl rfl)) rfl rfl rfl (decide_eq_false c259) rfl rfl ?_
 refine ent_value_on (ov_bin rfl rfl (b_gtr _ _ _)) rfl rfl rfl (decide_eq_false c259) rfl rfl ?_
 refine ent_value (ov_pick rfl rfl rfl (pick_f (decide_eq_false c259))) rfl rfl rfl (ent_nil ?_)
 refine htT H (fun c260 H => ?_) fun c260 H => ?_
 ·refine ent_cond_true rfl (decide_eq_true c260) (ent_seq (ent_region (ent_value (ov_assign rfl) rfl rfl rfl (ent_nil (ent_retc ?_)))))
  cases H
  refine ent_pick [] (by decide) rfl ?_
  exact ret_tmp rfl rfl ⟨rfl,rfl⟩
 refine ent_cond_false rfl (decide_eq_false c260) (ent_skip (ent_region (ent_value (ov_binL (m' := 9) rfl rfl (b_add _ _ _) (by decide)) rfl rfl rfl (ent_value (ov_move rfl) rfl rfl rfl (ent_nil (ent_round (ent_seq (ent_region (ent_value (ov_bin rfl rfl (b_lss _ _ _)) rfl rfl rfl (ent_nil (ent_seq ?_)))))))))))
 refine ent_cond_false rfl rfl (ent_exit (ent_seq (ent_region (ent_value (ov_assign rfl) rfl rfl rfl (ent_nil (ent_retc ?_))))))
 cases H
 refine ent_pick [] (by decide) rfl ?_
 exact ret_tmp rfl rfl ⟨rfl,rfl⟩

theorem sheet_names.spec (r : ((List UInt8) × (List UInt8) × (List UInt8) × (List UInt8) × (List UInt8) × (List UInt8) × (List UInt8) × (List UInt8) × (List UInt8))) (H : sheet_names = r) : FnSpec Try.prog 27 [] [] (fun v M => v = (agg #[str r.1,str r.2.1,str r.2.2.1,str r.2.2.2.1,str r.2.2.2.2.1,str r.2.2.2.2.2.1,str r.2.2.2.2.2.2.1,str r.2.2.2.2.2.2.2.1,str r.2.2.2.2.2.2.2.2]) ∧ M = []) := by
 unfold sheet_names at H
 refine spec_of Try.func27 rfl 2 rfl (Nat.le_of_ble_eq_true rfl) fun F w0 => ?_
 let C0_ : List Value := [str ([114,101,116,97,105,110] : List UInt8),str ([115,101,97,108] : List UInt8),str ([100,97,121] : List UInt8),str ([109,111,110,116,104] : List UInt8),str ([99,111,108,100] : List UInt8),str ([98,97,115,101] : List UInt8),str ([99,97,112] : List UInt8),str ([113,117,101,117,101] : List UInt8),str ([119,97,108] : List UInt8)]
 show Ent (St 2 w0 F [] []) _
 refine ent_seq (ent_region ?_)
 refine ent_op (ot_alloc F_zero_55) rfl rfl rfl ?_
 rintro _ _ ⟨b2,rfl,rfl⟩
 refine ent_nil (ent_seq (ent_region ?_))
 refine ent_value (ov_build (is := [0,1,2,3,4,5,6,7,8]) (xs := [.const (str ([114,101,116,97,105,110] : List UInt8)),.const (str ([115,101,97,108] : List UInt8)),.const (str ([100,97,121] : List UInt8)),.const (str ([109,111,110,116,104] : List UInt8)),.const (str ([99,111,108,100] : List UInt8)),.const (str ([98,97,115,101] : List UInt8)),.const (str ([99,97,112] : List UInt8)),.const (str ([113,117,101,117,101] : List UInt8)),.const (str ([119,97,108] : List UInt8))]) (vs := C0_) rfl rfl (build_array (cs := C0_) F_zero_55 F_array_55 F_size_9 (by simp [C0_,Instr.fill,cells_int,cells_bool,cells_str,cells_func,cells_slice,cells_ptr,cells_nilFunc,cells_agg,]))) rfl rfl rfl ?_
 refine ent_op0 (ot_storeG (cs := [S0,S0,S0,S0,S0,S0,S0,S0,S0]) (cs' := C0_) (us := C0_) (L' := [box b2 55 C0_]) 0 rfl rfl rfl (one_all rfl) F_size_55 rfl rfl (by simp [C0_]) rfl) rfl rfl ?_
 rintro _ _ rfl
 refine ent_nil (ent_retc ?_)
 subst H
 exact ret_memp [] (by decide) rfl (vs := [agg #[str ([114,101,116,97,105,110] : List UInt8),str ([115,101,97,108] : List UInt8),str ([100,97,121] : List UInt8),str ([109,111,110,116,104] : List UInt8),str ([99,111,108,100] : List UInt8),str ([98,97,115,101] : List UInt8),str ([99,97,112] : List UInt8),str ([113,117,101,117,101] : List UInt8),str ([119,97,108] : List UInt8)]]) rfl ⟨⟨_,C0_,rfl,reads_boxW (i := 0) rfl,.inl ⟨F_agg_55,F_size_55,rfl⟩⟩,trivial⟩ _ rfl ⟨rfl,rfl⟩

theorem sheet_of.spec (a0_0 a0_1 : Int) (a0_2 a0_3 : Int) (a0_4 a0_5 : Int) (a0_6 a0_7 a0_8 : Int) (r : (Int × Int × Int × Int × Int × Int × Int × Int × Int × Int)) (H : sheet_of a0_0 a0_1 a0_2 a0_3 a0_4 a0_5 a0_6 a0_7 a0_8 = r) : FnSpec Try.prog 38 [agg #[I a0_0,I a0_1,I a0_2,I a0_3,I a0_4,I a0_5,I a0_6,I a0_7,I a0_8]] [] (fun v M => ∃ b3 : Nat,v = (pt b3 0) ∧ M = [box b3 51 [I r.1,I r.2.1,I r.2.2.1,I r.2.2.2.1,I r.2.2.2.2.1,I r.2.2.2.2.2.1,I r.2.2.2.2.2.2.1,I r.2.2.2.2.2.2.2.1,I r.2.2.2.2.2.2.2.2.1,I r.2.2.2.2.2.2.2.2.2]]) := by
 unfold sheet_of at H
 refine spec_of Try.func38 rfl 8 rfl (Nat.le_of_ble_eq_true rfl) fun F w0 => ?_
 let C1_ : List Value := [I a0_0,I a0_1,I a0_2,I a0_3,I a0_4,I a0_5,I a0_6,I a0_7,I a0_8,I a0_7]
 let C0_ : Value := agg #[I a0_0,I a0_1,I a0_2,I a0_3,I a0_4,I a0_5,I a0_6,I a0_7,I a0_8]
 show Ent (St 8 w0 F [(0,C0_)] []) _
 refine ent_seq (ent_region ?_)
 refine ent_op (ot_box (cs := [I a0_0,I a0_1,I a0_2,I a0_3,I a0_4,I a0_5,I a0_6,I a0_7,I a0_8]) rfl rfl) rfl rfl rfl ?_
 rintro _ _ ⟨b4,rfl,rfl⟩
 refine ent_value (ov_assign rfl) rfl rfl rfl (ent_nil (ent_seq (ent_region (ent_value (ov_load_agg (vs := [I a0_0,I a0_1,I a0_2,I a0_3,I a0_4,I a0_5,I a0_6,I a0_7,I a0_8]) rfl F_agg_24 F_size_24 (reads_boxW (i := 0) rfl)) rfl rfl rfl (ent_value (ov_fieldAddr (sz := 0) (o := 0) rfl F_field_24_7 F_size_3) rfl rfl rfl (ent_value (ov_load (v := (I a0_7)) rfl F_agg_3 (reads_box1 (i := 0) rfl rfl)) rfl rfl rfl ?_))))))
 refine ent_value (ov_build (is := [0,1]) (xs := [.tmp 3,.tmp 5]) (vs := [C0_,I a0_7]) rfl rfl (build_struct (cs := C1_) F_zero_51 F_places_51 (by simp [C1_,C0_,Instr.fill,cells_int,cells_bool,cells_str,cells_func,cells_slice,cells_ptr,cells_nilFunc,cells_agg,]))) rfl rfl rfl ?_
 refine ent_op (ot_box (cs := C1_) rfl rfl) rfl rfl rfl ?_
 rintro _ _ ⟨b5,rfl,rfl⟩
 refine ent_value (ov_assign rfl) rfl rfl rfl (ent_nil (ent_retc ?_))
 cases H
 refine ent_pick [0] (by decide) rfl ?_
 exact ret_tmp rfl rfl ⟨_,rfl,rfl⟩

theorem sheet_sheet_fields.spec (p0 : Nat) (p0_0 p0_1 : Int) (p0_2 p0_3 : Int) (p0_4 p0_5 : Int) (p0_6 p0_7 : Int) (p0_8 p0_9 : Int) (r : Unit) (H : sheet_sheet_fields p0_0 p0_1 p0_2 p0_3 p0_4 p0_5 p0_6 p0_7 p0_8 p0_9 = r) : FnSpec Try.prog 26 [pt p0 0] [box p0 51 [I p0_0,I p0_1,I p0_2,I p0_3,I p0_4,I p0_5,I p0_6,I p0_7,I p0_8,I p0_9]] (fun v M => v = (agg #[pt p0 0,pt p0 1,pt p0 2,pt p0 3,pt p0 4,pt p0 5,pt p0 6,pt p0 9,pt p0 8]) ∧ M = [box p0 51 [I p0_0,I p0_1,I p0_2,I p0_3,I p0_4,I p0_5,I p0_6,I p0_7,I p0_8,I p0_9]]) := by
 unfold sheet_sheet_fields at H
 refine spec_of Try.func26 rfl 39 rfl (Nat.le_of_ble_eq_true rfl) fun F w0 => ?_
 let C2_ : Value := agg #[pt p0 0,pt p0 1,pt p0 2,pt p0 3,pt p0 4,pt p0 5,pt p0 6,pt p0 9,pt p0 8]
 let C1_ : List Value := [I p0_0,I p0_1,I p0_2,I p0_3,I p0_4,I p0_5,I p0_6,I p0_7,I p0_8,I p0_9]
 let C0_ : List Value := [pt p0 0,pt p0 1,pt p0 2,pt p0 3,pt p0 4,pt p0 5,pt p0 6,pt p0 9,pt p0 8]
 show Ent (St 39 w0 F [(0,pt p0 0)] [box p0 51 C1_]) _
 refine ent_seq (ent_region ?_)
 refine ent_op (ot_alloc F_zero_53) rfl rfl rfl ?_
 rintro _ _ ⟨b2,rfl,rfl⟩
 refine ent_nil (ent_seq ?_)
 refine ent_drawm 37 rfl (fun done a w => StD 39 w0 F [(0,pt p0 0),(2,pt b2 0)] [(0,3,pt p0 0),(1,4,pt p0 0),(2,5,pt p0 0),(3,6,pt p0 0),(4,7,pt p0 0),(5,8,pt p0 0),(6,9,pt p0 0),(7,10,pt p0 1),(8,11,pt p0 0),(9,12,pt p0 0),(10,13,pt p0 0),(11,14,pt p0 2),(12,15,pt p0 0),(13,16,pt p0 0),(14,17,pt p0 0),(15,18,pt p0 3),(16,19,pt p0 0),(17,20,pt p0 0),(18,21,pt p0 0),(19,22,pt p0 4),(20,23,pt p0 0),(21,24,pt p0 0),(22,25,pt p0 0),(23,26,pt p0 5),(24,27,pt p0 0),(25,28,pt p0 0),(26,29,pt p0 0),(27,30,pt p0 6),(28,31,pt p0 0),(29,32,pt p0 0),(30,33,pt p0 9),(31,34,pt p0 0),(32,35,pt p0 0),(33,36,pt p0 0),(34,37,pt p0 8),(35,38,C2_)] done [sel (done 36) (box b2 53 C0_) (box b2 53 [P0,P0,P0,P0,P0,P0,P0,P0,P0]),box p0 51 C1_] a w) (by kernel_rfl) (by kernel_rfl) (draw_startL (sub_cons (t := 0) rfl (sub_cons (t := 2) rfl (sub_nil _))) (by simp only [C2_,C1_,C0_,sel])) ?_ ?_
 ·refine ⟨?_,?_,?_,?_,?_,?_,?_,?_,?_,?_,?_,?_,?_,?_,?_,?_,?_,?_,?_,?_,?_,?_,?_,?_,?_,?_,?_,?_,?_,?_,?_,?_,?_,?_,?_,?_,?_,trivial⟩
  ·exact fun done hi hc hcu => draw_value (i := 0) (t := 3) (v := (pt p0 0)) rfl rfl (wanted_none rfl) (fun a => hasA_base) (ov_move rfl) rfl rfl (onlyT_spec (k0 := 0) rfl rfl rfl)
  ·exact fun done hi hc hcu => draw_value (i := 1) (t := 4) (v := (pt p0 0)) rfl rfl (wanted_none rfl) (fun a => (hasA_cons (k := 0) rfl (done_of (j := 0) hcu rfl (by decide) rfl) hasA_base)) (ov_nilCheck rfl) rfl rfl (onlyT_spec (k0 := 1) rfl rfl rfl)
  ·exact fun done hi hc hcu => draw_value (i := 2) (t := 5) (v := (pt p0 0)) rfl rfl (wanted_none rfl) (fun a => (hasA_cons (k := 1) rfl (done_of (j := 1) hcu rfl (by decide) rfl) hasA_base)) (ov_fieldAddr (sz := 8) (o := 0) rfl F_field_51_0 F_size_24) rfl rfl (onlyT_spec (k0 := 2) rfl rfl rfl)
  ·exact fun done hi hc hcu => draw_value (i := 3) (t := 6) (v := (pt p0 0)) rfl rfl (wanted_none rfl) (fun a => (hasA_cons (k := 2) rfl (done_of (j := 2) hcu rfl (by decide) rfl) hasA_base)) (ov_fieldAddr (sz := 0) (o := 0) rfl F_field_24_0 F_size_2) rfl rfl (onlyT_spec (k0 := 3) rfl rfl rfl)
  ·exact fun done hi hc hcu => draw_value (i := 4) (t := 7) (v := (pt p0 0)) rfl rfl (wanted_none rfl) (fun a => hasA_base) (ov_move rfl) rfl rfl (onlyT_spec (k0 := 4) rfl rfl rfl)
  ·exact fun done hi hc hcu => draw_value (i := 5) (t := 8) (v := (pt p0 0)) rfl rfl (wanted_none rfl) (fun a => (hasA_cons (k := 4) rfl (done_of (j := 4) hcu rfl (by decide) rfl) hasA_base)) (ov_nilCheck rfl) rfl rfl (onlyT_spec (k0 := 5) rfl rfl rfl)
  ·exact fun done hi hc hcu => draw_value (i := 6) (t := 9) (v := (pt p0 0)) rfl rfl (wanted_none rfl) (fun a => (hasA_cons (k := 5) rfl (done_of (j := 5) hcu rfl (by decide) rfl) hasA_base)) (ov_fieldAddr (sz := 8) (o := 0) rfl F_field_51_0 F_size_24) rfl rfl (onlyT_spec (k0 := 6) rfl rfl rfl)
  ·exact fun done hi hc hcu => draw_value (i := 7) (t := 10) (v := (pt p0 1)) rfl rfl (wanted_none rfl) (fun a => (hasA_cons (k := 6) rfl (done_of (j := 6) hcu rfl (by decide) rfl) hasA_base)) (ov_fieldAddr (sz := 0) (o := 0) rfl F_field_24_1 F_size_2) rfl rfl (onlyT_spec (k0 := 7) rfl rfl rfl)
  ·exact fun done hi hc hcu => draw_value (i := 8) (t := 11) (v := (pt p0 0)) rfl rfl (wanted_none rfl) (fun a => hasA_base) (ov_move rfl) rfl rfl (onlyT_spec (k0 := 8) rfl rfl rfl)
  ·exact fun done hi hc hcu => draw_value (i := 9) (t := 12) (v := (pt p0 0)) rfl rfl (wanted_none rfl) (fun a => (hasA_cons (k := 8) rfl (done_of (j := 8) hcu rfl (by decide) rfl) hasA_base)) (ov_nilCheck rfl) rfl rfl (onlyT_spec (k0 := 9) rfl rfl rfl)
  ·exact fun done hi hc hcu => draw_value (i := 10) (t := 13) (v := (pt p0 0)) rfl rfl (wanted_none rfl) (fun a => (hasA_cons (k := 9) rfl (done_of (j := 9) hcu rfl (by decide) rfl) hasA_base)) (ov_fieldAddr (sz := 8) (o := 0) rfl F_field_51_0 F_size_24) rfl rfl (onlyT_spec (k0 := 10) rfl rfl rfl)
  ·exact fun done hi hc hcu => draw_value (i := 11) (t := 14) (v := (pt p0 2)) rfl rfl (wanted_none rfl) (fun a => (hasA_cons (k := 10) rfl (done_of (j := 10) hcu rfl (by decide) rfl) hasA_base)) (ov_fieldAddr (sz := 0) (o := 0) rfl F_field_24_2 F_size_2) rfl rfl (onlyT_spec (k0 := 11) rfl rfl rfl)
  ·exact fun done hi hc hcu => draw_value (i := 12) (t := 15) (v := (pt p0 0)) rfl rfl (wanted_none rfl) (fun a => hasA_base) (ov_move rfl) rfl rfl (onlyT_spec (k0 := 12) rfl rfl rfl)
  ·exact fun done hi hc hcu => draw_value (i := 13) (t := 16) (v := (pt p0 0)) rfl rfl (wanted_none rfl) (fun a => (hasA_cons (k := 12) rfl (done_of (j := 12) hcu rfl (by decide) rfl) hasA_base)) (ov_nilCheck rfl) rfl rfl (onlyT_spec (k0 := 13) rfl rfl rfl)
  ·exact fun done hi hc hcu => draw_value (i := 14) (t := 17) (v := (pt p0 0)) rfl rfl (wanted_none rfl) (fun a => (hasA_cons (k := 13) rfl (done_of (j := 13) hcu rfl (by decide) rfl) hasA_base)) (ov_fieldAddr (sz := 8) (o := 0) rfl F_field_51_0 F_size_24) rfl rfl (onlyT_spec (k0 := 14) rfl rfl rfl)
  ·exact fun done hi hc hcu => draw_value (i := 15) (t := 18) (v := (pt p0 3)) rfl rfl (wanted_none rfl) (fun a => (hasA_cons (k := 14) rfl (done_of (j := 14) hcu rfl (by decide) rfl) hasA_base)) (ov_fieldAddr (sz := 0) (o := 0) rfl F_field_24_3 F_size_2) rfl rfl (onlyT_spec (k0 := 15) rfl rfl rfl)
  ·exact fun done hi hc hcu => draw_value (i := 16) (t := 19) (v := (pt p0 0)) rfl rfl (wanted_none rfl) (fun a => hasA_base) (ov_move rfl) rfl rfl (onlyT_spec (k0 := 16) rfl rfl rfl)
  ·exact fun done hi hc hcu => draw_value (i := 17) (t := 20) (v := (pt p0 0)) rfl rfl (wanted_none rfl) (fun a => (hasA_cons (k := 16) rfl (done_of (j := 16) hcu rfl (by decide) rfl) hasA_base)) (ov_nilCheck rfl) rfl rfl (onlyT_spec (k0 := 17) rfl rfl rfl)
  ·exact fun done hi hc hcu => draw_value (i := 18) (t := 21) (v := (pt p0 0)) rfl rfl (wanted_none rfl) (fun a => (hasA_cons (k := 17) rfl (done_of (j := 17) hcu rfl (by decide) rfl) hasA_base)) (ov_fieldAddr (sz := 8) (o := 0) rfl F_field_51_0 F_size_24) rfl rfl (onlyT_spec (k0 := 18) rfl rfl rfl)
  ·exact fun done hi hc hcu => draw_value (i := 19) (t := 22) (v := (pt p0 4)) rfl rfl (wanted_none rfl) (fun a => (hasA_cons (k := 18) rfl (done_of (j := 18) hcu rfl (by decide) rfl) hasA_base)) (ov_fieldAddr (sz := 0) (o := 0) rfl F_field_24_4 F_size_2) rfl rfl (onlyT_spec (k0 := 19) rfl rfl rfl)
  ·exact fun done hi hc hcu => draw_value (i := 20) (t := 23) (v := (pt p0 0)) rfl rfl (wanted_none rfl) (fun a => hasA_base) (ov_move rfl) rfl rfl (onlyT_spec (k0 := 20) rfl rfl rfl)
  ·exact fun done hi hc hcu => draw_value (i := 21) (t := 24) (v := (pt p0 0)) rfl rfl (wanted_none rfl) (fun a => (hasA_cons (k := 20) rfl (done_of (j := 20) hcu rfl (by decide) rfl) hasA_base)) (ov_nilCheck rfl) rfl rfl (onlyT_spec (k0 := 21) rfl rfl rfl)
  ·exact fun done hi hc hcu => draw_value (i := 22) (t := 25) (v := (pt p0 0)) rfl rfl (wanted_none rfl) (fun a => (hasA_cons (k := 21) rfl (done_of (j := 21) hcu rfl (by decide) rfl) hasA_base)) (ov_fieldAddr (sz := 8) (o := 0) rfl F_field_51_0 F_size_24) rfl rfl (onlyT_spec (k0 := 22) rfl rfl rfl)
  ·exact fun done hi hc hcu => draw_value (i := 23) (t := 26) (v := (pt p0 5)) rfl rfl (wanted_none rfl) (fun a => (hasA_cons (k := 22) rfl (done_of (j := 22) hcu rfl (by decide) rfl) hasA_base)) (ov_fieldAddr (sz := 0) (o := 0) rfl F_field_24_5 F_size_2) rfl rfl (onlyT_spec (k0 := 23) rfl rfl rfl)
  ·exact fun done hi hc hcu => draw_value (i := 24) (t := 27) (v := (pt p0 0)) rfl rfl (wanted_none rfl) (fun a => hasA_base) (ov_move rfl) rfl rfl (onlyT_spec (k0 := 24) rfl rfl rfl)
  ·exact fun done hi hc hcu => draw_value (i := 25) (t := 28) (v := (pt p0 0)) rfl rfl (wanted_none rfl) (fun a => (hasA_cons (k := 24) rfl (done_of (j := 24) hcu rfl (by decide) rfl) hasA_base)) (ov_nilCheck rfl) rfl rfl (onlyT_spec (k0 := 25) rfl rfl rfl)
  ·exact fun done hi hc hcu => draw_value (i := 26) (t := 29) (v := (pt p0 0)) rfl rfl (wanted_none rfl) (fun a => (hasA_cons (k := 25) rfl (done_of (j := 25) hcu rfl (by decide) rfl) hasA_base)) (ov_fieldAddr (sz := 8) (o := 0) rfl F_field_51_0 F_size_24) rfl rfl (onlyT_spec (k0 := 26) rfl rfl rfl)
  ·exact fun done hi hc hcu => draw_value (i := 27) (t := 30) (v := (pt p0 6)) rfl rfl (wanted_none rfl) (fun a => (hasA_cons (k := 26) rfl (done_of (j := 26) hcu rfl (by decide) rfl) hasA_base)) (ov_fieldAddr (sz := 0) (o := 0) rfl F_field_24_6 F_size_2) rfl rfl (onlyT_spec (k0 := 27) rfl rfl rfl)
  ·exact fun done hi hc hcu => draw_value (i := 28) (t := 31) (v := (pt p0 0)) rfl rfl (wanted_none rfl) (fun a => hasA_base) (ov_move rfl) rfl rfl (onlyT_spec (k0 := 28) rfl rfl rfl)
  ·exact fun done hi hc hcu => draw_value (i := 29) (t := 32) (v := (pt p0 0)) rfl rfl (wanted_none rfl) (fun a => (hasA_cons (k := 28) rfl (done_of (j := 28) hcu rfl (by decide) rfl) hasA_base)) (ov_nilCheck rfl) rfl rfl (onlyT_spec (k0 := 29) rfl rfl rfl)
  ·exact fun done hi hc hcu => draw_value (i := 30) (t := 33) (v := (pt p0 9)) rfl rfl (wanted_none rfl) (fun a => (hasA_cons (k := 29) rfl (done_of (j := 29) hcu rfl (by decide) rfl) hasA_base)) (ov_fieldAddr (sz := 0) (o := 0) rfl F_field_51_1 F_size_2) rfl rfl (onlyT_spec (k0 := 30) rfl rfl rfl)
  ·exact fun done hi hc hcu => draw_value (i := 31) (t := 34) (v := (pt p0 0)) rfl rfl (wanted_none rfl) (fun a => hasA_base) (ov_move rfl) rfl rfl (onlyT_spec (k0 := 31) rfl rfl rfl)
  ·exact fun done hi hc hcu => draw_value (i := 32) (t := 35) (v := (pt p0 0)) rfl rfl (wanted_none rfl) (fun a => (hasA_cons (k := 31) rfl (done_of (j := 31) hcu rfl (by decide) rfl) hasA_base)) (ov_nilCheck rfl) rfl rfl (onlyT_spec (k0 := 32) rfl rfl rfl)
  ·exact fun done hi hc hcu => draw_value (i := 33) (t := 36) (v := (pt p0 0)) rfl rfl (wanted_none rfl) (fun a => (hasA_cons (k := 32) rfl (done_of (j := 32) hcu rfl (by decide) rfl) hasA_base)) (ov_fieldAddr (sz := 8) (o := 0) rfl F_field_51_0 F_size_24) rfl rfl (onlyT_spec (k0 := 33) rfl rfl rfl)
  ·exact fun done hi hc hcu => draw_value (i := 34) (t := 37) (v := (pt p0 8)) rfl rfl (wanted_none rfl) (fun a => (hasA_cons (k := 33) rfl (done_of (j := 33) hcu rfl (by decide) rfl) hasA_base)) (ov_fieldAddr (sz := 0) (o := 0) rfl F_field_24_8 F_size_2) rfl rfl (onlyT_spec (k0 := 34) rfl rfl rfl)
  ·exact fun done hi hc hcu => draw_value (i := 35) (t := 38) (v := (C2_)) rfl rfl (wanted_none rfl) (fun a => (hasA_cons (k := 34) rfl (done_of (j := 34) hcu rfl (by decide) rfl) (hasA_cons (k := 30) rfl (done_of (j := 30) hcu rfl (by decide) rfl) (hasA_cons (k := 27) rfl (done_of (j := 27) hcu rfl (by decide) rfl) (hasA_cons (k := 23) rfl (done_of (j := 23) hcu rfl (by decide) rfl) (hasA_cons (k := 19) rfl (done_of (j := 19) hcu rfl (by decide) rfl) (hasA_cons (k := 15) rfl (done_of (j := 15) hcu rfl (by decide) rfl) (hasA_cons (k := 11) rfl (done_of (j := 11) hcu rfl (by decide) rfl) (hasA_cons (k := 7) rfl (done_of (j := 7) hcu rfl (by decide) rfl) (hasA_cons (k := 3) rfl (done_of (j := 3) hcu rfl (by decide) rfl) hasA_base)))))))))) (ov_build (is := [0,1,2,3,4,5,6,7,8]) (xs := [.tmp 6,.tmp 10,.tmp 14,.tmp 18,.tmp 22,.tmp 26,.tmp 30,.tmp 33,.tmp 37]) (vs := C0_) rfl rfl (build_array (cs := C0_) F_zero_53 F_array_53 F_size_52 (by simp [C2_,C1_,C0_,Instr.fill,cells_int,cells_bool,cells_str,cells_func,cells_slice,cells_ptr,cells_nilFunc,cells_agg,]))) rfl rfl (onlyT_spec (k0 := 35) rfl rfl rfl)
  ·exact fun done hi hc hcu => draw_store (i := 36) (L2 := [box b2 53 [P0,P0,P0,P0,P0,P0,P0,P0,P0],box p0 51 C1_]) (L3 := [box b2 53 C0_,box p0 51 C1_]) rfl rfl (wanted_none rfl) (fun a => (hasA_cons (k := 35) rfl (done_of (j := 35) hcu rfl (by decide) rfl) hasA_base)) (by simp only [C2_,C1_,C0_,hi,sel]) (by simp [C2_,C1_,C0_,up,sel]) (ot_storeG (cs := [P0,P0,P0,P0,P0,P0,P0,P0,P0]) (cs' := C0_) (us := C0_) (L' := [box b2 53 C0_,box p0 51 C1_]) 0 rfl rfl rfl (one_all rfl) F_size_53 rfl rfl (by simp [C2_,C1_,C0_]) rfl) (offT_spec rfl)
 ·intro done hall
  refine draw_endL [box b2 53 C0_,box p0 51 C1_] (by simp only [C2_,C1_,C0_,hall 36 (by decide),sel]) (fun a => (hasA_cons (k := 0) rfl (hall 0 (by decide)) (hasA_cons (k := 1) rfl (hall 1 (by decide)) (hasA_cons (k := 2) rfl (hall 2 (by decide)) (hasA_cons (k := 3) rfl (hall 3 (by decide)) (hasA_cons (k := 4) rfl (hall 4 (by decide)) (hasA_cons (k := 5) rfl (hall 5 (by decide)) (hasA_cons (k := 6) rfl (hall 6 (by decide)) (hasA_cons (k := 7) rfl (hall 7 (by decide)) (hasA_cons (k := 8) rfl (hall 8 (by decide)) (hasA_cons (k := 9) rfl (hall 9 (by decide)) (hasA_cons (k := 10) rfl (hall 10 (by decide)) (hasA_cons (k := 11) rfl (hall 11 (by decide)) (hasA_cons (k := 12) rfl (hall 12 (by decide)) (hasA_cons (k := 13) rfl (hall 13 (by decide)) (hasA_cons (k := 14) rfl (hall 14 (by decide)) (hasA_cons (k := 15) rfl (hall 15 (by decide)) (hasA_cons (k := 16) rfl (hall 16 (by decide)) (hasA_cons (k := 17) rfl (hall 17 (by decide)) (hasA_cons (k := 18) rfl (hall 18 (by decide)) (hasA_cons (k := 19) rfl (hall 19 (by decide)) (hasA_cons (k := 20) rfl (hall 20 (by decide)) (hasA_cons (k := 21) rfl (hall 21 (by decide)) (hasA_cons (k := 22) rfl (hall 22 (by decide)) (hasA_cons (k := 23) rfl (hall 23 (by decide)) (hasA_cons (k := 24) rfl (hall 24 (by decide)) (hasA_cons (k := 25) rfl (hall 25 (by decide)) (hasA_cons (k := 26) rfl (hall 26 (by decide)) (hasA_cons (k := 27) rfl (hall 27 (by decide)) (hasA_cons (k := 28) rfl (hall 28 (by decide)) (hasA_cons (k := 29) rfl (hall 29 (by decide)) (hasA_cons (k := 30) rfl (hall 30 (by decide)) (hasA_cons (k := 31) rfl (hall 31 (by decide)) (hasA_cons (k := 32) rfl (hall 32 (by decide)) (hasA_cons (k := 33) rfl (hall 33 (by decide)) (hasA_cons (k := 34) rfl (hall 34 (by decide)) (hasA_cons (k := 35) rfl (hall 35 (by decide)) hasA_base))))))))))))))))))))))))))))))))))))) ?_
  refine ent_retc ?_
  subst H
  exact ret_memp [1] (by decide) rfl (vs := [C2_]) rfl ⟨⟨_,C0_,rfl,reads_boxW (i := 0) rfl,.inl ⟨F_agg_53,F_size_53,rfl⟩⟩,trivial⟩ _ rfl ⟨rfl,rfl⟩

theorem script_bare_NN.spec (a0_1 : Int) (r : (Int × Int × Int × Int × Bool × Bool × Bool × Bool × Bool × Bool × Bool × Bool × (List UInt8) × (List UInt8) × (List UInt8) × (List UInt8) × Int × Int × Int × Int × Int × Int × Int × Int × Int)) (H : script_bare_NN a0_1 = r) : FnSpec Try.prog 93 [agg #[I 4,I a0_1,L0,I 0,I 0,B0,B0,B0,B0,B0,B0,B0,B0,S0,S0,S0,S0,I 0,I 0,I 0,I 0,I 0,I 0,I 0,I 0,I 0,L0]] [] (fun v M => v = (agg #[I r.1,I r.2.1,L0,I r.2.2.1,I r.2.2.2.1,bool r.2.2.2.2.1,bool r.2.2.2.2.2.1,bool r.2.2.2.2.2.2.1,bool r.2.2.2.2.2.2.2.1,bool r.2.2.2.2.2.2.2.2.1,bool r.2.2.2.2.2.2.2.2.2.1,bool r.2.2.2.2.2.2.2.2.2.2.1,bool r.2.2.2.2.2.2.2.2.2.2.2.1,str r.2.2.2.2.2.2.2.2.2.2.2.2.1,str r.2.2.2.2.2.2.2.2.2.2.2.2.2.1,str r.2.2.2.2.2.2.2.2.2.2.2.2.2.2.1,str r.2.2.2.2.2.2.2.2.2.2.2.2.2.2.2.1,I r.2.2.2.2.2.2.2.2.2.2.2.2.2.2.2.2.1,I r.2.2.2.2.2.2.2.2.2.2.2.2.2.2.2.2.2.1,I r.2.2.2.2.2.2.2.2.2.2.2.2.2.2.2.2.2.2.1,I r.2.2.2.2.2.2.2.2.2.2.2.2.2.2.2.2.2.2.2.1,I r.2.2.2.2.2.2.2.2.2.2.2.2.2.2.2.2.2.2.2.2.1,I r.2.2.2.2.2.2.2.2.2.2.2.2.2.2.2.2.2.2.2.2.2.1,I r.2.2.2.2.2.2.2.2.2.2.2.2.2.2.2.2.2.2.2.2.2.2.1,I r.2.2.2.2.2.2.2.2.2.2.2.2.2.2.2.2.2.2.2.2.2.2.2.1,I r.2.2.2.2.2.2.2.2.2.2.2.2.2.2.2.2.2.2.2.2.2.2.2.2,L0]) ∧ M = []) := by
 unfold script_bare_NN at H
 refine spec_of Try.func93 rfl 26 rfl (Nat.le_of_ble_eq_true rfl) fun F w0 => ?_
 let C2_ : List Value := [I 0,I 0,L0,I 0,I 0,B0,B0,B0,B0,B0,B0,B0,B0,S0,S0,S0,S0,I 0,I 0,I 0,I 0,I 0,I 0,I 0,I 0,I 0,L0]
 let C1_ : List Value := [I 4,I a0_1,L0,I 0,I 0,B0,B0,B0,B0,B0,B0,B0,B0,S0,S0,S0,S0,I 0,I 0,I 0,I 0,I 0,I 0,I 0,I 0,I 0,L0]
 let C0_ : List Value := [I 4,I 0,L0,I 0,I 0,B0,B0,B0,B0,B0,B0,B0,B0,S0,S0,S0,S0,I 0,I 0,I 0,I 0,I 0,I 0,I 0,I 0,I 0,L0]
 show Ent (St 26 w0 F [(0,agg #[I 4,I a0_1,L0,I 0,I 0,B0,B0,B0,B0,B0,B0,B0,B0,S0,S0,S0,S0,I 0,I 0,I 0,I 0,I 0,I 0,I 0,I 0,I 0,L0])] []) _
 refine ent_seq (ent_region ?_)
 refine ent_op (ot_box (cs := C1_) rfl rfl) rfl rfl rfl ?_
 rintro _ _ ⟨b3,rfl,rfl⟩
 refine ent_op (ot_alloc F_zero_108) rfl rfl rfl ?_
 rintro _ _ ⟨b4,rfl,rfl⟩
 refine ent_nil (ent_seq (ent_seq (ent_region (ent_value (ov_fieldAddr (sz := 0) (o := 0) rfl F_field_108_0 F_size_3) rfl rfl rfl (ent_value (ov_load (v := (I 4)) rfl F_agg_3 (reads_box1 (i := 1) rfl rfl)) rfl rfl rfl (ent_nil (ent_block (ent_seq (ent_region (ent_value (ov_bin rfl rfl (b_eql _ _ _)) rfl rfl rfl (ent_value (ov_assign rfl) rfl rfl rfl ?_)))))))))))
 refine ent_nil (ent_cond_false rfl rfl (ent_seq (ent_region (ent_value (ov_bin rfl rfl (b_eql _ _ _)) rfl rfl rfl (ent_value (ov_assign rfl) rfl rfl rfl (ent_nil (ent_cond_false rfl rfl (ent_seq (ent_region (ent_value (ov_bin rfl rfl (b_eql _ _ _)) rfl rfl rfl (ent_value (ov_assign rfl) rfl rfl rfl ?_)))))))))))
 refine ent_nil (ent_cond_false rfl rfl (ent_seq (ent_seq (ent_region (ent_value (ov_bin rfl rfl (b_eql _ _ _)) rfl rfl rfl (ent_value (ov_assign rfl) rfl rfl rfl (ent_nil (ent_cond_true rfl rfl (ent_skip (ent_cond_true rfl rfl (ent_region ?_)))))))))))
 refine ent_value (ov_fieldAddr (sz := 0) (o := 0) rfl F_field_108_1 F_size_2) rfl rfl rfl ?_
 refine ent_op0 (ot_storeG (cs := C1_) (cs' := C0_) (us := [I 0]) (L' := [box b4 108 C2_,box b3 108 C0_]) 1 rfl rfl rfl (one_all rfl) F_size_2 rfl rfl (by simp [C2_,C1_,C0_]) rfl) rfl rfl ?_
 rintro _ _ rfl
 refine ent_nil (ent_seq (ent_region (ent_value (ov_load_agg (vs := C0_) rfl F_agg_108 F_size_108 (reads_boxW (i := 1) rfl)) rfl rfl rfl ?_)))
 refine ent_op0 (ot_storeG (cs := C2_) (cs' := C0_) (us := C0_) (L' := [box b4 108 C0_,box b3 108 C0_]) 0 rfl rfl rfl (one_all rfl) F_size_108 rfl rfl (by simp [C2_,C1_,C0_]) rfl) rfl rfl ?_
 rintro _ _ rfl
 refine ent_nil (ent_retc ?_)
 subst H
 exact ret_memp [] (by decide) rfl (vs := [agg #[I 4,I 0,L0,I 0,I 0,B0,B0,B0,B0,B0,B0,B0,B0,S0,S0,S0,S0,I 0,I 0,I 0,I 0,I 0,I 0,I 0,I 0,I 0,L0]]) rfl ⟨⟨_,C0_,rfl,reads_boxW (i := 0) rfl,.inl ⟨F_agg_108,F_size_108,rfl⟩⟩,trivial⟩ _ rfl ⟨rfl,rfl⟩

theorem slices_Equal____api_Fact__api_Fact_RR.spec (K : Nat) (sv0 : Value) (A0 : HP) (sv1 : Value) (A1 : HP) (l0 : List Api_Fact) (l1 : List Api_Fact) (hA0 : IsRd A0 sv0 l0.length 6 (fl enc_Api_Fact l0)) (hA1 : IsRd A1 sv1 l1.length 6 (fl enc_Api_Fact l1)) (r : Bool) (H : slices_Equal____api_Fact__api_Fact_RR K l0 l1 = some r) : FnSpec Try.prog 107 [sv0,sv1] [A0,A1] (fun v M => v = (bool r) ∧ M = [A0,A1]) := by
 unfold slices_Equal____api_Fact__api_Fact_RR at H
 refine spec_of Try.func107 rfl 26 rfl (Nat.le_of_ble_eq_true rfl) fun F w0 => ?_
 show Ent (St 26 w0 F [(0,sv0),(1,sv1)] [A0,A1]) _
 refine ent_seq (ent_region (ent_value (ov_assign rfl) rfl rfl rfl (ent_nil (ent_seq (ent_seq (ent_region (ent_value (ov_move rfl) rfl rfl rfl (ent_value (ov_len 0 rfl F_slice_101 rfl hA0) rfl rfl rfl (ent_value (ov_move rfl) rfl rfl rfl (ent_value (ov_len 1 rfl F_slice_101 rfl hA1) rfl rfl rfl (ent_value (ov_bin rfl rfl (b_neq _ _ _)) rfl rfl rfl ?_)))))))))))
 refine ent_nil ?_
 refine htT H (fun c48 H => ?_) fun c48 H => ?_
 ·refine ent_cond_true rfl (ne_t c48) (ent_seq (ent_region (ent_value (ov_assign rfl) rfl rfl rfl (ent_nil (ent_retc ?_)))))
  cases H
  refine ent_pick [0,1] (by decide) rfl ?_
  exact ret_tmp rfl rfl ⟨rfl,rfl⟩
 refine ent_cond_false rfl (ne_f c48) (ent_skip (ent_seq (ent_seq (ent_region (ent_value (ov_move rfl) rfl rfl rfl (ent_value (ov_len 0 rfl F_slice_101 rfl hA0) rfl rfl rfl (ent_value (ov_move rfl) rfl rfl rfl (ent_nil (ent_block ?_)))))))))
 refine ent_loop (fun k a w => ∃ i4,slices_Equal____api_Fact__api_Fact_RR_l0 K l0 l1 k i4 = some r ∧ St 26 w0 F [(0,sv0),(1,sv1),(12,I (l0.length : Int)),(13,I i4)] [A0,A1] a w) K ?_ ?_
 ·exact ent_fin [0,1] (by decide) rfl (sub_cons (t := 0) rfl (sub_cons (t := 1) rfl (sub_cons (t := 12) rfl (sub_cons (t := 13) rfl (sub_nil _))))) fun a w h => ⟨_,H,h⟩
 ·refine fun k => ent_exi fun i4 => ent_and fun H4 => ?_
  let C1_ : Value := agg #[I (((l1.getD i4.toNat z_Api_Fact).Key).Hour),str (((l1.getD i4.toNat z_Api_Fact).Key).Dims_0),str (((l1.getD i4.toNat z_Api_Fact).Key).Dims_1),str (((l1.getD i4.toNat z_Api_Fact).Key).Dims_2),str (((l1.getD i4.toNat z_Api_Fact).Key).Dims_3),I ((l1.getD i4.toNat z_Api_Fact).Value)]
  let C0_ : Value := agg #[I (((l0.getD i4.toNat z_Api_Fact).Key).Hour),str (((l0.getD i4.toNat z_Api_Fact).Key).Dims_0),str (((l0.getD i4.toNat z_Api_Fact).Key).Dims_1),str (((l0.getD i4.toNat z_Api_Fact).Key).Dims_2),str (((l0.getD i4.toNat z_Api_Fact).Key).Dims_3),I ((l0.getD i4.toNat z_Api_Fact).Value)]
  cases k with
  | zero => exact absurd H4 (by simp [C1_,C0_,slices_Equal____api_Fact__api_Fact_RR_l0])
  | succ k =>
   rw [slices_Equal____api_Fact__api_Fact_RR_l0] at H4
   refine ent_seq (ent_region (ent_value (ov_bin rfl rfl (b_lss _ _ _)) rfl rfl rfl (ent_nil (ent_seq ?_))))
   refine htF H4 (fun c86 H4 => ?_) fun c86 H4 => ?_
   ·refine ent_cond_false rfl (decide_eq_false c86) (ent_exit (ent_seq (ent_region (ent_value (ov_assign rfl) rfl rfl rfl (ent_nil (ent_retc ?_))))))
    cases H4
    refine ent_pick [0,1] (by decide) rfl ?_
    exact ret_tmp rfl rfl ⟨rfl,rfl⟩
   refine ent_cond_true rfl (decide_eq_true c86) (ent_skip (ent_seq (ent_block (ent_seq (ent_region (ent_value (ov_move rfl) rfl rfl rfl (ent_value (ov_assign rfl) rfl rfl rfl (ent_nil (ent_seq ?_)))))))))
   obtain ⟨c90,H4⟩ := gdT H4
   obtain ⟨c91,H4⟩ := gdT H4
   refine ent_drawm 9 rfl (fun done a w => StD 26 w0 F [(0,sv0),(1,sv1),(5,I i4),(12,I (l0.length : Int)),(13,I i4),(14,bool (decide (i4 < (l0.length : Int)))),(15,I i4)] [(0,16,sv0),(1,17,I i4),(2,18,(eptr sv0 (i4.toNat * 6))),(3,19,C0_),(4,20,sv1),(5,21,I i4),(6,22,(eptr sv1 (i4.toNat * 6))),(7,23,C1_),(8,24,bool (!((((((l0.getD i4.toNat z_Api_Fact).Key).Hour) == (((l1.getD i4.toNat z_Api_Fact).Key).Hour)) && ((((((l0.getD i4.toNat z_Api_Fact).Key).Dims_0) == (((l1.getD i4.toNat z_Api_Fact).Key).Dims_0)) && (((((l0.getD i4.toNat z_Api_Fact).Key).Dims_1) == (((l1.getD i4.toNat z_Api_Fact).Key).Dims_1)) && (((((l0.getD i4.toNat z_Api_Fact).Key).Dims_2) == (((l1.getD i4.toNat z_Api_Fact).Key).Dims_2)) && (((((l0.getD i4.toNat z_Api_Fact).Key).Dims_3) == (((l1.getD i4.toNat z_Api_Fact).Key).Dims_3)) && true)))) && true)) && ((((l0.getD i4.toNat z_Api_Fact).Value) == ((l1.getD i4.toNat z_Api_Fact).Value)) && true))))] done [A0,A1] a w) (by kernel_rfl) (by kernel_rfl) (draw_startL (sub_cons (t := 0) rfl (sub_cons (t := 1) rfl (sub_cons (t := 5) rfl (sub_cons (t := 12) rfl (sub_cons (t := 13) rfl (sub_cons (t := 14) rfl (sub_cons (t := 15) rfl (sub_nil _)))))))) rfl) ?_ ?_
   ·refine ⟨?_,?_,?_,?_,?_,?_,?_,?_,?_,trivial⟩
    ·exact fun done hi hc hcu => draw_value (i := 0) (t := 16) (v := sv0) rfl rfl (wanted_none rfl) (fun a => hasA_base) (ov_move rfl) rfl rfl (onlyT_spec (k0 := 0) rfl rfl rfl)
    ·exact fun done hi hc hcu => draw_value (i := 1) (t := 17) (v := (I i4)) rfl rfl (wanted_none rfl) (fun a => hasA_base) (ov_move rfl) rfl rfl (onlyT_spec (k0 := 1) rfl rfl rfl)
    ·exact fun done hi hc hcu => draw_value (i := 2) (t := 18) (v := (eptr sv0 (i4.toNat * 6))) rfl rfl (wanted_none rfl) (fun a => (hasA_cons (k := 1) rfl (done_of (j := 1) hcu rfl (by decide) rfl) (hasA_cons (k := 0) rfl (done_of (j := 0) hcu rfl (by decide) rfl) hasA_base))) (ov_indexAddr (sz := 5) 0 rfl rfl F_slice_101 F_size_149 rfl hA0 c90 c86) rfl rfl (onlyT_spec (k0 := 2) rfl rfl rfl)
    ·exact fun done hi hc hcu => draw_value (i := 3) (t := 19) (v := (C0_)) rfl rfl (wanted_none rfl) (fun a => (hasA_cons (k := 2) rfl (done_of (j := 2) hcu rfl (by decide) rfl) hasA_base)) (ov_load_agg (vs := [I (((l0.getD i4.toNat z_Api_Fact).Key).Hour),str (((l0.getD i4.toNat z_Api_Fact).Key).Dims_0),str (((l0.getD i4.toNat z_Api_Fact).Key).Dims_1),str (((l0.getD i4.toNat z_Api_Fact).Key).Dims_2),str (((l0.getD i4.toNat z_Api_Fact).Key).Dims_3),I ((l0.getD i4.toNat z_Api_Fact).Value)]) rfl F_agg_149 F_size_149 (reads_rd (i := 0) rfl hA0 (by simp [C1_,C0_]) (fl_read0 enc_Api_Fact_len (ix_lt c90 c86) rfl))) rfl rfl (onlyT_spec (k0 := 3) rfl rfl rfl)
    ·exact fun done hi hc hcu => draw_value (i := 4) (t := 20) (v := sv1) rfl rfl (wanted_none rfl) (fun a => hasA_base) (ov_move rfl) rfl rfl (onlyT_spec (k0 := 4) rfl rfl rfl)
    ·exact fun done hi hc hcu => draw_value (i := 5) (t := 21) (v := (I i4)) rfl rfl (wanted_none rfl) (fun a => hasA_base) (ov_move rfl) rfl rfl (onlyT_spec (k0 := 5) rfl rfl rfl)
    ·exact fun done hi hc hcu => draw_value (i := 6) (t := 22) (v := (eptr sv1 (i4.toNat * 6))) rfl rfl (wanted_none rfl) (fun a => (hasA_cons (k := 5) rfl (done_of (j := 5) hcu rfl (by decide) rfl) (hasA_cons (k := 4) rfl (done_of (j := 4) hcu rfl (by decide) rfl) hasA_base))) (ov_indexAddr (sz := 5) 1 rfl rfl F_slice_101 F_size_149 rfl hA1 c90 c91) rfl rfl (onlyT_spec (k0 := 6) rfl rfl rfl)
    ·exact fun done hi hc hcu => draw_value (i := 7) (t := 23) (v := (C1_)) rfl rfl (wanted_none rfl) (fun a => (hasA_cons (k := 6) rfl (done_of (j := 6) hcu rfl (by decide) rfl) hasA_base)) (ov_load_agg (vs := [I (((l1.getD i4.toNat z_Api_Fact).Key).Hour),str (((l1.getD i4.toNat z_Api_Fact).Key).Dims_0),str (((l1.getD i4.toNat z_Api_Fact).Key).Dims_1),str (((l1.getD i4.toNat z_Api_Fact).Key).Dims_2),str (((l1.getD i4.toNat z_Api_Fact).Key).Dims_3),I ((l1.getD i4.toNat z_Api_Fact).Value)]) rfl F_agg_149 F_size_149 (reads_rd (i := 1) rfl hA1 (by simp [C1_,C0_]) (fl_read0 enc_Api_Fact_len (ix_lt c90 c91) rfl))) rfl rfl (onlyT_spec (k0 := 7) rfl rfl rfl)
    ·exact fun done hi hc hcu => draw_value (i := 8) (t := 24) (v := (bool (!((((((l0.getD i4.toNat z_Api_Fact).Key).Hour) == (((l1.getD i4.toNat z_Api_Fact).Key).Hour)) && ((((((l0.getD i4.toNat z_Api_Fact).Key).Dims_0) == (((l1.getD i4.toNat z_Api_Fact).Key).Dims_0)) && (((((l0.getD i4.toNat z_Api_Fact).Key).Dims_1) == (((l1.getD i4.toNat z_Api_Fact).Key).Dims_1)) && (((((l0.getD i4.toNat z_Api_Fact).Key).Dims_2) == (((l1.getD i4.toNat z_Api_Fact).Key).Dims_2)) && (((((l0.getD i4.toNat z_Api_Fact).Key).Dims_3) == (((l1.getD i4.toNat z_Api_Fact).Key).Dims_3)) && true)))) && true)) && ((((l0.getD i4.toNat z_Api_Fact).Value) == ((l1.getD i4.toNat z_Api_Fact).Value)) && true))))) rfl rfl (wanted_none rfl) (fun a => (hasA_cons (k := 7) rfl (done_of (j := 7) hcu rfl (by decide) rfl) (hasA_cons (k := 3) rfl (done_of (j := 3) hcu rfl (by decide) rfl) hasA_base))) (ov_bin rfl rfl (same_149_n _ _ _ _ _ _ _ _ _ _ _ _)) rfl rfl (onlyT_spec (k0 := 8) rfl rfl rfl)
   ·intro done hall
    refine draw_endL [A0,A1] rfl (fun a => (hasA_cons (k := 0) rfl (hall 0 (by decide)) (hasA_cons (k := 1) rfl (hall 1 (by decide)) (hasA_cons (k := 2) rfl (hall 2 (by decide)) (hasA_cons (k := 3) rfl (hall 3 (by decide)) (hasA_cons (k := 4) rfl (hall 4 (by decide)) (hasA_cons (k := 5) rfl (hall 5 (by decide)) (hasA_cons (k := 6) rfl (hall 6 (by decide)) (hasA_cons (k := 7) rfl (hall 7 (by decide)) (hasA_cons (k := 8) rfl (hall 8 (by decide)) hasA_base)))))))))) ?_
    refine htT H4 (fun c92 H4 => ?_) fun c92 H4 => ?_
    ·refine ent_cond_true rfl c92 (ent_seq (ent_region (ent_value (ov_assign rfl) rfl rfl rfl (ent_nil (ent_retc ?_)))))
     cases H4
     refine ent_pick [0,1] (by decide) rfl ?_
     exact ret_tmp rfl rfl ⟨rfl,rfl⟩
    refine ent_cond_false rfl (Bool.eq_false_iff.2 c92) (ent_skip (ent_region (ent_value (ov_bin rfl rfl (b_add _ _ _) ) rfl rfl rfl (ent_value (ov_move rfl) rfl rfl rfl (ent_nil ?_)))))
    exact ent_fin [0,1] (by decide) rfl (sub_cons (t := 0) rfl (sub_cons (t := 1) rfl (sub_cons (t := 12) rfl (sub_cons (t := 13) rfl (sub_nil _))))) fun a w h => ⟨k,Nat.lt_succ_self k,_,H4,h⟩

theorem slices_Equal_____bool__bool_RR.spec (K : Nat) (sv0 : Value) (A0 : HP) (sv1 : Value) (A1 : HP) (l0 : List Bool) (l1 : List Bool) (hA0 : IsRd A0 sv0 l0.length 1 (fl eB l0)) (hA1 : IsRd A1 sv1 l1.length 1 (fl eB l1)) (r : Bool) (H : slices_Equal_____bool__bool_RR K l0 l1 = some r) : FnSpec Try.prog 108 [sv0,sv1] [A0,A1] (fun v M => v = (bool r) ∧ M = [A0,A1]) := by
 unfold slices_Equal_____bool__bool_RR at H
 refine spec_of Try.func108 rfl 26 rfl (Nat.le_of_ble_eq_true rfl) fun F w0 => ?_
 show Ent (St 26 w0 F [(0,sv0),(1,sv1)] [A0,A1]) _
 refine ent_seq (ent_region (ent_value (ov_assign rfl) rfl rfl rfl (ent_nil (ent_seq (ent_seq (ent_region (ent_value (ov_move rfl) rfl rfl rfl (ent_value (ov_len 0 rfl F_slice_106 rfl hA0) rfl rfl rfl (ent_value (ov_move rfl) rfl rfl rfl (ent_value (ov_len 1 rfl F_slice_106 rfl hA1) rfl rfl rfl (ent_value (ov_bin rfl rfl (b_neq _ _ _)) rfl rfl rfl ?_)))))))))))
 refine ent_nil ?_
 refine htT H (fun c48 H => ?_) fun c48 H => ?_
 ·refine ent_cond_true rfl (ne_t c48) (ent_seq (ent_region (ent_value (ov_assign rfl) rfl rfl rfl (ent_nil (ent_retc ?_)))))
  cases H
  refine ent_pick [0,1] (by decide) rfl ?_
  exact ret_tmp rfl rfl ⟨rfl,rfl⟩
 refine ent_cond_false rfl (ne_f c48) (ent_skip (ent_seq (ent_seq (ent_region (ent_value (ov_move rfl) rfl rfl rfl (ent_value (ov_len 0 rfl F_slice_106 rfl hA0) rfl rfl rfl (ent_value (ov_move rfl) rfl rfl rfl (ent_nil (ent_block ?_)))))))))
 refine ent_loop (fun k a w => ∃ i4,slices_Equal_____bool__bool_RR_l0 K l0 l1 k i4 = some r ∧ St 26 w0 F [(0,sv0),(1,sv1),(12,I (l0.length : Int)),(13,I i4)] [A0,A1] a w) K ?_ ?_
 ·exact ent_fin [0,1] (by decide) rfl (sub_cons (t := 0) rfl (sub_cons (t := 1) rfl (sub_cons (t := 12) rfl (sub_cons (t := 13) rfl (sub_nil _))))) fun a w h => ⟨_,H,h⟩
 ·refine fun k => ent_exi fun i4 => ent_and fun H4 => ?_
  cases k with
  | zero => exact absurd H4 (by simp [slices_Equal_____bool__bool_RR_l0])
  | succ k =>
   rw [slices_Equal_____bool__bool_RR_l0] at H4
   refine ent_seq (ent_region (ent_value (ov_bin rfl rfl (b_lss _ _ _)) rfl rfl rfl (ent_nil (ent_seq ?_))))
   refine htF H4 (fun c86 H4 => ?_) fun c86 H4 => ?_
   ·refine ent_cond_false rfl (decide_eq_false c86) (ent_exit (ent_seq (ent_region (ent_value (ov_assign rfl) rfl rfl rfl (ent_nil (ent_retc ?_))))))
    cases H4
    refine ent_pick [0,1] (by decide) rfl ?_
    exact ret_tmp rfl rfl ⟨rfl,rfl⟩
   refine ent_cond_true rfl (decide_eq_true c86) (ent_skip (ent_seq (ent_block (ent_seq (ent_region (ent_value (ov_move rfl) rfl rfl rfl (ent_value (ov_assign rfl) rfl rfl rfl (ent_nil (ent_seq ?_)))))))))
   obtain ⟨c90,H4⟩ := gdT H4
   obtain ⟨c91,H4⟩ := gdT H4
   refine ent_drawm 9 rfl (fun done a w => StD 26 w0 F [(0,sv0),(1,sv1),(5,I i4),(12,I (l0.length : Int)),(13,I i4),(14,bool (decide (i4 < (l0.length : Int)))),(15,I i4)] [(0,16,sv0),(1,17,I i4),(2,18,(eptr sv0 (i4.toNat * 1))),(3,19,bool (l0.getD i4.toNat false)),(4,20,sv1),(5,21,I i4),(6,22,(eptr sv1 (i4.toNat * 1))),(7,23,bool (l1.getD i4.toNat false)),(8,24,bool ((l0.getD i4.toNat false) != (l1.getD i4.toNat false)))] done [A0,A1] a w) (by kernel_rfl) (by kernel_rfl) (draw_startL (sub_cons (t := 0) rfl (sub_cons (t := 1) rfl (sub_cons (t := 5) rfl (sub_cons (t := 12) rfl (sub_cons (t := 13) rfl (sub_cons (t := 14) rfl (sub_cons (t := 15) rfl (sub_nil _)))))))) rfl) ?_ ?_
   ·refine ⟨?_,?_,?_,?_,?_,?_,?_,?_,?_,trivial⟩
    ·exact fun done hi hc hcu => draw_value (i := 0) (t := 16) (v := sv0) rfl rfl (wanted_none rfl) (fun a => hasA_base) (ov_move rfl) rfl rfl (onlyT_spec (k0 := 0) rfl rfl rfl)
    ·exact fun done hi hc hcu => draw_value (i := 1) (t := 17) (v := (I i4)) rfl rfl (wanted_none rfl) (fun a => hasA_base) (ov_move rfl) rfl rfl (onlyT_spec (k0 := 1) rfl rfl rfl)
    ·exact fun done hi hc hcu => draw_value (i := 2) (t := 18) (v := (eptr sv0 (i4.toNat * 1))) rfl rfl (wanted_none rfl) (fun a => (hasA_cons (k := 1) rfl (done_of (j := 1) hcu rfl (by decide) rfl) (hasA_cons (k := 0) rfl (done_of (j := 0) hcu rfl (by decide) rfl) hasA_base))) (ov_indexAddr (sz := 0) 0 rfl rfl F_slice_106 F_size_4 rfl hA0 c90 c86) rfl rfl (onlyT_spec (k0 := 2) rfl rfl rfl)
    ·exact fun done hi hc hcu => draw_value (i := 3) (t := 19) (v := (bool (l0.getD i4.toNat false))) rfl rfl (wanted_none rfl) (fun a => (hasA_cons (k := 2) rfl (done_of (j := 2) hcu rfl (by decide) rfl) hasA_base)) (ov_load (v := (bool (l0.getD i4.toNat false))) rfl F_agg_4 (reads_rd (i := 0) rfl hA0 (by simp) (fl_read0 eB_len (ix_lt c90 c86) rfl))) rfl rfl (onlyT_spec (k0 := 3) rfl rfl rfl)
    ·exact fun done hi hc hcu => draw_value (i := 4) (t := 20) (v := sv1) rfl rfl (wanted_none rfl) (fun a => hasA_base) (ov_move rfl) rfl rfl (onlyT_spec (k0 := 4) rfl rfl rfl)
    ·exact fun done hi hc hcu => draw_value (i := 5) (t := 21) (v := (I i4)) rfl rfl (wanted_none rfl) (fun a => hasA_base) (ov_move rfl) rfl rfl (onlyT_spec (k0 := 5) rfl rfl rfl)
    ·exact fun done hi hc hcu => draw_value (i := 6) (t := 22) (v := (eptr sv1 (i4.toNat * 1))) rfl rfl (wanted_none rfl) (fun a => (hasA_cons (k := 5) rfl (done_of (j := 5) hcu rfl (by decide) rfl) (hasA_cons (k := 4) rfl (done_of (j := 4) hcu rfl (by decide) rfl) hasA_base))) (ov_indexAddr (sz := 0) 1 rfl rfl F_slice_106 F_size_4 rfl hA1 c90 c91) rfl rfl (onlyT_spec (k0 := 6) rfl rfl rfl)
    ·exact fun done hi hc hcu => draw_value (i := 7) (t := 23) (v := (bool (l1.getD i4.toNat false))) rfl rfl (wanted_none rfl) (fun a => (hasA_cons (k := 6) rfl (done_of (j := 6) hcu rfl (by decide) rfl) hasA_base)) (ov_load (v := (bool (l1.getD i4.toNat false))) rfl F_agg_4 (reads_rd (i := 1) rfl hA1 (by simp) (fl_read0 eB_len (ix_lt c90 c91) rfl))) rfl rfl (onlyT_spec (k0 := 7) rfl rfl rfl)
    ·exact fun done hi hc hcu => draw_value (i := 8) (t := 24) (v := (bool ((l0.getD i4.toNat false) != (l1.getD i4.toNat false)))) rfl rfl (wanted_none rfl) (fun a => (hasA_cons (k := 7) rfl (done_of (j := 7) hcu rfl (by decide) rfl) (hasA_cons (k := 3) rfl (done_of (j := 3) hcu rfl (by decide) rfl) hasA_base))) (ov_bin rfl rfl (b_neq_bool Try.underlying4 _ _)) rfl rfl (onlyT_spec (k0 := 8) rfl rfl rfl)
   ·intro done hall
    refine draw_endL [A0,A1] rfl (fun a => (hasA_cons (k := 0) rfl (hall 0 (by decide)) (hasA_cons (k := 1) rfl (hall 1 (by decide)) (hasA_cons (k := 2) rfl (hall 2 (by decide)) (hasA_cons (k := 3) rfl (hall 3 (by decide)) (hasA_cons (k := 4) rfl (hall 4 (by decide)) (hasA_cons (k := 5) rfl (hall 5 (by decide)) (hasA_cons (k := 6) rfl (hall 6 (by decide)) (hasA_cons (k := 7) rfl (hall 7 (by decide)) (hasA_cons (k := 8) rfl (hall 8 (by decide)) hasA_base)))))))))) ?_
    refine htT H4 (fun c92 H4 => ?_) fun c92 H4 => ?_
    ·refine ent_cond_true rfl c92 (ent_seq (ent_region (ent_value (ov_assign rfl) rfl rfl rfl (ent_nil (ent_retc ?_)))))
     cases H4
     refine ent_pick [0,1] (by decide) rfl ?_
     exact ret_tmp rfl rfl ⟨rfl,rfl⟩
    refine ent_cond_false rfl (Bool.eq_false_iff.2 c92) (ent_skip (ent_region (ent_value (ov_bin rfl rfl (b_add _ _ _) ) rfl rfl rfl (ent_value (ov_move rfl) rfl rfl rfl (ent_nil ?_)))))
    exact ent_fin [0,1] (by decide) rfl (sub_cons (t := 0) rfl (sub_cons (t := 1) rfl (sub_cons (t := 12) rfl (sub_cons (t := 13) rfl (sub_nil _))))) fun a w h => ⟨k,Nat.lt_succ_self k,_,H4,h⟩

theorem script_Same_1_RRRR.spec (K : Nat) (sv0 : Value) (A0 : HP) (sv1 sv2 : Value) (A2 : HP) (sv3 : Value) (a0_0 a0_1 : Int) (l0 : List Api_Fact) (a0_3 a0_4 : Int) (a0_5 a0_6 : Bool) (a0_7 a0_8 : Bool) (a0_9 a0_10 : Bool) (a0_11 a0_12 : Bool) (a0_13 : List UInt8) (a0_14 : List UInt8) (a0_15 : List UInt8) (a0_16 : List UInt8) (a0_17 a0_18 : Int) (a0_19 a0_20 : Int) (a0_21 a0_22 : Int) (a0_23 a0_24 a0_25 : Int) (l1 : List Bool) (a1_0 a1_1 : Int) (l2 : List Api_Fact) (a1_3 a1_4 : Int) (a1_5 a1_6 : Bool) (a1_7 a1_8 : Bool) (a1_9 a1_10 : Bool) (a1_11 a1_12 : Bool) (a1_13 : List UInt8) (a1_14 : List UInt8) (a1_15 : List UInt8) (a1_16 : List UInt8) (a1_17 a1_18 : Int) (a1_19 a1_20 : Int) (a1_21 a1_22 : Int) (a1_23 a1_24 a1_25 : Int) (l3 : List Bool) (hA0 : IsRd A0 sv0 l0.length 6 (fl enc_Api_Fact l0)) (hA1 : IsRd A0 sv1 l1.length 1 (fl eB l1)) (hA2 : IsRd A2 sv2 l2.length 6 (fl enc_Api_Fact l2)) (hA3 : IsRd A2 sv3 l3.length 1 (fl eB l3)) (r : Bool) (H : script_Same_1_RRRR K a0_0 a0_1 l0 a0_3 a0_4 a0_5 a0_6 a0_7 a0_8 a0_9 a0_10 a0_11 a0_12 a0_13 a0_14 a0_15 a0_16 a0_17 a0_18 a0_19 a0_20 a0_21 a0_22 a0_23 a0_24 a0_25 l1 a1_0 a1_1 l2 a1_3 a1_4 a1_5 a1_6 a1_7 a1_8 a1_9 a1_10 a1_11 a1_12 a1_13 a1_14 a1_15 a1_16 a1_17 a1_18 a1_19 a1_20 a1_21 a1_22 a1_23 a1_24 a1_25 l3 = some r) : FnSpec Try.prog 106 [agg #[I a0_0,I a0_1,sv0,I a0_3,I a0_4,bool a0_5,bool a0_6,bool a0_7,bool a0_8,bool a0_9,bool a0_10,bool a0_11,bool a0_12,str a0_13,str a0_14,str a0_15,str a0_16,I a0_17,I a0_18,I a0_19,I a0_20,I a0_21,I a0_22,I a0_23,I a0_24,I a0_25,sv1],agg #[I a1_0,I a1_1,sv2,I a1_3,I a1_4,bool a1_5,bool a1_6,bool a1_7,bool a1_8,bool a1_9,bool a1_10,bool a1_11,bool a1_12,str a1_13,str a1_14,str a1_15,str a1_16,I a1_17,I a1_18,I a1_19,I a1_20,I a1_21,I a1_22,I a1_23,I a1_24,I a1_25,sv3]] [A0,A2] (fun v M => v = (bool r) ∧ M = [A0,A2]) := by
 unfold script_Same_1_RRRR at H
 refine spec_of Try.func106 rfl 45 rfl (Nat.le_of_ble_eq_true rfl) fun F w0 => ?_
 let C2_ : List Value := [I a1_0,I a1_1,sv2,I a1_3,I a1_4,bool a1_5,bool a1_6,bool a1_7,bool a1_8,bool a1_9,bool a1_10,bool a1_11,bool a1_12,str a1_13,str a1_14,str a1_15,str a1_16,I a1_17,I a1_18,I a1_19,I a1_20,I a1_21,I a1_22,I a1_23,I a1_24,I a1_25,sv3]
 let C1_ : List Value := [I a0_0,I a0_1,sv0,I a0_3,I a0_4,bool a0_5,bool a0_6,bool a0_7,bool a0_8,bool a0_9,bool a0_10,bool a0_11,bool a0_12,str a0_13,str a0_14,str a0_15,str a0_16,I a0_17,I a0_18,I a0_19,I a0_20,I a0_21,I a0_22,I a0_23,I a0_24,I a0_25,sv1]
 show Ent (St 45 w0 F [(0,agg #[I a0_0,I a0_1,sv0,I a0_3,I a0_4,bool a0_5,bool a0_6,bool a0_7,bool a0_8,bool a0_9,bool a0_10,bool a0_11,bool a0_12,str a0_13,str a0_14,str a0_15,str a0_16,I a0_17,I a0_18,I a0_19,I a0_20,I a0_21,I a0_22,I a0_23,I a0_24,I a0_25,sv1]),(1,agg #[I a1_0,I a1_1,sv2,I a1_3,I a1_4,bool a1_5,bool a1_6,bool a1_7,bool a1_8,bool a1_9,bool a1_10,bool a1_11,bool a1_12,str a1_13,str a1_14,str a1_15,str a1_16,I a1_17,I a1_18,I a1_19,I a1_20,I a1_21,I a1_22,I a1_23,I a1_24,I a1_25,sv3])] [A0,A2]) _
 refine ent_seq (ent_region ?_)
 refine ent_op (ot_box (cs := C1_) rfl rfl) rfl rfl rfl ?_
 rintro _ _ ⟨b3,rfl,rfl⟩
 refine ent_op (ot_box (cs := C2_) rfl rfl) rfl rfl rfl ?_
 rintro _ _ ⟨b4,rfl,rfl⟩
 let C0_ : List HP := [box b4 108 C2_,box b3 108 C1_]
 refine ent_value (ov_assign rfl) rfl rfl rfl (ent_nil (ent_seq (ent_region (ent_value (ov_fieldAddr (sz := 0) (o := 0) rfl F_field_108_0 F_size_3) rfl rfl rfl (ent_value (ov_load (v := (I a0_0)) rfl F_agg_3 (reads_box1 (i := 1) rfl rfl)) rfl rfl rfl (ent_value (ov_fieldAddr (sz := 0) (o := 0) rfl F_field_108_0 F_size_3) rfl rfl rfl (ent_value (ov_load (v := (I a1_0)) rfl F_agg_3 (reads_box1 (i := 0) rfl rfl)) rfl rfl rfl (ent_value (ov_bin rfl rfl (b_eql _ _ _)) rfl rfl rfl (ent_value (ov_move rfl) rfl rfl rfl ?_)))))))))
 refine htF H (fun c6 H => ?_) fun c6 H => ?_
 ·refine ent_off rfl rfl rfl (eq_f c6) rfl rfl ?_
  refine ent_off rfl rfl rfl (eq_f c6) rfl rfl ?_
  refine ent_off rfl rfl rfl (eq_f c6) rfl rfl ?_
  refine ent_off rfl rfl rfl (eq_f c6) rfl rfl ?_
  refine ent_off rfl rfl rfl (eq_f c6) rfl rfl ?_
  refine ent_value (ov_pick rfl rfl rfl (pick_f (eq_f c6))) rfl rfl rfl (ent_value (ov_move rfl) rfl rfl rfl ?_)
  refine ent_off rfl rfl rfl rfl rfl rfl ?_
  refine ent_off rfl rfl rfl rfl rfl rfl ?_
  refine ent_off rfl rfl rfl rfl rfl rfl ?_
  refine ent_off rfl rfl rfl rfl rfl rfl ?_
  refine ent_off rfl rfl rfl rfl rfl rfl ?_
  refine ent_value (ov_pick rfl rfl rfl rfl) rfl rfl rfl (ent_value (ov_move rfl) rfl rfl rfl ?_)
  refine ent_off rfl rfl rfl rfl rfl rfl ?_
  refine ent_off rfl rfl rfl rfl rfl rfl ?_
  refine ent_off rfl rfl rfl rfl rfl rfl ?_
  refine ent_off rfl rfl rfl rfl rfl rfl ?_
  refine ent_off rfl rfl rfl rfl rfl rfl ?_
  refine ent_value (ov_pick rfl rfl rfl rfl) rfl rfl rfl (ent_value (ov_move rfl) rfl rfl rfl ?_)
  refine ent_off rfl rfl rfl rfl rfl rfl ?_
  refine ent_off rfl rfl rfl rfl rfl rfl ?_
  refine ent_off rfl rfl rfl rfl rfl rfl ?_
  refine ent_off rfl rfl rfl rfl rfl rfl ?_
  refine ent_off rfl rfl rfl rfl rfl rfl ?_
  refine ent_value (ov_pick rfl rfl rfl rfl) rfl rfl rfl (ent_value (ov_move rfl) rfl rfl rfl ?_)
  refine ent_off rfl rfl rfl rfl rfl rfl ?_
  refine ent_off rfl rfl rfl rfl rfl rfl ?_
  refine ent_off rfl rfl rfl rfl rfl rfl ?_
  refine ent_off rfl rfl rfl rfl rfl rfl ?_
  refine ent_off rfl rfl rfl rfl rfl rfl ?_
  refine ent_value (ov_pick rfl rfl rfl rfl) rfl rfl rfl (ent_value (ov_assign rfl) rfl rfl rfl (ent_nil (ent_retc ?_)))
  cases H
  refine ent_pick [2,3] (by decide) rfl ?_
  exact ret_tmp rfl rfl ⟨rfl,rfl⟩
 refine ent_value_on (ov_fieldAddr (sz := 0) (o := 0) rfl F_field_108_1 F_size_2) rfl rfl rfl (eq_t c6) rfl rfl ?_
 refine ent_value_on (ov_load (v := (I a0_1)) rfl F_agg_2 (reads_box1 (i := 1) rfl rfl)) rfl rfl rfl (eq_t c6) rfl rfl ?_
 refine ent_value_on (ov_fieldAddr (sz := 0) (o := 0) rfl F_field_108_1 F_size_2) rfl rfl rfl (eq_t c6) rfl rfl ?_
 refine ent_value_on (ov_load (v := (I a1_1)) rfl F_agg_2 (reads_box1 (i := 0) rfl rfl)) rfl rfl rfl (eq_t c6) rfl rfl ?_
 refine ent_value_on (ov_bin rfl rfl (b_eql _ _ _)) rfl rfl rfl (eq_t c6) rfl rfl ?_
 refine ent_value (ov_pick rfl rfl rfl (pick_t (eq_t c6))) rfl rfl rfl (ent_value (ov_move rfl) rfl rfl rfl ?_)
 refine htF H (fun c7 H => ?_) fun c7 H => ?_
 ·refine ent_off rfl rfl rfl (eq_f c7) rfl rfl ?_
  refine ent_off rfl rfl rfl (eq_f c7) rfl rfl ?_
  refine ent_off rfl rfl rfl (eq_f c7) rfl rfl ?_
  refine ent_off rfl rfl rfl (eq_f c7) rfl rfl ?_
  refine ent_off rfl rfl rfl (eq_f c7) rfl rfl ?_
  refine ent_value (ov_pick rfl rfl rfl (pick_f (eq_f c7))) rfl rfl rfl (ent_value (ov_move rfl) rfl rfl rfl ?_)
  refine ent_off rfl rfl rfl rfl rfl rfl ?_
  refine ent_off rfl rfl rfl rfl rfl rfl ?_
  refine ent_off rfl rfl rfl rfl rfl rfl ?_
  refine ent_off rfl rfl rfl rfl rfl rfl ?_
  refine ent_off rfl rfl rfl rfl rfl rfl ?_
  refine ent_value (ov_pick rfl rfl rfl rfl) rfl rfl rfl (ent_value (ov_move rfl) rfl rfl rfl ?_)
  refine ent_off rfl rfl rfl rfl rfl rfl ?_
  refine ent_off rfl rfl rfl rfl rfl rfl ?_
  refine ent_off rfl rfl rfl rfl rfl rfl ?_
  refine ent_off rfl rfl rfl rfl rfl rfl ?_
  refine ent_off rfl rfl rfl rfl rfl rfl ?_
  refine ent_value (ov_pick rfl rfl rfl rfl) rfl rfl rfl (ent_value (ov_move rfl) rfl rfl rfl ?_)
  refine ent_off rfl rfl rfl rfl rfl rfl ?_
  refine ent_off rfl rfl rfl rfl rfl rfl ?_
  refine ent_off rfl rfl rfl rfl rfl rfl ?_
  refine ent_off rfl rfl rfl rfl rfl rfl ?_
  refine ent_off rfl rfl rfl rfl rfl rfl ?_
  refine ent_value (ov_pick rfl rfl rfl rfl) rfl rfl rfl (ent_value (ov_assign rfl) rfl rfl rfl (ent_nil (ent_retc ?_)))
  cases H
  refine ent_pick [2,3] (by decide) rfl ?_
  exact ret_tmp rfl rfl ⟨rfl,rfl⟩
 refine ent_value_on (ov_fieldAddr (sz := 13) (o := 0) rfl F_field_108_3 F_size_105) rfl rfl rfl (eq_t c7) rfl rfl ?_
 refine ent_value_on (ov_load_agg (vs := [I a0_3,I a0_4,bool a0_5,bool a0_6,bool a0_7,bool a0_8,bool a0_9,bool a0_10,bool a0_11,bool a0_12,str a0_13,str a0_14,str a0_15,str a0_16]) rfl F_agg_105 F_size_105 (reads_boxN (i := 1) rfl rfl)) rfl rfl rfl (eq_t c7) rfl rfl ?_
 refine ent_value_on (ov_fieldAddr (sz := 13) (o := 0) rfl F_field_108_3 F_size_105) rfl rfl rfl (eq_t c7) rfl rfl ?_
 refine ent_value_on (ov_load_agg (vs := [I a1_3,I a1_4,bool a1_5,bool a1_6,bool a1_7,bool a1_8,bool a1_9,bool a1_10,bool a1_11,bool a1_12,str a1_13,str a1_14,str a1_15,str a1_16]) rfl F_agg_105 F_size_105 (reads_boxN (i := 0) rfl rfl)) rfl rfl rfl (eq_t c7) rfl rfl ?_
 refine ent_value_on (ov_bin rfl rfl (same_105 _ _ _ _ _ _ _ _ _ _ _ _ _ _ _ _ _ _ _ _ _ _ _ _ _ _ _ _)) rfl rfl rfl (eq_t c7) rfl rfl ?_
 refine ent_value (ov_pick rfl rfl rfl (pick_t (eq_t c7))) rfl rfl rfl (ent_value (ov_move rfl) rfl rfl rfl ?_)
 refine htF H (fun c8 H => ?_) fun c8 H => ?_
 ·refine ent_off rfl rfl rfl (Bool.eq_false_iff.2 c8) rfl rfl ?_
  refine ent_off rfl rfl rfl (Bool.eq_false_iff.2 c8) rfl rfl ?_
  refine ent_off rfl rfl rfl (Bool.eq_false_iff.2 c8) rfl rfl ?_
  refine ent_off rfl rfl rfl (Bool.eq_false_iff.2 c8) rfl rfl ?_
  refine ent_off rfl rfl rfl (Bool.eq_false_iff.2 c8) rfl rfl ?_
  refine ent_value (ov_pick rfl rfl rfl (pick_f (Bool.eq_false_iff.2 c8))) rfl rfl rfl (ent_value (ov_move rfl) rfl rfl rfl ?_)
  refine ent_off rfl rfl rfl rfl rfl rfl ?_
  refine ent_off rfl rfl rfl rfl rfl rfl ?_
  refine ent_off rfl rfl rfl rfl rfl rfl ?_
  refine ent_off rfl rfl rfl rfl rfl rfl ?_
  refine ent_off rfl rfl rfl rfl rfl rfl ?_
  refine ent_value (ov_pick rfl rfl rfl rfl) rfl rfl rfl (ent_value (ov_move rfl) rfl rfl rfl ?_)
  refine ent_off rfl rfl rfl rfl rfl rfl ?_
  refine ent_off rfl rfl rfl rfl rfl rfl ?_
  refine ent_off rfl rfl rfl rfl rfl rfl ?_
  refine ent_off rfl rfl rfl rfl rfl rfl ?_
  refine ent_off rfl rfl rfl rfl rfl rfl ?_
  refine ent_value (ov_pick rfl rfl rfl rfl) rfl rfl rfl (ent_value (ov_assign rfl) rfl rfl rfl (ent_nil (ent_retc ?_)))
  cases H
  refine ent_pick [2,3] (by decide) rfl ?_
  exact ret_tmp rfl rfl ⟨rfl,rfl⟩
 refine ent_value_on (ov_fieldAddr (sz := 8) (o := 0) rfl F_field_108_4 F_size_24) rfl rfl rfl c8 rfl rfl ?_
 refine ent_value_on (ov_load_agg (vs := [I a0_17,I a0_18,I a0_19,I a0_20,I a0_21,I a0_22,I a0_23,I a0_24,I a0_25]) rfl F_agg_24 F_size_24 (reads_boxN (i := 1) rfl rfl)) rfl rfl rfl c8 rfl rfl ?_
 refine ent_value_on (ov_fieldAddr (sz := 8) (o := 0) rfl F_field_108_4 F_size_24) rfl rfl rfl c8 rfl rfl ?_
 refine ent_value_on (ov_load_agg (vs := [I a1_17,I a1_18,I a1_19,I a1_20,I a1_21,I a1_22,I a1_23,I a1_24,I a1_25]) rfl F_agg_24 F_size_24 (reads_boxN (i := 0) rfl rfl)) rfl rfl rfl c8 rfl rfl ?_
 refine ent_value_on (ov_bin rfl rfl (same_24 _ _ _ _ _ _ _ _ _ _ _ _ _ _ _ _ _ _)) rfl rfl rfl c8 rfl rfl ?_
 refine ent_value (ov_pick rfl rfl rfl (pick_t c8)) rfl rfl rfl (ent_value (ov_move rfl) rfl rfl rfl ?_)
 refine htF H (fun c9 H => ?_) fun c9 H => ?_
 ·refine ent_off rfl rfl rfl (Bool.eq_false_iff.2 c9) rfl rfl ?_
  refine ent_off rfl rfl rfl (Bool.eq_false_iff.2 c9) rfl rfl ?_
  refine ent_off rfl rfl rfl (Bool.eq_false_iff.2 c9) rfl rfl ?_
  refine ent_off rfl rfl rfl (Bool.eq_false_iff.2 c9) rfl rfl ?_
  refine ent_off rfl rfl rfl (Bool.eq_false_iff.2 c9) rfl rfl ?_
  refine ent_value (ov_pick rfl rfl rfl (pick_f (Bool.eq_false_iff.2 c9))) rfl rfl rfl (ent_value (ov_move rfl) rfl rfl rfl ?_)
  refine ent_off rfl rfl rfl rfl rfl rfl ?_
  refine ent_off rfl rfl rfl rfl rfl rfl ?_
  refine ent_off rfl rfl rfl rfl rfl rfl ?_
  refine ent_off rfl rfl rfl rfl rfl rfl ?_
  refine ent_off rfl rfl rfl rfl rfl rfl ?_
  refine ent_value (ov_pick rfl rfl rfl rfl) rfl rfl rfl (ent_value (ov_assign rfl) rfl rfl rfl (ent_nil (ent_retc ?_)))
  cases H
  refine ent_pick [2,3] (by decide) rfl ?_
  exact ret_tmp rfl rfl ⟨rfl,rfl⟩
 refine ent_value_on (ov_fieldAddr (sz := 0) (o := 0) rfl F_field_108_2 F_size_101) rfl rfl rfl c9 rfl rfl ?_
 refine ent_value_on (ov_load (v := sv0) rfl F_agg_101 (reads_box1 (i := 1) rfl rfl)) rfl rfl rfl c9 rfl rfl ?_
 refine ent_value_on (ov_fieldAddr (sz := 0) (o := 0) rfl F_field_108_2 F_size_101) rfl rfl rfl c9 rfl rfl ?_
 refine ent_value_on (ov_load (v := sv2) rfl F_agg_101 (reads_box1 (i := 0) rfl rfl)) rfl rfl rfl c9 rfl rfl ?_
 obtain ⟨x3,h3,H⟩ := Option.bind_eq_some_iff.1 H
 refine ent_op_on (ot_call_same (Lr := C0_) [2,3,0,1] [2,3,0,1] (first := []) (cap := []) (xs := [.tmp 33,.tmp 35]) rfl rfl F_call_107 rfl (slices_Equal____api_Fact__api_Fact_RR.spec K sv0 A0 sv2 A2 l0 l2 hA0 hA2 _ h3) (by decide) rfl (by decide) rfl) rfl rfl rfl c9 rfl rfl ?_
 rintro _ _ ⟨rfl,rfl⟩
 refine ent_value (ov_pick rfl rfl rfl (pick_t c9)) rfl rfl rfl (ent_value (ov_move rfl) rfl rfl rfl ?_)
 refine htF H (fun c10 H => ?_) fun c10 H => ?_
 ·refine ent_off rfl rfl rfl (Bool.eq_false_iff.2 c10) rfl rfl ?_
  refine ent_off rfl rfl rfl (Bool.eq_false_iff.2 c10) rfl rfl ?_
  refine ent_off rfl rfl rfl (Bool.eq_false_iff.2 c10) rfl rfl ?_
  refine ent_off rfl rfl rfl (Bool.eq_false_iff.2 c10) rfl rfl ?_
  refine ent_off rfl rfl rfl (Bool.eq_false_iff.2 c10) rfl rfl ?_
  refine ent_value (ov_pick rfl rfl rfl (pick_f (Bool.eq_false_iff.2 c10))) rfl rfl rfl (ent_value (ov_assign rfl) rfl rfl rfl (ent_nil (ent_retc ?_)))
  cases H
  refine ent_pick [2,3] (by decide) rfl ?_
  exact ret_tmp rfl rfl ⟨rfl,rfl⟩
 refine ent_value_on (ov_fieldAddr (sz := 0) (o := 0) rfl F_field_108_5 F_size_106) rfl rfl rfl c10 rfl rfl ?_
 refine ent_value_on (ov_load (v := sv1) rfl F_agg_106 (reads_box1 (i := 1) rfl rfl)) rfl rfl rfl c10 rfl rfl ?_
 refine ent_value_on (ov_fieldAddr (sz := 0) (o := 0) rfl F_field_108_5 F_size_106) rfl rfl rfl c10 rfl rfl ?_
 refine ent_value_on (ov_load (v := sv3) rfl F_agg_106 (reads_box1 (i := 0) rfl rfl)) rfl rfl rfl c10 rfl rfl ?_
 obtain ⟨x4,h4,H⟩ := Option.bind_eq_some_iff.1 H
 refine ent_op_on (ot_call_same (Lr := C0_) [2,3,0,1] [2,3,0,1] (first := []) (cap := []) (xs := [.tmp 40,.tmp 42]) rfl rfl F_call_108 rfl (slices_Equal_____bool__bool_RR.spec K sv1 A0 sv3 A2 l1 l3 hA1 hA3 _ h4) (by decide) rfl (by decide) rfl) rfl rfl rfl c10 rfl rfl ?_
 rintro _ _ ⟨rfl,rfl⟩
 refine ent_value (ov_pick rfl rfl rfl (pick_t c10)) rfl rfl rfl (ent_value (ov_assign rfl) rfl rfl rfl (ent_nil (ent_retc ?_)))
 cases H
 refine ent_pick [2,3] (by decide) rfl ?_
 exact ret_tmp rfl rfl ⟨rfl,rfl⟩

theorem slices_EqualFunc____api_Step____api_Step__api_Step__api_Step_RR.spec (K : Nat) (sv0 : Value) (A0 : HP) (sv1 : Value) (A1 : HP) (l0 : List Api_Step) (l1 : List Api_Step) (hA0 : IsRd A0 sv0 l0.length 27 (fl enc_Api_Step l0)) (hJ0 : ∀ x ∈ l0,IsRd A0 x.Facts.v x.Facts.xs.length 6 (fl enc_Api_Fact x.Facts.xs) ∧ IsRd A0 x.Fails.v x.Fails.xs.length 1 (fl eB x.Fails.xs)) (hA1 : IsRd A1 sv1 l1.length 27 (fl enc_Api_Step l1)) (hJ1 : ∀ x ∈ l1,IsRd A1 x.Facts.v x.Facts.xs.length 6 (fl enc_Api_Fact x.Facts.xs) ∧ IsRd A1 x.Fails.v x.Fails.xs.length 1 (fl eB x.Fails.xs)) (r : Bool) (H : slices_EqualFunc____api_Step____api_Step__api_Step__api_Step_RR K l0 l1 = some r) : FnSpec Try.prog 105 [sv0,sv1,(Value.func (.func 106) #[] #[])] [A0,A1] (fun v M => v = (bool r) ∧ M = [A0,A1]) := by
 unfold slices_EqualFunc____api_Step____api_Step__api_Step__api_Step_RR at H
 refine spec_of Try.func105 rfl 32 rfl (Nat.le_of_ble_eq_true rfl) fun F w0 => ?_
 let C2_ : List Value := [I 0,I 0,L0,I 0,I 0,B0,B0,B0,B0,B0,B0,B0,B0,S0,S0,S0,S0,I 0,I 0,I 0,I 0,I 0,I 0,I 0,I 0,I 0,L0]
 show Ent (St 32 w0 F [(0,sv0),(1,sv1),(2,(Value.func (.func 106) #[] #[]))] [A0,A1]) _
 refine ent_seq (ent_region (ent_value (ov_assign rfl) rfl rfl rfl (ent_nil (ent_seq (ent_seq (ent_region (ent_value (ov_move rfl) rfl rfl rfl (ent_value (ov_len 0 rfl F_slice_141 rfl hA0) rfl rfl rfl (ent_value (ov_move rfl) rfl rfl rfl (ent_value (ov_len 1 rfl F_slice_141 rfl hA1) rfl rfl rfl (ent_value (ov_bin rfl rfl (b_neq _ _ _)) rfl rfl rfl ?_)))))))))))
 refine ent_nil ?_
 refine htT H (fun c48 H => ?_) fun c48 H => ?_
 ·refine ent_cond_true rfl (ne_t c48) (ent_seq (ent_region (ent_value (ov_assign rfl) rfl rfl rfl (ent_nil (ent_retc ?_)))))
  cases H
  refine ent_pick [0,1] (by decide) rfl ?_
  exact ret_tmp rfl rfl ⟨rfl,rfl⟩
 refine ent_cond_false rfl (ne_f c48) (ent_skip (ent_seq (ent_seq (ent_region (ent_value (ov_move rfl) rfl rfl rfl (ent_value (ov_len 0 rfl F_slice_141 rfl hA0) rfl rfl rfl (ent_value (ov_move rfl) rfl rfl rfl (ent_nil (ent_block ?_)))))))))
 refine ent_loop (fun k a w => ∃ i4,slices_EqualFunc____api_Step____api_Step__api_Step__api_Step_RR_l0 K l0 l1 k i4 = some r ∧ St 32 w0 F [(1,sv1),(2,(Value.func (.func 106) #[] #[])),(15,sv0),(16,I (l0.length : Int)),(17,I i4)] [A0,A1] a w) K ?_ ?_
 ·exact ent_fin [0,1] (by decide) rfl (sub_cons (t := 1) rfl (sub_cons (t := 2) rfl (sub_cons (t := 15) rfl (sub_cons (t := 16) rfl (sub_cons (t := 17) rfl (sub_nil _)))))) fun a w h => ⟨_,H,h⟩
 ·refine fun k => ent_exi fun i4 => ent_and fun H4 => ?_
  let C1_ : List Value := [I ((l1.getD i4.toNat z_Api_Step).Kind),I ((l1.getD i4.toNat z_Api_Step).N),((l1.getD i4.toNat z_Api_Step).Facts).v,I (((l1.getD i4.toNat z_Api_Step).Query).From),I (((l1.getD i4.toNat z_Api_Step).Query).To),bool (((l1.getD i4.toNat z_Api_Step).Query).Group_0),bool (((l1.getD i4.toNat z_Api_Step).Query).Group_1),bool (((l1.getD i4.toNat z_Api_Step).Query).Group_2),bool (((l1.getD i4.toNat z_Api_Step).Query).Group_3),bool (((l1.getD i4.toNat z_Api_Step).Query).Has_0),bool (((l1.getD i4.toNat z_Api_Step).Query).Has_1),bool (((l1.getD i4.toNat z_Api_Step).Query).Has_2),bool (((l1.getD i4.toNat z_Api_Step).Query).Has_3),str (((l1.getD i4.toNat z_Api_Step).Query).Filter_0),str (((l1.getD i4.toNat z_Api_Step).Query).Filter_1),str (((l1.getD i4.toNat z_Api_Step).Query).Filter_2),str (((l1.getD i4.toNat z_Api_Step).Query).Filter_3),I (((l1.getD i4.toNat z_Api_Step).Rules).Retain),I (((l1.getD i4.toNat z_Api_Step).Rules).SealLag),I (((l1.getD i4.toNat z_Api_Step).Rules).DayLag),I (((l1.getD i4.toNat z_Api_Step).Rules).MonthLag),I (((l1.getD i4.toNat z_Api_Step).Rules).ColdLag),I (((l1.getD i4.toNat z_Api_Step).Rules).Base),I (((l1.getD i4.toNat z_Api_Step).Rules).Cap),I (((l1.getD i4.toNat z_Api_Step).Rules).Queue),I (((l1.getD i4.toNat z_Api_Step).Rules).Wal),((l1.getD i4.toNat z_Api_Step).Fails).v]
  let C0_ : List Value := [I ((l0.getD i4.toNat z_Api_Step).Kind),I ((l0.getD i4.toNat z_Api_Step).N),((l0.getD i4.toNat z_Api_Step).Facts).v,I (((l0.getD i4.toNat z_Api_Step).Query).From),I (((l0.getD i4.toNat z_Api_Step).Query).To),bool (((l0.getD i4.toNat z_Api_Step).Query).Group_0),bool (((l0.getD i4.toNat z_Api_Step).Query).Group_1),bool (((l0.getD i4.toNat z_Api_Step).Query).Group_2),bool (((l0.getD i4.toNat z_Api_Step).Query).Group_3),bool (((l0.getD i4.toNat z_Api_Step).Query).Has_0),bool (((l0.getD i4.toNat z_Api_Step).Query).Has_1),bool (((l0.getD i4.toNat z_Api_Step).Query).Has_2),bool (((l0.getD i4.toNat z_Api_Step).Query).Has_3),str (((l0.getD i4.toNat z_Api_Step).Query).Filter_0),str (((l0.getD i4.toNat z_Api_Step).Query).Filter_1),str (((l0.getD i4.toNat z_Api_Step).Query).Filter_2),str (((l0.getD i4.toNat z_Api_Step).Query).Filter_3),I (((l0.getD i4.toNat z_Api_Step).Rules).Retain),I (((l0.getD i4.toNat z_Api_Step).Rules).SealLag),I (((l0.getD i4.toNat z_Api_Step).Rules).DayLag),I (((l0.getD i4.toNat z_Api_Step).Rules).MonthLag),I (((l0.getD i4.toNat z_Api_Step).Rules).ColdLag),I (((l0.getD i4.toNat z_Api_Step).Rules).Base),I (((l0.getD i4.toNat z_Api_Step).Rules).Cap),I (((l0.getD i4.toNat z_Api_Step).Rules).Queue),I (((l0.getD i4.toNat z_Api_Step).Rules).Wal),((l0.getD i4.toNat z_Api_Step).Fails).v]
  cases k with
  | zero => exact absurd H4 (by simp [C2_,C1_,C0_,slices_EqualFunc____api_Step____api_Step__api_Step__api_Step_RR_l0])
  | succ k =>
   rw [slices_EqualFunc____api_Step____api_Step__api_Step__api_Step_RR_l0] at H4
   refine ent_seq (ent_region (ent_value (ov_bin rfl rfl (b_lss _ _ _)) rfl rfl rfl (ent_nil (ent_seq ?_))))
   refine htF H4 (fun c86 H4 => ?_) fun c86 H4 => ?_
   ·refine ent_cond_false rfl (decide_eq_false c86) (ent_exit (ent_seq (ent_region (ent_value (ov_assign rfl) rfl rfl rfl (ent_nil (ent_retc ?_))))))
    cases H4
    refine ent_pick [0,1] (by decide) rfl ?_
    exact ret_tmp rfl rfl ⟨rfl,rfl⟩
   refine ent_cond_true rfl (decide_eq_true c86) (ent_skip (ent_seq (ent_block (ent_seq (ent_region (ent_value (ov_move rfl) rfl rfl rfl ?_))))))
   obtain ⟨c90,H4⟩ := gdT H4
   refine ent_value (ov_indexAddr (sz := 26) 0 rfl rfl F_slice_141 F_size_108 rfl hA0 c90 c86) rfl rfl rfl ?_
   refine ent_value (ov_load_agg (vs := C0_) rfl F_agg_108 F_size_108 (reads_rd (i := 0) rfl hA0 (by simp [C2_,C1_,C0_]) (fl_read0 enc_Api_Step_len (ix_lt c90 c86) rfl))) rfl rfl rfl ?_
   refine ent_op (ot_alloc F_zero_108) rfl rfl rfl ?_
   rintro _ _ ⟨b47,rfl,rfl⟩
   refine ent_value (ov_assign rfl) rfl rfl rfl ?_
   refine ent_op0 (ot_storeG (cs := C2_) (cs' := C0_) (us := C0_) (L' := [box b47 108 C0_,A0,A1]) 0 rfl rfl rfl (one_cons rfl (one_cons rfl (one_sl 1 rfl (hJ0 _ (getD_mem_ z_Api_Step (ix_lt c90 c86))).1 (one_cons rfl (one_cons rfl (one_cons rfl (one_cons rfl (one_cons rfl (one_cons rfl (one_cons rfl (one_cons rfl (one_cons rfl (one_cons rfl (one_cons rfl (one_cons rfl (one_cons rfl (one_cons rfl (one_cons rfl (one_cons rfl (one_cons rfl (one_cons rfl (one_cons rfl (one_cons rfl (one_cons rfl (one_cons rfl (one_cons rfl (one_sl 1 rfl (hJ0 _ (getD_mem_ z_Api_Step (ix_lt c90 c86))).2 one_nil))))))))))))))))))))))))))) F_size_108 rfl rfl (by simp [C2_,C1_,C0_]) rfl) rfl rfl ?_
   rintro _ _ rfl
   refine ent_nil (ent_seq (ent_region (ent_value (ov_move rfl) rfl rfl rfl (ent_value (ov_move rfl) rfl rfl rfl ?_))))
   obtain ⟨c91,H4⟩ := gdT H4
   refine ent_value (ov_indexAddr (sz := 26) 2 rfl rfl F_slice_141 F_size_108 rfl hA1 c90 c91) rfl rfl rfl ?_
   refine ent_value (ov_load_agg (vs := C1_) rfl F_agg_108 F_size_108 (reads_rd (i := 2) rfl hA1 (by simp [C2_,C1_,C0_]) (fl_read0 enc_Api_Step_len (ix_lt c90 c91) rfl))) rfl rfl rfl ?_
   refine ent_op (ot_alloc F_zero_108) rfl rfl rfl ?_
   rintro _ _ ⟨b48,rfl,rfl⟩
   refine ent_op0 (ot_storeG (cs := C2_) (cs' := C1_) (us := C1_) (L' := [box b48 108 C1_,box b47 108 C0_,A0,A1]) 0 rfl rfl rfl (one_cons rfl (one_cons rfl (one_sl 3 rfl (hJ1 _ (getD_mem_ z_Api_Step (ix_lt c90 c91))).1 (one_cons rfl (one_cons rfl (one_cons rfl (one_cons rfl (one_cons rfl (one_cons rfl (one_cons rfl (one_cons rfl (one_cons rfl (one_cons rfl (one_cons rfl (one_cons rfl (one_cons rfl (one_cons rfl (one_cons rfl (one_cons rfl (one_cons rfl (one_cons rfl (one_cons rfl (one_cons rfl (one_cons rfl (one_cons rfl (one_cons rfl (one_sl 3 rfl (hJ1 _ (getD_mem_ z_Api_Step (ix_lt c90 c91))).2 one_nil))))))))))))))))))))))))))) F_size_108 rfl rfl (by simp [C2_,C1_,C0_]) rfl) rfl rfl ?_
   rintro _ _ rfl
   refine ent_nil (ent_seq (ent_region (ent_value (ov_move rfl) rfl rfl rfl (ent_value (ov_load_agg (vs := C0_) rfl F_agg_108 F_size_108 (reads_boxW (i := 1) rfl)) rfl rfl rfl (ent_value (ov_load_agg (vs := C1_) rfl F_agg_108 F_size_108 (reads_boxW (i := 0) rfl)) rfl rfl rfl ?_)))))
   obtain ⟨x24,h24,H4⟩ := Option.bind_eq_some_iff.1 H4
   refine ent_op (ot_call_same (Lr := [box b48 108 C1_,box b47 108 C0_]) [2,3,0,1] [2,3,0,1] (first := []) (cap := []) (xs := [.tmp 27,.tmp 28]) rfl rfl F_call_106 rfl (script_Same_1_RRRR.spec K (((l0.getD i4.toNat z_Api_Step).Facts).v) A0 (((l0.getD i4.toNat z_Api_Step).Fails).v) (((l1.getD i4.toNat z_Api_Step).Facts).v) A1 (((l1.getD i4.toNat z_Api_Step).Fails).v) ((l0.getD i4.toNat z_Api_Step).Kind) ((l0.getD i4.toNat z_Api_Step).N) (((l0.getD i4.toNat z_Api_Step).Facts).xs) (((l0.getD i4.toNat z_Api_Step).Query).From) (((l0.getD i4.toNat z_Api_Step).Query).To) (((l0.getD i4.toNat z_Api_Step).Query).Group_0) (((l0.getD i4.toNat z_Api_Step).Query).Group_1) (((l0.getD i4.toNat z_Api_Step).Query).Group_2) (((l0.getD i4.toNat z_Api_Step).Query).Group_3) (((l0.getD i4.toNat z_Api_Step).Query).Has_0) (((l0.getD i4.toNat z_Api_Step).Query).Has_1) (((l0.getD i4.toNat z_Api_Step).Query).Has_2) (((l0.getD i4.toNat z_Api_Step).Query).Has_3) (((l0.getD i4.toNat z_Api_Step).Query).Filter_0) (((l0.getD i4.toNat z_Api_Step).Query).Filter_1) (((l0.getD i4.toNat z_Api_Step).Query).Filter_2) (((l0.getD i4.toNat z_Api_Step).Query).Filter_3) (((l0.getD i4.toNat z_Api_Step).Rules).Retain) (((l0.getD i4.toNat z_Api_Step).Rules).SealLag) (((l0.getD i4.toNat z_Api_Step).Rules).DayLag) (((l0.getD i4.toNat z_Api_Step).Rules).MonthLag) (((l0.getD i4.toNat z_Api_Step).Rules).ColdLag) (((l0.getD i4.toNat z_Api_Step).Rules).Base) (((l0.getD i4.toNat z_Api_Step).Rules).Cap) (((l0.getD i4.toNat z_Api_Step).Rules).Queue) (((l0.getD i4.toNat z_Api_Step).Rules).Wal) (((l0.getD i4.toNat z_Api_Step).Fails).xs) ((l1.getD i4.toNat z_Api_Step).Kind) ((l1.getD i4.toNat z_Api_Step).N) (((l1.getD i4.toNat z_Api_Step).Facts).xs) (((l1.getD i4.toNat z_Api_Step).Query).From) (((l1.getD i4.toNat z_Api_Step).Query).To) (((l1.getD i4.toNat z_Api_Step).Query).Group_0) (((l1.getD i4.toNat z_Api_Step).Query).Group_1) (((l1.getD i4.toNat z_Api_Step).Query).Group_2) (((l1.getD i4.toNat z_Api_Step).Query).Group_3) (((l1.getD i4.toNat z_Api_Step).Query).Has_0) (((l1.getD i4.toNat z_Api_Step).Query).Has_1) (((l1.getD i4.toNat z_Api_Step).Query).Has_2) (((l1.getD i4.toNat z_Api_Step).Query).Has_3) (((l1.getD i4.toNat z_Api_Step).Query).Filter_0) (((l1.getD i4.toNat z_Api_Step).Query).Filter_1) (((l1.getD i4.toNat z_Api_Step).Query).Filter_2) (((l1.getD i4.toNat z_Api_Step).Query).Filter_3) (((l1.getD i4.toNat z_Api_Step).Rules).Retain) (((l1.getD i4.toNat z_Api_Step).Rules).SealLag) (((l1.getD i4.toNat z_Api_Step).Rules).DayLag) (((l1.getD i4.toNat z_Api_Step).Rules).MonthLag) (((l1.getD i4.toNat z_Api_Step).Rules).ColdLag) (((l1.getD i4.toNat z_Api_Step).Rules).Base) (((l1.getD i4.toNat z_Api_Step).Rules).Cap) (((l1.getD i4.toNat z_Api_Step).Rules).Queue) (((l1.getD i4.toNat z_Api_Step).Rules).Wal) (((l1.getD i4.toNat z_Api_Step).Fails).xs) ((hJ0 _ (getD_mem_ z_Api_Step (ix_lt c90 c86))).1) ((hJ0 _ (getD_mem_ z_Api_Step (ix_lt c90 c86))).2) ((hJ1 _ (getD_mem_ z_Api_Step (ix_lt c90 c91))).1) ((hJ1 _ (getD_mem_ z_Api_Step (ix_lt c90 c91))).2) _ h24) (by decide) rfl (by decide) rfl) rfl rfl rfl ?_
   rintro _ _ ⟨rfl,rfl⟩
   refine ent_value (ov_un rfl (u_not _)) rfl rfl rfl (ent_nil ?_)
   refine htT H4 (fun c92 H4 => ?_) fun c92 H4 => ?_
   ·refine ent_cond_true rfl c92 (ent_seq (ent_region (ent_value (ov_assign rfl) rfl rfl rfl (ent_nil (ent_retc ?_)))))
    cases H4
    refine ent_pick [2,3] (by decide) rfl ?_
    exact ret_tmp rfl rfl ⟨rfl,rfl⟩
   refine ent_cond_false rfl (Bool.eq_false_iff.2 c92) (ent_skip (ent_region (ent_value (ov_bin rfl rfl (b_add _ _ _) ) rfl rfl rfl (ent_value (ov_move rfl) rfl rfl rfl (ent_nil ?_)))))
   exact ent_fin [2,3] (by decide) rfl (sub_cons (t := 1) rfl (sub_cons (t := 2) rfl (sub_cons (t := 15) rfl (sub_cons (t := 16) rfl (sub_cons (t := 17) rfl (sub_nil _)))))) fun a w h => ⟨k,Nat.lt_succ_self k,_,H4,h⟩

theorem script_Same_RR.spec (K : Nat) (sv0 : Value) (A0 : HP) (sv1 : Value) (A1 : HP) (l0 : List Api_Step) (l1 : List Api_Step) (hA0 : IsRd A0 sv0 l0.length 27 (fl enc_Api_Step l0)) (hJ0 : ∀ x ∈ l0,IsRd A0 x.Facts.v x.Facts.xs.length 6 (fl enc_Api_Fact x.Facts.xs) ∧ IsRd A0 x.Fails.v x.Fails.xs.length 1 (fl eB x.Fails.xs)) (hA1 : IsRd A1 sv1 l1.length 27 (fl enc_Api_Step l1)) (hJ1 : ∀ x ∈ l1,IsRd A1 x.Facts.v x.Facts.xs.length 6 (fl enc_Api_Fact x.Facts.xs) ∧ IsRd A1 x.Fails.v x.Fails.xs.length 1 (fl eB x.Fails.xs)) (r : Bool) (H : script_Same_RR K l0 l1 = some r) : FnSpec Try.prog 94 [sv0,sv1] [A0,A1] (fun v M => v = (bool r) ∧ M = [A0,A1]) := by
 unfold script_Same_RR at H
 refine spec_of Try.func94 rfl 8 rfl (Nat.le_of_ble_eq_true rfl) fun F w0 => ?_
 show Ent (St 8 w0 F [(0,sv0),(1,sv1)] [A0,A1]) _
 refine ent_seq (ent_region (ent_value (ov_assign rfl) rfl rfl rfl (ent_nil (ent_seq (ent_region (ent_value (ov_move rfl) rfl rfl rfl (ent_value (ov_move rfl) rfl rfl rfl ?_)))))))
 obtain ⟨x2,h2,H⟩ := Option.bind_eq_some_iff.1 H
 refine ent_op (ot_call_same (Lr := []) [0,1] [0,1] (first := []) (cap := []) (xs := [.tmp 5,.tmp 6,.func 106]) rfl rfl F_call_105 rfl (slices_EqualFunc____api_Step____api_Step__api_Step__api_Step_RR.spec K sv0 A0 sv1 A1 l0 l1 hA0 hJ0 hA1 hJ1 _ h2) (by decide) rfl (by decide) rfl) rfl rfl rfl ?_
 rintro _ _ ⟨rfl,rfl⟩
 refine ent_value (ov_assign rfl) rfl rfl rfl (ent_nil (ent_retc ?_))
 cases H
 refine ent_pick [0,1] (by decide) rfl ?_
 exact ret_tmp rfl rfl ⟨rfl,rfl⟩

theorem script_Right_NN.spec (K : Nat) (a0_1 : Int) (r : Bool) (H : script_Right_NN K a0_1 = some r) : FnSpec Try.prog 73 [agg #[I 4,I a0_1,L0,I 0,I 0,B0,B0,B0,B0,B0,B0,B0,B0,S0,S0,S0,S0,I 0,I 0,I 0,I 0,I 0,I 0,I 0,I 0,I 0,L0],I 1] [] (fun v M => v = (bool r) ∧ M = []) := by
 unfold script_Right_NN at H
 refine spec_of Try.func73 rfl 58 rfl (Nat.le_of_ble_eq_true rfl) fun F w0 => ?_
 let C1_ : List Value := [I 4,I a0_1,L0,I 0,I 0,B0,B0,B0,B0,B0,B0,B0,B0,S0,S0,S0,S0,I 0,I 0,I 0,I 0,I 0,I 0,I 0,I 0,I 0,L0]
 show Ent (St 58 w0 F [(0,agg #[I 4,I a0_1,L0,I 0,I 0,B0,B0,B0,B0,B0,B0,B0,B0,S0,S0,S0,S0,I 0,I 0,I 0,I 0,I 0,I 0,I 0,I 0,I 0,L0]),(1,I 1)] []) _
 refine ent_seq (ent_region ?_)
 refine ent_op (ot_box (cs := C1_) rfl rfl) rfl rfl rfl ?_
 rintro _ _ ⟨b3,rfl,rfl⟩
 refine ent_value (ov_assign rfl) rfl rfl rfl (ent_nil (ent_seq (ent_region (ent_value (ov_load_agg (vs := C1_) rfl F_agg_108 F_size_108 (reads_boxW (i := 0) rfl)) rfl rfl rfl ?_))))
 obtain ⟨x4,h4,H⟩ := thn_elim H
 let C0_ : List Value := [I x4.1,I x4.2.1,L0,I x4.2.2.1,I x4.2.2.2.1,bool x4.2.2.2.2.1,bool x4.2.2.2.2.2.1,bool x4.2.2.2.2.2.2.1,bool x4.2.2.2.2.2.2.2.1,bool x4.2.2.2.2.2.2.2.2.1,bool x4.2.2.2.2.2.2.2.2.2.1,bool x4.2.2.2.2.2.2.2.2.2.2.1,bool x4.2.2.2.2.2.2.2.2.2.2.2.1,str x4.2.2.2.2.2.2.2.2.2.2.2.2.1,str x4.2.2.2.2.2.2.2.2.2.2.2.2.2.1,str x4.2.2.2.2.2.2.2.2.2.2.2.2.2.2.1,str x4.2.2.2.2.2.2.2.2.2.2.2.2.2.2.2.1,I x4.2.2.2.2.2.2.2.2.2.2.2.2.2.2.2.2.1,I x4.2.2.2.2.2.2.2.2.2.2.2.2.2.2.2.2.2.1,I x4.2.2.2.2.2.2.2.2.2.2.2.2.2.2.2.2.2.2.1,I x4.2.2.2.2.2.2.2.2.2.2.2.2.2.2.2.2.2.2.2.1,I x4.2.2.2.2.2.2.2.2.2.2.2.2.2.2.2.2.2.2.2.2.1,I x4.2.2.2.2.2.2.2.2.2.2.2.2.2.2.2.2.2.2.2.2.2.1,I x4.2.2.2.2.2.2.2.2.2.2.2.2.2.2.2.2.2.2.2.2.2.2.1,I x4.2.2.2.2.2.2.2.2.2.2.2.2.2.2.2.2.2.2.2.2.2.2.2.1,I x4.2.2.2.2.2.2.2.2.2.2.2.2.2.2.2.2.2.2.2.2.2.2.2.2,L0]
 refine ent_op (ot_call0 (first := []) (cap := []) (xs := [.tmp 8]) rfl rfl F_call_93 rfl (script_bare_NN.spec a0_1 _ h4)) rfl rfl rfl ?_
 rintro _ _ ⟨rfl,rfl⟩
 refine ent_op (ot_alloc F_zero_108) rfl rfl rfl ?_
 rintro _ _ ⟨b4,rfl,rfl⟩
 refine ent_op0 (ot_storeG (cs := [I 0,I 0,L0,I 0,I 0,B0,B0,B0,B0,B0,B0,B0,B0,S0,S0,S0,S0,I 0,I 0,I 0,I 0,I 0,I 0,I 0,I 0,I 0,L0]) (cs' := C0_) (us := C0_) (L' := [box b4 108 C0_,box b3 108 C1_]) 0 rfl rfl rfl (one_all rfl) F_size_108 rfl rfl (by simp [C1_,C0_]) rfl) rfl rfl ?_
 rintro _ _ rfl
 refine ent_nil (ent_seq (ent_seq (ent_region (ent_value (ov_fieldAddr (sz := 0) (o := 0) rfl F_field_108_0 F_size_3) rfl rfl rfl (ent_value (ov_load (v := (I 4)) rfl F_agg_3 (reads_box1 (i := 1) rfl rfl)) rfl rfl rfl (ent_value (ov_bin rfl rfl (b_lss _ _ _)) rfl rfl rfl (ent_value (ov_move rfl) rfl rfl rfl ?_)))))))
 refine ent_value_on (ov_fieldAddr (sz := 0) (o := 0) rfl F_field_108_0 F_size_3) rfl rfl rfl rfl rfl rfl ?_
 refine ent_value_on (ov_load (v := (I 4)) rfl F_agg_3 (reads_box1 (i := 1) rfl rfl)) rfl rfl rfl rfl rfl rfl ?_
 refine ent_value_on (ov_bin rfl rfl (b_gtr _ _ _)) rfl rfl rfl rfl rfl rfl ?_
 refine ent_value (ov_pick rfl rfl rfl rfl) rfl rfl rfl (ent_value (ov_move rfl) rfl rfl rfl ?_)
 refine ent_value_on (ov_load_agg (vs := C0_) rfl F_agg_108 F_size_108 (reads_boxW (i := 0) rfl)) rfl rfl rfl rfl rfl rfl ?_
 refine ent_op_on (ot_buildSlice (sz := 26) (xs := [.tmp 19]) (cs := fl enc_Api_Step [(⟨x4.1,x4.2.1,(⟨slice none 0 0,[]⟩ : Sl Api_Fact),(⟨x4.2.2.1,x4.2.2.2.1,x4.2.2.2.2.1,x4.2.2.2.2.2.1,x4.2.2.2.2.2.2.1,x4.2.2.2.2.2.2.2.1,x4.2.2.2.2.2.2.2.2.1,x4.2.2.2.2.2.2.2.2.2.1,x4.2.2.2.2.2.2.2.2.2.2.1,x4.2.2.2.2.2.2.2.2.2.2.2.1,x4.2.2.2.2.2.2.2.2.2.2.2.2.1,x4.2.2.2.2.2.2.2.2.2.2.2.2.2.1,x4.2.2.2.2.2.2.2.2.2.2.2.2.2.2.1,x4.2.2.2.2.2.2.2.2.2.2.2.2.2.2.2.1⟩ : Api_Query),(⟨x4.2.2.2.2.2.2.2.2.2.2.2.2.2.2.2.2.1,x4.2.2.2.2.2.2.2.2.2.2.2.2.2.2.2.2.2.1,x4.2.2.2.2.2.2.2.2.2.2.2.2.2.2.2.2.2.2.1,x4.2.2.2.2.2.2.2.2.2.2.2.2.2.2.2.2.2.2.2.1,x4.2.2.2.2.2.2.2.2.2.2.2.2.2.2.2.2.2.2.2.2.1,x4.2.2.2.2.2.2.2.2.2.2.2.2.2.2.2.2.2.2.2.2.2.1,x4.2.2.2.2.2.2.2.2.2.2.2.2.2.2.2.2.2.2.2.2.2.2.1,x4.2.2.2.2.2.2.2.2.2.2.2.2.2.2.2.2.2.2.2.2.2.2.2.1,x4.2.2.2.2.2.2.2.2.2.2.2.2.2.2.2.2.2.2.2.2.2.2.2.2⟩ : Api_Policy),(⟨slice none 0 0,[]⟩ : Sl Bool)⟩ : Api_Step)]) rfl rfl F_slice_141 F_size_108 F_zero_108 rfl rfl (all_size rfl) rfl (by decide)) rfl rfl rfl rfl rfl rfl ?_
 rintro sv7 _ rfl
 refine ent_value_on (ov_fieldAddr (sz := 0) (o := 0) rfl F_field_108_0 F_size_3) rfl rfl rfl rfl rfl rfl ?_
 refine ent_value_on (ov_load (v := (I 4)) rfl F_agg_3 (reads_box1 (i := 2) rfl rfl)) rfl rfl rfl rfl rfl rfl ?_
 refine ent_value_on (ov_build (is := [0]) (xs := [.tmp 22]) (vs := [I 4]) rfl rfl (build_struct (cs := [I 4,I 0,L0,I 0,I 0,B0,B0,B0,B0,B0,B0,B0,B0,S0,S0,S0,S0,I 0,I 0,I 0,I 0,I 0,I 0,I 0,I 0,I 0,L0]) F_zero_108 F_places_108 rfl)) rfl rfl rfl rfl rfl rfl ?_
 refine ent_op_on (ot_buildSlice (sz := 26) (xs := [.tmp 23]) (cs := fl enc_Api_Step [(⟨4,0,(⟨slice none 0 0,[]⟩ : Sl Api_Fact),(⟨0,0,false,false,false,false,false,false,false,false,nB,nB,nB,nB⟩ : Api_Query),(⟨0,0,0,0,0,0,0,0,0⟩ : Api_Policy),(⟨slice none 0 0,[]⟩ : Sl Bool)⟩ : Api_Step)]) rfl rfl F_slice_141 F_size_108 F_zero_108 rfl rfl (all_size rfl) rfl (by decide)) rfl rfl rfl rfl rfl rfl ?_
 rintro sv8 _ rfl
 obtain ⟨x6,h6,H⟩ := Option.bind_eq_some_iff.1 H
 refine ent_op_on (ot_call_same (Lr := [box b4 108 C0_,box b3 108 C1_]) [1,0,2,3] [1,0,2,3] (first := []) (cap := []) (xs := [.tmp 20,.tmp 24]) rfl rfl F_call_94 rfl (script_Same_RR.spec K sv7 (own sv7 108 27 [(⟨x4.1,x4.2.1,(⟨slice none 0 0,[]⟩ : Sl Api_Fact),(⟨x4.2.2.1,x4.2.2.2.1,x4.2.2.2.2.1,x4.2.2.2.2.2.1,x4.2.2.2.2.2.2.1,x4.2.2.2.2.2.2.2.1,x4.2.2.2.2.2.2.2.2.1,x4.2.2.2.2.2.2.2.2.2.1,x4.2.2.2.2.2.2.2.2.2.2.1,x4.2.2.2.2.2.2.2.2.2.2.2.1,x4.2.2.2.2.2.2.2.2.2.2.2.2.1,x4.2.2.2.2.2.2.2.2.2.2.2.2.2.1,x4.2.2.2.2.2.2.2.2.2.2.2.2.2.2.1,x4.2.2.2.2.2.2.2.2.2.2.2.2.2.2.2.1⟩ : Api_Query),(⟨x4.2.2.2.2.2.2.2.2.2.2.2.2.2.2.2.2.1,x4.2.2.2.2.2.2.2.2.2.2.2.2.2.2.2.2.2.1,x4.2.2.2.2.2.2.2.2.2.2.2.2.2.2.2.2.2.2.1,x4.2.2.2.2.2.2.2.2.2.2.2.2.2.2.2.2.2.2.2.1,x4.2.2.2.2.2.2.2.2.2.2.2.2.2.2.2.2.2.2.2.2.1,x4.2.2.2.2.2.2.2.2.2.2.2.2.2.2.2.2.2.2.2.2.2.1,x4.2.2.2.2.2.2.2.2.2.2.2.2.2.2.2.2.2.2.2.2.2.2.1,x4.2.2.2.2.2.2.2.2.2.2.2.2.2.2.2.2.2.2.2.2.2.2.2.1,x4.2.2.2.2.2.2.2.2.2.2.2.2.2.2.2.2.2.2.2.2.2.2.2.2⟩ : Api_Policy),(⟨slice none 0 0,[]⟩ : Sl Bool)⟩ : Api_Step)].length (fl enc_Api_Step [(⟨x4.1,x4.2.1,(⟨slice none 0 0,[]⟩ : Sl Api_Fact),(⟨x4.2.2.1,x4.2.2.2.1,x4.2.2.2.2.1,x4.2.2.2.2.2.1,x4.2.2.2.2.2.2.1,x4.2.2.2.2.2.2.2.1,x4.2.2.2.2.2.2.2.2.1,x4.2.2.2.2.2.2.2.2.2.1,x4.2.2.2.2.2.2.2.2.2.2.1,x4.2.2.2.2.2.2.2.2.2.2.2.1,x4.2.2.2.2.2.2.2.2.2.2.2.2.1,x4.2.2.2.2.2.2.2.2.2.2.2.2.2.1,x4.2.2.2.2.2.2.2.2.2.2.2.2.2.2.1,x4.2.2.2.2.2.2.2.2.2.2.2.2.2.2.2.1⟩ : Api_Query),(⟨x4.2.2.2.2.2.2.2.2.2.2.2.2.2.2.2.2.1,x4.2.2.2.2.2.2.2.2.2.2.2.2.2.2.2.2.2.1,x4.2.2.2.2.2.2.2.2.2.2.2.2.2.2.2.2.2.2.1,x4.2.2.2.2.2.2.2.2.2.2.2.2.2.2.2.2.2.2.2.1,x4.2.2.2.2.2.2.2.2.2.2.2.2.2.2.2.2.2.2.2.2.1,x4.2.2.2.2.2.2.2.2.2.2.2.2.2.2.2.2.2.2.2.2.2.1,x4.2.2.2.2.2.2.2.2.2.2.2.2.2.2.2.2.2.2.2.2.2.2.1,x4.2.2.2.2.2.2.2.2.2.2.2.2.2.2.2.2.2.2.2.2.2.2.2.1,x4.2.2.2.2.2.2.2.2.2.2.2.2.2.2.2.2.2.2.2.2.2.2.2.2⟩ : Api_Policy),(⟨slice none 0 0,[]⟩ : Sl Bool)⟩ : Api_Step)])) sv8 (own sv8 108 27 [(⟨4,0,(⟨slice none 0 0,[]⟩ : Sl Api_Fact),(⟨0,0,false,false,false,false,false,false,false,false,nB,nB,nB,nB⟩ : Api_Query),(⟨0,0,0,0,0,0,0,0,0⟩ : Api_Policy),(⟨slice none 0 0,[]⟩ : Sl Bool)⟩ : Api_Step)].length (fl enc_Api_Step [(⟨4,0,(⟨slice none 0 0,[]⟩ : Sl Api_Fact),(⟨0,0,false,false,false,false,false,false,false,false,nB,nB,nB,nB⟩ : Api_Query),(⟨0,0,0,0,0,0,0,0,0⟩ : Api_Policy),(⟨slice none 0 0,[]⟩ : Sl Bool)⟩ : Api_Step)])) [(⟨x4.1,x4.2.1,(⟨slice none 0 0,[]⟩ : Sl Api_Fact),(⟨x4.2.2.1,x4.2.2.2.1,x4.2.2.2.2.1,x4.2.2.2.2.2.1,x4.2.2.2.2.2.2.1,x4.2.2.2.2.2.2.2.1,x4.2.2.2.2.2.2.2.2.1,x4.2.2.2.2.2.2.2.2.2.1,x4.2.2.2.2.2.2.2.2.2.2.1,x4.2.2.2.2.2.2.2.2.2.2.2.1,x4.2.2.2.2.2.2.2.2.2.2.2.2.1,x4.2.2.2.2.2.2.2.2.2.2.2.2.2.1,x4.2.2.2.2.2.2.2.2.2.2.2.2.2.2.1,x4.2.2.2.2.2.2.2.2.2.2.2.2.2.2.2.1⟩ : Api_Query),(⟨x4.2.2.2.2.2.2.2.2.2.2.2.2.2.2.2.2.1,x4.2.2.2.2.2.2.2.2.2.2.2.2.2.2.2.2.2.1,x4.2.2.2.2.2.2.2.2.2.2.2.2.2.2.2.2.2.2.1,x4.2.2.2.2.2.2.2.2.2.2.2.2.2.2.2.2.2.2.2.1,x4.2.2.2.2.2.2.2.2.2.2.2.2.2.2.2.2.2.2.2.2.1,x4.2.2.2.2.2.2.2.2.2.2.2.2.2.2.2.2.2.2.2.2.2.1,x4.2.2.2.2.2.2.2.2.2.2.2.2.2.2.2.2.2.2.2.2.2.2.1,x4.2.2.2.2.2.2.2.2.2.2.2.2.2.2.2.2.2.2.2.2.2.2.2.1,x4.2.2.2.2.2.2.2.2.2.2.2.2.2.2.2.2.2.2.2.2.2.2.2.2⟩ : Api_Policy),(⟨slice none 0 0,[]⟩ : Sl Bool)⟩ : Api_Step)] [(⟨4,0,(⟨slice none 0 0,[]⟩ : Sl Api_Fact),(⟨0,0,false,false,false,false,false,false,false,false,nB,nB,nB,nB⟩ : Api_Query),(⟨0,0,0,0,0,0,0,0,0⟩ : Api_Policy),(⟨slice none 0 0,[]⟩ : Sl Bool)⟩ : Api_Step)] (isRd_ownx 108) (jag_cons ⟨(isRd_nilA _ _),(isRd_nilA _ _)⟩ jag_nil) (isRd_ownx 108) (jag_cons ⟨(isRd_nilA _ _),(isRd_nilA _ _)⟩ jag_nil) _ h6) (by decide) rfl (by decide) rfl) rfl rfl rfl rfl rfl rfl ?_
 rintro _ _ ⟨rfl,rfl⟩
 refine ent_value_on (ov_un rfl (u_not _)) rfl rfl rfl rfl rfl rfl ?_
 refine ent_value (ov_pick rfl rfl rfl rfl) rfl rfl rfl (ent_nil ?_)
 refine htT H (fun c4 H => ?_) fun c4 H => ?_
 ·refine ent_cond_true rfl c4 (ent_seq (ent_region (ent_value (ov_assign rfl) rfl rfl rfl (ent_nil (ent_retc ?_)))))
  cases H
  refine ent_pick [] (by decide) rfl ?_
  exact ret_tmp rfl rfl ⟨rfl,rfl⟩
 refine ent_cond_false rfl (Bool.eq_false_iff.2 c4) (ent_skip (ent_seq (ent_seq (ent_region (ent_value (ov_fieldAddr (sz := 0) (o := 0) rfl F_field_108_0 F_size_3) rfl rfl rfl (ent_value (ov_load (v := (I 4)) rfl F_agg_3 (reads_box1 (i := 3) rfl rfl)) rfl rfl rfl (ent_nil (ent_block (ent_seq (ent_region (ent_value (ov_bin rfl rfl (b_eql _ _ _)) rfl rfl rfl ?_)))))))))))
 refine ent_value (ov_assign rfl) rfl rfl rfl (ent_nil (ent_cond_false rfl rfl (ent_seq (ent_region (ent_value (ov_bin rfl rfl (b_eql _ _ _)) rfl rfl rfl (ent_value (ov_assign rfl) rfl rfl rfl (ent_nil (ent_cond_false rfl rfl (ent_seq (ent_region (ent_value (ov_bin rfl rfl (b_eql _ _ _)) rfl rfl rfl ?_)))))))))))
 refine ent_value (ov_assign rfl) rfl rfl rfl (ent_nil (ent_cond_false rfl rfl (ent_skip (ent_seq (ent_region (ent_value (ov_fieldAddr (sz := 0) (o := 0) rfl F_field_108_5 F_size_106) rfl rfl rfl (ent_value (ov_load (v := L0) rfl F_agg_106 (reads_box1 (i := 3) rfl rfl)) rfl rfl rfl (ent_value (ov_len0 rfl F_slice_106) rfl rfl rfl (ent_value (ov_bin rfl rfl (b_leq _ _ _)) rfl rfl rfl (ent_value (ov_assign rfl) rfl rfl rfl (ent_nil ?_)))))))))))
 refine ent_retc ?_
 cases H
 refine ent_pick [] (by decide) rfl ?_
 exact ret_tmp rfl rfl ⟨rfl,rfl⟩

theorem words_steps.spec (r : (Int × Int × Int × Int)) (H : words_steps = r) : FnSpec Try.prog 80 [] [] (fun v M => v = (agg #[I r.1,I r.2.1,I r.2.2.1,I r.2.2.2]) ∧ M = []) := by
 unfold words_steps at H
 refine spec_of Try.func80 rfl 2 rfl (Nat.le_of_ble_eq_true rfl) fun F w0 => ?_
 show Ent (St 2 w0 F [] []) _
 refine ent_seq (ent_region ?_)
 refine ent_op (ot_alloc F_zero_127) rfl rfl rfl ?_
 rintro _ _ ⟨b2,rfl,rfl⟩
 refine ent_nil (ent_seq (ent_region (ent_value (ov_build (is := [0,1,2,3]) (xs := [.const (I 4),.const (I 5),.const (I 7),.const (I 8)]) (vs := [I 4,I 5,I 7,I 8]) rfl rfl (build_array (cs := [I 4,I 5,I 7,I 8]) F_zero_127 F_array_127 F_size_3 rfl)) rfl rfl rfl ?_)))
 refine ent_op0 (ot_storeG (cs := [I 0,I 0,I 0,I 0]) (cs' := [I 4,I 5,I 7,I 8]) (us := [I 4,I 5,I 7,I 8]) (L' := [box b2 127 [I 4,I 5,I 7,I 8]]) 0 rfl rfl rfl (one_all rfl) F_size_127 rfl rfl (by simp) rfl) rfl rfl ?_
 rintro _ _ rfl
 refine ent_nil (ent_retc ?_)
 subst H
 exact ret_memp [] (by decide) rfl (vs := [agg #[I 4,I 5,I 7,I 8]]) rfl ⟨⟨_,[I 4,I 5,I 7,I 8],rfl,reads_boxW (i := 0) rfl,.inl ⟨F_agg_127,F_size_127,rfl⟩⟩,trivial⟩ _ rfl ⟨rfl,rfl⟩

theorem words_kinds.spec (r : ((List UInt8) × (List UInt8) × (List UInt8) × (List UInt8))) (H : words_kinds = r) : FnSpec Try.prog 81 [] [] (fun v M => v = (agg #[str r.1,str r.2.1,str r.2.2.1,str r.2.2.2]) ∧ M = []) := by
 unfold words_kinds at H
 refine spec_of Try.func81 rfl 2 rfl (Nat.le_of_ble_eq_true rfl) fun F w0 => ?_
 let C0_ : List Value := [str ([116,105,99,107] : List UInt8),str ([119,111,114,107] : List UInt8),str ([97,114,109] : List UInt8),str ([99,114,97,115,104] : List UInt8)]
 show Ent (St 2 w0 F [] []) _
 refine ent_seq (ent_region ?_)
 refine ent_op (ot_alloc F_zero_103) rfl rfl rfl ?_
 rintro _ _ ⟨b2,rfl,rfl⟩
 refine ent_nil (ent_seq (ent_region (ent_value (ov_build (is := [0,1,2,3]) (xs := [.const (str ([116,105,99,107] : List UInt8)),.const (str ([119,111,114,107] : List UInt8)),.const (str ([97,114,109] : List UInt8)),.const (str ([99,114,97,115,104] : List UInt8))]) (vs := C0_) rfl rfl (build_array (cs := C0_) F_zero_103 F_array_103 F_size_9 rfl)) rfl rfl rfl ?_)))
 refine ent_op0 (ot_storeG (cs := [S0,S0,S0,S0]) (cs' := C0_) (us := C0_) (L' := [box b2 103 C0_]) 0 rfl rfl rfl (one_all rfl) F_size_103 rfl rfl (by simp [C0_]) rfl) rfl rfl ?_
 rintro _ _ rfl
 refine ent_nil (ent_retc ?_)
 subst H
 exact ret_memp [] (by decide) rfl (vs := [agg #[str ([116,105,99,107] : List UInt8),str ([119,111,114,107] : List UInt8),str ([97,114,109] : List UInt8),str ([99,114,97,115,104] : List UInt8)]]) rfl ⟨⟨_,C0_,rfl,reads_boxW (i := 0) rfl,.inl ⟨F_agg_103,F_size_103,rfl⟩⟩,trivial⟩ _ rfl ⟨rfl,rfl⟩

theorem words_decimal.spec (K : Nat) (a0 : Int) (r : List UInt8) (H : words_decimal K a0 = some r) : FnSpec Try.prog 99 [I a0] [] (fun v M => v = (str r) ∧ M = []) := by
 unfold words_decimal at H
 refine spec_of Try.func99 rfl 33 rfl (Nat.le_of_ble_eq_true rfl) fun F w0 => ?_
 show Ent (St 33 w0 F [(0,I a0)] []) _
 refine ent_seq (ent_region (ent_value (ov_assign rfl) rfl rfl rfl (ent_nil (ent_seq (ent_region ?_)))))
 refine ent_op (ot_alloc F_zero_165) rfl rfl rfl ?_
 rintro _ _ ⟨b3,rfl,rfl⟩
 refine ent_nil (ent_seq (ent_region (ent_value (ov_assign rfl) rfl rfl rfl (ent_nil (ent_seq (ent_region (ent_value (ov_move rfl) rfl rfl rfl (ent_value (ov_convert rfl (c_int Try.underlying2 Try.underlying166)) rfl rfl rfl (ent_value (ov_assign rfl) rfl rfl rfl (ent_nil ?_))))))))))
 obtain ⟨x3,H5,H⟩ := thn_elim H
 refine ent_seq_cut (fun a w => ∃ b4 : Nat,St 33 w0 F [(0,I a0),(3,pt b4 0),(4,I 20),(5,int .u64 x3)] [box b4 165 (arrF (eI .u8) 20 (fun _ => 0))] a w) ?_ ?_
 ·refine ent_seq (ent_region (ent_value (ov_move rfl) rfl rfl rfl (ent_value (ov_bin rfl rfl (b_lss _ _ _)) rfl rfl rfl (ent_nil ?_))))
  refine htF H5 (fun c31 H5 => ?_) fun c31 H5 => ?_
  ·refine ent_cond_false rfl (decide_eq_false c31) (ent_skip ?_)
   cases H5
   exact ent_fin [0] (by decide) rfl (sub_cons (t := 0) rfl (sub_cons (t := 3) rfl (sub_cons (t := 4) rfl (sub_cons (t := 5) rfl (sub_nil _))))) fun a w h => ⟨_,h⟩
  refine ent_cond_true rfl (decide_eq_true c31) (ent_region (ent_value (ov_move rfl) rfl rfl rfl (ent_value (ov_un rfl (u_neg _ _)) rfl rfl rfl (ent_value (ov_assign rfl) rfl rfl rfl (ent_nil ?_)))))
  cases H5
  exact ent_fin [0] (by decide) rfl (sub_cons (t := 0) rfl (sub_cons (t := 3) rfl (sub_cons (t := 4) rfl (sub_cons (t := 5) rfl (sub_nil _))))) fun a w h => ⟨_,h⟩
 ·refine ent_exi fun b4 => ?_
  obtain ⟨x4,H7,H⟩ := Option.bind_eq_some_iff.1 H
  refine ent_seq_cut (fun a w => St 33 w0 F [(0,I a0),(3,pt b4 0),(4,I x4.2)] [box b4 165 (arrF (eI .u8) 20 x4.1)] a w) ?_ ?_
  ·refine ent_block ?_
   refine ent_loop (fun k a w => ∃ i11,∃ i12,∃ j6,words_decimal_l0 K k i11 i12 j6 = some x4 ∧ St 33 w0 F [(0,I a0),(3,pt b4 0),(4,I i11),(5,int .u64 i12)] [box b4 165 (arrF (eI .u8) 20 j6)] a w) K ?_ ?_
   ·exact ent_fin [0] (by decide) rfl (sub_cons (t := 0) rfl (sub_cons (t := 3) rfl (sub_cons (t := 4) rfl (sub_cons (t := 5) rfl (sub_nil _))))) fun a w h => ⟨_,_,_,H7,h⟩
   ·refine fun k => ent_exi fun i11 => ent_exi fun i12 => ent_exi fun j6 => ent_and fun H8 => ?_
    cases k with
    | zero => exact absurd H8 (by simp [words_decimal_l0])
    | succ k =>
     rw [words_decimal_l0] at H8
     refine ent_block (ent_seq (ent_region (ent_value (ov_move rfl) rfl rfl rfl (ent_value (ov_bin rfl rfl (b_sub _ _ _) ) rfl rfl rfl (ent_value (ov_assign rfl) rfl rfl rfl (ent_nil (ent_seq (ent_region (ent_value (ov_move rfl) rfl rfl rfl (ent_value (ov_move rfl) rfl rfl rfl ?_))))))))))
     refine ent_value (ov_bin rfl rfl fun w => b_rem _ _ _ w (by decide)) rfl rfl rfl ?_
     refine ent_value (ov_bin rfl rfl (b_add _ _ _) ) rfl rfl rfl (ent_value (ov_convert rfl (c_int Try.underlying166 Try.underlying5)) rfl rfl rfl ?_)
     obtain ⟨c47,H8⟩ := gdT H8
     obtain ⟨c48,H8⟩ := gdT H8
     refine ent_value (ov_indexArr (o := 0) rfl rfl F_array_165 F_size_5 c47 c48) rfl rfl rfl ?_
     refine ent_op0 (ot_store (cs := (arrF (eI .u8) 20 j6)) (cs' := (arrF (eI .u8) 20 (updF j6 ((w64 (i11 - 1)).toNat) (wu8 (wu64 (48 + (Int.tmod i12 10))))))) (us := [int .u8 (wu8 (wu64 (48 + (Int.tmod i12 10))))]) (L' := [box b4 165 (arrF (eI .u8) 20 (updF j6 ((w64 (i11 - 1)).toNat) (wu8 (wu64 (48 + (Int.tmod i12 10))))))]) 0 rfl rfl rfl (all_one rfl) F_size_5 rfl (arrF_set (eI_len _) (ix_lt c47 c48) rfl) (arrF_room (eI_len _) (ix_lt c47 c48) rfl) rfl) rfl rfl ?_
     rintro _ _ rfl
     refine ent_nil (ent_seq (ent_region (ent_value (ov_move rfl) rfl rfl rfl ?_)))
     refine ent_value (ov_bin rfl rfl fun w => b_quo _ _ _ w (by decide)) rfl rfl rfl ?_
     refine ent_value (ov_assign rfl) rfl rfl rfl (ent_nil (ent_seq (ent_region (ent_value (ov_move rfl) rfl rfl rfl (ent_value (ov_bin rfl rfl (b_eql _ _ _)) rfl rfl rfl (ent_nil ?_))))))
     refine htT H8 (fun c49 H8 => ?_) fun c49 H8 => ?_
     ·refine ent_cond_true rfl (eq_t c49) (ent_exit ?_)
      cases H8
      exact ent_fin [0] (by decide) rfl (sub_cons (t := 0) rfl (sub_cons (t := 3) rfl (sub_cons (t := 4) rfl (sub_nil _)))) fun a w h => h
     refine ent_cond_false rfl (eq_f c49) (ent_skip ?_)
     exact ent_fin [0] (by decide) rfl (sub_cons (t := 0) rfl (sub_cons (t := 3) rfl (sub_cons (t := 4) rfl (sub_cons (t := 5) rfl (sub_nil _))))) fun a w h => ⟨k,Nat.lt_succ_self k,_,_,_,H8,h⟩
  ·refine ent_seq (ent_seq (ent_region (ent_value (ov_move rfl) rfl rfl rfl (ent_value (ov_bin rfl rfl (b_lss _ _ _)) rfl rfl rfl (ent_nil ?_)))))
   refine htF H (fun c53 H => ?_) fun c53 H => ?_
   ·refine ent_cond_false rfl (decide_eq_false c53) (ent_skip (ent_seq (ent_region (ent_value (ov_move rfl) rfl rfl rfl ?_))))
    obtain ⟨c57,H⟩ := gdT H
    obtain ⟨c58,H⟩ := gdT H
    refine ent_value (ov_asl_lo rfl rfl F_array_165 F_size_5 c57 c58) rfl rfl rfl (ent_value (ov_b2s 0 rfl F_slice_71 Try.underlying5 Try.underlying9 rfl (isRd_drop (eI_len _) (show IsRd (box b4 165 (arrF (eI .u8) 20 x4.1)) (asl b4 0 20) (((List.range 20).map x4.1) : List Int).length 1 (fl (eI .u8) ((List.range 20).map x4.1)) from (isRd_boxF (eI_len _) (by decide))) (show x4.2.toNat ≤ (((List.range 20).map x4.1) : List Int).length from (len_mapr _ _) ▸ nat_le c57 c58))) rfl rfl rfl (ent_value (ov_assign rfl) rfl rfl rfl (ent_nil (ent_retc ?_))))
    cases H
    refine ent_pick [] (by decide) rfl ?_
    exact ret_tmp rfl rfl ⟨rfl,rfl⟩
   refine ent_cond_true rfl (decide_eq_true c53) (ent_seq (ent_region (ent_value (ov_move rfl) rfl rfl rfl (ent_value (ov_bin rfl rfl (b_sub _ _ _) ) rfl rfl rfl (ent_value (ov_assign rfl) rfl rfl rfl (ent_nil (ent_region (ent_value (ov_move rfl) rfl rfl rfl ?_))))))))
   obtain ⟨c54,H⟩ := gdT H
   obtain ⟨c55,H⟩ := gdT H
   refine ent_value (ov_indexArr (o := 0) rfl rfl F_array_165 F_size_5 c54 c55) rfl rfl rfl ?_
   refine ent_op0 (ot_store (cs := (arrF (eI .u8) 20 x4.1)) (cs' := (arrF (eI .u8) 20 (updF x4.1 ((w64 (x4.2 - 1)).toNat) 45))) (us := [int .u8 45]) (L' := [box b4 165 (arrF (eI .u8) 20 (updF x4.1 ((w64 (x4.2 - 1)).toNat) 45))]) 0 rfl rfl rfl (all_one rfl) F_size_5 rfl (arrF_set (eI_len _) (ix_lt c54 c55) rfl) (arrF_room (eI_len _) (ix_lt c54 c55) rfl) rfl) rfl rfl ?_
   rintro _ _ rfl
   refine ent_nil (ent_seq (ent_region (ent_value (ov_move rfl) rfl rfl rfl ?_)))
   obtain ⟨c56,H⟩ := gdT H
   refine ent_value (ov_asl_lo rfl rfl F_array_165 F_size_5 c54 c56) rfl rfl rfl (ent_value (ov_b2s 0 rfl F_slice_71 Try.underlying5 Try.underlying9 rfl (isRd_drop (eI_len _) (show IsRd (box b4 165 (arrF (eI .u8) 20 (updF x4.1 ((w64 (x4.2 - 1)).toNat) 45))) (asl b4 0 20) (((List.range 20).map (updF x4.1 ((w64 (x4.2 - 1)).toNat) 45)) : List Int).length 1 (fl (eI .u8) ((List.range 20).map (updF x4.1 ((w64 (x4.2 - 1)).toNat) 45))) from (isRd_boxF (eI_len _) (by decide))) (show (w64 (x4.2 - 1)).toNat ≤ (((List.range 20).map (updF x4.1 ((w64 (x4.2 - 1)).toNat) 45)) : List Int).length from (len_mapr _ _) ▸ nat_le c54 c56))) rfl rfl rfl (ent_value (ov_assign rfl) rfl rfl rfl (ent_nil (ent_retc ?_))))
   cases H
   refine ent_pick [] (by decide) rfl ?_
   exact ret_tmp rfl rfl ⟨rfl,rfl⟩

theorem words_line_put_OR.spec (p0 : Nat) (sv0 sv1 : Value) (A1 : HP) (l0 : List (List UInt8)) (l1 : List (List UInt8)) (hA1 : IsRd A1 sv1 l1.length 1 (fl eS l1)) (r : List (List UInt8)) (H : words_line_put_OR l0 l1 = some r) : FnSpec Try.prog 74 [pt p0 0,sv1] [box p0 119 [sv0],own sv0 9 1 l0.length (fl eS l0),A1] (fun v M => ∃ sv3 : Value,v = (tU #[]) ∧ M = [box p0 119 [sv3],own sv3 9 1 r.length (fl eS r),A1]) := by
 unfold words_line_put_OR at H
 refine spec_of Try.func74 rfl 13 rfl (Nat.le_of_ble_eq_true rfl) fun F w0 => ?_
 show Ent (St 13 w0 F [(0,pt p0 0),(1,sv1)] [box p0 119 [sv0],own sv0 9 1 l0.length (fl eS l0),A1]) _
 refine ent_region (ent_value (ov_move rfl) rfl rfl rfl (ent_value (ov_move rfl) rfl rfl rfl (ent_value (ov_nilCheck rfl) rfl rfl rfl (ent_value (ov_fieldAddr (sz := 0) (o := 0) rfl F_field_119_0 F_size_32) rfl rfl rfl (ent_value (ov_load (v := sv0) rfl F_agg_32 (reads_box1 (i := 0) rfl rfl)) rfl rfl rfl (ent_value (ov_move rfl) rfl rfl rfl ?_))))))
 obtain ⟨c2,H⟩ := gdT H
 refine ent_op (ot_appendx (sz := 0) (xs := l0) (ys := l1) 1 2 rfl rfl F_slice_32 F_size_9 F_zero_9 rfl F_bytes_9 rfl rfl rfl hA1 rfl eS_one c2) rfl rfl rfl ?_
 rintro sv4 _ rfl
 refine ent_L [box p0 119 [sv0],own sv4 9 1 (l0 ++ l1).length (fl eS (l0 ++ l1)),A1] rfl ?_
 refine ent_value (ov_nilCheck rfl) rfl rfl rfl (ent_value (ov_fieldAddr (sz := 0) (o := 0) rfl F_field_119_0 F_size_32) rfl rfl rfl ?_)
 refine ent_op0 (ot_storeS (cs := [sv0]) (cs' := [sv4]) (sv := sv4) (L' := [box p0 119 [sv4],own sv4 9 1 (l0 ++ l1).length (fl eS (l0 ++ l1)),A1]) 0 1 rfl rfl F_size_32 rfl rfl (isRd_ownx 9) rfl (by simp) rfl) rfl rfl ?_
 rintro _ _ rfl
 refine ent_nil ?_
 cases H
 refine ret_normal ?_
 refine ent_pick [0,1,2] (by decide) rfl ?_
 exact ret_none rfl ⟨_,rfl,rfl⟩

theorem words_line_num_O.spec (K p0 : Nat) (sv0 : Value) (l0 : List (List UInt8)) (a1 : Int) (r : List (List UInt8)) (H : words_line_num_O K l0 a1 = some r) : FnSpec Try.prog 78 [pt p0 0,I a1] [box p0 119 [sv0],own sv0 9 1 l0.length (fl eS l0)] (fun v M => ∃ sv3 : Value,v = (tU #[]) ∧ M = [box p0 119 [sv3],own sv3 9 1 r.length (fl eS r)]) := by
 unfold words_line_num_O at H
 refine spec_of Try.func78 rfl 9 rfl (Nat.le_of_ble_eq_true rfl) fun F w0 => ?_
 show Ent (St 9 w0 F [(0,pt p0 0),(1,I a1)] [box p0 119 [sv0],own sv0 9 1 l0.length (fl eS l0)]) _
 refine ent_region (ent_value (ov_move rfl) rfl rfl rfl (ent_value (ov_move rfl) rfl rfl rfl ?_))
 obtain ⟨x3,h3,H⟩ := Option.bind_eq_some_iff.1 H
 refine ent_op (ot_call0 (first := []) (cap := []) (xs := [.tmp 5]) rfl rfl F_call_99 rfl (words_decimal.spec K a1 _ h3)) rfl rfl rfl ?_
 rintro _ _ ⟨rfl,rfl⟩
 refine ent_op (ot_buildSlice (sz := 0) (xs := [.tmp 6]) (cs := fl eS [x3]) rfl rfl F_slice_32 F_size_9 F_zero_9 rfl rfl (all_size rfl) rfl (by decide)) rfl rfl rfl ?_
 rintro sv4 _ rfl
 obtain ⟨x4,h4,H⟩ := Option.bind_eq_some_iff.1 H
 refine ent_pick [1,2,0] (by decide) rfl ?_
 refine ent_op (ot_call (Lr := []) (first := []) (cap := []) (xs := [.tmp 4,.tmp 7]) rfl rfl F_call_74 rfl (words_line_put_OR.spec p0 sv0 sv4 (own sv4 9 1 [x3].length (fl eS [x3])) l0 [x3] (isRd_ownx 9) _ h4) rfl) rfl rfl rfl ?_
 rintro _ _ ⟨_,⟨sv5,rfl,rfl⟩,rfl⟩
 refine ent_nil ?_
 cases H
 refine ret_normal ?_
 refine ent_pick [0,1] (by decide) rfl ?_
 exact ret_none rfl ⟨_,rfl,rfl⟩

theorem strings_Join.spec (sv0 : Value) (A0 : HP) (l0 : List (List UInt8)) (a1 : List UInt8) (hA0 : IsRd A0 sv0 l0.length 1 (fl eS l0)) (r : List UInt8) (H : strings_Join l0 a1 = some r) : FnSpec Try.prog 82 [sv0,str a1] [A0] (fun v M => v = (str r) ∧ M = [A0]) := by
 unfold strings_Join at H
 split at H
 ·rename_i hc
  cases H
  exact spec_join (fun a c sep w => Try.strings_Join_none a c sep w) (fun bk o c xs sep w h1 h2 h3 h4 h5 => Try.strings_Join bk o c xs sep w h1 h2 h3 h4 h5) A0 sv0 l0 a1 hA0 hc.1 hc.2
 ·cases H

theorem words_Line_NN.spec (K : Nat) (a0_1 : Int) (r : ((List UInt8) × Int)) (H : words_Line_NN K a0_1 = some r) : FnSpec Try.prog 63 [agg #[I 4,I a0_1,L0,I 0,I 0,B0,B0,B0,B0,B0,B0,B0,B0,S0,S0,S0,S0,I 0,I 0,I 0,I 0,I 0,I 0,I 0,I 0,I 0,L0],I 1] [] (fun v M => v = (tU #[str r.1,I r.2]) ∧ M = []) := by
 unfold words_Line_NN at H
 refine spec_of Try.func63 rfl 83 rfl (Nat.le_of_ble_eq_true rfl) fun F w0 => ?_
 let C0_ : List Value := [I 4,I a0_1,L0,I 0,I 0,B0,B0,B0,B0,B0,B0,B0,B0,S0,S0,S0,S0,I 0,I 0,I 0,I 0,I 0,I 0,I 0,I 0,I 0,L0]
 show Ent (St 83 w0 F [(0,agg #[I 4,I a0_1,L0,I 0,I 0,B0,B0,B0,B0,B0,B0,B0,B0,S0,S0,S0,S0,I 0,I 0,I 0,I 0,I 0,I 0,I 0,I 0,I 0,L0]),(1,I 1)] []) _
 refine ent_seq (ent_region ?_)
 refine ent_op (ot_box (cs := C0_) rfl rfl) rfl rfl rfl ?_
 rintro _ _ ⟨b4,rfl,rfl⟩
 refine ent_value (ov_assign rfl) rfl rfl rfl (ent_value (ov_assign rfl) rfl rfl rfl (ent_nil (ent_seq (ent_seq (ent_region (ent_value (ov_load_agg (vs := C0_) rfl F_agg_108 F_size_108 (reads_boxW (i := 0) rfl)) rfl rfl rfl (ent_value (ov_move rfl) rfl rfl rfl ?_)))))))
 obtain ⟨x44,h43,H⟩ := Option.bind_eq_some_iff.1 H
 refine ent_op (ot_call0 (first := []) (cap := []) (xs := [.tmp 12,.tmp 13]) rfl rfl F_call_73 rfl (script_Right_NN.spec K a0_1 _ h43)) rfl rfl rfl ?_
 rintro _ _ ⟨rfl,rfl⟩
 refine ent_value (ov_un rfl (u_not _)) rfl rfl rfl (ent_nil ?_)
 refine htT H (fun c44 H => ?_) fun c44 H => ?_
 ·refine ent_cond_true rfl c44 (ent_seq (ent_region (ent_value (ov_assign rfl) rfl rfl rfl (ent_value (ov_assign rfl) rfl rfl rfl (ent_nil (ent_retc ?_))))))
  cases H
  refine ent_pick [] (by decide) rfl ?_
  exact ret_mem (vs := [S0,I 1]) rfl ⟨rfl,⟨rfl,trivial⟩⟩ _ rfl ⟨rfl,rfl⟩
 refine ent_cond_false rfl (Bool.eq_false_iff.2 c44) (ent_skip (ent_seq (ent_region ?_)))
 refine ent_op (ot_alloc F_zero_119) rfl rfl rfl ?_
 rintro _ _ ⟨b5,rfl,rfl⟩
 refine ent_nil ?_
 obtain ⟨x64,H5,H⟩ := Option.bind_eq_some_iff.1 H
 refine ent_seq_cut (fun a w => ∃ b6 : Nat,∃ sv59 : Value,St 83 w0 F [(6,pt b6 0)] [box b6 119 [sv59],own sv59 9 1 x64.length (fl eS x64)] a w) ?_ ?_
 ·refine ent_seq (ent_region (ent_value (ov_fieldAddr (sz := 0) (o := 0) rfl F_field_108_0 F_size_3) rfl rfl rfl (ent_value (ov_load (v := (I 4)) rfl F_agg_3 (reads_box1 (i := 1) rfl rfl)) rfl rfl rfl (ent_nil (ent_block (ent_seq (ent_region (ent_value (ov_bin rfl rfl (b_eql _ _ _)) rfl rfl rfl (ent_value (ov_assign rfl) rfl rfl rfl (ent_nil (ent_cond_false rfl rfl ?_)))))))))))
  refine ent_seq (ent_region (ent_value (ov_bin rfl rfl (b_eql _ _ _)) rfl rfl rfl (ent_value (ov_assign rfl) rfl rfl rfl (ent_nil (ent_cond_false rfl rfl (ent_seq (ent_region (ent_value (ov_bin rfl rfl (b_eql _ _ _)) rfl rfl rfl (ent_value (ov_assign rfl) rfl rfl rfl (ent_nil (ent_cond_false rfl rfl ?_)))))))))))
  refine ent_seq (ent_region (ent_value (ov_bin rfl rfl (b_eql _ _ _)) rfl rfl rfl (ent_value (ov_assign rfl) rfl rfl rfl (ent_nil (ent_cond_false rfl rfl (ent_seq (ent_region (ent_value (ov_bin rfl rfl (b_eql _ _ _)) rfl rfl rfl (ent_value (ov_assign rfl) rfl rfl rfl (ent_nil (ent_cond_false rfl rfl ?_)))))))))))
  refine ent_seq (ent_region ?_)
  obtain ⟨x65,h63,H5⟩ := thn_elim H5
  refine ent_op (ot_call0 (first := []) (cap := []) (xs := []) rfl rfl F_call_80 rfl (words_steps.spec _ h63)) rfl rfl rfl ?_
  rintro _ _ ⟨rfl,rfl⟩
  refine ent_value (ov_move rfl) rfl rfl rfl (ent_nil (ent_block ?_))
  refine ent_loop (fun k a w => ∃ i5,∃ l6,∃ sv66 : Value,words_Line_NN_l0 K a0_1 x65 k i5 l6 = some x64 ∧ St 83 w0 F [(2,pt b4 0),(6,pt b5 0),(18,agg #[I x65.1,I x65.2.1,I x65.2.2.1,I x65.2.2.2]),(19,I i5)] [box b4 108 C0_,box b5 119 [sv66],own sv66 9 1 l6.length (fl eS l6)] a w) K ?_ ?_
  ·refine ent_ownnil 9 1 ?_
   exact ent_fin [2,1,0] (by decide) rfl (sub_cons (t := 2) rfl (sub_cons (t := 6) rfl (sub_cons (t := 18) rfl (sub_cons (t := 19) rfl (sub_nil _))))) fun a w h => ⟨_,_,_,H5,h⟩
  ·refine fun k => ent_exi fun i5 => ent_exi fun l6 => ent_exi fun sv66 => ent_and fun H6 => ?_
   cases k with
   | zero => exact absurd H6 (by simp [C0_,words_Line_NN_l0])
   | succ k =>
    rw [words_Line_NN_l0] at H6
    refine ent_seq (ent_region (ent_value (ov_bin rfl rfl (b_lss _ _ _)) rfl rfl rfl (ent_nil (ent_seq ?_))))
    refine htF H6 (fun c78 H6 => ?_) fun c78 H6 => ?_
    ·refine ent_cond_false rfl (decide_eq_false c78) (ent_exit ?_)
     cases H6
     exact ent_fin [1,2] (by decide) rfl (sub_cons (t := 6) rfl (sub_nil _)) fun a w h => ⟨_,_,h⟩
    refine ent_cond_true rfl (decide_eq_true c78) (ent_skip (ent_seq (ent_block (ent_seq (ent_region (ent_value (ov_move rfl) rfl rfl rfl ?_))))))
    obtain ⟨c82,H6⟩ := gdT H6
    obtain ⟨c83,H6⟩ := gdT H6
    refine ent_value (ov_indexAgg rfl rfl F_array_127 F_size_3 F_agg_3 c82 c83 (cases4 (fun i_ => #[I x65.1,I x65.2.1,I x65.2.2.1,I x65.2.2.2][i_]? = some (I ([x65.1,x65.2.1,x65.2.2.1,x65.2.2.2].getD i_ 0))) (ix_lt c82 c83) rfl rfl rfl rfl)) rfl rfl rfl ?_
    refine ent_value (ov_assign rfl) rfl rfl rfl (ent_value (ov_assign rfl) rfl rfl rfl (ent_nil (ent_seq (ent_region (ent_value (ov_move rfl) rfl rfl rfl (ent_value (ov_fieldAddr (sz := 0) (o := 0) rfl F_field_108_0 F_size_3) rfl rfl rfl (ent_value (ov_load (v := (I 4)) rfl F_agg_3 (reads_box1 (i := 0) rfl rfl)) rfl rfl rfl (ent_value (ov_bin rfl rfl (b_eql _ _ _)) rfl rfl rfl (ent_nil ?_)))))))))
    refine htF H6 (fun c84 H6 => ?_) fun c84 H6 => ?_
    ·refine ent_cond_false rfl (eq_f c84) (ent_skip (ent_region (ent_value (ov_bin rfl rfl (b_add _ _ _) ) rfl rfl rfl (ent_value (ov_move rfl) rfl rfl rfl (ent_nil ?_)))))
     exact ent_fin [0,1,2] (by decide) rfl (sub_cons (t := 2) rfl (sub_cons (t := 6) rfl (sub_cons (t := 18) rfl (sub_cons (t := 19) rfl (sub_nil _))))) fun a w h => ⟨k,Nat.lt_succ_self k,_,_,_,H6,h⟩
    refine ent_cond_true rfl (eq_t c84) (ent_seq (ent_region ?_))
    obtain ⟨x81,h79,H6⟩ := thn_elim H6
    refine ent_op (ot_call0 (first := []) (cap := []) (xs := []) rfl rfl F_call_81 rfl (words_kinds.spec _ h79)) rfl rfl rfl ?_
    rintro _ _ ⟨rfl,rfl⟩
    refine ent_value (ov_move rfl) rfl rfl rfl ?_
    refine ent_value (ov_indexAgg rfl rfl F_array_103 F_size_9 F_agg_9 c82 c83 (cases4 (fun i_ => #[str x81.1,str x81.2.1,str x81.2.2.1,str x81.2.2.2][i_]? = some (str ([x81.1,x81.2.1,x81.2.2.1,x81.2.2.2].getD i_ []))) (ix_lt c82 c83) rfl rfl rfl rfl)) rfl rfl rfl ?_
    refine ent_op (ot_buildSlice (sz := 0) (xs := [.tmp 29]) (cs := fl eS [([x81.1,x81.2.1,x81.2.2.1,x81.2.2.2].getD i5.toNat [])]) rfl rfl F_slice_32 F_size_9 F_zero_9 rfl rfl (all_size rfl) rfl (by decide)) rfl rfl rfl ?_
    rintro sv76 _ rfl
    obtain ⟨x82,h80,H6⟩ := Option.bind_eq_some_iff.1 H6
    refine ent_pick [2,3,0,1] (by decide) rfl ?_
    refine ent_op (ot_call (Lr := [box b4 108 C0_]) (first := []) (cap := []) (xs := [.tmp 6,.tmp 30]) rfl rfl F_call_74 rfl (words_line_put_OR.spec b5 sv66 sv76 (own sv76 9 1 [([x81.1,x81.2.1,x81.2.2.1,x81.2.2.2].getD i5.toNat [])].length (fl eS [([x81.1,x81.2.1,x81.2.2.1,x81.2.2.2].getD i5.toNat [])])) l6 [([x81.1,x81.2.1,x81.2.2.1,x81.2.2.2].getD i5.toNat [])] (isRd_ownx 9) _ h80) rfl) rfl rfl rfl ?_
    rintro _ _ ⟨_,⟨sv77,rfl,rfl⟩,rfl⟩
    refine ent_nil (ent_region (ent_value (ov_fieldAddr (sz := 0) (o := 0) rfl F_field_108_1 F_size_2) rfl rfl rfl (ent_value (ov_load (v := (I a0_1)) rfl F_agg_2 (reads_box1 (i := 3) rfl rfl)) rfl rfl rfl ?_)))
    obtain ⟨x83,h81,H6⟩ := Option.bind_eq_some_iff.1 H6
    refine ent_op (ot_call (Lr := [own sv76 9 1 [([x81.1,x81.2.1,x81.2.2.1,x81.2.2.2].getD i5.toNat [])].length (fl eS [([x81.1,x81.2.1,x81.2.2.1,x81.2.2.2].getD i5.toNat [])]),box b4 108 C0_]) (first := []) (cap := []) (xs := [.tmp 6,.tmp 33]) rfl rfl F_call_78 rfl (words_line_num_O.spec K b5 sv77 x82 a0_1 _ h81) rfl) rfl rfl rfl ?_
    rintro _ _ ⟨_,⟨sv78,rfl,rfl⟩,rfl⟩
    refine ent_nil (ent_region (ent_value (ov_bin rfl rfl (b_add _ _ _) ) rfl rfl rfl (ent_value (ov_move rfl) rfl rfl rfl (ent_nil ?_))))
    exact ent_fin [3,0,1] (by decide) rfl (sub_cons (t := 2) rfl (sub_cons (t := 6) rfl (sub_cons (t := 18) rfl (sub_cons (t := 19) rfl (sub_nil _))))) fun a w h => ⟨k,Nat.lt_succ_self k,_,_,_,H6,h⟩
 ·refine ent_exi fun b6 => ent_exi fun sv59 => ?_
  refine ent_seq (ent_region (ent_value (ov_fieldAddr (sz := 0) (o := 0) rfl F_field_119_0 F_size_32) rfl rfl rfl (ent_value (ov_load (v := sv59) rfl F_agg_32 (reads_box1 (i := 0) rfl rfl)) rfl rfl rfl ?_)))
  obtain ⟨x84,h82,H⟩ := Option.bind_eq_some_iff.1 H
  refine ent_op (ot_call_same (Lr := [box b6 119 [sv59]]) [1,0] [1,0] (first := []) (cap := []) (xs := [.tmp 81,.const (str ([32] : List UInt8))]) rfl rfl F_call_82 rfl (strings_Join.spec sv59 (own sv59 9 1 x64.length (fl eS x64)) x64 ([32] : List UInt8) (isRd_ownx 9) _ h82) (by decide) rfl (by decide) rfl) rfl rfl rfl ?_
  rintro _ _ ⟨rfl,rfl⟩
  refine ent_value (ov_assign rfl) rfl rfl rfl (ent_value (ov_assign rfl) rfl rfl rfl (ent_nil (ent_retc ?_)))
  cases H
  refine ent_pick [] (by decide) rfl ?_
  exact ret_mem (vs := [str x84,I 0]) rfl ⟨rfl,⟨rfl,trivial⟩⟩ _ rfl ⟨rfl,rfl⟩

theorem stringslite_Index.spec (a0 a1 : List UInt8) (r : Int) (H : stringslite_Index a0 a1 = some r) : FnSpec Try.prog 70 [str a0,str a1] [] (fun v M => v = (I r) ∧ M = []) := by
 unfold stringslite_Index at H
 split at H
 ·cases H
  rename_i c
  have := spec_index1 (fun s c w => Try.stringslite_Index_one s c w) a0 c
  rw [idxB_eq] at this
  exact this
 ·cases H

theorem stringslite_Cut.spec (a0 : List UInt8) (a1 : List UInt8) (r : ((List UInt8) × (List UInt8) × Bool)) (H : stringslite_Cut a0 a1 = some r) : FnSpec Try.prog 57 [str a0,str a1] [] (fun v M => v = (tU #[str r.1,str r.2.1,bool r.2.2]) ∧ M = []) := by
 unfold stringslite_Cut at H
 refine spec_of Try.func57 rfl 23 rfl (Nat.le_of_ble_eq_true rfl) fun F w0 => ?_
 show Ent (St 23 w0 F [(0,str a0),(1,str a1)] []) _
 refine ent_seq (ent_region (ent_value (ov_assign rfl) rfl rfl rfl (ent_value (ov_assign rfl) rfl rfl rfl (ent_value (ov_assign rfl) rfl rfl rfl (ent_nil (ent_seq (ent_seq (ent_region (ent_value (ov_move rfl) rfl rfl rfl (ent_value (ov_move rfl) rfl rfl rfl ?_))))))))))
 obtain ⟨x4,h4,H⟩ := Option.bind_eq_some_iff.1 H
 refine ent_op (ot_call0 (first := []) (cap := []) (xs := [.tmp 8,.tmp 9]) rfl rfl F_call_70 rfl (stringslite_Index.spec a0 a1 _ h4)) rfl rfl rfl ?_
 rintro _ _ ⟨rfl,rfl⟩
 refine ent_value (ov_assign rfl) rfl rfl rfl (ent_nil (ent_seq (ent_region (ent_value (ov_move rfl) rfl rfl rfl (ent_value (ov_bin rfl rfl (b_geq _ _ _)) rfl rfl rfl (ent_nil ?_))))))
 refine htF H (fun c13 H => ?_) fun c13 H => ?_
 ·refine ent_cond_false rfl (decide_eq_false c13) (ent_skip (ent_seq (ent_region (ent_value (ov_move rfl) rfl rfl rfl (ent_value (ov_assign rfl) rfl rfl rfl (ent_value (ov_assign rfl) rfl rfl rfl (ent_value (ov_assign rfl) rfl rfl rfl (ent_nil (ent_retc ?_)))))))))
  cases H
  refine ent_pick [] (by decide) rfl ?_
  exact ret_mem (vs := [str a0,S0,B0]) rfl ⟨rfl,⟨rfl,⟨rfl,trivial⟩⟩⟩ _ rfl ⟨rfl,rfl⟩
 refine ent_cond_true rfl (decide_eq_true c13) (ent_seq ?_)
 obtain ⟨c14,H⟩ := gdT H
 obtain ⟨c15,H⟩ := gdT H
 obtain ⟨c16,H⟩ := gdT H
 refine ent_drawm 12 rfl (fun done a w => StD 23 w0 F [(0,str a0),(1,str a1),(7,I x4),(8,str a0),(9,str a1),(10,I x4),(11,I x4),(12,bool (decide (0 ≤ x4)))] [(0,13,str a0),(1,14,I x4),(2,15,str (a0.take x4.toNat)),(3,16,str a0),(4,17,I x4),(5,18,str a1),(6,19,I (a1.length : Int)),(7,20,I (w64 (x4 + (a1.length : Int)))),(8,21,str (a0.drop (w64 (x4 + (a1.length : Int))).toNat)),(9,4,str (a0.take x4.toNat)),(10,5,str (a0.drop (w64 (x4 + (a1.length : Int))).toNat)),(11,6,bool true)] done [] a w) (by kernel_rfl) (by kernel_rfl) (draw_startL (sub_cons (t := 0) rfl (sub_cons (t := 1) rfl (sub_cons (t := 7) rfl (sub_cons (t := 8) rfl (sub_cons (t := 9) rfl (sub_cons (t := 10) rfl (sub_cons (t := 11) rfl (sub_cons (t := 12) rfl (sub_nil _))))))))) rfl) ?_ ?_
 ·refine ⟨?_,?_,?_,?_,?_,?_,?_,?_,?_,?_,?_,?_,trivial⟩
  ·exact fun done hi hc hcu => draw_value (i := 0) (t := 13) (v := (str a0)) rfl rfl (wanted_none rfl) (fun a => hasA_base) (ov_move rfl) rfl rfl (onlyT_spec (k0 := 0) rfl rfl rfl)
  ·exact fun done hi hc hcu => draw_value (i := 1) (t := 14) (v := (I x4)) rfl rfl (wanted_none rfl) (fun a => hasA_base) (ov_move rfl) rfl rfl (onlyT_spec (k0 := 1) rfl rfl rfl)
  ·exact fun done hi hc hcu => draw_value (i := 2) (t := 15) (v := (str (a0.take x4.toNat))) rfl rfl (wanted_none rfl) (fun a => (hasA_cons (k := 1) rfl (done_of (j := 1) hcu rfl (by decide) rfl) (hasA_cons (k := 0) rfl (done_of (j := 0) hcu rfl (by decide) rfl) hasA_base))) (ov_sls_hi rfl rfl Try.underlying9 c13 c14) rfl rfl (onlyT_spec (k0 := 2) rfl rfl rfl)
  ·exact fun done hi hc hcu => draw_value (i := 3) (t := 16) (v := (str a0)) rfl rfl (wanted_none rfl) (fun a => hasA_base) (ov_move rfl) rfl rfl (onlyT_spec (k0 := 3) rfl rfl rfl)
  ·exact fun done hi hc hcu => draw_value (i := 4) (t := 17) (v := (I x4)) rfl rfl (wanted_none rfl) (fun a => hasA_base) (ov_move rfl) rfl rfl (onlyT_spec (k0 := 4) rfl rfl rfl)
  ·exact fun done hi hc hcu => draw_value (i := 5) (t := 18) (v := (str a1)) rfl rfl (wanted_none rfl) (fun a => hasA_base) (ov_move rfl) rfl rfl (onlyT_spec (k0 := 5) rfl rfl rfl)
  ·exact fun done hi hc hcu => draw_value (i := 6) (t := 19) (v := (I (a1.length : Int))) rfl rfl (wanted_none rfl) (fun a => (hasA_cons (k := 5) rfl (done_of (j := 5) hcu rfl (by decide) rfl) hasA_base)) (ov_lenS rfl Try.underlying9) rfl rfl (onlyT_spec (k0 := 6) rfl rfl rfl)
  ·exact fun done hi hc hcu => draw_value (i := 7) (t := 20) (v := (I (w64 (x4 + (a1.length : Int))))) rfl rfl (wanted_none rfl) (fun a => (hasA_cons (k := 6) rfl (done_of (j := 6) hcu rfl (by decide) rfl) (hasA_cons (k := 4) rfl (done_of (j := 4) hcu rfl (by decide) rfl) hasA_base))) (ov_bin rfl rfl (b_add _ _ _) ) rfl rfl (onlyT_spec (k0 := 7) rfl rfl rfl)
  ·exact fun done hi hc hcu => draw_value (i := 8) (t := 21) (v := (str (a0.drop (w64 (x4 + (a1.length : Int))).toNat))) rfl rfl (wanted_none rfl) (fun a => (hasA_cons (k := 7) rfl (done_of (j := 7) hcu rfl (by decide) rfl) (hasA_cons (k := 3) rfl (done_of (j := 3) hcu rfl (by decide) rfl) hasA_base))) (ov_sls_lo rfl rfl Try.underlying9 c15 c16) rfl rfl (onlyT_spec (k0 := 8) rfl rfl rfl)
  ·exact fun done hi hc hcu => draw_value (i := 9) (t := 4) (v := (str (a0.take x4.toNat))) rfl rfl (wanted_none rfl) (fun a => (hasA_cons (k := 2) rfl (done_of (j := 2) hcu rfl (by decide) rfl) hasA_base)) (ov_assign rfl) rfl rfl (onlyT_spec (k0 := 9) rfl rfl rfl)
  ·exact fun done hi hc hcu => draw_value (i := 10) (t := 5) (v := (str (a0.drop (w64 (x4 + (a1.length : Int))).toNat))) rfl rfl (wanted_none rfl) (fun a => (hasA_cons (k := 8) rfl (done_of (j := 8) hcu rfl (by decide) rfl) hasA_base)) (ov_assign rfl) rfl rfl (onlyT_spec (k0 := 10) rfl rfl rfl)
  ·exact fun done hi hc hcu => draw_value (i := 11) (t := 6) (v := (bool true)) rfl rfl (wanted_none rfl) (fun a => hasA_base) (ov_assign rfl) rfl rfl (onlyT_spec (k0 := 11) rfl rfl rfl)
 ·intro done hall
  refine draw_endL [] rfl (fun a => (hasA_cons (k := 9) rfl (hall 9 (by decide)) (hasA_cons (k := 10) rfl (hall 10 (by decide)) (hasA_cons (k := 11) rfl (hall 11 (by decide)) (hasA_cons (k := 0) rfl (hall 0 (by decide)) (hasA_cons (k := 1) rfl (hall 1 (by decide)) (hasA_cons (k := 2) rfl (hall 2 (by decide)) (hasA_cons (k := 3) rfl (hall 3 (by decide)) (hasA_cons (k := 4) rfl (hall 4 (by decide)) (hasA_cons (k := 5) rfl (hall 5 (by decide)) (hasA_cons (k := 6) rfl (hall 6 (by decide)) (hasA_cons (k := 7) rfl (hall 7 (by decide)) (hasA_cons (k := 8) rfl (hall 8 (by decide)) hasA_base))))))))))))) ?_
  refine ent_retc ?_
  cases H
  refine ent_pick [] (by decide) rfl ?_
  exact ret_mem (vs := [str (a0.take x4.toNat),str (a0.drop (w64 (x4 + (a1.length : Int))).toNat),bool true]) rfl ⟨rfl,⟨rfl,⟨rfl,trivial⟩⟩⟩ _ rfl ⟨rfl,rfl⟩

theorem strings_Cut.spec (a0 : List UInt8) (a1 : List UInt8) (r : ((List UInt8) × (List UInt8) × Bool)) (H : strings_Cut a0 a1 = some r) : FnSpec Try.prog 28 [str a0,str a1] [] (fun v M => v = (tU #[str r.1,str r.2.1,bool r.2.2]) ∧ M = []) := by
 unfold strings_Cut at H
 refine spec_of Try.func28 rfl 13 rfl (Nat.le_of_ble_eq_true rfl) fun F w0 => ?_
 show Ent (St 13 w0 F [(0,str a0),(1,str a1)] []) _
 refine ent_seq (ent_region (ent_value (ov_assign rfl) rfl rfl rfl (ent_value (ov_assign rfl) rfl rfl rfl (ent_value (ov_assign rfl) rfl rfl rfl (ent_nil (ent_seq (ent_region (ent_value (ov_move rfl) rfl rfl rfl (ent_value (ov_move rfl) rfl rfl rfl ?_)))))))))
 obtain ⟨x2,h2,H⟩ := Option.bind_eq_some_iff.1 H
 refine ent_op (ot_call0 (first := []) (cap := []) (xs := [.tmp 7,.tmp 8]) rfl rfl F_call_57 rfl (stringslite_Cut.spec a0 a1 _ h2)) rfl rfl rfl ?_
 rintro _ _ ⟨rfl,rfl⟩
 refine ent_value (ov_extract rfl rfl) rfl rfl rfl (ent_value (ov_extract rfl rfl) rfl rfl rfl (ent_value (ov_extract rfl rfl) rfl rfl rfl (ent_value (ov_assign rfl) rfl rfl rfl (ent_value (ov_assign rfl) rfl rfl rfl (ent_value (ov_assign rfl) rfl rfl rfl (ent_nil (ent_retc ?_)))))))
 cases H
 refine ent_pick [] (by decide) rfl ?_
 exact ret_mem (vs := [str x2.1,str x2.2.1,bool x2.2.2]) rfl ⟨rfl,⟨rfl,⟨rfl,trivial⟩⟩⟩ _ rfl ⟨rfl,rfl⟩

theorem sheet_number.spec (K : Nat) (a0 : Int) (r : List UInt8) (H : sheet_number K a0 = some r) : FnSpec Try.prog 40 [I a0] [] (fun v M => v = (str r) ∧ M = []) := by
 unfold sheet_number at H
 refine spec_of Try.func40 rfl 21 rfl (Nat.le_of_ble_eq_true rfl) fun F w0 => ?_
 show Ent (St 21 w0 F [(0,I a0)] []) _
 refine ent_seq (ent_region (ent_value (ov_assign rfl) rfl rfl rfl (ent_nil (ent_seq (ent_region (ent_value (ov_move rfl) rfl rfl rfl (ent_value (ov_build (is := [0,1]) (xs := [.const (I 4),.tmp 9]) (vs := [I 4,I a0]) rfl rfl (build_struct (cs := [I 4,I a0,L0,I 0,I 0,B0,B0,B0,B0,B0,B0,B0,B0,S0,S0,S0,S0,I 0,I 0,I 0,I 0,I 0,I 0,I 0,I 0,I 0,L0]) F_zero_108 F_places_108 rfl)) rfl rfl rfl ?_)))))))
 obtain ⟨x3,h3,H⟩ := Option.bind_eq_some_iff.1 H
 refine ent_op (ot_call0 (first := []) (cap := []) (xs := [.tmp 10,.const (I 1)]) rfl rfl F_call_63 rfl (words_Line_NN.spec K a0 _ h3)) rfl rfl rfl ?_
 rintro _ _ ⟨rfl,rfl⟩
 refine ent_value (ov_move rfl) rfl rfl rfl (ent_value (ov_extract rfl rfl) rfl rfl rfl (ent_value (ov_extract rfl rfl) rfl rfl rfl (ent_value (ov_assign rfl) rfl rfl rfl (ent_value (ov_assign rfl) rfl rfl rfl (ent_nil (ent_seq (ent_region (ent_value (ov_move rfl) rfl rfl rfl ?_))))))))
 obtain ⟨x4,h4,H⟩ := Option.bind_eq_some_iff.1 H
 refine ent_op (ot_call0 (first := []) (cap := []) (xs := [.tmp 15,.const (str ([32] : List UInt8))]) rfl rfl F_call_28 rfl (strings_Cut.spec x3.1 ([32] : List UInt8) _ h4)) rfl rfl rfl ?_
 rintro _ _ ⟨rfl,rfl⟩
 refine ent_value (ov_move rfl) rfl rfl rfl (ent_value (ov_extract rfl rfl) rfl rfl rfl (ent_value (ov_extract rfl rfl) rfl rfl rfl (ent_value (ov_extract rfl rfl) rfl rfl rfl (ent_value (ov_assign rfl) rfl rfl rfl (ent_value (ov_assign rfl) rfl rfl rfl (ent_value (ov_assign rfl) rfl rfl rfl (ent_nil (ent_seq (ent_region (ent_value (ov_move rfl) rfl rfl rfl (ent_value (ov_assign rfl) rfl rfl rfl ?_)))))))))))
 refine ent_nil (ent_retc ?_)
 cases H
 refine ent_pick [] (by decide) rfl ?_
 exact ret_tmp rfl rfl ⟨rfl,rfl⟩

theorem strings_Builder_copyCheck.spec (p0 : Nat) (r : Unit) (H : strings_Builder_copyCheck = r) : FnSpec Try.prog 62 [(pt p0 0)] [(box p0 73 [(Value.pointer none), (slice none 0 0)])] (fun v M => v = (Value.tuple #[]) ∧ M = [(box p0 73 [(pt p0 0), (slice none 0 0)])]) :=
 (spec_frame [] (spec_copyFresh (fun b w h1 h2 h3 => Any.Builder_copyCheck_fresh ({ Try.lays156 with } : Lays.n240 Try.prog Try.lays156_ren) Try.Builder_Extra_156.toX72 b w h1 h2 h3) p0 (slice none 0 0))).mono fun v M h => by obtain ⟨M0, ⟨rfl, rfl⟩, rfl⟩ := h; exact ⟨rfl, rfl⟩

theorem strings_Builder_WriteString_ZN.spec (p0 : Nat) (a1 : List UInt8) (r : ((List Int) × Int)) (H : strings_Builder_WriteString_ZN a1 = some r) : FnSpec Try.prog 39 [pt p0 0,str a1] [box p0 73 [P0,L0]] (fun v M => ∃ sv2 : Value,v = (tU #[I r.2,Value.nilIface]) ∧ M = [box p0 73 [pt p0 0,sv2],own sv2 5 1 r.1.length (fl (eI .u8) r.1)]) := by
 unfold strings_Builder_WriteString_ZN at H
 refine spec_of Try.func39 rfl 19 rfl (Nat.le_of_ble_eq_true rfl) fun F w0 => ?_
 show Ent (St 19 w0 F [(0,pt p0 0),(1,str a1)] [box p0 73 [P0,L0]]) _
 refine ent_seq (ent_region (ent_value (ov_assign rfl) rfl rfl rfl (ent_value (ov_assign rfl) rfl rfl rfl (ent_nil (ent_seq (ent_region (ent_value (ov_move rfl) rfl rfl rfl ?_)))))))
 obtain ⟨u2,h2,H⟩ := thn_elim H
 refine ent_op (ot_call (Lr := []) (first := []) (cap := []) (xs := [.tmp 6]) rfl rfl F_call_62 rfl (strings_Builder_copyCheck.spec p0 _ h2) rfl) rfl rfl rfl ?_
 rintro _ _ ⟨_,⟨rfl,rfl⟩,rfl⟩
 refine ent_nil (ent_seq (ent_region (ent_value (ov_move rfl) rfl rfl rfl (ent_value (ov_move rfl) rfl rfl rfl (ent_value (ov_nilCheck rfl) rfl rfl rfl (ent_value (ov_fieldAddr (sz := 0) (o := 0) rfl F_field_73_1 F_size_71) rfl rfl rfl (ent_value (ov_load (v := L0) rfl F_agg_71 (reads_box1 (i := 0) rfl rfl)) rfl rfl rfl (ent_value (ov_move rfl) rfl rfl rfl ?_))))))))
 refine ent_ownnil 5 1 ?_
 obtain ⟨c2,H⟩ := gdT H
 refine ent_op (ot_appendS (xs := ([] : List Int)) (s := a1) 0 rfl rfl F_slice_71 Try.underlying9 F_size_5 F_zero1_5 F_bytes_5 rfl c2) rfl rfl rfl ?_
 rintro sv3 _ rfl
 refine ent_L [own sv3 5 1 (([] : List Int) ++ byts a1).length (fl (eI .u8) (([] : List Int) ++ byts a1)),box p0 73 [pt p0 0,L0]] rfl ?_
 refine ent_value (ov_nilCheck rfl) rfl rfl rfl (ent_value (ov_fieldAddr (sz := 0) (o := 0) rfl F_field_73_1 F_size_71) rfl rfl rfl ?_)
 refine ent_op0 (ot_storeS (cs := [pt p0 0,L0]) (cs' := [pt p0 0,sv3]) (sv := sv3) (L' := [own sv3 5 1 (([] : List Int) ++ byts a1).length (fl (eI .u8) (([] : List Int) ++ byts a1)),box p0 73 [pt p0 0,sv3]]) 1 0 rfl rfl F_size_71 rfl rfl (isRd_ownx 5) rfl (by simp) rfl) rfl rfl ?_
 rintro _ _ rfl
 refine ent_nil (ent_seq (ent_region (ent_value (ov_move rfl) rfl rfl rfl (ent_value (ov_lenS rfl Try.underlying9) rfl rfl rfl (ent_value (ov_assign rfl) rfl rfl rfl (ent_value (ov_assign rfl) rfl rfl rfl (ent_nil (ent_retc ?_))))))))
 cases H
 refine ent_pick [1,0] (by decide) rfl ?_
 exact ret_mem (vs := [I (a1.length : Int),Value.nilIface]) rfl ⟨rfl,⟨rfl,trivial⟩⟩ _ rfl ⟨_,rfl,rfl⟩

theorem strings_Builder_copyCheck_2.spec (p0 : Nat) (sv0 : Value) (l0 : List Int) (r : Unit) (H : strings_Builder_copyCheck_2 l0 = r) : FnSpec Try.prog 62 [(pt p0 0)] [(box p0 73 [(pt p0 0), sv0]), (own sv0 5 1 l0.length (fl (eI .u8) l0))] (fun v M => v = (Value.tuple #[]) ∧ M = [(box p0 73 [(pt p0 0), sv0]), (own sv0 5 1 l0.length (fl (eI .u8) l0))]) :=
 (spec_frame [(own sv0 5 1 l0.length (fl (eI .u8) l0))] (spec_copyUsed (fun b w h => Any.Builder_copyCheck_used ({ Try.lays156 with } : Lays.n240 Try.prog Try.lays156_ren) Try.Builder_Extra_156.toX72 b w h) p0 sv0)).mono fun v M h => by obtain ⟨M0, ⟨rfl, rfl⟩, rfl⟩ := h; exact ⟨rfl, rfl⟩

theorem strings_Builder_WriteString_O.spec (p0 : Nat) (sv0 : Value) (l0 : List Int) (a1 : List UInt8) (r : ((List Int) × Int)) (H : strings_Builder_WriteString_O l0 a1 = some r) : FnSpec Try.prog 39 [pt p0 0,str a1] [box p0 73 [pt p0 0,sv0],own sv0 5 1 l0.length (fl (eI .u8) l0)] (fun v M => ∃ sv2 : Value,v = (tU #[I r.2,Value.nilIface]) ∧ M = [box p0 73 [pt p0 0,sv2],own sv2 5 1 r.1.length (fl (eI .u8) r.1)]) := by
 unfold strings_Builder_WriteString_O at H
 refine spec_of Try.func39 rfl 19 rfl (Nat.le_of_ble_eq_true rfl) fun F w0 => ?_
 show Ent (St 19 w0 F [(0,pt p0 0),(1,str a1)] [box p0 73 [pt p0 0,sv0],own sv0 5 1 l0.length (fl (eI .u8) l0)]) _
 refine ent_seq (ent_region (ent_value (ov_assign rfl) rfl rfl rfl (ent_value (ov_assign rfl) rfl rfl rfl (ent_nil (ent_seq (ent_region (ent_value (ov_move rfl) rfl rfl rfl ?_)))))))
 obtain ⟨u2,h2,H⟩ := thn_elim H
 refine ent_op (ot_call_same (Lr := []) [0,1] [0,1] (first := []) (cap := []) (xs := [.tmp 6]) rfl rfl F_call_62 rfl (strings_Builder_copyCheck_2.spec p0 sv0 l0 _ h2) (by decide) rfl (by decide) rfl) rfl rfl rfl ?_
 rintro _ _ ⟨rfl,rfl⟩
 refine ent_nil (ent_seq (ent_region (ent_value (ov_move rfl) rfl rfl rfl (ent_value (ov_move rfl) rfl rfl rfl (ent_value (ov_nilCheck rfl) rfl rfl rfl (ent_value (ov_fieldAddr (sz := 0) (o := 0) rfl F_field_73_1 F_size_71) rfl rfl rfl (ent_value (ov_load (v := sv0) rfl F_agg_71 (reads_box1 (i := 0) rfl rfl)) rfl rfl rfl (ent_value (ov_move rfl) rfl rfl rfl ?_))))))))
 obtain ⟨c2,H⟩ := gdT H
 refine ent_op (ot_appendS (xs := l0) (s := a1) 1 rfl rfl F_slice_71 Try.underlying9 F_size_5 F_zero1_5 F_bytes_5 rfl c2) rfl rfl rfl ?_
 rintro sv3 _ rfl
 refine ent_L [box p0 73 [pt p0 0,sv0],own sv3 5 1 (l0 ++ byts a1).length (fl (eI .u8) (l0 ++ byts a1))] rfl ?_
 refine ent_value (ov_nilCheck rfl) rfl rfl rfl (ent_value (ov_fieldAddr (sz := 0) (o := 0) rfl F_field_73_1 F_size_71) rfl rfl rfl ?_)
 refine ent_op0 (ot_storeS (cs := [pt p0 0,sv0]) (cs' := [pt p0 0,sv3]) (sv := sv3) (L' := [box p0 73 [pt p0 0,sv3],own sv3 5 1 (l0 ++ byts a1).length (fl (eI .u8) (l0 ++ byts a1))]) 0 1 rfl rfl F_size_71 rfl rfl (isRd_ownx 5) rfl (by simp) rfl) rfl rfl ?_
 rintro _ _ rfl
 refine ent_nil (ent_seq (ent_region (ent_value (ov_move rfl) rfl rfl rfl (ent_value (ov_lenS rfl Try.underlying9) rfl rfl rfl (ent_value (ov_assign rfl) rfl rfl rfl (ent_value (ov_assign rfl) rfl rfl rfl (ent_nil (ent_retc ?_))))))))
 cases H
 refine ent_pick [0,1] (by decide) rfl ?_
 exact ret_mem (vs := [I (a1.length : Int),Value.nilIface]) rfl ⟨rfl,⟨rfl,trivial⟩⟩ _ rfl ⟨_,rfl,rfl⟩

theorem strings_Builder_String_O.spec (p0 : Nat) (sv0 : Value) (l0 : List Int) (r : List UInt8) (H : strings_Builder_String_O l0 = some r) : FnSpec Try.prog 41 [pt p0 0] [box p0 73 [pt p0 0,sv0],own sv0 5 1 l0.length (fl (eI .u8) l0)] (fun v M => v = (str r) ∧ M = [box p0 73 [pt p0 0,sv0]]) := by
 unfold strings_Builder_String_O at H
 refine spec_of Try.func41 rfl 14 rfl (Nat.le_of_ble_eq_true rfl) fun F w0 => ?_
 show Ent (St 14 w0 F [(0,pt p0 0)] [box p0 73 [pt p0 0,sv0],own sv0 5 1 l0.length (fl (eI .u8) l0)]) _
 refine ent_seq (ent_region (ent_value (ov_assign rfl) rfl rfl rfl (ent_nil (ent_seq ?_))))
 obtain ⟨c3,H⟩ := gdT H
 obtain ⟨c4,H⟩ := gdT H
 refine ent_drawm 12 rfl (fun done a w => StD 14 w0 F [(0,pt p0 0)] [(0,3,pt p0 0),(1,4,pt p0 0),(2,5,pt p0 1),(3,6,sv0),(4,7,(eptr sv0 0)),(5,8,pt p0 0),(6,9,pt p0 0),(7,10,pt p0 1),(8,11,sv0),(9,12,I (l0.length : Int)),(10,13,str (strs l0)),(11,2,str (strs l0))] done [box p0 73 [pt p0 0,sv0],sel (done 10) emp (own sv0 5 1 l0.length (fl (eI .u8) l0))] a w) (by kernel_rfl) (by kernel_rfl) (draw_startL (sub_cons (t := 0) rfl (sub_nil _)) (by simp only [sel])) ?_ ?_
 ·refine ⟨?_,?_,?_,?_,?_,?_,?_,?_,?_,?_,?_,?_,trivial⟩
  ·exact fun done hi hc hcu => draw_value (i := 0) (t := 3) (v := (pt p0 0)) rfl rfl (wanted_none rfl) (fun a => hasA_base) (ov_move rfl) rfl rfl (onlyT_spec (k0 := 0) rfl rfl rfl)
  ·exact fun done hi hc hcu => draw_value (i := 1) (t := 4) (v := (pt p0 0)) rfl rfl (wanted_none rfl) (fun a => (hasA_cons (k := 0) rfl (done_of (j := 0) hcu rfl (by decide) rfl) hasA_base)) (ov_nilCheck rfl) rfl rfl (onlyT_spec (k0 := 1) rfl rfl rfl)
  ·exact fun done hi hc hcu => draw_value (i := 2) (t := 5) (v := (pt p0 1)) rfl rfl (wanted_none rfl) (fun a => (hasA_cons (k := 1) rfl (done_of (j := 1) hcu rfl (by decide) rfl) hasA_base)) (ov_fieldAddr (sz := 0) (o := 0) rfl F_field_73_1 F_size_71) rfl rfl (onlyT_spec (k0 := 2) rfl rfl rfl)
  ·exact fun done hi hc hcu => draw_value (i := 3) (t := 6) (v := sv0) rfl rfl (wanted_none rfl) (fun a => (hasA_cons (k := 2) rfl (done_of (j := 2) hcu rfl (by decide) rfl) hasA_base)) (ov_load (v := sv0) rfl F_agg_71 (reads_box1 (i := 0) rfl rfl)) rfl rfl (onlyT_spec (k0 := 3) rfl rfl rfl)
  ·intro done hi hc hcu
   have d3 : done 3 = true := done_of (j := 3) hcu rfl (by decide) rfl
   have n10 : done 10 = false := notdone_of (m := 10) hc hi rfl rfl
   exact draw_value (i := 4) (t := 7) (v := (eptr sv0 0)) rfl rfl (wanted_none rfl) (fun a => (hasA_cons (k := 3) rfl d3 hasA_base)) (ov_L (L2 := [box p0 73 [pt p0 0,sv0],own sv0 5 1 l0.length (fl (eI .u8) l0)]) (by simp only [n10,sel]) (ov_unsafeData 1 rfl rfl c3)) rfl rfl (onlyT_spec (k0 := 4) rfl rfl rfl)
  ·exact fun done hi hc hcu => draw_value (i := 5) (t := 8) (v := (pt p0 0)) rfl rfl (wanted_none rfl) (fun a => hasA_base) (ov_move rfl) rfl rfl (onlyT_spec (k0 := 5) rfl rfl rfl)
  ·exact fun done hi hc hcu => draw_value (i := 6) (t := 9) (v := (pt p0 0)) rfl rfl (wanted_none rfl) (fun a => (hasA_cons (k := 5) rfl (done_of (j := 5) hcu rfl (by decide) rfl) hasA_base)) (ov_nilCheck rfl) rfl rfl (onlyT_spec (k0 := 6) rfl rfl rfl)
  ·exact fun done hi hc hcu => draw_value (i := 7) (t := 10) (v := (pt p0 1)) rfl rfl (wanted_none rfl) (fun a => (hasA_cons (k := 6) rfl (done_of (j := 6) hcu rfl (by decide) rfl) hasA_base)) (ov_fieldAddr (sz := 0) (o := 0) rfl F_field_73_1 F_size_71) rfl rfl (onlyT_spec (k0 := 7) rfl rfl rfl)
  ·exact fun done hi hc hcu => draw_value (i := 8) (t := 11) (v := sv0) rfl rfl (wanted_none rfl) (fun a => (hasA_cons (k := 7) rfl (done_of (j := 7) hcu rfl (by decide) rfl) hasA_base)) (ov_load (v := sv0) rfl F_agg_71 (reads_box1 (i := 0) rfl rfl)) rfl rfl (onlyT_spec (k0 := 8) rfl rfl rfl)
  ·intro done hi hc hcu
   have d8 : done 8 = true := done_of (j := 8) hcu rfl (by decide) rfl
   have n10 : done 10 = false := notdone_of (m := 10) hc hi rfl rfl
   exact draw_value (i := 9) (t := 12) (v := (I (l0.length : Int))) rfl rfl (wanted_none rfl) (fun a => (hasA_cons (k := 8) rfl d8 hasA_base)) (ov_L (L2 := [box p0 73 [pt p0 0,sv0],own sv0 5 1 l0.length (fl (eI .u8) l0)]) (by simp only [n10,sel]) (ov_len 1 rfl F_slice_71 rfl (isRd_ownx 5))) rfl rfl (onlyT_spec (k0 := 9) rfl rfl rfl)
  ·exact fun done hi hc hcu => draw_eff (i := 10) (t := 13) (v := (str (strs l0))) (L2 := [box p0 73 [pt p0 0,sv0],own sv0 5 1 l0.length (fl (eI .u8) l0)]) (L3 := [box p0 73 [pt p0 0,sv0],emp]) rfl rfl (wanted_none rfl) (fun a => (hasA_cons (k := 9) rfl (done_of (j := 9) hcu rfl (by decide) rfl) (hasA_cons (k := 4) rfl (done_of (j := 4) hcu rfl (by decide) rfl) hasA_base))) (by simp only [hi,sel]) (by simp [up,sel]) (ot_unsafeString 1 rfl rfl Try.underlying109 (by kernel_rfl) rfl c3 c4) rfl rfl (onlyT_spec (k0 := 10) rfl rfl rfl)
  ·exact fun done hi hc hcu => draw_value (i := 11) (t := 2) (v := (str (strs l0))) rfl rfl (wanted_none rfl) (fun a => (hasA_cons (k := 10) rfl (done_of (j := 10) hcu rfl (by decide) rfl) hasA_base)) (ov_assign rfl) rfl rfl (onlyT_spec (k0 := 11) rfl rfl rfl)
 ·intro done hall
  refine draw_endL [box p0 73 [pt p0 0,sv0],emp] (by simp only [hall 10 (by decide),sel]) (fun a => (hasA_cons (k := 11) rfl (hall 11 (by decide)) (hasA_cons (k := 0) rfl (hall 0 (by decide)) (hasA_cons (k := 1) rfl (hall 1 (by decide)) (hasA_cons (k := 2) rfl (hall 2 (by decide)) (hasA_cons (k := 3) rfl (hall 3 (by decide)) (hasA_cons (k := 4) rfl (hall 4 (by decide)) (hasA_cons (k := 5) rfl (hall 5 (by decide)) (hasA_cons (k := 6) rfl (hall 6 (by decide)) (hasA_cons (k := 7) rfl (hall 7 (by decide)) (hasA_cons (k := 8) rfl (hall 8 (by decide)) (hasA_cons (k := 9) rfl (hall 9 (by decide)) (hasA_cons (k := 10) rfl (hall 10 (by decide)) hasA_base))))))))))))) ?_
  refine ent_retc ?_
  cases H
  refine ent_pick [0] (by decide) rfl ?_
  exact ret_tmp rfl rfl ⟨rfl,rfl⟩

end Go.Proofs.Ythcmiohbidencaa.SheetBack
