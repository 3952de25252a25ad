/- Printed by gen.py: that the machine's calls do what the plain functions of SheetStates say. -/
import Derived.Test.YthcmiohbidencaaProg
import Derived.Test.YthcmiohbidencaaEBun
import Derived.Test.YthcmiohbidencaaEBuild
import Derived.Test.YthcmiohbidencaaEShelf
import Derived.Test.YthcmiohbidencaaELib
import Derived.Test.YthcmiohbidencaaSheetStatesPure
set_option linter.unusedVariables false
set_option linter.unusedSimpArgs false
set_option maxHeartbeats 1000000
set_option maxRecDepth 100000
namespace Go.Proofs.Ythcmiohbidencaa.SheetStates
open Go Go.RowKit E
open Go.Value (int bool slice agg)

def enc_Api_Key (x : Api_Key) : List Value := [(Value.int .i64 x.Hour), (str x.Dims_0), (str x.Dims_1), (str x.Dims_2), (str x.Dims_3)]
theorem enc_Api_Key_one (x : Api_Key) : (enc_Api_Key x).all (·.oneCell') = true := rfl
theorem enc_Api_Key_len (x : Api_Key) : (enc_Api_Key x).length = 5 := rfl
def enc_Api_Fact (x : Api_Fact) : List Value := [(Value.int .i64 x.Key.Hour), (str x.Key.Dims_0), (str x.Key.Dims_1), (str x.Key.Dims_2), (str x.Key.Dims_3), (Value.int .i64 x.Value)]
theorem enc_Api_Fact_one (x : Api_Fact) : (enc_Api_Fact x).all (·.oneCell') = true := rfl
theorem enc_Api_Fact_len (x : Api_Fact) : (enc_Api_Fact x).length = 6 := rfl
def enc_Api_Query (x : Api_Query) : List Value := [(Value.int .i64 x.From), (Value.int .i64 x.To), (Value.bool x.Group_0), (Value.bool x.Group_1), (Value.bool x.Group_2), (Value.bool x.Group_3), (Value.bool x.Has_0), (Value.bool x.Has_1), (Value.bool x.Has_2), (Value.bool x.Has_3), (str x.Filter_0), (str x.Filter_1), (str x.Filter_2), (str x.Filter_3)]
theorem enc_Api_Query_one (x : Api_Query) : (enc_Api_Query x).all (·.oneCell') = true := rfl
theorem enc_Api_Query_len (x : Api_Query) : (enc_Api_Query x).length = 14 := rfl
def enc_Api_Policy (x : Api_Policy) : List Value := [(Value.int .i64 x.Retain), (Value.int .i64 x.SealLag), (Value.int .i64 x.DayLag), (Value.int .i64 x.MonthLag), (Value.int .i64 x.ColdLag), (Value.int .i64 x.Base), (Value.int .i64 x.Cap), (Value.int .i64 x.Queue), (Value.int .i64 x.Wal)]
theorem enc_Api_Policy_one (x : Api_Policy) : (enc_Api_Policy x).all (·.oneCell') = true := rfl
theorem enc_Api_Policy_len (x : Api_Policy) : (enc_Api_Policy x).length = 9 := rfl
def enc_Api_Step (x : Api_Step) : List Value := [(Value.int .i64 x.Kind), (Value.int .i64 x.N), x.Facts.v, (Value.int .i64 x.Query.From), (Value.int .i64 x.Query.To), (Value.bool x.Query.Group_0), (Value.bool x.Query.Group_1), (Value.bool x.Query.Group_2), (Value.bool x.Query.Group_3), (Value.bool x.Query.Has_0), (Value.bool x.Query.Has_1), (Value.bool x.Query.Has_2), (Value.bool x.Query.Has_3), (str x.Query.Filter_0), (str x.Query.Filter_1), (str x.Query.Filter_2), (str x.Query.Filter_3), (Value.int .i64 x.Rules.Retain), (Value.int .i64 x.Rules.SealLag), (Value.int .i64 x.Rules.DayLag), (Value.int .i64 x.Rules.MonthLag), (Value.int .i64 x.Rules.ColdLag), (Value.int .i64 x.Rules.Base), (Value.int .i64 x.Rules.Cap), (Value.int .i64 x.Rules.Queue), (Value.int .i64 x.Rules.Wal), x.Fails.v]
theorem enc_Api_Step_len (x : Api_Step) : (enc_Api_Step x).length = 27 := rfl
theorem F_agg_24 : aggB Try.prog 24 = some true := by kernel_rfl
theorem F_size_24 : sizeB Try.prog 24 = some 9 := by kernel_rfl
theorem F_zero_44 : zeroB Try.prog 44 = some [(Value.int .i64 0), (Value.int .i64 0), (Value.int .i64 0), (Value.int .i64 0), (Value.int .i64 0)] := by kernel_rfl
theorem F_zero_96 : zeroB Try.prog 96 = some [(Value.int .i64 0), (Value.int .i64 0), (Value.int .i64 0), (Value.int .i64 0), (Value.int .i64 0), (Value.int .i64 0), (Value.int .i64 0), (Value.int .i64 0), (Value.int .i64 0), (Value.int .i64 0), (Value.int .i64 0), (Value.int .i64 0), (Value.int .i64 0), (Value.int .i64 0), (Value.int .i64 0), (Value.int .i64 0), (Value.int .i64 0), (Value.int .i64 0)] := by kernel_rfl
theorem F_zero_95 : zeroB Try.prog 95 = some [(Value.int .i64 0), (Value.int .i64 0)] := by kernel_rfl
theorem F_places_95 : placesB Try.prog 95 = some [(0, 1), (1, 1)] := by kernel_rfl
theorem F_array_96 : arrayB Try.prog 96 = some (9, 95) := by kernel_rfl
theorem F_size_95 : sizeB Try.prog 95 = some 2 := by kernel_rfl
theorem F_size_96 : sizeB Try.prog 96 = some 18 := by kernel_rfl
theorem F_agg_96 : aggB Try.prog 96 = some true := by kernel_rfl
theorem F_call_60 : callB Try.prog 60 = true := by kernel_rfl
theorem F_zero_98 : zeroB Try.prog 98 = some [(Value.int .i64 0), (Value.int .i64 0), (Value.int .i64 0), (Value.int .i64 0), (Value.int .i64 0), (Value.int .i64 0), (Value.int .i64 0), (Value.int .i64 0), (Value.int .i64 0)] := by kernel_rfl
theorem F_field_24_0 : fieldB Try.prog 24 0 = some (0, 2) := by kernel_rfl
theorem F_size_2 : sizeB Try.prog 2 = some 1 := by kernel_rfl
theorem F_agg_2 : aggB Try.prog 2 = some false := by kernel_rfl
theorem F_field_24_1 : fieldB Try.prog 24 1 = some (1, 2) := by kernel_rfl
theorem F_field_24_2 : fieldB Try.prog 24 2 = some (2, 2) := by kernel_rfl
theorem F_field_24_3 : fieldB Try.prog 24 3 = some (3, 2) := by kernel_rfl
theorem F_field_24_4 : fieldB Try.prog 24 4 = some (4, 2) := by kernel_rfl
theorem F_field_24_5 : fieldB Try.prog 24 5 = some (5, 2) := by kernel_rfl
theorem F_field_24_6 : fieldB Try.prog 24 6 = some (6, 2) := by kernel_rfl
theorem F_field_24_7 : fieldB Try.prog 24 7 = some (7, 3) := by kernel_rfl
theorem F_size_3 : sizeB Try.prog 3 = some 1 := by kernel_rfl
theorem F_agg_3 : aggB Try.prog 3 = some false := by kernel_rfl
theorem F_field_24_8 : fieldB Try.prog 24 8 = some (8, 2) := by kernel_rfl
theorem F_array_98 : arrayB Try.prog 98 = some (9, 2) := by kernel_rfl
theorem F_size_98 : sizeB Try.prog 98 = some 9 := by kernel_rfl
theorem F_agg_98 : aggB Try.prog 98 = some true := by kernel_rfl
theorem F_call_61 : callB Try.prog 61 = true := by kernel_rfl
theorem F_field_95_0 : fieldB Try.prog 95 0 = some (0, 2) := by kernel_rfl
theorem F_field_95_1 : fieldB Try.prog 95 1 = some (1, 2) := by kernel_rfl
theorem F_call_37 : callB Try.prog 37 = true := by kernel_rfl
theorem F_agg_44 : aggB Try.prog 44 = some true := by kernel_rfl
theorem F_size_44 : sizeB Try.prog 44 = some 5 := by kernel_rfl
theorem F_zero_91 : zeroB Try.prog 91 = some [(Value.int .i64 0), (Value.int .i64 0), (Value.int .i64 0)] := by kernel_rfl
theorem F_array_91 : arrayB Try.prog 91 = some (3, 3) := by kernel_rfl
theorem F_zero_112 : zeroB Try.prog 112 = some [(Value.int .i64 0), (Value.int .i64 0), (Value.int .i64 0), (Value.int .i64 0)] := by kernel_rfl
theorem F_array_112 : arrayB Try.prog 112 = some (4, 2) := by kernel_rfl
theorem F_size_112 : sizeB Try.prog 112 = some 4 := by kernel_rfl
theorem F_call_51 : callB Try.prog 51 = true := by kernel_rfl
theorem F_zero_40 : zeroB Try.prog 40 = some [(Value.int .i64 0), (Value.int .i64 0)] := by kernel_rfl
theorem F_agg_40 : aggB Try.prog 40 = some true := by kernel_rfl
theorem F_size_40 : sizeB Try.prog 40 = some 2 := by kernel_rfl
theorem F_places_40 : placesB Try.prog 40 = some [(0, 1), (1, 1)] := by kernel_rfl
theorem F_call_65 : callB Try.prog 65 = true := by kernel_rfl
theorem F_call_85 : callB Try.prog 85 = true := by kernel_rfl
theorem F_call_66 : callB Try.prog 66 = true := by kernel_rfl
theorem F_call_50 : callB Try.prog 50 = true := by kernel_rfl
theorem F_field_40_0 : fieldB Try.prog 40 0 = some (0, 3) := by kernel_rfl
theorem F_field_40_1 : fieldB Try.prog 40 1 = some (1, 2) := by kernel_rfl
theorem F_call_46 : callB Try.prog 46 = true := by kernel_rfl
theorem F_call_84 : callB Try.prog 84 = true := by kernel_rfl
theorem F_call_83 : callB Try.prog 83 = true := by kernel_rfl
theorem F_call_64 : callB Try.prog 64 = true := by kernel_rfl
theorem F_call_47 : callB Try.prog 47 = true := by kernel_rfl
theorem F_call_49 : callB Try.prog 49 = true := by kernel_rfl
theorem F_array_44 : arrayB Try.prog 44 = some (5, 2) := by kernel_rfl
theorem F_call_22 : callB Try.prog 22 = true := by kernel_rfl
theorem F_call_59 : callB Try.prog 59 = true := by kernel_rfl
theorem F_call_35 : callB Try.prog 35 = true := by kernel_rfl
theorem F_call_102 : callB Try.prog 102 = true := by kernel_rfl
theorem F_call_101 : callB Try.prog 101 = true := by kernel_rfl
theorem F_call_88 : callB Try.prog 88 = true := by kernel_rfl
theorem F_call_86 : callB Try.prog 86 = true := by kernel_rfl
theorem F_call_68 : callB Try.prog 68 = true := by kernel_rfl
theorem F_call_67 : callB Try.prog 67 = true := by kernel_rfl
theorem F_call_52 : callB Try.prog 52 = true := by kernel_rfl
theorem F_call_55 : callB Try.prog 55 = true := by kernel_rfl
theorem F_call_87 : callB Try.prog 87 = true := by kernel_rfl
theorem F_call_69 : callB Try.prog 69 = true := by kernel_rfl
theorem F_call_53 : callB Try.prog 53 = true := by kernel_rfl
theorem F_call_54 : callB Try.prog 54 = true := by kernel_rfl
theorem F_call_23 : callB Try.prog 23 = true := by kernel_rfl
theorem F_call_48 : callB Try.prog 48 = true := by kernel_rfl
theorem F_call_20 : callB Try.prog 20 = true := by kernel_rfl
theorem F_call_56 : callB Try.prog 56 = true := by kernel_rfl
theorem F_call_24 : callB Try.prog 24 = true := by kernel_rfl
theorem F_guard_44 : Try.prog.eqGuardType Try.prog.depth 44 = false := by kernel_rfl
theorem F_zero_24 : zeroB Try.prog 24 = some [(Value.int .i64 0), (Value.int .i64 0), (Value.int .i64 0), (Value.int .i64 0), (Value.int .i64 0), (Value.int .i64 0), (Value.int .i64 0), (Value.int .i64 0), (Value.int .i64 0)] := by kernel_rfl
theorem F_places_24 : placesB Try.prog 24 = some [(0, 1), (1, 1), (2, 1), (3, 1), (4, 1), (5, 1), (6, 1), (7, 1), (8, 1)] := by kernel_rfl
theorem F_call_25 : callB Try.prog 25 = true := by kernel_rfl
theorem F_zero_73 : zeroB Try.prog 73 = some [(Value.pointer none), (Value.slice none 0 0)] := by kernel_rfl
theorem F_zero_55 : zeroB Try.prog 55 = some [(str ([] : List UInt8)), (str ([] : List UInt8)), (str ([] : List UInt8)), (str ([] : List UInt8)), (str ([] : List UInt8)), (str ([] : List UInt8)), (str ([] : List UInt8)), (str ([] : List UInt8)), (str ([] : List UInt8))] := by kernel_rfl
theorem F_array_55 : arrayB Try.prog 55 = some (9, 9) := by kernel_rfl
theorem F_size_9 : sizeB Try.prog 9 = some 1 := by kernel_rfl
theorem F_size_55 : sizeB Try.prog 55 = some 9 := by kernel_rfl
theorem F_agg_55 : aggB Try.prog 55 = some true := by kernel_rfl
theorem F_call_27 : callB Try.prog 27 = true := by kernel_rfl
theorem F_zero_51 : zeroB Try.prog 51 = some [(Value.int .i64 0), (Value.int .i64 0), (Value.int .i64 0), (Value.int .i64 0), (Value.int .i64 0), (Value.int .i64 0), (Value.int .i64 0), (Value.int .i64 0), (Value.int .i64 0), (Value.int .i64 0)] := by kernel_rfl
theorem F_places_51 : placesB Try.prog 51 = some [(0, 9), (9, 1)] := by kernel_rfl
theorem F_call_38 : callB Try.prog 38 = true := by kernel_rfl
theorem F_zero_53 : zeroB Try.prog 53 = some [(Value.pointer none), (Value.pointer none), (Value.pointer none), (Value.pointer none), (Value.pointer none), (Value.pointer none), (Value.pointer none), (Value.pointer none), (Value.pointer none)] := by kernel_rfl
theorem F_field_51_0 : fieldB Try.prog 51 0 = some (0, 24) := by kernel_rfl
theorem F_field_51_1 : fieldB Try.prog 51 1 = some (9, 2) := by kernel_rfl
theorem F_array_53 : arrayB Try.prog 53 = some (9, 52) := by kernel_rfl
theorem F_size_52 : sizeB Try.prog 52 = some 1 := by kernel_rfl
theorem F_size_53 : sizeB Try.prog 53 = some 9 := by kernel_rfl
theorem F_agg_53 : aggB Try.prog 53 = some true := by kernel_rfl
theorem F_call_26 : callB Try.prog 26 = true := by kernel_rfl
theorem F_agg_52 : aggB Try.prog 52 = some false := by kernel_rfl
theorem F_agg_9 : aggB Try.prog 9 = some false := by kernel_rfl
theorem F_zero_108 : zeroB Try.prog 108 = some [(Value.int .i64 0), (Value.int .i64 0), (Value.slice none 0 0), (Value.int .i64 0), (Value.int .i64 0), (Value.bool false), (Value.bool false), (Value.bool false), (Value.bool false), (Value.bool false), (Value.bool false), (Value.bool false), (Value.bool false), (str ([] : List UInt8)), (str ([] : List UInt8)), (str ([] : List UInt8)), (str ([] : List UInt8)), (Value.int .i64 0), (Value.int .i64 0), (Value.int .i64 0), (Value.int .i64 0), (Value.int .i64 0), (Value.int .i64 0), (Value.int .i64 0), (Value.int .i64 0), (Value.int .i64 0), (Value.slice none 0 0)] := by kernel_rfl
theorem F_places_108 : placesB Try.prog 108 = some [(0, 1), (1, 1), (2, 1), (3, 14), (17, 9), (26, 1)] := by kernel_rfl
theorem F_agg_108 : aggB Try.prog 108 = some true := by kernel_rfl
theorem F_size_108 : sizeB Try.prog 108 = some 27 := by kernel_rfl
theorem F_field_108_0 : fieldB Try.prog 108 0 = some (0, 3) := by kernel_rfl
theorem F_field_108_1 : fieldB Try.prog 108 1 = some (1, 2) := by kernel_rfl
theorem F_call_93 : callB Try.prog 93 = true := by kernel_rfl
theorem F_slice_141 : sliceB Try.prog 141 = some 108 := by kernel_rfl
theorem F_field_108_3 : fieldB Try.prog 108 3 = some (3, 105) := by kernel_rfl
theorem F_size_105 : sizeB Try.prog 105 = some 14 := by kernel_rfl
theorem F_agg_105 : aggB Try.prog 105 = some true := by kernel_rfl
theorem F_agg_4 : aggB Try.prog 4 = some false := by kernel_rfl
theorem F_array_102 : arrayB Try.prog 102 = some (4, 4) := by kernel_rfl
theorem F_size_4 : sizeB Try.prog 4 = some 1 := by kernel_rfl
theorem F_array_103 : arrayB Try.prog 103 = some (4, 9) := by kernel_rfl
theorem F_agg_103 : aggB Try.prog 103 = some true := by kernel_rfl
theorem F_size_103 : sizeB Try.prog 103 = some 4 := by kernel_rfl
theorem F_agg_102 : aggB Try.prog 102 = some true := by kernel_rfl
theorem F_size_102 : sizeB Try.prog 102 = some 4 := by kernel_rfl
theorem F_guard_105 : Try.prog.eqGuardType Try.prog.depth 105 = false := by kernel_rfl
theorem same_105 {x y : Operand} (x0 : Int) (x1 : Int) (x2 : Bool) (x3 : Bool) (x4 : Bool) (x5 : Bool) (x6 : Bool) (x7 : Bool) (x8 : Bool) (x9 : Bool) (x10 : List UInt8) (x11 : List UInt8) (x12 : List UInt8) (x13 : List UInt8) (y0 : Int) (y1 : Int) (y2 : Bool) (y3 : Bool) (y4 : Bool) (y5 : Bool) (y6 : Bool) (y7 : Bool) (y8 : Bool) (y9 : Bool) (y10 : List UInt8) (y11 : List UInt8) (y12 : List UInt8) (y13 : List UInt8) (w : World) : (do eqGuard .eql 105 x y (.agg #[(Value.int .i64 x0), (Value.int .i64 x1), (Value.bool x2), (Value.bool x3), (Value.bool x4), (Value.bool x5), (Value.bool x6), (Value.bool x7), (Value.bool x8), (Value.bool x9), (str x10), (str x11), (str x12), (str x13)]) (.agg #[(Value.int .i64 y0), (Value.int .i64 y1), (Value.bool y2), (Value.bool y3), (Value.bool y4), (Value.bool y5), (Value.bool y6), (Value.bool y7), (Value.bool y8), (Value.bool y9), (str y10), (str y11), (str y12), (str y13)]); binOp .eql 105 (.agg #[(Value.int .i64 x0), (Value.int .i64 x1), (Value.bool x2), (Value.bool x3), (Value.bool x4), (Value.bool x5), (Value.bool x6), (Value.bool x7), (Value.bool x8), (Value.bool x9), (str x10), (str x11), (str x12), (str x13)]) (.agg #[(Value.int .i64 y0), (Value.int .i64 y1), (Value.bool y2), (Value.bool y3), (Value.bool y4), (Value.bool y5), (Value.bool y6), (Value.bool y7), (Value.bool y8), (Value.bool y9), (str y10), (str y11), (str y12), (str y13)])).run Try.prog w = .ok (.bool ((x0 == y0) && ((x1 == y1) && (((x2 == y2) && ((x3 == y3) && ((x4 == y4) && ((x5 == y5) && true)))) && (((x6 == y6) && ((x7 == y7) && ((x8 == y8) && ((x9 == y9) && true)))) && (((x10 == y10) && ((x11 == y11) && ((x12 == y12) && ((x13 == y13) && true)))) && true)))))) w :=
  b_eql_agg F_guard_105 (eq_struct Try.underlying105 (by kernel_rfl) (eqf_cons rfl (part_cell F_agg_2 rfl) (part_cell F_agg_2 rfl) (eq_int Try.underlying2 _ _) (eqf_cons rfl (part_cell F_agg_2 rfl) (part_cell F_agg_2 rfl) (eq_int Try.underlying2 _ _) (eqf_cons rfl (part_agg F_agg_102 F_size_102) (part_agg F_agg_102 F_size_102) (eq_arr4 F_array_102 F_size_4 (part_cell F_agg_4 rfl) (part_cell F_agg_4 rfl) (part_cell F_agg_4 rfl) (part_cell F_agg_4 rfl) (part_cell F_agg_4 rfl) (part_cell F_agg_4 rfl) (part_cell F_agg_4 rfl) (part_cell F_agg_4 rfl) (eq_bool Try.underlying4 _ _) (eq_bool Try.underlying4 _ _) (eq_bool Try.underlying4 _ _) (eq_bool Try.underlying4 _ _)) (eqf_cons rfl (part_agg F_agg_102 F_size_102) (part_agg F_agg_102 F_size_102) (eq_arr4 F_array_102 F_size_4 (part_cell F_agg_4 rfl) (part_cell F_agg_4 rfl) (part_cell F_agg_4 rfl) (part_cell F_agg_4 rfl) (part_cell F_agg_4 rfl) (part_cell F_agg_4 rfl) (part_cell F_agg_4 rfl) (part_cell F_agg_4 rfl) (eq_bool Try.underlying4 _ _) (eq_bool Try.underlying4 _ _) (eq_bool Try.underlying4 _ _) (eq_bool Try.underlying4 _ _)) (eqf_cons rfl (part_agg F_agg_103 F_size_103) (part_agg F_agg_103 F_size_103) (eq_arr4 F_array_103 F_size_9 (part_cell F_agg_9 rfl) (part_cell F_agg_9 rfl) (part_cell F_agg_9 rfl) (part_cell F_agg_9 rfl) (part_cell F_agg_9 rfl) (part_cell F_agg_9 rfl) (part_cell F_agg_9 rfl) (part_cell F_agg_9 rfl) (eq_str Try.underlying9 _ _) (eq_str Try.underlying9 _ _) (eq_str Try.underlying9 _ _) (eq_str Try.underlying9 _ _)) eqf_nil)))))) w
theorem same_105_n {x y : Operand} (x0 : Int) (x1 : Int) (x2 : Bool) (x3 : Bool) (x4 : Bool) (x5 : Bool) (x6 : Bool) (x7 : Bool) (x8 : Bool) (x9 : Bool) (x10 : List UInt8) (x11 : List UInt8) (x12 : List UInt8) (x13 : List UInt8) (y0 : Int) (y1 : Int) (y2 : Bool) (y3 : Bool) (y4 : Bool) (y5 : Bool) (y6 : Bool) (y7 : Bool) (y8 : Bool) (y9 : Bool) (y10 : List UInt8) (y11 : List UInt8) (y12 : List UInt8) (y13 : List UInt8) (w : World) : (do eqGuard .neq 105 x y (.agg #[(Value.int .i64 x0), (Value.int .i64 x1), (Value.bool x2), (Value.bool x3), (Value.bool x4), (Value.bool x5), (Value.bool x6), (Value.bool x7), (Value.bool x8), (Value.bool x9), (str x10), (str x11), (str x12), (str x13)]) (.agg #[(Value.int .i64 y0), (Value.int .i64 y1), (Value.bool y2), (Value.bool y3), (Value.bool y4), (Value.bool y5), (Value.bool y6), (Value.bool y7), (Value.bool y8), (Value.bool y9), (str y10), (str y11), (str y12), (str y13)]); binOp .neq 105 (.agg #[(Value.int .i64 x0), (Value.int .i64 x1), (Value.bool x2), (Value.bool x3), (Value.bool x4), (Value.bool x5), (Value.bool x6), (Value.bool x7), (Value.bool x8), (Value.bool x9), (str x10), (str x11), (str x12), (str x13)]) (.agg #[(Value.int .i64 y0), (Value.int .i64 y1), (Value.bool y2), (Value.bool y3), (Value.bool y4), (Value.bool y5), (Value.bool y6), (Value.bool y7), (Value.bool y8), (Value.bool y9), (str y10), (str y11), (str y12), (str y13)])).run Try.prog w = .ok (.bool (!((x0 == y0) && ((x1 == y1) && (((x2 == y2) && ((x3 == y3) && ((x4 == y4) && ((x5 == y5) && true)))) && (((x6 == y6) && ((x7 == y7) && ((x8 == y8) && ((x9 == y9) && true)))) && (((x10 == y10) && ((x11 == y11) && ((x12 == y12) && ((x13 == y13) && true)))) && true))))))) w :=
  b_neq_agg F_guard_105 (eq_struct Try.underlying105 (by kernel_rfl) (eqf_cons rfl (part_cell F_agg_2 rfl) (part_cell F_agg_2 rfl) (eq_int Try.underlying2 _ _) (eqf_cons rfl (part_cell F_agg_2 rfl) (part_cell F_agg_2 rfl) (eq_int Try.underlying2 _ _) (eqf_cons rfl (part_agg F_agg_102 F_size_102) (part_agg F_agg_102 F_size_102) (eq_arr4 F_array_102 F_size_4 (part_cell F_agg_4 rfl) (part_cell F_agg_4 rfl) (part_cell F_agg_4 rfl) (part_cell F_agg_4 rfl) (part_cell F_agg_4 rfl) (part_cell F_agg_4 rfl) (part_cell F_agg_4 rfl) (part_cell F_agg_4 rfl) (eq_bool Try.underlying4 _ _) (eq_bool Try.underlying4 _ _) (eq_bool Try.underlying4 _ _) (eq_bool Try.underlying4 _ _)) (eqf_cons rfl (part_agg F_agg_102 F_size_102) (part_agg F_agg_102 F_size_102) (eq_arr4 F_array_102 F_size_4 (part_cell F_agg_4 rfl) (part_cell F_agg_4 rfl) (part_cell F_agg_4 rfl) (part_cell F_agg_4 rfl) (part_cell F_agg_4 rfl) (part_cell F_agg_4 rfl) (part_cell F_agg_4 rfl) (part_cell F_agg_4 rfl) (eq_bool Try.underlying4 _ _) (eq_bool Try.underlying4 _ _) (eq_bool Try.underlying4 _ _) (eq_bool Try.underlying4 _ _)) (eqf_cons rfl (part_agg F_agg_103 F_size_103) (part_agg F_agg_103 F_size_103) (eq_arr4 F_array_103 F_size_9 (part_cell F_agg_9 rfl) (part_cell F_agg_9 rfl) (part_cell F_agg_9 rfl) (part_cell F_agg_9 rfl) (part_cell F_agg_9 rfl) (part_cell F_agg_9 rfl) (part_cell F_agg_9 rfl) (part_cell F_agg_9 rfl) (eq_str Try.underlying9 _ _) (eq_str Try.underlying9 _ _) (eq_str Try.underlying9 _ _) (eq_str Try.underlying9 _ _)) eqf_nil)))))) w
theorem F_field_108_4 : fieldB Try.prog 108 4 = some (17, 24) := by kernel_rfl
theorem F_guard_24 : Try.prog.eqGuardType Try.prog.depth 24 = false := by kernel_rfl
theorem same_24 {x y : Operand} (x0 : Int) (x1 : Int) (x2 : Int) (x3 : Int) (x4 : Int) (x5 : Int) (x6 : Int) (x7 : Int) (x8 : Int) (y0 : Int) (y1 : Int) (y2 : Int) (y3 : Int) (y4 : Int) (y5 : Int) (y6 : Int) (y7 : Int) (y8 : Int) (w : World) : (do eqGuard .eql 24 x y (.agg #[(Value.int .i64 x0), (Value.int .i64 x1), (Value.int .i64 x2), (Value.int .i64 x3), (Value.int .i64 x4), (Value.int .i64 x5), (Value.int .i64 x6), (Value.int .i64 x7), (Value.int .i64 x8)]) (.agg #[(Value.int .i64 y0), (Value.int .i64 y1), (Value.int .i64 y2), (Value.int .i64 y3), (Value.int .i64 y4), (Value.int .i64 y5), (Value.int .i64 y6), (Value.int .i64 y7), (Value.int .i64 y8)]); binOp .eql 24 (.agg #[(Value.int .i64 x0), (Value.int .i64 x1), (Value.int .i64 x2), (Value.int .i64 x3), (Value.int .i64 x4), (Value.int .i64 x5), (Value.int .i64 x6), (Value.int .i64 x7), (Value.int .i64 x8)]) (.agg #[(Value.int .i64 y0), (Value.int .i64 y1), (Value.int .i64 y2), (Value.int .i64 y3), (Value.int .i64 y4), (Value.int .i64 y5), (Value.int .i64 y6), (Value.int .i64 y7), (Value.int .i64 y8)])).run Try.prog w = .ok (.bool ((x0 == y0) && ((x1 == y1) && ((x2 == y2) && ((x3 == y3) && ((x4 == y4) && ((x5 == y5) && ((x6 == y6) && ((x7 == y7) && ((x8 == y8) && true)))))))))) w :=
  b_eql_agg F_guard_24 (eq_struct Try.underlying24 (by kernel_rfl) (eqf_cons rfl (part_cell F_agg_2 rfl) (part_cell F_agg_2 rfl) (eq_int Try.underlying2 _ _) (eqf_cons rfl (part_cell F_agg_2 rfl) (part_cell F_agg_2 rfl) (eq_int Try.underlying2 _ _) (eqf_cons rfl (part_cell F_agg_2 rfl) (part_cell F_agg_2 rfl) (eq_int Try.underlying2 _ _) (eqf_cons rfl (part_cell F_agg_2 rfl) (part_cell F_agg_2 rfl) (eq_int Try.underlying2 _ _) (eqf_cons rfl (part_cell F_agg_2 rfl) (part_cell F_agg_2 rfl) (eq_int Try.underlying2 _ _) (eqf_cons rfl (part_cell F_agg_2 rfl) (part_cell F_agg_2 rfl) (eq_int Try.underlying2 _ _) (eqf_cons rfl (part_cell F_agg_2 rfl) (part_cell F_agg_2 rfl) (eq_int Try.underlying2 _ _) (eqf_cons rfl (part_cell F_agg_3 rfl) (part_cell F_agg_3 rfl) (eq_int Try.underlying3 _ _) (eqf_cons rfl (part_cell F_agg_2 rfl) (part_cell F_agg_2 rfl) (eq_int Try.underlying2 _ _) eqf_nil)))))))))) w
theorem same_24_n {x y : Operand} (x0 : Int) (x1 : Int) (x2 : Int) (x3 : Int) (x4 : Int) (x5 : Int) (x6 : Int) (x7 : Int) (x8 : Int) (y0 : Int) (y1 : Int) (y2 : Int) (y3 : Int) (y4 : Int) (y5 : Int) (y6 : Int) (y7 : Int) (y8 : Int) (w : World) : (do eqGuard .neq 24 x y (.agg #[(Value.int .i64 x0), (Value.int .i64 x1), (Value.int .i64 x2), (Value.int .i64 x3), (Value.int .i64 x4), (Value.int .i64 x5), (Value.int .i64 x6), (Value.int .i64 x7), (Value.int .i64 x8)]) (.agg #[(Value.int .i64 y0), (Value.int .i64 y1), (Value.int .i64 y2), (Value.int .i64 y3), (Value.int .i64 y4), (Value.int .i64 y5), (Value.int .i64 y6), (Value.int .i64 y7), (Value.int .i64 y8)]); binOp .neq 24 (.agg #[(Value.int .i64 x0), (Value.int .i64 x1), (Value.int .i64 x2), (Value.int .i64 x3), (Value.int .i64 x4), (Value.int .i64 x5), (Value.int .i64 x6), (Value.int .i64 x7), (Value.int .i64 x8)]) (.agg #[(Value.int .i64 y0), (Value.int .i64 y1), (Value.int .i64 y2), (Value.int .i64 y3), (Value.int .i64 y4), (Value.int .i64 y5), (Value.int .i64 y6), (Value.int .i64 y7), (Value.int .i64 y8)])).run Try.prog w = .ok (.bool (!((x0 == y0) && ((x1 == y1) && ((x2 == y2) && ((x3 == y3) && ((x4 == y4) && ((x5 == y5) && ((x6 == y6) && ((x7 == y7) && ((x8 == y8) && true))))))))))) w :=
  b_neq_agg F_guard_24 (eq_struct Try.underlying24 (by kernel_rfl) (eqf_cons rfl (part_cell F_agg_2 rfl) (part_cell F_agg_2 rfl) (eq_int Try.underlying2 _ _) (eqf_cons rfl (part_cell F_agg_2 rfl) (part_cell F_agg_2 rfl) (eq_int Try.underlying2 _ _) (eqf_cons rfl (part_cell F_agg_2 rfl) (part_cell F_agg_2 rfl) (eq_int Try.underlying2 _ _) (eqf_cons rfl (part_cell F_agg_2 rfl) (part_cell F_agg_2 rfl) (eq_int Try.underlying2 _ _) (eqf_cons rfl (part_cell F_agg_2 rfl) (part_cell F_agg_2 rfl) (eq_int Try.underlying2 _ _) (eqf_cons rfl (part_cell F_agg_2 rfl) (part_cell F_agg_2 rfl) (eq_int Try.underlying2 _ _) (eqf_cons rfl (part_cell F_agg_2 rfl) (part_cell F_agg_2 rfl) (eq_int Try.underlying2 _ _) (eqf_cons rfl (part_cell F_agg_3 rfl) (part_cell F_agg_3 rfl) (eq_int Try.underlying3 _ _) (eqf_cons rfl (part_cell F_agg_2 rfl) (part_cell F_agg_2 rfl) (eq_int Try.underlying2 _ _) eqf_nil)))))))))) w
theorem F_field_108_2 : fieldB Try.prog 108 2 = some (2, 101) := by kernel_rfl
theorem F_size_101 : sizeB Try.prog 101 = some 1 := by kernel_rfl
theorem F_agg_101 : aggB Try.prog 101 = some false := by kernel_rfl
theorem F_slice_101 : sliceB Try.prog 101 = some 149 := by kernel_rfl
theorem F_size_149 : sizeB Try.prog 149 = some 6 := by kernel_rfl
theorem F_agg_149 : aggB Try.prog 149 = some true := by kernel_rfl
theorem F_agg_147 : aggB Try.prog 147 = some true := by kernel_rfl
theorem F_size_147 : sizeB Try.prog 147 = some 5 := by kernel_rfl
theorem F_guard_149 : Try.prog.eqGuardType Try.prog.depth 149 = false := by kernel_rfl
theorem same_149 {x y : Operand} (x0 : Int) (x1 : List UInt8) (x2 : List UInt8) (x3 : List UInt8) (x4 : List UInt8) (x5 : Int) (y0 : Int) (y1 : List UInt8) (y2 : List UInt8) (y3 : List UInt8) (y4 : List UInt8) (y5 : Int) (w : World) : (do eqGuard .eql 149 x y (.agg #[(Value.int .i64 x0), (str x1), (str x2), (str x3), (str x4), (Value.int .i64 x5)]) (.agg #[(Value.int .i64 y0), (str y1), (str y2), (str y3), (str y4), (Value.int .i64 y5)]); binOp .eql 149 (.agg #[(Value.int .i64 x0), (str x1), (str x2), (str x3), (str x4), (Value.int .i64 x5)]) (.agg #[(Value.int .i64 y0), (str y1), (str y2), (str y3), (str y4), (Value.int .i64 y5)])).run Try.prog w = .ok (.bool (((x0 == y0) && (((x1 == y1) && ((x2 == y2) && ((x3 == y3) && ((x4 == y4) && true)))) && true)) && ((x5 == y5) && true))) w :=
  b_eql_agg F_guard_149 (eq_struct Try.underlying149 (by kernel_rfl) (eqf_cons rfl (part_agg F_agg_147 F_size_147) (part_agg F_agg_147 F_size_147) (eq_struct Try.underlying147 (by kernel_rfl) (eqf_cons rfl (part_cell F_agg_2 rfl) (part_cell F_agg_2 rfl) (eq_int Try.underlying2 _ _) (eqf_cons rfl (part_agg F_agg_103 F_size_103) (part_agg F_agg_103 F_size_103) (eq_arr4 F_array_103 F_size_9 (part_cell F_agg_9 rfl) (part_cell F_agg_9 rfl) (part_cell F_agg_9 rfl) (part_cell F_agg_9 rfl) (part_cell F_agg_9 rfl) (part_cell F_agg_9 rfl) (part_cell F_agg_9 rfl) (part_cell F_agg_9 rfl) (eq_str Try.underlying9 _ _) (eq_str Try.underlying9 _ _) (eq_str Try.underlying9 _ _) (eq_str Try.underlying9 _ _)) eqf_nil))) (eqf_cons rfl (part_cell F_agg_2 rfl) (part_cell F_agg_2 rfl) (eq_int Try.underlying2 _ _) eqf_nil))) w
theorem same_149_n {x y : Operand} (x0 : Int) (x1 : List UInt8) (x2 : List UInt8) (x3 : List UInt8) (x4 : List UInt8) (x5 : Int) (y0 : Int) (y1 : List UInt8) (y2 : List UInt8) (y3 : List UInt8) (y4 : List UInt8) (y5 : Int) (w : World) : (do eqGuard .neq 149 x y (.agg #[(Value.int .i64 x0), (str x1), (str x2), (str x3), (str x4), (Value.int .i64 x5)]) (.agg #[(Value.int .i64 y0), (str y1), (str y2), (str y3), (str y4), (Value.int .i64 y5)]); binOp .neq 149 (.agg #[(Value.int .i64 x0), (str x1), (str x2), (str x3), (str x4), (Value.int .i64 x5)]) (.agg #[(Value.int .i64 y0), (str y1), (str y2), (str y3), (str y4), (Value.int .i64 y5)])).run Try.prog w = .ok (.bool (!(((x0 == y0) && (((x1 == y1) && ((x2 == y2) && ((x3 == y3) && ((x4 == y4) && true)))) && true)) && ((x5 == y5) && true)))) w :=
  b_neq_agg F_guard_149 (eq_struct Try.underlying149 (by kernel_rfl) (eqf_cons rfl (part_agg F_agg_147 F_size_147) (part_agg F_agg_147 F_size_147) (eq_struct Try.underlying147 (by kernel_rfl) (eqf_cons rfl (part_cell F_agg_2 rfl) (part_cell F_agg_2 rfl) (eq_int Try.underlying2 _ _) (eqf_cons rfl (part_agg F_agg_103 F_size_103) (part_agg F_agg_103 F_size_103) (eq_arr4 F_array_103 F_size_9 (part_cell F_agg_9 rfl) (part_cell F_agg_9 rfl) (part_cell F_agg_9 rfl) (part_cell F_agg_9 rfl) (part_cell F_agg_9 rfl) (part_cell F_agg_9 rfl) (part_cell F_agg_9 rfl) (part_cell F_agg_9 rfl) (eq_str Try.underlying9 _ _) (eq_str Try.underlying9 _ _) (eq_str Try.underlying9 _ _) (eq_str Try.underlying9 _ _)) eqf_nil))) (eqf_cons rfl (part_cell F_agg_2 rfl) (part_cell F_agg_2 rfl) (eq_int Try.underlying2 _ _) eqf_nil))) w
theorem F_call_107 : callB Try.prog 107 = true := by kernel_rfl
theorem F_field_108_5 : fieldB Try.prog 108 5 = some (26, 106) := by kernel_rfl
theorem F_size_106 : sizeB Try.prog 106 = some 1 := by kernel_rfl
theorem F_agg_106 : aggB Try.prog 106 = some false := by kernel_rfl
theorem F_slice_106 : sliceB Try.prog 106 = some 4 := by kernel_rfl
theorem F_call_108 : callB Try.prog 108 = true := by kernel_rfl
theorem F_call_106 : callB Try.prog 106 = true := by kernel_rfl
theorem F_call_105 : callB Try.prog 105 = true := by kernel_rfl
theorem F_call_94 : callB Try.prog 94 = true := by kernel_rfl
theorem F_call_73 : callB Try.prog 73 = true := by kernel_rfl
theorem F_zero_119 : zeroB Try.prog 119 = some [(Value.slice none 0 0)] := by kernel_rfl
theorem F_zero_127 : zeroB Try.prog 127 = some [(Value.int .i64 0), (Value.int .i64 0), (Value.int .i64 0), (Value.int .i64 0)] := by kernel_rfl
theorem F_array_127 : arrayB Try.prog 127 = some (4, 3) := by kernel_rfl
theorem F_size_127 : sizeB Try.prog 127 = some 4 := by kernel_rfl
theorem F_agg_127 : aggB Try.prog 127 = some true := by kernel_rfl
theorem F_call_80 : callB Try.prog 80 = true := by kernel_rfl
theorem F_zero_103 : zeroB Try.prog 103 = some [(str ([] : List UInt8)), (str ([] : List UInt8)), (str ([] : List UInt8)), (str ([] : List UInt8))] := by kernel_rfl
theorem F_call_81 : callB Try.prog 81 = true := by kernel_rfl
theorem F_slice_32 : sliceB Try.prog 32 = some 9 := by kernel_rfl
theorem F_zero_9 : zeroB Try.prog 9 = some [(str ([] : List UInt8))] := by kernel_rfl
theorem F_field_119_0 : fieldB Try.prog 119 0 = some (0, 32) := by kernel_rfl
theorem F_size_32 : sizeB Try.prog 32 = some 1 := by kernel_rfl
theorem F_agg_32 : aggB Try.prog 32 = some false := by kernel_rfl
theorem F_bytes_9 : bytesB Try.prog 9 = some 16 := by kernel_rfl
theorem F_call_74 : callB Try.prog 74 = true := by kernel_rfl
theorem F_zero_165 : zeroB Try.prog 165 = some (arrF (eI .u8) 20 (fun _ => 0)) := by kernel_rfl
theorem F_array_165 : arrayB Try.prog 165 = some (20, 5) := by kernel_rfl
theorem F_size_5 : sizeB Try.prog 5 = some 1 := by kernel_rfl
theorem F_slice_71 : sliceB Try.prog 71 = some 5 := by kernel_rfl
theorem F_call_99 : callB Try.prog 99 = true := by kernel_rfl
theorem F_call_78 : callB Try.prog 78 = true := by kernel_rfl
theorem F_call_82 : callB Try.prog 82 = true := by kernel_rfl
theorem F_call_63 : callB Try.prog 63 = true := by kernel_rfl
theorem F_call_70 : callB Try.prog 70 = true := by kernel_rfl
theorem F_call_57 : callB Try.prog 57 = true := by kernel_rfl
theorem F_call_28 : callB Try.prog 28 = true := by kernel_rfl
theorem F_call_40 : callB Try.prog 40 = true := by kernel_rfl
theorem F_call_62 : callB Try.prog 62 = true := by kernel_rfl
theorem F_field_73_1 : fieldB Try.prog 73 1 = some (1, 71) := by kernel_rfl
theorem F_size_71 : sizeB Try.prog 71 = some 1 := by kernel_rfl
theorem F_agg_71 : aggB Try.prog 71 = some false := by kernel_rfl
theorem F_zero1_5 : zero1B Try.prog 5 = some (.int .u8 0) := by kernel_rfl
theorem F_bytes_5 : bytesB Try.prog 5 = some 1 := by kernel_rfl
theorem F_call_39 : callB Try.prog 39 = true := by kernel_rfl
theorem F_call_41 : callB Try.prog 41 = true := by kernel_rfl
theorem F_call_11 : callB Try.prog 11 = true := by kernel_rfl
theorem F_call_29 : callB Try.prog 29 = true := by kernel_rfl
theorem F_agg_5 : aggB Try.prog 5 = some false := by kernel_rfl
theorem F_call_30 : callB Try.prog 30 = true := by kernel_rfl
theorem F_call_31 : callB Try.prog 31 = true := by kernel_rfl
theorem F_call_9 : callB Try.prog 9 = true := by kernel_rfl
theorem F_call_8 : callB Try.prog 8 = true := by kernel_rfl
theorem policy_bounds.spec (r : (Int × Int × Int × Int × Int × Int × Int × Int × Int × Int × Int × Int × Int × Int × Int × Int × Int × Int)) (H : policy_bounds = r) : FnSpec Try.prog 60 [] [] (fun v M => v = (agg #[(int .i64 r.1), (int .i64 r.2.1), (int .i64 r.2.2.1), (int .i64 r.2.2.2.1), (int .i64 r.2.2.2.2.1), (int .i64 r.2.2.2.2.2.1), (int .i64 r.2.2.2.2.2.2.1), (int .i64 r.2.2.2.2.2.2.2.1), (int .i64 r.2.2.2.2.2.2.2.2.1), (int .i64 r.2.2.2.2.2.2.2.2.2.1), (int .i64 r.2.2.2.2.2.2.2.2.2.2.1), (int .i64 r.2.2.2.2.2.2.2.2.2.2.2.1), (int .i64 r.2.2.2.2.2.2.2.2.2.2.2.2.1), (int .i64 r.2.2.2.2.2.2.2.2.2.2.2.2.2.1), (int .i64 r.2.2.2.2.2.2.2.2.2.2.2.2.2.2.1), (int .i64 r.2.2.2.2.2.2.2.2.2.2.2.2.2.2.2.1), (int .i64 r.2.2.2.2.2.2.2.2.2.2.2.2.2.2.2.2.1), (int .i64 r.2.2.2.2.2.2.2.2.2.2.2.2.2.2.2.2.2)]) ∧ M = []) := by
 unfold policy_bounds at H
 refine spec_of Try.func60 rfl 11 rfl (Nat.le_of_ble_eq_true rfl) fun F w0 => ?_
 show Ent (St 11 w0 F [] []) _
 refine ent_seq ?_
 refine ent_region ?_
 refine ent_op (ot_alloc F_zero_96) rfl rfl rfl ?_
 rintro _ _ ⟨b2, rfl, rfl⟩
 refine ent_nil ?_
 refine ent_seq ?_
 refine ent_region ?_
 refine ent_value (ov_build (is := [0, 1]) (xs := [.const (int .i64 1), .const (int .i64 1048576)]) (vs := [(int .i64 1), (int .i64 1048576)]) rfl rfl (build_struct (cs := [(int .i64 1), (int .i64 1048576)]) F_zero_95 F_places_95 rfl)) rfl rfl rfl ?_
 refine ent_value (ov_build (is := [0, 1]) (xs := [.const (int .i64 0), .const (int .i64 1048576)]) (vs := [(int .i64 0), (int .i64 1048576)]) rfl rfl (build_struct (cs := [(int .i64 0), (int .i64 1048576)]) F_zero_95 F_places_95 rfl)) rfl rfl rfl ?_
 refine ent_value (ov_build (is := [0, 1]) (xs := [.const (int .i64 0), .const (int .i64 1048576)]) (vs := [(int .i64 0), (int .i64 1048576)]) rfl rfl (build_struct (cs := [(int .i64 0), (int .i64 1048576)]) F_zero_95 F_places_95 rfl)) rfl rfl rfl ?_
 refine ent_value (ov_build (is := [0, 1]) (xs := [.const (int .i64 0), .const (int .i64 1048576)]) (vs := [(int .i64 0), (int .i64 1048576)]) rfl rfl (build_struct (cs := [(int .i64 0), (int .i64 1048576)]) F_zero_95 F_places_95 rfl)) rfl rfl rfl ?_
 refine ent_value (ov_build (is := [0, 1]) (xs := [.const (int .i64 0), .const (int .i64 1048576)]) (vs := [(int .i64 0), (int .i64 1048576)]) rfl rfl (build_struct (cs := [(int .i64 0), (int .i64 1048576)]) F_zero_95 F_places_95 rfl)) rfl rfl rfl ?_
 refine ent_value (ov_build (is := [0, 1]) (xs := [.const (int .i64 1), .const (int .i64 1048576)]) (vs := [(int .i64 1), (int .i64 1048576)]) rfl rfl (build_struct (cs := [(int .i64 1), (int .i64 1048576)]) F_zero_95 F_places_95 rfl)) rfl rfl rfl ?_
 refine ent_value (ov_build (is := [0, 1]) (xs := [.const (int .i64 1), .const (int .i64 1048576)]) (vs := [(int .i64 1), (int .i64 1048576)]) rfl rfl (build_struct (cs := [(int .i64 1), (int .i64 1048576)]) F_zero_95 F_places_95 rfl)) rfl rfl rfl ?_
 refine ent_value (ov_build (is := [0, 1]) (xs := [.const (int .i64 1), .const (int .i64 64)]) (vs := [(int .i64 1), (int .i64 64)]) rfl rfl (build_struct (cs := [(int .i64 1), (int .i64 64)]) F_zero_95 F_places_95 rfl)) rfl rfl rfl ?_
 refine ent_value (ov_build (is := [0, 1]) (xs := [.const (int .i64 100), .const (int .i64 1048576)]) (vs := [(int .i64 100), (int .i64 1048576)]) rfl rfl (build_struct (cs := [(int .i64 100), (int .i64 1048576)]) F_zero_95 F_places_95 rfl)) rfl rfl rfl ?_
 refine ent_value (ov_build (is := [0, 1, 2, 3, 4, 5, 6, 7, 8]) (xs := [.tmp 1, .tmp 2, .tmp 3, .tmp 4, .tmp 5, .tmp 6, .tmp 7, .tmp 8, .tmp 9]) (vs := [(agg #[(int .i64 1), (int .i64 1048576)]), (agg #[(int .i64 0), (int .i64 1048576)]), (agg #[(int .i64 0), (int .i64 1048576)]), (agg #[(int .i64 0), (int .i64 1048576)]), (agg #[(int .i64 0), (int .i64 1048576)]), (agg #[(int .i64 1), (int .i64 1048576)]), (agg #[(int .i64 1), (int .i64 1048576)]), (agg #[(int .i64 1), (int .i64 64)]), (agg #[(int .i64 100), (int .i64 1048576)])]) rfl rfl (build_array (cs := [(int .i64 1), (int .i64 1048576), (int .i64 0), (int .i64 1048576), (int .i64 0), (int .i64 1048576), (int .i64 0), (int .i64 1048576), (int .i64 0), (int .i64 1048576), (int .i64 1), (int .i64 1048576), (int .i64 1), (int .i64 1048576), (int .i64 1), (int .i64 64), (int .i64 100), (int .i64 1048576)]) F_zero_96 F_array_96 F_size_95 (by simp [Instr.fill, cells_int, cells_bool, cells_str, cells_func, cells_slice, cells_ptr, cells_nilFunc, cells_agg, ]))) rfl rfl rfl ?_
 refine ent_op0 (ot_storeG (cs := [(int .i64 0), (int .i64 0), (int .i64 0), (int .i64 0), (int .i64 0), (int .i64 0), (int .i64 0), (int .i64 0), (int .i64 0), (int .i64 0), (int .i64 0), (int .i64 0), (int .i64 0), (int .i64 0), (int .i64 0), (int .i64 0), (int .i64 0), (int .i64 0)]) (cs' := [(int .i64 1), (int .i64 1048576), (int .i64 0), (int .i64 1048576), (int .i64 0), (int .i64 1048576), (int .i64 0), (int .i64 1048576), (int .i64 0), (int .i64 1048576), (int .i64 1), (int .i64 1048576), (int .i64 1), (int .i64 1048576), (int .i64 1), (int .i64 64), (int .i64 100), (int .i64 1048576)]) (us := [(int .i64 1), (int .i64 1048576), (int .i64 0), (int .i64 1048576), (int .i64 0), (int .i64 1048576), (int .i64 0), (int .i64 1048576), (int .i64 0), (int .i64 1048576), (int .i64 1), (int .i64 1048576), (int .i64 1), (int .i64 1048576), (int .i64 1), (int .i64 64), (int .i64 100), (int .i64 1048576)]) (L' := [(box b2 96 [(int .i64 1), (int .i64 1048576), (int .i64 0), (int .i64 1048576), (int .i64 0), (int .i64 1048576), (int .i64 0), (int .i64 1048576), (int .i64 0), (int .i64 1048576), (int .i64 1), (int .i64 1048576), (int .i64 1), (int .i64 1048576), (int .i64 1), (int .i64 64), (int .i64 100), (int .i64 1048576)])]) 0 rfl rfl rfl (one_all rfl) F_size_96 rfl rfl (by simp) rfl) rfl rfl ?_
 rintro _ _ rfl
 refine ent_nil ?_
 refine ent_retc ?_
 subst H
 exact ret_memp [] (by decide) rfl (vs := [(agg #[(int .i64 1), (int .i64 1048576), (int .i64 0), (int .i64 1048576), (int .i64 0), (int .i64 1048576), (int .i64 0), (int .i64 1048576), (int .i64 0), (int .i64 1048576), (int .i64 1), (int .i64 1048576), (int .i64 1), (int .i64 1048576), (int .i64 1), (int .i64 64), (int .i64 100), (int .i64 1048576)])]) rfl ⟨⟨_, [(int .i64 1), (int .i64 1048576), (int .i64 0), (int .i64 1048576), (int .i64 0), (int .i64 1048576), (int .i64 0), (int .i64 1048576), (int .i64 0), (int .i64 1048576), (int .i64 1), (int .i64 1048576), (int .i64 1), (int .i64 1048576), (int .i64 1), (int .i64 64), (int .i64 100), (int .i64 1048576)], rfl, reads_boxW (i := 0) rfl, .inl ⟨F_agg_96, F_size_96, rfl⟩⟩, trivial⟩ _ rfl ⟨rfl, rfl⟩

theorem policy_numbers.spec (a0_0 : Int) (a0_1 : Int) (a0_2 : Int) (a0_3 : Int) (a0_4 : Int) (a0_5 : Int) (a0_6 : Int) (a0_7 : Int) (a0_8 : Int) (r : (Int × Int × Int × Int × Int × Int × Int × Int × Int)) (H : policy_numbers a0_0 a0_1 a0_2 a0_3 a0_4 a0_5 a0_6 a0_7 a0_8 = r) : FnSpec Try.prog 61 [(agg #[(int .i64 a0_0), (int .i64 a0_1), (int .i64 a0_2), (int .i64 a0_3), (int .i64 a0_4), (int .i64 a0_5), (int .i64 a0_6), (int .i64 a0_7), (int .i64 a0_8)])] [] (fun v M => v = (agg #[(int .i64 r.1), (int .i64 r.2.1), (int .i64 r.2.2.1), (int .i64 r.2.2.2.1), (int .i64 r.2.2.2.2.1), (int .i64 r.2.2.2.2.2.1), (int .i64 r.2.2.2.2.2.2.1), (int .i64 r.2.2.2.2.2.2.2.1), (int .i64 r.2.2.2.2.2.2.2.2)]) ∧ M = []) := by
 unfold policy_numbers at H
 refine spec_of Try.func61 rfl 22 rfl (Nat.le_of_ble_eq_true rfl) fun F w0 => ?_
 show Ent (St 22 w0 F [(0, (agg #[(int .i64 a0_0), (int .i64 a0_1), (int .i64 a0_2), (int .i64 a0_3), (int .i64 a0_4), (int .i64 a0_5), (int .i64 a0_6), (int .i64 a0_7), (int .i64 a0_8)]))] []) _
 refine ent_seq ?_
 refine ent_region ?_
 refine ent_op (ot_box (cs := [(int .i64 a0_0), (int .i64 a0_1), (int .i64 a0_2), (int .i64 a0_3), (int .i64 a0_4), (int .i64 a0_5), (int .i64 a0_6), (int .i64 a0_7), (int .i64 a0_8)]) rfl rfl) rfl rfl rfl ?_
 rintro _ _ ⟨b3, rfl, rfl⟩
 refine ent_op (ot_alloc F_zero_98) rfl rfl rfl ?_
 rintro _ _ ⟨b4, rfl, rfl⟩
 refine ent_nil ?_
 refine ent_seq ?_
 refine ent_region ?_
 refine ent_value (ov_fieldAddr (sz := 0) (o := 0) rfl F_field_24_0 F_size_2) rfl rfl rfl ?_
 refine ent_value (ov_load (v := (int .i64 a0_0)) rfl F_agg_2 (reads_box1 (i := 1) rfl rfl)) rfl rfl rfl ?_
 refine ent_value (ov_fieldAddr (sz := 0) (o := 0) rfl F_field_24_1 F_size_2) rfl rfl rfl ?_
 refine ent_value (ov_load (v := (int .i64 a0_1)) rfl F_agg_2 (reads_box1 (i := 1) rfl rfl)) rfl rfl rfl ?_
 refine ent_value (ov_fieldAddr (sz := 0) (o := 0) rfl F_field_24_2 F_size_2) rfl rfl rfl ?_
 refine ent_value (ov_load (v := (int .i64 a0_2)) rfl F_agg_2 (reads_box1 (i := 1) rfl rfl)) rfl rfl rfl ?_
 refine ent_value (ov_fieldAddr (sz := 0) (o := 0) rfl F_field_24_3 F_size_2) rfl rfl rfl ?_
 refine ent_value (ov_load (v := (int .i64 a0_3)) rfl F_agg_2 (reads_box1 (i := 1) rfl rfl)) rfl rfl rfl ?_
 refine ent_value (ov_fieldAddr (sz := 0) (o := 0) rfl F_field_24_4 F_size_2) rfl rfl rfl ?_
 refine ent_value (ov_load (v := (int .i64 a0_4)) rfl F_agg_2 (reads_box1 (i := 1) rfl rfl)) rfl rfl rfl ?_
 refine ent_value (ov_fieldAddr (sz := 0) (o := 0) rfl F_field_24_5 F_size_2) rfl rfl rfl ?_
 refine ent_value (ov_load (v := (int .i64 a0_5)) rfl F_agg_2 (reads_box1 (i := 1) rfl rfl)) rfl rfl rfl ?_
 refine ent_value (ov_fieldAddr (sz := 0) (o := 0) rfl F_field_24_6 F_size_2) rfl rfl rfl ?_
 refine ent_value (ov_load (v := (int .i64 a0_6)) rfl F_agg_2 (reads_box1 (i := 1) rfl rfl)) rfl rfl rfl ?_
 refine ent_value (ov_fieldAddr (sz := 0) (o := 0) rfl F_field_24_7 F_size_3) rfl rfl rfl ?_
 refine ent_value (ov_load (v := (int .i64 a0_7)) rfl F_agg_3 (reads_box1 (i := 1) rfl rfl)) rfl rfl rfl ?_
 refine ent_value (ov_fieldAddr (sz := 0) (o := 0) rfl F_field_24_8 F_size_2) rfl rfl rfl ?_
 refine ent_value (ov_load (v := (int .i64 a0_8)) rfl F_agg_2 (reads_box1 (i := 1) rfl rfl)) rfl rfl rfl ?_
 refine ent_value (ov_build (is := [0, 1, 2, 3, 4, 5, 6, 7, 8]) (xs := [.tmp 4, .tmp 6, .tmp 8, .tmp 10, .tmp 12, .tmp 14, .tmp 16, .tmp 18, .tmp 20]) (vs := [(int .i64 a0_0), (int .i64 a0_1), (int .i64 a0_2), (int .i64 a0_3), (int .i64 a0_4), (int .i64 a0_5), (int .i64 a0_6), (int .i64 a0_7), (int .i64 a0_8)]) rfl rfl (build_array (cs := [(int .i64 a0_0), (int .i64 a0_1), (int .i64 a0_2), (int .i64 a0_3), (int .i64 a0_4), (int .i64 a0_5), (int .i64 a0_6), (int .i64 a0_7), (int .i64 a0_8)]) F_zero_98 F_array_98 F_size_2 (by simp [Instr.fill, cells_int, cells_bool, cells_str, cells_func, cells_slice, cells_ptr, cells_nilFunc, cells_agg, ]))) rfl rfl rfl ?_
 refine ent_op0 (ot_storeG (cs := [(int .i64 0), (int .i64 0), (int .i64 0), (int .i64 0), (int .i64 0), (int .i64 0), (int .i64 0), (int .i64 0), (int .i64 0)]) (cs' := [(int .i64 a0_0), (int .i64 a0_1), (int .i64 a0_2), (int .i64 a0_3), (int .i64 a0_4), (int .i64 a0_5), (int .i64 a0_6), (int .i64 a0_7), (int .i64 a0_8)]) (us := [(int .i64 a0_0), (int .i64 a0_1), (int .i64 a0_2), (int .i64 a0_3), (int .i64 a0_4), (int .i64 a0_5), (int .i64 a0_6), (int .i64 a0_7), (int .i64 a0_8)]) (L' := [(box b4 98 [(int .i64 a0_0), (int .i64 a0_1), (int .i64 a0_2), (int .i64 a0_3), (int .i64 a0_4), (int .i64 a0_5), (int .i64 a0_6), (int .i64 a0_7), (int .i64 a0_8)]), (box b3 24 [(int .i64 a0_0), (int .i64 a0_1), (int .i64 a0_2), (int .i64 a0_3), (int .i64 a0_4), (int .i64 a0_5), (int .i64 a0_6), (int .i64 a0_7), (int .i64 a0_8)])]) 0 rfl rfl rfl (one_all rfl) F_size_98 rfl rfl (by simp) rfl) rfl rfl ?_
 rintro _ _ rfl
 refine ent_nil ?_
 refine ent_retc ?_
 subst H
 exact ret_memp [] (by decide) rfl (vs := [(agg #[(int .i64 a0_0), (int .i64 a0_1), (int .i64 a0_2), (int .i64 a0_3), (int .i64 a0_4), (int .i64 a0_5), (int .i64 a0_6), (int .i64 a0_7), (int .i64 a0_8)])]) rfl ⟨⟨_, [(int .i64 a0_0), (int .i64 a0_1), (int .i64 a0_2), (int .i64 a0_3), (int .i64 a0_4), (int .i64 a0_5), (int .i64 a0_6), (int .i64 a0_7), (int .i64 a0_8)], rfl, reads_boxW (i := 0) rfl, .inl ⟨F_agg_98, F_size_98, rfl⟩⟩, trivial⟩ _ rfl ⟨rfl, rfl⟩

theorem policy_Check.spec (a0_0 : Int) (a0_1 : Int) (a0_2 : Int) (a0_3 : Int) (a0_4 : Int) (a0_5 : Int) (a0_6 : Int) (a0_7 : Int) (a0_8 : Int) (r : Int) (H : policy_Check a0_0 a0_1 a0_2 a0_3 a0_4 a0_5 a0_6 a0_7 a0_8 = some r) : FnSpec Try.prog 37 [(agg #[(int .i64 a0_0), (int .i64 a0_1), (int .i64 a0_2), (int .i64 a0_3), (int .i64 a0_4), (int .i64 a0_5), (int .i64 a0_6), (int .i64 a0_7), (int .i64 a0_8)])] [] (fun v M => v = (int .i64 r) ∧ M = []) := by
 unfold policy_Check at H
 refine spec_of Try.func37 rfl 28 rfl (Nat.le_of_ble_eq_true rfl) fun F w0 => ?_
 show Ent (St 28 w0 F [(0, (agg #[(int .i64 a0_0), (int .i64 a0_1), (int .i64 a0_2), (int .i64 a0_3), (int .i64 a0_4), (int .i64 a0_5), (int .i64 a0_6), (int .i64 a0_7), (int .i64 a0_8)]))] []) _
 refine ent_seq ?_
 refine ent_region ?_
 refine ent_op (ot_box (cs := [(int .i64 a0_0), (int .i64 a0_1), (int .i64 a0_2), (int .i64 a0_3), (int .i64 a0_4), (int .i64 a0_5), (int .i64 a0_6), (int .i64 a0_7), (int .i64 a0_8)]) rfl rfl) rfl rfl rfl ?_
 rintro _ _ ⟨b3, rfl, rfl⟩
 refine ent_value (ov_assign rfl) rfl rfl rfl ?_
 refine ent_nil ?_
 refine ent_seq ?_
 refine ent_region ?_
 obtain ⟨x4, h4, H⟩ := thn_elim H
 refine ent_op (ot_call0 (first := []) (cap := []) (xs := []) rfl rfl F_call_60 rfl (policy_bounds.spec _ h4)) rfl rfl rfl ?_
 rintro _ _ ⟨rfl, rfl⟩
 refine ent_op (ot_alloc F_zero_96) rfl rfl rfl ?_
 rintro _ _ ⟨b4, rfl, rfl⟩
 refine ent_op0 (ot_storeG (cs := [(int .i64 0), (int .i64 0), (int .i64 0), (int .i64 0), (int .i64 0), (int .i64 0), (int .i64 0), (int .i64 0), (int .i64 0), (int .i64 0), (int .i64 0), (int .i64 0), (int .i64 0), (int .i64 0), (int .i64 0), (int .i64 0), (int .i64 0), (int .i64 0)]) (cs' := [(int .i64 x4.1), (int .i64 x4.2.1), (int .i64 x4.2.2.1), (int .i64 x4.2.2.2.1), (int .i64 x4.2.2.2.2.1), (int .i64 x4.2.2.2.2.2.1), (int .i64 x4.2.2.2.2.2.2.1), (int .i64 x4.2.2.2.2.2.2.2.1), (int .i64 x4.2.2.2.2.2.2.2.2.1), (int .i64 x4.2.2.2.2.2.2.2.2.2.1), (int .i64 x4.2.2.2.2.2.2.2.2.2.2.1), (int .i64 x4.2.2.2.2.2.2.2.2.2.2.2.1), (int .i64 x4.2.2.2.2.2.2.2.2.2.2.2.2.1), (int .i64 x4.2.2.2.2.2.2.2.2.2.2.2.2.2.1), (int .i64 x4.2.2.2.2.2.2.2.2.2.2.2.2.2.2.1), (int .i64 x4.2.2.2.2.2.2.2.2.2.2.2.2.2.2.2.1), (int .i64 x4.2.2.2.2.2.2.2.2.2.2.2.2.2.2.2.2.1), (int .i64 x4.2.2.2.2.2.2.2.2.2.2.2.2.2.2.2.2.2)]) (us := [(int .i64 x4.1), (int .i64 x4.2.1), (int .i64 x4.2.2.1), (int .i64 x4.2.2.2.1), (int .i64 x4.2.2.2.2.1), (int .i64 x4.2.2.2.2.2.1), (int .i64 x4.2.2.2.2.2.2.1), (int .i64 x4.2.2.2.2.2.2.2.1), (int .i64 x4.2.2.2.2.2.2.2.2.1), (int .i64 x4.2.2.2.2.2.2.2.2.2.1), (int .i64 x4.2.2.2.2.2.2.2.2.2.2.1), (int .i64 x4.2.2.2.2.2.2.2.2.2.2.2.1), (int .i64 x4.2.2.2.2.2.2.2.2.2.2.2.2.1), (int .i64 x4.2.2.2.2.2.2.2.2.2.2.2.2.2.1), (int .i64 x4.2.2.2.2.2.2.2.2.2.2.2.2.2.2.1), (int .i64 x4.2.2.2.2.2.2.2.2.2.2.2.2.2.2.2.1), (int .i64 x4.2.2.2.2.2.2.2.2.2.2.2.2.2.2.2.2.1), (int .i64 x4.2.2.2.2.2.2.2.2.2.2.2.2.2.2.2.2.2)]) (L' := [(box b4 96 [(int .i64 x4.1), (int .i64 x4.2.1), (int .i64 x4.2.2.1), (int .i64 x4.2.2.2.1), (int .i64 x4.2.2.2.2.1), (int .i64 x4.2.2.2.2.2.1), (int .i64 x4.2.2.2.2.2.2.1), (int .i64 x4.2.2.2.2.2.2.2.1), (int .i64 x4.2.2.2.2.2.2.2.2.1), (int .i64 x4.2.2.2.2.2.2.2.2.2.1), (int .i64 x4.2.2.2.2.2.2.2.2.2.2.1), (int .i64 x4.2.2.2.2.2.2.2.2.2.2.2.1), (int .i64 x4.2.2.2.2.2.2.2.2.2.2.2.2.1), (int .i64 x4.2.2.2.2.2.2.2.2.2.2.2.2.2.1), (int .i64 x4.2.2.2.2.2.2.2.2.2.2.2.2.2.2.1), (int .i64 x4.2.2.2.2.2.2.2.2.2.2.2.2.2.2.2.1), (int .i64 x4.2.2.2.2.2.2.2.2.2.2.2.2.2.2.2.2.1), (int .i64 x4.2.2.2.2.2.2.2.2.2.2.2.2.2.2.2.2.2)]), (box b3 24 [(int .i64 a0_0), (int .i64 a0_1), (int .i64 a0_2), (int .i64 a0_3), (int .i64 a0_4), (int .i64 a0_5), (int .i64 a0_6), (int .i64 a0_7), (int .i64 a0_8)])]) 0 rfl rfl rfl (one_all rfl) F_size_96 rfl rfl (by simp) rfl) rfl rfl ?_
 rintro _ _ rfl
 refine ent_nil ?_
 refine ent_seq ?_
 refine ent_seq ?_
 refine ent_region ?_
 refine ent_value (ov_load_agg (vs := [(int .i64 a0_0), (int .i64 a0_1), (int .i64 a0_2), (int .i64 a0_3), (int .i64 a0_4), (int .i64 a0_5), (int .i64 a0_6), (int .i64 a0_7), (int .i64 a0_8)]) rfl F_agg_24 F_size_24 (reads_boxW (i := 1) rfl)) rfl rfl rfl ?_
 obtain ⟨x6, h6, H⟩ := thn_elim H
 refine ent_op (ot_call0 (first := []) (cap := []) (xs := [.tmp 7]) rfl rfl F_call_61 rfl (policy_numbers.spec a0_0 a0_1 a0_2 a0_3 a0_4 a0_5 a0_6 a0_7 a0_8 _ h6)) rfl rfl rfl ?_
 rintro _ _ ⟨rfl, rfl⟩
 refine ent_value (ov_move rfl) rfl rfl rfl ?_
 refine ent_nil ?_
 refine ent_block ?_
 refine ent_rounds 10 ?_
 refine ent_round ?_
 refine ent_seq ?_
 refine ent_region ?_
 refine ent_value (ov_bin rfl rfl (b_lss _ _ _)) rfl rfl rfl ?_
 refine ent_nil ?_
 refine ent_seq ?_
 refine ent_cond_true rfl rfl ?_
 refine ent_skip ?_
 refine ent_seq ?_
 refine ent_block ?_
 refine ent_seq ?_
 refine ent_region ?_
 refine ent_value (ov_move rfl) rfl rfl rfl ?_
 refine ent_value (ov_indexAggN rfl rfl F_array_98 F_size_2 F_agg_2 (by decide) (by decide) rfl) rfl rfl rfl ?_
 refine ent_value (ov_assign rfl) rfl rfl rfl ?_
 refine ent_value (ov_assign rfl) rfl rfl rfl ?_
 refine ent_nil ?_
 refine ent_seq ?_
 refine ent_region ?_
 refine ent_value (ov_move rfl) rfl rfl rfl ?_
 refine ent_value (ov_move rfl) rfl rfl rfl ?_
 by_cases c198 : 0 < (9 : Int)
 ·rw [if_pos c198] at H
  refine ent_value (ov_indexArr (o := 0) rfl rfl F_array_96 F_size_95 (by decide) c198) rfl rfl rfl ?_
  refine ent_value (ov_fieldAddr (sz := 0) (o := 0) rfl F_field_95_0 F_size_2) rfl rfl rfl ?_
  refine ent_value (ov_load (v := (int .i64 x4.1)) rfl F_agg_2 (reads_box1 (i := 0) rfl rfl)) rfl rfl rfl ?_
  refine ent_value (ov_bin rfl rfl (b_lss _ _ _)) rfl rfl rfl ?_
  refine ent_value (ov_move rfl) rfl rfl rfl ?_
  by_cases c199 : x6.1 < x4.1
  ·rw [if_pos c199] at H
   refine ent_off rfl rfl rfl (decide_eq_true c199) rfl rfl ?_
   refine ent_off rfl rfl rfl (decide_eq_true c199) rfl rfl ?_
   refine ent_off rfl rfl rfl (decide_eq_true c199) rfl rfl ?_
   refine ent_off rfl rfl rfl (decide_eq_true c199) rfl rfl ?_
   refine ent_off rfl rfl rfl (decide_eq_true c199) rfl rfl ?_
   refine ent_off rfl rfl rfl (decide_eq_true c199) rfl rfl ?_
   refine ent_value (ov_pick rfl rfl rfl (pick_t (decide_eq_true c199))) rfl rfl rfl ?_
   refine ent_nil ?_
   refine ent_cond_true rfl rfl ?_
   refine ent_seq ?_
   refine ent_region ?_
   refine ent_value (ov_assign rfl) rfl rfl rfl ?_
   refine ent_nil ?_
   refine ent_retc ?_
   cases H
   refine ent_pick [] (by decide) rfl ?_
   exact ret_tmp rfl rfl ⟨rfl, rfl⟩
  ·rw [if_neg c199] at H
   refine ent_value_on (ov_move rfl) rfl rfl rfl (decide_eq_false c199) rfl rfl ?_
   refine ent_value_on (ov_move rfl) rfl rfl rfl (decide_eq_false c199) rfl rfl ?_
   refine ent_value_on (ov_indexArr (o := 0) rfl rfl F_array_96 F_size_95 (by decide) c198) rfl rfl rfl (decide_eq_false c199) rfl rfl ?_
   refine ent_value_on (ov_fieldAddr (sz := 0) (o := 0) rfl F_field_95_1 F_size_2) rfl rfl rfl (decide_eq_false c199) rfl rfl ?_
   refine ent_value_on (ov_load (v := (int .i64 x4.2.1)) rfl F_agg_2 (reads_box1 (i := 0) rfl rfl)) rfl rfl rfl (decide_eq_false c199) rfl rfl ?_
   refine ent_value_on (ov_bin rfl rfl (b_gtr _ _ _)) rfl rfl rfl (decide_eq_false c199) rfl rfl ?_
   refine ent_value (ov_pick rfl rfl rfl (pick_f (decide_eq_false c199))) rfl rfl rfl ?_
   refine ent_nil ?_
   by_cases c200 : x4.2.1 < x6.1
   ·rw [if_pos c200] at H
    refine ent_cond_true rfl (decide_eq_true c200) ?_
    refine ent_seq ?_
    refine ent_region ?_
    refine ent_value (ov_assign rfl) rfl rfl rfl ?_
    refine ent_nil ?_
    refine ent_retc ?_
    cases H
    refine ent_pick [] (by decide) rfl ?_
    exact ret_tmp rfl rfl ⟨rfl, rfl⟩
   ·rw [if_neg c200] at H
    refine ent_cond_false rfl (decide_eq_false c200) ?_
    refine ent_skip ?_
    refine ent_region ?_
    refine ent_value (ov_binL (m' := 1) rfl rfl (b_add _ _ _) (by decide)) rfl rfl rfl ?_
    refine ent_value (ov_move rfl) rfl rfl rfl ?_
    refine ent_nil ?_
    refine ent_round ?_
    refine ent_seq ?_
    refine ent_region ?_
    refine ent_value (ov_bin rfl rfl (b_lss _ _ _)) rfl rfl rfl ?_
    refine ent_nil ?_
    refine ent_seq ?_
    refine ent_cond_true rfl rfl ?_
    refine ent_skip ?_
    refine ent_seq ?_
    refine ent_block ?_
    refine ent_seq ?_
    refine ent_region ?_
    refine ent_value (ov_move rfl) rfl rfl rfl ?_
    refine ent_value (ov_indexAggN rfl rfl F_array_98 F_size_2 F_agg_2 (by decide) (by decide) rfl) rfl rfl rfl ?_
    refine ent_value (ov_assign rfl) rfl rfl rfl ?_
    refine ent_value (ov_assign rfl) rfl rfl rfl ?_
    refine ent_nil ?_
    refine ent_seq ?_
    refine ent_region ?_
    refine ent_value (ov_move rfl) rfl rfl rfl ?_
    refine ent_value (ov_move rfl) rfl rfl rfl ?_
    by_cases c204 : 1 < (9 : Int)
    ·rw [if_pos c204] at H
     refine ent_value (ov_indexArr (o := 0) rfl rfl F_array_96 F_size_95 (by decide) c204) rfl rfl rfl ?_
     refine ent_value (ov_fieldAddr (sz := 0) (o := 2) rfl F_field_95_0 F_size_2) rfl rfl rfl ?_
     refine ent_value (ov_load (v := (int .i64 x4.2.2.1)) rfl F_agg_2 (reads_box1 (i := 0) rfl rfl)) rfl rfl rfl ?_
     refine ent_value (ov_bin rfl rfl (b_lss _ _ _)) rfl rfl rfl ?_
     refine ent_value (ov_move rfl) rfl rfl rfl ?_
     by_cases c205 : x6.2.1 < x4.2.2.1
     ·rw [if_pos c205] at H
      refine ent_off rfl rfl rfl (decide_eq_true c205) rfl rfl ?_
      refine ent_off rfl rfl rfl (decide_eq_true c205) rfl rfl ?_
      refine ent_off rfl rfl rfl (decide_eq_true c205) rfl rfl ?_
      refine ent_off rfl rfl rfl (decide_eq_true c205) rfl rfl ?_
      refine ent_off rfl rfl rfl (decide_eq_true c205) rfl rfl ?_
      refine ent_off rfl rfl rfl (decide_eq_true c205) rfl rfl ?_
      refine ent_value (ov_pick rfl rfl rfl (pick_t (decide_eq_true c205))) rfl rfl rfl ?_
      refine ent_nil ?_
      refine ent_cond_true rfl rfl ?_
      refine ent_seq ?_
      refine ent_region ?_
      refine ent_value (ov_assign rfl) rfl rfl rfl ?_
      refine ent_nil ?_
      refine ent_retc ?_
      cases H
      refine ent_pick [] (by decide) rfl ?_
      exact ret_tmp rfl rfl ⟨rfl, rfl⟩
     ·rw [if_neg c205] at H
      refine ent_value_on (ov_move rfl) rfl rfl rfl (decide_eq_false c205) rfl rfl ?_
      refine ent_value_on (ov_move rfl) rfl rfl rfl (decide_eq_false c205) rfl rfl ?_
      refine ent_value_on (ov_indexArr (o := 0) rfl rfl F_array_96 F_size_95 (by decide) c204) rfl rfl rfl (decide_eq_false c205) rfl rfl ?_
      refine ent_value_on (ov_fieldAddr (sz := 0) (o := 2) rfl F_field_95_1 F_size_2) rfl rfl rfl (decide_eq_false c205) rfl rfl ?_
      refine ent_value_on (ov_load (v := (int .i64 x4.2.2.2.1)) rfl F_agg_2 (reads_box1 (i := 0) rfl rfl)) rfl rfl rfl (decide_eq_false c205) rfl rfl ?_
      refine ent_value_on (ov_bin rfl rfl (b_gtr _ _ _)) rfl rfl rfl (decide_eq_false c205) rfl rfl ?_
      refine ent_value (ov_pick rfl rfl rfl (pick_f (decide_eq_false c205))) rfl rfl rfl ?_
      refine ent_nil ?_
      by_cases c206 : x4.2.2.2.1 < x6.2.1
      ·rw [if_pos c206] at H
       refine ent_cond_true rfl (decide_eq_true c206) ?_
       refine ent_seq ?_
       refine ent_region ?_
       refine ent_value (ov_assign rfl) rfl rfl rfl ?_
       refine ent_nil ?_
       refine ent_retc ?_
       cases H
       refine ent_pick [] (by decide) rfl ?_
       exact ret_tmp rfl rfl ⟨rfl, rfl⟩
      ·rw [if_neg c206] at H
       refine ent_cond_false rfl (decide_eq_false c206) ?_
       refine ent_skip ?_
       refine ent_region ?_
       refine ent_value (ov_binL (m' := 2) rfl rfl (b_add _ _ _) (by decide)) rfl rfl rfl ?_
       refine ent_value (ov_move rfl) rfl rfl rfl ?_
       refine ent_nil ?_
       refine ent_round ?_
       refine ent_seq ?_
       refine ent_region ?_
       refine ent_value (ov_bin rfl rfl (b_lss _ _ _)) rfl rfl rfl ?_
       refine ent_nil ?_
       refine ent_seq ?_
       refine ent_cond_true rfl rfl ?_
       refine ent_skip ?_
       refine ent_seq ?_
       refine ent_block ?_
       refine ent_seq ?_
       refine ent_region ?_
       refine ent_value (ov_move rfl) rfl rfl rfl ?_
       refine ent_value (ov_indexAggN rfl rfl F_array_98 F_size_2 F_agg_2 (by decide) (by decide) rfl) rfl rfl rfl ?_
       refine ent_value (ov_assign rfl) rfl rfl rfl ?_
       refine ent_value (ov_assign rfl) rfl rfl rfl ?_
       refine ent_nil ?_
       refine ent_seq ?_
       refine ent_region ?_
       refine ent_value (ov_move rfl) rfl rfl rfl ?_
       refine ent_value (ov_move rfl) rfl rfl rfl ?_
       by_cases c210 : 2 < (9 : Int)
       ·rw [if_pos c210] at H
        refine ent_value (ov_indexArr (o := 0) rfl rfl F_array_96 F_size_95 (by decide) c210) rfl rfl rfl ?_
        refine ent_value (ov_fieldAddr (sz := 0) (o := 4) rfl F_field_95_0 F_size_2) rfl rfl rfl ?_
        refine ent_value (ov_load (v := (int .i64 x4.2.2.2.2.1)) rfl F_agg_2 (reads_box1 (i := 0) rfl rfl)) rfl rfl rfl ?_
        refine ent_value (ov_bin rfl rfl (b_lss _ _ _)) rfl rfl rfl ?_
        refine ent_value (ov_move rfl) rfl rfl rfl ?_
        by_cases c211 : x6.2.2.1 < x4.2.2.2.2.1
        ·rw [if_pos c211] at H
         refine ent_off rfl rfl rfl (decide_eq_true c211) rfl rfl ?_
         refine ent_off rfl rfl rfl (decide_eq_true c211) rfl rfl ?_
         refine ent_off rfl rfl rfl (decide_eq_true c211) rfl rfl ?_
         refine ent_off rfl rfl rfl (decide_eq_true c211) rfl rfl ?_
         refine ent_off rfl rfl rfl (decide_eq_true c211) rfl rfl ?_
         refine ent_off rfl rfl rfl (decide_eq_true c211) rfl rfl ?_
         refine ent_value (ov_pick rfl rfl rfl (pick_t (decide_eq_true c211))) rfl rfl rfl ?_
         refine ent_nil ?_
         refine ent_cond_true rfl rfl ?_
         refine ent_seq ?_
         refine ent_region ?_
         refine ent_value (ov_assign rfl) rfl rfl rfl ?_
         refine ent_nil ?_
         refine ent_retc ?_
         cases H
         refine ent_pick [] (by decide) rfl ?_
         exact ret_tmp rfl rfl ⟨rfl, rfl⟩
        ·rw [if_neg c211] at H
         refine ent_value_on (ov_move rfl) rfl rfl rfl (decide_eq_false c211) rfl rfl ?_
         refine ent_value_on (ov_move rfl) rfl rfl rfl (decide_eq_false c211) rfl rfl ?_
         refine ent_value_on (ov_indexArr (o := 0) rfl rfl F_array_96 F_size_95 (by decide) c210) rfl rfl rfl (decide_eq_false c211) rfl rfl ?_
         refine ent_value_on (ov_fieldAddr (sz := 0) (o := 4) rfl F_field_95_1 F_size_2) rfl rfl rfl (decide_eq_false c211) rfl rfl ?_
         refine ent_value_on (ov_load (v := (int .i64 x4.2.2.2.2.2.1)) rfl F_agg_2 (reads_box1 (i := 0) rfl rfl)) rfl rfl rfl (decide_eq_false c211) rfl rfl ?_
         refine ent_value_on (ov_bin rfl rfl (b_gtr _ _ _)) rfl rfl rfl (decide_eq_false c211) rfl rfl ?_
         refine ent_value (ov_pick rfl rfl rfl (pick_f (decide_eq_false c211))) rfl rfl rfl ?_
         refine ent_nil ?_
         by_cases c212 : x4.2.2.2.2.2.1 < x6.2.2.1
         ·rw [if_pos c212] at H
          refine ent_cond_true rfl (decide_eq_true c212) ?_
          refine ent_seq ?_
          refine ent_region ?_
          refine ent_value (ov_assign rfl) rfl rfl rfl ?_
          refine ent_nil ?_
          refine ent_retc ?_
          cases H
          refine ent_pick [] (by decide) rfl ?_
          exact ret_tmp rfl rfl ⟨rfl, rfl⟩
         ·rw [if_neg c212] at H
          refine ent_cond_false rfl (decide_eq_false c212) ?_
          refine ent_skip ?_
          refine ent_region ?_
          refine ent_value (ov_binL (m' := 3) rfl rfl (b_add _ _ _) (by decide)) rfl rfl rfl ?_
          refine ent_value (ov_move rfl) rfl rfl rfl ?_
          refine ent_nil ?_
          refine ent_round ?_
          refine ent_seq ?_
          refine ent_region ?_
          refine ent_value (ov_bin rfl rfl (b_lss _ _ _)) rfl rfl rfl ?_
          refine ent_nil ?_
          refine ent_seq ?_
          refine ent_cond_true rfl rfl ?_
          refine ent_skip ?_
          refine ent_seq ?_
          refine ent_block ?_
          refine ent_seq ?_
          refine ent_region ?_
          refine ent_value (ov_move rfl) rfl rfl rfl ?_
          refine ent_value (ov_indexAggN rfl rfl F_array_98 F_size_2 F_agg_2 (by decide) (by decide) rfl) rfl rfl rfl ?_
          refine ent_value (ov_assign rfl) rfl rfl rfl ?_
          refine ent_value (ov_assign rfl) rfl rfl rfl ?_
          refine ent_nil ?_
          refine ent_seq ?_
          refine ent_region ?_
          refine ent_value (ov_move rfl) rfl rfl rfl ?_
          refine ent_value (ov_move rfl) rfl rfl rfl ?_
          by_cases c216 : 3 < (9 : Int)
          ·rw [if_pos c216] at H
           refine ent_value (ov_indexArr (o := 0) rfl rfl F_array_96 F_size_95 (by decide) c216) rfl rfl rfl ?_
           refine ent_value (ov_fieldAddr (sz := 0) (o := 6) rfl F_field_95_0 F_size_2) rfl rfl rfl ?_
           refine ent_value (ov_load (v := (int .i64 x4.2.2.2.2.2.2.1)) rfl F_agg_2 (reads_box1 (i := 0) rfl rfl)) rfl rfl rfl ?_
           refine ent_value (ov_bin rfl rfl (b_lss _ _ _)) rfl rfl rfl ?_
           refine ent_value (ov_move rfl) rfl rfl rfl ?_
           by_cases c217 : x6.2.2.2.1 < x4.2.2.2.2.2.2.1
           ·rw [if_pos c217] at H
            refine ent_off rfl rfl rfl (decide_eq_true c217) rfl rfl ?_
            refine ent_off rfl rfl rfl (decide_eq_true c217) rfl rfl ?_
            refine ent_off rfl rfl rfl (decide_eq_true c217) rfl rfl ?_
            refine ent_off rfl rfl rfl (decide_eq_true c217) rfl rfl ?_
            refine ent_off rfl rfl rfl (decide_eq_true c217) rfl rfl ?_
            refine ent_off rfl rfl rfl (decide_eq_true c217) rfl rfl ?_
            refine ent_value (ov_pick rfl rfl rfl (pick_t (decide_eq_true c217))) rfl rfl rfl ?_
            refine ent_nil ?_
            refine ent_cond_true rfl rfl ?_
            refine ent_seq ?_
            refine ent_region ?_
            refine ent_value (ov_assign rfl) rfl rfl rfl ?_
            refine ent_nil ?_
            refine ent_retc ?_
            cases H
            refine ent_pick [] (by decide) rfl ?_
            exact ret_tmp rfl rfl ⟨rfl, rfl⟩
           ·rw [if_neg c217] at H
            refine ent_value_on (ov_move rfl) rfl rfl rfl (decide_eq_false c217) rfl rfl ?_
            refine ent_value_on (ov_move rfl) rfl rfl rfl (decide_eq_false c217) rfl rfl ?_
            refine ent_value_on (ov_indexArr (o := 0) rfl rfl F_array_96 F_size_95 (by decide) c216) rfl rfl rfl (decide_eq_false c217) rfl rfl ?_
            refine ent_value_on (ov_fieldAddr (sz := 0) (o := 6) rfl F_field_95_1 F_size_2) rfl rfl rfl (decide_eq_false c217) rfl rfl ?_
            refine ent_value_on (ov_load (v := (int .i64 x4.2.2.2.2.2.2.2.1)) rfl F_agg_2 (reads_box1 (i := 0) rfl rfl)) rfl rfl rfl (decide_eq_false c217) rfl rfl ?_
            refine ent_value_on (ov_bin rfl rfl (b_gtr _ _ _)) rfl rfl rfl (decide_eq_false c217) rfl rfl ?_
            refine ent_value (ov_pick rfl rfl rfl (pick_f (decide_eq_false c217))) rfl rfl rfl ?_
            refine ent_nil ?_
            by_cases c218 : x4.2.2.2.2.2.2.2.1 < x6.2.2.2.1
            ·rw [if_pos c218] at H
             refine ent_cond_true rfl (decide_eq_true c218) ?_
             refine ent_seq ?_
             refine ent_region ?_
             refine ent_value (ov_assign rfl) rfl rfl rfl ?_
             refine ent_nil ?_
             refine ent_retc ?_
             cases H
             refine ent_pick [] (by decide) rfl ?_
             exact ret_tmp rfl rfl ⟨rfl, rfl⟩
            ·rw [if_neg c218] at H
             refine ent_cond_false rfl (decide_eq_false c218) ?_
             refine ent_skip ?_
             refine ent_region ?_
             refine ent_value (ov_binL (m' := 4) rfl rfl (b_add _ _ _) (by decide)) rfl rfl rfl ?_
             refine ent_value (ov_move rfl) rfl rfl rfl ?_
             refine ent_nil ?_
             refine ent_round ?_
             refine ent_seq ?_
             refine ent_region ?_
             refine ent_value (ov_bin rfl rfl (b_lss _ _ _)) rfl rfl rfl ?_
             refine ent_nil ?_
             refine ent_seq ?_
             refine ent_cond_true rfl rfl ?_
             refine ent_skip ?_
             refine ent_seq ?_
             refine ent_block ?_
             refine ent_seq ?_
             refine ent_region ?_
             refine ent_value (ov_move rfl) rfl rfl rfl ?_
             refine ent_value (ov_indexAggN rfl rfl F_array_98 F_size_2 F_agg_2 (by decide) (by decide) rfl) rfl rfl rfl ?_
             refine ent_value (ov_assign rfl) rfl rfl rfl ?_
             refine ent_value (ov_assign rfl) rfl rfl rfl ?_
             refine ent_nil ?_
             refine ent_seq ?_
             refine ent_region ?_
             refine ent_value (ov_move rfl) rfl rfl rfl ?_
             refine ent_value (ov_move rfl) rfl rfl rfl ?_
             by_cases c222 : 4 < (9 : Int)
             ·rw [if_pos c222] at H
              refine ent_value (ov_indexArr (o := 0) rfl rfl F_array_96 F_size_95 (by decide) c222) rfl rfl rfl ?_
              refine ent_value (ov_fieldAddr (sz := 0) (o := 8) rfl F_field_95_0 F_size_2) rfl rfl rfl ?_
              refine ent_value (ov_load (v := (int .i64 x4.2.2.2.2.2.2.2.2.1)) rfl F_agg_2 (reads_box1 (i := 0) rfl rfl)) rfl rfl rfl ?_
              refine ent_value (ov_bin rfl rfl (b_lss _ _ _)) rfl rfl rfl ?_
              refine ent_value (ov_move rfl) rfl rfl rfl ?_
              by_cases c223 : x6.2.2.2.2.1 < x4.2.2.2.2.2.2.2.2.1
              ·rw [if_pos c223] at H
               refine ent_off rfl rfl rfl (decide_eq_true c223) rfl rfl ?_
               refine ent_off rfl rfl rfl (decide_eq_true c223) rfl rfl ?_
               refine ent_off rfl rfl rfl (decide_eq_true c223) rfl rfl ?_
               refine ent_off rfl rfl rfl (decide_eq_true c223) rfl rfl ?_
               refine ent_off rfl rfl rfl (decide_eq_true c223) rfl rfl ?_
               refine ent_off rfl rfl rfl (decide_eq_true c223) rfl rfl ?_
               refine ent_value (ov_pick rfl rfl rfl (pick_t (decide_eq_true c223))) rfl rfl rfl ?_
               refine ent_nil ?_
               refine ent_cond_true rfl rfl ?_
               refine ent_seq ?_
               refine ent_region ?_
               refine ent_value (ov_assign rfl) rfl rfl rfl ?_
               refine ent_nil ?_
               refine ent_retc ?_
               cases H
               refine ent_pick [] (by decide) rfl ?_
               exact ret_tmp rfl rfl ⟨rfl, rfl⟩
              ·rw [if_neg c223] at H
               refine ent_value_on (ov_move rfl) rfl rfl rfl (decide_eq_false c223) rfl rfl ?_
               refine ent_value_on (ov_move rfl) rfl rfl rfl (decide_eq_false c223) rfl rfl ?_
               refine ent_value_on (ov_indexArr (o := 0) rfl rfl F_array_96 F_size_95 (by decide) c222) rfl rfl rfl (decide_eq_false c223) rfl rfl ?_
               refine ent_value_on (ov_fieldAddr (sz := 0) (o := 8) rfl F_field_95_1 F_size_2) rfl rfl rfl (decide_eq_false c223) rfl rfl ?_
               refine ent_value_on (ov_load (v := (int .i64 x4.2.2.2.2.2.2.2.2.2.1)) rfl F_agg_2 (reads_box1 (i := 0) rfl rfl)) rfl rfl rfl (decide_eq_false c223) rfl rfl ?_
               refine ent_value_on (ov_bin rfl rfl (b_gtr _ _ _)) rfl rfl rfl (decide_eq_false c223) rfl rfl ?_
               refine ent_value (ov_pick rfl rfl rfl (pick_f (decide_eq_false c223))) rfl rfl rfl ?_
               refine ent_nil ?_
               by_cases c224 : x4.2.2.2.2.2.2.2.2.2.1 < x6.2.2.2.2.1
               ·rw [if_pos c224] at H
                refine ent_cond_true rfl (decide_eq_true c224) ?_
                refine ent_seq ?_
                refine ent_region ?_
                refine ent_value (ov_assign rfl) rfl rfl rfl ?_
                refine ent_nil ?_
                refine ent_retc ?_
                cases H
                refine ent_pick [] (by decide) rfl ?_
                exact ret_tmp rfl rfl ⟨rfl, rfl⟩
               ·rw [if_neg c224] at H
                refine ent_cond_false rfl (decide_eq_false c224) ?_
                refine ent_skip ?_
                refine ent_region ?_
                refine ent_value (ov_binL (m' := 5) rfl rfl (b_add _ _ _) (by decide)) rfl rfl rfl ?_
                refine ent_value (ov_move rfl) rfl rfl rfl ?_
                refine ent_nil ?_
                refine ent_round ?_
                refine ent_seq ?_
                refine ent_region ?_
                refine ent_value (ov_bin rfl rfl (b_lss _ _ _)) rfl rfl rfl ?_
                refine ent_nil ?_
                refine ent_seq ?_
                refine ent_cond_true rfl rfl ?_
                refine ent_skip ?_
                refine ent_seq ?_
                refine ent_block ?_
                refine ent_seq ?_
                refine ent_region ?_
                refine ent_value (ov_move rfl) rfl rfl rfl ?_
                refine ent_value (ov_indexAggN rfl rfl F_array_98 F_size_2 F_agg_2 (by decide) (by decide) rfl) rfl rfl rfl ?_
                refine ent_value (ov_assign rfl) rfl rfl rfl ?_
                refine ent_value (ov_assign rfl) rfl rfl rfl ?_
                refine ent_nil ?_
                refine ent_seq ?_
                refine ent_region ?_
                refine ent_value (ov_move rfl) rfl rfl rfl ?_
                refine ent_value (ov_move rfl) rfl rfl rfl ?_
                by_cases c228 : 5 < (9 : Int)
                ·rw [if_pos c228] at H
                 refine ent_value (ov_indexArr (o := 0) rfl rfl F_array_96 F_size_95 (by decide) c228) rfl rfl rfl ?_
                 refine ent_value (ov_fieldAddr (sz := 0) (o := 10) rfl F_field_95_0 F_size_2) rfl rfl rfl ?_
                 refine ent_value (ov_load (v := (int .i64 x4.2.2.2.2.2.2.2.2.2.2.1)) rfl F_agg_2 (reads_box1 (i := 0) rfl rfl)) rfl rfl rfl ?_
                 refine ent_value (ov_bin rfl rfl (b_lss _ _ _)) rfl rfl rfl ?_
                 refine ent_value (ov_move rfl) rfl rfl rfl ?_
                 by_cases c229 : x6.2.2.2.2.2.1 < x4.2.2.2.2.2.2.2.2.2.2.1
                 ·rw [if_pos c229] at H
                  refine ent_off rfl rfl rfl (decide_eq_true c229) rfl rfl ?_
                  refine ent_off rfl rfl rfl (decide_eq_true c229) rfl rfl ?_
                  refine ent_off rfl rfl rfl (decide_eq_true c229) rfl rfl ?_
                  refine ent_off rfl rfl rfl (decide_eq_true c229) rfl rfl ?_
                  refine ent_off rfl rfl rfl (decide_eq_true c229) rfl rfl ?_
                  refine ent_off rfl rfl rfl (decide_eq_true c229) rfl rfl ?_
                  refine ent_value (ov_pick rfl rfl rfl (pick_t (decide_eq_true c229))) rfl rfl rfl ?_
                  refine ent_nil ?_
                  refine ent_cond_true rfl rfl ?_
                  refine ent_seq ?_
                  refine ent_region ?_
                  refine ent_value (ov_assign rfl) rfl rfl rfl ?_
                  refine ent_nil ?_
                  refine ent_retc ?_
                  cases H
                  refine ent_pick [] (by decide) rfl ?_
                  exact ret_tmp rfl rfl ⟨rfl, rfl⟩
                 ·rw [if_neg c229] at H
                  refine ent_value_on (ov_move rfl) rfl rfl rfl (decide_eq_false c229) rfl rfl ?_
                  refine ent_value_on (ov_move rfl) rfl rfl rfl (decide_eq_false c229) rfl rfl ?_
                  refine ent_value_on (ov_indexArr (o := 0) rfl rfl F_array_96 F_size_95 (by decide) c228) rfl rfl rfl (decide_eq_false c229) rfl rfl ?_
                  refine ent_value_on (ov_fieldAddr (sz := 0) (o := 10) rfl F_field_95_1 F_size_2) rfl rfl rfl (decide_eq_false c229) rfl rfl ?_
                  refine ent_value_on (ov_load (v := (int .i64 x4.2.2.2.2.2.2.2.2.2.2.2.1)) rfl F_agg_2 (reads_box1 (i := 0) rfl rfl)) rfl rfl rfl (decide_eq_false c229) rfl rfl ?_
                  refine ent_value_on (ov_bin rfl rfl (b_gtr _ _ _)) rfl rfl rfl (decide_eq_false c229) rfl rfl ?_
                  refine ent_value (ov_pick rfl rfl rfl (pick_f (decide_eq_false c229))) rfl rfl rfl ?_
                  refine ent_nil ?_
                  by_cases c230 : x4.2.2.2.2.2.2.2.2.2.2.2.1 < x6.2.2.2.2.2.1
                  ·rw [if_pos c230] at H
                   refine ent_cond_true rfl (decide_eq_true c230) ?_
                   refine ent_seq ?_
                   refine ent_region ?_
                   refine ent_value (ov_assign rfl) rfl rfl rfl ?_
                   refine ent_nil ?_
                   refine ent_retc ?_
                   cases H
                   refine ent_pick [] (by decide) rfl ?_
                   exact ret_tmp rfl rfl ⟨rfl, rfl⟩
                  ·rw [if_neg c230] at H
                   refine ent_cond_false rfl (decide_eq_false c230) ?_
                   refine ent_skip ?_
                   refine ent_region ?_
                   refine ent_value (ov_binL (m' := 6) rfl rfl (b_add _ _ _) (by decide)) rfl rfl rfl ?_
                   refine ent_value (ov_move rfl) rfl rfl rfl ?_
                   refine ent_nil ?_
                   refine ent_round ?_
                   refine ent_seq ?_
                   refine ent_region ?_
                   refine ent_value (ov_bin rfl rfl (b_lss _ _ _)) rfl rfl rfl ?_
                   refine ent_nil ?_
                   refine ent_seq ?_
                   refine ent_cond_true rfl rfl ?_
                   refine ent_skip ?_
                   refine ent_seq ?_
                   refine ent_block ?_
                   refine ent_seq ?_
                   refine ent_region ?_
                   refine ent_value (ov_move rfl) rfl rfl rfl ?_
                   refine ent_value (ov_indexAggN rfl rfl F_array_98 F_size_2 F_agg_2 (by decide) (by decide) rfl) rfl rfl rfl ?_
                   refine ent_value (ov_assign rfl) rfl rfl rfl ?_
                   refine ent_value (ov_assign rfl) rfl rfl rfl ?_
                   refine ent_nil ?_
                   refine ent_seq ?_
                   refine ent_region ?_
                   refine ent_value (ov_move rfl) rfl rfl rfl ?_
                   refine ent_value (ov_move rfl) rfl rfl rfl ?_
                   by_cases c234 : 6 < (9 : Int)
                   ·rw [if_pos c234] at H
                    refine ent_value (ov_indexArr (o := 0) rfl rfl F_array_96 F_size_95 (by decide) c234) rfl rfl rfl ?_
                    refine ent_value (ov_fieldAddr (sz := 0) (o := 12) rfl F_field_95_0 F_size_2) rfl rfl rfl ?_
                    refine ent_value (ov_load (v := (int .i64 x4.2.2.2.2.2.2.2.2.2.2.2.2.1)) rfl F_agg_2 (reads_box1 (i := 0) rfl rfl)) rfl rfl rfl ?_
                    refine ent_value (ov_bin rfl rfl (b_lss _ _ _)) rfl rfl rfl ?_
                    refine ent_value (ov_move rfl) rfl rfl rfl ?_
                    by_cases c235 : x6.2.2.2.2.2.2.1 < x4.2.2.2.2.2.2.2.2.2.2.2.2.1
                    ·rw [if_pos c235] at H
                     refine ent_off rfl rfl rfl (decide_eq_true c235) rfl rfl ?_
                     refine ent_off rfl rfl rfl (decide_eq_true c235) rfl rfl ?_
                     refine ent_off rfl rfl rfl (decide_eq_true c235) rfl rfl ?_
                     refine ent_off rfl rfl rfl (decide_eq_true c235) rfl rfl ?_
                     refine ent_off rfl rfl rfl (decide_eq_true c235) rfl rfl ?_
                     refine ent_off rfl rfl rfl (decide_eq_true c235) rfl rfl ?_
                     refine ent_value (ov_pick rfl rfl rfl (pick_t (decide_eq_true c235))) rfl rfl rfl ?_
                     refine ent_nil ?_
                     refine ent_cond_true rfl rfl ?_
                     refine ent_seq ?_
                     refine ent_region ?_
                     refine ent_value (ov_assign rfl) rfl rfl rfl ?_
                     refine ent_nil ?_
                     refine ent_retc ?_
                     cases H
                     refine ent_pick [] (by decide) rfl ?_
                     exact ret_tmp rfl rfl ⟨rfl, rfl⟩
                    ·rw [if_neg c235] at H
                     refine ent_value_on (ov_move rfl) rfl rfl rfl (decide_eq_false c235) rfl rfl ?_
                     refine ent_value_on (ov_move rfl) rfl rfl rfl (decide_eq_false c235) rfl rfl ?_
                     refine ent_value_on (ov_indexArr (o := 0) rfl rfl F_array_96 F_size_95 (by decide) c234) rfl rfl rfl (decide_eq_false c235) rfl rfl ?_
                     refine ent_value_on (ov_fieldAddr (sz := 0) (o := 12) rfl F_field_95_1 F_size_2) rfl rfl rfl (decide_eq_false c235) rfl rfl ?_
                     refine ent_value_on (ov_load (v := (int .i64 x4.2.2.2.2.2.2.2.2.2.2.2.2.2.1)) rfl F_agg_2 (reads_box1 (i := 0) rfl rfl)) rfl rfl rfl (decide_eq_false c235) rfl rfl ?_
                     refine ent_value_on (ov_bin rfl rfl (b_gtr _ _ _)) rfl rfl rfl (decide_eq_false c235) rfl rfl ?_
                     refine ent_value (ov_pick rfl rfl rfl (pick_f (decide_eq_false c235))) rfl rfl rfl ?_
                     refine ent_nil ?_
                     by_cases c236 : x4.2.2.2.2.2.2.2.2.2.2.2.2.2.1 < x6.2.2.2.2.2.2.1
                     ·rw [if_pos c236] at H
                      refine ent_cond_true rfl (decide_eq_true c236) ?_
                      refine ent_seq ?_
                      refine ent_region ?_
                      refine ent_value (ov_assign rfl) rfl rfl rfl ?_
                      refine ent_nil ?_
                      refine ent_retc ?_
                      cases H
                      refine ent_pick [] (by decide) rfl ?_
                      exact ret_tmp rfl rfl ⟨rfl, rfl⟩
                     ·rw [if_neg c236] at H
                      refine ent_cond_false rfl (decide_eq_false c236) ?_
                      refine ent_skip ?_
                      refine ent_region ?_
                      refine ent_value (ov_binL (m' := 7) rfl rfl (b_add _ _ _) (by decide)) rfl rfl rfl ?_
                      refine ent_value (ov_move rfl) rfl rfl rfl ?_
                      refine ent_nil ?_
                      refine ent_round ?_
                      refine ent_seq ?_
                      refine ent_region ?_
                      refine ent_value (ov_bin rfl rfl (b_lss _ _ _)) rfl rfl rfl ?_
                      refine ent_nil ?_
                      refine ent_seq ?_
                      refine ent_cond_true rfl rfl ?_
                      refine ent_skip ?_
                      refine ent_seq ?_
                      refine ent_block ?_
                      refine ent_seq ?_
                      refine ent_region ?_
                      refine ent_value (ov_move rfl) rfl rfl rfl ?_
                      refine ent_value (ov_indexAggN rfl rfl F_array_98 F_size_2 F_agg_2 (by decide) (by decide) rfl) rfl rfl rfl ?_
                      refine ent_value (ov_assign rfl) rfl rfl rfl ?_
                      refine ent_value (ov_assign rfl) rfl rfl rfl ?_
                      refine ent_nil ?_
                      refine ent_seq ?_
                      refine ent_region ?_
                      refine ent_value (ov_move rfl) rfl rfl rfl ?_
                      refine ent_value (ov_move rfl) rfl rfl rfl ?_
                      by_cases c240 : 7 < (9 : Int)
                      ·rw [if_pos c240] at H
                       refine ent_value (ov_indexArr (o := 0) rfl rfl F_array_96 F_size_95 (by decide) c240) rfl rfl rfl ?_
                       refine ent_value (ov_fieldAddr (sz := 0) (o := 14) rfl F_field_95_0 F_size_2) rfl rfl rfl ?_
                       refine ent_value (ov_load (v := (int .i64 x4.2.2.2.2.2.2.2.2.2.2.2.2.2.2.1)) rfl F_agg_2 (reads_box1 (i := 0) rfl rfl)) rfl rfl rfl ?_
                       refine ent_value (ov_bin rfl rfl (b_lss _ _ _)) rfl rfl rfl ?_
                       refine ent_value (ov_move rfl) rfl rfl rfl ?_
                       by_cases c241 : x6.2.2.2.2.2.2.2.1 < x4.2.2.2.2.2.2.2.2.2.2.2.2.2.2.1
                       ·rw [if_pos c241] at H
                        refine ent_off rfl rfl rfl (decide_eq_true c241) rfl rfl ?_
                        refine ent_off rfl rfl rfl (decide_eq_true c241) rfl rfl ?_
                        refine ent_off rfl rfl rfl (decide_eq_true c241) rfl rfl ?_
                        refine ent_off rfl rfl rfl (decide_eq_true c241) rfl rfl ?_
                        refine ent_off rfl rfl rfl (decide_eq_true c241) rfl rfl ?_
                        refine ent_off rfl rfl rfl (decide_eq_true c241) rfl rfl ?_
                        refine ent_value (ov_pick rfl rfl rfl (pick_t (decide_eq_true c241))) rfl rfl rfl ?_
                        refine ent_nil ?_
                        refine ent_cond_true rfl rfl ?_
                        refine ent_seq ?_
                        refine ent_region ?_
                        refine ent_value (ov_assign rfl) rfl rfl rfl ?_
                        refine ent_nil ?_
                        refine ent_retc ?_
                        cases H
                        refine ent_pick [] (by decide) rfl ?_
                        exact ret_tmp rfl rfl ⟨rfl, rfl⟩
                       ·rw [if_neg c241] at H
                        refine ent_value_on (ov_move rfl) rfl rfl rfl (decide_eq_false c241) rfl rfl ?_
                        refine ent_value_on (ov_move rfl) rfl rfl rfl (decide_eq_false c241) rfl rfl ?_
                        refine ent_value_on (ov_indexArr (o := 0) rfl rfl F_array_96 F_size_95 (by decide) c240) rfl rfl rfl (decide_eq_false c241) rfl rfl ?_
                        refine ent_value_on (ov_fieldAddr (sz := 0) (o := 14) rfl F_field_95_1 F_size_2) rfl rfl rfl (decide_eq_false c241) rfl rfl ?_
                        refine ent_value_on (ov_load (v := (int .i64 x4.2.2.2.2.2.2.2.2.2.2.2.2.2.2.2.1)) rfl F_agg_2 (reads_box1 (i := 0) rfl rfl)) rfl rfl rfl (decide_eq_false c241) rfl rfl ?_
                        refine ent_value_on (ov_bin rfl rfl (b_gtr _ _ _)) rfl rfl rfl (decide_eq_false c241) rfl rfl ?_
                        refine ent_value (ov_pick rfl rfl rfl (pick_f (decide_eq_false c241))) rfl rfl rfl ?_
                        refine ent_nil ?_
                        by_cases c242 : x4.2.2.2.2.2.2.2.2.2.2.2.2.2.2.2.1 < x6.2.2.2.2.2.2.2.1
                        ·rw [if_pos c242] at H
                         refine ent_cond_true rfl (decide_eq_true c242) ?_
                         refine ent_seq ?_
                         refine ent_region ?_
                         refine ent_value (ov_assign rfl) rfl rfl rfl ?_
                         refine ent_nil ?_
                         refine ent_retc ?_
                         cases H
                         refine ent_pick [] (by decide) rfl ?_
                         exact ret_tmp rfl rfl ⟨rfl, rfl⟩
                        ·rw [if_neg c242] at H
                         refine ent_cond_false rfl (decide_eq_false c242) ?_
                         refine ent_skip ?_
                         refine ent_region ?_
                         refine ent_value (ov_binL (m' := 8) rfl rfl (b_add _ _ _) (by decide)) rfl rfl rfl ?_
                         refine ent_value (ov_move rfl) rfl rfl rfl ?_
                         refine ent_nil ?_
                         refine ent_round ?_
                         refine ent_seq ?_
                         refine ent_region ?_
                         refine ent_value (ov_bin rfl rfl (b_lss _ _ _)) rfl rfl rfl ?_
                         refine ent_nil ?_
                         refine ent_seq ?_
                         refine ent_cond_true rfl rfl ?_
                         refine ent_skip ?_
                         refine ent_seq ?_
                         refine ent_block ?_
                         refine ent_seq ?_
                         refine ent_region ?_
                         refine ent_value (ov_move rfl) rfl rfl rfl ?_
                         refine ent_value (ov_indexAggN rfl rfl F_array_98 F_size_2 F_agg_2 (by decide) (by decide) rfl) rfl rfl rfl ?_
                         refine ent_value (ov_assign rfl) rfl rfl rfl ?_
                         refine ent_value (ov_assign rfl) rfl rfl rfl ?_
                         refine ent_nil ?_
                         refine ent_seq ?_
                         refine ent_region ?_
                         refine ent_value (ov_move rfl) rfl rfl rfl ?_
                         refine ent_value (ov_move rfl) rfl rfl rfl ?_
                         by_cases c246 : 8 < (9 : Int)
                         ·rw [if_pos c246] at H
                          refine ent_value (ov_indexArr (o := 0) rfl rfl F_array_96 F_size_95 (by decide) c246) rfl rfl rfl ?_
                          refine ent_value (ov_fieldAddr (sz := 0) (o := 16) rfl F_field_95_0 F_size_2) rfl rfl rfl ?_
                          refine ent_value (ov_load (v := (int .i64 x4.2.2.2.2.2.2.2.2.2.2.2.2.2.2.2.2.1)) rfl F_agg_2 (reads_box1 (i := 0) rfl rfl)) rfl rfl rfl ?_
                          refine ent_value (ov_bin rfl rfl (b_lss _ _ _)) rfl rfl rfl ?_
                          refine ent_value (ov_move rfl) rfl rfl rfl ?_
                          by_cases c247 : x6.2.2.2.2.2.2.2.2 < x4.2.2.2.2.2.2.2.2.2.2.2.2.2.2.2.2.1
                          ·rw [if_pos c247] at H
                           refine ent_off rfl rfl rfl (decide_eq_true c247) rfl rfl ?_
                           refine ent_off rfl rfl rfl (decide_eq_true c247) rfl rfl ?_
                           refine ent_off rfl rfl rfl (decide_eq_true c247) rfl rfl ?_
                           refine ent_off rfl rfl rfl (decide_eq_true c247) rfl rfl ?_
                           refine ent_off rfl rfl rfl (decide_eq_true c247) rfl rfl ?_
                           refine ent_off rfl rfl rfl (decide_eq_true c247) rfl rfl ?_
                           refine ent_value (ov_pick rfl rfl rfl (pick_t (decide_eq_true c247))) rfl rfl rfl ?_
                           refine ent_nil ?_
                           refine ent_cond_true rfl rfl ?_
                           refine ent_seq ?_
                           refine ent_region ?_
                           refine ent_value (ov_assign rfl) rfl rfl rfl ?_
                           refine ent_nil ?_
                           refine ent_retc ?_
                           cases H
                           refine ent_pick [] (by decide) rfl ?_
                           exact ret_tmp rfl rfl ⟨rfl, rfl⟩
                          ·rw [if_neg c247] at H
                           refine ent_value_on (ov_move rfl) rfl rfl rfl (decide_eq_false c247) rfl rfl ?_
                           refine ent_value_on (ov_move rfl) rfl rfl rfl (decide_eq_false c247) rfl rfl ?_
                           refine ent_value_on (ov_indexArr (o := 0) rfl rfl F_array_96 F_size_95 (by decide) c246) rfl rfl rfl (decide_eq_false c247) rfl rfl ?_
                           refine ent_value_on (ov_fieldAddr (sz := 0) (o := 16) rfl F_field_95_1 F_size_2) rfl rfl rfl (decide_eq_false c247) rfl rfl ?_
                           refine ent_value_on (ov_load (v := (int .i64 x4.2.2.2.2.2.2.2.2.2.2.2.2.2.2.2.2.2)) rfl F_agg_2 (reads_box1 (i := 0) rfl rfl)) rfl rfl rfl (decide_eq_false c247) rfl rfl ?_
                           refine ent_value_on (ov_bin rfl rfl (b_gtr _ _ _)) rfl rfl rfl (decide_eq_false c247) rfl rfl ?_
                           refine ent_value (ov_pick rfl rfl rfl (pick_f (decide_eq_false c247))) rfl rfl rfl ?_
                           refine ent_nil ?_
                           by_cases c248 : x4.2.2.2.2.2.2.2.2.2.2.2.2.2.2.2.2.2 < x6.2.2.2.2.2.2.2.2
                           ·rw [if_pos c248] at H
                            refine ent_cond_true rfl (decide_eq_true c248) ?_
                            refine ent_seq ?_
                            refine ent_region ?_
                            refine ent_value (ov_assign rfl) rfl rfl rfl ?_
                            refine ent_nil ?_
                            refine ent_retc ?_
                            cases H
                            refine ent_pick [] (by decide) rfl ?_
                            exact ret_tmp rfl rfl ⟨rfl, rfl⟩
                           ·rw [if_neg c248] at H
                            refine ent_cond_false rfl (decide_eq_false c248) ?_
                            refine ent_skip ?_
                            refine ent_region ?_
                            refine ent_value (ov_binL (m' := 9) rfl rfl (b_add _ _ _) (by decide)) rfl rfl rfl ?_
                            refine ent_value (ov_move rfl) rfl rfl rfl ?_
                            refine ent_nil ?_
                            refine ent_round ?_
                            refine ent_seq ?_
                            refine ent_region ?_
                            refine ent_value (ov_bin rfl rfl (b_lss _ _ _)) rfl rfl rfl ?_
                            refine ent_nil ?_
                            refine ent_seq ?_
                            refine ent_cond_false rfl rfl ?_
                            refine ent_exit ?_
                            refine ent_seq ?_
                            refine ent_region ?_
                            refine ent_value (ov_assign rfl) rfl rfl rfl ?_
                            refine ent_nil ?_
                            refine ent_retc ?_
                            cases H
                            refine ent_pick [] (by decide) rfl ?_
                            exact ret_tmp rfl rfl ⟨rfl, rfl⟩
                         ·rw [if_neg c246] at H
                          cases H
                      ·rw [if_neg c240] at H
                       cases H
                   ·rw [if_neg c234] at H
                    cases H
                ·rw [if_neg c228] at H
                 cases H
             ·rw [if_neg c222] at H
              cases H
          ·rw [if_neg c216] at H
           cases H
       ·rw [if_neg c210] at H
        cases H
    ·rw [if_neg c204] at H
     cases H
 ·rw [if_neg c198] at H
  cases H

theorem policy_Lag.spec (a0_0 : Int) (a0_1 : Int) (a0_2 : Int) (a0_3 : Int) (a0_4 : Int) (a0_5 : Int) (a0_6 : Int) (a0_7 : Int) (a0_8 : Int) (a1 : Int) (r : (Int × Bool)) (H : policy_Lag a0_0 a0_1 a0_2 a0_3 a0_4 a0_5 a0_6 a0_7 a0_8 a1 = some r) : FnSpec Try.prog 51 [(agg #[(int .i64 a0_0), (int .i64 a0_1), (int .i64 a0_2), (int .i64 a0_3), (int .i64 a0_4), (int .i64 a0_5), (int .i64 a0_6), (int .i64 a0_7), (int .i64 a0_8)]), (int .i64 a1)] [] (fun v M => v = (Value.tuple #[(int .i64 r.1), (bool r.2)]) ∧ M = []) := by
 unfold policy_Lag at H
 refine spec_of Try.func51 rfl 23 rfl (Nat.le_of_ble_eq_true rfl) fun F w0 => ?_
 show Ent (St 23 w0 F [(0, (agg #[(int .i64 a0_0), (int .i64 a0_1), (int .i64 a0_2), (int .i64 a0_3), (int .i64 a0_4), (int .i64 a0_5), (int .i64 a0_6), (int .i64 a0_7), (int .i64 a0_8)])), (1, (int .i64 a1))] []) _
 refine ent_seq ?_
 refine ent_region ?_
 refine ent_op (ot_box (cs := [(int .i64 a0_0), (int .i64 a0_1), (int .i64 a0_2), (int .i64 a0_3), (int .i64 a0_4), (int .i64 a0_5), (int .i64 a0_6), (int .i64 a0_7), (int .i64 a0_8)]) rfl rfl) rfl rfl rfl ?_
 rintro _ _ ⟨b3, rfl, rfl⟩
 refine ent_value (ov_assign rfl) rfl rfl rfl ?_
 refine ent_value (ov_assign rfl) rfl rfl rfl ?_
 refine ent_nil ?_
 refine ent_seq ?_
 refine ent_region ?_
 refine ent_value (ov_fieldAddr (sz := 0) (o := 0) rfl F_field_24_1 F_size_2) rfl rfl rfl ?_
 refine ent_value (ov_load (v := (int .i64 a0_1)) rfl F_agg_2 (reads_box1 (i := 0) rfl rfl)) rfl rfl rfl ?_
 refine ent_value (ov_fieldAddr (sz := 0) (o := 0) rfl F_field_24_2 F_size_2) rfl rfl rfl ?_
 refine ent_value (ov_load (v := (int .i64 a0_2)) rfl F_agg_2 (reads_box1 (i := 0) rfl rfl)) rfl rfl rfl ?_
 refine ent_value (ov_fieldAddr (sz := 0) (o := 0) rfl F_field_24_3 F_size_2) rfl rfl rfl ?_
 refine ent_value (ov_load (v := (int .i64 a0_3)) rfl F_agg_2 (reads_box1 (i := 0) rfl rfl)) rfl rfl rfl ?_
 refine ent_value (ov_build (is := [1, 2, 3]) (xs := [.tmp 8, .tmp 10, .tmp 12]) (vs := [(int .i64 a0_1), (int .i64 a0_2), (int .i64 a0_3)]) rfl rfl (build_array (cs := [(int .i64 0), (int .i64 a0_1), (int .i64 a0_2), (int .i64 a0_3)]) F_zero_112 F_array_112 F_size_2 rfl)) rfl rfl rfl ?_
 refine ent_op (ot_alloc F_zero_112) rfl rfl rfl ?_
 rintro _ _ ⟨b4, rfl, rfl⟩
 refine ent_op0 (ot_storeG (cs := [(int .i64 0), (int .i64 0), (int .i64 0), (int .i64 0)]) (cs' := [(int .i64 0), (int .i64 a0_1), (int .i64 a0_2), (int .i64 a0_3)]) (us := [(int .i64 0), (int .i64 a0_1), (int .i64 a0_2), (int .i64 a0_3)]) (L' := [(box b4 112 [(int .i64 0), (int .i64 a0_1), (int .i64 a0_2), (int .i64 a0_3)]), (box b3 24 [(int .i64 a0_0), (int .i64 a0_1), (int .i64 a0_2), (int .i64 a0_3), (int .i64 a0_4), (int .i64 a0_5), (int .i64 a0_6), (int .i64 a0_7), (int .i64 a0_8)])]) 0 rfl rfl rfl (one_all rfl) F_size_112 rfl rfl (by simp) rfl) rfl rfl ?_
 rintro _ _ rfl
 refine ent_nil ?_
 refine ent_seq ?_
 refine ent_seq ?_
 refine ent_region ?_
 refine ent_value (ov_move rfl) rfl rfl rfl ?_
 refine ent_value (ov_bin rfl rfl (b_lss _ _ _)) rfl rfl rfl ?_
 refine ent_value (ov_move rfl) rfl rfl rfl ?_
 by_cases c9 : a1 < 1
 ·rw [if_pos c9] at H
  refine ent_off rfl rfl rfl (decide_eq_true c9) rfl rfl ?_
  refine ent_off rfl rfl rfl (decide_eq_true c9) rfl rfl ?_
  refine ent_value (ov_pick rfl rfl rfl (pick_t (decide_eq_true c9))) rfl rfl rfl ?_
  refine ent_nil ?_
  refine ent_cond_true rfl rfl ?_
  refine ent_seq ?_
  refine ent_region ?_
  refine ent_value (ov_assign rfl) rfl rfl rfl ?_
  refine ent_value (ov_assign rfl) rfl rfl rfl ?_
  refine ent_nil ?_
  refine ent_retc ?_
  cases H
  refine ent_pick [] (by decide) rfl ?_
  exact ret_mem (vs := [(int .i64 0), (bool false)]) rfl ⟨rfl, ⟨rfl, trivial⟩⟩ _ rfl ⟨rfl, rfl⟩
 ·rw [if_neg c9] at H
  refine ent_value_on (ov_move rfl) rfl rfl rfl (decide_eq_false c9) rfl rfl ?_
  refine ent_value_on (ov_bin rfl rfl (b_gtr _ _ _)) rfl rfl rfl (decide_eq_false c9) rfl rfl ?_
  refine ent_value (ov_pick rfl rfl rfl (pick_f (decide_eq_false c9))) rfl rfl rfl ?_
  refine ent_nil ?_
  by_cases c10 : 3 < a1
  ·rw [if_pos c10] at H
   refine ent_cond_true rfl (decide_eq_true c10) ?_
   refine ent_seq ?_
   refine ent_region ?_
   refine ent_value (ov_assign rfl) rfl rfl rfl ?_
   refine ent_value (ov_assign rfl) rfl rfl rfl ?_
   refine ent_nil ?_
   refine ent_retc ?_
   cases H
   refine ent_pick [] (by decide) rfl ?_
   exact ret_mem (vs := [(int .i64 0), (bool false)]) rfl ⟨rfl, ⟨rfl, trivial⟩⟩ _ rfl ⟨rfl, rfl⟩
  ·rw [if_neg c10] at H
   refine ent_cond_false rfl (decide_eq_false c10) ?_
   refine ent_skip ?_
   refine ent_seq ?_
   refine ent_region ?_
   refine ent_value (ov_move rfl) rfl rfl rfl ?_
   by_cases c11 : 0 ≤ a1
   ·rw [if_pos c11] at H
    by_cases c12 : a1 < (4 : Int)
    ·rw [if_pos c12] at H
     refine ent_value (ov_indexArr (o := 0) rfl rfl F_array_112 F_size_2 c11 c12) rfl rfl rfl ?_
     refine ent_value (ov_load (v := (int .i64 ([0, a0_1, a0_2, a0_3].getD a1.toNat 0))) rfl F_agg_2 (reads_boxA (i := 0) (enc := (eI .i64)) (z := 0) (xs := [0, a0_1, a0_2, a0_3]) rfl (eI_len _) rfl (ix_lt c11 c12))) rfl rfl rfl ?_
     refine ent_value (ov_assign rfl) rfl rfl rfl ?_
     refine ent_value (ov_assign rfl) rfl rfl rfl ?_
     refine ent_nil ?_
     refine ent_retc ?_
     cases H
     refine ent_pick [] (by decide) rfl ?_
     exact ret_mem (vs := [(int .i64 ([0, a0_1, a0_2, a0_3].getD a1.toNat 0)), (bool true)]) rfl ⟨rfl, ⟨rfl, trivial⟩⟩ _ rfl ⟨rfl, rfl⟩
    ·rw [if_neg c12] at H
     cases H
   ·rw [if_neg c11] at H
    cases H

theorem civil_DayOf.spec (a0 : Int) (r : Int) (H : civil_DayOf a0 = r) : FnSpec Try.prog 65 [(int .i64 a0)] [] (fun v M => v = (int .i64 r) ∧ M = []) := by
 unfold civil_DayOf at H
 refine spec_of Try.func65 rfl 5 rfl (Nat.le_of_ble_eq_true rfl) fun F w0 => ?_
 show Ent (St 5 w0 F [(0, (int .i64 a0))] []) _
 refine ent_seq ?_
 refine ent_region ?_
 refine ent_value (ov_assign rfl) rfl rfl rfl ?_
 refine ent_nil ?_
 refine ent_seq ?_
 refine ent_region ?_
 refine ent_value (ov_move rfl) rfl rfl rfl ?_
 refine ent_value (ov_bin rfl rfl fun w => b_quo _ _ _ w (by decide)) rfl rfl rfl ?_
 refine ent_value (ov_assign rfl) rfl rfl rfl ?_
 refine ent_nil ?_
 refine ent_retc ?_
 cases H
 refine ent_pick [] (by decide) rfl ?_
 exact ret_tmp rfl rfl ⟨rfl, rfl⟩

theorem civil_Date.spec (a0 : Int) (r : (Int × Int × Int)) (H : civil_Date a0 = r) : FnSpec Try.prog 85 [(int .i64 a0)] [] (fun v M => v = (Value.tuple #[(int .i64 r.1), (int .i64 r.2.1), (int .i64 r.2.2)]) ∧ M = []) := by
 unfold civil_Date at H
 refine spec_of Try.func85 rfl 62 rfl (Nat.le_of_ble_eq_true rfl) fun F w0 => ?_
 show Ent (St 62 w0 F [(0, (int .i64 a0))] []) _
 refine ent_seq ?_
 refine ent_region ?_
 refine ent_value (ov_assign rfl) rfl rfl rfl ?_
 refine ent_value (ov_assign rfl) rfl rfl rfl ?_
 refine ent_value (ov_assign rfl) rfl rfl rfl ?_
 refine ent_nil ?_
 refine ent_seq ?_
 refine ent_region ?_
 refine ent_value (ov_move rfl) rfl rfl rfl ?_
 refine ent_value (ov_bin rfl rfl (b_add _ _ _) ) rfl rfl rfl ?_
 refine ent_value (ov_assign rfl) rfl rfl rfl ?_
 refine ent_nil ?_
 refine ent_seq ?_
 refine ent_region ?_
 refine ent_value (ov_move rfl) rfl rfl rfl ?_
 refine ent_value (ov_bin rfl rfl fun w => b_rem _ _ _ w (by decide)) rfl rfl rfl ?_
 refine ent_value (ov_assign rfl) rfl rfl rfl ?_
 refine ent_nil ?_
 refine ent_seq ?_
 refine ent_region ?_
 refine ent_value (ov_move rfl) rfl rfl rfl ?_
 refine ent_value (ov_move rfl) rfl rfl rfl ?_
 refine ent_value (ov_bin rfl rfl fun w => b_quo _ _ _ w (by decide)) rfl rfl rfl ?_
 refine ent_value (ov_bin rfl rfl (b_sub _ _ _) ) rfl rfl rfl ?_
 refine ent_value (ov_move rfl) rfl rfl rfl ?_
 refine ent_value (ov_bin rfl rfl fun w => b_quo _ _ _ w (by decide)) rfl rfl rfl ?_
 refine ent_value (ov_bin rfl rfl (b_add _ _ _) ) rfl rfl rfl ?_
 refine ent_value (ov_move rfl) rfl rfl rfl ?_
 refine ent_value (ov_bin rfl rfl fun w => b_quo _ _ _ w (by decide)) rfl rfl rfl ?_
 refine ent_value (ov_bin rfl rfl (b_sub _ _ _) ) rfl rfl rfl ?_
 refine ent_value (ov_bin rfl rfl fun w => b_quo _ _ _ w (by decide)) rfl rfl rfl ?_
 refine ent_value (ov_assign rfl) rfl rfl rfl ?_
 refine ent_nil ?_
 refine ent_seq ?_
 refine ent_region ?_
 refine ent_value (ov_move rfl) rfl rfl rfl ?_
 refine ent_value (ov_move rfl) rfl rfl rfl ?_
 refine ent_value (ov_bin rfl rfl (b_mul _ _ _) ) rfl rfl rfl ?_
 refine ent_value (ov_move rfl) rfl rfl rfl ?_
 refine ent_value (ov_bin rfl rfl fun w => b_quo _ _ _ w (by decide)) rfl rfl rfl ?_
 refine ent_value (ov_bin rfl rfl (b_add _ _ _) ) rfl rfl rfl ?_
 refine ent_value (ov_move rfl) rfl rfl rfl ?_
 refine ent_value (ov_bin rfl rfl fun w => b_quo _ _ _ w (by decide)) rfl rfl rfl ?_
 refine ent_value (ov_bin rfl rfl (b_sub _ _ _) ) rfl rfl rfl ?_
 refine ent_value (ov_bin rfl rfl (b_sub _ _ _) ) rfl rfl rfl ?_
 refine ent_value (ov_assign rfl) rfl rfl rfl ?_
 refine ent_nil ?_
 refine ent_seq ?_
 refine ent_region ?_
 refine ent_value (ov_move rfl) rfl rfl rfl ?_
 refine ent_value (ov_bin rfl rfl (b_mul _ _ _) ) rfl rfl rfl ?_
 refine ent_value (ov_bin rfl rfl (b_add _ _ _) ) rfl rfl rfl ?_
 refine ent_value (ov_bin rfl rfl fun w => b_quo _ _ _ w (by decide)) rfl rfl rfl ?_
 refine ent_value (ov_assign rfl) rfl rfl rfl ?_
 refine ent_nil ?_
 refine ent_seq ?_
 refine ent_region ?_
 refine ent_value (ov_move rfl) rfl rfl rfl ?_
 refine ent_value (ov_move rfl) rfl rfl rfl ?_
 refine ent_value (ov_bin rfl rfl (b_mul _ _ _) ) rfl rfl rfl ?_
 refine ent_value (ov_bin rfl rfl (b_add _ _ _) ) rfl rfl rfl ?_
 refine ent_value (ov_bin rfl rfl fun w => b_quo _ _ _ w (by decide)) rfl rfl rfl ?_
 refine ent_value (ov_bin rfl rfl (b_sub _ _ _) ) rfl rfl rfl ?_
 refine ent_value (ov_bin rfl rfl (b_add _ _ _) ) rfl rfl rfl ?_
 refine ent_value (ov_assign rfl) rfl rfl rfl ?_
 refine ent_nil ?_
 refine ent_seq ?_
 refine ent_region ?_
 refine ent_value (ov_move rfl) rfl rfl rfl ?_
 refine ent_value (ov_bin rfl rfl fun w => b_quo _ _ _ w (by decide)) rfl rfl rfl ?_
 refine ent_value (ov_bin rfl rfl (b_mul _ _ _) ) rfl rfl rfl ?_
 refine ent_value (ov_move rfl) rfl rfl rfl ?_
 refine ent_value (ov_bin rfl rfl (b_add _ _ _) ) rfl rfl rfl ?_
 refine ent_value (ov_assign rfl) rfl rfl rfl ?_
 refine ent_nil ?_
 refine ent_seq ?_
 refine ent_seq ?_
 refine ent_region ?_
 refine ent_value (ov_move rfl) rfl rfl rfl ?_
 refine ent_value (ov_bin rfl rfl (b_lss _ _ _)) rfl rfl rfl ?_
 refine ent_nil ?_
 by_cases c4 : (w64 (Int.tdiv (w64 ((w64 (5 * (w64 ((Int.tmod (w64 (a0 + 719468)) 146097) - (w64 ((w64 ((w64 (365 * (w64 (Int.tdiv (w64 ((w64 ((w64 ((Int.tmod (w64 (a0 + 719468)) 146097) - (w64 (Int.tdiv (Int.tmod (w64 (a0 + 719468)) 146097) 1460)))) + (w64 (Int.tdiv (Int.tmod (w64 (a0 + 719468)) 146097) 36524)))) - (w64 (Int.tdiv (Int.tmod (w64 (a0 + 719468)) 146097) 146096)))) 365)))) + (w64 (Int.tdiv (w64 (Int.tdiv (w64 ((w64 ((w64 ((Int.tmod (w64 (a0 + 719468)) 146097) - (w64 (Int.tdiv (Int.tmod (w64 (a0 + 719468)) 146097) 1460)))) + (w64 (Int.tdiv (Int.tmod (w64 (a0 + 719468)) 146097) 36524)))) - (w64 (Int.tdiv (Int.tmod (w64 (a0 + 719468)) 146097) 146096)))) 365)) 4)))) - (w64 (Int.tdiv (w64 (Int.tdiv (w64 ((w64 ((w64 ((Int.tmod (w64 (a0 + 719468)) 146097) - (w64 (Int.tdiv (Int.tmod (w64 (a0 + 719468)) 146097) 1460)))) + (w64 (Int.tdiv (Int.tmod (w64 (a0 + 719468)) 146097) 36524)))) - (w64 (Int.tdiv (Int.tmod (w64 (a0 + 719468)) 146097) 146096)))) 365)) 100)))))))) + 2)) 153)) < 10
 ·rw [if_pos c4] at H
  refine ent_cond_true rfl (decide_eq_true c4) ?_
  refine ent_seq ?_
  refine ent_region ?_
  refine ent_value (ov_move rfl) rfl rfl rfl ?_
  refine ent_value (ov_move rfl) rfl rfl rfl ?_
  refine ent_value (ov_bin rfl rfl (b_add _ _ _) ) rfl rfl rfl ?_
  refine ent_value (ov_move rfl) rfl rfl rfl ?_
  refine ent_value (ov_assign rfl) rfl rfl rfl ?_
  refine ent_value (ov_assign rfl) rfl rfl rfl ?_
  refine ent_value (ov_assign rfl) rfl rfl rfl ?_
  refine ent_nil ?_
  refine ent_retc ?_
  cases H
  refine ent_pick [] (by decide) rfl ?_
  exact ret_mem (vs := [(int .i64 (w64 ((w64 ((w64 (Int.tdiv (w64 (a0 + 719468)) 146097)) * 400)) + (w64 (Int.tdiv (w64 ((w64 ((w64 ((Int.tmod (w64 (a0 + 719468)) 146097) - (w64 (Int.tdiv (Int.tmod (w64 (a0 + 719468)) 146097) 1460)))) + (w64 (Int.tdiv (Int.tmod (w64 (a0 + 719468)) 146097) 36524)))) - (w64 (Int.tdiv (Int.tmod (w64 (a0 + 719468)) 146097) 146096)))) 365))))), (int .i64 (w64 ((w64 (Int.tdiv (w64 ((w64 (5 * (w64 ((Int.tmod (w64 (a0 + 719468)) 146097) - (w64 ((w64 ((w64 (365 * (w64 (Int.tdiv (w64 ((w64 ((w64 ((Int.tmod (w64 (a0 + 719468)) 146097) - (w64 (Int.tdiv (Int.tmod (w64 (a0 + 719468)) 146097) 1460)))) + (w64 (Int.tdiv (Int.tmod (w64 (a0 + 719468)) 146097) 36524)))) - (w64 (Int.tdiv (Int.tmod (w64 (a0 + 719468)) 146097) 146096)))) 365)))) + (w64 (Int.tdiv (w64 (Int.tdiv (w64 ((w64 ((w64 ((Int.tmod (w64 (a0 + 719468)) 146097) - (w64 (Int.tdiv (Int.tmod (w64 (a0 + 719468)) 146097) 1460)))) + (w64 (Int.tdiv (Int.tmod (w64 (a0 + 719468)) 146097) 36524)))) - (w64 (Int.tdiv (Int.tmod (w64 (a0 + 719468)) 146097) 146096)))) 365)) 4)))) - (w64 (Int.tdiv (w64 (Int.tdiv (w64 ((w64 ((w64 ((Int.tmod (w64 (a0 + 719468)) 146097) - (w64 (Int.tdiv (Int.tmod (w64 (a0 + 719468)) 146097) 1460)))) + (w64 (Int.tdiv (Int.tmod (w64 (a0 + 719468)) 146097) 36524)))) - (w64 (Int.tdiv (Int.tmod (w64 (a0 + 719468)) 146097) 146096)))) 365)) 100)))))))) + 2)) 153)) + 3))), (int .i64 (w64 ((w64 ((w64 ((Int.tmod (w64 (a0 + 719468)) 146097) - (w64 ((w64 ((w64 (365 * (w64 (Int.tdiv (w64 ((w64 ((w64 ((Int.tmod (w64 (a0 + 719468)) 146097) - (w64 (Int.tdiv (Int.tmod (w64 (a0 + 719468)) 146097) 1460)))) + (w64 (Int.tdiv (Int.tmod (w64 (a0 + 719468)) 146097) 36524)))) - (w64 (Int.tdiv (Int.tmod (w64 (a0 + 719468)) 146097) 146096)))) 365)))) + (w64 (Int.tdiv (w64 (Int.tdiv (w64 ((w64 ((w64 ((Int.tmod (w64 (a0 + 719468)) 146097) - (w64 (Int.tdiv (Int.tmod (w64 (a0 + 719468)) 146097) 1460)))) + (w64 (Int.tdiv (Int.tmod (w64 (a0 + 719468)) 146097) 36524)))) - (w64 (Int.tdiv (Int.tmod (w64 (a0 + 719468)) 146097) 146096)))) 365)) 4)))) - (w64 (Int.tdiv (w64 (Int.tdiv (w64 ((w64 ((w64 ((Int.tmod (w64 (a0 + 719468)) 146097) - (w64 (Int.tdiv (Int.tmod (w64 (a0 + 719468)) 146097) 1460)))) + (w64 (Int.tdiv (Int.tmod (w64 (a0 + 719468)) 146097) 36524)))) - (w64 (Int.tdiv (Int.tmod (w64 (a0 + 719468)) 146097) 146096)))) 365)) 100)))))) - (w64 (Int.tdiv (w64 ((w64 (153 * (w64 (Int.tdiv (w64 ((w64 (5 * (w64 ((Int.tmod (w64 (a0 + 719468)) 146097) - (w64 ((w64 ((w64 (365 * (w64 (Int.tdiv (w64 ((w64 ((w64 ((Int.tmod (w64 (a0 + 719468)) 146097) - (w64 (Int.tdiv (Int.tmod (w64 (a0 + 719468)) 146097) 1460)))) + (w64 (Int.tdiv (Int.tmod (w64 (a0 + 719468)) 146097) 36524)))) - (w64 (Int.tdiv (Int.tmod (w64 (a0 + 719468)) 146097) 146096)))) 365)))) + (w64 (Int.tdiv (w64 (Int.tdiv (w64 ((w64 ((w64 ((Int.tmod (w64 (a0 + 719468)) 146097) - (w64 (Int.tdiv (Int.tmod (w64 (a0 + 719468)) 146097) 1460)))) + (w64 (Int.tdiv (Int.tmod (w64 (a0 + 719468)) 146097) 36524)))) - (w64 (Int.tdiv (Int.tmod (w64 (a0 + 719468)) 146097) 146096)))) 365)) 4)))) - (w64 (Int.tdiv (w64 (Int.tdiv (w64 ((w64 ((w64 ((Int.tmod (w64 (a0 + 719468)) 146097) - (w64 (Int.tdiv (Int.tmod (w64 (a0 + 719468)) 146097) 1460)))) + (w64 (Int.tdiv (Int.tmod (w64 (a0 + 719468)) 146097) 36524)))) - (w64 (Int.tdiv (Int.tmod (w64 (a0 + 719468)) 146097) 146096)))) 365)) 100)))))))) + 2)) 153)))) + 2)) 5)))) + 1)))]) rfl ⟨rfl, ⟨rfl, ⟨rfl, trivial⟩⟩⟩ _ rfl ⟨rfl, rfl⟩
 ·rw [if_neg c4] at H
  refine ent_cond_false rfl (decide_eq_false c4) ?_
  refine ent_skip ?_
  refine ent_seq ?_
  refine ent_region ?_
  refine ent_value (ov_move rfl) rfl rfl rfl ?_
  refine ent_value (ov_bin rfl rfl (b_add _ _ _) ) rfl rfl rfl ?_
  refine ent_value (ov_move rfl) rfl rfl rfl ?_
  refine ent_value (ov_bin rfl rfl (b_sub _ _ _) ) rfl rfl rfl ?_
  refine ent_value (ov_move rfl) rfl rfl rfl ?_
  refine ent_value (ov_assign rfl) rfl rfl rfl ?_
  refine ent_value (ov_assign rfl) rfl rfl rfl ?_
  refine ent_value (ov_assign rfl) rfl rfl rfl ?_
  refine ent_nil ?_
  refine ent_retc ?_
  cases H
  refine ent_pick [] (by decide) rfl ?_
  exact ret_mem (vs := [(int .i64 (w64 ((w64 ((w64 ((w64 (Int.tdiv (w64 (a0 + 719468)) 146097)) * 400)) + (w64 (Int.tdiv (w64 ((w64 ((w64 ((Int.tmod (w64 (a0 + 719468)) 146097) - (w64 (Int.tdiv (Int.tmod (w64 (a0 + 719468)) 146097) 1460)))) + (w64 (Int.tdiv (Int.tmod (w64 (a0 + 719468)) 146097) 36524)))) - (w64 (Int.tdiv (Int.tmod (w64 (a0 + 719468)) 146097) 146096)))) 365)))) + 1))), (int .i64 (w64 ((w64 (Int.tdiv (w64 ((w64 (5 * (w64 ((Int.tmod (w64 (a0 + 719468)) 146097) - (w64 ((w64 ((w64 (365 * (w64 (Int.tdiv (w64 ((w64 ((w64 ((Int.tmod (w64 (a0 + 719468)) 146097) - (w64 (Int.tdiv (Int.tmod (w64 (a0 + 719468)) 146097) 1460)))) + (w64 (Int.tdiv (Int.tmod (w64 (a0 + 719468)) 146097) 36524)))) - (w64 (Int.tdiv (Int.tmod (w64 (a0 + 719468)) 146097) 146096)))) 365)))) + (w64 (Int.tdiv (w64 (Int.tdiv (w64 ((w64 ((w64 ((Int.tmod (w64 (a0 + 719468)) 146097) - (w64 (Int.tdiv (Int.tmod (w64 (a0 + 719468)) 146097) 1460)))) + (w64 (Int.tdiv (Int.tmod (w64 (a0 + 719468)) 146097) 36524)))) - (w64 (Int.tdiv (Int.tmod (w64 (a0 + 719468)) 146097) 146096)))) 365)) 4)))) - (w64 (Int.tdiv (w64 (Int.tdiv (w64 ((w64 ((w64 ((Int.tmod (w64 (a0 + 719468)) 146097) - (w64 (Int.tdiv (Int.tmod (w64 (a0 + 719468)) 146097) 1460)))) + (w64 (Int.tdiv (Int.tmod (w64 (a0 + 719468)) 146097) 36524)))) - (w64 (Int.tdiv (Int.tmod (w64 (a0 + 719468)) 146097) 146096)))) 365)) 100)))))))) + 2)) 153)) - 9))), (int .i64 (w64 ((w64 ((w64 ((Int.tmod (w64 (a0 + 719468)) 146097) - (w64 ((w64 ((w64 (365 * (w64 (Int.tdiv (w64 ((w64 ((w64 ((Int.tmod (w64 (a0 + 719468)) 146097) - (w64 (Int.tdiv (Int.tmod (w64 (a0 + 719468)) 146097) 1460)))) + (w64 (Int.tdiv (Int.tmod (w64 (a0 + 719468)) 146097) 36524)))) - (w64 (Int.tdiv (Int.tmod (w64 (a0 + 719468)) 146097) 146096)))) 365)))) + (w64 (Int.tdiv (w64 (Int.tdiv (w64 ((w64 ((w64 ((Int.tmod (w64 (a0 + 719468)) 146097) - (w64 (Int.tdiv (Int.tmod (w64 (a0 + 719468)) 146097) 1460)))) + (w64 (Int.tdiv (Int.tmod (w64 (a0 + 719468)) 146097) 36524)))) - (w64 (Int.tdiv (Int.tmod (w64 (a0 + 719468)) 146097) 146096)))) 365)) 4)))) - (w64 (Int.tdiv (w64 (Int.tdiv (w64 ((w64 ((w64 ((Int.tmod (w64 (a0 + 719468)) 146097) - (w64 (Int.tdiv (Int.tmod (w64 (a0 + 719468)) 146097) 1460)))) + (w64 (Int.tdiv (Int.tmod (w64 (a0 + 719468)) 146097) 36524)))) - (w64 (Int.tdiv (Int.tmod (w64 (a0 + 719468)) 146097) 146096)))) 365)) 100)))))) - (w64 (Int.tdiv (w64 ((w64 (153 * (w64 (Int.tdiv (w64 ((w64 (5 * (w64 ((Int.tmod (w64 (a0 + 719468)) 146097) - (w64 ((w64 ((w64 (365 * (w64 (Int.tdiv (w64 ((w64 ((w64 ((Int.tmod (w64 (a0 + 719468)) 146097) - (w64 (Int.tdiv (Int.tmod (w64 (a0 + 719468)) 146097) 1460)))) + (w64 (Int.tdiv (Int.tmod (w64 (a0 + 719468)) 146097) 36524)))) - (w64 (Int.tdiv (Int.tmod (w64 (a0 + 719468)) 146097) 146096)))) 365)))) + (w64 (Int.tdiv (w64 (Int.tdiv (w64 ((w64 ((w64 ((Int.tmod (w64 (a0 + 719468)) 146097) - (w64 (Int.tdiv (Int.tmod (w64 (a0 + 719468)) 146097) 1460)))) + (w64 (Int.tdiv (Int.tmod (w64 (a0 + 719468)) 146097) 36524)))) - (w64 (Int.tdiv (Int.tmod (w64 (a0 + 719468)) 146097) 146096)))) 365)) 4)))) - (w64 (Int.tdiv (w64 (Int.tdiv (w64 ((w64 ((w64 ((Int.tmod (w64 (a0 + 719468)) 146097) - (w64 (Int.tdiv (Int.tmod (w64 (a0 + 719468)) 146097) 1460)))) + (w64 (Int.tdiv (Int.tmod (w64 (a0 + 719468)) 146097) 36524)))) - (w64 (Int.tdiv (Int.tmod (w64 (a0 + 719468)) 146097) 146096)))) 365)) 100)))))))) + 2)) 153)))) + 2)) 5)))) + 1)))]) rfl ⟨rfl, ⟨rfl, ⟨rfl, trivial⟩⟩⟩ _ rfl ⟨rfl, rfl⟩

theorem civil_MonthOf.spec (a0 : Int) (r : Int) (H : civil_MonthOf a0 = r) : FnSpec Try.prog 66 [(int .i64 a0)] [] (fun v M => v = (int .i64 r) ∧ M = []) := by
 unfold civil_MonthOf at H
 refine spec_of Try.func66 rfl 18 rfl (Nat.le_of_ble_eq_true rfl) fun F w0 => ?_
 show Ent (St 18 w0 F [(0, (int .i64 a0))] []) _
 refine ent_seq ?_
 refine ent_region ?_
 refine ent_value (ov_assign rfl) rfl rfl rfl ?_
 refine ent_nil ?_
 refine ent_seq ?_
 refine ent_region ?_
 refine ent_value (ov_move rfl) rfl rfl rfl ?_
 obtain ⟨x2, h2, H⟩ := thn_elim H
 refine ent_op (ot_call0 (first := []) (cap := []) (xs := [.tmp 7]) rfl rfl F_call_85 rfl (civil_Date.spec a0 _ h2)) rfl rfl rfl ?_
 rintro _ _ ⟨rfl, rfl⟩
 refine ent_value (ov_move rfl) rfl rfl rfl ?_
 refine ent_value (ov_extract rfl rfl) rfl rfl rfl ?_
 refine ent_value (ov_extract rfl rfl) rfl rfl rfl ?_
 refine ent_value (ov_extract rfl rfl) rfl rfl rfl ?_
 refine ent_value (ov_assign rfl) rfl rfl rfl ?_
 refine ent_value (ov_assign rfl) rfl rfl rfl ?_
 refine ent_value (ov_assign rfl) rfl rfl rfl ?_
 refine ent_nil ?_
 refine ent_seq ?_
 refine ent_region ?_
 refine ent_value (ov_move rfl) rfl rfl rfl ?_
 refine ent_value (ov_bin rfl rfl (b_sub _ _ _) ) rfl rfl rfl ?_
 refine ent_value (ov_bin rfl rfl (b_mul _ _ _) ) rfl rfl rfl ?_
 refine ent_value (ov_move rfl) rfl rfl rfl ?_
 refine ent_value (ov_bin rfl rfl (b_sub _ _ _) ) rfl rfl rfl ?_
 refine ent_value (ov_bin rfl rfl (b_add _ _ _) ) rfl rfl rfl ?_
 refine ent_value (ov_assign rfl) rfl rfl rfl ?_
 refine ent_nil ?_
 refine ent_retc ?_
 cases H
 refine ent_pick [] (by decide) rfl ?_
 exact ret_tmp rfl rfl ⟨rfl, rfl⟩

theorem part_Of.spec (a0 : Int) (a1 : Int) (r : (Int × Int × Bool)) (H : part_Of a0 a1 = r) : FnSpec Try.prog 50 [(int .i64 a0), (int .i64 a1)] [] (fun v M => v = (Value.tuple #[(agg #[(int .i64 r.1), (int .i64 r.2.1)]), (bool r.2.2)]) ∧ M = []) := by
 unfold part_Of at H
 refine spec_of Try.func50 rfl 33 rfl (Nat.le_of_ble_eq_true rfl) fun F w0 => ?_
 show Ent (St 33 w0 F [(0, (int .i64 a0)), (1, (int .i64 a1))] []) _
 refine ent_seq ?_
 refine ent_region ?_
 refine ent_op (ot_alloc F_zero_40) rfl rfl rfl ?_
 rintro _ _ ⟨b2, rfl, rfl⟩
 refine ent_value (ov_assign rfl) rfl rfl rfl ?_
 refine ent_nil ?_
 refine ent_seq ?_
 refine ent_seq ?_
 refine ent_region ?_
 refine ent_value (ov_move rfl) rfl rfl rfl ?_
 refine ent_value (ov_bin rfl rfl (b_lss _ _ _)) rfl rfl rfl ?_
 refine ent_value (ov_move rfl) rfl rfl rfl ?_
 by_cases c13 : a1 < 0
 ·rw [if_pos c13] at H
  refine ent_off rfl rfl rfl (decide_eq_true c13) rfl rfl ?_
  refine ent_off rfl rfl rfl (decide_eq_true c13) rfl rfl ?_
  refine ent_value (ov_pick rfl rfl rfl (pick_t (decide_eq_true c13))) rfl rfl rfl ?_
  refine ent_nil ?_
  refine ent_cond_true rfl rfl ?_
  refine ent_seq ?_
  refine ent_region ?_
  refine ent_value (ov_load_agg (vs := [(int .i64 0), (int .i64 0)]) rfl F_agg_40 F_size_40 (reads_boxW (i := 0) rfl)) rfl rfl rfl ?_
  refine ent_op0 (ot_storeG (cs := [(int .i64 0), (int .i64 0)]) (cs' := [(int .i64 0), (int .i64 0)]) (us := [(int .i64 0), (int .i64 0)]) (L' := [(box b2 40 [(int .i64 0), (int .i64 0)])]) 0 rfl rfl rfl (one_all rfl) F_size_40 rfl rfl (by simp) rfl) rfl rfl ?_
  rintro _ _ rfl
  refine ent_value (ov_assign rfl) rfl rfl rfl ?_
  refine ent_nil ?_
  refine ent_retc ?_
  subst H
  exact ret_memp [] (by decide) rfl (vs := [(agg #[(int .i64 0), (int .i64 0)]), (bool false)]) rfl ⟨⟨_, [(int .i64 0), (int .i64 0)], rfl, reads_boxW (i := 0) rfl, .inl ⟨F_agg_40, F_size_40, rfl⟩⟩, ⟨rfl, trivial⟩⟩ _ rfl ⟨rfl, rfl⟩
 ·rw [if_neg c13] at H
  refine ent_value_on (ov_move rfl) rfl rfl rfl (decide_eq_false c13) rfl rfl ?_
  refine ent_value_on (ov_bin rfl rfl (b_gtr _ _ _)) rfl rfl rfl (decide_eq_false c13) rfl rfl ?_
  refine ent_value (ov_pick rfl rfl rfl (pick_f (decide_eq_false c13))) rfl rfl rfl ?_
  refine ent_nil ?_
  by_cases c14 : 16777216 < a1
  ·rw [if_pos c14] at H
   refine ent_cond_true rfl (decide_eq_true c14) ?_
   refine ent_seq ?_
   refine ent_region ?_
   refine ent_value (ov_load_agg (vs := [(int .i64 0), (int .i64 0)]) rfl F_agg_40 F_size_40 (reads_boxW (i := 0) rfl)) rfl rfl rfl ?_
   refine ent_op0 (ot_storeG (cs := [(int .i64 0), (int .i64 0)]) (cs' := [(int .i64 0), (int .i64 0)]) (us := [(int .i64 0), (int .i64 0)]) (L' := [(box b2 40 [(int .i64 0), (int .i64 0)])]) 0 rfl rfl rfl (one_all rfl) F_size_40 rfl rfl (by simp) rfl) rfl rfl ?_
   rintro _ _ rfl
   refine ent_value (ov_assign rfl) rfl rfl rfl ?_
   refine ent_nil ?_
   refine ent_retc ?_
   subst H
   exact ret_memp [] (by decide) rfl (vs := [(agg #[(int .i64 0), (int .i64 0)]), (bool false)]) rfl ⟨⟨_, [(int .i64 0), (int .i64 0)], rfl, reads_boxW (i := 0) rfl, .inl ⟨F_agg_40, F_size_40, rfl⟩⟩, ⟨rfl, trivial⟩⟩ _ rfl ⟨rfl, rfl⟩
  ·rw [if_neg c14] at H
   refine ent_cond_false rfl (decide_eq_false c14) ?_
   refine ent_skip ?_
   refine ent_seq ?_
   refine ent_seq ?_
   refine ent_region ?_
   refine ent_value (ov_move rfl) rfl rfl rfl ?_
   refine ent_nil ?_
   refine ent_block ?_
   refine ent_seq ?_
   refine ent_region ?_
   refine ent_value (ov_bin rfl rfl (b_eql _ _ _)) rfl rfl rfl ?_
   refine ent_value (ov_assign rfl) rfl rfl rfl ?_
   refine ent_nil ?_
   by_cases c18 : a0 = 1
   ·rw [if_pos c18] at H
    refine ent_cond_true rfl (eq_t c18) ?_
    refine ent_seq ?_
    refine ent_region ?_
    refine ent_value (ov_move rfl) rfl rfl rfl ?_
    refine ent_value (ov_move rfl) rfl rfl rfl ?_
    refine ent_value (ov_build (is := [0, 1]) (xs := [.tmp 16, .tmp 17]) (vs := [(int .i64 a0), (int .i64 a1)]) rfl rfl (build_struct (cs := [(int .i64 a0), (int .i64 a1)]) F_zero_40 F_places_40 rfl)) rfl rfl rfl ?_
    refine ent_op0 (ot_storeG (cs := [(int .i64 0), (int .i64 0)]) (cs' := [(int .i64 a0), (int .i64 a1)]) (us := [(int .i64 a0), (int .i64 a1)]) (L' := [(box b2 40 [(int .i64 a0), (int .i64 a1)])]) 0 rfl rfl rfl (one_all rfl) F_size_40 rfl rfl (by simp) rfl) rfl rfl ?_
    rintro _ _ rfl
    refine ent_value (ov_assign rfl) rfl rfl rfl ?_
    refine ent_nil ?_
    refine ent_retc ?_
    subst H
    exact ret_memp [] (by decide) rfl (vs := [(agg #[(int .i64 a0), (int .i64 a1)]), (bool true)]) rfl ⟨⟨_, [(int .i64 a0), (int .i64 a1)], rfl, reads_boxW (i := 0) rfl, .inl ⟨F_agg_40, F_size_40, rfl⟩⟩, ⟨rfl, trivial⟩⟩ _ rfl ⟨rfl, rfl⟩
   ·rw [if_neg c18] at H
    refine ent_cond_false rfl (eq_f c18) ?_
    refine ent_seq ?_
    refine ent_region ?_
    refine ent_value (ov_bin rfl rfl (b_eql _ _ _)) rfl rfl rfl ?_
    refine ent_value (ov_assign rfl) rfl rfl rfl ?_
    refine ent_nil ?_
    by_cases c19 : a0 = 2
    ·rw [if_pos c19] at H
     refine ent_cond_true rfl (eq_t c19) ?_
     refine ent_seq ?_
     refine ent_region ?_
     refine ent_value (ov_move rfl) rfl rfl rfl ?_
     refine ent_value (ov_move rfl) rfl rfl rfl ?_
     obtain ⟨x10, h10, H⟩ := thn_elim H
     refine ent_op (ot_call0 (first := []) (cap := []) (xs := [.tmp 22]) rfl rfl F_call_65 rfl (civil_DayOf.spec a1 _ h10)) rfl rfl rfl ?_
     rintro _ _ ⟨rfl, rfl⟩
     refine ent_value (ov_build (is := [0, 1]) (xs := [.tmp 21, .tmp 23]) (vs := [(int .i64 a0), (int .i64 x10)]) rfl rfl (build_struct (cs := [(int .i64 a0), (int .i64 x10)]) F_zero_40 F_places_40 rfl)) rfl rfl rfl ?_
     refine ent_op0 (ot_storeG (cs := [(int .i64 0), (int .i64 0)]) (cs' := [(int .i64 a0), (int .i64 x10)]) (us := [(int .i64 a0), (int .i64 x10)]) (L' := [(box b2 40 [(int .i64 a0), (int .i64 x10)])]) 0 rfl rfl rfl (one_all rfl) F_size_40 rfl rfl (by simp) rfl) rfl rfl ?_
     rintro _ _ rfl
     refine ent_value (ov_assign rfl) rfl rfl rfl ?_
     refine ent_nil ?_
     refine ent_retc ?_
     subst H
     exact ret_memp [] (by decide) rfl (vs := [(agg #[(int .i64 a0), (int .i64 x10)]), (bool true)]) rfl ⟨⟨_, [(int .i64 a0), (int .i64 x10)], rfl, reads_boxW (i := 0) rfl, .inl ⟨F_agg_40, F_size_40, rfl⟩⟩, ⟨rfl, trivial⟩⟩ _ rfl ⟨rfl, rfl⟩
    ·rw [if_neg c19] at H
     refine ent_cond_false rfl (eq_f c19) ?_
     refine ent_seq ?_
     refine ent_region ?_
     refine ent_value (ov_bin rfl rfl (b_eql _ _ _)) rfl rfl rfl ?_
     refine ent_value (ov_assign rfl) rfl rfl rfl ?_
     refine ent_nil ?_
     by_cases c20 : a0 = 3
     ·rw [if_pos c20] at H
      refine ent_cond_true rfl (eq_t c20) ?_
      refine ent_seq ?_
      refine ent_region ?_
      refine ent_value (ov_move rfl) rfl rfl rfl ?_
      refine ent_value (ov_move rfl) rfl rfl rfl ?_
      obtain ⟨x11, h11, H⟩ := thn_elim H
      refine ent_op (ot_call0 (first := []) (cap := []) (xs := [.tmp 28]) rfl rfl F_call_65 rfl (civil_DayOf.spec a1 _ h11)) rfl rfl rfl ?_
      rintro _ _ ⟨rfl, rfl⟩
      obtain ⟨x12, h12, H⟩ := thn_elim H
      refine ent_op (ot_call0 (first := []) (cap := []) (xs := [.tmp 29]) rfl rfl F_call_66 rfl (civil_MonthOf.spec x11 _ h12)) rfl rfl rfl ?_
      rintro _ _ ⟨rfl, rfl⟩
      refine ent_value (ov_build (is := [0, 1]) (xs := [.tmp 27, .tmp 30]) (vs := [(int .i64 a0), (int .i64 x12)]) rfl rfl (build_struct (cs := [(int .i64 a0), (int .i64 x12)]) F_zero_40 F_places_40 rfl)) rfl rfl rfl ?_
      refine ent_op0 (ot_storeG (cs := [(int .i64 0), (int .i64 0)]) (cs' := [(int .i64 a0), (int .i64 x12)]) (us := [(int .i64 a0), (int .i64 x12)]) (L' := [(box b2 40 [(int .i64 a0), (int .i64 x12)])]) 0 rfl rfl rfl (one_all rfl) F_size_40 rfl rfl (by simp) rfl) rfl rfl ?_
      rintro _ _ rfl
      refine ent_value (ov_assign rfl) rfl rfl rfl ?_
      refine ent_nil ?_
      refine ent_retc ?_
      subst H
      exact ret_memp [] (by decide) rfl (vs := [(agg #[(int .i64 a0), (int .i64 x12)]), (bool true)]) rfl ⟨⟨_, [(int .i64 a0), (int .i64 x12)], rfl, reads_boxW (i := 0) rfl, .inl ⟨F_agg_40, F_size_40, rfl⟩⟩, ⟨rfl, trivial⟩⟩ _ rfl ⟨rfl, rfl⟩
     ·rw [if_neg c20] at H
      refine ent_cond_false rfl (eq_f c20) ?_
      refine ent_skip ?_
      refine ent_seq ?_
      refine ent_region ?_
      refine ent_value (ov_load_agg (vs := [(int .i64 0), (int .i64 0)]) rfl F_agg_40 F_size_40 (reads_boxW (i := 0) rfl)) rfl rfl rfl ?_
      refine ent_op0 (ot_storeG (cs := [(int .i64 0), (int .i64 0)]) (cs' := [(int .i64 0), (int .i64 0)]) (us := [(int .i64 0), (int .i64 0)]) (L' := [(box b2 40 [(int .i64 0), (int .i64 0)])]) 0 rfl rfl rfl (one_all rfl) F_size_40 rfl rfl (by simp) rfl) rfl rfl ?_
      rintro _ _ rfl
      refine ent_value (ov_assign rfl) rfl rfl rfl ?_
      refine ent_nil ?_
      refine ent_retc ?_
      subst H
      exact ret_memp [] (by decide) rfl (vs := [(agg #[(int .i64 0), (int .i64 0)]), (bool false)]) rfl ⟨⟨_, [(int .i64 0), (int .i64 0)], rfl, reads_boxW (i := 0) rfl, .inl ⟨F_agg_40, F_size_40, rfl⟩⟩, ⟨rfl, trivial⟩⟩ _ rfl ⟨rfl, rfl⟩

theorem part_Right.spec (a0_0 : Int) (a0_1 : Int) (r : Bool) (H : part_Right a0_0 a0_1 = r) : FnSpec Try.prog 46 [(agg #[(int .i64 a0_0), (int .i64 a0_1)])] [] (fun v M => v = (bool r) ∧ M = []) := by
 unfold part_Right at H
 refine spec_of Try.func46 rfl 24 rfl (Nat.le_of_ble_eq_true rfl) fun F w0 => ?_
 show Ent (St 24 w0 F [(0, (agg #[(int .i64 a0_0), (int .i64 a0_1)]))] []) _
 refine ent_seq ?_
 refine ent_region ?_
 refine ent_op (ot_box (cs := [(int .i64 a0_0), (int .i64 a0_1)]) rfl rfl) rfl rfl rfl ?_
 rintro _ _ ⟨b3, rfl, rfl⟩
 refine ent_value (ov_assign rfl) rfl rfl rfl ?_
 refine ent_nil ?_
 refine ent_seq ?_
 refine ent_region ?_
 refine ent_value (ov_fieldAddr (sz := 0) (o := 0) rfl F_field_40_0 F_size_3) rfl rfl rfl ?_
 refine ent_value (ov_load (v := (int .i64 a0_0)) rfl F_agg_3 (reads_box1 (i := 0) rfl rfl)) rfl rfl rfl ?_
 obtain ⟨x2, h2, H⟩ := thn_elim H
 refine ent_op (ot_call0 (first := []) (cap := []) (xs := [.tmp 7, .const (int .i64 16777216)]) rfl rfl F_call_50 rfl (part_Of.spec a0_0 16777216 _ h2)) rfl rfl rfl ?_
 rintro _ _ ⟨rfl, rfl⟩
 refine ent_value (ov_move rfl) rfl rfl rfl ?_
 refine ent_value (ov_extract rfl rfl) rfl rfl rfl ?_
 refine ent_value (ov_extract rfl rfl) rfl rfl rfl ?_
 refine ent_op (ot_alloc F_zero_40) rfl rfl rfl ?_
 rintro _ _ ⟨b4, rfl, rfl⟩
 refine ent_op0 (ot_storeG (cs := [(int .i64 0), (int .i64 0)]) (cs' := [(int .i64 x2.1), (int .i64 x2.2.1)]) (us := [(int .i64 x2.1), (int .i64 x2.2.1)]) (L' := [(box b4 40 [(int .i64 x2.1), (int .i64 x2.2.1)]), (box b3 40 [(int .i64 a0_0), (int .i64 a0_1)])]) 0 rfl rfl rfl (one_all rfl) F_size_40 rfl rfl (by simp) rfl) rfl rfl ?_
 rintro _ _ rfl
 refine ent_value (ov_assign rfl) rfl rfl rfl ?_
 refine ent_nil ?_
 refine ent_seq ?_
 refine ent_region ?_
 refine ent_value (ov_move rfl) rfl rfl rfl ?_
 refine ent_value (ov_move rfl) rfl rfl rfl ?_
 by_cases c3 : x2.2.2 = true
 ·rw [if_pos c3] at H
  refine ent_value_on (ov_fieldAddr (sz := 0) (o := 0) rfl F_field_40_1 F_size_2) rfl rfl rfl c3 rfl rfl ?_
  refine ent_value_on (ov_load (v := (int .i64 a0_1)) rfl F_agg_2 (reads_box1 (i := 1) rfl rfl)) rfl rfl rfl c3 rfl rfl ?_
  refine ent_value_on (ov_bin rfl rfl (b_geq _ _ _)) rfl rfl rfl c3 rfl rfl ?_
  refine ent_value (ov_pick rfl rfl rfl (pick_t c3)) rfl rfl rfl ?_
  refine ent_value (ov_move rfl) rfl rfl rfl ?_
  by_cases c4 : 0 ≤ a0_1
  ·rw [if_pos c4] at H
   refine ent_value_on (ov_fieldAddr (sz := 0) (o := 0) rfl F_field_40_1 F_size_2) rfl rfl rfl (decide_eq_true c4) rfl rfl ?_
   refine ent_value_on (ov_load (v := (int .i64 a0_1)) rfl F_agg_2 (reads_box1 (i := 1) rfl rfl)) rfl rfl rfl (decide_eq_true c4) rfl rfl ?_
   refine ent_value_on (ov_fieldAddr (sz := 0) (o := 0) rfl F_field_40_1 F_size_2) rfl rfl rfl (decide_eq_true c4) rfl rfl ?_
   refine ent_value_on (ov_load (v := (int .i64 x2.2.1)) rfl F_agg_2 (reads_box1 (i := 0) rfl rfl)) rfl rfl rfl (decide_eq_true c4) rfl rfl ?_
   refine ent_value_on (ov_bin rfl rfl (b_leq _ _ _)) rfl rfl rfl (decide_eq_true c4) rfl rfl ?_
   refine ent_value (ov_pick rfl rfl rfl (pick_t (decide_eq_true c4))) rfl rfl rfl ?_
   refine ent_value (ov_assign rfl) rfl rfl rfl ?_
   refine ent_nil ?_
   refine ent_retc ?_
   cases H
   refine ent_pick [] (by decide) rfl ?_
   exact ret_tmp rfl rfl ⟨rfl, rfl⟩
  ·rw [if_neg c4] at H
   refine ent_off rfl rfl rfl (decide_eq_false c4) rfl rfl ?_
   refine ent_off rfl rfl rfl (decide_eq_false c4) rfl rfl ?_
   refine ent_off rfl rfl rfl (decide_eq_false c4) rfl rfl ?_
   refine ent_off rfl rfl rfl (decide_eq_false c4) rfl rfl ?_
   refine ent_off rfl rfl rfl (decide_eq_false c4) rfl rfl ?_
   refine ent_value (ov_pick rfl rfl rfl (pick_f (decide_eq_false c4))) rfl rfl rfl ?_
   refine ent_value (ov_assign rfl) rfl rfl rfl ?_
   refine ent_nil ?_
   refine ent_retc ?_
   cases H
   refine ent_pick [] (by decide) rfl ?_
   exact ret_tmp rfl rfl ⟨rfl, rfl⟩
 ·rw [if_neg c3] at H
  refine ent_off rfl rfl rfl (Bool.eq_false_iff.2 c3) rfl rfl ?_
  refine ent_off rfl rfl rfl (Bool.eq_false_iff.2 c3) rfl rfl ?_
  refine ent_off rfl rfl rfl (Bool.eq_false_iff.2 c3) rfl rfl ?_
  refine ent_value (ov_pick rfl rfl rfl (pick_f (Bool.eq_false_iff.2 c3))) rfl rfl rfl ?_
  refine ent_value (ov_move rfl) rfl rfl rfl ?_
  refine ent_off rfl rfl rfl rfl rfl rfl ?_
  refine ent_off rfl rfl rfl rfl rfl rfl ?_
  refine ent_off rfl rfl rfl rfl rfl rfl ?_
  refine ent_off rfl rfl rfl rfl rfl rfl ?_
  refine ent_off rfl rfl rfl rfl rfl rfl ?_
  refine ent_value (ov_pick rfl rfl rfl rfl) rfl rfl rfl ?_
  refine ent_value (ov_assign rfl) rfl rfl rfl ?_
  refine ent_nil ?_
  refine ent_retc ?_
  cases H
  refine ent_pick [] (by decide) rfl ?_
  exact ret_tmp rfl rfl ⟨rfl, rfl⟩

theorem civil_number.spec (a0 : Int) (a1 : Int) (a2 : Int) (r : Int) (H : civil_number a0 a1 a2 = r) : FnSpec Try.prog 84 [(int .i64 a0), (int .i64 a1), (int .i64 a2)] [] (fun v M => v = (int .i64 r) ∧ M = []) := by
 unfold civil_number at H
 refine spec_of Try.func84 rfl 42 rfl (Nat.le_of_ble_eq_true rfl) fun F w0 => ?_
 show Ent (St 42 w0 F [(0, (int .i64 a0)), (1, (int .i64 a1)), (2, (int .i64 a2))] []) _
 refine ent_seq ?_
 refine ent_region ?_
 refine ent_value (ov_assign rfl) rfl rfl rfl ?_
 refine ent_nil ?_
 refine ent_seq ?_
 refine ent_region ?_
 refine ent_value (ov_move rfl) rfl rfl rfl ?_
 refine ent_value (ov_bin rfl rfl (b_sub _ _ _) ) rfl rfl rfl ?_
 refine ent_value (ov_assign rfl) rfl rfl rfl ?_
 refine ent_nil ?_
 obtain ⟨x2, H2, H⟩ := thn_elim H
 refine ent_seq_cut (fun a w => St 42 w0 F [(0, (int .i64 x2.1)), (2, (int .i64 a2)), (7, (int .i64 x2.2))] [] a w) ?_ ?_
 ·refine ent_seq ?_
  refine ent_region ?_
  refine ent_value (ov_move rfl) rfl rfl rfl ?_
  refine ent_value (ov_bin rfl rfl (b_lss _ _ _)) rfl rfl rfl ?_
  refine ent_nil ?_
  by_cases c4 : (w64 (a1 - 3)) < 0
  ·rw [if_pos c4] at H2
   refine ent_cond_true rfl (decide_eq_true c4) ?_
   refine ent_seq ?_
   refine ent_region ?_
   refine ent_value (ov_move rfl) rfl rfl rfl ?_
   refine ent_value (ov_bin rfl rfl (b_add _ _ _) ) rfl rfl rfl ?_
   refine ent_value (ov_assign rfl) rfl rfl rfl ?_
   refine ent_nil ?_
   refine ent_region ?_
   refine ent_value (ov_move rfl) rfl rfl rfl ?_
   refine ent_value (ov_bin rfl rfl (b_sub _ _ _) ) rfl rfl rfl ?_
   refine ent_value (ov_assign rfl) rfl rfl rfl ?_
   refine ent_nil ?_
   cases H2
   exact ent_fin [] (by decide) rfl (sub_cons (t := 0) rfl (sub_cons (t := 2) rfl (sub_cons (t := 7) rfl (sub_nil _)))) fun a w h => h
  ·rw [if_neg c4] at H2
   refine ent_cond_false rfl (decide_eq_false c4) ?_
   refine ent_skip ?_
   cases H2
   exact ent_fin [] (by decide) rfl (sub_cons (t := 0) rfl (sub_cons (t := 2) rfl (sub_cons (t := 7) rfl (sub_nil _)))) fun a w h => h
 ·refine ent_seq ?_
  refine ent_region ?_
  refine ent_value (ov_move rfl) rfl rfl rfl ?_
  refine ent_value (ov_bin rfl rfl fun w => b_rem _ _ _ w (by decide)) rfl rfl rfl ?_
  refine ent_value (ov_assign rfl) rfl rfl rfl ?_
  refine ent_nil ?_
  refine ent_seq ?_
  refine ent_region ?_
  refine ent_value (ov_move rfl) rfl rfl rfl ?_
  refine ent_value (ov_bin rfl rfl (b_mul _ _ _) ) rfl rfl rfl ?_
  refine ent_value (ov_move rfl) rfl rfl rfl ?_
  refine ent_value (ov_bin rfl rfl fun w => b_quo _ _ _ w (by decide)) rfl rfl rfl ?_
  refine ent_value (ov_bin rfl rfl (b_add _ _ _) ) rfl rfl rfl ?_
  refine ent_value (ov_move rfl) rfl rfl rfl ?_
  refine ent_value (ov_bin rfl rfl fun w => b_quo _ _ _ w (by decide)) rfl rfl rfl ?_
  refine ent_value (ov_bin rfl rfl (b_sub _ _ _) ) rfl rfl rfl ?_
  refine ent_value (ov_move rfl) rfl rfl rfl ?_
  refine ent_value (ov_bin rfl rfl (b_mul _ _ _) ) rfl rfl rfl ?_
  refine ent_value (ov_bin rfl rfl (b_add _ _ _) ) rfl rfl rfl ?_
  refine ent_value (ov_bin rfl rfl fun w => b_quo _ _ _ w (by decide)) rfl rfl rfl ?_
  refine ent_value (ov_bin rfl rfl (b_add _ _ _) ) rfl rfl rfl ?_
  refine ent_value (ov_move rfl) rfl rfl rfl ?_
  refine ent_value (ov_bin rfl rfl (b_add _ _ _) ) rfl rfl rfl ?_
  refine ent_value (ov_bin rfl rfl (b_sub _ _ _) ) rfl rfl rfl ?_
  refine ent_value (ov_assign rfl) rfl rfl rfl ?_
  refine ent_nil ?_
  refine ent_seq ?_
  refine ent_region ?_
  refine ent_value (ov_move rfl) rfl rfl rfl ?_
  refine ent_value (ov_bin rfl rfl fun w => b_quo _ _ _ w (by decide)) rfl rfl rfl ?_
  refine ent_value (ov_bin rfl rfl (b_mul _ _ _) ) rfl rfl rfl ?_
  refine ent_value (ov_move rfl) rfl rfl rfl ?_
  refine ent_value (ov_bin rfl rfl (b_add _ _ _) ) rfl rfl rfl ?_
  refine ent_value (ov_bin rfl rfl (b_sub _ _ _) ) rfl rfl rfl ?_
  refine ent_value (ov_assign rfl) rfl rfl rfl ?_
  refine ent_nil ?_
  refine ent_retc ?_
  cases H
  refine ent_pick [] (by decide) rfl ?_
  exact ret_tmp rfl rfl ⟨rfl, rfl⟩

theorem civil_Span_1.spec (a0 : Int) (r : Int) (H : civil_Span_1 a0 = r) : FnSpec Try.prog 83 [(int .i64 a0)] [] (fun v M => v = (int .i64 r) ∧ M = []) := by
 unfold civil_Span_1 at H
 refine spec_of Try.func83 rfl 10 rfl (Nat.le_of_ble_eq_true rfl) fun F w0 => ?_
 show Ent (St 10 w0 F [(0, (int .i64 a0))] []) _
 refine ent_seq ?_
 refine ent_region ?_
 refine ent_value (ov_assign rfl) rfl rfl rfl ?_
 refine ent_nil ?_
 refine ent_seq ?_
 refine ent_region ?_
 refine ent_value (ov_move rfl) rfl rfl rfl ?_
 refine ent_value (ov_bin rfl rfl fun w => b_quo _ _ _ w (by decide)) rfl rfl rfl ?_
 refine ent_value (ov_bin rfl rfl (b_add _ _ _) ) rfl rfl rfl ?_
 refine ent_value (ov_move rfl) rfl rfl rfl ?_
 refine ent_value (ov_bin rfl rfl fun w => b_rem _ _ _ w (by decide)) rfl rfl rfl ?_
 refine ent_value (ov_bin rfl rfl (b_add _ _ _) ) rfl rfl rfl ?_
 obtain ⟨x2, h2, H⟩ := thn_elim H
 refine ent_op (ot_call0 (first := []) (cap := []) (xs := [.tmp 5, .tmp 8, .const (int .i64 1)]) rfl rfl F_call_84 rfl (civil_number.spec (w64 (1970 + (w64 (Int.tdiv a0 12)))) (w64 ((Int.tmod a0 12) + 1)) 1 _ h2)) rfl rfl rfl ?_
 rintro _ _ ⟨rfl, rfl⟩
 refine ent_value (ov_assign rfl) rfl rfl rfl ?_
 refine ent_nil ?_
 refine ent_retc ?_
 cases H
 refine ent_pick [] (by decide) rfl ?_
 exact ret_tmp rfl rfl ⟨rfl, rfl⟩

theorem civil_Span.spec (a0 : Int) (r : (Int × Int)) (H : civil_Span a0 = r) : FnSpec Try.prog 64 [(int .i64 a0)] [] (fun v M => v = (Value.tuple #[(int .i64 r.1), (int .i64 r.2)]) ∧ M = []) := by
 unfold civil_Span at H
 refine spec_of Try.func64 rfl 12 rfl (Nat.le_of_ble_eq_true rfl) fun F w0 => ?_
 show Ent (St 12 w0 F [(0, (int .i64 a0))] []) _
 refine ent_seq ?_
 refine ent_region ?_
 refine ent_value (ov_assign rfl) rfl rfl rfl ?_
 refine ent_value (ov_assign rfl) rfl rfl rfl ?_
 refine ent_nil ?_
 refine ent_seq ?_
 refine ent_region ?_
 refine ent_value (ov_assign rfl) rfl rfl rfl ?_
 refine ent_nil ?_
 refine ent_seq ?_
 refine ent_region ?_
 refine ent_value (ov_move rfl) rfl rfl rfl ?_
 refine ent_value (ov_move rfl) rfl rfl rfl ?_
 obtain ⟨x3, h3, H⟩ := thn_elim H
 refine ent_op (ot_call0 (first := []) (cap := []) (xs := [.tmp 6]) rfl rfl F_call_83 rfl (civil_Span_1.spec a0 _ h3)) rfl rfl rfl ?_
 rintro _ _ ⟨rfl, rfl⟩
 refine ent_value (ov_move rfl) rfl rfl rfl ?_
 refine ent_value (ov_move rfl) rfl rfl rfl ?_
 refine ent_value (ov_bin rfl rfl (b_add _ _ _) ) rfl rfl rfl ?_
 obtain ⟨x4, h4, H⟩ := thn_elim H
 refine ent_op (ot_call0 (first := []) (cap := []) (xs := [.tmp 10]) rfl rfl F_call_83 rfl (civil_Span_1.spec (w64 (a0 + 1)) _ h4)) rfl rfl rfl ?_
 rintro _ _ ⟨rfl, rfl⟩
 refine ent_value (ov_assign rfl) rfl rfl rfl ?_
 refine ent_value (ov_assign rfl) rfl rfl rfl ?_
 refine ent_nil ?_
 refine ent_retc ?_
 cases H
 refine ent_pick [] (by decide) rfl ?_
 exact ret_mem (vs := [(int .i64 x3), (int .i64 x4)]) rfl ⟨rfl, ⟨rfl, trivial⟩⟩ _ rfl ⟨rfl, rfl⟩

theorem part_Span.spec (a0_0 : Int) (a0_1 : Int) (r : (Int × Int)) (H : part_Span a0_0 a0_1 = r) : FnSpec Try.prog 47 [(agg #[(int .i64 a0_0), (int .i64 a0_1)])] [] (fun v M => v = (Value.tuple #[(int .i64 r.1), (int .i64 r.2)]) ∧ M = []) := by
 unfold part_Span at H
 refine spec_of Try.func47 rfl 30 rfl (Nat.le_of_ble_eq_true rfl) fun F w0 => ?_
 show Ent (St 30 w0 F [(0, (agg #[(int .i64 a0_0), (int .i64 a0_1)]))] []) _
 refine ent_seq ?_
 refine ent_region ?_
 refine ent_op (ot_box (cs := [(int .i64 a0_0), (int .i64 a0_1)]) rfl rfl) rfl rfl rfl ?_
 rintro _ _ ⟨b2, rfl, rfl⟩
 refine ent_value (ov_assign rfl) rfl rfl rfl ?_
 refine ent_value (ov_assign rfl) rfl rfl rfl ?_
 refine ent_nil ?_
 refine ent_seq ?_
 refine ent_seq ?_
 refine ent_region ?_
 refine ent_value (ov_load_agg (vs := [(int .i64 a0_0), (int .i64 a0_1)]) rfl F_agg_40 F_size_40 (reads_boxW (i := 0) rfl)) rfl rfl rfl ?_
 obtain ⟨x10, h8, H⟩ := thn_elim H
 refine ent_op (ot_call0 (first := []) (cap := []) (xs := [.tmp 4]) rfl rfl F_call_46 rfl (part_Right.spec a0_0 a0_1 _ h8)) rfl rfl rfl ?_
 rintro _ _ ⟨rfl, rfl⟩
 refine ent_value (ov_un rfl (u_not _)) rfl rfl rfl ?_
 refine ent_nil ?_
 by_cases c52 : (!x10) = true
 ·rw [if_pos c52] at H
  refine ent_cond_true rfl c52 ?_
  refine ent_seq ?_
  refine ent_region ?_
  refine ent_value (ov_assign rfl) rfl rfl rfl ?_
  refine ent_value (ov_assign rfl) rfl rfl rfl ?_
  refine ent_nil ?_
  refine ent_retc ?_
  cases H
  refine ent_pick [] (by decide) rfl ?_
  exact ret_mem (vs := [(int .i64 0), (int .i64 0)]) rfl ⟨rfl, ⟨rfl, trivial⟩⟩ _ rfl ⟨rfl, rfl⟩
 ·rw [if_neg c52] at H
  refine ent_cond_false rfl (Bool.eq_false_iff.2 c52) ?_
  refine ent_skip ?_
  refine ent_seq ?_
  refine ent_drawm 7 rfl (fun done a w => StD 30 w0 F [(0, (agg #[(int .i64 a0_0), (int .i64 a0_1)])), (1, (pt b2 0)), (4, (agg #[(int .i64 a0_0), (int .i64 a0_1)])), (5, (bool x10)), (6, (bool (!x10)))] [(0, 7, (pt b2 1)), (1, 8, (int .i64 a0_1)), (2, 9, (pt b2 1)), (3, 10, (int .i64 a0_1)), (4, 11, (int .i64 (w64 (a0_1 + 1)))), (5, 2, (int .i64 a0_1)), (6, 3, (int .i64 (w64 (a0_1 + 1))))] done [(box b2 40 [(int .i64 a0_0), (int .i64 a0_1)])] a w) (by kernel_rfl) (by kernel_rfl) (draw_startL (sub_cons (t := 0) rfl (sub_cons (t := 1) rfl (sub_cons (t := 4) rfl (sub_cons (t := 5) rfl (sub_cons (t := 6) rfl (sub_nil _)))))) rfl) ?_ ?_
  ·refine ⟨?_, ?_, ?_, ?_, ?_, ?_, ?_, trivial⟩
   ·intro done hi hc hcu
    exact draw_value (i := 0) (t := 7) (v := (pt b2 1)) rfl rfl (wanted_none rfl) (fun a => hasA_base) (ov_fieldAddr (sz := 0) (o := 0) rfl F_field_40_1 F_size_2) rfl rfl (onlyT_spec (k0 := 0) rfl rfl rfl)
   ·intro done hi hc hcu
    have d0 : done 0 = true := done_of (j := 0) hcu rfl (by decide) rfl
    exact draw_value (i := 1) (t := 8) (v := (int .i64 a0_1)) rfl rfl (wanted_none rfl) (fun a => (hasA_cons (k := 0) rfl d0 hasA_base)) (ov_load (v := (int .i64 a0_1)) rfl F_agg_2 (reads_box1 (i := 0) rfl rfl)) rfl rfl (onlyT_spec (k0 := 1) rfl rfl rfl)
   ·intro done hi hc hcu
    exact draw_value (i := 2) (t := 9) (v := (pt b2 1)) rfl rfl (wanted_none rfl) (fun a => hasA_base) (ov_fieldAddr (sz := 0) (o := 0) rfl F_field_40_1 F_size_2) rfl rfl (onlyT_spec (k0 := 2) rfl rfl rfl)
   ·intro done hi hc hcu
    have d2 : done 2 = true := done_of (j := 2) hcu rfl (by decide) rfl
    exact draw_value (i := 3) (t := 10) (v := (int .i64 a0_1)) rfl rfl (wanted_none rfl) (fun a => (hasA_cons (k := 2) rfl d2 hasA_base)) (ov_load (v := (int .i64 a0_1)) rfl F_agg_2 (reads_box1 (i := 0) rfl rfl)) rfl rfl (onlyT_spec (k0 := 3) rfl rfl rfl)
   ·intro done hi hc hcu
    have d3 : done 3 = true := done_of (j := 3) hcu rfl (by decide) rfl
    exact draw_value (i := 4) (t := 11) (v := (int .i64 (w64 (a0_1 + 1)))) rfl rfl (wanted_none rfl) (fun a => (hasA_cons (k := 3) rfl d3 hasA_base)) (ov_bin rfl rfl (b_add _ _ _) ) rfl rfl (onlyT_spec (k0 := 4) rfl rfl rfl)
   ·intro done hi hc hcu
    have d1 : done 1 = true := done_of (j := 1) hcu rfl (by decide) rfl
    exact draw_value (i := 5) (t := 2) (v := (int .i64 a0_1)) rfl rfl (wanted_none rfl) (fun a => (hasA_cons (k := 1) rfl d1 hasA_base)) (ov_assign rfl) rfl rfl (onlyT_spec (k0 := 5) rfl rfl rfl)
   ·intro done hi hc hcu
    have d4 : done 4 = true := done_of (j := 4) hcu rfl (by decide) rfl
    exact draw_value (i := 6) (t := 3) (v := (int .i64 (w64 (a0_1 + 1)))) rfl rfl (wanted_none rfl) (fun a => (hasA_cons (k := 4) rfl d4 hasA_base)) (ov_assign rfl) rfl rfl (onlyT_spec (k0 := 6) rfl rfl rfl)
  ·intro done hall
   refine draw_endL [(box b2 40 [(int .i64 a0_0), (int .i64 a0_1)])] rfl (fun a => (hasA_cons (k := 5) rfl (hall 5 (by decide)) (hasA_cons (k := 6) rfl (hall 6 (by decide)) (hasA_cons (k := 0) rfl (hall 0 (by decide)) (hasA_cons (k := 1) rfl (hall 1 (by decide)) (hasA_cons (k := 2) rfl (hall 2 (by decide)) (hasA_cons (k := 3) rfl (hall 3 (by decide)) (hasA_cons (k := 4) rfl (hall 4 (by decide)) hasA_base)))))))) ?_
   refine ent_seq ?_
   refine ent_seq ?_
   refine ent_region ?_
   refine ent_value (ov_fieldAddr (sz := 0) (o := 0) rfl F_field_40_0 F_size_3) rfl rfl rfl ?_
   refine ent_value (ov_load (v := (int .i64 a0_0)) rfl F_agg_3 (reads_box1 (i := 0) rfl rfl)) rfl rfl rfl ?_
   refine ent_nil ?_
   refine ent_block ?_
   obtain ⟨x15, H7, H⟩ := thn_elim H
   refine ent_seq_cut (fun a w => ∃ v4, x15 = Sum.inl v4 ∧ St 30 w0 F [(2, (int .i64 v4.1)), (3, (int .i64 v4.2))] [] a w) ?_ ?_
   ·refine ent_block ?_
    refine ent_seq ?_
    refine ent_block ?_
    refine ent_seq ?_
    refine ent_seq ?_
    refine ent_seq ?_
    refine ent_region ?_
    refine ent_value (ov_bin rfl rfl (b_eql _ _ _)) rfl rfl rfl ?_
    refine ent_value (ov_assign rfl) rfl rfl rfl ?_
    refine ent_nil ?_
    by_cases c99 : a0_0 = 3
    ·rw [if_pos c99] at H7
     refine ent_cond_true rfl (eq_t c99) ?_
     refine ent_exit ?_
     refine ent_region ?_
     refine ent_value (ov_fieldAddr (sz := 0) (o := 0) rfl F_field_40_1 F_size_2) rfl rfl rfl ?_
     refine ent_value (ov_load (v := (int .i64 a0_1)) rfl F_agg_2 (reads_box1 (i := 0) rfl rfl)) rfl rfl rfl ?_
     obtain ⟨x16, h12, H7⟩ := thn_elim H7
     refine ent_op (ot_call0 (first := []) (cap := []) (xs := [.tmp 20]) rfl rfl F_call_64 rfl (civil_Span.spec a0_1 _ h12)) rfl rfl rfl ?_
     rintro _ _ ⟨rfl, rfl⟩
     refine ent_value (ov_move rfl) rfl rfl rfl ?_
     refine ent_value (ov_extract rfl rfl) rfl rfl rfl ?_
     refine ent_value (ov_extract rfl rfl) rfl rfl rfl ?_
     refine ent_value (ov_assign rfl) rfl rfl rfl ?_
     refine ent_value (ov_assign rfl) rfl rfl rfl ?_
     refine ent_nil ?_
     cases H7
     exact ent_fin [] (by decide) rfl (sub_cons (t := 2) rfl (sub_cons (t := 3) rfl (sub_nil _))) fun a w h => ⟨_, rfl, h⟩
    ·rw [if_neg c99] at H7
     refine ent_cond_false rfl (eq_f c99) ?_
     refine ent_skip ?_
     refine ent_seq ?_
     refine ent_region ?_
     refine ent_value (ov_bin rfl rfl (b_eql _ _ _)) rfl rfl rfl ?_
     refine ent_value (ov_assign rfl) rfl rfl rfl ?_
     refine ent_nil ?_
     by_cases c100 : a0_0 = 2
     ·rw [if_pos c100] at H7
      refine ent_cond_true rfl (eq_t c100) ?_
      refine ent_exit ?_
      cases H7
      exact ent_fin [] (by decide) rfl (sub_cons (t := 2) rfl (sub_cons (t := 3) rfl (sub_nil _))) fun a w h => ⟨_, rfl, h⟩
     ·rw [if_neg c100] at H7
      refine ent_cond_false rfl (eq_f c100) ?_
      refine ent_skip ?_
      refine ent_exit ?_
      subst H7
      have H8 := show _ = _ from H
      refine ent_seq ?_
      refine ent_region ?_
      refine ent_value (ov_move rfl) rfl rfl rfl ?_
      refine ent_value (ov_move rfl) rfl rfl rfl ?_
      refine ent_value (ov_assign rfl) rfl rfl rfl ?_
      refine ent_value (ov_assign rfl) rfl rfl rfl ?_
      refine ent_nil ?_
      refine ent_retc ?_
      cases H8
      refine ent_pick [] (by decide) rfl ?_
      exact ret_mem (vs := [(int .i64 a0_1), (int .i64 (w64 (a0_1 + 1)))]) rfl ⟨rfl, ⟨rfl, trivial⟩⟩ _ rfl ⟨rfl, rfl⟩
   ·refine ent_exi fun v4 => ent_and fun e_ => ?_
    subst e_
    rw [cas_inl] at H
    refine ent_seq ?_
    refine ent_region ?_
    refine ent_value (ov_move rfl) rfl rfl rfl ?_
    refine ent_value (ov_bin rfl rfl (b_mul _ _ _) ) rfl rfl rfl ?_
    refine ent_value (ov_move rfl) rfl rfl rfl ?_
    refine ent_value (ov_bin rfl rfl (b_mul _ _ _) ) rfl rfl rfl ?_
    refine ent_value (ov_assign rfl) rfl rfl rfl ?_
    refine ent_value (ov_assign rfl) rfl rfl rfl ?_
    refine ent_nil ?_
    refine ent_exit ?_
    refine ent_seq ?_
    refine ent_region ?_
    refine ent_value (ov_move rfl) rfl rfl rfl ?_
    refine ent_value (ov_move rfl) rfl rfl rfl ?_
    refine ent_value (ov_assign rfl) rfl rfl rfl ?_
    refine ent_value (ov_assign rfl) rfl rfl rfl ?_
    refine ent_nil ?_
    refine ent_retc ?_
    cases H
    refine ent_pick [] (by decide) rfl ?_
    exact ret_mem (vs := [(int .i64 (w64 (v4.1 * 24))), (int .i64 (w64 (v4.2 * 24)))]) rfl ⟨rfl, ⟨rfl, trivial⟩⟩ _ rfl ⟨rfl, rfl⟩

theorem sheet_Dates_1.spec (p0 : Nat) (a0 : Int) (p0_0 : Int) (r : Int) (H : sheet_Dates_1 a0 p0_0 = r) : FnSpec Try.prog 49 [(int .i64 a0), (pt p0 0)] [(box p0 2 [(int .i64 p0_0)])] (fun v M => v = (int .i64 r) ∧ M = [(box p0 2 [(int .i64 p0_0)])]) := by
 unfold sheet_Dates_1 at H
 refine spec_of Try.func49 rfl 20 rfl (Nat.le_of_ble_eq_true rfl) fun F w0 => ?_
 show Ent (St 20 w0 F [(0, (int .i64 a0)), (1, (pt p0 0))] [(box p0 2 [(int .i64 p0_0)])]) _
 refine ent_seq ?_
 refine ent_region ?_
 refine ent_value (ov_assign rfl) rfl rfl rfl ?_
 refine ent_nil ?_
 refine ent_seq ?_
 refine ent_region ?_
 refine ent_value (ov_move rfl) rfl rfl rfl ?_
 refine ent_value (ov_load (v := (int .i64 p0_0)) rfl F_agg_2 (reads_box1 (i := 0) rfl rfl)) rfl rfl rfl ?_
 obtain ⟨x3, h3, H⟩ := thn_elim H
 refine ent_op (ot_call0 (first := []) (cap := []) (xs := [.tmp 9, .tmp 10]) rfl rfl F_call_50 rfl (part_Of.spec a0 p0_0 _ h3)) rfl rfl rfl ?_
 rintro _ _ ⟨rfl, rfl⟩
 refine ent_value (ov_move rfl) rfl rfl rfl ?_
 refine ent_value (ov_extract rfl rfl) rfl rfl rfl ?_
 refine ent_value (ov_extract rfl rfl) rfl rfl rfl ?_
 refine ent_op (ot_alloc F_zero_40) rfl rfl rfl ?_
 rintro _ _ ⟨b2, rfl, rfl⟩
 refine ent_op0 (ot_storeG (cs := [(int .i64 0), (int .i64 0)]) (cs' := [(int .i64 x3.1), (int .i64 x3.2.1)]) (us := [(int .i64 x3.1), (int .i64 x3.2.1)]) (L' := [(box b2 40 [(int .i64 x3.1), (int .i64 x3.2.1)]), (box p0 2 [(int .i64 p0_0)])]) 0 rfl rfl rfl (one_all rfl) F_size_40 rfl rfl (by simp) rfl) rfl rfl ?_
 rintro _ _ rfl
 refine ent_value (ov_assign rfl) rfl rfl rfl ?_
 refine ent_nil ?_
 refine ent_seq ?_
 refine ent_region ?_
 refine ent_value (ov_load_agg (vs := [(int .i64 x3.1), (int .i64 x3.2.1)]) rfl F_agg_40 F_size_40 (reads_boxW (i := 0) rfl)) rfl rfl rfl ?_
 obtain ⟨x4, h4, H⟩ := thn_elim H
 refine ent_op (ot_call0 (first := []) (cap := []) (xs := [.tmp 15]) rfl rfl F_call_47 rfl (part_Span.spec x3.1 x3.2.1 _ h4)) rfl rfl rfl ?_
 rintro _ _ ⟨rfl, rfl⟩
 refine ent_value (ov_move rfl) rfl rfl rfl ?_
 refine ent_value (ov_extract rfl rfl) rfl rfl rfl ?_
 refine ent_value (ov_extract rfl rfl) rfl rfl rfl ?_
 refine ent_value (ov_assign rfl) rfl rfl rfl ?_
 refine ent_value (ov_assign rfl) rfl rfl rfl ?_
 refine ent_nil ?_
 refine ent_seq ?_
 refine ent_region ?_
 refine ent_value (ov_move rfl) rfl rfl rfl ?_
 refine ent_value (ov_assign rfl) rfl rfl rfl ?_
 refine ent_nil ?_
 refine ent_retc ?_
 cases H
 refine ent_pick [1] (by decide) rfl ?_
 exact ret_tmp rfl rfl ⟨rfl, rfl⟩

theorem sheet_Dates.spec (a0_0 : Int) (a0_1 : Int) (a0_2 : Int) (a0_3 : Int) (a0_4 : Int) (a0_5 : Int) (a0_6 : Int) (a0_7 : Int) (a0_8 : Int) (a1 : Int) (r : (Int × Int × Int × Int × Int × Bool)) (H : sheet_Dates a0_0 a0_1 a0_2 a0_3 a0_4 a0_5 a0_6 a0_7 a0_8 a1 = some r) : FnSpec Try.prog 22 [(agg #[(int .i64 a0_0), (int .i64 a0_1), (int .i64 a0_2), (int .i64 a0_3), (int .i64 a0_4), (int .i64 a0_5), (int .i64 a0_6), (int .i64 a0_7), (int .i64 a0_8)]), (int .i64 a1)] [] (fun v M => v = (Value.tuple #[(agg #[(int .i64 r.1), (int .i64 r.2.1), (int .i64 r.2.2.1), (int .i64 r.2.2.2.1), (int .i64 r.2.2.2.2.1)]), (bool r.2.2.2.2.2)]) ∧ M = []) := by
 unfold sheet_Dates at H
 refine spec_of Try.func22 rfl 56 rfl (Nat.le_of_ble_eq_true rfl) fun F w0 => ?_
 show Ent (St 56 w0 F [(0, (agg #[(int .i64 a0_0), (int .i64 a0_1), (int .i64 a0_2), (int .i64 a0_3), (int .i64 a0_4), (int .i64 a0_5), (int .i64 a0_6), (int .i64 a0_7), (int .i64 a0_8)])), (1, (int .i64 a1))] []) _
 refine ent_seq ?_
 refine ent_region ?_
 refine ent_op (ot_box (cs := [(int .i64 a0_0), (int .i64 a0_1), (int .i64 a0_2), (int .i64 a0_3), (int .i64 a0_4), (int .i64 a0_5), (int .i64 a0_6), (int .i64 a0_7), (int .i64 a0_8)]) rfl rfl) rfl rfl rfl ?_
 rintro _ _ ⟨b7, rfl, rfl⟩
 refine ent_op (ot_box (cs := [(int .i64 a1)]) rfl rfl) rfl rfl rfl ?_
 rintro _ _ ⟨b8, rfl, rfl⟩
 refine ent_op (ot_alloc F_zero_44) rfl rfl rfl ?_
 rintro _ _ ⟨b9, rfl, rfl⟩
 refine ent_value (ov_assign rfl) rfl rfl rfl ?_
 refine ent_nil ?_
 refine ent_seq ?_
 refine ent_seq ?_
 refine ent_region ?_
 refine ent_value (ov_load_agg (vs := [(int .i64 a0_0), (int .i64 a0_1), (int .i64 a0_2), (int .i64 a0_3), (int .i64 a0_4), (int .i64 a0_5), (int .i64 a0_6), (int .i64 a0_7), (int .i64 a0_8)]) rfl F_agg_24 F_size_24 (reads_boxW (i := 2) rfl)) rfl rfl rfl ?_
 obtain ⟨x39, h38, H⟩ := Option.bind_eq_some_iff.1 H
 refine ent_op (ot_call0 (first := []) (cap := []) (xs := [.tmp 11]) rfl rfl F_call_37 rfl (policy_Check.spec a0_0 a0_1 a0_2 a0_3 a0_4 a0_5 a0_6 a0_7 a0_8 _ h38)) rfl rfl rfl ?_
 rintro _ _ ⟨rfl, rfl⟩
 refine ent_value (ov_bin rfl rfl (b_neq _ _ _)) rfl rfl rfl ?_
 refine ent_value (ov_move rfl) rfl rfl rfl ?_
 by_cases c32 : ¬ (x39 = 0)
 ·rw [if_pos c32] at H
  refine ent_off rfl rfl rfl (ne_t c32) rfl rfl ?_
  refine ent_off rfl rfl rfl (ne_t c32) rfl rfl ?_
  refine ent_value (ov_pick rfl rfl rfl (pick_t (ne_t c32))) rfl rfl rfl ?_
  refine ent_value (ov_move rfl) rfl rfl rfl ?_
  refine ent_off rfl rfl rfl rfl rfl rfl ?_
  refine ent_off rfl rfl rfl rfl rfl rfl ?_
  refine ent_value (ov_pick rfl rfl rfl rfl) rfl rfl rfl ?_
  refine ent_nil ?_
  refine ent_cond_true rfl rfl ?_
  refine ent_seq ?_
  refine ent_region ?_
  refine ent_value (ov_load_agg (vs := [(int .i64 0), (int .i64 0), (int .i64 0), (int .i64 0), (int .i64 0)]) rfl F_agg_44 F_size_44 (reads_boxW (i := 0) rfl)) rfl rfl rfl ?_
  refine ent_op0 (ot_storeG (cs := [(int .i64 0), (int .i64 0), (int .i64 0), (int .i64 0), (int .i64 0)]) (cs' := [(int .i64 0), (int .i64 0), (int .i64 0), (int .i64 0), (int .i64 0)]) (us := [(int .i64 0), (int .i64 0), (int .i64 0), (int .i64 0), (int .i64 0)]) (L' := [(box b9 44 [(int .i64 0), (int .i64 0), (int .i64 0), (int .i64 0), (int .i64 0)]), (box b8 2 [(int .i64 a1)]), (box b7 24 [(int .i64 a0_0), (int .i64 a0_1), (int .i64 a0_2), (int .i64 a0_3), (int .i64 a0_4), (int .i64 a0_5), (int .i64 a0_6), (int .i64 a0_7), (int .i64 a0_8)])]) 0 rfl rfl rfl (one_all rfl) F_size_44 rfl rfl (by simp) rfl) rfl rfl ?_
  rintro _ _ rfl
  refine ent_value (ov_assign rfl) rfl rfl rfl ?_
  refine ent_nil ?_
  refine ent_retc ?_
  first | (have e_ := Option.some.inj (show some _ = some _ from H); subst e_) | subst H
  exact ret_memp [] (by decide) rfl (vs := [(agg #[(int .i64 0), (int .i64 0), (int .i64 0), (int .i64 0), (int .i64 0)]), (bool false)]) rfl ⟨⟨_, [(int .i64 0), (int .i64 0), (int .i64 0), (int .i64 0), (int .i64 0)], rfl, reads_boxW (i := 0) rfl, .inl ⟨F_agg_44, F_size_44, rfl⟩⟩, ⟨rfl, trivial⟩⟩ _ rfl ⟨rfl, rfl⟩
 ·rw [if_neg c32] at H
  refine ent_value_on (ov_load (v := (int .i64 a1)) rfl F_agg_2 (reads_box1 (i := 1) rfl rfl)) rfl rfl rfl (ne_f c32) rfl rfl ?_
  refine ent_value_on (ov_bin rfl rfl (b_lss _ _ _)) rfl rfl rfl (ne_f c32) rfl rfl ?_
  refine ent_value (ov_pick rfl rfl rfl (pick_f (ne_f c32))) rfl rfl rfl ?_
  refine ent_value (ov_move rfl) rfl rfl rfl ?_
  by_cases c33 : a1 < 0
  ·rw [if_pos c33] at H
   refine ent_off rfl rfl rfl (decide_eq_true c33) rfl rfl ?_
   refine ent_off rfl rfl rfl (decide_eq_true c33) rfl rfl ?_
   refine ent_value (ov_pick rfl rfl rfl (pick_t (decide_eq_true c33))) rfl rfl rfl ?_
   refine ent_nil ?_
   refine ent_cond_true rfl rfl ?_
   refine ent_seq ?_
   refine ent_region ?_
   refine ent_value (ov_load_agg (vs := [(int .i64 0), (int .i64 0), (int .i64 0), (int .i64 0), (int .i64 0)]) rfl F_agg_44 F_size_44 (reads_boxW (i := 0) rfl)) rfl rfl rfl ?_
   refine ent_op0 (ot_storeG (cs := [(int .i64 0), (int .i64 0), (int .i64 0), (int .i64 0), (int .i64 0)]) (cs' := [(int .i64 0), (int .i64 0), (int .i64 0), (int .i64 0), (int .i64 0)]) (us := [(int .i64 0), (int .i64 0), (int .i64 0), (int .i64 0), (int .i64 0)]) (L' := [(box b9 44 [(int .i64 0), (int .i64 0), (int .i64 0), (int .i64 0), (int .i64 0)]), (box b8 2 [(int .i64 a1)]), (box b7 24 [(int .i64 a0_0), (int .i64 a0_1), (int .i64 a0_2), (int .i64 a0_3), (int .i64 a0_4), (int .i64 a0_5), (int .i64 a0_6), (int .i64 a0_7), (int .i64 a0_8)])]) 0 rfl rfl rfl (one_all rfl) F_size_44 rfl rfl (by simp) rfl) rfl rfl ?_
   rintro _ _ rfl
   refine ent_value (ov_assign rfl) rfl rfl rfl ?_
   refine ent_nil ?_
   refine ent_retc ?_
   first | (have e_ := Option.some.inj (show some _ = some _ from H); subst e_) | subst H
   exact ret_memp [] (by decide) rfl (vs := [(agg #[(int .i64 0), (int .i64 0), (int .i64 0), (int .i64 0), (int .i64 0)]), (bool false)]) rfl ⟨⟨_, [(int .i64 0), (int .i64 0), (int .i64 0), (int .i64 0), (int .i64 0)], rfl, reads_boxW (i := 0) rfl, .inl ⟨F_agg_44, F_size_44, rfl⟩⟩, ⟨rfl, trivial⟩⟩ _ rfl ⟨rfl, rfl⟩
  ·rw [if_neg c33] at H
   refine ent_value_on (ov_load (v := (int .i64 a1)) rfl F_agg_2 (reads_box1 (i := 1) rfl rfl)) rfl rfl rfl (decide_eq_false c33) rfl rfl ?_
   refine ent_value_on (ov_bin rfl rfl (b_gtr _ _ _)) rfl rfl rfl (decide_eq_false c33) rfl rfl ?_
   refine ent_value (ov_pick rfl rfl rfl (pick_f (decide_eq_false c33))) rfl rfl rfl ?_
   refine ent_nil ?_
   by_cases c34 : 16777216 < a1
   ·rw [if_pos c34] at H
    refine ent_cond_true rfl (decide_eq_true c34) ?_
    refine ent_seq ?_
    refine ent_region ?_
    refine ent_value (ov_load_agg (vs := [(int .i64 0), (int .i64 0), (int .i64 0), (int .i64 0), (int .i64 0)]) rfl F_agg_44 F_size_44 (reads_boxW (i := 0) rfl)) rfl rfl rfl ?_
    refine ent_op0 (ot_storeG (cs := [(int .i64 0), (int .i64 0), (int .i64 0), (int .i64 0), (int .i64 0)]) (cs' := [(int .i64 0), (int .i64 0), (int .i64 0), (int .i64 0), (int .i64 0)]) (us := [(int .i64 0), (int .i64 0), (int .i64 0), (int .i64 0), (int .i64 0)]) (L' := [(box b9 44 [(int .i64 0), (int .i64 0), (int .i64 0), (int .i64 0), (int .i64 0)]), (box b8 2 [(int .i64 a1)]), (box b7 24 [(int .i64 a0_0), (int .i64 a0_1), (int .i64 a0_2), (int .i64 a0_3), (int .i64 a0_4), (int .i64 a0_5), (int .i64 a0_6), (int .i64 a0_7), (int .i64 a0_8)])]) 0 rfl rfl rfl (one_all rfl) F_size_44 rfl rfl (by simp) rfl) rfl rfl ?_
    rintro _ _ rfl
    refine ent_value (ov_assign rfl) rfl rfl rfl ?_
    refine ent_nil ?_
    refine ent_retc ?_
    first | (have e_ := Option.some.inj (show some _ = some _ from H); subst e_) | subst H
    exact ret_memp [] (by decide) rfl (vs := [(agg #[(int .i64 0), (int .i64 0), (int .i64 0), (int .i64 0), (int .i64 0)]), (bool false)]) rfl ⟨⟨_, [(int .i64 0), (int .i64 0), (int .i64 0), (int .i64 0), (int .i64 0)], rfl, reads_boxW (i := 0) rfl, .inl ⟨F_agg_44, F_size_44, rfl⟩⟩, ⟨rfl, trivial⟩⟩ _ rfl ⟨rfl, rfl⟩
   ·rw [if_neg c34] at H
    refine ent_cond_false rfl (decide_eq_false c34) ?_
    refine ent_skip ?_
    refine ent_seq ?_
    refine ent_region ?_
    refine ent_value (ov_makeFunc (first := []) (cap := [.tmp 3]) rfl rfl) rfl rfl rfl ?_
    refine ent_value (ov_assign rfl) rfl rfl rfl ?_
    refine ent_nil ?_
    obtain ⟨x56, H2, H⟩ := Option.bind_eq_some_iff.1 H
    refine ent_seq_cut (fun a w => ∃ b10 : Nat, ∃ b11 : Nat, ∃ b12 : Nat, St 56 w0 F [(2, (pt b10 0)), (4, (pt b11 0)), (6, (Value.func (.func 49) #[] #[(pt b12 0)]))] [(box b10 24 [(int .i64 a0_0), (int .i64 a0_1), (int .i64 a0_2), (int .i64 a0_3), (int .i64 a0_4), (int .i64 a0_5), (int .i64 a0_6), (int .i64 a0_7), (int .i64 a0_8)]), (box b11 44 [(int .i64 x56.1), (int .i64 x56.2.1), (int .i64 x56.2.2), (int .i64 0), (int .i64 0)]), (box b12 2 [(int .i64 a1)])] a w) ?_ ?_
    ·refine ent_seq ?_
     refine ent_region ?_
     refine ent_value (ov_build (is := [0, 1, 2]) (xs := [.const (int .i64 1), .const (int .i64 2), .const (int .i64 3)]) (vs := [(int .i64 1), (int .i64 2), (int .i64 3)]) rfl rfl (build_array (cs := [(int .i64 1), (int .i64 2), (int .i64 3)]) F_zero_91 F_array_91 F_size_3 rfl)) rfl rfl rfl ?_
     refine ent_value (ov_move rfl) rfl rfl rfl ?_
     refine ent_nil ?_
     refine ent_block ?_
     refine ent_rounds 4 ?_
     refine ent_round ?_
     refine ent_seq ?_
     refine ent_region ?_
     refine ent_value (ov_bin rfl rfl (b_lss _ _ _)) rfl rfl rfl ?_
     refine ent_nil ?_
     refine ent_seq ?_
     refine ent_cond_true rfl rfl ?_
     refine ent_skip ?_
     refine ent_seq ?_
     refine ent_block ?_
     refine ent_seq ?_
     refine ent_region ?_
     refine ent_value (ov_move rfl) rfl rfl rfl ?_
     refine ent_value (ov_indexAggN rfl rfl F_array_91 F_size_3 F_agg_3 (by decide) (by decide) rfl) rfl rfl rfl ?_
     refine ent_value (ov_assign rfl) rfl rfl rfl ?_
     refine ent_value (ov_assign rfl) rfl rfl rfl ?_
     refine ent_nil ?_
     refine ent_seq ?_
     refine ent_region ?_
     refine ent_value (ov_load_agg (vs := [(int .i64 a0_0), (int .i64 a0_1), (int .i64 a0_2), (int .i64 a0_3), (int .i64 a0_4), (int .i64 a0_5), (int .i64 a0_6), (int .i64 a0_7), (int .i64 a0_8)]) rfl F_agg_24 F_size_24 (reads_boxW (i := 2) rfl)) rfl rfl rfl ?_
     refine ent_value (ov_move rfl) rfl rfl rfl ?_
     obtain ⟨x63, h61, H2⟩ := Option.bind_eq_some_iff.1 H2
     refine ent_op (ot_call0 (first := []) (cap := []) (xs := [.tmp 30, .tmp 31]) rfl rfl F_call_51 rfl (policy_Lag.spec a0_0 a0_1 a0_2 a0_3 a0_4 a0_5 a0_6 a0_7 a0_8 1 _ h61)) rfl rfl rfl ?_
     rintro _ _ ⟨rfl, rfl⟩
     refine ent_value (ov_move rfl) rfl rfl rfl ?_
     refine ent_value (ov_extract rfl rfl) rfl rfl rfl ?_
     refine ent_value (ov_extract rfl rfl) rfl rfl rfl ?_
     refine ent_value (ov_assign rfl) rfl rfl rfl ?_
     refine ent_value (ov_assign rfl) rfl rfl rfl ?_
     refine ent_nil ?_
     refine ent_region ?_
     refine ent_value (ov_move rfl) rfl rfl rfl ?_
     refine ent_value (ov_move rfl) rfl rfl rfl ?_
     refine ent_value (ov_move rfl) rfl rfl rfl ?_
     obtain ⟨x64, h62, H2⟩ := thn_elim H2
     refine ent_op (ot_call_same (Lr := [(box b9 44 [(int .i64 0), (int .i64 0), (int .i64 0), (int .i64 0), (int .i64 0)]), (box b7 24 [(int .i64 a0_0), (int .i64 a0_1), (int .i64 a0_2), (int .i64 a0_3), (int .i64 a0_4), (int .i64 a0_5), (int .i64 a0_6), (int .i64 a0_7), (int .i64 a0_8)])]) [1, 0, 2] [1, 0, 2] (first := []) (cap := [(pt b8 0)]) (xs := [.tmp 37]) rfl rfl F_call_49 rfl (sheet_Dates_1.spec b8 1 a1 _ h62) (by decide) rfl (by decide) rfl) rfl rfl rfl ?_
     rintro _ _ ⟨rfl, rfl⟩
     refine ent_value (ov_move rfl) rfl rfl rfl ?_
     refine ent_value (ov_bin rfl rfl (b_add _ _ _) ) rfl rfl rfl ?_
     by_cases c50 : 0 < (5 : Int)
     ·rw [if_pos c50] at H2
      refine ent_value (ov_indexArr (o := 0) rfl rfl F_array_44 F_size_2 (by decide) c50) rfl rfl rfl ?_
      refine ent_op0 (ot_storeG (cs := [(int .i64 0), (int .i64 0), (int .i64 0), (int .i64 0), (int .i64 0)]) (cs' := [(int .i64 (w64 (x64 + x63.1))), (int .i64 0), (int .i64 0), (int .i64 0), (int .i64 0)]) (us := [(int .i64 (w64 (x64 + x63.1)))]) (L' := [(box b9 44 [(int .i64 (w64 (x64 + x63.1))), (int .i64 0), (int .i64 0), (int .i64 0), (int .i64 0)]), (box b8 2 [(int .i64 a1)]), (box b7 24 [(int .i64 a0_0), (int .i64 a0_1), (int .i64 a0_2), (int .i64 a0_3), (int .i64 a0_4), (int .i64 a0_5), (int .i64 a0_6), (int .i64 a0_7), (int .i64 a0_8)])]) 0 rfl rfl rfl (one_all rfl) F_size_2 rfl rfl (by simp) rfl) rfl rfl ?_
      rintro _ _ rfl
      refine ent_nil ?_
      refine ent_region ?_
      refine ent_value (ov_binL (m' := 1) rfl rfl (b_add _ _ _) (by decide)) rfl rfl rfl ?_
      refine ent_value (ov_move rfl) rfl rfl rfl ?_
      refine ent_nil ?_
      refine ent_round ?_
      refine ent_seq ?_
      refine ent_region ?_
      refine ent_value (ov_bin rfl rfl (b_lss _ _ _)) rfl rfl rfl ?_
      refine ent_nil ?_
      refine ent_seq ?_
      refine ent_cond_true rfl rfl ?_
      refine ent_skip ?_
      refine ent_seq ?_
      refine ent_block ?_
      refine ent_seq ?_
      refine ent_region ?_
      refine ent_value (ov_move rfl) rfl rfl rfl ?_
      refine ent_value (ov_indexAggN rfl rfl F_array_91 F_size_3 F_agg_3 (by decide) (by decide) rfl) rfl rfl rfl ?_
      refine ent_value (ov_assign rfl) rfl rfl rfl ?_
      refine ent_value (ov_assign rfl) rfl rfl rfl ?_
      refine ent_nil ?_
      refine ent_seq ?_
      refine ent_region ?_
      refine ent_value (ov_load_agg (vs := [(int .i64 a0_0), (int .i64 a0_1), (int .i64 a0_2), (int .i64 a0_3), (int .i64 a0_4), (int .i64 a0_5), (int .i64 a0_6), (int .i64 a0_7), (int .i64 a0_8)]) rfl F_agg_24 F_size_24 (reads_boxW (i := 2) rfl)) rfl rfl rfl ?_
      refine ent_value (ov_move rfl) rfl rfl rfl ?_
      obtain ⟨x67, h65, H2⟩ := Option.bind_eq_some_iff.1 H2
      refine ent_op (ot_call0 (first := []) (cap := []) (xs := [.tmp 30, .tmp 31]) rfl rfl F_call_51 rfl (policy_Lag.spec a0_0 a0_1 a0_2 a0_3 a0_4 a0_5 a0_6 a0_7 a0_8 2 _ h65)) rfl rfl rfl ?_
      rintro _ _ ⟨rfl, rfl⟩
      refine ent_value (ov_move rfl) rfl rfl rfl ?_
      refine ent_value (ov_extract rfl rfl) rfl rfl rfl ?_
      refine ent_value (ov_extract rfl rfl) rfl rfl rfl ?_
      refine ent_value (ov_assign rfl) rfl rfl rfl ?_
      refine ent_value (ov_assign rfl) rfl rfl rfl ?_
      refine ent_nil ?_
      refine ent_region ?_
      refine ent_value (ov_move rfl) rfl rfl rfl ?_
      refine ent_value (ov_move rfl) rfl rfl rfl ?_
      refine ent_value (ov_move rfl) rfl rfl rfl ?_
      obtain ⟨x68, h66, H2⟩ := thn_elim H2
      refine ent_op (ot_call_same (Lr := [(box b9 44 [(int .i64 (w64 (x64 + x63.1))), (int .i64 0), (int .i64 0), (int .i64 0), (int .i64 0)]), (box b7 24 [(int .i64 a0_0), (int .i64 a0_1), (int .i64 a0_2), (int .i64 a0_3), (int .i64 a0_4), (int .i64 a0_5), (int .i64 a0_6), (int .i64 a0_7), (int .i64 a0_8)])]) [1, 0, 2] [1, 0, 2] (first := []) (cap := [(pt b8 0)]) (xs := [.tmp 37]) rfl rfl F_call_49 rfl (sheet_Dates_1.spec b8 2 a1 _ h66) (by decide) rfl (by decide) rfl) rfl rfl rfl ?_
      rintro _ _ ⟨rfl, rfl⟩
      refine ent_value (ov_move rfl) rfl rfl rfl ?_
      refine ent_value (ov_bin rfl rfl (b_add _ _ _) ) rfl rfl rfl ?_
      by_cases c52 : 1 < (5 : Int)
      ·rw [if_pos c52] at H2
       refine ent_value (ov_indexArr (o := 0) rfl rfl F_array_44 F_size_2 (by decide) c52) rfl rfl rfl ?_
       refine ent_op0 (ot_storeG (cs := [(int .i64 (w64 (x64 + x63.1))), (int .i64 0), (int .i64 0), (int .i64 0), (int .i64 0)]) (cs' := [(int .i64 (w64 (x64 + x63.1))), (int .i64 (w64 (x68 + x67.1))), (int .i64 0), (int .i64 0), (int .i64 0)]) (us := [(int .i64 (w64 (x68 + x67.1)))]) (L' := [(box b9 44 [(int .i64 (w64 (x64 + x63.1))), (int .i64 (w64 (x68 + x67.1))), (int .i64 0), (int .i64 0), (int .i64 0)]), (box b8 2 [(int .i64 a1)]), (box b7 24 [(int .i64 a0_0), (int .i64 a0_1), (int .i64 a0_2), (int .i64 a0_3), (int .i64 a0_4), (int .i64 a0_5), (int .i64 a0_6), (int .i64 a0_7), (int .i64 a0_8)])]) 0 rfl rfl rfl (one_all rfl) F_size_2 rfl rfl (by simp) rfl) rfl rfl ?_
       rintro _ _ rfl
       refine ent_nil ?_
       refine ent_region ?_
       refine ent_value (ov_binL (m' := 2) rfl rfl (b_add _ _ _) (by decide)) rfl rfl rfl ?_
       refine ent_value (ov_move rfl) rfl rfl rfl ?_
       refine ent_nil ?_
       refine ent_round ?_
       refine ent_seq ?_
       refine ent_region ?_
       refine ent_value (ov_bin rfl rfl (b_lss _ _ _)) rfl rfl rfl ?_
       refine ent_nil ?_
       refine ent_seq ?_
       refine ent_cond_true rfl rfl ?_
       refine ent_skip ?_
       refine ent_seq ?_
       refine ent_block ?_
       refine ent_seq ?_
       refine ent_region ?_
       refine ent_value (ov_move rfl) rfl rfl rfl ?_
       refine ent_value (ov_indexAggN rfl rfl F_array_91 F_size_3 F_agg_3 (by decide) (by decide) rfl) rfl rfl rfl ?_
       refine ent_value (ov_assign rfl) rfl rfl rfl ?_
       refine ent_value (ov_assign rfl) rfl rfl rfl ?_
       refine ent_nil ?_
       refine ent_seq ?_
       refine ent_region ?_
       refine ent_value (ov_load_agg (vs := [(int .i64 a0_0), (int .i64 a0_1), (int .i64 a0_2), (int .i64 a0_3), (int .i64 a0_4), (int .i64 a0_5), (int .i64 a0_6), (int .i64 a0_7), (int .i64 a0_8)]) rfl F_agg_24 F_size_24 (reads_boxW (i := 2) rfl)) rfl rfl rfl ?_
       refine ent_value (ov_move rfl) rfl rfl rfl ?_
       obtain ⟨x71, h69, H2⟩ := Option.bind_eq_some_iff.1 H2
       refine ent_op (ot_call0 (first := []) (cap := []) (xs := [.tmp 30, .tmp 31]) rfl rfl F_call_51 rfl (policy_Lag.spec a0_0 a0_1 a0_2 a0_3 a0_4 a0_5 a0_6 a0_7 a0_8 3 _ h69)) rfl rfl rfl ?_
       rintro _ _ ⟨rfl, rfl⟩
       refine ent_value (ov_move rfl) rfl rfl rfl ?_
       refine ent_value (ov_extract rfl rfl) rfl rfl rfl ?_
       refine ent_value (ov_extract rfl rfl) rfl rfl rfl ?_
       refine ent_value (ov_assign rfl) rfl rfl rfl ?_
       refine ent_value (ov_assign rfl) rfl rfl rfl ?_
       refine ent_nil ?_
       refine ent_region ?_
       refine ent_value (ov_move rfl) rfl rfl rfl ?_
       refine ent_value (ov_move rfl) rfl rfl rfl ?_
       refine ent_value (ov_move rfl) rfl rfl rfl ?_
       obtain ⟨x72, h70, H2⟩ := thn_elim H2
       refine ent_op (ot_call_same (Lr := [(box b9 44 [(int .i64 (w64 (x64 + x63.1))), (int .i64 (w64 (x68 + x67.1))), (int .i64 0), (int .i64 0), (int .i64 0)]), (box b7 24 [(int .i64 a0_0), (int .i64 a0_1), (int .i64 a0_2), (int .i64 a0_3), (int .i64 a0_4), (int .i64 a0_5), (int .i64 a0_6), (int .i64 a0_7), (int .i64 a0_8)])]) [1, 0, 2] [1, 0, 2] (first := []) (cap := [(pt b8 0)]) (xs := [.tmp 37]) rfl rfl F_call_49 rfl (sheet_Dates_1.spec b8 3 a1 _ h70) (by decide) rfl (by decide) rfl) rfl rfl rfl ?_
       rintro _ _ ⟨rfl, rfl⟩
       refine ent_value (ov_move rfl) rfl rfl rfl ?_
       refine ent_value (ov_bin rfl rfl (b_add _ _ _) ) rfl rfl rfl ?_
       by_cases c54 : 2 < (5 : Int)
       ·rw [if_pos c54] at H2
        refine ent_value (ov_indexArr (o := 0) rfl rfl F_array_44 F_size_2 (by decide) c54) rfl rfl rfl ?_
        refine ent_op0 (ot_storeG (cs := [(int .i64 (w64 (x64 + x63.1))), (int .i64 (w64 (x68 + x67.1))), (int .i64 0), (int .i64 0), (int .i64 0)]) (cs' := [(int .i64 (w64 (x64 + x63.1))), (int .i64 (w64 (x68 + x67.1))), (int .i64 (w64 (x72 + x71.1))), (int .i64 0), (int .i64 0)]) (us := [(int .i64 (w64 (x72 + x71.1)))]) (L' := [(box b9 44 [(int .i64 (w64 (x64 + x63.1))), (int .i64 (w64 (x68 + x67.1))), (int .i64 (w64 (x72 + x71.1))), (int .i64 0), (int .i64 0)]), (box b8 2 [(int .i64 a1)]), (box b7 24 [(int .i64 a0_0), (int .i64 a0_1), (int .i64 a0_2), (int .i64 a0_3), (int .i64 a0_4), (int .i64 a0_5), (int .i64 a0_6), (int .i64 a0_7), (int .i64 a0_8)])]) 0 rfl rfl rfl (one_all rfl) F_size_2 rfl rfl (by simp) rfl) rfl rfl ?_
        rintro _ _ rfl
        refine ent_nil ?_
        refine ent_region ?_
        refine ent_value (ov_binL (m' := 3) rfl rfl (b_add _ _ _) (by decide)) rfl rfl rfl ?_
        refine ent_value (ov_move rfl) rfl rfl rfl ?_
        refine ent_nil ?_
        refine ent_round ?_
        refine ent_seq ?_
        refine ent_region ?_
        refine ent_value (ov_bin rfl rfl (b_lss _ _ _)) rfl rfl rfl ?_
        refine ent_nil ?_
        refine ent_seq ?_
        refine ent_cond_false rfl rfl ?_
        refine ent_exit ?_
        cases H2
        exact ent_fin [2, 0, 1] (by decide) rfl (sub_cons (t := 2) rfl (sub_cons (t := 4) rfl (sub_cons (t := 6) rfl (sub_nil _)))) fun a w h => ⟨_, _, _, h⟩
       ·rw [if_neg c54] at H2
        cases H2
      ·rw [if_neg c52] at H2
       cases H2
     ·rw [if_neg c50] at H2
      cases H2
    ·refine ent_exi fun b10 => ent_exi fun b11 => ent_exi fun b12 => ?_
     refine ent_seq ?_
     obtain ⟨x73, h71, H⟩ := thn_elim H
     obtain ⟨x74, h72, H⟩ := thn_elim H
     by_cases c55 : 3 < (5 : Int)
     ·rw [if_pos c55] at H
      by_cases c56 : 4 < (5 : Int)
      ·rw [if_pos c56] at H
       refine ent_drawm 14 rfl (fun done a w => StD 56 w0 F [(2, (pt b10 0)), (4, (pt b11 0)), (6, (Value.func (.func 49) #[] #[(pt b12 0)]))] [(0, 43, (Value.func (.func 49) #[] #[(pt b12 0)])), (1, 44, (int .i64 x73)), (2, 45, (pt b10 4)), (3, 46, (int .i64 a0_4)), (4, 47, (int .i64 (w64 (x73 + a0_4)))), (5, 48, (Value.func (.func 49) #[] #[(pt b12 0)])), (6, 49, (int .i64 x74)), (7, 50, (pt b10 0)), (8, 51, (int .i64 a0_0)), (9, 52, (int .i64 (w64 (x74 + a0_0)))), (10, 53, (pt b11 3)), (12, 54, (pt b11 4))] done [(box b10 24 [(int .i64 a0_0), (int .i64 a0_1), (int .i64 a0_2), (int .i64 a0_3), (int .i64 a0_4), (int .i64 a0_5), (int .i64 a0_6), (int .i64 a0_7), (int .i64 a0_8)]), (sel (done 13) (box b11 44 [(int .i64 x56.1), (int .i64 x56.2.1), (int .i64 x56.2.2), (int .i64 (w64 (x73 + a0_4))), (int .i64 (w64 (x74 + a0_0)))]) (sel (done 11) (box b11 44 [(int .i64 x56.1), (int .i64 x56.2.1), (int .i64 x56.2.2), (int .i64 (w64 (x73 + a0_4))), (int .i64 0)]) (box b11 44 [(int .i64 x56.1), (int .i64 x56.2.1), (int .i64 x56.2.2), (int .i64 0), (int .i64 0)]))), (box b12 2 [(int .i64 a1)])] a w) (by kernel_rfl) (by kernel_rfl) (draw_startL (sub_cons (t := 2) rfl (sub_cons (t := 4) rfl (sub_cons (t := 6) rfl (sub_nil _)))) (by simp only [sel])) ?_ ?_
       ·refine ⟨?_, ?_, ?_, ?_, ?_, ?_, ?_, ?_, ?_, ?_, ?_, ?_, ?_, ?_, trivial⟩
        ·intro done hi hc hcu
         exact draw_value (i := 0) (t := 43) (v := (Value.func (.func 49) #[] #[(pt b12 0)])) rfl rfl (wanted_none rfl) (fun a => hasA_base) (ov_move rfl) rfl rfl (onlyT_spec (k0 := 0) rfl rfl rfl)
        ·intro done hi hc hcu
         have d0 : done 0 = true := done_of (j := 0) hcu rfl (by decide) rfl
         exact draw_same (i := 1) (t := 44) (v := (int .i64 x73)) rfl rfl (wanted_none rfl) (fun a => (hasA_cons (k := 0) rfl d0 hasA_base)) (ot_call_same (Lr := [(box b10 24 [(int .i64 a0_0), (int .i64 a0_1), (int .i64 a0_2), (int .i64 a0_3), (int .i64 a0_4), (int .i64 a0_5), (int .i64 a0_6), (int .i64 a0_7), (int .i64 a0_8)]), (sel (done 13) (box b11 44 [(int .i64 x56.1), (int .i64 x56.2.1), (int .i64 x56.2.2), (int .i64 (w64 (x73 + a0_4))), (int .i64 (w64 (x74 + a0_0)))]) (sel (done 11) (box b11 44 [(int .i64 x56.1), (int .i64 x56.2.1), (int .i64 x56.2.2), (int .i64 (w64 (x73 + a0_4))), (int .i64 0)]) (box b11 44 [(int .i64 x56.1), (int .i64 x56.2.1), (int .i64 x56.2.2), (int .i64 0), (int .i64 0)])))]) [2, 0, 1] [1, 2, 0] (first := []) (cap := [(pt b12 0)]) (xs := [.const (int .i64 3)]) rfl rfl F_call_49 rfl (sheet_Dates_1.spec b12 3 a1 _ h71) (by decide) rfl (by decide) rfl) rfl rfl (onlyT_spec (k0 := 1) rfl rfl rfl)
        ·intro done hi hc hcu
         exact draw_value (i := 2) (t := 45) (v := (pt b10 4)) rfl rfl (wanted_none rfl) (fun a => hasA_base) (ov_fieldAddr (sz := 0) (o := 0) rfl F_field_24_4 F_size_2) rfl rfl (onlyT_spec (k0 := 2) rfl rfl rfl)
        ·intro done hi hc hcu
         have d2 : done 2 = true := done_of (j := 2) hcu rfl (by decide) rfl
         exact draw_value (i := 3) (t := 46) (v := (int .i64 a0_4)) rfl rfl (wanted_none rfl) (fun a => (hasA_cons (k := 2) rfl d2 hasA_base)) (ov_load (v := (int .i64 a0_4)) rfl F_agg_2 (reads_box1 (i := 0) rfl rfl)) rfl rfl (onlyT_spec (k0 := 3) rfl rfl rfl)
        ·intro done hi hc hcu
         have d1 : done 1 = true := done_of (j := 1) hcu rfl (by decide) rfl
         have d3 : done 3 = true := done_of (j := 3) hcu rfl (by decide) rfl
         exact draw_value (i := 4) (t := 47) (v := (int .i64 (w64 (x73 + a0_4)))) rfl rfl (wanted_none rfl) (fun a => (hasA_cons (k := 3) rfl d3 (hasA_cons (k := 1) rfl d1 hasA_base))) (ov_bin rfl rfl (b_add _ _ _) ) rfl rfl (onlyT_spec (k0 := 4) rfl rfl rfl)
        ·intro done hi hc hcu
         exact draw_value (i := 5) (t := 48) (v := (Value.func (.func 49) #[] #[(pt b12 0)])) rfl rfl (wanted_none rfl) (fun a => hasA_base) (ov_move rfl) rfl rfl (onlyT_spec (k0 := 5) rfl rfl rfl)
        ·intro done hi hc hcu
         have d5 : done 5 = true := done_of (j := 5) hcu rfl (by decide) rfl
         exact draw_same (i := 6) (t := 49) (v := (int .i64 x74)) rfl rfl (wanted_none rfl) (fun a => (hasA_cons (k := 5) rfl d5 hasA_base)) (ot_call_same (Lr := [(box b10 24 [(int .i64 a0_0), (int .i64 a0_1), (int .i64 a0_2), (int .i64 a0_3), (int .i64 a0_4), (int .i64 a0_5), (int .i64 a0_6), (int .i64 a0_7), (int .i64 a0_8)]), (sel (done 13) (box b11 44 [(int .i64 x56.1), (int .i64 x56.2.1), (int .i64 x56.2.2), (int .i64 (w64 (x73 + a0_4))), (int .i64 (w64 (x74 + a0_0)))]) (sel (done 11) (box b11 44 [(int .i64 x56.1), (int .i64 x56.2.1), (int .i64 x56.2.2), (int .i64 (w64 (x73 + a0_4))), (int .i64 0)]) (box b11 44 [(int .i64 x56.1), (int .i64 x56.2.1), (int .i64 x56.2.2), (int .i64 0), (int .i64 0)])))]) [2, 0, 1] [1, 2, 0] (first := []) (cap := [(pt b12 0)]) (xs := [.const (int .i64 3)]) rfl rfl F_call_49 rfl (sheet_Dates_1.spec b12 3 a1 _ h72) (by decide) rfl (by decide) rfl) rfl rfl (onlyT_spec (k0 := 6) rfl rfl rfl)
        ·intro done hi hc hcu
         exact draw_value (i := 7) (t := 50) (v := (pt b10 0)) rfl rfl (wanted_none rfl) (fun a => hasA_base) (ov_fieldAddr (sz := 0) (o := 0) rfl F_field_24_0 F_size_2) rfl rfl (onlyT_spec (k0 := 7) rfl rfl rfl)
        ·intro done hi hc hcu
         have d7 : done 7 = true := done_of (j := 7) hcu rfl (by decide) rfl
         exact draw_value (i := 8) (t := 51) (v := (int .i64 a0_0)) rfl rfl (wanted_none rfl) (fun a => (hasA_cons (k := 7) rfl d7 hasA_base)) (ov_load (v := (int .i64 a0_0)) rfl F_agg_2 (reads_box1 (i := 0) rfl rfl)) rfl rfl (onlyT_spec (k0 := 8) rfl rfl rfl)
        ·intro done hi hc hcu
         have d6 : done 6 = true := done_of (j := 6) hcu rfl (by decide) rfl
         have d8 : done 8 = true := done_of (j := 8) hcu rfl (by decide) rfl
         exact draw_value (i := 9) (t := 52) (v := (int .i64 (w64 (x74 + a0_0)))) rfl rfl (wanted_none rfl) (fun a => (hasA_cons (k := 8) rfl d8 (hasA_cons (k := 6) rfl d6 hasA_base))) (ov_bin rfl rfl (b_add _ _ _) ) rfl rfl (onlyT_spec (k0 := 9) rfl rfl rfl)
        ·intro done hi hc hcu
         have n11 : done 11 = false := notdone_of (m := 11) hc hi rfl rfl
         have n13 : done 13 = false := notdone_of (m := 13) hc hi rfl rfl
         exact draw_value (i := 10) (t := 53) (v := (pt b11 3)) rfl rfl (wanted_none rfl) (fun a => hasA_base) (ov_L (L2 := [(box b10 24 [(int .i64 a0_0), (int .i64 a0_1), (int .i64 a0_2), (int .i64 a0_3), (int .i64 a0_4), (int .i64 a0_5), (int .i64 a0_6), (int .i64 a0_7), (int .i64 a0_8)]), (box b11 44 [(int .i64 x56.1), (int .i64 x56.2.1), (int .i64 x56.2.2), (int .i64 0), (int .i64 0)]), (box b12 2 [(int .i64 a1)])]) (by simp only [n11, n13, sel]) (ov_indexArr (o := 0) rfl rfl F_array_44 F_size_2 (by decide) c55)) rfl rfl (onlyT_spec (k0 := 10) rfl rfl rfl)
        ·intro done hi hc hcu
         have d10 : done 10 = true := done_of (j := 10) hcu rfl (by decide) rfl
         have d4 : done 4 = true := done_of (j := 4) hcu rfl (by decide) rfl
         have n13 : done 13 = false := notdone_of (m := 13) hc hi rfl rfl
         exact draw_store (i := 11) (L2 := [(box b10 24 [(int .i64 a0_0), (int .i64 a0_1), (int .i64 a0_2), (int .i64 a0_3), (int .i64 a0_4), (int .i64 a0_5), (int .i64 a0_6), (int .i64 a0_7), (int .i64 a0_8)]), (box b11 44 [(int .i64 x56.1), (int .i64 x56.2.1), (int .i64 x56.2.2), (int .i64 0), (int .i64 0)]), (box b12 2 [(int .i64 a1)])]) (L3 := [(box b10 24 [(int .i64 a0_0), (int .i64 a0_1), (int .i64 a0_2), (int .i64 a0_3), (int .i64 a0_4), (int .i64 a0_5), (int .i64 a0_6), (int .i64 a0_7), (int .i64 a0_8)]), (box b11 44 [(int .i64 x56.1), (int .i64 x56.2.1), (int .i64 x56.2.2), (int .i64 (w64 (x73 + a0_4))), (int .i64 0)]), (box b12 2 [(int .i64 a1)])]) rfl rfl (wanted_none rfl) (fun a => (hasA_cons (k := 4) rfl d4 (hasA_cons (k := 10) rfl d10 hasA_base))) (by simp only [n13, hi, sel]) (by simp [up, n13, sel]) (ot_storeG (cs := [(int .i64 x56.1), (int .i64 x56.2.1), (int .i64 x56.2.2), (int .i64 0), (int .i64 0)]) (cs' := [(int .i64 x56.1), (int .i64 x56.2.1), (int .i64 x56.2.2), (int .i64 (w64 (x73 + a0_4))), (int .i64 0)]) (us := [(int .i64 (w64 (x73 + a0_4)))]) (L' := [(box b10 24 [(int .i64 a0_0), (int .i64 a0_1), (int .i64 a0_2), (int .i64 a0_3), (int .i64 a0_4), (int .i64 a0_5), (int .i64 a0_6), (int .i64 a0_7), (int .i64 a0_8)]), (box b11 44 [(int .i64 x56.1), (int .i64 x56.2.1), (int .i64 x56.2.2), (int .i64 (w64 (x73 + a0_4))), (int .i64 0)]), (box b12 2 [(int .i64 a1)])]) 1 rfl rfl rfl (one_all rfl) F_size_2 rfl rfl (by simp) rfl) (offT_spec rfl)
        ·intro done hi hc hcu
         have d11 : done 11 = true := done_of (j := 11) hcu rfl (by decide) rfl
         have n13 : done 13 = false := notdone_of (m := 13) hc hi rfl rfl
         exact draw_value (i := 12) (t := 54) (v := (pt b11 4)) rfl rfl (wanted_none rfl) (fun a => hasA_base) (ov_L (L2 := [(box b10 24 [(int .i64 a0_0), (int .i64 a0_1), (int .i64 a0_2), (int .i64 a0_3), (int .i64 a0_4), (int .i64 a0_5), (int .i64 a0_6), (int .i64 a0_7), (int .i64 a0_8)]), (box b11 44 [(int .i64 x56.1), (int .i64 x56.2.1), (int .i64 x56.2.2), (int .i64 (w64 (x73 + a0_4))), (int .i64 0)]), (box b12 2 [(int .i64 a1)])]) (by simp only [d11, n13, sel]) (ov_indexArr (o := 0) rfl rfl F_array_44 F_size_2 (by decide) c56)) rfl rfl (onlyT_spec (k0 := 11) rfl rfl rfl)
        ·intro done hi hc hcu
         have d12 : done 12 = true := done_of (j := 12) hcu rfl (by decide) rfl
         have d9 : done 9 = true := done_of (j := 9) hcu rfl (by decide) rfl
         have d11 : done 11 = true := done_of (j := 11) hcu rfl (by decide) rfl
         exact draw_store (i := 13) (L2 := [(box b10 24 [(int .i64 a0_0), (int .i64 a0_1), (int .i64 a0_2), (int .i64 a0_3), (int .i64 a0_4), (int .i64 a0_5), (int .i64 a0_6), (int .i64 a0_7), (int .i64 a0_8)]), (box b11 44 [(int .i64 x56.1), (int .i64 x56.2.1), (int .i64 x56.2.2), (int .i64 (w64 (x73 + a0_4))), (int .i64 0)]), (box b12 2 [(int .i64 a1)])]) (L3 := [(box b10 24 [(int .i64 a0_0), (int .i64 a0_1), (int .i64 a0_2), (int .i64 a0_3), (int .i64 a0_4), (int .i64 a0_5), (int .i64 a0_6), (int .i64 a0_7), (int .i64 a0_8)]), (box b11 44 [(int .i64 x56.1), (int .i64 x56.2.1), (int .i64 x56.2.2), (int .i64 (w64 (x73 + a0_4))), (int .i64 (w64 (x74 + a0_0)))]), (box b12 2 [(int .i64 a1)])]) rfl rfl (wanted_none rfl) (fun a => (hasA_cons (k := 9) rfl d9 (hasA_cons (k := 11) rfl d12 hasA_base))) (by simp only [d11, hi, sel]) (by simp [up, d11, sel]) (ot_storeG (cs := [(int .i64 x56.1), (int .i64 x56.2.1), (int .i64 x56.2.2), (int .i64 (w64 (x73 + a0_4))), (int .i64 0)]) (cs' := [(int .i64 x56.1), (int .i64 x56.2.1), (int .i64 x56.2.2), (int .i64 (w64 (x73 + a0_4))), (int .i64 (w64 (x74 + a0_0)))]) (us := [(int .i64 (w64 (x74 + a0_0)))]) (L' := [(box b10 24 [(int .i64 a0_0), (int .i64 a0_1), (int .i64 a0_2), (int .i64 a0_3), (int .i64 a0_4), (int .i64 a0_5), (int .i64 a0_6), (int .i64 a0_7), (int .i64 a0_8)]), (box b11 44 [(int .i64 x56.1), (int .i64 x56.2.1), (int .i64 x56.2.2), (int .i64 (w64 (x73 + a0_4))), (int .i64 (w64 (x74 + a0_0)))]), (box b12 2 [(int .i64 a1)])]) 1 rfl rfl rfl (one_all rfl) F_size_2 rfl rfl (by simp) rfl) (offT_spec rfl)
       ·intro done hall
        refine draw_endL [(box b10 24 [(int .i64 a0_0), (int .i64 a0_1), (int .i64 a0_2), (int .i64 a0_3), (int .i64 a0_4), (int .i64 a0_5), (int .i64 a0_6), (int .i64 a0_7), (int .i64 a0_8)]), (box b11 44 [(int .i64 x56.1), (int .i64 x56.2.1), (int .i64 x56.2.2), (int .i64 (w64 (x73 + a0_4))), (int .i64 (w64 (x74 + a0_0)))]), (box b12 2 [(int .i64 a1)])] (by simp only [hall 11 (by decide), hall 13 (by decide), sel]) (fun a => (hasA_cons (k := 0) rfl (hall 0 (by decide)) (hasA_cons (k := 1) rfl (hall 1 (by decide)) (hasA_cons (k := 2) rfl (hall 2 (by decide)) (hasA_cons (k := 3) rfl (hall 3 (by decide)) (hasA_cons (k := 4) rfl (hall 4 (by decide)) (hasA_cons (k := 5) rfl (hall 5 (by decide)) (hasA_cons (k := 6) rfl (hall 6 (by decide)) (hasA_cons (k := 7) rfl (hall 7 (by decide)) (hasA_cons (k := 8) rfl (hall 8 (by decide)) (hasA_cons (k := 9) rfl (hall 9 (by decide)) (hasA_cons (k := 10) rfl (hall 10 (by decide)) (hasA_cons (k := 11) rfl (hall 12 (by decide)) hasA_base))))))))))))) ?_
        refine ent_seq ?_
        refine ent_region ?_
        refine ent_value (ov_load_agg (vs := [(int .i64 x56.1), (int .i64 x56.2.1), (int .i64 x56.2.2), (int .i64 (w64 (x73 + a0_4))), (int .i64 (w64 (x74 + a0_0)))]) rfl F_agg_44 F_size_44 (reads_boxW (i := 1) rfl)) rfl rfl rfl ?_
        refine ent_op0 (ot_storeG (cs := [(int .i64 x56.1), (int .i64 x56.2.1), (int .i64 x56.2.2), (int .i64 (w64 (x73 + a0_4))), (int .i64 (w64 (x74 + a0_0)))]) (cs' := [(int .i64 x56.1), (int .i64 x56.2.1), (int .i64 x56.2.2), (int .i64 (w64 (x73 + a0_4))), (int .i64 (w64 (x74 + a0_0)))]) (us := [(int .i64 x56.1), (int .i64 x56.2.1), (int .i64 x56.2.2), (int .i64 (w64 (x73 + a0_4))), (int .i64 (w64 (x74 + a0_0)))]) (L' := [(box b10 24 [(int .i64 a0_0), (int .i64 a0_1), (int .i64 a0_2), (int .i64 a0_3), (int .i64 a0_4), (int .i64 a0_5), (int .i64 a0_6), (int .i64 a0_7), (int .i64 a0_8)]), (box b11 44 [(int .i64 x56.1), (int .i64 x56.2.1), (int .i64 x56.2.2), (int .i64 (w64 (x73 + a0_4))), (int .i64 (w64 (x74 + a0_0)))]), (box b12 2 [(int .i64 a1)])]) 1 rfl rfl rfl (one_all rfl) F_size_44 rfl rfl (by simp) rfl) rfl rfl ?_
        rintro _ _ rfl
        refine ent_value (ov_assign rfl) rfl rfl rfl ?_
        refine ent_nil ?_
        refine ent_retc ?_
        first | (have e_ := Option.some.inj (show some _ = some _ from H); subst e_) | subst H
        exact ret_memp [] (by decide) rfl (vs := [(agg #[(int .i64 x56.1), (int .i64 x56.2.1), (int .i64 x56.2.2), (int .i64 (w64 (x73 + a0_4))), (int .i64 (w64 (x74 + a0_0)))]), (bool true)]) rfl ⟨⟨_, [(int .i64 x56.1), (int .i64 x56.2.1), (int .i64 x56.2.2), (int .i64 (w64 (x73 + a0_4))), (int .i64 (w64 (x74 + a0_0)))], rfl, reads_boxW (i := 1) rfl, .inl ⟨F_agg_44, F_size_44, rfl⟩⟩, ⟨rfl, trivial⟩⟩ _ rfl ⟨rfl, rfl⟩
      ·rw [if_neg c56] at H
       cases H
     ·rw [if_neg c55] at H
      cases H

theorem ossuaryref18_in.spec (a0 : Int) (a1 : Int) (a2 : Int) (r : Bool) (H : ossuaryref18_in a0 a1 a2 = r) : FnSpec Try.prog 59 [(int .i64 a0), (int .i64 a1), (int .i64 a2)] [] (fun v M => v = (bool r) ∧ M = []) := by
 unfold ossuaryref18_in at H
 refine spec_of Try.func59 rfl 15 rfl (Nat.le_of_ble_eq_true rfl) fun F w0 => ?_
 show Ent (St 15 w0 F [(0, (int .i64 a0)), (1, (int .i64 a1)), (2, (int .i64 a2))] []) _
 refine ent_seq ?_
 refine ent_region ?_
 refine ent_value (ov_assign rfl) rfl rfl rfl ?_
 refine ent_nil ?_
 refine ent_seq ?_
 refine ent_region ?_
 refine ent_value (ov_move rfl) rfl rfl rfl ?_
 refine ent_value (ov_move rfl) rfl rfl rfl ?_
 refine ent_value (ov_bin rfl rfl (b_geq _ _ _)) rfl rfl rfl ?_
 refine ent_value (ov_move rfl) rfl rfl rfl ?_
 by_cases c2 : a1 ≤ a0
 ·rw [if_pos c2] at H
  refine ent_value_on (ov_move rfl) rfl rfl rfl (decide_eq_true c2) rfl rfl ?_
  refine ent_value_on (ov_move rfl) rfl rfl rfl (decide_eq_true c2) rfl rfl ?_
  refine ent_value_on (ov_bin rfl rfl (b_leq _ _ _)) rfl rfl rfl (decide_eq_true c2) rfl rfl ?_
  refine ent_value (ov_pick rfl rfl rfl (pick_t (decide_eq_true c2))) rfl rfl rfl ?_
  refine ent_value (ov_assign rfl) rfl rfl rfl ?_
  refine ent_nil ?_
  refine ent_retc ?_
  cases H
  refine ent_pick [] (by decide) rfl ?_
  exact ret_tmp rfl rfl ⟨rfl, rfl⟩
 ·rw [if_neg c2] at H
  refine ent_off rfl rfl rfl (decide_eq_false c2) rfl rfl ?_
  refine ent_off rfl rfl rfl (decide_eq_false c2) rfl rfl ?_
  refine ent_off rfl rfl rfl (decide_eq_false c2) rfl rfl ?_
  refine ent_value (ov_pick rfl rfl rfl (pick_f (decide_eq_false c2))) rfl rfl rfl ?_
  refine ent_value (ov_assign rfl) rfl rfl rfl ?_
  refine ent_nil ?_
  refine ent_retc ?_
  cases H
  refine ent_pick [] (by decide) rfl ?_
  exact ret_tmp rfl rfl ⟨rfl, rfl⟩

theorem ossuaryref18_Check.spec (a0_0 : Int) (a0_1 : Int) (a0_2 : Int) (a0_3 : Int) (a0_4 : Int) (a0_5 : Int) (a0_6 : Int) (a0_7 : Int) (a0_8 : Int) (r : Int) (H : ossuaryref18_Check a0_0 a0_1 a0_2 a0_3 a0_4 a0_5 a0_6 a0_7 a0_8 = r) : FnSpec Try.prog 35 [(agg #[(int .i64 a0_0), (int .i64 a0_1), (int .i64 a0_2), (int .i64 a0_3), (int .i64 a0_4), (int .i64 a0_5), (int .i64 a0_6), (int .i64 a0_7), (int .i64 a0_8)])] [] (fun v M => v = (int .i64 r) ∧ M = []) := by
 unfold ossuaryref18_Check at H
 refine spec_of Try.func35 rfl 53 rfl (Nat.le_of_ble_eq_true rfl) fun F w0 => ?_
 show Ent (St 53 w0 F [(0, (agg #[(int .i64 a0_0), (int .i64 a0_1), (int .i64 a0_2), (int .i64 a0_3), (int .i64 a0_4), (int .i64 a0_5), (int .i64 a0_6), (int .i64 a0_7), (int .i64 a0_8)]))] []) _
 refine ent_seq ?_
 refine ent_region ?_
 refine ent_op (ot_box (cs := [(int .i64 a0_0), (int .i64 a0_1), (int .i64 a0_2), (int .i64 a0_3), (int .i64 a0_4), (int .i64 a0_5), (int .i64 a0_6), (int .i64 a0_7), (int .i64 a0_8)]) rfl rfl) rfl rfl rfl ?_
 rintro _ _ ⟨b2, rfl, rfl⟩
 refine ent_value (ov_assign rfl) rfl rfl rfl ?_
 refine ent_nil ?_
 refine ent_seq ?_
 refine ent_seq ?_
 refine ent_region ?_
 refine ent_value (ov_fieldAddr (sz := 0) (o := 0) rfl F_field_24_0 F_size_2) rfl rfl rfl ?_
 refine ent_value (ov_load (v := (int .i64 a0_0)) rfl F_agg_2 (reads_box1 (i := 0) rfl rfl)) rfl rfl rfl ?_
 obtain ⟨x24, h24, H⟩ := thn_elim H
 refine ent_op (ot_call0 (first := []) (cap := []) (xs := [.tmp 4, .const (int .i64 1), .const (int .i64 1048576)]) rfl rfl F_call_59 rfl (ossuaryref18_in.spec a0_0 1 1048576 _ h24)) rfl rfl rfl ?_
 rintro _ _ ⟨rfl, rfl⟩
 refine ent_value (ov_un rfl (u_not _)) rfl rfl rfl ?_
 refine ent_value (ov_move rfl) rfl rfl rfl ?_
 by_cases c24 : (!x24) = true
 ·rw [if_pos c24] at H
  refine ent_off rfl rfl rfl c24 rfl rfl ?_
  refine ent_off rfl rfl rfl c24 rfl rfl ?_
  refine ent_off rfl rfl rfl c24 rfl rfl ?_
  refine ent_off rfl rfl rfl c24 rfl rfl ?_
  refine ent_value (ov_pick rfl rfl rfl (pick_t c24)) rfl rfl rfl ?_
  refine ent_value (ov_move rfl) rfl rfl rfl ?_
  refine ent_off rfl rfl rfl rfl rfl rfl ?_
  refine ent_off rfl rfl rfl rfl rfl rfl ?_
  refine ent_off rfl rfl rfl rfl rfl rfl ?_
  refine ent_off rfl rfl rfl rfl rfl rfl ?_
  refine ent_value (ov_pick rfl rfl rfl rfl) rfl rfl rfl ?_
  refine ent_value (ov_move rfl) rfl rfl rfl ?_
  refine ent_off rfl rfl rfl rfl rfl rfl ?_
  refine ent_off rfl rfl rfl rfl rfl rfl ?_
  refine ent_off rfl rfl rfl rfl rfl rfl ?_
  refine ent_off rfl rfl rfl rfl rfl rfl ?_
  refine ent_value (ov_pick rfl rfl rfl rfl) rfl rfl rfl ?_
  refine ent_value (ov_move rfl) rfl rfl rfl ?_
  refine ent_off rfl rfl rfl rfl rfl rfl ?_
  refine ent_off rfl rfl rfl rfl rfl rfl ?_
  refine ent_off rfl rfl rfl rfl rfl rfl ?_
  refine ent_off rfl rfl rfl rfl rfl rfl ?_
  refine ent_value (ov_pick rfl rfl rfl rfl) rfl rfl rfl ?_
  refine ent_nil ?_
  refine ent_cond_true rfl rfl ?_
  refine ent_seq ?_
  refine ent_region ?_
  refine ent_value (ov_assign rfl) rfl rfl rfl ?_
  refine ent_nil ?_
  refine ent_retc ?_
  cases H
  refine ent_pick [] (by decide) rfl ?_
  exact ret_tmp rfl rfl ⟨rfl, rfl⟩
 ·rw [if_neg c24] at H
  refine ent_value_on (ov_fieldAddr (sz := 0) (o := 0) rfl F_field_24_1 F_size_2) rfl rfl rfl (Bool.eq_false_iff.2 c24) rfl rfl ?_
  refine ent_value_on (ov_load (v := (int .i64 a0_1)) rfl F_agg_2 (reads_box1 (i := 0) rfl rfl)) rfl rfl rfl (Bool.eq_false_iff.2 c24) rfl rfl ?_
  obtain ⟨x25, h25, H⟩ := thn_elim H
  refine ent_op_on (ot_call0 (first := []) (cap := []) (xs := [.tmp 9, .const (int .i64 0), .const (int .i64 1048576)]) rfl rfl F_call_59 rfl (ossuaryref18_in.spec a0_1 0 1048576 _ h25)) rfl rfl rfl (Bool.eq_false_iff.2 c24) rfl rfl ?_
  rintro _ _ ⟨rfl, rfl⟩
  refine ent_value_on (ov_un rfl (u_not _)) rfl rfl rfl (Bool.eq_false_iff.2 c24) rfl rfl ?_
  refine ent_value (ov_pick rfl rfl rfl (pick_f (Bool.eq_false_iff.2 c24))) rfl rfl rfl ?_
  refine ent_value (ov_move rfl) rfl rfl rfl ?_
  by_cases c25 : (!x25) = true
  ·rw [if_pos c25] at H
   refine ent_off rfl rfl rfl c25 rfl rfl ?_
   refine ent_off rfl rfl rfl c25 rfl rfl ?_
   refine ent_off rfl rfl rfl c25 rfl rfl ?_
   refine ent_off rfl rfl rfl c25 rfl rfl ?_
   refine ent_value (ov_pick rfl rfl rfl (pick_t c25)) rfl rfl rfl ?_
   refine ent_value (ov_move rfl) rfl rfl rfl ?_
   refine ent_off rfl rfl rfl rfl rfl rfl ?_
   refine ent_off rfl rfl rfl rfl rfl rfl ?_
   refine ent_off rfl rfl rfl rfl rfl rfl ?_
   refine ent_off rfl rfl rfl rfl rfl rfl ?_
   refine ent_value (ov_pick rfl rfl rfl rfl) rfl rfl rfl ?_
   refine ent_value (ov_move rfl) rfl rfl rfl ?_
   refine ent_off rfl rfl rfl rfl rfl rfl ?_
   refine ent_off rfl rfl rfl rfl rfl rfl ?_
   refine ent_off rfl rfl rfl rfl rfl rfl ?_
   refine ent_off rfl rfl rfl rfl rfl rfl ?_
   refine ent_value (ov_pick rfl rfl rfl rfl) rfl rfl rfl ?_
   refine ent_nil ?_
   refine ent_cond_true rfl rfl ?_
   refine ent_seq ?_
   refine ent_region ?_
   refine ent_value (ov_assign rfl) rfl rfl rfl ?_
   refine ent_nil ?_
   refine ent_retc ?_
   cases H
   refine ent_pick [] (by decide) rfl ?_
   exact ret_tmp rfl rfl ⟨rfl, rfl⟩
  ·rw [if_neg c25] at H
   refine ent_value_on (ov_fieldAddr (sz := 0) (o := 0) rfl F_field_24_2 F_size_2) rfl rfl rfl (Bool.eq_false_iff.2 c25) rfl rfl ?_
   refine ent_value_on (ov_load (v := (int .i64 a0_2)) rfl F_agg_2 (reads_box1 (i := 0) rfl rfl)) rfl rfl rfl (Bool.eq_false_iff.2 c25) rfl rfl ?_
   obtain ⟨x26, h26, H⟩ := thn_elim H
   refine ent_op_on (ot_call0 (first := []) (cap := []) (xs := [.tmp 15, .const (int .i64 0), .const (int .i64 1048576)]) rfl rfl F_call_59 rfl (ossuaryref18_in.spec a0_2 0 1048576 _ h26)) rfl rfl rfl (Bool.eq_false_iff.2 c25) rfl rfl ?_
   rintro _ _ ⟨rfl, rfl⟩
   refine ent_value_on (ov_un rfl (u_not _)) rfl rfl rfl (Bool.eq_false_iff.2 c25) rfl rfl ?_
   refine ent_value (ov_pick rfl rfl rfl (pick_f (Bool.eq_false_iff.2 c25))) rfl rfl rfl ?_
   refine ent_value (ov_move rfl) rfl rfl rfl ?_
   by_cases c26 : (!x26) = true
   ·rw [if_pos c26] at H
    refine ent_off rfl rfl rfl c26 rfl rfl ?_
    refine ent_off rfl rfl rfl c26 rfl rfl ?_
    refine ent_off rfl rfl rfl c26 rfl rfl ?_
    refine ent_off rfl rfl rfl c26 rfl rfl ?_
    refine ent_value (ov_pick rfl rfl rfl (pick_t c26)) rfl rfl rfl ?_
    refine ent_value (ov_move rfl) rfl rfl rfl ?_
    refine ent_off rfl rfl rfl rfl rfl rfl ?_
    refine ent_off rfl rfl rfl rfl rfl rfl ?_
    refine ent_off rfl rfl rfl rfl rfl rfl ?_
    refine ent_off rfl rfl rfl rfl rfl rfl ?_
    refine ent_value (ov_pick rfl rfl rfl rfl) rfl rfl rfl ?_
    refine ent_nil ?_
    refine ent_cond_true rfl rfl ?_
    refine ent_seq ?_
    refine ent_region ?_
    refine ent_value (ov_assign rfl) rfl rfl rfl ?_
    refine ent_nil ?_
    refine ent_retc ?_
    cases H
    refine ent_pick [] (by decide) rfl ?_
    exact ret_tmp rfl rfl ⟨rfl, rfl⟩
   ·rw [if_neg c26] at H
    refine ent_value_on (ov_fieldAddr (sz := 0) (o := 0) rfl F_field_24_3 F_size_2) rfl rfl rfl (Bool.eq_false_iff.2 c26) rfl rfl ?_
    refine ent_value_on (ov_load (v := (int .i64 a0_3)) rfl F_agg_2 (reads_box1 (i := 0) rfl rfl)) rfl rfl rfl (Bool.eq_false_iff.2 c26) rfl rfl ?_
    obtain ⟨x27, h27, H⟩ := thn_elim H
    refine ent_op_on (ot_call0 (first := []) (cap := []) (xs := [.tmp 21, .const (int .i64 0), .const (int .i64 1048576)]) rfl rfl F_call_59 rfl (ossuaryref18_in.spec a0_3 0 1048576 _ h27)) rfl rfl rfl (Bool.eq_false_iff.2 c26) rfl rfl ?_
    rintro _ _ ⟨rfl, rfl⟩
    refine ent_value_on (ov_un rfl (u_not _)) rfl rfl rfl (Bool.eq_false_iff.2 c26) rfl rfl ?_
    refine ent_value (ov_pick rfl rfl rfl (pick_f (Bool.eq_false_iff.2 c26))) rfl rfl rfl ?_
    refine ent_value (ov_move rfl) rfl rfl rfl ?_
    by_cases c27 : (!x27) = true
    ·rw [if_pos c27] at H
     refine ent_off rfl rfl rfl c27 rfl rfl ?_
     refine ent_off rfl rfl rfl c27 rfl rfl ?_
     refine ent_off rfl rfl rfl c27 rfl rfl ?_
     refine ent_off rfl rfl rfl c27 rfl rfl ?_
     refine ent_value (ov_pick rfl rfl rfl (pick_t c27)) rfl rfl rfl ?_
     refine ent_nil ?_
     refine ent_cond_true rfl rfl ?_
     refine ent_seq ?_
     refine ent_region ?_
     refine ent_value (ov_assign rfl) rfl rfl rfl ?_
     refine ent_nil ?_
     refine ent_retc ?_
     cases H
     refine ent_pick [] (by decide) rfl ?_
     exact ret_tmp rfl rfl ⟨rfl, rfl⟩
    ·rw [if_neg c27] at H
     refine ent_value_on (ov_fieldAddr (sz := 0) (o := 0) rfl F_field_24_4 F_size_2) rfl rfl rfl (Bool.eq_false_iff.2 c27) rfl rfl ?_
     refine ent_value_on (ov_load (v := (int .i64 a0_4)) rfl F_agg_2 (reads_box1 (i := 0) rfl rfl)) rfl rfl rfl (Bool.eq_false_iff.2 c27) rfl rfl ?_
     obtain ⟨x28, h28, H⟩ := thn_elim H
     refine ent_op_on (ot_call0 (first := []) (cap := []) (xs := [.tmp 27, .const (int .i64 0), .const (int .i64 1048576)]) rfl rfl F_call_59 rfl (ossuaryref18_in.spec a0_4 0 1048576 _ h28)) rfl rfl rfl (Bool.eq_false_iff.2 c27) rfl rfl ?_
     rintro _ _ ⟨rfl, rfl⟩
     refine ent_value_on (ov_un rfl (u_not _)) rfl rfl rfl (Bool.eq_false_iff.2 c27) rfl rfl ?_
     refine ent_value (ov_pick rfl rfl rfl (pick_f (Bool.eq_false_iff.2 c27))) rfl rfl rfl ?_
     refine ent_nil ?_
     by_cases c28 : (!x28) = true
     ·rw [if_pos c28] at H
      refine ent_cond_true rfl c28 ?_
      refine ent_seq ?_
      refine ent_region ?_
      refine ent_value (ov_assign rfl) rfl rfl rfl ?_
      refine ent_nil ?_
      refine ent_retc ?_
      cases H
      refine ent_pick [] (by decide) rfl ?_
      exact ret_tmp rfl rfl ⟨rfl, rfl⟩
     ·rw [if_neg c28] at H
      refine ent_cond_false rfl (Bool.eq_false_iff.2 c28) ?_
      refine ent_skip ?_
      refine ent_seq ?_
      refine ent_seq ?_
      refine ent_region ?_
      refine ent_value (ov_fieldAddr (sz := 0) (o := 0) rfl F_field_24_5 F_size_2) rfl rfl rfl ?_
      refine ent_value (ov_load (v := (int .i64 a0_5)) rfl F_agg_2 (reads_box1 (i := 0) rfl rfl)) rfl rfl rfl ?_
      obtain ⟨x33, h33, H⟩ := thn_elim H
      refine ent_op (ot_call0 (first := []) (cap := []) (xs := [.tmp 32, .const (int .i64 1), .const (int .i64 1048576)]) rfl rfl F_call_59 rfl (ossuaryref18_in.spec a0_5 1 1048576 _ h33)) rfl rfl rfl ?_
      rintro _ _ ⟨rfl, rfl⟩
      refine ent_value (ov_un rfl (u_not _)) rfl rfl rfl ?_
      refine ent_value (ov_move rfl) rfl rfl rfl ?_
      by_cases c33 : (!x33) = true
      ·rw [if_pos c33] at H
       refine ent_off rfl rfl rfl c33 rfl rfl ?_
       refine ent_off rfl rfl rfl c33 rfl rfl ?_
       refine ent_off rfl rfl rfl c33 rfl rfl ?_
       refine ent_off rfl rfl rfl c33 rfl rfl ?_
       refine ent_value (ov_pick rfl rfl rfl (pick_t c33)) rfl rfl rfl ?_
       refine ent_value (ov_move rfl) rfl rfl rfl ?_
       refine ent_off rfl rfl rfl rfl rfl rfl ?_
       refine ent_off rfl rfl rfl rfl rfl rfl ?_
       refine ent_off rfl rfl rfl rfl rfl rfl ?_
       refine ent_off rfl rfl rfl rfl rfl rfl ?_
       refine ent_value (ov_pick rfl rfl rfl rfl) rfl rfl rfl ?_
       refine ent_value (ov_move rfl) rfl rfl rfl ?_
       refine ent_off rfl rfl rfl rfl rfl rfl ?_
       refine ent_off rfl rfl rfl rfl rfl rfl ?_
       refine ent_off rfl rfl rfl rfl rfl rfl ?_
       refine ent_off rfl rfl rfl rfl rfl rfl ?_
       refine ent_value (ov_pick rfl rfl rfl rfl) rfl rfl rfl ?_
       refine ent_nil ?_
       refine ent_cond_true rfl rfl ?_
       refine ent_seq ?_
       refine ent_region ?_
       refine ent_value (ov_assign rfl) rfl rfl rfl ?_
       refine ent_nil ?_
       refine ent_retc ?_
       cases H
       refine ent_pick [] (by decide) rfl ?_
       exact ret_tmp rfl rfl ⟨rfl, rfl⟩
      ·rw [if_neg c33] at H
       refine ent_value_on (ov_fieldAddr (sz := 0) (o := 0) rfl F_field_24_6 F_size_2) rfl rfl rfl (Bool.eq_false_iff.2 c33) rfl rfl ?_
       refine ent_value_on (ov_load (v := (int .i64 a0_6)) rfl F_agg_2 (reads_box1 (i := 0) rfl rfl)) rfl rfl rfl (Bool.eq_false_iff.2 c33) rfl rfl ?_
       obtain ⟨x34, h34, H⟩ := thn_elim H
       refine ent_op_on (ot_call0 (first := []) (cap := []) (xs := [.tmp 37, .const (int .i64 1), .const (int .i64 1048576)]) rfl rfl F_call_59 rfl (ossuaryref18_in.spec a0_6 1 1048576 _ h34)) rfl rfl rfl (Bool.eq_false_iff.2 c33) rfl rfl ?_
       rintro _ _ ⟨rfl, rfl⟩
       refine ent_value_on (ov_un rfl (u_not _)) rfl rfl rfl (Bool.eq_false_iff.2 c33) rfl rfl ?_
       refine ent_value (ov_pick rfl rfl rfl (pick_f (Bool.eq_false_iff.2 c33))) rfl rfl rfl ?_
       refine ent_value (ov_move rfl) rfl rfl rfl ?_
       by_cases c34 : (!x34) = true
       ·rw [if_pos c34] at H
        refine ent_off rfl rfl rfl c34 rfl rfl ?_
        refine ent_off rfl rfl rfl c34 rfl rfl ?_
        refine ent_off rfl rfl rfl c34 rfl rfl ?_
        refine ent_off rfl rfl rfl c34 rfl rfl ?_
        refine ent_value (ov_pick rfl rfl rfl (pick_t c34)) rfl rfl rfl ?_
        refine ent_value (ov_move rfl) rfl rfl rfl ?_
        refine ent_off rfl rfl rfl rfl rfl rfl ?_
        refine ent_off rfl rfl rfl rfl rfl rfl ?_
        refine ent_off rfl rfl rfl rfl rfl rfl ?_
        refine ent_off rfl rfl rfl rfl rfl rfl ?_
        refine ent_value (ov_pick rfl rfl rfl rfl) rfl rfl rfl ?_
        refine ent_nil ?_
        refine ent_cond_true rfl rfl ?_
        refine ent_seq ?_
        refine ent_region ?_
        refine ent_value (ov_assign rfl) rfl rfl rfl ?_
        refine ent_nil ?_
        refine ent_retc ?_
        cases H
        refine ent_pick [] (by decide) rfl ?_
        exact ret_tmp rfl rfl ⟨rfl, rfl⟩
       ·rw [if_neg c34] at H
        refine ent_value_on (ov_fieldAddr (sz := 0) (o := 0) rfl F_field_24_7 F_size_3) rfl rfl rfl (Bool.eq_false_iff.2 c34) rfl rfl ?_
        refine ent_value_on (ov_load (v := (int .i64 a0_7)) rfl F_agg_3 (reads_box1 (i := 0) rfl rfl)) rfl rfl rfl (Bool.eq_false_iff.2 c34) rfl rfl ?_
        obtain ⟨x35, h35, H⟩ := thn_elim H
        refine ent_op_on (ot_call0 (first := []) (cap := []) (xs := [.tmp 43, .const (int .i64 1), .const (int .i64 64)]) rfl rfl F_call_59 rfl (ossuaryref18_in.spec a0_7 1 64 _ h35)) rfl rfl rfl (Bool.eq_false_iff.2 c34) rfl rfl ?_
        rintro _ _ ⟨rfl, rfl⟩
        refine ent_value_on (ov_un rfl (u_not _)) rfl rfl rfl (Bool.eq_false_iff.2 c34) rfl rfl ?_
        refine ent_value (ov_pick rfl rfl rfl (pick_f (Bool.eq_false_iff.2 c34))) rfl rfl rfl ?_
        refine ent_value (ov_move rfl) rfl rfl rfl ?_
        by_cases c35 : (!x35) = true
        ·rw [if_pos c35] at H
         refine ent_off rfl rfl rfl c35 rfl rfl ?_
         refine ent_off rfl rfl rfl c35 rfl rfl ?_
         refine ent_off rfl rfl rfl c35 rfl rfl ?_
         refine ent_off rfl rfl rfl c35 rfl rfl ?_
         refine ent_value (ov_pick rfl rfl rfl (pick_t c35)) rfl rfl rfl ?_
         refine ent_nil ?_
         refine ent_cond_true rfl rfl ?_
         refine ent_seq ?_
         refine ent_region ?_
         refine ent_value (ov_assign rfl) rfl rfl rfl ?_
         refine ent_nil ?_
         refine ent_retc ?_
         cases H
         refine ent_pick [] (by decide) rfl ?_
         exact ret_tmp rfl rfl ⟨rfl, rfl⟩
        ·rw [if_neg c35] at H
         refine ent_value_on (ov_fieldAddr (sz := 0) (o := 0) rfl F_field_24_8 F_size_2) rfl rfl rfl (Bool.eq_false_iff.2 c35) rfl rfl ?_
         refine ent_value_on (ov_load (v := (int .i64 a0_8)) rfl F_agg_2 (reads_box1 (i := 0) rfl rfl)) rfl rfl rfl (Bool.eq_false_iff.2 c35) rfl rfl ?_
         obtain ⟨x36, h36, H⟩ := thn_elim H
         refine ent_op_on (ot_call0 (first := []) (cap := []) (xs := [.tmp 49, .const (int .i64 100), .const (int .i64 1048576)]) rfl rfl F_call_59 rfl (ossuaryref18_in.spec a0_8 100 1048576 _ h36)) rfl rfl rfl (Bool.eq_false_iff.2 c35) rfl rfl ?_
         rintro _ _ ⟨rfl, rfl⟩
         refine ent_value_on (ov_un rfl (u_not _)) rfl rfl rfl (Bool.eq_false_iff.2 c35) rfl rfl ?_
         refine ent_value (ov_pick rfl rfl rfl (pick_f (Bool.eq_false_iff.2 c35))) rfl rfl rfl ?_
         refine ent_nil ?_
         by_cases c36 : (!x36) = true
         ·rw [if_pos c36] at H
          refine ent_cond_true rfl c36 ?_
          refine ent_seq ?_
          refine ent_region ?_
          refine ent_value (ov_assign rfl) rfl rfl rfl ?_
          refine ent_nil ?_
          refine ent_retc ?_
          cases H
          refine ent_pick [] (by decide) rfl ?_
          exact ret_tmp rfl rfl ⟨rfl, rfl⟩
         ·rw [if_neg c36] at H
          refine ent_cond_false rfl (Bool.eq_false_iff.2 c36) ?_
          refine ent_skip ?_
          refine ent_seq ?_
          refine ent_region ?_
          refine ent_value (ov_assign rfl) rfl rfl rfl ?_
          refine ent_nil ?_
          refine ent_retc ?_
          cases H
          refine ent_pick [] (by decide) rfl ?_
          exact ret_tmp rfl rfl ⟨rfl, rfl⟩

theorem ossuaryref04_Leap.spec (a0 : Int) (r : Bool) (H : ossuaryref04_Leap a0 = r) : FnSpec Try.prog 102 [(int .i64 a0)] [] (fun v M => v = (bool r) ∧ M = []) := by
 unfold ossuaryref04_Leap at H
 refine spec_of Try.func102 rfl 16 rfl (Nat.le_of_ble_eq_true rfl) fun F w0 => ?_
 show Ent (St 16 w0 F [(0, (int .i64 a0))] []) _
 refine ent_seq ?_
 refine ent_region ?_
 refine ent_value (ov_assign rfl) rfl rfl rfl ?_
 refine ent_nil ?_
 refine ent_seq ?_
 refine ent_region ?_
 refine ent_value (ov_move rfl) rfl rfl rfl ?_
 refine ent_value (ov_bin rfl rfl fun w => b_rem _ _ _ w (by decide)) rfl rfl rfl ?_
 refine ent_value (ov_bin rfl rfl (b_eql _ _ _)) rfl rfl rfl ?_
 refine ent_value (ov_move rfl) rfl rfl rfl ?_
 by_cases c3 : (Int.tmod a0 4) = 0
 ·rw [if_pos c3] at H
  refine ent_value_on (ov_move rfl) rfl rfl rfl (eq_t c3) rfl rfl ?_
  refine ent_value_on (ov_bin rfl rfl fun w => b_rem _ _ _ w (by decide)) rfl rfl rfl (eq_t c3) rfl rfl ?_
  refine ent_value_on (ov_bin rfl rfl (b_neq _ _ _)) rfl rfl rfl (eq_t c3) rfl rfl ?_
  refine ent_value_on (ov_move rfl) rfl rfl rfl (eq_t c3) rfl rfl ?_
  by_cases c4 : ¬ ((Int.tmod a0 100) = 0)
  ·rw [if_pos c4] at H
   refine ent_off rfl rfl rfl (ne_t c4) rfl rfl ?_
   refine ent_off rfl rfl rfl (ne_t c4) rfl rfl ?_
   refine ent_off rfl rfl rfl (ne_t c4) rfl rfl ?_
   refine ent_value_on (ov_pick rfl rfl rfl (pick_t (ne_t c4))) rfl rfl rfl (eq_t c3) rfl rfl ?_
   refine ent_value (ov_pick rfl rfl rfl (pick_t (eq_t c3))) rfl rfl rfl ?_
   refine ent_value (ov_assign rfl) rfl rfl rfl ?_
   refine ent_nil ?_
   refine ent_retc ?_
   cases H
   refine ent_pick [] (by decide) rfl ?_
   exact ret_tmp rfl rfl ⟨rfl, rfl⟩
  ·rw [if_neg c4] at H
   refine ent_value_on (ov_move rfl) rfl rfl rfl (ne_f c4) rfl rfl ?_
   refine ent_value_on (ov_bin rfl rfl fun w => b_rem _ _ _ w (by decide)) rfl rfl rfl (ne_f c4) rfl rfl ?_
   refine ent_value_on (ov_bin rfl rfl (b_eql _ _ _)) rfl rfl rfl (ne_f c4) rfl rfl ?_
   refine ent_value_on (ov_pick rfl rfl rfl (pick_f (ne_f c4))) rfl rfl rfl (eq_t c3) rfl rfl ?_
   refine ent_value (ov_pick rfl rfl rfl (pick_t (eq_t c3))) rfl rfl rfl ?_
   refine ent_value (ov_assign rfl) rfl rfl rfl ?_
   refine ent_nil ?_
   refine ent_retc ?_
   cases H
   refine ent_pick [] (by decide) rfl ?_
   exact ret_tmp rfl rfl ⟨rfl, rfl⟩
 ·rw [if_neg c3] at H
  refine ent_off rfl rfl rfl (eq_f c3) rfl rfl ?_
  refine ent_off rfl rfl rfl (eq_f c3) rfl rfl ?_
  refine ent_off rfl rfl rfl (eq_f c3) rfl rfl ?_
  refine ent_off rfl rfl rfl (eq_f c3) rfl rfl ?_
  refine ent_offu rfl rfl rfl rfl rfl ?_
  refine ent_offu rfl rfl rfl rfl rfl ?_
  refine ent_offu rfl rfl rfl rfl rfl ?_
  refine ent_off rfl rfl rfl (eq_f c3) rfl rfl ?_
  refine ent_value (ov_pick rfl rfl rfl (pick_f (eq_f c3))) rfl rfl rfl ?_
  refine ent_value (ov_assign rfl) rfl rfl rfl ?_
  refine ent_nil ?_
  refine ent_retc ?_
  cases H
  refine ent_pick [] (by decide) rfl ?_
  exact ret_tmp rfl rfl ⟨rfl, rfl⟩

theorem ossuaryref04_days.spec (a0 : Int) (r : Int) (H : ossuaryref04_days a0 = r) : FnSpec Try.prog 101 [(int .i64 a0)] [] (fun v M => v = (int .i64 r) ∧ M = []) := by
 unfold ossuaryref04_days at H
 refine spec_of Try.func101 rfl 5 rfl (Nat.le_of_ble_eq_true rfl) fun F w0 => ?_
 show Ent (St 5 w0 F [(0, (int .i64 a0))] []) _
 refine ent_seq ?_
 refine ent_region ?_
 refine ent_value (ov_assign rfl) rfl rfl rfl ?_
 refine ent_nil ?_
 refine ent_seq ?_
 refine ent_seq ?_
 refine ent_region ?_
 refine ent_value (ov_move rfl) rfl rfl rfl ?_
 obtain ⟨x4, h4, H⟩ := thn_elim H
 refine ent_op (ot_call0 (first := []) (cap := []) (xs := [.tmp 3]) rfl rfl F_call_102 rfl (ossuaryref04_Leap.spec a0 _ h4)) rfl rfl rfl ?_
 rintro _ _ ⟨rfl, rfl⟩
 refine ent_nil ?_
 by_cases c4 : x4 = true
 ·rw [if_pos c4] at H
  refine ent_cond_true rfl c4 ?_
  refine ent_seq ?_
  refine ent_region ?_
  refine ent_value (ov_assign rfl) rfl rfl rfl ?_
  refine ent_nil ?_
  refine ent_retc ?_
  cases H
  refine ent_pick [] (by decide) rfl ?_
  exact ret_tmp rfl rfl ⟨rfl, rfl⟩
 ·rw [if_neg c4] at H
  refine ent_cond_false rfl (Bool.eq_false_iff.2 c4) ?_
  refine ent_skip ?_
  refine ent_seq ?_
  refine ent_region ?_
  refine ent_value (ov_assign rfl) rfl rfl rfl ?_
  refine ent_nil ?_
  refine ent_retc ?_
  cases H
  refine ent_pick [] (by decide) rfl ?_
  exact ret_tmp rfl rfl ⟨rfl, rfl⟩

theorem ossuaryref04_Length.spec (a0 : Int) (a1 : Int) (r : Int) (H : ossuaryref04_Length a0 a1 = r) : FnSpec Try.prog 88 [(int .i64 a0), (int .i64 a1)] [] (fun v M => v = (int .i64 r) ∧ M = []) := by
 unfold ossuaryref04_Length at H
 refine spec_of Try.func88 rfl 23 rfl (Nat.le_of_ble_eq_true rfl) fun F w0 => ?_
 show Ent (St 23 w0 F [(0, (int .i64 a0)), (1, (int .i64 a1))] []) _
 refine ent_seq ?_
 refine ent_region ?_
 refine ent_value (ov_assign rfl) rfl rfl rfl ?_
 refine ent_nil ?_
 refine ent_seq ?_
 refine ent_seq ?_
 refine ent_region ?_
 refine ent_value (ov_move rfl) rfl rfl rfl ?_
 refine ent_nil ?_
 refine ent_block ?_
 refine ent_seq ?_
 refine ent_region ?_
 refine ent_value (ov_bin rfl rfl (b_eql _ _ _)) rfl rfl rfl ?_
 refine ent_value (ov_assign rfl) rfl rfl rfl ?_
 refine ent_nil ?_
 by_cases c70 : a1 = 2
 ·rw [if_pos c70] at H
  refine ent_cond_true rfl (eq_t c70) ?_
  refine ent_seq ?_
  refine ent_seq ?_
  refine ent_region ?_
  refine ent_value (ov_move rfl) rfl rfl rfl ?_
  obtain ⟨x14, h8, H⟩ := thn_elim H
  refine ent_op (ot_call0 (first := []) (cap := []) (xs := [.tmp 8]) rfl rfl F_call_102 rfl (ossuaryref04_Leap.spec a0 _ h8)) rfl rfl rfl ?_
  rintro _ _ ⟨rfl, rfl⟩
  refine ent_nil ?_
  by_cases c72 : x14 = true
  ·rw [if_pos c72] at H
   refine ent_cond_true rfl c72 ?_
   refine ent_seq ?_
   refine ent_region ?_
   refine ent_value (ov_assign rfl) rfl rfl rfl ?_
   refine ent_nil ?_
   refine ent_retc ?_
   cases H
   refine ent_pick [] (by decide) rfl ?_
   exact ret_tmp rfl rfl ⟨rfl, rfl⟩
  ·rw [if_neg c72] at H
   refine ent_cond_false rfl (Bool.eq_false_iff.2 c72) ?_
   refine ent_skip ?_
   refine ent_seq ?_
   refine ent_region ?_
   refine ent_value (ov_assign rfl) rfl rfl rfl ?_
   refine ent_nil ?_
   refine ent_retc ?_
   cases H
   refine ent_pick [] (by decide) rfl ?_
   exact ret_tmp rfl rfl ⟨rfl, rfl⟩
 ·rw [if_neg c70] at H
  refine ent_cond_false rfl (eq_f c70) ?_
  obtain ⟨x15, H7, H⟩ := thn_elim H
  refine ent_seq_cut (fun a w => St 23 w0 F [(5, (int .i64 a1)), (10, (bool x15))] [] a w) ?_ ?_
  ·refine ent_seq ?_
   refine ent_region ?_
   refine ent_value (ov_bin rfl rfl (b_eql _ _ _)) rfl rfl rfl ?_
   refine ent_value (ov_assign rfl) rfl rfl rfl ?_
   refine ent_nil ?_
   by_cases c76 : a1 = 4
   ·rw [if_pos c76] at H7
    refine ent_cond_true rfl (eq_t c76) ?_
    refine ent_skip ?_
    cases H7
    exact ent_fin [] (by decide) rfl (sub_cons (t := 5) rfl (sub_cons (t := 10) rfl (sub_nil _))) fun a w h => h
   ·rw [if_neg c76] at H7
    refine ent_cond_false rfl (eq_f c76) ?_
    refine ent_seq ?_
    refine ent_region ?_
    refine ent_value (ov_bin rfl rfl (b_eql _ _ _)) rfl rfl rfl ?_
    refine ent_value (ov_assign rfl) rfl rfl rfl ?_
    refine ent_nil ?_
    by_cases c77 : a1 = 6
    ·rw [if_pos c77] at H7
     refine ent_cond_true rfl (eq_t c77) ?_
     refine ent_skip ?_
     cases H7
     exact ent_fin [] (by decide) rfl (sub_cons (t := 5) rfl (sub_cons (t := 10) rfl (sub_nil _))) fun a w h => h
    ·rw [if_neg c77] at H7
     refine ent_cond_false rfl (eq_f c77) ?_
     refine ent_seq ?_
     refine ent_region ?_
     refine ent_value (ov_bin rfl rfl (b_eql _ _ _)) rfl rfl rfl ?_
     refine ent_value (ov_assign rfl) rfl rfl rfl ?_
     refine ent_nil ?_
     by_cases c78 : a1 = 9
     ·rw [if_pos c78] at H7
      refine ent_cond_true rfl (eq_t c78) ?_
      refine ent_skip ?_
      cases H7
      exact ent_fin [] (by decide) rfl (sub_cons (t := 5) rfl (sub_cons (t := 10) rfl (sub_nil _))) fun a w h => h
     ·rw [if_neg c78] at H7
      refine ent_cond_false rfl (eq_f c78) ?_
      refine ent_region ?_
      refine ent_value (ov_bin rfl rfl (b_eql _ _ _)) rfl rfl rfl ?_
      refine ent_value (ov_assign rfl) rfl rfl rfl ?_
      refine ent_nil ?_
      cases H7
      exact ent_fin [] (by decide) rfl (sub_cons (t := 5) rfl (sub_cons (t := 10) rfl (sub_nil _))) fun a w h => h
  ·by_cases c79 : x15 = true
   ·rw [if_pos c79] at H
    refine ent_cond_true rfl c79 ?_
    refine ent_seq ?_
    refine ent_region ?_
    refine ent_value (ov_assign rfl) rfl rfl rfl ?_
    refine ent_nil ?_
    refine ent_retc ?_
    cases H
    refine ent_pick [] (by decide) rfl ?_
    exact ret_tmp rfl rfl ⟨rfl, rfl⟩
   ·rw [if_neg c79] at H
    refine ent_cond_false rfl (Bool.eq_false_iff.2 c79) ?_
    obtain ⟨x16, H8, H⟩ := thn_elim H
    refine ent_seq_cut (fun a w => St 23 w0 F [(15, (bool x16))] [] a w) ?_ ?_
    ·refine ent_seq ?_
     refine ent_region ?_
     refine ent_value (ov_bin rfl rfl (b_eql _ _ _)) rfl rfl rfl ?_
     refine ent_value (ov_assign rfl) rfl rfl rfl ?_
     refine ent_nil ?_
     by_cases c86 : a1 = 1
     ·rw [if_pos c86] at H8
      refine ent_cond_true rfl (eq_t c86) ?_
      refine ent_skip ?_
      cases H8
      exact ent_fin [] (by decide) rfl (sub_cons (t := 15) rfl (sub_nil _)) fun a w h => h
     ·rw [if_neg c86] at H8
      refine ent_cond_false rfl (eq_f c86) ?_
      refine ent_seq ?_
      refine ent_region ?_
      refine ent_value (ov_bin rfl rfl (b_eql _ _ _)) rfl rfl rfl ?_
      refine ent_value (ov_assign rfl) rfl rfl rfl ?_
      refine ent_nil ?_
      by_cases c87 : a1 = 3
      ·rw [if_pos c87] at H8
       refine ent_cond_true rfl (eq_t c87) ?_
       refine ent_skip ?_
       cases H8
       exact ent_fin [] (by decide) rfl (sub_cons (t := 15) rfl (sub_nil _)) fun a w h => h
      ·rw [if_neg c87] at H8
       refine ent_cond_false rfl (eq_f c87) ?_
       refine ent_seq ?_
       refine ent_region ?_
       refine ent_value (ov_bin rfl rfl (b_eql _ _ _)) rfl rfl rfl ?_
       refine ent_value (ov_assign rfl) rfl rfl rfl ?_
       refine ent_nil ?_
       by_cases c88 : a1 = 5
       ·rw [if_pos c88] at H8
        refine ent_cond_true rfl (eq_t c88) ?_
        refine ent_skip ?_
        cases H8
        exact ent_fin [] (by decide) rfl (sub_cons (t := 15) rfl (sub_nil _)) fun a w h => h
       ·rw [if_neg c88] at H8
        refine ent_cond_false rfl (eq_f c88) ?_
        refine ent_seq ?_
        refine ent_region ?_
        refine ent_value (ov_bin rfl rfl (b_eql _ _ _)) rfl rfl rfl ?_
        refine ent_value (ov_assign rfl) rfl rfl rfl ?_
        refine ent_nil ?_
        by_cases c89 : a1 = 7
        ·rw [if_pos c89] at H8
         refine ent_cond_true rfl (eq_t c89) ?_
         refine ent_skip ?_
         cases H8
         exact ent_fin [] (by decide) rfl (sub_cons (t := 15) rfl (sub_nil _)) fun a w h => h
        ·rw [if_neg c89] at H8
         refine ent_cond_false rfl (eq_f c89) ?_
         refine ent_seq ?_
         refine ent_region ?_
         refine ent_value (ov_bin rfl rfl (b_eql _ _ _)) rfl rfl rfl ?_
         refine ent_value (ov_assign rfl) rfl rfl rfl ?_
         refine ent_nil ?_
         by_cases c90 : a1 = 8
         ·rw [if_pos c90] at H8
          refine ent_cond_true rfl (eq_t c90) ?_
          refine ent_skip ?_
          cases H8
          exact ent_fin [] (by decide) rfl (sub_cons (t := 15) rfl (sub_nil _)) fun a w h => h
         ·rw [if_neg c90] at H8
          refine ent_cond_false rfl (eq_f c90) ?_
          refine ent_seq ?_
          refine ent_region ?_
          refine ent_value (ov_bin rfl rfl (b_eql _ _ _)) rfl rfl rfl ?_
          refine ent_value (ov_assign rfl) rfl rfl rfl ?_
          refine ent_nil ?_
          by_cases c91 : a1 = 10
          ·rw [if_pos c91] at H8
           refine ent_cond_true rfl (eq_t c91) ?_
           refine ent_skip ?_
           cases H8
           exact ent_fin [] (by decide) rfl (sub_cons (t := 15) rfl (sub_nil _)) fun a w h => h
          ·rw [if_neg c91] at H8
           refine ent_cond_false rfl (eq_f c91) ?_
           refine ent_region ?_
           refine ent_value (ov_bin rfl rfl (b_eql _ _ _)) rfl rfl rfl ?_
           refine ent_value (ov_assign rfl) rfl rfl rfl ?_
           refine ent_nil ?_
           cases H8
           exact ent_fin [] (by decide) rfl (sub_cons (t := 15) rfl (sub_nil _)) fun a w h => h
    ·by_cases c92 : x16 = true
     ·rw [if_pos c92] at H
      refine ent_cond_true rfl c92 ?_
      refine ent_seq ?_
      refine ent_region ?_
      refine ent_value (ov_assign rfl) rfl rfl rfl ?_
      refine ent_nil ?_
      refine ent_retc ?_
      cases H
      refine ent_pick [] (by decide) rfl ?_
      exact ret_tmp rfl rfl ⟨rfl, rfl⟩
     ·rw [if_neg c92] at H
      refine ent_cond_false rfl (Bool.eq_false_iff.2 c92) ?_
      refine ent_skip ?_
      refine ent_seq ?_
      refine ent_region ?_
      refine ent_value (ov_assign rfl) rfl rfl rfl ?_
      refine ent_nil ?_
      refine ent_retc ?_
      cases H
      refine ent_pick [] (by decide) rfl ?_
      exact ret_tmp rfl rfl ⟨rfl, rfl⟩

theorem ossuaryref04_Date.spec (K : Nat) (a0 : Int) (r : (Int × Int × Int)) (H : ossuaryref04_Date K a0 = some r) : FnSpec Try.prog 86 [(int .i64 a0)] [] (fun v M => v = (Value.tuple #[(int .i64 r.1), (int .i64 r.2.1), (int .i64 r.2.2)]) ∧ M = []) := by
 unfold ossuaryref04_Date at H
 refine spec_of Try.func86 rfl 41 rfl (Nat.le_of_ble_eq_true rfl) fun F w0 => ?_
 show Ent (St 41 w0 F [(0, (int .i64 a0))] []) _
 refine ent_seq ?_
 refine ent_region ?_
 refine ent_value (ov_assign rfl) rfl rfl rfl ?_
 refine ent_value (ov_assign rfl) rfl rfl rfl ?_
 refine ent_value (ov_assign rfl) rfl rfl rfl ?_
 refine ent_nil ?_
 refine ent_seq ?_
 refine ent_region ?_
 refine ent_value (ov_assign rfl) rfl rfl rfl ?_
 refine ent_nil ?_
 obtain ⟨x53, H8, H⟩ := Option.bind_eq_some_iff.1 H
 refine ent_seq_cut (fun a w => St 41 w0 F [(0, (int .i64 x53.1)), (5, (int .i64 x53.2))] [] a w) ?_ ?_
 ·refine ent_block ?_
  refine ent_loop (fun k a w => ∃ i17, ∃ i18, ossuaryref04_Date_l0 K k i17 i18 = some x53 ∧ St 41 w0 F [(0, (int .i64 i17)), (5, (int .i64 i18))] [] a w) K ?_ ?_
  ·exact ent_fin [] (by decide) rfl (sub_cons (t := 0) rfl (sub_cons (t := 5) rfl (sub_nil _))) fun a w h => ⟨_, _, H8, h⟩
  ·refine fun k => ent_exi fun i17 => ent_exi fun i18 => ent_and fun H9 => ?_
   cases k with
   | zero => exact absurd H9 (by simp [ossuaryref04_Date_l0])
   | succ k =>
    rw [ossuaryref04_Date_l0] at H9
    refine ent_seq ?_
    refine ent_seq ?_
    refine ent_region ?_
    refine ent_value (ov_move rfl) rfl rfl rfl ?_
    refine ent_value (ov_move rfl) rfl rfl rfl ?_
    obtain ⟨x62, h59, H9⟩ := thn_elim H9
    refine ent_op (ot_call0 (first := []) (cap := []) (xs := [.tmp 8]) rfl rfl F_call_101 rfl (ossuaryref04_days.spec i18 _ h59)) rfl rfl rfl ?_
    rintro _ _ ⟨rfl, rfl⟩
    refine ent_value (ov_bin rfl rfl (b_geq _ _ _)) rfl rfl rfl ?_
    refine ent_value (ov_move rfl) rfl rfl rfl ?_
    by_cases c63 : x62 ≤ i17
    ·rw [if_pos c63] at H9
     refine ent_value_on (ov_move rfl) rfl rfl rfl (decide_eq_true c63) rfl rfl ?_
     refine ent_value_on (ov_bin rfl rfl (b_lss _ _ _)) rfl rfl rfl (decide_eq_true c63) rfl rfl ?_
     refine ent_value (ov_pick rfl rfl rfl (pick_t (decide_eq_true c63))) rfl rfl rfl ?_
     refine ent_nil ?_
     by_cases c64 : i18 < 5000
     ·rw [if_pos c64] at H9
      refine ent_cond_true rfl (decide_eq_true c64) ?_
      refine ent_skip ?_
      refine ent_block ?_
      refine ent_seq ?_
      refine ent_region ?_
      refine ent_value (ov_move rfl) rfl rfl rfl ?_
      refine ent_value (ov_move rfl) rfl rfl rfl ?_
      obtain ⟨x63, h60, H9⟩ := thn_elim H9
      refine ent_op (ot_call0 (first := []) (cap := []) (xs := [.tmp 16]) rfl rfl F_call_101 rfl (ossuaryref04_days.spec i18 _ h60)) rfl rfl rfl ?_
      rintro _ _ ⟨rfl, rfl⟩
      refine ent_value (ov_bin rfl rfl (b_sub _ _ _) ) rfl rfl rfl ?_
      refine ent_value (ov_assign rfl) rfl rfl rfl ?_
      refine ent_nil ?_
      refine ent_region ?_
      refine ent_value (ov_move rfl) rfl rfl rfl ?_
      refine ent_value (ov_bin rfl rfl (b_add _ _ _) ) rfl rfl rfl ?_
      refine ent_value (ov_assign rfl) rfl rfl rfl ?_
      refine ent_nil ?_
      exact ent_fin [] (by decide) rfl (sub_cons (t := 0) rfl (sub_cons (t := 5) rfl (sub_nil _))) fun a w h => ⟨k, Nat.lt_succ_self k, _, _, H9, h⟩
     ·rw [if_neg c64] at H9
      refine ent_cond_false rfl (decide_eq_false c64) ?_
      refine ent_exit ?_
      cases H9
      exact ent_fin [] (by decide) rfl (sub_cons (t := 0) rfl (sub_cons (t := 5) rfl (sub_nil _))) fun a w h => h
    ·rw [if_neg c63] at H9
     refine ent_off rfl rfl rfl (decide_eq_false c63) rfl rfl ?_
     refine ent_off rfl rfl rfl (decide_eq_false c63) rfl rfl ?_
     refine ent_value (ov_pick rfl rfl rfl (pick_f (decide_eq_false c63))) rfl rfl rfl ?_
     refine ent_nil ?_
     refine ent_cond_false rfl rfl ?_
     refine ent_exit ?_
     cases H9
     exact ent_fin [] (by decide) rfl (sub_cons (t := 0) rfl (sub_cons (t := 5) rfl (sub_nil _))) fun a w h => h
 ·refine ent_seq ?_
  refine ent_region ?_
  refine ent_value (ov_assign rfl) rfl rfl rfl ?_
  refine ent_nil ?_
  obtain ⟨x74, H11, H⟩ := Option.bind_eq_some_iff.1 H
  refine ent_seq_cut (fun a w => St 41 w0 F [(0, (int .i64 x74.1)), (5, (int .i64 x53.2)), (6, (int .i64 x74.2))] [] a w) ?_ ?_
  ·refine ent_block ?_
   refine ent_loop (fun k a w => ∃ i23, ∃ i24, ossuaryref04_Date_l1 K x53 k i23 i24 = some x74 ∧ St 41 w0 F [(0, (int .i64 i23)), (5, (int .i64 x53.2)), (6, (int .i64 i24))] [] a w) K ?_ ?_
   ·exact ent_fin [] (by decide) rfl (sub_cons (t := 0) rfl (sub_cons (t := 5) rfl (sub_cons (t := 6) rfl (sub_nil _)))) fun a w h => ⟨_, _, H11, h⟩
   ·refine fun k => ent_exi fun i23 => ent_exi fun i24 => ent_and fun H12 => ?_
    cases k with
    | zero => exact absurd H12 (by simp [ossuaryref04_Date_l1])
    | succ k =>
     rw [ossuaryref04_Date_l1] at H12
     refine ent_seq ?_
     refine ent_seq ?_
     refine ent_region ?_
     refine ent_value (ov_move rfl) rfl rfl rfl ?_
     refine ent_value (ov_bin rfl rfl (b_lss _ _ _)) rfl rfl rfl ?_
     refine ent_value (ov_move rfl) rfl rfl rfl ?_
     by_cases c83 : i24 < 12
     ·rw [if_pos c83] at H12
      refine ent_value_on (ov_move rfl) rfl rfl rfl (decide_eq_true c83) rfl rfl ?_
      refine ent_value_on (ov_move rfl) rfl rfl rfl (decide_eq_true c83) rfl rfl ?_
      refine ent_value_on (ov_move rfl) rfl rfl rfl (decide_eq_true c83) rfl rfl ?_
      obtain ⟨x83, h79, H12⟩ := thn_elim H12
      refine ent_op_on (ot_call0 (first := []) (cap := []) (xs := [.tmp 25, .tmp 26]) rfl rfl F_call_88 rfl (ossuaryref04_Length.spec x53.2 i24 _ h79)) rfl rfl rfl (decide_eq_true c83) rfl rfl ?_
      rintro _ _ ⟨rfl, rfl⟩
      refine ent_value_on (ov_bin rfl rfl (b_geq _ _ _)) rfl rfl rfl (decide_eq_true c83) rfl rfl ?_
      refine ent_value (ov_pick rfl rfl rfl (pick_t (decide_eq_true c83))) rfl rfl rfl ?_
      refine ent_nil ?_
      by_cases c84 : x83 ≤ i23
      ·rw [if_pos c84] at H12
       refine ent_cond_true rfl (decide_eq_true c84) ?_
       refine ent_skip ?_
       refine ent_block ?_
       refine ent_seq ?_
       refine ent_region ?_
       refine ent_value (ov_move rfl) rfl rfl rfl ?_
       refine ent_value (ov_move rfl) rfl rfl rfl ?_
       refine ent_value (ov_move rfl) rfl rfl rfl ?_
       obtain ⟨x84, h80, H12⟩ := thn_elim H12
       refine ent_op (ot_call0 (first := []) (cap := []) (xs := [.tmp 31, .tmp 32]) rfl rfl F_call_88 rfl (ossuaryref04_Length.spec x53.2 i24 _ h80)) rfl rfl rfl ?_
       rintro _ _ ⟨rfl, rfl⟩
       refine ent_value (ov_bin rfl rfl (b_sub _ _ _) ) rfl rfl rfl ?_
       refine ent_value (ov_assign rfl) rfl rfl rfl ?_
       refine ent_nil ?_
       refine ent_region ?_
       refine ent_value (ov_move rfl) rfl rfl rfl ?_
       refine ent_value (ov_bin rfl rfl (b_add _ _ _) ) rfl rfl rfl ?_
       refine ent_value (ov_assign rfl) rfl rfl rfl ?_
       refine ent_nil ?_
       exact ent_fin [] (by decide) rfl (sub_cons (t := 0) rfl (sub_cons (t := 5) rfl (sub_cons (t := 6) rfl (sub_nil _)))) fun a w h => ⟨k, Nat.lt_succ_self k, _, _, H12, h⟩
      ·rw [if_neg c84] at H12
       refine ent_cond_false rfl (decide_eq_false c84) ?_
       refine ent_exit ?_
       cases H12
       exact ent_fin [] (by decide) rfl (sub_cons (t := 0) rfl (sub_cons (t := 5) rfl (sub_cons (t := 6) rfl (sub_nil _)))) fun a w h => h
     ·rw [if_neg c83] at H12
      refine ent_off rfl rfl rfl (decide_eq_false c83) rfl rfl ?_
      refine ent_off rfl rfl rfl (decide_eq_false c83) rfl rfl ?_
      refine ent_off rfl rfl rfl (decide_eq_false c83) rfl rfl ?_
      refine ent_off rfl rfl rfl (decide_eq_false c83) rfl rfl ?_
      refine ent_off rfl rfl rfl (decide_eq_false c83) rfl rfl ?_
      refine ent_value (ov_pick rfl rfl rfl (pick_f (decide_eq_false c83))) rfl rfl rfl ?_
      refine ent_nil ?_
      refine ent_cond_false rfl rfl ?_
      refine ent_exit ?_
      cases H12
      exact ent_fin [] (by decide) rfl (sub_cons (t := 0) rfl (sub_cons (t := 5) rfl (sub_cons (t := 6) rfl (sub_nil _)))) fun a w h => h
  ·refine ent_seq ?_
   refine ent_region ?_
   refine ent_value (ov_move rfl) rfl rfl rfl ?_
   refine ent_value (ov_move rfl) rfl rfl rfl ?_
   refine ent_value (ov_move rfl) rfl rfl rfl ?_
   refine ent_value (ov_bin rfl rfl (b_add _ _ _) ) rfl rfl rfl ?_
   refine ent_value (ov_assign rfl) rfl rfl rfl ?_
   refine ent_value (ov_assign rfl) rfl rfl rfl ?_
   refine ent_value (ov_assign rfl) rfl rfl rfl ?_
   refine ent_nil ?_
   refine ent_retc ?_
   cases H
   refine ent_pick [] (by decide) rfl ?_
   exact ret_mem (vs := [(int .i64 x53.2), (int .i64 x74.2), (int .i64 (w64 (x74.1 + 1)))]) rfl ⟨rfl, ⟨rfl, ⟨rfl, trivial⟩⟩⟩ _ rfl ⟨rfl, rfl⟩

theorem ossuaryref04_MonthOf.spec (K : Nat) (a0 : Int) (r : Int) (H : ossuaryref04_MonthOf K a0 = some r) : FnSpec Try.prog 68 [(int .i64 a0)] [] (fun v M => v = (int .i64 r) ∧ M = []) := by
 unfold ossuaryref04_MonthOf at H
 refine spec_of Try.func68 rfl 18 rfl (Nat.le_of_ble_eq_true rfl) fun F w0 => ?_
 show Ent (St 18 w0 F [(0, (int .i64 a0))] []) _
 refine ent_seq ?_
 refine ent_region ?_
 refine ent_value (ov_assign rfl) rfl rfl rfl ?_
 refine ent_nil ?_
 refine ent_seq ?_
 refine ent_region ?_
 refine ent_value (ov_move rfl) rfl rfl rfl ?_
 obtain ⟨x2, h2, H⟩ := Option.bind_eq_some_iff.1 H
 refine ent_op (ot_call0 (first := []) (cap := []) (xs := [.tmp 7]) rfl rfl F_call_86 rfl (ossuaryref04_Date.spec K a0 _ h2)) rfl rfl rfl ?_
 rintro _ _ ⟨rfl, rfl⟩
 refine ent_value (ov_move rfl) rfl rfl rfl ?_
 refine ent_value (ov_extract rfl rfl) rfl rfl rfl ?_
 refine ent_value (ov_extract rfl rfl) rfl rfl rfl ?_
 refine ent_value (ov_extract rfl rfl) rfl rfl rfl ?_
 refine ent_value (ov_assign rfl) rfl rfl rfl ?_
 refine ent_value (ov_assign rfl) rfl rfl rfl ?_
 refine ent_value (ov_assign rfl) rfl rfl rfl ?_
 refine ent_nil ?_
 refine ent_seq ?_
 refine ent_region ?_
 refine ent_value (ov_move rfl) rfl rfl rfl ?_
 refine ent_value (ov_bin rfl rfl (b_sub _ _ _) ) rfl rfl rfl ?_
 refine ent_value (ov_bin rfl rfl (b_mul _ _ _) ) rfl rfl rfl ?_
 refine ent_value (ov_move rfl) rfl rfl rfl ?_
 refine ent_value (ov_bin rfl rfl (b_add _ _ _) ) rfl rfl rfl ?_
 refine ent_value (ov_bin rfl rfl (b_sub _ _ _) ) rfl rfl rfl ?_
 refine ent_value (ov_assign rfl) rfl rfl rfl ?_
 refine ent_nil ?_
 refine ent_retc ?_
 cases H
 refine ent_pick [] (by decide) rfl ?_
 exact ret_tmp rfl rfl ⟨rfl, rfl⟩

theorem ossuaryref19_most.spec (K : Nat) (a0 : Int) (r : Int) (H : ossuaryref19_most K a0 = some r) : FnSpec Try.prog 67 [(int .i64 a0)] [] (fun v M => v = (int .i64 r) ∧ M = []) := by
 unfold ossuaryref19_most at H
 refine spec_of Try.func67 rfl 11 rfl (Nat.le_of_ble_eq_true rfl) fun F w0 => ?_
 show Ent (St 11 w0 F [(0, (int .i64 a0))] []) _
 refine ent_seq ?_
 refine ent_region ?_
 refine ent_value (ov_assign rfl) rfl rfl rfl ?_
 refine ent_nil ?_
 refine ent_seq ?_
 refine ent_seq ?_
 refine ent_region ?_
 refine ent_value (ov_move rfl) rfl rfl rfl ?_
 refine ent_nil ?_
 refine ent_block ?_
 refine ent_seq ?_
 refine ent_region ?_
 refine ent_value (ov_bin rfl rfl (b_eql _ _ _)) rfl rfl rfl ?_
 refine ent_value (ov_assign rfl) rfl rfl rfl ?_
 refine ent_nil ?_
 by_cases c10 : a0 = 1
 ·rw [if_pos c10] at H
  refine ent_cond_true rfl (eq_t c10) ?_
  refine ent_seq ?_
  refine ent_region ?_
  refine ent_value (ov_assign rfl) rfl rfl rfl ?_
  refine ent_nil ?_
  refine ent_retc ?_
  cases H
  refine ent_pick [] (by decide) rfl ?_
  exact ret_tmp rfl rfl ⟨rfl, rfl⟩
 ·rw [if_neg c10] at H
  refine ent_cond_false rfl (eq_f c10) ?_
  refine ent_seq ?_
  refine ent_region ?_
  refine ent_value (ov_bin rfl rfl (b_eql _ _ _)) rfl rfl rfl ?_
  refine ent_value (ov_assign rfl) rfl rfl rfl ?_
  refine ent_nil ?_
  by_cases c11 : a0 = 2
  ·rw [if_pos c11] at H
   refine ent_cond_true rfl (eq_t c11) ?_
   refine ent_seq ?_
   refine ent_region ?_
   refine ent_value (ov_assign rfl) rfl rfl rfl ?_
   refine ent_nil ?_
   refine ent_retc ?_
   cases H
   refine ent_pick [] (by decide) rfl ?_
   exact ret_tmp rfl rfl ⟨rfl, rfl⟩
  ·rw [if_neg c11] at H
   refine ent_cond_false rfl (eq_f c11) ?_
   refine ent_seq ?_
   refine ent_region ?_
   refine ent_value (ov_bin rfl rfl (b_eql _ _ _)) rfl rfl rfl ?_
   refine ent_value (ov_assign rfl) rfl rfl rfl ?_
   refine ent_nil ?_
   by_cases c12 : a0 = 3
   ·rw [if_pos c12] at H
    refine ent_cond_true rfl (eq_t c12) ?_
    refine ent_seq ?_
    refine ent_region ?_
    obtain ⟨x4, h4, H⟩ := Option.bind_eq_some_iff.1 H
    refine ent_op (ot_call0 (first := []) (cap := []) (xs := [.const (int .i64 699050)]) rfl rfl F_call_68 rfl (ossuaryref04_MonthOf.spec K 699050 _ h4)) rfl rfl rfl ?_
    rintro _ _ ⟨rfl, rfl⟩
    refine ent_value (ov_assign rfl) rfl rfl rfl ?_
    refine ent_nil ?_
    refine ent_retc ?_
    cases H
    refine ent_pick [] (by decide) rfl ?_
    exact ret_tmp rfl rfl ⟨rfl, rfl⟩
   ·rw [if_neg c12] at H
    refine ent_cond_false rfl (eq_f c12) ?_
    refine ent_skip ?_
    refine ent_seq ?_
    refine ent_region ?_
    refine ent_value (ov_assign rfl) rfl rfl rfl ?_
    refine ent_nil ?_
    refine ent_retc ?_
    cases H
    refine ent_pick [] (by decide) rfl ?_
    exact ret_tmp rfl rfl ⟨rfl, rfl⟩

theorem ossuaryref19_Of.spec (K : Nat) (a0 : Int) (a1 : Int) (r : (Int × Int × Bool)) (H : ossuaryref19_Of K a0 a1 = some r) : FnSpec Try.prog 52 [(int .i64 a0), (int .i64 a1)] [] (fun v M => v = (Value.tuple #[(agg #[(int .i64 r.1), (int .i64 r.2.1)]), (bool r.2.2)]) ∧ M = []) := by
 unfold ossuaryref19_Of at H
 refine spec_of Try.func52 rfl 35 rfl (Nat.le_of_ble_eq_true rfl) fun F w0 => ?_
 show Ent (St 35 w0 F [(0, (int .i64 a0)), (1, (int .i64 a1))] []) _
 refine ent_seq ?_
 refine ent_region ?_
 refine ent_op (ot_alloc F_zero_40) rfl rfl rfl ?_
 rintro _ _ ⟨b2, rfl, rfl⟩
 refine ent_value (ov_assign rfl) rfl rfl rfl ?_
 refine ent_nil ?_
 refine ent_seq ?_
 refine ent_seq ?_
 refine ent_region ?_
 refine ent_value (ov_move rfl) rfl rfl rfl ?_
 refine ent_value (ov_bin rfl rfl (b_lss _ _ _)) rfl rfl rfl ?_
 refine ent_value (ov_move rfl) rfl rfl rfl ?_
 by_cases c14 : a1 < 0
 ·rw [if_pos c14] at H
  refine ent_off rfl rfl rfl (decide_eq_true c14) rfl rfl ?_
  refine ent_off rfl rfl rfl (decide_eq_true c14) rfl rfl ?_
  refine ent_value (ov_pick rfl rfl rfl (pick_t (decide_eq_true c14))) rfl rfl rfl ?_
  refine ent_value (ov_move rfl) rfl rfl rfl ?_
  refine ent_off rfl rfl rfl rfl rfl rfl ?_
  refine ent_off rfl rfl rfl rfl rfl rfl ?_
  refine ent_off rfl rfl rfl rfl rfl rfl ?_
  refine ent_value (ov_pick rfl rfl rfl rfl) rfl rfl rfl ?_
  refine ent_nil ?_
  refine ent_cond_true rfl rfl ?_
  refine ent_seq ?_
  refine ent_region ?_
  refine ent_value (ov_build (is := []) (xs := []) (vs := []) rfl rfl (build_struct (cs := [(int .i64 0), (int .i64 0)]) F_zero_40 F_places_40 rfl)) rfl rfl rfl ?_
  refine ent_op0 (ot_storeG (cs := [(int .i64 0), (int .i64 0)]) (cs' := [(int .i64 0), (int .i64 0)]) (us := [(int .i64 0), (int .i64 0)]) (L' := [(box b2 40 [(int .i64 0), (int .i64 0)])]) 0 rfl rfl rfl (one_all rfl) F_size_40 rfl rfl (by simp) rfl) rfl rfl ?_
  rintro _ _ rfl
  refine ent_value (ov_assign rfl) rfl rfl rfl ?_
  refine ent_nil ?_
  refine ent_retc ?_
  first | (have e_ := Option.some.inj (show some _ = some _ from H); subst e_) | subst H
  exact ret_memp [] (by decide) rfl (vs := [(agg #[(int .i64 0), (int .i64 0)]), (bool false)]) rfl ⟨⟨_, [(int .i64 0), (int .i64 0)], rfl, reads_boxW (i := 0) rfl, .inl ⟨F_agg_40, F_size_40, rfl⟩⟩, ⟨rfl, trivial⟩⟩ _ rfl ⟨rfl, rfl⟩
 ·rw [if_neg c14] at H
  refine ent_value_on (ov_move rfl) rfl rfl rfl (decide_eq_false c14) rfl rfl ?_
  refine ent_value_on (ov_bin rfl rfl (b_gtr _ _ _)) rfl rfl rfl (decide_eq_false c14) rfl rfl ?_
  refine ent_value (ov_pick rfl rfl rfl (pick_f (decide_eq_false c14))) rfl rfl rfl ?_
  refine ent_value (ov_move rfl) rfl rfl rfl ?_
  by_cases c15 : 16777216 < a1
  ·rw [if_pos c15] at H
   refine ent_off rfl rfl rfl (decide_eq_true c15) rfl rfl ?_
   refine ent_off rfl rfl rfl (decide_eq_true c15) rfl rfl ?_
   refine ent_off rfl rfl rfl (decide_eq_true c15) rfl rfl ?_
   refine ent_value (ov_pick rfl rfl rfl (pick_t (decide_eq_true c15))) rfl rfl rfl ?_
   refine ent_nil ?_
   refine ent_cond_true rfl rfl ?_
   refine ent_seq ?_
   refine ent_region ?_
   refine ent_value (ov_build (is := []) (xs := []) (vs := []) rfl rfl (build_struct (cs := [(int .i64 0), (int .i64 0)]) F_zero_40 F_places_40 rfl)) rfl rfl rfl ?_
   refine ent_op0 (ot_storeG (cs := [(int .i64 0), (int .i64 0)]) (cs' := [(int .i64 0), (int .i64 0)]) (us := [(int .i64 0), (int .i64 0)]) (L' := [(box b2 40 [(int .i64 0), (int .i64 0)])]) 0 rfl rfl rfl (one_all rfl) F_size_40 rfl rfl (by simp) rfl) rfl rfl ?_
   rintro _ _ rfl
   refine ent_value (ov_assign rfl) rfl rfl rfl ?_
   refine ent_nil ?_
   refine ent_retc ?_
   first | (have e_ := Option.some.inj (show some _ = some _ from H); subst e_) | subst H
   exact ret_memp [] (by decide) rfl (vs := [(agg #[(int .i64 0), (int .i64 0)]), (bool false)]) rfl ⟨⟨_, [(int .i64 0), (int .i64 0)], rfl, reads_boxW (i := 0) rfl, .inl ⟨F_agg_40, F_size_40, rfl⟩⟩, ⟨rfl, trivial⟩⟩ _ rfl ⟨rfl, rfl⟩
  ·rw [if_neg c15] at H
   refine ent_value_on (ov_move rfl) rfl rfl rfl (decide_eq_false c15) rfl rfl ?_
   obtain ⟨x5, h5, H⟩ := Option.bind_eq_some_iff.1 H
   refine ent_op_on (ot_call0 (first := []) (cap := []) (xs := [.tmp 13]) rfl rfl F_call_67 rfl (ossuaryref19_most.spec K a0 _ h5)) rfl rfl rfl (decide_eq_false c15) rfl rfl ?_
   rintro _ _ ⟨rfl, rfl⟩
   refine ent_value_on (ov_bin rfl rfl (b_lss _ _ _)) rfl rfl rfl (decide_eq_false c15) rfl rfl ?_
   refine ent_value (ov_pick rfl rfl rfl (pick_f (decide_eq_false c15))) rfl rfl rfl ?_
   refine ent_nil ?_
   by_cases c16 : x5 < 0
   ·rw [if_pos c16] at H
    refine ent_cond_true rfl (decide_eq_true c16) ?_
    refine ent_seq ?_
    refine ent_region ?_
    refine ent_value (ov_build (is := []) (xs := []) (vs := []) rfl rfl (build_struct (cs := [(int .i64 0), (int .i64 0)]) F_zero_40 F_places_40 rfl)) rfl rfl rfl ?_
    refine ent_op0 (ot_storeG (cs := [(int .i64 0), (int .i64 0)]) (cs' := [(int .i64 0), (int .i64 0)]) (us := [(int .i64 0), (int .i64 0)]) (L' := [(box b2 40 [(int .i64 0), (int .i64 0)])]) 0 rfl rfl rfl (one_all rfl) F_size_40 rfl rfl (by simp) rfl) rfl rfl ?_
    rintro _ _ rfl
    refine ent_value (ov_assign rfl) rfl rfl rfl ?_
    refine ent_nil ?_
    refine ent_retc ?_
    first | (have e_ := Option.some.inj (show some _ = some _ from H); subst e_) | subst H
    exact ret_memp [] (by decide) rfl (vs := [(agg #[(int .i64 0), (int .i64 0)]), (bool false)]) rfl ⟨⟨_, [(int .i64 0), (int .i64 0)], rfl, reads_boxW (i := 0) rfl, .inl ⟨F_agg_40, F_size_40, rfl⟩⟩, ⟨rfl, trivial⟩⟩ _ rfl ⟨rfl, rfl⟩
   ·rw [if_neg c16] at H
    refine ent_cond_false rfl (decide_eq_false c16) ?_
    refine ent_skip ?_
    refine ent_seq ?_
    refine ent_seq ?_
    refine ent_region ?_
    refine ent_value (ov_move rfl) rfl rfl rfl ?_
    refine ent_nil ?_
    refine ent_block ?_
    refine ent_seq ?_
    refine ent_region ?_
    refine ent_value (ov_bin rfl rfl (b_eql _ _ _)) rfl rfl rfl ?_
    refine ent_value (ov_assign rfl) rfl rfl rfl ?_
    refine ent_nil ?_
    by_cases c19 : a0 = 1
    ·rw [if_pos c19] at H
     refine ent_cond_true rfl (eq_t c19) ?_
     refine ent_seq ?_
     refine ent_region ?_
     refine ent_value (ov_move rfl) rfl rfl rfl ?_
     refine ent_value (ov_move rfl) rfl rfl rfl ?_
     refine ent_value (ov_build (is := [0, 1]) (xs := [.tmp 21, .tmp 22]) (vs := [(int .i64 a0), (int .i64 a1)]) rfl rfl (build_struct (cs := [(int .i64 a0), (int .i64 a1)]) F_zero_40 F_places_40 rfl)) rfl rfl rfl ?_
     refine ent_op0 (ot_storeG (cs := [(int .i64 0), (int .i64 0)]) (cs' := [(int .i64 a0), (int .i64 a1)]) (us := [(int .i64 a0), (int .i64 a1)]) (L' := [(box b2 40 [(int .i64 a0), (int .i64 a1)])]) 0 rfl rfl rfl (one_all rfl) F_size_40 rfl rfl (by simp) rfl) rfl rfl ?_
     rintro _ _ rfl
     refine ent_value (ov_assign rfl) rfl rfl rfl ?_
     refine ent_nil ?_
     refine ent_retc ?_
     first | (have e_ := Option.some.inj (show some _ = some _ from H); subst e_) | subst H
     exact ret_memp [] (by decide) rfl (vs := [(agg #[(int .i64 a0), (int .i64 a1)]), (bool true)]) rfl ⟨⟨_, [(int .i64 a0), (int .i64 a1)], rfl, reads_boxW (i := 0) rfl, .inl ⟨F_agg_40, F_size_40, rfl⟩⟩, ⟨rfl, trivial⟩⟩ _ rfl ⟨rfl, rfl⟩
    ·rw [if_neg c19] at H
     refine ent_cond_false rfl (eq_f c19) ?_
     refine ent_seq ?_
     refine ent_region ?_
     refine ent_value (ov_bin rfl rfl (b_eql _ _ _)) rfl rfl rfl ?_
     refine ent_value (ov_assign rfl) rfl rfl rfl ?_
     refine ent_nil ?_
     by_cases c20 : a0 = 2
     ·rw [if_pos c20] at H
      refine ent_cond_true rfl (eq_t c20) ?_
      refine ent_seq ?_
      refine ent_region ?_
      refine ent_value (ov_move rfl) rfl rfl rfl ?_
      refine ent_value (ov_move rfl) rfl rfl rfl ?_
      refine ent_value (ov_bin rfl rfl fun w => b_quo _ _ _ w (by decide)) rfl rfl rfl ?_
      refine ent_value (ov_build (is := [0, 1]) (xs := [.tmp 26, .tmp 28]) (vs := [(int .i64 a0), (int .i64 (w64 (Int.tdiv a1 24)))]) rfl rfl (build_struct (cs := [(int .i64 a0), (int .i64 (w64 (Int.tdiv a1 24)))]) F_zero_40 F_places_40 rfl)) rfl rfl rfl ?_
      refine ent_op0 (ot_storeG (cs := [(int .i64 0), (int .i64 0)]) (cs' := [(int .i64 a0), (int .i64 (w64 (Int.tdiv a1 24)))]) (us := [(int .i64 a0), (int .i64 (w64 (Int.tdiv a1 24)))]) (L' := [(box b2 40 [(int .i64 a0), (int .i64 (w64 (Int.tdiv a1 24)))])]) 0 rfl rfl rfl (one_all rfl) F_size_40 rfl rfl (by simp) rfl) rfl rfl ?_
      rintro _ _ rfl
      refine ent_value (ov_assign rfl) rfl rfl rfl ?_
      refine ent_nil ?_
      refine ent_retc ?_
      first | (have e_ := Option.some.inj (show some _ = some _ from H); subst e_) | subst H
      exact ret_memp [] (by decide) rfl (vs := [(agg #[(int .i64 a0), (int .i64 (w64 (Int.tdiv a1 24)))]), (bool true)]) rfl ⟨⟨_, [(int .i64 a0), (int .i64 (w64 (Int.tdiv a1 24)))], rfl, reads_boxW (i := 0) rfl, .inl ⟨F_agg_40, F_size_40, rfl⟩⟩, ⟨rfl, trivial⟩⟩ _ rfl ⟨rfl, rfl⟩
     ·rw [if_neg c20] at H
      refine ent_cond_false rfl (eq_f c20) ?_
      refine ent_skip ?_
      refine ent_seq ?_
      refine ent_region ?_
      refine ent_value (ov_move rfl) rfl rfl rfl ?_
      refine ent_value (ov_move rfl) rfl rfl rfl ?_
      refine ent_value (ov_bin rfl rfl fun w => b_quo _ _ _ w (by decide)) rfl rfl rfl ?_
      obtain ⟨x6, h6, H⟩ := Option.bind_eq_some_iff.1 H
      refine ent_op (ot_call0 (first := []) (cap := []) (xs := [.tmp 32]) rfl rfl F_call_68 rfl (ossuaryref04_MonthOf.spec K (w64 (Int.tdiv a1 24)) _ h6)) rfl rfl rfl ?_
      rintro _ _ ⟨rfl, rfl⟩
      refine ent_value (ov_build (is := [0, 1]) (xs := [.tmp 30, .tmp 33]) (vs := [(int .i64 a0), (int .i64 x6)]) rfl rfl (build_struct (cs := [(int .i64 a0), (int .i64 x6)]) F_zero_40 F_places_40 rfl)) rfl rfl rfl ?_
      refine ent_op0 (ot_storeG (cs := [(int .i64 0), (int .i64 0)]) (cs' := [(int .i64 a0), (int .i64 x6)]) (us := [(int .i64 a0), (int .i64 x6)]) (L' := [(box b2 40 [(int .i64 a0), (int .i64 x6)])]) 0 rfl rfl rfl (one_all rfl) F_size_40 rfl rfl (by simp) rfl) rfl rfl ?_
      rintro _ _ rfl
      refine ent_value (ov_assign rfl) rfl rfl rfl ?_
      refine ent_nil ?_
      refine ent_retc ?_
      first | (have e_ := Option.some.inj (show some _ = some _ from H); subst e_) | subst H
      exact ret_memp [] (by decide) rfl (vs := [(agg #[(int .i64 a0), (int .i64 x6)]), (bool true)]) rfl ⟨⟨_, [(int .i64 a0), (int .i64 x6)], rfl, reads_boxW (i := 0) rfl, .inl ⟨F_agg_40, F_size_40, rfl⟩⟩, ⟨rfl, trivial⟩⟩ _ rfl ⟨rfl, rfl⟩

end Go.Proofs.Ythcmiohbidencaa.SheetStates
