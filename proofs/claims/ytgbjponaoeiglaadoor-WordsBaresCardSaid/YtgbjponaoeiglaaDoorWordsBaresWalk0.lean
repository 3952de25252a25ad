/- Printed by gen.py: that the machine's calls do what the plain functions of WordsBares say. -/
import Derived.Test.YtgbjponaoeiglaaDoorESq
import Derived.Test.YtgbjponaoeiglaaDoorProg
import Derived.Test.YtgbjponaoeiglaaDoorEBun
import Derived.Test.YtgbjponaoeiglaaDoorEBuild
import Derived.Test.YtgbjponaoeiglaaDoorELib
import Derived.Test.YtgbjponaoeiglaaDoorEShelf
import Derived.Test.YtgbjponaoeiglaaDoorEWords
import Derived.Test.YtgbjponaoeiglaaDoorEPanic
import Derived.Test.YtgbjponaoeiglaaDoorWordsBaresPure
set_option linter.unusedVariables false
set_option linter.unusedSimpArgs false
set_option maxHeartbeats 8000000
set_option maxRecDepth 100000
namespace Go.Proofs.YtgbjponaoeiglaaDoor.WordsBares
open Go Go.RowKit E
open Go.Value (int bool slice agg)

def enc_Api_Key (x : Api_Key) : List Value := [(Value.int .i64 x.Hour), (str x.Dims_0), (str x.Dims_1), (str x.Dims_2), (str x.Dims_3)]
theorem enc_Api_Key_one (x : Api_Key) : (enc_Api_Key x).all (·.oneCell') = true := rfl
theorem enc_Api_Key_len (x : Api_Key) : (enc_Api_Key x).length = 5 := rfl
def enc_Api_Fact (x : Api_Fact) : List Value := [(Value.int .i64 x.Key.Hour), (str x.Key.Dims_0), (str x.Key.Dims_1), (str x.Key.Dims_2), (str x.Key.Dims_3), (Value.int .i64 x.Value)]
theorem enc_Api_Fact_one (x : Api_Fact) : (enc_Api_Fact x).all (·.oneCell') = true := rfl
theorem enc_Api_Fact_len (x : Api_Fact) : (enc_Api_Fact x).length = 6 := rfl
def enc_Api_Query (x : Api_Query) : List Value := [(Value.int .i64 x.From), (Value.int .i64 x.To), (Value.bool x.Group_0), (Value.bool x.Group_1), (Value.bool x.Group_2), (Value.bool x.Group_3), (Value.bool x.Has_0), (Value.bool x.Has_1), (Value.bool x.Has_2), (Value.bool x.Has_3), (str x.Filter_0), (str x.Filter_1), (str x.Filter_2), (str x.Filter_3)]
theorem enc_Api_Query_one (x : Api_Query) : (enc_Api_Query x).all (·.oneCell') = true := rfl
theorem enc_Api_Query_len (x : Api_Query) : (enc_Api_Query x).length = 14 := rfl
def enc_Api_Policy (x : Api_Policy) : List Value := [(Value.int .i64 x.Retain), (Value.int .i64 x.SealLag), (Value.int .i64 x.DayLag), (Value.int .i64 x.MonthLag), (Value.int .i64 x.ColdLag), (Value.int .i64 x.Base), (Value.int .i64 x.Cap), (Value.int .i64 x.Queue), (Value.int .i64 x.Wal)]
theorem enc_Api_Policy_one (x : Api_Policy) : (enc_Api_Policy x).all (·.oneCell') = true := rfl
theorem enc_Api_Policy_len (x : Api_Policy) : (enc_Api_Policy x).length = 9 := rfl
def enc_Api_Step (x : Api_Step) : List Value := [(Value.int .i64 x.Kind), (Value.int .i64 x.N), x.Facts.v, (Value.int .i64 x.Query.From), (Value.int .i64 x.Query.To), (Value.bool x.Query.Group_0), (Value.bool x.Query.Group_1), (Value.bool x.Query.Group_2), (Value.bool x.Query.Group_3), (Value.bool x.Query.Has_0), (Value.bool x.Query.Has_1), (Value.bool x.Query.Has_2), (Value.bool x.Query.Has_3), (str x.Query.Filter_0), (str x.Query.Filter_1), (str x.Query.Filter_2), (str x.Query.Filter_3), (Value.int .i64 x.Rules.Retain), (Value.int .i64 x.Rules.SealLag), (Value.int .i64 x.Rules.DayLag), (Value.int .i64 x.Rules.MonthLag), (Value.int .i64 x.Rules.ColdLag), (Value.int .i64 x.Rules.Base), (Value.int .i64 x.Rules.Cap), (Value.int .i64 x.Rules.Queue), (Value.int .i64 x.Rules.Wal), x.Fails.v]
theorem enc_Api_Step_len (x : Api_Step) : (enc_Api_Step x).length = 27 := rfl
theorem F_zero_41 : zeroB Tryd.prog 41 = some [(Value.int .i64 0), (Value.int .i64 0), (Value.slice none 0 0), (Value.int .i64 0), (Value.int .i64 0), (Value.bool false), (Value.bool false), (Value.bool false), (Value.bool false), (Value.bool false), (Value.bool false), (Value.bool false), (Value.bool false), (str ([] : List UInt8)), (str ([] : List UInt8)), (str ([] : List UInt8)), (str ([] : List UInt8)), (Value.int .i64 0), (Value.int .i64 0), (Value.int .i64 0), (Value.int .i64 0), (Value.int .i64 0), (Value.int .i64 0), (Value.int .i64 0), (Value.int .i64 0), (Value.int .i64 0), (Value.slice none 0 0)] := by kernel_rfl
theorem F_zero_42 : zeroB Tryd.prog 42 = some [(Value.int .i64 0)] := by kernel_rfl
theorem F_agg_41 : aggB Tryd.prog 41 = some true := by kernel_rfl
theorem F_size_41 : sizeB Tryd.prog 41 = some 27 := by kernel_rfl
theorem F_size_42 : sizeB Tryd.prog 42 = some 1 := by kernel_rfl
theorem F_call_30 : callB Tryd.prog 30 = true := by kernel_rfl
theorem F_call_14 : callB Tryd.prog 14 = true := by kernel_rfl
theorem F_zero_72 : zeroB Tryd.prog 72 = some [(Value.slice none 0 0), (Value.int .i64 0)] := by kernel_rfl
theorem F_places_72 : placesB Tryd.prog 72 = some [(0, 1), (1, 1)] := by kernel_rfl
theorem F_field_72_0 : fieldB Tryd.prog 72 0 = some (0, 29) := by kernel_rfl
theorem F_size_29 : sizeB Tryd.prog 29 = some 1 := by kernel_rfl
theorem F_agg_29 : aggB Tryd.prog 29 = some false := by kernel_rfl
theorem F_slice_29 : sliceB Tryd.prog 29 = some 9 := by kernel_rfl
theorem F_call_50 : callB Tryd.prog 50 = true := by kernel_rfl
theorem F_size_9 : sizeB Tryd.prog 9 = some 1 := by kernel_rfl
theorem F_agg_9 : aggB Tryd.prog 9 = some false := by kernel_rfl
theorem F_call_42 : callB Tryd.prog 42 = true := by kernel_rfl
theorem F_slice_32 : sliceB Tryd.prog 32 = some 54 := by kernel_rfl
theorem F_zero_120 : zeroB Tryd.prog 120 = some [(Value.int .i64 0), (Value.int .i64 0), (Value.int .i64 0), (Value.int .i64 0)] := by kernel_rfl
theorem F_slice_56 : sliceB Tryd.prog 56 = some 5 := by kernel_rfl
theorem F_size_5 : sizeB Tryd.prog 5 = some 1 := by kernel_rfl
theorem F_agg_5 : aggB Tryd.prog 5 = some false := by kernel_rfl
theorem F_array_120 : arrayB Tryd.prog 120 = some (4, 2) := by kernel_rfl
theorem F_size_2 : sizeB Tryd.prog 2 = some 1 := by kernel_rfl
theorem F_agg_2 : aggB Tryd.prog 2 = some false := by kernel_rfl
theorem F_call_109 : callB Tryd.prog 109 = true := by kernel_rfl
theorem F_call_105 : callB Tryd.prog 105 = true := by kernel_rfl
theorem F_call_106 : callB Tryd.prog 106 = true := by kernel_rfl
theorem F_call_85 : callB Tryd.prog 85 = true := by kernel_rfl
theorem F_call_69 : callB Tryd.prog 69 = true := by kernel_rfl
theorem F_zero_52 : zeroB Tryd.prog 52 = some [(Value.int .i64 0), (str ([] : List UInt8)), (str ([] : List UInt8)), (str ([] : List UInt8)), (str ([] : List UInt8))] := by kernel_rfl
theorem F_places_52 : placesB Tryd.prog 52 = some [(0, 1), (1, 4)] := by kernel_rfl
theorem F_zero_54 : zeroB Tryd.prog 54 = some [(Value.int .i64 0), (str ([] : List UInt8)), (str ([] : List UInt8)), (str ([] : List UInt8)), (str ([] : List UInt8)), (Value.int .i64 0)] := by kernel_rfl
theorem F_places_54 : placesB Tryd.prog 54 = some [(0, 5), (5, 1)] := by kernel_rfl
theorem F_size_54 : sizeB Tryd.prog 54 = some 6 := by kernel_rfl
theorem F_field_72_1 : fieldB Tryd.prog 72 1 = some (1, 3) := by kernel_rfl
theorem F_size_3 : sizeB Tryd.prog 3 = some 1 := by kernel_rfl
theorem F_agg_3 : aggB Tryd.prog 3 = some false := by kernel_rfl
theorem F_call_24 : callB Tryd.prog 24 = true := by kernel_rfl
theorem F_zero_5 : zeroB Tryd.prog 5 = some [(Value.int .u8 0)] := by kernel_rfl
theorem F_bytes_5 : bytesB Tryd.prog 5 = some 1 := by kernel_rfl
theorem F_call_25 : callB Tryd.prog 25 = true := by kernel_rfl
theorem F_call_9 : callB Tryd.prog 9 = true := by kernel_rfl
theorem F_call_68 : callB Tryd.prog 68 = true := by kernel_rfl
theorem F_field_54_0 : fieldB Tryd.prog 54 0 = some (0, 52) := by kernel_rfl
theorem F_size_52 : sizeB Tryd.prog 52 = some 5 := by kernel_rfl
theorem F_field_52_1 : fieldB Tryd.prog 52 1 = some (1, 34) := by kernel_rfl
theorem F_size_34 : sizeB Tryd.prog 34 = some 4 := by kernel_rfl
theorem F_array_34 : arrayB Tryd.prog 34 = some (4, 9) := by kernel_rfl
theorem F_call_22 : callB Tryd.prog 22 = true := by kernel_rfl
theorem F_call_7 : callB Tryd.prog 7 = true := by kernel_rfl
theorem F_call_46 : callB Tryd.prog 46 = true := by kernel_rfl
theorem F_field_54_1 : fieldB Tryd.prog 54 1 = some (5, 2) := by kernel_rfl
theorem F_agg_54 : aggB Tryd.prog 54 = some true := by kernel_rfl
theorem F_bytes_54 : bytesB Tryd.prog 54 = some 80 := by kernel_rfl
theorem F_call_43 : callB Tryd.prog 43 = true := by kernel_rfl
theorem F_places_41 : placesB Tryd.prog 41 = some [(0, 1), (1, 1), (2, 1), (3, 14), (17, 9), (26, 1)] := by kernel_rfl
theorem F_field_41_0 : fieldB Tryd.prog 41 0 = some (0, 3) := by kernel_rfl
theorem F_field_41_2 : fieldB Tryd.prog 41 2 = some (2, 32) := by kernel_rfl
theorem F_size_32 : sizeB Tryd.prog 32 = some 1 := by kernel_rfl
theorem F_call_70 : callB Tryd.prog 70 = true := by kernel_rfl
theorem F_slice_47 : sliceB Tryd.prog 47 = some 41 := by kernel_rfl
theorem F_field_41_1 : fieldB Tryd.prog 41 1 = some (1, 2) := by kernel_rfl
theorem F_field_41_3 : fieldB Tryd.prog 41 3 = some (3, 36) := by kernel_rfl
theorem F_size_36 : sizeB Tryd.prog 36 = some 14 := by kernel_rfl
theorem F_agg_36 : aggB Tryd.prog 36 = some true := by kernel_rfl
theorem F_agg_4 : aggB Tryd.prog 4 = some false := by kernel_rfl
theorem F_array_33 : arrayB Tryd.prog 33 = some (4, 4) := by kernel_rfl
theorem F_size_4 : sizeB Tryd.prog 4 = some 1 := by kernel_rfl
theorem F_agg_34 : aggB Tryd.prog 34 = some true := by kernel_rfl
theorem F_agg_33 : aggB Tryd.prog 33 = some true := by kernel_rfl
theorem F_size_33 : sizeB Tryd.prog 33 = some 4 := by kernel_rfl
theorem F_guard_36 : Tryd.prog.eqGuardType Tryd.prog.depth 36 = false := by kernel_rfl
theorem same_36 {x y : Operand} (x0 : Int) (x1 : Int) (x2 : Bool) (x3 : Bool) (x4 : Bool) (x5 : Bool) (x6 : Bool) (x7 : Bool) (x8 : Bool) (x9 : Bool) (x10 : List UInt8) (x11 : List UInt8) (x12 : List UInt8) (x13 : List UInt8) (y0 : Int) (y1 : Int) (y2 : Bool) (y3 : Bool) (y4 : Bool) (y5 : Bool) (y6 : Bool) (y7 : Bool) (y8 : Bool) (y9 : Bool) (y10 : List UInt8) (y11 : List UInt8) (y12 : List UInt8) (y13 : List UInt8) (w : World) : (do eqGuard .eql 36 x y (.agg #[(Value.int .i64 x0), (Value.int .i64 x1), (Value.bool x2), (Value.bool x3), (Value.bool x4), (Value.bool x5), (Value.bool x6), (Value.bool x7), (Value.bool x8), (Value.bool x9), (str x10), (str x11), (str x12), (str x13)]) (.agg #[(Value.int .i64 y0), (Value.int .i64 y1), (Value.bool y2), (Value.bool y3), (Value.bool y4), (Value.bool y5), (Value.bool y6), (Value.bool y7), (Value.bool y8), (Value.bool y9), (str y10), (str y11), (str y12), (str y13)]); binOp .eql 36 (.agg #[(Value.int .i64 x0), (Value.int .i64 x1), (Value.bool x2), (Value.bool x3), (Value.bool x4), (Value.bool x5), (Value.bool x6), (Value.bool x7), (Value.bool x8), (Value.bool x9), (str x10), (str x11), (str x12), (str x13)]) (.agg #[(Value.int .i64 y0), (Value.int .i64 y1), (Value.bool y2), (Value.bool y3), (Value.bool y4), (Value.bool y5), (Value.bool y6), (Value.bool y7), (Value.bool y8), (Value.bool y9), (str y10), (str y11), (str y12), (str y13)])).run Tryd.prog w = .ok (.bool ((x0 == y0) && ((x1 == y1) && (((x2 == y2) && ((x3 == y3) && ((x4 == y4) && ((x5 == y5) && true)))) && (((x6 == y6) && ((x7 == y7) && ((x8 == y8) && ((x9 == y9) && true)))) && (((x10 == y10) && ((x11 == y11) && ((x12 == y12) && ((x13 == y13) && true)))) && true)))))) w :=
  b_eql_agg F_guard_36 (eq_struct Tryd.underlying36 (by kernel_rfl) (eqf_cons rfl (part_cell F_agg_2 rfl) (part_cell F_agg_2 rfl) (eq_int Tryd.underlying2 _ _) (eqf_cons rfl (part_cell F_agg_2 rfl) (part_cell F_agg_2 rfl) (eq_int Tryd.underlying2 _ _) (eqf_cons rfl (part_agg F_agg_33 F_size_33) (part_agg F_agg_33 F_size_33) (eq_arr4 F_array_33 F_size_4 (part_cell F_agg_4 rfl) (part_cell F_agg_4 rfl) (part_cell F_agg_4 rfl) (part_cell F_agg_4 rfl) (part_cell F_agg_4 rfl) (part_cell F_agg_4 rfl) (part_cell F_agg_4 rfl) (part_cell F_agg_4 rfl) (eq_bool Tryd.underlying4 _ _) (eq_bool Tryd.underlying4 _ _) (eq_bool Tryd.underlying4 _ _) (eq_bool Tryd.underlying4 _ _)) (eqf_cons rfl (part_agg F_agg_33 F_size_33) (part_agg F_agg_33 F_size_33) (eq_arr4 F_array_33 F_size_4 (part_cell F_agg_4 rfl) (part_cell F_agg_4 rfl) (part_cell F_agg_4 rfl) (part_cell F_agg_4 rfl) (part_cell F_agg_4 rfl) (part_cell F_agg_4 rfl) (part_cell F_agg_4 rfl) (part_cell F_agg_4 rfl) (eq_bool Tryd.underlying4 _ _) (eq_bool Tryd.underlying4 _ _) (eq_bool Tryd.underlying4 _ _) (eq_bool Tryd.underlying4 _ _)) (eqf_cons rfl (part_agg F_agg_34 F_size_34) (part_agg F_agg_34 F_size_34) (eq_arr4 F_array_34 F_size_9 (part_cell F_agg_9 rfl) (part_cell F_agg_9 rfl) (part_cell F_agg_9 rfl) (part_cell F_agg_9 rfl) (part_cell F_agg_9 rfl) (part_cell F_agg_9 rfl) (part_cell F_agg_9 rfl) (part_cell F_agg_9 rfl) (eq_str Tryd.underlying9 _ _) (eq_str Tryd.underlying9 _ _) (eq_str Tryd.underlying9 _ _) (eq_str Tryd.underlying9 _ _)) eqf_nil)))))) w
theorem same_36_n {x y : Operand} (x0 : Int) (x1 : Int) (x2 : Bool) (x3 : Bool) (x4 : Bool) (x5 : Bool) (x6 : Bool) (x7 : Bool) (x8 : Bool) (x9 : Bool) (x10 : List UInt8) (x11 : List UInt8) (x12 : List UInt8) (x13 : List UInt8) (y0 : Int) (y1 : Int) (y2 : Bool) (y3 : Bool) (y4 : Bool) (y5 : Bool) (y6 : Bool) (y7 : Bool) (y8 : Bool) (y9 : Bool) (y10 : List UInt8) (y11 : List UInt8) (y12 : List UInt8) (y13 : List UInt8) (w : World) : (do eqGuard .neq 36 x y (.agg #[(Value.int .i64 x0), (Value.int .i64 x1), (Value.bool x2), (Value.bool x3), (Value.bool x4), (Value.bool x5), (Value.bool x6), (Value.bool x7), (Value.bool x8), (Value.bool x9), (str x10), (str x11), (str x12), (str x13)]) (.agg #[(Value.int .i64 y0), (Value.int .i64 y1), (Value.bool y2), (Value.bool y3), (Value.bool y4), (Value.bool y5), (Value.bool y6), (Value.bool y7), (Value.bool y8), (Value.bool y9), (str y10), (str y11), (str y12), (str y13)]); binOp .neq 36 (.agg #[(Value.int .i64 x0), (Value.int .i64 x1), (Value.bool x2), (Value.bool x3), (Value.bool x4), (Value.bool x5), (Value.bool x6), (Value.bool x7), (Value.bool x8), (Value.bool x9), (str x10), (str x11), (str x12), (str x13)]) (.agg #[(Value.int .i64 y0), (Value.int .i64 y1), (Value.bool y2), (Value.bool y3), (Value.bool y4), (Value.bool y5), (Value.bool y6), (Value.bool y7), (Value.bool y8), (Value.bool y9), (str y10), (str y11), (str y12), (str y13)])).run Tryd.prog w = .ok (.bool (!((x0 == y0) && ((x1 == y1) && (((x2 == y2) && ((x3 == y3) && ((x4 == y4) && ((x5 == y5) && true)))) && (((x6 == y6) && ((x7 == y7) && ((x8 == y8) && ((x9 == y9) && true)))) && (((x10 == y10) && ((x11 == y11) && ((x12 == y12) && ((x13 == y13) && true)))) && true))))))) w :=
  b_neq_agg F_guard_36 (eq_struct Tryd.underlying36 (by kernel_rfl) (eqf_cons rfl (part_cell F_agg_2 rfl) (part_cell F_agg_2 rfl) (eq_int Tryd.underlying2 _ _) (eqf_cons rfl (part_cell F_agg_2 rfl) (part_cell F_agg_2 rfl) (eq_int Tryd.underlying2 _ _) (eqf_cons rfl (part_agg F_agg_33 F_size_33) (part_agg F_agg_33 F_size_33) (eq_arr4 F_array_33 F_size_4 (part_cell F_agg_4 rfl) (part_cell F_agg_4 rfl) (part_cell F_agg_4 rfl) (part_cell F_agg_4 rfl) (part_cell F_agg_4 rfl) (part_cell F_agg_4 rfl) (part_cell F_agg_4 rfl) (part_cell F_agg_4 rfl) (eq_bool Tryd.underlying4 _ _) (eq_bool Tryd.underlying4 _ _) (eq_bool Tryd.underlying4 _ _) (eq_bool Tryd.underlying4 _ _)) (eqf_cons rfl (part_agg F_agg_33 F_size_33) (part_agg F_agg_33 F_size_33) (eq_arr4 F_array_33 F_size_4 (part_cell F_agg_4 rfl) (part_cell F_agg_4 rfl) (part_cell F_agg_4 rfl) (part_cell F_agg_4 rfl) (part_cell F_agg_4 rfl) (part_cell F_agg_4 rfl) (part_cell F_agg_4 rfl) (part_cell F_agg_4 rfl) (eq_bool Tryd.underlying4 _ _) (eq_bool Tryd.underlying4 _ _) (eq_bool Tryd.underlying4 _ _) (eq_bool Tryd.underlying4 _ _)) (eqf_cons rfl (part_agg F_agg_34 F_size_34) (part_agg F_agg_34 F_size_34) (eq_arr4 F_array_34 F_size_9 (part_cell F_agg_9 rfl) (part_cell F_agg_9 rfl) (part_cell F_agg_9 rfl) (part_cell F_agg_9 rfl) (part_cell F_agg_9 rfl) (part_cell F_agg_9 rfl) (part_cell F_agg_9 rfl) (part_cell F_agg_9 rfl) (eq_str Tryd.underlying9 _ _) (eq_str Tryd.underlying9 _ _) (eq_str Tryd.underlying9 _ _) (eq_str Tryd.underlying9 _ _)) eqf_nil)))))) w
theorem F_field_41_4 : fieldB Tryd.prog 41 4 = some (17, 38) := by kernel_rfl
theorem F_size_38 : sizeB Tryd.prog 38 = some 9 := by kernel_rfl
theorem F_agg_38 : aggB Tryd.prog 38 = some true := by kernel_rfl
theorem F_guard_38 : Tryd.prog.eqGuardType Tryd.prog.depth 38 = false := by kernel_rfl
theorem same_38 {x y : Operand} (x0 : Int) (x1 : Int) (x2 : Int) (x3 : Int) (x4 : Int) (x5 : Int) (x6 : Int) (x7 : Int) (x8 : Int) (y0 : Int) (y1 : Int) (y2 : Int) (y3 : Int) (y4 : Int) (y5 : Int) (y6 : Int) (y7 : Int) (y8 : Int) (w : World) : (do eqGuard .eql 38 x y (.agg #[(Value.int .i64 x0), (Value.int .i64 x1), (Value.int .i64 x2), (Value.int .i64 x3), (Value.int .i64 x4), (Value.int .i64 x5), (Value.int .i64 x6), (Value.int .i64 x7), (Value.int .i64 x8)]) (.agg #[(Value.int .i64 y0), (Value.int .i64 y1), (Value.int .i64 y2), (Value.int .i64 y3), (Value.int .i64 y4), (Value.int .i64 y5), (Value.int .i64 y6), (Value.int .i64 y7), (Value.int .i64 y8)]); binOp .eql 38 (.agg #[(Value.int .i64 x0), (Value.int .i64 x1), (Value.int .i64 x2), (Value.int .i64 x3), (Value.int .i64 x4), (Value.int .i64 x5), (Value.int .i64 x6), (Value.int .i64 x7), (Value.int .i64 x8)]) (.agg #[(Value.int .i64 y0), (Value.int .i64 y1), (Value.int .i64 y2), (Value.int .i64 y3), (Value.int .i64 y4), (Value.int .i64 y5), (Value.int .i64 y6), (Value.int .i64 y7), (Value.int .i64 y8)])).run Tryd.prog w = .ok (.bool ((x0 == y0) && ((x1 == y1) && ((x2 == y2) && ((x3 == y3) && ((x4 == y4) && ((x5 == y5) && ((x6 == y6) && ((x7 == y7) && ((x8 == y8) && true)))))))))) w :=
  b_eql_agg F_guard_38 (eq_struct Tryd.underlying38 (by kernel_rfl) (eqf_cons rfl (part_cell F_agg_2 rfl) (part_cell F_agg_2 rfl) (eq_int Tryd.underlying2 _ _) (eqf_cons rfl (part_cell F_agg_2 rfl) (part_cell F_agg_2 rfl) (eq_int Tryd.underlying2 _ _) (eqf_cons rfl (part_cell F_agg_2 rfl) (part_cell F_agg_2 rfl) (eq_int Tryd.underlying2 _ _) (eqf_cons rfl (part_cell F_agg_2 rfl) (part_cell F_agg_2 rfl) (eq_int Tryd.underlying2 _ _) (eqf_cons rfl (part_cell F_agg_2 rfl) (part_cell F_agg_2 rfl) (eq_int Tryd.underlying2 _ _) (eqf_cons rfl (part_cell F_agg_2 rfl) (part_cell F_agg_2 rfl) (eq_int Tryd.underlying2 _ _) (eqf_cons rfl (part_cell F_agg_2 rfl) (part_cell F_agg_2 rfl) (eq_int Tryd.underlying2 _ _) (eqf_cons rfl (part_cell F_agg_3 rfl) (part_cell F_agg_3 rfl) (eq_int Tryd.underlying3 _ _) (eqf_cons rfl (part_cell F_agg_2 rfl) (part_cell F_agg_2 rfl) (eq_int Tryd.underlying2 _ _) eqf_nil)))))))))) w
theorem same_38_n {x y : Operand} (x0 : Int) (x1 : Int) (x2 : Int) (x3 : Int) (x4 : Int) (x5 : Int) (x6 : Int) (x7 : Int) (x8 : Int) (y0 : Int) (y1 : Int) (y2 : Int) (y3 : Int) (y4 : Int) (y5 : Int) (y6 : Int) (y7 : Int) (y8 : Int) (w : World) : (do eqGuard .neq 38 x y (.agg #[(Value.int .i64 x0), (Value.int .i64 x1), (Value.int .i64 x2), (Value.int .i64 x3), (Value.int .i64 x4), (Value.int .i64 x5), (Value.int .i64 x6), (Value.int .i64 x7), (Value.int .i64 x8)]) (.agg #[(Value.int .i64 y0), (Value.int .i64 y1), (Value.int .i64 y2), (Value.int .i64 y3), (Value.int .i64 y4), (Value.int .i64 y5), (Value.int .i64 y6), (Value.int .i64 y7), (Value.int .i64 y8)]); binOp .neq 38 (.agg #[(Value.int .i64 x0), (Value.int .i64 x1), (Value.int .i64 x2), (Value.int .i64 x3), (Value.int .i64 x4), (Value.int .i64 x5), (Value.int .i64 x6), (Value.int .i64 x7), (Value.int .i64 x8)]) (.agg #[(Value.int .i64 y0), (Value.int .i64 y1), (Value.int .i64 y2), (Value.int .i64 y3), (Value.int .i64 y4), (Value.int .i64 y5), (Value.int .i64 y6), (Value.int .i64 y7), (Value.int .i64 y8)])).run Tryd.prog w = .ok (.bool (!((x0 == y0) && ((x1 == y1) && ((x2 == y2) && ((x3 == y3) && ((x4 == y4) && ((x5 == y5) && ((x6 == y6) && ((x7 == y7) && ((x8 == y8) && true))))))))))) w :=
  b_neq_agg F_guard_38 (eq_struct Tryd.underlying38 (by kernel_rfl) (eqf_cons rfl (part_cell F_agg_2 rfl) (part_cell F_agg_2 rfl) (eq_int Tryd.underlying2 _ _) (eqf_cons rfl (part_cell F_agg_2 rfl) (part_cell F_agg_2 rfl) (eq_int Tryd.underlying2 _ _) (eqf_cons rfl (part_cell F_agg_2 rfl) (part_cell F_agg_2 rfl) (eq_int Tryd.underlying2 _ _) (eqf_cons rfl (part_cell F_agg_2 rfl) (part_cell F_agg_2 rfl) (eq_int Tryd.underlying2 _ _) (eqf_cons rfl (part_cell F_agg_2 rfl) (part_cell F_agg_2 rfl) (eq_int Tryd.underlying2 _ _) (eqf_cons rfl (part_cell F_agg_2 rfl) (part_cell F_agg_2 rfl) (eq_int Tryd.underlying2 _ _) (eqf_cons rfl (part_cell F_agg_2 rfl) (part_cell F_agg_2 rfl) (eq_int Tryd.underlying2 _ _) (eqf_cons rfl (part_cell F_agg_3 rfl) (part_cell F_agg_3 rfl) (eq_int Tryd.underlying3 _ _) (eqf_cons rfl (part_cell F_agg_2 rfl) (part_cell F_agg_2 rfl) (eq_int Tryd.underlying2 _ _) eqf_nil)))))))))) w
theorem F_agg_32 : aggB Tryd.prog 32 = some false := by kernel_rfl
theorem F_agg_52 : aggB Tryd.prog 52 = some true := by kernel_rfl
theorem F_guard_54 : Tryd.prog.eqGuardType Tryd.prog.depth 54 = false := by kernel_rfl
theorem same_54 {x y : Operand} (x0 : Int) (x1 : List UInt8) (x2 : List UInt8) (x3 : List UInt8) (x4 : List UInt8) (x5 : Int) (y0 : Int) (y1 : List UInt8) (y2 : List UInt8) (y3 : List UInt8) (y4 : List UInt8) (y5 : Int) (w : World) : (do eqGuard .eql 54 x y (.agg #[(Value.int .i64 x0), (str x1), (str x2), (str x3), (str x4), (Value.int .i64 x5)]) (.agg #[(Value.int .i64 y0), (str y1), (str y2), (str y3), (str y4), (Value.int .i64 y5)]); binOp .eql 54 (.agg #[(Value.int .i64 x0), (str x1), (str x2), (str x3), (str x4), (Value.int .i64 x5)]) (.agg #[(Value.int .i64 y0), (str y1), (str y2), (str y3), (str y4), (Value.int .i64 y5)])).run Tryd.prog w = .ok (.bool (((x0 == y0) && (((x1 == y1) && ((x2 == y2) && ((x3 == y3) && ((x4 == y4) && true)))) && true)) && ((x5 == y5) && true))) w :=
  b_eql_agg F_guard_54 (eq_struct Tryd.underlying54 (by kernel_rfl) (eqf_cons rfl (part_agg F_agg_52 F_size_52) (part_agg F_agg_52 F_size_52) (eq_struct Tryd.underlying52 (by kernel_rfl) (eqf_cons rfl (part_cell F_agg_2 rfl) (part_cell F_agg_2 rfl) (eq_int Tryd.underlying2 _ _) (eqf_cons rfl (part_agg F_agg_34 F_size_34) (part_agg F_agg_34 F_size_34) (eq_arr4 F_array_34 F_size_9 (part_cell F_agg_9 rfl) (part_cell F_agg_9 rfl) (part_cell F_agg_9 rfl) (part_cell F_agg_9 rfl) (part_cell F_agg_9 rfl) (part_cell F_agg_9 rfl) (part_cell F_agg_9 rfl) (part_cell F_agg_9 rfl) (eq_str Tryd.underlying9 _ _) (eq_str Tryd.underlying9 _ _) (eq_str Tryd.underlying9 _ _) (eq_str Tryd.underlying9 _ _)) eqf_nil))) (eqf_cons rfl (part_cell F_agg_2 rfl) (part_cell F_agg_2 rfl) (eq_int Tryd.underlying2 _ _) eqf_nil))) w
theorem same_54_n {x y : Operand} (x0 : Int) (x1 : List UInt8) (x2 : List UInt8) (x3 : List UInt8) (x4 : List UInt8) (x5 : Int) (y0 : Int) (y1 : List UInt8) (y2 : List UInt8) (y3 : List UInt8) (y4 : List UInt8) (y5 : Int) (w : World) : (do eqGuard .neq 54 x y (.agg #[(Value.int .i64 x0), (str x1), (str x2), (str x3), (str x4), (Value.int .i64 x5)]) (.agg #[(Value.int .i64 y0), (str y1), (str y2), (str y3), (str y4), (Value.int .i64 y5)]); binOp .neq 54 (.agg #[(Value.int .i64 x0), (str x1), (str x2), (str x3), (str x4), (Value.int .i64 x5)]) (.agg #[(Value.int .i64 y0), (str y1), (str y2), (str y3), (str y4), (Value.int .i64 y5)])).run Tryd.prog w = .ok (.bool (!(((x0 == y0) && (((x1 == y1) && ((x2 == y2) && ((x3 == y3) && ((x4 == y4) && true)))) && true)) && ((x5 == y5) && true)))) w :=
  b_neq_agg F_guard_54 (eq_struct Tryd.underlying54 (by kernel_rfl) (eqf_cons rfl (part_agg F_agg_52 F_size_52) (part_agg F_agg_52 F_size_52) (eq_struct Tryd.underlying52 (by kernel_rfl) (eqf_cons rfl (part_cell F_agg_2 rfl) (part_cell F_agg_2 rfl) (eq_int Tryd.underlying2 _ _) (eqf_cons rfl (part_agg F_agg_34 F_size_34) (part_agg F_agg_34 F_size_34) (eq_arr4 F_array_34 F_size_9 (part_cell F_agg_9 rfl) (part_cell F_agg_9 rfl) (part_cell F_agg_9 rfl) (part_cell F_agg_9 rfl) (part_cell F_agg_9 rfl) (part_cell F_agg_9 rfl) (part_cell F_agg_9 rfl) (part_cell F_agg_9 rfl) (eq_str Tryd.underlying9 _ _) (eq_str Tryd.underlying9 _ _) (eq_str Tryd.underlying9 _ _) (eq_str Tryd.underlying9 _ _)) eqf_nil))) (eqf_cons rfl (part_cell F_agg_2 rfl) (part_cell F_agg_2 rfl) (eq_int Tryd.underlying2 _ _) eqf_nil))) w
theorem F_call_88 : callB Tryd.prog 88 = true := by kernel_rfl
theorem F_field_41_5 : fieldB Tryd.prog 41 5 = some (26, 39) := by kernel_rfl
theorem F_size_39 : sizeB Tryd.prog 39 = some 1 := by kernel_rfl
theorem F_agg_39 : aggB Tryd.prog 39 = some false := by kernel_rfl
theorem F_slice_39 : sliceB Tryd.prog 39 = some 4 := by kernel_rfl
theorem F_call_89 : callB Tryd.prog 89 = true := by kernel_rfl
theorem F_call_87 : callB Tryd.prog 87 = true := by kernel_rfl
theorem F_call_86 : callB Tryd.prog 86 = true := by kernel_rfl
theorem F_call_71 : callB Tryd.prog 71 = true := by kernel_rfl
theorem F_call_90 : callB Tryd.prog 90 = true := by kernel_rfl
theorem F_field_52_0 : fieldB Tryd.prog 52 0 = some (0, 2) := by kernel_rfl
theorem F_call_91 : callB Tryd.prog 91 = true := by kernel_rfl
theorem F_call_72 : callB Tryd.prog 72 = true := by kernel_rfl
theorem F_call_51 : callB Tryd.prog 51 = true := by kernel_rfl
theorem F_zero_36 : zeroB Tryd.prog 36 = some [(Value.int .i64 0), (Value.int .i64 0), (Value.bool false), (Value.bool false), (Value.bool false), (Value.bool false), (Value.bool false), (Value.bool false), (Value.bool false), (Value.bool false), (str ([] : List UInt8)), (str ([] : List UInt8)), (str ([] : List UInt8)), (str ([] : List UInt8))] := by kernel_rfl
theorem F_field_36_0 : fieldB Tryd.prog 36 0 = some (0, 2) := by kernel_rfl
theorem F_field_36_1 : fieldB Tryd.prog 36 1 = some (1, 2) := by kernel_rfl
theorem F_field_36_2 : fieldB Tryd.prog 36 2 = some (2, 33) := by kernel_rfl
theorem F_field_36_3 : fieldB Tryd.prog 36 3 = some (6, 33) := by kernel_rfl
theorem F_field_36_4 : fieldB Tryd.prog 36 4 = some (10, 34) := by kernel_rfl
theorem F_zero_2 : zeroB Tryd.prog 2 = some [(Value.int .i64 0)] := by kernel_rfl
theorem F_zero_86 : zeroB Tryd.prog 86 = some [(Value.pointer none), (Value.pointer none), (Value.pointer none), (Value.pointer none), (Value.pointer none), (Value.pointer none), (Value.pointer none), (Value.pointer none), (Value.pointer none)] := by kernel_rfl
theorem F_field_38_0 : fieldB Tryd.prog 38 0 = some (0, 2) := by kernel_rfl
theorem F_field_38_1 : fieldB Tryd.prog 38 1 = some (1, 2) := by kernel_rfl
theorem F_field_38_2 : fieldB Tryd.prog 38 2 = some (2, 2) := by kernel_rfl
theorem F_field_38_3 : fieldB Tryd.prog 38 3 = some (3, 2) := by kernel_rfl
theorem F_field_38_4 : fieldB Tryd.prog 38 4 = some (4, 2) := by kernel_rfl
theorem F_field_38_5 : fieldB Tryd.prog 38 5 = some (5, 2) := by kernel_rfl
theorem F_field_38_6 : fieldB Tryd.prog 38 6 = some (6, 2) := by kernel_rfl
theorem F_field_38_8 : fieldB Tryd.prog 38 8 = some (8, 2) := by kernel_rfl
theorem F_array_86 : arrayB Tryd.prog 86 = some (9, 85) := by kernel_rfl
theorem F_size_85 : sizeB Tryd.prog 85 = some 1 := by kernel_rfl
theorem F_size_86 : sizeB Tryd.prog 86 = some 9 := by kernel_rfl
theorem F_agg_86 : aggB Tryd.prog 86 = some true := by kernel_rfl
theorem F_call_45 : callB Tryd.prog 45 = true := by kernel_rfl
theorem F_agg_85 : aggB Tryd.prog 85 = some false := by kernel_rfl
theorem F_field_38_7 : fieldB Tryd.prog 38 7 = some (7, 3) := by kernel_rfl
theorem F_zero_38 : zeroB Tryd.prog 38 = some [(Value.int .i64 0), (Value.int .i64 0), (Value.int .i64 0), (Value.int .i64 0), (Value.int .i64 0), (Value.int .i64 0), (Value.int .i64 0), (Value.int .i64 0), (Value.int .i64 0)] := by kernel_rfl
theorem F_places_38 : placesB Tryd.prog 38 = some [(0, 1), (1, 1), (2, 1), (3, 1), (4, 1), (5, 1), (6, 1), (7, 1), (8, 1)] := by kernel_rfl
theorem F_zero_128 : zeroB Tryd.prog 128 = some [(Value.int .i64 0), (Value.int .i64 0), (Value.int .i64 0), (Value.int .i64 0), (Value.int .i64 0), (Value.int .i64 0), (Value.int .i64 0), (Value.int .i64 0), (Value.int .i64 0), (Value.int .i64 0), (Value.int .i64 0), (Value.int .i64 0), (Value.int .i64 0), (Value.int .i64 0), (Value.int .i64 0), (Value.int .i64 0), (Value.int .i64 0), (Value.int .i64 0)] := by kernel_rfl
theorem F_zero_127 : zeroB Tryd.prog 127 = some [(Value.int .i64 0), (Value.int .i64 0)] := by kernel_rfl
theorem F_places_127 : placesB Tryd.prog 127 = some [(0, 1), (1, 1)] := by kernel_rfl
theorem F_array_128 : arrayB Tryd.prog 128 = some (9, 127) := by kernel_rfl
theorem F_size_127 : sizeB Tryd.prog 127 = some 2 := by kernel_rfl
theorem F_size_128 : sizeB Tryd.prog 128 = some 18 := by kernel_rfl
theorem F_agg_128 : aggB Tryd.prog 128 = some true := by kernel_rfl
theorem F_call_93 : callB Tryd.prog 93 = true := by kernel_rfl
theorem F_zero_130 : zeroB Tryd.prog 130 = some [(Value.int .i64 0), (Value.int .i64 0), (Value.int .i64 0), (Value.int .i64 0), (Value.int .i64 0), (Value.int .i64 0), (Value.int .i64 0), (Value.int .i64 0), (Value.int .i64 0)] := by kernel_rfl
theorem F_array_130 : arrayB Tryd.prog 130 = some (9, 2) := by kernel_rfl
theorem F_size_130 : sizeB Tryd.prog 130 = some 9 := by kernel_rfl
theorem F_agg_130 : aggB Tryd.prog 130 = some true := by kernel_rfl
theorem F_call_94 : callB Tryd.prog 94 = true := by kernel_rfl
theorem F_field_127_0 : fieldB Tryd.prog 127 0 = some (0, 2) := by kernel_rfl
theorem F_field_127_1 : fieldB Tryd.prog 127 1 = some (1, 2) := by kernel_rfl
theorem F_call_74 : callB Tryd.prog 74 = true := by kernel_rfl
theorem F_zero_4 : zeroB Tryd.prog 4 = some [(Value.bool false)] := by kernel_rfl
theorem F_bytes_4 : bytesB Tryd.prog 4 = some 1 := by kernel_rfl
theorem F_call_47 : callB Tryd.prog 47 = true := by kernel_rfl
theorem F_zero_34 : zeroB Tryd.prog 34 = some [(str ([] : List UInt8)), (str ([] : List UInt8)), (str ([] : List UInt8)), (str ([] : List UInt8))] := by kernel_rfl
theorem F_call_48 : callB Tryd.prog 48 = true := by kernel_rfl
theorem F_zero_92 : zeroB Tryd.prog 92 = some [(Value.int .i64 0), (Value.int .i64 0), (Value.int .i64 0), (Value.int .i64 0)] := by kernel_rfl
theorem F_array_92 : arrayB Tryd.prog 92 = some (4, 3) := by kernel_rfl
theorem F_size_92 : sizeB Tryd.prog 92 = some 4 := by kernel_rfl
theorem F_agg_92 : aggB Tryd.prog 92 = some true := by kernel_rfl
theorem F_call_49 : callB Tryd.prog 49 = true := by kernel_rfl
theorem F_call_32 : callB Tryd.prog 32 = true := by kernel_rfl
theorem F_agg_42 : aggB Tryd.prog 42 = some false := by kernel_rfl
theorem F_call_16 : callB Tryd.prog 16 = true := by kernel_rfl
theorem F_call_6 : callB Tryd.prog 6 = true := by kernel_rfl
theorem F_call_23 : callB Tryd.prog 23 = true := by kernel_rfl
theorem F_call_8 : callB Tryd.prog 8 = true := by kernel_rfl
theorem F_call_26 : callB Tryd.prog 26 = true := by kernel_rfl
theorem F_call_29 : callB Tryd.prog 29 = true := by kernel_rfl
theorem F_call_12 : callB Tryd.prog 12 = true := by kernel_rfl
theorem F_call_10 : callB Tryd.prog 10 = true := by kernel_rfl
theorem F_zero_64 : zeroB Tryd.prog 64 = some [(Value.pointer none), (Value.slice none 0 0)] := by kernel_rfl
theorem F_call_40 : callB Tryd.prog 40 = true := by kernel_rfl
theorem F_field_64_1 : fieldB Tryd.prog 64 1 = some (1, 56) := by kernel_rfl
theorem F_size_56 : sizeB Tryd.prog 56 = some 1 := by kernel_rfl
theorem F_agg_56 : aggB Tryd.prog 56 = some false := by kernel_rfl
theorem F_call_27 : callB Tryd.prog 27 = true := by kernel_rfl
theorem F_call_28 : callB Tryd.prog 28 = true := by kernel_rfl
theorem F_call_11 : callB Tryd.prog 11 = true := by kernel_rfl
theorem F_zero_9 : zeroB Tryd.prog 9 = some [(str ([] : List UInt8))] := by kernel_rfl
theorem F_bytes_9 : bytesB Tryd.prog 9 = some 16 := by kernel_rfl
theorem F_call_15 : callB Tryd.prog 15 = true := by kernel_rfl
theorem F_call_13 : callB Tryd.prog 13 = true := by kernel_rfl
theorem words_Parse_1_quiet.spec (b0_ b1_ : Nat) : Quiet Tryd.prog { target := .fn (.func 31) ([pt b0_ 0,pt b1_ 0] : List Value).toArray,args := ([] : List Value).toArray ++ ([] : List Value).toArray } := by
 refine ⟨31,#[pt b0_ 0,pt b1_ 0],⟨_,_,rfl,fun w => ?_⟩,fun w => ?_⟩
 ·simp [invoke,callFunc,go_sem,Tryd.func31,Tryd.f31]
 ·refine callsDIn_of_wpSIn Tryd.func31 rfl trivial fun c₀ cs hu => ?_
  apply wpSIn_seq
  apply wpSIn_region
  simp [wpOpsSIn,go_sem,recoverD,hu,Exit.thenS]
  apply wpSIn_seq
  apply wpSIn_region
  simp [wpOpsSIn,go_sem,Exit.thenS]
  refine wpSIn_cond (t := false) (by simp [Act.eval,Array.replicate]) ?_
  simp only [Bool.false_eq_true,if_false]
  refine wpSIn_of_wpIn rfl (wpIn_skip ?_)
  cases c₀
  simp_all [bodyPostS,results]

theorem strings_Split.spec (a0 a1 : List UInt8) (r : List (List UInt8)) (H : strings_Split a0 a1 = some r) : FnSpec Tryd.prog 30 [str a0,str a1] [] (fun v M => ∃ sv2 : Value,v = sv2 ∧ M = [own sv2 9 1 r.length (fl eS r)]) := by
 unfold strings_Split at H
 split at H
 ·split at H
  ·rename_i c h
   cases H
   exact spec_split (fun s c w hs => any_split_one Tryd.lays146 (by kernel_rfl) s c w hs) a0 c h
  ·cases H
 ·cases H

theorem words_Split.spec (a0 : List UInt8) (r : List (List UInt8)) (H : words_Split a0 = some r) : FnSpec Tryd.prog 14 [str a0] [] (fun v M => ∃ sv2 : Value,v = sv2 ∧ M = [own sv2 9 1 r.length (fl eS r)]) := by
 unfold words_Split at H
 refine spec_of Tryd.func14 rfl 7 rfl (Nat.le_of_ble_eq_true rfl) fun F w0 => ?_
 show Ent (St 7 w0 F [(0,str a0)] []) _
 refine ent_seq (ent_region (ent_value (ov_assign rfl) rfl rfl rfl (ent_nil (ent_seq (ent_seq (ent_region (ent_value (ov_move rfl) rfl rfl rfl (ent_value (ov_bin rfl rfl (b_eql_str _ _)) rfl rfl rfl (ent_nil ?_)))))))))
 refine htT H (fun c4 H => ?_) fun c4 H => ?_
 ·refine ent_cond_true rfl (eq_t c4) (ent_seq (ent_region (ent_value (ov_assign rfl) rfl rfl rfl (ent_nil (ent_retc ?_)))))
  cases H
  refine ent_ownnil 9 1 ?_
  refine ent_pick [0] (by decide) rfl ?_
  exact ret_tmp rfl rfl ⟨_,rfl,rfl⟩
 refine ent_cond_false rfl (eq_f c4) (ent_skip (ent_seq (ent_region (ent_value (ov_move rfl) rfl rfl rfl ?_))))
 obtain ⟨x2,h2,H⟩ := Option.bind_eq_some_iff.1 H
 refine ent_op (ot_call (Lr := []) (first := []) (cap := []) (xs := [.tmp 5,.const (str ([32] : List UInt8))]) rfl rfl F_call_30 rfl (strings_Split.spec a0 ([32] : List UInt8) _ h2) rfl) rfl rfl rfl ?_
 rintro sv3 _ ⟨_,⟨_,rfl,rfl⟩,rfl⟩
 refine ent_value (ov_assign rfl) rfl rfl rfl (ent_nil (ent_retc ?_))
 cases H
 refine ent_pick [0] (by decide) rfl ?_
 exact ret_tmp rfl rfl ⟨_,rfl,rfl⟩

theorem words_must.spec (a0 : Bool) (r : Unit) (H : words_must a0 = some r) : FnSpec Tryd.prog 50 [bool a0] [] (fun v M => v = (tU #[]) ∧ M = []) := by
 unfold words_must at H
 refine spec_of Tryd.func50 rfl 5 rfl (Nat.le_of_ble_eq_true rfl) fun F w0 => ?_
 show Ent (St 5 w0 F [(0,bool a0)] []) _
 refine ent_seq (ent_region (ent_value (ov_move rfl) rfl rfl rfl (ent_value (ov_un rfl (u_not _)) rfl rfl rfl (ent_nil ?_))))
 refine htT H (fun c2 H => ?_) fun c2 H => ?_
 ·refine ent_cond_true rfl c2 (ent_region ?_)
  cases H
 refine ent_cond_false rfl (Bool.eq_false_iff.2 c2) (ent_skip ?_)
 cases H
 refine ret_normal ?_
 refine ent_pick [] (by decide) rfl ?_
 exact ret_none rfl ⟨rfl,rfl⟩

theorem words_reader_word_O.spec (p0 : Nat) (sv0 : Value) (l0 : List (List UInt8)) (p0_1 : Int) (r : ((List (List UInt8)) × (List UInt8))) (H : words_reader_word_O l0 p0_1 = some r) : FnSpec Tryd.prog 42 [pt p0 0] [box p0 72 [sv0,I p0_1],own sv0 9 1 l0.length (fl eS l0)] (fun v M => ∃ sv1 : Value,IsRd (own sv0 9 1 l0.length (fl eS l0)) sv1 r.1.length 1 (fl eS r.1) ∧ v = (str r.2) ∧ M = [box p0 72 [sv1,I p0_1],own sv0 9 1 l0.length (fl eS l0)]) := by
 unfold words_reader_word_O at H
 refine spec_of Tryd.func42 rfl 26 rfl (Nat.le_of_ble_eq_true rfl) fun F w0 => ?_
 show Ent (St 26 w0 F [(0,pt p0 0)] [box p0 72 [sv0,I p0_1],own sv0 9 1 l0.length (fl eS l0)]) _
 refine ent_seq (ent_region (ent_value (ov_assign rfl) rfl rfl rfl (ent_nil (ent_seq (ent_region (ent_value (ov_move rfl) rfl rfl rfl (ent_value (ov_nilCheck rfl) rfl rfl rfl (ent_value (ov_fieldAddr (sz := 0) (o := 0) rfl F_field_72_0 F_size_29) rfl rfl rfl (ent_value (ov_load (v := sv0) rfl F_agg_29 (reads_box1 (i := 0) rfl rfl)) rfl rfl rfl (ent_value (ov_len 1 rfl F_slice_29 rfl (isRd_ownx 9)) rfl rfl rfl (ent_value (ov_bin rfl rfl (b_gtr _ _ _)) rfl rfl rfl ?_)))))))))))
 obtain ⟨u4,h4,H⟩ := Option.bind_eq_some_iff.1 H
 refine ent_op (ot_call0 (first := []) (cap := []) (xs := [.tmp 9]) rfl rfl F_call_50 rfl (words_must.spec (decide (0 < (l0.length : Int))) _ h4)) rfl rfl rfl ?_
 rintro _ _ ⟨rfl,rfl⟩
 refine ent_nil (ent_seq (ent_region (ent_value (ov_move rfl) rfl rfl rfl (ent_value (ov_nilCheck rfl) rfl rfl rfl (ent_value (ov_fieldAddr (sz := 0) (o := 0) rfl F_field_72_0 F_size_29) rfl rfl rfl (ent_value (ov_load (v := sv0) rfl F_agg_29 (reads_box1 (i := 0) rfl rfl)) rfl rfl rfl ?_))))))
 obtain ⟨c6,H⟩ := gdT H
 refine ent_value (ov_indexAddr (sz := 0) 1 rfl rfl F_slice_29 F_size_9 rfl (isRd_ownx 9) (by decide) c6) rfl rfl rfl ?_
 refine ent_value (ov_load (v := (str (l0.getD ((0 : Int).toNat) []))) rfl F_agg_9 (reads_rd (i := 1) rfl (isRd_ownx 9) (by simp) (fl_read0 eS_len (ix_lt (by decide) c6) rfl))) rfl rfl rfl ?_
 refine ent_value (ov_assign rfl) rfl rfl rfl (ent_nil (ent_seq (ent_region (ent_value (ov_move rfl) rfl rfl rfl (ent_value (ov_move rfl) rfl rfl rfl (ent_value (ov_nilCheck rfl) rfl rfl rfl (ent_value (ov_fieldAddr (sz := 0) (o := 0) rfl F_field_72_0 F_size_29) rfl rfl rfl (ent_value (ov_load (v := sv0) rfl F_agg_29 (reads_box1 (i := 0) rfl rfl)) rfl rfl rfl ?_))))))))
 obtain ⟨c8,H⟩ := gdT H
 refine ent_value (ov_slice_lo 1 rfl rfl F_slice_29 F_size_9 rfl (isRd_ownx 9) (by decide) c8) rfl rfl rfl (ent_value (ov_nilCheck rfl) rfl rfl rfl (ent_value (ov_fieldAddr (sz := 0) (o := 0) rfl F_field_72_0 F_size_29) rfl rfl rfl ?_))
 refine ent_op0 (ot_storeS (cs := [sv0,I p0_1]) (cs' := [(subs sv0 (1 : Int).toNat l0.length 1),I p0_1]) (sv := (subs sv0 (1 : Int).toNat l0.length 1)) (L' := [box p0 72 [(subs sv0 (1 : Int).toNat l0.length 1),I p0_1],own sv0 9 1 l0.length (fl eS l0)]) 0 1 rfl rfl F_size_29 rfl rfl (isRd_drop eS_len (isRd_ownx 9) (nat_le (by decide) c8)) rfl (by simp) rfl) rfl rfl ?_
 rintro _ _ rfl
 refine ent_nil (ent_seq (ent_region (ent_value (ov_move rfl) rfl rfl rfl (ent_value (ov_assign rfl) rfl rfl rfl (ent_nil (ent_retc ?_))))))
 cases H
 refine ent_pick [0,1] (by decide) rfl ?_
 exact ret_tmp rfl rfl ⟨_,(isRd_drop eS_len (isRd_ownx 9) (nat_le (by decide) c8)),rfl,rfl⟩

theorem words_reader_word_R.spec (p0 : Nat) (sv0 : Value) (A0 : HP) (l0 : List (List UInt8)) (p0_1 : Int) (hA0 : IsRd A0 sv0 l0.length 1 (fl eS l0)) (r : ((List (List UInt8)) × (List UInt8))) (H : words_reader_word_R l0 p0_1 = some r) : FnSpec Tryd.prog 42 [pt p0 0] [box p0 72 [sv0,I p0_1],A0] (fun v M => ∃ sv1 : Value,IsRd A0 sv1 r.1.length 1 (fl eS r.1) ∧ v = (str r.2) ∧ M = [box p0 72 [sv1,I p0_1],A0]) := by
 unfold words_reader_word_R at H
 refine spec_of Tryd.func42 rfl 26 rfl (Nat.le_of_ble_eq_true rfl) fun F w0 => ?_
 show Ent (St 26 w0 F [(0,pt p0 0)] [box p0 72 [sv0,I p0_1],A0]) _
 refine ent_seq (ent_region (ent_value (ov_assign rfl) rfl rfl rfl (ent_nil (ent_seq (ent_region (ent_value (ov_move rfl) rfl rfl rfl (ent_value (ov_nilCheck rfl) rfl rfl rfl (ent_value (ov_fieldAddr (sz := 0) (o := 0) rfl F_field_72_0 F_size_29) rfl rfl rfl (ent_value (ov_load (v := sv0) rfl F_agg_29 (reads_box1 (i := 0) rfl rfl)) rfl rfl rfl (ent_value (ov_len 1 rfl F_slice_29 rfl hA0) rfl rfl rfl (ent_value (ov_bin rfl rfl (b_gtr _ _ _)) rfl rfl rfl ?_)))))))))))
 obtain ⟨u4,h4,H⟩ := Option.bind_eq_some_iff.1 H
 refine ent_op (ot_call0 (first := []) (cap := []) (xs := [.tmp 9]) rfl rfl F_call_50 rfl (words_must.spec (decide (0 < (l0.length : Int))) _ h4)) rfl rfl rfl ?_
 rintro _ _ ⟨rfl,rfl⟩
 refine ent_nil (ent_seq (ent_region (ent_value (ov_move rfl) rfl rfl rfl (ent_value (ov_nilCheck rfl) rfl rfl rfl (ent_value (ov_fieldAddr (sz := 0) (o := 0) rfl F_field_72_0 F_size_29) rfl rfl rfl (ent_value (ov_load (v := sv0) rfl F_agg_29 (reads_box1 (i := 0) rfl rfl)) rfl rfl rfl ?_))))))
 obtain ⟨c6,H⟩ := gdT H
 refine ent_value (ov_indexAddr (sz := 0) 1 rfl rfl F_slice_29 F_size_9 rfl hA0 (by decide) c6) rfl rfl rfl ?_
 refine ent_value (ov_load (v := (str (l0.getD ((0 : Int).toNat) []))) rfl F_agg_9 (reads_rd (i := 1) rfl hA0 (by simp) (fl_read0 eS_len (ix_lt (by decide) c6) rfl))) rfl rfl rfl ?_
 refine ent_value (ov_assign rfl) rfl rfl rfl (ent_nil (ent_seq (ent_region (ent_value (ov_move rfl) rfl rfl rfl (ent_value (ov_move rfl) rfl rfl rfl (ent_value (ov_nilCheck rfl) rfl rfl rfl (ent_value (ov_fieldAddr (sz := 0) (o := 0) rfl F_field_72_0 F_size_29) rfl rfl rfl (ent_value (ov_load (v := sv0) rfl F_agg_29 (reads_box1 (i := 0) rfl rfl)) rfl rfl rfl ?_))))))))
 obtain ⟨c8,H⟩ := gdT H
 refine ent_value (ov_slice_lo 1 rfl rfl F_slice_29 F_size_9 rfl hA0 (by decide) c8) rfl rfl rfl (ent_value (ov_nilCheck rfl) rfl rfl rfl (ent_value (ov_fieldAddr (sz := 0) (o := 0) rfl F_field_72_0 F_size_29) rfl rfl rfl ?_))
 refine ent_op0 (ot_storeS (cs := [sv0,I p0_1]) (cs' := [(subs sv0 (1 : Int).toNat l0.length 1),I p0_1]) (sv := (subs sv0 (1 : Int).toNat l0.length 1)) (L' := [box p0 72 [(subs sv0 (1 : Int).toNat l0.length 1),I p0_1],A0]) 0 1 rfl rfl F_size_29 rfl rfl (isRd_drop eS_len hA0 (nat_le (by decide) c8)) rfl (by simp) rfl) rfl rfl ?_
 rintro _ _ rfl
 refine ent_nil (ent_seq (ent_region (ent_value (ov_move rfl) rfl rfl rfl (ent_value (ov_assign rfl) rfl rfl rfl (ent_nil (ent_retc ?_))))))
 cases H
 refine ent_pick [0,1] (by decide) rfl ?_
 exact ret_tmp rfl rfl ⟨_,(isRd_drop eS_len hA0 (nat_le (by decide) c8)),rfl,rfl⟩

theorem civil_Leap.spec (a0 : Int) (r : Bool) (H : civil_Leap a0 = r) : FnSpec Tryd.prog 109 [I a0] [] (fun v M => v = (bool r) ∧ M = []) := by
 unfold civil_Leap at H
 refine spec_of Tryd.func109 rfl 16 rfl (Nat.le_of_ble_eq_true rfl) fun F w0 => ?_
 show Ent (St 16 w0 F [(0,I a0)] []) _
 refine ent_seq (ent_region (ent_value (ov_assign rfl) rfl rfl rfl (ent_nil (ent_seq (ent_region (ent_value (ov_move rfl) rfl rfl rfl ?_))))))
 refine ent_value (ov_bin rfl rfl fun w => b_rem _ _ _ w (by decide)) rfl rfl rfl ?_
 refine ent_value (ov_bin rfl rfl (b_eql _ _ _)) rfl rfl rfl (ent_value (ov_move rfl) rfl rfl rfl ?_)
 refine htF H (fun c3 H => ?_) fun c3 H => ?_
 ·refine ent_off rfl rfl rfl (eq_f c3) rfl rfl ?_
  refine ent_off rfl rfl rfl (eq_f c3) rfl rfl ?_
  refine ent_off rfl rfl rfl (eq_f c3) rfl rfl ?_
  refine ent_value (ov_pick rfl rfl rfl (pick_f (eq_f c3))) rfl rfl rfl (ent_value (ov_move rfl) rfl rfl rfl ?_)
  refine ent_value_on (ov_move rfl) rfl rfl rfl rfl rfl rfl ?_
  refine ent_value_on (ov_bin rfl rfl fun w => b_rem _ _ _ w (by decide)) rfl rfl rfl rfl rfl rfl ?_
  refine ent_value_on (ov_bin rfl rfl (b_eql _ _ _)) rfl rfl rfl rfl rfl rfl ?_
  refine ent_value (ov_pick rfl rfl rfl rfl) rfl rfl rfl (ent_value (ov_assign rfl) rfl rfl rfl (ent_nil (ent_retc ?_)))
  cases H
  refine ent_pick [] (by decide) rfl ?_
  exact ret_tmp rfl rfl ⟨rfl,rfl⟩
 refine ent_value_on (ov_move rfl) rfl rfl rfl (eq_t c3) rfl rfl ?_
 refine ent_value_on (ov_bin rfl rfl fun w => b_rem _ _ _ w (by decide)) rfl rfl rfl (eq_t c3) rfl rfl ?_
 refine ent_value_on (ov_bin rfl rfl (b_neq _ _ _)) rfl rfl rfl (eq_t c3) rfl rfl ?_
 refine ent_value (ov_pick rfl rfl rfl (pick_t (eq_t c3))) rfl rfl rfl (ent_value (ov_move rfl) rfl rfl rfl ?_)
 refine htT H (fun c4 H => ?_) fun c4 H => ?_
 ·refine ent_off rfl rfl rfl (ne_t c4) rfl rfl ?_
  refine ent_off rfl rfl rfl (ne_t c4) rfl rfl ?_
  refine ent_off rfl rfl rfl (ne_t c4) rfl rfl ?_
  refine ent_value (ov_pick rfl rfl rfl (pick_t (ne_t c4))) rfl rfl rfl (ent_value (ov_assign rfl) rfl rfl rfl (ent_nil (ent_retc ?_)))
  cases H
  refine ent_pick [] (by decide) rfl ?_
  exact ret_tmp rfl rfl ⟨rfl,rfl⟩
 refine ent_value_on (ov_move rfl) rfl rfl rfl (ne_f c4) rfl rfl ?_
 refine ent_value_on (ov_bin rfl rfl fun w => b_rem _ _ _ w (by decide)) rfl rfl rfl (ne_f c4) rfl rfl ?_
 refine ent_value_on (ov_bin rfl rfl (b_eql _ _ _)) rfl rfl rfl (ne_f c4) rfl rfl ?_
 refine ent_value (ov_pick rfl rfl rfl (pick_f (ne_f c4))) rfl rfl rfl (ent_value (ov_assign rfl) rfl rfl rfl (ent_nil (ent_retc ?_)))
 cases H
 refine ent_pick [] (by decide) rfl ?_
 exact ret_tmp rfl rfl ⟨rfl,rfl⟩

theorem civil_Length.spec (a0 a1 r : Int) (H : civil_Length a0 a1 = r) : FnSpec Tryd.prog 105 [I a0,I a1] [] (fun v M => v = (I r) ∧ M = []) := by
 unfold civil_Length at H
 refine spec_of Tryd.func105 rfl 28 rfl (Nat.le_of_ble_eq_true rfl) fun F w0 => ?_
 show Ent (St 28 w0 F [(0,I a0),(1,I a1)] []) _
 refine ent_seq (ent_region (ent_value (ov_assign rfl) rfl rfl rfl (ent_nil (ent_seq (ent_block (ent_seq (ent_region (ent_value (ov_move rfl) rfl rfl rfl (ent_value (ov_bin rfl rfl (b_lss _ _ _)) rfl rfl rfl (ent_value (ov_move rfl) rfl rfl rfl ?_))))))))))
 refine htT H (fun c13 H => ?_) fun c13 H => ?_
 ·refine ent_off rfl rfl rfl (decide_eq_true c13) rfl rfl ?_
  refine ent_off rfl rfl rfl (decide_eq_true c13) rfl rfl ?_
  refine ent_value (ov_pick rfl rfl rfl (pick_t (decide_eq_true c13))) rfl rfl rfl (ent_value (ov_assign rfl) rfl rfl rfl (ent_nil (ent_cond_true rfl rfl (ent_seq (ent_region (ent_value (ov_assign rfl) rfl rfl rfl (ent_nil (ent_retc ?_))))))))
  cases H
  refine ent_pick [] (by decide) rfl ?_
  exact ret_tmp rfl rfl ⟨rfl,rfl⟩
 refine ent_value_on (ov_move rfl) rfl rfl rfl (decide_eq_false c13) rfl rfl ?_
 refine ent_value_on (ov_bin rfl rfl (b_gtr _ _ _)) rfl rfl rfl (decide_eq_false c13) rfl rfl ?_
 refine ent_value (ov_pick rfl rfl rfl (pick_f (decide_eq_false c13))) rfl rfl rfl (ent_value (ov_assign rfl) rfl rfl rfl (ent_nil ?_))
 refine htT H (fun c14 H => ?_) fun c14 H => ?_
 ·refine ent_cond_true rfl (decide_eq_true c14) (ent_seq (ent_region (ent_value (ov_assign rfl) rfl rfl rfl (ent_nil (ent_retc ?_)))))
  cases H
  refine ent_pick [] (by decide) rfl ?_
  exact ret_tmp rfl rfl ⟨rfl,rfl⟩
 refine ent_cond_false rfl (decide_eq_false c14) (ent_seq (ent_region (ent_value (ov_move rfl) rfl rfl rfl (ent_value (ov_bin rfl rfl (b_eql _ _ _)) rfl rfl rfl (ent_value (ov_move rfl) rfl rfl rfl ?_)))))
 refine htF H (fun c15 H => ?_) fun c15 H => ?_
 ·refine ent_off rfl rfl rfl (eq_f c15) rfl rfl ?_
  refine ent_off rfl rfl rfl (eq_f c15) rfl rfl ?_
  refine ent_value (ov_pick rfl rfl rfl (pick_f (eq_f c15))) rfl rfl rfl (ent_value (ov_assign rfl) rfl rfl rfl (ent_nil (ent_cond_false rfl rfl (ent_seq (ent_region (ent_value (ov_move rfl) rfl rfl rfl (ent_value (ov_bin rfl rfl (b_eql _ _ _)) rfl rfl rfl (ent_value (ov_assign rfl) rfl rfl rfl (ent_nil (ent_cond_false rfl (eq_f c15) (ent_skip ?_)))))))))))
  refine ent_seq (ent_region (ent_value (ov_move rfl) rfl rfl rfl (ent_value (ov_move rfl) rfl rfl rfl ?_)))
  refine ent_value (ov_bin rfl rfl fun w => b_shr _ _ _ _ w (by decide)) rfl rfl rfl ?_
  refine ent_value (ov_bin rfl rfl (b_add _ _ _) ) rfl rfl rfl (ent_value (ov_bin rfl rfl (b_and _ _ _)) rfl rfl rfl (ent_value (ov_bin rfl rfl (b_add _ _ _) ) rfl rfl rfl (ent_value (ov_assign rfl) rfl rfl rfl (ent_nil (ent_retc ?_)))))
  cases H
  refine ent_pick [] (by decide) rfl ?_
  exact ret_tmp rfl rfl ⟨rfl,rfl⟩
 refine ent_value_on (ov_move rfl) rfl rfl rfl (eq_t c15) rfl rfl ?_
 obtain ⟨x4,h4,H⟩ := thn_elim H
 refine ent_op_on (ot_call0 (first := []) (cap := []) (xs := [.tmp 16]) rfl rfl F_call_109 rfl (civil_Leap.spec a0 _ h4)) rfl rfl rfl (eq_t c15) rfl rfl ?_
 rintro _ _ ⟨rfl,rfl⟩
 refine ent_value (ov_pick rfl rfl rfl (pick_t (eq_t c15))) rfl rfl rfl (ent_value (ov_assign rfl) rfl rfl rfl (ent_nil ?_))
 refine htT H (fun c16 H => ?_) fun c16 H => ?_
 ·refine ent_cond_true rfl c16 (ent_seq (ent_region (ent_value (ov_assign rfl) rfl rfl rfl (ent_nil (ent_retc ?_)))))
  cases H
  refine ent_pick [] (by decide) rfl ?_
  exact ret_tmp rfl rfl ⟨rfl,rfl⟩
 refine ent_cond_false rfl (Bool.eq_false_iff.2 c16) (ent_seq (ent_region (ent_value (ov_move rfl) rfl rfl rfl (ent_value (ov_bin rfl rfl (b_eql _ _ _)) rfl rfl rfl (ent_value (ov_assign rfl) rfl rfl rfl (ent_nil (ent_cond_true rfl (eq_t c15) (ent_seq (ent_region (ent_value (ov_assign rfl) rfl rfl rfl (ent_nil ?_)))))))))))
 refine ent_retc ?_
 cases H
 refine ent_pick [] (by decide) rfl ?_
 exact ret_tmp rfl rfl ⟨rfl,rfl⟩

theorem civil_number.spec (a0 a1 : Int) (a2 r : Int) (H : civil_number a0 a1 a2 = r) : FnSpec Tryd.prog 106 [I a0,I a1,I a2] [] (fun v M => v = (I r) ∧ M = []) := by
 unfold civil_number at H
 refine spec_of Tryd.func106 rfl 42 rfl (Nat.le_of_ble_eq_true rfl) fun F w0 => ?_
 show Ent (St 42 w0 F [(0,I a0),(1,I a1),(2,I a2)] []) _
 refine ent_seq (ent_region (ent_value (ov_assign rfl) rfl rfl rfl (ent_nil (ent_seq (ent_region (ent_value (ov_move rfl) rfl rfl rfl (ent_value (ov_bin rfl rfl (b_sub _ _ _) ) rfl rfl rfl (ent_value (ov_assign rfl) rfl rfl rfl (ent_nil ?_)))))))))
 obtain ⟨x2,H2,H⟩ := thn_elim H
 refine ent_seq_cut (fun a w => St 42 w0 F [(0,I x2.1),(2,I a2),(7,I x2.2)] [] a w) ?_ ?_
 ·refine ent_seq (ent_region (ent_value (ov_move rfl) rfl rfl rfl (ent_value (ov_bin rfl rfl (b_lss _ _ _)) rfl rfl rfl (ent_nil ?_))))
  refine htF H2 (fun c4 H2 => ?_) fun c4 H2 => ?_
  ·refine ent_cond_false rfl (decide_eq_false c4) (ent_skip ?_)
   cases H2
   exact ent_fin [] (by decide) rfl (sub_cons (t := 0) rfl (sub_cons (t := 2) rfl (sub_cons (t := 7) rfl (sub_nil _)))) fun a w h => h
  refine ent_cond_true rfl (decide_eq_true c4) (ent_seq (ent_region (ent_value (ov_move rfl) rfl rfl rfl (ent_value (ov_bin rfl rfl (b_add _ _ _) ) rfl rfl rfl (ent_value (ov_assign rfl) rfl rfl rfl (ent_nil (ent_region (ent_value (ov_move rfl) rfl rfl rfl (ent_value (ov_bin rfl rfl (b_sub _ _ _) ) rfl rfl rfl (ent_value (ov_assign rfl) rfl rfl rfl (ent_nil ?_)))))))))))
  cases H2
  exact ent_fin [] (by decide) rfl (sub_cons (t := 0) rfl (sub_cons (t := 2) rfl (sub_cons (t := 7) rfl (sub_nil _)))) fun a w h => h
 ·refine ent_seq (ent_region (ent_value (ov_move rfl) rfl rfl rfl ?_))
  refine ent_value (ov_bin rfl rfl fun w => b_rem _ _ _ w (by decide)) rfl rfl rfl ?_
  refine ent_value (ov_assign rfl) rfl rfl rfl (ent_nil (ent_seq (ent_region (ent_value (ov_move rfl) rfl rfl rfl (ent_value (ov_bin rfl rfl (b_mul _ _ _) ) rfl rfl rfl (ent_value (ov_move rfl) rfl rfl rfl ?_))))))
  refine ent_value (ov_bin rfl rfl fun w => b_quo _ _ _ w (by decide)) rfl rfl rfl ?_
  refine ent_value (ov_bin rfl rfl (b_add _ _ _) ) rfl rfl rfl (ent_value (ov_move rfl) rfl rfl rfl ?_)
  refine ent_value (ov_bin rfl rfl fun w => b_quo _ _ _ w (by decide)) rfl rfl rfl ?_
  refine ent_value (ov_bin rfl rfl (b_sub _ _ _) ) rfl rfl rfl (ent_value (ov_move rfl) rfl rfl rfl (ent_value (ov_bin rfl rfl (b_mul _ _ _) ) rfl rfl rfl (ent_value (ov_bin rfl rfl (b_add _ _ _) ) rfl rfl rfl ?_)))
  refine ent_value (ov_bin rfl rfl fun w => b_quo _ _ _ w (by decide)) rfl rfl rfl ?_
  refine ent_value (ov_bin rfl rfl (b_add _ _ _) ) rfl rfl rfl (ent_value (ov_move rfl) rfl rfl rfl (ent_value (ov_bin rfl rfl (b_add _ _ _) ) rfl rfl rfl (ent_value (ov_bin rfl rfl (b_sub _ _ _) ) rfl rfl rfl (ent_value (ov_assign rfl) rfl rfl rfl (ent_nil (ent_seq (ent_region (ent_value (ov_move rfl) rfl rfl rfl ?_))))))))
  refine ent_value (ov_bin rfl rfl fun w => b_quo _ _ _ w (by decide)) rfl rfl rfl ?_
  refine ent_value (ov_bin rfl rfl (b_mul _ _ _) ) rfl rfl rfl (ent_value (ov_move rfl) rfl rfl rfl (ent_value (ov_bin rfl rfl (b_add _ _ _) ) rfl rfl rfl (ent_value (ov_bin rfl rfl (b_sub _ _ _) ) rfl rfl rfl (ent_value (ov_assign rfl) rfl rfl rfl (ent_nil (ent_retc ?_))))))
  cases H
  refine ent_pick [] (by decide) rfl ?_
  exact ret_tmp rfl rfl ⟨rfl,rfl⟩

theorem civil_Number.spec (a0 a1 a2 : Int) (r : (Int × Bool)) (H : civil_Number a0 a1 a2 = r) : FnSpec Tryd.prog 85 [I a0,I a1,I a2] [] (fun v M => v = (tU #[I r.1,bool r.2]) ∧ M = []) := by
 unfold civil_Number at H
 refine spec_of Tryd.func85 rfl 29 rfl (Nat.le_of_ble_eq_true rfl) fun F w0 => ?_
 show Ent (St 29 w0 F [(0,I a0),(1,I a1),(2,I a2)] []) _
 refine ent_seq (ent_region (ent_value (ov_assign rfl) rfl rfl rfl (ent_value (ov_assign rfl) rfl rfl rfl (ent_nil (ent_seq (ent_seq (ent_region (ent_value (ov_move rfl) rfl rfl rfl (ent_value (ov_bin rfl rfl (b_lss _ _ _)) rfl rfl rfl (ent_value (ov_move rfl) rfl rfl rfl ?_))))))))))
 refine htT H (fun c13 H => ?_) fun c13 H => ?_
 ·refine ent_off rfl rfl rfl (decide_eq_true c13) rfl rfl ?_
  refine ent_off rfl rfl rfl (decide_eq_true c13) rfl rfl ?_
  refine ent_value (ov_pick rfl rfl rfl (pick_t (decide_eq_true c13))) rfl rfl rfl (ent_value (ov_move rfl) rfl rfl rfl ?_)
  refine ent_off rfl rfl rfl rfl rfl rfl ?_
  refine ent_off rfl rfl rfl rfl rfl rfl ?_
  refine ent_value (ov_pick rfl rfl rfl rfl) rfl rfl rfl (ent_value (ov_move rfl) rfl rfl rfl ?_)
  refine ent_off rfl rfl rfl rfl rfl rfl ?_
  refine ent_off rfl rfl rfl rfl rfl rfl ?_
  refine ent_off rfl rfl rfl rfl rfl rfl ?_
  refine ent_off rfl rfl rfl rfl rfl rfl ?_
  refine ent_off rfl rfl rfl rfl rfl rfl ?_
  refine ent_value (ov_pick rfl rfl rfl rfl) rfl rfl rfl (ent_nil (ent_cond_true rfl rfl (ent_seq (ent_region (ent_value (ov_assign rfl) rfl rfl rfl (ent_value (ov_assign rfl) rfl rfl rfl (ent_nil (ent_retc ?_))))))))
  cases H
  refine ent_pick [] (by decide) rfl ?_
  exact ret_mem (vs := [I 0,B0]) rfl ⟨rfl,⟨rfl,trivial⟩⟩ _ rfl ⟨rfl,rfl⟩
 refine ent_value_on (ov_move rfl) rfl rfl rfl (decide_eq_false c13) rfl rfl ?_
 refine ent_value_on (ov_bin rfl rfl (b_gtr _ _ _)) rfl rfl rfl (decide_eq_false c13) rfl rfl ?_
 refine ent_value (ov_pick rfl rfl rfl (pick_f (decide_eq_false c13))) rfl rfl rfl (ent_value (ov_move rfl) rfl rfl rfl ?_)
 refine htT H (fun c14 H => ?_) fun c14 H => ?_
 ·refine ent_off rfl rfl rfl (decide_eq_true c14) rfl rfl ?_
  refine ent_off rfl rfl rfl (decide_eq_true c14) rfl rfl ?_
  refine ent_value (ov_pick rfl rfl rfl (pick_t (decide_eq_true c14))) rfl rfl rfl (ent_value (ov_move rfl) rfl rfl rfl ?_)
  refine ent_off rfl rfl rfl rfl rfl rfl ?_
  refine ent_off rfl rfl rfl rfl rfl rfl ?_
  refine ent_off rfl rfl rfl rfl rfl rfl ?_
  refine ent_off rfl rfl rfl rfl rfl rfl ?_
  refine ent_off rfl rfl rfl rfl rfl rfl ?_
  refine ent_value (ov_pick rfl rfl rfl rfl) rfl rfl rfl (ent_nil (ent_cond_true rfl rfl (ent_seq (ent_region (ent_value (ov_assign rfl) rfl rfl rfl (ent_value (ov_assign rfl) rfl rfl rfl (ent_nil (ent_retc ?_))))))))
  cases H
  refine ent_pick [] (by decide) rfl ?_
  exact ret_mem (vs := [I 0,B0]) rfl ⟨rfl,⟨rfl,trivial⟩⟩ _ rfl ⟨rfl,rfl⟩
 refine ent_value_on (ov_move rfl) rfl rfl rfl (decide_eq_false c14) rfl rfl ?_
 refine ent_value_on (ov_bin rfl rfl (b_lss _ _ _)) rfl rfl rfl (decide_eq_false c14) rfl rfl ?_
 refine ent_value (ov_pick rfl rfl rfl (pick_f (decide_eq_false c14))) rfl rfl rfl (ent_value (ov_move rfl) rfl rfl rfl ?_)
 refine htT H (fun c15 H => ?_) fun c15 H => ?_
 ·refine ent_off rfl rfl rfl (decide_eq_true c15) rfl rfl ?_
  refine ent_off rfl rfl rfl (decide_eq_true c15) rfl rfl ?_
  refine ent_off rfl rfl rfl (decide_eq_true c15) rfl rfl ?_
  refine ent_off rfl rfl rfl (decide_eq_true c15) rfl rfl ?_
  refine ent_off rfl rfl rfl (decide_eq_true c15) rfl rfl ?_
  refine ent_value (ov_pick rfl rfl rfl (pick_t (decide_eq_true c15))) rfl rfl rfl (ent_nil (ent_cond_true rfl rfl (ent_seq (ent_region (ent_value (ov_assign rfl) rfl rfl rfl (ent_value (ov_assign rfl) rfl rfl rfl (ent_nil (ent_retc ?_))))))))
  cases H
  refine ent_pick [] (by decide) rfl ?_
  exact ret_mem (vs := [I 0,B0]) rfl ⟨rfl,⟨rfl,trivial⟩⟩ _ rfl ⟨rfl,rfl⟩
 refine ent_value_on (ov_move rfl) rfl rfl rfl (decide_eq_false c15) rfl rfl ?_
 refine ent_value_on (ov_move rfl) rfl rfl rfl (decide_eq_false c15) rfl rfl ?_
 refine ent_value_on (ov_move rfl) rfl rfl rfl (decide_eq_false c15) rfl rfl ?_
 obtain ⟨x5,h5,H⟩ := thn_elim H
 refine ent_op_on (ot_call0 (first := []) (cap := []) (xs := [.tmp 20,.tmp 21]) rfl rfl F_call_105 rfl (civil_Length.spec a0 a1 _ h5)) rfl rfl rfl (decide_eq_false c15) rfl rfl ?_
 rintro _ _ ⟨rfl,rfl⟩
 refine ent_value_on (ov_bin rfl rfl (b_gtr _ _ _)) rfl rfl rfl (decide_eq_false c15) rfl rfl ?_
 refine ent_value (ov_pick rfl rfl rfl (pick_f (decide_eq_false c15))) rfl rfl rfl (ent_nil ?_)
 refine htT H (fun c16 H => ?_) fun c16 H => ?_
 ·refine ent_cond_true rfl (decide_eq_true c16) (ent_seq (ent_region (ent_value (ov_assign rfl) rfl rfl rfl (ent_value (ov_assign rfl) rfl rfl rfl (ent_nil (ent_retc ?_))))))
  cases H
  refine ent_pick [] (by decide) rfl ?_
  exact ret_mem (vs := [I 0,B0]) rfl ⟨rfl,⟨rfl,trivial⟩⟩ _ rfl ⟨rfl,rfl⟩
 refine ent_cond_false rfl (decide_eq_false c16) (ent_skip (ent_seq (ent_region (ent_value (ov_move rfl) rfl rfl rfl (ent_value (ov_move rfl) rfl rfl rfl (ent_value (ov_move rfl) rfl rfl rfl ?_))))))
 obtain ⟨x6,h6,H⟩ := thn_elim H
 refine ent_op (ot_call0 (first := []) (cap := []) (xs := [.tmp 25,.tmp 26,.tmp 27]) rfl rfl F_call_106 rfl (civil_number.spec a0 a1 a2 _ h6)) rfl rfl rfl ?_
 rintro _ _ ⟨rfl,rfl⟩
 refine ent_value (ov_assign rfl) rfl rfl rfl (ent_value (ov_assign rfl) rfl rfl rfl (ent_nil (ent_retc ?_)))
 cases H
 refine ent_pick [] (by decide) rfl ?_
 exact ret_mem (vs := [I x6,bool true]) rfl ⟨rfl,⟨rfl,trivial⟩⟩ _ rfl ⟨rfl,rfl⟩

theorem civil_Parse.spec (K : Nat) (a0 : List UInt8) (r : (Int × Bool)) (H : civil_Parse K a0 = some r) : FnSpec Tryd.prog 69 [str a0] [] (fun v M => v = (tU #[I r.1,bool r.2]) ∧ M = []) := by
 unfold civil_Parse at H
 refine spec_of Tryd.func69 rfl 75 rfl (Nat.le_of_ble_eq_true rfl) fun F w0 => ?_
 show Ent (St 75 w0 F [(0,str a0)] []) _
 refine ent_seq (ent_region (ent_value (ov_assign rfl) rfl rfl rfl (ent_value (ov_assign rfl) rfl rfl rfl (ent_nil (ent_scope (ent_seq (ent_seq (ent_region (ent_value (ov_move rfl) rfl rfl rfl (ent_value (ov_lenS rfl Tryd.underlying9) rfl rfl rfl (ent_value (ov_bin rfl rfl (b_neq _ _ _)) rfl rfl rfl ?_)))))))))))
 refine ent_nil ?_
 refine htT H (fun c264 H => ?_) fun c264 H => ?_
 ·refine ent_cond_true rfl (ne_t c264) (ent_seq (ent_region (ent_value (ov_assign rfl) rfl rfl rfl (ent_value (ov_assign rfl) rfl rfl rfl (ent_nil (ent_retc ?_))))))
  cases H
  refine ent_pick [] (by decide) rfl ?_
  exact ret_mem (vs := [I 0,B0]) rfl ⟨rfl,⟨rfl,trivial⟩⟩ _ rfl ⟨rfl,rfl⟩
 refine ent_cond_false rfl (ne_f c264) (ent_skip (ent_seq (ent_region ?_)))
 refine ent_op (ot_alloc F_zero_120) rfl rfl rfl ?_
 rintro _ _ ⟨b3,rfl,rfl⟩
 refine ent_nil (ent_seq (ent_region (ent_value (ov_assign rfl) rfl rfl rfl (ent_nil (ent_seq (ent_label ?_))))))
 obtain ⟨x3,H8,H⟩ := Option.bind_eq_some_iff.1 H
 refine ent_seq_cut (fun a w => ∃ v2,x3 = Sum.inl v2 ∧ ∃ b4 : Nat,St 75 w0 F [(4,pt b4 0)] [box b4 120 [I v2.1,I v2.2.1,I v2.2.2.1,I v2.2.2.2]] a w) ?_ ?_
 ·refine ent_seq (ent_region (ent_value (ov_move rfl) rfl rfl rfl ?_))
  obtain ⟨c390,H8⟩ := gdT H8
  refine ent_op (ot_s2b rfl Tryd.underlying9 F_slice_56 Tryd.underlying5 c390) rfl rfl rfl ?_
  rintro sv4 _ rfl
  refine ent_value (ov_len 0 rfl F_slice_56 rfl (isRd_frzx 5)) rfl rfl rfl (ent_value (ov_move rfl) rfl rfl rfl (ent_nil (ent_block ?_)))
  refine ent_loop (fun k a w => ∃ i30,∃ i31,∃ i33,∃ i34,∃ i35,∃ i36,civil_Parse_l0 K a0 k i30 i31 i33 i34 i35 i36 = some x3 ∧ St 75 w0 F [(4,pt b3 0),(5,I i30),(15,sv4),(16,I ((byts a0).length : Int)),(17,I i31)] [box b3 120 [I i33,I i34,I i35,I i36],(frz sv4 5 (byts a0).length (fl (eI .u8) (byts a0)))] a w) K ?_ ?_
  ·exact ent_fin [1,0] (by decide) rfl (sub_cons (t := 4) rfl (sub_cons (t := 5) rfl (sub_cons (t := 15) rfl (sub_cons (t := 16) rfl (sub_cons (t := 17) rfl (sub_nil _)))))) fun a w h => ⟨_,_,_,_,_,_,H8,h⟩
  ·refine fun k => ent_exi fun i30 => ent_exi fun i31 => ent_exi fun i33 => ent_exi fun i34 => ent_exi fun i35 => ent_exi fun i36 => ent_and fun H9 => ?_
   cases k with
   | zero => exact absurd H9 (by simp [civil_Parse_l0])
   | succ k =>
    rw [civil_Parse_l0] at H9
    refine ent_seq (ent_region (ent_value (ov_bin rfl rfl (b_lss _ _ _)) rfl rfl rfl (ent_nil (ent_seq ?_))))
    refine htF H9 (fun c484 H9 => ?_) fun c484 H9 => ?_
    ·refine ent_cond_false rfl (decide_eq_false c484) (ent_exit ?_)
     cases H9
     exact ent_fin [0] (by decide) rfl (sub_cons (t := 4) rfl (sub_nil _)) fun a w h => ⟨_,rfl,_,h⟩
    refine ent_cond_true rfl (decide_eq_true c484) (ent_skip (ent_seq (ent_block (ent_seq (ent_region (ent_value (ov_move rfl) rfl rfl rfl ?_))))))
    obtain ⟨c500,H9⟩ := gdT H9
    refine ent_value (ov_indexAddr (sz := 0) 1 rfl rfl F_slice_56 F_size_5 rfl (isRd_frzx 5) c500 c484) rfl rfl rfl ?_
    refine ent_value (ov_load (v := (int .u8 ((byts a0).getD i31.toNat 0))) rfl F_agg_5 (reads_rd (i := 1) rfl (isRd_frzx 5) (by simp) (fl_read0 (eI_len _) (ix_lt c500 c484) rfl))) rfl rfl rfl ?_
    refine ent_value (ov_assign rfl) rfl rfl rfl (ent_value (ov_assign rfl) rfl rfl rfl (ent_nil (ent_seq (ent_seq (ent_region (ent_value (ov_move rfl) rfl rfl rfl ?_))))))
    obtain ⟨c505,H9⟩ := gdT H9
    refine ent_value (ov_indexS rfl rfl Tryd.underlying9 c500 c505) rfl rfl rfl (ent_value (ov_bin rfl rfl (b_neq _ _ _)) rfl rfl rfl (ent_nil ?_))
    refine htT H9 (fun c506 H9 => ?_) fun c506 H9 => ?_
    ·refine ent_cond_true rfl (ne_t c506) (ent_seq (ent_seq (ent_region (ent_value (ov_move rfl) rfl rfl rfl (ent_value (ov_move rfl) rfl rfl rfl (ent_value (ov_indexS rfl rfl Tryd.underlying9 c500 c505) rfl rfl rfl (ent_value (ov_bin rfl rfl (b_neq _ _ _)) rfl rfl rfl (ent_nil ?_))))))))
     refine htT H9 (fun c508 H9 => ?_) fun c508 H9 => ?_
     ·refine ent_cond_true rfl (ne_t c508) (ent_seq (ent_region (ent_value (ov_assign rfl) rfl rfl rfl (ent_value (ov_assign rfl) rfl rfl rfl (ent_nil (ent_retc ?_))))))
      cases H9
      have H10 := Option.some.inj (show some _ = some _ from H)
      cases H10
      refine ent_pick [] (by decide) rfl ?_
      exact ret_mem (vs := [I 0,B0]) rfl ⟨rfl,⟨rfl,trivial⟩⟩ _ rfl ⟨rfl,rfl⟩
     refine ent_cond_false rfl (ne_f c508) (ent_skip (ent_seq (ent_region (ent_value (ov_move rfl) rfl rfl rfl (ent_value (ov_bin rfl rfl (b_add _ _ _) ) rfl rfl rfl (ent_value (ov_assign rfl) rfl rfl rfl (ent_nil (ent_exit (ent_region (ent_value (ov_bin rfl rfl (b_add _ _ _) ) rfl rfl rfl (ent_value (ov_move rfl) rfl rfl rfl ?_)))))))))))
     refine ent_nil ?_
     exact ent_fin [0,1] (by decide) rfl (sub_cons (t := 4) rfl (sub_cons (t := 5) rfl (sub_cons (t := 15) rfl (sub_cons (t := 16) rfl (sub_cons (t := 17) rfl (sub_nil _)))))) fun a w h => ⟨k,Nat.lt_succ_self k,_,_,_,_,_,_,H9,h⟩
    refine ent_cond_false rfl (ne_f c506) (ent_skip (ent_seq (ent_seq (ent_region (ent_value (ov_move rfl) rfl rfl rfl (ent_value (ov_bin rfl rfl (b_lss _ _ _)) rfl rfl rfl (ent_value (ov_move rfl) rfl rfl rfl ?_)))))))
    refine htT H9 (fun c511 H9 => ?_) fun c511 H9 => ?_
    ·refine ent_off rfl rfl rfl (decide_eq_true c511) rfl rfl ?_
     refine ent_off rfl rfl rfl (decide_eq_true c511) rfl rfl ?_
     refine ent_value (ov_pick rfl rfl rfl (pick_t (decide_eq_true c511))) rfl rfl rfl (ent_nil (ent_cond_true rfl rfl (ent_seq (ent_region (ent_value (ov_assign rfl) rfl rfl rfl (ent_value (ov_assign rfl) rfl rfl rfl (ent_nil (ent_retc ?_))))))))
     cases H9
     have H11 := Option.some.inj (show some _ = some _ from H)
     cases H11
     refine ent_pick [] (by decide) rfl ?_
     exact ret_mem (vs := [I 0,B0]) rfl ⟨rfl,⟨rfl,trivial⟩⟩ _ rfl ⟨rfl,rfl⟩
    refine ent_value_on (ov_move rfl) rfl rfl rfl (decide_eq_false c511) rfl rfl ?_
    refine ent_value_on (ov_bin rfl rfl (b_gtr _ _ _)) rfl rfl rfl (decide_eq_false c511) rfl rfl ?_
    refine ent_value (ov_pick rfl rfl rfl (pick_f (decide_eq_false c511))) rfl rfl rfl (ent_nil ?_)
    refine htT H9 (fun c512 H9 => ?_) fun c512 H9 => ?_
    ·refine ent_cond_true rfl (decide_eq_true c512) (ent_seq (ent_region (ent_value (ov_assign rfl) rfl rfl rfl (ent_value (ov_assign rfl) rfl rfl rfl (ent_nil (ent_retc ?_))))))
     cases H9
     have H12 := Option.some.inj (show some _ = some _ from H)
     cases H12
     refine ent_pick [] (by decide) rfl ?_
     exact ret_mem (vs := [I 0,B0]) rfl ⟨rfl,⟨rfl,trivial⟩⟩ _ rfl ⟨rfl,rfl⟩
    refine ent_cond_false rfl (decide_eq_false c512) (ent_skip (ent_region (ent_value (ov_move rfl) rfl rfl rfl (ent_value (ov_move rfl) rfl rfl rfl ?_))))
    obtain ⟨c513,H9⟩ := gdT H9
    obtain ⟨c514,H9⟩ := gdT H9
    refine ent_value (ov_indexArr (o := 0) rfl rfl F_array_120 F_size_2 c513 c514) rfl rfl rfl (ent_value (ov_load (v := (I ([i33,i34,i35,i36].getD i30.toNat 0))) rfl F_agg_2 (reads_boxA (i := 0) (enc := (eI .i64)) (z := 0) (xs := [i33,i34,i35,i36]) rfl (eI_len _) rfl (ix_lt c513 c514))) rfl rfl rfl (ent_value (ov_bin rfl rfl (b_mul _ _ _) ) rfl rfl rfl (ent_value (ov_move rfl) rfl rfl rfl (ent_value (ov_bin rfl rfl (b_sub _ _ _) ) rfl rfl rfl (ent_value (ov_convert rfl (c_int Tryd.underlying5 Tryd.underlying2)) rfl rfl rfl (ent_value (ov_bin rfl rfl (b_add _ _ _) ) rfl rfl rfl (ent_value (ov_indexArr (o := 0) rfl rfl F_array_120 F_size_2 c513 c514) rfl rfl rfl ?_)))))))
    refine ent_op0 (ot_store (cs := [I i33,I i34,I i35,I i36]) (cs' := [I (if i30.toNat = 0 then w64 ((w64 (([i33,i34,i35,i36].getD i30.toNat 0) * 10)) + (w64 (wu8 (((byts a0).getD i31.toNat 0) - 48)))) else i33),I (if i30.toNat = 1 then w64 ((w64 (([i33,i34,i35,i36].getD i30.toNat 0) * 10)) + (w64 (wu8 (((byts a0).getD i31.toNat 0) - 48)))) else i34),I (if i30.toNat = 2 then w64 ((w64 (([i33,i34,i35,i36].getD i30.toNat 0) * 10)) + (w64 (wu8 (((byts a0).getD i31.toNat 0) - 48)))) else i35),I (if i30.toNat = 3 then w64 ((w64 (([i33,i34,i35,i36].getD i30.toNat 0) * 10)) + (w64 (wu8 (((byts a0).getD i31.toNat 0) - 48)))) else i36)]) (us := [I (w64 ((w64 (([i33,i34,i35,i36].getD i30.toNat 0) * 10)) + (w64 (wu8 (((byts a0).getD i31.toNat 0) - 48)))))]) (L' := [box b3 120 [I (if i30.toNat = 0 then w64 ((w64 (([i33,i34,i35,i36].getD i30.toNat 0) * 10)) + (w64 (wu8 (((byts a0).getD i31.toNat 0) - 48)))) else i33),I (if i30.toNat = 1 then w64 ((w64 (([i33,i34,i35,i36].getD i30.toNat 0) * 10)) + (w64 (wu8 (((byts a0).getD i31.toNat 0) - 48)))) else i34),I (if i30.toNat = 2 then w64 ((w64 (([i33,i34,i35,i36].getD i30.toNat 0) * 10)) + (w64 (wu8 (((byts a0).getD i31.toNat 0) - 48)))) else i35),I (if i30.toNat = 3 then w64 ((w64 (([i33,i34,i35,i36].getD i30.toNat 0) * 10)) + (w64 (wu8 (((byts a0).getD i31.toNat 0) - 48)))) else i36)],(frz sv4 5 (byts a0).length (fl (eI .u8) (byts a0)))]) 0 rfl rfl rfl (all_one rfl) F_size_2 rfl (cases4 (fun i_ => List.take (0 + i_ * 1) [I i33,I i34,I i35,I i36] ++ [I (w64 ((w64 (([i33,i34,i35,i36].getD i30.toNat 0) * 10)) + (w64 (wu8 (((byts a0).getD i31.toNat 0) - 48)))))] ++ List.drop (0 + i_ * 1 + List.length [I (w64 ((w64 (([i33,i34,i35,i36].getD i30.toNat 0) * 10)) + (w64 (wu8 (((byts a0).getD i31.toNat 0) - 48)))))]) [I i33,I i34,I i35,I i36] = [I (if i_ = 0 then w64 ((w64 (([i33,i34,i35,i36].getD i30.toNat 0) * 10)) + (w64 (wu8 (((byts a0).getD i31.toNat 0) - 48)))) else i33),I (if i_ = 1 then w64 ((w64 (([i33,i34,i35,i36].getD i30.toNat 0) * 10)) + (w64 (wu8 (((byts a0).getD i31.toNat 0) - 48)))) else i34),I (if i_ = 2 then w64 ((w64 (([i33,i34,i35,i36].getD i30.toNat 0) * 10)) + (w64 (wu8 (((byts a0).getD i31.toNat 0) - 48)))) else i35),I (if i_ = 3 then w64 ((w64 (([i33,i34,i35,i36].getD i30.toNat 0) * 10)) + (w64 (wu8 (((byts a0).getD i31.toNat 0) - 48)))) else i36)]) (ix_lt c513 c514) rfl rfl rfl rfl) (cases4 (fun i_ => 0 + i_ * 1 + List.length [I (w64 ((w64 (([i33,i34,i35,i36].getD i30.toNat 0) * 10)) + (w64 (wu8 (((byts a0).getD i31.toNat 0) - 48)))))] ≤ List.length [I i33,I i34,I i35,I i36]) (ix_lt c513 c514) (Nat.le_of_ble_eq_true rfl) (Nat.le_of_ble_eq_true rfl) (Nat.le_of_ble_eq_true rfl) (Nat.le_of_ble_eq_true rfl)) rfl) rfl rfl ?_
    rintro _ _ rfl
    refine ent_nil (ent_region (ent_value (ov_bin rfl rfl (b_add _ _ _) ) rfl rfl rfl (ent_value (ov_move rfl) rfl rfl rfl (ent_nil ?_))))
    exact ent_fin [0,1] (by decide) rfl (sub_cons (t := 4) rfl (sub_cons (t := 5) rfl (sub_cons (t := 15) rfl (sub_cons (t := 16) rfl (sub_cons (t := 17) rfl (sub_nil _)))))) fun a w h => ⟨k,Nat.lt_succ_self k,_,_,_,_,_,_,H9,h⟩
 ·refine ent_exi fun v2 => ent_and fun e_ => ?_
  subst e_
  rw [cas_inl] at H
  refine ent_exi fun b4 => ?_
  refine ent_seq (ent_region ?_)
  obtain ⟨c515,H⟩ := gdT H
  refine ent_value (ov_indexArr (o := 0) rfl rfl F_array_120 F_size_2 (by decide) c515) rfl rfl rfl (ent_value (ov_load (v := (I v2.1)) rfl F_agg_2 (reads_box1 (i := 0) rfl rfl)) rfl rfl rfl ?_)
  obtain ⟨c516,H⟩ := gdT H
  refine ent_value (ov_indexArr (o := 0) rfl rfl F_array_120 F_size_2 (by decide) c516) rfl rfl rfl (ent_value (ov_load (v := (I v2.2.1)) rfl F_agg_2 (reads_box1 (i := 0) rfl rfl)) rfl rfl rfl ?_)
  obtain ⟨c517,H⟩ := gdT H
  refine ent_value (ov_indexArr (o := 0) rfl rfl F_array_120 F_size_2 (by decide) c517) rfl rfl rfl (ent_value (ov_load (v := (I v2.2.2.1)) rfl F_agg_2 (reads_box1 (i := 0) rfl rfl)) rfl rfl rfl ?_)
  obtain ⟨x4,h2,H⟩ := thn_elim H
  refine ent_op (ot_call0 (first := []) (cap := []) (xs := [.tmp 50,.tmp 52,.tmp 54]) rfl rfl F_call_85 rfl (civil_Number.spec v2.1 v2.2.1 v2.2.2.1 _ h2)) rfl rfl rfl ?_
  rintro _ _ ⟨rfl,rfl⟩
  refine ent_value (ov_move rfl) rfl rfl rfl (ent_value (ov_extract rfl rfl) rfl rfl rfl (ent_value (ov_extract rfl rfl) rfl rfl rfl (ent_value (ov_assign rfl) rfl rfl rfl (ent_value (ov_assign rfl) rfl rfl rfl (ent_nil (ent_seq (ent_region (ent_value (ov_move rfl) rfl rfl rfl (ent_value (ov_bin rfl rfl (b_mul _ _ _) ) rfl rfl rfl ?_)))))))))
  obtain ⟨c518,H⟩ := gdT H
  refine ent_value (ov_indexArr (o := 0) rfl rfl F_array_120 F_size_2 (by decide) c518) rfl rfl rfl (ent_value (ov_load (v := (I v2.2.2.2)) rfl F_agg_2 (reads_box1 (i := 0) rfl rfl)) rfl rfl rfl (ent_value (ov_bin rfl rfl (b_add _ _ _) ) rfl rfl rfl (ent_value (ov_assign rfl) rfl rfl rfl (ent_nil (ent_seq (ent_seq (ent_region (ent_value (ov_move rfl) rfl rfl rfl (ent_value (ov_un rfl (u_not _)) rfl rfl rfl (ent_value (ov_move rfl) rfl rfl rfl ?_))))))))))
  refine htT H (fun c522 H => ?_) fun c522 H => ?_
  ·refine ent_off rfl rfl rfl c522 rfl rfl ?_
   refine ent_off rfl rfl rfl c522 rfl rfl ?_
   refine ent_off rfl rfl rfl c522 rfl rfl ?_
   refine ent_value (ov_pick rfl rfl rfl (pick_t c522)) rfl rfl rfl (ent_value (ov_move rfl) rfl rfl rfl ?_)
   refine ent_off rfl rfl rfl rfl rfl rfl ?_
   refine ent_off rfl rfl rfl rfl rfl rfl ?_
   refine ent_value (ov_pick rfl rfl rfl rfl) rfl rfl rfl (ent_nil (ent_cond_true rfl rfl (ent_seq (ent_region (ent_value (ov_assign rfl) rfl rfl rfl (ent_value (ov_assign rfl) rfl rfl rfl (ent_nil (ent_retc ?_))))))))
   cases H
   refine ent_pick [] (by decide) rfl ?_
   exact ret_mem (vs := [I 0,B0]) rfl ⟨rfl,⟨rfl,trivial⟩⟩ _ rfl ⟨rfl,rfl⟩
  refine ent_value_on (ov_indexArr (o := 0) rfl rfl F_array_120 F_size_2 (by decide) c518) rfl rfl rfl (Bool.eq_false_iff.2 c522) rfl rfl ?_
  refine ent_value_on (ov_load (v := (I v2.2.2.2)) rfl F_agg_2 (reads_box1 (i := 0) rfl rfl)) rfl rfl rfl (Bool.eq_false_iff.2 c522) rfl rfl ?_
  refine ent_value_on (ov_bin rfl rfl (b_geq _ _ _)) rfl rfl rfl (Bool.eq_false_iff.2 c522) rfl rfl ?_
  refine ent_value (ov_pick rfl rfl rfl (pick_f (Bool.eq_false_iff.2 c522))) rfl rfl rfl (ent_value (ov_move rfl) rfl rfl rfl ?_)
  refine htT H (fun c523 H => ?_) fun c523 H => ?_
  ·refine ent_off rfl rfl rfl (decide_eq_true c523) rfl rfl ?_
   refine ent_off rfl rfl rfl (decide_eq_true c523) rfl rfl ?_
   refine ent_value (ov_pick rfl rfl rfl (pick_t (decide_eq_true c523))) rfl rfl rfl (ent_nil (ent_cond_true rfl rfl (ent_seq (ent_region (ent_value (ov_assign rfl) rfl rfl rfl (ent_value (ov_assign rfl) rfl rfl rfl (ent_nil (ent_retc ?_))))))))
   cases H
   refine ent_pick [] (by decide) rfl ?_
   exact ret_mem (vs := [I 0,B0]) rfl ⟨rfl,⟨rfl,trivial⟩⟩ _ rfl ⟨rfl,rfl⟩
  refine ent_value_on (ov_move rfl) rfl rfl rfl (decide_eq_false c523) rfl rfl ?_
  refine ent_value_on (ov_bin rfl rfl (b_gtr _ _ _)) rfl rfl rfl (decide_eq_false c523) rfl rfl ?_
  refine ent_value (ov_pick rfl rfl rfl (pick_f (decide_eq_false c523))) rfl rfl rfl (ent_nil ?_)
  refine htT H (fun c524 H => ?_) fun c524 H => ?_
  ·refine ent_cond_true rfl (decide_eq_true c524) (ent_seq (ent_region (ent_value (ov_assign rfl) rfl rfl rfl (ent_value (ov_assign rfl) rfl rfl rfl (ent_nil (ent_retc ?_))))))
   cases H
   refine ent_pick [] (by decide) rfl ?_
   exact ret_mem (vs := [I 0,B0]) rfl ⟨rfl,⟨rfl,trivial⟩⟩ _ rfl ⟨rfl,rfl⟩
  refine ent_cond_false rfl (decide_eq_false c524) (ent_skip (ent_seq (ent_region (ent_value (ov_move rfl) rfl rfl rfl (ent_value (ov_assign rfl) rfl rfl rfl (ent_value (ov_assign rfl) rfl rfl rfl (ent_nil (ent_retc ?_))))))))
  cases H
  refine ent_pick [] (by decide) rfl ?_
  exact ret_mem (vs := [I (w64 ((w64 (x4.1 * 24)) + v2.2.2.2)),bool true]) rfl ⟨rfl,⟨rfl,trivial⟩⟩ _ rfl ⟨rfl,rfl⟩

theorem words_plain.spec (a0 : Int) (r : Bool) (H : words_plain a0 = r) : FnSpec Tryd.prog 24 [int .u8 a0] [] (fun v M => v = (bool r) ∧ M = []) := by
 unfold words_plain at H
 refine spec_of Tryd.func24 rfl 28 rfl (Nat.le_of_ble_eq_true rfl) fun F w0 => ?_
 show Ent (St 28 w0 F [(0,int .u8 a0)] []) _
 refine ent_seq (ent_region (ent_value (ov_assign rfl) rfl rfl rfl (ent_nil (ent_seq (ent_block ?_)))))
 obtain ⟨x4,H4,H⟩ := thn_elim H
 refine ent_seq_cut (fun a w => St 28 w0 F [(0,int .u8 a0),(3,bool x4)] [] a w) ?_ ?_
 ·refine ent_seq (ent_region (ent_value (ov_move rfl) rfl rfl rfl (ent_value (ov_bin rfl rfl (b_geq _ _ _)) rfl rfl rfl (ent_value (ov_move rfl) rfl rfl rfl ?_))))
  refine htF H4 (fun c75 H4 => ?_) fun c75 H4 => ?_
  ·refine ent_off rfl rfl rfl (decide_eq_false c75) rfl rfl ?_
   refine ent_off rfl rfl rfl (decide_eq_false c75) rfl rfl ?_
   refine ent_value (ov_pick rfl rfl rfl (pick_f (decide_eq_false c75))) rfl rfl rfl (ent_value (ov_assign rfl) rfl rfl rfl (ent_nil (ent_cond_false rfl rfl (ent_seq (ent_region (ent_value (ov_move rfl) rfl rfl rfl (ent_value (ov_bin rfl rfl (b_geq _ _ _)) rfl rfl rfl (ent_value (ov_move rfl) rfl rfl rfl ?_))))))))
   refine htF H4 (fun c81 H4 => ?_) fun c81 H4 => ?_
   ·refine ent_off rfl rfl rfl (decide_eq_false c81) rfl rfl ?_
    refine ent_off rfl rfl rfl (decide_eq_false c81) rfl rfl ?_
    refine ent_value (ov_pick rfl rfl rfl (pick_f (decide_eq_false c81))) rfl rfl rfl (ent_value (ov_assign rfl) rfl rfl rfl (ent_nil (ent_cond_false rfl rfl (ent_region (ent_value (ov_move rfl) rfl rfl rfl (ent_value (ov_bin rfl rfl (b_geq _ _ _)) rfl rfl rfl (ent_value (ov_move rfl) rfl rfl rfl ?_)))))))
    refine htF H4 (fun c84 H4 => ?_) fun c84 H4 => ?_
    ·refine ent_off rfl rfl rfl (decide_eq_false c84) rfl rfl ?_
     refine ent_off rfl rfl rfl (decide_eq_false c84) rfl rfl ?_
     refine ent_value (ov_pick rfl rfl rfl (pick_f (decide_eq_false c84))) rfl rfl rfl (ent_value (ov_assign rfl) rfl rfl rfl (ent_nil ?_))
     cases H4
     exact ent_fin [] (by decide) rfl (sub_cons (t := 0) rfl (sub_cons (t := 3) rfl (sub_nil _))) fun a w h => h
    refine ent_value_on (ov_move rfl) rfl rfl rfl (decide_eq_true c84) rfl rfl ?_
    refine ent_value_on (ov_bin rfl rfl (b_leq _ _ _)) rfl rfl rfl (decide_eq_true c84) rfl rfl ?_
    refine ent_value (ov_pick rfl rfl rfl (pick_t (decide_eq_true c84))) rfl rfl rfl (ent_value (ov_assign rfl) rfl rfl rfl (ent_nil ?_))
    cases H4
    exact ent_fin [] (by decide) rfl (sub_cons (t := 0) rfl (sub_cons (t := 3) rfl (sub_nil _))) fun a w h => h
   refine ent_value_on (ov_move rfl) rfl rfl rfl (decide_eq_true c81) rfl rfl ?_
   refine ent_value_on (ov_bin rfl rfl (b_leq _ _ _)) rfl rfl rfl (decide_eq_true c81) rfl rfl ?_
   refine ent_value (ov_pick rfl rfl rfl (pick_t (decide_eq_true c81))) rfl rfl rfl (ent_value (ov_assign rfl) rfl rfl rfl (ent_nil ?_))
   refine htT H4 (fun c82 H4 => ?_) fun c82 H4 => ?_
   ·refine ent_cond_true rfl (decide_eq_true c82) (ent_skip ?_)
    cases H4
    exact ent_fin [] (by decide) rfl (sub_cons (t := 0) rfl (sub_cons (t := 3) rfl (sub_nil _))) fun a w h => h
   refine ent_cond_false rfl (decide_eq_false c82) (ent_region (ent_value (ov_move rfl) rfl rfl rfl (ent_value (ov_bin rfl rfl (b_geq _ _ _)) rfl rfl rfl (ent_value (ov_move rfl) rfl rfl rfl ?_))))
   refine htF H4 (fun c83 H4 => ?_) fun c83 H4 => ?_
   ·refine ent_off rfl rfl rfl (decide_eq_false c83) rfl rfl ?_
    refine ent_off rfl rfl rfl (decide_eq_false c83) rfl rfl ?_
    refine ent_value (ov_pick rfl rfl rfl (pick_f (decide_eq_false c83))) rfl rfl rfl (ent_value (ov_assign rfl) rfl rfl rfl (ent_nil ?_))
    cases H4
    exact ent_fin [] (by decide) rfl (sub_cons (t := 0) rfl (sub_cons (t := 3) rfl (sub_nil _))) fun a w h => h
   refine ent_value_on (ov_move rfl) rfl rfl rfl (decide_eq_true c83) rfl rfl ?_
   refine ent_value_on (ov_bin rfl rfl (b_leq _ _ _)) rfl rfl rfl (decide_eq_true c83) rfl rfl ?_
   refine ent_value (ov_pick rfl rfl rfl (pick_t (decide_eq_true c83))) rfl rfl rfl (ent_value (ov_assign rfl) rfl rfl rfl (ent_nil ?_))
   cases H4
   exact ent_fin [] (by decide) rfl (sub_cons (t := 0) rfl (sub_cons (t := 3) rfl (sub_nil _))) fun a w h => h
  refine ent_value_on (ov_move rfl) rfl rfl rfl (decide_eq_true c75) rfl rfl ?_
  refine ent_value_on (ov_bin rfl rfl (b_leq _ _ _)) rfl rfl rfl (decide_eq_true c75) rfl rfl ?_
  refine ent_value (ov_pick rfl rfl rfl (pick_t (decide_eq_true c75))) rfl rfl rfl (ent_value (ov_assign rfl) rfl rfl rfl (ent_nil ?_))
  refine htT H4 (fun c76 H4 => ?_) fun c76 H4 => ?_
  ·refine ent_cond_true rfl (decide_eq_true c76) (ent_skip ?_)
   cases H4
   exact ent_fin [] (by decide) rfl (sub_cons (t := 0) rfl (sub_cons (t := 3) rfl (sub_nil _))) fun a w h => h
  refine ent_cond_false rfl (decide_eq_false c76) (ent_seq (ent_region (ent_value (ov_move rfl) rfl rfl rfl (ent_value (ov_bin rfl rfl (b_geq _ _ _)) rfl rfl rfl (ent_value (ov_move rfl) rfl rfl rfl ?_)))))
  refine htF H4 (fun c77 H4 => ?_) fun c77 H4 => ?_
  ·refine ent_off rfl rfl rfl (decide_eq_false c77) rfl rfl ?_
   refine ent_off rfl rfl rfl (decide_eq_false c77) rfl rfl ?_
   refine ent_value (ov_pick rfl rfl rfl (pick_f (decide_eq_false c77))) rfl rfl rfl (ent_value (ov_assign rfl) rfl rfl rfl (ent_nil (ent_cond_false rfl rfl (ent_region (ent_value (ov_move rfl) rfl rfl rfl (ent_value (ov_bin rfl rfl (b_geq _ _ _)) rfl rfl rfl (ent_value (ov_move rfl) rfl rfl rfl ?_)))))))
   refine htF H4 (fun c80 H4 => ?_) fun c80 H4 => ?_
   ·refine ent_off rfl rfl rfl (decide_eq_false c80) rfl rfl ?_
    refine ent_off rfl rfl rfl (decide_eq_false c80) rfl rfl ?_
    refine ent_value (ov_pick rfl rfl rfl (pick_f (decide_eq_false c80))) rfl rfl rfl (ent_value (ov_assign rfl) rfl rfl rfl (ent_nil ?_))
    cases H4
    exact ent_fin [] (by decide) rfl (sub_cons (t := 0) rfl (sub_cons (t := 3) rfl (sub_nil _))) fun a w h => h
   refine ent_value_on (ov_move rfl) rfl rfl rfl (decide_eq_true c80) rfl rfl ?_
   refine ent_value_on (ov_bin rfl rfl (b_leq _ _ _)) rfl rfl rfl (decide_eq_true c80) rfl rfl ?_
   refine ent_value (ov_pick rfl rfl rfl (pick_t (decide_eq_true c80))) rfl rfl rfl (ent_value (ov_assign rfl) rfl rfl rfl (ent_nil ?_))
   cases H4
   exact ent_fin [] (by decide) rfl (sub_cons (t := 0) rfl (sub_cons (t := 3) rfl (sub_nil _))) fun a w h => h
  refine ent_value_on (ov_move rfl) rfl rfl rfl (decide_eq_true c77) rfl rfl ?_
  refine ent_value_on (ov_bin rfl rfl (b_leq _ _ _)) rfl rfl rfl (decide_eq_true c77) rfl rfl ?_
  refine ent_value (ov_pick rfl rfl rfl (pick_t (decide_eq_true c77))) rfl rfl rfl (ent_value (ov_assign rfl) rfl rfl rfl (ent_nil ?_))
  refine htT H4 (fun c78 H4 => ?_) fun c78 H4 => ?_
  ·refine ent_cond_true rfl (decide_eq_true c78) (ent_skip ?_)
   cases H4
   exact ent_fin [] (by decide) rfl (sub_cons (t := 0) rfl (sub_cons (t := 3) rfl (sub_nil _))) fun a w h => h
  refine ent_cond_false rfl (decide_eq_false c78) (ent_region (ent_value (ov_move rfl) rfl rfl rfl (ent_value (ov_bin rfl rfl (b_geq _ _ _)) rfl rfl rfl (ent_value (ov_move rfl) rfl rfl rfl ?_))))
  refine htF H4 (fun c79 H4 => ?_) fun c79 H4 => ?_
  ·refine ent_off rfl rfl rfl (decide_eq_false c79) rfl rfl ?_
   refine ent_off rfl rfl rfl (decide_eq_false c79) rfl rfl ?_
   refine ent_value (ov_pick rfl rfl rfl (pick_f (decide_eq_false c79))) rfl rfl rfl (ent_value (ov_assign rfl) rfl rfl rfl (ent_nil ?_))
   cases H4
   exact ent_fin [] (by decide) rfl (sub_cons (t := 0) rfl (sub_cons (t := 3) rfl (sub_nil _))) fun a w h => h
  refine ent_value_on (ov_move rfl) rfl rfl rfl (decide_eq_true c79) rfl rfl ?_
  refine ent_value_on (ov_bin rfl rfl (b_leq _ _ _)) rfl rfl rfl (decide_eq_true c79) rfl rfl ?_
  refine ent_value (ov_pick rfl rfl rfl (pick_t (decide_eq_true c79))) rfl rfl rfl (ent_value (ov_assign rfl) rfl rfl rfl (ent_nil ?_))
  cases H4
  exact ent_fin [] (by decide) rfl (sub_cons (t := 0) rfl (sub_cons (t := 3) rfl (sub_nil _))) fun a w h => h
 ·refine htT H (fun c85 H => ?_) fun c85 H => ?_
  ·refine ent_cond_true rfl c85 (ent_seq (ent_region (ent_value (ov_assign rfl) rfl rfl rfl (ent_nil (ent_retc ?_)))))
   cases H
   refine ent_pick [] (by decide) rfl ?_
   exact ret_tmp rfl rfl ⟨rfl,rfl⟩
  refine ent_cond_false rfl (Bool.eq_false_iff.2 c85) (ent_skip (ent_seq (ent_region (ent_value (ov_move rfl) rfl rfl rfl (ent_value (ov_bin rfl rfl (b_eql _ _ _)) rfl rfl rfl (ent_value (ov_move rfl) rfl rfl rfl ?_))))))
  refine htT H (fun c86 H => ?_) fun c86 H => ?_
  ·refine ent_off rfl rfl rfl (eq_t c86) rfl rfl ?_
   refine ent_off rfl rfl rfl (eq_t c86) rfl rfl ?_
   refine ent_value (ov_pick rfl rfl rfl (pick_t (eq_t c86))) rfl rfl rfl (ent_value (ov_assign rfl) rfl rfl rfl (ent_nil (ent_retc ?_)))
   cases H
   refine ent_pick [] (by decide) rfl ?_
   exact ret_tmp rfl rfl ⟨rfl,rfl⟩
  refine ent_value_on (ov_move rfl) rfl rfl rfl (eq_f c86) rfl rfl ?_
  refine ent_value_on (ov_bin rfl rfl (b_eql _ _ _)) rfl rfl rfl (eq_f c86) rfl rfl ?_
  refine ent_value (ov_pick rfl rfl rfl (pick_f (eq_f c86))) rfl rfl rfl (ent_value (ov_assign rfl) rfl rfl rfl (ent_nil (ent_retc ?_)))
  cases H
  refine ent_pick [] (by decide) rfl ?_
  exact ret_tmp rfl rfl ⟨rfl,rfl⟩

theorem strings_IndexByte.spec (a0 : List UInt8) (a1 r : Int) (H : strings_IndexByte a0 a1 = r) : FnSpec Tryd.prog 25 [str a0,int .u8 a1] [] (fun v M => v = (I r) ∧ M = []) := by
 subst H
 exact spec_indexByte (fun s c w => Tryd.strings_IndexByte s c w) a0 a1

theorem words_Bare.spec (K : Nat) (a0 : List UInt8) (r : (Bool × (List UInt8))) (H : words_Bare K a0 = some r) : FnSpec Tryd.prog 9 [str a0] [] (fun v M => v = (tU #[str r.2,bool r.1]) ∧ M = []) := by
 unfold words_Bare at H
 refine spec_of Tryd.func9 rfl 76 rfl (Nat.le_of_ble_eq_true rfl) fun F w0 => ?_
 show Ent (St 76 w0 F [(0,str a0)] []) _
 refine ent_seq (ent_region (ent_value (ov_assign rfl) rfl rfl rfl (ent_value (ov_assign rfl) rfl rfl rfl (ent_nil (ent_seq (ent_seq (ent_region (ent_value (ov_move rfl) rfl rfl rfl (ent_value (ov_bin rfl rfl (b_eql_str _ _)) rfl rfl rfl (ent_nil ?_))))))))))
 refine htT H (fun c252 H => ?_) fun c252 H => ?_
 ·refine ent_cond_true rfl (eq_t c252) (ent_seq (ent_region (ent_value (ov_assign rfl) rfl rfl rfl (ent_value (ov_assign rfl) rfl rfl rfl (ent_nil (ent_retc ?_))))))
  cases H
  refine ent_pick [] (by decide) rfl ?_
  exact ret_mem (vs := [S0,bool true]) rfl ⟨rfl,⟨rfl,trivial⟩⟩ _ rfl ⟨rfl,rfl⟩
 refine ent_cond_false rfl (eq_f c252) (ent_skip (ent_seq (ent_region (ent_value (ov_assign rfl) rfl rfl rfl (ent_nil ?_)))))
 obtain ⟨x110,H10,H⟩ := Option.bind_eq_some_iff.1 H
 refine ent_seq_cut (fun a w => ∃ v2,x110 = Sum.inl v2 ∧ ∃ sv113 : Value,St 76 w0 F [(4,sv113)] [own sv113 5 1 v2.length (fl (eI .u8) v2)] a w) ?_ ?_
 ·refine ent_seq (ent_region (ent_value (ov_assign rfl) rfl rfl rfl (ent_nil (ent_block ?_))))
  refine ent_loop (fun k a w => ∃ i4,∃ l6,∃ sv126 : Value,words_Bare_l0 K a0 k i4 l6 = some x110 ∧ St 76 w0 F [(0,str a0),(4,sv126),(5,I i4)] [own sv126 5 1 l6.length (fl (eI .u8) l6)] a w) K ?_ ?_
  ·refine ent_ownnil 5 1 ?_
   exact ent_fin [0] (by decide) rfl (sub_cons (t := 0) rfl (sub_cons (t := 4) rfl (sub_cons (t := 5) rfl (sub_nil _)))) fun a w h => ⟨_,_,_,H10,h⟩
  ·refine fun k => ent_exi fun i4 => ent_exi fun l6 => ent_exi fun sv126 => ent_and fun H11 => ?_
   cases k with
   | zero => exact absurd H11 (by simp [words_Bare_l0])
   | succ k =>
    rw [words_Bare_l0] at H11
    refine ent_seq (ent_seq (ent_region (ent_value (ov_move rfl) rfl rfl rfl (ent_value (ov_move rfl) rfl rfl rfl (ent_value (ov_lenS rfl Tryd.underlying9) rfl rfl rfl (ent_value (ov_bin rfl rfl (b_lss _ _ _)) rfl rfl rfl (ent_nil ?_)))))))
    refine htF H11 (fun c458 H11 => ?_) fun c458 H11 => ?_
    ·refine ent_cond_false rfl (decide_eq_false c458) (ent_exit ?_)
     cases H11
     exact ent_fin [0] (by decide) rfl (sub_cons (t := 4) rfl (sub_nil _)) fun a w h => ⟨_,rfl,_,h⟩
    refine ent_cond_true rfl (decide_eq_true c458) (ent_skip (ent_seq (ent_block (ent_seq (ent_seq (ent_region (ent_value (ov_move rfl) rfl rfl rfl (ent_value (ov_move rfl) rfl rfl rfl ?_))))))))
    obtain ⟨c483,H11⟩ := gdT H11
    refine ent_value (ov_indexS rfl rfl Tryd.underlying9 c483 c458) rfl rfl rfl ?_
    obtain ⟨x142,h140,H11⟩ := thn_elim H11
    refine ent_op (ot_call0 (first := []) (cap := []) (xs := [.tmp 18]) rfl rfl F_call_24 rfl (words_plain.spec ((a0.getD i4.toNat 0).toNat : Int) _ h140)) rfl rfl rfl ?_
    rintro _ _ ⟨rfl,rfl⟩
    refine ent_nil ?_
    refine htT H11 (fun c484 H11 => ?_) fun c484 H11 => ?_
    ·refine ent_cond_true rfl c484 (ent_seq (ent_region (ent_value (ov_move rfl) rfl rfl rfl (ent_value (ov_move rfl) rfl rfl rfl (ent_value (ov_move rfl) rfl rfl rfl (ent_value (ov_indexS rfl rfl Tryd.underlying9 c483 c458) rfl rfl rfl ?_))))))
     refine ent_op (ot_buildSlice (sz := 0) (xs := [.tmp 23]) (cs := fl (eI .u8) [((a0.getD i4.toNat 0).toNat : Int)]) rfl rfl F_slice_56 F_size_5 F_zero_5 rfl rfl (all_size rfl) rfl (by decide)) rfl rfl rfl ?_
     rintro sv147 _ rfl
     obtain ⟨c485,H11⟩ := gdT H11
     refine ent_op (ot_appendx (sz := 0) (xs := l6) (ys := [((a0.getD i4.toNat 0).toNat : Int)]) 1 0 rfl rfl F_slice_56 F_size_5 F_zero_5 rfl F_bytes_5 rfl rfl rfl (isRd_ownx 5) rfl (eI_one _) c485) rfl rfl rfl ?_
     rintro sv148 _ rfl
     refine ent_L [own sv147 5 1 [((a0.getD i4.toNat 0).toNat : Int)].length (fl (eI .u8) [((a0.getD i4.toNat 0).toNat : Int)]),own sv148 5 1 (l6 ++ [((a0.getD i4.toNat 0).toNat : Int)]).length (fl (eI .u8) (l6 ++ [((a0.getD i4.toNat 0).toNat : Int)]))] rfl ?_
     refine ent_value (ov_assign rfl) rfl rfl rfl (ent_nil (ent_exit (ent_region (ent_value (ov_move rfl) rfl rfl rfl (ent_value (ov_bin rfl rfl (b_add _ _ _) ) rfl rfl rfl (ent_value (ov_assign rfl) rfl rfl rfl (ent_nil ?_)))))))
     exact ent_fin [1] (by decide) rfl (sub_cons (t := 0) rfl (sub_cons (t := 4) rfl (sub_cons (t := 5) rfl (sub_nil _)))) fun a w h => ⟨k,Nat.lt_succ_self k,_,_,_,H11,h⟩
    refine ent_cond_false rfl (Bool.eq_false_iff.2 c484) (ent_skip (ent_seq (ent_seq (ent_region (ent_value (ov_move rfl) rfl rfl rfl (ent_value (ov_move rfl) rfl rfl rfl (ent_value (ov_indexS rfl rfl Tryd.underlying9 c483 c458) rfl rfl rfl (ent_value (ov_bin rfl rfl (b_neq _ _ _)) rfl rfl rfl (ent_value (ov_move rfl) rfl rfl rfl ?_)))))))))
    refine htT H11 (fun c488 H11 => ?_) fun c488 H11 => ?_
    ·refine ent_off rfl rfl rfl (ne_t c488) rfl rfl ?_
     refine ent_off rfl rfl rfl (ne_t c488) rfl rfl ?_
     refine ent_off rfl rfl rfl (ne_t c488) rfl rfl ?_
     refine ent_off rfl rfl rfl (ne_t c488) rfl rfl ?_
     refine ent_off rfl rfl rfl (ne_t c488) rfl rfl ?_
     refine ent_value (ov_pick rfl rfl rfl (pick_t (ne_t c488))) rfl rfl rfl (ent_nil (ent_cond_true rfl rfl (ent_seq (ent_region (ent_value (ov_assign rfl) rfl rfl rfl (ent_value (ov_assign rfl) rfl rfl rfl (ent_nil (ent_retc ?_))))))))
     cases H11
     have H12 := Option.some.inj (show some _ = some _ from H)
     cases H12
     refine ent_pick [] (by decide) rfl ?_
     exact ret_mem (vs := [S0,B0]) rfl ⟨rfl,⟨rfl,trivial⟩⟩ _ rfl ⟨rfl,rfl⟩
    refine ent_value_on (ov_move rfl) rfl rfl rfl (ne_f c488) rfl rfl ?_
    refine ent_value_on (ov_bin rfl rfl (b_add _ _ _) ) rfl rfl rfl (ne_f c488) rfl rfl ?_
    refine ent_value_on (ov_move rfl) rfl rfl rfl (ne_f c488) rfl rfl ?_
    refine ent_value_on (ov_lenS rfl Tryd.underlying9) rfl rfl rfl (ne_f c488) rfl rfl ?_
    refine ent_value_on (ov_bin rfl rfl (b_geq _ _ _)) rfl rfl rfl (ne_f c488) rfl rfl ?_
    refine ent_value (ov_pick rfl rfl rfl (pick_f (ne_f c488))) rfl rfl rfl (ent_nil ?_)
    refine htT H11 (fun c489 H11 => ?_) fun c489 H11 => ?_
    ·refine ent_cond_true rfl (decide_eq_true c489) (ent_seq (ent_region (ent_value (ov_assign rfl) rfl rfl rfl (ent_value (ov_assign rfl) rfl rfl rfl (ent_nil (ent_retc ?_))))))
     cases H11
     have H13 := Option.some.inj (show some _ = some _ from H)
     cases H13
     refine ent_pick [] (by decide) rfl ?_
     exact ret_mem (vs := [S0,B0]) rfl ⟨rfl,⟨rfl,trivial⟩⟩ _ rfl ⟨rfl,rfl⟩
    refine ent_cond_false rfl (decide_eq_false c489) (ent_skip (ent_seq ?_))
    obtain ⟨c490,H11⟩ := gdT H11
    obtain ⟨c491,H11⟩ := gdT H11
    obtain ⟨x143,h141,H11⟩ := thn_elim H11
    obtain ⟨c492,H11⟩ := gdT H11
    obtain ⟨c493,H11⟩ := gdT H11
    obtain ⟨x144,h142,H11⟩ := thn_elim H11
    refine ent_drawm 12 rfl (fun done a w => StD 76 w0 F [(0,str a0),(4,sv126),(5,I i4),(10,I i4),(11,str a0),(12,I (a0.length : Int)),(13,bool (decide (i4 < (a0.length : Int)))),(16,str a0),(17,I i4),(18,int .u8 ((a0.getD i4.toNat 0).toNat : Int)),(19,bool x142),(26,str a0),(27,I i4),(28,int .u8 ((a0.getD i4.toNat 0).toNat : Int)),(29,bool (((a0.getD i4.toNat 0).toNat : Int) != 37)),(30,bool (((a0.getD i4.toNat 0).toNat : Int) != 37)),(31,I i4),(32,I (w64 (i4 + 2))),(33,str a0),(34,I (a0.length : Int)),(35,bool (decide ((a0.length : Int) ≤ (w64 (i4 + 2))))),(36,bool (decide ((a0.length : Int) ≤ (w64 (i4 + 2)))))] [(0,37,str a0),(1,38,I i4),(2,39,I (w64 (i4 + 1))),(3,40,int .u8 ((a0.getD (w64 (i4 + 1)).toNat 0).toNat : Int)),(4,41,I x143),(5,42,str a0),(6,43,I i4),(7,44,I (w64 (i4 + 2))),(8,45,int .u8 ((a0.getD (w64 (i4 + 2)).toNat 0).toNat : Int)),(9,46,I x144),(10,6,I x143),(11,7,I x144)] done [own sv126 5 1 l6.length (fl (eI .u8) l6)] a w) (by kernel_rfl) (by kernel_rfl) (draw_startL (sub_cons (t := 0) rfl (sub_cons (t := 4) rfl (sub_cons (t := 5) rfl (sub_cons (t := 10) rfl (sub_cons (t := 11) rfl (sub_cons (t := 12) rfl (sub_cons (t := 13) rfl (sub_cons (t := 16) rfl (sub_cons (t := 17) rfl (sub_cons (t := 18) rfl (sub_cons (t := 19) rfl (sub_cons (t := 26) rfl (sub_cons (t := 27) rfl (sub_cons (t := 28) rfl (sub_cons (t := 29) rfl (sub_cons (t := 30) rfl (sub_cons (t := 31) rfl (sub_cons (t := 32) rfl (sub_cons (t := 33) rfl (sub_cons (t := 34) rfl (sub_cons (t := 35) rfl (sub_cons (t := 36) rfl (sub_nil _))))))))))))))))))))))) rfl) ?_ ?_
    ·refine ⟨?_,?_,?_,?_,?_,?_,?_,?_,?_,?_,?_,?_,trivial⟩
     ·exact fun done hi hc hcu => draw_value (i := 0) (t := 37) (v := (str a0)) rfl rfl (wanted_none rfl) (fun a => hasA_base) (ov_move rfl) rfl rfl (onlyT_spec (k0 := 0) rfl rfl rfl)
     ·exact fun done hi hc hcu => draw_value (i := 1) (t := 38) (v := (I i4)) rfl rfl (wanted_none rfl) (fun a => hasA_base) (ov_move rfl) rfl rfl (onlyT_spec (k0 := 1) rfl rfl rfl)
     ·exact fun done hi hc hcu => draw_value (i := 2) (t := 39) (v := (I (w64 (i4 + 1)))) rfl rfl (wanted_none rfl) (fun a => (hasA_cons (k := 1) rfl (done_of (j := 1) hcu rfl (by decide) rfl) hasA_base)) (ov_bin rfl rfl (b_add _ _ _) ) rfl rfl (onlyT_spec (k0 := 2) rfl rfl rfl)
     ·exact fun done hi hc hcu => draw_value (i := 3) (t := 40) (v := (int .u8 ((a0.getD (w64 (i4 + 1)).toNat 0).toNat : Int))) rfl rfl (wanted_none rfl) (fun a => (hasA_cons (k := 2) rfl (done_of (j := 2) hcu rfl (by decide) rfl) (hasA_cons (k := 0) rfl (done_of (j := 0) hcu rfl (by decide) rfl) hasA_base))) (ov_indexS rfl rfl Tryd.underlying9 c490 c491) rfl rfl (onlyT_spec (k0 := 3) rfl rfl rfl)
     ·exact fun done hi hc hcu => draw_same (i := 4) (t := 41) (v := (I x143)) rfl rfl (wanted_none rfl) (fun a => (hasA_cons (k := 3) rfl (done_of (j := 3) hcu rfl (by decide) rfl) hasA_base)) (ot_call0 (first := []) (cap := []) (xs := [.const (str ([48,49,50,51,52,53,54,55,56,57,97,98,99,100,101,102] : List UInt8)),.tmp 40]) rfl rfl F_call_25 rfl (strings_IndexByte.spec ([48,49,50,51,52,53,54,55,56,57,97,98,99,100,101,102] : List UInt8) ((a0.getD (w64 (i4 + 1)).toNat 0).toNat : Int) _ h141)) rfl rfl (onlyT_spec (k0 := 4) rfl rfl rfl)
     ·exact fun done hi hc hcu => draw_value (i := 5) (t := 42) (v := (str a0)) rfl rfl (wanted_none rfl) (fun a => hasA_base) (ov_move rfl) rfl rfl (onlyT_spec (k0 := 5) rfl rfl rfl)
     ·exact fun done hi hc hcu => draw_value (i := 6) (t := 43) (v := (I i4)) rfl rfl (wanted_none rfl) (fun a => hasA_base) (ov_move rfl) rfl rfl (onlyT_spec (k0 := 6) rfl rfl rfl)
     ·exact fun done hi hc hcu => draw_value (i := 7) (t := 44) (v := (I (w64 (i4 + 2)))) rfl rfl (wanted_none rfl) (fun a => (hasA_cons (k := 6) rfl (done_of (j := 6) hcu rfl (by decide) rfl) hasA_base)) (ov_bin rfl rfl (b_add _ _ _) ) rfl rfl (onlyT_spec (k0 := 7) rfl rfl rfl)
     ·exact fun done hi hc hcu => draw_value (i := 8) (t := 45) (v := (int .u8 ((a0.getD (w64 (i4 + 2)).toNat 0).toNat : Int))) rfl rfl (wanted_none rfl) (fun a => (hasA_cons (k := 7) rfl (done_of (j := 7) hcu rfl (by decide) rfl) (hasA_cons (k := 5) rfl (done_of (j := 5) hcu rfl (by decide) rfl) hasA_base))) (ov_indexS rfl rfl Tryd.underlying9 c492 c493) rfl rfl (onlyT_spec (k0 := 8) rfl rfl rfl)
     ·exact fun done hi hc hcu => draw_same (i := 9) (t := 46) (v := (I x144)) rfl rfl (wanted_none rfl) (fun a => (hasA_cons (k := 8) rfl (done_of (j := 8) hcu rfl (by decide) rfl) hasA_base)) (ot_call0 (first := []) (cap := []) (xs := [.const (str ([48,49,50,51,52,53,54,55,56,57,97,98,99,100,101,102] : List UInt8)),.tmp 45]) rfl rfl F_call_25 rfl (strings_IndexByte.spec ([48,49,50,51,52,53,54,55,56,57,97,98,99,100,101,102] : List UInt8) ((a0.getD (w64 (i4 + 2)).toNat 0).toNat : Int) _ h142)) rfl rfl (onlyT_spec (k0 := 9) rfl rfl rfl)
     ·exact fun done hi hc hcu => draw_value (i := 10) (t := 6) (v := (I x143)) rfl rfl (wanted_none rfl) (fun a => (hasA_cons (k := 4) rfl (done_of (j := 4) hcu rfl (by decide) rfl) hasA_base)) (ov_assign rfl) rfl rfl (onlyT_spec (k0 := 10) rfl rfl rfl)
     ·exact fun done hi hc hcu => draw_value (i := 11) (t := 7) (v := (I x144)) rfl rfl (wanted_none rfl) (fun a => (hasA_cons (k := 9) rfl (done_of (j := 9) hcu rfl (by decide) rfl) hasA_base)) (ov_assign rfl) rfl rfl (onlyT_spec (k0 := 11) rfl rfl rfl)
    ·intro done hall
     refine draw_endL [own sv126 5 1 l6.length (fl (eI .u8) l6)] rfl (fun a => (hasA_cons (k := 10) rfl (hall 10 (by decide)) (hasA_cons (k := 11) rfl (hall 11 (by decide)) (hasA_cons (k := 0) rfl (hall 0 (by decide)) (hasA_cons (k := 1) rfl (hall 1 (by decide)) (hasA_cons (k := 2) rfl (hall 2 (by decide)) (hasA_cons (k := 3) rfl (hall 3 (by decide)) (hasA_cons (k := 4) rfl (hall 4 (by decide)) (hasA_cons (k := 5) rfl (hall 5 (by decide)) (hasA_cons (k := 6) rfl (hall 6 (by decide)) (hasA_cons (k := 7) rfl (hall 7 (by decide)) (hasA_cons (k := 8) rfl (hall 8 (by decide)) (hasA_cons (k := 9) rfl (hall 9 (by decide)) hasA_base))))))))))))) ?_
     refine ent_seq (ent_seq (ent_region (ent_value (ov_move rfl) rfl rfl rfl (ent_value (ov_bin rfl rfl (b_lss _ _ _)) rfl rfl rfl (ent_value (ov_move rfl) rfl rfl rfl ?_)))))
     refine htT H11 (fun c497 H11 => ?_) fun c497 H11 => ?_
     ·refine ent_off rfl rfl rfl (decide_eq_true c497) rfl rfl ?_
      refine ent_off rfl rfl rfl (decide_eq_true c497) rfl rfl ?_
      refine ent_value (ov_pick rfl rfl rfl (pick_t (decide_eq_true c497))) rfl rfl rfl (ent_value (ov_move rfl) rfl rfl rfl ?_)
      refine ent_off rfl rfl rfl rfl rfl rfl ?_
      refine ent_off rfl rfl rfl rfl rfl rfl ?_
      refine ent_off rfl rfl rfl rfl rfl rfl ?_
      refine ent_off rfl rfl rfl rfl rfl rfl ?_
      refine ent_off rfl rfl rfl rfl rfl rfl ?_
      refine ent_off rfl rfl rfl rfl rfl rfl ?_
      refine ent_value (ov_pick rfl rfl rfl rfl) rfl rfl rfl (ent_nil (ent_cond_true rfl rfl (ent_seq (ent_region (ent_value (ov_assign rfl) rfl rfl rfl (ent_value (ov_assign rfl) rfl rfl rfl (ent_nil (ent_retc ?_))))))))
      cases H11
      have H14 := Option.some.inj (show some _ = some _ from H)
      cases H14
      refine ent_pick [] (by decide) rfl ?_
      exact ret_mem (vs := [S0,B0]) rfl ⟨rfl,⟨rfl,trivial⟩⟩ _ rfl ⟨rfl,rfl⟩
     refine ent_value_on (ov_move rfl) rfl rfl rfl (decide_eq_false c497) rfl rfl ?_
     refine ent_value_on (ov_bin rfl rfl (b_lss _ _ _)) rfl rfl rfl (decide_eq_false c497) rfl rfl ?_
     refine ent_value (ov_pick rfl rfl rfl (pick_f (decide_eq_false c497))) rfl rfl rfl (ent_value (ov_move rfl) rfl rfl rfl ?_)
     refine htT H11 (fun c498 H11 => ?_) fun c498 H11 => ?_
     ·refine ent_off rfl rfl rfl (decide_eq_true c498) rfl rfl ?_
      refine ent_off rfl rfl rfl (decide_eq_true c498) rfl rfl ?_
      refine ent_off rfl rfl rfl (decide_eq_true c498) rfl rfl ?_
      refine ent_off rfl rfl rfl (decide_eq_true c498) rfl rfl ?_
      refine ent_off rfl rfl rfl (decide_eq_true c498) rfl rfl ?_
      refine ent_off rfl rfl rfl (decide_eq_true c498) rfl rfl ?_
      refine ent_value (ov_pick rfl rfl rfl (pick_t (decide_eq_true c498))) rfl rfl rfl (ent_nil (ent_cond_true rfl rfl (ent_seq (ent_region (ent_value (ov_assign rfl) rfl rfl rfl (ent_value (ov_assign rfl) rfl rfl rfl (ent_nil (ent_retc ?_))))))))
      cases H11
      have H15 := Option.some.inj (show some _ = some _ from H)
      cases H15
      refine ent_pick [] (by decide) rfl ?_
      exact ret_mem (vs := [S0,B0]) rfl ⟨rfl,⟨rfl,trivial⟩⟩ _ rfl ⟨rfl,rfl⟩
     refine ent_value_on (ov_move rfl) rfl rfl rfl (decide_eq_false c498) rfl rfl ?_
     refine ent_value_on (ov_bin rfl rfl fun w => b_shl _ _ _ _ w (by decide)) rfl rfl rfl (decide_eq_false c498) rfl rfl ?_
     refine ent_value_on (ov_move rfl) rfl rfl rfl (decide_eq_false c498) rfl rfl ?_
     refine ent_value_on (ov_bin rfl rfl (b_or _ _ _)) rfl rfl rfl (decide_eq_false c498) rfl rfl ?_
     refine ent_value_on (ov_convert rfl (c_int Tryd.underlying3 Tryd.underlying5)) rfl rfl rfl (decide_eq_false c498) rfl rfl ?_
     obtain ⟨x146,h144,H11⟩ := thn_elim H11
     refine ent_op_on (ot_call0 (first := []) (cap := []) (xs := [.tmp 58]) rfl rfl F_call_24 rfl (words_plain.spec (wu8 (bOr .i64 (bShl .i64 x143 4) x144)) _ h144)) rfl rfl rfl (decide_eq_false c498) rfl rfl ?_
     rintro _ _ ⟨rfl,rfl⟩
     refine ent_value (ov_pick rfl rfl rfl (pick_f (decide_eq_false c498))) rfl rfl rfl (ent_nil ?_)
     refine htT H11 (fun c499 H11 => ?_) fun c499 H11 => ?_
     ·refine ent_cond_true rfl c499 (ent_seq (ent_region (ent_value (ov_assign rfl) rfl rfl rfl (ent_value (ov_assign rfl) rfl rfl rfl (ent_nil (ent_retc ?_))))))
      cases H11
      have H16 := Option.some.inj (show some _ = some _ from H)
      cases H16
      refine ent_pick [] (by decide) rfl ?_
      exact ret_mem (vs := [S0,B0]) rfl ⟨rfl,⟨rfl,trivial⟩⟩ _ rfl ⟨rfl,rfl⟩
     refine ent_cond_false rfl (Bool.eq_false_iff.2 c499) (ent_skip (ent_seq (ent_region (ent_value (ov_move rfl) rfl rfl rfl (ent_value (ov_move rfl) rfl rfl rfl ?_)))))
     refine ent_value (ov_bin rfl rfl fun w => b_shl _ _ _ _ w (by decide)) rfl rfl rfl ?_
     refine ent_value (ov_move rfl) rfl rfl rfl (ent_value (ov_bin rfl rfl (b_or _ _ _)) rfl rfl rfl (ent_value (ov_convert rfl (c_int Tryd.underlying3 Tryd.underlying5)) rfl rfl rfl ?_))
     refine ent_op (ot_buildSlice (sz := 0) (xs := [.tmp 66]) (cs := fl (eI .u8) [wu8 (bOr .i64 (bShl .i64 x143 4) x144)]) rfl rfl F_slice_56 F_size_5 F_zero_5 rfl rfl (all_size rfl) rfl (by decide)) rfl rfl rfl ?_
     rintro sv149 _ rfl
     obtain ⟨c500,H11⟩ := gdT H11
     refine ent_op (ot_appendx (sz := 0) (xs := l6) (ys := [wu8 (bOr .i64 (bShl .i64 x143 4) x144)]) 1 0 rfl rfl F_slice_56 F_size_5 F_zero_5 rfl F_bytes_5 rfl rfl rfl (isRd_ownx 5) rfl (eI_one _) c500) rfl rfl rfl ?_
     rintro sv150 _ rfl
     refine ent_L [own sv149 5 1 [wu8 (bOr .i64 (bShl .i64 x143 4) x144)].length (fl (eI .u8) [wu8 (bOr .i64 (bShl .i64 x143 4) x144)]),own sv150 5 1 (l6 ++ [wu8 (bOr .i64 (bShl .i64 x143 4) x144)]).length (fl (eI .u8) (l6 ++ [wu8 (bOr .i64 (bShl .i64 x143 4) x144)]))] rfl ?_
     refine ent_value (ov_assign rfl) rfl rfl rfl (ent_nil (ent_region (ent_value (ov_move rfl) rfl rfl rfl (ent_value (ov_bin rfl rfl (b_add _ _ _) ) rfl rfl rfl (ent_value (ov_assign rfl) rfl rfl rfl (ent_nil (ent_region (ent_value (ov_move rfl) rfl rfl rfl (ent_value (ov_bin rfl rfl (b_add _ _ _) ) rfl rfl rfl (ent_value (ov_assign rfl) rfl rfl rfl (ent_nil ?_)))))))))))
     exact ent_fin [1] (by decide) rfl (sub_cons (t := 0) rfl (sub_cons (t := 4) rfl (sub_cons (t := 5) rfl (sub_nil _)))) fun a w h => ⟨k,Nat.lt_succ_self k,_,_,_,H11,h⟩
 ·refine ent_exi fun v2 => ent_and fun e_ => ?_
  subst e_
  rw [cas_inl] at H
  refine ent_exi fun sv113 => ?_
  refine ent_seq (ent_region (ent_value (ov_move rfl) rfl rfl rfl (ent_value (ov_b2s 0 rfl F_slice_56 Tryd.underlying5 Tryd.underlying9 rfl (isRd_ownx 5)) rfl rfl rfl (ent_value (ov_move rfl) rfl rfl rfl (ent_value (ov_len 0 rfl F_slice_56 rfl (isRd_ownx 5)) rfl rfl rfl (ent_value (ov_bin rfl rfl (b_gtr _ _ _)) rfl rfl rfl (ent_value (ov_assign rfl) rfl rfl rfl (ent_value (ov_assign rfl) rfl rfl rfl (ent_nil (ent_retc ?_))))))))))
  cases H
  refine ent_pick [] (by decide) rfl ?_
  exact ret_mem (vs := [str (strs v2),bool (decide (0 < (v2.length : Int)))]) rfl ⟨rfl,⟨rfl,trivial⟩⟩ _ rfl ⟨rfl,rfl⟩

theorem words_reader_text_R.spec (K p0 : Nat) (sv0 : Value) (A0 : HP) (l0 : List (List UInt8)) (p0_1 : Int) (hA0 : IsRd A0 sv0 l0.length 1 (fl eS l0)) (r : ((List (List UInt8)) × (List UInt8))) (H : words_reader_text_R K l0 p0_1 = some r) : FnSpec Tryd.prog 68 [pt p0 0] [box p0 72 [sv0,I p0_1],A0] (fun v M => ∃ sv3 : Value,IsRd A0 sv3 r.1.length 1 (fl eS r.1) ∧ v = (str r.2) ∧ M = [box p0 72 [sv3,I p0_1],A0]) := by
 unfold words_reader_text_R at H
 refine spec_of Tryd.func68 rfl 14 rfl (Nat.le_of_ble_eq_true rfl) fun F w0 => ?_
 show Ent (St 14 w0 F [(0,pt p0 0)] [box p0 72 [sv0,I p0_1],A0]) _
 refine ent_seq (ent_region (ent_value (ov_assign rfl) rfl rfl rfl (ent_nil (ent_seq (ent_region (ent_value (ov_move rfl) rfl rfl rfl ?_))))))
 obtain ⟨x7,h9,H⟩ := Option.bind_eq_some_iff.1 H
 refine ent_op (ot_call (Lr := []) (first := []) (cap := []) (xs := [.tmp 6]) rfl rfl F_call_42 rfl (words_reader_word_R.spec p0 sv0 A0 l0 p0_1 hA0 _ h9) rfl) rfl rfl rfl ?_
 rintro _ _ ⟨_,⟨sv5,hr5,rfl,rfl⟩,rfl⟩
 obtain ⟨x8,h10,H⟩ := Option.bind_eq_some_iff.1 H
 refine ent_op (ot_call0 (first := []) (cap := []) (xs := [.tmp 7]) rfl rfl F_call_9 rfl (words_Bare.spec K x7.2 _ h10)) rfl rfl rfl ?_
 rintro _ _ ⟨rfl,rfl⟩
 refine ent_value (ov_move rfl) rfl rfl rfl (ent_value (ov_extract rfl rfl) rfl rfl rfl (ent_value (ov_extract rfl rfl) rfl rfl rfl (ent_value (ov_assign rfl) rfl rfl rfl (ent_value (ov_assign rfl) rfl rfl rfl (ent_nil (ent_seq (ent_region (ent_value (ov_move rfl) rfl rfl rfl ?_))))))))
 obtain ⟨u4,h12,H⟩ := Option.bind_eq_some_iff.1 H
 refine ent_op (ot_call0 (first := []) (cap := []) (xs := [.tmp 11]) rfl rfl F_call_50 rfl (words_must.spec x8.1 _ h12)) rfl rfl rfl ?_
 rintro _ _ ⟨rfl,rfl⟩
 refine ent_nil (ent_seq (ent_region (ent_value (ov_move rfl) rfl rfl rfl (ent_value (ov_assign rfl) rfl rfl rfl (ent_nil (ent_retc ?_))))))
 cases H
 refine ent_pick [0,1] (by decide) rfl ?_
 exact ret_tmp rfl rfl ⟨_,hr5,rfl,rfl⟩

theorem strings_CutPrefix.spec (a0 a1 : List UInt8) (r : List UInt8 × Bool) (H : strings_CutPrefix a0 a1 = r) : FnSpec Tryd.prog 22 [str a0,str a1] [] (fun v M => v = (tU #[str r.1,bool r.2]) ∧ M = []) := by
 subst H
 exact spec_cutPrefix (fun s p w => Tryd.strings_CutPrefix s p w) a0 a1

theorem words_Number.spec (K : Nat) (a0 : List UInt8) (r : (Int × Bool)) (H : words_Number K a0 = some r) : FnSpec Tryd.prog 7 [str a0] [] (fun v M => v = (tU #[I r.1,bool r.2]) ∧ M = []) := by
 unfold words_Number at H
 refine spec_of Tryd.func7 rfl 73 rfl (Nat.le_of_ble_eq_true rfl) fun F w0 => ?_
 show Ent (St 73 w0 F [(0,str a0)] []) _
 refine ent_seq (ent_region (ent_value (ov_assign rfl) rfl rfl rfl (ent_value (ov_assign rfl) rfl rfl rfl (ent_nil (ent_seq (ent_region (ent_value (ov_move rfl) rfl rfl rfl ?_)))))))
 obtain ⟨x4,h2,H⟩ := thn_elim H
 refine ent_op (ot_call0 (first := []) (cap := []) (xs := [.tmp 10,.const (str ([45] : List UInt8))]) rfl rfl F_call_22 rfl (strings_CutPrefix.spec a0 ([45] : List UInt8) _ h2)) rfl rfl rfl ?_
 rintro _ _ ⟨rfl,rfl⟩
 refine ent_value (ov_move rfl) rfl rfl rfl (ent_value (ov_extract rfl rfl) rfl rfl rfl (ent_value (ov_extract rfl rfl) rfl rfl rfl (ent_value (ov_assign rfl) rfl rfl rfl (ent_value (ov_assign rfl) rfl rfl rfl (ent_nil ?_)))))
 obtain ⟨x5,H13,H⟩ := Option.bind_eq_some_iff.1 H
 refine ent_seq_cut (fun a w => ∃ v3,x5 = Sum.inl v3 ∧ St 73 w0 F [(2,I 0),(4,str x4.1),(5,bool x4.2)] [] a w) ?_ ?_
 ·refine ent_seq (ent_region (ent_value (ov_move rfl) rfl rfl rfl (ent_value (ov_bin rfl rfl (b_eql_str _ _)) rfl rfl rfl (ent_value (ov_move rfl) rfl rfl rfl ?_))))
  refine htT H13 (fun c139 H13 => ?_) fun c139 H13 => ?_
  ·refine ent_off rfl rfl rfl (eq_t c139) rfl rfl ?_
   refine ent_off rfl rfl rfl (eq_t c139) rfl rfl ?_
   refine ent_off rfl rfl rfl (eq_t c139) rfl rfl ?_
   refine ent_off rfl rfl rfl (eq_t c139) rfl rfl ?_
   refine ent_offu rfl rfl rfl rfl rfl ?_
   refine ent_offu rfl rfl rfl rfl rfl ?_
   refine ent_offu rfl rfl rfl rfl rfl ?_
   refine ent_off rfl rfl rfl (eq_t c139) rfl rfl ?_
   refine ent_value (ov_pick rfl rfl rfl (pick_t (eq_t c139))) rfl rfl rfl (ent_value (ov_move rfl) rfl rfl rfl ?_)
   refine ent_off rfl rfl rfl rfl rfl rfl ?_
   refine ent_off rfl rfl rfl rfl rfl rfl ?_
   refine ent_offu rfl rfl rfl rfl rfl ?_
   refine ent_offu rfl rfl rfl rfl rfl ?_
   refine ent_off rfl rfl rfl rfl rfl rfl ?_
   refine ent_value (ov_pick rfl rfl rfl rfl) rfl rfl rfl (ent_nil (ent_cond_true rfl rfl (ent_seq (ent_region (ent_value (ov_assign rfl) rfl rfl rfl (ent_value (ov_assign rfl) rfl rfl rfl (ent_nil (ent_retc ?_))))))))
   cases H13
   have H14 := Option.some.inj (show some _ = some _ from H)
   cases H14
   refine ent_pick [] (by decide) rfl ?_
   exact ret_mem (vs := [I 0,B0]) rfl ⟨rfl,⟨rfl,trivial⟩⟩ _ rfl ⟨rfl,rfl⟩
  refine ent_value_on (ov_move rfl) rfl rfl rfl (eq_f c139) rfl rfl ?_
  refine ent_value_on (ov_lenS rfl Tryd.underlying9) rfl rfl rfl (eq_f c139) rfl rfl ?_
  refine ent_value_on (ov_bin rfl rfl (b_gtr _ _ _)) rfl rfl rfl (eq_f c139) rfl rfl ?_
  refine ent_value_on (ov_move rfl) rfl rfl rfl (eq_f c139) rfl rfl ?_
  refine htF H13 (fun c140 H13 => ?_) fun c140 H13 => ?_
  ·refine ent_off rfl rfl rfl (decide_eq_false c140) rfl rfl ?_
   refine ent_off rfl rfl rfl (decide_eq_false c140) rfl rfl ?_
   refine ent_off rfl rfl rfl (decide_eq_false c140) rfl rfl ?_
   refine ent_value_on (ov_pick rfl rfl rfl (pick_f (decide_eq_false c140))) rfl rfl rfl (eq_f c139) rfl rfl ?_
   refine ent_value (ov_pick rfl rfl rfl (pick_f (eq_f c139))) rfl rfl rfl (ent_value (ov_move rfl) rfl rfl rfl ?_)
   refine ent_value_on (ov_move rfl) rfl rfl rfl rfl rfl rfl ?_
   refine ent_value_on (ov_move rfl) rfl rfl rfl rfl rfl rfl ?_
   refine htF H13 (fun c145 H13 => ?_) fun c145 H13 => ?_
   ·refine ent_off rfl rfl rfl (Bool.eq_false_iff.2 c145) rfl rfl ?_
    refine ent_off rfl rfl rfl (Bool.eq_false_iff.2 c145) rfl rfl ?_
    refine ent_value_on (ov_pick rfl rfl rfl (pick_f (Bool.eq_false_iff.2 c145))) rfl rfl rfl rfl rfl rfl ?_
    refine ent_value (ov_pick rfl rfl rfl rfl) rfl rfl rfl (ent_nil (ent_cond_false rfl rfl (ent_skip ?_)))
    cases H13
    exact ent_fin [] (by decide) rfl (sub_cons (t := 2) rfl (sub_cons (t := 4) rfl (sub_cons (t := 5) rfl (sub_nil _)))) fun a w h => ⟨_,rfl,h⟩
   refine ent_value_on (ov_move rfl) rfl rfl rfl c145 rfl rfl ?_
   refine ent_value_on (ov_bin rfl rfl (b_eql_str _ _)) rfl rfl rfl c145 rfl rfl ?_
   refine ent_value_on (ov_pick rfl rfl rfl (pick_t c145)) rfl rfl rfl rfl rfl rfl ?_
   refine ent_value (ov_pick rfl rfl rfl rfl) rfl rfl rfl (ent_nil ?_)
   refine htF H13 (fun c146 H13 => ?_) fun c146 H13 => ?_
   ·refine ent_cond_false rfl (eq_f c146) (ent_skip ?_)
    cases H13
    exact ent_fin [] (by decide) rfl (sub_cons (t := 2) rfl (sub_cons (t := 4) rfl (sub_cons (t := 5) rfl (sub_nil _)))) fun a w h => ⟨_,rfl,h⟩
   refine ent_cond_true rfl (eq_t c146) (ent_seq (ent_region (ent_value (ov_assign rfl) rfl rfl rfl (ent_value (ov_assign rfl) rfl rfl rfl (ent_nil (ent_retc ?_))))))
   cases H13
   have H17 := Option.some.inj (show some _ = some _ from H)
   cases H17
   refine ent_pick [] (by decide) rfl ?_
   exact ret_mem (vs := [I 0,B0]) rfl ⟨rfl,⟨rfl,trivial⟩⟩ _ rfl ⟨rfl,rfl⟩
  refine ent_value_on (ov_move rfl) rfl rfl rfl (decide_eq_true c140) rfl rfl ?_
  obtain ⟨c141,H13⟩ := gdT H13
  refine ent_value_on (ov_indexS rfl rfl Tryd.underlying9 (by decide) c141) rfl rfl rfl (decide_eq_true c140) rfl rfl ?_
  refine ent_value_on (ov_bin rfl rfl (b_eql _ _ _)) rfl rfl rfl (decide_eq_true c140) rfl rfl ?_
  refine ent_value_on (ov_pick rfl rfl rfl (pick_t (decide_eq_true c140))) rfl rfl rfl (eq_f c139) rfl rfl ?_
  refine ent_value (ov_pick rfl rfl rfl (pick_f (eq_f c139))) rfl rfl rfl (ent_value (ov_move rfl) rfl rfl rfl ?_)
  refine htT H13 (fun c142 H13 => ?_) fun c142 H13 => ?_
  ·refine ent_off rfl rfl rfl (eq_t c142) rfl rfl ?_
   refine ent_off rfl rfl rfl (eq_t c142) rfl rfl ?_
   refine ent_offu rfl rfl rfl rfl rfl ?_
   refine ent_offu rfl rfl rfl rfl rfl ?_
   refine ent_off rfl rfl rfl (eq_t c142) rfl rfl ?_
   refine ent_value (ov_pick rfl rfl rfl (pick_t (eq_t c142))) rfl rfl rfl (ent_nil (ent_cond_true rfl rfl (ent_seq (ent_region (ent_value (ov_assign rfl) rfl rfl rfl (ent_value (ov_assign rfl) rfl rfl rfl (ent_nil (ent_retc ?_))))))))
   cases H13
   have H15 := Option.some.inj (show some _ = some _ from H)
   cases H15
   refine ent_pick [] (by decide) rfl ?_
   exact ret_mem (vs := [I 0,B0]) rfl ⟨rfl,⟨rfl,trivial⟩⟩ _ rfl ⟨rfl,rfl⟩
  refine ent_value_on (ov_move rfl) rfl rfl rfl (eq_f c142) rfl rfl ?_
  refine ent_value_on (ov_move rfl) rfl rfl rfl (eq_f c142) rfl rfl ?_
  refine htF H13 (fun c143 H13 => ?_) fun c143 H13 => ?_
  ·refine ent_off rfl rfl rfl (Bool.eq_false_iff.2 c143) rfl rfl ?_
   refine ent_off rfl rfl rfl (Bool.eq_false_iff.2 c143) rfl rfl ?_
   refine ent_value_on (ov_pick rfl rfl rfl (pick_f (Bool.eq_false_iff.2 c143))) rfl rfl rfl (eq_f c142) rfl rfl ?_
   refine ent_value (ov_pick rfl rfl rfl (pick_f (eq_f c142))) rfl rfl rfl (ent_nil (ent_cond_false rfl rfl (ent_skip ?_)))
   cases H13
   exact ent_fin [] (by decide) rfl (sub_cons (t := 2) rfl (sub_cons (t := 4) rfl (sub_cons (t := 5) rfl (sub_nil _)))) fun a w h => ⟨_,rfl,h⟩
  refine ent_value_on (ov_move rfl) rfl rfl rfl c143 rfl rfl ?_
  refine ent_value_on (ov_bin rfl rfl (b_eql_str _ _)) rfl rfl rfl c143 rfl rfl ?_
  refine ent_value_on (ov_pick rfl rfl rfl (pick_t c143)) rfl rfl rfl (eq_f c142) rfl rfl ?_
  refine ent_value (ov_pick rfl rfl rfl (pick_f (eq_f c142))) rfl rfl rfl (ent_nil ?_)
  refine htF H13 (fun c144 H13 => ?_) fun c144 H13 => ?_
  ·refine ent_cond_false rfl (eq_f c144) (ent_skip ?_)
   cases H13
   exact ent_fin [] (by decide) rfl (sub_cons (t := 2) rfl (sub_cons (t := 4) rfl (sub_cons (t := 5) rfl (sub_nil _)))) fun a w h => ⟨_,rfl,h⟩
  refine ent_cond_true rfl (eq_t c144) (ent_seq (ent_region (ent_value (ov_assign rfl) rfl rfl rfl (ent_value (ov_assign rfl) rfl rfl rfl (ent_nil (ent_retc ?_))))))
  cases H13
  have H16 := Option.some.inj (show some _ = some _ from H)
  cases H16
  refine ent_pick [] (by decide) rfl ?_
  exact ret_mem (vs := [I 0,B0]) rfl ⟨rfl,⟨rfl,trivial⟩⟩ _ rfl ⟨rfl,rfl⟩
 ·refine ent_exi fun v3 => ent_and fun e_ => ?_
  subst e_
  rw [cas_inl] at H
  obtain ⟨x6,H19,H⟩ := Option.bind_eq_some_iff.1 H
  refine ent_seq_cut (fun a w => ∃ v4,x6 = Sum.inl v4 ∧ St 73 w0 F [(2,I v4),(5,bool x4.2)] [] a w) ?_ ?_
  ·refine ent_seq (ent_region (ent_value (ov_move rfl) rfl rfl rfl ?_))
   obtain ⟨c202,H19⟩ := gdT H19
   refine ent_op (ot_s2b rfl Tryd.underlying9 F_slice_56 Tryd.underlying5 c202) rfl rfl rfl ?_
   rintro sv4 _ rfl
   refine ent_value (ov_len 0 rfl F_slice_56 rfl (isRd_frzx 5)) rfl rfl rfl (ent_value (ov_move rfl) rfl rfl rfl (ent_nil (ent_block ?_)))
   refine ent_loop (fun k a w => ∃ i11,∃ i12,words_Number_l0 K x4 k i11 i12 = some x6 ∧ St 73 w0 F [(2,I i11),(5,bool x4.2),(34,sv4),(35,I ((byts x4.1).length : Int)),(36,I i12)] [(frz sv4 5 (byts x4.1).length (fl (eI .u8) (byts x4.1)))] a w) K ?_ ?_
   ·exact ent_fin [0] (by decide) rfl (sub_cons (t := 2) rfl (sub_cons (t := 5) rfl (sub_cons (t := 34) rfl (sub_cons (t := 35) rfl (sub_cons (t := 36) rfl (sub_nil _)))))) fun a w h => ⟨_,_,H19,h⟩
   ·refine fun k => ent_exi fun i11 => ent_exi fun i12 => ent_and fun H20 => ?_
    cases k with
    | zero => exact absurd H20 (by simp [words_Number_l0])
    | succ k =>
     rw [words_Number_l0] at H20
     refine ent_seq (ent_region (ent_value (ov_bin rfl rfl (b_lss _ _ _)) rfl rfl rfl (ent_nil (ent_seq ?_))))
     refine htF H20 (fun c238 H20 => ?_) fun c238 H20 => ?_
     ·refine ent_cond_false rfl (decide_eq_false c238) (ent_exit ?_)
      cases H20
      exact ent_fin [] (by decide) rfl (sub_cons (t := 2) rfl (sub_cons (t := 5) rfl (sub_nil _))) fun a w h => ⟨_,rfl,h⟩
     refine ent_cond_true rfl (decide_eq_true c238) (ent_skip (ent_seq (ent_block (ent_seq (ent_region ?_)))))
     obtain ⟨c248,H20⟩ := gdT H20
     refine ent_value (ov_indexAddr (sz := 0) 0 rfl rfl F_slice_56 F_size_5 rfl (isRd_frzx 5) c248 c238) rfl rfl rfl ?_
     refine ent_value (ov_load (v := (int .u8 ((byts x4.1).getD i12.toNat 0))) rfl F_agg_5 (reads_rd (i := 0) rfl (isRd_frzx 5) (by simp) (fl_read0 (eI_len _) (ix_lt c248 c238) rfl))) rfl rfl rfl ?_
     refine ent_value (ov_assign rfl) rfl rfl rfl (ent_nil (ent_seq (ent_region (ent_value (ov_move rfl) rfl rfl rfl (ent_value (ov_convert rfl (c_int Tryd.underlying5 Tryd.underlying2)) rfl rfl rfl (ent_value (ov_bin rfl rfl (b_sub _ _ _) ) rfl rfl rfl (ent_value (ov_assign rfl) rfl rfl rfl (ent_nil (ent_seq (ent_seq (ent_region ?_)))))))))))
     refine ent_value (ov_move rfl) rfl rfl rfl (ent_value (ov_bin rfl rfl (b_lss _ _ _)) rfl rfl rfl (ent_value (ov_move rfl) rfl rfl rfl ?_))
     refine htT H20 (fun c253 H20 => ?_) fun c253 H20 => ?_
     ·refine ent_off rfl rfl rfl (decide_eq_true c253) rfl rfl ?_
      refine ent_off rfl rfl rfl (decide_eq_true c253) rfl rfl ?_
      refine ent_value (ov_pick rfl rfl rfl (pick_t (decide_eq_true c253))) rfl rfl rfl (ent_value (ov_move rfl) rfl rfl rfl ?_)
      refine ent_off rfl rfl rfl rfl rfl rfl ?_
      refine ent_off rfl rfl rfl rfl rfl rfl ?_
      refine ent_value (ov_pick rfl rfl rfl rfl) rfl rfl rfl (ent_value (ov_move rfl) rfl rfl rfl ?_)
      refine ent_off rfl rfl rfl rfl rfl rfl ?_
      refine ent_off rfl rfl rfl rfl rfl rfl ?_
      refine ent_off rfl rfl rfl rfl rfl rfl ?_
      refine ent_off rfl rfl rfl rfl rfl rfl ?_
      refine ent_off rfl rfl rfl rfl rfl rfl ?_
      refine ent_value (ov_pick rfl rfl rfl rfl) rfl rfl rfl (ent_nil (ent_cond_true rfl rfl (ent_seq (ent_region (ent_value (ov_assign rfl) rfl rfl rfl (ent_value (ov_assign rfl) rfl rfl rfl (ent_nil (ent_retc ?_))))))))
      cases H20
      have H21 := Option.some.inj (show some _ = some _ from H)
      cases H21
      refine ent_pick [] (by decide) rfl ?_
      exact ret_mem (vs := [I 0,B0]) rfl ⟨rfl,⟨rfl,trivial⟩⟩ _ rfl ⟨rfl,rfl⟩
     refine ent_value_on (ov_move rfl) rfl rfl rfl (decide_eq_false c253) rfl rfl ?_
     refine ent_value_on (ov_bin rfl rfl (b_gtr _ _ _)) rfl rfl rfl (decide_eq_false c253) rfl rfl ?_
     refine ent_value (ov_pick rfl rfl rfl (pick_f (decide_eq_false c253))) rfl rfl rfl (ent_value (ov_move rfl) rfl rfl rfl ?_)
     refine htT H20 (fun c254 H20 => ?_) fun c254 H20 => ?_
     ·refine ent_off rfl rfl rfl (decide_eq_true c254) rfl rfl ?_
      refine ent_off rfl rfl rfl (decide_eq_true c254) rfl rfl ?_
      refine ent_value (ov_pick rfl rfl rfl (pick_t (decide_eq_true c254))) rfl rfl rfl (ent_value (ov_move rfl) rfl rfl rfl ?_)
      refine ent_off rfl rfl rfl rfl rfl rfl ?_
      refine ent_off rfl rfl rfl rfl rfl rfl ?_
      refine ent_off rfl rfl rfl rfl rfl rfl ?_
      refine ent_off rfl rfl rfl rfl rfl rfl ?_
      refine ent_off rfl rfl rfl rfl rfl rfl ?_
      refine ent_value (ov_pick rfl rfl rfl rfl) rfl rfl rfl (ent_nil (ent_cond_true rfl rfl (ent_seq (ent_region (ent_value (ov_assign rfl) rfl rfl rfl (ent_value (ov_assign rfl) rfl rfl rfl (ent_nil (ent_retc ?_))))))))
      cases H20
      have H22 := Option.some.inj (show some _ = some _ from H)
      cases H22
      refine ent_pick [] (by decide) rfl ?_
      exact ret_mem (vs := [I 0,B0]) rfl ⟨rfl,⟨rfl,trivial⟩⟩ _ rfl ⟨rfl,rfl⟩
     refine ent_value_on (ov_move rfl) rfl rfl rfl (decide_eq_false c254) rfl rfl ?_
     refine ent_value_on (ov_bin rfl rfl (b_lss _ _ _)) rfl rfl rfl (decide_eq_false c254) rfl rfl ?_
     refine ent_value (ov_pick rfl rfl rfl (pick_f (decide_eq_false c254))) rfl rfl rfl (ent_value (ov_move rfl) rfl rfl rfl ?_)
     refine htT H20 (fun c255 H20 => ?_) fun c255 H20 => ?_
     ·refine ent_off rfl rfl rfl (decide_eq_true c255) rfl rfl ?_
      refine ent_off rfl rfl rfl (decide_eq_true c255) rfl rfl ?_
      refine ent_off rfl rfl rfl (decide_eq_true c255) rfl rfl ?_
      refine ent_off rfl rfl rfl (decide_eq_true c255) rfl rfl ?_
      refine ent_off rfl rfl rfl (decide_eq_true c255) rfl rfl ?_
      refine ent_value (ov_pick rfl rfl rfl (pick_t (decide_eq_true c255))) rfl rfl rfl (ent_nil (ent_cond_true rfl rfl (ent_seq (ent_region (ent_value (ov_assign rfl) rfl rfl rfl (ent_value (ov_assign rfl) rfl rfl rfl (ent_nil (ent_retc ?_))))))))
      cases H20
      have H23 := Option.some.inj (show some _ = some _ from H)
      cases H23
      refine ent_pick [] (by decide) rfl ?_
      exact ret_mem (vs := [I 0,B0]) rfl ⟨rfl,⟨rfl,trivial⟩⟩ _ rfl ⟨rfl,rfl⟩
     refine ent_value_on (ov_move rfl) rfl rfl rfl (decide_eq_false c255) rfl rfl ?_
     refine ent_value_on (ov_bin rfl rfl (b_mul _ _ _) ) rfl rfl rfl (decide_eq_false c255) rfl rfl ?_
     refine ent_value_on (ov_move rfl) rfl rfl rfl (decide_eq_false c255) rfl rfl ?_
     refine ent_value_on (ov_bin rfl rfl (b_add _ _ _) ) rfl rfl rfl (decide_eq_false c255) rfl rfl ?_
     refine ent_value_on (ov_bin rfl rfl (b_lss _ _ _)) rfl rfl rfl (decide_eq_false c255) rfl rfl ?_
     refine ent_value (ov_pick rfl rfl rfl (pick_f (decide_eq_false c255))) rfl rfl rfl (ent_nil ?_)
     refine htT H20 (fun c256 H20 => ?_) fun c256 H20 => ?_
     ·refine ent_cond_true rfl (decide_eq_true c256) (ent_seq (ent_region (ent_value (ov_assign rfl) rfl rfl rfl (ent_value (ov_assign rfl) rfl rfl rfl (ent_nil (ent_retc ?_))))))
      cases H20
      have H24 := Option.some.inj (show some _ = some _ from H)
      cases H24
      refine ent_pick [] (by decide) rfl ?_
      exact ret_mem (vs := [I 0,B0]) rfl ⟨rfl,⟨rfl,trivial⟩⟩ _ rfl ⟨rfl,rfl⟩
     refine ent_cond_false rfl (decide_eq_false c256) (ent_skip (ent_region (ent_value (ov_move rfl) rfl rfl rfl (ent_value (ov_bin rfl rfl (b_mul _ _ _) ) rfl rfl rfl (ent_value (ov_move rfl) rfl rfl rfl (ent_value (ov_bin rfl rfl (b_sub _ _ _) ) rfl rfl rfl (ent_value (ov_assign rfl) rfl rfl rfl (ent_nil (ent_region (ent_value (ov_bin rfl rfl (b_add _ _ _) ) rfl rfl rfl (ent_value (ov_move rfl) rfl rfl rfl ?_)))))))))))
     refine ent_nil ?_
     exact ent_fin [0] (by decide) rfl (sub_cons (t := 2) rfl (sub_cons (t := 5) rfl (sub_cons (t := 34) rfl (sub_cons (t := 35) rfl (sub_cons (t := 36) rfl (sub_nil _)))))) fun a w h => ⟨k,Nat.lt_succ_self k,_,_,H20,h⟩
  ·refine ent_exi fun v4 => ent_and fun e_ => ?_
   subst e_
   rw [cas_inl] at H
   refine ent_seq (ent_block (ent_seq (ent_region (ent_value (ov_move rfl) rfl rfl rfl (ent_value (ov_assign rfl) rfl rfl rfl (ent_nil ?_))))))
   refine htT H (fun c259 H => ?_) fun c259 H => ?_
   ·refine ent_cond_true rfl c259 (ent_seq (ent_region (ent_value (ov_move rfl) rfl rfl rfl (ent_value (ov_assign rfl) rfl rfl rfl (ent_value (ov_assign rfl) rfl rfl rfl (ent_nil (ent_retc ?_)))))))
    cases H
    refine ent_pick [] (by decide) rfl ?_
    exact ret_mem (vs := [I v4,bool true]) rfl ⟨rfl,⟨rfl,trivial⟩⟩ _ rfl ⟨rfl,rfl⟩
   refine ent_cond_false rfl (Bool.eq_false_iff.2 c259) (ent_seq (ent_region (ent_value (ov_move rfl) rfl rfl rfl (ent_value (ov_bin rfl rfl (b_eql _ _ _)) rfl rfl rfl (ent_value (ov_assign rfl) rfl rfl rfl (ent_nil ?_))))))
   refine htT H (fun c260 H => ?_) fun c260 H => ?_
   ·refine ent_cond_true rfl (eq_t c260) (ent_seq (ent_region (ent_value (ov_assign rfl) rfl rfl rfl (ent_value (ov_assign rfl) rfl rfl rfl (ent_nil (ent_retc ?_))))))
    cases H
    refine ent_pick [] (by decide) rfl ?_
    exact ret_mem (vs := [I 0,B0]) rfl ⟨rfl,⟨rfl,trivial⟩⟩ _ rfl ⟨rfl,rfl⟩
   refine ent_cond_false rfl (eq_f c260) (ent_skip (ent_seq (ent_region (ent_value (ov_move rfl) rfl rfl rfl (ent_value (ov_un rfl (u_neg _ _)) rfl rfl rfl (ent_value (ov_assign rfl) rfl rfl rfl (ent_value (ov_assign rfl) rfl rfl rfl (ent_nil (ent_retc ?_)))))))))
   cases H
   refine ent_pick [] (by decide) rfl ?_
   exact ret_mem (vs := [I (w64 (0 - v4)),bool true]) rfl ⟨rfl,⟨rfl,trivial⟩⟩ _ rfl ⟨rfl,rfl⟩

theorem words_reader_num_R.spec (K p0 : Nat) (sv0 : Value) (A0 : HP) (l0 : List (List UInt8)) (p0_1 : Int) (hA0 : IsRd A0 sv0 l0.length 1 (fl eS l0)) (r : ((List (List UInt8)) × Int)) (H : words_reader_num_R K l0 p0_1 = some r) : FnSpec Tryd.prog 46 [pt p0 0] [box p0 72 [sv0,I p0_1],A0] (fun v M => ∃ sv3 : Value,IsRd A0 sv3 r.1.length 1 (fl eS r.1) ∧ v = (I r.2) ∧ M = [box p0 72 [sv3,I p0_1],A0]) := by
 unfold words_reader_num_R at H
 refine spec_of Tryd.func46 rfl 14 rfl (Nat.le_of_ble_eq_true rfl) fun F w0 => ?_
 show Ent (St 14 w0 F [(0,pt p0 0)] [box p0 72 [sv0,I p0_1],A0]) _
 refine ent_seq (ent_region (ent_value (ov_assign rfl) rfl rfl rfl (ent_nil (ent_seq (ent_region (ent_value (ov_move rfl) rfl rfl rfl ?_))))))
 obtain ⟨x7,h9,H⟩ := Option.bind_eq_some_iff.1 H
 refine ent_op (ot_call (Lr := []) (first := []) (cap := []) (xs := [.tmp 6]) rfl rfl F_call_42 rfl (words_reader_word_R.spec p0 sv0 A0 l0 p0_1 hA0 _ h9) rfl) rfl rfl rfl ?_
 rintro _ _ ⟨_,⟨sv5,hr5,rfl,rfl⟩,rfl⟩
 obtain ⟨x8,h10,H⟩ := Option.bind_eq_some_iff.1 H
 refine ent_op (ot_call0 (first := []) (cap := []) (xs := [.tmp 7]) rfl rfl F_call_7 rfl (words_Number.spec K x7.2 _ h10)) rfl rfl rfl ?_
 rintro _ _ ⟨rfl,rfl⟩
 refine ent_value (ov_move rfl) rfl rfl rfl (ent_value (ov_extract rfl rfl) rfl rfl rfl (ent_value (ov_extract rfl rfl) rfl rfl rfl (ent_value (ov_assign rfl) rfl rfl rfl (ent_value (ov_assign rfl) rfl rfl rfl (ent_nil (ent_seq (ent_region (ent_value (ov_move rfl) rfl rfl rfl ?_))))))))
 obtain ⟨u4,h12,H⟩ := Option.bind_eq_some_iff.1 H
 refine ent_op (ot_call0 (first := []) (cap := []) (xs := [.tmp 11]) rfl rfl F_call_50 rfl (words_must.spec x8.2 _ h12)) rfl rfl rfl ?_
 rintro _ _ ⟨rfl,rfl⟩
 refine ent_nil (ent_seq (ent_region (ent_value (ov_move rfl) rfl rfl rfl (ent_value (ov_assign rfl) rfl rfl rfl (ent_nil (ent_retc ?_))))))
 cases H
 refine ent_pick [0,1] (by decide) rfl ?_
 exact ret_tmp rfl rfl ⟨_,hr5,rfl,rfl⟩

theorem words_reader_facts_R.spec (K p0 : Nat) (sv0 : Value) (A0 : HP) (l0 : List (List UInt8)) (p0_1 : Int) (hA0 : IsRd A0 sv0 l0.length 1 (fl eS l0)) (r : ((List Api_Fact) × (List (List UInt8)))) (H : words_reader_facts_R K l0 p0_1 = some r) : FnSpec Tryd.prog 43 [pt p0 0] [box p0 72 [sv0,I p0_1],A0] (fun v M => ∃ sv263 : Value,∃ sv264 : Value,IsRd A0 sv264 r.2.length 1 (fl eS r.2) ∧ v = sv263 ∧ M = [box p0 72 [sv264,I p0_1],A0,own sv263 54 6 r.1.length (fl enc_Api_Fact r.1)]) := by
 unfold words_reader_facts_R at H
 refine spec_of Tryd.func43 rfl 53 rfl (Nat.le_of_ble_eq_true rfl) fun F w0 => ?_
 show Ent (St 53 w0 F [(0,pt p0 0)] [box p0 72 [sv0,I p0_1],A0]) _
 refine ent_seq (ent_region (ent_value (ov_assign rfl) rfl rfl rfl (ent_nil (ent_scope (ent_seq (ent_region (ent_value (ov_move rfl) rfl rfl rfl (ent_value (ov_makeFunc (first := [.tmp 8]) (cap := []) rfl rfl) rfl rfl rfl (ent_value (ov_assign rfl) rfl rfl rfl (ent_nil (ent_seq ?_)))))))))))
 refine ent_label (ent_seq (ent_block ?_))
 refine ent_loop (fun k a w => ∃ l39,∃ l40,∃ sv439 : Value,∃ sv440 : Value,IsRd A0 sv439 l39.length 1 (fl eS l39) ∧ words_reader_facts_R_l0 K p0_1 k l39 l40 = some r ∧ St 53 w0 F [(0,pt p0 0),(2,sv440),(3,(Value.func (.func 68) #[pt p0 0] #[]))] [box p0 72 [sv439,I p0_1],A0,own sv440 54 6 l40.length (fl enc_Api_Fact l40)] a w) K ?_ ?_
 ·refine ent_ownnil 54 6 ?_
  exact ent_fin [1,2,0] (by decide) rfl (sub_cons (t := 0) rfl (sub_cons (t := 2) rfl (sub_cons (t := 3) rfl (sub_nil _)))) fun a w h => ⟨_,_,_,_,hA0,H,h⟩
 ·refine fun k => ent_exi fun l39 => ent_exi fun l40 => ent_exi fun sv439 => ent_exi fun sv440 => ent_and fun hr395 => ent_and fun H37 => ?_
  cases k with
  | zero => exact absurd H37 (by simp [words_reader_facts_R_l0])
  | succ k =>
   rw [words_reader_facts_R_l0] at H37
   refine ent_block (ent_seq (ent_seq (ent_region (ent_value (ov_move rfl) rfl rfl rfl (ent_value (ov_nilCheck rfl) rfl rfl rfl (ent_value (ov_fieldAddr (sz := 0) (o := 0) rfl F_field_72_0 F_size_29) rfl rfl rfl (ent_value (ov_load (v := sv439) rfl F_agg_29 (reads_box1 (i := 0) rfl rfl)) rfl rfl rfl (ent_value (ov_len 1 rfl F_slice_29 rfl hr395) rfl rfl rfl (ent_value (ov_bin rfl rfl (b_eql _ _ _)) rfl rfl rfl (ent_nil ?_))))))))))
   refine htT H37 (fun c838 H37 => ?_) fun c838 H37 => ?_
   ·refine ent_cond_true rfl (eq_t c838) (ent_exit (ent_seq (ent_region (ent_value (ov_move rfl) rfl rfl rfl (ent_value (ov_assign rfl) rfl rfl rfl (ent_nil (ent_retc ?_)))))))
    cases H37
    refine ent_pick [0,1,2] (by decide) rfl ?_
    exact ret_tmp rfl rfl ⟨_,_,hr395,rfl,rfl⟩
   refine ent_cond_false rfl (eq_f c838) (ent_skip (ent_seq (ent_region (ent_value (ov_move rfl) rfl rfl rfl (ent_value (ov_len 2 rfl F_slice_32 rfl (isRd_ownx 54)) rfl rfl rfl (ent_value (ov_bin rfl rfl (b_lss _ _ _)) rfl rfl rfl ?_))))))
   obtain ⟨u49,h464,H37⟩ := Option.bind_eq_some_iff.1 H37
   refine ent_op (ot_call0 (first := []) (cap := []) (xs := [.tmp 18]) rfl rfl F_call_50 rfl (words_must.spec (decide ((l40.length : Int) < 50)) _ h464)) rfl rfl rfl ?_
   rintro _ _ ⟨rfl,rfl⟩
   refine ent_nil (ent_seq (ent_region (ent_value (ov_move rfl) rfl rfl rfl ?_)))
   obtain ⟨x432,h467,H37⟩ := Option.bind_eq_some_iff.1 H37
   refine ent_op (ot_call (Lr := [own sv440 54 6 l40.length (fl enc_Api_Fact l40)]) (first := []) (cap := []) (xs := [.tmp 21]) rfl rfl F_call_42 rfl (words_reader_word_R.spec p0 sv439 A0 l39 p0_1 hr395 _ h467) rfl) rfl rfl rfl ?_
   rintro _ _ ⟨_,⟨sv485,hr436,rfl,rfl⟩,rfl⟩
   obtain ⟨x433,h468,H37⟩ := Option.bind_eq_some_iff.1 H37
   refine ent_op (ot_call0 (first := []) (cap := []) (xs := [.tmp 22]) rfl rfl F_call_69 rfl (civil_Parse.spec K x432.2 _ h468)) rfl rfl rfl ?_
   rintro _ _ ⟨rfl,rfl⟩
   refine ent_value (ov_move rfl) rfl rfl rfl (ent_value (ov_extract rfl rfl) rfl rfl rfl (ent_value (ov_extract rfl rfl) rfl rfl rfl (ent_value (ov_assign rfl) rfl rfl rfl (ent_value (ov_assign rfl) rfl rfl rfl (ent_nil (ent_seq (ent_region (ent_value (ov_move rfl) rfl rfl rfl ?_))))))))
   obtain ⟨u51,h470,H37⟩ := Option.bind_eq_some_iff.1 H37
   refine ent_op (ot_call0 (first := []) (cap := []) (xs := [.tmp 26]) rfl rfl F_call_50 rfl (words_must.spec x433.2 _ h470)) rfl rfl rfl ?_
   rintro _ _ ⟨rfl,rfl⟩
   refine ent_nil (ent_seq (ent_region (ent_value (ov_move rfl) rfl rfl rfl (ent_value (ov_build (is := [0]) (xs := [.tmp 28]) (vs := [I x433.1]) rfl rfl (build_struct (cs := [I x433.1,S0,S0,S0,S0]) F_zero_52 F_places_52 rfl)) rfl rfl rfl ?_))))
   refine ent_value (ov_build (is := [0]) (xs := [.tmp 29]) (vs := [agg #[I x433.1,S0,S0,S0,S0]]) rfl rfl (build_struct (cs := [I x433.1,S0,S0,S0,S0,I 0]) F_zero_54 F_places_54 (by simp [Instr.fill,cells_int,cells_bool,cells_str,cells_func,cells_slice,cells_ptr,cells_nilFunc,cells_agg,]))) rfl rfl rfl ?_
   refine ent_op (ot_alloc F_zero_54) rfl rfl rfl ?_
   rintro _ _ ⟨b35,rfl,rfl⟩
   refine ent_op0 (ot_storeG (cs := [I 0,S0,S0,S0,S0,I 0]) (cs' := [I x433.1,S0,S0,S0,S0,I 0]) (us := [I x433.1,S0,S0,S0,S0,I 0]) (L' := [box b35 54 [I x433.1,S0,S0,S0,S0,I 0],box p0 72 [sv485,I p0_1],A0,own sv440 54 6 l40.length (fl enc_Api_Fact l40)]) 0 rfl rfl rfl (one_all rfl) F_size_54 rfl rfl (by simp) rfl) rfl rfl ?_
   rintro _ _ rfl
   refine ent_nil ?_
   obtain ⟨x450,H39,H37⟩ := Option.bind_eq_some_iff.1 H37
   let C2_ : List Value := [I x433.1,str x450.2.1,str x450.2.2.1,str x450.2.2.2.1,str x450.2.2.2.2,I 0]
   refine ent_seq_cut (fun a w => ∃ b36 : Nat,∃ sv503 : Value,IsRd A0 sv503 x450.1.length 1 (fl eS x450.1) ∧ St 53 w0 F [(0,pt p0 0),(2,sv440),(3,(Value.func (.func 68) #[pt p0 0] #[])),(6,pt b36 0)] [box p0 72 [sv503,I p0_1],A0,own sv440 54 6 l40.length (fl enc_Api_Fact l40),box b36 54 C2_] a w) ?_ ?_
   ·refine ent_seq (ent_region (ent_value (ov_move rfl) rfl rfl rfl (ent_value (ov_nilCheck rfl) rfl rfl rfl (ent_value (ov_fieldAddr (sz := 0) (o := 0) rfl F_field_72_1 F_size_3) rfl rfl rfl (ent_value (ov_load (v := (I p0_1)) rfl F_agg_3 (reads_box1 (i := 1) rfl rfl)) rfl rfl rfl (ent_value (ov_move rfl) rfl rfl rfl (ent_nil (ent_block ?_))))))))
    refine ent_loop (fun k a w => ∃ i26,∃ l46,∃ t141,∃ t142,∃ t143,∃ t144,∃ sv508 : Value,IsRd A0 sv508 l46.length 1 (fl eS l46) ∧ words_reader_facts_R_l1 K p0_1 k i26 l46 t141 t142 t143 t144 = some x450 ∧ St 53 w0 F [(0,pt p0 0),(2,sv440),(3,(Value.func (.func 68) #[pt p0 0] #[])),(6,pt b35 0),(34,I p0_1),(35,I i26)] [box p0 72 [sv508,I p0_1],A0,own sv440 54 6 l40.length (fl enc_Api_Fact l40),box b35 54 [I x433.1,str t141,str t142,str t143,str t144,I 0]] a w) K ?_ ?_
    ·exact ent_fin [1,2,3,0] (by decide) rfl (sub_cons (t := 0) rfl (sub_cons (t := 2) rfl (sub_cons (t := 3) rfl (sub_cons (t := 6) rfl (sub_cons (t := 34) rfl (sub_cons (t := 35) rfl (sub_nil _))))))) fun a w h => ⟨_,_,_,_,_,_,_,hr436,H39,h⟩
    ·refine fun k => ent_exi fun i26 => ent_exi fun l46 => ent_exi fun t141 => ent_exi fun t142 => ent_exi fun t143 => ent_exi fun t144 => ent_exi fun sv508 => ent_and fun hr459 => ent_and fun H40 => ?_
     let C1_ : List Value := [I x433.1,str t141,str t142,str t143,str t144,I 0]
     cases k with
     | zero => exact absurd H40 (by simp [C2_,C1_,words_reader_facts_R_l1])
     | succ k =>
      rw [words_reader_facts_R_l1] at H40
      refine ent_seq (ent_region (ent_value (ov_bin rfl rfl (b_lss _ _ _)) rfl rfl rfl (ent_nil (ent_seq ?_))))
      refine htF H40 (fun c902 H40 => ?_) fun c902 H40 => ?_
      ·refine ent_cond_false rfl (decide_eq_false c902) (ent_exit ?_)
       cases H40
       exact ent_fin [0,1,2,3] (by decide) rfl (sub_cons (t := 0) rfl (sub_cons (t := 2) rfl (sub_cons (t := 3) rfl (sub_cons (t := 6) rfl (sub_nil _))))) fun a w h => ⟨_,_,hr459,h⟩
      refine ent_cond_true rfl (decide_eq_true c902) (ent_skip (ent_seq (ent_block (ent_seq (ent_region (ent_value (ov_move rfl) rfl rfl rfl (ent_value (ov_assign rfl) rfl rfl rfl (ent_nil (ent_region (ent_value (ov_move rfl) rfl rfl rfl (ent_value (ov_move rfl) rfl rfl rfl ?_)))))))))))
      obtain ⟨x466,h502,H40⟩ := Option.bind_eq_some_iff.1 H40
      refine ent_op (ot_call (Lr := [own sv440 54 6 l40.length (fl enc_Api_Fact l40),box b35 54 C1_]) (first := [pt p0 0]) (cap := []) (xs := []) rfl rfl F_call_68 rfl (words_reader_text_R.spec K p0 sv508 A0 l46 p0_1 hr459 _ h502) rfl) rfl rfl rfl ?_
      rintro _ _ ⟨_,⟨sv520,hr471,rfl,rfl⟩,rfl⟩
      refine ent_value (ov_fieldAddr (sz := 4) (o := 0) rfl F_field_54_0 F_size_52) rfl rfl rfl (ent_value (ov_fieldAddr (sz := 3) (o := 0) rfl F_field_52_1 F_size_34) rfl rfl rfl ?_)
      obtain ⟨c909,H40⟩ := gdT H40
      obtain ⟨c910,H40⟩ := gdT H40
      refine ent_value (ov_indexArr (o := 1) rfl rfl F_array_34 F_size_9 c909 c910) rfl rfl rfl ?_
      refine ent_op0 (ot_store (cs := C1_) (cs' := [I x433.1,str (if i26.toNat = 0 then x466.2 else t141),str (if i26.toNat = 1 then x466.2 else t142),str (if i26.toNat = 2 then x466.2 else t143),str (if i26.toNat = 3 then x466.2 else t144),I 0]) (us := [str x466.2]) (L' := [box p0 72 [sv520,I p0_1],A0,own sv440 54 6 l40.length (fl enc_Api_Fact l40),box b35 54 [I x433.1,str (if i26.toNat = 0 then x466.2 else t141),str (if i26.toNat = 1 then x466.2 else t142),str (if i26.toNat = 2 then x466.2 else t143),str (if i26.toNat = 3 then x466.2 else t144),I 0]]) 3 rfl rfl rfl (all_one rfl) F_size_9 rfl (cases4 (fun i_ => List.take (1 + i_ * 1) C1_ ++ [str x466.2] ++ List.drop (1 + i_ * 1 + List.length [str x466.2]) C1_ = [I x433.1,str (if i_ = 0 then x466.2 else t141),str (if i_ = 1 then x466.2 else t142),str (if i_ = 2 then x466.2 else t143),str (if i_ = 3 then x466.2 else t144),I 0]) (ix_lt c909 c910) rfl rfl rfl rfl) (cases4 (fun i_ => 1 + i_ * 1 + List.length [str x466.2] ≤ List.length C1_) (ix_lt c909 c910) (Nat.le_of_ble_eq_true rfl) (Nat.le_of_ble_eq_true rfl) (Nat.le_of_ble_eq_true rfl) (Nat.le_of_ble_eq_true rfl)) rfl) rfl rfl ?_
      rintro _ _ rfl
      refine ent_nil (ent_region (ent_value (ov_bin rfl rfl (b_add _ _ _) ) rfl rfl rfl (ent_value (ov_move rfl) rfl rfl rfl (ent_nil ?_))))
      exact ent_fin [0,1,2,3] (by decide) rfl (sub_cons (t := 0) rfl (sub_cons (t := 2) rfl (sub_cons (t := 3) rfl (sub_cons (t := 6) rfl (sub_cons (t := 34) rfl (sub_cons (t := 35) rfl (sub_nil _))))))) fun a w h => ⟨k,Nat.lt_succ_self k,_,_,_,_,_,_,_,hr471,H40,h⟩
   ·refine ent_exi fun b36 => ent_exi fun sv503 => ent_and fun hr454 => ?_
    refine ent_seq (ent_region (ent_value (ov_move rfl) rfl rfl rfl ?_))
    obtain ⟨x468,h504,H37⟩ := Option.bind_eq_some_iff.1 H37
    let C0_ : List Value := [I x433.1,str x450.2.1,str x450.2.2.1,str x450.2.2.2.1,str x450.2.2.2.2,I x468.2]
    refine ent_op (ot_call (Lr := [own sv440 54 6 l40.length (fl enc_Api_Fact l40),box b36 54 C2_]) (first := []) (cap := []) (xs := [.tmp 45]) rfl rfl F_call_46 rfl (words_reader_num_R.spec K p0 sv503 A0 x450.1 p0_1 hr454 _ h504) rfl) rfl rfl rfl ?_
    rintro _ _ ⟨_,⟨sv522,hr473,rfl,rfl⟩,rfl⟩
    refine ent_value (ov_fieldAddr (sz := 0) (o := 0) rfl F_field_54_1 F_size_2) rfl rfl rfl ?_
    refine ent_op0 (ot_storeG (cs := C2_) (cs' := C0_) (us := [I x468.2]) (L' := [box p0 72 [sv522,I p0_1],A0,own sv440 54 6 l40.length (fl enc_Api_Fact l40),box b36 54 C0_]) 3 rfl rfl rfl (one_all rfl) F_size_2 rfl rfl (by simp [C2_,C0_]) rfl) rfl rfl ?_
    rintro _ _ rfl
    refine ent_nil (ent_region (ent_value (ov_move rfl) rfl rfl rfl (ent_value (ov_load_agg (vs := C0_) rfl F_agg_54 F_size_54 (reads_boxW (i := 3) rfl)) rfl rfl rfl ?_)))
    refine ent_op (ot_buildSlice (sz := 5) (xs := [.tmp 49]) (cs := fl enc_Api_Fact [(⟨(⟨x433.1,x450.2.1,x450.2.2.1,x450.2.2.2.1,x450.2.2.2.2⟩ : Api_Key),x468.2⟩ : Api_Fact)]) rfl rfl F_slice_32 F_size_54 F_zero_54 rfl rfl (all_size rfl) rfl (by decide)) rfl rfl rfl ?_
    rintro sv525 _ rfl
    obtain ⟨c912,H37⟩ := gdT H37
    refine ent_op (ot_appendx (sz := 5) (xs := l40) (ys := [(⟨(⟨x433.1,x450.2.1,x450.2.2.1,x450.2.2.2.1,x450.2.2.2.2⟩ : Api_Key),x468.2⟩ : Api_Fact)]) 3 0 rfl rfl F_slice_32 F_size_54 F_zero_54 rfl F_bytes_54 rfl rfl rfl (isRd_ownx 54) rfl enc_Api_Fact_one c912) rfl rfl rfl ?_
    rintro sv526 _ rfl
    refine ent_L [own sv525 54 6 [(⟨(⟨x433.1,x450.2.1,x450.2.2.1,x450.2.2.2.1,x450.2.2.2.2⟩ : Api_Key),x468.2⟩ : Api_Fact)].length (fl enc_Api_Fact [(⟨(⟨x433.1,x450.2.1,x450.2.2.1,x450.2.2.2.1,x450.2.2.2.2⟩ : Api_Key),x468.2⟩ : Api_Fact)]),box p0 72 [sv522,I p0_1],A0,own sv526 54 6 (l40 ++ [(⟨(⟨x433.1,x450.2.1,x450.2.2.1,x450.2.2.2.1,x450.2.2.2.2⟩ : Api_Key),x468.2⟩ : Api_Fact)]).length (fl enc_Api_Fact (l40 ++ [(⟨(⟨x433.1,x450.2.1,x450.2.2.1,x450.2.2.2.1,x450.2.2.2.2⟩ : Api_Key),x468.2⟩ : Api_Fact)])),box b36 54 C0_] rfl ?_
    refine ent_value (ov_assign rfl) rfl rfl rfl (ent_nil ?_)
    exact ent_fin [1,2,3] (by decide) rfl (sub_cons (t := 0) rfl (sub_cons (t := 2) rfl (sub_cons (t := 3) rfl (sub_nil _)))) fun a w h => ⟨k,Nat.lt_succ_self k,_,_,_,_,hr473,H37,h⟩

theorem script_bare_ON.spec (sv0 : Value) (l0 : List Api_Fact) (r : (Int × Int × Int × Int × Bool × Bool × Bool × Bool × Bool × Bool × Bool × Bool × (List UInt8) × (List UInt8) × (List UInt8) × (List UInt8) × Int × Int × Int × Int × Int × Int × Int × Int × Int)) (H : script_bare_ON l0 = r) : FnSpec Tryd.prog 70 [agg #[I 1,I 0,sv0,I 0,I 0,B0,B0,B0,B0,B0,B0,B0,B0,S0,S0,S0,S0,I 0,I 0,I 0,I 0,I 0,I 0,I 0,I 0,I 0,L0]] [own sv0 54 6 l0.length (fl enc_Api_Fact l0)] (fun v M => v = (agg #[I r.1,I r.2.1,L0,I r.2.2.1,I r.2.2.2.1,bool r.2.2.2.2.1,bool r.2.2.2.2.2.1,bool r.2.2.2.2.2.2.1,bool r.2.2.2.2.2.2.2.1,bool r.2.2.2.2.2.2.2.2.1,bool r.2.2.2.2.2.2.2.2.2.1,bool r.2.2.2.2.2.2.2.2.2.2.1,bool r.2.2.2.2.2.2.2.2.2.2.2.1,str r.2.2.2.2.2.2.2.2.2.2.2.2.1,str r.2.2.2.2.2.2.2.2.2.2.2.2.2.1,str r.2.2.2.2.2.2.2.2.2.2.2.2.2.2.1,str r.2.2.2.2.2.2.2.2.2.2.2.2.2.2.2.1,I r.2.2.2.2.2.2.2.2.2.2.2.2.2.2.2.2.1,I r.2.2.2.2.2.2.2.2.2.2.2.2.2.2.2.2.2.1,I r.2.2.2.2.2.2.2.2.2.2.2.2.2.2.2.2.2.2.1,I r.2.2.2.2.2.2.2.2.2.2.2.2.2.2.2.2.2.2.2.1,I r.2.2.2.2.2.2.2.2.2.2.2.2.2.2.2.2.2.2.2.2.1,I r.2.2.2.2.2.2.2.2.2.2.2.2.2.2.2.2.2.2.2.2.2.1,I r.2.2.2.2.2.2.2.2.2.2.2.2.2.2.2.2.2.2.2.2.2.2.1,I r.2.2.2.2.2.2.2.2.2.2.2.2.2.2.2.2.2.2.2.2.2.2.2.1,I r.2.2.2.2.2.2.2.2.2.2.2.2.2.2.2.2.2.2.2.2.2.2.2.2,L0]) ∧ M = [own sv0 54 6 l0.length (fl enc_Api_Fact l0)]) := by
 unfold script_bare_ON at H
 refine spec_of Tryd.func70 rfl 26 rfl (Nat.le_of_ble_eq_true rfl) fun F w0 => ?_
 let C2_ : List Value := [I 0,I 0,L0,I 0,I 0,B0,B0,B0,B0,B0,B0,B0,B0,S0,S0,S0,S0,I 0,I 0,I 0,I 0,I 0,I 0,I 0,I 0,I 0,L0]
 let C1_ : List Value := [I 1,I 0,sv0,I 0,I 0,B0,B0,B0,B0,B0,B0,B0,B0,S0,S0,S0,S0,I 0,I 0,I 0,I 0,I 0,I 0,I 0,I 0,I 0,L0]
 let C0_ : List Value := [I 1,I 0,L0,I 0,I 0,B0,B0,B0,B0,B0,B0,B0,B0,S0,S0,S0,S0,I 0,I 0,I 0,I 0,I 0,I 0,I 0,I 0,I 0,L0]
 show Ent (St 26 w0 F [(0,agg #[I 1,I 0,sv0,I 0,I 0,B0,B0,B0,B0,B0,B0,B0,B0,S0,S0,S0,S0,I 0,I 0,I 0,I 0,I 0,I 0,I 0,I 0,I 0,L0])] [own sv0 54 6 l0.length (fl enc_Api_Fact l0)]) _
 refine ent_seq (ent_region ?_)
 refine ent_op (ot_box (cs := C1_) rfl rfl) rfl rfl rfl ?_
 rintro _ _ ⟨b3,rfl,rfl⟩
 refine ent_op (ot_alloc F_zero_41) rfl rfl rfl ?_
 rintro _ _ ⟨b4,rfl,rfl⟩
 refine ent_nil (ent_seq (ent_seq (ent_region (ent_value (ov_fieldAddr (sz := 0) (o := 0) rfl F_field_41_0 F_size_3) rfl rfl rfl (ent_value (ov_load (v := (I 1)) rfl F_agg_3 (reads_box1 (i := 1) rfl rfl)) rfl rfl rfl (ent_nil (ent_block (ent_seq (ent_region (ent_value (ov_bin rfl rfl (b_eql _ _ _)) rfl rfl rfl (ent_value (ov_assign rfl) rfl rfl rfl ?_)))))))))))
 refine ent_nil (ent_cond_true rfl rfl (ent_region (ent_value (ov_fieldAddr (sz := 0) (o := 0) rfl F_field_41_2 F_size_32) rfl rfl rfl ?_)))
 refine ent_op0 (ot_storeG (cs := C1_) (cs' := C0_) (us := [L0]) (L' := [box b4 41 C2_,box b3 41 C0_,own sv0 54 6 l0.length (fl enc_Api_Fact l0)]) 1 rfl rfl rfl (one_all rfl) F_size_32 rfl rfl (by simp [C2_,C1_,C0_]) rfl) rfl rfl ?_
 rintro _ _ rfl
 refine ent_nil (ent_seq (ent_region (ent_value (ov_load_agg (vs := C0_) rfl F_agg_41 F_size_41 (reads_boxW (i := 1) rfl)) rfl rfl rfl ?_)))
 refine ent_op0 (ot_storeG (cs := C2_) (cs' := C0_) (us := C0_) (L' := [box b4 41 C0_,box b3 41 C0_,own sv0 54 6 l0.length (fl enc_Api_Fact l0)]) 0 rfl rfl rfl (one_all rfl) F_size_41 rfl rfl (by simp [C2_,C1_,C0_]) rfl) rfl rfl ?_
 rintro _ _ rfl
 refine ent_nil (ent_retc ?_)
 subst H
 exact ret_memp [2] (by decide) rfl (vs := [agg #[I 1,I 0,L0,I 0,I 0,B0,B0,B0,B0,B0,B0,B0,B0,S0,S0,S0,S0,I 0,I 0,I 0,I 0,I 0,I 0,I 0,I 0,I 0,L0]]) rfl ⟨⟨_,C0_,rfl,reads_boxW (i := 0) rfl,.inl ⟨F_agg_41,F_size_41,rfl⟩⟩,trivial⟩ _ rfl ⟨rfl,rfl⟩

theorem slices_Equal____api_Fact__api_Fact_RR.spec (K : Nat) (sv0 : Value) (A0 : HP) (sv1 : Value) (A1 : HP) (l0 : List Api_Fact) (l1 : List Api_Fact) (hA0 : IsRd A0 sv0 l0.length 6 (fl enc_Api_Fact l0)) (hA1 : IsRd A1 sv1 l1.length 6 (fl enc_Api_Fact l1)) (r : Bool) (H : slices_Equal____api_Fact__api_Fact_RR K l0 l1 = some r) : FnSpec Tryd.prog 88 [sv0,sv1] [A0,A1] (fun v M => v = (bool r) ∧ M = [A0,A1]) := by
 unfold slices_Equal____api_Fact__api_Fact_RR at H
 refine spec_of Tryd.func88 rfl 26 rfl (Nat.le_of_ble_eq_true rfl) fun F w0 => ?_
 show Ent (St 26 w0 F [(0,sv0),(1,sv1)] [A0,A1]) _
 refine ent_seq (ent_region (ent_value (ov_assign rfl) rfl rfl rfl (ent_nil (ent_seq (ent_seq (ent_region (ent_value (ov_move rfl) rfl rfl rfl (ent_value (ov_len 0 rfl F_slice_32 rfl hA0) rfl rfl rfl (ent_value (ov_move rfl) rfl rfl rfl (ent_value (ov_len 1 rfl F_slice_32 rfl hA1) rfl rfl rfl (ent_value (ov_bin rfl rfl (b_neq _ _ _)) rfl rfl rfl ?_)))))))))))
 refine ent_nil ?_
 refine htT H (fun c48 H => ?_) fun c48 H => ?_
 ·refine ent_cond_true rfl (ne_t c48) (ent_seq (ent_region (ent_value (ov_assign rfl) rfl rfl rfl (ent_nil (ent_retc ?_)))))
  cases H
  refine ent_pick [0,1] (by decide) rfl ?_
  exact ret_tmp rfl rfl ⟨rfl,rfl⟩
 refine ent_cond_false rfl (ne_f c48) (ent_skip (ent_seq (ent_seq (ent_region (ent_value (ov_move rfl) rfl rfl rfl (ent_value (ov_len 0 rfl F_slice_32 rfl hA0) rfl rfl rfl (ent_value (ov_move rfl) rfl rfl rfl (ent_nil (ent_block ?_)))))))))
 refine ent_loop (fun k a w => ∃ i4,slices_Equal____api_Fact__api_Fact_RR_l0 K l0 l1 k i4 = some r ∧ St 26 w0 F [(0,sv0),(1,sv1),(12,I (l0.length : Int)),(13,I i4)] [A0,A1] a w) K ?_ ?_
 ·exact ent_fin [0,1] (by decide) rfl (sub_cons (t := 0) rfl (sub_cons (t := 1) rfl (sub_cons (t := 12) rfl (sub_cons (t := 13) rfl (sub_nil _))))) fun a w h => ⟨_,H,h⟩
 ·refine fun k => ent_exi fun i4 => ent_and fun H4 => ?_
  let C1_ : Value := agg #[I (((l1.getD i4.toNat z_Api_Fact).Key).Hour),str (((l1.getD i4.toNat z_Api_Fact).Key).Dims_0),str (((l1.getD i4.toNat z_Api_Fact).Key).Dims_1),str (((l1.getD i4.toNat z_Api_Fact).Key).Dims_2),str (((l1.getD i4.toNat z_Api_Fact).Key).Dims_3),I ((l1.getD i4.toNat z_Api_Fact).Value)]
  let C0_ : Value := agg #[I (((l0.getD i4.toNat z_Api_Fact).Key).Hour),str (((l0.getD i4.toNat z_Api_Fact).Key).Dims_0),str (((l0.getD i4.toNat z_Api_Fact).Key).Dims_1),str (((l0.getD i4.toNat z_Api_Fact).Key).Dims_2),str (((l0.getD i4.toNat z_Api_Fact).Key).Dims_3),I ((l0.getD i4.toNat z_Api_Fact).Value)]
  cases k with
  | zero => exact absurd H4 (by simp [C1_,C0_,slices_Equal____api_Fact__api_Fact_RR_l0])
  | succ k =>
   rw [slices_Equal____api_Fact__api_Fact_RR_l0] at H4
   refine ent_seq (ent_region (ent_value (ov_bin rfl rfl (b_lss _ _ _)) rfl rfl rfl (ent_nil (ent_seq ?_))))
   refine htF H4 (fun c86 H4 => ?_) fun c86 H4 => ?_
   ·refine ent_cond_false rfl (decide_eq_false c86) (ent_exit (ent_seq (ent_region (ent_value (ov_assign rfl) rfl rfl rfl (ent_nil (ent_retc ?_))))))
    cases H4
    refine ent_pick [0,1] (by decide) rfl ?_
    exact ret_tmp rfl rfl ⟨rfl,rfl⟩
   refine ent_cond_true rfl (decide_eq_true c86) (ent_skip (ent_seq (ent_block (ent_seq (ent_region (ent_value (ov_move rfl) rfl rfl rfl (ent_value (ov_assign rfl) rfl rfl rfl (ent_nil (ent_seq ?_)))))))))
   obtain ⟨c90,H4⟩ := gdT H4
   obtain ⟨c91,H4⟩ := gdT H4
   refine ent_drawm 9 rfl (fun done a w => StD 26 w0 F [(0,sv0),(1,sv1),(5,I i4),(12,I (l0.length : Int)),(13,I i4),(14,bool (decide (i4 < (l0.length : Int)))),(15,I i4)] [(0,16,sv0),(1,17,I i4),(2,18,(eptr sv0 (i4.toNat * 6))),(3,19,C0_),(4,20,sv1),(5,21,I i4),(6,22,(eptr sv1 (i4.toNat * 6))),(7,23,C1_),(8,24,bool (!((((((l0.getD i4.toNat z_Api_Fact).Key).Hour) == (((l1.getD i4.toNat z_Api_Fact).Key).Hour)) && ((((((l0.getD i4.toNat z_Api_Fact).Key).Dims_0) == (((l1.getD i4.toNat z_Api_Fact).Key).Dims_0)) && (((((l0.getD i4.toNat z_Api_Fact).Key).Dims_1) == (((l1.getD i4.toNat z_Api_Fact).Key).Dims_1)) && (((((l0.getD i4.toNat z_Api_Fact).Key).Dims_2) == (((l1.getD i4.toNat z_Api_Fact).Key).Dims_2)) && (((((l0.getD i4.toNat z_Api_Fact).Key).Dims_3) == (((l1.getD i4.toNat z_Api_Fact).Key).Dims_3)) && true)))) && true)) && ((((l0.getD i4.toNat z_Api_Fact).Value) == ((l1.getD i4.toNat z_Api_Fact).Value)) && true))))] done [A0,A1] a w) (by kernel_rfl) (by kernel_rfl) (draw_startL (sub_cons (t := 0) rfl (sub_cons (t := 1) rfl (sub_cons (t := 5) rfl (sub_cons (t := 12) rfl (sub_cons (t := 13) rfl (sub_cons (t := 14) rfl (sub_cons (t := 15) rfl (sub_nil _)))))))) rfl) ?_ ?_
   ·refine ⟨?_,?_,?_,?_,?_,?_,?_,?_,?_,trivial⟩
    ·exact fun done hi hc hcu => draw_value (i := 0) (t := 16) (v := sv0) rfl rfl (wanted_none rfl) (fun a => hasA_base) (ov_move rfl) rfl rfl (onlyT_spec (k0 := 0) rfl rfl rfl)
    ·exact fun done hi hc hcu => draw_value (i := 1) (t := 17) (v := (I i4)) rfl rfl (wanted_none rfl) (fun a => hasA_base) (ov_move rfl) rfl rfl (onlyT_spec (k0 := 1) rfl rfl rfl)
    ·exact fun done hi hc hcu => draw_value (i := 2) (t := 18) (v := (eptr sv0 (i4.toNat * 6))) rfl rfl (wanted_none rfl) (fun a => (hasA_cons (k := 1) rfl (done_of (j := 1) hcu rfl (by decide) rfl) (hasA_cons (k := 0) rfl (done_of (j := 0) hcu rfl (by decide) rfl) hasA_base))) (ov_indexAddr (sz := 5) 0 rfl rfl F_slice_32 F_size_54 rfl hA0 c90 c86) rfl rfl (onlyT_spec (k0 := 2) rfl rfl rfl)
    ·exact fun done hi hc hcu => draw_value (i := 3) (t := 19) (v := (C0_)) rfl rfl (wanted_none rfl) (fun a => (hasA_cons (k := 2) rfl (done_of (j := 2) hcu rfl (by decide) rfl) hasA_base)) (ov_load_agg (vs := [I (((l0.getD i4.toNat z_Api_Fact).Key).Hour),str (((l0.getD i4.toNat z_Api_Fact).Key).Dims_0),str (((l0.getD i4.toNat z_Api_Fact).Key).Dims_1),str (((l0.getD i4.toNat z_Api_Fact).Key).Dims_2),str (((l0.getD i4.toNat z_Api_Fact).Key).Dims_3),I ((l0.getD i4.toNat z_Api_Fact).Value)]) rfl F_agg_54 F_size_54 (reads_rd (i := 0) rfl hA0 (by simp [C1_,C0_]) (fl_read0 enc_Api_Fact_len (ix_lt c90 c86) rfl))) rfl rfl (onlyT_spec (k0 := 3) rfl rfl rfl)
    ·exact fun done hi hc hcu => draw_value (i := 4) (t := 20) (v := sv1) rfl rfl (wanted_none rfl) (fun a => hasA_base) (ov_move rfl) rfl rfl (onlyT_spec (k0 := 4) rfl rfl rfl)
    ·exact fun done hi hc hcu => draw_value (i := 5) (t := 21) (v := (I i4)) rfl rfl (wanted_none rfl) (fun a => hasA_base) (ov_move rfl) rfl rfl (onlyT_spec (k0 := 5) rfl rfl rfl)
    ·exact fun done hi hc hcu => draw_value (i := 6) (t := 22) (v := (eptr sv1 (i4.toNat * 6))) rfl rfl (wanted_none rfl) (fun a => (hasA_cons (k := 5) rfl (done_of (j := 5) hcu rfl (by decide) rfl) (hasA_cons (k := 4) rfl (done_of (j := 4) hcu rfl (by decide) rfl) hasA_base))) (ov_indexAddr (sz := 5) 1 rfl rfl F_slice_32 F_size_54 rfl hA1 c90 c91) rfl rfl (onlyT_spec (k0 := 6) rfl rfl rfl)
    ·exact fun done hi hc hcu => draw_value (i := 7) (t := 23) (v := (C1_)) rfl rfl (wanted_none rfl) (fun a => (hasA_cons (k := 6) rfl (done_of (j := 6) hcu rfl (by decide) rfl) hasA_base)) (ov_load_agg (vs := [I (((l1.getD i4.toNat z_Api_Fact).Key).Hour),str (((l1.getD i4.toNat z_Api_Fact).Key).Dims_0),str (((l1.getD i4.toNat z_Api_Fact).Key).Dims_1),str (((l1.getD i4.toNat z_Api_Fact).Key).Dims_2),str (((l1.getD i4.toNat z_Api_Fact).Key).Dims_3),I ((l1.getD i4.toNat z_Api_Fact).Value)]) rfl F_agg_54 F_size_54 (reads_rd (i := 1) rfl hA1 (by simp [C1_,C0_]) (fl_read0 enc_Api_Fact_len (ix_lt c90 c91) rfl))) rfl rfl (onlyT_spec (k0 := 7) rfl rfl rfl)
    ·exact fun done hi hc hcu => draw_value (i := 8) (t := 24) (v := (bool (!((((((l0.getD i4.toNat z_Api_Fact).Key).Hour) == (((l1.getD i4.toNat z_Api_Fact).Key).Hour)) && ((((((l0.getD i4.toNat z_Api_Fact).Key).Dims_0) == (((l1.getD i4.toNat z_Api_Fact).Key).Dims_0)) && (((((l0.getD i4.toNat z_Api_Fact).Key).Dims_1) == (((l1.getD i4.toNat z_Api_Fact).Key).Dims_1)) && (((((l0.getD i4.toNat z_Api_Fact).Key).Dims_2) == (((l1.getD i4.toNat z_Api_Fact).Key).Dims_2)) && (((((l0.getD i4.toNat z_Api_Fact).Key).Dims_3) == (((l1.getD i4.toNat z_Api_Fact).Key).Dims_3)) && true)))) && true)) && ((((l0.getD i4.toNat z_Api_Fact).Value) == ((l1.getD i4.toNat z_Api_Fact).Value)) && true))))) rfl rfl (wanted_none rfl) (fun a => (hasA_cons (k := 7) rfl (done_of (j := 7) hcu rfl (by decide) rfl) (hasA_cons (k := 3) rfl (done_of (j := 3) hcu rfl (by decide) rfl) hasA_base))) (ov_bin rfl rfl (same_54_n _ _ _ _ _ _ _ _ _ _ _ _)) rfl rfl (onlyT_spec (k0 := 8) rfl rfl rfl)
   ·intro done hall
    refine draw_endL [A0,A1] rfl (fun a => (hasA_cons (k := 0) rfl (hall 0 (by decide)) (hasA_cons (k := 1) rfl (hall 1 (by decide)) (hasA_cons (k := 2) rfl (hall 2 (by decide)) (hasA_cons (k := 3) rfl (hall 3 (by decide)) (hasA_cons (k := 4) rfl (hall 4 (by decide)) (hasA_cons (k := 5) rfl (hall 5 (by decide)) (hasA_cons (k := 6) rfl (hall 6 (by decide)) (hasA_cons (k := 7) rfl (hall 7 (by decide)) (hasA_cons (k := 8) rfl (hall 8 (by decide)) hasA_base)))))))))) ?_
    refine htT H4 (fun c92 H4 => ?_) fun c92 H4 => ?_
    ·refine ent_cond_true rfl c92 (ent_seq (ent_region (ent_value (ov_assign rfl) rfl rfl rfl (ent_nil (ent_retc ?_)))))
     cases H4
     refine ent_pick [0,1] (by decide) rfl ?_
     exact ret_tmp rfl rfl ⟨rfl,rfl⟩
    refine ent_cond_false rfl (Bool.eq_false_iff.2 c92) (ent_skip (ent_region (ent_value (ov_bin rfl rfl (b_add _ _ _) ) rfl rfl rfl (ent_value (ov_move rfl) rfl rfl rfl (ent_nil ?_)))))
    exact ent_fin [0,1] (by decide) rfl (sub_cons (t := 0) rfl (sub_cons (t := 1) rfl (sub_cons (t := 12) rfl (sub_cons (t := 13) rfl (sub_nil _))))) fun a w h => ⟨k,Nat.lt_succ_self k,_,H4,h⟩

theorem slices_Equal_____bool__bool_RR.spec (K : Nat) (sv0 : Value) (A0 : HP) (sv1 : Value) (A1 : HP) (l0 : List Bool) (l1 : List Bool) (hA0 : IsRd A0 sv0 l0.length 1 (fl eB l0)) (hA1 : IsRd A1 sv1 l1.length 1 (fl eB l1)) (r : Bool) (H : slices_Equal_____bool__bool_RR K l0 l1 = some r) : FnSpec Tryd.prog 89 [sv0,sv1] [A0,A1] (fun v M => v = (bool r) ∧ M = [A0,A1]) := by
 unfold slices_Equal_____bool__bool_RR at H
 refine spec_of Tryd.func89 rfl 26 rfl (Nat.le_of_ble_eq_true rfl) fun F w0 => ?_
 show Ent (St 26 w0 F [(0,sv0),(1,sv1)] [A0,A1]) _
 refine ent_seq (ent_region (ent_value (ov_assign rfl) rfl rfl rfl (ent_nil (ent_seq (ent_seq (ent_region (ent_value (ov_move rfl) rfl rfl rfl (ent_value (ov_len 0 rfl F_slice_39 rfl hA0) rfl rfl rfl (ent_value (ov_move rfl) rfl rfl rfl (ent_value (ov_len 1 rfl F_slice_39 rfl hA1) rfl rfl rfl (ent_value (ov_bin rfl rfl (b_neq _ _ _)) rfl rfl rfl ?_)))))))))))
 refine ent_nil ?_
 refine htT H (fun c48 H => ?_) fun c48 H => ?_
 ·refine ent_cond_true rfl (ne_t c48) (ent_seq (ent_region (ent_value (ov_assign rfl) rfl rfl rfl (ent_nil (ent_retc ?_)))))
  cases H
  refine ent_pick [0,1] (by decide) rfl ?_
  exact ret_tmp rfl rfl ⟨rfl,rfl⟩
 refine ent_cond_false rfl (ne_f c48) (ent_skip (ent_seq (ent_seq (ent_region (ent_value (ov_move rfl) rfl rfl rfl (ent_value (ov_len 0 rfl F_slice_39 rfl hA0) rfl rfl rfl (ent_value (ov_move rfl) rfl rfl rfl (ent_nil (ent_block ?_)))))))))
 refine ent_loop (fun k a w => ∃ i4,slices_Equal_____bool__bool_RR_l0 K l0 l1 k i4 = some r ∧ St 26 w0 F [(0,sv0),(1,sv1),(12,I (l0.length : Int)),(13,I i4)] [A0,A1] a w) K ?_ ?_
 ·exact ent_fin [0,1] (by decide) rfl (sub_cons (t := 0) rfl (sub_cons (t := 1) rfl (sub_cons (t := 12) rfl (sub_cons (t := 13) rfl (sub_nil _))))) fun a w h => ⟨_,H,h⟩
 ·refine fun k => ent_exi fun i4 => ent_and fun H4 => ?_
  cases k with
  | zero => exact absurd H4 (by simp [slices_Equal_____bool__bool_RR_l0])
  | succ k =>
   rw [slices_Equal_____bool__bool_RR_l0] at H4
   refine ent_seq (ent_region (ent_value (ov_bin rfl rfl (b_lss _ _ _)) rfl rfl rfl (ent_nil (ent_seq ?_))))
   refine htF H4 (fun c86 H4 => ?_) fun c86 H4 => ?_
   ·refine ent_cond_false rfl (decide_eq_false c86) (ent_exit (ent_seq (ent_region (ent_value (ov_assign rfl) rfl rfl rfl (ent_nil (ent_retc ?_))))))
    cases H4
    refine ent_pick [0,1] (by decide) rfl ?_
    exact ret_tmp rfl rfl ⟨rfl,rfl⟩
   refine ent_cond_true rfl (decide_eq_true c86) (ent_skip (ent_seq (ent_block (ent_seq (ent_region (ent_value (ov_move rfl) rfl rfl rfl (ent_value (ov_assign rfl) rfl rfl rfl (ent_nil (ent_seq ?_)))))))))
   obtain ⟨c90,H4⟩ := gdT H4
   obtain ⟨c91,H4⟩ := gdT H4
   refine ent_drawm 9 rfl (fun done a w => StD 26 w0 F [(0,sv0),(1,sv1),(5,I i4),(12,I (l0.length : Int)),(13,I i4),(14,bool (decide (i4 < (l0.length : Int)))),(15,I i4)] [(0,16,sv0),(1,17,I i4),(2,18,(eptr sv0 (i4.toNat * 1))),(3,19,bool (l0.getD i4.toNat false)),(4,20,sv1),(5,21,I i4),(6,22,(eptr sv1 (i4.toNat * 1))),(7,23,bool (l1.getD i4.toNat false)),(8,24,bool ((l0.getD i4.toNat false) != (l1.getD i4.toNat false)))] done [A0,A1] a w) (by kernel_rfl) (by kernel_rfl) (draw_startL (sub_cons (t := 0) rfl (sub_cons (t := 1) rfl (sub_cons (t := 5) rfl (sub_cons (t := 12) rfl (sub_cons (t := 13) rfl (sub_cons (t := 14) rfl (sub_cons (t := 15) rfl (sub_nil _)))))))) rfl) ?_ ?_
   ·refine ⟨?_,?_,?_,?_,?_,?_,?_,?_,?_,trivial⟩
    ·exact fun done hi hc hcu => draw_value (i := 0) (t := 16) (v := sv0) rfl rfl (wanted_none rfl) (fun a => hasA_base) (ov_move rfl) rfl rfl (onlyT_spec (k0 := 0) rfl rfl rfl)
    ·exact fun done hi hc hcu => draw_value (i := 1) (t := 17) (v := (I i4)) rfl rfl (wanted_none rfl) (fun a => hasA_base) (ov_move rfl) rfl rfl (onlyT_spec (k0 := 1) rfl rfl rfl)
    ·exact fun done hi hc hcu => draw_value (i := 2) (t := 18) (v := (eptr sv0 (i4.toNat * 1))) rfl rfl (wanted_none rfl) (fun a => (hasA_cons (k := 1) rfl (done_of (j := 1) hcu rfl (by decide) rfl) (hasA_cons (k := 0) rfl (done_of (j := 0) hcu rfl (by decide) rfl) hasA_base))) (ov_indexAddr (sz := 0) 0 rfl rfl F_slice_39 F_size_4 rfl hA0 c90 c86) rfl rfl (onlyT_spec (k0 := 2) rfl rfl rfl)
    ·exact fun done hi hc hcu => draw_value (i := 3) (t := 19) (v := (bool (l0.getD i4.toNat false))) rfl rfl (wanted_none rfl) (fun a => (hasA_cons (k := 2) rfl (done_of (j := 2) hcu rfl (by decide) rfl) hasA_base)) (ov_load (v := (bool (l0.getD i4.toNat false))) rfl F_agg_4 (reads_rd (i := 0) rfl hA0 (by simp) (fl_read0 eB_len (ix_lt c90 c86) rfl))) rfl rfl (onlyT_spec (k0 := 3) rfl rfl rfl)
    ·exact fun done hi hc hcu => draw_value (i := 4) (t := 20) (v := sv1) rfl rfl (wanted_none rfl) (fun a => hasA_base) (ov_move rfl) rfl rfl (onlyT_spec (k0 := 4) rfl rfl rfl)
    ·exact fun done hi hc hcu => draw_value (i := 5) (t := 21) (v := (I i4)) rfl rfl (wanted_none rfl) (fun a => hasA_base) (ov_move rfl) rfl rfl (onlyT_spec (k0 := 5) rfl rfl rfl)
    ·exact fun done hi hc hcu => draw_value (i := 6) (t := 22) (v := (eptr sv1 (i4.toNat * 1))) rfl rfl (wanted_none rfl) (fun a => (hasA_cons (k := 5) rfl (done_of (j := 5) hcu rfl (by decide) rfl) (hasA_cons (k := 4) rfl (done_of (j := 4) hcu rfl (by decide) rfl) hasA_base))) (ov_indexAddr (sz := 0) 1 rfl rfl F_slice_39 F_size_4 rfl hA1 c90 c91) rfl rfl (onlyT_spec (k0 := 6) rfl rfl rfl)
    ·exact fun done hi hc hcu => draw_value (i := 7) (t := 23) (v := (bool (l1.getD i4.toNat false))) rfl rfl (wanted_none rfl) (fun a => (hasA_cons (k := 6) rfl (done_of (j := 6) hcu rfl (by decide) rfl) hasA_base)) (ov_load (v := (bool (l1.getD i4.toNat false))) rfl F_agg_4 (reads_rd (i := 1) rfl hA1 (by simp) (fl_read0 eB_len (ix_lt c90 c91) rfl))) rfl rfl (onlyT_spec (k0 := 7) rfl rfl rfl)
    ·exact fun done hi hc hcu => draw_value (i := 8) (t := 24) (v := (bool ((l0.getD i4.toNat false) != (l1.getD i4.toNat false)))) rfl rfl (wanted_none rfl) (fun a => (hasA_cons (k := 7) rfl (done_of (j := 7) hcu rfl (by decide) rfl) (hasA_cons (k := 3) rfl (done_of (j := 3) hcu rfl (by decide) rfl) hasA_base))) (ov_bin rfl rfl (b_neq_bool Tryd.underlying4 _ _)) rfl rfl (onlyT_spec (k0 := 8) rfl rfl rfl)
   ·intro done hall
    refine draw_endL [A0,A1] rfl (fun a => (hasA_cons (k := 0) rfl (hall 0 (by decide)) (hasA_cons (k := 1) rfl (hall 1 (by decide)) (hasA_cons (k := 2) rfl (hall 2 (by decide)) (hasA_cons (k := 3) rfl (hall 3 (by decide)) (hasA_cons (k := 4) rfl (hall 4 (by decide)) (hasA_cons (k := 5) rfl (hall 5 (by decide)) (hasA_cons (k := 6) rfl (hall 6 (by decide)) (hasA_cons (k := 7) rfl (hall 7 (by decide)) (hasA_cons (k := 8) rfl (hall 8 (by decide)) hasA_base)))))))))) ?_
    refine htT H4 (fun c92 H4 => ?_) fun c92 H4 => ?_
    ·refine ent_cond_true rfl c92 (ent_seq (ent_region (ent_value (ov_assign rfl) rfl rfl rfl (ent_nil (ent_retc ?_)))))
     cases H4
     refine ent_pick [0,1] (by decide) rfl ?_
     exact ret_tmp rfl rfl ⟨rfl,rfl⟩
    refine ent_cond_false rfl (Bool.eq_false_iff.2 c92) (ent_skip (ent_region (ent_value (ov_bin rfl rfl (b_add _ _ _) ) rfl rfl rfl (ent_value (ov_move rfl) rfl rfl rfl (ent_nil ?_)))))
    exact ent_fin [0,1] (by decide) rfl (sub_cons (t := 0) rfl (sub_cons (t := 1) rfl (sub_cons (t := 12) rfl (sub_cons (t := 13) rfl (sub_nil _))))) fun a w h => ⟨k,Nat.lt_succ_self k,_,H4,h⟩

theorem script_Same_1_RRRR.spec (K : Nat) (sv0 : Value) (A0 : HP) (sv1 sv2 : Value) (A2 : HP) (sv3 : Value) (a0_0 a0_1 : Int) (l0 : List Api_Fact) (a0_3 a0_4 : Int) (a0_5 a0_6 : Bool) (a0_7 a0_8 : Bool) (a0_9 a0_10 : Bool) (a0_11 a0_12 : Bool) (a0_13 : List UInt8) (a0_14 : List UInt8) (a0_15 : List UInt8) (a0_16 : List UInt8) (a0_17 a0_18 : Int) (a0_19 a0_20 : Int) (a0_21 a0_22 : Int) (a0_23 a0_24 a0_25 : Int) (l1 : List Bool) (a1_0 a1_1 : Int) (l2 : List Api_Fact) (a1_3 a1_4 : Int) (a1_5 a1_6 : Bool) (a1_7 a1_8 : Bool) (a1_9 a1_10 : Bool) (a1_11 a1_12 : Bool) (a1_13 : List UInt8) (a1_14 : List UInt8) (a1_15 : List UInt8) (a1_16 : List UInt8) (a1_17 a1_18 : Int) (a1_19 a1_20 : Int) (a1_21 a1_22 : Int) (a1_23 a1_24 a1_25 : Int) (l3 : List Bool) (hA0 : IsRd A0 sv0 l0.length 6 (fl enc_Api_Fact l0)) (hA1 : IsRd A0 sv1 l1.length 1 (fl eB l1)) (hA2 : IsRd A2 sv2 l2.length 6 (fl enc_Api_Fact l2)) (hA3 : IsRd A2 sv3 l3.length 1 (fl eB l3)) (r : Bool) (H : script_Same_1_RRRR K a0_0 a0_1 l0 a0_3 a0_4 a0_5 a0_6 a0_7 a0_8 a0_9 a0_10 a0_11 a0_12 a0_13 a0_14 a0_15 a0_16 a0_17 a0_18 a0_19 a0_20 a0_21 a0_22 a0_23 a0_24 a0_25 l1 a1_0 a1_1 l2 a1_3 a1_4 a1_5 a1_6 a1_7 a1_8 a1_9 a1_10 a1_11 a1_12 a1_13 a1_14 a1_15 a1_16 a1_17 a1_18 a1_19 a1_20 a1_21 a1_22 a1_23 a1_24 a1_25 l3 = some r) : FnSpec Tryd.prog 87 [agg #[I a0_0,I a0_1,sv0,I a0_3,I a0_4,bool a0_5,bool a0_6,bool a0_7,bool a0_8,bool a0_9,bool a0_10,bool a0_11,bool a0_12,str a0_13,str a0_14,str a0_15,str a0_16,I a0_17,I a0_18,I a0_19,I a0_20,I a0_21,I a0_22,I a0_23,I a0_24,I a0_25,sv1],agg #[I a1_0,I a1_1,sv2,I a1_3,I a1_4,bool a1_5,bool a1_6,bool a1_7,bool a1_8,bool a1_9,bool a1_10,bool a1_11,bool a1_12,str a1_13,str a1_14,str a1_15,str a1_16,I a1_17,I a1_18,I a1_19,I a1_20,I a1_21,I a1_22,I a1_23,I a1_24,I a1_25,sv3]] [A0,A2] (fun v M => v = (bool r) ∧ M = [A0,A2]) := by
 unfold script_Same_1_RRRR at H
 refine spec_of Tryd.func87 rfl 45 rfl (Nat.le_of_ble_eq_true rfl) fun F w0 => ?_
 let C2_ : List Value := [I a1_0,I a1_1,sv2,I a1_3,I a1_4,bool a1_5,bool a1_6,bool a1_7,bool a1_8,bool a1_9,bool a1_10,bool a1_11,bool a1_12,str a1_13,str a1_14,str a1_15,str a1_16,I a1_17,I a1_18,I a1_19,I a1_20,I a1_21,I a1_22,I a1_23,I a1_24,I a1_25,sv3]
 let C1_ : List Value := [I a0_0,I a0_1,sv0,I a0_3,I a0_4,bool a0_5,bool a0_6,bool a0_7,bool a0_8,bool a0_9,bool a0_10,bool a0_11,bool a0_12,str a0_13,str a0_14,str a0_15,str a0_16,I a0_17,I a0_18,I a0_19,I a0_20,I a0_21,I a0_22,I a0_23,I a0_24,I a0_25,sv1]
 show Ent (St 45 w0 F [(0,agg #[I a0_0,I a0_1,sv0,I a0_3,I a0_4,bool a0_5,bool a0_6,bool a0_7,bool a0_8,bool a0_9,bool a0_10,bool a0_11,bool a0_12,str a0_13,str a0_14,str a0_15,str a0_16,I a0_17,I a0_18,I a0_19,I a0_20,I a0_21,I a0_22,I a0_23,I a0_24,I a0_25,sv1]),(1,agg #[I a1_0,I a1_1,sv2,I a1_3,I a1_4,bool a1_5,bool a1_6,bool a1_7,bool a1_8,bool a1_9,bool a1_10,bool a1_11,bool a1_12,str a1_13,str a1_14,str a1_15,str a1_16,I a1_17,I a1_18,I a1_19,I a1_20,I a1_21,I a1_22,I a1_23,I a1_24,I a1_25,sv3])] [A0,A2]) _
 refine ent_seq (ent_region ?_)
 refine ent_op (ot_box (cs := C1_) rfl rfl) rfl rfl rfl ?_
 rintro _ _ ⟨b3,rfl,rfl⟩
 refine ent_op (ot_box (cs := C2_) rfl rfl) rfl rfl rfl ?_
 rintro _ _ ⟨b4,rfl,rfl⟩
 let C0_ : List HP := [box b4 41 C2_,box b3 41 C1_]
 refine ent_value (ov_assign rfl) rfl rfl rfl (ent_nil (ent_seq (ent_region (ent_value (ov_fieldAddr (sz := 0) (o := 0) rfl F_field_41_0 F_size_3) rfl rfl rfl (ent_value (ov_load (v := (I a0_0)) rfl F_agg_3 (reads_box1 (i := 1) rfl rfl)) rfl rfl rfl (ent_value (ov_fieldAddr (sz := 0) (o := 0) rfl F_field_41_0 F_size_3) rfl rfl rfl (ent_value (ov_load (v := (I a1_0)) rfl F_agg_3 (reads_box1 (i := 0) rfl rfl)) rfl rfl rfl (ent_value (ov_bin rfl rfl (b_eql _ _ _)) rfl rfl rfl (ent_value (ov_move rfl) rfl rfl rfl ?_)))))))))
 refine htF H (fun c6 H => ?_) fun c6 H => ?_
 ·refine ent_off rfl rfl rfl (eq_f c6) rfl rfl ?_
  refine ent_off rfl rfl rfl (eq_f c6) rfl rfl ?_
  refine ent_off rfl rfl rfl (eq_f c6) rfl rfl ?_
  refine ent_off rfl rfl rfl (eq_f c6) rfl rfl ?_
  refine ent_off rfl rfl rfl (eq_f c6) rfl rfl ?_
  refine ent_value (ov_pick rfl rfl rfl (pick_f (eq_f c6))) rfl rfl rfl (ent_value (ov_move rfl) rfl rfl rfl ?_)
  refine ent_off rfl rfl rfl rfl rfl rfl ?_
  refine ent_off rfl rfl rfl rfl rfl rfl ?_
  refine ent_off rfl rfl rfl rfl rfl rfl ?_
  refine ent_off rfl rfl rfl rfl rfl rfl ?_
  refine ent_off rfl rfl rfl rfl rfl rfl ?_
  refine ent_value (ov_pick rfl rfl rfl rfl) rfl rfl rfl (ent_value (ov_move rfl) rfl rfl rfl ?_)
  refine ent_off rfl rfl rfl rfl rfl rfl ?_
  refine ent_off rfl rfl rfl rfl rfl rfl ?_
  refine ent_off rfl rfl rfl rfl rfl rfl ?_
  refine ent_off rfl rfl rfl rfl rfl rfl ?_
  refine ent_off rfl rfl rfl rfl rfl rfl ?_
  refine ent_value (ov_pick rfl rfl rfl rfl) rfl rfl rfl (ent_value (ov_move rfl) rfl rfl rfl ?_)
  refine ent_off rfl rfl rfl rfl rfl rfl ?_
  refine ent_off rfl rfl rfl rfl rfl rfl ?_
  refine ent_off rfl rfl rfl rfl rfl rfl ?_
  refine ent_off rfl rfl rfl rfl rfl rfl ?_
  refine ent_off rfl rfl rfl rfl rfl rfl ?_
  refine ent_value (ov_pick rfl rfl rfl rfl) rfl rfl rfl (ent_value (ov_move rfl) rfl rfl rfl ?_)
  refine ent_off rfl rfl rfl rfl rfl rfl ?_
  refine ent_off rfl rfl rfl rfl rfl rfl ?_
  refine ent_off rfl rfl rfl rfl rfl rfl ?_
  refine ent_off rfl rfl rfl rfl rfl rfl ?_
  refine ent_off rfl rfl rfl rfl rfl rfl ?_
  refine ent_value (ov_pick rfl rfl rfl rfl) rfl rfl rfl (ent_value (ov_assign rfl) rfl rfl rfl (ent_nil (ent_retc ?_)))
  cases H
  refine ent_pick [2,3] (by decide) rfl ?_
  exact ret_tmp rfl rfl ⟨rfl,rfl⟩
 refine ent_value_on (ov_fieldAddr (sz := 0) (o := 0) rfl F_field_41_1 F_size_2) rfl rfl rfl (eq_t c6) rfl rfl ?_
 refine ent_value_on (ov_load (v := (I a0_1)) rfl F_agg_2 (reads_box1 (i := 1) rfl rfl)) rfl rfl rfl (eq_t c6) rfl rfl ?_
 refine ent_value_on (ov_fieldAddr (sz := 0) (o := 0) rfl F_field_41_1 F_size_2) rfl rfl rfl (eq_t c6) rfl rfl ?_
 refine ent_value_on (ov_load (v := (I a1_1)) rfl F_agg_2 (reads_box1 (i := 0) rfl rfl)) rfl rfl rfl (eq_t c6) rfl rfl ?_
 refine ent_value_on (ov_bin rfl rfl (b_eql _ _ _)) rfl rfl rfl (eq_t c6) rfl rfl ?_
 refine ent_value (ov_pick rfl rfl rfl (pick_t (eq_t c6))) rfl rfl rfl (ent_value (ov_move rfl) rfl rfl rfl ?_)
 refine htF H (fun c7 H => ?_) fun c7 H => ?_
 ·refine ent_off rfl rfl rfl (eq_f c7) rfl rfl ?_
  refine ent_off rfl rfl rfl (eq_f c7) rfl rfl ?_
  refine ent_off rfl rfl rfl (eq_f c7) rfl rfl ?_
  refine ent_off rfl rfl rfl (eq_f c7) rfl rfl ?_
  refine ent_off rfl rfl rfl (eq_f c7) rfl rfl ?_
  refine ent_value (ov_pick rfl rfl rfl (pick_f (eq_f c7))) rfl rfl rfl (ent_value (ov_move rfl) rfl rfl rfl ?_)
  refine ent_off rfl rfl rfl rfl rfl rfl ?_
  refine ent_off rfl rfl rfl rfl rfl rfl ?_
  refine ent_off rfl rfl rfl rfl rfl rfl ?_
  refine ent_off rfl rfl rfl rfl rfl rfl ?_
  refine ent_off rfl rfl rfl rfl rfl rfl ?_
  refine ent_value (ov_pick rfl rfl rfl rfl) rfl rfl rfl (ent_value (ov_move rfl) rfl rfl rfl ?_)
  refine ent_off rfl rfl rfl rfl rfl rfl ?_
  refine ent_off rfl rfl rfl rfl rfl rfl ?_
  refine ent_off rfl rfl rfl rfl rfl rfl ?_
  refine ent_off rfl rfl rfl rfl rfl rfl ?_
  refine ent_off rfl rfl rfl rfl rfl rfl ?_
  refine ent_value (ov_pick rfl rfl rfl rfl) rfl rfl rfl (ent_value (ov_move rfl) rfl rfl rfl ?_)
  refine ent_off rfl rfl rfl rfl rfl rfl ?_
  refine ent_off rfl rfl rfl rfl rfl rfl ?_
  refine ent_off rfl rfl rfl rfl rfl rfl ?_
  refine ent_off rfl rfl rfl rfl rfl rfl ?_
  refine ent_off rfl rfl rfl rfl rfl rfl ?_
  refine ent_value (ov_pick rfl rfl rfl rfl) rfl rfl rfl (ent_value (ov_assign rfl) rfl rfl rfl (ent_nil (ent_retc ?_)))
  cases H
  refine ent_pick [2,3] (by decide) rfl ?_
  exact ret_tmp rfl rfl ⟨rfl,rfl⟩
 refine ent_value_on (ov_fieldAddr (sz := 13) (o := 0) rfl F_field_41_3 F_size_36) rfl rfl rfl (eq_t c7) rfl rfl ?_
 refine ent_value_on (ov_load_agg (vs := [I a0_3,I a0_4,bool a0_5,bool a0_6,bool a0_7,bool a0_8,bool a0_9,bool a0_10,bool a0_11,bool a0_12,str a0_13,str a0_14,str a0_15,str a0_16]) rfl F_agg_36 F_size_36 (reads_boxN (i := 1) rfl rfl)) rfl rfl rfl (eq_t c7) rfl rfl ?_
 refine ent_value_on (ov_fieldAddr (sz := 13) (o := 0) rfl F_field_41_3 F_size_36) rfl rfl rfl (eq_t c7) rfl rfl ?_
 refine ent_value_on (ov_load_agg (vs := [I a1_3,I a1_4,bool a1_5,bool a1_6,bool a1_7,bool a1_8,bool a1_9,bool a1_10,bool a1_11,bool a1_12,str a1_13,str a1_14,str a1_15,str a1_16]) rfl F_agg_36 F_size_36 (reads_boxN (i := 0) rfl rfl)) rfl rfl rfl (eq_t c7) rfl rfl ?_
 refine ent_value_on (ov_bin rfl rfl (same_36 _ _ _ _ _ _ _ _ _ _ _ _ _ _ _ _ _ _ _ _ _ _ _ _ _ _ _ _)) rfl rfl rfl (eq_t c7) rfl rfl ?_
 refine ent_value (ov_pick rfl rfl rfl (pick_t (eq_t c7))) rfl rfl rfl (ent_value (ov_move rfl) rfl rfl rfl ?_)
 refine htF H (fun c8 H => ?_) fun c8 H => ?_
 ·refine ent_off rfl rfl rfl (Bool.eq_false_iff.2 c8) rfl rfl ?_
  refine ent_off rfl rfl rfl (Bool.eq_false_iff.2 c8) rfl rfl ?_
  refine ent_off rfl rfl rfl (Bool.eq_false_iff.2 c8) rfl rfl ?_
  refine ent_off rfl rfl rfl (Bool.eq_false_iff.2 c8) rfl rfl ?_
  refine ent_off rfl rfl rfl (Bool.eq_false_iff.2 c8) rfl rfl ?_
  refine ent_value (ov_pick rfl rfl rfl (pick_f (Bool.eq_false_iff.2 c8))) rfl rfl rfl (ent_value (ov_move rfl) rfl rfl rfl ?_)
  refine ent_off rfl rfl rfl rfl rfl rfl ?_
  refine ent_off rfl rfl rfl rfl rfl rfl ?_
  refine ent_off rfl rfl rfl rfl rfl rfl ?_
  refine ent_off rfl rfl rfl rfl rfl rfl ?_
  refine ent_off rfl rfl rfl rfl rfl rfl ?_
  refine ent_value (ov_pick rfl rfl rfl rfl) rfl rfl rfl (ent_value (ov_move rfl) rfl rfl rfl ?_)
  refine ent_off rfl rfl rfl rfl rfl rfl ?_
  refine ent_off rfl rfl rfl rfl rfl rfl ?_
  refine ent_off rfl rfl rfl rfl rfl rfl ?_
  refine ent_off rfl rfl rfl rfl rfl rfl ?_
  refine ent_off rfl rfl rfl rfl rfl rfl ?_
  refine ent_value (ov_pick rfl rfl rfl rfl) rfl rfl rfl (ent_value (ov_assign rfl) rfl rfl rfl (ent_nil (ent_retc ?_)))
  cases H
  refine ent_pick [2,3] (by decide) rfl ?_
  exact ret_tmp rfl rfl ⟨rfl,rfl⟩
 refine ent_value_on (ov_fieldAddr (sz := 8) (o := 0) rfl F_field_41_4 F_size_38) rfl rfl rfl c8 rfl rfl ?_
 refine ent_value_on (ov_load_agg (vs := [I a0_17,I a0_18,I a0_19,I a0_20,I a0_21,I a0_22,I a0_23,I a0_24,I a0_25]) rfl F_agg_38 F_size_38 (reads_boxN (i := 1) rfl rfl)) rfl rfl rfl c8 rfl rfl ?_
 refine ent_value_on (ov_fieldAddr (sz := 8) (o := 0) rfl F_field_41_4 F_size_38) rfl rfl rfl c8 rfl rfl ?_
 refine ent_value_on (ov_load_agg (vs := [I a1_17,I a1_18,I a1_19,I a1_20,I a1_21,I a1_22,I a1_23,I a1_24,I a1_25]) rfl F_agg_38 F_size_38 (reads_boxN (i := 0) rfl rfl)) rfl rfl rfl c8 rfl rfl ?_
 refine ent_value_on (ov_bin rfl rfl (same_38 _ _ _ _ _ _ _ _ _ _ _ _ _ _ _ _ _ _)) rfl rfl rfl c8 rfl rfl ?_
 refine ent_value (ov_pick rfl rfl rfl (pick_t c8)) rfl rfl rfl (ent_value (ov_move rfl) rfl rfl rfl ?_)
 refine htF H (fun c9 H => ?_) fun c9 H => ?_
 ·refine ent_off rfl rfl rfl (Bool.eq_false_iff.2 c9) rfl rfl ?_
  refine ent_off rfl rfl rfl (Bool.eq_false_iff.2 c9) rfl rfl ?_
  refine ent_off rfl rfl rfl (Bool.eq_false_iff.2 c9) rfl rfl ?_
  refine ent_off rfl rfl rfl (Bool.eq_false_iff.2 c9) rfl rfl ?_
  refine ent_off rfl rfl rfl (Bool.eq_false_iff.2 c9) rfl rfl ?_
  refine ent_value (ov_pick rfl rfl rfl (pick_f (Bool.eq_false_iff.2 c9))) rfl rfl rfl (ent_value (ov_move rfl) rfl rfl rfl ?_)
  refine ent_off rfl rfl rfl rfl rfl rfl ?_
  refine ent_off rfl rfl rfl rfl rfl rfl ?_
  refine ent_off rfl rfl rfl rfl rfl rfl ?_
  refine ent_off rfl rfl rfl rfl rfl rfl ?_
  refine ent_off rfl rfl rfl rfl rfl rfl ?_
  refine ent_value (ov_pick rfl rfl rfl rfl) rfl rfl rfl (ent_value (ov_assign rfl) rfl rfl rfl (ent_nil (ent_retc ?_)))
  cases H
  refine ent_pick [2,3] (by decide) rfl ?_
  exact ret_tmp rfl rfl ⟨rfl,rfl⟩
 refine ent_value_on (ov_fieldAddr (sz := 0) (o := 0) rfl F_field_41_2 F_size_32) rfl rfl rfl c9 rfl rfl ?_
 refine ent_value_on (ov_load (v := sv0) rfl F_agg_32 (reads_box1 (i := 1) rfl rfl)) rfl rfl rfl c9 rfl rfl ?_
 refine ent_value_on (ov_fieldAddr (sz := 0) (o := 0) rfl F_field_41_2 F_size_32) rfl rfl rfl c9 rfl rfl ?_
 refine ent_value_on (ov_load (v := sv2) rfl F_agg_32 (reads_box1 (i := 0) rfl rfl)) rfl rfl rfl c9 rfl rfl ?_
 obtain ⟨x3,h3,H⟩ := Option.bind_eq_some_iff.1 H
 refine ent_op_on (ot_call_same (Lr := C0_) [2,3,0,1] [2,3,0,1] (first := []) (cap := []) (xs := [.tmp 33,.tmp 35]) rfl rfl F_call_88 rfl (slices_Equal____api_Fact__api_Fact_RR.spec K sv0 A0 sv2 A2 l0 l2 hA0 hA2 _ h3) (by decide) rfl (by decide) rfl) rfl rfl rfl c9 rfl rfl ?_
 rintro _ _ ⟨rfl,rfl⟩
 refine ent_value (ov_pick rfl rfl rfl (pick_t c9)) rfl rfl rfl (ent_value (ov_move rfl) rfl rfl rfl ?_)
 refine htF H (fun c10 H => ?_) fun c10 H => ?_
 ·refine ent_off rfl rfl rfl (Bool.eq_false_iff.2 c10) rfl rfl ?_
  refine ent_off rfl rfl rfl (Bool.eq_false_iff.2 c10) rfl rfl ?_
  refine ent_off rfl rfl rfl (Bool.eq_false_iff.2 c10) rfl rfl ?_
  refine ent_off rfl rfl rfl (Bool.eq_false_iff.2 c10) rfl rfl ?_
  refine ent_off rfl rfl rfl (Bool.eq_false_iff.2 c10) rfl rfl ?_
  refine ent_value (ov_pick rfl rfl rfl (pick_f (Bool.eq_false_iff.2 c10))) rfl rfl rfl (ent_value (ov_assign rfl) rfl rfl rfl (ent_nil (ent_retc ?_)))
  cases H
  refine ent_pick [2,3] (by decide) rfl ?_
  exact ret_tmp rfl rfl ⟨rfl,rfl⟩
 refine ent_value_on (ov_fieldAddr (sz := 0) (o := 0) rfl F_field_41_5 F_size_39) rfl rfl rfl c10 rfl rfl ?_
 refine ent_value_on (ov_load (v := sv1) rfl F_agg_39 (reads_box1 (i := 1) rfl rfl)) rfl rfl rfl c10 rfl rfl ?_
 refine ent_value_on (ov_fieldAddr (sz := 0) (o := 0) rfl F_field_41_5 F_size_39) rfl rfl rfl c10 rfl rfl ?_
 refine ent_value_on (ov_load (v := sv3) rfl F_agg_39 (reads_box1 (i := 0) rfl rfl)) rfl rfl rfl c10 rfl rfl ?_
 obtain ⟨x4,h4,H⟩ := Option.bind_eq_some_iff.1 H
 refine ent_op_on (ot_call_same (Lr := C0_) [2,3,0,1] [2,3,0,1] (first := []) (cap := []) (xs := [.tmp 40,.tmp 42]) rfl rfl F_call_89 rfl (slices_Equal_____bool__bool_RR.spec K sv1 A0 sv3 A2 l1 l3 hA1 hA3 _ h4) (by decide) rfl (by decide) rfl) rfl rfl rfl c10 rfl rfl ?_
 rintro _ _ ⟨rfl,rfl⟩
 refine ent_value (ov_pick rfl rfl rfl (pick_t c10)) rfl rfl rfl (ent_value (ov_assign rfl) rfl rfl rfl (ent_nil (ent_retc ?_)))
 cases H
 refine ent_pick [2,3] (by decide) rfl ?_
 exact ret_tmp rfl rfl ⟨rfl,rfl⟩

theorem slices_EqualFunc____api_Step____api_Step__api_Step__api_Step_RR.spec (K : Nat) (sv0 : Value) (A0 : HP) (sv1 : Value) (A1 : HP) (l0 : List Api_Step) (l1 : List Api_Step) (hA0 : IsRd A0 sv0 l0.length 27 (fl enc_Api_Step l0)) (hJ0 : ∀ x ∈ l0,IsRd A0 x.Facts.v x.Facts.xs.length 6 (fl enc_Api_Fact x.Facts.xs) ∧ IsRd A0 x.Fails.v x.Fails.xs.length 1 (fl eB x.Fails.xs)) (hA1 : IsRd A1 sv1 l1.length 27 (fl enc_Api_Step l1)) (hJ1 : ∀ x ∈ l1,IsRd A1 x.Facts.v x.Facts.xs.length 6 (fl enc_Api_Fact x.Facts.xs) ∧ IsRd A1 x.Fails.v x.Fails.xs.length 1 (fl eB x.Fails.xs)) (r : Bool) (H : slices_EqualFunc____api_Step____api_Step__api_Step__api_Step_RR K l0 l1 = some r) : FnSpec Tryd.prog 86 [sv0,sv1,(Value.func (.func 87) #[] #[])] [A0,A1] (fun v M => v = (bool r) ∧ M = [A0,A1]) := by
 unfold slices_EqualFunc____api_Step____api_Step__api_Step__api_Step_RR at H
 refine spec_of Tryd.func86 rfl 32 rfl (Nat.le_of_ble_eq_true rfl) fun F w0 => ?_
 let C2_ : List Value := [I 0,I 0,L0,I 0,I 0,B0,B0,B0,B0,B0,B0,B0,B0,S0,S0,S0,S0,I 0,I 0,I 0,I 0,I 0,I 0,I 0,I 0,I 0,L0]
 show Ent (St 32 w0 F [(0,sv0),(1,sv1),(2,(Value.func (.func 87) #[] #[]))] [A0,A1]) _
 refine ent_seq (ent_region (ent_value (ov_assign rfl) rfl rfl rfl (ent_nil (ent_seq (ent_seq (ent_region (ent_value (ov_move rfl) rfl rfl rfl (ent_value (ov_len 0 rfl F_slice_47 rfl hA0) rfl rfl rfl (ent_value (ov_move rfl) rfl rfl rfl (ent_value (ov_len 1 rfl F_slice_47 rfl hA1) rfl rfl rfl (ent_value (ov_bin rfl rfl (b_neq _ _ _)) rfl rfl rfl ?_)))))))))))
 refine ent_nil ?_
 refine htT H (fun c48 H => ?_) fun c48 H => ?_
 ·refine ent_cond_true rfl (ne_t c48) (ent_seq (ent_region (ent_value (ov_assign rfl) rfl rfl rfl (ent_nil (ent_retc ?_)))))
  cases H
  refine ent_pick [0,1] (by decide) rfl ?_
  exact ret_tmp rfl rfl ⟨rfl,rfl⟩
 refine ent_cond_false rfl (ne_f c48) (ent_skip (ent_seq (ent_seq (ent_region (ent_value (ov_move rfl) rfl rfl rfl (ent_value (ov_len 0 rfl F_slice_47 rfl hA0) rfl rfl rfl (ent_value (ov_move rfl) rfl rfl rfl (ent_nil (ent_block ?_)))))))))
 refine ent_loop (fun k a w => ∃ i4,slices_EqualFunc____api_Step____api_Step__api_Step__api_Step_RR_l0 K l0 l1 k i4 = some r ∧ St 32 w0 F [(1,sv1),(2,(Value.func (.func 87) #[] #[])),(15,sv0),(16,I (l0.length : Int)),(17,I i4)] [A0,A1] a w) K ?_ ?_
 ·exact ent_fin [0,1] (by decide) rfl (sub_cons (t := 1) rfl (sub_cons (t := 2) rfl (sub_cons (t := 15) rfl (sub_cons (t := 16) rfl (sub_cons (t := 17) rfl (sub_nil _)))))) fun a w h => ⟨_,H,h⟩
 ·refine fun k => ent_exi fun i4 => ent_and fun H4 => ?_
  let C1_ : List Value := [I ((l1.getD i4.toNat z_Api_Step).Kind),I ((l1.getD i4.toNat z_Api_Step).N),((l1.getD i4.toNat z_Api_Step).Facts).v,I (((l1.getD i4.toNat z_Api_Step).Query).From),I (((l1.getD i4.toNat z_Api_Step).Query).To),bool (((l1.getD i4.toNat z_Api_Step).Query).Group_0),bool (((l1.getD i4.toNat z_Api_Step).Query).Group_1),bool (((l1.getD i4.toNat z_Api_Step).Query).Group_2),bool (((l1.getD i4.toNat z_Api_Step).Query).Group_3),bool (((l1.getD i4.toNat z_Api_Step).Query).Has_0),bool (((l1.getD i4.toNat z_Api_Step).Query).Has_1),bool (((l1.getD i4.toNat z_Api_Step).Query).Has_2),bool (((l1.getD i4.toNat z_Api_Step).Query).Has_3),str (((l1.getD i4.toNat z_Api_Step).Query).Filter_0),str (((l1.getD i4.toNat z_Api_Step).Query).Filter_1),str (((l1.getD i4.toNat z_Api_Step).Query).Filter_2),str (((l1.getD i4.toNat z_Api_Step).Query).Filter_3),I (((l1.getD i4.toNat z_Api_Step).Rules).Retain),I (((l1.getD i4.toNat z_Api_Step).Rules).SealLag),I (((l1.getD i4.toNat z_Api_Step).Rules).DayLag),I (((l1.getD i4.toNat z_Api_Step).Rules).MonthLag),I (((l1.getD i4.toNat z_Api_Step).Rules).ColdLag),I (((l1.getD i4.toNat z_Api_Step).Rules).Base),I (((l1.getD i4.toNat z_Api_Step).Rules).Cap),I (((l1.getD i4.toNat z_Api_Step).Rules).Queue),I (((l1.getD i4.toNat z_Api_Step).Rules).Wal),((l1.getD i4.toNat z_Api_Step).Fails).v]
  let C0_ : List Value := [I ((l0.getD i4.toNat z_Api_Step).Kind),I ((l0.getD i4.toNat z_Api_Step).N),((l0.getD i4.toNat z_Api_Step).Facts).v,I (((l0.getD i4.toNat z_Api_Step).Query).From),I (((l0.getD i4.toNat z_Api_Step).Query).To),bool (((l0.getD i4.toNat z_Api_Step).Query).Group_0),bool (((l0.getD i4.toNat z_Api_Step).Query).Group_1),bool (((l0.getD i4.toNat z_Api_Step).Query).Group_2),bool (((l0.getD i4.toNat z_Api_Step).Query).Group_3),bool (((l0.getD i4.toNat z_Api_Step).Query).Has_0),bool (((l0.getD i4.toNat z_Api_Step).Query).Has_1),bool (((l0.getD i4.toNat z_Api_Step).Query).Has_2),bool (((l0.getD i4.toNat z_Api_Step).Query).Has_3),str (((l0.getD i4.toNat z_Api_Step).Query).Filter_0),str (((l0.getD i4.toNat z_Api_Step).Query).Filter_1),str (((l0.getD i4.toNat z_Api_Step).Query).Filter_2),str (((l0.getD i4.toNat z_Api_Step).Query).Filter_3),I (((l0.getD i4.toNat z_Api_Step).Rules).Retain),I (((l0.getD i4.toNat z_Api_Step).Rules).SealLag),I (((l0.getD i4.toNat z_Api_Step).Rules).DayLag),I (((l0.getD i4.toNat z_Api_Step).Rules).MonthLag),I (((l0.getD i4.toNat z_Api_Step).Rules).ColdLag),I (((l0.getD i4.toNat z_Api_Step).Rules).Base),I (((l0.getD i4.toNat z_Api_Step).Rules).Cap),I (((l0.getD i4.toNat z_Api_Step).Rules).Queue),I (((l0.getD i4.toNat z_Api_Step).Rules).Wal),((l0.getD i4.toNat z_Api_Step).Fails).v]
  cases k with
  | zero => exact absurd H4 (by simp [C2_,C1_,C0_,slices_EqualFunc____api_Step____api_Step__api_Step__api_Step_RR_l0])
  | succ k =>
   rw [slices_EqualFunc____api_Step____api_Step__api_Step__api_Step_RR_l0] at H4
   refine ent_seq (ent_region (ent_value (ov_bin rfl rfl (b_lss _ _ _)) rfl rfl rfl (ent_nil (ent_seq ?_))))
   refine htF H4 (fun c86 H4 => ?_) fun c86 H4 => ?_
   ·refine ent_cond_false rfl (decide_eq_false c86) (ent_exit (ent_seq (ent_region (ent_value (ov_assign rfl) rfl rfl rfl (ent_nil (ent_retc ?_))))))
    cases H4
    refine ent_pick [0,1] (by decide) rfl ?_
    exact ret_tmp rfl rfl ⟨rfl,rfl⟩
   refine ent_cond_true rfl (decide_eq_true c86) (ent_skip (ent_seq (ent_block (ent_seq (ent_region (ent_value (ov_move rfl) rfl rfl rfl ?_))))))
   obtain ⟨c90,H4⟩ := gdT H4
   refine ent_value (ov_indexAddr (sz := 26) 0 rfl rfl F_slice_47 F_size_41 rfl hA0 c90 c86) rfl rfl rfl ?_
   refine ent_value (ov_load_agg (vs := C0_) rfl F_agg_41 F_size_41 (reads_rd (i := 0) rfl hA0 (by simp [C2_,C1_,C0_]) (fl_read0 enc_Api_Step_len (ix_lt c90 c86) rfl))) rfl rfl rfl ?_
   refine ent_op (ot_alloc F_zero_41) rfl rfl rfl ?_
   rintro _ _ ⟨b47,rfl,rfl⟩
   refine ent_value (ov_assign rfl) rfl rfl rfl ?_
   refine ent_op0 (ot_storeG (cs := C2_) (cs' := C0_) (us := C0_) (L' := [box b47 41 C0_,A0,A1]) 0 rfl rfl rfl (one_cons rfl (one_cons rfl (one_sl 1 rfl (hJ0 _ (getD_mem_ z_Api_Step (ix_lt c90 c86))).1 (one_cons rfl (one_cons rfl (one_cons rfl (one_cons rfl (one_cons rfl (one_cons rfl (one_cons rfl (one_cons rfl (one_cons rfl (one_cons rfl (one_cons rfl (one_cons rfl (one_cons rfl (one_cons rfl (one_cons rfl (one_cons rfl (one_cons rfl (one_cons rfl (one_cons rfl (one_cons rfl (one_cons rfl (one_cons rfl (one_cons rfl (one_sl 1 rfl (hJ0 _ (getD_mem_ z_Api_Step (ix_lt c90 c86))).2 one_nil))))))))))))))))))))))))))) F_size_41 rfl rfl (by simp [C2_,C1_,C0_]) rfl) rfl rfl ?_
   rintro _ _ rfl
   refine ent_nil (ent_seq (ent_region (ent_value (ov_move rfl) rfl rfl rfl (ent_value (ov_move rfl) rfl rfl rfl ?_))))
   obtain ⟨c91,H4⟩ := gdT H4
   refine ent_value (ov_indexAddr (sz := 26) 2 rfl rfl F_slice_47 F_size_41 rfl hA1 c90 c91) rfl rfl rfl ?_
   refine ent_value (ov_load_agg (vs := C1_) rfl F_agg_41 F_size_41 (reads_rd (i := 2) rfl hA1 (by simp [C2_,C1_,C0_]) (fl_read0 enc_Api_Step_len (ix_lt c90 c91) rfl))) rfl rfl rfl ?_
   refine ent_op (ot_alloc F_zero_41) rfl rfl rfl ?_
   rintro _ _ ⟨b48,rfl,rfl⟩
   refine ent_op0 (ot_storeG (cs := C2_) (cs' := C1_) (us := C1_) (L' := [box b48 41 C1_,box b47 41 C0_,A0,A1]) 0 rfl rfl rfl (one_cons rfl (one_cons rfl (one_sl 3 rfl (hJ1 _ (getD_mem_ z_Api_Step (ix_lt c90 c91))).1 (one_cons rfl (one_cons rfl (one_cons rfl (one_cons rfl (one_cons rfl (one_cons rfl (one_cons rfl (one_cons rfl (one_cons rfl (one_cons rfl (one_cons rfl (one_cons rfl (one_cons rfl (one_cons rfl (one_cons rfl (one_cons rfl (one_cons rfl (one_cons rfl (one_cons rfl (one_cons rfl (one_cons rfl (one_cons rfl (one_cons rfl (one_sl 3 rfl (hJ1 _ (getD_mem_ z_Api_Step (ix_lt c90 c91))).2 one_nil))))))))))))))))))))))))))) F_size_41 rfl rfl (by simp [C2_,C1_,C0_]) rfl) rfl rfl ?_
   rintro _ _ rfl
   refine ent_nil (ent_seq (ent_region (ent_value (ov_move rfl) rfl rfl rfl (ent_value (ov_load_agg (vs := C0_) rfl F_agg_41 F_size_41 (reads_boxW (i := 1) rfl)) rfl rfl rfl (ent_value (ov_load_agg (vs := C1_) rfl F_agg_41 F_size_41 (reads_boxW (i := 0) rfl)) rfl rfl rfl ?_)))))
   obtain ⟨x24,h24,H4⟩ := Option.bind_eq_some_iff.1 H4
   refine ent_op (ot_call_same (Lr := [box b48 41 C1_,box b47 41 C0_]) [2,3,0,1] [2,3,0,1] (first := []) (cap := []) (xs := [.tmp 27,.tmp 28]) rfl rfl F_call_87 rfl (script_Same_1_RRRR.spec K (((l0.getD i4.toNat z_Api_Step).Facts).v) A0 (((l0.getD i4.toNat z_Api_Step).Fails).v) (((l1.getD i4.toNat z_Api_Step).Facts).v) A1 (((l1.getD i4.toNat z_Api_Step).Fails).v) ((l0.getD i4.toNat z_Api_Step).Kind) ((l0.getD i4.toNat z_Api_Step).N) (((l0.getD i4.toNat z_Api_Step).Facts).xs) (((l0.getD i4.toNat z_Api_Step).Query).From) (((l0.getD i4.toNat z_Api_Step).Query).To) (((l0.getD i4.toNat z_Api_Step).Query).Group_0) (((l0.getD i4.toNat z_Api_Step).Query).Group_1) (((l0.getD i4.toNat z_Api_Step).Query).Group_2) (((l0.getD i4.toNat z_Api_Step).Query).Group_3) (((l0.getD i4.toNat z_Api_Step).Query).Has_0) (((l0.getD i4.toNat z_Api_Step).Query).Has_1) (((l0.getD i4.toNat z_Api_Step).Query).Has_2) (((l0.getD i4.toNat z_Api_Step).Query).Has_3) (((l0.getD i4.toNat z_Api_Step).Query).Filter_0) (((l0.getD i4.toNat z_Api_Step).Query).Filter_1) (((l0.getD i4.toNat z_Api_Step).Query).Filter_2) (((l0.getD i4.toNat z_Api_Step).Query).Filter_3) (((l0.getD i4.toNat z_Api_Step).Rules).Retain) (((l0.getD i4.toNat z_Api_Step).Rules).SealLag) (((l0.getD i4.toNat z_Api_Step).Rules).DayLag) (((l0.getD i4.toNat z_Api_Step).Rules).MonthLag) (((l0.getD i4.toNat z_Api_Step).Rules).ColdLag) (((l0.getD i4.toNat z_Api_Step).Rules).Base) (((l0.getD i4.toNat z_Api_Step).Rules).Cap) (((l0.getD i4.toNat z_Api_Step).Rules).Queue) (((l0.getD i4.toNat z_Api_Step).Rules).Wal) (((l0.getD i4.toNat z_Api_Step).Fails).xs) ((l1.getD i4.toNat z_Api_Step).Kind) ((l1.getD i4.toNat z_Api_Step).N) (((l1.getD i4.toNat z_Api_Step).Facts).xs) (((l1.getD i4.toNat z_Api_Step).Query).From) (((l1.getD i4.toNat z_Api_Step).Query).To) (((l1.getD i4.toNat z_Api_Step).Query).Group_0) (((l1.getD i4.toNat z_Api_Step).Query).Group_1) (((l1.getD i4.toNat z_Api_Step).Query).Group_2) (((l1.getD i4.toNat z_Api_Step).Query).Group_3) (((l1.getD i4.toNat z_Api_Step).Query).Has_0) (((l1.getD i4.toNat z_Api_Step).Query).Has_1) (((l1.getD i4.toNat z_Api_Step).Query).Has_2) (((l1.getD i4.toNat z_Api_Step).Query).Has_3) (((l1.getD i4.toNat z_Api_Step).Query).Filter_0) (((l1.getD i4.toNat z_Api_Step).Query).Filter_1) (((l1.getD i4.toNat z_Api_Step).Query).Filter_2) (((l1.getD i4.toNat z_Api_Step).Query).Filter_3) (((l1.getD i4.toNat z_Api_Step).Rules).Retain) (((l1.getD i4.toNat z_Api_Step).Rules).SealLag) (((l1.getD i4.toNat z_Api_Step).Rules).DayLag) (((l1.getD i4.toNat z_Api_Step).Rules).MonthLag) (((l1.getD i4.toNat z_Api_Step).Rules).ColdLag) (((l1.getD i4.toNat z_Api_Step).Rules).Base) (((l1.getD i4.toNat z_Api_Step).Rules).Cap) (((l1.getD i4.toNat z_Api_Step).Rules).Queue) (((l1.getD i4.toNat z_Api_Step).Rules).Wal) (((l1.getD i4.toNat z_Api_Step).Fails).xs) ((hJ0 _ (getD_mem_ z_Api_Step (ix_lt c90 c86))).1) ((hJ0 _ (getD_mem_ z_Api_Step (ix_lt c90 c86))).2) ((hJ1 _ (getD_mem_ z_Api_Step (ix_lt c90 c91))).1) ((hJ1 _ (getD_mem_ z_Api_Step (ix_lt c90 c91))).2) _ h24) (by decide) rfl (by decide) rfl) rfl rfl rfl ?_
   rintro _ _ ⟨rfl,rfl⟩
   refine ent_value (ov_un rfl (u_not _)) rfl rfl rfl (ent_nil ?_)
   refine htT H4 (fun c92 H4 => ?_) fun c92 H4 => ?_
   ·refine ent_cond_true rfl c92 (ent_seq (ent_region (ent_value (ov_assign rfl) rfl rfl rfl (ent_nil (ent_retc ?_)))))
    cases H4
    refine ent_pick [2,3] (by decide) rfl ?_
    exact ret_tmp rfl rfl ⟨rfl,rfl⟩
   refine ent_cond_false rfl (Bool.eq_false_iff.2 c92) (ent_skip (ent_region (ent_value (ov_bin rfl rfl (b_add _ _ _) ) rfl rfl rfl (ent_value (ov_move rfl) rfl rfl rfl (ent_nil ?_)))))
   exact ent_fin [2,3] (by decide) rfl (sub_cons (t := 1) rfl (sub_cons (t := 2) rfl (sub_cons (t := 15) rfl (sub_cons (t := 16) rfl (sub_cons (t := 17) rfl (sub_nil _)))))) fun a w h => ⟨k,Nat.lt_succ_self k,_,H4,h⟩

theorem script_Same_RR.spec (K : Nat) (sv0 : Value) (A0 : HP) (sv1 : Value) (A1 : HP) (l0 : List Api_Step) (l1 : List Api_Step) (hA0 : IsRd A0 sv0 l0.length 27 (fl enc_Api_Step l0)) (hJ0 : ∀ x ∈ l0,IsRd A0 x.Facts.v x.Facts.xs.length 6 (fl enc_Api_Fact x.Facts.xs) ∧ IsRd A0 x.Fails.v x.Fails.xs.length 1 (fl eB x.Fails.xs)) (hA1 : IsRd A1 sv1 l1.length 27 (fl enc_Api_Step l1)) (hJ1 : ∀ x ∈ l1,IsRd A1 x.Facts.v x.Facts.xs.length 6 (fl enc_Api_Fact x.Facts.xs) ∧ IsRd A1 x.Fails.v x.Fails.xs.length 1 (fl eB x.Fails.xs)) (r : Bool) (H : script_Same_RR K l0 l1 = some r) : FnSpec Tryd.prog 71 [sv0,sv1] [A0,A1] (fun v M => v = (bool r) ∧ M = [A0,A1]) := by
 unfold script_Same_RR at H
 refine spec_of Tryd.func71 rfl 8 rfl (Nat.le_of_ble_eq_true rfl) fun F w0 => ?_
 show Ent (St 8 w0 F [(0,sv0),(1,sv1)] [A0,A1]) _
 refine ent_seq (ent_region (ent_value (ov_assign rfl) rfl rfl rfl (ent_nil (ent_seq (ent_region (ent_value (ov_move rfl) rfl rfl rfl (ent_value (ov_move rfl) rfl rfl rfl ?_)))))))
 obtain ⟨x2,h2,H⟩ := Option.bind_eq_some_iff.1 H
 refine ent_op (ot_call_same (Lr := []) [0,1] [0,1] (first := []) (cap := []) (xs := [.tmp 5,.tmp 6,.func 87]) rfl rfl F_call_86 rfl (slices_EqualFunc____api_Step____api_Step__api_Step__api_Step_RR.spec K sv0 A0 sv1 A1 l0 l1 hA0 hJ0 hA1 hJ1 _ h2) (by decide) rfl (by decide) rfl) rfl rfl rfl ?_
 rintro _ _ ⟨rfl,rfl⟩
 refine ent_value (ov_assign rfl) rfl rfl rfl (ent_nil (ent_retc ?_))
 cases H
 refine ent_pick [0,1] (by decide) rfl ?_
 exact ret_tmp rfl rfl ⟨rfl,rfl⟩

theorem fact_many.spec (a0 : Int) (r : Bool) (H : fact_many a0 = r) : FnSpec Tryd.prog 90 [I a0] [] (fun v M => v = (bool r) ∧ M = []) := by
 unfold fact_many at H
 refine spec_of Tryd.func90 rfl 9 rfl (Nat.le_of_ble_eq_true rfl) fun F w0 => ?_
 show Ent (St 9 w0 F [(0,I a0)] []) _
 refine ent_seq (ent_region (ent_value (ov_assign rfl) rfl rfl rfl (ent_nil (ent_seq (ent_region (ent_value (ov_move rfl) rfl rfl rfl (ent_value (ov_bin rfl rfl (b_geq _ _ _)) rfl rfl rfl (ent_value (ov_move rfl) rfl rfl rfl ?_))))))))
 refine htF H (fun c2 H => ?_) fun c2 H => ?_
 ·refine ent_off rfl rfl rfl (decide_eq_false c2) rfl rfl ?_
  refine ent_off rfl rfl rfl (decide_eq_false c2) rfl rfl ?_
  refine ent_value (ov_pick rfl rfl rfl (pick_f (decide_eq_false c2))) rfl rfl rfl (ent_value (ov_assign rfl) rfl rfl rfl (ent_nil (ent_retc ?_)))
  cases H
  refine ent_pick [] (by decide) rfl ?_
  exact ret_tmp rfl rfl ⟨rfl,rfl⟩
 refine ent_value_on (ov_move rfl) rfl rfl rfl (decide_eq_true c2) rfl rfl ?_
 refine ent_value_on (ov_bin rfl rfl (b_leq _ _ _)) rfl rfl rfl (decide_eq_true c2) rfl rfl ?_
 refine ent_value (ov_pick rfl rfl rfl (pick_t (decide_eq_true c2))) rfl rfl rfl (ent_value (ov_assign rfl) rfl rfl rfl (ent_nil (ent_retc ?_)))
 cases H
 refine ent_pick [] (by decide) rfl ?_
 exact ret_tmp rfl rfl ⟨rfl,rfl⟩

theorem fact_Check.spec (K : Nat) (a0_0 : Int) (a0_1 : List UInt8) (a0_2 : List UInt8) (a0_3 : List UInt8) (a0_4 : List UInt8) (a0_5 a1 r : Int) (H : fact_Check K a0_0 a0_1 a0_2 a0_3 a0_4 a0_5 a1 = some r) : FnSpec Tryd.prog 91 [agg #[I a0_0,str a0_1,str a0_2,str a0_3,str a0_4,I a0_5],I a1] [] (fun v M => v = (I r) ∧ M = []) := by
 unfold fact_Check at H
 refine spec_of Tryd.func91 rfl 52 rfl (Nat.le_of_ble_eq_true rfl) fun F w0 => ?_
 show Ent (St 52 w0 F [(0,agg #[I a0_0,str a0_1,str a0_2,str a0_3,str a0_4,I a0_5]),(1,I a1)] []) _
 refine ent_seq (ent_region ?_)
 refine ent_op (ot_box (cs := [I a0_0,str a0_1,str a0_2,str a0_3,str a0_4,I a0_5]) rfl rfl) rfl rfl rfl ?_
 rintro _ _ ⟨b2,rfl,rfl⟩
 refine ent_value (ov_assign rfl) rfl rfl rfl (ent_nil (ent_seq (ent_block (ent_seq (ent_region (ent_value (ov_move rfl) rfl rfl rfl ?_))))))
 obtain ⟨x4,h4,H⟩ := thn_elim H
 refine ent_op (ot_call0 (first := []) (cap := []) (xs := [.tmp 8]) rfl rfl F_call_90 rfl (fact_many.spec a1 _ h4)) rfl rfl rfl ?_
 rintro _ _ ⟨rfl,rfl⟩
 refine ent_value (ov_un rfl (u_not _)) rfl rfl rfl (ent_value (ov_assign rfl) rfl rfl rfl (ent_nil ?_))
 refine htT H (fun c80 H => ?_) fun c80 H => ?_
 ·refine ent_cond_true rfl c80 (ent_seq (ent_region (ent_value (ov_assign rfl) rfl rfl rfl (ent_nil (ent_retc ?_)))))
  cases H
  refine ent_pick [] (by decide) rfl ?_
  exact ret_tmp rfl rfl ⟨rfl,rfl⟩
 refine ent_cond_false rfl (Bool.eq_false_iff.2 c80) (ent_seq (ent_region (ent_value (ov_fieldAddr (sz := 4) (o := 0) rfl F_field_54_0 F_size_52) rfl rfl rfl (ent_value (ov_fieldAddr (sz := 0) (o := 0) rfl F_field_52_0 F_size_2) rfl rfl rfl (ent_value (ov_load (v := (I a0_0)) rfl F_agg_2 (reads_box1 (i := 0) rfl rfl)) rfl rfl rfl (ent_value (ov_bin rfl rfl (b_lss _ _ _)) rfl rfl rfl (ent_value (ov_move rfl) rfl rfl rfl ?_)))))))
 refine htT H (fun c81 H => ?_) fun c81 H => ?_
 ·refine ent_off rfl rfl rfl (decide_eq_true c81) rfl rfl ?_
  refine ent_off rfl rfl rfl (decide_eq_true c81) rfl rfl ?_
  refine ent_off rfl rfl rfl (decide_eq_true c81) rfl rfl ?_
  refine ent_off rfl rfl rfl (decide_eq_true c81) rfl rfl ?_
  refine ent_value (ov_pick rfl rfl rfl (pick_t (decide_eq_true c81))) rfl rfl rfl (ent_value (ov_move rfl) rfl rfl rfl ?_)
  refine ent_off rfl rfl rfl rfl rfl rfl ?_
  refine ent_off rfl rfl rfl rfl rfl rfl ?_
  refine ent_off rfl rfl rfl rfl rfl rfl ?_
  refine ent_value (ov_pick rfl rfl rfl rfl) rfl rfl rfl (ent_value (ov_move rfl) rfl rfl rfl ?_)
  refine ent_off rfl rfl rfl rfl rfl rfl ?_
  refine ent_off rfl rfl rfl rfl rfl rfl ?_
  refine ent_off rfl rfl rfl rfl rfl rfl ?_
  refine ent_value (ov_pick rfl rfl rfl rfl) rfl rfl rfl (ent_value (ov_assign rfl) rfl rfl rfl (ent_nil (ent_cond_true rfl rfl (ent_seq (ent_region (ent_value (ov_assign rfl) rfl rfl rfl (ent_nil (ent_retc ?_))))))))
  cases H
  refine ent_pick [] (by decide) rfl ?_
  exact ret_tmp rfl rfl ⟨rfl,rfl⟩
 refine ent_value_on (ov_fieldAddr (sz := 4) (o := 0) rfl F_field_54_0 F_size_52) rfl rfl rfl (decide_eq_false c81) rfl rfl ?_
 refine ent_value_on (ov_fieldAddr (sz := 0) (o := 0) rfl F_field_52_0 F_size_2) rfl rfl rfl (decide_eq_false c81) rfl rfl ?_
 refine ent_value_on (ov_load (v := (I a0_0)) rfl F_agg_2 (reads_box1 (i := 0) rfl rfl)) rfl rfl rfl (decide_eq_false c81) rfl rfl ?_
 refine ent_value_on (ov_bin rfl rfl (b_gtr _ _ _)) rfl rfl rfl (decide_eq_false c81) rfl rfl ?_
 refine ent_value (ov_pick rfl rfl rfl (pick_f (decide_eq_false c81))) rfl rfl rfl (ent_value (ov_move rfl) rfl rfl rfl ?_)
 refine htT H (fun c82 H => ?_) fun c82 H => ?_
 ·refine ent_off rfl rfl rfl (decide_eq_true c82) rfl rfl ?_
  refine ent_off rfl rfl rfl (decide_eq_true c82) rfl rfl ?_
  refine ent_off rfl rfl rfl (decide_eq_true c82) rfl rfl ?_
  refine ent_value (ov_pick rfl rfl rfl (pick_t (decide_eq_true c82))) rfl rfl rfl (ent_value (ov_move rfl) rfl rfl rfl ?_)
  refine ent_off rfl rfl rfl rfl rfl rfl ?_
  refine ent_off rfl rfl rfl rfl rfl rfl ?_
  refine ent_off rfl rfl rfl rfl rfl rfl ?_
  refine ent_value (ov_pick rfl rfl rfl rfl) rfl rfl rfl (ent_value (ov_assign rfl) rfl rfl rfl (ent_nil (ent_cond_true rfl rfl (ent_seq (ent_region (ent_value (ov_assign rfl) rfl rfl rfl (ent_nil (ent_retc ?_))))))))
  cases H
  refine ent_pick [] (by decide) rfl ?_
  exact ret_tmp rfl rfl ⟨rfl,rfl⟩
 refine ent_value_on (ov_fieldAddr (sz := 0) (o := 0) rfl F_field_54_1 F_size_2) rfl rfl rfl (decide_eq_false c82) rfl rfl ?_
 refine ent_value_on (ov_load (v := (I a0_5)) rfl F_agg_2 (reads_box1 (i := 0) rfl rfl)) rfl rfl rfl (decide_eq_false c82) rfl rfl ?_
 refine ent_value_on (ov_bin rfl rfl (b_gtr _ _ _)) rfl rfl rfl (decide_eq_false c82) rfl rfl ?_
 refine ent_value (ov_pick rfl rfl rfl (pick_f (decide_eq_false c82))) rfl rfl rfl (ent_value (ov_move rfl) rfl rfl rfl ?_)
 refine htT H (fun c83 H => ?_) fun c83 H => ?_
 ·refine ent_off rfl rfl rfl (decide_eq_true c83) rfl rfl ?_
  refine ent_off rfl rfl rfl (decide_eq_true c83) rfl rfl ?_
  refine ent_off rfl rfl rfl (decide_eq_true c83) rfl rfl ?_
  refine ent_value (ov_pick rfl rfl rfl (pick_t (decide_eq_true c83))) rfl rfl rfl (ent_value (ov_assign rfl) rfl rfl rfl (ent_nil (ent_cond_true rfl rfl (ent_seq (ent_region (ent_value (ov_assign rfl) rfl rfl rfl (ent_nil (ent_retc ?_))))))))
  cases H
  refine ent_pick [] (by decide) rfl ?_
  exact ret_tmp rfl rfl ⟨rfl,rfl⟩
 refine ent_value_on (ov_fieldAddr (sz := 0) (o := 0) rfl F_field_54_1 F_size_2) rfl rfl rfl (decide_eq_false c83) rfl rfl ?_
 refine ent_value_on (ov_load (v := (I a0_5)) rfl F_agg_2 (reads_box1 (i := 0) rfl rfl)) rfl rfl rfl (decide_eq_false c83) rfl rfl ?_
 refine ent_value_on (ov_bin rfl rfl (b_lss _ _ _)) rfl rfl rfl (decide_eq_false c83) rfl rfl ?_
 refine ent_value (ov_pick rfl rfl rfl (pick_f (decide_eq_false c83))) rfl rfl rfl (ent_value (ov_assign rfl) rfl rfl rfl (ent_nil ?_))
 refine htT H (fun c84 H => ?_) fun c84 H => ?_
 ·refine ent_cond_true rfl (decide_eq_true c84) (ent_seq (ent_region (ent_value (ov_assign rfl) rfl rfl rfl (ent_nil (ent_retc ?_)))))
  cases H
  refine ent_pick [] (by decide) rfl ?_
  exact ret_tmp rfl rfl ⟨rfl,rfl⟩
 refine ent_cond_false rfl (decide_eq_false c84) (ent_skip (ent_seq (ent_seq (ent_region (ent_value (ov_fieldAddr (sz := 4) (o := 0) rfl F_field_54_0 F_size_52) rfl rfl rfl (ent_value (ov_fieldAddr (sz := 3) (o := 0) rfl F_field_52_1 F_size_34) rfl rfl rfl (ent_value (ov_load_agg (vs := [str a0_1,str a0_2,str a0_3,str a0_4]) rfl F_agg_34 F_size_34 (reads_boxN (i := 0) rfl rfl)) rfl rfl rfl (ent_value (ov_move rfl) rfl rfl rfl (ent_nil (ent_block ?_))))))))))
 refine ent_loop (fun k a w => ∃ i5,fact_Check_l0 K a0_1 a0_2 a0_3 a0_4 a1 k i5 = some r ∧ St 52 w0 F [(1,I a1),(34,agg #[str a0_1,str a0_2,str a0_3,str a0_4]),(35,I i5)] [] a w) K ?_ ?_
 ·exact ent_fin [] (by decide) rfl (sub_cons (t := 1) rfl (sub_cons (t := 34) rfl (sub_cons (t := 35) rfl (sub_nil _)))) fun a w h => ⟨_,H,h⟩
 ·refine fun k => ent_exi fun i5 => ent_and fun H4 => ?_
  cases k with
  | zero => exact absurd H4 (by simp [fact_Check_l0])
  | succ k =>
   rw [fact_Check_l0] at H4
   refine ent_seq (ent_region (ent_value (ov_bin rfl rfl (b_lss _ _ _)) rfl rfl rfl (ent_nil (ent_seq ?_))))
   refine htF H4 (fun c138 H4 => ?_) fun c138 H4 => ?_
   ·refine ent_cond_false rfl (decide_eq_false c138) (ent_exit (ent_seq (ent_region (ent_value (ov_assign rfl) rfl rfl rfl (ent_nil (ent_retc ?_))))))
    cases H4
    refine ent_pick [] (by decide) rfl ?_
    exact ret_tmp rfl rfl ⟨rfl,rfl⟩
   refine ent_cond_true rfl (decide_eq_true c138) (ent_skip (ent_seq (ent_block (ent_seq (ent_region (ent_value (ov_move rfl) rfl rfl rfl ?_))))))
   obtain ⟨c144,H4⟩ := gdT H4
   obtain ⟨c145,H4⟩ := gdT H4
   refine ent_value (ov_indexAgg rfl rfl F_array_34 F_size_9 F_agg_9 c144 c145 (cases4 (fun i_ => #[str a0_1,str a0_2,str a0_3,str a0_4][i_]? = some (str ([a0_1,a0_2,a0_3,a0_4].getD i_ []))) (ix_lt c144 c145) rfl rfl rfl rfl)) rfl rfl rfl ?_
   refine ent_value (ov_assign rfl) rfl rfl rfl (ent_value (ov_assign rfl) rfl rfl rfl (ent_nil (ent_seq (ent_region (ent_value (ov_move rfl) rfl rfl rfl (ent_value (ov_lenS rfl Tryd.underlying9) rfl rfl rfl (ent_value (ov_bin rfl rfl (b_gtr _ _ _)) rfl rfl rfl (ent_value (ov_move rfl) rfl rfl rfl ?_))))))))
   refine htT H4 (fun c146 H4 => ?_) fun c146 H4 => ?_
   ·refine ent_off rfl rfl rfl (decide_eq_true c146) rfl rfl ?_
    refine ent_off rfl rfl rfl (decide_eq_true c146) rfl rfl ?_
    refine ent_off rfl rfl rfl (decide_eq_true c146) rfl rfl ?_
    refine ent_off rfl rfl rfl (decide_eq_true c146) rfl rfl ?_
    refine ent_offu rfl rfl rfl rfl rfl ?_
    refine ent_offu rfl rfl rfl rfl rfl ?_
    refine ent_off rfl rfl rfl (decide_eq_true c146) rfl rfl ?_
    refine ent_value (ov_pick rfl rfl rfl (pick_t (decide_eq_true c146))) rfl rfl rfl (ent_nil (ent_cond_true rfl rfl (ent_seq (ent_region (ent_value (ov_assign rfl) rfl rfl rfl (ent_nil (ent_retc ?_)))))))
    cases H4
    refine ent_pick [] (by decide) rfl ?_
    exact ret_tmp rfl rfl ⟨rfl,rfl⟩
   refine ent_value_on (ov_move rfl) rfl rfl rfl (decide_eq_false c146) rfl rfl ?_
   refine ent_value_on (ov_move rfl) rfl rfl rfl (decide_eq_false c146) rfl rfl ?_
   refine ent_value_on (ov_bin rfl rfl (b_geq _ _ _)) rfl rfl rfl (decide_eq_false c146) rfl rfl ?_
   refine ent_value_on (ov_move rfl) rfl rfl rfl (decide_eq_false c146) rfl rfl ?_
   refine htF H4 (fun c147 H4 => ?_) fun c147 H4 => ?_
   ·refine ent_off rfl rfl rfl (decide_eq_false c147) rfl rfl ?_
    refine ent_off rfl rfl rfl (decide_eq_false c147) rfl rfl ?_
    refine ent_value_on (ov_pick rfl rfl rfl (pick_f (decide_eq_false c147))) rfl rfl rfl (decide_eq_false c146) rfl rfl ?_
    refine ent_value (ov_pick rfl rfl rfl (pick_f (decide_eq_false c146))) rfl rfl rfl (ent_nil (ent_cond_false rfl rfl (ent_skip (ent_region (ent_value (ov_bin rfl rfl (b_add _ _ _) ) rfl rfl rfl (ent_value (ov_move rfl) rfl rfl rfl (ent_nil ?_)))))))
    exact ent_fin [] (by decide) rfl (sub_cons (t := 1) rfl (sub_cons (t := 34) rfl (sub_cons (t := 35) rfl (sub_nil _)))) fun a w h => ⟨k,Nat.lt_succ_self k,_,H4,h⟩
   refine ent_value_on (ov_move rfl) rfl rfl rfl (decide_eq_true c147) rfl rfl ?_
   refine ent_value_on (ov_bin rfl rfl (b_neq_str _ _)) rfl rfl rfl (decide_eq_true c147) rfl rfl ?_
   refine ent_value_on (ov_pick rfl rfl rfl (pick_t (decide_eq_true c147))) rfl rfl rfl (decide_eq_false c146) rfl rfl ?_
   refine ent_value (ov_pick rfl rfl rfl (pick_f (decide_eq_false c146))) rfl rfl rfl (ent_nil ?_)
   refine htT H4 (fun c148 H4 => ?_) fun c148 H4 => ?_
   ·refine ent_cond_true rfl (nb_t c148) (ent_seq (ent_region (ent_value (ov_assign rfl) rfl rfl rfl (ent_nil (ent_retc ?_)))))
    cases H4
    refine ent_pick [] (by decide) rfl ?_
    exact ret_tmp rfl rfl ⟨rfl,rfl⟩
   refine ent_cond_false rfl (nb_f c148) (ent_skip (ent_region (ent_value (ov_bin rfl rfl (b_add _ _ _) ) rfl rfl rfl (ent_value (ov_move rfl) rfl rfl rfl (ent_nil ?_)))))
   exact ent_fin [] (by decide) rfl (sub_cons (t := 1) rfl (sub_cons (t := 34) rfl (sub_cons (t := 35) rfl (sub_nil _)))) fun a w h => ⟨k,Nat.lt_succ_self k,_,H4,h⟩

theorem fact_All_R.spec (K : Nat) (sv0 : Value) (A0 : HP) (l0 : List Api_Fact) (a1 : Int) (hA0 : IsRd A0 sv0 l0.length 6 (fl enc_Api_Fact l0)) (r : (Int × Int)) (H : fact_All_R K l0 a1 = some r) : FnSpec Tryd.prog 72 [sv0,I a1] [A0] (fun v M => v = (tU #[I r.1,I r.2]) ∧ M = [A0]) := by
 unfold fact_All_R at H
 refine spec_of Tryd.func72 rfl 37 rfl (Nat.le_of_ble_eq_true rfl) fun F w0 => ?_
 show Ent (St 37 w0 F [(0,sv0),(1,I a1)] [A0]) _
 refine ent_seq (ent_region (ent_value (ov_assign rfl) rfl rfl rfl (ent_value (ov_assign rfl) rfl rfl rfl (ent_nil (ent_seq (ent_seq (ent_region (ent_value (ov_move rfl) rfl rfl rfl ?_))))))))
 obtain ⟨x16,h16,H⟩ := thn_elim H
 refine ent_op (ot_call0 (first := []) (cap := []) (xs := [.tmp 9]) rfl rfl F_call_90 rfl (fact_many.spec a1 _ h16)) rfl rfl rfl ?_
 rintro _ _ ⟨rfl,rfl⟩
 refine ent_value (ov_un rfl (u_not _)) rfl rfl rfl (ent_value (ov_move rfl) rfl rfl rfl ?_)
 refine htT H (fun c42 H => ?_) fun c42 H => ?_
 ·refine ent_off rfl rfl rfl c42 rfl rfl ?_
  refine ent_off rfl rfl rfl c42 rfl rfl ?_
  refine ent_off rfl rfl rfl c42 rfl rfl ?_
  refine ent_value (ov_pick rfl rfl rfl (pick_t c42)) rfl rfl rfl (ent_value (ov_move rfl) rfl rfl rfl ?_)
  refine ent_off rfl rfl rfl rfl rfl rfl ?_
  refine ent_off rfl rfl rfl rfl rfl rfl ?_
  refine ent_off rfl rfl rfl rfl rfl rfl ?_
  refine ent_value (ov_pick rfl rfl rfl rfl) rfl rfl rfl (ent_nil (ent_cond_true rfl rfl (ent_seq (ent_region (ent_value (ov_assign rfl) rfl rfl rfl (ent_value (ov_assign rfl) rfl rfl rfl (ent_nil (ent_retc ?_))))))))
  cases H
  refine ent_pick [0] (by decide) rfl ?_
  exact ret_mem (vs := [I 1,I 0]) rfl ⟨rfl,⟨rfl,trivial⟩⟩ _ rfl ⟨rfl,rfl⟩
 refine ent_value_on (ov_move rfl) rfl rfl rfl (Bool.eq_false_iff.2 c42) rfl rfl ?_
 refine ent_value_on (ov_len 0 rfl F_slice_32 rfl hA0) rfl rfl rfl (Bool.eq_false_iff.2 c42) rfl rfl ?_
 refine ent_value_on (ov_bin rfl rfl (b_eql _ _ _)) rfl rfl rfl (Bool.eq_false_iff.2 c42) rfl rfl ?_
 refine ent_value (ov_pick rfl rfl rfl (pick_f (Bool.eq_false_iff.2 c42))) rfl rfl rfl (ent_value (ov_move rfl) rfl rfl rfl ?_)
 refine htT H (fun c43 H => ?_) fun c43 H => ?_
 ·refine ent_off rfl rfl rfl (eq_t c43) rfl rfl ?_
  refine ent_off rfl rfl rfl (eq_t c43) rfl rfl ?_
  refine ent_off rfl rfl rfl (eq_t c43) rfl rfl ?_
  refine ent_value (ov_pick rfl rfl rfl (pick_t (eq_t c43))) rfl rfl rfl (ent_nil (ent_cond_true rfl rfl (ent_seq (ent_region (ent_value (ov_assign rfl) rfl rfl rfl (ent_value (ov_assign rfl) rfl rfl rfl (ent_nil (ent_retc ?_))))))))
  cases H
  refine ent_pick [0] (by decide) rfl ?_
  exact ret_mem (vs := [I 1,I 0]) rfl ⟨rfl,⟨rfl,trivial⟩⟩ _ rfl ⟨rfl,rfl⟩
 refine ent_value_on (ov_move rfl) rfl rfl rfl (eq_f c43) rfl rfl ?_
 refine ent_value_on (ov_len 0 rfl F_slice_32 rfl hA0) rfl rfl rfl (eq_f c43) rfl rfl ?_
 refine ent_value_on (ov_bin rfl rfl (b_gtr _ _ _)) rfl rfl rfl (eq_f c43) rfl rfl ?_
 refine ent_value (ov_pick rfl rfl rfl (pick_f (eq_f c43))) rfl rfl rfl (ent_nil ?_)
 refine htT H (fun c44 H => ?_) fun c44 H => ?_
 ·refine ent_cond_true rfl (decide_eq_true c44) (ent_seq (ent_region (ent_value (ov_assign rfl) rfl rfl rfl (ent_value (ov_assign rfl) rfl rfl rfl (ent_nil (ent_retc ?_))))))
  cases H
  refine ent_pick [0] (by decide) rfl ?_
  exact ret_mem (vs := [I 1,I 0]) rfl ⟨rfl,⟨rfl,trivial⟩⟩ _ rfl ⟨rfl,rfl⟩
 refine ent_cond_false rfl (decide_eq_false c44) (ent_skip (ent_seq (ent_seq (ent_region (ent_value (ov_move rfl) rfl rfl rfl (ent_value (ov_len 0 rfl F_slice_32 rfl hA0) rfl rfl rfl (ent_value (ov_move rfl) rfl rfl rfl (ent_nil (ent_block ?_)))))))))
 refine ent_loop (fun k a w => ∃ i6,fact_All_R_l0 K l0 a1 k i6 = some r ∧ St 37 w0 F [(1,I a1),(22,sv0),(23,I (l0.length : Int)),(24,I i6)] [A0] a w) K ?_ ?_
 ·exact ent_fin [0] (by decide) rfl (sub_cons (t := 1) rfl (sub_cons (t := 22) rfl (sub_cons (t := 23) rfl (sub_cons (t := 24) rfl (sub_nil _))))) fun a w h => ⟨_,H,h⟩
 ·refine fun k => ent_exi fun i6 => ent_and fun H4 => ?_
  let C0_ : List Value := [I (((l0.getD i6.toNat z_Api_Fact).Key).Hour),str (((l0.getD i6.toNat z_Api_Fact).Key).Dims_0),str (((l0.getD i6.toNat z_Api_Fact).Key).Dims_1),str (((l0.getD i6.toNat z_Api_Fact).Key).Dims_2),str (((l0.getD i6.toNat z_Api_Fact).Key).Dims_3),I ((l0.getD i6.toNat z_Api_Fact).Value)]
  cases k with
  | zero => exact absurd H4 (by simp [C0_,fact_All_R_l0])
  | succ k =>
   rw [fact_All_R_l0] at H4
   refine ent_seq (ent_region (ent_value (ov_bin rfl rfl (b_lss _ _ _)) rfl rfl rfl (ent_nil (ent_seq ?_))))
   refine htF H4 (fun c72 H4 => ?_) fun c72 H4 => ?_
   ·refine ent_cond_false rfl (decide_eq_false c72) (ent_exit (ent_seq (ent_region (ent_value (ov_assign rfl) rfl rfl rfl (ent_value (ov_assign rfl) rfl rfl rfl (ent_nil (ent_retc ?_)))))))
    cases H4
    refine ent_pick [0] (by decide) rfl ?_
    exact ret_mem (vs := [I 0,I 0]) rfl ⟨rfl,⟨rfl,trivial⟩⟩ _ rfl ⟨rfl,rfl⟩
   refine ent_cond_true rfl (decide_eq_true c72) (ent_skip (ent_seq (ent_block (ent_seq (ent_region (ent_value (ov_move rfl) rfl rfl rfl ?_))))))
   obtain ⟨c75,H4⟩ := gdT H4
   refine ent_value (ov_indexAddr (sz := 5) 0 rfl rfl F_slice_32 F_size_54 rfl hA0 c75 c72) rfl rfl rfl ?_
   refine ent_value (ov_load_agg (vs := C0_) rfl F_agg_54 F_size_54 (reads_rd (i := 0) rfl hA0 (by simp [C0_]) (fl_read0 enc_Api_Fact_len (ix_lt c75 c72) rfl))) rfl rfl rfl ?_
   refine ent_op (ot_alloc F_zero_54) rfl rfl rfl ?_
   rintro _ _ ⟨b24,rfl,rfl⟩
   refine ent_value (ov_assign rfl) rfl rfl rfl ?_
   refine ent_op0 (ot_storeG (cs := [I 0,S0,S0,S0,S0,I 0]) (cs' := C0_) (us := C0_) (L' := [box b24 54 C0_,A0]) 0 rfl rfl rfl (one_all rfl) F_size_54 rfl rfl (by simp [C0_]) rfl) rfl rfl ?_
   rintro _ _ rfl
   refine ent_nil (ent_seq (ent_region (ent_value (ov_load_agg (vs := C0_) rfl F_agg_54 F_size_54 (reads_boxW (i := 0) rfl)) rfl rfl rfl (ent_value (ov_move rfl) rfl rfl rfl ?_))))
   obtain ⟨x28,h28,H4⟩ := Option.bind_eq_some_iff.1 H4
   refine ent_op (ot_call0 (first := []) (cap := []) (xs := [.tmp 29,.tmp 30]) rfl rfl F_call_91 rfl (fact_Check.spec K (((l0.getD i6.toNat z_Api_Fact).Key).Hour) (((l0.getD i6.toNat z_Api_Fact).Key).Dims_0) (((l0.getD i6.toNat z_Api_Fact).Key).Dims_1) (((l0.getD i6.toNat z_Api_Fact).Key).Dims_2) (((l0.getD i6.toNat z_Api_Fact).Key).Dims_3) ((l0.getD i6.toNat z_Api_Fact).Value) a1 _ h28)) rfl rfl rfl ?_
   rintro _ _ ⟨rfl,rfl⟩
   refine ent_value (ov_assign rfl) rfl rfl rfl (ent_nil (ent_seq (ent_region (ent_value (ov_move rfl) rfl rfl rfl (ent_value (ov_bin rfl rfl (b_neq _ _ _)) rfl rfl rfl (ent_nil ?_))))))
   refine htF H4 (fun c76 H4 => ?_) fun c76 H4 => ?_
   ·refine ent_cond_false rfl (ne_f c76) (ent_skip (ent_region (ent_value (ov_bin rfl rfl (b_add _ _ _) ) rfl rfl rfl (ent_value (ov_move rfl) rfl rfl rfl (ent_nil ?_)))))
    exact ent_fin [1] (by decide) rfl (sub_cons (t := 1) rfl (sub_cons (t := 22) rfl (sub_cons (t := 23) rfl (sub_cons (t := 24) rfl (sub_nil _))))) fun a w h => ⟨k,Nat.lt_succ_self k,_,H4,h⟩
   refine ent_cond_true rfl (ne_t c76) (ent_seq (ent_region (ent_value (ov_move rfl) rfl rfl rfl (ent_value (ov_move rfl) rfl rfl rfl (ent_value (ov_assign rfl) rfl rfl rfl (ent_value (ov_assign rfl) rfl rfl rfl (ent_nil (ent_retc ?_))))))))
   cases H4
   refine ent_pick [1] (by decide) rfl ?_
   exact ret_mem (vs := [I x28,I i6]) rfl ⟨rfl,⟨rfl,trivial⟩⟩ _ rfl ⟨rfl,rfl⟩

theorem script_Right_ON.spec (K : Nat) (sv0 : Value) (l0 : List Api_Fact) (a1 : Int) (r : Bool) (H : script_Right_ON K l0 a1 = some r) : FnSpec Tryd.prog 51 [agg #[I 1,I 0,sv0,I 0,I 0,B0,B0,B0,B0,B0,B0,B0,B0,S0,S0,S0,S0,I 0,I 0,I 0,I 0,I 0,I 0,I 0,I 0,I 0,L0],I a1] [own sv0 54 6 l0.length (fl enc_Api_Fact l0)] (fun v M => v = (bool r) ∧ M = [own sv0 54 6 l0.length (fl enc_Api_Fact l0)]) := by
 unfold script_Right_ON at H
 refine spec_of Tryd.func51 rfl 58 rfl (Nat.le_of_ble_eq_true rfl) fun F w0 => ?_
 let C1_ : List Value := [I 1,I 0,sv0,I 0,I 0,B0,B0,B0,B0,B0,B0,B0,B0,S0,S0,S0,S0,I 0,I 0,I 0,I 0,I 0,I 0,I 0,I 0,I 0,L0]
 show Ent (St 58 w0 F [(0,agg #[I 1,I 0,sv0,I 0,I 0,B0,B0,B0,B0,B0,B0,B0,B0,S0,S0,S0,S0,I 0,I 0,I 0,I 0,I 0,I 0,I 0,I 0,I 0,L0]),(1,I a1)] [own sv0 54 6 l0.length (fl enc_Api_Fact l0)]) _
 refine ent_seq (ent_region ?_)
 refine ent_op (ot_box (cs := C1_) rfl rfl) rfl rfl rfl ?_
 rintro _ _ ⟨b3,rfl,rfl⟩
 refine ent_value (ov_assign rfl) rfl rfl rfl (ent_nil (ent_seq (ent_region (ent_value (ov_load_agg (vs := C1_) rfl F_agg_41 F_size_41 (reads_boxW (i := 0) rfl)) rfl rfl rfl ?_))))
 obtain ⟨x6,h6,H⟩ := thn_elim H
 let C0_ : List Value := [I x6.1,I x6.2.1,L0,I x6.2.2.1,I x6.2.2.2.1,bool x6.2.2.2.2.1,bool x6.2.2.2.2.2.1,bool x6.2.2.2.2.2.2.1,bool x6.2.2.2.2.2.2.2.1,bool x6.2.2.2.2.2.2.2.2.1,bool x6.2.2.2.2.2.2.2.2.2.1,bool x6.2.2.2.2.2.2.2.2.2.2.1,bool x6.2.2.2.2.2.2.2.2.2.2.2.1,str x6.2.2.2.2.2.2.2.2.2.2.2.2.1,str x6.2.2.2.2.2.2.2.2.2.2.2.2.2.1,str x6.2.2.2.2.2.2.2.2.2.2.2.2.2.2.1,str x6.2.2.2.2.2.2.2.2.2.2.2.2.2.2.2.1,I x6.2.2.2.2.2.2.2.2.2.2.2.2.2.2.2.2.1,I x6.2.2.2.2.2.2.2.2.2.2.2.2.2.2.2.2.2.1,I x6.2.2.2.2.2.2.2.2.2.2.2.2.2.2.2.2.2.2.1,I x6.2.2.2.2.2.2.2.2.2.2.2.2.2.2.2.2.2.2.2.1,I x6.2.2.2.2.2.2.2.2.2.2.2.2.2.2.2.2.2.2.2.2.1,I x6.2.2.2.2.2.2.2.2.2.2.2.2.2.2.2.2.2.2.2.2.2.1,I x6.2.2.2.2.2.2.2.2.2.2.2.2.2.2.2.2.2.2.2.2.2.2.1,I x6.2.2.2.2.2.2.2.2.2.2.2.2.2.2.2.2.2.2.2.2.2.2.2.1,I x6.2.2.2.2.2.2.2.2.2.2.2.2.2.2.2.2.2.2.2.2.2.2.2.2,L0]
 refine ent_op (ot_call_same (Lr := [box b3 41 C1_]) [1,0] [1,0] (first := []) (cap := []) (xs := [.tmp 8]) rfl rfl F_call_70 rfl (script_bare_ON.spec sv0 l0 _ h6) (by decide) rfl (by decide) rfl) rfl rfl rfl ?_
 rintro _ _ ⟨rfl,rfl⟩
 refine ent_op (ot_alloc F_zero_41) rfl rfl rfl ?_
 rintro _ _ ⟨b4,rfl,rfl⟩
 let C2_ : List HP := [box b4 41 C0_,box b3 41 C1_,own sv0 54 6 l0.length (fl enc_Api_Fact l0)]
 refine ent_op0 (ot_storeG (cs := [I 0,I 0,L0,I 0,I 0,B0,B0,B0,B0,B0,B0,B0,B0,S0,S0,S0,S0,I 0,I 0,I 0,I 0,I 0,I 0,I 0,I 0,I 0,L0]) (cs' := C0_) (us := C0_) (L' := C2_) 0 rfl rfl rfl (one_all rfl) F_size_41 rfl rfl (by simp [C1_,C0_,C2_]) rfl) rfl rfl ?_
 rintro _ _ rfl
 refine ent_nil (ent_seq (ent_seq (ent_region (ent_value (ov_fieldAddr (sz := 0) (o := 0) rfl F_field_41_0 F_size_3) rfl rfl rfl (ent_value (ov_load (v := (I 1)) rfl F_agg_3 (reads_box1 (i := 1) rfl rfl)) rfl rfl rfl (ent_value (ov_bin rfl rfl (b_lss _ _ _)) rfl rfl rfl (ent_value (ov_move rfl) rfl rfl rfl ?_)))))))
 refine ent_value_on (ov_fieldAddr (sz := 0) (o := 0) rfl F_field_41_0 F_size_3) rfl rfl rfl rfl rfl rfl ?_
 refine ent_value_on (ov_load (v := (I 1)) rfl F_agg_3 (reads_box1 (i := 1) rfl rfl)) rfl rfl rfl rfl rfl rfl ?_
 refine ent_value_on (ov_bin rfl rfl (b_gtr _ _ _)) rfl rfl rfl rfl rfl rfl ?_
 refine ent_value (ov_pick rfl rfl rfl rfl) rfl rfl rfl (ent_value (ov_move rfl) rfl rfl rfl ?_)
 refine ent_value_on (ov_load_agg (vs := C0_) rfl F_agg_41 F_size_41 (reads_boxW (i := 0) rfl)) rfl rfl rfl rfl rfl rfl ?_
 refine ent_op_on (ot_buildSlice (sz := 26) (xs := [.tmp 19]) (cs := fl enc_Api_Step [(⟨x6.1,x6.2.1,(⟨slice none 0 0,[]⟩ : Sl Api_Fact),(⟨x6.2.2.1,x6.2.2.2.1,x6.2.2.2.2.1,x6.2.2.2.2.2.1,x6.2.2.2.2.2.2.1,x6.2.2.2.2.2.2.2.1,x6.2.2.2.2.2.2.2.2.1,x6.2.2.2.2.2.2.2.2.2.1,x6.2.2.2.2.2.2.2.2.2.2.1,x6.2.2.2.2.2.2.2.2.2.2.2.1,x6.2.2.2.2.2.2.2.2.2.2.2.2.1,x6.2.2.2.2.2.2.2.2.2.2.2.2.2.1,x6.2.2.2.2.2.2.2.2.2.2.2.2.2.2.1,x6.2.2.2.2.2.2.2.2.2.2.2.2.2.2.2.1⟩ : Api_Query),(⟨x6.2.2.2.2.2.2.2.2.2.2.2.2.2.2.2.2.1,x6.2.2.2.2.2.2.2.2.2.2.2.2.2.2.2.2.2.1,x6.2.2.2.2.2.2.2.2.2.2.2.2.2.2.2.2.2.2.1,x6.2.2.2.2.2.2.2.2.2.2.2.2.2.2.2.2.2.2.2.1,x6.2.2.2.2.2.2.2.2.2.2.2.2.2.2.2.2.2.2.2.2.1,x6.2.2.2.2.2.2.2.2.2.2.2.2.2.2.2.2.2.2.2.2.2.1,x6.2.2.2.2.2.2.2.2.2.2.2.2.2.2.2.2.2.2.2.2.2.2.1,x6.2.2.2.2.2.2.2.2.2.2.2.2.2.2.2.2.2.2.2.2.2.2.2.1,x6.2.2.2.2.2.2.2.2.2.2.2.2.2.2.2.2.2.2.2.2.2.2.2.2⟩ : Api_Policy),(⟨slice none 0 0,[]⟩ : Sl Bool)⟩ : Api_Step)]) rfl rfl F_slice_47 F_size_41 F_zero_41 rfl rfl (all_size rfl) rfl (by decide)) rfl rfl rfl rfl rfl rfl ?_
 rintro sv7 _ rfl
 refine ent_value_on (ov_fieldAddr (sz := 0) (o := 0) rfl F_field_41_0 F_size_3) rfl rfl rfl rfl rfl rfl ?_
 refine ent_value_on (ov_load (v := (I 1)) rfl F_agg_3 (reads_box1 (i := 2) rfl rfl)) rfl rfl rfl rfl rfl rfl ?_
 refine ent_value_on (ov_build (is := [0]) (xs := [.tmp 22]) (vs := [I 1]) rfl rfl (build_struct (cs := [I 1,I 0,L0,I 0,I 0,B0,B0,B0,B0,B0,B0,B0,B0,S0,S0,S0,S0,I 0,I 0,I 0,I 0,I 0,I 0,I 0,I 0,I 0,L0]) F_zero_41 F_places_41 rfl)) rfl rfl rfl rfl rfl rfl ?_
 refine ent_op_on (ot_buildSlice (sz := 26) (xs := [.tmp 23]) (cs := fl enc_Api_Step [(⟨1,0,(⟨slice none 0 0,[]⟩ : Sl Api_Fact),(⟨0,0,false,false,false,false,false,false,false,false,nB,nB,nB,nB⟩ : Api_Query),(⟨0,0,0,0,0,0,0,0,0⟩ : Api_Policy),(⟨slice none 0 0,[]⟩ : Sl Bool)⟩ : Api_Step)]) rfl rfl F_slice_47 F_size_41 F_zero_41 rfl rfl (all_size rfl) rfl (by decide)) rfl rfl rfl rfl rfl rfl ?_
 rintro sv8 _ rfl
 obtain ⟨x8,h8,H⟩ := Option.bind_eq_some_iff.1 H
 refine ent_op_on (ot_call_same (Lr := C2_) [1,0,2,3,4] [1,0,2,3,4] (first := []) (cap := []) (xs := [.tmp 20,.tmp 24]) rfl rfl F_call_71 rfl (script_Same_RR.spec K sv7 (own sv7 41 27 [(⟨x6.1,x6.2.1,(⟨slice none 0 0,[]⟩ : Sl Api_Fact),(⟨x6.2.2.1,x6.2.2.2.1,x6.2.2.2.2.1,x6.2.2.2.2.2.1,x6.2.2.2.2.2.2.1,x6.2.2.2.2.2.2.2.1,x6.2.2.2.2.2.2.2.2.1,x6.2.2.2.2.2.2.2.2.2.1,x6.2.2.2.2.2.2.2.2.2.2.1,x6.2.2.2.2.2.2.2.2.2.2.2.1,x6.2.2.2.2.2.2.2.2.2.2.2.2.1,x6.2.2.2.2.2.2.2.2.2.2.2.2.2.1,x6.2.2.2.2.2.2.2.2.2.2.2.2.2.2.1,x6.2.2.2.2.2.2.2.2.2.2.2.2.2.2.2.1⟩ : Api_Query),(⟨x6.2.2.2.2.2.2.2.2.2.2.2.2.2.2.2.2.1,x6.2.2.2.2.2.2.2.2.2.2.2.2.2.2.2.2.2.1,x6.2.2.2.2.2.2.2.2.2.2.2.2.2.2.2.2.2.2.1,x6.2.2.2.2.2.2.2.2.2.2.2.2.2.2.2.2.2.2.2.1,x6.2.2.2.2.2.2.2.2.2.2.2.2.2.2.2.2.2.2.2.2.1,x6.2.2.2.2.2.2.2.2.2.2.2.2.2.2.2.2.2.2.2.2.2.1,x6.2.2.2.2.2.2.2.2.2.2.2.2.2.2.2.2.2.2.2.2.2.2.1,x6.2.2.2.2.2.2.2.2.2.2.2.2.2.2.2.2.2.2.2.2.2.2.2.1,x6.2.2.2.2.2.2.2.2.2.2.2.2.2.2.2.2.2.2.2.2.2.2.2.2⟩ : Api_Policy),(⟨slice none 0 0,[]⟩ : Sl Bool)⟩ : Api_Step)].length (fl enc_Api_Step [(⟨x6.1,x6.2.1,(⟨slice none 0 0,[]⟩ : Sl Api_Fact),(⟨x6.2.2.1,x6.2.2.2.1,x6.2.2.2.2.1,x6.2.2.2.2.2.1,x6.2.2.2.2.2.2.1,x6.2.2.2.2.2.2.2.1,x6.2.2.2.2.2.2.2.2.1,x6.2.2.2.2.2.2.2.2.2.1,x6.2.2.2.2.2.2.2.2.2.2.1,x6.2.2.2.2.2.2.2.2.2.2.2.1,x6.2.2.2.2.2.2.2.2.2.2.2.2.1,x6.2.2.2.2.2.2.2.2.2.2.2.2.2.1,x6.2.2.2.2.2.2.2.2.2.2.2.2.2.2.1,x6.2.2.2.2.2.2.2.2.2.2.2.2.2.2.2.1⟩ : Api_Query),(⟨x6.2.2.2.2.2.2.2.2.2.2.2.2.2.2.2.2.1,x6.2.2.2.2.2.2.2.2.2.2.2.2.2.2.2.2.2.1,x6.2.2.2.2.2.2.2.2.2.2.2.2.2.2.2.2.2.2.1,x6.2.2.2.2.2.2.2.2.2.2.2.2.2.2.2.2.2.2.2.1,x6.2.2.2.2.2.2.2.2.2.2.2.2.2.2.2.2.2.2.2.2.1,x6.2.2.2.2.2.2.2.2.2.2.2.2.2.2.2.2.2.2.2.2.2.1,x6.2.2.2.2.2.2.2.2.2.2.2.2.2.2.2.2.2.2.2.2.2.2.1,x6.2.2.2.2.2.2.2.2.2.2.2.2.2.2.2.2.2.2.2.2.2.2.2.1,x6.2.2.2.2.2.2.2.2.2.2.2.2.2.2.2.2.2.2.2.2.2.2.2.2⟩ : Api_Policy),(⟨slice none 0 0,[]⟩ : Sl Bool)⟩ : Api_Step)])) sv8 (own sv8 41 27 [(⟨1,0,(⟨slice none 0 0,[]⟩ : Sl Api_Fact),(⟨0,0,false,false,false,false,false,false,false,false,nB,nB,nB,nB⟩ : Api_Query),(⟨0,0,0,0,0,0,0,0,0⟩ : Api_Policy),(⟨slice none 0 0,[]⟩ : Sl Bool)⟩ : Api_Step)].length (fl enc_Api_Step [(⟨1,0,(⟨slice none 0 0,[]⟩ : Sl Api_Fact),(⟨0,0,false,false,false,false,false,false,false,false,nB,nB,nB,nB⟩ : Api_Query),(⟨0,0,0,0,0,0,0,0,0⟩ : Api_Policy),(⟨slice none 0 0,[]⟩ : Sl Bool)⟩ : Api_Step)])) [(⟨x6.1,x6.2.1,(⟨slice none 0 0,[]⟩ : Sl Api_Fact),(⟨x6.2.2.1,x6.2.2.2.1,x6.2.2.2.2.1,x6.2.2.2.2.2.1,x6.2.2.2.2.2.2.1,x6.2.2.2.2.2.2.2.1,x6.2.2.2.2.2.2.2.2.1,x6.2.2.2.2.2.2.2.2.2.1,x6.2.2.2.2.2.2.2.2.2.2.1,x6.2.2.2.2.2.2.2.2.2.2.2.1,x6.2.2.2.2.2.2.2.2.2.2.2.2.1,x6.2.2.2.2.2.2.2.2.2.2.2.2.2.1,x6.2.2.2.2.2.2.2.2.2.2.2.2.2.2.1,x6.2.2.2.2.2.2.2.2.2.2.2.2.2.2.2.1⟩ : Api_Query),(⟨x6.2.2.2.2.2.2.2.2.2.2.2.2.2.2.2.2.1,x6.2.2.2.2.2.2.2.2.2.2.2.2.2.2.2.2.2.1,x6.2.2.2.2.2.2.2.2.2.2.2.2.2.2.2.2.2.2.1,x6.2.2.2.2.2.2.2.2.2.2.2.2.2.2.2.2.2.2.2.1,x6.2.2.2.2.2.2.2.2.2.2.2.2.2.2.2.2.2.2.2.2.1,x6.2.2.2.2.2.2.2.2.2.2.2.2.2.2.2.2.2.2.2.2.2.1,x6.2.2.2.2.2.2.2.2.2.2.2.2.2.2.2.2.2.2.2.2.2.2.1,x6.2.2.2.2.2.2.2.2.2.2.2.2.2.2.2.2.2.2.2.2.2.2.2.1,x6.2.2.2.2.2.2.2.2.2.2.2.2.2.2.2.2.2.2.2.2.2.2.2.2⟩ : Api_Policy),(⟨slice none 0 0,[]⟩ : Sl Bool)⟩ : Api_Step)] [(⟨1,0,(⟨slice none 0 0,[]⟩ : Sl Api_Fact),(⟨0,0,false,false,false,false,false,false,false,false,nB,nB,nB,nB⟩ : Api_Query),(⟨0,0,0,0,0,0,0,0,0⟩ : Api_Policy),(⟨slice none 0 0,[]⟩ : Sl Bool)⟩ : Api_Step)] (isRd_ownx 41) (jag_cons ⟨(isRd_nilA _ _),(isRd_nilA _ _)⟩ jag_nil) (isRd_ownx 41) (jag_cons ⟨(isRd_nilA _ _),(isRd_nilA _ _)⟩ jag_nil) _ h8) (by decide) rfl (by decide) rfl) rfl rfl rfl rfl rfl rfl ?_
 rintro _ _ ⟨rfl,rfl⟩
 refine ent_value_on (ov_un rfl (u_not _)) rfl rfl rfl rfl rfl rfl ?_
 refine ent_value (ov_pick rfl rfl rfl rfl) rfl rfl rfl (ent_nil ?_)
 refine htT H (fun c4 H => ?_) fun c4 H => ?_
 ·refine ent_cond_true rfl c4 (ent_seq (ent_region (ent_value (ov_assign rfl) rfl rfl rfl (ent_nil (ent_retc ?_)))))
  cases H
  refine ent_pick [4] (by decide) rfl ?_
  exact ret_tmp rfl rfl ⟨rfl,rfl⟩
 refine ent_cond_false rfl (Bool.eq_false_iff.2 c4) (ent_skip (ent_seq (ent_seq (ent_region (ent_value (ov_fieldAddr (sz := 0) (o := 0) rfl F_field_41_0 F_size_3) rfl rfl rfl (ent_value (ov_load (v := (I 1)) rfl F_agg_3 (reads_box1 (i := 3) rfl rfl)) rfl rfl rfl (ent_nil (ent_block (ent_seq (ent_region (ent_value (ov_bin rfl rfl (b_eql _ _ _)) rfl rfl rfl ?_)))))))))))
 refine ent_value (ov_assign rfl) rfl rfl rfl (ent_nil (ent_cond_true rfl rfl (ent_seq (ent_region (ent_value (ov_fieldAddr (sz := 0) (o := 0) rfl F_field_41_2 F_size_32) rfl rfl rfl (ent_value (ov_load (v := sv0) rfl F_agg_32 (reads_box1 (i := 3) rfl rfl)) rfl rfl rfl (ent_value (ov_move rfl) rfl rfl rfl ?_)))))))
 obtain ⟨x10,h10,H⟩ := Option.bind_eq_some_iff.1 H
 refine ent_op (ot_call_same (Lr := [own sv8 41 27 [(⟨1,0,(⟨slice none 0 0,[]⟩ : Sl Api_Fact),(⟨0,0,false,false,false,false,false,false,false,false,nB,nB,nB,nB⟩ : Api_Query),(⟨0,0,0,0,0,0,0,0,0⟩ : Api_Policy),(⟨slice none 0 0,[]⟩ : Sl Bool)⟩ : Api_Step)].length (fl enc_Api_Step [(⟨1,0,(⟨slice none 0 0,[]⟩ : Sl Api_Fact),(⟨0,0,false,false,false,false,false,false,false,false,nB,nB,nB,nB⟩ : Api_Query),(⟨0,0,0,0,0,0,0,0,0⟩ : Api_Policy),(⟨slice none 0 0,[]⟩ : Sl Bool)⟩ : Api_Step)]),own sv7 41 27 [(⟨x6.1,x6.2.1,(⟨slice none 0 0,[]⟩ : Sl Api_Fact),(⟨x6.2.2.1,x6.2.2.2.1,x6.2.2.2.2.1,x6.2.2.2.2.2.1,x6.2.2.2.2.2.2.1,x6.2.2.2.2.2.2.2.1,x6.2.2.2.2.2.2.2.2.1,x6.2.2.2.2.2.2.2.2.2.1,x6.2.2.2.2.2.2.2.2.2.2.1,x6.2.2.2.2.2.2.2.2.2.2.2.1,x6.2.2.2.2.2.2.2.2.2.2.2.2.1,x6.2.2.2.2.2.2.2.2.2.2.2.2.2.1,x6.2.2.2.2.2.2.2.2.2.2.2.2.2.2.1,x6.2.2.2.2.2.2.2.2.2.2.2.2.2.2.2.1⟩ : Api_Query),(⟨x6.2.2.2.2.2.2.2.2.2.2.2.2.2.2.2.2.1,x6.2.2.2.2.2.2.2.2.2.2.2.2.2.2.2.2.2.1,x6.2.2.2.2.2.2.2.2.2.2.2.2.2.2.2.2.2.2.1,x6.2.2.2.2.2.2.2.2.2.2.2.2.2.2.2.2.2.2.2.1,x6.2.2.2.2.2.2.2.2.2.2.2.2.2.2.2.2.2.2.2.2.1,x6.2.2.2.2.2.2.2.2.2.2.2.2.2.2.2.2.2.2.2.2.2.1,x6.2.2.2.2.2.2.2.2.2.2.2.2.2.2.2.2.2.2.2.2.2.2.1,x6.2.2.2.2.2.2.2.2.2.2.2.2.2.2.2.2.2.2.2.2.2.2.2.1,x6.2.2.2.2.2.2.2.2.2.2.2.2.2.2.2.2.2.2.2.2.2.2.2.2⟩ : Api_Policy),(⟨slice none 0 0,[]⟩ : Sl Bool)⟩ : Api_Step)].length (fl enc_Api_Step [(⟨x6.1,x6.2.1,(⟨slice none 0 0,[]⟩ : Sl Api_Fact),(⟨x6.2.2.1,x6.2.2.2.1,x6.2.2.2.2.1,x6.2.2.2.2.2.1,x6.2.2.2.2.2.2.1,x6.2.2.2.2.2.2.2.1,x6.2.2.2.2.2.2.2.2.1,x6.2.2.2.2.2.2.2.2.2.1,x6.2.2.2.2.2.2.2.2.2.2.1,x6.2.2.2.2.2.2.2.2.2.2.2.1,x6.2.2.2.2.2.2.2.2.2.2.2.2.1,x6.2.2.2.2.2.2.2.2.2.2.2.2.2.1,x6.2.2.2.2.2.2.2.2.2.2.2.2.2.2.1,x6.2.2.2.2.2.2.2.2.2.2.2.2.2.2.2.1⟩ : Api_Query),(⟨x6.2.2.2.2.2.2.2.2.2.2.2.2.2.2.2.2.1,x6.2.2.2.2.2.2.2.2.2.2.2.2.2.2.2.2.2.1,x6.2.2.2.2.2.2.2.2.2.2.2.2.2.2.2.2.2.2.1,x6.2.2.2.2.2.2.2.2.2.2.2.2.2.2.2.2.2.2.2.1,x6.2.2.2.2.2.2.2.2.2.2.2.2.2.2.2.2.2.2.2.2.1,x6.2.2.2.2.2.2.2.2.2.2.2.2.2.2.2.2.2.2.2.2.2.1,x6.2.2.2.2.2.2.2.2.2.2.2.2.2.2.2.2.2.2.2.2.2.2.1,x6.2.2.2.2.2.2.2.2.2.2.2.2.2.2.2.2.2.2.2.2.2.2.2.1,x6.2.2.2.2.2.2.2.2.2.2.2.2.2.2.2.2.2.2.2.2.2.2.2.2⟩ : Api_Policy),(⟨slice none 0 0,[]⟩ : Sl Bool)⟩ : Api_Step)]),box b4 41 C0_,box b3 41 C1_]) [4,0,1,2,3] [1,2,3,4,0] (first := []) (cap := []) (xs := [.tmp 34,.tmp 35]) rfl rfl F_call_72 rfl (fact_All_R.spec K sv0 (own sv0 54 6 l0.length (fl enc_Api_Fact l0)) l0 a1 (isRd_ownx 54) _ h10) (by decide) rfl (by decide) rfl) rfl rfl rfl ?_
 rintro _ _ ⟨rfl,rfl⟩
 refine ent_value (ov_move rfl) rfl rfl rfl (ent_value (ov_extract rfl rfl) rfl rfl rfl (ent_value (ov_extract rfl rfl) rfl rfl rfl (ent_value (ov_assign rfl) rfl rfl rfl (ent_value (ov_assign rfl) rfl rfl rfl (ent_nil (ent_seq (ent_region (ent_value (ov_move rfl) rfl rfl rfl (ent_value (ov_bin rfl rfl (b_eql _ _ _)) rfl rfl rfl (ent_value (ov_assign rfl) rfl rfl rfl (ent_nil ?_)))))))))))
 refine ent_retc ?_
 cases H
 refine ent_pick [4] (by decide) rfl ?_
 exact ret_tmp rfl rfl ⟨rfl,rfl⟩

theorem words_numbers_NN.spec (p0 p1 : Nat) (p0_0 p0_1 : Int) (p0_3 p0_4 : Int) (p0_5 p0_6 : Bool) (p0_7 p0_8 : Bool) (p0_9 p0_10 : Bool) (p0_11 p0_12 : Bool) (p0_13 : List UInt8) (p0_14 : List UInt8) (p0_15 : List UInt8) (p0_16 : List UInt8) (p0_17 p0_18 : Int) (p0_19 p0_20 : Int) (p0_21 p0_22 : Int) (p0_23 p0_24 : Int) (p0_25 p1_0 : Int) (r : Unit) (H : words_numbers_NN p0_0 p0_1 p0_3 p0_4 p0_5 p0_6 p0_7 p0_8 p0_9 p0_10 p0_11 p0_12 p0_13 p0_14 p0_15 p0_16 p0_17 p0_18 p0_19 p0_20 p0_21 p0_22 p0_23 p0_24 p0_25 p1_0 = r) : FnSpec Tryd.prog 45 [pt p0 17,pt p1 0] [box p0 41 [I p0_0,I p0_1,L0,I p0_3,I p0_4,bool p0_5,bool p0_6,bool p0_7,bool p0_8,bool p0_9,bool p0_10,bool p0_11,bool p0_12,str p0_13,str p0_14,str p0_15,str p0_16,I p0_17,I p0_18,I p0_19,I p0_20,I p0_21,I p0_22,I p0_23,I p0_24,I p0_25,L0],box p1 2 [I p1_0]] (fun v M => v = (agg #[pt p0 17,pt p0 18,pt p0 19,pt p0 20,pt p0 21,pt p0 22,pt p0 23,pt p1 0,pt p0 25]) ∧ M = [box p0 41 [I p0_0,I p0_1,L0,I p0_3,I p0_4,bool p0_5,bool p0_6,bool p0_7,bool p0_8,bool p0_9,bool p0_10,bool p0_11,bool p0_12,str p0_13,str p0_14,str p0_15,str p0_16,I p0_17,I p0_18,I p0_19,I p0_20,I p0_21,I p0_22,I p0_23,I p0_24,I p0_25,L0],box p1 2 [I p1_0]]) := by
 unfold words_numbers_NN at H
 refine spec_of Tryd.func45 rfl 31 rfl (Nat.le_of_ble_eq_true rfl) fun F w0 => ?_
 let C2_ : Value := agg #[pt p0 17,pt p0 18,pt p0 19,pt p0 20,pt p0 21,pt p0 22,pt p0 23,pt p1 0,pt p0 25]
 let C1_ : List Value := [pt p0 17,pt p0 18,pt p0 19,pt p0 20,pt p0 21,pt p0 22,pt p0 23,pt p1 0,pt p0 25]
 let C0_ : List Value := [I p0_0,I p0_1,L0,I p0_3,I p0_4,bool p0_5,bool p0_6,bool p0_7,bool p0_8,bool p0_9,bool p0_10,bool p0_11,bool p0_12,str p0_13,str p0_14,str p0_15,str p0_16,I p0_17,I p0_18,I p0_19,I p0_20,I p0_21,I p0_22,I p0_23,I p0_24,I p0_25,L0]
 show Ent (St 31 w0 F [(0,pt p0 17),(1,pt p1 0)] [box p0 41 C0_,box p1 2 [I p1_0]]) _
 refine ent_seq (ent_region ?_)
 refine ent_op (ot_alloc F_zero_86) rfl rfl rfl ?_
 rintro _ _ ⟨b2,rfl,rfl⟩
 let C3_ : List HP := [box b2 86 C1_,box p0 41 C0_,box p1 2 [I p1_0]]
 refine ent_nil (ent_seq ?_)
 refine ent_drawm 27 rfl (fun done a w => StD 31 w0 F [(0,pt p0 17),(1,pt p1 0),(4,pt b2 0)] [(0,5,pt p0 17),(1,6,pt p0 17),(2,7,pt p0 17),(3,8,pt p0 17),(4,9,pt p0 17),(5,10,pt p0 18),(6,11,pt p0 17),(7,12,pt p0 17),(8,13,pt p0 19),(9,14,pt p0 17),(10,15,pt p0 17),(11,16,pt p0 20),(12,17,pt p0 17),(13,18,pt p0 17),(14,19,pt p0 21),(15,20,pt p0 17),(16,21,pt p0 17),(17,22,pt p0 22),(18,23,pt p0 17),(19,24,pt p0 17),(20,25,pt p0 23),(21,26,pt p1 0),(22,27,pt p0 17),(23,28,pt p0 17),(24,29,pt p0 25),(25,30,C2_)] done [sel (done 26) (box b2 86 C1_) (box b2 86 [P0,P0,P0,P0,P0,P0,P0,P0,P0]),box p0 41 C0_,box p1 2 [I p1_0]] a w) (by kernel_rfl) (by kernel_rfl) (draw_startL (sub_cons (t := 0) rfl (sub_cons (t := 1) rfl (sub_cons (t := 4) rfl (sub_nil _)))) (by simp only [C2_,C1_,C0_,C3_,sel])) ?_ ?_
 ·refine ⟨?_,?_,?_,?_,?_,?_,?_,?_,?_,?_,?_,?_,?_,?_,?_,?_,?_,?_,?_,?_,?_,?_,?_,?_,?_,?_,?_,trivial⟩
  ·exact fun done hi hc hcu => draw_value (i := 0) (t := 5) (v := (pt p0 17)) rfl rfl (wanted_none rfl) (fun a => hasA_base) (ov_move rfl) rfl rfl (onlyT_spec (k0 := 0) rfl rfl rfl)
  ·exact fun done hi hc hcu => draw_value (i := 1) (t := 6) (v := (pt p0 17)) rfl rfl (wanted_none rfl) (fun a => (hasA_cons (k := 0) rfl (done_of (j := 0) hcu rfl (by decide) rfl) hasA_base)) (ov_nilCheck rfl) rfl rfl (onlyT_spec (k0 := 1) rfl rfl rfl)
  ·exact fun done hi hc hcu => draw_value (i := 2) (t := 7) (v := (pt p0 17)) rfl rfl (wanted_none rfl) (fun a => (hasA_cons (k := 1) rfl (done_of (j := 1) hcu rfl (by decide) rfl) hasA_base)) (ov_fieldAddr (sz := 0) (o := 17) rfl F_field_38_0 F_size_2) rfl rfl (onlyT_spec (k0 := 2) rfl rfl rfl)
  ·exact fun done hi hc hcu => draw_value (i := 3) (t := 8) (v := (pt p0 17)) rfl rfl (wanted_none rfl) (fun a => hasA_base) (ov_move rfl) rfl rfl (onlyT_spec (k0 := 3) rfl rfl rfl)
  ·exact fun done hi hc hcu => draw_value (i := 4) (t := 9) (v := (pt p0 17)) rfl rfl (wanted_none rfl) (fun a => (hasA_cons (k := 3) rfl (done_of (j := 3) hcu rfl (by decide) rfl) hasA_base)) (ov_nilCheck rfl) rfl rfl (onlyT_spec (k0 := 4) rfl rfl rfl)
  ·exact fun done hi hc hcu => draw_value (i := 5) (t := 10) (v := (pt p0 18)) rfl rfl (wanted_none rfl) (fun a => (hasA_cons (k := 4) rfl (done_of (j := 4) hcu rfl (by decide) rfl) hasA_base)) (ov_fieldAddr (sz := 0) (o := 17) rfl F_field_38_1 F_size_2) rfl rfl (onlyT_spec (k0 := 5) rfl rfl rfl)
  ·exact fun done hi hc hcu => draw_value (i := 6) (t := 11) (v := (pt p0 17)) rfl rfl (wanted_none rfl) (fun a => hasA_base) (ov_move rfl) rfl rfl (onlyT_spec (k0 := 6) rfl rfl rfl)
  ·exact fun done hi hc hcu => draw_value (i := 7) (t := 12) (v := (pt p0 17)) rfl rfl (wanted_none rfl) (fun a => (hasA_cons (k := 6) rfl (done_of (j := 6) hcu rfl (by decide) rfl) hasA_base)) (ov_nilCheck rfl) rfl rfl (onlyT_spec (k0 := 7) rfl rfl rfl)
  ·exact fun done hi hc hcu => draw_value (i := 8) (t := 13) (v := (pt p0 19)) rfl rfl (wanted_none rfl) (fun a => (hasA_cons (k := 7) rfl (done_of (j := 7) hcu rfl (by decide) rfl) hasA_base)) (ov_fieldAddr (sz := 0) (o := 17) rfl F_field_38_2 F_size_2) rfl rfl (onlyT_spec (k0 := 8) rfl rfl rfl)
  ·exact fun done hi hc hcu => draw_value (i := 9) (t := 14) (v := (pt p0 17)) rfl rfl (wanted_none rfl) (fun a => hasA_base) (ov_move rfl) rfl rfl (onlyT_spec (k0 := 9) rfl rfl rfl)
  ·exact fun done hi hc hcu => draw_value (i := 10) (t := 15) (v := (pt p0 17)) rfl rfl (wanted_none rfl) (fun a => (hasA_cons (k := 9) rfl (done_of (j := 9) hcu rfl (by decide) rfl) hasA_base)) (ov_nilCheck rfl) rfl rfl (onlyT_spec (k0 := 10) rfl rfl rfl)
  ·exact fun done hi hc hcu => draw_value (i := 11) (t := 16) (v := (pt p0 20)) rfl rfl (wanted_none rfl) (fun a => (hasA_cons (k := 10) rfl (done_of (j := 10) hcu rfl (by decide) rfl) hasA_base)) (ov_fieldAddr (sz := 0) (o := 17) rfl F_field_38_3 F_size_2) rfl rfl (onlyT_spec (k0 := 11) rfl rfl rfl)
  ·exact fun done hi hc hcu => draw_value (i := 12) (t := 17) (v := (pt p0 17)) rfl rfl (wanted_none rfl) (fun a => hasA_base) (ov_move rfl) rfl rfl (onlyT_spec (k0 := 12) rfl rfl rfl)
  ·exact fun done hi hc hcu => draw_value (i := 13) (t := 18) (v := (pt p0 17)) rfl rfl (wanted_none rfl) (fun a => (hasA_cons (k := 12) rfl (done_of (j := 12) hcu rfl (by decide) rfl) hasA_base)) (ov_nilCheck rfl) rfl rfl (onlyT_spec (k0 := 13) rfl rfl rfl)
  ·exact fun done hi hc hcu => draw_value (i := 14) (t := 19) (v := (pt p0 21)) rfl rfl (wanted_none rfl) (fun a => (hasA_cons (k := 13) rfl (done_of (j := 13) hcu rfl (by decide) rfl) hasA_base)) (ov_fieldAddr (sz := 0) (o := 17) rfl F_field_38_4 F_size_2) rfl rfl (onlyT_spec (k0 := 14) rfl rfl rfl)
  ·exact fun done hi hc hcu => draw_value (i := 15) (t := 20) (v := (pt p0 17)) rfl rfl (wanted_none rfl) (fun a => hasA_base) (ov_move rfl) rfl rfl (onlyT_spec (k0 := 15) rfl rfl rfl)
  ·exact fun done hi hc hcu => draw_value (i := 16) (t := 21) (v := (pt p0 17)) rfl rfl (wanted_none rfl) (fun a => (hasA_cons (k := 15) rfl (done_of (j := 15) hcu rfl (by decide) rfl) hasA_base)) (ov_nilCheck rfl) rfl rfl (onlyT_spec (k0 := 16) rfl rfl rfl)
  ·exact fun done hi hc hcu => draw_value (i := 17) (t := 22) (v := (pt p0 22)) rfl rfl (wanted_none rfl) (fun a => (hasA_cons (k := 16) rfl (done_of (j := 16) hcu rfl (by decide) rfl) hasA_base)) (ov_fieldAddr (sz := 0) (o := 17) rfl F_field_38_5 F_size_2) rfl rfl (onlyT_spec (k0 := 17) rfl rfl rfl)
  ·exact fun done hi hc hcu => draw_value (i := 18) (t := 23) (v := (pt p0 17)) rfl rfl (wanted_none rfl) (fun a => hasA_base) (ov_move rfl) rfl rfl (onlyT_spec (k0 := 18) rfl rfl rfl)
  ·exact fun done hi hc hcu => draw_value (i := 19) (t := 24) (v := (pt p0 17)) rfl rfl (wanted_none rfl) (fun a => (hasA_cons (k := 18) rfl (done_of (j := 18) hcu rfl (by decide) rfl) hasA_base)) (ov_nilCheck rfl) rfl rfl (onlyT_spec (k0 := 19) rfl rfl rfl)
  ·exact fun done hi hc hcu => draw_value (i := 20) (t := 25) (v := (pt p0 23)) rfl rfl (wanted_none rfl) (fun a => (hasA_cons (k := 19) rfl (done_of (j := 19) hcu rfl (by decide) rfl) hasA_base)) (ov_fieldAddr (sz := 0) (o := 17) rfl F_field_38_6 F_size_2) rfl rfl (onlyT_spec (k0 := 20) rfl rfl rfl)
  ·exact fun done hi hc hcu => draw_value (i := 21) (t := 26) (v := (pt p1 0)) rfl rfl (wanted_none rfl) (fun a => hasA_base) (ov_move rfl) rfl rfl (onlyT_spec (k0 := 21) rfl rfl rfl)
  ·exact fun done hi hc hcu => draw_value (i := 22) (t := 27) (v := (pt p0 17)) rfl rfl (wanted_none rfl) (fun a => hasA_base) (ov_move rfl) rfl rfl (onlyT_spec (k0 := 22) rfl rfl rfl)
  ·exact fun done hi hc hcu => draw_value (i := 23) (t := 28) (v := (pt p0 17)) rfl rfl (wanted_none rfl) (fun a => (hasA_cons (k := 22) rfl (done_of (j := 22) hcu rfl (by decide) rfl) hasA_base)) (ov_nilCheck rfl) rfl rfl (onlyT_spec (k0 := 23) rfl rfl rfl)
  ·exact fun done hi hc hcu => draw_value (i := 24) (t := 29) (v := (pt p0 25)) rfl rfl (wanted_none rfl) (fun a => (hasA_cons (k := 23) rfl (done_of (j := 23) hcu rfl (by decide) rfl) hasA_base)) (ov_fieldAddr (sz := 0) (o := 17) rfl F_field_38_8 F_size_2) rfl rfl (onlyT_spec (k0 := 24) rfl rfl rfl)
  ·exact fun done hi hc hcu => draw_value (i := 25) (t := 30) (v := (C2_)) rfl rfl (wanted_none rfl) (fun a => (hasA_cons (k := 24) rfl (done_of (j := 24) hcu rfl (by decide) rfl) (hasA_cons (k := 21) rfl (done_of (j := 21) hcu rfl (by decide) rfl) (hasA_cons (k := 20) rfl (done_of (j := 20) hcu rfl (by decide) rfl) (hasA_cons (k := 17) rfl (done_of (j := 17) hcu rfl (by decide) rfl) (hasA_cons (k := 14) rfl (done_of (j := 14) hcu rfl (by decide) rfl) (hasA_cons (k := 11) rfl (done_of (j := 11) hcu rfl (by decide) rfl) (hasA_cons (k := 8) rfl (done_of (j := 8) hcu rfl (by decide) rfl) (hasA_cons (k := 5) rfl (done_of (j := 5) hcu rfl (by decide) rfl) (hasA_cons (k := 2) rfl (done_of (j := 2) hcu rfl (by decide) rfl) hasA_base)))))))))) (ov_build (is := [0,1,2,3,4,5,6,7,8]) (xs := [.tmp 7,.tmp 10,.tmp 13,.tmp 16,.tmp 19,.tmp 22,.tmp 25,.tmp 26,.tmp 29]) (vs := C1_) rfl rfl (build_array (cs := C1_) F_zero_86 F_array_86 F_size_85 (by simp [C2_,C1_,C0_,C3_,Instr.fill,cells_int,cells_bool,cells_str,cells_func,cells_slice,cells_ptr,cells_nilFunc,cells_agg,]))) rfl rfl (onlyT_spec (k0 := 25) rfl rfl rfl)
  ·exact fun done hi hc hcu => draw_store (i := 26) (L2 := [box b2 86 [P0,P0,P0,P0,P0,P0,P0,P0,P0],box p0 41 C0_,box p1 2 [I p1_0]]) (L3 := C3_) rfl rfl (wanted_none rfl) (fun a => (hasA_cons (k := 25) rfl (done_of (j := 25) hcu rfl (by decide) rfl) hasA_base)) (by simp only [C2_,C1_,C0_,C3_,hi,sel]) (by simp [C2_,C1_,C0_,C3_,up,sel]) (ot_storeG (cs := [P0,P0,P0,P0,P0,P0,P0,P0,P0]) (cs' := C1_) (us := C1_) (L' := C3_) 0 rfl rfl rfl (one_all rfl) F_size_86 rfl rfl (by simp [C2_,C1_,C0_,C3_]) rfl) (offT_spec rfl)
 ·intro done hall
  refine draw_endL C3_ (by simp only [C2_,C1_,C0_,C3_,hall 26 (by decide),sel]) (fun a => (hasA_cons (k := 0) rfl (hall 0 (by decide)) (hasA_cons (k := 1) rfl (hall 1 (by decide)) (hasA_cons (k := 2) rfl (hall 2 (by decide)) (hasA_cons (k := 3) rfl (hall 3 (by decide)) (hasA_cons (k := 4) rfl (hall 4 (by decide)) (hasA_cons (k := 5) rfl (hall 5 (by decide)) (hasA_cons (k := 6) rfl (hall 6 (by decide)) (hasA_cons (k := 7) rfl (hall 7 (by decide)) (hasA_cons (k := 8) rfl (hall 8 (by decide)) (hasA_cons (k := 9) rfl (hall 9 (by decide)) (hasA_cons (k := 10) rfl (hall 10 (by decide)) (hasA_cons (k := 11) rfl (hall 11 (by decide)) (hasA_cons (k := 12) rfl (hall 12 (by decide)) (hasA_cons (k := 13) rfl (hall 13 (by decide)) (hasA_cons (k := 14) rfl (hall 14 (by decide)) (hasA_cons (k := 15) rfl (hall 15 (by decide)) (hasA_cons (k := 16) rfl (hall 16 (by decide)) (hasA_cons (k := 17) rfl (hall 17 (by decide)) (hasA_cons (k := 18) rfl (hall 18 (by decide)) (hasA_cons (k := 19) rfl (hall 19 (by decide)) (hasA_cons (k := 20) rfl (hall 20 (by decide)) (hasA_cons (k := 21) rfl (hall 21 (by decide)) (hasA_cons (k := 22) rfl (hall 22 (by decide)) (hasA_cons (k := 23) rfl (hall 23 (by decide)) (hasA_cons (k := 24) rfl (hall 24 (by decide)) (hasA_cons (k := 25) rfl (hall 25 (by decide)) hasA_base))))))))))))))))))))))))))) ?_
  refine ent_retc ?_
  subst H
  exact ret_memp [1,2] (by decide) rfl (vs := [C2_]) rfl ⟨⟨_,C1_,rfl,reads_boxW (i := 0) rfl,.inl ⟨F_agg_86,F_size_86,rfl⟩⟩,trivial⟩ _ rfl ⟨rfl,rfl⟩

theorem script_bare_NN.spec (a0_17 a0_18 : Int) (a0_19 a0_20 : Int) (a0_21 a0_22 : Int) (a0_23 a0_24 a0_25 : Int) (r : (Int × Int × Int × Int × Bool × Bool × Bool × Bool × Bool × Bool × Bool × Bool × (List UInt8) × (List UInt8) × (List UInt8) × (List UInt8) × Int × Int × Int × Int × Int × Int × Int × Int × Int)) (H : script_bare_NN a0_17 a0_18 a0_19 a0_20 a0_21 a0_22 a0_23 a0_24 a0_25 = r) : FnSpec Tryd.prog 70 [agg #[I 3,I 0,L0,I 0,I 0,B0,B0,B0,B0,B0,B0,B0,B0,S0,S0,S0,S0,I a0_17,I a0_18,I a0_19,I a0_20,I a0_21,I a0_22,I a0_23,I a0_24,I a0_25,L0]] [] (fun v M => v = (agg #[I r.1,I r.2.1,L0,I r.2.2.1,I r.2.2.2.1,bool r.2.2.2.2.1,bool r.2.2.2.2.2.1,bool r.2.2.2.2.2.2.1,bool r.2.2.2.2.2.2.2.1,bool r.2.2.2.2.2.2.2.2.1,bool r.2.2.2.2.2.2.2.2.2.1,bool r.2.2.2.2.2.2.2.2.2.2.1,bool r.2.2.2.2.2.2.2.2.2.2.2.1,str r.2.2.2.2.2.2.2.2.2.2.2.2.1,str r.2.2.2.2.2.2.2.2.2.2.2.2.2.1,str r.2.2.2.2.2.2.2.2.2.2.2.2.2.2.1,str r.2.2.2.2.2.2.2.2.2.2.2.2.2.2.2.1,I r.2.2.2.2.2.2.2.2.2.2.2.2.2.2.2.2.1,I r.2.2.2.2.2.2.2.2.2.2.2.2.2.2.2.2.2.1,I r.2.2.2.2.2.2.2.2.2.2.2.2.2.2.2.2.2.2.1,I r.2.2.2.2.2.2.2.2.2.2.2.2.2.2.2.2.2.2.2.1,I r.2.2.2.2.2.2.2.2.2.2.2.2.2.2.2.2.2.2.2.2.1,I r.2.2.2.2.2.2.2.2.2.2.2.2.2.2.2.2.2.2.2.2.2.1,I r.2.2.2.2.2.2.2.2.2.2.2.2.2.2.2.2.2.2.2.2.2.2.1,I r.2.2.2.2.2.2.2.2.2.2.2.2.2.2.2.2.2.2.2.2.2.2.2.1,I r.2.2.2.2.2.2.2.2.2.2.2.2.2.2.2.2.2.2.2.2.2.2.2.2,L0]) ∧ M = []) := by
 unfold script_bare_NN at H
 refine spec_of Tryd.func70 rfl 26 rfl (Nat.le_of_ble_eq_true rfl) fun F w0 => ?_
 let C2_ : List Value := [I 0,I 0,L0,I 0,I 0,B0,B0,B0,B0,B0,B0,B0,B0,S0,S0,S0,S0,I 0,I 0,I 0,I 0,I 0,I 0,I 0,I 0,I 0,L0]
 let C1_ : List Value := [I 3,I 0,L0,I 0,I 0,B0,B0,B0,B0,B0,B0,B0,B0,S0,S0,S0,S0,I a0_17,I a0_18,I a0_19,I a0_20,I a0_21,I a0_22,I a0_23,I a0_24,I a0_25,L0]
 let C0_ : List Value := [I 3,I 0,L0,I 0,I 0,B0,B0,B0,B0,B0,B0,B0,B0,S0,S0,S0,S0,I 0,I 0,I 0,I 0,I 0,I 0,I 0,I 0,I 0,L0]
 show Ent (St 26 w0 F [(0,agg #[I 3,I 0,L0,I 0,I 0,B0,B0,B0,B0,B0,B0,B0,B0,S0,S0,S0,S0,I a0_17,I a0_18,I a0_19,I a0_20,I a0_21,I a0_22,I a0_23,I a0_24,I a0_25,L0])] []) _
 refine ent_seq (ent_region ?_)
 refine ent_op (ot_box (cs := C1_) rfl rfl) rfl rfl rfl ?_
 rintro _ _ ⟨b3,rfl,rfl⟩
 refine ent_op (ot_alloc F_zero_41) rfl rfl rfl ?_
 rintro _ _ ⟨b4,rfl,rfl⟩
 refine ent_nil (ent_seq (ent_seq (ent_region (ent_value (ov_fieldAddr (sz := 0) (o := 0) rfl F_field_41_0 F_size_3) rfl rfl rfl (ent_value (ov_load (v := (I 3)) rfl F_agg_3 (reads_box1 (i := 1) rfl rfl)) rfl rfl rfl (ent_nil (ent_block (ent_seq (ent_region (ent_value (ov_bin rfl rfl (b_eql _ _ _)) rfl rfl rfl (ent_value (ov_assign rfl) rfl rfl rfl ?_)))))))))))
 refine ent_nil (ent_cond_false rfl rfl (ent_seq (ent_region (ent_value (ov_bin rfl rfl (b_eql _ _ _)) rfl rfl rfl (ent_value (ov_assign rfl) rfl rfl rfl (ent_nil (ent_cond_false rfl rfl (ent_seq (ent_region (ent_value (ov_bin rfl rfl (b_eql _ _ _)) rfl rfl rfl (ent_value (ov_assign rfl) rfl rfl rfl ?_)))))))))))
 refine ent_nil (ent_cond_true rfl rfl (ent_region (ent_value (ov_build (is := []) (xs := []) (vs := []) rfl rfl (build_struct (cs := [I 0,I 0,I 0,I 0,I 0,I 0,I 0,I 0,I 0]) F_zero_38 F_places_38 rfl)) rfl rfl rfl (ent_value (ov_fieldAddr (sz := 8) (o := 0) rfl F_field_41_4 F_size_38) rfl rfl rfl ?_))))
 refine ent_op0 (ot_storeG (cs := C1_) (cs' := C0_) (us := [I 0,I 0,I 0,I 0,I 0,I 0,I 0,I 0,I 0]) (L' := [box b4 41 C2_,box b3 41 C0_]) 1 rfl rfl rfl (one_all rfl) F_size_38 rfl rfl (by simp [C2_,C1_,C0_]) rfl) rfl rfl ?_
 rintro _ _ rfl
 refine ent_nil (ent_seq (ent_region (ent_value (ov_load_agg (vs := C0_) rfl F_agg_41 F_size_41 (reads_boxW (i := 1) rfl)) rfl rfl rfl ?_)))
 refine ent_op0 (ot_storeG (cs := C2_) (cs' := C0_) (us := C0_) (L' := [box b4 41 C0_,box b3 41 C0_]) 0 rfl rfl rfl (one_all rfl) F_size_41 rfl rfl (by simp [C2_,C1_,C0_]) rfl) rfl rfl ?_
 rintro _ _ rfl
 refine ent_nil (ent_retc ?_)
 subst H
 exact ret_memp [] (by decide) rfl (vs := [agg #[I 3,I 0,L0,I 0,I 0,B0,B0,B0,B0,B0,B0,B0,B0,S0,S0,S0,S0,I 0,I 0,I 0,I 0,I 0,I 0,I 0,I 0,I 0,L0]]) rfl ⟨⟨_,C0_,rfl,reads_boxW (i := 0) rfl,.inl ⟨F_agg_41,F_size_41,rfl⟩⟩,trivial⟩ _ rfl ⟨rfl,rfl⟩

end Go.Proofs.YtgbjponaoeiglaaDoor.WordsBares
