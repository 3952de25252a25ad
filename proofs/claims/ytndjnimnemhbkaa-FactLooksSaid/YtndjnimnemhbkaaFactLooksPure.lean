/- Printed by gen.py: the plain functions that FactLooks comes to. -/
import Derived.Test.YtndjnimnemhbkaaEArith
set_option linter.unusedVariables false
namespace Go.Proofs.Ytndjnimnemhbkaa.FactLooks
open Go E

structure Api_Key where
  Hour : Int
  Dims_0 : List UInt8
  Dims_1 : List UInt8
  Dims_2 : List UInt8
  Dims_3 : List UInt8
  deriving DecidableEq
def z_Api_Key : Api_Key := ⟨0, [], [], [], []⟩
/-- What an input of this kind keeps to. -/
def ok_Api_Key (x : Api_Key) : Prop := inI .i64 x.Hour ∧ x.Dims_0.length ≤ 140737488351232 ∧ x.Dims_1.length ≤ 140737488351232 ∧ x.Dims_2.length ≤ 140737488351232 ∧ x.Dims_3.length ≤ 140737488351232
structure Api_Fact where
  Key : Api_Key
  Value : Int
  deriving DecidableEq
def z_Api_Fact : Api_Fact := ⟨z_Api_Key, 0⟩
/-- What an input of this kind keeps to. -/
def ok_Api_Fact (x : Api_Fact) : Prop := ok_Api_Key x.Key ∧ inI .i64 x.Value
def ossuarylaw09_Light_R_l1 (K : Nat) (l0 : List Api_Fact) (i24 : Int) : Nat → Int → Option (Sum Unit Bool)
  | 0, _ => none
  | k + 1, i28 => (if i28 < 4 then (if 0 ≤ i24 then (if 0 ≤ i28 then (if i28 < (4 : Int) then (if 40 < (([((l0.getD i24.toNat z_Api_Fact).Key).Dims_0, ((l0.getD i24.toNat z_Api_Fact).Key).Dims_1, ((l0.getD i24.toNat z_Api_Fact).Key).Dims_2, ((l0.getD i24.toNat z_Api_Fact).Key).Dims_3].getD i28.toNat []).length : Int) then (some (Sum.inr (false))) else (ossuarylaw09_Light_R_l1 K l0 i24 k (w64 (i28 + 1)))) else none) else none) else none) else (some (Sum.inl ())))
def ossuarylaw09_Light_R_l0 (K : Nat) (l0 : List Api_Fact) : Nat → Int → Option Bool
  | 0, _ => none
  | k + 1, i24 => (if i24 < (l0.length : Int) then (Option.bind (ossuarylaw09_Light_R_l1 K l0 i24 K 0) fun z => (cas z (fun v12 => (ossuarylaw09_Light_R_l0 K l0 k (w64 (i24 + 1)))) (fun t_ => (some (t_))))) else (some (true)))
def ossuarylaw09_Light_R (K : Nat) (l0 : List Api_Fact) : Option Bool := (if 100 < (l0.length : Int) then (some (false)) else (ossuarylaw09_Light_R_l0 K l0 K 0))

def fact_many (a0 : Int) : Bool := (if 1 ≤ a0 then (decide (a0 ≤ 4)) else (false))

def fact_Check_l0 (K : Nat) (a0_1 : List UInt8) (a0_2 : List UInt8) (a0_3 : List UInt8) (a0_4 : List UInt8) (a1 : Int) : Nat → Int → Option Int
  | 0, _ => none
  | k + 1, i5 => (if i5 < 4 then (if 0 ≤ i5 then (if i5 < (4 : Int) then (if 16 < (([a0_1, a0_2, a0_3, a0_4].getD i5.toNat []).length : Int) then (some (4)) else (if a1 ≤ i5 then (if ¬ (([a0_1, a0_2, a0_3, a0_4].getD i5.toNat []) = ([] : List UInt8)) then (some (4)) else (fact_Check_l0 K a0_1 a0_2 a0_3 a0_4 a1 k (w64 (i5 + 1)))) else (fact_Check_l0 K a0_1 a0_2 a0_3 a0_4 a1 k (w64 (i5 + 1))))) else none) else none) else (some (0)))
def fact_Check (K : Nat) (a0_0 : Int) (a0_1 : List UInt8) (a0_2 : List UInt8) (a0_3 : List UInt8) (a0_4 : List UInt8) (a0_5 : Int) (a1 : Int) : Option Int := (thn (fact_many a1) fun x4 => (if (!x4) = true then (some (1)) else (if a0_0 < 0 then (some (2)) else (if 16777216 < a0_0 then (some (2)) else (if 1152921504606846976 < a0_5 then (some (2)) else (if a0_5 < (-1152921504606846976) then (some (2)) else (fact_Check_l0 K a0_1 a0_2 a0_3 a0_4 a1 K 0)))))))

def fact_All_R_l0 (K : Nat) (l0 : List Api_Fact) (a1 : Int) : Nat → Int → Option (Int × Int)
  | 0, _ => none
  | k + 1, i6 => (if i6 < (l0.length : Int) then (if 0 ≤ i6 then ((fact_Check K (((l0.getD i6.toNat z_Api_Fact).Key).Hour) (((l0.getD i6.toNat z_Api_Fact).Key).Dims_0) (((l0.getD i6.toNat z_Api_Fact).Key).Dims_1) (((l0.getD i6.toNat z_Api_Fact).Key).Dims_2) (((l0.getD i6.toNat z_Api_Fact).Key).Dims_3) ((l0.getD i6.toNat z_Api_Fact).Value) a1).bind fun x28 => (if ¬ (x28 = 0) then (some ((x28, i6))) else (fact_All_R_l0 K l0 a1 k (w64 (i6 + 1))))) else none) else (some ((0, 0))))
def fact_All_R (K : Nat) (l0 : List Api_Fact) (a1 : Int) : Option (Int × Int) := (thn (fact_many a1) fun x16 => (if (!x16) = true then (some ((1, 0))) else (if (l0.length : Int) = 0 then (some ((1, 0))) else (if 50 < (l0.length : Int) then (some ((1, 0))) else (fact_All_R_l0 K l0 a1 K 0)))))

def pack_Writer_Num_N_l0 (K : Nat) : Nat → Int → (List Int) → Option ((List Int) × Int)
  | 0, _, _ => none
  | k + 1, i6, l7 => (if 128 ≤ i6 then (if (l7.length + [bOr .u8 (wu8 i6) 128].length) * 1 ≤ 140737488355328 then (pack_Writer_Num_N_l0 K k (bShr .u64 i6 7) (l7 ++ [bOr .u8 (wu8 i6) 128])) else none) else (some ((l7, i6))))
def pack_Writer_Num_N (K : Nat) (a1 : Int) : Option (List Int) := (Option.bind (pack_Writer_Num_N_l0 K K a1 ([] : List Int)) fun x2 => (if (x2.1.length + [wu8 x2.2].length) * 1 ≤ 140737488355328 then (some ((x2.1 ++ [wu8 x2.2]))) else none))

def pack_Writer_Num_O_l0 (K : Nat) : Nat → Int → (List Int) → Option ((List Int) × Int)
  | 0, _, _ => none
  | k + 1, i6, l7 => (if 128 ≤ i6 then (if (l7.length + [bOr .u8 (wu8 i6) 128].length) * 1 ≤ 140737488355328 then (pack_Writer_Num_O_l0 K k (bShr .u64 i6 7) (l7 ++ [bOr .u8 (wu8 i6) 128])) else none) else (some ((l7, i6))))
def pack_Writer_Num_O (K : Nat) (l0 : List Int) (a1 : Int) : Option (List Int) := (Option.bind (pack_Writer_Num_O_l0 K K a1 l0) fun x2 => (if (x2.1.length + [wu8 x2.2].length) * 1 ≤ 140737488355328 then (some ((x2.1 ++ [wu8 x2.2]))) else none))

def pack_Writer_Text_O (K : Nat) (l0 : List Int) (a1 : List UInt8) : Option (List Int) := ((pack_Writer_Num_O K l0 (wu64 (a1.length : Int))).bind fun x4 => (if (x4.length + a1.length) * 1 ≤ 140737488355328 then (some ((x4 ++ byts a1))) else none))

def pack_Writer_Int_O (K : Nat) (l0 : List Int) (a1 : Int) : Option (List Int) := ((pack_Writer_Num_O K l0 (bXor .u64 (wu64 (bShl .i64 a1 1)) (wu64 (bShr .i64 a1 63)))).bind fun x2 => (some (x2)))

def bytes_Clone_R (l0 : List Int) : Option (List Int) := (if 0 < l0.length then (if (([] : List Int).length + l0.length) * 1 ≤ 140737488355328 then (some ((([] : List Int) ++ l0))) else none) else (if (([] : List Int).length + ([] : List Int).length) * 1 ≤ 140737488355328 then (some ((([] : List Int) ++ ([] : List Int)))) else none))

def pack_Writer_Bytes_O (l0 : List Int) : Option (List Int) := ((bytes_Clone_R l0).bind fun x2 => (some (x2)))

def fact_Encode_R_l1 (K : Nat) (l0 : List Api_Fact) (a1 : Int) (i45 : Int) : Nat → Int → (List Int) → Option (List Int)
  | 0, _, _ => none
  | k + 1, i53, l89 => (if i53 < (([((l0.getD i45.toNat z_Api_Fact).Key).Dims_0, ((l0.getD i45.toNat z_Api_Fact).Key).Dims_1, ((l0.getD i45.toNat z_Api_Fact).Key).Dims_2, ((l0.getD i45.toNat z_Api_Fact).Key).Dims_3].take a1.toNat).length : Int) then (if 0 ≤ i53 then ((pack_Writer_Text_O K l89 (([((l0.getD i45.toNat z_Api_Fact).Key).Dims_0, ((l0.getD i45.toNat z_Api_Fact).Key).Dims_1, ((l0.getD i45.toNat z_Api_Fact).Key).Dims_2, ((l0.getD i45.toNat z_Api_Fact).Key).Dims_3].take a1.toNat).getD i53.toNat [])).bind fun x378 => (fact_Encode_R_l1 K l0 a1 i45 k (w64 (i53 + 1)) x378)) else none) else (some (l89)))
def fact_Encode_R_l0 (K : Nat) (l0 : List Api_Fact) (a1 : Int) : Nat → Int → (List Int) → Option (Int × (List Int))
  | 0, _, _ => none
  | k + 1, i45, l75 => (if i45 < (l0.length : Int) then (Option.bind (if 0 ≤ i45 then ((pack_Writer_Num_O K l75 (wu64 (((l0.getD i45.toNat z_Api_Fact).Key).Hour))).bind fun x365 => (Option.bind (if 0 ≤ a1 then (if a1 ≤ (4 : Nat) then (fact_Encode_R_l1 K l0 a1 i45 K 0 x365) else none) else none) fun x372 => ((pack_Writer_Int_O K x372 ((l0.getD i45.toNat z_Api_Fact).Value)).bind fun x379 => (some (x379))))) else none) fun x364 => (fact_Encode_R_l0 K l0 a1 k (w64 (i45 + 1)) x364)) else ((pack_Writer_Bytes_O l75).bind fun x380 => (some ((0, x380)))))
def fact_Encode_R (K : Nat) (l0 : List Api_Fact) (a1 : Int) : Option (Int × (List Int)) := ((fact_All_R K l0 a1).bind fun x192 => (if ¬ (x192.1 = 0) then (some ((x192.1, ([] : List Int)))) else ((pack_Writer_Num_N K (wu64 (l0.length : Int))).bind fun x193 => (fact_Encode_R_l0 K l0 a1 K 0 x193))))

def ossuarylaw09_alive (K : Nat) : Option Bool := ((fact_Encode_R K [(⟨(⟨5, ([97] : List UInt8), ([] : List UInt8), ([] : List UInt8), ([] : List UInt8)⟩ : Api_Key), (-1)⟩ : Api_Fact)] 1).bind fun x2 => (if x2.1 = 0 then (if (x2.2.length : Int) = 5 then (if 0 < (x2.2.length : Int) then (if (x2.2.getD ((0 : Int).toNat) 0) = 1 then (if 1 < (x2.2.length : Int) then (if (x2.2.getD ((1 : Int).toNat) 0) = 5 then (if 2 < (x2.2.length : Int) then (if (x2.2.getD ((2 : Int).toNat) 0) = 1 then (if 3 < (x2.2.length : Int) then (if (x2.2.getD ((3 : Int).toNat) 0) = 97 then (if 4 < (x2.2.length : Int) then (some (((x2.2.getD ((4 : Int).toNat) 0) == 1))) else none) else (some (false))) else none) else (some (false))) else none) else (some (false))) else none) else (some (false))) else none) else (some (false))) else (some (false))))

def cell_size (a0 : Int) : Int := (wu64 (w64 ((bXor .i64 a0 (bShr .i64 a0 63)) - (bShr .i64 a0 63))))

def cell_Weight_R_l0 (K : Nat) (l0 : List Int) : Nat → Int → Int → Option (Int × Bool)
  | 0, _, _ => none
  | k + 1, i8, i9 => (if i9 < (l0.length : Int) then (if 0 ≤ i9 then (thn (cell_size (l0.getD i9.toNat 0)) fun x24 => (if 4611686018427387904 < (wu64 (i8 + x24)) then (some ((0, false))) else (cell_Weight_R_l0 K l0 k (wu64 (i8 + x24)) (w64 (i9 + 1))))) else none) else (some ((w64 i8, true))))
def cell_Weight_R (K : Nat) (l0 : List Int) : Option (Int × Bool) := (cell_Weight_R_l0 K l0 K 0 0)

def fact_Weight_R_l0 (K : Nat) (l0 : List Api_Fact) : Nat → Int → (List Int) → Option (List Int)
  | 0, _, _ => none
  | k + 1, i4, l6 => (if i4 < (l0.length : Int) then (if 0 ≤ i4 then (if (l6.length + [(l0.getD i4.toNat z_Api_Fact).Value].length) * 8 ≤ 140737488355328 then (fact_Weight_R_l0 K l0 k (w64 (i4 + 1)) (l6 ++ [(l0.getD i4.toNat z_Api_Fact).Value])) else none) else none) else (some (l6)))
def fact_Weight_R (K : Nat) (l0 : List Api_Fact) : Option (Int × Bool) := (Option.bind (fact_Weight_R_l0 K l0 K 0 ([] : List Int)) fun x3 => ((cell_Weight_R K x3).bind fun x4 => (some ((x4.1, x4.2)))))

def ossuaryref05_Size (a0 : Int) : Int := (if 4611686018427387904 < a0 then (4611686018427387905) else (if a0 < (-4611686018427387904) then (4611686018427387905) else (if a0 < 0 then (w64 (0 - a0)) else (a0))))

def ossuaryref05_Weight_R_l0 (K : Nat) (l0 : List Int) : Nat → Int → Int → Option (Int × Bool)
  | 0, _, _ => none
  | k + 1, i8, i9 => (if i9 < (l0.length : Int) then (if 0 ≤ i9 then (thn (ossuaryref05_Size (l0.getD i9.toNat 0)) fun x71 => (if (w64 (4611686018427387904 - i8)) < x71 then (some ((0, false))) else (thn (ossuaryref05_Size (l0.getD i9.toNat 0)) fun x72 => (ossuaryref05_Weight_R_l0 K l0 k (w64 (i8 + x72)) (w64 (i9 + 1)))))) else none) else (some ((i8, true))))
def ossuaryref05_Weight_R (K : Nat) (l0 : List Int) : Option (Int × Bool) := (ossuaryref05_Weight_R_l0 K l0 K 0 0)

def ossuaryref09_Weight_R_l0 (K : Nat) (l0 : List Api_Fact) : Nat → Int → (List Int) → Option (List Int)
  | 0, _, _ => none
  | k + 1, i4, l6 => (if i4 < (l0.length : Int) then (if 0 ≤ i4 then (if (l6.length + [(l0.getD i4.toNat z_Api_Fact).Value].length) * 8 ≤ 140737488355328 then (ossuaryref09_Weight_R_l0 K l0 k (w64 (i4 + 1)) (l6 ++ [(l0.getD i4.toNat z_Api_Fact).Value])) else none) else none) else (some (l6)))
def ossuaryref09_Weight_R (K : Nat) (l0 : List Api_Fact) : Option (Int × Bool) := (Option.bind (ossuaryref09_Weight_R_l0 K l0 K 0 ([] : List Int)) fun x3 => ((ossuaryref05_Weight_R K x3).bind fun x4 => (some ((x4.1, x4.2)))))

def slices_Sort_____int64__int64 (l0 : List Int) : Option (List Int) := if l0.length ≤ 17592186044416 then some (sortI l0) else none

def slices_Compact_____int64__int64 (l0 : List Int) : Option (List Int) := if l0.length ≤ 17592186044416 then some (compactI l0) else none

def fact_Hours_R_l0 (K : Nat) (l0 : List Api_Fact) : Nat → Int → (List Int) → Option (List Int)
  | 0, _, _ => none
  | k + 1, i4, l7 => (if i4 < (l0.length : Int) then (if 0 ≤ i4 then (if (l7.length + [((l0.getD i4.toNat z_Api_Fact).Key).Hour].length) * 8 ≤ 140737488355328 then (fact_Hours_R_l0 K l0 k (w64 (i4 + 1)) (l7 ++ [((l0.getD i4.toNat z_Api_Fact).Key).Hour])) else none) else none) else (some (l7)))
def fact_Hours_R (K : Nat) (l0 : List Api_Fact) : Option (List Int) := (Option.bind (fact_Hours_R_l0 K l0 K 0 ([] : List Int)) fun x4 => ((slices_Sort_____int64__int64 x4).bind fun x5 => ((slices_Compact_____int64__int64 x5).bind fun x6 => (some (x6)))))

def ossuaryref09_Hours_R_l1 (K : Nat) (l0 : List Api_Fact) (i40 : Int) (l11 : List Int) : Nat → Int → Option Int
  | 0, _ => none
  | k + 1, i52 => (if i52 < (l11.length : Int) then (if 0 ≤ i52 then (if (l11.getD i52.toNat 0) < (((l0.getD i40.toNat z_Api_Fact).Key).Hour) then (ossuaryref09_Hours_R_l1 K l0 i40 l11 k (w64 (i52 + 1))) else (some (i52))) else none) else (some (i52)))
def ossuaryref09_Hours_R_l0 (K : Nat) (l0 : List Api_Fact) : Nat → Int → (List Int) → Option (List Int)
  | 0, _, _ => none
  | k + 1, i40, l11 => (if i40 < (l0.length : Int) then (Option.bind (if 0 ≤ i40 then (Option.bind (ossuaryref09_Hours_R_l1 K l0 i40 l11 K 0) fun x36 => (if x36 = (l11.length : Int) then (if 0 ≤ x36 then (if x36 ≤ (l11.length : Int) then (if (([] : List Int).length + (l11.take x36.toNat).length) * 8 ≤ 140737488355328 then (if ((([] : List Int) ++ (l11.take x36.toNat)).length + [((l0.getD i40.toNat z_Api_Fact).Key).Hour].length) * 8 ≤ 140737488355328 then (if (((([] : List Int) ++ (l11.take x36.toNat)) ++ [((l0.getD i40.toNat z_Api_Fact).Key).Hour]).length + (l11.drop x36.toNat).length) * 8 ≤ 140737488355328 then (some ((((([] : List Int) ++ (l11.take x36.toNat)) ++ [((l0.getD i40.toNat z_Api_Fact).Key).Hour]) ++ (l11.drop x36.toNat)))) else none) else none) else none) else none) else none) else (if 0 ≤ x36 then (if x36 < (l11.length : Int) then (if ¬ ((l11.getD x36.toNat 0) = (((l0.getD i40.toNat z_Api_Fact).Key).Hour)) then (if x36 ≤ (l11.length : Int) then (if (([] : List Int).length + (l11.take x36.toNat).length) * 8 ≤ 140737488355328 then (if ((([] : List Int) ++ (l11.take x36.toNat)).length + [((l0.getD i40.toNat z_Api_Fact).Key).Hour].length) * 8 ≤ 140737488355328 then (if (((([] : List Int) ++ (l11.take x36.toNat)) ++ [((l0.getD i40.toNat z_Api_Fact).Key).Hour]).length + (l11.drop x36.toNat).length) * 8 ≤ 140737488355328 then (some ((((([] : List Int) ++ (l11.take x36.toNat)) ++ [((l0.getD i40.toNat z_Api_Fact).Key).Hour]) ++ (l11.drop x36.toNat)))) else none) else none) else none) else none) else (some (l11))) else none) else none))) else none) fun x35 => (ossuaryref09_Hours_R_l0 K l0 k (w64 (i40 + 1)) x35)) else (some (l11)))
def ossuaryref09_Hours_R (K : Nat) (l0 : List Api_Fact) : Option (List Int) := (ossuaryref09_Hours_R_l0 K l0 K 0 ([] : List Int))

def ossuaryref08_Same_RR_l0 (K : Nat) (l0 : List Int) (l1 : List Int) : Nat → Int → Option Bool
  | 0, _ => none
  | k + 1, i4 => (if i4 < (l0.length : Int) then (if 0 ≤ i4 then (if i4 < (l1.length : Int) then (if ¬ ((l0.getD i4.toNat 0) = (l1.getD i4.toNat 0)) then (some (false)) else (ossuaryref08_Same_RR_l0 K l0 l1 k (w64 (i4 + 1)))) else none) else none) else (some (true)))
def ossuaryref08_Same_RR (K : Nat) (l0 : List Int) (l1 : List Int) : Option Bool := (if ¬ ((l0.length : Int) = (l1.length : Int)) then (some (false)) else (ossuaryref08_Same_RR_l0 K l0 l1 K 0))

def slices_Clone____api_Fact__api_Fact_R (l0 : List Api_Fact) : Option (List Api_Fact) := (if 0 < l0.length then (if (([] : List Api_Fact).length + l0.length) * 80 ≤ 140737488355328 then (some ((([] : List Api_Fact) ++ l0))) else none) else (if (([] : List Api_Fact).length + ([] : List Api_Fact).length) * 80 ≤ 140737488355328 then (some ((([] : List Api_Fact) ++ ([] : List Api_Fact)))) else none))

def cmp_isNaN__int64 (a0 : Int) : Bool := ((a0 != a0))

def cmp_Compare__int64 (a0 : Int) (a1 : Int) : Int := (thn (cmp_isNaN__int64 a0) fun x3 => (thn (cmp_isNaN__int64 a1) fun x4 => (if x3 = true then (if x4 = true then (0) else ((-1))) else (if x4 = true then (1) else (if a0 < a1 then ((-1)) else (if a1 < a0 then (1) else (0)))))))

def cmp_isNaN__string (a0 : List UInt8) : Bool := ((!(a0 == a0)))

def cmp_Compare__string (a0 : List UInt8) (a1 : List UInt8) : Int := (thn (cmp_isNaN__string a0) fun x3 => (thn (cmp_isNaN__string a1) fun x4 => (if x3 = true then (if x4 = true then (0) else ((-1))) else (if x4 = true then (1) else (if a0 < a1 then ((-1)) else (if a1 < a0 then (1) else (0)))))))

def slices_Compare_____string__string_RR_l0 (K : Nat) (l0 : List (List UInt8)) (l1 : List (List UInt8)) : Nat → Int → Option (Sum Unit Int)
  | 0, _ => none
  | k + 1, i5 => (if i5 < (l0.length : Int) then (if 0 ≤ i5 then (if (l1.length : Int) ≤ i5 then (some (Sum.inr (1))) else (if i5 < (l1.length : Int) then (thn (cmp_Compare__string (l0.getD i5.toNat []) (l1.getD i5.toNat [])) fun x26 => (if ¬ (x26 = 0) then (some (Sum.inr (x26))) else (slices_Compare_____string__string_RR_l0 K l0 l1 k (w64 (i5 + 1))))) else none)) else none) else (some (Sum.inl ())))
def slices_Compare_____string__string_RR (K : Nat) (l0 : List (List UInt8)) (l1 : List (List UInt8)) : Option Int := (Option.bind (slices_Compare_____string__string_RR_l0 K l0 l1 K 0) fun z => (cas z (fun v2 => (if (l0.length : Int) < (l1.length : Int) then (some ((-1))) else (some (0)))) (fun t_ => (some (t_)))))

def cmp_Or__int_R_l0 (K : Nat) (l0 : List Int) : Nat → Int → Option Int
  | 0, _ => none
  | k + 1, i5 => (if i5 < (l0.length : Int) then (if 0 ≤ i5 then (if ¬ ((l0.getD i5.toNat 0) = 0) then (some ((l0.getD i5.toNat 0))) else (cmp_Or__int_R_l0 K l0 k (w64 (i5 + 1)))) else none) else (some (0)))
def cmp_Or__int_R (K : Nat) (l0 : List Int) : Option Int := (cmp_Or__int_R_l0 K l0 K 0)

def fact_Compare (K : Nat) (a0_0 : Int) (a0_1 : List UInt8) (a0_2 : List UInt8) (a0_3 : List UInt8) (a0_4 : List UInt8) (a1_0 : Int) (a1_1 : List UInt8) (a1_2 : List UInt8) (a1_3 : List UInt8) (a1_4 : List UInt8) : Option Int := (thn (cmp_Compare__int64 a0_0 a1_0) fun x4 => ((slices_Compare_____string__string_RR K ([a0_1, a0_2, a0_3, a0_4].take 4) ([a1_1, a1_2, a1_3, a1_4].take 4)).bind fun x5 => ((cmp_Or__int_R K [x4, x5]).bind fun x6 => (some (x6)))))

def fact_Sort_1 (K : Nat) (a0_0 : Int) (a0_1 : List UInt8) (a0_2 : List UInt8) (a0_3 : List UInt8) (a0_4 : List UInt8) (a0_5 : Int) (a1_0 : Int) (a1_1 : List UInt8) (a1_2 : List UInt8) (a1_3 : List UInt8) (a1_4 : List UInt8) (a1_5 : Int) : Option Int := ((fact_Compare K a0_0 a0_1 a0_2 a0_3 a0_4 a1_0 a1_1 a1_2 a1_3 a1_4).bind fun x4 => (thn (cmp_Compare__int64 a0_5 a1_5) fun x5 => ((cmp_Or__int_R K [x4, x5]).bind fun x6 => (some (x6)))))

/-- What the comparison says. -/
def cf_fact_Sort_1 (K : Nat) (x y : Api_Fact) : Int := (fact_Sort_1 K x.Key.Hour x.Key.Dims_0 x.Key.Dims_1 x.Key.Dims_2 x.Key.Dims_3 x.Value y.Key.Hour y.Key.Dims_0 y.Key.Dims_1 y.Key.Dims_2 y.Key.Dims_3 y.Value).getD 0

def slices_SortFunc____api_Fact__api_Fact (K : Nat) (l0 : List Api_Fact) : Option (List Api_Fact) := if 100 ≤ K ∧ l0.length ≤ 17592186044416 then some (sortF (cf_fact_Sort_1 K) l0) else none

def fact_Sort_R (K : Nat) (l0 : List Api_Fact) : Option (List Api_Fact) := ((slices_Clone____api_Fact__api_Fact_R l0).bind fun x3 => ((slices_SortFunc____api_Fact__api_Fact K x3).bind fun x4 => (some (x4))))

def ossuaryref09_Compare_l0 (K : Nat) (a0_1 : List UInt8) (a0_2 : List UInt8) (a0_3 : List UInt8) (a0_4 : List UInt8) (a1_1 : List UInt8) (a1_2 : List UInt8) (a1_3 : List UInt8) (a1_4 : List UInt8) : Nat → Int → Option Int
  | 0, _ => none
  | k + 1, i5 => (if i5 < 4 then (if 0 ≤ i5 then (if i5 < (4 : Int) then (if ([a0_1, a0_2, a0_3, a0_4].getD i5.toNat []) < ([a1_1, a1_2, a1_3, a1_4].getD i5.toNat []) then (some ((-1))) else (if ([a1_1, a1_2, a1_3, a1_4].getD i5.toNat []) < ([a0_1, a0_2, a0_3, a0_4].getD i5.toNat []) then (some (1)) else (ossuaryref09_Compare_l0 K a0_1 a0_2 a0_3 a0_4 a1_1 a1_2 a1_3 a1_4 k (w64 (i5 + 1))))) else none) else none) else (some (0)))
def ossuaryref09_Compare (K : Nat) (a0_0 : Int) (a0_1 : List UInt8) (a0_2 : List UInt8) (a0_3 : List UInt8) (a0_4 : List UInt8) (a1_0 : Int) (a1_1 : List UInt8) (a1_2 : List UInt8) (a1_3 : List UInt8) (a1_4 : List UInt8) : Option Int := (if ¬ (a0_0 = a1_0) then (if a0_0 < a1_0 then (some ((-1))) else (some (1))) else (ossuaryref09_Compare_l0 K a0_1 a0_2 a0_3 a0_4 a1_1 a1_2 a1_3 a1_4 K 0))

def ossuaryref09_ahead (K : Nat) (a0_0 : Int) (a0_1 : List UInt8) (a0_2 : List UInt8) (a0_3 : List UInt8) (a0_4 : List UInt8) (a0_5 : Int) (a1_0 : Int) (a1_1 : List UInt8) (a1_2 : List UInt8) (a1_3 : List UInt8) (a1_4 : List UInt8) (a1_5 : Int) : Option Bool := ((ossuaryref09_Compare K a0_0 a0_1 a0_2 a0_3 a0_4 a1_0 a1_1 a1_2 a1_3 a1_4).bind fun x2 => (if x2 < 0 then (some (true)) else (if x2 = 0 then (some (decide (a0_5 < a1_5))) else (some (false)))))

def ossuaryref09_Sort_R_l1 (K : Nat) (l0 : List Api_Fact) (i40 : Int) (l11 : List Api_Fact) : Nat → Int → Option Int
  | 0, _ => none
  | k + 1, i52 => (if 0 < i52 then (if 0 ≤ i40 then (if 0 ≤ (w64 (i52 - 1)) then (if (w64 (i52 - 1)) < (l11.length : Int) then ((ossuaryref09_ahead K (((l0.getD i40.toNat z_Api_Fact).Key).Hour) (((l0.getD i40.toNat z_Api_Fact).Key).Dims_0) (((l0.getD i40.toNat z_Api_Fact).Key).Dims_1) (((l0.getD i40.toNat z_Api_Fact).Key).Dims_2) (((l0.getD i40.toNat z_Api_Fact).Key).Dims_3) ((l0.getD i40.toNat z_Api_Fact).Value) (((l11.getD ((w64 (i52 - 1)).toNat) z_Api_Fact).Key).Hour) (((l11.getD ((w64 (i52 - 1)).toNat) z_Api_Fact).Key).Dims_0) (((l11.getD ((w64 (i52 - 1)).toNat) z_Api_Fact).Key).Dims_1) (((l11.getD ((w64 (i52 - 1)).toNat) z_Api_Fact).Key).Dims_2) (((l11.getD ((w64 (i52 - 1)).toNat) z_Api_Fact).Key).Dims_3) ((l11.getD ((w64 (i52 - 1)).toNat) z_Api_Fact).Value)).bind fun x260 => (if x260 = true then (ossuaryref09_Sort_R_l1 K l0 i40 l11 k (w64 (i52 - 1))) else (some (i52)))) else none) else none) else none) else (some (i52)))
def ossuaryref09_Sort_R_l0 (K : Nat) (l0 : List Api_Fact) : Nat → Int → (List Api_Fact) → Option (List Api_Fact)
  | 0, _, _ => none
  | k + 1, i40, l11 => (if i40 < (l0.length : Int) then (Option.bind (Option.bind (ossuaryref09_Sort_R_l1 K l0 i40 l11 K (l11.length : Int)) fun x253 => (if 0 ≤ x253 then (if x253 ≤ (l11.length : Int) then (if (([] : List Api_Fact).length + (l11.take x253.toNat).length) * 80 ≤ 140737488355328 then (if 0 ≤ i40 then (if ((([] : List Api_Fact) ++ (l11.take x253.toNat)).length + [(⟨(⟨((l0.getD i40.toNat z_Api_Fact).Key).Hour, ((l0.getD i40.toNat z_Api_Fact).Key).Dims_0, ((l0.getD i40.toNat z_Api_Fact).Key).Dims_1, ((l0.getD i40.toNat z_Api_Fact).Key).Dims_2, ((l0.getD i40.toNat z_Api_Fact).Key).Dims_3⟩ : Api_Key), (l0.getD i40.toNat z_Api_Fact).Value⟩ : Api_Fact)].length) * 80 ≤ 140737488355328 then (if (((([] : List Api_Fact) ++ (l11.take x253.toNat)) ++ [(⟨(⟨((l0.getD i40.toNat z_Api_Fact).Key).Hour, ((l0.getD i40.toNat z_Api_Fact).Key).Dims_0, ((l0.getD i40.toNat z_Api_Fact).Key).Dims_1, ((l0.getD i40.toNat z_Api_Fact).Key).Dims_2, ((l0.getD i40.toNat z_Api_Fact).Key).Dims_3⟩ : Api_Key), (l0.getD i40.toNat z_Api_Fact).Value⟩ : Api_Fact)]).length + (l11.drop x253.toNat).length) * 80 ≤ 140737488355328 then (some ((((([] : List Api_Fact) ++ (l11.take x253.toNat)) ++ [(⟨(⟨((l0.getD i40.toNat z_Api_Fact).Key).Hour, ((l0.getD i40.toNat z_Api_Fact).Key).Dims_0, ((l0.getD i40.toNat z_Api_Fact).Key).Dims_1, ((l0.getD i40.toNat z_Api_Fact).Key).Dims_2, ((l0.getD i40.toNat z_Api_Fact).Key).Dims_3⟩ : Api_Key), (l0.getD i40.toNat z_Api_Fact).Value⟩ : Api_Fact)]) ++ (l11.drop x253.toNat)))) else none) else none) else none) else none) else none) else none)) fun x245 => (ossuaryref09_Sort_R_l0 K l0 k (w64 (i40 + 1)) x245)) else (some (l11)))
def ossuaryref09_Sort_R (K : Nat) (l0 : List Api_Fact) : Option (List Api_Fact) := (ossuaryref09_Sort_R_l0 K l0 K 0 ([] : List Api_Fact))

def ossuaryref09_Same_RR_l0 (K : Nat) (l0 : List Api_Fact) (l1 : List Api_Fact) : Nat → Int → Option Bool
  | 0, _ => none
  | k + 1, i4 => (if i4 < (l0.length : Int) then (if 0 ≤ i4 then (if i4 < (l1.length : Int) then (if (!((((((l0.getD i4.toNat z_Api_Fact).Key).Hour) == (((l1.getD i4.toNat z_Api_Fact).Key).Hour)) && ((((((l0.getD i4.toNat z_Api_Fact).Key).Dims_0) == (((l1.getD i4.toNat z_Api_Fact).Key).Dims_0)) && (((((l0.getD i4.toNat z_Api_Fact).Key).Dims_1) == (((l1.getD i4.toNat z_Api_Fact).Key).Dims_1)) && (((((l0.getD i4.toNat z_Api_Fact).Key).Dims_2) == (((l1.getD i4.toNat z_Api_Fact).Key).Dims_2)) && (((((l0.getD i4.toNat z_Api_Fact).Key).Dims_3) == (((l1.getD i4.toNat z_Api_Fact).Key).Dims_3)) && true)))) && true)) && ((((l0.getD i4.toNat z_Api_Fact).Value) == ((l1.getD i4.toNat z_Api_Fact).Value)) && true))) = true then (some (false)) else (ossuaryref09_Same_RR_l0 K l0 l1 k (w64 (i4 + 1)))) else none) else none) else (some (true)))
def ossuaryref09_Same_RR (K : Nat) (l0 : List Api_Fact) (l1 : List Api_Fact) : Option Bool := (if ¬ ((l0.length : Int) = (l1.length : Int)) then (some (false)) else (ossuaryref09_Same_RR_l0 K l0 l1 K 0))

def ossuarylaw09_FactLooks (K : Nat) (l0 : List Api_Fact) : Option Bool := ((ossuarylaw09_Light_R K l0).bind fun x16 => (if (!x16) = true then ((ossuarylaw09_alive K).bind fun x17 => (some (x17))) else ((fact_Weight_R K l0).bind fun x18 => ((ossuaryref09_Weight_R K l0).bind fun x19 => (if x18.1 = x19.1 then (if (x18.2 == x19.2) = true then ((fact_Hours_R K l0).bind fun x20 => ((ossuaryref09_Hours_R K l0).bind fun x21 => ((ossuaryref08_Same_RR K x20 x21).bind fun x22 => (if x22 = true then ((fact_Sort_R K l0).bind fun x23 => ((ossuaryref09_Sort_R K l0).bind fun x24 => ((ossuaryref09_Same_RR K x23 x24).bind fun x25 => (if x25 = true then ((ossuarylaw09_alive K).bind fun x26 => (some (x26))) else (some (false)))))) else (some (false)))))) else (some (false))) else (some (false)))))))

end Go.Proofs.Ytndjnimnemhbkaa.FactLooks
