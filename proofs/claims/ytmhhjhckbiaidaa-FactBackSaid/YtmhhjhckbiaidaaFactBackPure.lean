/- Printed by gen.py: the plain functions that FactBack comes to. -/
import Derived.Test.YtmhhjhckbiaidaaEArith
set_option linter.unusedVariables false
namespace Go.Proofs.Ytmhhjhckbiaidaa.FactBack
open Go E

structure Api_Key where
  Hour : Int
  Dims_0 : List UInt8
  Dims_1 : List UInt8
  Dims_2 : List UInt8
  Dims_3 : List UInt8
  deriving DecidableEq
def z_Api_Key : Api_Key := ⟨0, [], [], [], []⟩
/-- What an input of this kind keeps to. -/
def ok_Api_Key (x : Api_Key) : Prop := inI .i64 x.Hour ∧ x.Dims_0.length ≤ 140737488351232 ∧ x.Dims_1.length ≤ 140737488351232 ∧ x.Dims_2.length ≤ 140737488351232 ∧ x.Dims_3.length ≤ 140737488351232
structure Api_Fact where
  Key : Api_Key
  Value : Int
  deriving DecidableEq
def z_Api_Fact : Api_Fact := ⟨z_Api_Key, 0⟩
/-- What an input of this kind keeps to. -/
def ok_Api_Fact (x : Api_Fact) : Prop := ok_Api_Key x.Key ∧ inI .i64 x.Value
def ossuarylaw09_Light_l1 (K : Nat) (l0 : List Api_Fact) (i1 : Int) : Nat → Int → Option (Sum Unit Bool)
  | 0, _ => none
  | k + 1, i2 => (if i2 < 4 then (if 0 ≤ i1 then (if 0 ≤ i2 then (if i2 < (4 : Int) then (if 40 < (([((l0.getD i1.toNat z_Api_Fact).Key).Dims_0, ((l0.getD i1.toNat z_Api_Fact).Key).Dims_1, ((l0.getD i1.toNat z_Api_Fact).Key).Dims_2, ((l0.getD i1.toNat z_Api_Fact).Key).Dims_3].getD i2.toNat []).length : Int) then (some (Sum.inr (false))) else (ossuarylaw09_Light_l1 K l0 i1 k (w64 (i2 + 1)))) else none) else none) else none) else (some (Sum.inl ())))
def ossuarylaw09_Light_l0 (K : Nat) (l0 : List Api_Fact) : Nat → Int → Option Bool
  | 0, _ => none
  | k + 1, i1 => (if i1 < (l0.length : Int) then (Option.bind (ossuarylaw09_Light_l1 K l0 i1 K 0) fun z => (cas z (fun v1 => (ossuarylaw09_Light_l0 K l0 k (w64 (i1 + 1)))) (fun t_ => (some (t_))))) else (some (true)))
def ossuarylaw09_Light (K : Nat) (l0 : List Api_Fact) : Option Bool := (if 100 < (l0.length : Int) then (some (false)) else (ossuarylaw09_Light_l0 K l0 K 0))

def fact_many (a0 : Int) : Bool := (if 1 ≤ a0 then (decide (a0 ≤ 4)) else (false))

def fact_Check_l0 (K : Nat) (a0_1 : List UInt8) (a0_2 : List UInt8) (a0_3 : List UInt8) (a0_4 : List UInt8) (a1 : Int) : Nat → Int → Option Int
  | 0, _ => none
  | k + 1, i2 => (if i2 < 4 then (if 0 ≤ i2 then (if i2 < (4 : Int) then (if 16 < (([a0_1, a0_2, a0_3, a0_4].getD i2.toNat []).length : Int) then (some (4)) else (if a1 ≤ i2 then (if ¬ (([a0_1, a0_2, a0_3, a0_4].getD i2.toNat []) = ([] : List UInt8)) then (some (4)) else (fact_Check_l0 K a0_1 a0_2 a0_3 a0_4 a1 k (w64 (i2 + 1)))) else (fact_Check_l0 K a0_1 a0_2 a0_3 a0_4 a1 k (w64 (i2 + 1))))) else none) else none) else (some (0)))
def fact_Check (K : Nat) (a0_0 : Int) (a0_1 : List UInt8) (a0_2 : List UInt8) (a0_3 : List UInt8) (a0_4 : List UInt8) (a0_5 : Int) (a1 : Int) : Option Int := (thn (fact_many a1) fun x1 => (if (!x1) = true then (some (1)) else (if a0_0 < 0 then (some (2)) else (if 16777216 < a0_0 then (some (2)) else (if 1152921504606846976 < a0_5 then (some (2)) else (if a0_5 < (-1152921504606846976) then (some (2)) else (fact_Check_l0 K a0_1 a0_2 a0_3 a0_4 a1 K 0)))))))

def fact_All_l0 (K : Nat) (l0 : List Api_Fact) (a1 : Int) : Nat → Int → Option (Int × Int)
  | 0, _ => none
  | k + 1, i3 => (if i3 < (l0.length : Int) then (if 0 ≤ i3 then ((fact_Check K (((l0.getD i3.toNat z_Api_Fact).Key).Hour) (((l0.getD i3.toNat z_Api_Fact).Key).Dims_0) (((l0.getD i3.toNat z_Api_Fact).Key).Dims_1) (((l0.getD i3.toNat z_Api_Fact).Key).Dims_2) (((l0.getD i3.toNat z_Api_Fact).Key).Dims_3) ((l0.getD i3.toNat z_Api_Fact).Value) a1).bind fun x2 => (if ¬ (x2 = 0) then (some ((x2, i3))) else (fact_All_l0 K l0 a1 k (w64 (i3 + 1))))) else none) else (some ((0, 0))))
def fact_All (K : Nat) (l0 : List Api_Fact) (a1 : Int) : Option (Int × Int) := (thn (fact_many a1) fun x1 => (if (!x1) = true then (some ((1, 0))) else (if (l0.length : Int) = 0 then (some ((1, 0))) else (if 50 < (l0.length : Int) then (some ((1, 0))) else (fact_All_l0 K l0 a1 K 0)))))

def pack_Writer_Num_l0 (K : Nat) : Nat → Int → (List Int) → Option ((List Int) × Int)
  | 0, _, _ => none
  | k + 1, i2, l3 => (if 128 ≤ i2 then (if (l3.length + [bOr .u8 (wu8 i2) 128].length) * 1 ≤ 140737488355328 then (pack_Writer_Num_l0 K k (bShr .u64 i2 7) (l3 ++ [bOr .u8 (wu8 i2) 128])) else none) else (some ((l3, i2))))
def pack_Writer_Num (K : Nat) (a1 : Int) : Option (List Int) := (Option.bind (pack_Writer_Num_l0 K K a1 ([] : List Int)) fun x1 => (if (x1.1.length + [wu8 x1.2].length) * 1 ≤ 140737488355328 then (some ((x1.1 ++ [wu8 x1.2]))) else none))

def pack_Writer_Num_2_l0 (K : Nat) : Nat → Int → (List Int) → Option ((List Int) × Int)
  | 0, _, _ => none
  | k + 1, i2, l3 => (if 128 ≤ i2 then (if (l3.length + [bOr .u8 (wu8 i2) 128].length) * 1 ≤ 140737488355328 then (pack_Writer_Num_2_l0 K k (bShr .u64 i2 7) (l3 ++ [bOr .u8 (wu8 i2) 128])) else none) else (some ((l3, i2))))
def pack_Writer_Num_2 (K : Nat) (l0 : List Int) (a1 : Int) : Option (List Int) := (Option.bind (pack_Writer_Num_2_l0 K K a1 l0) fun x1 => (if (x1.1.length + [wu8 x1.2].length) * 1 ≤ 140737488355328 then (some ((x1.1 ++ [wu8 x1.2]))) else none))

def pack_Writer_Text (K : Nat) (l0 : List Int) (a1 : List UInt8) : Option (List Int) := ((pack_Writer_Num_2 K l0 (wu64 (a1.length : Int))).bind fun x1 => (if (x1.length + a1.length) * 1 ≤ 140737488355328 then (some ((x1 ++ byts a1))) else none))

def pack_Writer_Int (K : Nat) (l0 : List Int) (a1 : Int) : Option (List Int) := ((pack_Writer_Num_2 K l0 (bXor .u64 (wu64 (bShl .i64 a1 1)) (wu64 (bShr .i64 a1 63)))).bind fun x1 => (some (x1)))

def bytes_Clone (l0 : List Int) : Option (List Int) := (if 0 < l0.length then (if (([] : List Int).length + l0.length) * 1 ≤ 140737488355328 then (some ((([] : List Int) ++ l0))) else none) else (if (([] : List Int).length + ([] : List Int).length) * 1 ≤ 140737488355328 then (some ((([] : List Int) ++ ([] : List Int)))) else none))

def pack_Writer_Bytes (l0 : List Int) : Option (List Int) := ((bytes_Clone l0).bind fun x1 => (some (x1)))

def fact_Encode_l1 (K : Nat) (l0 : List Api_Fact) (a1 : Int) (i2 : Int) : Nat → Int → (List Int) → Option (List Int)
  | 0, _, _ => none
  | k + 1, i3, l5 => (if i3 < (([((l0.getD i2.toNat z_Api_Fact).Key).Dims_0, ((l0.getD i2.toNat z_Api_Fact).Key).Dims_1, ((l0.getD i2.toNat z_Api_Fact).Key).Dims_2, ((l0.getD i2.toNat z_Api_Fact).Key).Dims_3].take a1.toNat).length : Int) then (if 0 ≤ i3 then ((pack_Writer_Text K l5 (([((l0.getD i2.toNat z_Api_Fact).Key).Dims_0, ((l0.getD i2.toNat z_Api_Fact).Key).Dims_1, ((l0.getD i2.toNat z_Api_Fact).Key).Dims_2, ((l0.getD i2.toNat z_Api_Fact).Key).Dims_3].take a1.toNat).getD i3.toNat [])).bind fun x6 => (fact_Encode_l1 K l0 a1 i2 k (w64 (i3 + 1)) x6)) else none) else (some (l5)))
def fact_Encode_l0 (K : Nat) (l0 : List Api_Fact) (a1 : Int) : Nat → Int → (List Int) → Option (Int × (List Int))
  | 0, _, _ => none
  | k + 1, i2, l2 => (if i2 < (l0.length : Int) then (Option.bind (if 0 ≤ i2 then ((pack_Writer_Num_2 K l2 (wu64 (((l0.getD i2.toNat z_Api_Fact).Key).Hour))).bind fun x4 => (Option.bind (if 0 ≤ a1 then (if a1 ≤ (4 : Nat) then (fact_Encode_l1 K l0 a1 i2 K 0 x4) else none) else none) fun x5 => ((pack_Writer_Int K x5 ((l0.getD i2.toNat z_Api_Fact).Value)).bind fun x7 => (some (x7))))) else none) fun x3 => (fact_Encode_l0 K l0 a1 k (w64 (i2 + 1)) x3)) else ((pack_Writer_Bytes l2).bind fun x8 => (some ((0, x8)))))
def fact_Encode (K : Nat) (l0 : List Api_Fact) (a1 : Int) : Option (Int × (List Int)) := ((fact_All K l0 a1).bind fun x1 => (if ¬ (x1.1 = 0) then (some ((x1.1, ([] : List Int)))) else ((pack_Writer_Num K (wu64 (l0.length : Int))).bind fun x2 => (fact_Encode_l0 K l0 a1 K 0 x2))))

def ossuarylaw09_alive (K : Nat) : Option Bool := ((fact_Encode K [(⟨(⟨5, ([97] : List UInt8), ([] : List UInt8), ([] : List UInt8), ([] : List UInt8)⟩ : Api_Key), (-1)⟩ : Api_Fact)] 1).bind fun x1 => (if x1.1 = 0 then (if (x1.2.length : Int) = 5 then (if 0 < (x1.2.length : Int) then (if (x1.2.getD ((0 : Int).toNat) 0) = 1 then (if 1 < (x1.2.length : Int) then (if (x1.2.getD ((1 : Int).toNat) 0) = 5 then (if 2 < (x1.2.length : Int) then (if (x1.2.getD ((2 : Int).toNat) 0) = 1 then (if 3 < (x1.2.length : Int) then (if (x1.2.getD ((3 : Int).toNat) 0) = 97 then (if 4 < (x1.2.length : Int) then (some (((x1.2.getD ((4 : Int).toNat) 0) == 1))) else none) else (some (false))) else none) else (some (false))) else none) else (some (false))) else none) else (some (false))) else none) else (some (false))) else (some (false))))

def pack_NewReader (l0 : List Int) : Option ((List Int) × Int) := ((bytes_Clone l0).bind fun x1 => (some ((x1, 0))))

def pack_Reader_take_2 (l0 : List Int) (p0_1 : Int) (a1 : Int) : Option (Int × Bool × (List Int) × (List Int)) := (if ¬ (p0_1 = 0) then (some ((p0_1, false, l0, ([] : List Int)))) else (if (wu64 (l0.length : Int)) < a1 then (some ((3, false, l0, ([] : List Int)))) else (if 0 ≤ a1 then (if a1 ≤ (l0.length : Int) then (some ((p0_1, true, (l0.drop a1.toNat), (l0.take a1.toNat)))) else none) else none)))

def pack_Reader_bad (l0 : List Int) (p0_1 : Int) : Int := (if p0_1 = 0 then (4) else (p0_1))

def pack_Reader_Num_l0 (K : Nat) : Nat → Int → Int → (List Int) → Int → Option (Sum ((List Int) × Int) (Int × (List Int) × Int))
  | 0, _, _, _, _ => none
  | k + 1, i4, i5, l3, i6 => (if i5 < 10 then ((pack_Reader_take_2 l3 i6 1).bind fun x2 => (if (!x2.2.1) = true then (some (Sum.inr ((0, x2.2.2.1, x2.1)))) else (if 0 < (x2.2.2.2.length : Int) then (thn (if i5 = 9 then (if 1 < (bAndNot .u8 (x2.2.2.2.getD ((0 : Int).toNat) 0) 128) then (Sum.inr (Sum.inl (x2.2.2.1, x2.1))) else (if (x2.2.2.2.getD ((0 : Int).toNat) 0) < 128 then (if (bAndNot .u8 (x2.2.2.2.getD ((0 : Int).toNat) 0) 128) = 0 then (if 0 < i5 then (Sum.inr (Sum.inl (x2.2.2.1, x2.1))) else (Sum.inl (x2.2.2.1, x2.2.2.2, bAndNot .u8 (x2.2.2.2.getD ((0 : Int).toNat) 0) 128))) else (Sum.inl (x2.2.2.1, x2.2.2.2, bAndNot .u8 (x2.2.2.2.getD ((0 : Int).toNat) 0) 128))) else (Sum.inl (x2.2.2.1, x2.2.2.2, bAndNot .u8 (x2.2.2.2.getD ((0 : Int).toNat) 0) 128)))) else (if (x2.2.2.2.getD ((0 : Int).toNat) 0) < 128 then (if (bAndNot .u8 (x2.2.2.2.getD ((0 : Int).toNat) 0) 128) = 0 then (if 0 < i5 then (Sum.inr (Sum.inl (x2.2.2.1, x2.1))) else (Sum.inl (x2.2.2.1, x2.2.2.2, bAndNot .u8 (x2.2.2.2.getD ((0 : Int).toNat) 0) 128))) else (Sum.inl (x2.2.2.1, x2.2.2.2, bAndNot .u8 (x2.2.2.2.getD ((0 : Int).toNat) 0) 128))) else (Sum.inl (x2.2.2.1, x2.2.2.2, bAndNot .u8 (x2.2.2.2.getD ((0 : Int).toNat) 0) 128)))) fun z => (cas z (fun v2 => (if 0 ≤ (w64 (7 * i5)) then (if 0 < (v2.2.1.length : Int) then (if (v2.2.1.getD ((0 : Int).toNat) 0) < 128 then (some (Sum.inr ((bOr .u64 i4 (bShl .u64 (wu64 v2.2.2) (w64 (7 * i5))), v2.1, x2.1)))) else (pack_Reader_Num_l0 K k (bOr .u64 i4 (bShl .u64 (wu64 v2.2.2) (w64 (7 * i5)))) (w64 (i5 + 1)) v2.1 x2.1)) else none) else none)) (fun t_ => (some (t_))))) else none))) else (some (Sum.inl (l3, i6))))
def pack_Reader_Num (K : Nat) (l0 : List Int) (p0_1 : Int) : Option (Int × (List Int) × Int) := (Option.bind (pack_Reader_Num_l0 K K 0 0 l0 p0_1) fun z => (cas z (fun v1 => (thn (pack_Reader_bad v1.1 v1.2) fun x4 => (some ((0, v1.1, x4))))) (fun t_ => (some (t_)))))

def pack_Reader_within (K : Nat) (l0 : List Int) (p0_1 : Int) (a1 : Int) : Option (Int × Int × (List Int)) := ((pack_Reader_Num K l0 p0_1).bind fun x1 => (if (wu64 (mx a1 0)) < x1.1 then (thn (pack_Reader_bad x1.2.1 x1.2.2) fun x2 => (some ((0, x2, x1.2.1)))) else (some ((x1.1, x1.2.2, x1.2.1)))))

def pack_Reader_Count (K : Nat) (l0 : List Int) (p0_1 : Int) (a1 : Int) : Option ((List Int) × Int × Int) := ((pack_Reader_within K l0 p0_1 a1).bind fun x1 => (some ((x1.2.2, x1.2.1, w64 x1.1))))

def pack_Reader_Num_2_l0 (K : Nat) : Nat → Int → Int → (List Int) → Int → Option (Sum ((List Int) × Int) (Int × (List Int) × Int))
  | 0, _, _, _, _ => none
  | k + 1, i4, i5, l3, i6 => (if i5 < 10 then ((pack_Reader_take_2 l3 i6 1).bind fun x2 => (if (!x2.2.1) = true then (some (Sum.inr ((0, x2.2.2.1, x2.1)))) else (if 0 < (x2.2.2.2.length : Int) then (thn (if i5 = 9 then (if 1 < (bAndNot .u8 (x2.2.2.2.getD ((0 : Int).toNat) 0) 128) then (Sum.inr (Sum.inl (x2.2.2.1, x2.1))) else (if (x2.2.2.2.getD ((0 : Int).toNat) 0) < 128 then (if (bAndNot .u8 (x2.2.2.2.getD ((0 : Int).toNat) 0) 128) = 0 then (if 0 < i5 then (Sum.inr (Sum.inl (x2.2.2.1, x2.1))) else (Sum.inl (x2.2.2.1, x2.2.2.2, bAndNot .u8 (x2.2.2.2.getD ((0 : Int).toNat) 0) 128))) else (Sum.inl (x2.2.2.1, x2.2.2.2, bAndNot .u8 (x2.2.2.2.getD ((0 : Int).toNat) 0) 128))) else (Sum.inl (x2.2.2.1, x2.2.2.2, bAndNot .u8 (x2.2.2.2.getD ((0 : Int).toNat) 0) 128)))) else (if (x2.2.2.2.getD ((0 : Int).toNat) 0) < 128 then (if (bAndNot .u8 (x2.2.2.2.getD ((0 : Int).toNat) 0) 128) = 0 then (if 0 < i5 then (Sum.inr (Sum.inl (x2.2.2.1, x2.1))) else (Sum.inl (x2.2.2.1, x2.2.2.2, bAndNot .u8 (x2.2.2.2.getD ((0 : Int).toNat) 0) 128))) else (Sum.inl (x2.2.2.1, x2.2.2.2, bAndNot .u8 (x2.2.2.2.getD ((0 : Int).toNat) 0) 128))) else (Sum.inl (x2.2.2.1, x2.2.2.2, bAndNot .u8 (x2.2.2.2.getD ((0 : Int).toNat) 0) 128)))) fun z => (cas z (fun v2 => (if 0 ≤ (w64 (7 * i5)) then (if 0 < (v2.2.1.length : Int) then (if (v2.2.1.getD ((0 : Int).toNat) 0) < 128 then (some (Sum.inr ((bOr .u64 i4 (bShl .u64 (wu64 v2.2.2) (w64 (7 * i5))), v2.1, x2.1)))) else (pack_Reader_Num_2_l0 K k (bOr .u64 i4 (bShl .u64 (wu64 v2.2.2) (w64 (7 * i5)))) (w64 (i5 + 1)) v2.1 x2.1)) else none) else none)) (fun t_ => (some (t_))))) else none))) else (some (Sum.inl (l3, i6))))
def pack_Reader_Num_2 (K : Nat) (l0 : List Int) (p0_1 : Int) : Option (Int × (List Int) × Int) := (Option.bind (pack_Reader_Num_2_l0 K K 0 0 l0 p0_1) fun z => (cas z (fun v1 => (thn (pack_Reader_bad v1.1 v1.2) fun x4 => (some ((0, v1.1, x4))))) (fun t_ => (some (t_)))))

def pack_Reader_within_2 (K : Nat) (l0 : List Int) (p0_1 : Int) (a1 : Int) : Option (Int × Int × (List Int)) := ((pack_Reader_Num_2 K l0 p0_1).bind fun x1 => (if (wu64 (mx a1 0)) < x1.1 then (thn (pack_Reader_bad x1.2.1 x1.2.2) fun x2 => (some ((0, x2, x1.2.1)))) else (some ((x1.1, x1.2.2, x1.2.1)))))

def pack_Reader_Text (K : Nat) (l0 : List Int) (p0_1 : Int) (a1 : Int) : Option ((List Int) × Int × (List UInt8)) := ((pack_Reader_within_2 K l0 p0_1 a1).bind fun x1 => ((pack_Reader_take_2 x1.2.2 x1.2.1 x1.1).bind fun x2 => (some ((x2.2.2.1, x2.1, (strs x2.2.2.2))))))

def pack_Reader_Int (K : Nat) (l0 : List Int) (p0_1 : Int) : Option ((List Int) × Int × Int) := ((pack_Reader_Num_2 K l0 p0_1).bind fun x1 => (some ((x1.2.1, x1.2.2, bXor .i64 (w64 (bShr .u64 x1.1 1)) (w64 (0 - (w64 (bAnd .u64 x1.1 1))))))))

def fact_one_l0 (K : Nat) (a1 : Int) (x1 : (Int × (List Int) × Int)) : Nat → Int → (List Int) → Int → (List UInt8) → (List UInt8) → (List UInt8) → (List UInt8) → Option ((List Int) × Int × Int × (List UInt8) × (List UInt8) × (List UInt8) × (List UInt8))
  | 0, _, _, _, _, _, _, _ => none
  | k + 1, i6, l3, i7, t9, t10, t11, t12 => (if i6 < a1 then ((pack_Reader_Text K l3 i7 16).bind fun x3 => (if 0 ≤ i6 then (if i6 < (4 : Int) then (fact_one_l0 K a1 x1 k (w64 (i6 + 1)) x3.1 x3.2.1 (if i6.toNat = 0 then x3.2.2 else t9) (if i6.toNat = 1 then x3.2.2 else t10) (if i6.toNat = 2 then x3.2.2 else t11) (if i6.toNat = 3 then x3.2.2 else t12)) else none) else none)) else (some ((l3, i7, w64 x1.1, t9, t10, t11, t12))))
def fact_one (K : Nat) (l0 : List Int) (p0_1 : Int) (a1 : Int) : Option (Int × (List UInt8) × (List UInt8) × (List UInt8) × (List UInt8) × Int × Bool × (List Int) × Int) := ((pack_Reader_Num_2 K l0 p0_1).bind fun x1 => (if 16777216 < x1.1 then (some ((0, ([] : List UInt8), ([] : List UInt8), ([] : List UInt8), ([] : List UInt8), 0, false, x1.2.1, x1.2.2))) else (Option.bind (fact_one_l0 K a1 x1 K 0 x1.2.1 x1.2.2 ([] : List UInt8) ([] : List UInt8) ([] : List UInt8) ([] : List UInt8)) fun x2 => ((pack_Reader_Int K x2.1 x2.2.1).bind fun x4 => (some ((x2.2.2.1, x2.2.2.2.1, x2.2.2.2.2.1, x2.2.2.2.2.2.1, x2.2.2.2.2.2.2, x4.2.2, true, x4.1, x4.2.1)))))))

def pack_Reader_Fault (l0 : List Int) (p0_1 : Int) : Int := (p0_1)

def pack_Reader_Left (l0 : List Int) (p0_1 : Int) : Int := ((l0.length : Int))

def fact_Read_l0 (K : Nat) (a1 : Int) (x4 : ((List Int) × Int × Int)) : Nat → Int → (List Api_Fact) → (List Int) → Int → Option (Sum ((List Api_Fact) × (List Int) × Int) (Int × (List Api_Fact)))
  | 0, _, _, _, _ => none
  | k + 1, i3, l4, l5, i4 => (if i3 < x4.2.2 then ((fact_one K l5 i4 a1).bind fun x5 => (if (!x5.2.2.2.2.2.2.1) = true then (some (Sum.inr ((2, ([] : List Api_Fact))))) else (thn (pack_Reader_Fault x5.2.2.2.2.2.2.2.1 x5.2.2.2.2.2.2.2.2) fun x6 => (if ¬ (x6 = 0) then (thn (pack_Reader_Fault x5.2.2.2.2.2.2.2.1 x5.2.2.2.2.2.2.2.2) fun x7 => (some (Sum.inr ((x7, ([] : List Api_Fact)))))) else (if (l4.length + [(⟨(⟨x5.1, x5.2.1, x5.2.2.1, x5.2.2.2.1, x5.2.2.2.2.1⟩ : Api_Key), x5.2.2.2.2.2.1⟩ : Api_Fact)].length) * 80 ≤ 140737488355328 then (fact_Read_l0 K a1 x4 k (w64 (i3 + 1)) (l4 ++ [(⟨(⟨x5.1, x5.2.1, x5.2.2.1, x5.2.2.2.1, x5.2.2.2.2.1⟩ : Api_Key), x5.2.2.2.2.2.1⟩ : Api_Fact)]) x5.2.2.2.2.2.2.2.1 x5.2.2.2.2.2.2.2.2) else none))))) else (some (Sum.inl (l4, l5, i4))))
def fact_Read (K : Nat) (l0 : List Int) (a1 : Int) : Option (Int × (List Api_Fact)) := (thn (fact_many a1) fun x1 => (if (!x1) = true then (some ((1, ([] : List Api_Fact)))) else ((pack_NewReader l0).bind fun x2 => (Option.bind ((pack_Reader_Count K x2.1 x2.2 50).bind fun x4 => (fact_Read_l0 K a1 x4 K 0 ([] : List Api_Fact) x4.1 x4.2.1)) fun z => (cas z (fun v1 => (thn (pack_Reader_Fault v1.2.1 v1.2.2) fun x8 => (if ¬ (x8 = 0) then (thn (pack_Reader_Fault v1.2.1 v1.2.2) fun x9 => (some ((x9, ([] : List Api_Fact))))) else (thn (pack_Reader_Left v1.2.1 v1.2.2) fun x10 => (if 0 < x10 then (some ((4, ([] : List Api_Fact)))) else ((fact_All K v1.1 a1).bind fun x11 => (if ¬ (x11.1 = 0) then (some ((x11.1, ([] : List Api_Fact)))) else (some ((0, v1.1)))))))))) (fun t_ => (some (t_))))))))

def ossuaryref09_Same_l0 (K : Nat) (l0 : List Api_Fact) (l1 : List Api_Fact) : Nat → Int → Option Bool
  | 0, _ => none
  | k + 1, i1 => (if i1 < (l0.length : Int) then (if 0 ≤ i1 then (if i1 < (l1.length : Int) then (if (!((((((l0.getD i1.toNat z_Api_Fact).Key).Hour) == (((l1.getD i1.toNat z_Api_Fact).Key).Hour)) && ((((((l0.getD i1.toNat z_Api_Fact).Key).Dims_0) == (((l1.getD i1.toNat z_Api_Fact).Key).Dims_0)) && (((((l0.getD i1.toNat z_Api_Fact).Key).Dims_1) == (((l1.getD i1.toNat z_Api_Fact).Key).Dims_1)) && (((((l0.getD i1.toNat z_Api_Fact).Key).Dims_2) == (((l1.getD i1.toNat z_Api_Fact).Key).Dims_2)) && (((((l0.getD i1.toNat z_Api_Fact).Key).Dims_3) == (((l1.getD i1.toNat z_Api_Fact).Key).Dims_3)) && true)))) && true)) && ((((l0.getD i1.toNat z_Api_Fact).Value) == ((l1.getD i1.toNat z_Api_Fact).Value)) && true))) = true then (some (false)) else (ossuaryref09_Same_l0 K l0 l1 k (w64 (i1 + 1)))) else none) else none) else (some (true)))
def ossuaryref09_Same (K : Nat) (l0 : List Api_Fact) (l1 : List Api_Fact) : Option Bool := (if ¬ ((l0.length : Int) = (l1.length : Int)) then (some (false)) else (ossuaryref09_Same_l0 K l0 l1 K 0))

def ossuaryref01_Same (l0 : List Int) (l1 : List Int) : Bool := (((strs l0) == (strs l1)))

def ossuarylaw09_FactBack (K : Nat) (l0 : List Api_Fact) (l1 : List Int) (a2 : Int) : Option Bool := ((ossuarylaw09_Light K l0).bind fun x1 => (if (!x1) = true then ((ossuarylaw09_alive K).bind fun x2 => (some (x2))) else (if 1000 < (l1.length : Int) then ((ossuarylaw09_alive K).bind fun x3 => (some (x3))) else ((fact_Encode K l0 a2).bind fun x4 => ((fact_All K l0 a2).bind fun x5 => (if ¬ (x4.1 = x5.1) then (some (false)) else (Option.bind (if x4.1 = 0 then ((fact_Read K x4.2 a2).bind fun x7 => (if ¬ (x7.1 = 0) then (some (Sum.inr (false))) else ((ossuaryref09_Same K l0 x7.2).bind fun x8 => (if (!x8) = true then (some (Sum.inr (false))) else (some (Sum.inl ())))))) else (some (Sum.inl ()))) fun z => (cas z (fun v1 => ((fact_Read K l1 a2).bind fun x9 => (if ¬ (x9.1 = 0) then (if (x9.2.length : Int) = 0 then ((ossuarylaw09_alive K).bind fun x10 => (some (x10))) else (some (false))) else ((fact_Encode K x9.2 a2).bind fun x11 => (if x11.1 = 0 then (thn (ossuaryref01_Same x11.2 l1) fun x12 => (if x12 = true then ((ossuarylaw09_alive K).bind fun x13 => (some (x13))) else (some (false)))) else (some (false))))))) (fun t_ => (some (t_)))))))))))

end Go.Proofs.Ytmhhjhckbiaidaa.FactBack
