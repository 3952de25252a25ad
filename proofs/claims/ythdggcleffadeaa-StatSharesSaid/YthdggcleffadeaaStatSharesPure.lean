/- Printed by gen.py: the plain functions that StatShares comes to. -/
import Derived.Test.YthdggcleffadeaaEArith
set_option linter.unusedVariables false
namespace Go.Proofs.Ythdggcleffadeaa.StatShares
open Go E

structure Api_Key where
  Hour : Int
  Dims_0 : List UInt8
  Dims_1 : List UInt8
  Dims_2 : List UInt8
  Dims_3 : List UInt8
  deriving DecidableEq
def z_Api_Key : Api_Key := ⟨0, [], [], [], []⟩
/-- What an input of this kind keeps to. -/
def ok_Api_Key (x : Api_Key) : Prop := inI .i64 x.Hour ∧ x.Dims_0.length ≤ 140737488351232 ∧ x.Dims_1.length ≤ 140737488351232 ∧ x.Dims_2.length ≤ 140737488351232 ∧ x.Dims_3.length ≤ 140737488351232
structure Api_Cell where
  Count : Int
  Sum : Int
  Min : Int
  Max : Int
  deriving DecidableEq
def z_Api_Cell : Api_Cell := ⟨0, 0, 0, 0⟩
/-- What an input of this kind keeps to. -/
def ok_Api_Cell (x : Api_Cell) : Prop := inI .i64 x.Count ∧ inI .i64 x.Sum ∧ inI .i64 x.Min ∧ inI .i64 x.Max
structure Api_Row where
  Key : Api_Key
  Cell : Api_Cell
  deriving DecidableEq
def z_Api_Row : Api_Row := ⟨z_Api_Key, z_Api_Cell⟩
/-- What an input of this kind keeps to. -/
def ok_Api_Row (x : Api_Row) : Prop := ok_Api_Key x.Key ∧ ok_Api_Cell x.Cell
structure Pile_item__int64 where
  x : Int
  n : Int
  deriving DecidableEq
def z_Pile_item__int64 : Pile_item__int64 := ⟨0, 0⟩
/-- What an input of this kind keeps to. -/
def ok_Pile_item__int64 (x : Pile_item__int64) : Prop := inI .i64 x.x ∧ inI .i64 x.n
def ossuarylaw35_light_l1 (K : Nat) (l0 : List Api_Row) (i24 : Int) : Nat → Int → Option (Sum Unit Bool)
  | 0, _ => none
  | k + 1, i28 => (if i28 < 4 then (if 0 ≤ i24 then (if 0 ≤ i28 then (if i28 < (4 : Int) then (if 40 < (([((l0.getD i24.toNat z_Api_Row).Key).Dims_0, ((l0.getD i24.toNat z_Api_Row).Key).Dims_1, ((l0.getD i24.toNat z_Api_Row).Key).Dims_2, ((l0.getD i24.toNat z_Api_Row).Key).Dims_3].getD i28.toNat []).length : Int) then (some (Sum.inr (false))) else (ossuarylaw35_light_l1 K l0 i24 k (w64 (i28 + 1)))) else none) else none) else none) else (some (Sum.inl ())))
def ossuarylaw35_light_l0 (K : Nat) (l0 : List Api_Row) : Nat → Int → Option Bool
  | 0, _ => none
  | k + 1, i24 => (if i24 < (l0.length : Int) then (Option.bind (ossuarylaw35_light_l1 K l0 i24 K 0) fun z => (cas z (fun v12 => (ossuarylaw35_light_l0 K l0 k (w64 (i24 + 1)))) (fun t_ => (some (t_))))) else (some (true)))
def ossuarylaw35_light (K : Nat) (l0 : List Api_Row) : Option Bool := (if 60 < (l0.length : Int) then (some (false)) else (ossuarylaw35_light_l0 K l0 K 0))

def bits_Mul64 (a0 : Int) (a1 : Int) : (Int × Int) := ((wu64 ((wu64 ((wu64 ((bShr .u64 a0 32) * (bShr .u64 a1 32))) + (bShr .u64 (wu64 ((wu64 ((bShr .u64 a0 32) * (bAnd .u64 a1 4294967295))) + (bShr .u64 (wu64 ((bAnd .u64 a0 4294967295) * (bAnd .u64 a1 4294967295))) 32))) 32))) + (bShr .u64 (wu64 ((bAnd .u64 (wu64 ((wu64 ((bShr .u64 a0 32) * (bAnd .u64 a1 4294967295))) + (bShr .u64 (wu64 ((bAnd .u64 a0 4294967295) * (bAnd .u64 a1 4294967295))) 32))) 4294967295) + (wu64 ((bAnd .u64 a0 4294967295) * (bShr .u64 a1 32))))) 32)), wu64 (a0 * a1)))

def bits_Len64 (a0 : Int) : Option Int := (thn (if 4294967296 ≤ a0 then ((bShr .u64 a0 32, 32)) else ((a0, 0))) fun x4 => (thn (if 65536 ≤ x4.1 then ((bShr .u64 x4.1 16, w64 (x4.2 + 16))) else ((x4.1, x4.2))) fun x5 => (thn (if 256 ≤ x5.1 then ((bShr .u64 x5.1 8, w64 (x5.2 + 8))) else ((x5.1, x5.2))) fun x6 => (if 0 ≤ (wu8 x6.1) then (if (wu8 x6.1) < (([0, 1, 2, 2, 3, 3, 3, 3, 4, 4, 4, 4, 4, 4, 4, 4, 5, 5, 5, 5, 5, 5, 5, 5, 5, 5, 5, 5, 5, 5, 5, 5, 6, 6, 6, 6, 6, 6, 6, 6, 6, 6, 6, 6, 6, 6, 6, 6, 6, 6, 6, 6, 6, 6, 6, 6, 6, 6, 6, 6, 6, 6, 6, 6, 7, 7, 7, 7, 7, 7, 7, 7, 7, 7, 7, 7, 7, 7, 7, 7, 7, 7, 7, 7, 7, 7, 7, 7, 7, 7, 7, 7, 7, 7, 7, 7, 7, 7, 7, 7, 7, 7, 7, 7, 7, 7, 7, 7, 7, 7, 7, 7, 7, 7, 7, 7, 7, 7, 7, 7, 7, 7, 7, 7, 7, 7, 7, 7, 8, 8, 8, 8, 8, 8, 8, 8, 8, 8, 8, 8, 8, 8, 8, 8, 8, 8, 8, 8, 8, 8, 8, 8, 8, 8, 8, 8, 8, 8, 8, 8, 8, 8, 8, 8, 8, 8, 8, 8, 8, 8, 8, 8, 8, 8, 8, 8, 8, 8, 8, 8, 8, 8, 8, 8, 8, 8, 8, 8, 8, 8, 8, 8, 8, 8, 8, 8, 8, 8, 8, 8, 8, 8, 8, 8, 8, 8, 8, 8, 8, 8, 8, 8, 8, 8, 8, 8, 8, 8, 8, 8, 8, 8, 8, 8, 8, 8, 8, 8, 8, 8, 8, 8, 8, 8, 8, 8, 8, 8, 8, 8, 8, 8, 8, 8, 8, 8, 8, 8, 8, 8, 8, 8, 8, 8, 8, 8] : List UInt8).length : Int) then (some (w64 (x6.2 + (w64 ((([0, 1, 2, 2, 3, 3, 3, 3, 4, 4, 4, 4, 4, 4, 4, 4, 5, 5, 5, 5, 5, 5, 5, 5, 5, 5, 5, 5, 5, 5, 5, 5, 6, 6, 6, 6, 6, 6, 6, 6, 6, 6, 6, 6, 6, 6, 6, 6, 6, 6, 6, 6, 6, 6, 6, 6, 6, 6, 6, 6, 6, 6, 6, 6, 7, 7, 7, 7, 7, 7, 7, 7, 7, 7, 7, 7, 7, 7, 7, 7, 7, 7, 7, 7, 7, 7, 7, 7, 7, 7, 7, 7, 7, 7, 7, 7, 7, 7, 7, 7, 7, 7, 7, 7, 7, 7, 7, 7, 7, 7, 7, 7, 7, 7, 7, 7, 7, 7, 7, 7, 7, 7, 7, 7, 7, 7, 7, 7, 8, 8, 8, 8, 8, 8, 8, 8, 8, 8, 8, 8, 8, 8, 8, 8, 8, 8, 8, 8, 8, 8, 8, 8, 8, 8, 8, 8, 8, 8, 8, 8, 8, 8, 8, 8, 8, 8, 8, 8, 8, 8, 8, 8, 8, 8, 8, 8, 8, 8, 8, 8, 8, 8, 8, 8, 8, 8, 8, 8, 8, 8, 8, 8, 8, 8, 8, 8, 8, 8, 8, 8, 8, 8, 8, 8, 8, 8, 8, 8, 8, 8, 8, 8, 8, 8, 8, 8, 8, 8, 8, 8, 8, 8, 8, 8, 8, 8, 8, 8, 8, 8, 8, 8, 8, 8, 8, 8, 8, 8, 8, 8, 8, 8, 8, 8, 8, 8, 8, 8, 8, 8, 8, 8, 8, 8, 8, 8] : List UInt8).getD (wu8 x6.1).toNat 0).toNat : Int))))) else none) else none))))

def bits_LeadingZeros64 (a0 : Int) : Option Int := ((bits_Len64 a0).bind fun x2 => (some (w64 (64 - x2))))

def bits_Div64_l0 (K : Nat) : Nat → Int → Int → Int → Int → Int → Int → Int → Int → Int → Option (Int × Int × Int × Int × Int × Int × Int × Int)
  | 0, _, _, _, _, _, _, _, _, _ => none
  | k + 1, i96, i97, i98, i99, i100, i101, i102, i103, i104 => (thn (if 4294967296 ≤ i103 then (Sum.inl ()) else (if (wu64 ((wu64 (4294967296 * i104)) + i101)) < (wu64 (i103 * i99)) then (Sum.inl ()) else (Sum.inr ((i103, i96, i97, i98, i99, i100, i101, i102))))) fun z => (cas z (fun v18 => (if 4294967296 ≤ (wu64 (i104 + i98)) then (some ((wu64 (i103 - 1), i96, i97, i98, i99, i100, i101, i102))) else (bits_Div64_l0 K k i96 i97 i98 i99 i100 i101 i102 (wu64 (i103 - 1)) (wu64 (i104 + i98))))) (fun t_ => (some (t_)))))
def bits_Div64_l1 (K : Nat) (x20 : (Int × Int × Int × Int × Int × Int × Int × Int)) : Nat → Int → Int → Int → Option (Int × Int)
  | 0, _, _, _ => none
  | k + 1, i116, i117, i118 => (thn (if 4294967296 ≤ i117 then (Sum.inl ()) else (if (wu64 ((wu64 (4294967296 * i118)) + x20.2.2.2.2.2.2.2)) < (wu64 (i117 * x20.2.2.2.2.1)) then (Sum.inl ()) else (Sum.inr ((i117, i116))))) fun z => (cas z (fun v24 => (if 4294967296 ≤ (wu64 (i118 + x20.2.2.2.1)) then (some ((wu64 (i117 - 1), i116))) else (bits_Div64_l1 K x20 k i116 (wu64 (i117 - 1)) (wu64 (i118 + x20.2.2.2.1))))) (fun t_ => (some (t_)))))
def bits_Div64 (K : Nat) (a0 : Int) (a1 : Int) (a2 : Int) : Option (Int × Int) := (if a2 = 0 then none else (if a2 ≤ a0 then none else (if a0 = 0 then (some ((wu64 (Int.tdiv a1 a2), Int.tmod a1 a2))) else ((bits_LeadingZeros64 a2).bind fun x16 => (if 0 ≤ (wu64 x16) then (if 0 ≤ (wu64 (64 - (wu64 x16))) then (if (bShr .u64 (bShl .u64 a2 (wu64 x16)) 32) = 0 then none else (Option.bind (bits_Div64_l0 K K (bShl .u64 a2 (wu64 x16)) (wu64 x16) (bShr .u64 (bShl .u64 a2 (wu64 x16)) 32) (bAnd .u64 (bShl .u64 a2 (wu64 x16)) 4294967295) (bOr .u64 (bShl .u64 a0 (wu64 x16)) (bShr .u64 a1 (wu64 (64 - (wu64 x16))))) (bShr .u64 (bShl .u64 a1 (wu64 x16)) 32) (bAnd .u64 (bShl .u64 a1 (wu64 x16)) 4294967295) (wu64 (Int.tdiv (bOr .u64 (bShl .u64 a0 (wu64 x16)) (bShr .u64 a1 (wu64 (64 - (wu64 x16))))) (bShr .u64 (bShl .u64 a2 (wu64 x16)) 32))) (wu64 ((bOr .u64 (bShl .u64 a0 (wu64 x16)) (bShr .u64 a1 (wu64 (64 - (wu64 x16))))) - (wu64 ((wu64 (Int.tdiv (bOr .u64 (bShl .u64 a0 (wu64 x16)) (bShr .u64 a1 (wu64 (64 - (wu64 x16))))) (bShr .u64 (bShl .u64 a2 (wu64 x16)) 32))) * (bShr .u64 (bShl .u64 a2 (wu64 x16)) 32)))))) fun x20 => (if x20.2.2.2.1 = 0 then none else (Option.bind (bits_Div64_l1 K x20 K (wu64 ((wu64 ((wu64 (x20.2.2.2.2.2.1 * 4294967296)) + x20.2.2.2.2.2.2.1)) - (wu64 (x20.1 * x20.2.1)))) (wu64 (Int.tdiv (wu64 ((wu64 ((wu64 (x20.2.2.2.2.2.1 * 4294967296)) + x20.2.2.2.2.2.2.1)) - (wu64 (x20.1 * x20.2.1)))) x20.2.2.2.1)) (wu64 ((wu64 ((wu64 ((wu64 (x20.2.2.2.2.2.1 * 4294967296)) + x20.2.2.2.2.2.2.1)) - (wu64 (x20.1 * x20.2.1)))) - (wu64 ((wu64 (Int.tdiv (wu64 ((wu64 ((wu64 (x20.2.2.2.2.2.1 * 4294967296)) + x20.2.2.2.2.2.2.1)) - (wu64 (x20.1 * x20.2.1)))) x20.2.2.2.1)) * x20.2.2.2.1))))) fun x27 => (if 0 ≤ x20.2.2.1 then (some ((wu64 ((wu64 (x20.1 * 4294967296)) + x27.1), bShr .u64 (wu64 ((wu64 ((wu64 (x27.2 * 4294967296)) + x20.2.2.2.2.2.2.2)) - (wu64 (x27.1 * x20.2.1)))) x20.2.2.1))) else none))))) else none) else none)))))

def stat_Shares_l0 (K : Nat) (l0 : List Api_Row) : Nat → Int → Int → Option (Sum Int (Bool × (List Int)))
  | 0, _, _ => none
  | k + 1, i11, i12 => (if i12 < (l0.length : Int) then (if 0 ≤ i12 then (if (((l0.getD i12.toNat z_Api_Row).Cell).Sum) < 0 then (some (Sum.inr ((false, ([] : List Int))))) else (if 4611686018427387904 < (wu64 (i11 + (wu64 (((l0.getD i12.toNat z_Api_Row).Cell).Sum)))) then (some (Sum.inr ((false, ([] : List Int))))) else (stat_Shares_l0 K l0 k (wu64 (i11 + (wu64 (((l0.getD i12.toNat z_Api_Row).Cell).Sum)))) (w64 (i12 + 1))))) else none) else (some (Sum.inl i11)))
def stat_Shares_l1 (K : Nat) (l0 : List Api_Row) (v2 : Int) : Nat → Int → (List Int) → Option (Bool × (List Int))
  | 0, _, _ => none
  | k + 1, i14, l5 => (if i14 < (l0.length : Int) then (if 0 ≤ i14 then (thn (bits_Mul64 (wu64 (((l0.getD i14.toNat z_Api_Row).Cell).Sum)) 10000) fun x49 => ((bits_Div64 K x49.1 x49.2 v2).bind fun x50 => (if (l5.length + [w64 x50.1].length) * 8 ≤ 140737488355328 then (stat_Shares_l1 K l0 v2 k (w64 (i14 + 1)) (l5 ++ [w64 x50.1])) else none))) else none) else (some ((true, l5))))
def stat_Shares (K : Nat) (l0 : List Api_Row) : Option (Bool × (List Int)) := (Option.bind (stat_Shares_l0 K l0 K 0 0) fun z => (cas z (fun v2 => (if v2 = 0 then (some ((false, ([] : List Int)))) else (stat_Shares_l1 K l0 v2 K 0 ([] : List Int)))) (fun t_ => (some (t_)))))

def ossuarylaw35_alive (K : Nat) : Option Bool := ((stat_Shares K [(⟨(⟨0, ([] : List UInt8), ([] : List UInt8), ([] : List UInt8), ([] : List UInt8)⟩ : Api_Key), (⟨0, 1, 0, 0⟩ : Api_Cell)⟩ : Api_Row), (⟨(⟨0, ([] : List UInt8), ([] : List UInt8), ([] : List UInt8), ([] : List UInt8)⟩ : Api_Key), (⟨0, 3, 0, 0⟩ : Api_Cell)⟩ : Api_Row)]).bind fun x2 => (if x2.1 = true then (if (x2.2.length : Int) = 2 then (if 0 < (x2.2.length : Int) then (if (x2.2.getD ((0 : Int).toNat) 0) = 2500 then (if 1 < (x2.2.length : Int) then (some (((x2.2.getD ((1 : Int).toNat) 0) == 7500))) else none) else (some (false))) else none) else (some (false))) else (some (false))))

def ossuaryref35_share_l1 (K : Nat) (a1 : Int) (i190 : Int) : Nat → Int → Int → Int → Option (Int × Int)
  | 0, _, _, _ => none
  | k + 1, i226, i227, i228 => (if i228 < 10 then (if (w64 (a1 - i190)) ≤ i227 then (ossuaryref35_share_l1 K a1 i190 k (w64 (i226 + 1)) (w64 (i227 - (w64 (a1 - i190)))) (w64 (i228 + 1))) else (ossuaryref35_share_l1 K a1 i190 k i226 (w64 (i227 + i190)) (w64 (i228 + 1)))) else (some ((i226, i227))))
def ossuaryref35_share_l0 (K : Nat) (a1 : Int) : Nat → Int → Int → Int → Option Int
  | 0, _, _, _ => none
  | k + 1, i190, i191, i192 => (if i192 < 4 then (Option.bind (Option.bind (ossuaryref35_share_l1 K a1 i190 K 0 0 0) fun x36 => (some ((x36.2, w64 ((w64 (10 * i191)) + x36.1))))) fun x35 => (ossuaryref35_share_l0 K a1 k x35.1 x35.2 (w64 (i192 + 1)))) else (some (i191)))
def ossuaryref35_share (K : Nat) (a0 : Int) (a1 : Int) : Option Int := (ossuaryref35_share_l0 K a1 K a0 0 0)

def ossuaryref35_Shares_l0 (K : Nat) (l0 : List Api_Row) : Nat → Int → Int → Option (Sum Int (Bool × (List Int)))
  | 0, _, _ => none
  | k + 1, i11, i12 => (if i12 < (l0.length : Int) then (if 0 ≤ i12 then (if (((l0.getD i12.toNat z_Api_Row).Cell).Sum) < 0 then (some (Sum.inr ((false, ([] : List Int))))) else (if (w64 (4611686018427387904 - i11)) < (((l0.getD i12.toNat z_Api_Row).Cell).Sum) then (some (Sum.inr ((false, ([] : List Int))))) else (ossuaryref35_Shares_l0 K l0 k (w64 (i11 + (((l0.getD i12.toNat z_Api_Row).Cell).Sum))) (w64 (i12 + 1))))) else none) else (some (Sum.inl i11)))
def ossuaryref35_Shares_l1 (K : Nat) (l0 : List Api_Row) (v2 : Int) : Nat → Int → (List Int) → Option (Bool × (List Int))
  | 0, _, _ => none
  | k + 1, i14, l5 => (if i14 < (l0.length : Int) then (if 0 ≤ i14 then (if (((l0.getD i14.toNat z_Api_Row).Cell).Sum) = v2 then (if (l5.length + [10000].length) * 8 ≤ 140737488355328 then (ossuaryref35_Shares_l1 K l0 v2 k (w64 (i14 + 1)) (l5 ++ [10000])) else none) else ((ossuaryref35_share K (((l0.getD i14.toNat z_Api_Row).Cell).Sum) v2).bind fun x26 => (if (l5.length + [x26].length) * 8 ≤ 140737488355328 then (ossuaryref35_Shares_l1 K l0 v2 k (w64 (i14 + 1)) (l5 ++ [x26])) else none))) else none) else (some ((true, l5))))
def ossuaryref35_Shares (K : Nat) (l0 : List Api_Row) : Option (Bool × (List Int)) := (Option.bind (ossuaryref35_Shares_l0 K l0 K 0 0) fun z => (cas z (fun v2 => (if v2 = 0 then (some ((false, ([] : List Int)))) else (ossuaryref35_Shares_l1 K l0 v2 K 0 ([] : List Int)))) (fun t_ => (some (t_)))))

def pile_New__int64 : Int := (0)

def stat_Rank_1 (a0 : Int) (a1 : Int) : Bool := (decide (a1 < a0))

def pile_Pile__int64_ahead (l0 : List Pile_item__int64) (p0_2 : Int) (a1 : Int) (a2 : Int) : Option Bool := (if 0 ≤ a1 then (if a1 < (l0.length : Int) then (if 0 ≤ a2 then (if a2 < (l0.length : Int) then (thn (stat_Rank_1 ((l0.getD a1.toNat z_Pile_item__int64).x) ((l0.getD a2.toNat z_Pile_item__int64).x)) fun x7 => (if x7 = true then (some (true)) else (thn (stat_Rank_1 ((l0.getD a2.toNat z_Pile_item__int64).x) ((l0.getD a1.toNat z_Pile_item__int64).x)) fun x8 => (if x8 = true then (some (false)) else (some (decide (((l0.getD a1.toNat z_Pile_item__int64).n) < ((l0.getD a2.toNat z_Pile_item__int64).n)))))))) else none) else none) else none) else none)

def pile_Pile__int64_up_l0 (K : Nat) (p0_2 : Int) : Nat → Int → (List Pile_item__int64) → Option (List Pile_item__int64)
  | 0, _, _ => none
  | k + 1, i2, l3 => (if 0 < i2 then ((pile_Pile__int64_ahead l3 p0_2 i2 (bShr .i64 (w64 (i2 - 1)) 1)).bind fun x12 => (if (!x12) = true then (some (l3)) else (if 0 ≤ (bShr .i64 (w64 (i2 - 1)) 1) then (if (bShr .i64 (w64 (i2 - 1)) 1) < (l3.length : Int) then (if 0 ≤ i2 then (if i2 < (l3.length : Int) then (if (bShr .i64 (w64 (i2 - 1)) 1) < ((l3.set i2.toNat (⟨(l3.getD ((bShr .i64 (w64 (i2 - 1)) 1).toNat) z_Pile_item__int64).x, (l3.getD ((bShr .i64 (w64 (i2 - 1)) 1).toNat) z_Pile_item__int64).n⟩ : Pile_item__int64)).length : Int) then (pile_Pile__int64_up_l0 K p0_2 k (bShr .i64 (w64 (i2 - 1)) 1) ((l3.set i2.toNat (⟨(l3.getD ((bShr .i64 (w64 (i2 - 1)) 1).toNat) z_Pile_item__int64).x, (l3.getD ((bShr .i64 (w64 (i2 - 1)) 1).toNat) z_Pile_item__int64).n⟩ : Pile_item__int64)).set ((bShr .i64 (w64 (i2 - 1)) 1).toNat) (⟨(l3.getD i2.toNat z_Pile_item__int64).x, (l3.getD i2.toNat z_Pile_item__int64).n⟩ : Pile_item__int64))) else none) else none) else none) else none) else none))) else (some (l3)))
def pile_Pile__int64_up (K : Nat) (l0 : List Pile_item__int64) (p0_2 : Int) (a1 : Int) : Option (List Pile_item__int64) := (pile_Pile__int64_up_l0 K p0_2 K a1 l0)

def pile_Pile__int64_Push_2 (K : Nat) (l0 : List Pile_item__int64) (p0_2 : Int) (a1 : Int) : Option ((List Pile_item__int64) × Int) := (if (l0.length + [(⟨a1, p0_2⟩ : Pile_item__int64)].length) * 16 ≤ 140737488355328 then ((pile_Pile__int64_up K (l0 ++ [(⟨a1, p0_2⟩ : Pile_item__int64)]) (w64 (p0_2 + 1)) (w64 (((l0 ++ [(⟨a1, p0_2⟩ : Pile_item__int64)]).length : Int) - 1))).bind fun x2 => (some ((x2, w64 (p0_2 + 1))))) else none)

def pile_Pile__int64_Len (l0 : List Pile_item__int64) (p0_2 : Int) : Int := ((l0.length : Int))

def pile_Pile__int64_Top (l0 : List Pile_item__int64) (p0_2 : Int) : Option (Int × Bool) := (thn (pile_Pile__int64_Len l0 p0_2) fun x4 => (if x4 = 0 then (some ((0, false))) else (if 0 < (l0.length : Int) then (some (((l0.getD ((0 : Int).toNat) z_Pile_item__int64).x, true))) else none)))

def pile_Pile__int64_down_l1 (K : Nat) (p0_2 : Int) (i22 : Int) (l3 : List Pile_item__int64) : Nat → Int → Int → Option Int
  | 0, _, _ => none
  | k + 1, i31, i32 => (if i32 ≤ (w64 ((bShl .i64 i22 1) + 2)) then (if i32 < (l3.length : Int) then ((pile_Pile__int64_ahead l3 p0_2 i32 i31).bind fun x78 => (if x78 = true then (pile_Pile__int64_down_l1 K p0_2 i22 l3 k i32 (w64 (i32 + 1))) else (pile_Pile__int64_down_l1 K p0_2 i22 l3 k i31 (w64 (i32 + 1))))) else (some (i31))) else (some (i31)))
def pile_Pile__int64_down_l0 (K : Nat) (p0_2 : Int) : Nat → Int → (List Pile_item__int64) → Option (List Pile_item__int64)
  | 0, _, _ => none
  | k + 1, i22, l3 => (Option.bind (pile_Pile__int64_down_l1 K p0_2 i22 l3 K i22 (w64 ((bShl .i64 i22 1) + 1))) fun x72 => (if x72 = i22 then (some (l3)) else (if 0 ≤ x72 then (if x72 < (l3.length : Int) then (if 0 ≤ i22 then (if i22 < (l3.length : Int) then (if x72 < ((l3.set i22.toNat (⟨(l3.getD x72.toNat z_Pile_item__int64).x, (l3.getD x72.toNat z_Pile_item__int64).n⟩ : Pile_item__int64)).length : Int) then (pile_Pile__int64_down_l0 K p0_2 k x72 ((l3.set i22.toNat (⟨(l3.getD x72.toNat z_Pile_item__int64).x, (l3.getD x72.toNat z_Pile_item__int64).n⟩ : Pile_item__int64)).set x72.toNat (⟨(l3.getD i22.toNat z_Pile_item__int64).x, (l3.getD i22.toNat z_Pile_item__int64).n⟩ : Pile_item__int64))) else none) else none) else none) else none) else none)))
def pile_Pile__int64_down (K : Nat) (l0 : List Pile_item__int64) (p0_2 : Int) (a1 : Int) : Option (List Pile_item__int64) := (pile_Pile__int64_down_l0 K p0_2 K a1 l0)

def pile_Pile__int64_Pop (K : Nat) (l0 : List Pile_item__int64) (p0_2 : Int) : Option (Bool × (List Pile_item__int64) × Int) := ((pile_Pile__int64_Top l0 p0_2).bind fun x3 => (if (!x3.2) = true then (some ((false, l0, x3.1))) else (if 0 ≤ (w64 ((l0.length : Int) - 1)) then (if (w64 ((l0.length : Int) - 1)) < (l0.length : Int) then (if 0 < (l0.length : Int) then (if (w64 ((l0.length : Int) - 1)) ≤ ((l0.set ((0 : Int).toNat) (⟨(l0.getD ((w64 ((l0.length : Int) - 1)).toNat) z_Pile_item__int64).x, (l0.getD ((w64 ((l0.length : Int) - 1)).toNat) z_Pile_item__int64).n⟩ : Pile_item__int64)).length : Int) then ((pile_Pile__int64_down K ((l0.set ((0 : Int).toNat) (⟨(l0.getD ((w64 ((l0.length : Int) - 1)).toNat) z_Pile_item__int64).x, (l0.getD ((w64 ((l0.length : Int) - 1)).toNat) z_Pile_item__int64).n⟩ : Pile_item__int64)).take (w64 ((l0.length : Int) - 1)).toNat) p0_2 0).bind fun x4 => (some ((true, x4, x3.1)))) else none) else none) else none) else none)))

def pile_Pile__int64_Sorted_l0 (K : Nat) (p0_2 : Int) : Nat → (List Int) → (List Pile_item__int64) → Option (List Int)
  | 0, _, _ => none
  | k + 1, l4, l5 => ((pile_Pile__int64_Pop K l5 p0_2).bind fun x6 => (if (!x6.1) = true then (some (l4)) else (if (l4.length + [x6.2.2].length) * 8 ≤ 140737488355328 then (pile_Pile__int64_Sorted_l0 K p0_2 k (l4 ++ [x6.2.2]) x6.2.1) else none)))
def pile_Pile__int64_Sorted (K : Nat) (l0 : List Pile_item__int64) (p0_2 : Int) : Option (List Int) := (if (([] : List Pile_item__int64).length + l0.length) * 16 ≤ 140737488355328 then (pile_Pile__int64_Sorted_l0 K p0_2 K ([] : List Int) (([] : List Pile_item__int64) ++ l0)) else none)

def pile_Sort__int64_l0 (K : Nat) (l0 : List Int) : Nat → Int → (List Pile_item__int64) → Int → Option (List Int)
  | 0, _, _, _ => none
  | k + 1, i7, l5, i8 => (if i7 < (l0.length : Int) then (if 0 ≤ i7 then ((pile_Pile__int64_Push_2 K l5 i8 (l0.getD i7.toNat 0)).bind fun x27 => (pile_Sort__int64_l0 K l0 k (w64 (i7 + 1)) x27.1 x27.2)) else none) else ((pile_Pile__int64_Sorted K l5 i8).bind fun x28 => (some (x28))))
def pile_Sort__int64 (K : Nat) (l0 : List Int) : Option (List Int) := (thn (pile_New__int64) fun x15 => (pile_Sort__int64_l0 K l0 K 0 ([] : List Pile_item__int64) x15))

def stat_Rank_2 (a0 : Int) (l0 : List Int) (p1_0 : Int) (p1_1 : List UInt8) (p1_2 : List UInt8) (p1_3 : List UInt8) (p1_4 : List UInt8) (p1_5 : Int) (p1_6 : Int) (p1_7 : Int) (p1_8 : Int) : Option Bool := (if 0 ≤ a0 then (if a0 < (l0.length : Int) then (some (decide ((l0.getD a0.toNat 0) ≤ p1_6))) else none) else none)

def sort_Search_l0 (K : Nat) (l0 : List Int) (p1_0 : Int) (p1_1 : List UInt8) (p1_2 : List UInt8) (p1_3 : List UInt8) (p1_4 : List UInt8) (p1_5 : Int) (p1_6 : Int) (p1_7 : Int) (p1_8 : Int) : Nat → Int → Int → Option Int
  | 0, _, _ => none
  | k + 1, i7, i8 => (if i7 < i8 then ((stat_Rank_2 (w64 (bShr .u64 (wu64 (w64 (i7 + i8))) 1)) l0 p1_0 p1_1 p1_2 p1_3 p1_4 p1_5 p1_6 p1_7 p1_8).bind fun x12 => (if (!x12) = true then (sort_Search_l0 K l0 p1_0 p1_1 p1_2 p1_3 p1_4 p1_5 p1_6 p1_7 p1_8 k (w64 ((w64 (bShr .u64 (wu64 (w64 (i7 + i8))) 1)) + 1)) i8) else (sort_Search_l0 K l0 p1_0 p1_1 p1_2 p1_3 p1_4 p1_5 p1_6 p1_7 p1_8 k i7 (w64 (bShr .u64 (wu64 (w64 (i7 + i8))) 1))))) else (some (i7)))
def sort_Search (K : Nat) (a0 : Int) (l0 : List Int) (p1_0 : Int) (p1_1 : List UInt8) (p1_2 : List UInt8) (p1_3 : List UInt8) (p1_4 : List UInt8) (p1_5 : Int) (p1_6 : Int) (p1_7 : Int) (p1_8 : Int) : Option Int := (sort_Search_l0 K l0 p1_0 p1_1 p1_2 p1_3 p1_4 p1_5 p1_6 p1_7 p1_8 K 0 a0)

def stat_Rank_l0 (K : Nat) (l0 : List Api_Row) : Nat → Int → (List Int) → Option (List Int)
  | 0, _, _ => none
  | k + 1, i6, l9 => (if i6 < (l0.length : Int) then (if 0 ≤ i6 then (if (l9.length + [((l0.getD i6.toNat z_Api_Row).Cell).Sum].length) * 8 ≤ 140737488355328 then (stat_Rank_l0 K l0 k (w64 (i6 + 1)) (l9 ++ [((l0.getD i6.toNat z_Api_Row).Cell).Sum])) else none) else none) else (some (l9)))
def stat_Rank_l1 (K : Nat) (l0 : List Api_Row) (x16 : List Int) : Nat → Int → (List Int) → Option (List Int)
  | 0, _, _ => none
  | k + 1, i8, l11 => (if i8 < (l0.length : Int) then (if 0 ≤ i8 then ((sort_Search K (x16.length : Int) x16 (((l0.getD i8.toNat z_Api_Row).Key).Hour) (((l0.getD i8.toNat z_Api_Row).Key).Dims_0) (((l0.getD i8.toNat z_Api_Row).Key).Dims_1) (((l0.getD i8.toNat z_Api_Row).Key).Dims_2) (((l0.getD i8.toNat z_Api_Row).Key).Dims_3) (((l0.getD i8.toNat z_Api_Row).Cell).Count) (((l0.getD i8.toNat z_Api_Row).Cell).Sum) (((l0.getD i8.toNat z_Api_Row).Cell).Min) (((l0.getD i8.toNat z_Api_Row).Cell).Max)).bind fun x28 => (if (l11.length + [x28].length) * 8 ≤ 140737488355328 then (stat_Rank_l1 K l0 x16 k (w64 (i8 + 1)) (l11 ++ [x28])) else none)) else none) else (some (l11)))
def stat_Rank (K : Nat) (l0 : List Api_Row) : Option (List Int) := (Option.bind (stat_Rank_l0 K l0 K 0 ([] : List Int)) fun x15 => ((pile_Sort__int64 K x15).bind fun x16 => (stat_Rank_l1 K l0 x16 K 0 ([] : List Int))))

def ossuaryref35_Rank_l1 (K : Nat) (l0 : List Api_Row) (i104 : Int) : Nat → Int → Int → Option Int
  | 0, _, _ => none
  | k + 1, i123, i124 => (if i124 < (l0.length : Int) then (if 0 ≤ i124 then (if 0 ≤ i104 then (if (((l0.getD i104.toNat z_Api_Row).Cell).Sum) < (((l0.getD i124.toNat z_Api_Row).Cell).Sum) then (ossuaryref35_Rank_l1 K l0 i104 k (w64 (i123 + 1)) (w64 (i124 + 1))) else (ossuaryref35_Rank_l1 K l0 i104 k i123 (w64 (i124 + 1)))) else none) else none) else (some (i123)))
def ossuaryref35_Rank_l0 (K : Nat) (l0 : List Api_Row) : Nat → Int → (List Int) → Option (List Int)
  | 0, _, _ => none
  | k + 1, i104, l15 => (if i104 < (l0.length : Int) then (Option.bind (Option.bind (ossuaryref35_Rank_l1 K l0 i104 K 0 0) fun x36 => (if (l15.length + [x36].length) * 8 ≤ 140737488355328 then (some ((l15 ++ [x36]))) else none)) fun x35 => (ossuaryref35_Rank_l0 K l0 k (w64 (i104 + 1)) x35)) else (some (l15)))
def ossuaryref35_Rank (K : Nat) (l0 : List Api_Row) : Option (List Int) := (ossuaryref35_Rank_l0 K l0 K 0 ([] : List Int))

def ossuaryref08_Same_l0 (K : Nat) (l0 : List Int) (l1 : List Int) : Nat → Int → Option Bool
  | 0, _ => none
  | k + 1, i4 => (if i4 < (l0.length : Int) then (if 0 ≤ i4 then (if i4 < (l1.length : Int) then (if ¬ ((l0.getD i4.toNat 0) = (l1.getD i4.toNat 0)) then (some (false)) else (ossuaryref08_Same_l0 K l0 l1 k (w64 (i4 + 1)))) else none) else none) else (some (true)))
def ossuaryref08_Same (K : Nat) (l0 : List Int) (l1 : List Int) : Option Bool := (if ¬ ((l0.length : Int) = (l1.length : Int)) then (some (false)) else (ossuaryref08_Same_l0 K l0 l1 K 0))

def ossuarylaw35_StatShares_l0 (K : Nat) (x18 : List Int) (x19 : List Int) : Nat → Int → Option (Sum Unit Bool)
  | 0, _ => none
  | k + 1, i4 => (if i4 < (x18.length : Int) then (if 0 ≤ i4 then (if i4 < (x19.length : Int) then (if ¬ ((x18.getD i4.toNat 0) = (x19.getD i4.toNat 0)) then (some (Sum.inr (false))) else (ossuarylaw35_StatShares_l0 K x18 x19 k (w64 (i4 + 1)))) else none) else none) else (some (Sum.inl ())))
def ossuarylaw35_StatShares (K : Nat) (l0 : List Api_Row) : Option Bool := ((ossuarylaw35_light K l0).bind fun x14 => (if (!x14) = true then ((ossuarylaw35_alive K).bind fun x15 => (some (x15))) else ((stat_Shares K l0).bind fun x16 => ((ossuaryref35_Shares K l0).bind fun x17 => ((stat_Rank K l0).bind fun x18 => ((ossuaryref35_Rank K l0).bind fun x19 => (if ¬ ((x18.length : Int) = (x19.length : Int)) then (some (false)) else (Option.bind (ossuarylaw35_StatShares_l0 K x18 x19 K 0) fun z => (cas z (fun v2 => ((ossuaryref08_Same K x16.2 x17.2).bind fun x21 => (if x21 = true then (if (x16.1 == x17.1) = true then ((ossuarylaw35_alive K).bind fun x22 => (some (x22))) else (some (false))) else (some (false))))) (fun t_ => (some (t_))))))))))))

end Go.Proofs.Ythdggcleffadeaa.StatShares
