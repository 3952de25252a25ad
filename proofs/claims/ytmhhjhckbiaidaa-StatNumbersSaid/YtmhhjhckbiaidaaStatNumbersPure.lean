/- Printed by gen.py: the plain functions that StatNumbers comes to. -/
import Derived.Test.YtmhhjhckbiaidaaEArith
set_option linter.unusedVariables false
namespace Go.Proofs.Ytmhhjhckbiaidaa.StatNumbers
open Go E

structure Api_Key where
  Hour : Int
  Dims_0 : List UInt8
  Dims_1 : List UInt8
  Dims_2 : List UInt8
  Dims_3 : List UInt8
  deriving DecidableEq
def z_Api_Key : Api_Key := ⟨0, [], [], [], []⟩
/-- What an input of this kind keeps to. -/
def ok_Api_Key (x : Api_Key) : Prop := inI .i64 x.Hour ∧ x.Dims_0.length ≤ 140737488351232 ∧ x.Dims_1.length ≤ 140737488351232 ∧ x.Dims_2.length ≤ 140737488351232 ∧ x.Dims_3.length ≤ 140737488351232
structure Api_Cell where
  Count : Int
  Sum : Int
  Min : Int
  Max : Int
  deriving DecidableEq
def z_Api_Cell : Api_Cell := ⟨0, 0, 0, 0⟩
/-- What an input of this kind keeps to. -/
def ok_Api_Cell (x : Api_Cell) : Prop := inI .i64 x.Count ∧ inI .i64 x.Sum ∧ inI .i64 x.Min ∧ inI .i64 x.Max
structure Api_Row where
  Key : Api_Key
  Cell : Api_Cell
  deriving DecidableEq
def z_Api_Row : Api_Row := ⟨z_Api_Key, z_Api_Cell⟩
/-- What an input of this kind keeps to. -/
def ok_Api_Row (x : Api_Row) : Prop := ok_Api_Key x.Key ∧ ok_Api_Cell x.Cell
structure Pile_item__int64 where
  x : Int
  n : Int
  deriving DecidableEq
def z_Pile_item__int64 : Pile_item__int64 := ⟨0, 0⟩
/-- What an input of this kind keeps to. -/
def ok_Pile_item__int64 (x : Pile_item__int64) : Prop := inI .i64 x.x ∧ inI .i64 x.n
def bits_Mul64 (a0 : Int) (a1 : Int) : (Int × Int) := ((wu64 ((wu64 ((wu64 ((bShr .u64 a0 32) * (bShr .u64 a1 32))) + (bShr .u64 (wu64 ((wu64 ((bShr .u64 a0 32) * (bAnd .u64 a1 4294967295))) + (bShr .u64 (wu64 ((bAnd .u64 a0 4294967295) * (bAnd .u64 a1 4294967295))) 32))) 32))) + (bShr .u64 (wu64 ((bAnd .u64 (wu64 ((wu64 ((bShr .u64 a0 32) * (bAnd .u64 a1 4294967295))) + (bShr .u64 (wu64 ((bAnd .u64 a0 4294967295) * (bAnd .u64 a1 4294967295))) 32))) 4294967295) + (wu64 ((bAnd .u64 a0 4294967295) * (bShr .u64 a1 32))))) 32)), wu64 (a0 * a1)))

def bits_Len64 (a0 : Int) : Option Int := (thn (if 4294967296 ≤ a0 then ((bShr .u64 a0 32, 32)) else ((a0, 0))) fun x4 => (thn (if 65536 ≤ x4.1 then ((bShr .u64 x4.1 16, w64 (x4.2 + 16))) else ((x4.1, x4.2))) fun x5 => (thn (if 256 ≤ x5.1 then ((bShr .u64 x5.1 8, w64 (x5.2 + 8))) else ((x5.1, x5.2))) fun x6 => (if 0 ≤ (wu8 x6.1) then (if (wu8 x6.1) < (([0, 1, 2, 2, 3, 3, 3, 3, 4, 4, 4, 4, 4, 4, 4, 4, 5, 5, 5, 5, 5, 5, 5, 5, 5, 5, 5, 5, 5, 5, 5, 5, 6, 6, 6, 6, 6, 6, 6, 6, 6, 6, 6, 6, 6, 6, 6, 6, 6, 6, 6, 6, 6, 6, 6, 6, 6, 6, 6, 6, 6, 6, 6, 6, 7, 7, 7, 7, 7, 7, 7, 7, 7, 7, 7, 7, 7, 7, 7, 7, 7, 7, 7, 7, 7, 7, 7, 7, 7, 7, 7, 7, 7, 7, 7, 7, 7, 7, 7, 7, 7, 7, 7, 7, 7, 7, 7, 7, 7, 7, 7, 7, 7, 7, 7, 7, 7, 7, 7, 7, 7, 7, 7, 7, 7, 7, 7, 7, 8, 8, 8, 8, 8, 8, 8, 8, 8, 8, 8, 8, 8, 8, 8, 8, 8, 8, 8, 8, 8, 8, 8, 8, 8, 8, 8, 8, 8, 8, 8, 8, 8, 8, 8, 8, 8, 8, 8, 8, 8, 8, 8, 8, 8, 8, 8, 8, 8, 8, 8, 8, 8, 8, 8, 8, 8, 8, 8, 8, 8, 8, 8, 8, 8, 8, 8, 8, 8, 8, 8, 8, 8, 8, 8, 8, 8, 8, 8, 8, 8, 8, 8, 8, 8, 8, 8, 8, 8, 8, 8, 8, 8, 8, 8, 8, 8, 8, 8, 8, 8, 8, 8, 8, 8, 8, 8, 8, 8, 8, 8, 8, 8, 8, 8, 8, 8, 8, 8, 8, 8, 8, 8, 8, 8, 8, 8, 8] : List UInt8).length : Int) then (some (w64 (x6.2 + (w64 ((([0, 1, 2, 2, 3, 3, 3, 3, 4, 4, 4, 4, 4, 4, 4, 4, 5, 5, 5, 5, 5, 5, 5, 5, 5, 5, 5, 5, 5, 5, 5, 5, 6, 6, 6, 6, 6, 6, 6, 6, 6, 6, 6, 6, 6, 6, 6, 6, 6, 6, 6, 6, 6, 6, 6, 6, 6, 6, 6, 6, 6, 6, 6, 6, 7, 7, 7, 7, 7, 7, 7, 7, 7, 7, 7, 7, 7, 7, 7, 7, 7, 7, 7, 7, 7, 7, 7, 7, 7, 7, 7, 7, 7, 7, 7, 7, 7, 7, 7, 7, 7, 7, 7, 7, 7, 7, 7, 7, 7, 7, 7, 7, 7, 7, 7, 7, 7, 7, 7, 7, 7, 7, 7, 7, 7, 7, 7, 7, 8, 8, 8, 8, 8, 8, 8, 8, 8, 8, 8, 8, 8, 8, 8, 8, 8, 8, 8, 8, 8, 8, 8, 8, 8, 8, 8, 8, 8, 8, 8, 8, 8, 8, 8, 8, 8, 8, 8, 8, 8, 8, 8, 8, 8, 8, 8, 8, 8, 8, 8, 8, 8, 8, 8, 8, 8, 8, 8, 8, 8, 8, 8, 8, 8, 8, 8, 8, 8, 8, 8, 8, 8, 8, 8, 8, 8, 8, 8, 8, 8, 8, 8, 8, 8, 8, 8, 8, 8, 8, 8, 8, 8, 8, 8, 8, 8, 8, 8, 8, 8, 8, 8, 8, 8, 8, 8, 8, 8, 8, 8, 8, 8, 8, 8, 8, 8, 8, 8, 8, 8, 8, 8, 8, 8, 8, 8, 8] : List UInt8).getD (wu8 x6.1).toNat 0).toNat : Int))))) else none) else none))))

def bits_LeadingZeros64 (a0 : Int) : Option Int := ((bits_Len64 a0).bind fun x2 => (some (w64 (64 - x2))))

def bits_Div64_l0 (K : Nat) : Nat → Int → Int → Int → Int → Int → Int → Int → Int → Int → Option (Int × Int × Int × Int × Int × Int × Int × Int)
  | 0, _, _, _, _, _, _, _, _, _ => none
  | k + 1, i96, i97, i98, i99, i100, i101, i102, i103, i104 => (thn (if 4294967296 ≤ i103 then (Sum.inl ()) else (if (wu64 ((wu64 (4294967296 * i104)) + i101)) < (wu64 (i103 * i99)) then (Sum.inl ()) else (Sum.inr ((i103, i96, i97, i98, i99, i100, i101, i102))))) fun z => (cas z (fun v18 => (if 4294967296 ≤ (wu64 (i104 + i98)) then (some ((wu64 (i103 - 1), i96, i97, i98, i99, i100, i101, i102))) else (bits_Div64_l0 K k i96 i97 i98 i99 i100 i101 i102 (wu64 (i103 - 1)) (wu64 (i104 + i98))))) (fun t_ => (some (t_)))))
def bits_Div64_l1 (K : Nat) (x20 : (Int × Int × Int × Int × Int × Int × Int × Int)) : Nat → Int → Int → Int → Option (Int × Int)
  | 0, _, _, _ => none
  | k + 1, i116, i117, i118 => (thn (if 4294967296 ≤ i117 then (Sum.inl ()) else (if (wu64 ((wu64 (4294967296 * i118)) + x20.2.2.2.2.2.2.2)) < (wu64 (i117 * x20.2.2.2.2.1)) then (Sum.inl ()) else (Sum.inr ((i117, i116))))) fun z => (cas z (fun v24 => (if 4294967296 ≤ (wu64 (i118 + x20.2.2.2.1)) then (some ((wu64 (i117 - 1), i116))) else (bits_Div64_l1 K x20 k i116 (wu64 (i117 - 1)) (wu64 (i118 + x20.2.2.2.1))))) (fun t_ => (some (t_)))))
def bits_Div64 (K : Nat) (a0 : Int) (a1 : Int) (a2 : Int) : Option (Int × Int) := (if a2 = 0 then none else (if a2 ≤ a0 then none else (if a0 = 0 then (some ((wu64 (Int.tdiv a1 a2), Int.tmod a1 a2))) else ((bits_LeadingZeros64 a2).bind fun x16 => (if 0 ≤ (wu64 x16) then (if 0 ≤ (wu64 (64 - (wu64 x16))) then (if (bShr .u64 (bShl .u64 a2 (wu64 x16)) 32) = 0 then none else (Option.bind (bits_Div64_l0 K K (bShl .u64 a2 (wu64 x16)) (wu64 x16) (bShr .u64 (bShl .u64 a2 (wu64 x16)) 32) (bAnd .u64 (bShl .u64 a2 (wu64 x16)) 4294967295) (bOr .u64 (bShl .u64 a0 (wu64 x16)) (bShr .u64 a1 (wu64 (64 - (wu64 x16))))) (bShr .u64 (bShl .u64 a1 (wu64 x16)) 32) (bAnd .u64 (bShl .u64 a1 (wu64 x16)) 4294967295) (wu64 (Int.tdiv (bOr .u64 (bShl .u64 a0 (wu64 x16)) (bShr .u64 a1 (wu64 (64 - (wu64 x16))))) (bShr .u64 (bShl .u64 a2 (wu64 x16)) 32))) (wu64 ((bOr .u64 (bShl .u64 a0 (wu64 x16)) (bShr .u64 a1 (wu64 (64 - (wu64 x16))))) - (wu64 ((wu64 (Int.tdiv (bOr .u64 (bShl .u64 a0 (wu64 x16)) (bShr .u64 a1 (wu64 (64 - (wu64 x16))))) (bShr .u64 (bShl .u64 a2 (wu64 x16)) 32))) * (bShr .u64 (bShl .u64 a2 (wu64 x16)) 32)))))) fun x20 => (if x20.2.2.2.1 = 0 then none else (Option.bind (bits_Div64_l1 K x20 K (wu64 ((wu64 ((wu64 (x20.2.2.2.2.2.1 * 4294967296)) + x20.2.2.2.2.2.2.1)) - (wu64 (x20.1 * x20.2.1)))) (wu64 (Int.tdiv (wu64 ((wu64 ((wu64 (x20.2.2.2.2.2.1 * 4294967296)) + x20.2.2.2.2.2.2.1)) - (wu64 (x20.1 * x20.2.1)))) x20.2.2.2.1)) (wu64 ((wu64 ((wu64 ((wu64 (x20.2.2.2.2.2.1 * 4294967296)) + x20.2.2.2.2.2.2.1)) - (wu64 (x20.1 * x20.2.1)))) - (wu64 ((wu64 (Int.tdiv (wu64 ((wu64 ((wu64 (x20.2.2.2.2.2.1 * 4294967296)) + x20.2.2.2.2.2.2.1)) - (wu64 (x20.1 * x20.2.1)))) x20.2.2.2.1)) * x20.2.2.2.1))))) fun x27 => (if 0 ≤ x20.2.2.1 then (some ((wu64 ((wu64 (x20.1 * 4294967296)) + x27.1), bShr .u64 (wu64 ((wu64 ((wu64 (x27.2 * 4294967296)) + x20.2.2.2.2.2.2.2)) - (wu64 (x27.1 * x20.2.1)))) x20.2.2.1))) else none))))) else none) else none)))))

def stat_Shares_l0 (K : Nat) (l0 : List Api_Row) : Nat → Int → Int → Option (Sum Int (Bool × (List Int)))
  | 0, _, _ => none
  | k + 1, i11, i12 => (if i12 < (l0.length : Int) then (if 0 ≤ i12 then (if (((l0.getD i12.toNat z_Api_Row).Cell).Sum) < 0 then (some (Sum.inr ((false, ([] : List Int))))) else (if 4611686018427387904 < (wu64 (i11 + (wu64 (((l0.getD i12.toNat z_Api_Row).Cell).Sum)))) then (some (Sum.inr ((false, ([] : List Int))))) else (stat_Shares_l0 K l0 k (wu64 (i11 + (wu64 (((l0.getD i12.toNat z_Api_Row).Cell).Sum)))) (w64 (i12 + 1))))) else none) else (some (Sum.inl i11)))
def stat_Shares_l1 (K : Nat) (l0 : List Api_Row) (v2 : Int) : Nat → Int → (List Int) → Option (Bool × (List Int))
  | 0, _, _ => none
  | k + 1, i14, l5 => (if i14 < (l0.length : Int) then (if 0 ≤ i14 then (thn (bits_Mul64 (wu64 (((l0.getD i14.toNat z_Api_Row).Cell).Sum)) 10000) fun x49 => ((bits_Div64 K x49.1 x49.2 v2).bind fun x50 => (if (l5.length + [w64 x50.1].length) * 8 ≤ 140737488355328 then (stat_Shares_l1 K l0 v2 k (w64 (i14 + 1)) (l5 ++ [w64 x50.1])) else none))) else none) else (some ((true, l5))))
def stat_Shares (K : Nat) (l0 : List Api_Row) : Option (Bool × (List Int)) := (Option.bind (stat_Shares_l0 K l0 K 0 0) fun z => (cas z (fun v2 => (if v2 = 0 then (some ((false, ([] : List Int)))) else (stat_Shares_l1 K l0 v2 K 0 ([] : List Int)))) (fun t_ => (some (t_)))))

def ossuarylaw35_alive (K : Nat) : Option Bool := ((stat_Shares K [(⟨(⟨0, ([] : List UInt8), ([] : List UInt8), ([] : List UInt8), ([] : List UInt8)⟩ : Api_Key), (⟨0, 1, 0, 0⟩ : Api_Cell)⟩ : Api_Row), (⟨(⟨0, ([] : List UInt8), ([] : List UInt8), ([] : List UInt8), ([] : List UInt8)⟩ : Api_Key), (⟨0, 3, 0, 0⟩ : Api_Cell)⟩ : Api_Row)]).bind fun x2 => (if x2.1 = true then (if (x2.2.length : Int) = 2 then (if 0 < (x2.2.length : Int) then (if (x2.2.getD ((0 : Int).toNat) 0) = 2500 then (if 1 < (x2.2.length : Int) then (some (((x2.2.getD ((1 : Int).toNat) 0) == 7500))) else none) else (some (false))) else none) else (some (false))) else (some (false))))

def pile_New__int64 : Int := (0)

def stat_Middle_1 (a0 : Int) (a1 : Int) : Bool := (decide (a0 < a1))

def pile_Pile__int64_ahead (l0 : List Pile_item__int64) (p0_2 : Int) (a1 : Int) (a2 : Int) : Option Bool := (if 0 ≤ a1 then (if a1 < (l0.length : Int) then (if 0 ≤ a2 then (if a2 < (l0.length : Int) then (thn (stat_Middle_1 ((l0.getD a1.toNat z_Pile_item__int64).x) ((l0.getD a2.toNat z_Pile_item__int64).x)) fun x7 => (if x7 = true then (some (true)) else (thn (stat_Middle_1 ((l0.getD a2.toNat z_Pile_item__int64).x) ((l0.getD a1.toNat z_Pile_item__int64).x)) fun x8 => (if x8 = true then (some (false)) else (some (decide (((l0.getD a1.toNat z_Pile_item__int64).n) < ((l0.getD a2.toNat z_Pile_item__int64).n)))))))) else none) else none) else none) else none)

def pile_Pile__int64_up_l0 (K : Nat) (p0_2 : Int) : Nat → Int → (List Pile_item__int64) → Option (List Pile_item__int64)
  | 0, _, _ => none
  | k + 1, i2, l3 => (if 0 < i2 then ((pile_Pile__int64_ahead l3 p0_2 i2 (bShr .i64 (w64 (i2 - 1)) 1)).bind fun x12 => (if (!x12) = true then (some (l3)) else (if 0 ≤ (bShr .i64 (w64 (i2 - 1)) 1) then (if (bShr .i64 (w64 (i2 - 1)) 1) < (l3.length : Int) then (if 0 ≤ i2 then (if i2 < (l3.length : Int) then (if (bShr .i64 (w64 (i2 - 1)) 1) < ((l3.set i2.toNat (⟨(l3.getD ((bShr .i64 (w64 (i2 - 1)) 1).toNat) z_Pile_item__int64).x, (l3.getD ((bShr .i64 (w64 (i2 - 1)) 1).toNat) z_Pile_item__int64).n⟩ : Pile_item__int64)).length : Int) then (pile_Pile__int64_up_l0 K p0_2 k (bShr .i64 (w64 (i2 - 1)) 1) ((l3.set i2.toNat (⟨(l3.getD ((bShr .i64 (w64 (i2 - 1)) 1).toNat) z_Pile_item__int64).x, (l3.getD ((bShr .i64 (w64 (i2 - 1)) 1).toNat) z_Pile_item__int64).n⟩ : Pile_item__int64)).set ((bShr .i64 (w64 (i2 - 1)) 1).toNat) (⟨(l3.getD i2.toNat z_Pile_item__int64).x, (l3.getD i2.toNat z_Pile_item__int64).n⟩ : Pile_item__int64))) else none) else none) else none) else none) else none))) else (some (l3)))
def pile_Pile__int64_up (K : Nat) (l0 : List Pile_item__int64) (p0_2 : Int) (a1 : Int) : Option (List Pile_item__int64) := (pile_Pile__int64_up_l0 K p0_2 K a1 l0)

def pile_Pile__int64_Push_2 (K : Nat) (l0 : List Pile_item__int64) (p0_2 : Int) (a1 : Int) : Option ((List Pile_item__int64) × Int) := (if (l0.length + [(⟨a1, p0_2⟩ : Pile_item__int64)].length) * 16 ≤ 140737488355328 then ((pile_Pile__int64_up K (l0 ++ [(⟨a1, p0_2⟩ : Pile_item__int64)]) (w64 (p0_2 + 1)) (w64 (((l0 ++ [(⟨a1, p0_2⟩ : Pile_item__int64)]).length : Int) - 1))).bind fun x2 => (some ((x2, w64 (p0_2 + 1))))) else none)

def pile_Pile__int64_Len (l0 : List Pile_item__int64) (p0_2 : Int) : Int := ((l0.length : Int))

def pile_Pile__int64_Top (l0 : List Pile_item__int64) (p0_2 : Int) : Option (Int × Bool) := (thn (pile_Pile__int64_Len l0 p0_2) fun x4 => (if x4 = 0 then (some ((0, false))) else (if 0 < (l0.length : Int) then (some (((l0.getD ((0 : Int).toNat) z_Pile_item__int64).x, true))) else none)))

def pile_Pile__int64_down_l1 (K : Nat) (p0_2 : Int) (i22 : Int) (l3 : List Pile_item__int64) : Nat → Int → Int → Option Int
  | 0, _, _ => none
  | k + 1, i31, i32 => (if i32 ≤ (w64 ((bShl .i64 i22 1) + 2)) then (if i32 < (l3.length : Int) then ((pile_Pile__int64_ahead l3 p0_2 i32 i31).bind fun x78 => (if x78 = true then (pile_Pile__int64_down_l1 K p0_2 i22 l3 k i32 (w64 (i32 + 1))) else (pile_Pile__int64_down_l1 K p0_2 i22 l3 k i31 (w64 (i32 + 1))))) else (some (i31))) else (some (i31)))
def pile_Pile__int64_down_l0 (K : Nat) (p0_2 : Int) : Nat → Int → (List Pile_item__int64) → Option (List Pile_item__int64)
  | 0, _, _ => none
  | k + 1, i22, l3 => (Option.bind (pile_Pile__int64_down_l1 K p0_2 i22 l3 K i22 (w64 ((bShl .i64 i22 1) + 1))) fun x72 => (if x72 = i22 then (some (l3)) else (if 0 ≤ x72 then (if x72 < (l3.length : Int) then (if 0 ≤ i22 then (if i22 < (l3.length : Int) then (if x72 < ((l3.set i22.toNat (⟨(l3.getD x72.toNat z_Pile_item__int64).x, (l3.getD x72.toNat z_Pile_item__int64).n⟩ : Pile_item__int64)).length : Int) then (pile_Pile__int64_down_l0 K p0_2 k x72 ((l3.set i22.toNat (⟨(l3.getD x72.toNat z_Pile_item__int64).x, (l3.getD x72.toNat z_Pile_item__int64).n⟩ : Pile_item__int64)).set x72.toNat (⟨(l3.getD i22.toNat z_Pile_item__int64).x, (l3.getD i22.toNat z_Pile_item__int64).n⟩ : Pile_item__int64))) else none) else none) else none) else none) else none)))
def pile_Pile__int64_down (K : Nat) (l0 : List Pile_item__int64) (p0_2 : Int) (a1 : Int) : Option (List Pile_item__int64) := (pile_Pile__int64_down_l0 K p0_2 K a1 l0)

def pile_Pile__int64_Pop (K : Nat) (l0 : List Pile_item__int64) (p0_2 : Int) : Option (Bool × (List Pile_item__int64) × Int) := ((pile_Pile__int64_Top l0 p0_2).bind fun x3 => (if (!x3.2) = true then (some ((false, l0, x3.1))) else (if 0 ≤ (w64 ((l0.length : Int) - 1)) then (if (w64 ((l0.length : Int) - 1)) < (l0.length : Int) then (if 0 < (l0.length : Int) then (if (w64 ((l0.length : Int) - 1)) ≤ ((l0.set ((0 : Int).toNat) (⟨(l0.getD ((w64 ((l0.length : Int) - 1)).toNat) z_Pile_item__int64).x, (l0.getD ((w64 ((l0.length : Int) - 1)).toNat) z_Pile_item__int64).n⟩ : Pile_item__int64)).length : Int) then ((pile_Pile__int64_down K ((l0.set ((0 : Int).toNat) (⟨(l0.getD ((w64 ((l0.length : Int) - 1)).toNat) z_Pile_item__int64).x, (l0.getD ((w64 ((l0.length : Int) - 1)).toNat) z_Pile_item__int64).n⟩ : Pile_item__int64)).take (w64 ((l0.length : Int) - 1)).toNat) p0_2 0).bind fun x4 => (some ((true, x4, x3.1)))) else none) else none) else none) else none)))

def stat_Middle_l0 (K : Nat) (l0 : List Int) : Nat → Int → (List Pile_item__int64) → Int → Option ((List Pile_item__int64) × Int)
  | 0, _, _, _ => none
  | k + 1, i11, l9, i12 => (if i11 < (l0.length : Int) then (if 0 ≤ i11 then ((pile_Pile__int64_Push_2 K l9 i12 (l0.getD i11.toNat 0)).bind fun x42 => (stat_Middle_l0 K l0 k (w64 (i11 + 1)) x42.1 x42.2)) else none) else (some ((l9, i12))))
def stat_Middle_l1 (K : Nat) (l0 : List Int) (x36 : ((List Pile_item__int64) × Int)) : Nat → Int → (List Pile_item__int64) → Option (List Pile_item__int64)
  | 0, _, _ => none
  | k + 1, i14, l12 => (if i14 < (w64 (Int.tdiv (w64 ((l0.length : Int) - 1)) 2)) then ((pile_Pile__int64_Pop K l12 x36.2).bind fun x55 => (stat_Middle_l1 K l0 x36 k (w64 (i14 + 1)) x55.2.1)) else (some (l12)))
def stat_Middle (K : Nat) (l0 : List Int) : Option (Int × Bool) := (thn (pile_New__int64) fun x29 => (Option.bind (stat_Middle_l0 K l0 K 0 ([] : List Pile_item__int64) x29) fun x36 => (Option.bind (stat_Middle_l1 K l0 x36 K 0 x36.1) fun x49 => ((pile_Pile__int64_Pop K x49 x36.2).bind fun x56 => (some ((x56.2.2, x56.1)))))))

def ossuaryref35_Middle_l1 (K : Nat) (l0 : List Int) (i41 : Int) (l12 : List Int) : Nat → Int → Option Int
  | 0, _ => none
  | k + 1, i53 => (if i53 < (l12.length : Int) then (if 0 ≤ i53 then (if 0 ≤ i41 then (if (l12.getD i53.toNat 0) < (l0.getD i41.toNat 0) then (ossuaryref35_Middle_l1 K l0 i41 l12 k (w64 (i53 + 1))) else (some (i53))) else none) else none) else (some (i53)))
def ossuaryref35_Middle_l0 (K : Nat) (l0 : List Int) : Nat → Int → (List Int) → Option (List Int)
  | 0, _, _ => none
  | k + 1, i41, l12 => (if i41 < (l0.length : Int) then (Option.bind (Option.bind (ossuaryref35_Middle_l1 K l0 i41 l12 K 0) fun x38 => (if 0 ≤ x38 then (if x38 ≤ (l12.length : Int) then (if (([] : List Int).length + (l12.take x38.toNat).length) * 8 ≤ 140737488355328 then (if 0 ≤ i41 then (if ((([] : List Int) ++ (l12.take x38.toNat)).length + [(l0.getD i41.toNat 0)].length) * 8 ≤ 140737488355328 then (if (((([] : List Int) ++ (l12.take x38.toNat)) ++ [(l0.getD i41.toNat 0)]).length + (l12.drop x38.toNat).length) * 8 ≤ 140737488355328 then (some ((((([] : List Int) ++ (l12.take x38.toNat)) ++ [(l0.getD i41.toNat 0)]) ++ (l12.drop x38.toNat)))) else none) else none) else none) else none) else none) else none)) fun x37 => (ossuaryref35_Middle_l0 K l0 k (w64 (i41 + 1)) x37)) else (some (l12)))
def ossuaryref35_Middle (K : Nat) (l0 : List Int) : Option (Int × Bool) := (Option.bind (ossuaryref35_Middle_l0 K l0 K 0 ([] : List Int)) fun x29 => (if (x29.length : Int) = 0 then (some ((0, false))) else (if 0 ≤ (w64 (Int.tdiv (w64 ((x29.length : Int) - 1)) 2)) then (if (w64 (Int.tdiv (w64 ((x29.length : Int) - 1)) 2)) < (x29.length : Int) then (some (((x29.getD ((w64 (Int.tdiv (w64 ((x29.length : Int) - 1)) 2)).toNat) 0), true))) else none) else none)))

def stat_Buckets_l0 (K : Nat) (l0 : List Int) : Nat → Int → (Nat → Int) → Option (Nat → Int)
  | 0, _, _ => none
  | k + 1, i4, j4 => (if i4 < (l0.length : Int) then (if 0 ≤ i4 then ((bits_Len64 (wu64 (w64 ((bXor .i64 (l0.getD i4.toNat 0) (bShr .i64 (l0.getD i4.toNat 0) 63)) - (bShr .i64 (l0.getD i4.toNat 0) 63))))).bind fun x24 => (if 0 ≤ x24 then (if x24 < (65 : Int) then (stat_Buckets_l0 K l0 k (w64 (i4 + 1)) (updF j4 x24.toNat (w64 ((j4 x24.toNat) + 1)))) else none) else none)) else none) else (some (j4)))
def stat_Buckets (K : Nat) (l0 : List Int) : Option (Nat → Int) := (stat_Buckets_l0 K l0 K 0 (fun _ => 0))

def ossuaryref35_bits_l0 (K : Nat) : Nat → Int → Int → Option Int
  | 0, _, _ => none
  | k + 1, i7, i8 => (if ¬ (i7 = 0) then (ossuaryref35_bits_l0 K k (w64 (Int.tdiv i7 2)) (w64 (i8 + 1))) else (some (i8)))
def ossuaryref35_bits (K : Nat) (a0 : Int) : Option Int := (ossuaryref35_bits_l0 K K a0 0)

def ossuaryref35_Buckets_l0 (K : Nat) (l0 : List Int) : Nat → Int → (Nat → Int) → Option (Nat → Int)
  | 0, _, _ => none
  | k + 1, i4, j4 => (if i4 < (l0.length : Int) then (if 0 ≤ i4 then ((ossuaryref35_bits K (l0.getD i4.toNat 0)).bind fun x24 => (if 0 ≤ x24 then (if x24 < (65 : Int) then (ossuaryref35_Buckets_l0 K l0 k (w64 (i4 + 1)) (updF j4 x24.toNat (w64 ((j4 x24.toNat) + 1)))) else none) else none)) else none) else (some (j4)))
def ossuaryref35_Buckets (K : Nat) (l0 : List Int) : Option (Nat → Int) := (ossuaryref35_Buckets_l0 K l0 K 0 (fun _ => 0))

def ossuarylaw35_StatNumbers (K : Nat) (l0 : List Int) : Option Bool := (if 100 < (l0.length : Int) then ((ossuarylaw35_alive K).bind fun x9 => (some (x9))) else ((stat_Middle K l0).bind fun x10 => ((ossuaryref35_Middle K l0).bind fun x11 => ((stat_Buckets K l0).bind fun x12 => ((ossuaryref35_Buckets K l0).bind fun x13 => (if (eqF 65 x12 x13) = true then (if x10.1 = x11.1 then (if (x10.2 == x11.2) = true then ((ossuarylaw35_alive K).bind fun x14 => (some (x14))) else (some (false))) else (some (false))) else (some (false))))))))

end Go.Proofs.Ytmhhjhckbiaidaa.StatNumbers
