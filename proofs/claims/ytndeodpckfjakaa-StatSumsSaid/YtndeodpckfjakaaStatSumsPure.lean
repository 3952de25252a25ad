/- Printed by gen.py: the plain functions that StatSums comes to. -/
import Derived.Test.YtndeodpckfjakaaEArith
set_option linter.unusedVariables false
namespace Go.Proofs.Ytndeodpckfjakaa.StatSums
open Go E

structure Api_Key where
  Hour : Int
  Dims_0 : List UInt8
  Dims_1 : List UInt8
  Dims_2 : List UInt8
  Dims_3 : List UInt8
  deriving DecidableEq
def z_Api_Key : Api_Key := ⟨0, [], [], [], []⟩
/-- What an input of this kind keeps to. -/
def ok_Api_Key (x : Api_Key) : Prop := inI .i64 x.Hour ∧ x.Dims_0.length ≤ 140737488351232 ∧ x.Dims_1.length ≤ 140737488351232 ∧ x.Dims_2.length ≤ 140737488351232 ∧ x.Dims_3.length ≤ 140737488351232
structure Api_Cell where
  Count : Int
  Sum : Int
  Min : Int
  Max : Int
  deriving DecidableEq
def z_Api_Cell : Api_Cell := ⟨0, 0, 0, 0⟩
/-- What an input of this kind keeps to. -/
def ok_Api_Cell (x : Api_Cell) : Prop := inI .i64 x.Count ∧ inI .i64 x.Sum ∧ inI .i64 x.Min ∧ inI .i64 x.Max
structure Api_Row where
  Key : Api_Key
  Cell : Api_Cell
  deriving DecidableEq
def z_Api_Row : Api_Row := ⟨z_Api_Key, z_Api_Cell⟩
/-- What an input of this kind keeps to. -/
def ok_Api_Row (x : Api_Row) : Prop := ok_Api_Key x.Key ∧ ok_Api_Cell x.Cell
structure Omap_pair__string___int where
  k : List UInt8
  v : Int
  deriving DecidableEq
def z_Omap_pair__string___int : Omap_pair__string___int := ⟨[], 0⟩
/-- What an input of this kind keeps to. -/
def ok_Omap_pair__string___int (x : Omap_pair__string___int) : Prop := x.k.length ≤ 140737488351232 ∧ inI .i64 x.v
def ossuarylaw35_light_R_l1 (K : Nat) (l0 : List Api_Row) (i24 : Int) : Nat → Int → Option (Sum Unit Bool)
  | 0, _ => none
  | k + 1, i28 => (if i28 < 4 then (if 0 ≤ i24 then (if 0 ≤ i28 then (if i28 < (4 : Int) then (if 40 < (([((l0.getD i24.toNat z_Api_Row).Key).Dims_0, ((l0.getD i24.toNat z_Api_Row).Key).Dims_1, ((l0.getD i24.toNat z_Api_Row).Key).Dims_2, ((l0.getD i24.toNat z_Api_Row).Key).Dims_3].getD i28.toNat []).length : Int) then (some (Sum.inr (false))) else (ossuarylaw35_light_R_l1 K l0 i24 k (w64 (i28 + 1)))) else none) else none) else none) else (some (Sum.inl ())))
def ossuarylaw35_light_R_l0 (K : Nat) (l0 : List Api_Row) : Nat → Int → Option Bool
  | 0, _ => none
  | k + 1, i24 => (if i24 < (l0.length : Int) then (Option.bind (ossuarylaw35_light_R_l1 K l0 i24 K 0) fun z => (cas z (fun v12 => (ossuarylaw35_light_R_l0 K l0 k (w64 (i24 + 1)))) (fun t_ => (some (t_))))) else (some (true)))
def ossuarylaw35_light_R (K : Nat) (l0 : List Api_Row) : Option Bool := (if 60 < (l0.length : Int) then (some (false)) else (ossuarylaw35_light_R_l0 K l0 K 0))

def bits_Mul64 (a0 : Int) (a1 : Int) : (Int × Int) := ((wu64 ((wu64 ((wu64 ((bShr .u64 a0 32) * (bShr .u64 a1 32))) + (bShr .u64 (wu64 ((wu64 ((bShr .u64 a0 32) * (bAnd .u64 a1 4294967295))) + (bShr .u64 (wu64 ((bAnd .u64 a0 4294967295) * (bAnd .u64 a1 4294967295))) 32))) 32))) + (bShr .u64 (wu64 ((bAnd .u64 (wu64 ((wu64 ((bShr .u64 a0 32) * (bAnd .u64 a1 4294967295))) + (bShr .u64 (wu64 ((bAnd .u64 a0 4294967295) * (bAnd .u64 a1 4294967295))) 32))) 4294967295) + (wu64 ((bAnd .u64 a0 4294967295) * (bShr .u64 a1 32))))) 32)), wu64 (a0 * a1)))

def bits_Len64 (a0 : Int) : Option Int := (thn (if 4294967296 ≤ a0 then ((bShr .u64 a0 32, 32)) else ((a0, 0))) fun x4 => (thn (if 65536 ≤ x4.1 then ((bShr .u64 x4.1 16, w64 (x4.2 + 16))) else ((x4.1, x4.2))) fun x5 => (thn (if 256 ≤ x5.1 then ((bShr .u64 x5.1 8, w64 (x5.2 + 8))) else ((x5.1, x5.2))) fun x6 => (if 0 ≤ (wu8 x6.1) then (if (wu8 x6.1) < (([0, 1, 2, 2, 3, 3, 3, 3, 4, 4, 4, 4, 4, 4, 4, 4, 5, 5, 5, 5, 5, 5, 5, 5, 5, 5, 5, 5, 5, 5, 5, 5, 6, 6, 6, 6, 6, 6, 6, 6, 6, 6, 6, 6, 6, 6, 6, 6, 6, 6, 6, 6, 6, 6, 6, 6, 6, 6, 6, 6, 6, 6, 6, 6, 7, 7, 7, 7, 7, 7, 7, 7, 7, 7, 7, 7, 7, 7, 7, 7, 7, 7, 7, 7, 7, 7, 7, 7, 7, 7, 7, 7, 7, 7, 7, 7, 7, 7, 7, 7, 7, 7, 7, 7, 7, 7, 7, 7, 7, 7, 7, 7, 7, 7, 7, 7, 7, 7, 7, 7, 7, 7, 7, 7, 7, 7, 7, 7, 8, 8, 8, 8, 8, 8, 8, 8, 8, 8, 8, 8, 8, 8, 8, 8, 8, 8, 8, 8, 8, 8, 8, 8, 8, 8, 8, 8, 8, 8, 8, 8, 8, 8, 8, 8, 8, 8, 8, 8, 8, 8, 8, 8, 8, 8, 8, 8, 8, 8, 8, 8, 8, 8, 8, 8, 8, 8, 8, 8, 8, 8, 8, 8, 8, 8, 8, 8, 8, 8, 8, 8, 8, 8, 8, 8, 8, 8, 8, 8, 8, 8, 8, 8, 8, 8, 8, 8, 8, 8, 8, 8, 8, 8, 8, 8, 8, 8, 8, 8, 8, 8, 8, 8, 8, 8, 8, 8, 8, 8, 8, 8, 8, 8, 8, 8, 8, 8, 8, 8, 8, 8, 8, 8, 8, 8, 8, 8] : List UInt8).length : Int) then (some (w64 (x6.2 + (w64 ((([0, 1, 2, 2, 3, 3, 3, 3, 4, 4, 4, 4, 4, 4, 4, 4, 5, 5, 5, 5, 5, 5, 5, 5, 5, 5, 5, 5, 5, 5, 5, 5, 6, 6, 6, 6, 6, 6, 6, 6, 6, 6, 6, 6, 6, 6, 6, 6, 6, 6, 6, 6, 6, 6, 6, 6, 6, 6, 6, 6, 6, 6, 6, 6, 7, 7, 7, 7, 7, 7, 7, 7, 7, 7, 7, 7, 7, 7, 7, 7, 7, 7, 7, 7, 7, 7, 7, 7, 7, 7, 7, 7, 7, 7, 7, 7, 7, 7, 7, 7, 7, 7, 7, 7, 7, 7, 7, 7, 7, 7, 7, 7, 7, 7, 7, 7, 7, 7, 7, 7, 7, 7, 7, 7, 7, 7, 7, 7, 8, 8, 8, 8, 8, 8, 8, 8, 8, 8, 8, 8, 8, 8, 8, 8, 8, 8, 8, 8, 8, 8, 8, 8, 8, 8, 8, 8, 8, 8, 8, 8, 8, 8, 8, 8, 8, 8, 8, 8, 8, 8, 8, 8, 8, 8, 8, 8, 8, 8, 8, 8, 8, 8, 8, 8, 8, 8, 8, 8, 8, 8, 8, 8, 8, 8, 8, 8, 8, 8, 8, 8, 8, 8, 8, 8, 8, 8, 8, 8, 8, 8, 8, 8, 8, 8, 8, 8, 8, 8, 8, 8, 8, 8, 8, 8, 8, 8, 8, 8, 8, 8, 8, 8, 8, 8, 8, 8, 8, 8, 8, 8, 8, 8, 8, 8, 8, 8, 8, 8, 8, 8, 8, 8, 8, 8, 8, 8] : List UInt8).getD (wu8 x6.1).toNat 0).toNat : Int))))) else none) else none))))

def bits_LeadingZeros64 (a0 : Int) : Option Int := ((bits_Len64 a0).bind fun x2 => (some (w64 (64 - x2))))

def bits_Div64_l0 (K : Nat) : Nat → Int → Int → Int → Int → Int → Int → Int → Int → Int → Option (Int × Int × Int × Int × Int × Int × Int × Int)
  | 0, _, _, _, _, _, _, _, _, _ => none
  | k + 1, i96, i97, i98, i99, i100, i101, i102, i103, i104 => (thn (if 4294967296 ≤ i103 then (Sum.inl ()) else (if (wu64 ((wu64 (4294967296 * i104)) + i101)) < (wu64 (i103 * i99)) then (Sum.inl ()) else (Sum.inr ((i103, i96, i97, i98, i99, i100, i101, i102))))) fun z => (cas z (fun v18 => (if 4294967296 ≤ (wu64 (i104 + i98)) then (some ((wu64 (i103 - 1), i96, i97, i98, i99, i100, i101, i102))) else (bits_Div64_l0 K k i96 i97 i98 i99 i100 i101 i102 (wu64 (i103 - 1)) (wu64 (i104 + i98))))) (fun t_ => (some (t_)))))
def bits_Div64_l1 (K : Nat) (x20 : (Int × Int × Int × Int × Int × Int × Int × Int)) : Nat → Int → Int → Int → Option (Int × Int)
  | 0, _, _, _ => none
  | k + 1, i116, i117, i118 => (thn (if 4294967296 ≤ i117 then (Sum.inl ()) else (if (wu64 ((wu64 (4294967296 * i118)) + x20.2.2.2.2.2.2.2)) < (wu64 (i117 * x20.2.2.2.2.1)) then (Sum.inl ()) else (Sum.inr ((i117, i116))))) fun z => (cas z (fun v24 => (if 4294967296 ≤ (wu64 (i118 + x20.2.2.2.1)) then (some ((wu64 (i117 - 1), i116))) else (bits_Div64_l1 K x20 k i116 (wu64 (i117 - 1)) (wu64 (i118 + x20.2.2.2.1))))) (fun t_ => (some (t_)))))
def bits_Div64 (K : Nat) (a0 : Int) (a1 : Int) (a2 : Int) : Option (Int × Int) := (if a2 = 0 then none else (if a2 ≤ a0 then none else (if a0 = 0 then (some ((wu64 (Int.tdiv a1 a2), Int.tmod a1 a2))) else ((bits_LeadingZeros64 a2).bind fun x16 => (if 0 ≤ (wu64 x16) then (if 0 ≤ (wu64 (64 - (wu64 x16))) then (if (bShr .u64 (bShl .u64 a2 (wu64 x16)) 32) = 0 then none else (Option.bind (bits_Div64_l0 K K (bShl .u64 a2 (wu64 x16)) (wu64 x16) (bShr .u64 (bShl .u64 a2 (wu64 x16)) 32) (bAnd .u64 (bShl .u64 a2 (wu64 x16)) 4294967295) (bOr .u64 (bShl .u64 a0 (wu64 x16)) (bShr .u64 a1 (wu64 (64 - (wu64 x16))))) (bShr .u64 (bShl .u64 a1 (wu64 x16)) 32) (bAnd .u64 (bShl .u64 a1 (wu64 x16)) 4294967295) (wu64 (Int.tdiv (bOr .u64 (bShl .u64 a0 (wu64 x16)) (bShr .u64 a1 (wu64 (64 - (wu64 x16))))) (bShr .u64 (bShl .u64 a2 (wu64 x16)) 32))) (wu64 ((bOr .u64 (bShl .u64 a0 (wu64 x16)) (bShr .u64 a1 (wu64 (64 - (wu64 x16))))) - (wu64 ((wu64 (Int.tdiv (bOr .u64 (bShl .u64 a0 (wu64 x16)) (bShr .u64 a1 (wu64 (64 - (wu64 x16))))) (bShr .u64 (bShl .u64 a2 (wu64 x16)) 32))) * (bShr .u64 (bShl .u64 a2 (wu64 x16)) 32)))))) fun x20 => (if x20.2.2.2.1 = 0 then none else (Option.bind (bits_Div64_l1 K x20 K (wu64 ((wu64 ((wu64 (x20.2.2.2.2.2.1 * 4294967296)) + x20.2.2.2.2.2.2.1)) - (wu64 (x20.1 * x20.2.1)))) (wu64 (Int.tdiv (wu64 ((wu64 ((wu64 (x20.2.2.2.2.2.1 * 4294967296)) + x20.2.2.2.2.2.2.1)) - (wu64 (x20.1 * x20.2.1)))) x20.2.2.2.1)) (wu64 ((wu64 ((wu64 ((wu64 (x20.2.2.2.2.2.1 * 4294967296)) + x20.2.2.2.2.2.2.1)) - (wu64 (x20.1 * x20.2.1)))) - (wu64 ((wu64 (Int.tdiv (wu64 ((wu64 ((wu64 (x20.2.2.2.2.2.1 * 4294967296)) + x20.2.2.2.2.2.2.1)) - (wu64 (x20.1 * x20.2.1)))) x20.2.2.2.1)) * x20.2.2.2.1))))) fun x27 => (if 0 ≤ x20.2.2.1 then (some ((wu64 ((wu64 (x20.1 * 4294967296)) + x27.1), bShr .u64 (wu64 ((wu64 ((wu64 (x27.2 * 4294967296)) + x20.2.2.2.2.2.2.2)) - (wu64 (x27.1 * x20.2.1)))) x20.2.2.1))) else none))))) else none) else none)))))

def stat_Shares_R_l0 (K : Nat) (l0 : List Api_Row) : Nat → Int → Int → Option (Sum Int (Bool × (List Int)))
  | 0, _, _ => none
  | k + 1, i11, i12 => (if i12 < (l0.length : Int) then (if 0 ≤ i12 then (if (((l0.getD i12.toNat z_Api_Row).Cell).Sum) < 0 then (some (Sum.inr ((false, ([] : List Int))))) else (if 4611686018427387904 < (wu64 (i11 + (wu64 (((l0.getD i12.toNat z_Api_Row).Cell).Sum)))) then (some (Sum.inr ((false, ([] : List Int))))) else (stat_Shares_R_l0 K l0 k (wu64 (i11 + (wu64 (((l0.getD i12.toNat z_Api_Row).Cell).Sum)))) (w64 (i12 + 1))))) else none) else (some (Sum.inl i11)))
def stat_Shares_R_l1 (K : Nat) (l0 : List Api_Row) (v2 : Int) : Nat → Int → (List Int) → Option (Bool × (List Int))
  | 0, _, _ => none
  | k + 1, i14, l5 => (if i14 < (l0.length : Int) then (if 0 ≤ i14 then (thn (bits_Mul64 (wu64 (((l0.getD i14.toNat z_Api_Row).Cell).Sum)) 10000) fun x49 => ((bits_Div64 K x49.1 x49.2 v2).bind fun x50 => (if (l5.length + [w64 x50.1].length) * 8 ≤ 140737488355328 then (stat_Shares_R_l1 K l0 v2 k (w64 (i14 + 1)) (l5 ++ [w64 x50.1])) else none))) else none) else (some ((true, l5))))
def stat_Shares_R (K : Nat) (l0 : List Api_Row) : Option (Bool × (List Int)) := (Option.bind (stat_Shares_R_l0 K l0 K 0 0) fun z => (cas z (fun v2 => (if v2 = 0 then (some ((false, ([] : List Int)))) else (stat_Shares_R_l1 K l0 v2 K 0 ([] : List Int)))) (fun t_ => (some (t_)))))

def ossuarylaw35_alive (K : Nat) : Option Bool := ((stat_Shares_R K [(⟨(⟨0, ([] : List UInt8), ([] : List UInt8), ([] : List UInt8), ([] : List UInt8)⟩ : Api_Key), (⟨0, 1, 0, 0⟩ : Api_Cell)⟩ : Api_Row), (⟨(⟨0, ([] : List UInt8), ([] : List UInt8), ([] : List UInt8), ([] : List UInt8)⟩ : Api_Key), (⟨0, 3, 0, 0⟩ : Api_Cell)⟩ : Api_Row)]).bind fun x2 => (if x2.1 = true then (if (x2.2.length : Int) = 2 then (if 0 < (x2.2.length : Int) then (if (x2.2.getD ((0 : Int).toNat) 0) = 2500 then (if 1 < (x2.2.length : Int) then (some (((x2.2.getD ((1 : Int).toNat) 0) == 7500))) else none) else (some (false))) else none) else (some (false))) else (some (false))))

def ossuaryref05_Right (a0_0 : Int) (a0_1 : Int) (a0_2 : Int) (a0_3 : Int) : Bool := (if a0_0 = 0 then (((a0_0 == 0) && ((a0_1 == 0) && ((a0_2 == 0) && ((a0_3 == 0) && true))))) else (if 0 < a0_0 then (if a0_2 ≤ a0_3 then (if 1 < a0_0 then (true) else (if a0_1 = a0_2 then ((a0_1 == a0_3)) else (false))) else (false)) else (false)))

def ossuaryref09_Compare_l0 (K : Nat) (a0_1 : List UInt8) (a0_2 : List UInt8) (a0_3 : List UInt8) (a0_4 : List UInt8) (a1_1 : List UInt8) (a1_2 : List UInt8) (a1_3 : List UInt8) (a1_4 : List UInt8) : Nat → Int → Option Int
  | 0, _ => none
  | k + 1, i5 => (if i5 < 4 then (if 0 ≤ i5 then (if i5 < (4 : Int) then (if ([a0_1, a0_2, a0_3, a0_4].getD i5.toNat []) < ([a1_1, a1_2, a1_3, a1_4].getD i5.toNat []) then (some ((-1))) else (if ([a1_1, a1_2, a1_3, a1_4].getD i5.toNat []) < ([a0_1, a0_2, a0_3, a0_4].getD i5.toNat []) then (some (1)) else (ossuaryref09_Compare_l0 K a0_1 a0_2 a0_3 a0_4 a1_1 a1_2 a1_3 a1_4 k (w64 (i5 + 1))))) else none) else none) else (some (0)))
def ossuaryref09_Compare (K : Nat) (a0_0 : Int) (a0_1 : List UInt8) (a0_2 : List UInt8) (a0_3 : List UInt8) (a0_4 : List UInt8) (a1_0 : Int) (a1_1 : List UInt8) (a1_2 : List UInt8) (a1_3 : List UInt8) (a1_4 : List UInt8) : Option Int := (if ¬ (a0_0 = a1_0) then (if a0_0 < a1_0 then (some ((-1))) else (some (1))) else (ossuaryref09_Compare_l0 K a0_1 a0_2 a0_3 a0_4 a1_1 a1_2 a1_3 a1_4 K 0))

def ossuaryref11_Right_R_l0 (K : Nat) (l0 : List Api_Row) : Nat → Int → Option Bool
  | 0, _ => none
  | k + 1, i4 => (if i4 < (l0.length : Int) then (if 0 < i4 then (if 0 ≤ (w64 (i4 - 1)) then (if (w64 (i4 - 1)) < (l0.length : Int) then (if 0 ≤ i4 then ((ossuaryref09_Compare K (((l0.getD ((w64 (i4 - 1)).toNat) z_Api_Row).Key).Hour) (((l0.getD ((w64 (i4 - 1)).toNat) z_Api_Row).Key).Dims_0) (((l0.getD ((w64 (i4 - 1)).toNat) z_Api_Row).Key).Dims_1) (((l0.getD ((w64 (i4 - 1)).toNat) z_Api_Row).Key).Dims_2) (((l0.getD ((w64 (i4 - 1)).toNat) z_Api_Row).Key).Dims_3) (((l0.getD i4.toNat z_Api_Row).Key).Hour) (((l0.getD i4.toNat z_Api_Row).Key).Dims_0) (((l0.getD i4.toNat z_Api_Row).Key).Dims_1) (((l0.getD i4.toNat z_Api_Row).Key).Dims_2) (((l0.getD i4.toNat z_Api_Row).Key).Dims_3)).bind fun x54 => (if 0 ≤ x54 then (some (false)) else (if (((l0.getD i4.toNat z_Api_Row).Cell).Count) < 1 then (some (false)) else (thn (ossuaryref05_Right (((l0.getD i4.toNat z_Api_Row).Cell).Count) (((l0.getD i4.toNat z_Api_Row).Cell).Sum) (((l0.getD i4.toNat z_Api_Row).Cell).Min) (((l0.getD i4.toNat z_Api_Row).Cell).Max)) fun x55 => (if (!x55) = true then (some (false)) else (ossuaryref11_Right_R_l0 K l0 k (w64 (i4 + 1)))))))) else none) else none) else none) else (if 0 ≤ i4 then (if (((l0.getD i4.toNat z_Api_Row).Cell).Count) < 1 then (some (false)) else (thn (ossuaryref05_Right (((l0.getD i4.toNat z_Api_Row).Cell).Count) (((l0.getD i4.toNat z_Api_Row).Cell).Sum) (((l0.getD i4.toNat z_Api_Row).Cell).Min) (((l0.getD i4.toNat z_Api_Row).Cell).Max)) fun x56 => (if (!x56) = true then (some (false)) else (ossuaryref11_Right_R_l0 K l0 k (w64 (i4 + 1)))))) else none)) else (some (true)))
def ossuaryref11_Right_R (K : Nat) (l0 : List Api_Row) : Option Bool := (ossuaryref11_Right_R_l0 K l0 K 0)

def stat_Buckets_R_l0 (K : Nat) (l0 : List Int) : Nat → Int → (Nat → Int) → Option (Nat → Int)
  | 0, _, _ => none
  | k + 1, i4, j4 => (if i4 < (l0.length : Int) then (if 0 ≤ i4 then ((bits_Len64 (wu64 (w64 ((bXor .i64 (l0.getD i4.toNat 0) (bShr .i64 (l0.getD i4.toNat 0) 63)) - (bShr .i64 (l0.getD i4.toNat 0) 63))))).bind fun x24 => (if 0 ≤ x24 then (if x24 < (65 : Int) then (stat_Buckets_R_l0 K l0 k (w64 (i4 + 1)) (updF j4 x24.toNat (w64 ((j4 x24.toNat) + 1)))) else none) else none)) else none) else (some (j4)))
def stat_Buckets_R (K : Nat) (l0 : List Int) : Option (Nat → Int) := (stat_Buckets_R_l0 K l0 K 0 (fun _ => 0))

def omap_New__string__int : Unit := (())

def slices_Insert____omap_pair__string___int__omap_pair__string___int (l0 : List Omap_pair__string___int) (a1 : Int) (l1 : List Omap_pair__string___int) : Option (List Omap_pair__string___int) := insL 24 l0 a1 l1

def omap_Map__string___int_place_1_O (a0 : Int) (l0 : List Omap_pair__string___int) (p2_0 : List UInt8) : Option Bool := (if 0 ≤ a0 then (if a0 < (l0.length : Int) then (some (decide (p2_0 ≤ ((l0.getD a0.toNat z_Omap_pair__string___int).k)))) else none) else none)

def sort_Search_O_l0 (K : Nat) (l0 : List Omap_pair__string___int) (p2_0 : List UInt8) : Nat → Int → Int → Option Int
  | 0, _, _ => none
  | k + 1, i7, i8 => (if i7 < i8 then ((omap_Map__string___int_place_1_O (w64 (bShr .u64 (wu64 (w64 (i7 + i8))) 1)) l0 p2_0).bind fun x12 => (if (!x12) = true then (sort_Search_O_l0 K l0 p2_0 k (w64 ((w64 (bShr .u64 (wu64 (w64 (i7 + i8))) 1)) + 1)) i8) else (sort_Search_O_l0 K l0 p2_0 k i7 (w64 (bShr .u64 (wu64 (w64 (i7 + i8))) 1))))) else (some (i7)))
def sort_Search_O (K : Nat) (a0 : Int) (l0 : List Omap_pair__string___int) (p2_0 : List UInt8) : Option Int := (sort_Search_O_l0 K l0 p2_0 K 0 a0)

def omap_Map__string___int_place_O (K : Nat) (l0 : List Omap_pair__string___int) (a1 : List UInt8) : Option (Bool × Int) := ((sort_Search_O K (l0.length : Int) l0 a1).bind fun x2 => (if x2 < (l0.length : Int) then (if 0 ≤ x2 then (some (((((l0.getD x2.toNat z_Omap_pair__string___int).k) == a1), x2))) else none) else (some ((false, x2)))))

def omap_Map__string___int_Put_O (K : Nat) (l0 : List Omap_pair__string___int) (a1 : List UInt8) (a2 : Int) : Option (Bool × (List Omap_pair__string___int)) := ((omap_Map__string___int_place_O K l0 a1).bind fun x3 => (if x3.1 = true then (if 0 ≤ x3.2 then (if x3.2 < (l0.length : Int) then (some ((false, (l0.set x3.2.toNat (⟨(l0.getD x3.2.toNat z_Omap_pair__string___int).k, a2⟩ : Omap_pair__string___int))))) else none) else none) else ((slices_Insert____omap_pair__string___int__omap_pair__string___int l0 x3.2 [(⟨a1, a2⟩ : Omap_pair__string___int)]).bind fun x4 => (some ((true, x4))))))

def omap_each__string__int_R (l0 : List Omap_pair__string___int) : Unit := (())

def omap_Map__string___int_All_O (l0 : List Omap_pair__string___int) : Unit := (thn (omap_each__string__int_R l0) fun u2 => (()))

def omap_each__string__int_1_YR_l0 (K : Nat) (Gm0 : Type) (y0 : (List UInt8) → Int → Gm0 → Option (Gm0 × Bool)) (l0 : List Omap_pair__string___int) : Nat → Int → Gm0 → Option Gm0
  | 0, _, _ => none
  | k + 1, i2, l3 => (if i2 < (l0.length : Int) then (if 0 ≤ i2 then ((y0 ((l0.getD i2.toNat z_Omap_pair__string___int).k) ((l0.getD i2.toNat z_Omap_pair__string___int).v) l3).bind fun x12 => (if (!x12.2) = true then (some (x12.1)) else (omap_each__string__int_1_YR_l0 K Gm0 y0 l0 k (w64 (i2 + 1)) x12.1))) else none) else (some (l3)))
def omap_each__string__int_1_YR (K : Nat) (Gm0 : Type) (y0 : (List UInt8) → Int → Gm0 → Option (Gm0 × Bool)) (x0y : Gm0) (l0 : List Omap_pair__string___int) : Option Gm0 := (omap_each__string__int_1_YR_l0 K Gm0 y0 l0 K 0 x0y)

def dict_Of__string_R_l0 (K : Nat) (l0 : List (List UInt8)) : Nat → Int → (List Omap_pair__string___int) → Option (List Omap_pair__string___int)
  | 0, _, _ => none
  | k + 1, i6, l13 => (if i6 < (l0.length : Int) then (if 0 ≤ i6 then ((omap_Map__string___int_Put_O K l13 (l0.getD i6.toNat []) 0).bind fun x41 => (dict_Of__string_R_l0 K l0 k (w64 (i6 + 1)) x41.2)) else none) else (some (l13)))
def dict_Of__string_R_r1 (K : Nat) (t0_ : List UInt8) (t1_ : Int) (z4 : List (List UInt8)) : Option ((List (List UInt8)) × Bool) := (if (z4.length + [t0_].length) * 16 ≤ 140737488355328 then (some (((z4 ++ [t0_]), true))) else none)
def dict_Of__string_R_l2 (K : Nat) (x43 : List (List UInt8)) : Nat → Int → (List Omap_pair__string___int) → Option ((List (List UInt8)) × (List Omap_pair__string___int))
  | 0, _, _ => none
  | k + 1, i8, l18 => (if i8 < (x43.length : Int) then (if 0 ≤ i8 then ((omap_Map__string___int_Put_O K l18 (x43.getD i8.toNat []) i8).bind fun x56 => (dict_Of__string_R_l2 K x43 k (w64 (i8 + 1)) x56.2)) else none) else (some ((x43, l18))))
def dict_Of__string_R (K : Nat) (l0 : List (List UInt8)) : Option ((List (List UInt8)) × (List Omap_pair__string___int)) := (thn (omap_New__string__int) fun u4 => (Option.bind (dict_Of__string_R_l0 K l0 K 0 ([] : List Omap_pair__string___int)) fun x35 => (Option.bind (thn (omap_Map__string___int_All_O x35) fun u6 => ((omap_each__string__int_1_YR K (List (List UInt8)) (dict_Of__string_R_r1 K) ([] : List (List UInt8)) x35).bind fun x44 => (some (x44)))) fun x43 => (dict_Of__string_R_l2 K x43 K 0 x35))))

def stat_texts_R_l0 (K : Nat) (l0 : List Api_Row) (a1 : Int) : Nat → Int → (List (List UInt8)) → Option ((List (List UInt8)) × (List Omap_pair__string___int))
  | 0, _, _ => none
  | k + 1, i4, l6 => (if i4 < (l0.length : Int) then (if 0 ≤ i4 then (if 0 ≤ a1 then (if a1 < (4 : Int) then (if (l6.length + [([((l0.getD i4.toNat z_Api_Row).Key).Dims_0, ((l0.getD i4.toNat z_Api_Row).Key).Dims_1, ((l0.getD i4.toNat z_Api_Row).Key).Dims_2, ((l0.getD i4.toNat z_Api_Row).Key).Dims_3].getD a1.toNat [])].length) * 16 ≤ 140737488355328 then (stat_texts_R_l0 K l0 a1 k (w64 (i4 + 1)) (l6 ++ [([((l0.getD i4.toNat z_Api_Row).Key).Dims_0, ((l0.getD i4.toNat z_Api_Row).Key).Dims_1, ((l0.getD i4.toNat z_Api_Row).Key).Dims_2, ((l0.getD i4.toNat z_Api_Row).Key).Dims_3].getD a1.toNat [])])) else none) else none) else none) else none) else ((dict_Of__string_R K l6).bind fun x2 => (some ((x2.1, x2.2)))))
def stat_texts_R (K : Nat) (l0 : List Api_Row) (a1 : Int) : Option ((List (List UInt8)) × (List Omap_pair__string___int)) := (stat_texts_R_l0 K l0 a1 K 0 ([] : List (List UInt8)))

def dict_Dict__string_Len_OO (l0 : List (List UInt8)) (l1 : List Omap_pair__string___int) : Int := ((l0.length : Int))

def dict_Dict__string_At_OO (l0 : List (List UInt8)) (l1 : List Omap_pair__string___int) (a1 : Int) : Option ((List UInt8) × Bool) := (if a1 < 0 then (some ((([] : List UInt8), false))) else (if (l0.length : Int) ≤ a1 then (some ((([] : List UInt8), false))) else (if 0 ≤ a1 then (if a1 < (l0.length : Int) then (some (((l0.getD a1.toNat []), true))) else none) else none)))

def stat_all_OO_l0 (K : Nat) (l0 : List (List UInt8)) (l1 : List Omap_pair__string___int) (x22 : Int) : Nat → Int → (List (List UInt8)) → Option (List (List UInt8))
  | 0, _, _ => none
  | k + 1, i4, l6 => (if i4 < x22 then ((dict_Dict__string_At_OO l0 l1 i4).bind fun x28 => (if (l6.length + [x28.1].length) * 16 ≤ 140737488355328 then (stat_all_OO_l0 K l0 l1 x22 k (w64 (i4 + 1)) (l6 ++ [x28.1])) else none)) else (some (l6)))
def stat_all_OO (K : Nat) (l0 : List (List UInt8)) (l1 : List Omap_pair__string___int) : Option (List (List UInt8)) := (thn (dict_Dict__string_Len_OO l0 l1) fun x22 => (stat_all_OO_l0 K l0 l1 x22 K 0 ([] : List (List UInt8))))

def omap_Map__string___int_Get_O (K : Nat) (l0 : List Omap_pair__string___int) (a1 : List UInt8) : Option (Int × Bool) := ((omap_Map__string___int_place_O K l0 a1).bind fun x2 => (if (!x2.1) = true then (some ((0, false))) else (if 0 ≤ x2.2 then (if x2.2 < (l0.length : Int) then (some (((l0.getD x2.2.toNat z_Omap_pair__string___int).v, true))) else none) else none)))

def dict_Dict__string_Code_OO (K : Nat) (l0 : List (List UInt8)) (l1 : List Omap_pair__string___int) (a1 : List UInt8) : Option (Int × Bool) := ((omap_Map__string___int_Get_O K l1 a1).bind fun x2 => (some ((x2.1, x2.2))))

def cell_plus (a0 : Int) (a1 : Int) : (Int × Bool) := ((w64 (a0 + a1), ((bShr .i64 (bAnd .i64 (bXor .i64 a0 (w64 (a0 + a1))) (bXor .i64 a1 (w64 (a0 + a1)))) 63) == 0)))

def cell_Merge (a0_0 : Int) (a0_1 : Int) (a0_2 : Int) (a0_3 : Int) (a1_0 : Int) (a1_1 : Int) (a1_2 : Int) (a1_3 : Int) : (Int × Int × Int × Int × Bool) := (if a0_0 = 0 then ((a1_0, a1_1, a1_2, a1_3, true)) else (if a1_0 = 0 then ((a0_0, a0_1, a0_2, a0_3, true)) else (thn (cell_plus a0_0 a1_0) fun x3 => (thn (cell_plus a0_1 a1_1) fun x4 => (if (!x3.2) = true then ((0, 0, 0, 0, false)) else (if (!x4.2) = true then ((0, 0, 0, 0, false)) else ((x3.1, x4.1, mn a0_2 a1_2, mx a0_3 a1_3, true))))))))

def stat_Pivot_R_l0 (K : Nat) (x58 : ((List (List UInt8)) × (List Omap_pair__string___int))) (x69 : Int) : Nat → Int → (List (List Api_Cell)) → Option (List (List Api_Cell))
  | 0, _, _ => none
  | k + 1, i7, l11 => (if i7 < x69 then (thn (dict_Dict__string_Len_OO x58.1 x58.2) fun x75 => (if 0 ≤ x75 then (if ((32 : Nat) : Int) * x75 ≤ 281474976710656 then (if (l11.length + 1) * 24 ≤ 140737488355328 then (stat_Pivot_R_l0 K x58 x69 k (w64 (i7 + 1)) (l11 ++ [(List.replicate x75.toNat (⟨0, 0, 0, 0⟩ : Api_Cell))])) else none) else none) else none)) else (some (l11)))
def stat_Pivot_R_l1 (K : Nat) (l0 : List Api_Row) (a1 : Int) (a2 : Int) (x57 : ((List (List UInt8)) × (List Omap_pair__string___int))) (x58 : ((List (List UInt8)) × (List Omap_pair__string___int))) (x59 : List (List UInt8)) (x60 : List (List UInt8)) : Nat → Int → (List (List Api_Cell)) → Option (Int × (List (List UInt8)) × (List (List UInt8)) × (List (List Api_Cell)))
  | 0, _, _ => none
  | k + 1, i9, l13 => (if i9 < (l0.length : Int) then (if 0 ≤ i9 then (if 0 ≤ a1 then (if a1 < (4 : Int) then ((dict_Dict__string_Code_OO K x57.1 x57.2 ([((l0.getD i9.toNat z_Api_Row).Key).Dims_0, ((l0.getD i9.toNat z_Api_Row).Key).Dims_1, ((l0.getD i9.toNat z_Api_Row).Key).Dims_2, ((l0.getD i9.toNat z_Api_Row).Key).Dims_3].getD a1.toNat [])).bind fun x109 => (if 0 ≤ a2 then (if a2 < (4 : Int) then ((dict_Dict__string_Code_OO K x58.1 x58.2 ([((l0.getD i9.toNat z_Api_Row).Key).Dims_0, ((l0.getD i9.toNat z_Api_Row).Key).Dims_1, ((l0.getD i9.toNat z_Api_Row).Key).Dims_2, ((l0.getD i9.toNat z_Api_Row).Key).Dims_3].getD a2.toNat [])).bind fun x110 => (if 0 ≤ x109.1 then (if x109.1 < (l13.length : Int) then (if 0 ≤ x110.1 then (if x110.1 < ((l13.getD x109.1.toNat []).length : Int) then (thn (cell_Merge (((l13.getD x109.1.toNat []).getD x110.1.toNat z_Api_Cell).Count) (((l13.getD x109.1.toNat []).getD x110.1.toNat z_Api_Cell).Sum) (((l13.getD x109.1.toNat []).getD x110.1.toNat z_Api_Cell).Min) (((l13.getD x109.1.toNat []).getD x110.1.toNat z_Api_Cell).Max) (((l0.getD i9.toNat z_Api_Row).Cell).Count) (((l0.getD i9.toNat z_Api_Row).Cell).Sum) (((l0.getD i9.toNat z_Api_Row).Cell).Min) (((l0.getD i9.toNat z_Api_Row).Cell).Max)) fun x111 => (if (!x111.2.2.2.2) = true then (some ((6, ([] : List (List UInt8)), ([] : List (List UInt8)), ([] : List (List Api_Cell))))) else (stat_Pivot_R_l1 K l0 a1 a2 x57 x58 x59 x60 k (w64 (i9 + 1)) (l13.set x109.1.toNat ((l13.getD x109.1.toNat []).set x110.1.toNat (⟨x111.1, x111.2.1, x111.2.2.1, x111.2.2.2.1⟩ : Api_Cell)))))) else none) else none) else none) else none)) else none) else none)) else none) else none) else none) else (some ((0, x59, x60, l13))))
def stat_Pivot_R (K : Nat) (l0 : List Api_Row) (a1 : Int) (a2 : Int) : Option (Int × (List (List UInt8)) × (List (List UInt8)) × (List (List Api_Cell))) := (if a1 < 0 then (some ((1, ([] : List (List UInt8)), ([] : List (List UInt8)), ([] : List (List Api_Cell))))) else (if 4 ≤ a1 then (some ((1, ([] : List (List UInt8)), ([] : List (List UInt8)), ([] : List (List Api_Cell))))) else (if a2 < 0 then (some ((1, ([] : List (List UInt8)), ([] : List (List UInt8)), ([] : List (List Api_Cell))))) else (if 4 ≤ a2 then (some ((1, ([] : List (List UInt8)), ([] : List (List UInt8)), ([] : List (List Api_Cell))))) else (if a1 = a2 then (some ((1, ([] : List (List UInt8)), ([] : List (List UInt8)), ([] : List (List Api_Cell))))) else ((stat_texts_R K l0 a1).bind fun x57 => ((stat_texts_R K l0 a2).bind fun x58 => ((stat_all_OO K x57.1 x57.2).bind fun x59 => ((stat_all_OO K x58.1 x58.2).bind fun x60 => (Option.bind (thn (dict_Dict__string_Len_OO x57.1 x57.2) fun x69 => (stat_Pivot_R_l0 K x58 x69 K 0 ([] : List (List Api_Cell)))) fun x68 => (stat_Pivot_R_l1 K l0 a1 a2 x57 x58 x59 x60 K 0 x68)))))))))))

def ossuarylaw35_StatSums_l0 (K : Nat) (x40 : (Bool × (List Int))) : Nat → Int → Int → Option (Sum Int Bool)
  | 0, _, _ => none
  | k + 1, i54, i55 => (if i55 < (x40.2.length : Int) then (if 0 ≤ i55 then (if (x40.2.getD i55.toNat 0) < 0 then (some (Sum.inr (false))) else (ossuarylaw35_StatSums_l0 K x40 k (w64 (i54 + (x40.2.getD i55.toNat 0))) (w64 (i55 + 1)))) else none) else (some (Sum.inl i54)))
def ossuarylaw35_StatSums_l1 (K : Nat) (x43 : Nat → Int) : Nat → Int → Int → Option Int
  | 0, _, _ => none
  | k + 1, i59, i60 => (if i60 < 65 then (if 0 ≤ i60 then (if i60 < (65 : Int) then (ossuarylaw35_StatSums_l1 K x43 k (w64 (i59 + (x43 i60.toNat))) (w64 (i60 + 1))) else none) else none) else (some (i59)))
def ossuarylaw35_StatSums_l3 (K : Nat) (x45 : (Int × (List (List UInt8)) × (List (List UInt8)) × (List (List Api_Cell)))) (i85 : Int) : Nat → Int → Int → Option Int
  | 0, _, _ => none
  | k + 1, i94, i95 => (if 0 ≤ i85 then (if i95 < ((x45.2.2.2.getD i85.toNat []).length : Int) then (if 0 ≤ i95 then (ossuarylaw35_StatSums_l3 K x45 i85 k (w64 (i94 + (((x45.2.2.2.getD i85.toNat []).getD i95.toNat z_Api_Cell).Count))) (w64 (i95 + 1))) else none) else (some (i94))) else none)
def ossuarylaw35_StatSums_l2 (K : Nat) (x45 : (Int × (List (List UInt8)) × (List (List UInt8)) × (List (List Api_Cell)))) : Nat → Int → Int → Option Int
  | 0, _, _ => none
  | k + 1, i84, i85 => (if i85 < (x45.2.2.2.length : Int) then (Option.bind (ossuarylaw35_StatSums_l3 K x45 i85 K i84 0) fun x56 => (ossuarylaw35_StatSums_l2 K x45 k x56 (w64 (i85 + 1)))) else (some (i84)))
def ossuarylaw35_StatSums_l4 (K : Nat) (l0 : List Api_Row) : Nat → Int → Int → Option Int
  | 0, _, _ => none
  | k + 1, i99, i100 => (if i100 < (l0.length : Int) then (if 0 ≤ i100 then (ossuarylaw35_StatSums_l4 K l0 k (w64 (i99 + (((l0.getD i100.toNat z_Api_Row).Cell).Count))) (w64 (i100 + 1))) else none) else (some (i99)))
def ossuarylaw35_StatSums (K : Nat) (l0 : List Api_Row) (l1 : List Int) : Option Bool := ((ossuarylaw35_light_R K l0).bind fun x35 => (if (!x35) = true then ((ossuarylaw35_alive K).bind fun x36 => (some (x36))) else (if 100 < (l1.length : Int) then ((ossuarylaw35_alive K).bind fun x37 => (some (x37))) else ((ossuaryref11_Right_R K l0).bind fun x38 => (if (!x38) = true then ((ossuarylaw35_alive K).bind fun x39 => (some (x39))) else ((stat_Shares_R K l0).bind fun x40 => (Option.bind (ossuarylaw35_StatSums_l0 K x40 K 0 0) fun z => (cas z (fun v3 => (thn (if x40.1 = true then (if 10000 < v3 then (Sum.inr (false)) else (if v3 < (w64 (10000 - (l0.length : Int))) then (Sum.inr (false)) else (if (!x40.1) = true then (if ¬ ((x40.2.length : Int) = 0) then (Sum.inr (false)) else (Sum.inl ())) else (Sum.inl ())))) else (if (!x40.1) = true then (if ¬ ((x40.2.length : Int) = 0) then (Sum.inr (false)) else (Sum.inl ())) else (Sum.inl ()))) fun z => (cas z (fun v4 => ((stat_Buckets_R K l1).bind fun x43 => (Option.bind (ossuarylaw35_StatSums_l1 K x43 K 0 0) fun x44 => ((stat_Pivot_R K l0 0 1).bind fun x45 => (if ¬ (x45.1 = 0) then (if x45.1 = 6 then (if x44 = (l1.length : Int) then ((ossuarylaw35_alive K).bind fun x48 => (some (x48))) else (some (false))) else (some (false))) else (if ¬ (x44 = (l1.length : Int)) then (if x45.1 = 6 then (if x44 = (l1.length : Int) then ((ossuarylaw35_alive K).bind fun x49 => (some (x49))) else (some (false))) else (some (false))) else (Option.bind (ossuarylaw35_StatSums_l2 K x45 K 0 0) fun x53 => (Option.bind (ossuarylaw35_StatSums_l4 K l0 K 0 0) fun x57 => (if x53 = x57 then ((ossuarylaw35_alive K).bind fun x58 => (some (x58))) else (some (false))))))))))) (fun t_ => (some (t_)))))) (fun t_ => (some (t_)))))))))))

end Go.Proofs.Ytndeodpckfjakaa.StatSums
