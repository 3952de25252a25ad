/- Printed by gen.py: the plain functions that MemNils comes to. -/
import Derived.Test.YtndjnimnemhbkaaEArith
set_option linter.unusedVariables false
namespace Go.Proofs.Ytndjnimnemhbkaa.MemNils
open Go E

structure Api_Key where
  Hour : Int
  Dims_0 : List UInt8
  Dims_1 : List UInt8
  Dims_2 : List UInt8
  Dims_3 : List UInt8
  deriving DecidableEq
def z_Api_Key : Api_Key := ⟨0, [], [], [], []⟩
/-- What an input of this kind keeps to. -/
def ok_Api_Key (x : Api_Key) : Prop := inI .i64 x.Hour ∧ x.Dims_0.length ≤ 140737488351232 ∧ x.Dims_1.length ≤ 140737488351232 ∧ x.Dims_2.length ≤ 140737488351232 ∧ x.Dims_3.length ≤ 140737488351232
structure Api_Fact where
  Key : Api_Key
  Value : Int
  deriving DecidableEq
def z_Api_Fact : Api_Fact := ⟨z_Api_Key, 0⟩
/-- What an input of this kind keeps to. -/
def ok_Api_Fact (x : Api_Fact) : Prop := ok_Api_Key x.Key ∧ inI .i64 x.Value
structure Wal_Batch where
  Seq : Int
  Tick : Int
  Budget : Int
  Facts : List Api_Fact
  deriving DecidableEq
def z_Wal_Batch : Wal_Batch := ⟨0, 0, 0, []⟩
def ossuarylaw17_Own_N (a0_0 : Int) (a0_1 : Int) (a0_2 : Int) : (Int × Int × Int) := ((a0_0, a0_1, a0_2))

def mem_Mem_Add_ZN (a1_0 : Int) (a1_1 : Int) (a1_2 : Int) : Int := (1)

def mem_Mem_batches_Z : Unit := (())

def wal_Facts_N_l0 (K : Nat) : Nat → Option Unit
  | 0 => none
  | k + 1 => (some (()))
def wal_Facts_N (K : Nat) (a1 : Int) (a2 : Int) : Option Unit := (wal_Facts_N_l0 K K)

def mem_Mem_Facts_Z (K : Nat) (a1 : Int) (a2 : Int) : Option Unit := (thn (mem_Mem_batches_Z) fun u3 => ((wal_Facts_N K a1 a2).bind fun u4 => (some (()))))

def slices_Sort_____int64__int64 : Unit := ()

def slices_Compact_____int64__int64 : Unit := ()

def fact_Hours_N_l0 (K : Nat) : Nat → Option Unit
  | 0 => none
  | k + 1 => (some (()))
def fact_Hours_N (K : Nat) : Option Unit := (Option.bind (fact_Hours_N_l0 K K) fun x2 => (thn (slices_Sort_____int64__int64) fun u3 => (thn (slices_Compact_____int64__int64) fun u4 => (some (())))))

def mem_Mem_Hours_Z (K : Nat) : Option Unit := ((mem_Mem_Facts_Z K 0 4611686018427387904).bind fun u3 => ((fact_Hours_N K).bind fun u4 => (some (()))))

def mem_Mem_Has_Z (K : Nat) (a1 : Int) (a2 : Int) : Option Bool := ((mem_Mem_Facts_Z K a1 a2).bind fun u2 => (some (false)))

def mem_Mem_cut_Z_l0 (K : Nat) : Nat → Option Unit
  | 0 => none
  | k + 1 => (some (()))
def mem_Mem_cut_Z (K : Nat) (p0_0 : Int) (p1_0 : Int) : Option Int := (Option.bind (thn (mem_Mem_batches_Z) fun u4 => (mem_Mem_cut_Z_l0 K K)) fun x2 => (some (0)))

def mem_Mem_Drop_Z (K : Nat) (a1 : Int) (a2 : Int) : Option Int := ((mem_Mem_cut_Z K a1 a2).bind fun x2 => (some (x2)))

def mem_Mem_Batches_Z_l0 (K : Nat) : Nat → Option Unit
  | 0 => none
  | k + 1 => (some (()))
def mem_Mem_Batches_Z (K : Nat) : Option Unit := (thn (mem_Mem_batches_Z) fun u4 => (mem_Mem_Batches_Z_l0 K K))

def mem_Mem_Bytes_Z : Int := (0)

def mem_Mem_cut_ZZ_l0 (K : Nat) : Nat → Option Unit
  | 0 => none
  | k + 1 => (some (()))
def mem_Mem_cut_ZZ (K : Nat) (p1_0 : Int) : Option Int := (Option.bind (thn (mem_Mem_batches_Z) fun u4 => (mem_Mem_cut_ZZ_l0 K K)) fun x2 => (some (0)))

def mem_Mem_Skip_ZZ (K : Nat) (a2 : Int) : Option Int := ((mem_Mem_cut_ZZ K a2).bind fun x2 => (some (x2)))

def mem_Mem_Copy_Z : Unit := (())

def mem_New : (Int × Int × Int) := ((1, 0, 0))

def ossuarylaw17_Own_O (a0_0 : Int) (a0_1 : Int) (a0_2 : Int) (l0 : List Api_Fact) : (Int × Int × Int) := ((a0_0, a0_1, a0_2))

def fact_many (a0 : Int) : Bool := (if 1 ≤ a0 then (decide (a0 ≤ 4)) else (false))

def fact_Check_l0 (K : Nat) (a0_1 : List UInt8) (a0_2 : List UInt8) (a0_3 : List UInt8) (a0_4 : List UInt8) (a1 : Int) : Nat → Int → Option Int
  | 0, _ => none
  | k + 1, i5 => (if i5 < 4 then (if 0 ≤ i5 then (if i5 < (4 : Int) then (if 16 < (([a0_1, a0_2, a0_3, a0_4].getD i5.toNat []).length : Int) then (some (4)) else (if a1 ≤ i5 then (if ¬ (([a0_1, a0_2, a0_3, a0_4].getD i5.toNat []) = ([] : List UInt8)) then (some (4)) else (fact_Check_l0 K a0_1 a0_2 a0_3 a0_4 a1 k (w64 (i5 + 1)))) else (fact_Check_l0 K a0_1 a0_2 a0_3 a0_4 a1 k (w64 (i5 + 1))))) else none) else none) else (some (0)))
def fact_Check (K : Nat) (a0_0 : Int) (a0_1 : List UInt8) (a0_2 : List UInt8) (a0_3 : List UInt8) (a0_4 : List UInt8) (a0_5 : Int) (a1 : Int) : Option Int := (thn (fact_many a1) fun x4 => (if (!x4) = true then (some (1)) else (if a0_0 < 0 then (some (2)) else (if 16777216 < a0_0 then (some (2)) else (if 1152921504606846976 < a0_5 then (some (2)) else (if a0_5 < (-1152921504606846976) then (some (2)) else (fact_Check_l0 K a0_1 a0_2 a0_3 a0_4 a1 K 0)))))))

def fact_All_R_l0 (K : Nat) (l0 : List Api_Fact) (a1 : Int) : Nat → Int → Option (Int × Int)
  | 0, _ => none
  | k + 1, i6 => (if i6 < (l0.length : Int) then (if 0 ≤ i6 then ((fact_Check K (((l0.getD i6.toNat z_Api_Fact).Key).Hour) (((l0.getD i6.toNat z_Api_Fact).Key).Dims_0) (((l0.getD i6.toNat z_Api_Fact).Key).Dims_1) (((l0.getD i6.toNat z_Api_Fact).Key).Dims_2) (((l0.getD i6.toNat z_Api_Fact).Key).Dims_3) ((l0.getD i6.toNat z_Api_Fact).Value) a1).bind fun x28 => (if ¬ (x28 = 0) then (some ((x28, i6))) else (fact_All_R_l0 K l0 a1 k (w64 (i6 + 1))))) else none) else (some ((0, 0))))
def fact_All_R (K : Nat) (l0 : List Api_Fact) (a1 : Int) : Option (Int × Int) := (thn (fact_many a1) fun x16 => (if (!x16) = true then (some ((1, 0))) else (if (l0.length : Int) = 0 then (some ((1, 0))) else (if 50 < (l0.length : Int) then (some ((1, 0))) else (fact_All_R_l0 K l0 a1 K 0)))))

def wal_numbers (a0 : Int) (a1 : Int) (a2 : Int) : Bool := (if 1 ≤ a0 then (if a0 ≤ 4611686018427387904 then (if a1 ≤ 1006633020 then (decide (a2 ≤ 4611686018427387904)) else (false)) else (false)) else (false))

def wal_Right_O (K : Nat) (a0_0 : Int) (a0_1 : Int) (a0_2 : Int) (l0 : List Api_Fact) (a1 : Int) : Option Bool := ((fact_All_R K l0 a1).bind fun x3 => (if x3.1 = 0 then (thn (wal_numbers (wu64 a0_0) (wu64 a0_1) (wu64 a0_2)) fun x4 => (some (x4))) else (some (false))))

def slices_Clone____api_Fact__api_Fact_R (l0 : List Api_Fact) : Option (List Api_Fact) := (if 0 < l0.length then (if (([] : List Api_Fact).length + l0.length) * 80 ≤ 140737488355328 then (some ((([] : List Api_Fact) ++ l0))) else none) else (if (([] : List Api_Fact).length + ([] : List Api_Fact).length) * 80 ≤ 140737488355328 then (some ((([] : List Api_Fact) ++ ([] : List Api_Fact)))) else none))

def mem_Mem_Add_NO (K : Nat) (p0_0 : Int) (p0_2 : Int) (a1_0 : Int) (a1_1 : Int) (a1_2 : Int) (l0 : List Api_Fact) : Option (Int × (List Wal_Batch) × Int) := ((wal_Right_O K a1_0 a1_1 a1_2 l0 p0_0).bind fun x5 => (if (!x5) = true then (some ((1, ([] : List Wal_Batch), p0_2))) else (if a1_0 ≤ p0_2 then (some ((12, ([] : List Wal_Batch), p0_2))) else ((slices_Clone____api_Fact__api_Fact_R l0).bind fun x6 => (if (([] : List Wal_Batch).length + 1) * 48 ≤ 140737488355328 then (some ((0, (([] : List Wal_Batch) ++ [(⟨a1_0, a1_1, a1_2, x6⟩ : Wal_Batch)]), a1_0))) else none)))))

def mem_Mem_batches_O (p0_0 : Int) (l0 : List Wal_Batch) (p0_2 : Int) : Unit := (())

def wal_Facts_O_l1 (K : Nat) (l0 : List Wal_Batch) (a1 : Int) (a2 : Int) (i24 : Int) : Nat → Int → (List Api_Fact) → Option (List Api_Fact)
  | 0, _, _ => none
  | k + 1, i28, l41 => (if i28 < (((l0.getD i24.toNat z_Wal_Batch).Facts).length : Int) then (if 0 ≤ i28 then (if a1 ≤ (((((l0.getD i24.toNat z_Wal_Batch).Facts).getD i28.toNat z_Api_Fact).Key).Hour) then (if (((((l0.getD i24.toNat z_Wal_Batch).Facts).getD i28.toNat z_Api_Fact).Key).Hour) < a2 then (if (l41.length + [(⟨(⟨((((l0.getD i24.toNat z_Wal_Batch).Facts).getD i28.toNat z_Api_Fact).Key).Hour, ((((l0.getD i24.toNat z_Wal_Batch).Facts).getD i28.toNat z_Api_Fact).Key).Dims_0, ((((l0.getD i24.toNat z_Wal_Batch).Facts).getD i28.toNat z_Api_Fact).Key).Dims_1, ((((l0.getD i24.toNat z_Wal_Batch).Facts).getD i28.toNat z_Api_Fact).Key).Dims_2, ((((l0.getD i24.toNat z_Wal_Batch).Facts).getD i28.toNat z_Api_Fact).Key).Dims_3⟩ : Api_Key), (((l0.getD i24.toNat z_Wal_Batch).Facts).getD i28.toNat z_Api_Fact).Value⟩ : Api_Fact)].length) * 80 ≤ 140737488355328 then (wal_Facts_O_l1 K l0 a1 a2 i24 k (w64 (i28 + 1)) (l41 ++ [(⟨(⟨((((l0.getD i24.toNat z_Wal_Batch).Facts).getD i28.toNat z_Api_Fact).Key).Hour, ((((l0.getD i24.toNat z_Wal_Batch).Facts).getD i28.toNat z_Api_Fact).Key).Dims_0, ((((l0.getD i24.toNat z_Wal_Batch).Facts).getD i28.toNat z_Api_Fact).Key).Dims_1, ((((l0.getD i24.toNat z_Wal_Batch).Facts).getD i28.toNat z_Api_Fact).Key).Dims_2, ((((l0.getD i24.toNat z_Wal_Batch).Facts).getD i28.toNat z_Api_Fact).Key).Dims_3⟩ : Api_Key), (((l0.getD i24.toNat z_Wal_Batch).Facts).getD i28.toNat z_Api_Fact).Value⟩ : Api_Fact)])) else none) else (wal_Facts_O_l1 K l0 a1 a2 i24 k (w64 (i28 + 1)) l41)) else (wal_Facts_O_l1 K l0 a1 a2 i24 k (w64 (i28 + 1)) l41)) else none) else (some (l41)))
def wal_Facts_O_l0 (K : Nat) (l0 : List Wal_Batch) (a1 : Int) (a2 : Int) : Nat → Int → (List Api_Fact) → Option (List Api_Fact)
  | 0, _, _ => none
  | k + 1, i24, l35 => (if i24 < (l0.length : Int) then (Option.bind (if 0 ≤ i24 then (wal_Facts_O_l1 K l0 a1 a2 i24 K 0 l35) else none) fun x12 => (wal_Facts_O_l0 K l0 a1 a2 k (w64 (i24 + 1)) x12)) else (some (l35)))
def wal_Facts_O (K : Nat) (l0 : List Wal_Batch) (a1 : Int) (a2 : Int) : Option (List Api_Fact) := (wal_Facts_O_l0 K l0 a1 a2 K 0 ([] : List Api_Fact))

def mem_Mem_Facts_O (K : Nat) (p0_0 : Int) (l0 : List Wal_Batch) (p0_2 : Int) (a1 : Int) (a2 : Int) : Option (List Api_Fact) := (thn (mem_Mem_batches_O p0_0 l0 p0_2) fun u2 => ((wal_Facts_O K l0 a1 a2).bind fun x2 => (some (x2))))

def slices_Sort_____int64__int64_2 (l0 : List Int) : Option (List Int) := if l0.length ≤ 17592186044416 then some (sortI l0) else none

def slices_Compact_____int64__int64_2 (l0 : List Int) : Option (List Int) := if l0.length ≤ 17592186044416 then some (compactI l0) else none

def fact_Hours_R_l0 (K : Nat) (l0 : List Api_Fact) : Nat → Int → (List Int) → Option (List Int)
  | 0, _, _ => none
  | k + 1, i4, l7 => (if i4 < (l0.length : Int) then (if 0 ≤ i4 then (if (l7.length + [((l0.getD i4.toNat z_Api_Fact).Key).Hour].length) * 8 ≤ 140737488355328 then (fact_Hours_R_l0 K l0 k (w64 (i4 + 1)) (l7 ++ [((l0.getD i4.toNat z_Api_Fact).Key).Hour])) else none) else none) else (some (l7)))
def fact_Hours_R (K : Nat) (l0 : List Api_Fact) : Option (List Int) := (Option.bind (fact_Hours_R_l0 K l0 K 0 ([] : List Int)) fun x4 => ((slices_Sort_____int64__int64_2 x4).bind fun x5 => ((slices_Compact_____int64__int64_2 x5).bind fun x6 => (some (x6)))))

def mem_Mem_Hours_O (K : Nat) (p0_0 : Int) (l0 : List Wal_Batch) (p0_2 : Int) : Option (List Int) := ((mem_Mem_Facts_O K p0_0 l0 p0_2 0 4611686018427387904).bind fun x3 => ((fact_Hours_R K x3).bind fun x4 => (some (x4))))

def mem_Mem_Drop_1 (a0 : Int) (a1_0 : Int) (a1_1 : List UInt8) (a1_2 : List UInt8) (a1_3 : List UInt8) (a1_4 : List UInt8) (a1_5 : Int) (p0_0 : Int) (p1_0 : Int) : Bool := (if p0_0 ≤ a1_0 then (decide (a1_0 < p1_0)) else (false))

def mem_Mem_cut_1_R (a0_0 : Int) (a0_1 : List UInt8) (a0_2 : List UInt8) (a0_3 : List UInt8) (a0_4 : List UInt8) (a0_5 : Int) (p1_0 : Int) (p2_0 : Int) (p3_0 : Int) (p3_1 : Int) (p3_2 : Int) (l0 : List Api_Fact) : Bool := (thn (mem_Mem_Drop_1 p3_0 a0_0 a0_1 a0_2 a0_3 a0_4 a0_5 p1_0 p2_0) fun x2 => (x2))

def slices_IndexFunc____api_Fact__api_Fact_RR_l0 (K : Nat) (l0 : List Api_Fact) (p1_0 : Int) (p2_0 : Int) (p3_0 : Int) (p3_1 : Int) (p3_2 : Int) (l1 : List Api_Fact) : Nat → Int → Option Int
  | 0, _ => none
  | k + 1, i5 => (if i5 < (l0.length : Int) then (if 0 ≤ i5 then (thn (mem_Mem_cut_1_R (((l0.getD i5.toNat z_Api_Fact).Key).Hour) (((l0.getD i5.toNat z_Api_Fact).Key).Dims_0) (((l0.getD i5.toNat z_Api_Fact).Key).Dims_1) (((l0.getD i5.toNat z_Api_Fact).Key).Dims_2) (((l0.getD i5.toNat z_Api_Fact).Key).Dims_3) ((l0.getD i5.toNat z_Api_Fact).Value) p1_0 p2_0 p3_0 p3_1 p3_2 l1) fun x24 => (if x24 = true then (some (i5)) else (slices_IndexFunc____api_Fact__api_Fact_RR_l0 K l0 p1_0 p2_0 p3_0 p3_1 p3_2 l1 k (w64 (i5 + 1))))) else none) else (some ((-1))))
def slices_IndexFunc____api_Fact__api_Fact_RR (K : Nat) (l0 : List Api_Fact) (p1_0 : Int) (p2_0 : Int) (p3_0 : Int) (p3_1 : Int) (p3_2 : Int) (l1 : List Api_Fact) : Option Int := (slices_IndexFunc____api_Fact__api_Fact_RR_l0 K l0 p1_0 p2_0 p3_0 p3_1 p3_2 l1 K 0)

def slices_DeleteFunc____api_Fact__api_Fact_OR_l0 (K : Nat) (p1_0 : Int) (p2_0 : Int) (p3_0 : Int) (p3_1 : Int) (p3_2 : Int) (l1 : List Api_Fact) : Nat → Int → Int → (List Api_Fact) → Option ((List Api_Fact) × Int)
  | 0, _, _, _ => none
  | k + 1, i9, i10, l8 => (if i10 < (l8.length : Int) then (if 0 ≤ i10 then (thn (mem_Mem_cut_1_R (((l8.getD i10.toNat z_Api_Fact).Key).Hour) (((l8.getD i10.toNat z_Api_Fact).Key).Dims_0) (((l8.getD i10.toNat z_Api_Fact).Key).Dims_1) (((l8.getD i10.toNat z_Api_Fact).Key).Dims_2) (((l8.getD i10.toNat z_Api_Fact).Key).Dims_3) ((l8.getD i10.toNat z_Api_Fact).Value) p1_0 p2_0 p3_0 p3_1 p3_2 l1) fun x28 => (if (!x28) = true then (if 0 ≤ i9 then (if i9 < (l8.length : Int) then (slices_DeleteFunc____api_Fact__api_Fact_OR_l0 K p1_0 p2_0 p3_0 p3_1 p3_2 l1 k (w64 (i9 + 1)) (w64 (i10 + 1)) (l8.set i9.toNat (⟨(⟨((l8.getD i10.toNat z_Api_Fact).Key).Hour, ((l8.getD i10.toNat z_Api_Fact).Key).Dims_0, ((l8.getD i10.toNat z_Api_Fact).Key).Dims_1, ((l8.getD i10.toNat z_Api_Fact).Key).Dims_2, ((l8.getD i10.toNat z_Api_Fact).Key).Dims_3⟩ : Api_Key), (l8.getD i10.toNat z_Api_Fact).Value⟩ : Api_Fact))) else none) else none) else (slices_DeleteFunc____api_Fact__api_Fact_OR_l0 K p1_0 p2_0 p3_0 p3_1 p3_2 l1 k i9 (w64 (i10 + 1)) l8))) else none) else (some ((l8, i9))))
def slices_DeleteFunc____api_Fact__api_Fact_OR (K : Nat) (l0 : List Api_Fact) (p1_0 : Int) (p2_0 : Int) (p3_0 : Int) (p3_1 : Int) (p3_2 : Int) (l1 : List Api_Fact) : Option (List Api_Fact) := ((slices_IndexFunc____api_Fact__api_Fact_RR K l0 p1_0 p2_0 p3_0 p3_1 p3_2 l1).bind fun x15 => (if x15 = (-1) then (some (l0)) else (Option.bind (slices_DeleteFunc____api_Fact__api_Fact_OR_l0 K p1_0 p2_0 p3_0 p3_1 p3_2 l1 K x15 (w64 (x15 + 1)) l0) fun x22 => (if 0 ≤ x22.2 then (if x22.2 ≤ (x22.1.length : Int) then (if x22.2 ≤ ((x22.1.take x22.2.toNat ++ List.replicate (x22.1.length - x22.2.toNat) z_Api_Fact).length : Int) then (some (((x22.1.take x22.2.toNat ++ List.replicate (x22.1.length - x22.2.toNat) z_Api_Fact).take x22.2.toNat))) else none) else none) else none))))

def mem_Mem_cut_O_l0 (K : Nat) (l0 : List Wal_Batch) (p1_0 : Int) (p2_0 : Int) : Nat → Int → Int → (List Wal_Batch) → Option ((List Wal_Batch) × Int)
  | 0, _, _, _ => none
  | k + 1, i9, i10, l7 => (if i10 < (l0.length : Int) then (if 0 ≤ i10 then ((slices_Clone____api_Fact__api_Fact_R ((l0.getD i10.toNat z_Wal_Batch).Facts)).bind fun x49 => ((slices_DeleteFunc____api_Fact__api_Fact_OR K x49 p1_0 p2_0 ((l0.getD i10.toNat z_Wal_Batch).Seq) ((l0.getD i10.toNat z_Wal_Batch).Tick) ((l0.getD i10.toNat z_Wal_Batch).Budget) ((l0.getD i10.toNat z_Wal_Batch).Facts)).bind fun x50 => (if 0 < (x50.length : Int) then (if (l7.length + 1) * 48 ≤ 140737488355328 then (mem_Mem_cut_O_l0 K l0 p1_0 p2_0 k (w64 (i9 + (w64 ((((l0.getD i10.toNat z_Wal_Batch).Facts).length : Int) - (x50.length : Int))))) (w64 (i10 + 1)) (l7 ++ [(⟨(l0.getD i10.toNat z_Wal_Batch).Seq, (l0.getD i10.toNat z_Wal_Batch).Tick, (l0.getD i10.toNat z_Wal_Batch).Budget, x50⟩ : Wal_Batch)])) else none) else (mem_Mem_cut_O_l0 K l0 p1_0 p2_0 k (w64 (i9 + (w64 ((((l0.getD i10.toNat z_Wal_Batch).Facts).length : Int) - (x50.length : Int))))) (w64 (i10 + 1)) l7)))) else none) else (some ((l7, i9))))
def mem_Mem_cut_O (K : Nat) (p0_0 : Int) (l0 : List Wal_Batch) (p0_2 : Int) (p1_0 : Int) (p2_0 : Int) : Option ((List Wal_Batch) × Int) := (Option.bind (thn (mem_Mem_batches_O p0_0 l0 p0_2) fun u4 => (mem_Mem_cut_O_l0 K l0 p1_0 p2_0 K 0 0 ([] : List Wal_Batch))) fun x38 => (some ((x38.1, x38.2))))

def mem_Mem_Drop_O (K : Nat) (p0_0 : Int) (l0 : List Wal_Batch) (p0_2 : Int) (a1 : Int) (a2 : Int) : Option ((List Wal_Batch) × Int) := ((mem_Mem_cut_O K p0_0 l0 p0_2 a1 a2).bind fun x2 => (some ((x2.1, x2.2))))

def mem_Mem_Has_O (K : Nat) (p0_0 : Int) (l0 : List Wal_Batch) (p0_2 : Int) (a1 : Int) (a2 : Int) : Option Bool := ((mem_Mem_Facts_O K p0_0 l0 p0_2 a1 a2).bind fun x2 => (some (decide (0 < (x2.length : Int)))))

def ossuarylaw22_alive (K : Nat) : Option Bool := (thn (mem_New) fun x8 => (thn (ossuarylaw17_Own_O 1 0 0 [(⟨(⟨3, ([] : List UInt8), ([] : List UInt8), ([] : List UInt8), ([] : List UInt8)⟩ : Api_Key), 0⟩ : Api_Fact), (⟨(⟨5, ([] : List UInt8), ([] : List UInt8), ([] : List UInt8), ([] : List UInt8)⟩ : Api_Key), 0⟩ : Api_Fact)]) fun x9 => ((mem_Mem_Add_NO K x8.1 x8.2.1 x9.1 x9.2.1 x9.2.2 [(⟨(⟨3, ([] : List UInt8), ([] : List UInt8), ([] : List UInt8), ([] : List UInt8)⟩ : Api_Key), 0⟩ : Api_Fact), (⟨(⟨5, ([] : List UInt8), ([] : List UInt8), ([] : List UInt8), ([] : List UInt8)⟩ : Api_Key), 0⟩ : Api_Fact)]).bind fun x10 => ((mem_Mem_Hours_O K x8.1 x10.2.1 x10.2.2).bind fun x11 => ((mem_Mem_Drop_O K x8.1 x10.2.1 x10.2.2 0 4).bind fun x12 => (if x8.2.2 = 0 then (if x10.1 = 0 then (if (x11.length : Int) = 2 then (if 0 < (x11.length : Int) then (if (x11.getD ((0 : Int).toNat) 0) = 3 then (if 1 < (x11.length : Int) then (if (x11.getD ((1 : Int).toNat) 0) = 5 then (if x12.2 = 1 then ((mem_Mem_Has_O K x8.1 x12.1 x10.2.2 5 6).bind fun x13 => (if x13 = true then ((mem_Mem_Has_O K x8.1 x12.1 x10.2.2 3 4).bind fun x14 => (some ((!x14)))) else (some (false)))) else (some (false))) else (some (false))) else none) else (some (false))) else none) else (some (false))) else (some (false))) else (some (false))))))))

def ossuarylaw22_MemNils (K : Nat) (a0 : Int) (a1 : Int) : Option Bool := (thn (ossuarylaw17_Own_N 0 0 0) fun x8 => (thn (mem_Mem_Add_ZN x8.1 x8.2.1 x8.2.2) fun x9 => (if x9 = 1 then ((mem_Mem_Hours_Z K).bind fun u5 => ((mem_Mem_Has_Z K a0 a1).bind fun x10 => (if (!x10) = true then ((mem_Mem_Facts_Z K a0 a1).bind fun u6 => ((mem_Mem_Drop_Z K a0 a1).bind fun x11 => (if x11 = 0 then ((mem_Mem_Batches_Z K).bind fun u7 => (thn (mem_Mem_Bytes_Z) fun x12 => (if x12 = 0 then ((mem_Mem_Skip_ZZ K a0).bind fun x13 => (if x13 = 0 then (thn (mem_Mem_Copy_Z) fun u8 => ((ossuarylaw22_alive K).bind fun x14 => (some (x14)))) else (some (false)))) else (some (false))))) else (some (false))))) else (some (false))))) else (some (false)))))

end Go.Proofs.Ytndjnimnemhbkaa.MemNils
