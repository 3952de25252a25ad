/- Printed by gen.py: the plain functions that MemOnce comes to. -/
import Derived.Test.YtndeodpckfjakaaEArith
set_option linter.unusedVariables false
namespace Go.Proofs.Ytndeodpckfjakaa.MemOnce
open Go E

structure Api_Key where
  Hour : Int
  Dims_0 : List UInt8
  Dims_1 : List UInt8
  Dims_2 : List UInt8
  Dims_3 : List UInt8
  deriving DecidableEq
def z_Api_Key : Api_Key := ⟨0, [], [], [], []⟩
/-- What an input of this kind keeps to. -/
def ok_Api_Key (x : Api_Key) : Prop := inI .i64 x.Hour ∧ x.Dims_0.length ≤ 140737488351232 ∧ x.Dims_1.length ≤ 140737488351232 ∧ x.Dims_2.length ≤ 140737488351232 ∧ x.Dims_3.length ≤ 140737488351232
structure Api_Fact where
  Key : Api_Key
  Value : Int
  deriving DecidableEq
def z_Api_Fact : Api_Fact := ⟨z_Api_Key, 0⟩
/-- What an input of this kind keeps to. -/
def ok_Api_Fact (x : Api_Fact) : Prop := ok_Api_Key x.Key ∧ inI .i64 x.Value
structure Ossuaryref17_Batch where
  Seq : Int
  Tick : Int
  Budget : Int
  Facts : Sl Api_Fact
def z_Ossuaryref17_Batch : Ossuaryref17_Batch := ⟨0, 0, 0, ⟨Value.slice none 0 0, []⟩⟩
structure Wal_Batch where
  Seq : Int
  Tick : Int
  Budget : Int
  Facts : List Api_Fact
  deriving DecidableEq
def z_Wal_Batch : Wal_Batch := ⟨0, 0, 0, []⟩
def ossuarylaw09_Light_R_l1 (K : Nat) (l0 : List Api_Fact) (i24 : Int) : Nat → Int → Option (Sum Unit Bool)
  | 0, _ => none
  | k + 1, i28 => (if i28 < 4 then (if 0 ≤ i24 then (if 0 ≤ i28 then (if i28 < (4 : Int) then (if 40 < (([((l0.getD i24.toNat z_Api_Fact).Key).Dims_0, ((l0.getD i24.toNat z_Api_Fact).Key).Dims_1, ((l0.getD i24.toNat z_Api_Fact).Key).Dims_2, ((l0.getD i24.toNat z_Api_Fact).Key).Dims_3].getD i28.toNat []).length : Int) then (some (Sum.inr (false))) else (ossuarylaw09_Light_R_l1 K l0 i24 k (w64 (i28 + 1)))) else none) else none) else none) else (some (Sum.inl ())))
def ossuarylaw09_Light_R_l0 (K : Nat) (l0 : List Api_Fact) : Nat → Int → Option Bool
  | 0, _ => none
  | k + 1, i24 => (if i24 < (l0.length : Int) then (Option.bind (ossuarylaw09_Light_R_l1 K l0 i24 K 0) fun z => (cas z (fun v12 => (ossuarylaw09_Light_R_l0 K l0 k (w64 (i24 + 1)))) (fun t_ => (some (t_))))) else (some (true)))
def ossuarylaw09_Light_R (K : Nat) (l0 : List Api_Fact) : Option Bool := (if 100 < (l0.length : Int) then (some (false)) else (ossuarylaw09_Light_R_l0 K l0 K 0))

def ossuarylaw17_Light_R_l0 (K : Nat) (l0 : List Ossuaryref17_Batch) : Nat → Int → Option Bool
  | 0, _ => none
  | k + 1, i4 => (if i4 < (l0.length : Int) then (if 0 ≤ i4 then ((ossuarylaw09_Light_R K (((l0.getD i4.toNat z_Ossuaryref17_Batch).Facts).xs)).bind fun x24 => (if (!x24) = true then (some (false)) else (ossuarylaw17_Light_R_l0 K l0 k (w64 (i4 + 1))))) else none) else (some (true)))
def ossuarylaw17_Light_R (K : Nat) (l0 : List Ossuaryref17_Batch) : Option Bool := (if 30 < (l0.length : Int) then (some (false)) else (ossuarylaw17_Light_R_l0 K l0 K 0))

def mem_New : (Int × Int × Int) := ((1, 0, 0))

def ossuarylaw17_Own_O (a0_0 : Int) (a0_1 : Int) (a0_2 : Int) (l0 : List Api_Fact) : (Int × Int × Int) := ((a0_0, a0_1, a0_2))

def fact_many (a0 : Int) : Bool := (if 1 ≤ a0 then (decide (a0 ≤ 4)) else (false))

def fact_Check_l0 (K : Nat) (a0_1 : List UInt8) (a0_2 : List UInt8) (a0_3 : List UInt8) (a0_4 : List UInt8) (a1 : Int) : Nat → Int → Option Int
  | 0, _ => none
  | k + 1, i5 => (if i5 < 4 then (if 0 ≤ i5 then (if i5 < (4 : Int) then (if 16 < (([a0_1, a0_2, a0_3, a0_4].getD i5.toNat []).length : Int) then (some (4)) else (if a1 ≤ i5 then (if ¬ (([a0_1, a0_2, a0_3, a0_4].getD i5.toNat []) = ([] : List UInt8)) then (some (4)) else (fact_Check_l0 K a0_1 a0_2 a0_3 a0_4 a1 k (w64 (i5 + 1)))) else (fact_Check_l0 K a0_1 a0_2 a0_3 a0_4 a1 k (w64 (i5 + 1))))) else none) else none) else (some (0)))
def fact_Check (K : Nat) (a0_0 : Int) (a0_1 : List UInt8) (a0_2 : List UInt8) (a0_3 : List UInt8) (a0_4 : List UInt8) (a0_5 : Int) (a1 : Int) : Option Int := (thn (fact_many a1) fun x4 => (if (!x4) = true then (some (1)) else (if a0_0 < 0 then (some (2)) else (if 16777216 < a0_0 then (some (2)) else (if 1152921504606846976 < a0_5 then (some (2)) else (if a0_5 < (-1152921504606846976) then (some (2)) else (fact_Check_l0 K a0_1 a0_2 a0_3 a0_4 a1 K 0)))))))

def fact_All_R_l0 (K : Nat) (l0 : List Api_Fact) (a1 : Int) : Nat → Int → Option (Int × Int)
  | 0, _ => none
  | k + 1, i6 => (if i6 < (l0.length : Int) then (if 0 ≤ i6 then ((fact_Check K (((l0.getD i6.toNat z_Api_Fact).Key).Hour) (((l0.getD i6.toNat z_Api_Fact).Key).Dims_0) (((l0.getD i6.toNat z_Api_Fact).Key).Dims_1) (((l0.getD i6.toNat z_Api_Fact).Key).Dims_2) (((l0.getD i6.toNat z_Api_Fact).Key).Dims_3) ((l0.getD i6.toNat z_Api_Fact).Value) a1).bind fun x28 => (if ¬ (x28 = 0) then (some ((x28, i6))) else (fact_All_R_l0 K l0 a1 k (w64 (i6 + 1))))) else none) else (some ((0, 0))))
def fact_All_R (K : Nat) (l0 : List Api_Fact) (a1 : Int) : Option (Int × Int) := (thn (fact_many a1) fun x16 => (if (!x16) = true then (some ((1, 0))) else (if (l0.length : Int) = 0 then (some ((1, 0))) else (if 50 < (l0.length : Int) then (some ((1, 0))) else (fact_All_R_l0 K l0 a1 K 0)))))

def wal_numbers (a0 : Int) (a1 : Int) (a2 : Int) : Bool := (if 1 ≤ a0 then (if a0 ≤ 4611686018427387904 then (if a1 ≤ 1006633020 then (decide (a2 ≤ 4611686018427387904)) else (false)) else (false)) else (false))

def wal_Right_O (K : Nat) (a0_0 : Int) (a0_1 : Int) (a0_2 : Int) (l0 : List Api_Fact) (a1 : Int) : Option Bool := ((fact_All_R K l0 a1).bind fun x3 => (if x3.1 = 0 then (thn (wal_numbers (wu64 a0_0) (wu64 a0_1) (wu64 a0_2)) fun x4 => (some (x4))) else (some (false))))

def slices_Clone____api_Fact__api_Fact_R (l0 : List Api_Fact) : Option (List Api_Fact) := (if 0 < l0.length then (if (([] : List Api_Fact).length + l0.length) * 80 ≤ 140737488355328 then (some ((([] : List Api_Fact) ++ l0))) else none) else (if (([] : List Api_Fact).length + ([] : List Api_Fact).length) * 80 ≤ 140737488355328 then (some ((([] : List Api_Fact) ++ ([] : List Api_Fact)))) else none))

def mem_Mem_Add_NO (K : Nat) (p0_0 : Int) (p0_2 : Int) (a1_0 : Int) (a1_1 : Int) (a1_2 : Int) (l0 : List Api_Fact) : Option (Int × (List Wal_Batch) × Int) := ((wal_Right_O K a1_0 a1_1 a1_2 l0 p0_0).bind fun x5 => (if (!x5) = true then (some ((1, ([] : List Wal_Batch), p0_2))) else (if a1_0 ≤ p0_2 then (some ((12, ([] : List Wal_Batch), p0_2))) else ((slices_Clone____api_Fact__api_Fact_R l0).bind fun x6 => (if (([] : List Wal_Batch).length + 1) * 48 ≤ 140737488355328 then (some ((0, (([] : List Wal_Batch) ++ [(⟨a1_0, a1_1, a1_2, x6⟩ : Wal_Batch)]), a1_0))) else none)))))

def mem_Mem_batches_O (p0_0 : Int) (l0 : List Wal_Batch) (p0_2 : Int) : Unit := (())

def wal_Facts_O_l1 (K : Nat) (l0 : List Wal_Batch) (a1 : Int) (a2 : Int) (i24 : Int) : Nat → Int → (List Api_Fact) → Option (List Api_Fact)
  | 0, _, _ => none
  | k + 1, i28, l41 => (if i28 < (((l0.getD i24.toNat z_Wal_Batch).Facts).length : Int) then (if 0 ≤ i28 then (if a1 ≤ (((((l0.getD i24.toNat z_Wal_Batch).Facts).getD i28.toNat z_Api_Fact).Key).Hour) then (if (((((l0.getD i24.toNat z_Wal_Batch).Facts).getD i28.toNat z_Api_Fact).Key).Hour) < a2 then (if (l41.length + [(⟨(⟨((((l0.getD i24.toNat z_Wal_Batch).Facts).getD i28.toNat z_Api_Fact).Key).Hour, ((((l0.getD i24.toNat z_Wal_Batch).Facts).getD i28.toNat z_Api_Fact).Key).Dims_0, ((((l0.getD i24.toNat z_Wal_Batch).Facts).getD i28.toNat z_Api_Fact).Key).Dims_1, ((((l0.getD i24.toNat z_Wal_Batch).Facts).getD i28.toNat z_Api_Fact).Key).Dims_2, ((((l0.getD i24.toNat z_Wal_Batch).Facts).getD i28.toNat z_Api_Fact).Key).Dims_3⟩ : Api_Key), (((l0.getD i24.toNat z_Wal_Batch).Facts).getD i28.toNat z_Api_Fact).Value⟩ : Api_Fact)].length) * 80 ≤ 140737488355328 then (wal_Facts_O_l1 K l0 a1 a2 i24 k (w64 (i28 + 1)) (l41 ++ [(⟨(⟨((((l0.getD i24.toNat z_Wal_Batch).Facts).getD i28.toNat z_Api_Fact).Key).Hour, ((((l0.getD i24.toNat z_Wal_Batch).Facts).getD i28.toNat z_Api_Fact).Key).Dims_0, ((((l0.getD i24.toNat z_Wal_Batch).Facts).getD i28.toNat z_Api_Fact).Key).Dims_1, ((((l0.getD i24.toNat z_Wal_Batch).Facts).getD i28.toNat z_Api_Fact).Key).Dims_2, ((((l0.getD i24.toNat z_Wal_Batch).Facts).getD i28.toNat z_Api_Fact).Key).Dims_3⟩ : Api_Key), (((l0.getD i24.toNat z_Wal_Batch).Facts).getD i28.toNat z_Api_Fact).Value⟩ : Api_Fact)])) else none) else (wal_Facts_O_l1 K l0 a1 a2 i24 k (w64 (i28 + 1)) l41)) else (wal_Facts_O_l1 K l0 a1 a2 i24 k (w64 (i28 + 1)) l41)) else none) else (some (l41)))
def wal_Facts_O_l0 (K : Nat) (l0 : List Wal_Batch) (a1 : Int) (a2 : Int) : Nat → Int → (List Api_Fact) → Option (List Api_Fact)
  | 0, _, _ => none
  | k + 1, i24, l35 => (if i24 < (l0.length : Int) then (Option.bind (if 0 ≤ i24 then (wal_Facts_O_l1 K l0 a1 a2 i24 K 0 l35) else none) fun x12 => (wal_Facts_O_l0 K l0 a1 a2 k (w64 (i24 + 1)) x12)) else (some (l35)))
def wal_Facts_O (K : Nat) (l0 : List Wal_Batch) (a1 : Int) (a2 : Int) : Option (List Api_Fact) := (wal_Facts_O_l0 K l0 a1 a2 K 0 ([] : List Api_Fact))

def mem_Mem_Facts_O (K : Nat) (p0_0 : Int) (l0 : List Wal_Batch) (p0_2 : Int) (a1 : Int) (a2 : Int) : Option (List Api_Fact) := (thn (mem_Mem_batches_O p0_0 l0 p0_2) fun u2 => ((wal_Facts_O K l0 a1 a2).bind fun x2 => (some (x2))))

def slices_Sort_____int64__int64 (l0 : List Int) : Option (List Int) := if l0.length ≤ 17592186044416 then some (sortI l0) else none

def slices_Compact_____int64__int64 (l0 : List Int) : Option (List Int) := if l0.length ≤ 17592186044416 then some (compactI l0) else none

def fact_Hours_R_l0 (K : Nat) (l0 : List Api_Fact) : Nat → Int → (List Int) → Option (List Int)
  | 0, _, _ => none
  | k + 1, i4, l7 => (if i4 < (l0.length : Int) then (if 0 ≤ i4 then (if (l7.length + [((l0.getD i4.toNat z_Api_Fact).Key).Hour].length) * 8 ≤ 140737488355328 then (fact_Hours_R_l0 K l0 k (w64 (i4 + 1)) (l7 ++ [((l0.getD i4.toNat z_Api_Fact).Key).Hour])) else none) else none) else (some (l7)))
def fact_Hours_R (K : Nat) (l0 : List Api_Fact) : Option (List Int) := (Option.bind (fact_Hours_R_l0 K l0 K 0 ([] : List Int)) fun x4 => ((slices_Sort_____int64__int64 x4).bind fun x5 => ((slices_Compact_____int64__int64 x5).bind fun x6 => (some (x6)))))

def mem_Mem_Hours_O (K : Nat) (p0_0 : Int) (l0 : List Wal_Batch) (p0_2 : Int) : Option (List Int) := ((mem_Mem_Facts_O K p0_0 l0 p0_2 0 4611686018427387904).bind fun x3 => ((fact_Hours_R K x3).bind fun x4 => (some (x4))))

def mem_Mem_Drop_1 (a0 : Int) (a1_0 : Int) (a1_1 : List UInt8) (a1_2 : List UInt8) (a1_3 : List UInt8) (a1_4 : List UInt8) (a1_5 : Int) (p0_0 : Int) (p1_0 : Int) : Bool := (if p0_0 ≤ a1_0 then (decide (a1_0 < p1_0)) else (false))

def mem_Mem_cut_1_R (a0_0 : Int) (a0_1 : List UInt8) (a0_2 : List UInt8) (a0_3 : List UInt8) (a0_4 : List UInt8) (a0_5 : Int) (p1_0 : Int) (p2_0 : Int) (p3_0 : Int) (p3_1 : Int) (p3_2 : Int) (l0 : List Api_Fact) : Bool := (thn (mem_Mem_Drop_1 p3_0 a0_0 a0_1 a0_2 a0_3 a0_4 a0_5 p1_0 p2_0) fun x2 => (x2))

def slices_IndexFunc____api_Fact__api_Fact_RR_l0 (K : Nat) (l0 : List Api_Fact) (p1_0 : Int) (p2_0 : Int) (p3_0 : Int) (p3_1 : Int) (p3_2 : Int) (l1 : List Api_Fact) : Nat → Int → Option Int
  | 0, _ => none
  | k + 1, i5 => (if i5 < (l0.length : Int) then (if 0 ≤ i5 then (thn (mem_Mem_cut_1_R (((l0.getD i5.toNat z_Api_Fact).Key).Hour) (((l0.getD i5.toNat z_Api_Fact).Key).Dims_0) (((l0.getD i5.toNat z_Api_Fact).Key).Dims_1) (((l0.getD i5.toNat z_Api_Fact).Key).Dims_2) (((l0.getD i5.toNat z_Api_Fact).Key).Dims_3) ((l0.getD i5.toNat z_Api_Fact).Value) p1_0 p2_0 p3_0 p3_1 p3_2 l1) fun x24 => (if x24 = true then (some (i5)) else (slices_IndexFunc____api_Fact__api_Fact_RR_l0 K l0 p1_0 p2_0 p3_0 p3_1 p3_2 l1 k (w64 (i5 + 1))))) else none) else (some ((-1))))
def slices_IndexFunc____api_Fact__api_Fact_RR (K : Nat) (l0 : List Api_Fact) (p1_0 : Int) (p2_0 : Int) (p3_0 : Int) (p3_1 : Int) (p3_2 : Int) (l1 : List Api_Fact) : Option Int := (slices_IndexFunc____api_Fact__api_Fact_RR_l0 K l0 p1_0 p2_0 p3_0 p3_1 p3_2 l1 K 0)

def slices_DeleteFunc____api_Fact__api_Fact_OR_l0 (K : Nat) (p1_0 : Int) (p2_0 : Int) (p3_0 : Int) (p3_1 : Int) (p3_2 : Int) (l1 : List Api_Fact) : Nat → Int → Int → (List Api_Fact) → Option ((List Api_Fact) × Int)
  | 0, _, _, _ => none
  | k + 1, i9, i10, l8 => (if i10 < (l8.length : Int) then (if 0 ≤ i10 then (thn (mem_Mem_cut_1_R (((l8.getD i10.toNat z_Api_Fact).Key).Hour) (((l8.getD i10.toNat z_Api_Fact).Key).Dims_0) (((l8.getD i10.toNat z_Api_Fact).Key).Dims_1) (((l8.getD i10.toNat z_Api_Fact).Key).Dims_2) (((l8.getD i10.toNat z_Api_Fact).Key).Dims_3) ((l8.getD i10.toNat z_Api_Fact).Value) p1_0 p2_0 p3_0 p3_1 p3_2 l1) fun x28 => (if (!x28) = true then (if 0 ≤ i9 then (if i9 < (l8.length : Int) then (slices_DeleteFunc____api_Fact__api_Fact_OR_l0 K p1_0 p2_0 p3_0 p3_1 p3_2 l1 k (w64 (i9 + 1)) (w64 (i10 + 1)) (l8.set i9.toNat (⟨(⟨((l8.getD i10.toNat z_Api_Fact).Key).Hour, ((l8.getD i10.toNat z_Api_Fact).Key).Dims_0, ((l8.getD i10.toNat z_Api_Fact).Key).Dims_1, ((l8.getD i10.toNat z_Api_Fact).Key).Dims_2, ((l8.getD i10.toNat z_Api_Fact).Key).Dims_3⟩ : Api_Key), (l8.getD i10.toNat z_Api_Fact).Value⟩ : Api_Fact))) else none) else none) else (slices_DeleteFunc____api_Fact__api_Fact_OR_l0 K p1_0 p2_0 p3_0 p3_1 p3_2 l1 k i9 (w64 (i10 + 1)) l8))) else none) else (some ((l8, i9))))
def slices_DeleteFunc____api_Fact__api_Fact_OR (K : Nat) (l0 : List Api_Fact) (p1_0 : Int) (p2_0 : Int) (p3_0 : Int) (p3_1 : Int) (p3_2 : Int) (l1 : List Api_Fact) : Option (List Api_Fact) := ((slices_IndexFunc____api_Fact__api_Fact_RR K l0 p1_0 p2_0 p3_0 p3_1 p3_2 l1).bind fun x15 => (if x15 = (-1) then (some (l0)) else (Option.bind (slices_DeleteFunc____api_Fact__api_Fact_OR_l0 K p1_0 p2_0 p3_0 p3_1 p3_2 l1 K x15 (w64 (x15 + 1)) l0) fun x22 => (if 0 ≤ x22.2 then (if x22.2 ≤ (x22.1.length : Int) then (if x22.2 ≤ ((x22.1.take x22.2.toNat ++ List.replicate (x22.1.length - x22.2.toNat) z_Api_Fact).length : Int) then (some (((x22.1.take x22.2.toNat ++ List.replicate (x22.1.length - x22.2.toNat) z_Api_Fact).take x22.2.toNat))) else none) else none) else none))))

def mem_Mem_cut_O_l0 (K : Nat) (l0 : List Wal_Batch) (p1_0 : Int) (p2_0 : Int) : Nat → Int → Int → (List Wal_Batch) → Option ((List Wal_Batch) × Int)
  | 0, _, _, _ => none
  | k + 1, i9, i10, l7 => (if i10 < (l0.length : Int) then (if 0 ≤ i10 then ((slices_Clone____api_Fact__api_Fact_R ((l0.getD i10.toNat z_Wal_Batch).Facts)).bind fun x49 => ((slices_DeleteFunc____api_Fact__api_Fact_OR K x49 p1_0 p2_0 ((l0.getD i10.toNat z_Wal_Batch).Seq) ((l0.getD i10.toNat z_Wal_Batch).Tick) ((l0.getD i10.toNat z_Wal_Batch).Budget) ((l0.getD i10.toNat z_Wal_Batch).Facts)).bind fun x50 => (if 0 < (x50.length : Int) then (if (l7.length + 1) * 48 ≤ 140737488355328 then (mem_Mem_cut_O_l0 K l0 p1_0 p2_0 k (w64 (i9 + (w64 ((((l0.getD i10.toNat z_Wal_Batch).Facts).length : Int) - (x50.length : Int))))) (w64 (i10 + 1)) (l7 ++ [(⟨(l0.getD i10.toNat z_Wal_Batch).Seq, (l0.getD i10.toNat z_Wal_Batch).Tick, (l0.getD i10.toNat z_Wal_Batch).Budget, x50⟩ : Wal_Batch)])) else none) else (mem_Mem_cut_O_l0 K l0 p1_0 p2_0 k (w64 (i9 + (w64 ((((l0.getD i10.toNat z_Wal_Batch).Facts).length : Int) - (x50.length : Int))))) (w64 (i10 + 1)) l7)))) else none) else (some ((l7, i9))))
def mem_Mem_cut_O (K : Nat) (p0_0 : Int) (l0 : List Wal_Batch) (p0_2 : Int) (p1_0 : Int) (p2_0 : Int) : Option ((List Wal_Batch) × Int) := (Option.bind (thn (mem_Mem_batches_O p0_0 l0 p0_2) fun u4 => (mem_Mem_cut_O_l0 K l0 p1_0 p2_0 K 0 0 ([] : List Wal_Batch))) fun x38 => (some ((x38.1, x38.2))))

def mem_Mem_Drop_O (K : Nat) (p0_0 : Int) (l0 : List Wal_Batch) (p0_2 : Int) (a1 : Int) (a2 : Int) : Option ((List Wal_Batch) × Int) := ((mem_Mem_cut_O K p0_0 l0 p0_2 a1 a2).bind fun x2 => (some ((x2.1, x2.2))))

def mem_Mem_Has_O (K : Nat) (p0_0 : Int) (l0 : List Wal_Batch) (p0_2 : Int) (a1 : Int) (a2 : Int) : Option Bool := ((mem_Mem_Facts_O K p0_0 l0 p0_2 a1 a2).bind fun x2 => (some (decide (0 < (x2.length : Int)))))

def ossuarylaw22_alive (K : Nat) : Option Bool := (thn (mem_New) fun x8 => (thn (ossuarylaw17_Own_O 1 0 0 [(⟨(⟨3, ([] : List UInt8), ([] : List UInt8), ([] : List UInt8), ([] : List UInt8)⟩ : Api_Key), 0⟩ : Api_Fact), (⟨(⟨5, ([] : List UInt8), ([] : List UInt8), ([] : List UInt8), ([] : List UInt8)⟩ : Api_Key), 0⟩ : Api_Fact)]) fun x9 => ((mem_Mem_Add_NO K x8.1 x8.2.1 x9.1 x9.2.1 x9.2.2 [(⟨(⟨3, ([] : List UInt8), ([] : List UInt8), ([] : List UInt8), ([] : List UInt8)⟩ : Api_Key), 0⟩ : Api_Fact), (⟨(⟨5, ([] : List UInt8), ([] : List UInt8), ([] : List UInt8), ([] : List UInt8)⟩ : Api_Key), 0⟩ : Api_Fact)]).bind fun x10 => ((mem_Mem_Hours_O K x8.1 x10.2.1 x10.2.2).bind fun x11 => ((mem_Mem_Drop_O K x8.1 x10.2.1 x10.2.2 0 4).bind fun x12 => (if x8.2.2 = 0 then (if x10.1 = 0 then (if (x11.length : Int) = 2 then (if 0 < (x11.length : Int) then (if (x11.getD ((0 : Int).toNat) 0) = 3 then (if 1 < (x11.length : Int) then (if (x11.getD ((1 : Int).toNat) 0) = 5 then (if x12.2 = 1 then ((mem_Mem_Has_O K x8.1 x12.1 x10.2.2 5 6).bind fun x13 => (if x13 = true then ((mem_Mem_Has_O K x8.1 x12.1 x10.2.2 3 4).bind fun x14 => (some ((!x14)))) else (some (false)))) else (some (false))) else (some (false))) else none) else (some (false))) else none) else (some (false))) else (some (false))) else (some (false))))))))

def mem_New_2 : (Int × Int × Int) := ((2, 0, 0))

def ossuarylaw17_Own_R (a0_0 : Int) (a0_1 : Int) (a0_2 : Int) (l0 : List Api_Fact) : (Int × Int × Int) := ((a0_0, a0_1, a0_2))

def wal_Right_R (K : Nat) (a0_0 : Int) (a0_1 : Int) (a0_2 : Int) (l0 : List Api_Fact) (a1 : Int) : Option Bool := ((fact_All_R K l0 a1).bind fun x3 => (if x3.1 = 0 then (thn (wal_numbers (wu64 a0_0) (wu64 a0_1) (wu64 a0_2)) fun x4 => (some (x4))) else (some (false))))

def mem_Mem_Add_OR (K : Nat) (p0_0 : Int) (l0 : List Wal_Batch) (p0_2 : Int) (a1_0 : Int) (a1_1 : Int) (a1_2 : Int) (l1 : List Api_Fact) : Option (Int × (List Wal_Batch) × Int) := ((wal_Right_R K a1_0 a1_1 a1_2 l1 p0_0).bind fun x5 => (if (!x5) = true then (some ((1, l0, p0_2))) else (if a1_0 ≤ p0_2 then (some ((12, l0, p0_2))) else ((slices_Clone____api_Fact__api_Fact_R l1).bind fun x6 => (if (l0.length + 1) * 48 ≤ 140737488355328 then (some ((0, (l0 ++ [(⟨a1_0, a1_1, a1_2, x6⟩ : Wal_Batch)]), a1_0))) else none)))))

def mem_Mem_Batches_O_l0 (K : Nat) (l0 : List Wal_Batch) : Nat → Int → (List Wal_Batch) → Option (List Wal_Batch)
  | 0, _, _ => none
  | k + 1, i4, l5 => (if i4 < (l0.length : Int) then (if 0 ≤ i4 then ((slices_Clone____api_Fact__api_Fact_R ((l0.getD i4.toNat z_Wal_Batch).Facts)).bind fun x24 => (if (l5.length + 1) * 48 ≤ 140737488355328 then (mem_Mem_Batches_O_l0 K l0 k (w64 (i4 + 1)) (l5 ++ [(⟨(l0.getD i4.toNat z_Wal_Batch).Seq, (l0.getD i4.toNat z_Wal_Batch).Tick, (l0.getD i4.toNat z_Wal_Batch).Budget, x24⟩ : Wal_Batch)])) else none)) else none) else (some (l5)))
def mem_Mem_Batches_O (K : Nat) (p0_0 : Int) (l0 : List Wal_Batch) (p0_2 : Int) : Option (List Wal_Batch) := (thn (mem_Mem_batches_O p0_0 l0 p0_2) fun u4 => (mem_Mem_Batches_O_l0 K l0 K 0 ([] : List Wal_Batch)))

def pack_Writer_Num_N_l0 (K : Nat) : Nat → Int → (List Int) → Option ((List Int) × Int)
  | 0, _, _ => none
  | k + 1, i6, l7 => (if 128 ≤ i6 then (if (l7.length + [bOr .u8 (wu8 i6) 128].length) * 1 ≤ 140737488355328 then (pack_Writer_Num_N_l0 K k (bShr .u64 i6 7) (l7 ++ [bOr .u8 (wu8 i6) 128])) else none) else (some ((l7, i6))))
def pack_Writer_Num_N (K : Nat) (a1 : Int) : Option (List Int) := (Option.bind (pack_Writer_Num_N_l0 K K a1 ([] : List Int)) fun x2 => (if (x2.1.length + [wu8 x2.2].length) * 1 ≤ 140737488355328 then (some ((x2.1 ++ [wu8 x2.2]))) else none))

def pack_Writer_Num_O_l0 (K : Nat) : Nat → Int → (List Int) → Option ((List Int) × Int)
  | 0, _, _ => none
  | k + 1, i6, l7 => (if 128 ≤ i6 then (if (l7.length + [bOr .u8 (wu8 i6) 128].length) * 1 ≤ 140737488355328 then (pack_Writer_Num_O_l0 K k (bShr .u64 i6 7) (l7 ++ [bOr .u8 (wu8 i6) 128])) else none) else (some ((l7, i6))))
def pack_Writer_Num_O (K : Nat) (l0 : List Int) (a1 : Int) : Option (List Int) := (Option.bind (pack_Writer_Num_O_l0 K K a1 l0) fun x2 => (if (x2.1.length + [wu8 x2.2].length) * 1 ≤ 140737488355328 then (some ((x2.1 ++ [wu8 x2.2]))) else none))

def pack_Writer_Text_O (K : Nat) (l0 : List Int) (a1 : List UInt8) : Option (List Int) := ((pack_Writer_Num_O K l0 (wu64 (a1.length : Int))).bind fun x4 => (if (x4.length + a1.length) * 1 ≤ 140737488355328 then (some ((x4 ++ byts a1))) else none))

def pack_Writer_Int_O (K : Nat) (l0 : List Int) (a1 : Int) : Option (List Int) := ((pack_Writer_Num_O K l0 (bXor .u64 (wu64 (bShl .i64 a1 1)) (wu64 (bShr .i64 a1 63)))).bind fun x2 => (some (x2)))

def bytes_Clone_R (l0 : List Int) : Option (List Int) := (if 0 < l0.length then (if (([] : List Int).length + l0.length) * 1 ≤ 140737488355328 then (some ((([] : List Int) ++ l0))) else none) else (if (([] : List Int).length + ([] : List Int).length) * 1 ≤ 140737488355328 then (some ((([] : List Int) ++ ([] : List Int)))) else none))

def pack_Writer_Bytes_O (l0 : List Int) : Option (List Int) := ((bytes_Clone_R l0).bind fun x2 => (some (x2)))

def fact_Encode_R_l1 (K : Nat) (l0 : List Api_Fact) (a1 : Int) (i45 : Int) : Nat → Int → (List Int) → Option (List Int)
  | 0, _, _ => none
  | k + 1, i53, l89 => (if i53 < (([((l0.getD i45.toNat z_Api_Fact).Key).Dims_0, ((l0.getD i45.toNat z_Api_Fact).Key).Dims_1, ((l0.getD i45.toNat z_Api_Fact).Key).Dims_2, ((l0.getD i45.toNat z_Api_Fact).Key).Dims_3].take a1.toNat).length : Int) then (if 0 ≤ i53 then ((pack_Writer_Text_O K l89 (([((l0.getD i45.toNat z_Api_Fact).Key).Dims_0, ((l0.getD i45.toNat z_Api_Fact).Key).Dims_1, ((l0.getD i45.toNat z_Api_Fact).Key).Dims_2, ((l0.getD i45.toNat z_Api_Fact).Key).Dims_3].take a1.toNat).getD i53.toNat [])).bind fun x378 => (fact_Encode_R_l1 K l0 a1 i45 k (w64 (i53 + 1)) x378)) else none) else (some (l89)))
def fact_Encode_R_l0 (K : Nat) (l0 : List Api_Fact) (a1 : Int) : Nat → Int → (List Int) → Option (Int × (List Int))
  | 0, _, _ => none
  | k + 1, i45, l75 => (if i45 < (l0.length : Int) then (Option.bind (if 0 ≤ i45 then ((pack_Writer_Num_O K l75 (wu64 (((l0.getD i45.toNat z_Api_Fact).Key).Hour))).bind fun x365 => (Option.bind (if 0 ≤ a1 then (if a1 ≤ (4 : Nat) then (fact_Encode_R_l1 K l0 a1 i45 K 0 x365) else none) else none) fun x372 => ((pack_Writer_Int_O K x372 ((l0.getD i45.toNat z_Api_Fact).Value)).bind fun x379 => (some (x379))))) else none) fun x364 => (fact_Encode_R_l0 K l0 a1 k (w64 (i45 + 1)) x364)) else ((pack_Writer_Bytes_O l75).bind fun x380 => (some ((0, x380)))))
def fact_Encode_R (K : Nat) (l0 : List Api_Fact) (a1 : Int) : Option (Int × (List Int)) := ((fact_All_R K l0 a1).bind fun x192 => (if ¬ (x192.1 = 0) then (some ((x192.1, ([] : List Int)))) else ((pack_Writer_Num_N K (wu64 (l0.length : Int))).bind fun x193 => (fact_Encode_R_l0 K l0 a1 K 0 x193))))

def crc_More_1 (p0_0 : Int) : Int := (bXor .u32 (bShr .u32 p0_0 1) (bAnd .u32 3988292384 (wu32 (0 - (bAnd .u32 p0_0 1)))))

def crc_More_R_l1 (K : Nat) : Nat → Int → Int → Option Int
  | 0, _, _ => none
  | k + 1, i67, i68 => (if i67 < 8 then (thn (crc_More_1 i68) fun x156 => (crc_More_R_l1 K k (w64 (i67 + 1)) x156)) else (some (i68)))
def crc_More_R_l0 (K : Nat) (l0 : List Int) : Nat → Int → Int → Option Int
  | 0, _, _ => none
  | k + 1, i57, i58 => (if i57 < (l0.length : Int) then (Option.bind (if 0 ≤ i57 then (crc_More_R_l1 K K 0 (bXor .u32 i58 (wu32 (l0.getD i57.toNat 0)))) else none) fun x150 => (crc_More_R_l0 K l0 k (w64 (i57 + 1)) x150)) else (some (bXor .u32 (IntKind.max .u32) i58)))
def crc_More_R (K : Nat) (a0 : Int) (l0 : List Int) : Option Int := (crc_More_R_l0 K l0 K 0 (bXor .u32 (IntKind.max .u32) a0))

def crc_Sum_R (K : Nat) (l0 : List Int) : Option Int := ((crc_More_R K 0 l0).bind fun x2 => (some (x2)))

def crc_Put_R_l0 (K : Nat) (x4 : Int) : Nat → Int → (List Int) → Option (List Int)
  | 0, _, _ => none
  | k + 1, i4, l5 => (if i4 < 4 then (if 0 ≤ (w64 (8 * i4)) then (if (l5.length + [wu8 (bShr .u32 x4 (w64 (8 * i4)))].length) * 1 ≤ 140737488355328 then (crc_Put_R_l0 K x4 k (w64 (i4 + 1)) (l5 ++ [wu8 (bShr .u32 x4 (w64 (8 * i4)))])) else none) else none) else (some (l5)))
def crc_Put_R (K : Nat) (l0 : List Int) : Option (List Int) := ((bytes_Clone_R l0).bind fun x3 => ((crc_Sum_R K l0).bind fun x4 => (crc_Put_R_l0 K x4 K 0 x3)))

def frame_Put_R (K : Nat) (l0 : List Int) : Option (List Int) := ((pack_Writer_Num_N K (wu64 (l0.length : Int))).bind fun x4 => ((pack_Writer_Bytes_O x4).bind fun x5 => ((crc_Put_R K l0).bind fun x6 => (if (x5.length + x6.length) * 1 ≤ 140737488355328 then (some ((x5 ++ x6))) else none))))

def wal_Record_R (K : Nat) (a0_0 : Int) (a0_1 : Int) (a0_2 : Int) (l0 : List Api_Fact) (a1 : Int) : Option (Int × (List Int)) := ((wal_Right_R K a0_0 a0_1 a0_2 l0 a1).bind fun x11 => (if (!x11) = true then (some ((1, ([] : List Int)))) else ((pack_Writer_Num_N K (wu64 a0_0)).bind fun x12 => ((pack_Writer_Num_O K x12 (wu64 a0_1)).bind fun x13 => ((pack_Writer_Num_O K x13 (wu64 a0_2)).bind fun x14 => ((fact_Encode_R K l0 a1).bind fun x15 => (if ¬ (x15.1 = 0) then (some ((x15.1, ([] : List Int)))) else ((pack_Writer_Bytes_O x14).bind fun x16 => (if (x16.length + x15.2.length) * 1 ≤ 140737488355328 then ((frame_Put_R K (x16 ++ x15.2)).bind fun x17 => (some ((0, x17)))) else none)))))))))

def wal_Bytes_O_l0 (K : Nat) (l0 : List Wal_Batch) (a1 : Int) : Nat → Int → (List Int) → Option (Int × (List Int))
  | 0, _, _ => none
  | k + 1, i5, l5 => (if i5 < (l0.length : Int) then (if 0 ≤ i5 then ((wal_Record_R K ((l0.getD i5.toNat z_Wal_Batch).Seq) ((l0.getD i5.toNat z_Wal_Batch).Tick) ((l0.getD i5.toNat z_Wal_Batch).Budget) ((l0.getD i5.toNat z_Wal_Batch).Facts) a1).bind fun x24 => (if ¬ (x24.1 = 0) then (some ((x24.1, ([] : List Int)))) else (if (l5.length + x24.2.length) * 1 ≤ 140737488355328 then (wal_Bytes_O_l0 K l0 a1 k (w64 (i5 + 1)) (l5 ++ x24.2)) else none))) else none) else (some ((0, l5))))
def wal_Bytes_O (K : Nat) (l0 : List Wal_Batch) (a1 : Int) : Option (Int × (List Int)) := (wal_Bytes_O_l0 K l0 a1 K 0 ([] : List Int))

def mem_Mem_Bytes_O (K : Nat) (p0_0 : Int) (l0 : List Wal_Batch) (p0_2 : Int) : Option Int := ((wal_Bytes_O K l0 p0_0).bind fun x3 => (some ((x3.2.length : Int))))

def ossuarylaw22_MemOnce_l0 (K : Nat) (l0 : List Ossuaryref17_Batch) (x155 : (Int × Int × Int)) : Nat → Int → Int → (List Wal_Batch) → Int → Option ((List Wal_Batch) × Int × Int)
  | 0, _, _, _, _ => none
  | k + 1, i19, i20, l10, i21 => (if i20 < (l0.length : Int) then (if 0 ≤ i20 then (thn (ossuarylaw17_Own_R ((l0.getD i20.toNat z_Ossuaryref17_Batch).Seq) ((l0.getD i20.toNat z_Ossuaryref17_Batch).Tick) ((l0.getD i20.toNat z_Ossuaryref17_Batch).Budget) (((l0.getD i20.toNat z_Ossuaryref17_Batch).Facts).xs)) fun x179 => ((mem_Mem_Add_OR K x155.1 l10 i21 x179.1 x179.2.1 x179.2.2 (((l0.getD i20.toNat z_Ossuaryref17_Batch).Facts).xs)).bind fun x180 => (if x180.1 = 0 then (ossuarylaw22_MemOnce_l0 K l0 x155 k (w64 (i19 + ((((l0.getD i20.toNat z_Ossuaryref17_Batch).Facts).xs).length : Int))) (w64 (i20 + 1)) x180.2.1 x180.2.2) else (ossuarylaw22_MemOnce_l0 K l0 x155 k i19 (w64 (i20 + 1)) x180.2.1 x180.2.2)))) else none) else (some ((l10, i21, i19))))
def ossuarylaw22_MemOnce_l1 (K : Nat) (l1 : List Int) (x155 : (Int × Int × Int)) (x168 : ((List Wal_Batch) × Int × Int)) : Nat → Int → Int → (List Wal_Batch) → Option (Sum ((List Wal_Batch) × Int) Bool)
  | 0, _, _, _ => none
  | k + 1, i25, i26, l13 => (if i26 < (l1.length : Int) then (if 0 ≤ i26 then (if (l1.getD i26.toNat 0) < 0 then ((ossuarylaw22_alive K).bind fun x283 => (some (Sum.inr (x283)))) else (if 16777216 < (l1.getD i26.toNat 0) then ((ossuarylaw22_alive K).bind fun x284 => (some (Sum.inr (x284)))) else ((mem_Mem_Facts_O K x155.1 l13 x168.2.1 (l1.getD i26.toNat 0) (w64 ((l1.getD i26.toNat 0) + 5))).bind fun x285 => ((mem_Mem_Drop_O K x155.1 l13 x168.2.1 (l1.getD i26.toNat 0) (w64 ((l1.getD i26.toNat 0) + 5))).bind fun x288 => (if ¬ (x288.2 = (x285.length : Int)) then (some (Sum.inr (false))) else ((mem_Mem_Has_O K x155.1 x288.1 x168.2.1 (l1.getD i26.toNat 0) (w64 ((l1.getD i26.toNat 0) + 5))).bind fun x289 => (if x289 = true then (some (Sum.inr (false))) else (ossuarylaw22_MemOnce_l1 K l1 x155 x168 k (w64 (i25 - (x285.length : Int))) (w64 (i26 + 1)) x288.1)))))))) else none) else (some (Sum.inl (l13, i25))))
def ossuarylaw22_MemOnce (K : Nat) (l0 : List Ossuaryref17_Batch) (l1 : List Int) : Option Bool := ((ossuarylaw17_Light_R K l0).bind fun x152 => (if (!x152) = true then ((ossuarylaw22_alive K).bind fun x153 => (some (x153))) else (if 20 < (l1.length : Int) then ((ossuarylaw22_alive K).bind fun x154 => (some (x154))) else (thn (mem_New_2) fun x155 => (if ¬ (x155.2.2 = 0) then (some (false)) else (Option.bind (ossuarylaw22_MemOnce_l0 K l0 x155 K 0 0 ([] : List Wal_Batch) x155.2.1) fun x168 => (Option.bind (ossuarylaw22_MemOnce_l1 K l1 x155 x168 K x168.2.2 0 x168.1) fun z => (cas z (fun v2 => ((mem_Mem_Facts_O K x155.1 v2.1 x168.2.1 0 16777217).bind fun x290 => (if (x290.length : Int) = v2.2 then ((mem_Mem_Drop_O K x155.1 v2.1 x168.2.1 0 16777217).bind fun x291 => (if x291.2 = v2.2 then ((mem_Mem_Batches_O K x155.1 x291.1 x168.2.1).bind fun x292 => (if (x292.length : Int) = 0 then ((mem_Mem_Bytes_O K x155.1 x291.1 x168.2.1).bind fun x293 => (if x293 = 0 then ((ossuarylaw22_alive K).bind fun x294 => (some (x294))) else (some (false)))) else (some (false)))) else (some (false)))) else (some (false))))) (fun t_ => (some (t_)))))))))))

end Go.Proofs.Ytndeodpckfjakaa.MemOnce
