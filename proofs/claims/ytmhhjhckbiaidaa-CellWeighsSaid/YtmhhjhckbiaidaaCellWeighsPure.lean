/- Printed by gen.py: the plain functions that CellWeighs comes to. -/
import Derived.Test.YtmhhjhckbiaidaaEArith
set_option linter.unusedVariables false
namespace Go.Proofs.Ytmhhjhckbiaidaa.CellWeighs
open Go E

def cell_Of (a0 : Int) : (Int × Int × Int × Int) := ((1, a0, a0, a0))

def cell_plus (a0 : Int) (a1 : Int) : (Int × Bool) := ((w64 (a0 + a1), ((bShr .i64 (bAnd .i64 (bXor .i64 a0 (w64 (a0 + a1))) (bXor .i64 a1 (w64 (a0 + a1)))) 63) == 0)))

def cell_Merge (a0_0 : Int) (a0_1 : Int) (a0_2 : Int) (a0_3 : Int) (a1_0 : Int) (a1_1 : Int) (a1_2 : Int) (a1_3 : Int) : (Int × Int × Int × Int × Bool) := (if a0_0 = 0 then ((a1_0, a1_1, a1_2, a1_3, true)) else (if a1_0 = 0 then ((a0_0, a0_1, a0_2, a0_3, true)) else (thn (cell_plus a0_0 a1_0) fun x1 => (thn (cell_plus a0_1 a1_1) fun x2 => (if (!x1.2) = true then ((0, 0, 0, 0, false)) else (if (!x2.2) = true then ((0, 0, 0, 0, false)) else ((x1.1, x2.1, mn a0_2 a1_2, mx a0_3 a1_3, true))))))))

def cell_All_1 (a0 : Int) (p0_0 : Bool) (p1_0 : Int) (p1_1 : Int) (p1_2 : Int) (p1_3 : Int) : (Bool × Int × Int × Int × Int) := (if p0_0 = true then (thn (cell_Of a0) fun x1 => (thn (cell_Merge p1_0 p1_1 p1_2 p1_3 x1.1 x1.2.1 x1.2.2.1 x1.2.2.2) fun x2 => ((x2.2.2.2.2, x2.1, x2.2.1, x2.2.2.1, x2.2.2.2.1)))) else ((p0_0, p1_0, p1_1, p1_2, p1_3)))

def cell_All_l0 (K : Nat) (l0 : List Int) : Nat → Int → Int → Int → Int → Int → Bool → Option (Int × Int × Int × Int × Bool)
  | 0, _, _, _, _, _, _ => none
  | k + 1, i1, i2, i3, i4, i5, q1 => (if i1 < (l0.length : Int) then (if 0 ≤ i1 then (thn (cell_All_1 (l0.getD i1.toNat 0) q1 i2 i3 i4 i5) fun x1 => (cell_All_l0 K l0 k (w64 (i1 + 1)) x1.2.1 x1.2.2.1 x1.2.2.2.1 x1.2.2.2.2 x1.1)) else none) else (some ((i2, i3, i4, i5, q1))))
def cell_All (K : Nat) (l0 : List Int) : Option (Int × Int × Int × Int × Bool) := (cell_All_l0 K l0 K 0 0 0 0 0 true)

def ossuarylaw05_alive (K : Nat) : Option Bool := ((cell_All K [3, (-1)]).bind fun x1 => (if x1.2.2.2.2 = true then (some (((x1.1 == 2) && ((x1.2.1 == 2) && ((x1.2.2.1 == (-1)) && ((x1.2.2.2.1 == 3) && true)))))) else (some (false))))

def cell_size (a0 : Int) : Int := (wu64 (w64 ((bXor .i64 a0 (bShr .i64 a0 63)) - (bShr .i64 a0 63))))

def cell_Weight_l0 (K : Nat) (l0 : List Int) : Nat → Int → Int → Option (Int × Bool)
  | 0, _, _ => none
  | k + 1, i2, i3 => (if i3 < (l0.length : Int) then (if 0 ≤ i3 then (thn (cell_size (l0.getD i3.toNat 0)) fun x1 => (if 4611686018427387904 < (wu64 (i2 + x1)) then (some ((0, false))) else (cell_Weight_l0 K l0 k (wu64 (i2 + x1)) (w64 (i3 + 1))))) else none) else (some ((w64 i2, true))))
def cell_Weight (K : Nat) (l0 : List Int) : Option (Int × Bool) := (cell_Weight_l0 K l0 K 0 0)

def cell_Right (a0_0 : Int) (a0_1 : Int) (a0_2 : Int) (a0_3 : Int) : Bool := (if a0_0 = 0 then (((a0_0 == 0) && ((a0_1 == 0) && ((a0_2 == 0) && ((a0_3 == 0) && true))))) else (if a0_0 = 1 then (thn (cell_Of a0_1) fun x1 => (((a0_0 == x1.1) && ((a0_1 == x1.2.1) && ((a0_2 == x1.2.2.1) && ((a0_3 == x1.2.2.2) && true)))))) else (if 0 < a0_0 then (decide (a0_2 ≤ a0_3)) else (false))))

def ossuarylaw05_CellWeighs (K : Nat) (l0 : List Int) (a1 : Int) : Option Bool := (if 200 < (l0.length : Int) then ((ossuarylaw05_alive K).bind fun x1 => (some (x1))) else (if a1 < 0 then ((ossuarylaw05_alive K).bind fun x2 => (some (x2))) else (if (l0.length : Int) < a1 then ((ossuarylaw05_alive K).bind fun x3 => (some (x3))) else ((cell_Weight K l0).bind fun x4 => (if (!x4.2) = true then (if x4.1 = 0 then ((ossuarylaw05_alive K).bind fun x5 => (some (x5))) else (some (false))) else ((cell_All K l0).bind fun x6 => (if 0 ≤ a1 then (if a1 ≤ (l0.length : Int) then ((cell_All K (l0.take a1.toNat)).bind fun x7 => ((cell_All K (l0.drop a1.toNat)).bind fun x8 => (thn (cell_Merge x8.1 x8.2.1 x8.2.2.1 x8.2.2.2.1 x7.1 x7.2.1 x7.2.2.1 x7.2.2.2.1) fun x9 => (if x6.2.2.2.2 = true then (if x7.2.2.2.2 = true then (if x8.2.2.2.2 = true then (if x9.2.2.2.2 = true then (if ((x6.1 == x9.1) && ((x6.2.1 == x9.2.1) && ((x6.2.2.1 == x9.2.2.1) && ((x6.2.2.2.1 == x9.2.2.2.1) && true)))) = true then (thn (cell_Right x6.1 x6.2.1 x6.2.2.1 x6.2.2.2.1) fun x10 => (if x10 = true then (if x6.1 = (l0.length : Int) then (if x6.2.1 ≤ x4.1 then (if (w64 (0 - x6.2.1)) ≤ x4.1 then ((ossuarylaw05_alive K).bind fun x11 => (some (x11))) else (some (false))) else (some (false))) else (some (false))) else (some (false)))) else (some (false))) else (some (false))) else (some (false))) else (some (false))) else (some (false)))))) else none) else none)))))))

end Go.Proofs.Ytmhhjhckbiaidaa.CellWeighs
