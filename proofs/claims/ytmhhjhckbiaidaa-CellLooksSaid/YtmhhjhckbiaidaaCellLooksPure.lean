/- Printed by gen.py: the plain functions that CellLooks comes to. -/
import Derived.Test.YtmhhjhckbiaidaaEArith
set_option linter.unusedVariables false
namespace Go.Proofs.Ytmhhjhckbiaidaa.CellLooks
open Go E

def cell_Mean (a0_0 : Int) (a0_1 : Int) (a0_2 : Int) (a0_3 : Int) : Option (Int × Bool) := (if a0_0 < 1 then (some ((0, false))) else (if a0_0 = 0 then none else (some ((w64 ((w64 (Int.tdiv a0_1 a0_0)) + (bShr .i64 (Int.tmod a0_1 a0_0) 63)), true)))))

def ossuaryref05_Mean (a0_0 : Int) (a0_1 : Int) (a0_2 : Int) (a0_3 : Int) : Option (Int × Bool) := (if a0_0 < 1 then (some ((0, false))) else (if a0_0 = 0 then none else (if (Int.tmod a0_1 a0_0) < 0 then (some ((w64 ((w64 (Int.tdiv a0_1 a0_0)) - 1), true))) else (some ((w64 (Int.tdiv a0_1 a0_0), true))))))

def cell_Of (a0 : Int) : (Int × Int × Int × Int) := ((1, a0, a0, a0))

def cell_Right (a0_0 : Int) (a0_1 : Int) (a0_2 : Int) (a0_3 : Int) : Bool := (if a0_0 = 0 then (((a0_0 == 0) && ((a0_1 == 0) && ((a0_2 == 0) && ((a0_3 == 0) && true))))) else (if a0_0 = 1 then (thn (cell_Of a0_1) fun x1 => (((a0_0 == x1.1) && ((a0_1 == x1.2.1) && ((a0_2 == x1.2.2.1) && ((a0_3 == x1.2.2.2) && true)))))) else (if 0 < a0_0 then (decide (a0_2 ≤ a0_3)) else (false))))

def ossuaryref05_Right (a0_0 : Int) (a0_1 : Int) (a0_2 : Int) (a0_3 : Int) : Bool := (if a0_0 = 0 then (((a0_0 == 0) && ((a0_1 == 0) && ((a0_2 == 0) && ((a0_3 == 0) && true))))) else (if 0 < a0_0 then (if a0_2 ≤ a0_3 then (if 1 < a0_0 then (true) else (if a0_1 = a0_2 then ((a0_1 == a0_3)) else (false))) else (false)) else (false)))

def cell_plus (a0 : Int) (a1 : Int) : (Int × Bool) := ((w64 (a0 + a1), ((bShr .i64 (bAnd .i64 (bXor .i64 a0 (w64 (a0 + a1))) (bXor .i64 a1 (w64 (a0 + a1)))) 63) == 0)))

def cell_Merge (a0_0 : Int) (a0_1 : Int) (a0_2 : Int) (a0_3 : Int) (a1_0 : Int) (a1_1 : Int) (a1_2 : Int) (a1_3 : Int) : (Int × Int × Int × Int × Bool) := (if a0_0 = 0 then ((a1_0, a1_1, a1_2, a1_3, true)) else (if a1_0 = 0 then ((a0_0, a0_1, a0_2, a0_3, true)) else (thn (cell_plus a0_0 a1_0) fun x1 => (thn (cell_plus a0_1 a1_1) fun x2 => (if (!x1.2) = true then ((0, 0, 0, 0, false)) else (if (!x2.2) = true then ((0, 0, 0, 0, false)) else ((x1.1, x2.1, mn a0_2 a1_2, mx a0_3 a1_3, true))))))))

def cell_All_1 (a0 : Int) (p0_0 : Bool) (p1_0 : Int) (p1_1 : Int) (p1_2 : Int) (p1_3 : Int) : (Bool × Int × Int × Int × Int) := (if p0_0 = true then (thn (cell_Of a0) fun x1 => (thn (cell_Merge p1_0 p1_1 p1_2 p1_3 x1.1 x1.2.1 x1.2.2.1 x1.2.2.2) fun x2 => ((x2.2.2.2.2, x2.1, x2.2.1, x2.2.2.1, x2.2.2.2.1)))) else ((p0_0, p1_0, p1_1, p1_2, p1_3)))

def cell_All_l0 (K : Nat) (l0 : List Int) : Nat → Int → Int → Int → Int → Int → Bool → Option (Int × Int × Int × Int × Bool)
  | 0, _, _, _, _, _, _ => none
  | k + 1, i1, i2, i3, i4, i5, q1 => (if i1 < (l0.length : Int) then (if 0 ≤ i1 then (thn (cell_All_1 (l0.getD i1.toNat 0) q1 i2 i3 i4 i5) fun x1 => (cell_All_l0 K l0 k (w64 (i1 + 1)) x1.2.1 x1.2.2.1 x1.2.2.2.1 x1.2.2.2.2 x1.1)) else none) else (some ((i2, i3, i4, i5, q1))))
def cell_All (K : Nat) (l0 : List Int) : Option (Int × Int × Int × Int × Bool) := (cell_All_l0 K l0 K 0 0 0 0 0 true)

def ossuarylaw05_alive (K : Nat) : Option Bool := ((cell_All K [3, (-1)]).bind fun x1 => (if x1.2.2.2.2 = true then (some (((x1.1 == 2) && ((x1.2.1 == 2) && ((x1.2.2.1 == (-1)) && ((x1.2.2.2.1 == 3) && true)))))) else (some (false))))

def ossuarylaw05_CellLooks (K : Nat) (a0_0 : Int) (a0_1 : Int) (a0_2 : Int) (a0_3 : Int) : Option Bool := ((cell_Mean a0_0 a0_1 a0_2 a0_3).bind fun x1 => ((ossuaryref05_Mean a0_0 a0_1 a0_2 a0_3).bind fun x2 => (thn (cell_Right a0_0 a0_1 a0_2 a0_3) fun x3 => (thn (ossuaryref05_Right a0_0 a0_1 a0_2 a0_3) fun x4 => (if (x3 == x4) = true then (if x1.1 = x2.1 then (if (x1.2 == x2.2) = true then ((ossuarylaw05_alive K).bind fun x5 => (some (x5))) else (some (false))) else (some (false))) else (some (false)))))))

end Go.Proofs.Ytmhhjhckbiaidaa.CellLooks
