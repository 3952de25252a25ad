/- Printed by gen.py: the plain functions that PileNils comes to. -/
import Derived.Test.YtmhhjhckbiaidaaEArith
set_option linter.unusedVariables false
namespace Go.Proofs.Ytmhhjhckbiaidaa.PileNils
open Go E

structure Pile_item__int64 where
  x : Int
  n : Int
  deriving DecidableEq
def z_Pile_item__int64 : Pile_item__int64 := ⟨0, 0⟩
/-- What an input of this kind keeps to. -/
def ok_Pile_item__int64 (x : Pile_item__int64) : Prop := inI .i64 x.x ∧ inI .i64 x.n
def pile_Pile__int64_Push (a1 : Int) : Unit := (())

def pile_New__int64 : Int := (0)

def pile_Pile__int64_Push_2 (p0_2 : Int) (a1 : Int) : Unit := (())

def pile_Pile__int64_Len : Int := (0)

def pile_Pile__int64_Top : Option (Int × Bool) := (thn (pile_Pile__int64_Len) fun x1 => (if x1 = 0 then (some ((0, false))) else none))

def pile_Pile__int64_Pop : Option (Int × Bool) := ((pile_Pile__int64_Top).bind fun x1 => (if (!x1.2) = true then (some ((x1.1, false))) else none))

def pile_Pile__int64_Len_2 (p0_2 : Int) : Int := (0)

def pile_Pile__int64_Top_2 (p0_2 : Int) : Option (Int × Bool) := (thn (pile_Pile__int64_Len_2 p0_2) fun x1 => (if x1 = 0 then (some ((0, false))) else none))

def pile_Pile__int64_Pop_2 (p0_2 : Int) : Option (Int × Bool) := ((pile_Pile__int64_Top_2 p0_2).bind fun x1 => (if (!x1.2) = true then (some ((x1.1, false))) else none))

def pile_Pile__int64_Sorted : Unit := (())

def pile_Pile__int64_Len_3 (l0 : List Pile_item__int64) (p0_2 : Int) : Int := ((l0.length : Int))

def pile_Pile__int64_Top_3 (l0 : List Pile_item__int64) (p0_2 : Int) : Option (Int × Bool) := (thn (pile_Pile__int64_Len_3 l0 p0_2) fun x1 => (if x1 = 0 then (some ((0, false))) else (if 0 < (l0.length : Int) then (some (((l0.getD ((0 : Int).toNat) z_Pile_item__int64).x, true))) else none)))

def pile_Pile__int64_down_l1 (K : Nat) (a1 : Int) (l2 : List Pile_item__int64) : Nat → Option Unit
  | 0 => none
  | k + 1 => (if (w64 ((bShl .i64 a1 1) + 1)) ≤ (w64 ((bShl .i64 a1 1) + 2)) then (if (w64 ((bShl .i64 a1 1) + 1)) < (l2.length : Int) then none else (some (()))) else (some (())))
def pile_Pile__int64_down_l0 (K : Nat) (a1 : Int) : Nat → (List Pile_item__int64) → Option (List Pile_item__int64)
  | 0, _ => none
  | k + 1, l2 => (Option.bind (pile_Pile__int64_down_l1 K a1 l2 K) fun x1 => (if a1 = a1 then (some (l2)) else (if 0 ≤ a1 then (if a1 < (l2.length : Int) then (if a1 < ((l2.set a1.toNat (⟨(l2.getD a1.toNat z_Pile_item__int64).x, (l2.getD a1.toNat z_Pile_item__int64).n⟩ : Pile_item__int64)).length : Int) then (pile_Pile__int64_down_l0 K a1 k ((l2.set a1.toNat (⟨(l2.getD a1.toNat z_Pile_item__int64).x, (l2.getD a1.toNat z_Pile_item__int64).n⟩ : Pile_item__int64)).set a1.toNat (⟨(l2.getD a1.toNat z_Pile_item__int64).x, (l2.getD a1.toNat z_Pile_item__int64).n⟩ : Pile_item__int64))) else none) else none) else none)))
def pile_Pile__int64_down (K : Nat) (l0 : List Pile_item__int64) (p0_2 : Int) (a1 : Int) : Option (List Pile_item__int64) := (pile_Pile__int64_down_l0 K a1 K l0)

def pile_Pile__int64_Pop_3 (K : Nat) (l0 : List Pile_item__int64) (p0_2 : Int) : Option (Bool × (List Pile_item__int64) × Int) := ((pile_Pile__int64_Top_3 l0 p0_2).bind fun x1 => (if (!x1.2) = true then (some ((false, l0, x1.1))) else (if 0 ≤ (w64 ((l0.length : Int) - 1)) then (if (w64 ((l0.length : Int) - 1)) < (l0.length : Int) then (if 0 < (l0.length : Int) then (if (w64 ((l0.length : Int) - 1)) ≤ ((l0.set ((0 : Int).toNat) (⟨(l0.getD ((w64 ((l0.length : Int) - 1)).toNat) z_Pile_item__int64).x, (l0.getD ((w64 ((l0.length : Int) - 1)).toNat) z_Pile_item__int64).n⟩ : Pile_item__int64)).length : Int) then ((pile_Pile__int64_down K ((l0.set ((0 : Int).toNat) (⟨(l0.getD ((w64 ((l0.length : Int) - 1)).toNat) z_Pile_item__int64).x, (l0.getD ((w64 ((l0.length : Int) - 1)).toNat) z_Pile_item__int64).n⟩ : Pile_item__int64)).take (w64 ((l0.length : Int) - 1)).toNat) p0_2 0).bind fun x2 => (some ((true, x2, x1.1)))) else none) else none) else none) else none)))

def pile_Pile__int64_Sorted_2_l0 (K : Nat) (p0_2 : Int) : Nat → (List Int) → (List Pile_item__int64) → Option (List Int)
  | 0, _, _ => none
  | k + 1, l2, l3 => ((pile_Pile__int64_Pop_3 K l3 p0_2).bind fun x1 => (if (!x1.1) = true then (some (l2)) else (if (l2.length + [x1.2.2].length) * 8 ≤ 140737488355328 then (pile_Pile__int64_Sorted_2_l0 K p0_2 k (l2 ++ [x1.2.2]) x1.2.1) else none)))
def pile_Pile__int64_Sorted_2 (K : Nat) (p0_2 : Int) : Option (List Int) := (if (([] : List Pile_item__int64).length + 0) * 16 ≤ 140737488355328 then (pile_Pile__int64_Sorted_2_l0 K p0_2 K ([] : List Int) (([] : List Pile_item__int64) ++ ([] : List Pile_item__int64))) else none)

def pile_Sort__int64_l0 (K : Nat) (l0 : List Int) (x1 : Int) : Nat → Int → Option (List Int)
  | 0, _ => none
  | k + 1, i1 => (if i1 < (l0.length : Int) then (if 0 ≤ i1 then (thn (pile_Pile__int64_Push_2 x1 (l0.getD i1.toNat 0)) fun u1 => (pile_Sort__int64_l0 K l0 x1 k (w64 (i1 + 1)))) else none) else ((pile_Pile__int64_Sorted_2 K x1).bind fun x2 => (some (x2))))
def pile_Sort__int64 (K : Nat) (l0 : List Int) : Option (List Int) := (thn (pile_New__int64) fun x1 => (pile_Sort__int64_l0 K l0 x1 K 0))

def pile_New__int64_2 : Int := (0)

def ossuarylaw07_ahead (a0 : Int) (a1 : Int) : Bool := (decide (a0 < a1))

def pile_Pile__int64_ahead_2 (l0 : List Pile_item__int64) (p0_2 : Int) (a1 : Int) (a2 : Int) : Option Bool := (if 0 ≤ a1 then (if a1 < (l0.length : Int) then (if 0 ≤ a2 then (if a2 < (l0.length : Int) then (thn (ossuarylaw07_ahead ((l0.getD a1.toNat z_Pile_item__int64).x) ((l0.getD a2.toNat z_Pile_item__int64).x)) fun x1 => (if x1 = true then (some (true)) else (thn (ossuarylaw07_ahead ((l0.getD a2.toNat z_Pile_item__int64).x) ((l0.getD a1.toNat z_Pile_item__int64).x)) fun x2 => (if x2 = true then (some (false)) else (some (decide (((l0.getD a1.toNat z_Pile_item__int64).n) < ((l0.getD a2.toNat z_Pile_item__int64).n)))))))) else none) else none) else none) else none)

def pile_Pile__int64_up_l0 (K : Nat) (p0_2 : Int) : Nat → Int → (List Pile_item__int64) → Option (List Pile_item__int64)
  | 0, _, _ => none
  | k + 1, i1, l2 => (if 0 < i1 then ((pile_Pile__int64_ahead_2 l2 p0_2 i1 (bShr .i64 (w64 (i1 - 1)) 1)).bind fun x1 => (if (!x1) = true then (some (l2)) else (if 0 ≤ (bShr .i64 (w64 (i1 - 1)) 1) then (if (bShr .i64 (w64 (i1 - 1)) 1) < (l2.length : Int) then (if 0 ≤ i1 then (if i1 < (l2.length : Int) then (if (bShr .i64 (w64 (i1 - 1)) 1) < ((l2.set i1.toNat (⟨(l2.getD ((bShr .i64 (w64 (i1 - 1)) 1).toNat) z_Pile_item__int64).x, (l2.getD ((bShr .i64 (w64 (i1 - 1)) 1).toNat) z_Pile_item__int64).n⟩ : Pile_item__int64)).length : Int) then (pile_Pile__int64_up_l0 K p0_2 k (bShr .i64 (w64 (i1 - 1)) 1) ((l2.set i1.toNat (⟨(l2.getD ((bShr .i64 (w64 (i1 - 1)) 1).toNat) z_Pile_item__int64).x, (l2.getD ((bShr .i64 (w64 (i1 - 1)) 1).toNat) z_Pile_item__int64).n⟩ : Pile_item__int64)).set ((bShr .i64 (w64 (i1 - 1)) 1).toNat) (⟨(l2.getD i1.toNat z_Pile_item__int64).x, (l2.getD i1.toNat z_Pile_item__int64).n⟩ : Pile_item__int64))) else none) else none) else none) else none) else none))) else (some (l2)))
def pile_Pile__int64_up (K : Nat) (l0 : List Pile_item__int64) (p0_2 : Int) (a1 : Int) : Option (List Pile_item__int64) := (pile_Pile__int64_up_l0 K p0_2 K a1 l0)

def pile_Pile__int64_Push_3 (K : Nat) (p0_2 : Int) (a1 : Int) : Option ((List Pile_item__int64) × Int) := (if (([] : List Pile_item__int64).length + [(⟨a1, p0_2⟩ : Pile_item__int64)].length) * 16 ≤ 140737488355328 then ((pile_Pile__int64_up K (([] : List Pile_item__int64) ++ [(⟨a1, p0_2⟩ : Pile_item__int64)]) (w64 (p0_2 + 1)) (w64 (((([] : List Pile_item__int64) ++ [(⟨a1, p0_2⟩ : Pile_item__int64)]).length : Int) - 1))).bind fun x1 => (some ((x1, w64 (p0_2 + 1))))) else none)

def pile_Pile__int64_Push_4 (K : Nat) (l0 : List Pile_item__int64) (p0_2 : Int) (a1 : Int) : Option ((List Pile_item__int64) × Int) := (if (l0.length + [(⟨a1, p0_2⟩ : Pile_item__int64)].length) * 16 ≤ 140737488355328 then ((pile_Pile__int64_up K (l0 ++ [(⟨a1, p0_2⟩ : Pile_item__int64)]) (w64 (p0_2 + 1)) (w64 (((l0 ++ [(⟨a1, p0_2⟩ : Pile_item__int64)]).length : Int) - 1))).bind fun x1 => (some ((x1, w64 (p0_2 + 1))))) else none)

def pile_Pile__int64_Len_4 (l0 : List Pile_item__int64) (p0_2 : Int) : Int := ((l0.length : Int))

def pile_Pile__int64_Top_4 (l0 : List Pile_item__int64) (p0_2 : Int) : Option (Int × Bool) := (thn (pile_Pile__int64_Len_4 l0 p0_2) fun x1 => (if x1 = 0 then (some ((0, false))) else (if 0 < (l0.length : Int) then (some (((l0.getD ((0 : Int).toNat) z_Pile_item__int64).x, true))) else none)))

def pile_Pile__int64_down_2_l1 (K : Nat) (p0_2 : Int) (i1 : Int) (l2 : List Pile_item__int64) : Nat → Int → Int → Option Int
  | 0, _, _ => none
  | k + 1, i3, i4 => (if i4 ≤ (w64 ((bShl .i64 i1 1) + 2)) then (if i4 < (l2.length : Int) then ((pile_Pile__int64_ahead_2 l2 p0_2 i4 i3).bind fun x2 => (if x2 = true then (pile_Pile__int64_down_2_l1 K p0_2 i1 l2 k i4 (w64 (i4 + 1))) else (pile_Pile__int64_down_2_l1 K p0_2 i1 l2 k i3 (w64 (i4 + 1))))) else (some (i3))) else (some (i3)))
def pile_Pile__int64_down_2_l0 (K : Nat) (p0_2 : Int) : Nat → Int → (List Pile_item__int64) → Option (List Pile_item__int64)
  | 0, _, _ => none
  | k + 1, i1, l2 => (Option.bind (pile_Pile__int64_down_2_l1 K p0_2 i1 l2 K i1 (w64 ((bShl .i64 i1 1) + 1))) fun x1 => (if x1 = i1 then (some (l2)) else (if 0 ≤ x1 then (if x1 < (l2.length : Int) then (if 0 ≤ i1 then (if i1 < (l2.length : Int) then (if x1 < ((l2.set i1.toNat (⟨(l2.getD x1.toNat z_Pile_item__int64).x, (l2.getD x1.toNat z_Pile_item__int64).n⟩ : Pile_item__int64)).length : Int) then (pile_Pile__int64_down_2_l0 K p0_2 k x1 ((l2.set i1.toNat (⟨(l2.getD x1.toNat z_Pile_item__int64).x, (l2.getD x1.toNat z_Pile_item__int64).n⟩ : Pile_item__int64)).set x1.toNat (⟨(l2.getD i1.toNat z_Pile_item__int64).x, (l2.getD i1.toNat z_Pile_item__int64).n⟩ : Pile_item__int64))) else none) else none) else none) else none) else none)))
def pile_Pile__int64_down_2 (K : Nat) (l0 : List Pile_item__int64) (p0_2 : Int) (a1 : Int) : Option (List Pile_item__int64) := (pile_Pile__int64_down_2_l0 K p0_2 K a1 l0)

def pile_Pile__int64_Pop_4 (K : Nat) (l0 : List Pile_item__int64) (p0_2 : Int) : Option (Bool × (List Pile_item__int64) × Int) := ((pile_Pile__int64_Top_4 l0 p0_2).bind fun x1 => (if (!x1.2) = true then (some ((false, l0, x1.1))) else (if 0 ≤ (w64 ((l0.length : Int) - 1)) then (if (w64 ((l0.length : Int) - 1)) < (l0.length : Int) then (if 0 < (l0.length : Int) then (if (w64 ((l0.length : Int) - 1)) ≤ ((l0.set ((0 : Int).toNat) (⟨(l0.getD ((w64 ((l0.length : Int) - 1)).toNat) z_Pile_item__int64).x, (l0.getD ((w64 ((l0.length : Int) - 1)).toNat) z_Pile_item__int64).n⟩ : Pile_item__int64)).length : Int) then ((pile_Pile__int64_down_2 K ((l0.set ((0 : Int).toNat) (⟨(l0.getD ((w64 ((l0.length : Int) - 1)).toNat) z_Pile_item__int64).x, (l0.getD ((w64 ((l0.length : Int) - 1)).toNat) z_Pile_item__int64).n⟩ : Pile_item__int64)).take (w64 ((l0.length : Int) - 1)).toNat) p0_2 0).bind fun x2 => (some ((true, x2, x1.1)))) else none) else none) else none) else none)))

def ossuarylaw07_alive (K : Nat) : Option Bool := (thn (pile_New__int64_2) fun x1 => ((pile_Pile__int64_Push_3 K x1 5).bind fun x2 => ((pile_Pile__int64_Push_4 K x2.1 x2.2 2).bind fun x3 => ((pile_Pile__int64_Push_4 K x3.1 x3.2 9).bind fun x4 => ((pile_Pile__int64_Pop_4 K x4.1 x4.2).bind fun x5 => (if x5.2.2 = 2 then (if x5.1 = true then (thn (pile_Pile__int64_Len_4 x5.2.1 x4.2) fun x6 => (some ((x6 == 2)))) else (some (false))) else (some (false))))))))

def ossuarylaw07_PileNils (K : Nat) (a0 : Int) : Option Bool := (thn (pile_Pile__int64_Push a0) fun u1 => (thn (pile_New__int64) fun x1 => (thn (pile_Pile__int64_Push_2 x1 a0) fun u2 => ((pile_Pile__int64_Pop).bind fun x2 => ((pile_Pile__int64_Top).bind fun x3 => ((pile_Pile__int64_Pop_2 x1).bind fun x4 => (if (!x2.2) = true then (if (!x3.2) = true then (if (!x4.2) = true then (thn (pile_Pile__int64_Len) fun x5 => (thn (pile_Pile__int64_Len_2 x1) fun x6 => (if (w64 (x5 + x6)) = 0 then (thn (pile_Pile__int64_Sorted) fun u3 => ((pile_Pile__int64_Sorted_2 K x1).bind fun x7 => (if (w64 (0 + (x7.length : Int))) = 0 then ((pile_Sort__int64 K [a0]).bind fun x8 => (if (x8.length : Int) = 0 then ((ossuarylaw07_alive K).bind fun x9 => (some (x9))) else (some (false)))) else (some (false))))) else (some (false))))) else (some (false))) else (some (false))) else (some (false)))))))))

end Go.Proofs.Ytmhhjhckbiaidaa.PileNils
