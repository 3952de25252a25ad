/- Printed by gen.py: the plain functions that PilePlays comes to. -/
import Derived.Test.YtmhhjhckbiaidaaEArith
set_option linter.unusedVariables false
namespace Go.Proofs.Ytmhhjhckbiaidaa.PilePlays
open Go E

structure Ossuaryref07_Item where
  Weight : Int
  Name : List UInt8
  deriving DecidableEq
def z_Ossuaryref07_Item : Ossuaryref07_Item := ⟨0, []⟩
/-- What an input of this kind keeps to. -/
def ok_Ossuaryref07_Item (x : Ossuaryref07_Item) : Prop := inI .i64 x.Weight ∧ x.Name.length ≤ 140737488351232
structure Ossuarylaw07_Act where
  Kind : Int
  X : Ossuaryref07_Item
  deriving DecidableEq
def z_Ossuarylaw07_Act : Ossuarylaw07_Act := ⟨0, z_Ossuaryref07_Item⟩
/-- What an input of this kind keeps to. -/
def ok_Ossuarylaw07_Act (x : Ossuarylaw07_Act) : Prop := inI .i64 x.Kind ∧ ok_Ossuaryref07_Item x.X
structure Pile_item__int64 where
  x : Int
  n : Int
  deriving DecidableEq
def z_Pile_item__int64 : Pile_item__int64 := ⟨0, 0⟩
/-- What an input of this kind keeps to. -/
def ok_Pile_item__int64 (x : Pile_item__int64) : Prop := inI .i64 x.x ∧ inI .i64 x.n
structure Pile_item__ossuaryref07_Item where
  x : Ossuaryref07_Item
  n : Int
  deriving DecidableEq
def z_Pile_item__ossuaryref07_Item : Pile_item__ossuaryref07_Item := ⟨z_Ossuaryref07_Item, 0⟩
/-- What an input of this kind keeps to. -/
def ok_Pile_item__ossuaryref07_Item (x : Pile_item__ossuaryref07_Item) : Prop := ok_Ossuaryref07_Item x.x ∧ inI .i64 x.n
def pile_New__int64 : Int := (0)

def ossuarylaw07_ahead (a0 : Int) (a1 : Int) : Bool := (decide (a0 < a1))

def pile_Pile__int64_ahead (l0 : List Pile_item__int64) (p0_2 : Int) (a1 : Int) (a2 : Int) : Option Bool := (if 0 ≤ a1 then (if a1 < (l0.length : Int) then (if 0 ≤ a2 then (if a2 < (l0.length : Int) then (thn (ossuarylaw07_ahead ((l0.getD a1.toNat z_Pile_item__int64).x) ((l0.getD a2.toNat z_Pile_item__int64).x)) fun x1 => (if x1 = true then (some (true)) else (thn (ossuarylaw07_ahead ((l0.getD a2.toNat z_Pile_item__int64).x) ((l0.getD a1.toNat z_Pile_item__int64).x)) fun x2 => (if x2 = true then (some (false)) else (some (decide (((l0.getD a1.toNat z_Pile_item__int64).n) < ((l0.getD a2.toNat z_Pile_item__int64).n)))))))) else none) else none) else none) else none)

def pile_Pile__int64_up_l0 (K : Nat) (p0_2 : Int) : Nat → Int → (List Pile_item__int64) → Option (List Pile_item__int64)
  | 0, _, _ => none
  | k + 1, i1, l2 => (if 0 < i1 then ((pile_Pile__int64_ahead l2 p0_2 i1 (bShr .i64 (w64 (i1 - 1)) 1)).bind fun x1 => (if (!x1) = true then (some (l2)) else (if 0 ≤ (bShr .i64 (w64 (i1 - 1)) 1) then (if (bShr .i64 (w64 (i1 - 1)) 1) < (l2.length : Int) then (if 0 ≤ i1 then (if i1 < (l2.length : Int) then (if (bShr .i64 (w64 (i1 - 1)) 1) < ((l2.set i1.toNat (⟨(l2.getD ((bShr .i64 (w64 (i1 - 1)) 1).toNat) z_Pile_item__int64).x, (l2.getD ((bShr .i64 (w64 (i1 - 1)) 1).toNat) z_Pile_item__int64).n⟩ : Pile_item__int64)).length : Int) then (pile_Pile__int64_up_l0 K p0_2 k (bShr .i64 (w64 (i1 - 1)) 1) ((l2.set i1.toNat (⟨(l2.getD ((bShr .i64 (w64 (i1 - 1)) 1).toNat) z_Pile_item__int64).x, (l2.getD ((bShr .i64 (w64 (i1 - 1)) 1).toNat) z_Pile_item__int64).n⟩ : Pile_item__int64)).set ((bShr .i64 (w64 (i1 - 1)) 1).toNat) (⟨(l2.getD i1.toNat z_Pile_item__int64).x, (l2.getD i1.toNat z_Pile_item__int64).n⟩ : Pile_item__int64))) else none) else none) else none) else none) else none))) else (some (l2)))
def pile_Pile__int64_up (K : Nat) (l0 : List Pile_item__int64) (p0_2 : Int) (a1 : Int) : Option (List Pile_item__int64) := (pile_Pile__int64_up_l0 K p0_2 K a1 l0)

def pile_Pile__int64_Push (K : Nat) (p0_2 : Int) (a1 : Int) : Option ((List Pile_item__int64) × Int) := (if (([] : List Pile_item__int64).length + [(⟨a1, p0_2⟩ : Pile_item__int64)].length) * 16 ≤ 140737488355328 then ((pile_Pile__int64_up K (([] : List Pile_item__int64) ++ [(⟨a1, p0_2⟩ : Pile_item__int64)]) (w64 (p0_2 + 1)) (w64 (((([] : List Pile_item__int64) ++ [(⟨a1, p0_2⟩ : Pile_item__int64)]).length : Int) - 1))).bind fun x1 => (some ((x1, w64 (p0_2 + 1))))) else none)

def pile_Pile__int64_Push_2 (K : Nat) (l0 : List Pile_item__int64) (p0_2 : Int) (a1 : Int) : Option ((List Pile_item__int64) × Int) := (if (l0.length + [(⟨a1, p0_2⟩ : Pile_item__int64)].length) * 16 ≤ 140737488355328 then ((pile_Pile__int64_up K (l0 ++ [(⟨a1, p0_2⟩ : Pile_item__int64)]) (w64 (p0_2 + 1)) (w64 (((l0 ++ [(⟨a1, p0_2⟩ : Pile_item__int64)]).length : Int) - 1))).bind fun x1 => (some ((x1, w64 (p0_2 + 1))))) else none)

def pile_Pile__int64_Len (l0 : List Pile_item__int64) (p0_2 : Int) : Int := ((l0.length : Int))

def pile_Pile__int64_Top (l0 : List Pile_item__int64) (p0_2 : Int) : Option (Int × Bool) := (thn (pile_Pile__int64_Len l0 p0_2) fun x1 => (if x1 = 0 then (some ((0, false))) else (if 0 < (l0.length : Int) then (some (((l0.getD ((0 : Int).toNat) z_Pile_item__int64).x, true))) else none)))

def pile_Pile__int64_down_l1 (K : Nat) (p0_2 : Int) (i1 : Int) (l2 : List Pile_item__int64) : Nat → Int → Int → Option Int
  | 0, _, _ => none
  | k + 1, i3, i4 => (if i4 ≤ (w64 ((bShl .i64 i1 1) + 2)) then (if i4 < (l2.length : Int) then ((pile_Pile__int64_ahead l2 p0_2 i4 i3).bind fun x2 => (if x2 = true then (pile_Pile__int64_down_l1 K p0_2 i1 l2 k i4 (w64 (i4 + 1))) else (pile_Pile__int64_down_l1 K p0_2 i1 l2 k i3 (w64 (i4 + 1))))) else (some (i3))) else (some (i3)))
def pile_Pile__int64_down_l0 (K : Nat) (p0_2 : Int) : Nat → Int → (List Pile_item__int64) → Option (List Pile_item__int64)
  | 0, _, _ => none
  | k + 1, i1, l2 => (Option.bind (pile_Pile__int64_down_l1 K p0_2 i1 l2 K i1 (w64 ((bShl .i64 i1 1) + 1))) fun x1 => (if x1 = i1 then (some (l2)) else (if 0 ≤ x1 then (if x1 < (l2.length : Int) then (if 0 ≤ i1 then (if i1 < (l2.length : Int) then (if x1 < ((l2.set i1.toNat (⟨(l2.getD x1.toNat z_Pile_item__int64).x, (l2.getD x1.toNat z_Pile_item__int64).n⟩ : Pile_item__int64)).length : Int) then (pile_Pile__int64_down_l0 K p0_2 k x1 ((l2.set i1.toNat (⟨(l2.getD x1.toNat z_Pile_item__int64).x, (l2.getD x1.toNat z_Pile_item__int64).n⟩ : Pile_item__int64)).set x1.toNat (⟨(l2.getD i1.toNat z_Pile_item__int64).x, (l2.getD i1.toNat z_Pile_item__int64).n⟩ : Pile_item__int64))) else none) else none) else none) else none) else none)))
def pile_Pile__int64_down (K : Nat) (l0 : List Pile_item__int64) (p0_2 : Int) (a1 : Int) : Option (List Pile_item__int64) := (pile_Pile__int64_down_l0 K p0_2 K a1 l0)

def pile_Pile__int64_Pop (K : Nat) (l0 : List Pile_item__int64) (p0_2 : Int) : Option (Bool × (List Pile_item__int64) × Int) := ((pile_Pile__int64_Top l0 p0_2).bind fun x1 => (if (!x1.2) = true then (some ((false, l0, x1.1))) else (if 0 ≤ (w64 ((l0.length : Int) - 1)) then (if (w64 ((l0.length : Int) - 1)) < (l0.length : Int) then (if 0 < (l0.length : Int) then (if (w64 ((l0.length : Int) - 1)) ≤ ((l0.set ((0 : Int).toNat) (⟨(l0.getD ((w64 ((l0.length : Int) - 1)).toNat) z_Pile_item__int64).x, (l0.getD ((w64 ((l0.length : Int) - 1)).toNat) z_Pile_item__int64).n⟩ : Pile_item__int64)).length : Int) then ((pile_Pile__int64_down K ((l0.set ((0 : Int).toNat) (⟨(l0.getD ((w64 ((l0.length : Int) - 1)).toNat) z_Pile_item__int64).x, (l0.getD ((w64 ((l0.length : Int) - 1)).toNat) z_Pile_item__int64).n⟩ : Pile_item__int64)).take (w64 ((l0.length : Int) - 1)).toNat) p0_2 0).bind fun x2 => (some ((true, x2, x1.1)))) else none) else none) else none) else none)))

def ossuarylaw07_alive (K : Nat) : Option Bool := (thn (pile_New__int64) fun x1 => ((pile_Pile__int64_Push K x1 5).bind fun x2 => ((pile_Pile__int64_Push_2 K x2.1 x2.2 2).bind fun x3 => ((pile_Pile__int64_Push_2 K x3.1 x3.2 9).bind fun x4 => ((pile_Pile__int64_Pop K x4.1 x4.2).bind fun x5 => (if x5.2.2 = 2 then (if x5.1 = true then (thn (pile_Pile__int64_Len x5.2.1 x4.2) fun x6 => (some ((x6 == 2)))) else (some (false))) else (some (false))))))))

def pile_New__ossuaryref07_Item : Int := (0)

def ossuarylaw07_lighter (a0_0 : Int) (a0_1 : List UInt8) (a1_0 : Int) (a1_1 : List UInt8) : Bool := (decide (a0_0 < a1_0))

def pile_Pile__ossuaryref07_Item_ahead (l0 : List Pile_item__ossuaryref07_Item) (p0_2 : Int) (a1 : Int) (a2 : Int) : Option Bool := (if 0 ≤ a1 then (if a1 < (l0.length : Int) then (if 0 ≤ a2 then (if a2 < (l0.length : Int) then (thn (ossuarylaw07_lighter (((l0.getD a1.toNat z_Pile_item__ossuaryref07_Item).x).Weight) (((l0.getD a1.toNat z_Pile_item__ossuaryref07_Item).x).Name) (((l0.getD a2.toNat z_Pile_item__ossuaryref07_Item).x).Weight) (((l0.getD a2.toNat z_Pile_item__ossuaryref07_Item).x).Name)) fun x1 => (if x1 = true then (some (true)) else (thn (ossuarylaw07_lighter (((l0.getD a2.toNat z_Pile_item__ossuaryref07_Item).x).Weight) (((l0.getD a2.toNat z_Pile_item__ossuaryref07_Item).x).Name) (((l0.getD a1.toNat z_Pile_item__ossuaryref07_Item).x).Weight) (((l0.getD a1.toNat z_Pile_item__ossuaryref07_Item).x).Name)) fun x2 => (if x2 = true then (some (false)) else (some (decide (((l0.getD a1.toNat z_Pile_item__ossuaryref07_Item).n) < ((l0.getD a2.toNat z_Pile_item__ossuaryref07_Item).n)))))))) else none) else none) else none) else none)

def pile_Pile__ossuaryref07_Item_up_l0 (K : Nat) (p0_2 : Int) : Nat → Int → (List Pile_item__ossuaryref07_Item) → Option (List Pile_item__ossuaryref07_Item)
  | 0, _, _ => none
  | k + 1, i1, l2 => (if 0 < i1 then ((pile_Pile__ossuaryref07_Item_ahead l2 p0_2 i1 (bShr .i64 (w64 (i1 - 1)) 1)).bind fun x1 => (if (!x1) = true then (some (l2)) else (if 0 ≤ (bShr .i64 (w64 (i1 - 1)) 1) then (if (bShr .i64 (w64 (i1 - 1)) 1) < (l2.length : Int) then (if 0 ≤ i1 then (if i1 < (l2.length : Int) then (if (bShr .i64 (w64 (i1 - 1)) 1) < ((l2.set i1.toNat (⟨(⟨((l2.getD ((bShr .i64 (w64 (i1 - 1)) 1).toNat) z_Pile_item__ossuaryref07_Item).x).Weight, ((l2.getD ((bShr .i64 (w64 (i1 - 1)) 1).toNat) z_Pile_item__ossuaryref07_Item).x).Name⟩ : Ossuaryref07_Item), (l2.getD ((bShr .i64 (w64 (i1 - 1)) 1).toNat) z_Pile_item__ossuaryref07_Item).n⟩ : Pile_item__ossuaryref07_Item)).length : Int) then (pile_Pile__ossuaryref07_Item_up_l0 K p0_2 k (bShr .i64 (w64 (i1 - 1)) 1) ((l2.set i1.toNat (⟨(⟨((l2.getD ((bShr .i64 (w64 (i1 - 1)) 1).toNat) z_Pile_item__ossuaryref07_Item).x).Weight, ((l2.getD ((bShr .i64 (w64 (i1 - 1)) 1).toNat) z_Pile_item__ossuaryref07_Item).x).Name⟩ : Ossuaryref07_Item), (l2.getD ((bShr .i64 (w64 (i1 - 1)) 1).toNat) z_Pile_item__ossuaryref07_Item).n⟩ : Pile_item__ossuaryref07_Item)).set ((bShr .i64 (w64 (i1 - 1)) 1).toNat) (⟨(⟨((l2.getD i1.toNat z_Pile_item__ossuaryref07_Item).x).Weight, ((l2.getD i1.toNat z_Pile_item__ossuaryref07_Item).x).Name⟩ : Ossuaryref07_Item), (l2.getD i1.toNat z_Pile_item__ossuaryref07_Item).n⟩ : Pile_item__ossuaryref07_Item))) else none) else none) else none) else none) else none))) else (some (l2)))
def pile_Pile__ossuaryref07_Item_up (K : Nat) (l0 : List Pile_item__ossuaryref07_Item) (p0_2 : Int) (a1 : Int) : Option (List Pile_item__ossuaryref07_Item) := (pile_Pile__ossuaryref07_Item_up_l0 K p0_2 K a1 l0)

def pile_Pile__ossuaryref07_Item_Len_2 (l0 : List Pile_item__ossuaryref07_Item) (p0_2 : Int) : Int := ((l0.length : Int))

def pile_Pile__ossuaryref07_Item_Top_2 (l0 : List Pile_item__ossuaryref07_Item) (p0_2 : Int) : Option (Int × (List UInt8) × Bool) := (thn (pile_Pile__ossuaryref07_Item_Len_2 l0 p0_2) fun x1 => (if x1 = 0 then (some ((0, ([] : List UInt8), false))) else (if 0 < (l0.length : Int) then (some ((((l0.getD ((0 : Int).toNat) z_Pile_item__ossuaryref07_Item).x).Weight, ((l0.getD ((0 : Int).toNat) z_Pile_item__ossuaryref07_Item).x).Name, true))) else none)))

def pile_Pile__ossuaryref07_Item_Push_2 (K : Nat) (l0 : List Pile_item__ossuaryref07_Item) (p0_2 : Int) (a1_0 : Int) (a1_1 : List UInt8) : Option ((List Pile_item__ossuaryref07_Item) × Int) := (if (l0.length + [(⟨(⟨a1_0, a1_1⟩ : Ossuaryref07_Item), p0_2⟩ : Pile_item__ossuaryref07_Item)].length) * 32 ≤ 140737488355328 then ((pile_Pile__ossuaryref07_Item_up K (l0 ++ [(⟨(⟨a1_0, a1_1⟩ : Ossuaryref07_Item), p0_2⟩ : Pile_item__ossuaryref07_Item)]) (w64 (p0_2 + 1)) (w64 (((l0 ++ [(⟨(⟨a1_0, a1_1⟩ : Ossuaryref07_Item), p0_2⟩ : Pile_item__ossuaryref07_Item)]).length : Int) - 1))).bind fun x1 => (some ((x1, w64 (p0_2 + 1))))) else none)

def pile_Pile__ossuaryref07_Item_down_l1 (K : Nat) (p0_2 : Int) (i1 : Int) (l2 : List Pile_item__ossuaryref07_Item) : Nat → Int → Int → Option Int
  | 0, _, _ => none
  | k + 1, i3, i4 => (if i4 ≤ (w64 ((bShl .i64 i1 1) + 2)) then (if i4 < (l2.length : Int) then ((pile_Pile__ossuaryref07_Item_ahead l2 p0_2 i4 i3).bind fun x2 => (if x2 = true then (pile_Pile__ossuaryref07_Item_down_l1 K p0_2 i1 l2 k i4 (w64 (i4 + 1))) else (pile_Pile__ossuaryref07_Item_down_l1 K p0_2 i1 l2 k i3 (w64 (i4 + 1))))) else (some (i3))) else (some (i3)))
def pile_Pile__ossuaryref07_Item_down_l0 (K : Nat) (p0_2 : Int) : Nat → Int → (List Pile_item__ossuaryref07_Item) → Option (List Pile_item__ossuaryref07_Item)
  | 0, _, _ => none
  | k + 1, i1, l2 => (Option.bind (pile_Pile__ossuaryref07_Item_down_l1 K p0_2 i1 l2 K i1 (w64 ((bShl .i64 i1 1) + 1))) fun x1 => (if x1 = i1 then (some (l2)) else (if 0 ≤ x1 then (if x1 < (l2.length : Int) then (if 0 ≤ i1 then (if i1 < (l2.length : Int) then (if x1 < ((l2.set i1.toNat (⟨(⟨((l2.getD x1.toNat z_Pile_item__ossuaryref07_Item).x).Weight, ((l2.getD x1.toNat z_Pile_item__ossuaryref07_Item).x).Name⟩ : Ossuaryref07_Item), (l2.getD x1.toNat z_Pile_item__ossuaryref07_Item).n⟩ : Pile_item__ossuaryref07_Item)).length : Int) then (pile_Pile__ossuaryref07_Item_down_l0 K p0_2 k x1 ((l2.set i1.toNat (⟨(⟨((l2.getD x1.toNat z_Pile_item__ossuaryref07_Item).x).Weight, ((l2.getD x1.toNat z_Pile_item__ossuaryref07_Item).x).Name⟩ : Ossuaryref07_Item), (l2.getD x1.toNat z_Pile_item__ossuaryref07_Item).n⟩ : Pile_item__ossuaryref07_Item)).set x1.toNat (⟨(⟨((l2.getD i1.toNat z_Pile_item__ossuaryref07_Item).x).Weight, ((l2.getD i1.toNat z_Pile_item__ossuaryref07_Item).x).Name⟩ : Ossuaryref07_Item), (l2.getD i1.toNat z_Pile_item__ossuaryref07_Item).n⟩ : Pile_item__ossuaryref07_Item))) else none) else none) else none) else none) else none)))
def pile_Pile__ossuaryref07_Item_down (K : Nat) (l0 : List Pile_item__ossuaryref07_Item) (p0_2 : Int) (a1 : Int) : Option (List Pile_item__ossuaryref07_Item) := (pile_Pile__ossuaryref07_Item_down_l0 K p0_2 K a1 l0)

def pile_Pile__ossuaryref07_Item_Pop_2 (K : Nat) (l0 : List Pile_item__ossuaryref07_Item) (p0_2 : Int) : Option (Bool × (List Pile_item__ossuaryref07_Item) × Int × (List UInt8)) := ((pile_Pile__ossuaryref07_Item_Top_2 l0 p0_2).bind fun x1 => (if (!x1.2.2) = true then (some ((false, l0, x1.1, x1.2.1))) else (if 0 ≤ (w64 ((l0.length : Int) - 1)) then (if (w64 ((l0.length : Int) - 1)) < (l0.length : Int) then (if 0 < (l0.length : Int) then (if (w64 ((l0.length : Int) - 1)) ≤ ((l0.set ((0 : Int).toNat) (⟨(⟨((l0.getD ((w64 ((l0.length : Int) - 1)).toNat) z_Pile_item__ossuaryref07_Item).x).Weight, ((l0.getD ((w64 ((l0.length : Int) - 1)).toNat) z_Pile_item__ossuaryref07_Item).x).Name⟩ : Ossuaryref07_Item), (l0.getD ((w64 ((l0.length : Int) - 1)).toNat) z_Pile_item__ossuaryref07_Item).n⟩ : Pile_item__ossuaryref07_Item)).length : Int) then ((pile_Pile__ossuaryref07_Item_down K ((l0.set ((0 : Int).toNat) (⟨(⟨((l0.getD ((w64 ((l0.length : Int) - 1)).toNat) z_Pile_item__ossuaryref07_Item).x).Weight, ((l0.getD ((w64 ((l0.length : Int) - 1)).toNat) z_Pile_item__ossuaryref07_Item).x).Name⟩ : Ossuaryref07_Item), (l0.getD ((w64 ((l0.length : Int) - 1)).toNat) z_Pile_item__ossuaryref07_Item).n⟩ : Pile_item__ossuaryref07_Item)).take (w64 ((l0.length : Int) - 1)).toNat) p0_2 0).bind fun x2 => (some ((true, x2, x1.1, x1.2.1)))) else none) else none) else none) else none)))

def ossuaryref07_Pile_Push_3_l0 (K : Nat) (l0 : List Ossuaryref07_Item) (a1_0 : Int) : Nat → Int → Option Int
  | 0, _ => none
  | k + 1, i2 => (if i2 < (l0.length : Int) then (if 0 ≤ i2 then (if ((l0.getD i2.toNat z_Ossuaryref07_Item).Weight) ≤ a1_0 then (ossuaryref07_Pile_Push_3_l0 K l0 a1_0 k (w64 (i2 + 1))) else (some (i2))) else none) else (some (i2)))
def ossuaryref07_Pile_Push_3 (K : Nat) (l0 : List Ossuaryref07_Item) (a1_0 : Int) (a1_1 : List UInt8) : Option (List Ossuaryref07_Item) := (Option.bind (ossuaryref07_Pile_Push_3_l0 K l0 a1_0 K 0) fun x1 => (if 0 ≤ x1 then (if x1 ≤ (l0.length : Int) then (if (([] : List Ossuaryref07_Item).length + (l0.take x1.toNat).length) * 24 ≤ 140737488355328 then (if ((([] : List Ossuaryref07_Item) ++ (l0.take x1.toNat)).length + [(⟨a1_0, a1_1⟩ : Ossuaryref07_Item)].length) * 24 ≤ 140737488355328 then (if (((([] : List Ossuaryref07_Item) ++ (l0.take x1.toNat)) ++ [(⟨a1_0, a1_1⟩ : Ossuaryref07_Item)]).length + (l0.drop x1.toNat).length) * 24 ≤ 140737488355328 then (some ((((([] : List Ossuaryref07_Item) ++ (l0.take x1.toNat)) ++ [(⟨a1_0, a1_1⟩ : Ossuaryref07_Item)]) ++ (l0.drop x1.toNat)))) else none) else none) else none) else none) else none))

def ossuaryref07_Pile_Pop_3 (l0 : List Ossuaryref07_Item) : Option (Int × (List UInt8) × Bool × (List Ossuaryref07_Item)) := (if (l0.length : Int) = 0 then (some ((0, ([] : List UInt8), false, l0))) else (if 0 < (l0.length : Int) then (if 1 ≤ (l0.length : Int) then (some (((l0.getD ((0 : Int).toNat) z_Ossuaryref07_Item).Weight, (l0.getD ((0 : Int).toNat) z_Ossuaryref07_Item).Name, true, (l0.drop (1 : Int).toNat)))) else none) else none))

def pile_Pile__ossuaryref07_Item_Sorted_l0 (K : Nat) (p0_2 : Int) : Nat → (List Ossuaryref07_Item) → (List Pile_item__ossuaryref07_Item) → Option (List Ossuaryref07_Item)
  | 0, _, _ => none
  | k + 1, l2, l3 => ((pile_Pile__ossuaryref07_Item_Pop_2 K l3 p0_2).bind fun x1 => (if (!x1.1) = true then (some (l2)) else (if (l2.length + [(⟨x1.2.2.1, x1.2.2.2⟩ : Ossuaryref07_Item)].length) * 24 ≤ 140737488355328 then (pile_Pile__ossuaryref07_Item_Sorted_l0 K p0_2 k (l2 ++ [(⟨x1.2.2.1, x1.2.2.2⟩ : Ossuaryref07_Item)]) x1.2.1) else none)))
def pile_Pile__ossuaryref07_Item_Sorted (K : Nat) (l0 : List Pile_item__ossuaryref07_Item) (p0_2 : Int) : Option (List Ossuaryref07_Item) := (if (([] : List Pile_item__ossuaryref07_Item).length + l0.length) * 32 ≤ 140737488355328 then (pile_Pile__ossuaryref07_Item_Sorted_l0 K p0_2 K ([] : List Ossuaryref07_Item) (([] : List Pile_item__ossuaryref07_Item) ++ l0)) else none)

def ossuaryref07_Same_l0 (K : Nat) (l0 : List Ossuaryref07_Item) (l1 : List Ossuaryref07_Item) : Nat → Int → Option Bool
  | 0, _ => none
  | k + 1, i1 => (if i1 < (l0.length : Int) then (if 0 ≤ i1 then (if i1 < (l1.length : Int) then (if (!((((l0.getD i1.toNat z_Ossuaryref07_Item).Weight) == ((l1.getD i1.toNat z_Ossuaryref07_Item).Weight)) && ((((l0.getD i1.toNat z_Ossuaryref07_Item).Name) == ((l1.getD i1.toNat z_Ossuaryref07_Item).Name)) && true))) = true then (some (false)) else (ossuaryref07_Same_l0 K l0 l1 k (w64 (i1 + 1)))) else none) else none) else (some (true)))
def ossuaryref07_Same (K : Nat) (l0 : List Ossuaryref07_Item) (l1 : List Ossuaryref07_Item) : Option Bool := (if ¬ ((l0.length : Int) = (l1.length : Int)) then (some (false)) else (ossuaryref07_Same_l0 K l0 l1 K 0))

def ossuarylaw07_PilePlays_l0 (K : Nat) (l0 : List Ossuarylaw07_Act) : Nat → Int → (List Pile_item__ossuaryref07_Item) → Int → (List Ossuaryref07_Item) → Option (Sum ((List Pile_item__ossuaryref07_Item) × Int × (List Ossuaryref07_Item)) Bool)
  | 0, _, _, _, _ => none
  | k + 1, i2, l3, i3, l5 => (if i2 < (l0.length : Int) then (Option.bind (if 0 ≤ i2 then (if ((l0.getD i2.toNat z_Ossuarylaw07_Act).Kind) = 0 then ((pile_Pile__ossuaryref07_Item_Push_2 K l3 i3 (((l0.getD i2.toNat z_Ossuarylaw07_Act).X).Weight) (((l0.getD i2.toNat z_Ossuarylaw07_Act).X).Name)).bind fun x5 => ((ossuaryref07_Pile_Push_3 K l5 (((l0.getD i2.toNat z_Ossuarylaw07_Act).X).Weight) (((l0.getD i2.toNat z_Ossuarylaw07_Act).X).Name)).bind fun x6 => (some (Sum.inl (x5.1, x5.2, x6))))) else (if ((l0.getD i2.toNat z_Ossuarylaw07_Act).Kind) = 1 then ((pile_Pile__ossuaryref07_Item_Pop_2 K l3 i3).bind fun x7 => ((ossuaryref07_Pile_Pop_3 l5).bind fun x8 => (if (!((x7.2.2.1 == x8.1) && ((x7.2.2.2 == x8.2.1) && true))) = true then (some (Sum.inr (Sum.inr (false)))) else (if (x7.1 != x8.2.2.1) = true then (some (Sum.inr (Sum.inr (false)))) else (some (Sum.inl (x7.2.1, i3, x8.2.2.2))))))) else (some (Sum.inl (l3, i3, l5))))) else none) fun z => (cas z (fun v2 => ((pile_Pile__ossuaryref07_Item_Top_2 v2.1 v2.2.1).bind fun x9 => (if (x9.2.2 != (decide (0 < (v2.2.2.length : Int)))) = true then (some (Sum.inr (false))) else (if x9.2.2 = true then (if 0 < (v2.2.2.length : Int) then (if (!((x9.1 == ((v2.2.2.getD ((0 : Int).toNat) z_Ossuaryref07_Item).Weight)) && ((x9.2.1 == ((v2.2.2.getD ((0 : Int).toNat) z_Ossuaryref07_Item).Name)) && true))) = true then (some (Sum.inr (false))) else (thn (pile_Pile__ossuaryref07_Item_Len_2 v2.1 v2.2.1) fun x10 => (if ¬ (x10 = (v2.2.2.length : Int)) then (some (Sum.inr (false))) else (ossuarylaw07_PilePlays_l0 K l0 k (w64 (i2 + 1)) v2.1 v2.2.1 v2.2.2)))) else none) else (thn (pile_Pile__ossuaryref07_Item_Len_2 v2.1 v2.2.1) fun x11 => (if ¬ (x11 = (v2.2.2.length : Int)) then (some (Sum.inr (false))) else (ossuarylaw07_PilePlays_l0 K l0 k (w64 (i2 + 1)) v2.1 v2.2.1 v2.2.2))))))) (fun t_ => (some (t_))))) else (some (Sum.inl (l3, i3, l5))))
def ossuarylaw07_PilePlays (K : Nat) (l0 : List Ossuarylaw07_Act) : Option Bool := (if 150 < (l0.length : Int) then ((ossuarylaw07_alive K).bind fun x1 => (some (x1))) else (thn (pile_New__ossuaryref07_Item) fun x2 => (Option.bind (ossuarylaw07_PilePlays_l0 K l0 K 0 ([] : List Pile_item__ossuaryref07_Item) x2 ([] : List Ossuaryref07_Item)) fun z => (cas z (fun v1 => ((pile_Pile__ossuaryref07_Item_Sorted K v1.1 v1.2.1).bind fun x12 => ((ossuaryref07_Same K x12 v1.2.2).bind fun x13 => (if x13 = true then (thn (pile_Pile__ossuaryref07_Item_Len_2 v1.1 v1.2.1) fun x14 => (if x14 = (v1.2.2.length : Int) then ((ossuarylaw07_alive K).bind fun x15 => (some (x15))) else (some (false)))) else (some (false)))))) (fun t_ => (some (t_)))))))

end Go.Proofs.Ytmhhjhckbiaidaa.PilePlays
