/- Printed by gen.py: the plain functions that PileOrders comes to. -/
import Derived.Test.YtmhhjhckbiaidaaEArith
set_option linter.unusedVariables false
namespace Go.Proofs.Ytmhhjhckbiaidaa.PileOrders
open Go E

structure Pile_item__int64 where
  x : Int
  n : Int
  deriving DecidableEq
def z_Pile_item__int64 : Pile_item__int64 := ⟨0, 0⟩
/-- What an input of this kind keeps to. -/
def ok_Pile_item__int64 (x : Pile_item__int64) : Prop := inI .i64 x.x ∧ inI .i64 x.n
def pile_New__int64 : Int := (0)

def ossuarylaw07_ahead (a0 : Int) (a1 : Int) : Bool := (decide (a0 < a1))

def pile_Pile__int64_ahead (l0 : List Pile_item__int64) (p0_2 : Int) (a1 : Int) (a2 : Int) : Option Bool := (if 0 ≤ a1 then (if a1 < (l0.length : Int) then (if 0 ≤ a2 then (if a2 < (l0.length : Int) then (thn (ossuarylaw07_ahead ((l0.getD a1.toNat z_Pile_item__int64).x) ((l0.getD a2.toNat z_Pile_item__int64).x)) fun x1 => (if x1 = true then (some (true)) else (thn (ossuarylaw07_ahead ((l0.getD a2.toNat z_Pile_item__int64).x) ((l0.getD a1.toNat z_Pile_item__int64).x)) fun x2 => (if x2 = true then (some (false)) else (some (decide (((l0.getD a1.toNat z_Pile_item__int64).n) < ((l0.getD a2.toNat z_Pile_item__int64).n)))))))) else none) else none) else none) else none)

def pile_Pile__int64_up_l0 (K : Nat) (p0_2 : Int) : Nat → Int → (List Pile_item__int64) → Option (List Pile_item__int64)
  | 0, _, _ => none
  | k + 1, i1, l2 => (if 0 < i1 then ((pile_Pile__int64_ahead l2 p0_2 i1 (bShr .i64 (w64 (i1 - 1)) 1)).bind fun x1 => (if (!x1) = true then (some (l2)) else (if 0 ≤ (bShr .i64 (w64 (i1 - 1)) 1) then (if (bShr .i64 (w64 (i1 - 1)) 1) < (l2.length : Int) then (if 0 ≤ i1 then (if i1 < (l2.length : Int) then (if (bShr .i64 (w64 (i1 - 1)) 1) < ((l2.set i1.toNat (⟨(l2.getD ((bShr .i64 (w64 (i1 - 1)) 1).toNat) z_Pile_item__int64).x, (l2.getD ((bShr .i64 (w64 (i1 - 1)) 1).toNat) z_Pile_item__int64).n⟩ : Pile_item__int64)).length : Int) then (pile_Pile__int64_up_l0 K p0_2 k (bShr .i64 (w64 (i1 - 1)) 1) ((l2.set i1.toNat (⟨(l2.getD ((bShr .i64 (w64 (i1 - 1)) 1).toNat) z_Pile_item__int64).x, (l2.getD ((bShr .i64 (w64 (i1 - 1)) 1).toNat) z_Pile_item__int64).n⟩ : Pile_item__int64)).set ((bShr .i64 (w64 (i1 - 1)) 1).toNat) (⟨(l2.getD i1.toNat z_Pile_item__int64).x, (l2.getD i1.toNat z_Pile_item__int64).n⟩ : Pile_item__int64))) else none) else none) else none) else none) else none))) else (some (l2)))
def pile_Pile__int64_up (K : Nat) (l0 : List Pile_item__int64) (p0_2 : Int) (a1 : Int) : Option (List Pile_item__int64) := (pile_Pile__int64_up_l0 K p0_2 K a1 l0)

def pile_Pile__int64_Push (K : Nat) (p0_2 : Int) (a1 : Int) : Option ((List Pile_item__int64) × Int) := (if (([] : List Pile_item__int64).length + [(⟨a1, p0_2⟩ : Pile_item__int64)].length) * 16 ≤ 140737488355328 then ((pile_Pile__int64_up K (([] : List Pile_item__int64) ++ [(⟨a1, p0_2⟩ : Pile_item__int64)]) (w64 (p0_2 + 1)) (w64 (((([] : List Pile_item__int64) ++ [(⟨a1, p0_2⟩ : Pile_item__int64)]).length : Int) - 1))).bind fun x1 => (some ((x1, w64 (p0_2 + 1))))) else none)

def pile_Pile__int64_Push_2 (K : Nat) (l0 : List Pile_item__int64) (p0_2 : Int) (a1 : Int) : Option ((List Pile_item__int64) × Int) := (if (l0.length + [(⟨a1, p0_2⟩ : Pile_item__int64)].length) * 16 ≤ 140737488355328 then ((pile_Pile__int64_up K (l0 ++ [(⟨a1, p0_2⟩ : Pile_item__int64)]) (w64 (p0_2 + 1)) (w64 (((l0 ++ [(⟨a1, p0_2⟩ : Pile_item__int64)]).length : Int) - 1))).bind fun x1 => (some ((x1, w64 (p0_2 + 1))))) else none)

def pile_Pile__int64_Len (l0 : List Pile_item__int64) (p0_2 : Int) : Int := ((l0.length : Int))

def pile_Pile__int64_Top (l0 : List Pile_item__int64) (p0_2 : Int) : Option (Int × Bool) := (thn (pile_Pile__int64_Len l0 p0_2) fun x1 => (if x1 = 0 then (some ((0, false))) else (if 0 < (l0.length : Int) then (some (((l0.getD ((0 : Int).toNat) z_Pile_item__int64).x, true))) else none)))

def pile_Pile__int64_down_l1 (K : Nat) (p0_2 : Int) (i1 : Int) (l2 : List Pile_item__int64) : Nat → Int → Int → Option Int
  | 0, _, _ => none
  | k + 1, i3, i4 => (if i4 ≤ (w64 ((bShl .i64 i1 1) + 2)) then (if i4 < (l2.length : Int) then ((pile_Pile__int64_ahead l2 p0_2 i4 i3).bind fun x2 => (if x2 = true then (pile_Pile__int64_down_l1 K p0_2 i1 l2 k i4 (w64 (i4 + 1))) else (pile_Pile__int64_down_l1 K p0_2 i1 l2 k i3 (w64 (i4 + 1))))) else (some (i3))) else (some (i3)))
def pile_Pile__int64_down_l0 (K : Nat) (p0_2 : Int) : Nat → Int → (List Pile_item__int64) → Option (List Pile_item__int64)
  | 0, _, _ => none
  | k + 1, i1, l2 => (Option.bind (pile_Pile__int64_down_l1 K p0_2 i1 l2 K i1 (w64 ((bShl .i64 i1 1) + 1))) fun x1 => (if x1 = i1 then (some (l2)) else (if 0 ≤ x1 then (if x1 < (l2.length : Int) then (if 0 ≤ i1 then (if i1 < (l2.length : Int) then (if x1 < ((l2.set i1.toNat (⟨(l2.getD x1.toNat z_Pile_item__int64).x, (l2.getD x1.toNat z_Pile_item__int64).n⟩ : Pile_item__int64)).length : Int) then (pile_Pile__int64_down_l0 K p0_2 k x1 ((l2.set i1.toNat (⟨(l2.getD x1.toNat z_Pile_item__int64).x, (l2.getD x1.toNat z_Pile_item__int64).n⟩ : Pile_item__int64)).set x1.toNat (⟨(l2.getD i1.toNat z_Pile_item__int64).x, (l2.getD i1.toNat z_Pile_item__int64).n⟩ : Pile_item__int64))) else none) else none) else none) else none) else none)))
def pile_Pile__int64_down (K : Nat) (l0 : List Pile_item__int64) (p0_2 : Int) (a1 : Int) : Option (List Pile_item__int64) := (pile_Pile__int64_down_l0 K p0_2 K a1 l0)

def pile_Pile__int64_Pop (K : Nat) (l0 : List Pile_item__int64) (p0_2 : Int) : Option (Bool × (List Pile_item__int64) × Int) := ((pile_Pile__int64_Top l0 p0_2).bind fun x1 => (if (!x1.2) = true then (some ((false, l0, x1.1))) else (if 0 ≤ (w64 ((l0.length : Int) - 1)) then (if (w64 ((l0.length : Int) - 1)) < (l0.length : Int) then (if 0 < (l0.length : Int) then (if (w64 ((l0.length : Int) - 1)) ≤ ((l0.set ((0 : Int).toNat) (⟨(l0.getD ((w64 ((l0.length : Int) - 1)).toNat) z_Pile_item__int64).x, (l0.getD ((w64 ((l0.length : Int) - 1)).toNat) z_Pile_item__int64).n⟩ : Pile_item__int64)).length : Int) then ((pile_Pile__int64_down K ((l0.set ((0 : Int).toNat) (⟨(l0.getD ((w64 ((l0.length : Int) - 1)).toNat) z_Pile_item__int64).x, (l0.getD ((w64 ((l0.length : Int) - 1)).toNat) z_Pile_item__int64).n⟩ : Pile_item__int64)).take (w64 ((l0.length : Int) - 1)).toNat) p0_2 0).bind fun x2 => (some ((true, x2, x1.1)))) else none) else none) else none) else none)))

def ossuarylaw07_alive (K : Nat) : Option Bool := (thn (pile_New__int64) fun x1 => ((pile_Pile__int64_Push K x1 5).bind fun x2 => ((pile_Pile__int64_Push_2 K x2.1 x2.2 2).bind fun x3 => ((pile_Pile__int64_Push_2 K x3.1 x3.2 9).bind fun x4 => ((pile_Pile__int64_Pop K x4.1 x4.2).bind fun x5 => (if x5.2.2 = 2 then (if x5.1 = true then (thn (pile_Pile__int64_Len x5.2.1 x4.2) fun x6 => (some ((x6 == 2)))) else (some (false))) else (some (false))))))))

def pile_Pile__int64_Sorted_l0 (K : Nat) (p0_2 : Int) : Nat → (List Int) → (List Pile_item__int64) → Option (List Int)
  | 0, _, _ => none
  | k + 1, l2, l3 => ((pile_Pile__int64_Pop K l3 p0_2).bind fun x1 => (if (!x1.1) = true then (some (l2)) else (if (l2.length + [x1.2.2].length) * 8 ≤ 140737488355328 then (pile_Pile__int64_Sorted_l0 K p0_2 k (l2 ++ [x1.2.2]) x1.2.1) else none)))
def pile_Pile__int64_Sorted (K : Nat) (l0 : List Pile_item__int64) (p0_2 : Int) : Option (List Int) := (if (([] : List Pile_item__int64).length + l0.length) * 16 ≤ 140737488355328 then (pile_Pile__int64_Sorted_l0 K p0_2 K ([] : List Int) (([] : List Pile_item__int64) ++ l0)) else none)

def ossuarylaw07_PileOrders_l0 (K : Nat) (l0 : List Int) : Nat → Int → (List Pile_item__int64) → Int → Option ((List Pile_item__int64) × Int)
  | 0, _, _, _ => none
  | k + 1, i2, l2, i3 => (if i2 < (l0.length : Int) then (if 0 ≤ i2 then ((pile_Pile__int64_Push_2 K l2 i3 (l0.getD i2.toNat 0)).bind fun x4 => (ossuarylaw07_PileOrders_l0 K l0 k (w64 (i2 + 1)) x4.1 x4.2)) else none) else (some ((l2, i3))))
def ossuarylaw07_PileOrders_l2 (K : Nat) (l0 : List Int) (x7 : (Bool × (List Pile_item__int64) × Int)) : Nat → Int → Int → Option Int
  | 0, _, _ => none
  | k + 1, i8, i9 => (if i9 < (l0.length : Int) then (if 0 ≤ i9 then (if (l0.getD i9.toNat 0) = x7.2.2 then (ossuarylaw07_PileOrders_l2 K l0 x7 k (w64 (i8 + 1)) (w64 (i9 + 1))) else (ossuarylaw07_PileOrders_l2 K l0 x7 k i8 (w64 (i9 + 1)))) else none) else (some (i8)))
def ossuarylaw07_PileOrders_l3 (K : Nat) (x7 : (Bool × (List Pile_item__int64) × Int)) (x9 : List Int) : Nat → Int → Int → Option Int
  | 0, _, _ => none
  | k + 1, i11, i12 => (if i12 < (x9.length : Int) then (if 0 ≤ i12 then (if (x9.getD i12.toNat 0) = x7.2.2 then (ossuarylaw07_PileOrders_l3 K x7 x9 k (w64 (i11 + 1)) (w64 (i12 + 1))) else (ossuarylaw07_PileOrders_l3 K x7 x9 k i11 (w64 (i12 + 1)))) else none) else (some (i11)))
def ossuarylaw07_PileOrders_l1 (K : Nat) (l0 : List Int) (x3 : ((List Pile_item__int64) × Int)) : Nat → Int → Int → (List Pile_item__int64) → Option (Sum (List Pile_item__int64) Bool)
  | 0, _, _, _ => none
  | k + 1, i4, i5, l4 => (if i5 < (l0.length : Int) then (Option.bind ((pile_Pile__int64_Pop K l4 x3.2).bind fun x7 => (if (!x7.1) = true then (some (Sum.inr (Sum.inr (false)))) else (if x7.2.2 < i4 then (some (Sum.inr (Sum.inr (false)))) else (Option.bind (ossuarylaw07_PileOrders_l2 K l0 x7 K 0 0) fun x8 => ((pile_Pile__int64_Sorted K x7.2.1 x3.2).bind fun x9 => (Option.bind (ossuarylaw07_PileOrders_l3 K x7 x9 K 0 0) fun x10 => (if x8 ≤ x10 then (some (Sum.inr (Sum.inr (false)))) else (some (Sum.inl (x7.2.1, x7.2.2)))))))))) fun z => (cas z (fun v2 => (ossuarylaw07_PileOrders_l1 K l0 x3 k v2.2 (w64 (i5 + 1)) v2.1)) (fun t_ => (some (t_))))) else (some (Sum.inl l4)))
def ossuarylaw07_PileOrders (K : Nat) (l0 : List Int) : Option Bool := (if 150 < (l0.length : Int) then ((ossuarylaw07_alive K).bind fun x1 => (some (x1))) else (thn (pile_New__int64) fun x2 => (Option.bind (ossuarylaw07_PileOrders_l0 K l0 K 0 ([] : List Pile_item__int64) x2) fun x3 => (Option.bind (ossuarylaw07_PileOrders_l1 K l0 x3 K (-9223372036854775808) 0 x3.1) fun z => (cas z (fun v1 => ((pile_Pile__int64_Pop K v1 x3.2).bind fun x11 => (if (!x11.1) = true then ((ossuarylaw07_alive K).bind fun x12 => (some (x12))) else (some (false))))) (fun t_ => (some (t_))))))))

end Go.Proofs.Ytmhhjhckbiaidaa.PileOrders
