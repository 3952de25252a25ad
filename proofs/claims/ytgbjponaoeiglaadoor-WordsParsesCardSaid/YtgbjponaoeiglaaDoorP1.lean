/- wordsParses_card: a part of what its proof rests on. -/
import Derived.Test.YtgbjponaoeiglaaDoorP0
set_option linter.unusedVariables false
set_option linter.unusedSimpArgs false
section
set_option linter.unusedVariables false
namespace Go.Proofs.YtgbjponaoeiglaaDoor.WordsParses
open Go E
structure iK where
  Hour : Int
  Dims_0 : List UInt8
  Dims_1 : List UInt8
  Dims_2 : List UInt8
  Dims_3 : List UInt8
  deriving DecidableEq
def vN : iK := ⟨0, [], [], [], []⟩
structure aA where
  Key : iK
  Value : Int
  deriving DecidableEq
def ax : aA := ⟨vN, 0⟩
structure aF where
  From : Int
  To : Int
  Group_0 : Bool
  Group_1 : Bool
  Group_2 : Bool
  Group_3 : Bool
  Has_0 : Bool
  Has_1 : Bool
  Has_2 : Bool
  Has_3 : Bool
  Filter_0 : List UInt8
  Filter_1 : List UInt8
  Filter_2 : List UInt8
  Filter_3 : List UInt8
  deriving DecidableEq
def tg : aF := ⟨0, 0, false, false, false, false, false, false, false, false, [], [], [], []⟩
structure aC where
  Retain : Int
  SealLag : Int
  DayLag : Int
  MonthLag : Int
  ColdLag : Int
  Base : Int
  Cap : Int
  Queue : Int
  Wal : Int
  deriving DecidableEq
def rB : aC := ⟨0, 0, 0, 0, 0, 0, 0, 0, 0⟩
structure aG where
  Kind : Int
  N : Int
  Facts : List aA
  Query : aF
  Rules : aC
  Fails : List Bool
  deriving DecidableEq
def ah : aG := ⟨0, 0, [], tg, rB, []⟩
def strings_Split (a0 a1 : List UInt8) : Option (List (List UInt8)) := match a1 with | [c] => if a0.length < 4294967281 then some (dM c a0) else none | _ => none
def jM (a0 : List UInt8) : Option (List (List UInt8)) := (if a0 = ([] : List UInt8) then (some (([] : List (List UInt8)))) else ((strings_Split a0 ([32] : List UInt8)).bind fun x2 => (some (x2))))
def cL (l0 : List (List UInt8)) (p0_1 : Int) : Option (Option ((List (List UInt8)) × (List UInt8))) := (if 0 < (l0.length : Int) then (if 1 ≤ (l0.length : Int) then (some (some ((l0.drop (1 : Int).toNat), (l0.getD ((0 : Int).toNat) [])))) else none) else (some (none)))
def bq (l0 : List (List UInt8)) (p0_1 : Int) : Option (Option ((List (List UInt8)) × (List UInt8))) := (if 0 < (l0.length : Int) then (if 1 ≤ (l0.length : Int) then (some (some ((l0.drop (1 : Int).toNat), (l0.getD ((0 : Int).toNat) [])))) else none) else (some (none)))
def kt (a0 : Int) : Bool := (if (Int.tmod a0 4) = 0 then (if ¬ ((Int.tmod a0 100) = 0) then (true) else (((Int.tmod a0 400) == 0))) else (((Int.tmod a0 400) == 0)))
def hO (a0 : Int) (a1 : Int) : Int := (if a1 < 1 then (0) else (if 12 < a1 then (0) else (if a1 = 2 then (kh (kt a0) fun x4 => (if x4 = true then (29) else (28))) else (bm (30 + (zL .i64 (bm (a1 + (Ac .i64 a1 3))) 1))))))
def js (a0 : Int) (a1 : Int) (a2 : Int) : Int := (kh (if (bm (a1 - 3)) < 0 then ((bm (a0 - 1), bm ((bm (a1 - 3)) + 12))) else ((a0, bm (a1 - 3)))) fun x2 => (bm ((bm ((bm ((bm (Int.tdiv x2.1 400)) * 146097)) + (bm ((bm ((bm ((bm ((bm ((bm (365 * (Int.tmod x2.1 400))) + (bm (Int.tdiv (Int.tmod x2.1 400) 4)))) - (bm (Int.tdiv (Int.tmod x2.1 400) 100)))) + (bm (Int.tdiv (bm ((bm (153 * x2.2)) + 2)) 5)))) + a2)) - 1)))) - 719468)))
def ju (a0 : Int) (a1 : Int) (a2 : Int) : (Int × Bool) := (if a0 < 1970 then ((0, false)) else (if 4900 < a0 then ((0, false)) else (if a2 < 1 then ((0, false)) else (kh (hO a0 a1) fun x5 => (if x5 < a2 then ((0, false)) else (kh (js a0 a1 a2) fun x6 => ((x6, true))))))))
def dC (K : Nat) (a0 : List UInt8) : Nat → Int → Int → Int → Int → Int → Int → Option (Sum (Int × Int × Int × Int) (Int × Bool))
  | 0, _, _, _, _, _, _ => none
  | k + 1, i30, i31, i33, i34, i35, i36 => (if i31 < ((dj a0).length : Int) then (if 0 ≤ i31 then (if i31 < (([48, 48, 48, 48, 45, 48, 48, 45, 48, 48, 84, 48, 48] : List UInt8).length : Int) then (if ¬ (((([48, 48, 48, 48, 45, 48, 48, 45, 48, 48, 84, 48, 48] : List UInt8).getD i31.toNat 0).toNat : Int) = 48) then (if ¬ (((dj a0).getD i31.toNat 0) = ((([48, 48, 48, 48, 45, 48, 48, 45, 48, 48, 84, 48, 48] : List UInt8).getD i31.toNat 0).toNat : Int)) then (some (Sum.inr ((0, false)))) else (dC K a0 k (bm (i30 + 1)) (bm (i31 + 1)) i33 i34 i35 i36)) else (if ((dj a0).getD i31.toNat 0) < 48 then (some (Sum.inr ((0, false)))) else (if 57 < ((dj a0).getD i31.toNat 0) then (some (Sum.inr ((0, false)))) else (if 0 ≤ i30 then (if i30 < (4 : Int) then (dC K a0 k i30 (bm (i31 + 1)) (if i30.toNat = 0 then bm ((bm (([i33, i34, i35, i36].getD i30.toNat 0) * 10)) + (bm (dR (((dj a0).getD i31.toNat 0) - 48)))) else i33) (if i30.toNat = 1 then bm ((bm (([i33, i34, i35, i36].getD i30.toNat 0) * 10)) + (bm (dR (((dj a0).getD i31.toNat 0) - 48)))) else i34) (if i30.toNat = 2 then bm ((bm (([i33, i34, i35, i36].getD i30.toNat 0) * 10)) + (bm (dR (((dj a0).getD i31.toNat 0) - 48)))) else i35) (if i30.toNat = 3 then bm ((bm (([i33, i34, i35, i36].getD i30.toNat 0) * 10)) + (bm (dR (((dj a0).getD i31.toNat 0) - 48)))) else i36)) else none) else none)))) else none) else none) else (some (Sum.inl (i33, i34, i35, i36))))
def jL (K : Nat) (a0 : List UInt8) : Option (Int × Bool) := (if ¬ ((a0.length : Int) = 13) then (some ((0, false))) else (Option.bind (if a0.length ≤ 9223372036854775807 then (dC K a0 K 0 0 0 0 0 0) else none) fun z => (mB z (fun v2 => (if 0 < (4 : Int) then (if 1 < (4 : Int) then (if 2 < (4 : Int) then (kh (ju v2.1 v2.2.1 v2.2.2.1) fun x4 => (if 3 < (4 : Int) then (if (!x4.2) = true then (some ((0, false))) else (if 24 ≤ v2.2.2.2 then (some ((0, false))) else (if 16777216 < (bm ((bm (x4.1 * 24)) + v2.2.2.2)) then (some ((0, false))) else (some ((bm ((bm (x4.1 * 24)) + v2.2.2.2), true)))))) else none)) else none) else none) else none)) (fun t_ => (some (t_))))))
def gD (a0 : Int) : Bool := (kh (if 48 ≤ a0 then (if a0 ≤ 57 then (decide (a0 ≤ 57)) else (if 97 ≤ a0 then (if a0 ≤ 122 then (decide (a0 ≤ 122)) else (if 65 ≤ a0 then (decide (a0 ≤ 90)) else (false))) else (if 65 ≤ a0 then (decide (a0 ≤ 90)) else (false)))) else (if 97 ≤ a0 then (if a0 ≤ 122 then (decide (a0 ≤ 122)) else (if 65 ≤ a0 then (decide (a0 ≤ 90)) else (false))) else (if 65 ≤ a0 then (decide (a0 ≤ 90)) else (false)))) fun x4 => (if x4 = true then (true) else (if a0 = 95 then (true) else ((a0 == 46)))))
def strings_IndexByte (a0 : List UInt8) (a1 : Int) : Int := sV a0 a1.toNat.toUInt8
def ik (K : Nat) (a0 : List UInt8) : Nat → Int → (List Int) → Option (Sum (List Int) (Bool × (List UInt8)))
  | 0, _, _ => none
  | k + 1, i4, l6 => (if i4 < (a0.length : Int) then (if 0 ≤ i4 then (kh (gD ((a0.getD i4.toNat 0).toNat : Int)) fun x142 => (if x142 = true then (if (l6.length + [((a0.getD i4.toNat 0).toNat : Int)].length) * 1 ≤ 140737488355328 then (ik K a0 k (bm (i4 + 1)) (l6 ++ [((a0.getD i4.toNat 0).toNat : Int)])) else none) else (if ¬ (((a0.getD i4.toNat 0).toNat : Int) = 37) then (some (Sum.inr ((false, ([] : List UInt8))))) else (if (a0.length : Int) ≤ (bm (i4 + 2)) then (some (Sum.inr ((false, ([] : List UInt8))))) else (if 0 ≤ (bm (i4 + 1)) then (if (bm (i4 + 1)) < (a0.length : Int) then (kh (strings_IndexByte ([48, 49, 50, 51, 52, 53, 54, 55, 56, 57, 97, 98, 99, 100, 101, 102] : List UInt8) ((a0.getD (bm (i4 + 1)).toNat 0).toNat : Int)) fun x143 => (if 0 ≤ (bm (i4 + 2)) then (if (bm (i4 + 2)) < (a0.length : Int) then (kh (strings_IndexByte ([48, 49, 50, 51, 52, 53, 54, 55, 56, 57, 97, 98, 99, 100, 101, 102] : List UInt8) ((a0.getD (bm (i4 + 2)).toNat 0).toNat : Int)) fun x144 => (if x143 < 0 then (some (Sum.inr ((false, ([] : List UInt8))))) else (if x144 < 0 then (some (Sum.inr ((false, ([] : List UInt8))))) else (kh (gD (dR (wT .i64 (ot .i64 x143 4) x144))) fun x146 => (if x146 = true then (some (Sum.inr ((false, ([] : List UInt8))))) else (if (l6.length + [dR (wT .i64 (ot .i64 x143 4) x144)].length) * 1 ≤ 140737488355328 then (ik K a0 k (bm ((bm (i4 + 2)) + 1)) (l6 ++ [dR (wT .i64 (ot .i64 x143 4) x144)])) else none)))))) else none) else none)) else none) else none))))) else none) else (some (Sum.inl l6)))
def gi (K : Nat) (a0 : List UInt8) : Option (Bool × (List UInt8)) := (if a0 = ([45] : List UInt8) then (some ((true, ([] : List UInt8)))) else (Option.bind (ik K a0 K 0 ([] : List Int)) fun z => (mB z (fun v2 => (some ((decide (0 < (v2.length : Int)), (lT v2))))) (fun t_ => (some (t_))))))
def cA (K : Nat) (l0 : List (List UInt8)) (p0_1 : Int) : Option (Option ((List (List UInt8)) × (List UInt8))) := ((bq l0 p0_1).bind fun x11 => (oq x11 (some (none)) fun x10 => ((gi K x10.2).bind fun x12 => (if x12.1 = true then (some (some (x10.1, x12.2))) else (some (none))))))
def strings_CutPrefix (a0 a1 : List UInt8) : List UInt8 × Bool := (if a1.isPrefixOf a0 then a0.drop a1.length else a0, a1.isPrefixOf a0)
def gC (K : Nat) (x4 : List UInt8 × Bool) : Nat → Int → Int → Option (Sum Int (Int × Bool))
  | 0, _, _ => none
  | k + 1, i11, i12 => (if i12 < ((dj x4.1).length : Int) then (if 0 ≤ i12 then (if (bm ((bm ((dj x4.1).getD i12.toNat 0)) - 48)) < 0 then (some (Sum.inr ((0, false)))) else (if 9 < (bm ((bm ((dj x4.1).getD i12.toNat 0)) - 48)) then (some (Sum.inr ((0, false)))) else (if i11 < (-922337203685477580) then (some (Sum.inr ((0, false)))) else (if (bm (i11 * 10)) < (bm ((-9223372036854775808) + (bm ((bm ((dj x4.1).getD i12.toNat 0)) - 48)))) then (some (Sum.inr ((0, false)))) else (gC K x4 k (bm ((bm (i11 * 10)) - (bm ((bm ((dj x4.1).getD i12.toNat 0)) - 48)))) (bm (i12 + 1))))))) else none) else (some (Sum.inl i11)))
def fZ (K : Nat) (a0 : List UInt8) : Option (Int × Bool) := (kh (strings_CutPrefix a0 ([45] : List UInt8)) fun x4 => (Option.bind (if x4.1 = ([] : List UInt8) then (some (Sum.inr ((0, false)))) else (if 1 < (x4.1.length : Int) then (if 0 < (x4.1.length : Int) then (if ((x4.1.getD (0 : Int).toNat 0).toNat : Int) = 48 then (some (Sum.inr ((0, false)))) else (if x4.2 = true then (if x4.1 = ([48] : List UInt8) then (some (Sum.inr ((0, false)))) else (some (Sum.inl ()))) else (some (Sum.inl ())))) else none) else (if x4.2 = true then (if x4.1 = ([48] : List UInt8) then (some (Sum.inr ((0, false)))) else (some (Sum.inl ()))) else (some (Sum.inl ()))))) fun z => (mB z (fun v3 => (Option.bind (if x4.1.length ≤ 9223372036854775807 then (gC K x4 K 0 0) else none) fun z => (mB z (fun v4 => (if x4.2 = true then (some ((v4, true))) else (if v4 = (-9223372036854775808) then (some ((0, false))) else (some ((bm (0 - v4), true)))))) (fun t_ => (some (t_)))))) (fun t_ => (some (t_))))))
def aM (K : Nat) (l0 : List (List UInt8)) (p0_1 : Int) : Option (Option ((List (List UInt8)) × Int)) := ((bq l0 p0_1).bind fun x11 => (oq x11 (some (none)) fun x10 => ((fZ K x10.2).bind fun x12 => (if x12.2 = true then (some (some (x10.1, x12.1))) else (some (none))))))
def da (K : Nat) (p0_1 : Int) : Nat → Int → (List (List UInt8)) → (List UInt8) → (List UInt8) → (List UInt8) → (List UInt8) → Option (Sum ((List (List UInt8)) × (List UInt8) × (List UInt8) × (List UInt8) × (List UInt8)) (Option ((List aA) × (List (List UInt8)))))
  | 0, _, _, _, _, _, _ => none
  | k + 1, i26, l46, t141, t142, t143, t144 => (if i26 < p0_1 then ((cA K l46 p0_1).bind fun x896 => (oq x896 (some (Sum.inr (none))) fun x895 => (if 0 ≤ i26 then (if i26 < (4 : Int) then (da K p0_1 k (bm (i26 + 1)) x895.1 (if i26.toNat = 0 then x895.2 else t141) (if i26.toNat = 1 then x895.2 else t142) (if i26.toNat = 2 then x895.2 else t143) (if i26.toNat = 3 then x895.2 else t144)) else none) else none))) else (some (Sum.inl (l46, t141, t142, t143, t144))))
def eq (K : Nat) (p0_1 : Int) : Nat → (List (List UInt8)) → (List aA) → Option (Option ((List aA) × (List (List UInt8))))
  | 0, _, _ => none
  | k + 1, l39, l40 => (if (l39.length : Int) = 0 then (some (some (l40, l39))) else (if (l40.length : Int) < 50 then ((bq l39 p0_1).bind fun x830 => (oq x830 (some (none)) fun x829 => ((jL K x829.2).bind fun x831 => (if x831.2 = true then (Option.bind (da K p0_1 K 0 x829.1 ([] : List UInt8) ([] : List UInt8) ([] : List UInt8) ([] : List UInt8)) fun z => (mB z (fun v12 => ((aM K v12.1 p0_1).bind fun x900 => (oq x900 (some (none)) fun x899 => (if (l40.length + [(⟨(⟨x831.1, v12.2.1, v12.2.2.1, v12.2.2.2.1, v12.2.2.2.2⟩ : iK), x899.2⟩ : aA)].length) * 80 ≤ 140737488355328 then (eq K p0_1 k x899.1 (l40 ++ [(⟨(⟨x831.1, v12.2.1, v12.2.2.1, v12.2.2.2.1, v12.2.2.2.2⟩ : iK), x899.2⟩ : aA)])) else none)))) (fun t_ => (some (t_))))) else (some (none)))))) else (some (none))))
def cB (K : Nat) (l0 : List (List UInt8)) (p0_1 : Int) : Option (Option ((List aA) × (List (List UInt8)))) := (eq K p0_1 K l0 ([] : List aA))
def je (l0 : List aA) : (Int × Int × Int × Int × Bool × Bool × Bool × Bool × Bool × Bool × Bool × Bool × (List UInt8) × (List UInt8) × (List UInt8) × (List UInt8) × Int × Int × Int × Int × Int × Int × Int × Int × Int) := ((1, 0, 0, 0, false, false, false, false, false, false, false, false, ([] : List UInt8), ([] : List UInt8), ([] : List UInt8), ([] : List UInt8), 0, 0, 0, 0, 0, 0, 0, 0, 0))
def db (K : Nat) (l0 : List aA) (l1 : List aA) : Nat → Int → Option Bool
  | 0, _ => none
  | k + 1, i4 => (if i4 < (l0.length : Int) then (if 0 ≤ i4 then (if i4 < (l1.length : Int) then (if (!((((((l0.getD i4.toNat ax).Key).Hour) == (((l1.getD i4.toNat ax).Key).Hour)) && ((((((l0.getD i4.toNat ax).Key).Dims_0) == (((l1.getD i4.toNat ax).Key).Dims_0)) && (((((l0.getD i4.toNat ax).Key).Dims_1) == (((l1.getD i4.toNat ax).Key).Dims_1)) && (((((l0.getD i4.toNat ax).Key).Dims_2) == (((l1.getD i4.toNat ax).Key).Dims_2)) && (((((l0.getD i4.toNat ax).Key).Dims_3) == (((l1.getD i4.toNat ax).Key).Dims_3)) && true)))) && true)) && ((((l0.getD i4.toNat ax).Value) == ((l1.getD i4.toNat ax).Value)) && true))) = true then (some (false)) else (db K l0 l1 k (bm (i4 + 1)))) else none) else none) else (some (true)))
def du (K : Nat) (l0 : List aA) (l1 : List aA) : Option Bool := (if ¬ ((l0.length : Int) = (l1.length : Int)) then (some (false)) else (db K l0 l1 K 0))
def eu (K : Nat) (l0 : List Bool) (l1 : List Bool) : Nat → Int → Option Bool
  | 0, _ => none
  | k + 1, i4 => (if i4 < (l0.length : Int) then (if 0 ≤ i4 then (if i4 < (l1.length : Int) then (if ((l0.getD i4.toNat false) != (l1.getD i4.toNat false)) = true then (some (false)) else (eu K l0 l1 k (bm (i4 + 1)))) else none) else none) else (some (true)))
def eV (K : Nat) (l0 : List Bool) (l1 : List Bool) : Option Bool := (if ¬ ((l0.length : Int) = (l1.length : Int)) then (some (false)) else (eu K l0 l1 K 0))
def iC (K : Nat) (a0_0 : Int) (a0_1 : Int) (l0 : List aA) (a0_3 : Int) (a0_4 : Int) (a0_5 : Bool) (a0_6 : Bool) (a0_7 : Bool) (a0_8 : Bool) (a0_9 : Bool) (a0_10 : Bool) (a0_11 : Bool) (a0_12 : Bool) (a0_13 : List UInt8) (a0_14 : List UInt8) (a0_15 : List UInt8) (a0_16 : List UInt8) (a0_17 : Int) (a0_18 : Int) (a0_19 : Int) (a0_20 : Int) (a0_21 : Int) (a0_22 : Int) (a0_23 : Int) (a0_24 : Int) (a0_25 : Int) (l1 : List Bool) (a1_0 : Int) (a1_1 : Int) (l2 : List aA) (a1_3 : Int) (a1_4 : Int) (a1_5 : Bool) (a1_6 : Bool) (a1_7 : Bool) (a1_8 : Bool) (a1_9 : Bool) (a1_10 : Bool) (a1_11 : Bool) (a1_12 : Bool) (a1_13 : List UInt8) (a1_14 : List UInt8) (a1_15 : List UInt8) (a1_16 : List UInt8) (a1_17 : Int) (a1_18 : Int) (a1_19 : Int) (a1_20 : Int) (a1_21 : Int) (a1_22 : Int) (a1_23 : Int) (a1_24 : Int) (a1_25 : Int) (l3 : List Bool) : Option Bool := (if a0_0 = a1_0 then (if a0_1 = a1_1 then (if ((a0_3 == a1_3) && ((a0_4 == a1_4) && (((a0_5 == a1_5) && ((a0_6 == a1_6) && ((a0_7 == a1_7) && ((a0_8 == a1_8) && true)))) && (((a0_9 == a1_9) && ((a0_10 == a1_10) && ((a0_11 == a1_11) && ((a0_12 == a1_12) && true)))) && (((a0_13 == a1_13) && ((a0_14 == a1_14) && ((a0_15 == a1_15) && ((a0_16 == a1_16) && true)))) && true))))) = true then (if ((a0_17 == a1_17) && ((a0_18 == a1_18) && ((a0_19 == a1_19) && ((a0_20 == a1_20) && ((a0_21 == a1_21) && ((a0_22 == a1_22) && ((a0_23 == a1_23) && ((a0_24 == a1_24) && ((a0_25 == a1_25) && true))))))))) = true then ((du K l0 l2).bind fun x3 => (if x3 = true then ((eV K l1 l3).bind fun x4 => (some (x4))) else (some (false)))) else (some (false))) else (some (false))) else (some (false))) else (some (false)))
def bD (K : Nat) (l0 : List aG) (l1 : List aG) : Nat → Int → Option Bool
  | 0, _ => none
  | k + 1, i4 => (if i4 < (l0.length : Int) then (if 0 ≤ i4 then (if i4 < (l1.length : Int) then ((iC K ((l0.getD i4.toNat ah).Kind) ((l0.getD i4.toNat ah).N) ((l0.getD i4.toNat ah).Facts) (((l0.getD i4.toNat ah).Query).From) (((l0.getD i4.toNat ah).Query).To) (((l0.getD i4.toNat ah).Query).Group_0) (((l0.getD i4.toNat ah).Query).Group_1) (((l0.getD i4.toNat ah).Query).Group_2) (((l0.getD i4.toNat ah).Query).Group_3) (((l0.getD i4.toNat ah).Query).Has_0) (((l0.getD i4.toNat ah).Query).Has_1) (((l0.getD i4.toNat ah).Query).Has_2) (((l0.getD i4.toNat ah).Query).Has_3) (((l0.getD i4.toNat ah).Query).Filter_0) (((l0.getD i4.toNat ah).Query).Filter_1) (((l0.getD i4.toNat ah).Query).Filter_2) (((l0.getD i4.toNat ah).Query).Filter_3) (((l0.getD i4.toNat ah).Rules).Retain) (((l0.getD i4.toNat ah).Rules).SealLag) (((l0.getD i4.toNat ah).Rules).DayLag) (((l0.getD i4.toNat ah).Rules).MonthLag) (((l0.getD i4.toNat ah).Rules).ColdLag) (((l0.getD i4.toNat ah).Rules).Base) (((l0.getD i4.toNat ah).Rules).Cap) (((l0.getD i4.toNat ah).Rules).Queue) (((l0.getD i4.toNat ah).Rules).Wal) ((l0.getD i4.toNat ah).Fails) ((l1.getD i4.toNat ah).Kind) ((l1.getD i4.toNat ah).N) ((l1.getD i4.toNat ah).Facts) (((l1.getD i4.toNat ah).Query).From) (((l1.getD i4.toNat ah).Query).To) (((l1.getD i4.toNat ah).Query).Group_0) (((l1.getD i4.toNat ah).Query).Group_1) (((l1.getD i4.toNat ah).Query).Group_2) (((l1.getD i4.toNat ah).Query).Group_3) (((l1.getD i4.toNat ah).Query).Has_0) (((l1.getD i4.toNat ah).Query).Has_1) (((l1.getD i4.toNat ah).Query).Has_2) (((l1.getD i4.toNat ah).Query).Has_3) (((l1.getD i4.toNat ah).Query).Filter_0) (((l1.getD i4.toNat ah).Query).Filter_1) (((l1.getD i4.toNat ah).Query).Filter_2) (((l1.getD i4.toNat ah).Query).Filter_3) (((l1.getD i4.toNat ah).Rules).Retain) (((l1.getD i4.toNat ah).Rules).SealLag) (((l1.getD i4.toNat ah).Rules).DayLag) (((l1.getD i4.toNat ah).Rules).MonthLag) (((l1.getD i4.toNat ah).Rules).ColdLag) (((l1.getD i4.toNat ah).Rules).Base) (((l1.getD i4.toNat ah).Rules).Cap) (((l1.getD i4.toNat ah).Rules).Queue) (((l1.getD i4.toNat ah).Rules).Wal) ((l1.getD i4.toNat ah).Fails)).bind fun x24 => (if (!x24) = true then (some (false)) else (bD K l0 l1 k (bm (i4 + 1))))) else none) else none) else (some (true)))
def bI (K : Nat) (l0 : List aG) (l1 : List aG) : Option Bool := (if ¬ ((l0.length : Int) = (l1.length : Int)) then (some (false)) else (bD K l0 l1 K 0))
def bR (K : Nat) (l0 : List aG) (l1 : List aG) : Option Bool := ((bI K l0 l1).bind fun x2 => (some (x2)))
def ji (a0 : Int) : Bool := (if 1 ≤ a0 then (decide (a0 ≤ 4)) else (false))
def im (K : Nat) (a0_1 : List UInt8) (a0_2 : List UInt8) (a0_3 : List UInt8) (a0_4 : List UInt8) (a1 : Int) : Nat → Int → Option Int
  | 0, _ => none
  | k + 1, i5 => (if i5 < 4 then (if 0 ≤ i5 then (if i5 < (4 : Int) then (if 16 < (([a0_1, a0_2, a0_3, a0_4].getD i5.toNat []).length : Int) then (some (4)) else (if a1 ≤ i5 then (if ¬ (([a0_1, a0_2, a0_3, a0_4].getD i5.toNat []) = ([] : List UInt8)) then (some (4)) else (im K a0_1 a0_2 a0_3 a0_4 a1 k (bm (i5 + 1)))) else (im K a0_1 a0_2 a0_3 a0_4 a1 k (bm (i5 + 1))))) else none) else none) else (some (0)))
def kq (K : Nat) (a0_0 : Int) (a0_1 : List UInt8) (a0_2 : List UInt8) (a0_3 : List UInt8) (a0_4 : List UInt8) (a0_5 : Int) (a1 : Int) : Option Int := (kh (ji a1) fun x4 => (if (!x4) = true then (some (1)) else (if a0_0 < 0 then (some (2)) else (if 16777216 < a0_0 then (some (2)) else (if 1152921504606846976 < a0_5 then (some (2)) else (if a0_5 < (-1152921504606846976) then (some (2)) else (im K a0_1 a0_2 a0_3 a0_4 a1 K 0)))))))
def ij (K : Nat) (l0 : List aA) (a1 : Int) : Nat → Int → Option (Int × Int)
  | 0, _ => none
  | k + 1, i6 => (if i6 < (l0.length : Int) then (if 0 ≤ i6 then ((kq K (((l0.getD i6.toNat ax).Key).Hour) (((l0.getD i6.toNat ax).Key).Dims_0) (((l0.getD i6.toNat ax).Key).Dims_1) (((l0.getD i6.toNat ax).Key).Dims_2) (((l0.getD i6.toNat ax).Key).Dims_3) ((l0.getD i6.toNat ax).Value) a1).bind fun x28 => (if ¬ (x28 = 0) then (some ((x28, i6))) else (ij K l0 a1 k (bm (i6 + 1))))) else none) else (some ((0, 0))))
def kr (K : Nat) (l0 : List aA) (a1 : Int) : Option (Int × Int) := (kh (ji a1) fun x16 => (if (!x16) = true then (some ((1, 0))) else (if (l0.length : Int) = 0 then (some ((1, 0))) else (if 50 < (l0.length : Int) then (some ((1, 0))) else (ij K l0 a1 K 0)))))
def gb (K : Nat) (l0 : List aA) (a1 : Int) : Option Bool := (kh (je l0) fun x6 => ((bR K [(⟨x6.1, x6.2.1, [], (⟨x6.2.2.1, x6.2.2.2.1, x6.2.2.2.2.1, x6.2.2.2.2.2.1, x6.2.2.2.2.2.2.1, x6.2.2.2.2.2.2.2.1, x6.2.2.2.2.2.2.2.2.1, x6.2.2.2.2.2.2.2.2.2.1, x6.2.2.2.2.2.2.2.2.2.2.1, x6.2.2.2.2.2.2.2.2.2.2.2.1, x6.2.2.2.2.2.2.2.2.2.2.2.2.1, x6.2.2.2.2.2.2.2.2.2.2.2.2.2.1, x6.2.2.2.2.2.2.2.2.2.2.2.2.2.2.1, x6.2.2.2.2.2.2.2.2.2.2.2.2.2.2.2.1⟩ : aF), (⟨x6.2.2.2.2.2.2.2.2.2.2.2.2.2.2.2.2.1, x6.2.2.2.2.2.2.2.2.2.2.2.2.2.2.2.2.2.1, x6.2.2.2.2.2.2.2.2.2.2.2.2.2.2.2.2.2.2.1, x6.2.2.2.2.2.2.2.2.2.2.2.2.2.2.2.2.2.2.2.1, x6.2.2.2.2.2.2.2.2.2.2.2.2.2.2.2.2.2.2.2.2.1, x6.2.2.2.2.2.2.2.2.2.2.2.2.2.2.2.2.2.2.2.2.2.1, x6.2.2.2.2.2.2.2.2.2.2.2.2.2.2.2.2.2.2.2.2.2.2.1, x6.2.2.2.2.2.2.2.2.2.2.2.2.2.2.2.2.2.2.2.2.2.2.2.1, x6.2.2.2.2.2.2.2.2.2.2.2.2.2.2.2.2.2.2.2.2.2.2.2.2⟩ : aC), []⟩ : aG)] [(⟨1, 0, [], (⟨0, 0, false, false, false, false, false, false, false, false, ([] : List UInt8), ([] : List UInt8), ([] : List UInt8), ([] : List UInt8)⟩ : aF), (⟨0, 0, 0, 0, 0, 0, 0, 0, 0⟩ : aC), []⟩ : aG)]).bind fun x8 => (if (!x8) = true then (some (false)) else ((kr K l0 a1).bind fun x10 => (some ((x10.1 == 0)))))))
def cn (K : Nat) (p0_1 : Int) (x187 : ((List (List UInt8)) × Int)) (x191 : ((List (List UInt8)) × Int)) : Nat → Int → (List (List UInt8)) → Bool → Bool → (List UInt8) → (List UInt8) → (List UInt8) → (List UInt8) → Bool → Bool → Bool → Bool → Bool → Bool → Option (Option ((List (List UInt8)) × Int × Int × Bool × Bool × Bool × Bool × Bool × Bool × Bool × Bool × (List UInt8) × (List UInt8) × (List UInt8) × (List UInt8)))
  | 0, _, _, _, _, _, _, _, _, _, _, _, _, _, _ => none
  | k + 1, i4, l31, q25, q26, t45, t46, t47, t48, q27, q28, q29, q30, q31, q32 => (if i4 < p0_1 then ((bq l31 p0_1).bind fun x361 => (oq x361 (some (none)) fun x360 => (if x360.2 = ([46] : List UInt8) then (cn K p0_1 x187 x191 k (bm (i4 + 1)) x360.1 q25 q26 t45 t46 t47 t48 q27 q28 q29 q30 q31 q32) else (kh (strings_CutPrefix x360.2 ([43] : List UInt8)) fun x363 => (if 0 ≤ i4 then (if i4 < (4 : Int) then (Option.bind (if x363.2 = true then (if x363.1 = ([] : List UInt8) then (Option.map Sum.inr (cn K p0_1 x187 x191 k (bm (i4 + 1)) x360.1 (if i4.toNat = 0 then x363.2 else q25) q26 t45 t46 t47 t48 (if i4.toNat = 1 then x363.2 else q27) (if i4.toNat = 2 then x363.2 else q28) (if i4.toNat = 3 then x363.2 else q29) q30 q31 q32)) else (some (Sum.inl x360.1))) else (some (Sum.inl x360.1))) fun z => (mB z (fun v32 => (kh (strings_CutPrefix x363.1 ([61] : List UInt8)) fun x366 => (if x366.2 = true then ((gi K x366.1).bind fun x368 => (if x368.1 = true then (cn K p0_1 x187 x191 k (bm (i4 + 1)) v32 (if i4.toNat = 0 then x363.2 else q25) (if i4.toNat = 0 then true else q26) (if i4.toNat = 0 then x368.2 else t45) (if i4.toNat = 1 then x368.2 else t46) (if i4.toNat = 2 then x368.2 else t47) (if i4.toNat = 3 then x368.2 else t48) (if i4.toNat = 1 then x363.2 else q27) (if i4.toNat = 2 then x363.2 else q28) (if i4.toNat = 3 then x363.2 else q29) (if i4.toNat = 1 then true else q30) (if i4.toNat = 2 then true else q31) (if i4.toNat = 3 then true else q32)) else (some (none)))) else (some (none))))) (fun t_ => (some (t_))))) else none) else none))))) else (some (some (l31, x187.2, x191.2, q25, q27, q28, q29, q26, q30, q31, q32, t45, t46, t47, t48))))
def cE (K : Nat) (l0 : List (List UInt8)) (p0_1 : Int) : Option (Option ((List (List UInt8)) × Int × Int × Bool × Bool × Bool × Bool × Bool × Bool × Bool × Bool × (List UInt8) × (List UInt8) × (List UInt8) × (List UInt8))) := ((aM K l0 p0_1).bind fun x188 => (oq x188 (some (none)) fun x187 => ((aM K x187.1 p0_1).bind fun x192 => (oq x192 (some (none)) fun x191 => (cn K p0_1 x187 x191 K 0 x191.1 false false ([] : List UInt8) ([] : List UInt8) ([] : List UInt8) ([] : List UInt8) false false false false false false)))))
def jg (a0_3 : Int) (a0_4 : Int) (a0_5 : Bool) (a0_6 : Bool) (a0_7 : Bool) (a0_8 : Bool) (a0_9 : Bool) (a0_10 : Bool) (a0_11 : Bool) (a0_12 : Bool) (a0_13 : List UInt8) (a0_14 : List UInt8) (a0_15 : List UInt8) (a0_16 : List UInt8) : (Int × Int × Int × Int × Bool × Bool × Bool × Bool × Bool × Bool × Bool × Bool × (List UInt8) × (List UInt8) × (List UInt8) × (List UInt8) × Int × Int × Int × Int × Int × Int × Int × Int × Int) := ((2, 0, 0, 0, false, false, false, false, false, false, false, false, ([] : List UInt8), ([] : List UInt8), ([] : List UInt8), ([] : List UInt8), 0, 0, 0, 0, 0, 0, 0, 0, 0))
def mi (a0 : Int) : Bool := (if 1 ≤ a0 then (decide (a0 ≤ 4)) else (false))
def iS (K : Nat) (a0_2 : Bool) (a0_3 : Bool) (a0_4 : Bool) (a0_5 : Bool) (a0_6 : Bool) (a0_7 : Bool) (a0_8 : Bool) (a0_9 : Bool) (a0_10 : List UInt8) (a0_11 : List UInt8) (a0_12 : List UInt8) (a0_13 : List UInt8) (a1 : Int) : Nat → Int → Option Int
  | 0, _ => none
  | k + 1, i5 => (if i5 < 4 then (Option.bind (if 0 ≤ i5 then (if i5 < (4 : Int) then (if a1 ≤ i5 then (if ([a0_2, a0_3, a0_4, a0_5].getD i5.toNat false) = true then (some (Sum.inr (4))) else (if ([a0_6, a0_7, a0_8, a0_9].getD i5.toNat false) = true then (some (Sum.inr (4))) else (if ¬ (([a0_10, a0_11, a0_12, a0_13].getD i5.toNat []) = ([] : List UInt8)) then (if (!([a0_6, a0_7, a0_8, a0_9].getD i5.toNat false)) = true then (some (Sum.inr (4))) else (if 16 < (([a0_10, a0_11, a0_12, a0_13].getD i5.toNat []).length : Int) then (some (Sum.inr (4))) else (some (Sum.inl ())))) else (if 16 < (([a0_10, a0_11, a0_12, a0_13].getD i5.toNat []).length : Int) then (some (Sum.inr (4))) else (some (Sum.inl ())))))) else (if ¬ (([a0_10, a0_11, a0_12, a0_13].getD i5.toNat []) = ([] : List UInt8)) then (if (!([a0_6, a0_7, a0_8, a0_9].getD i5.toNat false)) = true then (some (Sum.inr (4))) else (if 16 < (([a0_10, a0_11, a0_12, a0_13].getD i5.toNat []).length : Int) then (some (Sum.inr (4))) else (some (Sum.inl ())))) else (if 16 < (([a0_10, a0_11, a0_12, a0_13].getD i5.toNat []).length : Int) then (some (Sum.inr (4))) else (some (Sum.inl ()))))) else none) else none) fun z => (mB z (fun v12 => (iS K a0_2 a0_3 a0_4 a0_5 a0_6 a0_7 a0_8 a0_9 a0_10 a0_11 a0_12 a0_13 a1 k (bm (i5 + 1)))) (fun t_ => (some (t_))))) else (some (0)))
def ka (K : Nat) (a0_0 : Int) (a0_1 : Int) (a0_2 : Bool) (a0_3 : Bool) (a0_4 : Bool) (a0_5 : Bool) (a0_6 : Bool) (a0_7 : Bool) (a0_8 : Bool) (a0_9 : Bool) (a0_10 : List UInt8) (a0_11 : List UInt8) (a0_12 : List UInt8) (a0_13 : List UInt8) (a1 : Int) : Option Int := (kh (mi a1) fun x10 => (if (!x10) = true then (some (1)) else (if a0_0 < 0 then (some (2)) else (if a0_1 < a0_0 then (some (2)) else (if 16777217 < a0_1 then (some (2)) else (iS K a0_2 a0_3 a0_4 a0_5 a0_6 a0_7 a0_8 a0_9 a0_10 a0_11 a0_12 a0_13 a1 K 0))))))
def fY (K : Nat) (a0_3 : Int) (a0_4 : Int) (a0_5 : Bool) (a0_6 : Bool) (a0_7 : Bool) (a0_8 : Bool) (a0_9 : Bool) (a0_10 : Bool) (a0_11 : Bool) (a0_12 : Bool) (a0_13 : List UInt8) (a0_14 : List UInt8) (a0_15 : List UInt8) (a0_16 : List UInt8) (a1 : Int) : Option Bool := (kh (jg a0_3 a0_4 a0_5 a0_6 a0_7 a0_8 a0_9 a0_10 a0_11 a0_12 a0_13 a0_14 a0_15 a0_16) fun x6 => ((bR K [(⟨x6.1, x6.2.1, [], (⟨x6.2.2.1, x6.2.2.2.1, x6.2.2.2.2.1, x6.2.2.2.2.2.1, x6.2.2.2.2.2.2.1, x6.2.2.2.2.2.2.2.1, x6.2.2.2.2.2.2.2.2.1, x6.2.2.2.2.2.2.2.2.2.1, x6.2.2.2.2.2.2.2.2.2.2.1, x6.2.2.2.2.2.2.2.2.2.2.2.1, x6.2.2.2.2.2.2.2.2.2.2.2.2.1, x6.2.2.2.2.2.2.2.2.2.2.2.2.2.1, x6.2.2.2.2.2.2.2.2.2.2.2.2.2.2.1, x6.2.2.2.2.2.2.2.2.2.2.2.2.2.2.2.1⟩ : aF), (⟨x6.2.2.2.2.2.2.2.2.2.2.2.2.2.2.2.2.1, x6.2.2.2.2.2.2.2.2.2.2.2.2.2.2.2.2.2.1, x6.2.2.2.2.2.2.2.2.2.2.2.2.2.2.2.2.2.2.1, x6.2.2.2.2.2.2.2.2.2.2.2.2.2.2.2.2.2.2.2.1, x6.2.2.2.2.2.2.2.2.2.2.2.2.2.2.2.2.2.2.2.2.1, x6.2.2.2.2.2.2.2.2.2.2.2.2.2.2.2.2.2.2.2.2.2.1, x6.2.2.2.2.2.2.2.2.2.2.2.2.2.2.2.2.2.2.2.2.2.2.1, x6.2.2.2.2.2.2.2.2.2.2.2.2.2.2.2.2.2.2.2.2.2.2.2.1, x6.2.2.2.2.2.2.2.2.2.2.2.2.2.2.2.2.2.2.2.2.2.2.2.2⟩ : aC), []⟩ : aG)] [(⟨2, 0, [], (⟨0, 0, false, false, false, false, false, false, false, false, ([] : List UInt8), ([] : List UInt8), ([] : List UInt8), ([] : List UInt8)⟩ : aF), (⟨0, 0, 0, 0, 0, 0, 0, 0, 0⟩ : aC), []⟩ : aG)]).bind fun x8 => (if (!x8) = true then (some (false)) else ((ka K a0_3 a0_4 a0_5 a0_6 a0_7 a0_8 a0_9 a0_10 a0_11 a0_12 a0_13 a0_14 a0_15 a0_16 a1).bind fun x10 => (some ((x10 == 0)))))))
def jl (p0_0 : Int) (p0_1 : Int) (p0_3 : Int) (p0_4 : Int) (p0_5 : Bool) (p0_6 : Bool) (p0_7 : Bool) (p0_8 : Bool) (p0_9 : Bool) (p0_10 : Bool) (p0_11 : Bool) (p0_12 : Bool) (p0_13 : List UInt8) (p0_14 : List UInt8) (p0_15 : List UInt8) (p0_16 : List UInt8) (p0_17 : Int) (p0_18 : Int) (p0_19 : Int) (p0_20 : Int) (p0_21 : Int) (p0_22 : Int) (p0_23 : Int) (p0_24 : Int) (p0_25 : Int) (p1_0 : Int) : Unit := (())
def iz (a0_17 : Int) (a0_18 : Int) (a0_19 : Int) (a0_20 : Int) (a0_21 : Int) (a0_22 : Int) (a0_23 : Int) (a0_24 : Int) (a0_25 : Int) : (Int × Int × Int × Int × Bool × Bool × Bool × Bool × Bool × Bool × Bool × Bool × (List UInt8) × (List UInt8) × (List UInt8) × (List UInt8) × Int × Int × Int × Int × Int × Int × Int × Int × Int) := ((3, 0, 0, 0, false, false, false, false, false, false, false, false, ([] : List UInt8), ([] : List UInt8), ([] : List UInt8), ([] : List UInt8), 0, 0, 0, 0, 0, 0, 0, 0, 0))
def jD : (Int × Int × Int × Int × Int × Int × Int × Int × Int × Int × Int × Int × Int × Int × Int × Int × Int × Int) := ((1, 1048576, 0, 1048576, 0, 1048576, 0, 1048576, 0, 1048576, 1, 1048576, 1, 1048576, 1, 64, 100, 1048576))
def jm (a0_0 : Int) (a0_1 : Int) (a0_2 : Int) (a0_3 : Int) (a0_4 : Int) (a0_5 : Int) (a0_6 : Int) (a0_7 : Int) (a0_8 : Int) : (Int × Int × Int × Int × Int × Int × Int × Int × Int) := ((a0_0, a0_1, a0_2, a0_3, a0_4, a0_5, a0_6, a0_7, a0_8))
def hZ (a0_0 : Int) (a0_1 : Int) (a0_2 : Int) (a0_3 : Int) (a0_4 : Int) (a0_5 : Int) (a0_6 : Int) (a0_7 : Int) (a0_8 : Int) : Option Int := (kh (jD) fun x4 => (kh (jm a0_0 a0_1 a0_2 a0_3 a0_4 a0_5 a0_6 a0_7 a0_8) fun x6 => (if 0 < (9 : Int) then (if x6.1 < x4.1 then (some (2)) else (if x4.2.1 < x6.1 then (some (2)) else (if 1 < (9 : Int) then (if x6.2.1 < x4.2.2.1 then (some (2)) else (if x4.2.2.2.1 < x6.2.1 then (some (2)) else (if 2 < (9 : Int) then (if x6.2.2.1 < x4.2.2.2.2.1 then (some (2)) else (if x4.2.2.2.2.2.1 < x6.2.2.1 then (some (2)) else (if 3 < (9 : Int) then (if x6.2.2.2.1 < x4.2.2.2.2.2.2.1 then (some (2)) else (if x4.2.2.2.2.2.2.2.1 < x6.2.2.2.1 then (some (2)) else (if 4 < (9 : Int) then (if x6.2.2.2.2.1 < x4.2.2.2.2.2.2.2.2.1 then (some (2)) else (if x4.2.2.2.2.2.2.2.2.2.1 < x6.2.2.2.2.1 then (some (2)) else (if 5 < (9 : Int) then (if x6.2.2.2.2.2.1 < x4.2.2.2.2.2.2.2.2.2.2.1 then (some (2)) else (if x4.2.2.2.2.2.2.2.2.2.2.2.1 < x6.2.2.2.2.2.1 then (some (2)) else (if 6 < (9 : Int) then (if x6.2.2.2.2.2.2.1 < x4.2.2.2.2.2.2.2.2.2.2.2.2.1 then (some (2)) else (if x4.2.2.2.2.2.2.2.2.2.2.2.2.2.1 < x6.2.2.2.2.2.2.1 then (some (2)) else (if 7 < (9 : Int) then (if x6.2.2.2.2.2.2.2.1 < x4.2.2.2.2.2.2.2.2.2.2.2.2.2.2.1 then (some (2)) else (if x4.2.2.2.2.2.2.2.2.2.2.2.2.2.2.2.1 < x6.2.2.2.2.2.2.2.1 then (some (2)) else (if 8 < (9 : Int) then (if x6.2.2.2.2.2.2.2.2 < x4.2.2.2.2.2.2.2.2.2.2.2.2.2.2.2.2.1 then (some (2)) else (if x4.2.2.2.2.2.2.2.2.2.2.2.2.2.2.2.2.2 < x6.2.2.2.2.2.2.2.2 then (some (2)) else (some (0)))) else none))) else none))) else none))) else none))) else none))) else none))) else none))) else none))) else none)))
def fx (K : Nat) (a0_17 : Int) (a0_18 : Int) (a0_19 : Int) (a0_20 : Int) (a0_21 : Int) (a0_22 : Int) (a0_23 : Int) (a0_24 : Int) (a0_25 : Int) (a1 : Int) : Option Bool := (kh (iz a0_17 a0_18 a0_19 a0_20 a0_21 a0_22 a0_23 a0_24 a0_25) fun x6 => ((bR K [(⟨x6.1, x6.2.1, [], (⟨x6.2.2.1, x6.2.2.2.1, x6.2.2.2.2.1, x6.2.2.2.2.2.1, x6.2.2.2.2.2.2.1, x6.2.2.2.2.2.2.2.1, x6.2.2.2.2.2.2.2.2.1, x6.2.2.2.2.2.2.2.2.2.1, x6.2.2.2.2.2.2.2.2.2.2.1, x6.2.2.2.2.2.2.2.2.2.2.2.1, x6.2.2.2.2.2.2.2.2.2.2.2.2.1, x6.2.2.2.2.2.2.2.2.2.2.2.2.2.1, x6.2.2.2.2.2.2.2.2.2.2.2.2.2.2.1, x6.2.2.2.2.2.2.2.2.2.2.2.2.2.2.2.1⟩ : aF), (⟨x6.2.2.2.2.2.2.2.2.2.2.2.2.2.2.2.2.1, x6.2.2.2.2.2.2.2.2.2.2.2.2.2.2.2.2.2.1, x6.2.2.2.2.2.2.2.2.2.2.2.2.2.2.2.2.2.2.1, x6.2.2.2.2.2.2.2.2.2.2.2.2.2.2.2.2.2.2.2.1, x6.2.2.2.2.2.2.2.2.2.2.2.2.2.2.2.2.2.2.2.2.1, x6.2.2.2.2.2.2.2.2.2.2.2.2.2.2.2.2.2.2.2.2.2.1, x6.2.2.2.2.2.2.2.2.2.2.2.2.2.2.2.2.2.2.2.2.2.2.1, x6.2.2.2.2.2.2.2.2.2.2.2.2.2.2.2.2.2.2.2.2.2.2.2.1, x6.2.2.2.2.2.2.2.2.2.2.2.2.2.2.2.2.2.2.2.2.2.2.2.2⟩ : aC), []⟩ : aG)] [(⟨3, 0, [], (⟨0, 0, false, false, false, false, false, false, false, false, ([] : List UInt8), ([] : List UInt8), ([] : List UInt8), ([] : List UInt8)⟩ : aF), (⟨0, 0, 0, 0, 0, 0, 0, 0, 0⟩ : aC), []⟩ : aG)]).bind fun x8 => (if (!x8) = true then (some (false)) else ((hZ a0_17 a0_18 a0_19 a0_20 a0_21 a0_22 a0_23 a0_24 a0_25).bind fun x10 => (some ((x10 == 0)))))))
def dv (K : Nat) (x7 : ((List (List UInt8)) × (List UInt8))) : Nat → Int → (List Bool) → Option (Option ((List (List UInt8)) × (List Bool)))
  | 0, _, _ => none
  | k + 1, i4, l6 => (if i4 < ((dj x7.2).length : Int) then (if 0 ≤ i4 then (if ((dj x7.2).getD i4.toNat 0) = 48 then (if (l6.length + [(((dj x7.2).getD i4.toNat 0) == 49)].length) * 1 ≤ 140737488355328 then (dv K x7 k (bm (i4 + 1)) (l6 ++ [(((dj x7.2).getD i4.toNat 0) == 49)])) else none) else (if ((dj x7.2).getD i4.toNat 0) = 49 then (if (l6.length + [(((dj x7.2).getD i4.toNat 0) == 49)].length) * 1 ≤ 140737488355328 then (dv K x7 k (bm (i4 + 1)) (l6 ++ [(((dj x7.2).getD i4.toNat 0) == 49)])) else none) else (some (none)))) else none) else (some (some (x7.1, l6))))
def cC (K : Nat) (l0 : List (List UInt8)) (p0_1 : Int) : Option (Option ((List (List UInt8)) × (List Bool))) := (if (l0.length : Int) = 0 then (some (some (l0, ([] : List Bool)))) else ((bq l0 p0_1).bind fun x8 => (oq x8 (some (none)) fun x7 => (if ¬ (x7.2 = ([] : List UInt8)) then (if x7.2.length ≤ 9223372036854775807 then (dv K x7 K 0 ([] : List Bool)) else none) else (some (none))))))
def jj (l0 : List Bool) : (Int × Int × Int × Int × Bool × Bool × Bool × Bool × Bool × Bool × Bool × Bool × (List UInt8) × (List UInt8) × (List UInt8) × (List UInt8) × Int × Int × Int × Int × Int × Int × Int × Int × Int) := ((6, 0, 0, 0, false, false, false, false, false, false, false, false, ([] : List UInt8), ([] : List UInt8), ([] : List UInt8), ([] : List UInt8), 0, 0, 0, 0, 0, 0, 0, 0, 0))
def gE (K : Nat) (l0 : List Bool) (a1 : Int) : Option Bool := (kh (jj l0) fun x4 => ((bR K [(⟨x4.1, x4.2.1, [], (⟨x4.2.2.1, x4.2.2.2.1, x4.2.2.2.2.1, x4.2.2.2.2.2.1, x4.2.2.2.2.2.2.1, x4.2.2.2.2.2.2.2.1, x4.2.2.2.2.2.2.2.2.1, x4.2.2.2.2.2.2.2.2.2.1, x4.2.2.2.2.2.2.2.2.2.2.1, x4.2.2.2.2.2.2.2.2.2.2.2.1, x4.2.2.2.2.2.2.2.2.2.2.2.2.1, x4.2.2.2.2.2.2.2.2.2.2.2.2.2.1, x4.2.2.2.2.2.2.2.2.2.2.2.2.2.2.1, x4.2.2.2.2.2.2.2.2.2.2.2.2.2.2.2.1⟩ : aF), (⟨x4.2.2.2.2.2.2.2.2.2.2.2.2.2.2.2.2.1, x4.2.2.2.2.2.2.2.2.2.2.2.2.2.2.2.2.2.1, x4.2.2.2.2.2.2.2.2.2.2.2.2.2.2.2.2.2.2.1, x4.2.2.2.2.2.2.2.2.2.2.2.2.2.2.2.2.2.2.2.1, x4.2.2.2.2.2.2.2.2.2.2.2.2.2.2.2.2.2.2.2.2.1, x4.2.2.2.2.2.2.2.2.2.2.2.2.2.2.2.2.2.2.2.2.2.1, x4.2.2.2.2.2.2.2.2.2.2.2.2.2.2.2.2.2.2.2.2.2.2.1, x4.2.2.2.2.2.2.2.2.2.2.2.2.2.2.2.2.2.2.2.2.2.2.2.1, x4.2.2.2.2.2.2.2.2.2.2.2.2.2.2.2.2.2.2.2.2.2.2.2.2⟩ : aC), []⟩ : aG)] [(⟨6, 0, [], (⟨0, 0, false, false, false, false, false, false, false, false, ([] : List UInt8), ([] : List UInt8), ([] : List UInt8), ([] : List UInt8)⟩ : aF), (⟨0, 0, 0, 0, 0, 0, 0, 0, 0⟩ : aC), []⟩ : aG)]).bind fun x6 => (if (!x6) = true then (some (false)) else (some (decide ((l0.length : Int) ≤ 1000))))))
def iu : (Int × Int × Int × Int × Bool × Bool × Bool × Bool × Bool × Bool × Bool × Bool × (List UInt8) × (List UInt8) × (List UInt8) × (List UInt8) × Int × Int × Int × Int × Int × Int × Int × Int × Int) := ((9, 0, 0, 0, false, false, false, false, false, false, false, false, ([] : List UInt8), ([] : List UInt8), ([] : List UInt8), ([] : List UInt8), 0, 0, 0, 0, 0, 0, 0, 0, 0))
def fS (K : Nat) (a1 : Int) : Option Bool := (kh (iu) fun x4 => ((bR K [(⟨x4.1, x4.2.1, [], (⟨x4.2.2.1, x4.2.2.2.1, x4.2.2.2.2.1, x4.2.2.2.2.2.1, x4.2.2.2.2.2.2.1, x4.2.2.2.2.2.2.2.1, x4.2.2.2.2.2.2.2.2.1, x4.2.2.2.2.2.2.2.2.2.1, x4.2.2.2.2.2.2.2.2.2.2.1, x4.2.2.2.2.2.2.2.2.2.2.2.1, x4.2.2.2.2.2.2.2.2.2.2.2.2.1, x4.2.2.2.2.2.2.2.2.2.2.2.2.2.1, x4.2.2.2.2.2.2.2.2.2.2.2.2.2.2.1, x4.2.2.2.2.2.2.2.2.2.2.2.2.2.2.2.1⟩ : aF), (⟨x4.2.2.2.2.2.2.2.2.2.2.2.2.2.2.2.2.1, x4.2.2.2.2.2.2.2.2.2.2.2.2.2.2.2.2.2.1, x4.2.2.2.2.2.2.2.2.2.2.2.2.2.2.2.2.2.2.1, x4.2.2.2.2.2.2.2.2.2.2.2.2.2.2.2.2.2.2.2.1, x4.2.2.2.2.2.2.2.2.2.2.2.2.2.2.2.2.2.2.2.2.1, x4.2.2.2.2.2.2.2.2.2.2.2.2.2.2.2.2.2.2.2.2.2.1, x4.2.2.2.2.2.2.2.2.2.2.2.2.2.2.2.2.2.2.2.2.2.2.1, x4.2.2.2.2.2.2.2.2.2.2.2.2.2.2.2.2.2.2.2.2.2.2.2.1, x4.2.2.2.2.2.2.2.2.2.2.2.2.2.2.2.2.2.2.2.2.2.2.2.2⟩ : aC), []⟩ : aG)] [(⟨9, 0, [], (⟨0, 0, false, false, false, false, false, false, false, false, ([] : List UInt8), ([] : List UInt8), ([] : List UInt8), ([] : List UInt8)⟩ : aF), (⟨0, 0, 0, 0, 0, 0, 0, 0, 0⟩ : aC), []⟩ : aG)]).bind fun x6 => (if (!x6) = true then (some (false)) else (some (true)))))
def ig : ((List UInt8) × (List UInt8) × (List UInt8) × (List UInt8)) := ((([116, 105, 99, 107] : List UInt8), ([119, 111, 114, 107] : List UInt8), ([97, 114, 109] : List UInt8), ([99, 114, 97, 115, 104] : List UInt8)))
def ky : (Int × Int × Int × Int) := ((4, 5, 7, 8))
def jd (a0_0 : Int) (a0_1 : Int) : (Int × Int × Int × Int × Bool × Bool × Bool × Bool × Bool × Bool × Bool × Bool × (List UInt8) × (List UInt8) × (List UInt8) × (List UInt8) × Int × Int × Int × Int × Int × Int × Int × Int × Int) := (kh (if a0_0 = 1 then ((a0_1, ([] : List UInt8), ([] : List UInt8), ([] : List UInt8), ([] : List UInt8), ([] : List UInt8), ([] : List UInt8), ([] : List UInt8), ([] : List UInt8))) else (if a0_0 = 2 then ((a0_1, ([] : List UInt8), ([] : List UInt8), ([] : List UInt8), ([] : List UInt8), ([] : List UInt8), ([] : List UInt8), ([] : List UInt8), ([] : List UInt8))) else (if a0_0 = 3 then ((a0_1, ([] : List UInt8), ([] : List UInt8), ([] : List UInt8), ([] : List UInt8), ([] : List UInt8), ([] : List UInt8), ([] : List UInt8), ([] : List UInt8))) else (kh (if a0_0 = 4 then (((a0_0 == 4), ([] : List UInt8), ([] : List UInt8), ([] : List UInt8), ([] : List UInt8), ([] : List UInt8), ([] : List UInt8), ([] : List UInt8), ([] : List UInt8))) else (if a0_0 = 5 then (((a0_0 == 5), ([] : List UInt8), ([] : List UInt8), ([] : List UInt8), ([] : List UInt8), ([] : List UInt8), ([] : List UInt8), ([] : List UInt8), ([] : List UInt8))) else (if a0_0 = 7 then (((a0_0 == 7), ([] : List UInt8), ([] : List UInt8), ([] : List UInt8), ([] : List UInt8), ([] : List UInt8), ([] : List UInt8), ([] : List UInt8), ([] : List UInt8))) else (((a0_0 == 8), ([] : List UInt8), ([] : List UInt8), ([] : List UInt8), ([] : List UInt8), ([] : List UInt8), ([] : List UInt8), ([] : List UInt8), ([] : List UInt8)))))) fun x6 => (if x6.1 = true then ((0, x6.2.1, x6.2.2.1, x6.2.2.2.1, x6.2.2.2.2.1, x6.2.2.2.2.2.1, x6.2.2.2.2.2.2.1, x6.2.2.2.2.2.2.2.1, x6.2.2.2.2.2.2.2.2)) else (if a0_0 = 6 then ((a0_1, x6.2.1, x6.2.2.1, x6.2.2.2.1, x6.2.2.2.2.1, x6.2.2.2.2.2.1, x6.2.2.2.2.2.2.1, x6.2.2.2.2.2.2.2.1, x6.2.2.2.2.2.2.2.2)) else ((a0_1, x6.2.1, x6.2.2.1, x6.2.2.2.1, x6.2.2.2.2.1, x6.2.2.2.2.2.1, x6.2.2.2.2.2.2.1, x6.2.2.2.2.2.2.2.1, x6.2.2.2.2.2.2.2.2)))))))) fun x5 => ((a0_0, x5.1, 0, 0, false, false, false, false, false, false, false, false, x5.2.1, x5.2.2.1, x5.2.2.2.1, x5.2.2.2.2.1, 0, 0, 0, 0, 0, 0, 0, 0, 0)))
def lL (a1 : Int) : (Int × Int) := (kh (ji a1) fun x4 => (if (!x4) = true then ((1, 0)) else ((1, 0))))
def ct (K : Nat) (a0_0 : Int) (a0_1 : Int) (a1 : Int) : Option Bool := (kh (jd a0_0 a0_1) fun x10 => (if a0_0 < 1 then (some (false)) else (if 9 < a0_0 then (some (false)) else ((bR K [(⟨x10.1, x10.2.1, [], (⟨x10.2.2.1, x10.2.2.2.1, x10.2.2.2.2.1, x10.2.2.2.2.2.1, x10.2.2.2.2.2.2.1, x10.2.2.2.2.2.2.2.1, x10.2.2.2.2.2.2.2.2.1, x10.2.2.2.2.2.2.2.2.2.1, x10.2.2.2.2.2.2.2.2.2.2.1, x10.2.2.2.2.2.2.2.2.2.2.2.1, x10.2.2.2.2.2.2.2.2.2.2.2.2.1, x10.2.2.2.2.2.2.2.2.2.2.2.2.2.1, x10.2.2.2.2.2.2.2.2.2.2.2.2.2.2.1, x10.2.2.2.2.2.2.2.2.2.2.2.2.2.2.2.1⟩ : aF), (⟨x10.2.2.2.2.2.2.2.2.2.2.2.2.2.2.2.2.1, x10.2.2.2.2.2.2.2.2.2.2.2.2.2.2.2.2.2.1, x10.2.2.2.2.2.2.2.2.2.2.2.2.2.2.2.2.2.2.1, x10.2.2.2.2.2.2.2.2.2.2.2.2.2.2.2.2.2.2.2.1, x10.2.2.2.2.2.2.2.2.2.2.2.2.2.2.2.2.2.2.2.2.1, x10.2.2.2.2.2.2.2.2.2.2.2.2.2.2.2.2.2.2.2.2.2.1, x10.2.2.2.2.2.2.2.2.2.2.2.2.2.2.2.2.2.2.2.2.2.2.1, x10.2.2.2.2.2.2.2.2.2.2.2.2.2.2.2.2.2.2.2.2.2.2.2.1, x10.2.2.2.2.2.2.2.2.2.2.2.2.2.2.2.2.2.2.2.2.2.2.2.2⟩ : aC), []⟩ : aG)] [(⟨a0_0, 0, [], (⟨0, 0, false, false, false, false, false, false, false, false, ([] : List UInt8), ([] : List UInt8), ([] : List UInt8), ([] : List UInt8)⟩ : aF), (⟨0, 0, 0, 0, 0, 0, 0, 0, 0⟩ : aC), []⟩ : aG)]).bind fun x12 => (if (!x12) = true then (some (false)) else (if a0_0 = 1 then (kh (lL a1) fun x16 => (some ((x16.1 == 0)))) else (if a0_0 = 2 then ((ka K 0 0 false false false false false false false false ([] : List UInt8) ([] : List UInt8) ([] : List UInt8) ([] : List UInt8) a1).bind fun x17 => (some ((x17 == 0)))) else (if a0_0 = 3 then ((hZ 0 0 0 0 0 0 0 0 0).bind fun x18 => (some ((x18 == 0)))) else (some (true))))))))))
def bK (K : Nat) (p0_1 : Int) : Nat → Int → Int → (List (List UInt8)) → Int → Int → Int → Int → Int → Int → Int → Int → Option (Option (Int × (List aA) × Int × Int × Bool × Bool × Bool × Bool × Bool × Bool × Bool × Bool × (List UInt8) × (List UInt8) × (List UInt8) × (List UInt8) × (List (List UInt8)) × Int × Int × Int × Int × Int × Int × Int × Int × Int × (List Bool) × Int))
  | 0, _, _, _, _, _, _, _, _, _, _, _ => none
  | k + 1, i29, i30, l6, i31, i33, i34, i35, i36, i37, i38, i39 => (if i30 < 9 then (if 0 ≤ i30 then (if i30 < (9 : Int) then (if i30 = 0 then ((aM K l6 p0_1).bind fun x262 => (oq x262 (some (none)) fun x261 => (bK K p0_1 k x261.2 (bm (i30 + 1)) x261.1 i31 i33 i34 i35 i36 i37 i38 i39))) else (if i30 = 1 then ((aM K l6 p0_1).bind fun x266 => (oq x266 (some (none)) fun x265 => (bK K p0_1 k i29 (bm (i30 + 1)) x265.1 x265.2 i33 i34 i35 i36 i37 i38 i39))) else (if i30 = 2 then ((aM K l6 p0_1).bind fun x270 => (oq x270 (some (none)) fun x269 => (bK K p0_1 k i29 (bm (i30 + 1)) x269.1 i31 x269.2 i34 i35 i36 i37 i38 i39))) else (if i30 = 3 then ((aM K l6 p0_1).bind fun x274 => (oq x274 (some (none)) fun x273 => (bK K p0_1 k i29 (bm (i30 + 1)) x273.1 i31 i33 x273.2 i35 i36 i37 i38 i39))) else (if i30 = 4 then ((aM K l6 p0_1).bind fun x278 => (oq x278 (some (none)) fun x277 => (bK K p0_1 k i29 (bm (i30 + 1)) x277.1 i31 i33 i34 x277.2 i36 i37 i38 i39))) else (if i30 = 5 then ((aM K l6 p0_1).bind fun x282 => (oq x282 (some (none)) fun x281 => (bK K p0_1 k i29 (bm (i30 + 1)) x281.1 i31 i33 i34 i35 x281.2 i37 i38 i39))) else (if i30 = 6 then ((aM K l6 p0_1).bind fun x286 => (oq x286 (some (none)) fun x285 => (bK K p0_1 k i29 (bm (i30 + 1)) x285.1 i31 i33 i34 i35 i36 x285.2 i38 i39))) else (if i30 = 7 then ((aM K l6 p0_1).bind fun x290 => (oq x290 (some (none)) fun x289 => (bK K p0_1 k i29 (bm (i30 + 1)) x289.1 i31 i33 i34 i35 i36 i37 x289.2 i39))) else (if i30 = 8 then ((aM K l6 p0_1).bind fun x294 => (oq x294 (some (none)) fun x293 => (bK K p0_1 k i29 (bm (i30 + 1)) x293.1 i31 i33 i34 i35 i36 i37 i38 x293.2))) else none))))))))) else none) else none) else (if (l6.length : Int) = 0 then ((fx K i29 i31 i33 i34 i35 i36 i37 i38 i39 p0_1).bind fun x296 => (if x296 = true then (some (some (3, ([] : List aA), 0, 0, false, false, false, false, false, false, false, false, ([] : List UInt8), ([] : List UInt8), ([] : List UInt8), ([] : List UInt8), l6, i29, i31, i33, i34, i35, i36, i37, i38, i39, ([] : List Bool), 0))) else (some (none)))) else (some (none))))
def bk (K : Nat) (p0_1 : Int) (x169 : ((List (List UInt8)) × (List UInt8))) (x306 : ((List UInt8) × (List UInt8) × (List UInt8) × (List UInt8))) : Nat → Int → (List (List UInt8)) → Int → Int → Option (Option (Int × (List aA) × Int × Int × Bool × Bool × Bool × Bool × Bool × Bool × Bool × Bool × (List UInt8) × (List UInt8) × (List UInt8) × (List UInt8) × (List (List UInt8)) × Int × Int × Int × Int × Int × Int × Int × Int × Int × (List Bool) × Int))
  | 0, _, _, _, _ => none
  | k + 1, i40, l7, i41, i42 => (if i40 < 4 then (if 0 ≤ i40 then (if i40 < (4 : Int) then (if ([x306.1, x306.2.1, x306.2.2.1, x306.2.2.2].getD i40.toNat []) = x169.2 then (kh (ky) fun x322 => ((aM K l7 p0_1).bind fun x324 => (oq x324 (some (none)) fun x323 => (bk K p0_1 x169 x306 k (bm (i40 + 1)) x323.1 ([x322.1, x322.2.1, x322.2.2.1, x322.2.2.2].getD i40.toNat 0) x323.2)))) else (bk K p0_1 x169 x306 k (bm (i40 + 1)) l7 i41 i42)) else none) else none) else (if (l7.length : Int) = 0 then ((ct K i41 i42 p0_1).bind fun x326 => (if x326 = true then (some (some (i41, ([] : List aA), 0, 0, false, false, false, false, false, false, false, false, ([] : List UInt8), ([] : List UInt8), ([] : List UInt8), ([] : List UInt8), l7, 0, 0, 0, 0, 0, 0, 0, 0, 0, ([] : List Bool), i42))) else (some (none)))) else (some (none))))
def bj (K : Nat) (l0 : List (List UInt8)) (p0_1 : Int) : Option (Option (Int × (List aA) × Int × Int × Bool × Bool × Bool × Bool × Bool × Bool × Bool × Bool × (List UInt8) × (List UInt8) × (List UInt8) × (List UInt8) × (List (List UInt8)) × Int × Int × Int × Int × Int × Int × Int × Int × Int × (List Bool) × Int)) := ((cL l0 p0_1).bind fun x170 => (oq x170 (some (none)) fun x169 => (if x169.2 = ([105, 110, 103, 101, 115, 116] : List UInt8) then ((cB K x169.1 p0_1).bind fun x174 => (oq x174 (some (none)) fun x173 => (if (x173.2.length : Int) = 0 then ((gb K x173.1 p0_1).bind fun x176 => (if x176 = true then (some (some (1, x173.1, 0, 0, false, false, false, false, false, false, false, false, ([] : List UInt8), ([] : List UInt8), ([] : List UInt8), ([] : List UInt8), x173.2, 0, 0, 0, 0, 0, 0, 0, 0, 0, ([] : List Bool), 0))) else (some (none)))) else (some (none))))) else (if x169.2 = ([97, 115, 107] : List UInt8) then ((cE K x169.1 p0_1).bind fun x180 => (oq x180 (some (none)) fun x179 => (if (x179.1.length : Int) = 0 then ((fY K x179.2.1 x179.2.2.1 x179.2.2.2.1 x179.2.2.2.2.1 x179.2.2.2.2.2.1 x179.2.2.2.2.2.2.1 x179.2.2.2.2.2.2.2.1 x179.2.2.2.2.2.2.2.2.1 x179.2.2.2.2.2.2.2.2.2.1 x179.2.2.2.2.2.2.2.2.2.2.1 x179.2.2.2.2.2.2.2.2.2.2.2.1 x179.2.2.2.2.2.2.2.2.2.2.2.2.1 x179.2.2.2.2.2.2.2.2.2.2.2.2.2.1 x179.2.2.2.2.2.2.2.2.2.2.2.2.2.2 p0_1).bind fun x182 => (if x182 = true then (some (some (2, ([] : List aA), x179.2.1, x179.2.2.1, x179.2.2.2.1, x179.2.2.2.2.1, x179.2.2.2.2.2.1, x179.2.2.2.2.2.2.1, x179.2.2.2.2.2.2.2.1, x179.2.2.2.2.2.2.2.2.1, x179.2.2.2.2.2.2.2.2.2.1, x179.2.2.2.2.2.2.2.2.2.2.1, x179.2.2.2.2.2.2.2.2.2.2.2.1, x179.2.2.2.2.2.2.2.2.2.2.2.2.1, x179.2.2.2.2.2.2.2.2.2.2.2.2.2.1, x179.2.2.2.2.2.2.2.2.2.2.2.2.2.2, x179.1, 0, 0, 0, 0, 0, 0, 0, 0, 0, ([] : List Bool), 0))) else (some (none)))) else (some (none))))) else (if x169.2 = ([112, 111, 108, 105, 99, 121] : List UInt8) then (kh (jl 3 0 0 0 false false false false false false false false ([] : List UInt8) ([] : List UInt8) ([] : List UInt8) ([] : List UInt8) 0 0 0 0 0 0 0 0 0 0) fun u4 => (bK K p0_1 K 0 0 x169.1 0 0 0 0 0 0 0 0)) else (if x169.2 = ([102, 97, 105, 108] : List UInt8) then ((cC K x169.1 p0_1).bind fun x300 => (oq x300 (some (none)) fun x299 => (if (x299.1.length : Int) = 0 then ((gE K x299.2 p0_1).bind fun x302 => (if x302 = true then (some (some (6, ([] : List aA), 0, 0, false, false, false, false, false, false, false, false, ([] : List UInt8), ([] : List UInt8), ([] : List UInt8), ([] : List UInt8), x299.1, 0, 0, 0, 0, 0, 0, 0, 0, 0, x299.2, 0))) else (some (none)))) else (some (none))))) else (if x169.2 = ([115, 116, 97, 114, 116] : List UInt8) then (if (x169.1.length : Int) = 0 then ((fS K p0_1).bind fun x304 => (if x304 = true then (some (some (9, ([] : List aA), 0, 0, false, false, false, false, false, false, false, false, ([] : List UInt8), ([] : List UInt8), ([] : List UInt8), ([] : List UInt8), x169.1, 0, 0, 0, 0, 0, 0, 0, 0, 0, ([] : List Bool), 0))) else (some (none)))) else (some (none))) else (kh (ig) fun x306 => (bk K p0_1 x169 x306 K 0 x169.1 0 0)))))))))
def fR (K : Nat) (a0 : List UInt8) (a1 : Int) : Option (Int × Int × (List aA) × Int × Int × Bool × Bool × Bool × Bool × Bool × Bool × Bool × Bool × (List UInt8) × (List UInt8) × (List UInt8) × (List UInt8) × Int × Int × Int × Int × Int × Int × Int × Int × Int × (List Bool) × Int) := (if a1 < 1 then (some ((0, 0, ([] : List aA), 0, 0, false, false, false, false, false, false, false, false, ([] : List UInt8), ([] : List UInt8), ([] : List UInt8), ([] : List UInt8), 0, 0, 0, 0, 0, 0, 0, 0, 0, ([] : List Bool), 1))) else (if 4 < a1 then (some ((0, 0, ([] : List aA), 0, 0, false, false, false, false, false, false, false, false, ([] : List UInt8), ([] : List UInt8), ([] : List UInt8), ([] : List UInt8), 0, 0, 0, 0, 0, 0, 0, 0, 0, ([] : List Bool), 1))) else ((jM a0).bind fun x4 => ((bj K x4 a1).bind fun x6 => (oq x6 (some ((0, 0, ([] : List aA), 0, 0, false, false, false, false, false, false, false, false, ([] : List UInt8), ([] : List UInt8), ([] : List UInt8), ([] : List UInt8), 0, 0, 0, 0, 0, 0, 0, 0, 0, ([] : List Bool), 4))) fun x5 => (some ((x5.1, x5.2.2.2.2.2.2.2.2.2.2.2.2.2.2.2.2.2.2.2.2.2.2.2.2.2.2.2, x5.2.1, x5.2.2.1, x5.2.2.2.1, x5.2.2.2.2.1, x5.2.2.2.2.2.1, x5.2.2.2.2.2.2.1, x5.2.2.2.2.2.2.2.1, x5.2.2.2.2.2.2.2.2.1, x5.2.2.2.2.2.2.2.2.2.1, x5.2.2.2.2.2.2.2.2.2.2.1, x5.2.2.2.2.2.2.2.2.2.2.2.1, x5.2.2.2.2.2.2.2.2.2.2.2.2.1, x5.2.2.2.2.2.2.2.2.2.2.2.2.2.1, x5.2.2.2.2.2.2.2.2.2.2.2.2.2.2.1, x5.2.2.2.2.2.2.2.2.2.2.2.2.2.2.2.1, x5.2.2.2.2.2.2.2.2.2.2.2.2.2.2.2.2.2.1, x5.2.2.2.2.2.2.2.2.2.2.2.2.2.2.2.2.2.2.1, x5.2.2.2.2.2.2.2.2.2.2.2.2.2.2.2.2.2.2.2.1, x5.2.2.2.2.2.2.2.2.2.2.2.2.2.2.2.2.2.2.2.2.1, x5.2.2.2.2.2.2.2.2.2.2.2.2.2.2.2.2.2.2.2.2.2.1, x5.2.2.2.2.2.2.2.2.2.2.2.2.2.2.2.2.2.2.2.2.2.2.1, x5.2.2.2.2.2.2.2.2.2.2.2.2.2.2.2.2.2.2.2.2.2.2.2.1, x5.2.2.2.2.2.2.2.2.2.2.2.2.2.2.2.2.2.2.2.2.2.2.2.2.1, x5.2.2.2.2.2.2.2.2.2.2.2.2.2.2.2.2.2.2.2.2.2.2.2.2.2.1, x5.2.2.2.2.2.2.2.2.2.2.2.2.2.2.2.2.2.2.2.2.2.2.2.2.2.2.1, 0))))))))
def fL (K : Nat) : Option Bool := ((fR K ([105, 110, 103, 101, 115, 116, 32, 49, 57, 55, 48, 45, 48, 49, 45, 48, 49, 84, 48, 53, 32, 101, 117, 32, 45, 32, 51] : List UInt8) 2).bind fun x2 => (if x2.2.2.2.2.2.2.2.2.2.2.2.2.2.2.2.2.2.2.2.2.2.2.2.2.2.2.2 = 0 then (if (x2.2.2.1.length : Int) = 1 then (if 0 < (x2.2.2.1.length : Int) then (if (((x2.2.2.1.getD ((0 : Int).toNat) ax).Key).Hour) = 5 then (if 0 < (4 : Int) then (if ([((x2.2.2.1.getD ((0 : Int).toNat) ax).Key).Dims_0, ((x2.2.2.1.getD ((0 : Int).toNat) ax).Key).Dims_1, ((x2.2.2.1.getD ((0 : Int).toNat) ax).Key).Dims_2, ((x2.2.2.1.getD ((0 : Int).toNat) ax).Key).Dims_3].getD ((0 : Int).toNat) []) = ([101, 117] : List UInt8) then (some ((((x2.2.2.1.getD ((0 : Int).toNat) ax).Value) == 3))) else (some (false))) else none) else (some (false))) else none) else (some (false))) else (some (false))))
def eM (K : Nat) (a0 : List UInt8) : Nat → Int → (List (List UInt8)) → Option (List (List UInt8))
  | 0, _, _ => none
  | k + 1, i4, l5 => (if i4 < (a0.length : Int) then (if 0 ≤ i4 then (if ((a0.getD i4.toNat 0).toNat : Int) = 32 then (if (l5.length + [([] : List UInt8)].length) * 16 ≤ 140737488355328 then (eM K a0 k (bm (i4 + 1)) (l5 ++ [([] : List UInt8)])) else none) else (if 0 ≤ (bm ((l5.length : Int) - 1)) then (if (bm ((l5.length : Int) - 1)) < (l5.length : Int) then (if i4 ≤ (bm (i4 + 1)) then (if (bm (i4 + 1)) ≤ (a0.length : Int) then (if ((l5.getD ((bm ((l5.length : Int) - 1)).toNat) []).length : Int) + (((a0.drop i4.toNat).take ((bm (i4 + 1)).toNat - i4.toNat)).length : Int) ≤ 9223372036854775807 then (eM K a0 k (bm (i4 + 1)) (l5.set ((bm ((l5.length : Int) - 1)).toNat) ((l5.getD ((bm ((l5.length : Int) - 1)).toNat) []) ++ ((a0.drop i4.toNat).take ((bm (i4 + 1)).toNat - i4.toNat))))) else none) else none) else none) else none) else none)) else none) else (some (l5)))
def gd (K : Nat) (a0 : List UInt8) : Option (List (List UInt8)) := (if a0 = ([] : List UInt8) then (some (([] : List (List UInt8)))) else (eM K a0 K 0 [([] : List UInt8)]))
def dJ (K : Nat) (a0 : List UInt8) : Nat → Int → Int → Option Int
  | 0, _, _ => none
  | k + 1, i7, i9 => (if i9 < (a0.length : Int) then (if 0 ≤ i9 then (if 48 ≤ ((a0.getD i9.toNat 0).toNat : Int) then (if ((a0.getD i9.toNat 0).toNat : Int) ≤ 57 then (dJ K a0 k (bm ((bm (i7 * 10)) + (bm (dR (((a0.getD i9.toNat 0).toNat : Int) - 48))))) (bm (i9 + 1))) else (dJ K a0 k i7 (bm (i9 + 1)))) else (dJ K a0 k i7 (bm (i9 + 1)))) else none) else (some (i7)))
def cW (K : Nat) (a0 : List UInt8) : Option Int := (dJ K a0 K 0 0)
def eY (a0 : Int) : Bool := (if (Int.tmod a0 4) = 0 then (if ¬ ((Int.tmod a0 100) = 0) then (true) else (((Int.tmod a0 400) == 0))) else (false))
def cz (a0 : Int) (a1 : Int) : Int := (if a1 = 2 then (kh (eY a0) fun x14 => (if x14 = true then (29) else (28))) else (kh (if a1 = 4 then ((a1 == 4)) else (if a1 = 6 then ((a1 == 6)) else (if a1 = 9 then ((a1 == 9)) else ((a1 == 11))))) fun x15 => (if x15 = true then (30) else (kh (if a1 = 1 then ((a1 == 1)) else (if a1 = 3 then ((a1 == 3)) else (if a1 = 5 then ((a1 == 5)) else (if a1 = 7 then ((a1 == 7)) else (if a1 = 8 then ((a1 == 8)) else (if a1 = 10 then ((a1 == 10)) else ((a1 == 12)))))))) fun x16 => (if x16 = true then (31) else (0))))))
def eF (a0 : Int) : Int := (kh (eY a0) fun x4 => (if x4 = true then (366) else (365)))
def fg (K : Nat) (a0 : Int) : Nat → Int → Int → Option Int
  | 0, _, _ => none
  | k + 1, i17, i18 => (if i18 < a0 then (kh (eF i18) fun x43 => (fg K a0 k (bm (i17 + x43)) (bm (i18 + 1)))) else (some (i17)))
def fc (K : Nat) (a0 : Int) (a1 : Int) : Nat → Int → Int → Option Int
  | 0, _, _ => none
  | k + 1, i22, i23 => (if i23 < a1 then (kh (cz a0 i23) fun x56 => (fc K a0 a1 k (bm (i22 + x56)) (bm (i23 + 1)))) else (some (i22)))
def fQ (K : Nat) (a0 : Int) (a1 : Int) (a2 : Int) : Option (Int × Bool) := (if a0 < 1970 then (some ((0, false))) else (if 4900 < a0 then (some ((0, false))) else (if a2 < 1 then (some ((0, false))) else (kh (cz a0 a1) fun x30 => (if x30 < a2 then (some ((0, false))) else (Option.bind (fg K a0 K 0 1970) fun x37 => (Option.bind (fc K a0 a1 K x37 1) fun x50 => (some ((bm ((bm (x50 + a2)) - 1), true))))))))))
def fI (K : Nat) : Nat → Int → Int → Option (Int × Int)
  | 0, _, _ => none
  | k + 1, i19, i20 => (kh (eF i20) fun x62 => (if x62 ≤ i19 then (if i20 < 5000 then (kh (eF i20) fun x63 => (fI K k (bm (i19 - x63)) (bm (i20 + 1)))) else (some ((i19, i20)))) else (some ((i19, i20)))))
def fH (K : Nat) (x53 : (Int × Int)) : Nat → Int → Int → Option (Int × Int)
  | 0, _, _ => none
  | k + 1, i25, i26 => (if i26 < 12 then (kh (cz x53.2 i26) fun x83 => (if x83 ≤ i25 then (kh (cz x53.2 i26) fun x84 => (fH K x53 k (bm (i25 - x84)) (bm (i26 + 1)))) else (some ((i25, i26))))) else (some ((i25, i26))))
def gw (K : Nat) (a0 : Int) : Option (Int × Int × Int) := (Option.bind (fI K K a0 1970) fun x53 => (Option.bind (fH K x53 K x53.1 1) fun x74 => (some ((x53.2, x74.2, bm (x74.1 + 1))))))
def fj (K : Nat) (a1 : Int) : Nat → Int → (List UInt8) → Int → Option (List UInt8)
  | 0, _, _, _ => none
  | k + 1, i7, t4, i9 => (if i9 < a1 then (if ((lT [dR (bm (48 + (Int.tmod i7 10)))]).length : Int) + (t4.length : Int) ≤ 9223372036854775807 then (fj K a1 k (bm (Int.tdiv i7 10)) ((lT [dR (bm (48 + (Int.tmod i7 10)))]) ++ t4) (bm (i9 + 1))) else none) else (some (t4)))
def ce (K : Nat) (a0 : Int) (a1 : Int) : Option (List UInt8) := (fj K a1 K a0 ([] : List UInt8) 0)
def eH (K : Nat) (a0 : Int) : Option (List UInt8) := ((gw K (bm (Int.tdiv a0 24))).bind fun x6 => ((ce K x6.1 4).bind fun x7 => (if (x7.length : Int) + (([45] : List UInt8).length : Int) ≤ 9223372036854775807 then ((ce K x6.2.1 2).bind fun x8 => (if ((x7 ++ ([45] : List UInt8)).length : Int) + (x8.length : Int) ≤ 9223372036854775807 then (if (((x7 ++ ([45] : List UInt8)) ++ x8).length : Int) + (([45] : List UInt8).length : Int) ≤ 9223372036854775807 then ((ce K x6.2.2 2).bind fun x9 => (if ((((x7 ++ ([45] : List UInt8)) ++ x8) ++ ([45] : List UInt8)).length : Int) + (x9.length : Int) ≤ 9223372036854775807 then (if (((((x7 ++ ([45] : List UInt8)) ++ x8) ++ ([45] : List UInt8)) ++ x9).length : Int) + (([84] : List UInt8).length : Int) ≤ 9223372036854775807 then ((ce K (Int.tmod a0 24) 2).bind fun x10 => (if ((((((x7 ++ ([45] : List UInt8)) ++ x8) ++ ([45] : List UInt8)) ++ x9) ++ ([84] : List UInt8)).length : Int) + (x10.length : Int) ≤ 9223372036854775807 then (some (((((((x7 ++ ([45] : List UInt8)) ++ x8) ++ ([45] : List UInt8)) ++ x9) ++ ([84] : List UInt8)) ++ x10))) else none)) else none) else none)) else none) else none)) else none)))
def gc (K : Nat) (a0 : List UInt8) : Option (Int × Bool) := (if ¬ ((a0.length : Int) = 13) then (some ((0, false))) else (if 4 ≤ (a0.length : Int) then ((cW K ((a0.drop (0 : Int).toNat).take ((4 : Int).toNat - (0 : Int).toNat))).bind fun x8 => (if 7 ≤ (a0.length : Int) then ((cW K ((a0.drop (5 : Int).toNat).take ((7 : Int).toNat - (5 : Int).toNat))).bind fun x9 => (if 10 ≤ (a0.length : Int) then ((cW K ((a0.drop (8 : Int).toNat).take ((10 : Int).toNat - (8 : Int).toNat))).bind fun x10 => ((fQ K x8 x9 x10).bind fun x11 => (if 13 ≤ (a0.length : Int) then ((cW K ((a0.drop (11 : Int).toNat).take ((13 : Int).toNat - (11 : Int).toNat))).bind fun x12 => (if (!x11.2) = true then (some ((0, false))) else (if 23 < x12 then (some ((0, false))) else (if 16777216 < (bm ((bm (24 * x11.1)) + x12)) then (some ((0, false))) else ((eH K (bm ((bm (24 * x11.1)) + x12))).bind fun x14 => (if ¬ (x14 = a0) then (some ((0, false))) else (some ((bm ((bm (24 * x11.1)) + x12), true))))))))) else none))) else none)) else none)) else none))
def bo (K : Nat) : Nat → Int → Option (List UInt8)
  | 0, _ => none
  | k_ + 1, a0 => (if a0 = (-9223372036854775808) then (some (([45, 57, 50, 50, 51, 51, 55, 50, 48, 51, 54, 56, 53, 52, 55, 55, 53, 56, 48, 56] : List UInt8))) else (if a0 < 0 then (((bo K k_) (bm (0 - a0))).bind fun x6 => (if (([45] : List UInt8).length : Int) + (x6.length : Int) ≤ 9223372036854775807 then (some ((([45] : List UInt8) ++ x6))) else none)) else (if a0 < 10 then (some ((lT [dR (bm (48 + a0))]))) else (((bo K k_) (bm (Int.tdiv a0 10))).bind fun x7 => (((bo K k_) (Int.tmod a0 10)).bind fun x8 => (if (x7.length : Int) + (x8.length : Int) ≤ 9223372036854775807 then (some ((x7 ++ x8))) else none))))))
def bS (K : Nat) (a0 : Int) : Option (List UInt8) := bo K K a0
def fe (K : Nat) (a0 : List UInt8) : Nat → Int → Int → Option (Sum Int (Int × Bool))
  | 0, _, _ => none
  | k + 1, i14, i15 => (if i15 < (a0.length : Int) then (if 0 ≤ i15 then (if (bm ((bm ((a0.getD i15.toNat 0).toNat : Int)) - 48)) < 0 then (some (Sum.inr ((0, false)))) else (if 9 < (bm ((bm ((a0.getD i15.toNat 0).toNat : Int)) - 48)) then (some (Sum.inr ((0, false)))) else (if i14 < (bm (Int.tdiv (bm ((-9223372036854775808) + (bm ((bm ((a0.getD i15.toNat 0).toNat : Int)) - 48)))) 10)) then (some (Sum.inr ((0, false)))) else (fe K a0 k (bm ((bm (i14 * 10)) - (bm ((bm ((a0.getD i15.toNat 0).toNat : Int)) - 48)))) (bm (i15 + 1)))))) else none) else (some (Sum.inl i14)))
def di (K : Nat) (a0 : List UInt8) : Option (Int × Bool) := (if (a0.length : Int) = 0 then (some ((0, false))) else (if 20 < (a0.length : Int) then (some ((0, false))) else (Option.bind (if 0 < (a0.length : Int) then (if ((a0.getD (0 : Int).toNat 0).toNat : Int) = 45 then (some (1)) else (some (0))) else none) fun x6 => (Option.bind (fe K a0 K 0 x6) fun z => (mB z (fun v3 => (kh (if x6 = 0 then (if v3 = (-9223372036854775808) then (Sum.inr ((0, false))) else (Sum.inl (bm (0 - v3)))) else (Sum.inl v3)) fun z => (mB z (fun v4 => ((bS K v4).bind fun x10 => (if ¬ (x10 = a0) then (some ((0, false))) else (some ((v4, true)))))) (fun t_ => (some (t_)))))) (fun t_ => (some (t_))))))))
def aV (K : Nat) (l0 : List (List UInt8)) (a1 : Int) : Option Int := (if (l0.length : Int) ≤ a1 then (some (0)) else (if 0 ≤ a1 then (if a1 < (l0.length : Int) then ((di K (l0.getD a1.toNat [])).bind fun x2 => (some (x2.1))) else none) else none))
def hJ (K : Nat) (a0 : Int) : Nat → Int → Option Int
  | 0, _ => none
  | k + 1, i5 => (if i5 < 16 then (if 0 ≤ i5 then (if i5 < (([48, 49, 50, 51, 52, 53, 54, 55, 56, 57, 97, 98, 99, 100, 101, 102] : List UInt8).length : Int) then (if ((([48, 49, 50, 51, 52, 53, 54, 55, 56, 57, 97, 98, 99, 100, 101, 102] : List UInt8).getD i5.toNat 0).toNat : Int) = a0 then (some (i5)) else (hJ K a0 k (bm (i5 + 1)))) else none) else none) else (some (0)))
def eQ (K : Nat) (a0 : Int) : Option Int := (hJ K a0 K 0)
def gk (a0 : Int) : Bool := (if 97 ≤ a0 then (if a0 ≤ 122 then (true) else (if 65 ≤ a0 then (if a0 ≤ 90 then (true) else (if 48 ≤ a0 then (if a0 ≤ 57 then (true) else (if a0 = 95 then (true) else ((a0 == 46)))) else (if a0 = 95 then (true) else ((a0 == 46))))) else (if 48 ≤ a0 then (if a0 ≤ 57 then (true) else (if a0 = 95 then (true) else ((a0 == 46)))) else (if a0 = 95 then (true) else ((a0 == 46)))))) else (if 65 ≤ a0 then (if a0 ≤ 90 then (true) else (if 48 ≤ a0 then (if a0 ≤ 57 then (true) else (if a0 = 95 then (true) else ((a0 == 46)))) else (if a0 = 95 then (true) else ((a0 == 46))))) else (if 48 ≤ a0 then (if a0 ≤ 57 then (true) else (if a0 = 95 then (true) else ((a0 == 46)))) else (if a0 = 95 then (true) else ((a0 == 46))))))
def ec (K : Nat) (a0 : List UInt8) : Nat → (List UInt8) → Int → Option (List UInt8)
  | 0, _, _ => none
  | k + 1, t5, i4 => (if i4 < (a0.length : Int) then (if 0 ≤ i4 then (kh (gk ((a0.getD i4.toNat 0).toNat : Int)) fun x24 => (if x24 = true then (if i4 ≤ (bm (i4 + 1)) then (if (bm (i4 + 1)) ≤ (a0.length : Int) then (if (t5.length : Int) + (((a0.drop i4.toNat).take ((bm (i4 + 1)).toNat - i4.toNat)).length : Int) ≤ 9223372036854775807 then (ec K a0 k (t5 ++ ((a0.drop i4.toNat).take ((bm (i4 + 1)).toNat - i4.toNat))) (bm (i4 + 1))) else none) else none) else none) else (if (t5.length : Int) + (([37] : List UInt8).length : Int) ≤ 9223372036854775807 then (if 0 ≤ (dR (Int.tdiv ((a0.getD i4.toNat 0).toNat : Int) 16)) then (if (dR (Int.tdiv ((a0.getD i4.toNat 0).toNat : Int) 16)) ≤ (dR ((dR (Int.tdiv ((a0.getD i4.toNat 0).toNat : Int) 16)) + 1)) then (if (dR ((dR (Int.tdiv ((a0.getD i4.toNat 0).toNat : Int) 16)) + 1)) ≤ (([48, 49, 50, 51, 52, 53, 54, 55, 56, 57, 97, 98, 99, 100, 101, 102] : List UInt8).length : Int) then (if ((t5 ++ ([37] : List UInt8)).length : Int) + (((([48, 49, 50, 51, 52, 53, 54, 55, 56, 57, 97, 98, 99, 100, 101, 102] : List UInt8).drop (dR (Int.tdiv ((a0.getD i4.toNat 0).toNat : Int) 16)).toNat).take ((dR ((dR (Int.tdiv ((a0.getD i4.toNat 0).toNat : Int) 16)) + 1)).toNat - (dR (Int.tdiv ((a0.getD i4.toNat 0).toNat : Int) 16)).toNat)).length : Int) ≤ 9223372036854775807 then (if 0 ≤ (Int.tmod ((a0.getD i4.toNat 0).toNat : Int) 16) then (if (Int.tmod ((a0.getD i4.toNat 0).toNat : Int) 16) ≤ (dR ((Int.tmod ((a0.getD i4.toNat 0).toNat : Int) 16) + 1)) then (if (dR ((Int.tmod ((a0.getD i4.toNat 0).toNat : Int) 16) + 1)) ≤ (([48, 49, 50, 51, 52, 53, 54, 55, 56, 57, 97, 98, 99, 100, 101, 102] : List UInt8).length : Int) then (if (((t5 ++ ([37] : List UInt8)) ++ ((([48, 49, 50, 51, 52, 53, 54, 55, 56, 57, 97, 98, 99, 100, 101, 102] : List UInt8).drop (dR (Int.tdiv ((a0.getD i4.toNat 0).toNat : Int) 16)).toNat).take ((dR ((dR (Int.tdiv ((a0.getD i4.toNat 0).toNat : Int) 16)) + 1)).toNat - (dR (Int.tdiv ((a0.getD i4.toNat 0).toNat : Int) 16)).toNat))).length : Int) + (((([48, 49, 50, 51, 52, 53, 54, 55, 56, 57, 97, 98, 99, 100, 101, 102] : List UInt8).drop (Int.tmod ((a0.getD i4.toNat 0).toNat : Int) 16).toNat).take ((dR ((Int.tmod ((a0.getD i4.toNat 0).toNat : Int) 16) + 1)).toNat - (Int.tmod ((a0.getD i4.toNat 0).toNat : Int) 16).toNat)).length : Int) ≤ 9223372036854775807 then (ec K a0 k (((t5 ++ ([37] : List UInt8)) ++ ((([48, 49, 50, 51, 52, 53, 54, 55, 56, 57, 97, 98, 99, 100, 101, 102] : List UInt8).drop (dR (Int.tdiv ((a0.getD i4.toNat 0).toNat : Int) 16)).toNat).take ((dR ((dR (Int.tdiv ((a0.getD i4.toNat 0).toNat : Int) 16)) + 1)).toNat - (dR (Int.tdiv ((a0.getD i4.toNat 0).toNat : Int) 16)).toNat))) ++ ((([48, 49, 50, 51, 52, 53, 54, 55, 56, 57, 97, 98, 99, 100, 101, 102] : List UInt8).drop (Int.tmod ((a0.getD i4.toNat 0).toNat : Int) 16).toNat).take ((dR ((Int.tmod ((a0.getD i4.toNat 0).toNat : Int) 16) + 1)).toNat - (Int.tmod ((a0.getD i4.toNat 0).toNat : Int) 16).toNat))) (bm (i4 + 1))) else none) else none) else none) else none) else none) else none) else none) else none) else none))) else none) else (some (t5)))
def dU (K : Nat) (a0 : List UInt8) : Option (List UInt8) := (if a0 = ([] : List UInt8) then (some (([45] : List UInt8))) else (ec K a0 K ([] : List UInt8) 0))
def dN (K : Nat) (a0 : List UInt8) : Nat → Int → (List Int) → Option (List Int)
  | 0, _, _ => none
  | k + 1, i4, l6 => (if i4 < (a0.length : Int) then (if 0 ≤ i4 then (if ((a0.getD i4.toNat 0).toNat : Int) = 37 then (if (bm (i4 + 2)) < (a0.length : Int) then (if 0 ≤ (bm (i4 + 1)) then (if (bm (i4 + 1)) < (a0.length : Int) then ((eQ K ((a0.getD (bm (i4 + 1)).toNat 0).toNat : Int)).bind fun x53 => (if 0 ≤ (bm (i4 + 2)) then ((eQ K ((a0.getD (bm (i4 + 2)).toNat 0).toNat : Int)).bind fun x54 => (if (l6.length + [dR (bm ((bm (16 * x53)) + x54))].length) * 1 ≤ 140737488355328 then (dN K a0 k (bm ((bm (i4 + 2)) + 1)) (l6 ++ [dR (bm ((bm (16 * x53)) + x54))])) else none)) else none)) else none) else none) else (if (l6.length + [((a0.getD i4.toNat 0).toNat : Int)].length) * 1 ≤ 140737488355328 then (dN K a0 k (bm (i4 + 1)) (l6 ++ [((a0.getD i4.toNat 0).toNat : Int)])) else none)) else (if (l6.length + [((a0.getD i4.toNat 0).toNat : Int)].length) * 1 ≤ 140737488355328 then (dN K a0 k (bm (i4 + 1)) (l6 ++ [((a0.getD i4.toNat 0).toNat : Int)])) else none)) else none) else (some (l6)))
def eG (K : Nat) (a0 : List UInt8) : Option ((List UInt8) × Bool) := (Option.bind (if ¬ (a0 = ([45] : List UInt8)) then (dN K a0 K 0 ([] : List Int)) else (some (([] : List Int)))) fun x42 => ((dU K (lT x42)).bind fun x56 => (if ¬ (x56 = a0) then (some ((([] : List UInt8), false))) else (some (((lT x42), true))))))
def es (K : Nat) (l0 : List (List UInt8)) (a1 : Int) : Option (List UInt8) := (if (l0.length : Int) ≤ a1 then (some (([] : List UInt8))) else (if 0 ≤ a1 then (if a1 < (l0.length : Int) then ((eG K (l0.getD a1.toNat [])).bind fun x2 => (some (x2.1))) else none) else none))
def dr (K : Nat) (l0 : List (List UInt8)) (a1 : Int) (i47 : Int) : Nat → Int → (List UInt8) → (List UInt8) → (List UInt8) → (List UInt8) → Option ((List UInt8) × (List UInt8) × (List UInt8) × (List UInt8))
  | 0, _, _, _, _, _ => none
  | k + 1, i55, t285, t286, t287, t288 => (if i55 < a1 then ((es K l0 (bm ((bm (i47 + 1)) + i55))).bind fun x468 => (if 0 ≤ i55 then (if i55 < (4 : Int) then (dr K l0 a1 i47 k (bm (i55 + 1)) (if i55.toNat = 0 then x468 else t285) (if i55.toNat = 1 then x468 else t286) (if i55.toNat = 2 then x468 else t287) (if i55.toNat = 3 then x468 else t288)) else none) else none)) else (some ((t285, t286, t287, t288))))
def eT (K : Nat) (l0 : List (List UInt8)) (a1 : Int) : Nat → Int → (List aA) → Option (List aA)
  | 0, _, _ => none
  | k + 1, i47, l15 => (if i47 < (l0.length : Int) then (if (l15.length : Int) < 60 then (Option.bind (if 0 ≤ i47 then ((gc K (l0.getD i47.toNat [])).bind fun x450 => ((aV K l0 (bm ((bm (i47 + a1)) + 1))).bind fun x451 => (Option.bind (dr K l0 a1 i47 K 0 ([] : List UInt8) ([] : List UInt8) ([] : List UInt8) ([] : List UInt8)) fun x460 => (if (l15.length + [(⟨(⟨x450.1, x460.1, x460.2.1, x460.2.2.1, x460.2.2.2⟩ : iK), x451⟩ : aA)].length) * 80 ≤ 140737488355328 then (some ((l15 ++ [(⟨(⟨x450.1, x460.1, x460.2.1, x460.2.2.1, x460.2.2.2⟩ : iK), x451⟩ : aA)]))) else none)))) else none) fun x449 => (eT K l0 a1 k (bm (i47 + (bm (a1 + 2)))) x449)) else (some (l15))) else (some (l15)))
def fK (K : Nat) (l0 : List (List UInt8)) (a1 : Int) : Option (List aA) := (eT K l0 a1 K 1 ([] : List aA))
def dq (K : Nat) (l0 : List (List UInt8)) (a1 : Int) (x35 : Int) (x36 : Int) : Nat → Int → (List UInt8) → (List UInt8) → (List UInt8) → (List UInt8) → Bool → Bool → (List UInt8) → (List UInt8) → (List UInt8) → (List UInt8) → Bool → Bool → Bool → Bool → Bool → Bool → Option (Int × Int × Bool × Bool × Bool × Bool × Bool × Bool × Bool × Bool × (List UInt8) × (List UInt8) × (List UInt8) × (List UInt8))
  | 0, _, _, _, _, _, _, _, _, _, _, _, _, _, _, _, _, _ => none
  | k + 1, i4, t115, t116, t117, t118, q105, q106, t119, t120, t121, t122, q115, q116, q117, q118, q119, q120 => (if i4 < a1 then (if (bm (3 + i4)) < (l0.length : Int) then (if 0 ≤ (bm (3 + i4)) then (Option.bind (if 0 < ((l0.getD ((bm (3 + i4)).toNat) []).length : Int) then (if (((l0.getD ((bm (3 + i4)).toNat) []).getD (0 : Int).toNat 0).toNat : Int) = 43 then (if 0 ≤ i4 then (if i4 < (4 : Int) then (if 1 ≤ ((l0.getD ((bm (3 + i4)).toNat) []).length : Int) then (some ((((l0.getD ((bm (3 + i4)).toNat) []).drop (1 : Int).toNat), (if i4.toNat = 0 then true else q105), (if i4.toNat = 1 then true else q115), (if i4.toNat = 2 then true else q116), (if i4.toNat = 3 then true else q117)))) else none) else none) else none) else (some (((l0.getD ((bm (3 + i4)).toNat) []), q105, q115, q116, q117)))) else (some (((l0.getD ((bm (3 + i4)).toNat) []), q105, q115, q116, q117)))) fun x67 => (if 0 < (x67.1.length : Int) then (if ((x67.1.getD (0 : Int).toNat 0).toNat : Int) = 61 then (if 0 ≤ i4 then (if i4 < (4 : Int) then (if 1 ≤ (x67.1.length : Int) then ((es K [(x67.1.drop (1 : Int).toNat)] 0).bind fun x68 => (dq K l0 a1 x35 x36 k (bm (i4 + 1)) t115 t116 t117 t118 x67.2.1 (if i4.toNat = 0 then true else q106) (if i4.toNat = 0 then x68 else t119) (if i4.toNat = 1 then x68 else t120) (if i4.toNat = 2 then x68 else t121) (if i4.toNat = 3 then x68 else t122) x67.2.2.1 x67.2.2.2.1 x67.2.2.2.2 (if i4.toNat = 1 then true else q118) (if i4.toNat = 2 then true else q119) (if i4.toNat = 3 then true else q120))) else none) else none) else none) else (dq K l0 a1 x35 x36 k (bm (i4 + 1)) t115 t116 t117 t118 x67.2.1 q106 t119 t120 t121 t122 x67.2.2.1 x67.2.2.2.1 x67.2.2.2.2 q118 q119 q120)) else (dq K l0 a1 x35 x36 k (bm (i4 + 1)) t115 t116 t117 t118 x67.2.1 q106 t119 t120 t121 t122 x67.2.2.1 x67.2.2.2.1 x67.2.2.2.2 q118 q119 q120))) else none) else (some ((x35, x36, q105, q115, q116, q117, q106, q118, q119, q120, t119, t120, t121, t122)))) else (some ((x35, x36, q105, q115, q116, q117, q106, q118, q119, q120, t119, t120, t121, t122))))
def fN (K : Nat) (l0 : List (List UInt8)) (a1 : Int) : Option (Int × Int × Bool × Bool × Bool × Bool × Bool × Bool × Bool × Bool × (List UInt8) × (List UInt8) × (List UInt8) × (List UInt8)) := ((aV K l0 1).bind fun x35 => ((aV K l0 2).bind fun x36 => (dq K l0 a1 x35 x36 K 0 ([] : List UInt8) ([] : List UInt8) ([] : List UInt8) ([] : List UInt8) false false ([] : List UInt8) ([] : List UInt8) ([] : List UInt8) ([] : List UInt8) false false false false false false)))
def aU : List (List UInt8) := ([([] : List UInt8), ([] : List UInt8), ([] : List UInt8), ([] : List UInt8), ([116, 105, 99, 107] : List UInt8), ([119, 111, 114, 107] : List UInt8), ([] : List UInt8), ([97, 114, 109] : List UInt8), ([99, 114, 97, 115, 104] : List UInt8)])
def cN (K : Nat) (l0 : List (List UInt8)) : Nat → Int → (List Bool) → Option (Sum ((List UInt8) × (List UInt8) × (List UInt8) × (List UInt8)) (Int × (List aA) × Int × Int × Bool × Bool × Bool × Bool × Bool × Bool × Bool × Bool × (List UInt8) × (List UInt8) × (List UInt8) × (List UInt8) × Int × Int × Int × Int × Int × Int × Int × Int × Int × (List Bool) × Int))
  | 0, _, _ => none
  | k + 1, i25, l10 => (if 1 < (l0.length : Int) then (if i25 < ((l0.getD ((1 : Int).toNat) []).length : Int) then (if 0 ≤ i25 then (if (l10.length + [((((l0.getD ((1 : Int).toNat) []).getD i25.toNat 0).toNat : Int) == 49)].length) * 1 ≤ 140737488355328 then (cN K l0 k (bm (i25 + 1)) (l10 ++ [((((l0.getD ((1 : Int).toNat) []).getD i25.toNat 0).toNat : Int) == 49)])) else none) else none) else (some (Sum.inr ((6, ([] : List aA), 0, 0, false, false, false, false, false, false, false, false, ([] : List UInt8), ([] : List UInt8), ([] : List UInt8), ([] : List UInt8), 0, 0, 0, 0, 0, 0, 0, 0, 0, l10, 0))))) else (some (Sum.inr ((6, ([] : List aA), 0, 0, false, false, false, false, false, false, false, false, ([] : List UInt8), ([] : List UInt8), ([] : List UInt8), ([] : List UInt8), 0, 0, 0, 0, 0, 0, 0, 0, 0, l10, 0)))))
def bb (K : Nat) (l0 : List (List UInt8)) : Nat → Int → Option (Int × (List aA) × Int × Int × Bool × Bool × Bool × Bool × Bool × Bool × Bool × Bool × (List UInt8) × (List UInt8) × (List UInt8) × (List UInt8) × Int × Int × Int × Int × Int × Int × Int × Int × Int × (List Bool) × Int)
  | 0, _ => none
  | k + 1, i27 => (if i27 < 9 then (kh (aU) fun x94 => (if 0 ≤ i27 then (if i27 < (x94.length : Int) then (if 0 < (l0.length : Int) then (if (x94.getD i27.toNat []) = (l0.getD ((0 : Int).toNat) []) then (if ¬ ((l0.getD ((0 : Int).toNat) []) = ([] : List UInt8)) then ((aV K l0 1).bind fun x95 => (some ((i27, ([] : List aA), 0, 0, false, false, false, false, false, false, false, false, ([] : List UInt8), ([] : List UInt8), ([] : List UInt8), ([] : List UInt8), 0, 0, 0, 0, 0, 0, 0, 0, 0, ([] : List Bool), x95)))) else (bb K l0 k (bm (i27 + 1)))) else (bb K l0 k (bm (i27 + 1)))) else none) else none) else none)) else (some ((0, ([] : List aA), 0, 0, false, false, false, false, false, false, false, false, ([] : List UInt8), ([] : List UInt8), ([] : List UInt8), ([] : List UInt8), 0, 0, 0, 0, 0, 0, 0, 0, 0, ([] : List Bool), 0))))
def bx (K : Nat) (l0 : List (List UInt8)) (a1 : Int) : Option (Int × (List aA) × Int × Int × Bool × Bool × Bool × Bool × Bool × Bool × Bool × Bool × (List UInt8) × (List UInt8) × (List UInt8) × (List UInt8) × Int × Int × Int × Int × Int × Int × Int × Int × Int × (List Bool) × Int) := (Option.bind (if 0 < (l0.length : Int) then (if (l0.getD ((0 : Int).toNat) []) = ([105, 110, 103, 101, 115, 116] : List UInt8) then ((fK K l0 a1).bind fun x61 => (some (Sum.inr ((1, x61, 0, 0, false, false, false, false, false, false, false, false, ([] : List UInt8), ([] : List UInt8), ([] : List UInt8), ([] : List UInt8), 0, 0, 0, 0, 0, 0, 0, 0, 0, ([] : List Bool), 0))))) else (if (l0.getD ((0 : Int).toNat) []) = ([97, 115, 107] : List UInt8) then ((fN K l0 a1).bind fun x62 => (some (Sum.inr ((2, ([] : List aA), x62.1, x62.2.1, x62.2.2.1, x62.2.2.2.1, x62.2.2.2.2.1, x62.2.2.2.2.2.1, x62.2.2.2.2.2.2.1, x62.2.2.2.2.2.2.2.1, x62.2.2.2.2.2.2.2.2.1, x62.2.2.2.2.2.2.2.2.2.1, x62.2.2.2.2.2.2.2.2.2.2.1, x62.2.2.2.2.2.2.2.2.2.2.2.1, x62.2.2.2.2.2.2.2.2.2.2.2.2.1, x62.2.2.2.2.2.2.2.2.2.2.2.2.2, 0, 0, 0, 0, 0, 0, 0, 0, 0, ([] : List Bool), 0))))) else (if (l0.getD ((0 : Int).toNat) []) = ([112, 111, 108, 105, 99, 121] : List UInt8) then ((aV K l0 1).bind fun x63 => ((aV K l0 2).bind fun x64 => ((aV K l0 3).bind fun x65 => ((aV K l0 4).bind fun x66 => ((aV K l0 5).bind fun x67 => ((aV K l0 6).bind fun x68 => ((aV K l0 7).bind fun x69 => ((aV K l0 8).bind fun x70 => ((aV K l0 9).bind fun x71 => (some (Sum.inr ((3, ([] : List aA), 0, 0, false, false, false, false, false, false, false, false, ([] : List UInt8), ([] : List UInt8), ([] : List UInt8), ([] : List UInt8), x63, x64, x65, x66, x67, x68, x69, x70, x71, ([] : List Bool), 0))))))))))))) else (if (l0.getD ((0 : Int).toNat) []) = ([102, 97, 105, 108] : List UInt8) then (cN K l0 K 0 ([] : List Bool)) else (if (l0.getD ((0 : Int).toNat) []) = ([115, 116, 97, 114, 116] : List UInt8) then (some (Sum.inr ((9, ([] : List aA), 0, 0, false, false, false, false, false, false, false, false, ([] : List UInt8), ([] : List UInt8), ([] : List UInt8), ([] : List UInt8), 0, 0, 0, 0, 0, 0, 0, 0, 0, ([] : List Bool), 0)))) else (some (Sum.inl (([] : List UInt8), ([] : List UInt8), ([] : List UInt8), ([] : List UInt8))))))))) else none) fun z => (mB z (fun v2 => (bb K l0 K 1)) (fun t_ => (some (t_)))))
def dc (K : Nat) (a0_1 : List UInt8) (a0_2 : List UInt8) (a0_3 : List UInt8) (a0_4 : List UInt8) (a1 : Int) : Nat → Int → Option Int
  | 0, _ => none
  | k + 1, i5 => (if i5 < 4 then (if 0 ≤ i5 then (if i5 < (4 : Int) then (if 16 < (([a0_1, a0_2, a0_3, a0_4].getD i5.toNat []).length : Int) then (some (4)) else (if a1 ≤ i5 then (if ¬ (([a0_1, a0_2, a0_3, a0_4].getD i5.toNat []) = ([] : List UInt8)) then (some (4)) else (dc K a0_1 a0_2 a0_3 a0_4 a1 k (bm (i5 + 1)))) else (dc K a0_1 a0_2 a0_3 a0_4 a1 k (bm (i5 + 1))))) else none) else none) else (some (0)))
def ge (K : Nat) (a0_0 : Int) (a0_1 : List UInt8) (a0_2 : List UInt8) (a0_3 : List UInt8) (a0_4 : List UInt8) (a0_5 : Int) (a1 : Int) : Option Int := (if a1 < 1 then (some (1)) else (if 4 < a1 then (some (1)) else (if a0_0 < 0 then (some (2)) else (if 16777216 < a0_0 then (some (2)) else (if 1152921504606846976 < a0_5 then (some (2)) else (if a0_5 < (-1152921504606846976) then (some (2)) else (dc K a0_1 a0_2 a0_3 a0_4 a1 K 0)))))))
def eN (K : Nat) (l0 : List aA) (a1 : Int) : Nat → Int → Option (Int × Int)
  | 0, _ => none
  | k + 1, i6 => (if i6 < (l0.length : Int) then (if 0 ≤ i6 then ((ge K (((l0.getD i6.toNat ax).Key).Hour) (((l0.getD i6.toNat ax).Key).Dims_0) (((l0.getD i6.toNat ax).Key).Dims_1) (((l0.getD i6.toNat ax).Key).Dims_2) (((l0.getD i6.toNat ax).Key).Dims_3) ((l0.getD i6.toNat ax).Value) a1).bind fun x24 => (if ¬ (x24 = 0) then (some ((x24, i6))) else (eN K l0 a1 k (bm (i6 + 1))))) else none) else (some ((0, 0))))
def gl (K : Nat) (l0 : List aA) (a1 : Int) : Option (Int × Int) := (if a1 < 1 then (some ((1, 0))) else (if 4 < a1 then (some ((1, 0))) else (if (l0.length : Int) < 1 then (some ((1, 0))) else (if 50 < (l0.length : Int) then (some ((1, 0))) else (eN K l0 a1 K 0)))))
def cq (a0_0 : Int) (a0_1 : Int) (l0 : List aA) (a0_3 : Int) (a0_4 : Int) (a0_5 : Bool) (a0_6 : Bool) (a0_7 : Bool) (a0_8 : Bool) (a0_9 : Bool) (a0_10 : Bool) (a0_11 : Bool) (a0_12 : Bool) (a0_13 : List UInt8) (a0_14 : List UInt8) (a0_15 : List UInt8) (a0_16 : List UInt8) (a0_17 : Int) (a0_18 : Int) (a0_19 : Int) (a0_20 : Int) (a0_21 : Int) (a0_22 : Int) (a0_23 : Int) (a0_24 : Int) (a0_25 : Int) (l1 : List Bool) (a1 : Bool) (a2 : Bool) (a3 : Bool) (a4 : Bool) (a5 : Bool) : Bool := (if a1 = true then (if a2 = true then (if a3 = true then (if a4 = true then (if a5 = true then (true) else (((l1.length : Int) == 0))) else (if a0_1 = 0 then (if a5 = true then (true) else (((l1.length : Int) == 0))) else (false))) else (if ((a0_17 == 0) && ((a0_18 == 0) && ((a0_19 == 0) && ((a0_20 == 0) && ((a0_21 == 0) && ((a0_22 == 0) && ((a0_23 == 0) && ((a0_24 == 0) && ((a0_25 == 0) && true))))))))) = true then (if a4 = true then (if a5 = true then (true) else (((l1.length : Int) == 0))) else (if a0_1 = 0 then (if a5 = true then (true) else (((l1.length : Int) == 0))) else (false))) else (false))) else (if ((a0_3 == 0) && ((a0_4 == 0) && (((a0_5 == false) && ((a0_6 == false) && ((a0_7 == false) && ((a0_8 == false) && true)))) && (((a0_9 == false) && ((a0_10 == false) && ((a0_11 == false) && ((a0_12 == false) && true)))) && (((a0_13 == ([] : List UInt8)) && ((a0_14 == ([] : List UInt8)) && ((a0_15 == ([] : List UInt8)) && ((a0_16 == ([] : List UInt8)) && true)))) && true))))) = true then (if a3 = true then (if a4 = true then (if a5 = true then (true) else (((l1.length : Int) == 0))) else (if a0_1 = 0 then (if a5 = true then (true) else (((l1.length : Int) == 0))) else (false))) else (if ((a0_17 == 0) && ((a0_18 == 0) && ((a0_19 == 0) && ((a0_20 == 0) && ((a0_21 == 0) && ((a0_22 == 0) && ((a0_23 == 0) && ((a0_24 == 0) && ((a0_25 == 0) && true))))))))) = true then (if a4 = true then (if a5 = true then (true) else (((l1.length : Int) == 0))) else (if a0_1 = 0 then (if a5 = true then (true) else (((l1.length : Int) == 0))) else (false))) else (false))) else (false))) else (if (l0.length : Int) = 0 then (if a2 = true then (if a3 = true then (if a4 = true then (if a5 = true then (true) else (((l1.length : Int) == 0))) else (if a0_1 = 0 then (if a5 = true then (true) else (((l1.length : Int) == 0))) else (false))) else (if ((a0_17 == 0) && ((a0_18 == 0) && ((a0_19 == 0) && ((a0_20 == 0) && ((a0_21 == 0) && ((a0_22 == 0) && ((a0_23 == 0) && ((a0_24 == 0) && ((a0_25 == 0) && true))))))))) = true then (if a4 = true then (if a5 = true then (true) else (((l1.length : Int) == 0))) else (if a0_1 = 0 then (if a5 = true then (true) else (((l1.length : Int) == 0))) else (false))) else (false))) else (if ((a0_3 == 0) && ((a0_4 == 0) && (((a0_5 == false) && ((a0_6 == false) && ((a0_7 == false) && ((a0_8 == false) && true)))) && (((a0_9 == false) && ((a0_10 == false) && ((a0_11 == false) && ((a0_12 == false) && true)))) && (((a0_13 == ([] : List UInt8)) && ((a0_14 == ([] : List UInt8)) && ((a0_15 == ([] : List UInt8)) && ((a0_16 == ([] : List UInt8)) && true)))) && true))))) = true then (if a3 = true then (if a4 = true then (if a5 = true then (true) else (((l1.length : Int) == 0))) else (if a0_1 = 0 then (if a5 = true then (true) else (((l1.length : Int) == 0))) else (false))) else (if ((a0_17 == 0) && ((a0_18 == 0) && ((a0_19 == 0) && ((a0_20 == 0) && ((a0_21 == 0) && ((a0_22 == 0) && ((a0_23 == 0) && ((a0_24 == 0) && ((a0_25 == 0) && true))))))))) = true then (if a4 = true then (if a5 = true then (true) else (((l1.length : Int) == 0))) else (if a0_1 = 0 then (if a5 = true then (true) else (((l1.length : Int) == 0))) else (false))) else (false))) else (false))) else (false)))
def eL (K : Nat) (a0_2 : Bool) (a0_3 : Bool) (a0_4 : Bool) (a0_5 : Bool) (a0_6 : Bool) (a0_7 : Bool) (a0_8 : Bool) (a0_9 : Bool) (a0_10 : List UInt8) (a0_11 : List UInt8) (a0_12 : List UInt8) (a0_13 : List UInt8) (a1 : Int) : Nat → Int → Option Int
  | 0, _ => none
  | k + 1, i5 => (if i5 < 4 then (Option.bind (if a1 ≤ i5 then (if 0 ≤ i5 then (if i5 < (4 : Int) then (if ([a0_2, a0_3, a0_4, a0_5].getD i5.toNat false) = true then (some (Sum.inr (4))) else (if ([a0_6, a0_7, a0_8, a0_9].getD i5.toNat false) = true then (some (Sum.inr (4))) else (if ¬ (([a0_10, a0_11, a0_12, a0_13].getD i5.toNat []) = ([] : List UInt8)) then (some (Sum.inr (4))) else (if 16 < (([a0_10, a0_11, a0_12, a0_13].getD i5.toNat []).length : Int) then (some (Sum.inr (4))) else (if (!([a0_6, a0_7, a0_8, a0_9].getD i5.toNat false)) = true then (some (Sum.inl ())) else (some (Sum.inl ()))))))) else none) else none) else (if 0 ≤ i5 then (if i5 < (4 : Int) then (if 16 < (([a0_10, a0_11, a0_12, a0_13].getD i5.toNat []).length : Int) then (some (Sum.inr (4))) else (if (!([a0_6, a0_7, a0_8, a0_9].getD i5.toNat false)) = true then (if ¬ (([a0_10, a0_11, a0_12, a0_13].getD i5.toNat []) = ([] : List UInt8)) then (some (Sum.inr (4))) else (some (Sum.inl ()))) else (some (Sum.inl ())))) else none) else none)) fun z => (mB z (fun v12 => (eL K a0_2 a0_3 a0_4 a0_5 a0_6 a0_7 a0_8 a0_9 a0_10 a0_11 a0_12 a0_13 a1 k (bm (i5 + 1)))) (fun t_ => (some (t_))))) else (some (0)))
def gj (K : Nat) (a0_0 : Int) (a0_1 : Int) (a0_2 : Bool) (a0_3 : Bool) (a0_4 : Bool) (a0_5 : Bool) (a0_6 : Bool) (a0_7 : Bool) (a0_8 : Bool) (a0_9 : Bool) (a0_10 : List UInt8) (a0_11 : List UInt8) (a0_12 : List UInt8) (a0_13 : List UInt8) (a1 : Int) : Option Int := (if a1 < 1 then (some (1)) else (if 4 < a1 then (some (1)) else (if a0_0 < 0 then (some (2)) else (if 16777217 < a0_1 then (some (2)) else (if a0_1 < a0_0 then (some (2)) else (eL K a0_2 a0_3 a0_4 a0_5 a0_6 a0_7 a0_8 a0_9 a0_10 a0_11 a0_12 a0_13 a1 K 0))))))
def ck (a0 : Int) (a1 : Int) (a2 : Int) : Bool := (if a1 ≤ a0 then (decide (a0 ≤ a2)) else (false))
def de (a0_0 : Int) (a0_1 : Int) (a0_2 : Int) (a0_3 : Int) (a0_4 : Int) (a0_5 : Int) (a0_6 : Int) (a0_7 : Int) (a0_8 : Int) : Int := (kh (ck a0_0 1 1048576) fun x24 => (if (!x24) = true then (2) else (kh (ck a0_1 0 1048576) fun x25 => (if (!x25) = true then (2) else (kh (ck a0_2 0 1048576) fun x26 => (if (!x26) = true then (2) else (kh (ck a0_3 0 1048576) fun x27 => (if (!x27) = true then (2) else (kh (ck a0_4 0 1048576) fun x28 => (if (!x28) = true then (2) else (kh (ck a0_5 1 1048576) fun x33 => (if (!x33) = true then (2) else (kh (ck a0_6 1 1048576) fun x34 => (if (!x34) = true then (2) else (kh (ck a0_7 1 64) fun x35 => (if (!x35) = true then (2) else (kh (ck a0_8 100 1048576) fun x36 => (if (!x36) = true then (2) else (0)))))))))))))))))))
def dx (K : Nat) (a0_0 : Int) (a0_1 : Int) (l0 : List aA) (a0_3 : Int) (a0_4 : Int) (a0_5 : Bool) (a0_6 : Bool) (a0_7 : Bool) (a0_8 : Bool) (a0_9 : Bool) (a0_10 : Bool) (a0_11 : Bool) (a0_12 : Bool) (a0_13 : List UInt8) (a0_14 : List UInt8) (a0_15 : List UInt8) (a0_16 : List UInt8) (a0_17 : Int) (a0_18 : Int) (a0_19 : Int) (a0_20 : Int) (a0_21 : Int) (a0_22 : Int) (a0_23 : Int) (a0_24 : Int) (a0_25 : Int) (l1 : List Bool) (a1 : Int) : Option Bool := (if a0_0 = 1 then ((gl K l0 a1).bind fun x31 => (if x31.1 = 0 then (kh (cq a0_0 a0_1 l0 a0_3 a0_4 a0_5 a0_6 a0_7 a0_8 a0_9 a0_10 a0_11 a0_12 a0_13 a0_14 a0_15 a0_16 a0_17 a0_18 a0_19 a0_20 a0_21 a0_22 a0_23 a0_24 a0_25 l1 true false false false false) fun x32 => (some (x32))) else (some (false)))) else (if a0_0 = 2 then ((gj K a0_3 a0_4 a0_5 a0_6 a0_7 a0_8 a0_9 a0_10 a0_11 a0_12 a0_13 a0_14 a0_15 a0_16 a1).bind fun x33 => (if x33 = 0 then (kh (cq a0_0 a0_1 l0 a0_3 a0_4 a0_5 a0_6 a0_7 a0_8 a0_9 a0_10 a0_11 a0_12 a0_13 a0_14 a0_15 a0_16 a0_17 a0_18 a0_19 a0_20 a0_21 a0_22 a0_23 a0_24 a0_25 l1 false true false false false) fun x34 => (some (x34))) else (some (false)))) else (if a0_0 = 3 then (kh (de a0_17 a0_18 a0_19 a0_20 a0_21 a0_22 a0_23 a0_24 a0_25) fun x35 => (if x35 = 0 then (kh (cq a0_0 a0_1 l0 a0_3 a0_4 a0_5 a0_6 a0_7 a0_8 a0_9 a0_10 a0_11 a0_12 a0_13 a0_14 a0_15 a0_16 a0_17 a0_18 a0_19 a0_20 a0_21 a0_22 a0_23 a0_24 a0_25 l1 false false true false false) fun x36 => (some (x36))) else (some (false)))) else (kh (if a0_0 = 4 then ((a0_0 == 4)) else (if a0_0 = 5 then ((a0_0 == 5)) else (if a0_0 = 7 then ((a0_0 == 7)) else ((a0_0 == 8))))) fun x37 => (if x37 = true then (kh (cq a0_0 a0_1 l0 a0_3 a0_4 a0_5 a0_6 a0_7 a0_8 a0_9 a0_10 a0_11 a0_12 a0_13 a0_14 a0_15 a0_16 a0_17 a0_18 a0_19 a0_20 a0_21 a0_22 a0_23 a0_24 a0_25 l1 false false false true false) fun x38 => (some (x38))) else (if a0_0 = 6 then (if (l1.length : Int) ≤ 1000 then (kh (cq a0_0 a0_1 l0 a0_3 a0_4 a0_5 a0_6 a0_7 a0_8 a0_9 a0_10 a0_11 a0_12 a0_13 a0_14 a0_15 a0_16 a0_17 a0_18 a0_19 a0_20 a0_21 a0_22 a0_23 a0_24 a0_25 l1 false false false false true) fun x39 => (some (x39))) else (some (false))) else (if a0_0 = 9 then (kh (cq a0_0 a0_1 l0 a0_3 a0_4 a0_5 a0_6 a0_7 a0_8 a0_9 a0_10 a0_11 a0_12 a0_13 a0_14 a0_15 a0_16 a0_17 a0_18 a0_19 a0_20 a0_21 a0_22 a0_23 a0_24 a0_25 l1 false false false false false) fun x40 => (some (x40))) else (some (false)))))))))
def gz (K : Nat) (a0_0 : Int) (a0_1 : Int) (a0_2 : Bool) (a0_3 : Bool) (a0_4 : Bool) (a0_5 : Bool) (a0_6 : Bool) (a0_7 : Bool) (a0_8 : Bool) (a0_9 : Bool) (a0_10 : List UInt8) (a0_11 : List UInt8) (a0_12 : List UInt8) (a0_13 : List UInt8) (a1 : Int) : Option (List UInt8) := (Option.bind (if 0 ≤ a1 then (if a1 < (4 : Int) then (if ([a0_2, a0_3, a0_4, a0_5].getD a1.toNat false) = true then (some (([43] : List UInt8))) else (some (([] : List UInt8)))) else none) else none) fun x5 => (Option.bind (if 0 ≤ a1 then (if a1 < (4 : Int) then (if ([a0_6, a0_7, a0_8, a0_9].getD a1.toNat false) = true then (if (x5.length : Int) + (([61] : List UInt8).length : Int) ≤ 9223372036854775807 then ((dU K ([a0_10, a0_11, a0_12, a0_13].getD a1.toNat [])).bind fun x8 => (if ((x5 ++ ([61] : List UInt8)).length : Int) + (x8.length : Int) ≤ 9223372036854775807 then (some (((x5 ++ ([61] : List UInt8)) ++ x8))) else none)) else none) else (some (x5))) else none) else none) fun x7 => (if x7 = ([] : List UInt8) then (some (([46] : List UInt8))) else (some (x7)))))
def gN (a0_0 : Int) (a0_1 : Int) (a0_2 : Int) (a0_3 : Int) (a0_4 : Int) (a0_5 : Int) (a0_6 : Int) (a0_7 : Int) (a0_8 : Int) : List Int := ([a0_0, a0_1, a0_2, a0_3, a0_4, a0_5, a0_6, a0_7, a0_8])
def dt (K : Nat) (l0 : List aA) (a1 : Int) (i119 : Int) : Nat → (List UInt8) → Int → Option (List UInt8)
  | 0, _, _ => none
  | k + 1, t231, i127 => (if i127 < a1 then (if (t231.length : Int) + (([32] : List UInt8).length : Int) ≤ 9223372036854775807 then (if 0 ≤ i127 then (if i127 < (4 : Int) then ((dU K ([((l0.getD i119.toNat ax).Key).Dims_0, ((l0.getD i119.toNat ax).Key).Dims_1, ((l0.getD i119.toNat ax).Key).Dims_2, ((l0.getD i119.toNat ax).Key).Dims_3].getD i127.toNat [])).bind fun x869 => (if ((t231 ++ ([32] : List UInt8)).length : Int) + (x869.length : Int) ≤ 9223372036854775807 then (dt K l0 a1 i119 k ((t231 ++ ([32] : List UInt8)) ++ x869) (bm (i127 + 1))) else none)) else none) else none) else none) else (some (t231)))
def ee (K : Nat) (l0 : List aA) (a1 : Int) : Nat → (List UInt8) → Int → Option (Sum Unit ((List UInt8) × Int))
  | 0, _, _ => none
  | k + 1, t217, i119 => (if i119 < (l0.length : Int) then (Option.bind (if (t217.length : Int) + (([32] : List UInt8).length : Int) ≤ 9223372036854775807 then (if 0 ≤ i119 then ((eH K (((l0.getD i119.toNat ax).Key).Hour)).bind fun x856 => (if ((t217 ++ ([32] : List UInt8)).length : Int) + (x856.length : Int) ≤ 9223372036854775807 then (Option.bind (dt K l0 a1 i119 K ((t217 ++ ([32] : List UInt8)) ++ x856) 0) fun x863 => (if (x863.length : Int) + (([32] : List UInt8).length : Int) ≤ 9223372036854775807 then ((bS K ((l0.getD i119.toNat ax).Value)).bind fun x870 => (if ((x863 ++ ([32] : List UInt8)).length : Int) + (x870.length : Int) ≤ 9223372036854775807 then (some (((x863 ++ ([32] : List UInt8)) ++ x870))) else none)) else none)) else none)) else none) else none) fun x855 => (ee K l0 a1 k x855 (bm (i119 + 1)))) else (some (Sum.inr ((t217, 0)))))
def dw (K : Nat) (a0_3 : Int) (a0_4 : Int) (a0_5 : Bool) (a0_6 : Bool) (a0_7 : Bool) (a0_8 : Bool) (a0_9 : Bool) (a0_10 : Bool) (a0_11 : Bool) (a0_12 : Bool) (a0_13 : List UInt8) (a0_14 : List UInt8) (a0_15 : List UInt8) (a0_16 : List UInt8) (a1 : Int) : Nat → (List UInt8) → Int → Option (Sum Unit ((List UInt8) × Int))
  | 0, _, _ => none
  | k + 1, t233, i129 => (if i129 < a1 then (if (t233.length : Int) + (([32] : List UInt8).length : Int) ≤ 9223372036854775807 then ((gz K a0_3 a0_4 a0_5 a0_6 a0_7 a0_8 a0_9 a0_10 a0_11 a0_12 a0_13 a0_14 a0_15 a0_16 i129).bind fun x884 => (if ((t233 ++ ([32] : List UInt8)).length : Int) + (x884.length : Int) ≤ 9223372036854775807 then (dw K a0_3 a0_4 a0_5 a0_6 a0_7 a0_8 a0_9 a0_10 a0_11 a0_12 a0_13 a0_14 a0_15 a0_16 a1 k ((t233 ++ ([32] : List UInt8)) ++ x884) (bm (i129 + 1))) else none)) else none) else (some (Sum.inr ((t233, 0)))))
def eo (K : Nat) (x885 : List Int) : Nat → (List UInt8) → Int → Option (Sum Unit ((List UInt8) × Int))
  | 0, _, _ => none
  | k + 1, t235, i131 => (if i131 < (x885.length : Int) then (if (t235.length : Int) + (([32] : List UInt8).length : Int) ≤ 9223372036854775807 then (if 0 ≤ i131 then ((bS K (x885.getD i131.toNat 0)).bind fun x897 => (if ((t235 ++ ([32] : List UInt8)).length : Int) + (x897.length : Int) ≤ 9223372036854775807 then (eo K x885 k ((t235 ++ ([32] : List UInt8)) ++ x897) (bm (i131 + 1))) else none)) else none) else none) else (some (Sum.inr ((t235, 0)))))
def co (K : Nat) (l1 : List Bool) : Nat → (List UInt8) → Int → Option (Sum Unit ((List UInt8) × Int))
  | 0, _, _ => none
  | k + 1, t243, i133 => (if i133 < (l1.length : Int) then (Option.bind (if i133 = 0 then (if (t243.length : Int) + (([32] : List UInt8).length : Int) ≤ 9223372036854775807 then (some ((t243 ++ ([32] : List UInt8)))) else none) else (some (t243))) fun x909 => (if 0 ≤ i133 then (if (l1.getD i133.toNat false) = true then (if (x909.length : Int) + (([49] : List UInt8).length : Int) ≤ 9223372036854775807 then (co K l1 k (x909 ++ ([49] : List UInt8)) (bm (i133 + 1))) else none) else (if (x909.length : Int) + (([48] : List UInt8).length : Int) ≤ 9223372036854775807 then (co K l1 k (x909 ++ ([48] : List UInt8)) (bm (i133 + 1))) else none)) else none)) else (some (Sum.inr ((t243, 0)))))
def cr (K : Nat) (a0_0 : Int) (a0_1 : Int) (l0 : List aA) (a0_3 : Int) (a0_4 : Int) (a0_5 : Bool) (a0_6 : Bool) (a0_7 : Bool) (a0_8 : Bool) (a0_9 : Bool) (a0_10 : Bool) (a0_11 : Bool) (a0_12 : Bool) (a0_13 : List UInt8) (a0_14 : List UInt8) (a0_15 : List UInt8) (a0_16 : List UInt8) (a0_17 : Int) (a0_18 : Int) (a0_19 : Int) (a0_20 : Int) (a0_21 : Int) (a0_22 : Int) (a0_23 : Int) (a0_24 : Int) (a0_25 : Int) (l1 : List Bool) (a1 : Int) : Option ((List UInt8) × Int) := ((dx K a0_0 a0_1 l0 a0_3 a0_4 a0_5 a0_6 a0_7 a0_8 a0_9 a0_10 a0_11 a0_12 a0_13 a0_14 a0_15 a0_16 a0_17 a0_18 a0_19 a0_20 a0_21 a0_22 a0_23 a0_24 a0_25 l1 a1).bind fun x458 => (if (!x458) = true then (some ((([] : List UInt8), 1))) else (Option.bind (if a0_0 = 1 then (ee K l0 a1 K ([105, 110, 103, 101, 115, 116] : List UInt8) 0) else (if a0_0 = 2 then ((bS K a0_3).bind fun x871 => (if (([97, 115, 107, 32] : List UInt8).length : Int) + (x871.length : Int) ≤ 9223372036854775807 then (if ((([97, 115, 107, 32] : List UInt8) ++ x871).length : Int) + (([32] : List UInt8).length : Int) ≤ 9223372036854775807 then ((bS K a0_4).bind fun x872 => (if (((([97, 115, 107, 32] : List UInt8) ++ x871) ++ ([32] : List UInt8)).length : Int) + (x872.length : Int) ≤ 9223372036854775807 then (dw K a0_3 a0_4 a0_5 a0_6 a0_7 a0_8 a0_9 a0_10 a0_11 a0_12 a0_13 a0_14 a0_15 a0_16 a1 K (((([97, 115, 107, 32] : List UInt8) ++ x871) ++ ([32] : List UInt8)) ++ x872) 0) else none)) else none) else none)) else (if a0_0 = 3 then (kh (gN a0_17 a0_18 a0_19 a0_20 a0_21 a0_22 a0_23 a0_24 a0_25) fun x885 => (eo K x885 K ([112, 111, 108, 105, 99, 121] : List UInt8) 0)) else (if a0_0 = 6 then (co K l1 K ([102, 97, 105, 108] : List UInt8) 0) else (if a0_0 = 9 then (some (Sum.inr ((([115, 116, 97, 114, 116] : List UInt8), 0)))) else (some (Sum.inl ()))))))) fun z => (mB z (fun v2 => (kh (aU) fun x910 => (if 0 ≤ a0_0 then (if a0_0 < (x910.length : Int) then (if ((x910.getD a0_0.toNat []).length : Int) + (([32] : List UInt8).length : Int) ≤ 9223372036854775807 then ((bS K a0_1).bind fun x911 => (if (((x910.getD a0_0.toNat []) ++ ([32] : List UInt8)).length : Int) + (x911.length : Int) ≤ 9223372036854775807 then (some (((((x910.getD a0_0.toNat []) ++ ([32] : List UInt8)) ++ x911), 0))) else none)) else none) else none) else none))) (fun t_ => (some (t_)))))))
def dy (K : Nat) (a0 : List UInt8) (a1 : Int) : Option (Int × Int × Int × (List aA) × Int × Int × Bool × Bool × Bool × Bool × Bool × Bool × Bool × Bool × (List UInt8) × (List UInt8) × (List UInt8) × (List UInt8) × Int × Int × Int × Int × Int × Int × Int × Int × Int × (List Bool)) := (if a1 < 1 then (some ((1, 0, 0, ([] : List aA), 0, 0, false, false, false, false, false, false, false, false, ([] : List UInt8), ([] : List UInt8), ([] : List UInt8), ([] : List UInt8), 0, 0, 0, 0, 0, 0, 0, 0, 0, ([] : List Bool)))) else (if 4 < a1 then (some ((1, 0, 0, ([] : List aA), 0, 0, false, false, false, false, false, false, false, false, ([] : List UInt8), ([] : List UInt8), ([] : List UInt8), ([] : List UInt8), 0, 0, 0, 0, 0, 0, 0, 0, 0, ([] : List Bool)))) else ((gd K a0).bind fun x4 => (if (x4.length : Int) = 0 then (some ((4, 0, 0, ([] : List aA), 0, 0, false, false, false, false, false, false, false, false, ([] : List UInt8), ([] : List UInt8), ([] : List UInt8), ([] : List UInt8), 0, 0, 0, 0, 0, 0, 0, 0, 0, ([] : List Bool)))) else ((bx K x4 a1).bind fun x5 => ((cr K x5.1 x5.2.2.2.2.2.2.2.2.2.2.2.2.2.2.2.2.2.2.2.2.2.2.2.2.2.2 x5.2.1 x5.2.2.1 x5.2.2.2.1 x5.2.2.2.2.1 x5.2.2.2.2.2.1 x5.2.2.2.2.2.2.1 x5.2.2.2.2.2.2.2.1 x5.2.2.2.2.2.2.2.2.1 x5.2.2.2.2.2.2.2.2.2.1 x5.2.2.2.2.2.2.2.2.2.2.1 x5.2.2.2.2.2.2.2.2.2.2.2.1 x5.2.2.2.2.2.2.2.2.2.2.2.2.1 x5.2.2.2.2.2.2.2.2.2.2.2.2.2.1 x5.2.2.2.2.2.2.2.2.2.2.2.2.2.2.1 x5.2.2.2.2.2.2.2.2.2.2.2.2.2.2.2.1 x5.2.2.2.2.2.2.2.2.2.2.2.2.2.2.2.2.1 x5.2.2.2.2.2.2.2.2.2.2.2.2.2.2.2.2.2.1 x5.2.2.2.2.2.2.2.2.2.2.2.2.2.2.2.2.2.2.1 x5.2.2.2.2.2.2.2.2.2.2.2.2.2.2.2.2.2.2.2.1 x5.2.2.2.2.2.2.2.2.2.2.2.2.2.2.2.2.2.2.2.2.1 x5.2.2.2.2.2.2.2.2.2.2.2.2.2.2.2.2.2.2.2.2.2.1 x5.2.2.2.2.2.2.2.2.2.2.2.2.2.2.2.2.2.2.2.2.2.2.1 x5.2.2.2.2.2.2.2.2.2.2.2.2.2.2.2.2.2.2.2.2.2.2.2.1 x5.2.2.2.2.2.2.2.2.2.2.2.2.2.2.2.2.2.2.2.2.2.2.2.2.1 x5.2.2.2.2.2.2.2.2.2.2.2.2.2.2.2.2.2.2.2.2.2.2.2.2.2.1 a1).bind fun x6 => (if ¬ (x6.2 = 0) then (some ((4, 0, 0, ([] : List aA), 0, 0, false, false, false, false, false, false, false, false, ([] : List UInt8), ([] : List UInt8), ([] : List UInt8), ([] : List UInt8), 0, 0, 0, 0, 0, 0, 0, 0, 0, ([] : List Bool)))) else (if ¬ (x6.1 = a0) then (some ((4, 0, 0, ([] : List aA), 0, 0, false, false, false, false, false, false, false, false, ([] : List UInt8), ([] : List UInt8), ([] : List UInt8), ([] : List UInt8), 0, 0, 0, 0, 0, 0, 0, 0, 0, ([] : List Bool)))) else (some ((0, x5.1, x5.2.2.2.2.2.2.2.2.2.2.2.2.2.2.2.2.2.2.2.2.2.2.2.2.2.2, x5.2.1, x5.2.2.1, x5.2.2.2.1, x5.2.2.2.2.1, x5.2.2.2.2.2.1, x5.2.2.2.2.2.2.1, x5.2.2.2.2.2.2.2.1, x5.2.2.2.2.2.2.2.2.1, x5.2.2.2.2.2.2.2.2.2.1, x5.2.2.2.2.2.2.2.2.2.2.1, x5.2.2.2.2.2.2.2.2.2.2.2.1, x5.2.2.2.2.2.2.2.2.2.2.2.2.1, x5.2.2.2.2.2.2.2.2.2.2.2.2.2.1, x5.2.2.2.2.2.2.2.2.2.2.2.2.2.2.1, x5.2.2.2.2.2.2.2.2.2.2.2.2.2.2.2.1, x5.2.2.2.2.2.2.2.2.2.2.2.2.2.2.2.2.1, x5.2.2.2.2.2.2.2.2.2.2.2.2.2.2.2.2.2.1, x5.2.2.2.2.2.2.2.2.2.2.2.2.2.2.2.2.2.2.1, x5.2.2.2.2.2.2.2.2.2.2.2.2.2.2.2.2.2.2.2.1, x5.2.2.2.2.2.2.2.2.2.2.2.2.2.2.2.2.2.2.2.2.1, x5.2.2.2.2.2.2.2.2.2.2.2.2.2.2.2.2.2.2.2.2.2.1, x5.2.2.2.2.2.2.2.2.2.2.2.2.2.2.2.2.2.2.2.2.2.2.1, x5.2.2.2.2.2.2.2.2.2.2.2.2.2.2.2.2.2.2.2.2.2.2.2.1, x5.2.2.2.2.2.2.2.2.2.2.2.2.2.2.2.2.2.2.2.2.2.2.2.2.1, x5.2.2.2.2.2.2.2.2.2.2.2.2.2.2.2.2.2.2.2.2.2.2.2.2.2.1)))))))))))
def eR (K : Nat) (l0 : List aA) (l1 : List aA) : Nat → Int → Option Bool
  | 0, _ => none
  | k + 1, i4 => (if i4 < (l0.length : Int) then (if 0 ≤ i4 then (if i4 < (l1.length : Int) then (if (!((((((l0.getD i4.toNat ax).Key).Hour) == (((l1.getD i4.toNat ax).Key).Hour)) && ((((((l0.getD i4.toNat ax).Key).Dims_0) == (((l1.getD i4.toNat ax).Key).Dims_0)) && (((((l0.getD i4.toNat ax).Key).Dims_1) == (((l1.getD i4.toNat ax).Key).Dims_1)) && (((((l0.getD i4.toNat ax).Key).Dims_2) == (((l1.getD i4.toNat ax).Key).Dims_2)) && (((((l0.getD i4.toNat ax).Key).Dims_3) == (((l1.getD i4.toNat ax).Key).Dims_3)) && true)))) && true)) && ((((l0.getD i4.toNat ax).Value) == ((l1.getD i4.toNat ax).Value)) && true))) = true then (some (false)) else (eR K l0 l1 k (bm (i4 + 1)))) else none) else none) else (some (true)))
def fF (K : Nat) (l0 : List aA) (l1 : List aA) : Option Bool := (if ¬ ((l0.length : Int) = (l1.length : Int)) then (some (false)) else (eR K l0 l1 K 0))
def ep (K : Nat) (l0 : List aG) (l1 : List aG) (i26 : Int) : Nat → Int → Option (Sum Unit Bool)
  | 0, _ => none
  | k + 1, i30 => (if i30 < (((l0.getD i26.toNat ah).Fails).length : Int) then (if 0 ≤ i30 then (if i30 < (((l1.getD i26.toNat ah).Fails).length : Int) then (if ((((l0.getD i26.toNat ah).Fails).getD i30.toNat false) != (((l1.getD i26.toNat ah).Fails).getD i30.toNat false)) = true then (some (Sum.inr (false))) else (ep K l0 l1 i26 k (bm (i30 + 1)))) else none) else none) else (some (Sum.inl ())))
def cy (K : Nat) (l0 : List aG) (l1 : List aG) : Nat → Int → Option Bool
  | 0, _ => none
  | k + 1, i26 => (if i26 < (l0.length : Int) then (Option.bind (if 0 ≤ i26 then (if i26 < (l1.length : Int) then (if ¬ (((l0.getD i26.toNat ah).Kind) = ((l1.getD i26.toNat ah).Kind)) then (some (Sum.inr (false))) else (if ¬ (((l0.getD i26.toNat ah).N) = ((l1.getD i26.toNat ah).N)) then (some (Sum.inr (false))) else (if (!(((((l0.getD i26.toNat ah).Query).From) == (((l1.getD i26.toNat ah).Query).From)) && (((((l0.getD i26.toNat ah).Query).To) == (((l1.getD i26.toNat ah).Query).To)) && ((((((l0.getD i26.toNat ah).Query).Group_0) == (((l1.getD i26.toNat ah).Query).Group_0)) && (((((l0.getD i26.toNat ah).Query).Group_1) == (((l1.getD i26.toNat ah).Query).Group_1)) && (((((l0.getD i26.toNat ah).Query).Group_2) == (((l1.getD i26.toNat ah).Query).Group_2)) && (((((l0.getD i26.toNat ah).Query).Group_3) == (((l1.getD i26.toNat ah).Query).Group_3)) && true)))) && ((((((l0.getD i26.toNat ah).Query).Has_0) == (((l1.getD i26.toNat ah).Query).Has_0)) && (((((l0.getD i26.toNat ah).Query).Has_1) == (((l1.getD i26.toNat ah).Query).Has_1)) && (((((l0.getD i26.toNat ah).Query).Has_2) == (((l1.getD i26.toNat ah).Query).Has_2)) && (((((l0.getD i26.toNat ah).Query).Has_3) == (((l1.getD i26.toNat ah).Query).Has_3)) && true)))) && ((((((l0.getD i26.toNat ah).Query).Filter_0) == (((l1.getD i26.toNat ah).Query).Filter_0)) && (((((l0.getD i26.toNat ah).Query).Filter_1) == (((l1.getD i26.toNat ah).Query).Filter_1)) && (((((l0.getD i26.toNat ah).Query).Filter_2) == (((l1.getD i26.toNat ah).Query).Filter_2)) && (((((l0.getD i26.toNat ah).Query).Filter_3) == (((l1.getD i26.toNat ah).Query).Filter_3)) && true)))) && true)))))) = true then (some (Sum.inr (false))) else (if (!(((((l0.getD i26.toNat ah).Rules).Retain) == (((l1.getD i26.toNat ah).Rules).Retain)) && (((((l0.getD i26.toNat ah).Rules).SealLag) == (((l1.getD i26.toNat ah).Rules).SealLag)) && (((((l0.getD i26.toNat ah).Rules).DayLag) == (((l1.getD i26.toNat ah).Rules).DayLag)) && (((((l0.getD i26.toNat ah).Rules).MonthLag) == (((l1.getD i26.toNat ah).Rules).MonthLag)) && (((((l0.getD i26.toNat ah).Rules).ColdLag) == (((l1.getD i26.toNat ah).Rules).ColdLag)) && (((((l0.getD i26.toNat ah).Rules).Base) == (((l1.getD i26.toNat ah).Rules).Base)) && (((((l0.getD i26.toNat ah).Rules).Cap) == (((l1.getD i26.toNat ah).Rules).Cap)) && (((((l0.getD i26.toNat ah).Rules).Queue) == (((l1.getD i26.toNat ah).Rules).Queue)) && (((((l0.getD i26.toNat ah).Rules).Wal) == (((l1.getD i26.toNat ah).Rules).Wal)) && true)))))))))) = true then (some (Sum.inr (false))) else ((fF K ((l0.getD i26.toNat ah).Facts) ((l1.getD i26.toNat ah).Facts)).bind fun x60 => (if (!x60) = true then (some (Sum.inr (false))) else (if ¬ ((((l0.getD i26.toNat ah).Fails).length : Int) = (((l1.getD i26.toNat ah).Fails).length : Int)) then (some (Sum.inr (false))) else (ep K l0 l1 i26 K 0)))))))) else none) else none) fun z => (mB z (fun v12 => (cy K l0 l1 k (bm (i26 + 1)))) (fun t_ => (some (t_))))) else (some (true)))
def fO (K : Nat) (l0 : List aG) (l1 : List aG) : Option Bool := (if ¬ ((l0.length : Int) = (l1.length : Int)) then (some (false)) else (cy K l0 l1 K 0))
def fq (K : Nat) (a0_0 : Int) (a0_1 : Int) (l0 : List aA) (a0_3 : Int) (a0_4 : Int) (a0_5 : Bool) (a0_6 : Bool) (a0_7 : Bool) (a0_8 : Bool) (a0_9 : Bool) (a0_10 : Bool) (a0_11 : Bool) (a0_12 : Bool) (a0_13 : List UInt8) (a0_14 : List UInt8) (a0_15 : List UInt8) (a0_16 : List UInt8) (a0_17 : Int) (a0_18 : Int) (a0_19 : Int) (a0_20 : Int) (a0_21 : Int) (a0_22 : Int) (a0_23 : Int) (a0_24 : Int) (a0_25 : Int) (l1 : List Bool) (a1_0 : Int) (a1_1 : Int) (l2 : List aA) (a1_3 : Int) (a1_4 : Int) (a1_5 : Bool) (a1_6 : Bool) (a1_7 : Bool) (a1_8 : Bool) (a1_9 : Bool) (a1_10 : Bool) (a1_11 : Bool) (a1_12 : Bool) (a1_13 : List UInt8) (a1_14 : List UInt8) (a1_15 : List UInt8) (a1_16 : List UInt8) (a1_17 : Int) (a1_18 : Int) (a1_19 : Int) (a1_20 : Int) (a1_21 : Int) (a1_22 : Int) (a1_23 : Int) (a1_24 : Int) (a1_25 : Int) (l3 : List Bool) : Option Bool := ((fO K [(⟨a0_0, a0_1, l0, (⟨a0_3, a0_4, a0_5, a0_6, a0_7, a0_8, a0_9, a0_10, a0_11, a0_12, a0_13, a0_14, a0_15, a0_16⟩ : aF), (⟨a0_17, a0_18, a0_19, a0_20, a0_21, a0_22, a0_23, a0_24, a0_25⟩ : aC), l1⟩ : aG)] [(⟨a1_0, a1_1, l2, (⟨a1_3, a1_4, a1_5, a1_6, a1_7, a1_8, a1_9, a1_10, a1_11, a1_12, a1_13, a1_14, a1_15, a1_16⟩ : aF), (⟨a1_17, a1_18, a1_19, a1_20, a1_21, a1_22, a1_23, a1_24, a1_25⟩ : aC), l3⟩ : aG)]).bind fun x2 => (some (x2)))
def fm (K : Nat) (a0 : List UInt8) (a1 : Int) : Option Bool := (if 600 < (a0.length : Int) then ((fL K).bind fun x8 => (some (x8))) else ((fR K a0 a1).bind fun x9 => ((dy K a0 a1).bind fun x10 => ((fq K x9.1 x9.2.1 x9.2.2.1 x9.2.2.2.1 x9.2.2.2.2.1 x9.2.2.2.2.2.1 x9.2.2.2.2.2.2.1 x9.2.2.2.2.2.2.2.1 x9.2.2.2.2.2.2.2.2.1 x9.2.2.2.2.2.2.2.2.2.1 x9.2.2.2.2.2.2.2.2.2.2.1 x9.2.2.2.2.2.2.2.2.2.2.2.1 x9.2.2.2.2.2.2.2.2.2.2.2.2.1 x9.2.2.2.2.2.2.2.2.2.2.2.2.2.1 x9.2.2.2.2.2.2.2.2.2.2.2.2.2.2.1 x9.2.2.2.2.2.2.2.2.2.2.2.2.2.2.2.1 x9.2.2.2.2.2.2.2.2.2.2.2.2.2.2.2.2.1 x9.2.2.2.2.2.2.2.2.2.2.2.2.2.2.2.2.2.1 x9.2.2.2.2.2.2.2.2.2.2.2.2.2.2.2.2.2.2.1 x9.2.2.2.2.2.2.2.2.2.2.2.2.2.2.2.2.2.2.2.1 x9.2.2.2.2.2.2.2.2.2.2.2.2.2.2.2.2.2.2.2.2.1 x9.2.2.2.2.2.2.2.2.2.2.2.2.2.2.2.2.2.2.2.2.2.1 x9.2.2.2.2.2.2.2.2.2.2.2.2.2.2.2.2.2.2.2.2.2.2.1 x9.2.2.2.2.2.2.2.2.2.2.2.2.2.2.2.2.2.2.2.2.2.2.2.1 x9.2.2.2.2.2.2.2.2.2.2.2.2.2.2.2.2.2.2.2.2.2.2.2.2.1 x9.2.2.2.2.2.2.2.2.2.2.2.2.2.2.2.2.2.2.2.2.2.2.2.2.2.1 x9.2.2.2.2.2.2.2.2.2.2.2.2.2.2.2.2.2.2.2.2.2.2.2.2.2.2.1 x10.2.1 x10.2.2.1 x10.2.2.2.1 x10.2.2.2.2.1 x10.2.2.2.2.2.1 x10.2.2.2.2.2.2.1 x10.2.2.2.2.2.2.2.1 x10.2.2.2.2.2.2.2.2.1 x10.2.2.2.2.2.2.2.2.2.1 x10.2.2.2.2.2.2.2.2.2.2.1 x10.2.2.2.2.2.2.2.2.2.2.2.1 x10.2.2.2.2.2.2.2.2.2.2.2.2.1 x10.2.2.2.2.2.2.2.2.2.2.2.2.2.1 x10.2.2.2.2.2.2.2.2.2.2.2.2.2.2.1 x10.2.2.2.2.2.2.2.2.2.2.2.2.2.2.2.1 x10.2.2.2.2.2.2.2.2.2.2.2.2.2.2.2.2.1 x10.2.2.2.2.2.2.2.2.2.2.2.2.2.2.2.2.2.1 x10.2.2.2.2.2.2.2.2.2.2.2.2.2.2.2.2.2.2.1 x10.2.2.2.2.2.2.2.2.2.2.2.2.2.2.2.2.2.2.2.1 x10.2.2.2.2.2.2.2.2.2.2.2.2.2.2.2.2.2.2.2.2.1 x10.2.2.2.2.2.2.2.2.2.2.2.2.2.2.2.2.2.2.2.2.2.1 x10.2.2.2.2.2.2.2.2.2.2.2.2.2.2.2.2.2.2.2.2.2.2.1 x10.2.2.2.2.2.2.2.2.2.2.2.2.2.2.2.2.2.2.2.2.2.2.2.1 x10.2.2.2.2.2.2.2.2.2.2.2.2.2.2.2.2.2.2.2.2.2.2.2.2.1 x10.2.2.2.2.2.2.2.2.2.2.2.2.2.2.2.2.2.2.2.2.2.2.2.2.2.1 x10.2.2.2.2.2.2.2.2.2.2.2.2.2.2.2.2.2.2.2.2.2.2.2.2.2.2.1 x10.2.2.2.2.2.2.2.2.2.2.2.2.2.2.2.2.2.2.2.2.2.2.2.2.2.2.2).bind fun x11 => (if x11 = true then (if x9.2.2.2.2.2.2.2.2.2.2.2.2.2.2.2.2.2.2.2.2.2.2.2.2.2.2.2 = x10.1 then ((fL K).bind fun x12 => (some (x12))) else (some (false))) else (some (false)))))))
end Go.Proofs.YtgbjponaoeiglaaDoor.WordsParses
end
section
set_option linter.unusedVariables false
namespace Go.Proofs.YtgbjponaoeiglaaDoor.E
open Go
section
variable {r : Option Nat} {P : Program} {n : Nat} {w0 : World} {F L L' : List HP} {ρ ρ' : jz} {Q : Exit → Act → World → Prop} {ops : Array Oper} {rest : List Oper} {d : Nat} {v : Value} {ty : TypeId} {pos : String} {after : Array Edge} {op : Op}
theorem vM {x : Operand} (hx : ev ρ x = some v) (hd : Nat.blt d n = true) (k : cM (St n w0 F ((d, v) :: ρ) L) (wpListIn (Wd r) 0 P ops Q rest)) : cM (St n w0 F ρ L) (wpListIn (Wd r) 0 P ops Q (⟨some d, .move x, ty, pos, after, none⟩ :: rest)) := oD (aq hx) rfl rfl hd k
theorem vA {x : Operand} (hx : ev ρ x = some v) (hd : Nat.blt d n = true) (k : cM (St n w0 F ((d, v) :: ρ) L) (wpListIn (Wd r) 0 P ops Q rest)) : cM (St n w0 F ρ L) (wpListIn (Wd r) 0 P ops Q (⟨some d, .assign x, ty, pos, after, none⟩ :: rest)) := oD (jC hx) rfl rfl hd k
theorem vV (h : OV P ⟨some d, op, ty, pos, after, none⟩ ρ L v) (hd : Nat.blt d n = true) (k : cM (St n w0 F ((d, v) :: ρ) L) (wpListIn (Wd r) 0 P ops Q rest)) : cM (St n w0 F ρ L) (wpListIn (Wd r) 0 P ops Q (⟨some d, op, ty, pos, after, none⟩ :: rest)) := oD h rfl rfl hd k
def px : List Nat → Bool
  | [] => true
  | x :: l => l.all (fun y => !Nat.beq x y) && px l
theorem pY : ∀ {l : List Nat}, px l = true → l.Nodup
  | [], _ => List.nodup_nil
  | x :: l, h => by
    simp only [px, Bool.and_eq_true, List.all_eq_true, Bool.not_eq_true'] at h
    rw [List.nodup_cons]
    refine ⟨fun hx => ?_, pY h.2⟩
    exact Nat.ne_of_beq_eq_false (h.1 x hx) rfl
theorem vF {X : Act → World → Prop} (σ : List Nat) (hn : px σ = true) (hp : pick L σ = some L') (hs : sub ρ' ρ) (hx : ∀ a w, St n w0 F ρ' L' a w → X a w) : cM (St n w0 F ρ L) X := yS σ (pY hn) hp hs hx
theorem vP {X : Act → World → Prop} (σ : List Nat) (hn : px σ = true) (hp : pick L σ = some L') (k : cM (St n w0 F ρ L') X) : cM (St n w0 F ρ L) X := sX σ (pY hn) hp k
def Am (ρ : jz) : List Nat → Option jz
  | [] => some []
  | t :: ts => match jn ρ t, Am ρ ts with
    | some v, some e => some ((t, v) :: e)
    | _, _ => none
theorem vS : ∀ (ts : List Nat) {ρ' : jz}, Am ρ ts = some ρ' → sub ρ' ρ
  | [], ρ', h => by cases h; exact yZ _
  | t :: ts, ρ', h => by
    simp only [Am] at h
    split at h
    · rename_i v e hv he
      cases h
      exact xZ hv (vS ts he)
    · cases h
theorem dT {p : Prop} [Decidable p] (h : p) : decide p = true := decide_eq_true h
theorem dF {p : Prop} [Decidable p] (h : ¬ p) : decide p = false := decide_eq_false h
theorem bF {b : Bool} (h : ¬ b = true) : b = false := Bool.eq_false_iff.2 h
theorem oB {α β : Type} {o : Option α} {f : α → Option β} {b : β} (h : o.bind f = some b) : ∃ a, o = some a ∧ f a = some b := Option.bind_eq_some_iff.1 h
theorem nL {a b : Nat} (h : Nat.ble a b = true) : a ≤ b := Nat.le_of_ble_eq_true h
end
section
variable {r : Option Nat} {P : Program} {n : Nat} {w0 : World} {F L : List HP} {ρ ρ' : jz} {Q : Exit → Act → World → Prop} {ops : Array Oper} {done : Nat → Bool} {T : List (Nat × Nat × Value)} {a : Act} {i j t : Nat} {v : Value} {o : Oper}
theorem hD (k : Nat) (hc : jk ops (up done i)) (hk : T[k]? = some (j, t, v)) (ho : ops[i]? = some o) (hne : Nat.beq j i = false) (he : (o.after.toList.any fun e => Region.binds .any e && Nat.beq e.on j) = true) (h : kZ a ρ T done → jH a ρ') : kZ a ρ T done → jH a ((t, v) :: ρ') := qL hk (vg hc ho (Nat.ne_of_beq_eq_false hne) he) h
theorem xD : ∀ {T : List (Nat × Nat × Value)}, (∀ e ∈ T, done e.1 = true) → pf a done T → jH a ρ → jH a (T.map (fun e => (e.2.1, e.2.2)) ++ ρ)
  | [], _, _, h => h
  | (i, t, v) :: T, hd, hA, h => by
    intro s u hu
    simp only [List.map_cons, List.cons_append, jn] at hu
    split at hu
    · rename_i e
      subst e
      cases hu
      exact hA.1 (hd _ List.mem_cons_self)
    · exact xD (fun e he => hd e (List.mem_cons_of_mem _ he)) hA.2 h s u hu
theorem hL {m : Nat} (hall : ∀ i, i < m → done i = true) (hT : (T.all fun e => Nat.blt e.1 m) = true) (a : Act) : kZ a ρ T done → jH a (T.map (fun e => (e.2.1, e.2.2)) ++ ρ) := fun h =>
  xD (fun e he => hall _ (by have := List.all_eq_true.1 hT e he; simpa [Nat.blt_eq] using this)) h.2 h.1
theorem dV (k0 : Nat) {ρi : jz} (hk : T[k0]? = some (i, t, v)) (ho : ops[i]? = some o) (hg : o.guard = none) (hdst : o.dst = some t) (hρ : ∀ a, kZ a ρ T done → jH a ρi) (hv : OV P o ρi L v) (ht : Nat.blt t n = true) (hn : jn ρ t = none) (h1 : pc i t T = true) (h2 : pg T = true) :
    cM (kz n w0 F ρ T done L) fun a w => wpOpIn (Wd r) 0 P ops Q i (kz n w0 F ρ T (up done i) L) a w := qk ho hdst (cb hg) hρ hv ht hn (mq h1 hk h2)
theorem oT (k0 : Nat) (h : pc i t T = true) (h0 : T[k0]? = some (i, t, v)) (hinc : pg T = true) : ∀ (k : Nat) (e : Nat × Nat × Value), T[k]? = some e → (e.1 = i ∧ e.2.1 = t ∧ e.2.2 = v) ∨ (e.1 ≠ i ∧ e.2.1 ≠ t) := mq h h0 hinc
end
section
variable {r : Option Nat} {P : Program} {Q : Exit → Act → World → Prop} {ops : Array Oper} {done : Nat → Bool} {A : (Nat → Bool) → Act → World → Prop}
def nJ (ops : Array Oper) (m j : Nat) : Bool :=
  match ops[m]? with
  | some o => o.after.toList.any fun e => Region.binds .any e && Nat.beq e.on j
  | none => false
def uH (ops : Array Oper) (i : Nat) : Nat → List Nat → Bool
  | m, [] => nJ ops m i
  | m, x :: l => nJ ops m x && uH ops i x l
theorem sE {m i : Nat} (hc : jk ops done) (hi : done i = false) (h : nJ ops m i = true) : done m = false := by
  unfold nJ at h
  split at h
  · rename_i o ho; exact tK hc hi ho h
  · cases h
theorem qD {m i : Nat} (hc : jk ops done) (hm : done m = true) (h : nJ ops m i = true) : done i = true := by
  unfold nJ at h
  split at h
  · rename_i o ho; exact vT hc hm ho h
  · cases h
theorem nP {i : Nat} : ∀ (m : Nat) (l : List Nat), jk ops done → done i = false → uH ops i m l = true → done m = false
  | _, [], hc, hi, h => sE hc hi h
  | _, x :: l, hc, hi, h => by
    simp only [uH, Bool.and_eq_true] at h
    exact sE hc (nP x l hc hi h.2) h.1
theorem nQ {B : Act → World → Prop} {i : Nat} (m : Nat) (l : List Nat) (hne : Nat.beq m i = false) (hp : uH ops i m l = true) (h : ∀ done : Nat → Bool, done i = false → jk ops done → jk ops (up done i) → done m = false → cM (A done) fun a w => wpOpIn (Wd r) 0 P ops Q i (A (up done i)) a w) : rI r P ops Q (kD m A B) i := fun done hi hc hu =>
  have hm := nP m l hc hi hp
  sO hm hne (h done hi hc hu hm)
theorem nX {m i : Nat} (hne : Nat.beq m i = false) (h : ∀ done : Nat → Bool, done i = false → jk ops done → jk ops (up done i) → done m = false → cM (A done) fun a w => wpOpIn (Wd r) 0 P ops Q i (A (up done i)) a w) : rI r P ops Q (kD m A (fun _ _ => False)) i := fun done hi hc hu =>
  xP hne (h done hi hc hu)
theorem dO (j : Nat) {i : Nat} {o : Oper} (hc : jk ops (up done i)) (ho : ops[i]? = some o) (hne : Nat.beq j i = false) (he : (o.after.toList.any fun e => Region.binds .any e && Nat.beq e.on j) = true) : done j = true := vg hc ho (Nat.ne_of_beq_eq_false hne) he
theorem dS (i j : Nat) (hc : jk ops done) (hi : done i = true) (he : nJ ops i j = true) : done j = true := qD hc hi he
def xK (ops : Array Oper) (m : Nat) : Nat → Bool
  | 0 => true
  | j + 1 => ((List.range (m - j)).any fun k => nJ ops (j + 1 + k) j) && xK ops m j
theorem uV {m : Nat} : ∀ {j : Nat}, xK ops m j = true → ∀ x, x < j → ∃ k, k < m - x ∧ nJ ops (x + 1 + k) x = true
  | 0, _, x, hx => absurd hx (Nat.not_lt_zero x)
  | j + 1, h, x, hx => by
    simp only [xK, Bool.and_eq_true, List.any_eq_true, List.mem_range] at h
    rcases Nat.lt_succ_iff_lt_or_eq.1 hx with hx | hx
    · exact uV h.2 x hx
    · subst hx; exact h.1
theorem zN {m : Nat} {D : Nat → Bool} (hc : jk ops D) (hm : D m = true) (h : xK ops m m = true) : ∀ (d x : Nat), m = x + d → D x = true := by
  intro d
  induction d using Nat.strongRecOn with
  | _ d ih =>
    intro x hx
    cases d with
    | zero => have : x = m := by omega
              rw [this]; exact hm
    | succ d =>
      obtain ⟨k, hk, he⟩ := uV h x (by omega)
      exact qD hc (ih (m - (x + 1 + k)) (by omega) (x + 1 + k) (by omega)) he
theorem dA (m : Nat) (hu : jk ops (up done m)) (h : xK ops m m = true) : ∀ x, x < m → done x = true := fun x hx => by
  have := zN hu (by simp [up]) h (m - x) x (by omega)
  have hne : x ≠ m := by omega
  simpa [up, hne] using this
theorem Z {α : Sort _} {a : α} : a = a := rfl
end
section
variable {r : Option Nat} {P : Program} {n : Nat} {w0 : World} {F L L' : List HP} {ρ ρi : jz} {Q : Exit → Act → World → Prop} {ops : Array Oper} {done : Nat → Bool} {T : List (Nat × Nat × Value)} {a : Act} {i j t : Nat} {v : Value} {o : Oper}
theorem hC (k : Nat) {ρ' : jz} (hk : T[k]? = some (i, t, v)) (hd : done i = true) (h : kZ a ρ T done → jH a ρ') : kZ a ρ T done → jH a ((t, v) :: ρ') := qL hk hd h
theorem dG (k0 : Nat) (hk : T[k0]? = some (i, t, v)) (ho : ops[i]? = some o) (hdst : o.dst = some t) (hw : ∀ a, jH a ρi → Region.wanted o (yielded ops a.tmps) = true) (hρ : ∀ a, kZ a ρ T done → jH a ρi) (hv : OV P o ρi L v) (ht : Nat.blt t n = true) (hn : jn ρ t = none) (h1 : pc i t T = true) (h2 : pg T = true) :
    cM (kz n w0 F ρ T done L) fun a w => wpOpIn (Wd r) 0 P ops Q i (kz n w0 F ρ T (up done i) L) a w := qk ho hdst hw hρ hv ht hn (mq h1 hk h2)
theorem pj (k0 : Nat) (hk : T[k0]? = some (i, t, v)) (ho : ops[i]? = some o) (hdst : o.dst = some t) (hw : ∀ a, jH a ρi → Region.wanted o (yielded ops a.tmps) = true) (hρ : ∀ a, kZ a ρ T done → jH a ρi) (hv : OT P o ρi L (fun u M => u = v ∧ M = L)) (ht : Nat.blt t n = true) (hn : jn ρ t = none) (h1 : pc i t T = true) (h2 : pg T = true) :
    cM (kz n w0 F ρ T done L) fun a w => wpOpIn (Wd r) 0 P ops Q i (kz n w0 F ρ T (up done i) L) a w := vY ho hdst hw hρ hv ht hn (mq h1 hk h2)
end
end Go.Proofs.YtgbjponaoeiglaaDoor.E
end
section
set_option linter.unusedVariables false
set_option linter.unusedSimpArgs false
set_option maxHeartbeats 8000000
set_option maxRecDepth 100000
namespace Go.Proofs.YtgbjponaoeiglaaDoor.WordsParses
open Go Go.RowKit E
open Go.Value (int bool slice agg)
def ar (x : aA) : List Value := [(Value.int .i64 x.Key.Hour), (ay x.Key.Dims_0), (ay x.Key.Dims_1), (ay x.Key.Dims_2), (ay x.Key.Dims_3), (Value.int .i64 x.Value)]
theorem me (x : aA) : (ar x).all (·.oneCell') = true := rfl
theorem bP (x : aA) : (ar x).length = 6 := rfl
def av (x : aG) (v : Nat → Value) : List Value := [(Value.int .i64 x.Kind), (Value.int .i64 x.N), v 0, (Value.int .i64 x.Query.From), (Value.int .i64 x.Query.To), (Value.bool x.Query.Group_0), (Value.bool x.Query.Group_1), (Value.bool x.Query.Group_2), (Value.bool x.Query.Group_3), (Value.bool x.Query.Has_0), (Value.bool x.Query.Has_1), (Value.bool x.Query.Has_2), (Value.bool x.Query.Has_3), (ay x.Query.Filter_0), (ay x.Query.Filter_1), (ay x.Query.Filter_2), (ay x.Query.Filter_3), (Value.int .i64 x.Rules.Retain), (Value.int .i64 x.Rules.SealLag), (Value.int .i64 x.Rules.DayLag), (Value.int .i64 x.Rules.MonthLag), (Value.int .i64 x.Rules.ColdLag), (Value.int .i64 x.Rules.Base), (Value.int .i64 x.Rules.Cap), (Value.int .i64 x.Rules.Queue), (Value.int .i64 x.Rules.Wal), v 1]
theorem jY (x : aG) (v : Nat → Value) : (av x v).length = 27 := rfl
def aI (x : aG) (v : Nat → Value) : HP := bun [own (v 0) 54 6 x.Facts.length (fl ar x.Facts), own (v 1) 4 1 x.Fails.length (fl eB x.Fails)]
theorem bv : jh Tryd.prog 41 = some [(Value.int .i64 0), (Value.int .i64 0), (Value.slice none 0 0), (Value.int .i64 0), (Value.int .i64 0), (Value.bool false), (Value.bool false), (Value.bool false), (Value.bool false), (Value.bool false), (Value.bool false), (Value.bool false), (Value.bool false), (ay ([] : List UInt8)), (ay ([] : List UInt8)), (ay ([] : List UInt8)), (ay ([] : List UInt8)), (Value.int .i64 0), (Value.int .i64 0), (Value.int .i64 0), (Value.int .i64 0), (Value.int .i64 0), (Value.int .i64 0), (Value.int .i64 0), (Value.int .i64 0), (Value.int .i64 0), (Value.slice none 0 0)] := by kernel_rfl
theorem wU : jh Tryd.prog 42 = some [(Value.int .i64 0)] := by kernel_rfl
theorem bf : kg Tryd.prog 41 = some true := by kernel_rfl
theorem aE : fk Tryd.prog 41 = some 27 := by kernel_rfl
theorem nb : fk Tryd.prog 42 = some 1 := by kernel_rfl
theorem wJ : cQ Tryd.prog 30 = true := by kernel_rfl
theorem vm : cQ Tryd.prog 14 = true := by kernel_rfl
theorem wm : jh Tryd.prog 72 = some [(Value.slice none 0 0), (Value.int .i64 0)] := by kernel_rfl
theorem tc : ls Tryd.prog 72 = some [(0, 1), (1, 1)] := by kernel_rfl
theorem cp : fT Tryd.prog 72 0 = some (0, 29) := by kernel_rfl
theorem dk : fk Tryd.prog 29 = some 1 := by kernel_rfl
theorem fa : kg Tryd.prog 29 = some false := by kernel_rfl
theorem bw : jG Tryd.prog 29 = some 9 := by kernel_rfl
theorem cx : cQ Tryd.prog 50 = true := by kernel_rfl
theorem cg : fk Tryd.prog 9 = some 1 := by kernel_rfl
theorem cD : kg Tryd.prog 9 = some false := by kernel_rfl
theorem iM : cQ Tryd.prog 42 = true := by kernel_rfl
theorem cw : jG Tryd.prog 32 = some 54 := by kernel_rfl
theorem um : jh Tryd.prog 120 = some [(Value.int .i64 0), (Value.int .i64 0), (Value.int .i64 0), (Value.int .i64 0)] := by kernel_rfl
theorem dp : jG Tryd.prog 56 = some 5 := by kernel_rfl
theorem iH : fk Tryd.prog 5 = some 1 := by kernel_rfl
theorem rK : kg Tryd.prog 5 = some false := by kernel_rfl
theorem jN : kn Tryd.prog 120 = some (4, 2) := by kernel_rfl
theorem aT : fk Tryd.prog 2 = some 1 := by kernel_rfl
theorem aW : kg Tryd.prog 2 = some false := by kernel_rfl
theorem tz : cQ Tryd.prog 109 = true := by kernel_rfl
theorem tR : cQ Tryd.prog 105 = true := by kernel_rfl
theorem tI : cQ Tryd.prog 106 = true := by kernel_rfl
theorem wO : cQ Tryd.prog 85 = true := by kernel_rfl
theorem wy : cQ Tryd.prog 69 = true := by kernel_rfl
theorem qu : jh Tryd.prog 52 = some [(Value.int .i64 0), (ay ([] : List UInt8)), (ay ([] : List UInt8)), (ay ([] : List UInt8)), (ay ([] : List UInt8))] := by kernel_rfl
theorem oY : ls Tryd.prog 52 = some [(0, 1), (1, 4)] := by kernel_rfl
theorem jZ : jh Tryd.prog 54 = some [(Value.int .i64 0), (ay ([] : List UInt8)), (ay ([] : List UInt8)), (ay ([] : List UInt8)), (ay ([] : List UInt8)), (Value.int .i64 0)] := by kernel_rfl
theorem oU : ls Tryd.prog 54 = some [(0, 5), (5, 1)] := by kernel_rfl
theorem dE : fk Tryd.prog 54 = some 6 := by kernel_rfl
theorem fA : fT Tryd.prog 72 1 = some (1, 3) := by kernel_rfl
theorem bE : fk Tryd.prog 3 = some 1 := by kernel_rfl
theorem ci : kg Tryd.prog 3 = some false := by kernel_rfl
theorem rj : cQ Tryd.prog 24 = true := by kernel_rfl
theorem jy : jh Tryd.prog 5 = some [(Value.int .u8 0)] := by kernel_rfl
theorem mh : mI Tryd.prog 5 = some 1 := by kernel_rfl
theorem qv : cQ Tryd.prog 25 = true := by kernel_rfl
theorem sY : cQ Tryd.prog 9 = true := by kernel_rfl
theorem rd : cQ Tryd.prog 68 = true := by kernel_rfl
theorem fP : fT Tryd.prog 54 0 = some (0, 52) := by kernel_rfl
theorem gO : fk Tryd.prog 52 = some 5 := by kernel_rfl
theorem jx : fT Tryd.prog 52 1 = some (1, 34) := by kernel_rfl
theorem eh : fk Tryd.prog 34 = some 4 := by kernel_rfl
theorem eK : kn Tryd.prog 34 = some (4, 9) := by kernel_rfl
theorem oI : cQ Tryd.prog 22 = true := by kernel_rfl
theorem xM : cQ Tryd.prog 7 = true := by kernel_rfl
theorem en : cQ Tryd.prog 46 = true := by kernel_rfl
theorem jw : fT Tryd.prog 54 1 = some (5, 2) := by kernel_rfl
theorem kG : kg Tryd.prog 54 = some true := by kernel_rfl
theorem pw : mI Tryd.prog 54 = some 80 := by kernel_rfl
theorem rf : cQ Tryd.prog 43 = true := by kernel_rfl
theorem dn : ls Tryd.prog 41 = some [(0, 1), (1, 1), (2, 1), (3, 14), (17, 9), (26, 1)] := by kernel_rfl
theorem bA : fT Tryd.prog 41 0 = some (0, 3) := by kernel_rfl
theorem dY : fT Tryd.prog 41 2 = some (2, 32) := by kernel_rfl
theorem fC : fk Tryd.prog 32 = some 1 := by kernel_rfl
theorem lD : cQ Tryd.prog 70 = true := by kernel_rfl
theorem dK : jG Tryd.prog 47 = some 41 := by kernel_rfl
theorem fw : fT Tryd.prog 41 1 = some (1, 2) := by kernel_rfl
theorem fy : fT Tryd.prog 41 3 = some (3, 36) := by kernel_rfl
theorem cJ : fk Tryd.prog 36 = some 14 := by kernel_rfl
theorem hH : kg Tryd.prog 36 = some true := by kernel_rfl
theorem cV : kg Tryd.prog 4 = some false := by kernel_rfl
theorem fu : kn Tryd.prog 33 = some (4, 4) := by kernel_rfl
theorem dB : fk Tryd.prog 4 = some 1 := by kernel_rfl
theorem kF : kg Tryd.prog 34 = some true := by kernel_rfl
theorem kV : kg Tryd.prog 33 = some true := by kernel_rfl
theorem fb : fk Tryd.prog 33 = some 4 := by kernel_rfl
theorem qh : Tryd.prog.eqGuardType Tryd.prog.depth 36 = false := by kernel_rfl
theorem si {x y : Operand} (x0 : Int) (x1 : Int) (x2 : Bool) (x3 : Bool) (x4 : Bool) (x5 : Bool) (x6 : Bool) (x7 : Bool) (x8 : Bool) (x9 : Bool) (x10 : List UInt8) (x11 : List UInt8) (x12 : List UInt8) (x13 : List UInt8) (y0 : Int) (y1 : Int) (y2 : Bool) (y3 : Bool) (y4 : Bool) (y5 : Bool) (y6 : Bool) (y7 : Bool) (y8 : Bool) (y9 : Bool) (y10 : List UInt8) (y11 : List UInt8) (y12 : List UInt8) (y13 : List UInt8) (w : World) : (do eqGuard .eql 36 x y (.agg #[(Value.int .i64 x0), (Value.int .i64 x1), (Value.bool x2), (Value.bool x3), (Value.bool x4), (Value.bool x5), (Value.bool x6), (Value.bool x7), (Value.bool x8), (Value.bool x9), (ay x10), (ay x11), (ay x12), (ay x13)]) (.agg #[(Value.int .i64 y0), (Value.int .i64 y1), (Value.bool y2), (Value.bool y3), (Value.bool y4), (Value.bool y5), (Value.bool y6), (Value.bool y7), (Value.bool y8), (Value.bool y9), (ay y10), (ay y11), (ay y12), (ay y13)]); binOp .eql 36 (.agg #[(Value.int .i64 x0), (Value.int .i64 x1), (Value.bool x2), (Value.bool x3), (Value.bool x4), (Value.bool x5), (Value.bool x6), (Value.bool x7), (Value.bool x8), (Value.bool x9), (ay x10), (ay x11), (ay x12), (ay x13)]) (.agg #[(Value.int .i64 y0), (Value.int .i64 y1), (Value.bool y2), (Value.bool y3), (Value.bool y4), (Value.bool y5), (Value.bool y6), (Value.bool y7), (Value.bool y8), (Value.bool y9), (ay y10), (ay y11), (ay y12), (ay y13)])).run Tryd.prog w = .ok (.bool ((x0 == y0) && ((x1 == y1) && (((x2 == y2) && ((x3 == y3) && ((x4 == y4) && ((x5 == y5) && true)))) && (((x6 == y6) && ((x7 == y7) && ((x8 == y8) && ((x9 == y9) && true)))) && (((x10 == y10) && ((x11 == y11) && ((x12 == y12) && ((x13 == y13) && true)))) && true)))))) w :=
  qF qh (lF Tryd.underlying36 (by kernel_rfl) (dQ Z (aS aW Z) (aS aW Z) (ib Tryd.underlying2 _ _) (dQ Z (aS aW Z) (aS aW Z) (ib Tryd.underlying2 _ _) (dQ Z (gZ kV fb) (gZ kV fb) (mu fu dB (aS cV Z) (aS cV Z) (aS cV Z) (aS cV Z) (aS cV Z) (aS cV Z) (aS cV Z) (aS cV Z) (iU Tryd.underlying4 _ _) (iU Tryd.underlying4 _ _) (iU Tryd.underlying4 _ _) (iU Tryd.underlying4 _ _)) (dQ Z (gZ kV fb) (gZ kV fb) (mu fu dB (aS cV Z) (aS cV Z) (aS cV Z) (aS cV Z) (aS cV Z) (aS cV Z) (aS cV Z) (aS cV Z) (iU Tryd.underlying4 _ _) (iU Tryd.underlying4 _ _) (iU Tryd.underlying4 _ _) (iU Tryd.underlying4 _ _)) (dQ Z (gZ kF eh) (gZ kF eh) (mu eK cg (aS cD Z) (aS cD Z) (aS cD Z) (aS cD Z) (aS cD Z) (aS cD Z) (aS cD Z) (aS cD Z) (lj Tryd.underlying9 _ _) (lj Tryd.underlying9 _ _) (lj Tryd.underlying9 _ _) (lj Tryd.underlying9 _ _)) nn)))))) w
theorem wY {x y : Operand} (x0 : Int) (x1 : Int) (x2 : Bool) (x3 : Bool) (x4 : Bool) (x5 : Bool) (x6 : Bool) (x7 : Bool) (x8 : Bool) (x9 : Bool) (x10 : List UInt8) (x11 : List UInt8) (x12 : List UInt8) (x13 : List UInt8) (y0 : Int) (y1 : Int) (y2 : Bool) (y3 : Bool) (y4 : Bool) (y5 : Bool) (y6 : Bool) (y7 : Bool) (y8 : Bool) (y9 : Bool) (y10 : List UInt8) (y11 : List UInt8) (y12 : List UInt8) (y13 : List UInt8) (w : World) : (do eqGuard .neq 36 x y (.agg #[(Value.int .i64 x0), (Value.int .i64 x1), (Value.bool x2), (Value.bool x3), (Value.bool x4), (Value.bool x5), (Value.bool x6), (Value.bool x7), (Value.bool x8), (Value.bool x9), (ay x10), (ay x11), (ay x12), (ay x13)]) (.agg #[(Value.int .i64 y0), (Value.int .i64 y1), (Value.bool y2), (Value.bool y3), (Value.bool y4), (Value.bool y5), (Value.bool y6), (Value.bool y7), (Value.bool y8), (Value.bool y9), (ay y10), (ay y11), (ay y12), (ay y13)]); binOp .neq 36 (.agg #[(Value.int .i64 x0), (Value.int .i64 x1), (Value.bool x2), (Value.bool x3), (Value.bool x4), (Value.bool x5), (Value.bool x6), (Value.bool x7), (Value.bool x8), (Value.bool x9), (ay x10), (ay x11), (ay x12), (ay x13)]) (.agg #[(Value.int .i64 y0), (Value.int .i64 y1), (Value.bool y2), (Value.bool y3), (Value.bool y4), (Value.bool y5), (Value.bool y6), (Value.bool y7), (Value.bool y8), (Value.bool y9), (ay y10), (ay y11), (ay y12), (ay y13)])).run Tryd.prog w = .ok (.bool (!((x0 == y0) && ((x1 == y1) && (((x2 == y2) && ((x3 == y3) && ((x4 == y4) && ((x5 == y5) && true)))) && (((x6 == y6) && ((x7 == y7) && ((x8 == y8) && ((x9 == y9) && true)))) && (((x10 == y10) && ((x11 == y11) && ((x12 == y12) && ((x13 == y13) && true)))) && true))))))) w :=
  oN qh (lF Tryd.underlying36 (by kernel_rfl) (dQ Z (aS aW Z) (aS aW Z) (ib Tryd.underlying2 _ _) (dQ Z (aS aW Z) (aS aW Z) (ib Tryd.underlying2 _ _) (dQ Z (gZ kV fb) (gZ kV fb) (mu fu dB (aS cV Z) (aS cV Z) (aS cV Z) (aS cV Z) (aS cV Z) (aS cV Z) (aS cV Z) (aS cV Z) (iU Tryd.underlying4 _ _) (iU Tryd.underlying4 _ _) (iU Tryd.underlying4 _ _) (iU Tryd.underlying4 _ _)) (dQ Z (gZ kV fb) (gZ kV fb) (mu fu dB (aS cV Z) (aS cV Z) (aS cV Z) (aS cV Z) (aS cV Z) (aS cV Z) (aS cV Z) (aS cV Z) (iU Tryd.underlying4 _ _) (iU Tryd.underlying4 _ _) (iU Tryd.underlying4 _ _) (iU Tryd.underlying4 _ _)) (dQ Z (gZ kF eh) (gZ kF eh) (mu eK cg (aS cD Z) (aS cD Z) (aS cD Z) (aS cD Z) (aS cD Z) (aS cD Z) (aS cD Z) (aS cD Z) (lj Tryd.underlying9 _ _) (lj Tryd.underlying9 _ _) (lj Tryd.underlying9 _ _) (lj Tryd.underlying9 _ _)) nn)))))) w
theorem eO : fT Tryd.prog 41 4 = some (17, 38) := by kernel_rfl
theorem df : fk Tryd.prog 38 = some 9 := by kernel_rfl
theorem jf : kg Tryd.prog 38 = some true := by kernel_rfl
theorem pD : Tryd.prog.eqGuardType Tryd.prog.depth 38 = false := by kernel_rfl
theorem oh {x y : Operand} (x0 : Int) (x1 : Int) (x2 : Int) (x3 : Int) (x4 : Int) (x5 : Int) (x6 : Int) (x7 : Int) (x8 : Int) (y0 : Int) (y1 : Int) (y2 : Int) (y3 : Int) (y4 : Int) (y5 : Int) (y6 : Int) (y7 : Int) (y8 : Int) (w : World) : (do eqGuard .eql 38 x y (.agg #[(Value.int .i64 x0), (Value.int .i64 x1), (Value.int .i64 x2), (Value.int .i64 x3), (Value.int .i64 x4), (Value.int .i64 x5), (Value.int .i64 x6), (Value.int .i64 x7), (Value.int .i64 x8)]) (.agg #[(Value.int .i64 y0), (Value.int .i64 y1), (Value.int .i64 y2), (Value.int .i64 y3), (Value.int .i64 y4), (Value.int .i64 y5), (Value.int .i64 y6), (Value.int .i64 y7), (Value.int .i64 y8)]); binOp .eql 38 (.agg #[(Value.int .i64 x0), (Value.int .i64 x1), (Value.int .i64 x2), (Value.int .i64 x3), (Value.int .i64 x4), (Value.int .i64 x5), (Value.int .i64 x6), (Value.int .i64 x7), (Value.int .i64 x8)]) (.agg #[(Value.int .i64 y0), (Value.int .i64 y1), (Value.int .i64 y2), (Value.int .i64 y3), (Value.int .i64 y4), (Value.int .i64 y5), (Value.int .i64 y6), (Value.int .i64 y7), (Value.int .i64 y8)])).run Tryd.prog w = .ok (.bool ((x0 == y0) && ((x1 == y1) && ((x2 == y2) && ((x3 == y3) && ((x4 == y4) && ((x5 == y5) && ((x6 == y6) && ((x7 == y7) && ((x8 == y8) && true)))))))))) w :=
  qF pD (lF Tryd.underlying38 (by kernel_rfl) (dQ Z (aS aW Z) (aS aW Z) (ib Tryd.underlying2 _ _) (dQ Z (aS aW Z) (aS aW Z) (ib Tryd.underlying2 _ _) (dQ Z (aS aW Z) (aS aW Z) (ib Tryd.underlying2 _ _) (dQ Z (aS aW Z) (aS aW Z) (ib Tryd.underlying2 _ _) (dQ Z (aS aW Z) (aS aW Z) (ib Tryd.underlying2 _ _) (dQ Z (aS aW Z) (aS aW Z) (ib Tryd.underlying2 _ _) (dQ Z (aS aW Z) (aS aW Z) (ib Tryd.underlying2 _ _) (dQ Z (aS ci Z) (aS ci Z) (ib Tryd.underlying3 _ _) (dQ Z (aS aW Z) (aS aW Z) (ib Tryd.underlying2 _ _) nn)))))))))) w
theorem vw {x y : Operand} (x0 : Int) (x1 : Int) (x2 : Int) (x3 : Int) (x4 : Int) (x5 : Int) (x6 : Int) (x7 : Int) (x8 : Int) (y0 : Int) (y1 : Int) (y2 : Int) (y3 : Int) (y4 : Int) (y5 : Int) (y6 : Int) (y7 : Int) (y8 : Int) (w : World) : (do eqGuard .neq 38 x y (.agg #[(Value.int .i64 x0), (Value.int .i64 x1), (Value.int .i64 x2), (Value.int .i64 x3), (Value.int .i64 x4), (Value.int .i64 x5), (Value.int .i64 x6), (Value.int .i64 x7), (Value.int .i64 x8)]) (.agg #[(Value.int .i64 y0), (Value.int .i64 y1), (Value.int .i64 y2), (Value.int .i64 y3), (Value.int .i64 y4), (Value.int .i64 y5), (Value.int .i64 y6), (Value.int .i64 y7), (Value.int .i64 y8)]); binOp .neq 38 (.agg #[(Value.int .i64 x0), (Value.int .i64 x1), (Value.int .i64 x2), (Value.int .i64 x3), (Value.int .i64 x4), (Value.int .i64 x5), (Value.int .i64 x6), (Value.int .i64 x7), (Value.int .i64 x8)]) (.agg #[(Value.int .i64 y0), (Value.int .i64 y1), (Value.int .i64 y2), (Value.int .i64 y3), (Value.int .i64 y4), (Value.int .i64 y5), (Value.int .i64 y6), (Value.int .i64 y7), (Value.int .i64 y8)])).run Tryd.prog w = .ok (.bool (!((x0 == y0) && ((x1 == y1) && ((x2 == y2) && ((x3 == y3) && ((x4 == y4) && ((x5 == y5) && ((x6 == y6) && ((x7 == y7) && ((x8 == y8) && true))))))))))) w :=
  oN pD (lF Tryd.underlying38 (by kernel_rfl) (dQ Z (aS aW Z) (aS aW Z) (ib Tryd.underlying2 _ _) (dQ Z (aS aW Z) (aS aW Z) (ib Tryd.underlying2 _ _) (dQ Z (aS aW Z) (aS aW Z) (ib Tryd.underlying2 _ _) (dQ Z (aS aW Z) (aS aW Z) (ib Tryd.underlying2 _ _) (dQ Z (aS aW Z) (aS aW Z) (ib Tryd.underlying2 _ _) (dQ Z (aS aW Z) (aS aW Z) (ib Tryd.underlying2 _ _) (dQ Z (aS aW Z) (aS aW Z) (ib Tryd.underlying2 _ _) (dQ Z (aS ci Z) (aS ci Z) (ib Tryd.underlying3 _ _) (dQ Z (aS aW Z) (aS aW Z) (ib Tryd.underlying2 _ _) nn)))))))))) w
theorem hG : kg Tryd.prog 32 = some false := by kernel_rfl
theorem sw : kg Tryd.prog 52 = some true := by kernel_rfl
theorem uk : Tryd.prog.eqGuardType Tryd.prog.depth 54 = false := by kernel_rfl
theorem qB {x y : Operand} (x0 : Int) (x1 : List UInt8) (x2 : List UInt8) (x3 : List UInt8) (x4 : List UInt8) (x5 : Int) (y0 : Int) (y1 : List UInt8) (y2 : List UInt8) (y3 : List UInt8) (y4 : List UInt8) (y5 : Int) (w : World) : (do eqGuard .neq 54 x y (.agg #[(Value.int .i64 x0), (ay x1), (ay x2), (ay x3), (ay x4), (Value.int .i64 x5)]) (.agg #[(Value.int .i64 y0), (ay y1), (ay y2), (ay y3), (ay y4), (Value.int .i64 y5)]); binOp .neq 54 (.agg #[(Value.int .i64 x0), (ay x1), (ay x2), (ay x3), (ay x4), (Value.int .i64 x5)]) (.agg #[(Value.int .i64 y0), (ay y1), (ay y2), (ay y3), (ay y4), (Value.int .i64 y5)])).run Tryd.prog w = .ok (.bool (!(((x0 == y0) && (((x1 == y1) && ((x2 == y2) && ((x3 == y3) && ((x4 == y4) && true)))) && true)) && ((x5 == y5) && true)))) w :=
  oN uk (lF Tryd.underlying54 (by kernel_rfl) (dQ Z (gZ sw gO) (gZ sw gO) (lF Tryd.underlying52 (by kernel_rfl) (dQ Z (aS aW Z) (aS aW Z) (ib Tryd.underlying2 _ _) (dQ Z (gZ kF eh) (gZ kF eh) (mu eK cg (aS cD Z) (aS cD Z) (aS cD Z) (aS cD Z) (aS cD Z) (aS cD Z) (aS cD Z) (aS cD Z) (lj Tryd.underlying9 _ _) (lj Tryd.underlying9 _ _) (lj Tryd.underlying9 _ _) (lj Tryd.underlying9 _ _)) nn))) (dQ Z (aS aW Z) (aS aW Z) (ib Tryd.underlying2 _ _) nn))) w
theorem wF : cQ Tryd.prog 88 = true := by kernel_rfl
theorem bT : fT Tryd.prog 41 5 = some (26, 39) := by kernel_rfl
theorem cI : fk Tryd.prog 39 = some 1 := by kernel_rfl
theorem ew : kg Tryd.prog 39 = some false := by kernel_rfl
theorem cd : jG Tryd.prog 39 = some 4 := by kernel_rfl
theorem vI : cQ Tryd.prog 89 = true := by kernel_rfl
theorem vO : cQ Tryd.prog 87 = true := by kernel_rfl
theorem wV : cQ Tryd.prog 86 = true := by kernel_rfl
theorem lG : cQ Tryd.prog 71 = true := by kernel_rfl
theorem ov : cQ Tryd.prog 90 = true := by kernel_rfl
theorem jV : fT Tryd.prog 52 0 = some (0, 2) := by kernel_rfl
theorem wn : cQ Tryd.prog 91 = true := by kernel_rfl
theorem qC : cQ Tryd.prog 72 = true := by kernel_rfl
theorem iO : cQ Tryd.prog 51 = true := by kernel_rfl
theorem kB : jh Tryd.prog 36 = some [(Value.int .i64 0), (Value.int .i64 0), (Value.bool false), (Value.bool false), (Value.bool false), (Value.bool false), (Value.bool false), (Value.bool false), (Value.bool false), (Value.bool false), (ay ([] : List UInt8)), (ay ([] : List UInt8)), (ay ([] : List UInt8)), (ay ([] : List UInt8))] := by kernel_rfl
theorem jX : fT Tryd.prog 36 0 = some (0, 2) := by kernel_rfl
theorem jR : fT Tryd.prog 36 1 = some (1, 2) := by kernel_rfl
theorem kI : fT Tryd.prog 36 2 = some (2, 33) := by kernel_rfl
theorem hQ : fT Tryd.prog 36 3 = some (6, 33) := by kernel_rfl
theorem ia : fT Tryd.prog 36 4 = some (10, 34) := by kernel_rfl
theorem rq : cQ Tryd.prog 44 = true := by kernel_rfl
theorem ld : ls Tryd.prog 36 = some [(0, 1), (1, 1), (2, 4), (6, 4), (10, 4)] := by kernel_rfl
theorem wq : cQ Tryd.prog 92 = true := by kernel_rfl
theorem qN : cQ Tryd.prog 73 = true := by kernel_rfl
theorem sD : jh Tryd.prog 2 = some [(Value.int .i64 0)] := by kernel_rfl
theorem rv : jh Tryd.prog 86 = some [(Value.pointer none), (Value.pointer none), (Value.pointer none), (Value.pointer none), (Value.pointer none), (Value.pointer none), (Value.pointer none), (Value.pointer none), (Value.pointer none)] := by kernel_rfl
theorem lA : fT Tryd.prog 38 0 = some (0, 2) := by kernel_rfl
theorem lx : fT Tryd.prog 38 1 = some (1, 2) := by kernel_rfl
theorem lp : fT Tryd.prog 38 2 = some (2, 2) := by kernel_rfl
theorem lw : fT Tryd.prog 38 3 = some (3, 2) := by kernel_rfl
theorem lu : fT Tryd.prog 38 4 = some (4, 2) := by kernel_rfl
theorem lB : fT Tryd.prog 38 5 = some (5, 2) := by kernel_rfl
theorem lC : fT Tryd.prog 38 6 = some (6, 2) := by kernel_rfl
theorem lq : fT Tryd.prog 38 8 = some (8, 2) := by kernel_rfl
theorem iW : kn Tryd.prog 86 = some (9, 85) := by kernel_rfl
theorem jB : fk Tryd.prog 85 = some 1 := by kernel_rfl
theorem re : fk Tryd.prog 86 = some 9 := by kernel_rfl
theorem yA : kg Tryd.prog 86 = some true := by kernel_rfl
theorem wv : cQ Tryd.prog 45 = true := by kernel_rfl
theorem kE : kg Tryd.prog 85 = some false := by kernel_rfl
theorem ly : fT Tryd.prog 38 7 = some (7, 3) := by kernel_rfl
theorem kS : jh Tryd.prog 38 = some [(Value.int .i64 0), (Value.int .i64 0), (Value.int .i64 0), (Value.int .i64 0), (Value.int .i64 0), (Value.int .i64 0), (Value.int .i64 0), (Value.int .i64 0), (Value.int .i64 0)] := by kernel_rfl
theorem jP : ls Tryd.prog 38 = some [(0, 1), (1, 1), (2, 1), (3, 1), (4, 1), (5, 1), (6, 1), (7, 1), (8, 1)] := by kernel_rfl
theorem nA : jh Tryd.prog 128 = some [(Value.int .i64 0), (Value.int .i64 0), (Value.int .i64 0), (Value.int .i64 0), (Value.int .i64 0), (Value.int .i64 0), (Value.int .i64 0), (Value.int .i64 0), (Value.int .i64 0), (Value.int .i64 0), (Value.int .i64 0), (Value.int .i64 0), (Value.int .i64 0), (Value.int .i64 0), (Value.int .i64 0), (Value.int .i64 0), (Value.int .i64 0), (Value.int .i64 0)] := by kernel_rfl
theorem jt : jh Tryd.prog 127 = some [(Value.int .i64 0), (Value.int .i64 0)] := by kernel_rfl
theorem hN : ls Tryd.prog 127 = some [(0, 1), (1, 1)] := by kernel_rfl
theorem eE : kn Tryd.prog 128 = some (9, 127) := by kernel_rfl
theorem fi : fk Tryd.prog 127 = some 2 := by kernel_rfl
theorem nI : fk Tryd.prog 128 = some 18 := by kernel_rfl
theorem wB : kg Tryd.prog 128 = some true := by kernel_rfl
theorem vH : cQ Tryd.prog 93 = true := by kernel_rfl
theorem pS : jh Tryd.prog 130 = some [(Value.int .i64 0), (Value.int .i64 0), (Value.int .i64 0), (Value.int .i64 0), (Value.int .i64 0), (Value.int .i64 0), (Value.int .i64 0), (Value.int .i64 0), (Value.int .i64 0)] := by kernel_rfl
theorem ii : kn Tryd.prog 130 = some (9, 2) := by kernel_rfl
theorem pQ : fk Tryd.prog 130 = some 9 := by kernel_rfl
theorem vo : kg Tryd.prog 130 = some true := by kernel_rfl
theorem wM : cQ Tryd.prog 94 = true := by kernel_rfl
theorem gQ : fT Tryd.prog 127 0 = some (0, 2) := by kernel_rfl
theorem gS : fT Tryd.prog 127 1 = some (1, 2) := by kernel_rfl
theorem qJ : cQ Tryd.prog 74 = true := by kernel_rfl
theorem mc : jh Tryd.prog 4 = some [(Value.bool false)] := by kernel_rfl
theorem oP : mI Tryd.prog 4 = some 1 := by kernel_rfl
theorem rh : cQ Tryd.prog 47 = true := by kernel_rfl
theorem rn : jh Tryd.prog 34 = some [(ay ([] : List UInt8)), (ay ([] : List UInt8)), (ay ([] : List UInt8)), (ay ([] : List UInt8))] := by kernel_rfl
theorem vB : cQ Tryd.prog 48 = true := by kernel_rfl
theorem ry : jh Tryd.prog 92 = some [(Value.int .i64 0), (Value.int .i64 0), (Value.int .i64 0), (Value.int .i64 0)] := by kernel_rfl
theorem nC : kn Tryd.prog 92 = some (4, 3) := by kernel_rfl
theorem qS : fk Tryd.prog 92 = some 4 := by kernel_rfl
theorem yx : kg Tryd.prog 92 = some true := by kernel_rfl
theorem rx : cQ Tryd.prog 49 = true := by kernel_rfl
theorem rt : cQ Tryd.prog 32 = true := by kernel_rfl
theorem oe : kg Tryd.prog 42 = some false := by kernel_rfl
theorem qr : cQ Tryd.prog 16 = true := by kernel_rfl
theorem sy : cQ Tryd.prog 6 = true := by kernel_rfl
theorem mL : jh Tryd.prog 9 = some [(ay ([] : List UInt8))] := by kernel_rfl
theorem vX : mI Tryd.prog 9 = some 16 := by kernel_rfl
theorem wt : cQ Tryd.prog 15 = true := by kernel_rfl
theorem mU : cQ Tryd.prog 96 = true := by kernel_rfl
theorem pu : cQ Tryd.prog 107 = true := by kernel_rfl
theorem mm : cQ Tryd.prog 100 = true := by kernel_rfl
theorem oK : cQ Tryd.prog 99 = true := by kernel_rfl
theorem wP : cQ Tryd.prog 95 = true := by kernel_rfl
theorem vQ : cQ Tryd.prog 81 = true := by kernel_rfl
theorem ni : cQ Tryd.prog 82 = true := by kernel_rfl
theorem rc : cQ Tryd.prog 57 = true := by kernel_rfl
theorem vL : cQ Tryd.prog 75 = true := by kernel_rfl
theorem jQ : cQ Tryd.prog 23 = true := by kernel_rfl
theorem yi : cQ Tryd.prog 8 = true := by kernel_rfl
theorem ip : cQ Tryd.prog 54 = true := by kernel_rfl
theorem qO : cQ Tryd.prog 26 = true := by kernel_rfl
theorem wA : cQ Tryd.prog 29 = true := by kernel_rfl
theorem oG : cQ Tryd.prog 12 = true := by kernel_rfl
theorem vG : cQ Tryd.prog 10 = true := by kernel_rfl
theorem rz : cQ Tryd.prog 76 = true := by kernel_rfl
theorem vt : cQ Tryd.prog 52 = true := by kernel_rfl
theorem wc : cQ Tryd.prog 53 = true := by kernel_rfl
theorem oL : cQ Tryd.prog 55 = true := by kernel_rfl
theorem wH : cQ Tryd.prog 33 = true := by kernel_rfl
theorem wh : cQ Tryd.prog 97 = true := by kernel_rfl
theorem wa : cQ Tryd.prog 77 = true := by kernel_rfl
theorem lE : cQ Tryd.prog 78 = true := by kernel_rfl
theorem vD : cQ Tryd.prog 79 = true := by kernel_rfl
theorem jW : cQ Tryd.prog 98 = true := by kernel_rfl
theorem wN : cQ Tryd.prog 80 = true := by kernel_rfl
theorem wr : cQ Tryd.prog 56 = true := by kernel_rfl
theorem wk : cQ Tryd.prog 58 = true := by kernel_rfl
theorem mH : jG Tryd.prog 101 = some 2 := by kernel_rfl
theorem ww : cQ Tryd.prog 59 = true := by kernel_rfl
theorem vE : cQ Tryd.prog 34 = true := by kernel_rfl
theorem vC : cQ Tryd.prog 17 = true := by kernel_rfl
theorem wR : cQ Tryd.prog 37 = true := by kernel_rfl
theorem vU : cQ Tryd.prog 21 = true := by kernel_rfl
theorem wC : cQ Tryd.prog 18 = true := by kernel_rfl
theorem words_Parse_1_quiet.spec (b0_ b1_ : Nat) : rg Tryd.prog { target := .fn (.func 31) ([pt b0_ 0,pt b1_ 0] : List Value).toArray,args := ([] : List Value).toArray ++ ([] : List Value).toArray } := by
 refine ⟨31,#[pt b0_ 0,pt b1_ 0],⟨_,_,rfl,fun w => ?_⟩,fun w => ?_⟩
 ·simp [invoke,callFunc,go_sem,Tryd.func31,Tryd.f31]
 ·refine callsDIn_of_wpSIn Tryd.func31 Z trivial fun c₀ cs hu => ?_
  apply wpSIn_seq
  apply wpSIn_region
  simp [wpOpsSIn,go_sem,recoverD,hu,Exit.thenS]
  apply wpSIn_seq
  apply wpSIn_region
  simp [wpOpsSIn,go_sem,Exit.thenS]
  refine wpSIn_cond (t := false) (by simp [Act.eval,Array.replicate]) ?_
  simp only [Bool.false_eq_true,if_false]
  refine wpSIn_of_wpIn Z (wpIn_skip ?_)
  cases c₀
  simp_all [bodyPostS,results]
theorem strings_Split.spec (a0 a1 : List UInt8) (r : List (List UInt8)) (H : strings_Split a0 a1 = some r) : bu Tryd.prog 30 [ay a0,ay a1] [] (fun v M => ∃ sv2 : Value,v = sv2 ∧ M = [own sv2 9 1 r.length (fl eS r)]) := by
 unfold strings_Split at H
 split at H
 ·split at H
  ·rename_i c h
   cases H
   exact tw (fun s c w hs => qq Tryd.lays146 (by kernel_rfl) s c w hs) a0 c h
  ·cases H
 ·cases H
theorem jM.spec (a0 : List UInt8) (r : List (List UInt8)) (H : jM a0 = some r) : bu Tryd.prog 14 [ay a0] [] (fun v M => ∃ sv2 : Value,v = sv2 ∧ M = [own sv2 9 1 r.length (fl eS r)]) := by
 unfold jM at H
 refine bB Tryd.func14 Z 7 Z (nL Z) fun F w0 => ?_
 show cM (St 7 w0 F [(0,ay a0)] []) _
 refine ag (ac (vA Z Z (ae (ag (ag (ac (vM Z Z (vV (an Z Z (eD _ _)) Z (ae ?_)))))))))
 refine cG H (fun c4 H => ?_) fun c4 H => ?_
 ·refine aj Z (aY c4) (ag (ac (vA Z Z (ae (ap ?_)))))
  cases H
  refine bc 9 1 ?_
  refine vP [0] Z Z ?_
  exact az Z Z ⟨_,rfl,rfl⟩
 refine ak Z (bd c4) (aD (ag (ac (vM Z Z ?_))))
 obtain ⟨x2,h2,H⟩ := oB H
 refine aL (dI (Lr := []) (first := []) (cap := []) (xs := [.tmp 5,.const (ay ([32] : List UInt8))]) Z Z wJ Z (strings_Split.spec a0 ([32] : List UInt8) _ h2) Z) Z Z Z ?_
 rintro sv3 _ ⟨_,⟨_,rfl,rfl⟩,rfl⟩
 refine vA Z Z (ae (ap ?_))
 cases H
 refine vP [0] Z Z ?_
 exact az Z Z ⟨_,rfl,rfl⟩
def ml : List PanicEntry := [{ v := .iface 42 (.int .i64 4), recovered := false }]
theorem words_must.spec (b : Bool) (h : b = true) : bu Tryd.prog 50 [.bool b] [] (fun v M => v = (tU #[]) ∧ M = []) := by
 subst h
 refine bB Tryd.func50 Z 5 Z (nL Z) fun F w0 => ?_
 show cM (St 5 w0 F [(0,.bool true)] []) _
 refine ag (ac (vM Z Z (vV (gV Z (il _)) Z (ae (ak Z Z (aD ?_))))))
 exact tv (xy Z ⟨rfl,rfl⟩)
theorem words_must.bad (b : Bool) (h : b = false) : lK Tryd.prog 50 [.bool b] [] ml := by
 subst h
 refine lQ.bad (Post := fun _ _ => False) (Bad := True) ?_ (fun _ _ h => h)
 refine kK Tryd.func50 Z 5 Z (nL Z) fun F w0 => ?_
 show cM (St 5 w0 F [(0,.bool false)] []) _
 refine ag (ac (vM Z Z (vV (gV Z (il _)) Z (ae (aj Z Z (ac (vV (xx Z Tryd.underlying42) Z ?_)))))))
 refine bQ (xO rfl (fun w => rfl)) (fun c e => by cases e) rfl ?_
 exact bX trivial
theorem cL.specM (p0 : Nat) (sv0 : Value) (l0 : List (List UInt8)) (p0_1 : Int) (r : Option ((List (List UInt8)) × (List UInt8))) (H : cL l0 p0_1 = some r) : lQ Tryd.prog 42 [pt p0 0] [box p0 72 [sv0,I p0_1],own sv0 9 1 l0.length (fl eS l0)] (fun v M => ∃ y_,r = some y_ ∧ ∃ sv1 : Value,cX (own sv0 9 1 l0.length (fl eS l0)) sv1 y_.1.length 1 (fl eS y_.1) ∧ v = (ay y_.2) ∧ M = [box p0 72 [sv1,I p0_1],own sv0 9 1 l0.length (fl eS l0)]) (r = none) ml := by
 unfold cL at H
 refine kK Tryd.func42 Z 26 Z (nL Z) fun F w0 => ?_
 show cM (St 26 w0 F [(0,pt p0 0)] [box p0 72 [sv0,I p0_1],own sv0 9 1 l0.length (fl eS l0)]) _
 refine ag (ac (vA Z Z (ae (ag (ac (vM Z Z (vV (bh Z) Z (vV (am (sz := 0) (o := 0) Z cp dk) Z (vV (aB (v := sv0) Z fa (au (i := 0) Z Z)) Z (vV (bV 1 Z bw Z (aQ 9)) Z (vV (an Z Z (eJ _ _ _)) Z ?_)))))))))))
 refine eW H (fun c6 H => ?_) fun c6 H => ?_
 ·refine bQ (cu (Lr := [box p0 72 [sv0,I p0_1],own sv0 9 1 l0.length (fl eS l0)]) (first := []) (cap := []) (xs := [.tmp 9]) rfl rfl cx rfl (words_must.bad _ (dF c6)) [0,1] (by decide) rfl) (fun c e => by cases e) rfl ?_
  cases H
  exact bX Z
 refine aL (aX (first := []) (cap := []) (xs := [.tmp 9]) Z Z cx Z (words_must.spec _ (dT c6))) Z Z Z ?_
 rintro _ _ ⟨rfl,rfl⟩
 refine ae (ag (ac (vM Z Z (vV (bh Z) Z (vV (am (sz := 0) (o := 0) Z cp dk) Z (vV (aB (v := sv0) Z fa (au (i := 0) Z Z)) Z (vV (bz (sz := 0) 1 Z Z bw cg Z (aQ 9) (by decide) c6) Z ?_)))))))
 refine vV (aB (v := (ay (l0.getD ((0 : Int).toNat) []))) Z cD (cP (i := 1) Z (aQ 9) (by simp) (dP gf (bJ (by decide) c6) Z))) Z ?_
 refine vA Z Z (ae (ag (ac (vM Z Z (vM Z Z (vV (bh Z) Z (vV (am (sz := 0) (o := 0) Z cp dk) Z (vV (aB (v := sv0) Z fa (au (i := 0) Z Z)) Z ?_))))))))
 obtain ⟨c8,H⟩ := eX H
 refine vV (pa 1 Z Z bw cg Z (aQ 9) (by decide) c8) Z (vV (bh Z) Z (vV (am (sz := 0) (o := 0) Z cp dk) Z ?_))
 refine bp (oC (cs := [sv0,I p0_1]) (cs' := [(pk sv0 (1 : Int).toNat l0.length 1),I p0_1]) (sv := (pk sv0 (1 : Int).toNat l0.length 1)) (L' := [box p0 72 [(pk sv0 (1 : Int).toNat l0.length 1),I p0_1],own sv0 9 1 l0.length (fl eS l0)]) 0 1 Z Z dk Z Z (nk gf (aQ 9) (qd (by decide) c8)) Z (by simp) Z) Z Z ?_
 rintro _ _ rfl
 refine ae (ag (ac (vM Z Z (vA Z Z (ae (ap ?_))))))
 cases H
 refine jI ?_
 refine vP [0,1] Z Z ?_
 exact az Z Z ⟨_,rfl,_,(nk gf (aQ 9) (qd (by decide) c8)),rfl,rfl⟩
theorem cL.spec (p0 : Nat) (sv0 : Value) (l0 : List (List UInt8)) (p0_1 : Int) (r : ((List (List UInt8)) × (List UInt8))) (H : cL l0 p0_1 = some (some r)) : bu Tryd.prog 42 [(pt p0 0)] [(box p0 72 [sv0, (int .i64 p0_1)]), (own sv0 9 1 l0.length (fl eS l0))] (fun v M => ∃ sv1 : Value, cX (own sv0 9 1 l0.length (fl eS l0)) sv1 r.1.length 1 (fl eS r.1) ∧ v = (ay r.2) ∧ M = [(box p0 72 [sv1, (int .i64 p0_1)]), (own sv0 9 1 l0.length (fl eS l0))]) := (cL.specM p0 sv0 l0 p0_1 _ H).ret (fun h => by cases h) fun v M h => by obtain ⟨y_, e, h⟩ := h; cases e; exact h
theorem cL.bad (p0 : Nat) (sv0 : Value) (l0 : List (List UInt8)) (p0_1 : Int) (H : cL l0 p0_1 = some none) : lK Tryd.prog 42 [(pt p0 0)] [(box p0 72 [sv0, (int .i64 p0_1)]), (own sv0 9 1 l0.length (fl eS l0))] ml := (cL.specM p0 sv0 l0 p0_1 _ H).bad fun v M h => by obtain ⟨y_, e, h⟩ := h; cases e
theorem bq.specM (p0 : Nat) (sv0 : Value) (A0 : HP) (l0 : List (List UInt8)) (p0_1 : Int) (hA0 : cX A0 sv0 l0.length 1 (fl eS l0)) (r : Option ((List (List UInt8)) × (List UInt8))) (H : bq l0 p0_1 = some r) : lQ Tryd.prog 42 [pt p0 0] [box p0 72 [sv0,I p0_1],A0] (fun v M => ∃ y_,r = some y_ ∧ ∃ sv1 : Value,cX A0 sv1 y_.1.length 1 (fl eS y_.1) ∧ v = (ay y_.2) ∧ M = [box p0 72 [sv1,I p0_1],A0]) (r = none) ml := by
 unfold bq at H
 refine kK Tryd.func42 Z 26 Z (nL Z) fun F w0 => ?_
 show cM (St 26 w0 F [(0,pt p0 0)] [box p0 72 [sv0,I p0_1],A0]) _
 refine ag (ac (vA Z Z (ae (ag (ac (vM Z Z (vV (bh Z) Z (vV (am (sz := 0) (o := 0) Z cp dk) Z (vV (aB (v := sv0) Z fa (au (i := 0) Z Z)) Z (vV (bV 1 Z bw Z hA0) Z (vV (an Z Z (eJ _ _ _)) Z ?_)))))))))))
 refine eW H (fun c6 H => ?_) fun c6 H => ?_
 ·refine bQ (cu (Lr := [box p0 72 [sv0,I p0_1],A0]) (first := []) (cap := []) (xs := [.tmp 9]) rfl rfl cx rfl (words_must.bad _ (dF c6)) [0,1] (by decide) rfl) (fun c e => by cases e) rfl ?_
  cases H
  exact bX Z
 refine aL (aX (first := []) (cap := []) (xs := [.tmp 9]) Z Z cx Z (words_must.spec _ (dT c6))) Z Z Z ?_
 rintro _ _ ⟨rfl,rfl⟩
 refine ae (ag (ac (vM Z Z (vV (bh Z) Z (vV (am (sz := 0) (o := 0) Z cp dk) Z (vV (aB (v := sv0) Z fa (au (i := 0) Z Z)) Z (vV (bz (sz := 0) 1 Z Z bw cg Z hA0 (by decide) c6) Z ?_)))))))
 refine vV (aB (v := (ay (l0.getD ((0 : Int).toNat) []))) Z cD (cP (i := 1) Z hA0 (by simp) (dP gf (bJ (by decide) c6) Z))) Z ?_
 refine vA Z Z (ae (ag (ac (vM Z Z (vM Z Z (vV (bh Z) Z (vV (am (sz := 0) (o := 0) Z cp dk) Z (vV (aB (v := sv0) Z fa (au (i := 0) Z Z)) Z ?_))))))))
 obtain ⟨c8,H⟩ := eX H
 refine vV (pa 1 Z Z bw cg Z hA0 (by decide) c8) Z (vV (bh Z) Z (vV (am (sz := 0) (o := 0) Z cp dk) Z ?_))
 refine bp (oC (cs := [sv0,I p0_1]) (cs' := [(pk sv0 (1 : Int).toNat l0.length 1),I p0_1]) (sv := (pk sv0 (1 : Int).toNat l0.length 1)) (L' := [box p0 72 [(pk sv0 (1 : Int).toNat l0.length 1),I p0_1],A0]) 0 1 Z Z dk Z Z (nk gf hA0 (qd (by decide) c8)) Z (by simp) Z) Z Z ?_
 rintro _ _ rfl
 refine ae (ag (ac (vM Z Z (vA Z Z (ae (ap ?_))))))
 cases H
 refine jI ?_
 refine vP [0,1] Z Z ?_
 exact az Z Z ⟨_,rfl,_,(nk gf hA0 (qd (by decide) c8)),rfl,rfl⟩
theorem bq.spec (p0 : Nat) (sv0 : Value) (A0 : HP) (l0 : List (List UInt8)) (p0_1 : Int) (hA0 : cX A0 sv0 l0.length 1 (fl eS l0)) (r : ((List (List UInt8)) × (List UInt8))) (H : bq l0 p0_1 = some (some r)) : bu Tryd.prog 42 [(pt p0 0)] [(box p0 72 [sv0, (int .i64 p0_1)]), A0] (fun v M => ∃ sv1 : Value, cX A0 sv1 r.1.length 1 (fl eS r.1) ∧ v = (ay r.2) ∧ M = [(box p0 72 [sv1, (int .i64 p0_1)]), A0]) := (bq.specM p0 sv0 A0 l0 p0_1 hA0 _ H).ret (fun h => by cases h) fun v M h => by obtain ⟨y_, e, h⟩ := h; cases e; exact h
theorem bq.bad (p0 : Nat) (sv0 : Value) (A0 : HP) (l0 : List (List UInt8)) (p0_1 : Int) (hA0 : cX A0 sv0 l0.length 1 (fl eS l0)) (H : bq l0 p0_1 = some none) : lK Tryd.prog 42 [(pt p0 0)] [(box p0 72 [sv0, (int .i64 p0_1)]), A0] ml := (bq.specM p0 sv0 A0 l0 p0_1 hA0 _ H).bad fun v M h => by obtain ⟨y_, e, h⟩ := h; cases e
theorem kt.spec (a0 : Int) (r : Bool) (H : kt a0 = r) : bu Tryd.prog 109 [I a0] [] (fun v M => v = (bool r) ∧ M = []) := by
 unfold kt at H
 refine bB Tryd.func109 Z 16 Z (nL Z) fun F w0 => ?_
 show cM (St 16 w0 F [(0,I a0)] []) _
 refine ag (ac (vA Z Z (ae (ag (ac (vM Z Z ?_))))))
 refine vV (an Z Z fun w => mb _ _ _ w (by decide)) Z ?_
 refine vV (an Z Z (bg _ _ _)) Z (vM Z Z ?_)
 refine eW H (fun c3 H => ?_) fun c3 H => ?_
 ·refine af Z Z Z (bd c3) Z Z ?_
  refine af Z Z Z (bd c3) Z Z ?_
  refine af Z Z Z (bd c3) Z Z ?_
  refine vV (al Z Z Z (aO (bd c3))) Z (vM Z Z ?_)
  refine aa (aq Z) Z Z Z Z Z Z ?_
  refine aa (an Z Z fun w => mb _ _ _ w (by decide)) Z Z Z Z Z Z ?_
  refine aa (an Z Z (bg _ _ _)) Z Z Z Z Z Z ?_
  refine vV (al Z Z Z Z) Z (vA Z Z (ae (ap ?_)))
  cases H
  refine vP [] Z Z ?_
  exact az Z Z ⟨rfl,rfl⟩
 refine aa (aq Z) Z Z Z (aY c3) Z Z ?_
 refine aa (an Z Z fun w => mb _ _ _ w (by decide)) Z Z Z (aY c3) Z Z ?_
 refine aa (an Z Z (kN _ _ _)) Z Z Z (aY c3) Z Z ?_
 refine vV (al Z Z Z (aK (aY c3))) Z (vM Z Z ?_)
 refine cG H (fun c4 H => ?_) fun c4 H => ?_
 ·refine af Z Z Z (ja c4) Z Z ?_
  refine af Z Z Z (ja c4) Z Z ?_
  refine af Z Z Z (ja c4) Z Z ?_
  refine vV (al Z Z Z (aK (ja c4))) Z (vA Z Z (ae (ap ?_)))
  cases H
  refine vP [] Z Z ?_
  exact az Z Z ⟨rfl,rfl⟩
 refine aa (aq Z) Z Z Z (iZ c4) Z Z ?_
 refine aa (an Z Z fun w => mb _ _ _ w (by decide)) Z Z Z (iZ c4) Z Z ?_
 refine aa (an Z Z (bg _ _ _)) Z Z Z (iZ c4) Z Z ?_
 refine vV (al Z Z Z (aO (iZ c4))) Z (vA Z Z (ae (ap ?_)))
 cases H
 refine vP [] Z Z ?_
 exact az Z Z ⟨rfl,rfl⟩
theorem hO.spec (a0 a1 r : Int) (H : hO a0 a1 = r) : bu Tryd.prog 105 [I a0,I a1] [] (fun v M => v = (I r) ∧ M = []) := by
 unfold hO at H
 refine bB Tryd.func105 Z 28 Z (nL Z) fun F w0 => ?_
 show cM (St 28 w0 F [(0,I a0),(1,I a1)] []) _
 refine ag (ac (vA Z Z (ae (ag (aP (ag (ac (vM Z Z (vV (an Z Z (cl _ _ _)) Z (vM Z Z ?_))))))))))
 refine cG H (fun c13 H => ?_) fun c13 H => ?_
 ·refine af Z Z Z (dT c13) Z Z ?_
  refine af Z Z Z (dT c13) Z Z ?_
  refine vV (al Z Z Z (aK (dT c13))) Z (vA Z Z (ae (aj Z Z (ag (ac (vA Z Z (ae (ap ?_))))))))
  cases H
  refine vP [] Z Z ?_
  exact az Z Z ⟨rfl,rfl⟩
 refine aa (aq Z) Z Z Z (dF c13) Z Z ?_
 refine aa (an Z Z (eJ _ _ _)) Z Z Z (dF c13) Z Z ?_
 refine vV (al Z Z Z (aO (dF c13))) Z (vA Z Z (ae ?_))
 refine cG H (fun c14 H => ?_) fun c14 H => ?_
 ·refine aj Z (dT c14) (ag (ac (vA Z Z (ae (ap ?_)))))
  cases H
  refine vP [] Z Z ?_
  exact az Z Z ⟨rfl,rfl⟩
 refine ak Z (dF c14) (ag (ac (vM Z Z (vV (an Z Z (bg _ _ _)) Z (vM Z Z ?_)))))
 refine eW H (fun c15 H => ?_) fun c15 H => ?_
 ·refine af Z Z Z (bd c15) Z Z ?_
  refine af Z Z Z (bd c15) Z Z ?_
  refine vV (al Z Z Z (aO (bd c15))) Z (vA Z Z (ae (ak Z Z (ag (ac (vM Z Z (vV (an Z Z (bg _ _ _)) Z (vA Z Z (ae (ak Z (bd c15) (aD ?_)))))))))))
  refine ag (ac (vM Z Z (vM Z Z ?_)))
  refine vV (an Z Z fun w => AK _ _ _ _ w (by decide)) Z ?_
  refine vV (an Z Z (bL _ _ _) ) Z (vV (an Z Z (AR _ _ _)) Z (vV (an Z Z (bL _ _ _) ) Z (vA Z Z (ae (ap ?_)))))
  cases H
  refine vP [] Z Z ?_
  exact az Z Z ⟨rfl,rfl⟩
 refine aa (aq Z) Z Z Z (aY c15) Z Z ?_
 obtain ⟨x4,h4,H⟩ := bC H
 refine cv (aX (first := []) (cap := []) (xs := [.tmp 16]) Z Z tz Z (kt.spec a0 _ h4)) Z Z Z (aY c15) Z Z ?_
 rintro _ _ ⟨rfl,rfl⟩
 refine vV (al Z Z Z (aK (aY c15))) Z (vA Z Z (ae ?_))
 refine cG H (fun c16 H => ?_) fun c16 H => ?_
 ·refine aj Z c16 (ag (ac (vA Z Z (ae (ap ?_)))))
  cases H
  refine vP [] Z Z ?_
  exact az Z Z ⟨rfl,rfl⟩
 refine ak Z (bF c16) (ag (ac (vM Z Z (vV (an Z Z (bg _ _ _)) Z (vA Z Z (ae (aj Z (aY c15) (ag (ac (vA Z Z (ae ?_)))))))))))
 refine ap ?_
 cases H
 refine vP [] Z Z ?_
 exact az Z Z ⟨rfl,rfl⟩
theorem js.spec (a0 a1 : Int) (a2 r : Int) (H : js a0 a1 a2 = r) : bu Tryd.prog 106 [I a0,I a1,I a2] [] (fun v M => v = (I r) ∧ M = []) := by
 unfold js at H
 refine bB Tryd.func106 Z 42 Z (nL Z) fun F w0 => ?_
 show cM (St 42 w0 F [(0,I a0),(1,I a1),(2,I a2)] []) _
 refine ag (ac (vA Z Z (ae (ag (ac (vM Z Z (vV (an Z Z (lm _ _ _) ) Z (vA Z Z (ae ?_)))))))))
 obtain ⟨x2,H2,H⟩ := bC H
 refine cc (fun a w => St 42 w0 F [(0,I x2.1),(2,I a2),(7,I x2.2)] [] a w) ?_ ?_
 ·refine ag (ac (vM Z Z (vV (an Z Z (cl _ _ _)) Z (ae ?_))))
  refine eW H2 (fun c4 H2 => ?_) fun c4 H2 => ?_
  ·refine ak Z (dF c4) (aD ?_)
   cases H2
   exact vF [] Z Z (vS [0,2,7] Z) fun a w h => h
  refine aj Z (dT c4) (ag (ac (vM Z Z (vV (an Z Z (bL _ _ _) ) Z (vA Z Z (ae (ac (vM Z Z (vV (an Z Z (lm _ _ _) ) Z (vA Z Z (ae ?_)))))))))))
  cases H2
  exact vF [] Z Z (vS [0,2,7] Z) fun a w h => h
 ·refine ag (ac (vM Z Z ?_))
  refine vV (an Z Z fun w => mb _ _ _ w (by decide)) Z ?_
  refine vA Z Z (ae (ag (ac (vM Z Z (vV (an Z Z (mF _ _ _) ) Z (vM Z Z ?_))))))
  refine vV (an Z Z fun w => nw _ _ _ w (by decide)) Z ?_
  refine vV (an Z Z (bL _ _ _) ) Z (vM Z Z ?_)
  refine vV (an Z Z fun w => nw _ _ _ w (by decide)) Z ?_
  refine vV (an Z Z (lm _ _ _) ) Z (vM Z Z (vV (an Z Z (mF _ _ _) ) Z (vV (an Z Z (bL _ _ _) ) Z ?_)))
  refine vV (an Z Z fun w => nw _ _ _ w (by decide)) Z ?_
  refine vV (an Z Z (bL _ _ _) ) Z (vM Z Z (vV (an Z Z (bL _ _ _) ) Z (vV (an Z Z (lm _ _ _) ) Z (vA Z Z (ae (ag (ac (vM Z Z ?_))))))))
  refine vV (an Z Z fun w => nw _ _ _ w (by decide)) Z ?_
  refine vV (an Z Z (mF _ _ _) ) Z (vM Z Z (vV (an Z Z (bL _ _ _) ) Z (vV (an Z Z (lm _ _ _) ) Z (vA Z Z (ae (ap ?_))))))
  cases H
  refine vP [] Z Z ?_
  exact az Z Z ⟨rfl,rfl⟩
theorem ju.spec (a0 a1 a2 : Int) (r : (Int × Bool)) (H : ju a0 a1 a2 = r) : bu Tryd.prog 85 [I a0,I a1,I a2] [] (fun v M => v = (tU #[I r.1,bool r.2]) ∧ M = []) := by
 unfold ju at H
 refine bB Tryd.func85 Z 29 Z (nL Z) fun F w0 => ?_
 show cM (St 29 w0 F [(0,I a0),(1,I a1),(2,I a2)] []) _
 refine ag (ac (vA Z Z (vA Z Z (ae (ag (ag (ac (vM Z Z (vV (an Z Z (cl _ _ _)) Z (vM Z Z ?_))))))))))
 refine cG H (fun c13 H => ?_) fun c13 H => ?_
 ·refine af Z Z Z (dT c13) Z Z ?_
  refine af Z Z Z (dT c13) Z Z ?_
  refine vV (al Z Z Z (aK (dT c13))) Z (vM Z Z ?_)
  refine af Z Z Z Z Z Z ?_
  refine af Z Z Z Z Z Z ?_
  refine vV (al Z Z Z Z) Z (vM Z Z ?_)
  refine af Z Z Z Z Z Z ?_
  refine af Z Z Z Z Z Z ?_
  refine af Z Z Z Z Z Z ?_
  refine af Z Z Z Z Z Z ?_
  refine af Z Z Z Z Z Z ?_
  refine vV (al Z Z Z Z) Z (ae (aj Z Z (ag (ac (vA Z Z (vA Z Z (ae (ap ?_))))))))
  cases H
  refine vP [] Z Z ?_
  exact bG (vs := [I 0,B0]) Z ⟨rfl,⟨rfl,trivial⟩⟩ _ Z ⟨rfl,rfl⟩
 refine aa (aq Z) Z Z Z (dF c13) Z Z ?_
 refine aa (an Z Z (eJ _ _ _)) Z Z Z (dF c13) Z Z ?_
 refine vV (al Z Z Z (aO (dF c13))) Z (vM Z Z ?_)
 refine cG H (fun c14 H => ?_) fun c14 H => ?_
 ·refine af Z Z Z (dT c14) Z Z ?_
  refine af Z Z Z (dT c14) Z Z ?_
  refine vV (al Z Z Z (aK (dT c14))) Z (vM Z Z ?_)
  refine af Z Z Z Z Z Z ?_
  refine af Z Z Z Z Z Z ?_
  refine af Z Z Z Z Z Z ?_
  refine af Z Z Z Z Z Z ?_
  refine af Z Z Z Z Z Z ?_
  refine vV (al Z Z Z Z) Z (ae (aj Z Z (ag (ac (vA Z Z (vA Z Z (ae (ap ?_))))))))
  cases H
  refine vP [] Z Z ?_
  exact bG (vs := [I 0,B0]) Z ⟨rfl,⟨rfl,trivial⟩⟩ _ Z ⟨rfl,rfl⟩
 refine aa (aq Z) Z Z Z (dF c14) Z Z ?_
 refine aa (an Z Z (cl _ _ _)) Z Z Z (dF c14) Z Z ?_
 refine vV (al Z Z Z (aO (dF c14))) Z (vM Z Z ?_)
 refine cG H (fun c15 H => ?_) fun c15 H => ?_
 ·refine af Z Z Z (dT c15) Z Z ?_
  refine af Z Z Z (dT c15) Z Z ?_
  refine af Z Z Z (dT c15) Z Z ?_
  refine af Z Z Z (dT c15) Z Z ?_
  refine af Z Z Z (dT c15) Z Z ?_
  refine vV (al Z Z Z (aK (dT c15))) Z (ae (aj Z Z (ag (ac (vA Z Z (vA Z Z (ae (ap ?_))))))))
  cases H
  refine vP [] Z Z ?_
  exact bG (vs := [I 0,B0]) Z ⟨rfl,⟨rfl,trivial⟩⟩ _ Z ⟨rfl,rfl⟩
 refine aa (aq Z) Z Z Z (dF c15) Z Z ?_
 refine aa (aq Z) Z Z Z (dF c15) Z Z ?_
 refine aa (aq Z) Z Z Z (dF c15) Z Z ?_
 obtain ⟨x5,h5,H⟩ := bC H
 refine cv (aX (first := []) (cap := []) (xs := [.tmp 20,.tmp 21]) Z Z tR Z (hO.spec a0 a1 _ h5)) Z Z Z (dF c15) Z Z ?_
 rintro _ _ ⟨rfl,rfl⟩
 refine aa (an Z Z (eJ _ _ _)) Z Z Z (dF c15) Z Z ?_
 refine vV (al Z Z Z (aO (dF c15))) Z (ae ?_)
 refine cG H (fun c16 H => ?_) fun c16 H => ?_
 ·refine aj Z (dT c16) (ag (ac (vA Z Z (vA Z Z (ae (ap ?_))))))
  cases H
  refine vP [] Z Z ?_
  exact bG (vs := [I 0,B0]) Z ⟨rfl,⟨rfl,trivial⟩⟩ _ Z ⟨rfl,rfl⟩
 refine ak Z (dF c16) (aD (ag (ac (vM Z Z (vM Z Z (vM Z Z ?_))))))
 obtain ⟨x6,h6,H⟩ := bC H
 refine aL (aX (first := []) (cap := []) (xs := [.tmp 25,.tmp 26,.tmp 27]) Z Z tI Z (js.spec a0 a1 a2 _ h6)) Z Z Z ?_
 rintro _ _ ⟨rfl,rfl⟩
 refine vA Z Z (vA Z Z (ae (ap ?_)))
 cases H
 refine vP [] Z Z ?_
 exact bG (vs := [I x6,bool true]) Z ⟨rfl,⟨rfl,trivial⟩⟩ _ Z ⟨rfl,rfl⟩
theorem jL.spec (K : Nat) (a0 : List UInt8) (r : (Int × Bool)) (H : jL K a0 = some r) : bu Tryd.prog 69 [ay a0] [] (fun v M => v = (tU #[I r.1,bool r.2]) ∧ M = []) := by
 unfold jL at H
 refine bB Tryd.func69 Z 75 Z (nL Z) fun F w0 => ?_
 show cM (St 75 w0 F [(0,ay a0)] []) _
 refine ag (ac (vA Z Z (vA Z Z (ae (rl (ag (ag (ac (vM Z Z (vV (fX Z Tryd.underlying9) Z (vV (an Z Z (kN _ _ _)) Z ?_)))))))))))
 refine ae ?_
 refine cG H (fun c264 H => ?_) fun c264 H => ?_
 ·refine aj Z (ja c264) (ag (ac (vA Z Z (vA Z Z (ae (ap ?_))))))
  cases H
  refine vP [] Z Z ?_
  exact bG (vs := [I 0,B0]) Z ⟨rfl,⟨rfl,trivial⟩⟩ _ Z ⟨rfl,rfl⟩
 refine ak Z (iZ c264) (aD (ag (ac ?_)))
 refine aL (cS um) Z Z Z ?_
 rintro _ _ ⟨b3,rfl,rfl⟩
 refine ae (ag (ac (vA Z Z (ae (ag (qX ?_))))))
 obtain ⟨x3,H8,H⟩ := oB H
 refine cc (fun a w => ∃ v2,x3 = Sum.inl v2 ∧ ∃ b4 : Nat,St 75 w0 F [(4,pt b4 0)] [box b4 120 [I v2.1,I v2.2.1,I v2.2.2.1,I v2.2.2.2]] a w) ?_ ?_
 ·refine ag (ac (vM Z Z ?_))
  obtain ⟨c390,H8⟩ := eX H8
  refine aL (tV Z Tryd.underlying9 dp Tryd.underlying5 c390) Z Z Z ?_
  rintro sv4 _ rfl
  refine vV (bV 0 Z dp Z (jU 5)) Z (vM Z Z (ae (aP ?_)))
  refine cK (fun k a w => ∃ i30,∃ i31,∃ i33,∃ i34,∃ i35,∃ i36,dC K a0 k i30 i31 i33 i34 i35 i36 = some x3 ∧ St 75 w0 F [(4,pt b3 0),(5,I i30),(15,sv4),(16,I ((dj a0).length : Int)),(17,I i31)] [box b3 120 [I i33,I i34,I i35,I i36],(yC sv4 5 (dj a0).length (fl (eI .u8) (dj a0)))] a w) K ?_ ?_
  ·exact vF [1,0] Z Z (vS [4,5,15,16,17] Z) fun a w h => ⟨_,_,_,_,_,_,H8,h⟩
  ·refine fun k => aJ fun i30 => aJ fun i31 => aJ fun i33 => aJ fun i34 => aJ fun i35 => aJ fun i36 => ca fun H9 => ?_
   cases k with
   | zero => exact absurd H9 (by simp [dC])
   | succ k =>
    rw [dC] at H9
    refine ag (ac (vV (an Z Z (cl _ _ _)) Z (ae (ag ?_))))
    refine eW H9 (fun c484 H9 => ?_) fun c484 H9 => ?_
    ·refine ak Z (dF c484) (bZ ?_)
     cases H9
     exact vF [0] Z Z (vS [4] Z) fun a w h => ⟨_,rfl,_,h⟩
    refine aj Z (dT c484) (aD (ag (aP (ag (ac (vM Z Z ?_))))))
    obtain ⟨c500,H9⟩ := eX H9
    refine vV (bz (sz := 0) 1 Z Z dp iH Z (jU 5) c500 c484) Z ?_
    refine vV (aB (v := (int .u8 ((dj a0).getD i31.toNat 0))) Z rK (cP (i := 1) Z (jU 5) (by simp) (dP (pT _) (bJ c500 c484) Z))) Z ?_
    refine vA Z Z (vA Z Z (ae (ag (ag (ac (vM Z Z ?_))))))
    obtain ⟨c505,H9⟩ := eX H9
    refine vV (dH Z Z Tryd.underlying9 c500 c505) Z (vV (an Z Z (kN _ _ _)) Z (ae ?_))
    refine cG H9 (fun c506 H9 => ?_) fun c506 H9 => ?_
    ·refine aj Z (ja c506) (ag (ag (ac (vM Z Z (vM Z Z (vV (dH Z Z Tryd.underlying9 c500 c505) Z (vV (an Z Z (kN _ _ _)) Z (ae ?_))))))))
     refine cG H9 (fun c508 H9 => ?_) fun c508 H9 => ?_
     ·refine aj Z (ja c508) (ag (ac (vA Z Z (vA Z Z (ae (ap ?_))))))
      cases H9
      have H10 := Option.some.inj (show some _ = some _ from H)
      cases H10
      refine vP [] Z Z ?_
      exact bG (vs := [I 0,B0]) Z ⟨rfl,⟨rfl,trivial⟩⟩ _ Z ⟨rfl,rfl⟩
     refine ak Z (iZ c508) (aD (ag (ac (vM Z Z (vV (an Z Z (bL _ _ _) ) Z (vA Z Z (ae (bZ (ac (vV (an Z Z (bL _ _ _) ) Z (vM Z Z ?_)))))))))))
     refine ae ?_
     exact vF [0,1] Z Z (vS [4,5,15,16,17] Z) fun a w h => ⟨k,Nat.lt_succ_self k,_,_,_,_,_,_,H9,h⟩
    refine ak Z (iZ c506) (aD (ag (ag (ac (vM Z Z (vV (an Z Z (cl _ _ _)) Z (vM Z Z ?_)))))))
    refine cG H9 (fun c511 H9 => ?_) fun c511 H9 => ?_
    ·refine af Z Z Z (dT c511) Z Z ?_
     refine af Z Z Z (dT c511) Z Z ?_
     refine vV (al Z Z Z (aK (dT c511))) Z (ae (aj Z Z (ag (ac (vA Z Z (vA Z Z (ae (ap ?_))))))))
     cases H9
     have H11 := Option.some.inj (show some _ = some _ from H)
     cases H11
     refine vP [] Z Z ?_
     exact bG (vs := [I 0,B0]) Z ⟨rfl,⟨rfl,trivial⟩⟩ _ Z ⟨rfl,rfl⟩
    refine aa (aq Z) Z Z Z (dF c511) Z Z ?_
    refine aa (an Z Z (eJ _ _ _)) Z Z Z (dF c511) Z Z ?_
    refine vV (al Z Z Z (aO (dF c511))) Z (ae ?_)
    refine cG H9 (fun c512 H9 => ?_) fun c512 H9 => ?_
    ·refine aj Z (dT c512) (ag (ac (vA Z Z (vA Z Z (ae (ap ?_))))))
     cases H9
     have H12 := Option.some.inj (show some _ = some _ from H)
     cases H12
     refine vP [] Z Z ?_
     exact bG (vs := [I 0,B0]) Z ⟨rfl,⟨rfl,trivial⟩⟩ _ Z ⟨rfl,rfl⟩
    refine ak Z (dF c512) (aD (ac (vM Z Z (vM Z Z ?_))))
    obtain ⟨c513,H9⟩ := eX H9
    obtain ⟨c514,H9⟩ := eX H9
    refine vV (br (o := 0) Z Z jN aT c513 c514) Z (vV (aB (v := (I ([i33,i34,i35,i36].getD i30.toNat 0))) Z aW (ff (i := 0) (enc := (eI .i64)) (z := 0) (xs := [i33,i34,i35,i36]) Z (pT _) Z (bJ c513 c514))) Z (vV (an Z Z (mF _ _ _) ) Z (vM Z Z (vV (an Z Z (lm _ _ _) ) Z (vV (jv Z (nT Tryd.underlying5 Tryd.underlying2)) Z (vV (an Z Z (bL _ _ _) ) Z (vV (br (o := 0) Z Z jN aT c513 c514) Z ?_)))))))
    refine bp (jO (cs := [I i33,I i34,I i35,I i36]) (cs' := [I (if i30.toNat = 0 then bm ((bm (([i33,i34,i35,i36].getD i30.toNat 0) * 10)) + (bm (dR (((dj a0).getD i31.toNat 0) - 48)))) else i33),I (if i30.toNat = 1 then bm ((bm (([i33,i34,i35,i36].getD i30.toNat 0) * 10)) + (bm (dR (((dj a0).getD i31.toNat 0) - 48)))) else i34),I (if i30.toNat = 2 then bm ((bm (([i33,i34,i35,i36].getD i30.toNat 0) * 10)) + (bm (dR (((dj a0).getD i31.toNat 0) - 48)))) else i35),I (if i30.toNat = 3 then bm ((bm (([i33,i34,i35,i36].getD i30.toNat 0) * 10)) + (bm (dR (((dj a0).getD i31.toNat 0) - 48)))) else i36)]) (us := [I (bm ((bm (([i33,i34,i35,i36].getD i30.toNat 0) * 10)) + (bm (dR (((dj a0).getD i31.toNat 0) - 48)))))]) (L' := [box b3 120 [I (if i30.toNat = 0 then bm ((bm (([i33,i34,i35,i36].getD i30.toNat 0) * 10)) + (bm (dR (((dj a0).getD i31.toNat 0) - 48)))) else i33),I (if i30.toNat = 1 then bm ((bm (([i33,i34,i35,i36].getD i30.toNat 0) * 10)) + (bm (dR (((dj a0).getD i31.toNat 0) - 48)))) else i34),I (if i30.toNat = 2 then bm ((bm (([i33,i34,i35,i36].getD i30.toNat 0) * 10)) + (bm (dR (((dj a0).getD i31.toNat 0) - 48)))) else i35),I (if i30.toNat = 3 then bm ((bm (([i33,i34,i35,i36].getD i30.toNat 0) * 10)) + (bm (dR (((dj a0).getD i31.toNat 0) - 48)))) else i36)],(yC sv4 5 (dj a0).length (fl (eI .u8) (dj a0)))]) 0 Z Z Z (kJ Z) aT Z (iD (fun i_ => List.take (0 + i_ * 1) [I i33,I i34,I i35,I i36] ++ [I (bm ((bm (([i33,i34,i35,i36].getD i30.toNat 0) * 10)) + (bm (dR (((dj a0).getD i31.toNat 0) - 48)))))] ++ List.drop (0 + i_ * 1 + List.length [I (bm ((bm (([i33,i34,i35,i36].getD i30.toNat 0) * 10)) + (bm (dR (((dj a0).getD i31.toNat 0) - 48)))))]) [I i33,I i34,I i35,I i36] = [I (if i_ = 0 then bm ((bm (([i33,i34,i35,i36].getD i30.toNat 0) * 10)) + (bm (dR (((dj a0).getD i31.toNat 0) - 48)))) else i33),I (if i_ = 1 then bm ((bm (([i33,i34,i35,i36].getD i30.toNat 0) * 10)) + (bm (dR (((dj a0).getD i31.toNat 0) - 48)))) else i34),I (if i_ = 2 then bm ((bm (([i33,i34,i35,i36].getD i30.toNat 0) * 10)) + (bm (dR (((dj a0).getD i31.toNat 0) - 48)))) else i35),I (if i_ = 3 then bm ((bm (([i33,i34,i35,i36].getD i30.toNat 0) * 10)) + (bm (dR (((dj a0).getD i31.toNat 0) - 48)))) else i36)]) (bJ c513 c514) Z Z Z Z) (iD (fun i_ => 0 + i_ * 1 + List.length [I (bm ((bm (([i33,i34,i35,i36].getD i30.toNat 0) * 10)) + (bm (dR (((dj a0).getD i31.toNat 0) - 48)))))] ≤ List.length [I i33,I i34,I i35,I i36]) (bJ c513 c514) (nL Z) (nL Z) (nL Z) (nL Z)) Z) Z Z ?_
    rintro _ _ rfl
    refine ae (ac (vV (an Z Z (bL _ _ _) ) Z (vM Z Z (ae ?_))))
    exact vF [0,1] Z Z (vS [4,5,15,16,17] Z) fun a w h => ⟨k,Nat.lt_succ_self k,_,_,_,_,_,_,H9,h⟩
 ·refine aJ fun v2 => ca fun e_ => ?_
  subst e_
  rw [jT] at H
  refine aJ fun b4 => ?_
  refine ag (ac ?_)
  obtain ⟨c515,H⟩ := eX H
  refine vV (br (o := 0) Z Z jN aT (by decide) c515) Z (vV (aB (v := (I v2.1)) Z aW (au (i := 0) Z Z)) Z ?_)
  obtain ⟨c516,H⟩ := eX H
  refine vV (br (o := 0) Z Z jN aT (by decide) c516) Z (vV (aB (v := (I v2.2.1)) Z aW (au (i := 0) Z Z)) Z ?_)
  obtain ⟨c517,H⟩ := eX H
  refine vV (br (o := 0) Z Z jN aT (by decide) c517) Z (vV (aB (v := (I v2.2.2.1)) Z aW (au (i := 0) Z Z)) Z ?_)
  obtain ⟨x4,h2,H⟩ := bC H
  refine aL (aX (first := []) (cap := []) (xs := [.tmp 50,.tmp 52,.tmp 54]) Z Z wO Z (ju.spec v2.1 v2.2.1 v2.2.2.1 _ h2)) Z Z Z ?_
  rintro _ _ ⟨rfl,rfl⟩
  refine vM Z Z (vV (bU Z Z) Z (vV (bU Z Z) Z (vA Z Z (vA Z Z (ae (ag (ac (vM Z Z (vV (an Z Z (mF _ _ _) ) Z ?_)))))))))
  obtain ⟨c518,H⟩ := eX H
  refine vV (br (o := 0) Z Z jN aT (by decide) c518) Z (vV (aB (v := (I v2.2.2.2)) Z aW (au (i := 0) Z Z)) Z (vV (an Z Z (bL _ _ _) ) Z (vA Z Z (ae (ag (ag (ac (vM Z Z (vV (gV Z (il _)) Z (vM Z Z ?_))))))))))
  refine cG H (fun c522 H => ?_) fun c522 H => ?_
  ·refine af Z Z Z c522 Z Z ?_
   refine af Z Z Z c522 Z Z ?_
   refine af Z Z Z c522 Z Z ?_
   refine vV (al Z Z Z (aK c522)) Z (vM Z Z ?_)
   refine af Z Z Z Z Z Z ?_
   refine af Z Z Z Z Z Z ?_
   refine vV (al Z Z Z Z) Z (ae (aj Z Z (ag (ac (vA Z Z (vA Z Z (ae (ap ?_))))))))
   cases H
   refine vP [] Z Z ?_
   exact bG (vs := [I 0,B0]) Z ⟨rfl,⟨rfl,trivial⟩⟩ _ Z ⟨rfl,rfl⟩
  refine aa (br (o := 0) Z Z jN aT (by decide) c518) Z Z Z (bF c522) Z Z ?_
  refine aa (aB (v := (I v2.2.2.2)) Z aW (au (i := 0) Z Z)) Z Z Z (bF c522) Z Z ?_
  refine aa (an Z Z (iY _ _ _)) Z Z Z (bF c522) Z Z ?_
  refine vV (al Z Z Z (aO (bF c522))) Z (vM Z Z ?_)
  refine cG H (fun c523 H => ?_) fun c523 H => ?_
  ·refine af Z Z Z (dT c523) Z Z ?_
   refine af Z Z Z (dT c523) Z Z ?_
   refine vV (al Z Z Z (aK (dT c523))) Z (ae (aj Z Z (ag (ac (vA Z Z (vA Z Z (ae (ap ?_))))))))
   cases H
   refine vP [] Z Z ?_
   exact bG (vs := [I 0,B0]) Z ⟨rfl,⟨rfl,trivial⟩⟩ _ Z ⟨rfl,rfl⟩
  refine aa (aq Z) Z Z Z (dF c523) Z Z ?_
  refine aa (an Z Z (eJ _ _ _)) Z Z Z (dF c523) Z Z ?_
  refine vV (al Z Z Z (aO (dF c523))) Z (ae ?_)
  refine cG H (fun c524 H => ?_) fun c524 H => ?_
  ·refine aj Z (dT c524) (ag (ac (vA Z Z (vA Z Z (ae (ap ?_))))))
   cases H
   refine vP [] Z Z ?_
   exact bG (vs := [I 0,B0]) Z ⟨rfl,⟨rfl,trivial⟩⟩ _ Z ⟨rfl,rfl⟩
  refine ak Z (dF c524) (aD (ag (ac (vM Z Z (vA Z Z (vA Z Z (ae (ap ?_))))))))
  cases H
  refine vP [] Z Z ?_
  exact bG (vs := [I (bm ((bm (x4.1 * 24)) + v2.2.2.2)),bool true]) Z ⟨rfl,⟨rfl,trivial⟩⟩ _ Z ⟨rfl,rfl⟩
theorem gD.spec (a0 : Int) (r : Bool) (H : gD a0 = r) : bu Tryd.prog 24 [int .u8 a0] [] (fun v M => v = (bool r) ∧ M = []) := by
 unfold gD at H
 refine bB Tryd.func24 Z 28 Z (nL Z) fun F w0 => ?_
 show cM (St 28 w0 F [(0,int .u8 a0)] []) _
 refine ag (ac (vA Z Z (ae (ag (aP ?_)))))
 obtain ⟨x4,H4,H⟩ := bC H
 refine cc (fun a w => St 28 w0 F [(0,int .u8 a0),(3,bool x4)] [] a w) ?_ ?_
 ·refine ag (ac (vM Z Z (vV (an Z Z (iY _ _ _)) Z (vM Z Z ?_))))
  refine eW H4 (fun c75 H4 => ?_) fun c75 H4 => ?_
  ·refine af Z Z Z (dF c75) Z Z ?_
   refine af Z Z Z (dF c75) Z Z ?_
   refine vV (al Z Z Z (aO (dF c75))) Z (vA Z Z (ae (ak Z Z (ag (ac (vM Z Z (vV (an Z Z (iY _ _ _)) Z (vM Z Z ?_))))))))
   refine eW H4 (fun c81 H4 => ?_) fun c81 H4 => ?_
   ·refine af Z Z Z (dF c81) Z Z ?_
    refine af Z Z Z (dF c81) Z Z ?_
    refine vV (al Z Z Z (aO (dF c81))) Z (vA Z Z (ae (ak Z Z (ac (vM Z Z (vV (an Z Z (iY _ _ _)) Z (vM Z Z ?_)))))))
    refine eW H4 (fun c84 H4 => ?_) fun c84 H4 => ?_
    ·refine af Z Z Z (dF c84) Z Z ?_
     refine af Z Z Z (dF c84) Z Z ?_
     refine vV (al Z Z Z (aO (dF c84))) Z (vA Z Z (ae ?_))
     cases H4
     exact vF [] Z Z (vS [0,3] Z) fun a w h => h
    refine aa (aq Z) Z Z Z (dT c84) Z Z ?_
    refine aa (an Z Z (kb _ _ _)) Z Z Z (dT c84) Z Z ?_
    refine vV (al Z Z Z (aK (dT c84))) Z (vA Z Z (ae ?_))
    cases H4
    exact vF [] Z Z (vS [0,3] Z) fun a w h => h
   refine aa (aq Z) Z Z Z (dT c81) Z Z ?_
   refine aa (an Z Z (kb _ _ _)) Z Z Z (dT c81) Z Z ?_
   refine vV (al Z Z Z (aK (dT c81))) Z (vA Z Z (ae ?_))
   refine cG H4 (fun c82 H4 => ?_) fun c82 H4 => ?_
   ·refine aj Z (dT c82) (aD ?_)
    cases H4
    exact vF [] Z Z (vS [0,3] Z) fun a w h => h
   refine ak Z (dF c82) (ac (vM Z Z (vV (an Z Z (iY _ _ _)) Z (vM Z Z ?_))))
   refine eW H4 (fun c83 H4 => ?_) fun c83 H4 => ?_
   ·refine af Z Z Z (dF c83) Z Z ?_
    refine af Z Z Z (dF c83) Z Z ?_
    refine vV (al Z Z Z (aO (dF c83))) Z (vA Z Z (ae ?_))
    cases H4
    exact vF [] Z Z (vS [0,3] Z) fun a w h => h
   refine aa (aq Z) Z Z Z (dT c83) Z Z ?_
   refine aa (an Z Z (kb _ _ _)) Z Z Z (dT c83) Z Z ?_
   refine vV (al Z Z Z (aK (dT c83))) Z (vA Z Z (ae ?_))
   cases H4
   exact vF [] Z Z (vS [0,3] Z) fun a w h => h
  refine aa (aq Z) Z Z Z (dT c75) Z Z ?_
  refine aa (an Z Z (kb _ _ _)) Z Z Z (dT c75) Z Z ?_
  refine vV (al Z Z Z (aK (dT c75))) Z (vA Z Z (ae ?_))
  refine cG H4 (fun c76 H4 => ?_) fun c76 H4 => ?_
  ·refine aj Z (dT c76) (aD ?_)
   cases H4
   exact vF [] Z Z (vS [0,3] Z) fun a w h => h
  refine ak Z (dF c76) (ag (ac (vM Z Z (vV (an Z Z (iY _ _ _)) Z (vM Z Z ?_)))))
  refine eW H4 (fun c77 H4 => ?_) fun c77 H4 => ?_
  ·refine af Z Z Z (dF c77) Z Z ?_
   refine af Z Z Z (dF c77) Z Z ?_
   refine vV (al Z Z Z (aO (dF c77))) Z (vA Z Z (ae (ak Z Z (ac (vM Z Z (vV (an Z Z (iY _ _ _)) Z (vM Z Z ?_)))))))
   refine eW H4 (fun c80 H4 => ?_) fun c80 H4 => ?_
   ·refine af Z Z Z (dF c80) Z Z ?_
    refine af Z Z Z (dF c80) Z Z ?_
    refine vV (al Z Z Z (aO (dF c80))) Z (vA Z Z (ae ?_))
    cases H4
    exact vF [] Z Z (vS [0,3] Z) fun a w h => h
   refine aa (aq Z) Z Z Z (dT c80) Z Z ?_
   refine aa (an Z Z (kb _ _ _)) Z Z Z (dT c80) Z Z ?_
   refine vV (al Z Z Z (aK (dT c80))) Z (vA Z Z (ae ?_))
   cases H4
   exact vF [] Z Z (vS [0,3] Z) fun a w h => h
  refine aa (aq Z) Z Z Z (dT c77) Z Z ?_
  refine aa (an Z Z (kb _ _ _)) Z Z Z (dT c77) Z Z ?_
  refine vV (al Z Z Z (aK (dT c77))) Z (vA Z Z (ae ?_))
  refine cG H4 (fun c78 H4 => ?_) fun c78 H4 => ?_
  ·refine aj Z (dT c78) (aD ?_)
   cases H4
   exact vF [] Z Z (vS [0,3] Z) fun a w h => h
  refine ak Z (dF c78) (ac (vM Z Z (vV (an Z Z (iY _ _ _)) Z (vM Z Z ?_))))
  refine eW H4 (fun c79 H4 => ?_) fun c79 H4 => ?_
  ·refine af Z Z Z (dF c79) Z Z ?_
   refine af Z Z Z (dF c79) Z Z ?_
   refine vV (al Z Z Z (aO (dF c79))) Z (vA Z Z (ae ?_))
   cases H4
   exact vF [] Z Z (vS [0,3] Z) fun a w h => h
  refine aa (aq Z) Z Z Z (dT c79) Z Z ?_
  refine aa (an Z Z (kb _ _ _)) Z Z Z (dT c79) Z Z ?_
  refine vV (al Z Z Z (aK (dT c79))) Z (vA Z Z (ae ?_))
  cases H4
  exact vF [] Z Z (vS [0,3] Z) fun a w h => h
 ·refine cG H (fun c85 H => ?_) fun c85 H => ?_
  ·refine aj Z c85 (ag (ac (vA Z Z (ae (ap ?_)))))
   cases H
   refine vP [] Z Z ?_
   exact az Z Z ⟨rfl,rfl⟩
  refine ak Z (bF c85) (aD (ag (ac (vM Z Z (vV (an Z Z (bg _ _ _)) Z (vM Z Z ?_))))))
  refine cG H (fun c86 H => ?_) fun c86 H => ?_
  ·refine af Z Z Z (aY c86) Z Z ?_
   refine af Z Z Z (aY c86) Z Z ?_
   refine vV (al Z Z Z (aK (aY c86))) Z (vA Z Z (ae (ap ?_)))
   cases H
   refine vP [] Z Z ?_
   exact az Z Z ⟨rfl,rfl⟩
  refine aa (aq Z) Z Z Z (bd c86) Z Z ?_
  refine aa (an Z Z (bg _ _ _)) Z Z Z (bd c86) Z Z ?_
  refine vV (al Z Z Z (aO (bd c86))) Z (vA Z Z (ae (ap ?_)))
  cases H
  refine vP [] Z Z ?_
  exact az Z Z ⟨rfl,rfl⟩
theorem strings_IndexByte.spec (a0 : List UInt8) (a1 r : Int) (H : strings_IndexByte a0 a1 = r) : bu Tryd.prog 25 [ay a0,int .u8 a1] [] (fun v M => v = (I r) ∧ M = []) := by
 subst H
 exact pN (fun s c w => Tryd.strings_IndexByte s c w) a0 a1
theorem gi.spec (K : Nat) (a0 : List UInt8) (r : (Bool × (List UInt8))) (H : gi K a0 = some r) : bu Tryd.prog 9 [ay a0] [] (fun v M => v = (tU #[ay r.2,bool r.1]) ∧ M = []) := by
 unfold gi at H
 refine bB Tryd.func9 Z 76 Z (nL Z) fun F w0 => ?_
 show cM (St 76 w0 F [(0,ay a0)] []) _
 refine ag (ac (vA Z Z (vA Z Z (ae (ag (ag (ac (vM Z Z (vV (an Z Z (eD _ _)) Z (ae ?_))))))))))
 refine cG H (fun c252 H => ?_) fun c252 H => ?_
 ·refine aj Z (aY c252) (ag (ac (vA Z Z (vA Z Z (ae (ap ?_))))))
  cases H
  refine vP [] Z Z ?_
  exact bG (vs := [S0,bool true]) Z ⟨rfl,⟨rfl,trivial⟩⟩ _ Z ⟨rfl,rfl⟩
 refine ak Z (bd c252) (aD (ag (ac (vA Z Z (ae ?_)))))
 obtain ⟨x110,H10,H⟩ := oB H
 refine cc (fun a w => ∃ v2,x110 = Sum.inl v2 ∧ ∃ sv113 : Value,St 76 w0 F [(4,sv113)] [own sv113 5 1 v2.length (fl (eI .u8) v2)] a w) ?_ ?_
 ·refine ag (ac (vA Z Z (ae (aP ?_))))
  refine cK (fun k a w => ∃ i4,∃ l6,∃ sv126 : Value,ik K a0 k i4 l6 = some x110 ∧ St 76 w0 F [(0,ay a0),(4,sv126),(5,I i4)] [own sv126 5 1 l6.length (fl (eI .u8) l6)] a w) K ?_ ?_
  ·refine bc 5 1 ?_
   exact vF [0] Z Z (vS [0,4,5] Z) fun a w h => ⟨_,_,_,H10,h⟩
  ·refine fun k => aJ fun i4 => aJ fun l6 => aJ fun sv126 => ca fun H11 => ?_
   cases k with
   | zero => exact absurd H11 (by simp [ik])
   | succ k =>
    rw [ik] at H11
    refine ag (ag (ac (vM Z Z (vM Z Z (vV (fX Z Tryd.underlying9) Z (vV (an Z Z (cl _ _ _)) Z (ae ?_)))))))
    refine eW H11 (fun c458 H11 => ?_) fun c458 H11 => ?_
    ·refine ak Z (dF c458) (bZ ?_)
     cases H11
     exact vF [0] Z Z (vS [4] Z) fun a w h => ⟨_,rfl,_,h⟩
    refine aj Z (dT c458) (aD (ag (aP (ag (ag (ac (vM Z Z (vM Z Z ?_))))))))
    obtain ⟨c483,H11⟩ := eX H11
    refine vV (dH Z Z Tryd.underlying9 c483 c458) Z ?_
    obtain ⟨x142,h140,H11⟩ := bC H11
    refine aL (aX (first := []) (cap := []) (xs := [.tmp 18]) Z Z rj Z (gD.spec ((a0.getD i4.toNat 0).toNat : Int) _ h140)) Z Z Z ?_
    rintro _ _ ⟨rfl,rfl⟩
    refine ae ?_
    refine cG H11 (fun c484 H11 => ?_) fun c484 H11 => ?_
    ·refine aj Z c484 (ag (ac (vM Z Z (vM Z Z (vM Z Z (vV (dH Z Z Tryd.underlying9 c483 c458) Z ?_))))))
     refine aL (bN (sz := 0) (xs := [.tmp 23]) (cs := fl (eI .u8) [((a0.getD i4.toNat 0).toNat : Int)]) Z Z dp iH jy Z Z (dX Z) Z (by decide)) Z Z Z ?_
     rintro sv147 _ rfl
     obtain ⟨c485,H11⟩ := eX H11
     refine aL (iI (sz := 0) (xs := l6) (ys := [((a0.getD i4.toNat 0).toNat : Int)]) 1 0 Z Z dp iH jy Z mh Z Z Z (aQ 5) Z (pF _) c485) Z Z Z ?_
     rintro sv148 _ rfl
     refine gI [own sv147 5 1 [((a0.getD i4.toNat 0).toNat : Int)].length (fl (eI .u8) [((a0.getD i4.toNat 0).toNat : Int)]),own sv148 5 1 (l6 ++ [((a0.getD i4.toNat 0).toNat : Int)]).length (fl (eI .u8) (l6 ++ [((a0.getD i4.toNat 0).toNat : Int)]))] Z ?_
     refine vA Z Z (ae (bZ (ac (vM Z Z (vV (an Z Z (bL _ _ _) ) Z (vA Z Z (ae ?_)))))))
     exact vF [1] Z Z (vS [0,4,5] Z) fun a w h => ⟨k,Nat.lt_succ_self k,_,_,_,H11,h⟩
    refine ak Z (bF c484) (aD (ag (ag (ac (vM Z Z (vM Z Z (vV (dH Z Z Tryd.underlying9 c483 c458) Z (vV (an Z Z (kN _ _ _)) Z (vM Z Z ?_)))))))))
    refine cG H11 (fun c488 H11 => ?_) fun c488 H11 => ?_
    ·refine af Z Z Z (ja c488) Z Z ?_
     refine af Z Z Z (ja c488) Z Z ?_
     refine af Z Z Z (ja c488) Z Z ?_
     refine af Z Z Z (ja c488) Z Z ?_
     refine af Z Z Z (ja c488) Z Z ?_
     refine vV (al Z Z Z (aK (ja c488))) Z (ae (aj Z Z (ag (ac (vA Z Z (vA Z Z (ae (ap ?_))))))))
     cases H11
     have H12 := Option.some.inj (show some _ = some _ from H)
     cases H12
     refine vP [] Z Z ?_
     exact bG (vs := [S0,B0]) Z ⟨rfl,⟨rfl,trivial⟩⟩ _ Z ⟨rfl,rfl⟩
    refine aa (aq Z) Z Z Z (iZ c488) Z Z ?_
    refine aa (an Z Z (bL _ _ _) ) Z Z Z (iZ c488) Z Z ?_
    refine aa (aq Z) Z Z Z (iZ c488) Z Z ?_
    refine aa (fX Z Tryd.underlying9) Z Z Z (iZ c488) Z Z ?_
    refine aa (an Z Z (iY _ _ _)) Z Z Z (iZ c488) Z Z ?_
    refine vV (al Z Z Z (aO (iZ c488))) Z (ae ?_)
    refine cG H11 (fun c489 H11 => ?_) fun c489 H11 => ?_
    ·refine aj Z (dT c489) (ag (ac (vA Z Z (vA Z Z (ae (ap ?_))))))
     cases H11
     have H13 := Option.some.inj (show some _ = some _ from H)
     cases H13
     refine vP [] Z Z ?_
     exact bG (vs := [S0,B0]) Z ⟨rfl,⟨rfl,trivial⟩⟩ _ Z ⟨rfl,rfl⟩
    refine ak Z (dF c489) (aD (ag ?_))
    obtain ⟨c490,H11⟩ := eX H11
    obtain ⟨c491,H11⟩ := eX H11
    obtain ⟨x143,h141,H11⟩ := bC H11
    obtain ⟨c492,H11⟩ := eX H11
    obtain ⟨c493,H11⟩ := eX H11
    obtain ⟨x144,h142,H11⟩ := bC H11
    refine cF 12 Z (fun D a w => kz 76 w0 F [(0,ay a0),(4,sv126),(5,I i4),(10,I i4),(11,ay a0),(12,I (a0.length : Int)),(13,Value.bool (decide (i4 < (a0.length : Int)))),(16,ay a0),(17,I i4),(18,int .u8 ((a0.getD i4.toNat 0).toNat : Int)),(19,bool x142),(26,ay a0),(27,I i4),(28,int .u8 ((a0.getD i4.toNat 0).toNat : Int)),(29,bool (((a0.getD i4.toNat 0).toNat : Int) != 37)),(30,bool (((a0.getD i4.toNat 0).toNat : Int) != 37)),(31,I i4),(32,I (bm (i4 + 2))),(33,ay a0),(34,I (a0.length : Int)),(35,Value.bool (decide ((a0.length : Int) ≤ (bm (i4 + 2))))),(36,Value.bool (decide ((a0.length : Int) ≤ (bm (i4 + 2)))))] [(0,37,ay a0),(1,38,I i4),(2,39,I (bm (i4 + 1))),(3,40,int .u8 ((a0.getD (bm (i4 + 1)).toNat 0).toNat : Int)),(4,41,I x143),(5,42,ay a0),(6,43,I i4),(7,44,I (bm (i4 + 2))),(8,45,int .u8 ((a0.getD (bm (i4 + 2)).toNat 0).toNat : Int)),(9,46,I x144),(10,6,I x143),(11,7,I x144)] D [own sv126 5 1 l6.length (fl (eI .u8) l6)] a w) (by kernel_rfl) (by kernel_rfl) (cH (vS [0,4,5,10,11,12,13,16,17,18,19,26,27,28,29,30,31,32,33,34,35,36] Z) Z) ?_ ?_
    ·refine ⟨?_,?_,?_,?_,?_,?_,?_,?_,?_,?_,?_,?_,trivial⟩
     ·exact fun D hi hc U => dV 0 Z Z Z Z (fun a => ai) (aq Z) Z Z Z Z
     ·exact fun D hi hc U => dV 1 Z Z Z Z (fun a => ai) (aq Z) Z Z Z Z
     ·exact fun D hi hc U => dV 2 Z Z Z Z (fun a => (hD 1 U Z Z Z Z ai)) (an Z Z (bL _ _ _) ) Z Z Z Z
     ·exact fun D hi hc U => dV 3 Z Z Z Z (fun a => (hD 2 U Z Z Z Z (hD 0 U Z Z Z Z ai))) (dH Z Z Tryd.underlying9 c490 c491) Z Z Z Z
     ·exact fun D hi hc U => pj 4 Z Z Z (cb Z) (fun a => (hD 3 U Z Z Z Z ai)) (aX (first := []) (cap := []) (xs := [.const (ay ([48,49,50,51,52,53,54,55,56,57,97,98,99,100,101,102] : List UInt8)),.tmp 40]) Z Z qv Z (strings_IndexByte.spec ([48,49,50,51,52,53,54,55,56,57,97,98,99,100,101,102] : List UInt8) ((a0.getD (bm (i4 + 1)).toNat 0).toNat : Int) _ h141)) Z Z Z Z
     ·exact fun D hi hc U => dV 5 Z Z Z Z (fun a => ai) (aq Z) Z Z Z Z
     ·exact fun D hi hc U => dV 6 Z Z Z Z (fun a => ai) (aq Z) Z Z Z Z
     ·exact fun D hi hc U => dV 7 Z Z Z Z (fun a => (hD 6 U Z Z Z Z ai)) (an Z Z (bL _ _ _) ) Z Z Z Z
     ·exact fun D hi hc U => dV 8 Z Z Z Z (fun a => (hD 7 U Z Z Z Z (hD 5 U Z Z Z Z ai))) (dH Z Z Tryd.underlying9 c492 c493) Z Z Z Z
     ·exact fun D hi hc U => pj 9 Z Z Z (cb Z) (fun a => (hD 8 U Z Z Z Z ai)) (aX (first := []) (cap := []) (xs := [.const (ay ([48,49,50,51,52,53,54,55,56,57,97,98,99,100,101,102] : List UInt8)),.tmp 45]) Z Z qv Z (strings_IndexByte.spec ([48,49,50,51,52,53,54,55,56,57,97,98,99,100,101,102] : List UInt8) ((a0.getD (bm (i4 + 2)).toNat 0).toNat : Int) _ h142)) Z Z Z Z
     ·exact fun D hi hc U => dV 10 Z Z Z Z (fun a => (hD 4 U Z Z Z Z ai)) (jC Z) Z Z Z Z
     ·exact fun D hi hc U => dV 11 Z Z Z Z (fun a => (hD 9 U Z Z Z Z ai)) (jC Z) Z Z Z Z
    ·intro D hall
     refine cT [own sv126 5 1 l6.length (fl (eI .u8) l6)] Z (fun a => (hC 10 Z (hall 10 (by decide)) (hC 11 Z (hall 11 (by decide)) (hC 0 Z (hall 0 (by decide)) (hC 1 Z (hall 1 (by decide)) (hC 2 Z (hall 2 (by decide)) (hC 3 Z (hall 3 (by decide)) (hC 4 Z (hall 4 (by decide)) (hC 5 Z (hall 5 (by decide)) (hC 6 Z (hall 6 (by decide)) (hC 7 Z (hall 7 (by decide)) (hC 8 Z (hall 8 (by decide)) (hC 9 Z (hall 9 (by decide)) ai))))))))))))) ?_
     refine ag (ag (ac (vM Z Z (vV (an Z Z (cl _ _ _)) Z (vM Z Z ?_)))))
     refine cG H11 (fun c497 H11 => ?_) fun c497 H11 => ?_
     ·refine af Z Z Z (dT c497) Z Z ?_
      refine af Z Z Z (dT c497) Z Z ?_
      refine vV (al Z Z Z (aK (dT c497))) Z (vM Z Z ?_)
      refine af Z Z Z Z Z Z ?_
      refine af Z Z Z Z Z Z ?_
      refine af Z Z Z Z Z Z ?_
      refine af Z Z Z Z Z Z ?_
      refine af Z Z Z Z Z Z ?_
      refine af Z Z Z Z Z Z ?_
      refine vV (al Z Z Z Z) Z (ae (aj Z Z (ag (ac (vA Z Z (vA Z Z (ae (ap ?_))))))))
      cases H11
      have H14 := Option.some.inj (show some _ = some _ from H)
      cases H14
      refine vP [] Z Z ?_
      exact bG (vs := [S0,B0]) Z ⟨rfl,⟨rfl,trivial⟩⟩ _ Z ⟨rfl,rfl⟩
     refine aa (aq Z) Z Z Z (dF c497) Z Z ?_
     refine aa (an Z Z (cl _ _ _)) Z Z Z (dF c497) Z Z ?_
     refine vV (al Z Z Z (aO (dF c497))) Z (vM Z Z ?_)
     refine cG H11 (fun c498 H11 => ?_) fun c498 H11 => ?_
     ·refine af Z Z Z (dT c498) Z Z ?_
      refine af Z Z Z (dT c498) Z Z ?_
      refine af Z Z Z (dT c498) Z Z ?_
      refine af Z Z Z (dT c498) Z Z ?_
      refine af Z Z Z (dT c498) Z Z ?_
      refine af Z Z Z (dT c498) Z Z ?_
      refine vV (al Z Z Z (aK (dT c498))) Z (ae (aj Z Z (ag (ac (vA Z Z (vA Z Z (ae (ap ?_))))))))
      cases H11
      have H15 := Option.some.inj (show some _ = some _ from H)
      cases H15
      refine vP [] Z Z ?_
      exact bG (vs := [S0,B0]) Z ⟨rfl,⟨rfl,trivial⟩⟩ _ Z ⟨rfl,rfl⟩
     refine aa (aq Z) Z Z Z (dF c498) Z Z ?_
     refine aa (an Z Z fun w => zt _ _ _ _ w (by decide)) Z Z Z (dF c498) Z Z ?_
     refine aa (aq Z) Z Z Z (dF c498) Z Z ?_
     refine aa (an Z Z (AH _ _ _)) Z Z Z (dF c498) Z Z ?_
     refine aa (jv Z (nT Tryd.underlying3 Tryd.underlying5)) Z Z Z (dF c498) Z Z ?_
     obtain ⟨x146,h144,H11⟩ := bC H11
     refine cv (aX (first := []) (cap := []) (xs := [.tmp 58]) Z Z rj Z (gD.spec (dR (wT .i64 (ot .i64 x143 4) x144)) _ h144)) Z Z Z (dF c498) Z Z ?_
     rintro _ _ ⟨rfl,rfl⟩
     refine vV (al Z Z Z (aO (dF c498))) Z (ae ?_)
     refine cG H11 (fun c499 H11 => ?_) fun c499 H11 => ?_
     ·refine aj Z c499 (ag (ac (vA Z Z (vA Z Z (ae (ap ?_))))))
      cases H11
      have H16 := Option.some.inj (show some _ = some _ from H)
      cases H16
      refine vP [] Z Z ?_
      exact bG (vs := [S0,B0]) Z ⟨rfl,⟨rfl,trivial⟩⟩ _ Z ⟨rfl,rfl⟩
     refine ak Z (bF c499) (aD (ag (ac (vM Z Z (vM Z Z ?_)))))
     refine vV (an Z Z fun w => zt _ _ _ _ w (by decide)) Z ?_
     refine vM Z Z (vV (an Z Z (AH _ _ _)) Z (vV (jv Z (nT Tryd.underlying3 Tryd.underlying5)) Z ?_))
     refine aL (bN (sz := 0) (xs := [.tmp 66]) (cs := fl (eI .u8) [dR (wT .i64 (ot .i64 x143 4) x144)]) Z Z dp iH jy Z Z (dX Z) Z (by decide)) Z Z Z ?_
     rintro sv149 _ rfl
     obtain ⟨c500,H11⟩ := eX H11
     refine aL (iI (sz := 0) (xs := l6) (ys := [dR (wT .i64 (ot .i64 x143 4) x144)]) 1 0 Z Z dp iH jy Z mh Z Z Z (aQ 5) Z (pF _) c500) Z Z Z ?_
     rintro sv150 _ rfl
     refine gI [own sv149 5 1 [dR (wT .i64 (ot .i64 x143 4) x144)].length (fl (eI .u8) [dR (wT .i64 (ot .i64 x143 4) x144)]),own sv150 5 1 (l6 ++ [dR (wT .i64 (ot .i64 x143 4) x144)]).length (fl (eI .u8) (l6 ++ [dR (wT .i64 (ot .i64 x143 4) x144)]))] Z ?_
     refine vA Z Z (ae (ac (vM Z Z (vV (an Z Z (bL _ _ _) ) Z (vA Z Z (ae (ac (vM Z Z (vV (an Z Z (bL _ _ _) ) Z (vA Z Z (ae ?_)))))))))))
     exact vF [1] Z Z (vS [0,4,5] Z) fun a w h => ⟨k,Nat.lt_succ_self k,_,_,_,H11,h⟩
 ·refine aJ fun v2 => ca fun e_ => ?_
  subst e_
  rw [jT] at H
  refine aJ fun sv113 => ?_
  refine ag (ac (vM Z Z (vV (sc 0 Z dp Tryd.underlying5 Tryd.underlying9 Z (aQ 5)) Z (vM Z Z (vV (bV 0 Z dp Z (aQ 5)) Z (vV (an Z Z (eJ _ _ _)) Z (vA Z Z (vA Z Z (ae (ap ?_))))))))))
  cases H
  refine vP [] Z Z ?_
  exact bG (vs := [ay (lT v2),Value.bool (decide (0 < (v2.length : Int)))]) Z ⟨rfl,⟨rfl,trivial⟩⟩ _ Z ⟨rfl,rfl⟩
theorem cA.specM (K p0 : Nat) (sv0 : Value) (A0 : HP) (l0 : List (List UInt8)) (p0_1 : Int) (hA0 : cX A0 sv0 l0.length 1 (fl eS l0)) (r : Option ((List (List UInt8)) × (List UInt8))) (H : cA K l0 p0_1 = some r) : lQ Tryd.prog 68 [pt p0 0] [box p0 72 [sv0,I p0_1],A0] (fun v M => ∃ y_,r = some y_ ∧ ∃ sv3 : Value,cX A0 sv3 y_.1.length 1 (fl eS y_.1) ∧ v = (ay y_.2) ∧ M = [box p0 72 [sv3,I p0_1],A0]) (r = none) ml := by
 unfold cA at H
 refine kK Tryd.func68 Z 14 Z (nL Z) fun F w0 => ?_
 show cM (St 14 w0 F [(0,pt p0 0)] [box p0 72 [sv0,I p0_1],A0]) _
 refine ag (ac (vA Z Z (ae (ag (ac (vM Z Z ?_))))))
 obtain ⟨x11,h7,H⟩ := oB H
 cases x11 with
 | none =>
  rw [ez] at H
  refine bQ (cu (Lr := []) (first := []) (cap := []) (xs := [.tmp 6]) rfl rfl iM rfl (bq.bad p0 sv0 A0 l0 p0_1 hA0 h7) [0,1] (by decide) rfl) (fun c e => by cases e) rfl ?_
  cases H
  exact bX Z
 | some x10 =>
  rw [bM] at H
  refine aL (dI (Lr := []) (first := []) (cap := []) (xs := [.tmp 6]) Z Z iM Z (bq.spec p0 sv0 A0 l0 p0_1 hA0 _ h7) Z) Z Z Z ?_
  rintro _ _ ⟨_,⟨sv5,hr5,rfl,rfl⟩,rfl⟩
  obtain ⟨x12,h8,H⟩ := oB H
  refine aL (aX (first := []) (cap := []) (xs := [.tmp 7]) Z Z sY Z (gi.spec K x10.2 _ h8)) Z Z Z ?_
  rintro _ _ ⟨rfl,rfl⟩
  refine vM Z Z (vV (bU Z Z) Z (vV (bU Z Z) Z (vA Z Z (vA Z Z (ae (ag (ac (vM Z Z ?_))))))))
  refine eW H (fun c4 H => ?_) fun c4 H => ?_
  ·refine bQ (cu (Lr := [box p0 72 [sv5,I p0_1],A0]) (first := []) (cap := []) (xs := [.tmp 11]) rfl rfl cx rfl (words_must.bad _ (bF c4)) [0,1] (by decide) rfl) (fun c e => by cases e) rfl ?_
   cases H
   exact bX Z
  refine aL (aX (first := []) (cap := []) (xs := [.tmp 11]) Z Z cx Z (words_must.spec _ c4)) Z Z Z ?_
  rintro _ _ ⟨rfl,rfl⟩
  refine ae (ag (ac (vM Z Z (vA Z Z (ae (ap ?_))))))
  cases H
  refine jI ?_
  refine vP [0,1] Z Z ?_
  exact az Z Z ⟨_,rfl,_,hr5,rfl,rfl⟩
theorem cA.spec (K : Nat) (p0 : Nat) (sv0 : Value) (A0 : HP) (l0 : List (List UInt8)) (p0_1 : Int) (hA0 : cX A0 sv0 l0.length 1 (fl eS l0)) (r : ((List (List UInt8)) × (List UInt8))) (H : cA K l0 p0_1 = some (some r)) : bu Tryd.prog 68 [(pt p0 0)] [(box p0 72 [sv0, (int .i64 p0_1)]), A0] (fun v M => ∃ sv3 : Value, cX A0 sv3 r.1.length 1 (fl eS r.1) ∧ v = (ay r.2) ∧ M = [(box p0 72 [sv3, (int .i64 p0_1)]), A0]) := (cA.specM K p0 sv0 A0 l0 p0_1 hA0 _ H).ret (fun h => by cases h) fun v M h => by obtain ⟨y_, e, h⟩ := h; cases e; exact h
theorem cA.bad (K : Nat) (p0 : Nat) (sv0 : Value) (A0 : HP) (l0 : List (List UInt8)) (p0_1 : Int) (hA0 : cX A0 sv0 l0.length 1 (fl eS l0)) (H : cA K l0 p0_1 = some none) : lK Tryd.prog 68 [(pt p0 0)] [(box p0 72 [sv0, (int .i64 p0_1)]), A0] ml := (cA.specM K p0 sv0 A0 l0 p0_1 hA0 _ H).bad fun v M h => by obtain ⟨y_, e, h⟩ := h; cases e
theorem strings_CutPrefix.spec (a0 a1 : List UInt8) (r : List UInt8 × Bool) (H : strings_CutPrefix a0 a1 = r) : bu Tryd.prog 22 [ay a0,ay a1] [] (fun v M => v = (tU #[ay r.1,bool r.2]) ∧ M = []) := by
 subst H
 exact py (fun s p w => Tryd.strings_CutPrefix s p w) a0 a1
theorem fZ.spec (K : Nat) (a0 : List UInt8) (r : (Int × Bool)) (H : fZ K a0 = some r) : bu Tryd.prog 7 [ay a0] [] (fun v M => v = (tU #[I r.1,bool r.2]) ∧ M = []) := by
 unfold fZ at H
 refine bB Tryd.func7 Z 73 Z (nL Z) fun F w0 => ?_
 show cM (St 73 w0 F [(0,ay a0)] []) _
 refine ag (ac (vA Z Z (vA Z Z (ae (ag (ac (vM Z Z ?_)))))))
 obtain ⟨x4,h2,H⟩ := bC H
 refine aL (aX (first := []) (cap := []) (xs := [.tmp 10,.const (ay ([45] : List UInt8))]) Z Z oI Z (strings_CutPrefix.spec a0 ([45] : List UInt8) _ h2)) Z Z Z ?_
 rintro _ _ ⟨rfl,rfl⟩
 refine vM Z Z (vV (bU Z Z) Z (vV (bU Z Z) Z (vA Z Z (vA Z Z (ae ?_)))))
 obtain ⟨x5,H13,H⟩ := oB H
 refine cc (fun a w => ∃ v3,x5 = Sum.inl v3 ∧ St 73 w0 F [(2,I 0),(4,ay x4.1),(5,bool x4.2)] [] a w) ?_ ?_
 ·refine ag (ac (vM Z Z (vV (an Z Z (eD _ _)) Z (vM Z Z ?_))))
  refine cG H13 (fun c139 H13 => ?_) fun c139 H13 => ?_
  ·refine af Z Z Z (aY c139) Z Z ?_
   refine af Z Z Z (aY c139) Z Z ?_
   refine af Z Z Z (aY c139) Z Z ?_
   refine af Z Z Z (aY c139) Z Z ?_
   refine aH Z Z Z Z Z ?_
   refine aH Z Z Z Z Z ?_
   refine aH Z Z Z Z Z ?_
   refine af Z Z Z (aY c139) Z Z ?_
   refine vV (al Z Z Z (aK (aY c139))) Z (vM Z Z ?_)
   refine af Z Z Z Z Z Z ?_
   refine af Z Z Z Z Z Z ?_
   refine aH Z Z Z Z Z ?_
   refine aH Z Z Z Z Z ?_
   refine af Z Z Z Z Z Z ?_
   refine vV (al Z Z Z Z) Z (ae (aj Z Z (ag (ac (vA Z Z (vA Z Z (ae (ap ?_))))))))
   cases H13
   have H14 := Option.some.inj (show some _ = some _ from H)
   cases H14
   refine vP [] Z Z ?_
   exact bG (vs := [I 0,B0]) Z ⟨rfl,⟨rfl,trivial⟩⟩ _ Z ⟨rfl,rfl⟩
  refine aa (aq Z) Z Z Z (bd c139) Z Z ?_
  refine aa (fX Z Tryd.underlying9) Z Z Z (bd c139) Z Z ?_
  refine aa (an Z Z (eJ _ _ _)) Z Z Z (bd c139) Z Z ?_
  refine aa (aq Z) Z Z Z (bd c139) Z Z ?_
  refine eW H13 (fun c140 H13 => ?_) fun c140 H13 => ?_
  ·refine af Z Z Z (dF c140) Z Z ?_
   refine af Z Z Z (dF c140) Z Z ?_
   refine af Z Z Z (dF c140) Z Z ?_
   refine aa (al Z Z Z (aO (dF c140))) Z Z Z (bd c139) Z Z ?_
   refine vV (al Z Z Z (aO (bd c139))) Z (vM Z Z ?_)
   refine aa (aq Z) Z Z Z Z Z Z ?_
   refine aa (aq Z) Z Z Z Z Z Z ?_
   refine eW H13 (fun c145 H13 => ?_) fun c145 H13 => ?_
   ·refine af Z Z Z (bF c145) Z Z ?_
    refine af Z Z Z (bF c145) Z Z ?_
    refine aa (al Z Z Z (aO (bF c145))) Z Z Z Z Z Z ?_
    refine vV (al Z Z Z Z) Z (ae (ak Z Z (aD ?_)))
    cases H13
    exact vF [] Z Z (vS [2,4,5] Z) fun a w h => ⟨_,rfl,h⟩
   refine aa (aq Z) Z Z Z c145 Z Z ?_
   refine aa (an Z Z (eD _ _)) Z Z Z c145 Z Z ?_
   refine aa (al Z Z Z (aK c145)) Z Z Z Z Z Z ?_
   refine vV (al Z Z Z Z) Z (ae ?_)
   refine eW H13 (fun c146 H13 => ?_) fun c146 H13 => ?_
   ·refine ak Z (bd c146) (aD ?_)
    cases H13
    exact vF [] Z Z (vS [2,4,5] Z) fun a w h => ⟨_,rfl,h⟩
   refine aj Z (aY c146) (ag (ac (vA Z Z (vA Z Z (ae (ap ?_))))))
   cases H13
   have H17 := Option.some.inj (show some _ = some _ from H)
   cases H17
   refine vP [] Z Z ?_
   exact bG (vs := [I 0,B0]) Z ⟨rfl,⟨rfl,trivial⟩⟩ _ Z ⟨rfl,rfl⟩
  refine aa (aq Z) Z Z Z (dT c140) Z Z ?_
  obtain ⟨c141,H13⟩ := eX H13
  refine aa (dH Z Z Tryd.underlying9 (by decide) c141) Z Z Z (dT c140) Z Z ?_
  refine aa (an Z Z (bg _ _ _)) Z Z Z (dT c140) Z Z ?_
  refine aa (al Z Z Z (aK (dT c140))) Z Z Z (bd c139) Z Z ?_
  refine vV (al Z Z Z (aO (bd c139))) Z (vM Z Z ?_)
  refine cG H13 (fun c142 H13 => ?_) fun c142 H13 => ?_
  ·refine af Z Z Z (aY c142) Z Z ?_
   refine af Z Z Z (aY c142) Z Z ?_
   refine aH Z Z Z Z Z ?_
   refine aH Z Z Z Z Z ?_
   refine af Z Z Z (aY c142) Z Z ?_
   refine vV (al Z Z Z (aK (aY c142))) Z (ae (aj Z Z (ag (ac (vA Z Z (vA Z Z (ae (ap ?_))))))))
   cases H13
   have H15 := Option.some.inj (show some _ = some _ from H)
   cases H15
   refine vP [] Z Z ?_
   exact bG (vs := [I 0,B0]) Z ⟨rfl,⟨rfl,trivial⟩⟩ _ Z ⟨rfl,rfl⟩
  refine aa (aq Z) Z Z Z (bd c142) Z Z ?_
  refine aa (aq Z) Z Z Z (bd c142) Z Z ?_
  refine eW H13 (fun c143 H13 => ?_) fun c143 H13 => ?_
  ·refine af Z Z Z (bF c143) Z Z ?_
   refine af Z Z Z (bF c143) Z Z ?_
   refine aa (al Z Z Z (aO (bF c143))) Z Z Z (bd c142) Z Z ?_
   refine vV (al Z Z Z (aO (bd c142))) Z (ae (ak Z Z (aD ?_)))
   cases H13
   exact vF [] Z Z (vS [2,4,5] Z) fun a w h => ⟨_,rfl,h⟩
  refine aa (aq Z) Z Z Z c143 Z Z ?_
  refine aa (an Z Z (eD _ _)) Z Z Z c143 Z Z ?_
  refine aa (al Z Z Z (aK c143)) Z Z Z (bd c142) Z Z ?_
  refine vV (al Z Z Z (aO (bd c142))) Z (ae ?_)
  refine eW H13 (fun c144 H13 => ?_) fun c144 H13 => ?_
  ·refine ak Z (bd c144) (aD ?_)
   cases H13
   exact vF [] Z Z (vS [2,4,5] Z) fun a w h => ⟨_,rfl,h⟩
  refine aj Z (aY c144) (ag (ac (vA Z Z (vA Z Z (ae (ap ?_))))))
  cases H13
  have H16 := Option.some.inj (show some _ = some _ from H)
  cases H16
  refine vP [] Z Z ?_
  exact bG (vs := [I 0,B0]) Z ⟨rfl,⟨rfl,trivial⟩⟩ _ Z ⟨rfl,rfl⟩
 ·refine aJ fun v3 => ca fun e_ => ?_
  subst e_
  rw [jT] at H
  obtain ⟨x6,H19,H⟩ := oB H
  refine cc (fun a w => ∃ v4,x6 = Sum.inl v4 ∧ St 73 w0 F [(2,I v4),(5,bool x4.2)] [] a w) ?_ ?_
  ·refine ag (ac (vM Z Z ?_))
   obtain ⟨c202,H19⟩ := eX H19
   refine aL (tV Z Tryd.underlying9 dp Tryd.underlying5 c202) Z Z Z ?_
   rintro sv4 _ rfl
   refine vV (bV 0 Z dp Z (jU 5)) Z (vM Z Z (ae (aP ?_)))
   refine cK (fun k a w => ∃ i11,∃ i12,gC K x4 k i11 i12 = some x6 ∧ St 73 w0 F [(2,I i11),(5,bool x4.2),(34,sv4),(35,I ((dj x4.1).length : Int)),(36,I i12)] [(yC sv4 5 (dj x4.1).length (fl (eI .u8) (dj x4.1)))] a w) K ?_ ?_
   ·exact vF [0] Z Z (vS [2,5,34,35,36] Z) fun a w h => ⟨_,_,H19,h⟩
   ·refine fun k => aJ fun i11 => aJ fun i12 => ca fun H20 => ?_
    cases k with
    | zero => exact absurd H20 (by simp [gC])
    | succ k =>
     rw [gC] at H20
     refine ag (ac (vV (an Z Z (cl _ _ _)) Z (ae (ag ?_))))
     refine eW H20 (fun c238 H20 => ?_) fun c238 H20 => ?_
     ·refine ak Z (dF c238) (bZ ?_)
      cases H20
      exact vF [] Z Z (vS [2,5] Z) fun a w h => ⟨_,rfl,h⟩
     refine aj Z (dT c238) (aD (ag (aP (ag (ac ?_)))))
     obtain ⟨c248,H20⟩ := eX H20
     refine vV (bz (sz := 0) 0 Z Z dp iH Z (jU 5) c248 c238) Z ?_
     refine vV (aB (v := (int .u8 ((dj x4.1).getD i12.toNat 0))) Z rK (cP (i := 0) Z (jU 5) (by simp) (dP (pT _) (bJ c248 c238) Z))) Z ?_
     refine vA Z Z (ae (ag (ac (vM Z Z (vV (jv Z (nT Tryd.underlying5 Tryd.underlying2)) Z (vV (an Z Z (lm _ _ _) ) Z (vA Z Z (ae (ag (ag (ac ?_)))))))))))
     refine vM Z Z (vV (an Z Z (cl _ _ _)) Z (vM Z Z ?_))
     refine cG H20 (fun c253 H20 => ?_) fun c253 H20 => ?_
     ·refine af Z Z Z (dT c253) Z Z ?_
      refine af Z Z Z (dT c253) Z Z ?_
      refine vV (al Z Z Z (aK (dT c253))) Z (vM Z Z ?_)
      refine af Z Z Z Z Z Z ?_
      refine af Z Z Z Z Z Z ?_
      refine vV (al Z Z Z Z) Z (vM Z Z ?_)
      refine af Z Z Z Z Z Z ?_
      refine af Z Z Z Z Z Z ?_
      refine af Z Z Z Z Z Z ?_
      refine af Z Z Z Z Z Z ?_
      refine af Z Z Z Z Z Z ?_
      refine vV (al Z Z Z Z) Z (ae (aj Z Z (ag (ac (vA Z Z (vA Z Z (ae (ap ?_))))))))
      cases H20
      have H21 := Option.some.inj (show some _ = some _ from H)
      cases H21
      refine vP [] Z Z ?_
      exact bG (vs := [I 0,B0]) Z ⟨rfl,⟨rfl,trivial⟩⟩ _ Z ⟨rfl,rfl⟩
     refine aa (aq Z) Z Z Z (dF c253) Z Z ?_
     refine aa (an Z Z (eJ _ _ _)) Z Z Z (dF c253) Z Z ?_
     refine vV (al Z Z Z (aO (dF c253))) Z (vM Z Z ?_)
     refine cG H20 (fun c254 H20 => ?_) fun c254 H20 => ?_
     ·refine af Z Z Z (dT c254) Z Z ?_
      refine af Z Z Z (dT c254) Z Z ?_
      refine vV (al Z Z Z (aK (dT c254))) Z (vM Z Z ?_)
      refine af Z Z Z Z Z Z ?_
      refine af Z Z Z Z Z Z ?_
      refine af Z Z Z Z Z Z ?_
      refine af Z Z Z Z Z Z ?_
      refine af Z Z Z Z Z Z ?_
      refine vV (al Z Z Z Z) Z (ae (aj Z Z (ag (ac (vA Z Z (vA Z Z (ae (ap ?_))))))))
      cases H20
      have H22 := Option.some.inj (show some _ = some _ from H)
      cases H22
      refine vP [] Z Z ?_
      exact bG (vs := [I 0,B0]) Z ⟨rfl,⟨rfl,trivial⟩⟩ _ Z ⟨rfl,rfl⟩
     refine aa (aq Z) Z Z Z (dF c254) Z Z ?_
     refine aa (an Z Z (cl _ _ _)) Z Z Z (dF c254) Z Z ?_
     refine vV (al Z Z Z (aO (dF c254))) Z (vM Z Z ?_)
     refine cG H20 (fun c255 H20 => ?_) fun c255 H20 => ?_
     ·refine af Z Z Z (dT c255) Z Z ?_
      refine af Z Z Z (dT c255) Z Z ?_
      refine af Z Z Z (dT c255) Z Z ?_
      refine af Z Z Z (dT c255) Z Z ?_
      refine af Z Z Z (dT c255) Z Z ?_
      refine vV (al Z Z Z (aK (dT c255))) Z (ae (aj Z Z (ag (ac (vA Z Z (vA Z Z (ae (ap ?_))))))))
      cases H20
      have H23 := Option.some.inj (show some _ = some _ from H)
      cases H23
      refine vP [] Z Z ?_
      exact bG (vs := [I 0,B0]) Z ⟨rfl,⟨rfl,trivial⟩⟩ _ Z ⟨rfl,rfl⟩
     refine aa (aq Z) Z Z Z (dF c255) Z Z ?_
     refine aa (an Z Z (mF _ _ _) ) Z Z Z (dF c255) Z Z ?_
     refine aa (aq Z) Z Z Z (dF c255) Z Z ?_
     refine aa (an Z Z (bL _ _ _) ) Z Z Z (dF c255) Z Z ?_
     refine aa (an Z Z (cl _ _ _)) Z Z Z (dF c255) Z Z ?_
     refine vV (al Z Z Z (aO (dF c255))) Z (ae ?_)
     refine cG H20 (fun c256 H20 => ?_) fun c256 H20 => ?_
     ·refine aj Z (dT c256) (ag (ac (vA Z Z (vA Z Z (ae (ap ?_))))))
      cases H20
      have H24 := Option.some.inj (show some _ = some _ from H)
      cases H24
      refine vP [] Z Z ?_
      exact bG (vs := [I 0,B0]) Z ⟨rfl,⟨rfl,trivial⟩⟩ _ Z ⟨rfl,rfl⟩
     refine ak Z (dF c256) (aD (ac (vM Z Z (vV (an Z Z (mF _ _ _) ) Z (vM Z Z (vV (an Z Z (lm _ _ _) ) Z (vA Z Z (ae (ac (vV (an Z Z (bL _ _ _) ) Z (vM Z Z ?_)))))))))))
     refine ae ?_
     exact vF [0] Z Z (vS [2,5,34,35,36] Z) fun a w h => ⟨k,Nat.lt_succ_self k,_,_,H20,h⟩
  ·refine aJ fun v4 => ca fun e_ => ?_
   subst e_
   rw [jT] at H
   refine ag (aP (ag (ac (vM Z Z (vA Z Z (ae ?_))))))
   refine cG H (fun c259 H => ?_) fun c259 H => ?_
   ·refine aj Z c259 (ag (ac (vM Z Z (vA Z Z (vA Z Z (ae (ap ?_)))))))
    cases H
    refine vP [] Z Z ?_
    exact bG (vs := [I v4,bool true]) Z ⟨rfl,⟨rfl,trivial⟩⟩ _ Z ⟨rfl,rfl⟩
   refine ak Z (bF c259) (ag (ac (vM Z Z (vV (an Z Z (bg _ _ _)) Z (vA Z Z (ae ?_))))))
   refine cG H (fun c260 H => ?_) fun c260 H => ?_
   ·refine aj Z (aY c260) (ag (ac (vA Z Z (vA Z Z (ae (ap ?_))))))
    cases H
    refine vP [] Z Z ?_
    exact bG (vs := [I 0,B0]) Z ⟨rfl,⟨rfl,trivial⟩⟩ _ Z ⟨rfl,rfl⟩
   refine ak Z (bd c260) (aD (ag (ac (vM Z Z (vV (gV Z (yf _ _)) Z (vA Z Z (vA Z Z (ae (ap ?_)))))))))
   cases H
   refine vP [] Z Z ?_
   exact bG (vs := [I (bm (0 - v4)),bool true]) Z ⟨rfl,⟨rfl,trivial⟩⟩ _ Z ⟨rfl,rfl⟩
theorem aM.specM (K p0 : Nat) (sv0 : Value) (A0 : HP) (l0 : List (List UInt8)) (p0_1 : Int) (hA0 : cX A0 sv0 l0.length 1 (fl eS l0)) (r : Option ((List (List UInt8)) × Int)) (H : aM K l0 p0_1 = some r) : lQ Tryd.prog 46 [pt p0 0] [box p0 72 [sv0,I p0_1],A0] (fun v M => ∃ y_,r = some y_ ∧ ∃ sv3 : Value,cX A0 sv3 y_.1.length 1 (fl eS y_.1) ∧ v = (I y_.2) ∧ M = [box p0 72 [sv3,I p0_1],A0]) (r = none) ml := by
 unfold aM at H
 refine kK Tryd.func46 Z 14 Z (nL Z) fun F w0 => ?_
 show cM (St 14 w0 F [(0,pt p0 0)] [box p0 72 [sv0,I p0_1],A0]) _
 refine ag (ac (vA Z Z (ae (ag (ac (vM Z Z ?_))))))
 obtain ⟨x11,h7,H⟩ := oB H
 cases x11 with
 | none =>
  rw [ez] at H
  refine bQ (cu (Lr := []) (first := []) (cap := []) (xs := [.tmp 6]) rfl rfl iM rfl (bq.bad p0 sv0 A0 l0 p0_1 hA0 h7) [0,1] (by decide) rfl) (fun c e => by cases e) rfl ?_
  cases H
  exact bX Z
 | some x10 =>
  rw [bM] at H
  refine aL (dI (Lr := []) (first := []) (cap := []) (xs := [.tmp 6]) Z Z iM Z (bq.spec p0 sv0 A0 l0 p0_1 hA0 _ h7) Z) Z Z Z ?_
  rintro _ _ ⟨_,⟨sv5,hr5,rfl,rfl⟩,rfl⟩
  obtain ⟨x12,h8,H⟩ := oB H
  refine aL (aX (first := []) (cap := []) (xs := [.tmp 7]) Z Z xM Z (fZ.spec K x10.2 _ h8)) Z Z Z ?_
  rintro _ _ ⟨rfl,rfl⟩
  refine vM Z Z (vV (bU Z Z) Z (vV (bU Z Z) Z (vA Z Z (vA Z Z (ae (ag (ac (vM Z Z ?_))))))))
  refine eW H (fun c4 H => ?_) fun c4 H => ?_
  ·refine bQ (cu (Lr := [box p0 72 [sv5,I p0_1],A0]) (first := []) (cap := []) (xs := [.tmp 11]) rfl rfl cx rfl (words_must.bad _ (bF c4)) [0,1] (by decide) rfl) (fun c e => by cases e) rfl ?_
   cases H
   exact bX Z
  refine aL (aX (first := []) (cap := []) (xs := [.tmp 11]) Z Z cx Z (words_must.spec _ c4)) Z Z Z ?_
  rintro _ _ ⟨rfl,rfl⟩
  refine ae (ag (ac (vM Z Z (vA Z Z (ae (ap ?_))))))
  cases H
  refine jI ?_
  refine vP [0,1] Z Z ?_
  exact az Z Z ⟨_,rfl,_,hr5,rfl,rfl⟩
theorem aM.spec (K : Nat) (p0 : Nat) (sv0 : Value) (A0 : HP) (l0 : List (List UInt8)) (p0_1 : Int) (hA0 : cX A0 sv0 l0.length 1 (fl eS l0)) (r : ((List (List UInt8)) × Int)) (H : aM K l0 p0_1 = some (some r)) : bu Tryd.prog 46 [(pt p0 0)] [(box p0 72 [sv0, (int .i64 p0_1)]), A0] (fun v M => ∃ sv3 : Value, cX A0 sv3 r.1.length 1 (fl eS r.1) ∧ v = (int .i64 r.2) ∧ M = [(box p0 72 [sv3, (int .i64 p0_1)]), A0]) := (aM.specM K p0 sv0 A0 l0 p0_1 hA0 _ H).ret (fun h => by cases h) fun v M h => by obtain ⟨y_, e, h⟩ := h; cases e; exact h
theorem aM.bad (K : Nat) (p0 : Nat) (sv0 : Value) (A0 : HP) (l0 : List (List UInt8)) (p0_1 : Int) (hA0 : cX A0 sv0 l0.length 1 (fl eS l0)) (H : aM K l0 p0_1 = some none) : lK Tryd.prog 46 [(pt p0 0)] [(box p0 72 [sv0, (int .i64 p0_1)]), A0] ml := (aM.specM K p0 sv0 A0 l0 p0_1 hA0 _ H).bad fun v M h => by obtain ⟨y_, e, h⟩ := h; cases e
theorem aM.specs (K : Nat) (p0 : Nat) (sv0 : Value) (A0 : HP) (l0 : List (List UInt8)) (p0_1 : Int) (hA0 : cX A0 sv0 l0.length 1 (fl eS l0)) (r : ((List (List UInt8)) × Int)) (H : aM K l0 p0_1 = some (some r)) : bu Tryd.prog 46 [(pt p0 0)] [(box p0 72 [sv0, (int .i64 p0_1)]), A0] (fun v M => ∃ sv3 : Value, v = (int .i64 r.2) ∧ M = [(says (cX A0 sv3 r.1.length 1 (fl eS r.1))), (box p0 72 [sv3, (int .i64 p0_1)]), A0]) :=
 bu.hideS (aM.spec K p0 sv0 A0 l0 p0_1 hA0 r H) (by rintro v M ⟨sv3, q0_, rfl, rfl⟩; exact ⟨_, ⟨sv3, rfl, rfl⟩, fun w_ X_ h_ => (fE.saying q0_ h_)⟩)
theorem cB.specM (K p0 : Nat) (sv0 : Value) (A0 : HP) (l0 : List (List UInt8)) (p0_1 : Int) (hA0 : cX A0 sv0 l0.length 1 (fl eS l0)) (r : Option ((List aA) × (List (List UInt8)))) (H : cB K l0 p0_1 = some r) : lQ Tryd.prog 43 [pt p0 0] [box p0 72 [sv0,I p0_1],A0] (fun v M => ∃ y_,r = some y_ ∧ ∃ sv263 : Value,∃ sv264 : Value,cX A0 sv264 y_.2.length 1 (fl eS y_.2) ∧ v = sv263 ∧ M = [box p0 72 [sv264,I p0_1],A0,own sv263 54 6 y_.1.length (fl ar y_.1)]) (r = none) ml := by
 unfold cB at H
 refine kK Tryd.func43 Z 53 Z (nL Z) fun F w0 => ?_
 show cM (St 53 w0 F [(0,pt p0 0)] [box p0 72 [sv0,I p0_1],A0]) _
 refine ag (ac (vA Z Z (ae (rl (ag (ac (vM Z Z (vV (oW (first := [.tmp 8]) (cap := []) Z Z) Z (vA Z Z (ae (ag ?_)))))))))))
 refine qX (ag (aP ?_))
 refine cK (fun k a w => ∃ l39,∃ l40,∃ sv439 : Value,∃ sv440 : Value,cX A0 sv439 l39.length 1 (fl eS l39) ∧ eq K p0_1 k l39 l40 = some r ∧ St 53 w0 F [(0,pt p0 0),(2,sv440),(3,(Value.func (.func 68) #[pt p0 0] #[]))] [box p0 72 [sv439,I p0_1],A0,own sv440 54 6 l40.length (fl ar l40)] a w) K ?_ ?_
 ·refine bc 54 6 ?_
  exact vF [1,2,0] Z Z (vS [0,2,3] Z) fun a w h => ⟨_,_,_,_,hA0,H,h⟩
 ·refine fun k => aJ fun l39 => aJ fun l40 => aJ fun sv439 => aJ fun sv440 => ca fun hr395 => ca fun H59 => ?_
  cases k with
  | zero => exact absurd H59 (by simp [eq])
  | succ k =>
   rw [eq] at H59
   refine aP (ag (ag (ac (vM Z Z (vV (bh Z) Z (vV (am (sz := 0) (o := 0) Z cp dk) Z (vV (aB (v := sv439) Z fa (au (i := 0) Z Z)) Z (vV (bV 1 Z bw Z hr395) Z (vV (an Z Z (bg _ _ _)) Z (ae ?_))))))))))
   refine cG H59 (fun c874 H59 => ?_) fun c874 H59 => ?_
   ·refine aj Z (aY c874) (bZ (ag (ac (vM Z Z (vA Z Z (ae (ap ?_)))))))
    cases H59
    refine jI ?_
    refine vP [0,1,2] Z Z ?_
    exact az Z Z ⟨_,rfl,_,_,hr395,rfl,rfl⟩
   refine ak Z (bd c874) (aD (ag (ac (vM Z Z (vV (bV 2 Z cw Z (aQ 54)) Z (vV (an Z Z (cl _ _ _)) Z ?_))))))
   refine eW H59 (fun c876 H59 => ?_) fun c876 H59 => ?_
   ·refine bQ (cu (Lr := [box p0 72 [sv439,I p0_1],A0,own sv440 54 6 l40.length (fl ar l40)]) (first := []) (cap := []) (xs := [.tmp 18]) rfl rfl cx rfl (words_must.bad _ (dF c876)) [0,1,2] (by decide) rfl) (fun c e => by cases e) rfl ?_
    cases H59
    exact bX Z
   refine aL (aX (first := []) (cap := []) (xs := [.tmp 18]) Z Z cx Z (words_must.spec _ (dT c876))) Z Z Z ?_
   rintro _ _ ⟨rfl,rfl⟩
   refine ae (ag (ac (vM Z Z ?_)))
   obtain ⟨x830,h421,H59⟩ := oB H59
   cases x830 with
   | none =>
    rw [ez] at H59
    refine bQ (cu (Lr := [own sv440 54 6 l40.length (fl ar l40)]) (first := []) (cap := []) (xs := [.tmp 21]) rfl rfl iM rfl (bq.bad p0 sv439 A0 l39 p0_1 hr395 h421) [0,1,2] (by decide) rfl) (fun c e => by cases e) rfl ?_
    cases H59
    exact bX Z
   | some x829 =>
    rw [bM] at H59
    refine aL (dI (Lr := [own sv440 54 6 l40.length (fl ar l40)]) (first := []) (cap := []) (xs := [.tmp 21]) Z Z iM Z (bq.spec p0 sv439 A0 l39 p0_1 hr395 _ h421) Z) Z Z Z ?_
    rintro _ _ ⟨_,⟨sv485,hr436,rfl,rfl⟩,rfl⟩
    obtain ⟨x831,h422,H59⟩ := oB H59
    refine aL (aX (first := []) (cap := []) (xs := [.tmp 22]) Z Z wy Z (jL.spec K x829.2 _ h422)) Z Z Z ?_
    rintro _ _ ⟨rfl,rfl⟩
    refine vM Z Z (vV (bU Z Z) Z (vV (bU Z Z) Z (vA Z Z (vA Z Z (ae (ag (ac (vM Z Z ?_))))))))
    refine eW H59 (fun c878 H59 => ?_) fun c878 H59 => ?_
    ·refine bQ (cu (Lr := [box p0 72 [sv485,I p0_1],A0,own sv440 54 6 l40.length (fl ar l40)]) (first := []) (cap := []) (xs := [.tmp 26]) rfl rfl cx rfl (words_must.bad _ (bF c878)) [0,1,2] (by decide) rfl) (fun c e => by cases e) rfl ?_
     cases H59
     exact bX Z
    refine aL (aX (first := []) (cap := []) (xs := [.tmp 26]) Z Z cx Z (words_must.spec _ c878)) Z Z Z ?_
    rintro _ _ ⟨rfl,rfl⟩
    refine ae (ag (ac (vM Z Z (vV (bW (is := [0]) (xs := [.tmp 28]) (vs := [I x831.1]) Z Z (bl (cs := [I x831.1,S0,S0,S0,S0]) qu oY Z)) Z ?_))))
    refine vV (bW (is := [0]) (xs := [.tmp 29]) (vs := [agg #[I x831.1,S0,S0,S0,S0]]) Z Z (bl (cs := [I x831.1,S0,S0,S0,S0,I 0]) jZ oU (by simp [Instr.fill,iq,gL,iA,gK,gq,iw,fo,ir,]))) Z ?_
    refine aL (cS jZ) Z Z Z ?_
    rintro _ _ ⟨b35,rfl,rfl⟩
    refine bp (aZ (cs := [I 0,S0,S0,S0,S0,I 0]) (cs' := [I x831.1,S0,S0,S0,S0,I 0]) (us := [I x831.1,S0,S0,S0,S0,I 0]) (L' := [box b35 54 [I x831.1,S0,S0,S0,S0,I 0],box p0 72 [sv485,I p0_1],A0,own sv440 54 6 l40.length (fl ar l40)]) 0 Z Z Z (bH Z) dE Z Z (by simp) Z) Z Z ?_
    rintro _ _ rfl
    refine ae ?_
    obtain ⟨x864,H61,H59⟩ := oB H59
    refine cc (fun a w => ∃ v12,x864 = Sum.inl v12 ∧ ∃ b36 : Nat,∃ sv503 : Value,cX A0 sv503 v12.1.length 1 (fl eS v12.1) ∧ St 53 w0 F [(0,pt p0 0),(2,sv440),(3,(Value.func (.func 68) #[pt p0 0] #[])),(6,pt b36 0)] [box p0 72 [sv503,I p0_1],A0,own sv440 54 6 l40.length (fl ar l40),box b36 54 [I x831.1,ay v12.2.1,ay v12.2.2.1,ay v12.2.2.2.1,ay v12.2.2.2.2,I 0]] a w) ?_ ?_
    ·refine ag (ac (vM Z Z (vV (bh Z) Z (vV (am (sz := 0) (o := 0) Z fA bE) Z (vV (aB (v := (I p0_1)) Z ci (au (i := 1) Z Z)) Z (vM Z Z (ae (aP ?_))))))))
     refine cK (fun k a w => ∃ i26,∃ l46,∃ t141,∃ t142,∃ t143,∃ t144,∃ sv508 : Value,cX A0 sv508 l46.length 1 (fl eS l46) ∧ da K p0_1 k i26 l46 t141 t142 t143 t144 = some x864 ∧ St 53 w0 F [(0,pt p0 0),(2,sv440),(3,(Value.func (.func 68) #[pt p0 0] #[])),(6,pt b35 0),(34,I p0_1),(35,I i26)] [box p0 72 [sv508,I p0_1],A0,own sv440 54 6 l40.length (fl ar l40),box b35 54 [I x831.1,ay t141,ay t142,ay t143,ay t144,I 0]] a w) K ?_ ?_
     ·exact vF [1,2,3,0] Z Z (vS [0,2,3,6,34,35] Z) fun a w h => ⟨_,_,_,_,_,_,_,hr436,H61,h⟩
     ·refine fun k => aJ fun i26 => aJ fun l46 => aJ fun t141 => aJ fun t142 => aJ fun t143 => aJ fun t144 => aJ fun sv508 => ca fun hr459 => ca fun H62 => ?_
      let C0_ : List Value := [I x831.1,ay t141,ay t142,ay t143,ay t144,I 0]
      let C2_ : List HP := [own sv440 54 6 l40.length (fl ar l40),box b35 54 C0_]
      cases k with
      | zero => exact absurd H62 (by simp [C0_,C2_,da])
      | succ k =>
       rw [da] at H62
       refine ag (ac (vV (an Z Z (cl _ _ _)) Z (ae (ag ?_))))
       refine eW H62 (fun c942 H62 => ?_) fun c942 H62 => ?_
       ·refine ak Z (dF c942) (bZ ?_)
        cases H62
        exact vF [0,1,2,3] Z Z (vS [0,2,3,6] Z) fun a w h => ⟨_,rfl,_,_,hr459,h⟩
       refine aj Z (dT c942) (aD (ag (aP (ag (ac (vM Z Z (vA Z Z (ae (ac (vM Z Z (vM Z Z ?_)))))))))))
       obtain ⟨x896,h454,H62⟩ := oB H62
       cases x896 with
       | none =>
        rw [ez] at H62
        refine bQ (cu (Lr := C2_) (first := [pt p0 0]) (cap := []) (xs := []) rfl rfl rd rfl (cA.bad K p0 sv508 A0 l46 p0_1 hr459 h454) [0,1,2,3] (by decide) rfl) (fun c e => by cases e) rfl ?_
        cases H62
        have H64 := Option.some.inj (show some _ = some _ from H59)
        cases H64
        exact bX Z
       | some x895 =>
        rw [bM] at H62
        refine aL (dI (Lr := C2_) (first := [pt p0 0]) (cap := []) (xs := []) Z Z rd Z (cA.spec K p0 sv508 A0 l46 p0_1 hr459 _ h454) Z) Z Z Z ?_
        rintro _ _ ⟨_,⟨sv520,hr471,rfl,rfl⟩,rfl⟩
        refine vV (am (sz := 4) (o := 0) Z fP gO) Z (vV (am (sz := 3) (o := 0) Z jx eh) Z ?_)
        obtain ⟨c949,H62⟩ := eX H62
        obtain ⟨c950,H62⟩ := eX H62
        refine vV (br (o := 1) Z Z eK cg c949 c950) Z ?_
        refine bp (jO (cs := C0_) (cs' := [I x831.1,ay (if i26.toNat = 0 then x895.2 else t141),ay (if i26.toNat = 1 then x895.2 else t142),ay (if i26.toNat = 2 then x895.2 else t143),ay (if i26.toNat = 3 then x895.2 else t144),I 0]) (us := [ay x895.2]) (L' := [box p0 72 [sv520,I p0_1],A0,own sv440 54 6 l40.length (fl ar l40),box b35 54 [I x831.1,ay (if i26.toNat = 0 then x895.2 else t141),ay (if i26.toNat = 1 then x895.2 else t142),ay (if i26.toNat = 2 then x895.2 else t143),ay (if i26.toNat = 3 then x895.2 else t144),I 0]]) 3 Z Z Z (kJ Z) cg Z (iD (fun i_ => List.take (1 + i_ * 1) C0_ ++ [ay x895.2] ++ List.drop (1 + i_ * 1 + List.length [ay x895.2]) C0_ = [I x831.1,ay (if i_ = 0 then x895.2 else t141),ay (if i_ = 1 then x895.2 else t142),ay (if i_ = 2 then x895.2 else t143),ay (if i_ = 3 then x895.2 else t144),I 0]) (bJ c949 c950) Z Z Z Z) (iD (fun i_ => 1 + i_ * 1 + List.length [ay x895.2] ≤ List.length C0_) (bJ c949 c950) (nL Z) (nL Z) (nL Z) (nL Z)) Z) Z Z ?_
        rintro _ _ rfl
        refine ae (ac (vV (an Z Z (bL _ _ _) ) Z (vM Z Z (ae ?_))))
        exact vF [0,1,2,3] Z Z (vS [0,2,3,6,34,35] Z) fun a w h => ⟨k,Nat.lt_succ_self k,_,_,_,_,_,_,_,hr471,H62,h⟩
    ·refine aJ fun v12 => ca fun e_ => ?_
     let C1_ : List Value := [I x831.1,ay v12.2.1,ay v12.2.2.1,ay v12.2.2.2.1,ay v12.2.2.2.2,I 0]
     subst e_
     rw [jT] at H59
     refine aJ fun b36 => aJ fun sv503 => ca fun hr454 => ?_
     let C3_ : List HP := [own sv440 54 6 l40.length (fl ar l40),box b36 54 C1_]
     refine ag (ac (vM Z Z ?_))
     obtain ⟨x900,h456,H59⟩ := oB H59
     cases x900 with
     | none =>
      rw [ez] at H59
      refine bQ (cu (Lr := C3_) (first := []) (cap := []) (xs := [.tmp 45]) rfl rfl en rfl (aM.bad K p0 sv503 A0 v12.1 p0_1 hr454 h456) [0,1,2,3] (by decide) rfl) (fun c e => by cases e) rfl ?_
      cases H59
      exact bX Z
     | some x899 =>
      rw [bM] at H59
      refine aL (dI (Lr := C3_) (first := []) (cap := []) (xs := [.tmp 45]) Z Z en Z (aM.spec K p0 sv503 A0 v12.1 p0_1 hr454 _ h456) Z) Z Z Z ?_
      rintro _ _ ⟨_,⟨sv522,hr473,rfl,rfl⟩,rfl⟩
      refine vV (am (sz := 0) (o := 0) Z jw aT) Z ?_
      refine bp (aZ (cs := C1_) (cs' := [I x831.1,ay v12.2.1,ay v12.2.2.1,ay v12.2.2.2.1,ay v12.2.2.2.2,I x899.2]) (us := [I x899.2]) (L' := [box p0 72 [sv522,I p0_1],A0,own sv440 54 6 l40.length (fl ar l40),box b36 54 [I x831.1,ay v12.2.1,ay v12.2.2.1,ay v12.2.2.2.1,ay v12.2.2.2.2,I x899.2]]) 3 Z Z Z (bH Z) aT Z Z (by simp [C1_,C3_]) Z) Z Z ?_
      rintro _ _ rfl
      refine ae (ac (vM Z Z (vV (aN (vs := [I x831.1,ay v12.2.1,ay v12.2.2.1,ay v12.2.2.2.1,ay v12.2.2.2.2,I x899.2]) Z kG dE (aR (i := 3) Z)) Z ?_)))
      refine aL (bN (sz := 5) (xs := [.tmp 49]) (cs := fl ar [(⟨(⟨x831.1,v12.2.1,v12.2.2.1,v12.2.2.2.1,v12.2.2.2.2⟩ : iK),x899.2⟩ : aA)]) Z Z cw dE jZ Z Z (dX Z) Z (by decide)) Z Z Z ?_
      rintro sv525 _ rfl
      obtain ⟨c952,H59⟩ := eX H59
      refine aL (iI (sz := 5) (xs := l40) (ys := [(⟨(⟨x831.1,v12.2.1,v12.2.2.1,v12.2.2.2.1,v12.2.2.2.2⟩ : iK),x899.2⟩ : aA)]) 3 0 Z Z cw dE jZ Z pw Z Z Z (aQ 54) Z me c952) Z Z Z ?_
      rintro sv526 _ rfl
      refine gI [own sv525 54 6 [(⟨(⟨x831.1,v12.2.1,v12.2.2.1,v12.2.2.2.1,v12.2.2.2.2⟩ : iK),x899.2⟩ : aA)].length (fl ar [(⟨(⟨x831.1,v12.2.1,v12.2.2.1,v12.2.2.2.1,v12.2.2.2.2⟩ : iK),x899.2⟩ : aA)]),box p0 72 [sv522,I p0_1],A0,own sv526 54 6 (l40 ++ [(⟨(⟨x831.1,v12.2.1,v12.2.2.1,v12.2.2.2.1,v12.2.2.2.2⟩ : iK),x899.2⟩ : aA)]).length (fl ar (l40 ++ [(⟨(⟨x831.1,v12.2.1,v12.2.2.1,v12.2.2.2.1,v12.2.2.2.2⟩ : iK),x899.2⟩ : aA)])),box b36 54 [I x831.1,ay v12.2.1,ay v12.2.2.1,ay v12.2.2.2.1,ay v12.2.2.2.2,I x899.2]] Z ?_
      refine vA Z Z (ae ?_)
      exact vF [1,2,3] Z Z (vS [0,2,3] Z) fun a w h => ⟨k,Nat.lt_succ_self k,_,_,_,_,hr473,H59,h⟩
theorem cB.spec (K : Nat) (p0 : Nat) (sv0 : Value) (A0 : HP) (l0 : List (List UInt8)) (p0_1 : Int) (hA0 : cX A0 sv0 l0.length 1 (fl eS l0)) (r : ((List aA) × (List (List UInt8)))) (H : cB K l0 p0_1 = some (some r)) : bu Tryd.prog 43 [(pt p0 0)] [(box p0 72 [sv0, (int .i64 p0_1)]), A0] (fun v M => ∃ sv263 : Value, ∃ sv264 : Value, cX A0 sv264 r.2.length 1 (fl eS r.2) ∧ v = sv263 ∧ M = [(box p0 72 [sv264, (int .i64 p0_1)]), A0, (own sv263 54 6 r.1.length (fl ar r.1))]) := (cB.specM K p0 sv0 A0 l0 p0_1 hA0 _ H).ret (fun h => by cases h) fun v M h => by obtain ⟨y_, e, h⟩ := h; cases e; exact h
theorem cB.bad (K : Nat) (p0 : Nat) (sv0 : Value) (A0 : HP) (l0 : List (List UInt8)) (p0_1 : Int) (hA0 : cX A0 sv0 l0.length 1 (fl eS l0)) (H : cB K l0 p0_1 = some none) : lK Tryd.prog 43 [(pt p0 0)] [(box p0 72 [sv0, (int .i64 p0_1)]), A0] ml := (cB.specM K p0 sv0 A0 l0 p0_1 hA0 _ H).bad fun v M h => by obtain ⟨y_, e, h⟩ := h; cases e
theorem je.spec (sv0 : Value) (l0 : List aA) (r : (Int × Int × Int × Int × Bool × Bool × Bool × Bool × Bool × Bool × Bool × Bool × (List UInt8) × (List UInt8) × (List UInt8) × (List UInt8) × Int × Int × Int × Int × Int × Int × Int × Int × Int)) (H : je l0 = r) : bu Tryd.prog 70 [agg #[I 1,I 0,sv0,I 0,I 0,B0,B0,B0,B0,B0,B0,B0,B0,S0,S0,S0,S0,I 0,I 0,I 0,I 0,I 0,I 0,I 0,I 0,I 0,L0]] [own sv0 54 6 l0.length (fl ar l0)] (fun v M => v = (agg #[I r.1,I r.2.1,L0,I r.2.2.1,I r.2.2.2.1,bool r.2.2.2.2.1,bool r.2.2.2.2.2.1,bool r.2.2.2.2.2.2.1,bool r.2.2.2.2.2.2.2.1,bool r.2.2.2.2.2.2.2.2.1,bool r.2.2.2.2.2.2.2.2.2.1,bool r.2.2.2.2.2.2.2.2.2.2.1,bool r.2.2.2.2.2.2.2.2.2.2.2.1,ay r.2.2.2.2.2.2.2.2.2.2.2.2.1,ay r.2.2.2.2.2.2.2.2.2.2.2.2.2.1,ay r.2.2.2.2.2.2.2.2.2.2.2.2.2.2.1,ay r.2.2.2.2.2.2.2.2.2.2.2.2.2.2.2.1,I r.2.2.2.2.2.2.2.2.2.2.2.2.2.2.2.2.1,I r.2.2.2.2.2.2.2.2.2.2.2.2.2.2.2.2.2.1,I r.2.2.2.2.2.2.2.2.2.2.2.2.2.2.2.2.2.2.1,I r.2.2.2.2.2.2.2.2.2.2.2.2.2.2.2.2.2.2.2.1,I r.2.2.2.2.2.2.2.2.2.2.2.2.2.2.2.2.2.2.2.2.1,I r.2.2.2.2.2.2.2.2.2.2.2.2.2.2.2.2.2.2.2.2.2.1,I r.2.2.2.2.2.2.2.2.2.2.2.2.2.2.2.2.2.2.2.2.2.2.1,I r.2.2.2.2.2.2.2.2.2.2.2.2.2.2.2.2.2.2.2.2.2.2.2.1,I r.2.2.2.2.2.2.2.2.2.2.2.2.2.2.2.2.2.2.2.2.2.2.2.2,L0]) ∧ M = [own sv0 54 6 l0.length (fl ar l0)]) := by
 unfold je at H
 refine bB Tryd.func70 Z 26 Z (nL Z) fun F w0 => ?_
 let C2_ : List Value := [I 0,I 0,L0,I 0,I 0,B0,B0,B0,B0,B0,B0,B0,B0,S0,S0,S0,S0,I 0,I 0,I 0,I 0,I 0,I 0,I 0,I 0,I 0,L0]
 let C1_ : List Value := [I 1,I 0,sv0,I 0,I 0,B0,B0,B0,B0,B0,B0,B0,B0,S0,S0,S0,S0,I 0,I 0,I 0,I 0,I 0,I 0,I 0,I 0,I 0,L0]
 let C0_ : List Value := [I 1,I 0,L0,I 0,I 0,B0,B0,B0,B0,B0,B0,B0,B0,S0,S0,S0,S0,I 0,I 0,I 0,I 0,I 0,I 0,I 0,I 0,I 0,L0]
 show cM (St 26 w0 F [(0,agg #[I 1,I 0,sv0,I 0,I 0,B0,B0,B0,B0,B0,B0,B0,B0,S0,S0,S0,S0,I 0,I 0,I 0,I 0,I 0,I 0,I 0,I 0,I 0,L0])] [own sv0 54 6 l0.length (fl ar l0)]) _
 refine ag (ac ?_)
 refine aL (gx (cs := C1_) Z Z) Z Z Z ?_
 rintro _ _ ⟨b3,rfl,rfl⟩
 refine aL (cS bv) Z Z Z ?_
 rintro _ _ ⟨b4,rfl,rfl⟩
 refine ae (ag (ag (ac (vV (am (sz := 0) (o := 0) Z bA bE) Z (vV (aB (v := (I 1)) Z ci (au (i := 1) Z Z)) Z (ae (aP (ag (ac (vV (an Z Z (bg _ _ _)) Z (vA Z Z ?_)))))))))))
 refine ae (aj Z Z (ac (vV (am (sz := 0) (o := 0) Z dY fC) Z ?_)))
 refine bp (aZ (cs := C1_) (cs' := C0_) (us := [L0]) (L' := [box b4 41 C2_,box b3 41 C0_,own sv0 54 6 l0.length (fl ar l0)]) 1 Z Z Z (bH Z) fC Z Z (by simp [C2_,C1_,C0_]) Z) Z Z ?_
 rintro _ _ rfl
 refine ae (ag (ac (vV (aN (vs := C0_) Z bf aE (aR (i := 1) Z)) Z ?_)))
 refine bp (aZ (cs := C2_) (cs' := C0_) (us := C0_) (L' := [box b4 41 C0_,box b3 41 C0_,own sv0 54 6 l0.length (fl ar l0)]) 0 Z Z Z (bH Z) aE Z Z (by simp [C2_,C1_,C0_]) Z) Z Z ?_
 rintro _ _ rfl
 refine ae (ap ?_)
 subst H
 exact cY [2] (by decide) Z (vs := [agg #[I 1,I 0,L0,I 0,I 0,B0,B0,B0,B0,B0,B0,B0,B0,S0,S0,S0,S0,I 0,I 0,I 0,I 0,I 0,I 0,I 0,I 0,I 0,L0]]) Z ⟨⟨_,C0_,rfl,aR (i := 0) Z,.inl ⟨bf,aE,rfl⟩⟩,trivial⟩ _ Z ⟨rfl,rfl⟩
theorem du.spec (K : Nat) (sv0 : Value) (A0 : HP) (sv1 : Value) (A1 : HP) (l0 : List aA) (l1 : List aA) (hA0 : cX A0 sv0 l0.length 6 (fl ar l0)) (hA1 : cX A1 sv1 l1.length 6 (fl ar l1)) (r : Bool) (H : du K l0 l1 = some r) : bu Tryd.prog 88 [sv0,sv1] [A0,A1] (fun v M => v = (bool r) ∧ M = [A0,A1]) := by
 unfold du at H
 refine bB Tryd.func88 Z 26 Z (nL Z) fun F w0 => ?_
 show cM (St 26 w0 F [(0,sv0),(1,sv1)] [A0,A1]) _
 refine ag (ac (vA Z Z (ae (ag (ag (ac (vM Z Z (vV (bV 0 Z cw Z hA0) Z (vM Z Z (vV (bV 1 Z cw Z hA1) Z (vV (an Z Z (kN _ _ _)) Z ?_)))))))))))
 refine ae ?_
 refine cG H (fun c48 H => ?_) fun c48 H => ?_
 ·refine aj Z (ja c48) (ag (ac (vA Z Z (ae (ap ?_)))))
  cases H
  refine vP [0,1] Z Z ?_
  exact az Z Z ⟨rfl,rfl⟩
 refine ak Z (iZ c48) (aD (ag (ag (ac (vM Z Z (vV (bV 0 Z cw Z hA0) Z (vM Z Z (ae (aP ?_)))))))))
 refine cK (fun k a w => ∃ i4,db K l0 l1 k i4 = some r ∧ St 26 w0 F [(0,sv0),(1,sv1),(12,I (l0.length : Int)),(13,I i4)] [A0,A1] a w) K ?_ ?_
 ·exact vF [0,1] Z Z (vS [0,1,12,13] Z) fun a w h => ⟨_,H,h⟩
 ·refine fun k => aJ fun i4 => ca fun H4 => ?_
  let C1_ : Value := agg #[I (((l1.getD i4.toNat ax).Key).Hour),ay (((l1.getD i4.toNat ax).Key).Dims_0),ay (((l1.getD i4.toNat ax).Key).Dims_1),ay (((l1.getD i4.toNat ax).Key).Dims_2),ay (((l1.getD i4.toNat ax).Key).Dims_3),I ((l1.getD i4.toNat ax).Value)]
  let C0_ : Value := agg #[I (((l0.getD i4.toNat ax).Key).Hour),ay (((l0.getD i4.toNat ax).Key).Dims_0),ay (((l0.getD i4.toNat ax).Key).Dims_1),ay (((l0.getD i4.toNat ax).Key).Dims_2),ay (((l0.getD i4.toNat ax).Key).Dims_3),I ((l0.getD i4.toNat ax).Value)]
  cases k with
  | zero => exact absurd H4 (by simp [C1_,C0_,db])
  | succ k =>
   rw [db] at H4
   refine ag (ac (vV (an Z Z (cl _ _ _)) Z (ae (ag ?_))))
   refine eW H4 (fun c86 H4 => ?_) fun c86 H4 => ?_
   ·refine ak Z (dF c86) (bZ (ag (ac (vA Z Z (ae (ap ?_))))))
    cases H4
    refine vP [0,1] Z Z ?_
    exact az Z Z ⟨rfl,rfl⟩
   refine aj Z (dT c86) (aD (ag (aP (ag (ac (vM Z Z (vA Z Z (ae (ag ?_)))))))))
   obtain ⟨c90,H4⟩ := eX H4
   obtain ⟨c91,H4⟩ := eX H4
   refine cF 9 Z (fun D a w => kz 26 w0 F [(0,sv0),(1,sv1),(5,I i4),(12,I (l0.length : Int)),(13,I i4),(14,Value.bool (decide (i4 < (l0.length : Int)))),(15,I i4)] [(0,16,sv0),(1,17,I i4),(2,18,(kf sv0 (i4.toNat * 6))),(3,19,C0_),(4,20,sv1),(5,21,I i4),(6,22,(kf sv1 (i4.toNat * 6))),(7,23,C1_),(8,24,bool (!((((((l0.getD i4.toNat ax).Key).Hour) == (((l1.getD i4.toNat ax).Key).Hour)) && ((((((l0.getD i4.toNat ax).Key).Dims_0) == (((l1.getD i4.toNat ax).Key).Dims_0)) && (((((l0.getD i4.toNat ax).Key).Dims_1) == (((l1.getD i4.toNat ax).Key).Dims_1)) && (((((l0.getD i4.toNat ax).Key).Dims_2) == (((l1.getD i4.toNat ax).Key).Dims_2)) && (((((l0.getD i4.toNat ax).Key).Dims_3) == (((l1.getD i4.toNat ax).Key).Dims_3)) && true)))) && true)) && ((((l0.getD i4.toNat ax).Value) == ((l1.getD i4.toNat ax).Value)) && true))))] D [A0,A1] a w) (by kernel_rfl) (by kernel_rfl) (cH (vS [0,1,5,12,13,14,15] Z) Z) ?_ ?_
   ·refine ⟨?_,?_,?_,?_,?_,?_,?_,?_,?_,trivial⟩
    ·exact fun D hi hc U => dV 0 Z Z Z Z (fun a => ai) (aq Z) Z Z Z Z
    ·exact fun D hi hc U => dV 1 Z Z Z Z (fun a => ai) (aq Z) Z Z Z Z
    ·exact fun D hi hc U => dV 2 Z Z Z Z (fun a => (hD 1 U Z Z Z Z (hD 0 U Z Z Z Z ai))) (bz (sz := 5) 0 Z Z cw dE Z hA0 c90 c86) Z Z Z Z
    ·exact fun D hi hc U => dV 3 Z Z Z Z (fun a => (hD 2 U Z Z Z Z ai)) (aN (vs := [I (((l0.getD i4.toNat ax).Key).Hour),ay (((l0.getD i4.toNat ax).Key).Dims_0),ay (((l0.getD i4.toNat ax).Key).Dims_1),ay (((l0.getD i4.toNat ax).Key).Dims_2),ay (((l0.getD i4.toNat ax).Key).Dims_3),I ((l0.getD i4.toNat ax).Value)]) Z kG dE (cP (i := 0) Z hA0 (by simp [C1_,C0_]) (dP bP (bJ c90 c86) Z))) Z Z Z Z
    ·exact fun D hi hc U => dV 4 Z Z Z Z (fun a => ai) (aq Z) Z Z Z Z
    ·exact fun D hi hc U => dV 5 Z Z Z Z (fun a => ai) (aq Z) Z Z Z Z
    ·exact fun D hi hc U => dV 6 Z Z Z Z (fun a => (hD 5 U Z Z Z Z (hD 4 U Z Z Z Z ai))) (bz (sz := 5) 1 Z Z cw dE Z hA1 c90 c91) Z Z Z Z
    ·exact fun D hi hc U => dV 7 Z Z Z Z (fun a => (hD 6 U Z Z Z Z ai)) (aN (vs := [I (((l1.getD i4.toNat ax).Key).Hour),ay (((l1.getD i4.toNat ax).Key).Dims_0),ay (((l1.getD i4.toNat ax).Key).Dims_1),ay (((l1.getD i4.toNat ax).Key).Dims_2),ay (((l1.getD i4.toNat ax).Key).Dims_3),I ((l1.getD i4.toNat ax).Value)]) Z kG dE (cP (i := 1) Z hA1 (by simp [C1_,C0_]) (dP bP (bJ c90 c91) Z))) Z Z Z Z
    ·exact fun D hi hc U => dV 8 Z Z Z Z (fun a => (hD 7 U Z Z Z Z (hD 3 U Z Z Z Z ai))) (an Z Z (qB _ _ _ _ _ _ _ _ _ _ _ _)) Z Z Z Z
   ·intro D hall
    refine cT [A0,A1] Z (hL hall Z) ?_
    refine cG H4 (fun c92 H4 => ?_) fun c92 H4 => ?_
    ·refine aj Z c92 (ag (ac (vA Z Z (ae (ap ?_)))))
     cases H4
     refine vP [0,1] Z Z ?_
     exact az Z Z ⟨rfl,rfl⟩
    refine ak Z (bF c92) (aD (ac (vV (an Z Z (bL _ _ _) ) Z (vM Z Z (ae ?_)))))
    exact vF [0,1] Z Z (vS [0,1,12,13] Z) fun a w h => ⟨k,Nat.lt_succ_self k,_,H4,h⟩
theorem eV.spec (K : Nat) (sv0 : Value) (A0 : HP) (sv1 : Value) (A1 : HP) (l0 : List Bool) (l1 : List Bool) (hA0 : cX A0 sv0 l0.length 1 (fl eB l0)) (hA1 : cX A1 sv1 l1.length 1 (fl eB l1)) (r : Bool) (H : eV K l0 l1 = some r) : bu Tryd.prog 89 [sv0,sv1] [A0,A1] (fun v M => v = (bool r) ∧ M = [A0,A1]) := by
 unfold eV at H
 refine bB Tryd.func89 Z 26 Z (nL Z) fun F w0 => ?_
 show cM (St 26 w0 F [(0,sv0),(1,sv1)] [A0,A1]) _
 refine ag (ac (vA Z Z (ae (ag (ag (ac (vM Z Z (vV (bV 0 Z cd Z hA0) Z (vM Z Z (vV (bV 1 Z cd Z hA1) Z (vV (an Z Z (kN _ _ _)) Z ?_)))))))))))
 refine ae ?_
 refine cG H (fun c48 H => ?_) fun c48 H => ?_
 ·refine aj Z (ja c48) (ag (ac (vA Z Z (ae (ap ?_)))))
  cases H
  refine vP [0,1] Z Z ?_
  exact az Z Z ⟨rfl,rfl⟩
 refine ak Z (iZ c48) (aD (ag (ag (ac (vM Z Z (vV (bV 0 Z cd Z hA0) Z (vM Z Z (ae (aP ?_)))))))))
 refine cK (fun k a w => ∃ i4,eu K l0 l1 k i4 = some r ∧ St 26 w0 F [(0,sv0),(1,sv1),(12,I (l0.length : Int)),(13,I i4)] [A0,A1] a w) K ?_ ?_
 ·exact vF [0,1] Z Z (vS [0,1,12,13] Z) fun a w h => ⟨_,H,h⟩
 ·refine fun k => aJ fun i4 => ca fun H4 => ?_
  cases k with
  | zero => exact absurd H4 (by simp [eu])
  | succ k =>
   rw [eu] at H4
   refine ag (ac (vV (an Z Z (cl _ _ _)) Z (ae (ag ?_))))
   refine eW H4 (fun c86 H4 => ?_) fun c86 H4 => ?_
   ·refine ak Z (dF c86) (bZ (ag (ac (vA Z Z (ae (ap ?_))))))
    cases H4
    refine vP [0,1] Z Z ?_
    exact az Z Z ⟨rfl,rfl⟩
   refine aj Z (dT c86) (aD (ag (aP (ag (ac (vM Z Z (vA Z Z (ae (ag ?_)))))))))
   obtain ⟨c90,H4⟩ := eX H4
   obtain ⟨c91,H4⟩ := eX H4
   refine cF 9 Z (fun D a w => kz 26 w0 F [(0,sv0),(1,sv1),(5,I i4),(12,I (l0.length : Int)),(13,I i4),(14,Value.bool (decide (i4 < (l0.length : Int)))),(15,I i4)] [(0,16,sv0),(1,17,I i4),(2,18,(kf sv0 (i4.toNat * 1))),(3,19,bool (l0.getD i4.toNat false)),(4,20,sv1),(5,21,I i4),(6,22,(kf sv1 (i4.toNat * 1))),(7,23,bool (l1.getD i4.toNat false)),(8,24,bool ((l0.getD i4.toNat false) != (l1.getD i4.toNat false)))] D [A0,A1] a w) (by kernel_rfl) (by kernel_rfl) (cH (vS [0,1,5,12,13,14,15] Z) Z) ?_ ?_
   ·refine ⟨?_,?_,?_,?_,?_,?_,?_,?_,?_,trivial⟩
    ·exact fun D hi hc U => dV 0 Z Z Z Z (fun a => ai) (aq Z) Z Z Z Z
    ·exact fun D hi hc U => dV 1 Z Z Z Z (fun a => ai) (aq Z) Z Z Z Z
    ·exact fun D hi hc U => dV 2 Z Z Z Z (fun a => (hD 1 U Z Z Z Z (hD 0 U Z Z Z Z ai))) (bz (sz := 0) 0 Z Z cd dB Z hA0 c90 c86) Z Z Z Z
    ·exact fun D hi hc U => dV 3 Z Z Z Z (fun a => (hD 2 U Z Z Z Z ai)) (aB (v := (bool (l0.getD i4.toNat false))) Z cV (cP (i := 0) Z hA0 (by simp) (dP kp (bJ c90 c86) Z))) Z Z Z Z
    ·exact fun D hi hc U => dV 4 Z Z Z Z (fun a => ai) (aq Z) Z Z Z Z
    ·exact fun D hi hc U => dV 5 Z Z Z Z (fun a => ai) (aq Z) Z Z Z Z
    ·exact fun D hi hc U => dV 6 Z Z Z Z (fun a => (hD 5 U Z Z Z Z (hD 4 U Z Z Z Z ai))) (bz (sz := 0) 1 Z Z cd dB Z hA1 c90 c91) Z Z Z Z
    ·exact fun D hi hc U => dV 7 Z Z Z Z (fun a => (hD 6 U Z Z Z Z ai)) (aB (v := (bool (l1.getD i4.toNat false))) Z cV (cP (i := 1) Z hA1 (by simp) (dP kp (bJ c90 c91) Z))) Z Z Z Z
    ·exact fun D hi hc U => dV 8 Z Z Z Z (fun a => (hD 7 U Z Z Z Z (hD 3 U Z Z Z Z ai))) (an Z Z (pX Tryd.underlying4 _ _)) Z Z Z Z
   ·intro D hall
    refine cT [A0,A1] Z (hL hall Z) ?_
    refine cG H4 (fun c92 H4 => ?_) fun c92 H4 => ?_
    ·refine aj Z c92 (ag (ac (vA Z Z (ae (ap ?_)))))
     cases H4
     refine vP [0,1] Z Z ?_
     exact az Z Z ⟨rfl,rfl⟩
    refine ak Z (bF c92) (aD (ac (vV (an Z Z (bL _ _ _) ) Z (vM Z Z (ae ?_)))))
    exact vF [0,1] Z Z (vS [0,1,12,13] Z) fun a w h => ⟨k,Nat.lt_succ_self k,_,H4,h⟩
theorem iC.spec (K : Nat) (sv0 : Value) (A0 : HP) (sv1 sv2 : Value) (A2 : HP) (sv3 : Value) (a0_0 a0_1 : Int) (l0 : List aA) (a0_3 a0_4 : Int) (a0_5 a0_6 : Bool) (a0_7 a0_8 : Bool) (a0_9 a0_10 : Bool) (a0_11 a0_12 : Bool) (a0_13 : List UInt8) (a0_14 : List UInt8) (a0_15 : List UInt8) (a0_16 : List UInt8) (a0_17 a0_18 : Int) (a0_19 a0_20 : Int) (a0_21 a0_22 : Int) (a0_23 a0_24 a0_25 : Int) (l1 : List Bool) (a1_0 a1_1 : Int) (l2 : List aA) (a1_3 a1_4 : Int) (a1_5 a1_6 : Bool) (a1_7 a1_8 : Bool) (a1_9 a1_10 : Bool) (a1_11 a1_12 : Bool) (a1_13 : List UInt8) (a1_14 : List UInt8) (a1_15 : List UInt8) (a1_16 : List UInt8) (a1_17 a1_18 : Int) (a1_19 a1_20 : Int) (a1_21 a1_22 : Int) (a1_23 a1_24 a1_25 : Int) (l3 : List Bool) (hA0 : cX A0 sv0 l0.length 6 (fl ar l0)) (hA1 : cX A0 sv1 l1.length 1 (fl eB l1)) (hA2 : cX A2 sv2 l2.length 6 (fl ar l2)) (hA3 : cX A2 sv3 l3.length 1 (fl eB l3)) (r : Bool) (H : iC K a0_0 a0_1 l0 a0_3 a0_4 a0_5 a0_6 a0_7 a0_8 a0_9 a0_10 a0_11 a0_12 a0_13 a0_14 a0_15 a0_16 a0_17 a0_18 a0_19 a0_20 a0_21 a0_22 a0_23 a0_24 a0_25 l1 a1_0 a1_1 l2 a1_3 a1_4 a1_5 a1_6 a1_7 a1_8 a1_9 a1_10 a1_11 a1_12 a1_13 a1_14 a1_15 a1_16 a1_17 a1_18 a1_19 a1_20 a1_21 a1_22 a1_23 a1_24 a1_25 l3 = some r) : bu Tryd.prog 87 [agg #[I a0_0,I a0_1,sv0,I a0_3,I a0_4,bool a0_5,bool a0_6,bool a0_7,bool a0_8,bool a0_9,bool a0_10,bool a0_11,bool a0_12,ay a0_13,ay a0_14,ay a0_15,ay a0_16,I a0_17,I a0_18,I a0_19,I a0_20,I a0_21,I a0_22,I a0_23,I a0_24,I a0_25,sv1],agg #[I a1_0,I a1_1,sv2,I a1_3,I a1_4,bool a1_5,bool a1_6,bool a1_7,bool a1_8,bool a1_9,bool a1_10,bool a1_11,bool a1_12,ay a1_13,ay a1_14,ay a1_15,ay a1_16,I a1_17,I a1_18,I a1_19,I a1_20,I a1_21,I a1_22,I a1_23,I a1_24,I a1_25,sv3]] [A0,A2] (fun v M => v = (bool r) ∧ M = [A0,A2]) := by
 unfold iC at H
 refine bB Tryd.func87 Z 45 Z (nL Z) fun F w0 => ?_
 let C2_ : List Value := [I a1_0,I a1_1,sv2,I a1_3,I a1_4,bool a1_5,bool a1_6,bool a1_7,bool a1_8,bool a1_9,bool a1_10,bool a1_11,bool a1_12,ay a1_13,ay a1_14,ay a1_15,ay a1_16,I a1_17,I a1_18,I a1_19,I a1_20,I a1_21,I a1_22,I a1_23,I a1_24,I a1_25,sv3]
 let C1_ : List Value := [I a0_0,I a0_1,sv0,I a0_3,I a0_4,bool a0_5,bool a0_6,bool a0_7,bool a0_8,bool a0_9,bool a0_10,bool a0_11,bool a0_12,ay a0_13,ay a0_14,ay a0_15,ay a0_16,I a0_17,I a0_18,I a0_19,I a0_20,I a0_21,I a0_22,I a0_23,I a0_24,I a0_25,sv1]
 show cM (St 45 w0 F [(0,agg #[I a0_0,I a0_1,sv0,I a0_3,I a0_4,bool a0_5,bool a0_6,bool a0_7,bool a0_8,bool a0_9,bool a0_10,bool a0_11,bool a0_12,ay a0_13,ay a0_14,ay a0_15,ay a0_16,I a0_17,I a0_18,I a0_19,I a0_20,I a0_21,I a0_22,I a0_23,I a0_24,I a0_25,sv1]),(1,agg #[I a1_0,I a1_1,sv2,I a1_3,I a1_4,bool a1_5,bool a1_6,bool a1_7,bool a1_8,bool a1_9,bool a1_10,bool a1_11,bool a1_12,ay a1_13,ay a1_14,ay a1_15,ay a1_16,I a1_17,I a1_18,I a1_19,I a1_20,I a1_21,I a1_22,I a1_23,I a1_24,I a1_25,sv3])] [A0,A2]) _
 refine ag (ac ?_)
 refine aL (gx (cs := C1_) Z Z) Z Z Z ?_
 rintro _ _ ⟨b3,rfl,rfl⟩
 refine aL (gx (cs := C2_) Z Z) Z Z Z ?_
 rintro _ _ ⟨b4,rfl,rfl⟩
 let C0_ : List HP := [box b4 41 C2_,box b3 41 C1_]
 refine vA Z Z (ae (ag (ac (vV (am (sz := 0) (o := 0) Z bA bE) Z (vV (aB (v := (I a0_0)) Z ci (au (i := 1) Z Z)) Z (vV (am (sz := 0) (o := 0) Z bA bE) Z (vV (aB (v := (I a1_0)) Z ci (au (i := 0) Z Z)) Z (vV (an Z Z (bg _ _ _)) Z (vM Z Z ?_)))))))))
 refine eW H (fun c6 H => ?_) fun c6 H => ?_
 ·refine af Z Z Z (bd c6) Z Z ?_
  refine af Z Z Z (bd c6) Z Z ?_
  refine af Z Z Z (bd c6) Z Z ?_
  refine af Z Z Z (bd c6) Z Z ?_
  refine af Z Z Z (bd c6) Z Z ?_
  refine vV (al Z Z Z (aO (bd c6))) Z (vM Z Z ?_)
  refine af Z Z Z Z Z Z ?_
  refine af Z Z Z Z Z Z ?_
  refine af Z Z Z Z Z Z ?_
  refine af Z Z Z Z Z Z ?_
  refine af Z Z Z Z Z Z ?_
  refine vV (al Z Z Z Z) Z (vM Z Z ?_)
  refine af Z Z Z Z Z Z ?_
  refine af Z Z Z Z Z Z ?_
  refine af Z Z Z Z Z Z ?_
  refine af Z Z Z Z Z Z ?_
  refine af Z Z Z Z Z Z ?_
  refine vV (al Z Z Z Z) Z (vM Z Z ?_)
  refine af Z Z Z Z Z Z ?_
  refine af Z Z Z Z Z Z ?_
  refine af Z Z Z Z Z Z ?_
  refine af Z Z Z Z Z Z ?_
  refine af Z Z Z Z Z Z ?_
  refine vV (al Z Z Z Z) Z (vM Z Z ?_)
  refine af Z Z Z Z Z Z ?_
  refine af Z Z Z Z Z Z ?_
  refine af Z Z Z Z Z Z ?_
  refine af Z Z Z Z Z Z ?_
  refine af Z Z Z Z Z Z ?_
  refine vV (al Z Z Z Z) Z (vA Z Z (ae (ap ?_)))
  cases H
  refine vP [2,3] Z Z ?_
  exact az Z Z ⟨rfl,rfl⟩
 refine aa (am (sz := 0) (o := 0) Z fw aT) Z Z Z (aY c6) Z Z ?_
 refine aa (aB (v := (I a0_1)) Z aW (au (i := 1) Z Z)) Z Z Z (aY c6) Z Z ?_
 refine aa (am (sz := 0) (o := 0) Z fw aT) Z Z Z (aY c6) Z Z ?_
 refine aa (aB (v := (I a1_1)) Z aW (au (i := 0) Z Z)) Z Z Z (aY c6) Z Z ?_
 refine aa (an Z Z (bg _ _ _)) Z Z Z (aY c6) Z Z ?_
 refine vV (al Z Z Z (aK (aY c6))) Z (vM Z Z ?_)
 refine eW H (fun c7 H => ?_) fun c7 H => ?_
 ·refine af Z Z Z (bd c7) Z Z ?_
  refine af Z Z Z (bd c7) Z Z ?_
  refine af Z Z Z (bd c7) Z Z ?_
  refine af Z Z Z (bd c7) Z Z ?_
  refine af Z Z Z (bd c7) Z Z ?_
  refine vV (al Z Z Z (aO (bd c7))) Z (vM Z Z ?_)
  refine af Z Z Z Z Z Z ?_
  refine af Z Z Z Z Z Z ?_
  refine af Z Z Z Z Z Z ?_
  refine af Z Z Z Z Z Z ?_
  refine af Z Z Z Z Z Z ?_
  refine vV (al Z Z Z Z) Z (vM Z Z ?_)
  refine af Z Z Z Z Z Z ?_
  refine af Z Z Z Z Z Z ?_
  refine af Z Z Z Z Z Z ?_
  refine af Z Z Z Z Z Z ?_
  refine af Z Z Z Z Z Z ?_
  refine vV (al Z Z Z Z) Z (vM Z Z ?_)
  refine af Z Z Z Z Z Z ?_
  refine af Z Z Z Z Z Z ?_
  refine af Z Z Z Z Z Z ?_
  refine af Z Z Z Z Z Z ?_
  refine af Z Z Z Z Z Z ?_
  refine vV (al Z Z Z Z) Z (vA Z Z (ae (ap ?_)))
  cases H
  refine vP [2,3] Z Z ?_
  exact az Z Z ⟨rfl,rfl⟩
 refine aa (am (sz := 13) (o := 0) Z fy cJ) Z Z Z (aY c7) Z Z ?_
 refine aa (aN (vs := [I a0_3,I a0_4,bool a0_5,bool a0_6,bool a0_7,bool a0_8,bool a0_9,bool a0_10,bool a0_11,bool a0_12,ay a0_13,ay a0_14,ay a0_15,ay a0_16]) Z hH cJ (dz (i := 1) Z Z)) Z Z Z (aY c7) Z Z ?_
 refine aa (am (sz := 13) (o := 0) Z fy cJ) Z Z Z (aY c7) Z Z ?_
 refine aa (aN (vs := [I a1_3,I a1_4,bool a1_5,bool a1_6,bool a1_7,bool a1_8,bool a1_9,bool a1_10,bool a1_11,bool a1_12,ay a1_13,ay a1_14,ay a1_15,ay a1_16]) Z hH cJ (dz (i := 0) Z Z)) Z Z Z (aY c7) Z Z ?_
 refine aa (an Z Z (si _ _ _ _ _ _ _ _ _ _ _ _ _ _ _ _ _ _ _ _ _ _ _ _ _ _ _ _)) Z Z Z (aY c7) Z Z ?_
 refine vV (al Z Z Z (aK (aY c7))) Z (vM Z Z ?_)
 refine eW H (fun c8 H => ?_) fun c8 H => ?_
 ·refine af Z Z Z (bF c8) Z Z ?_
  refine af Z Z Z (bF c8) Z Z ?_
  refine af Z Z Z (bF c8) Z Z ?_
  refine af Z Z Z (bF c8) Z Z ?_
  refine af Z Z Z (bF c8) Z Z ?_
  refine vV (al Z Z Z (aO (bF c8))) Z (vM Z Z ?_)
  refine af Z Z Z Z Z Z ?_
  refine af Z Z Z Z Z Z ?_
  refine af Z Z Z Z Z Z ?_
  refine af Z Z Z Z Z Z ?_
  refine af Z Z Z Z Z Z ?_
  refine vV (al Z Z Z Z) Z (vM Z Z ?_)
  refine af Z Z Z Z Z Z ?_
  refine af Z Z Z Z Z Z ?_
  refine af Z Z Z Z Z Z ?_
  refine af Z Z Z Z Z Z ?_
  refine af Z Z Z Z Z Z ?_
  refine vV (al Z Z Z Z) Z (vA Z Z (ae (ap ?_)))
  cases H
  refine vP [2,3] Z Z ?_
  exact az Z Z ⟨rfl,rfl⟩
 refine aa (am (sz := 8) (o := 0) Z eO df) Z Z Z c8 Z Z ?_
 refine aa (aN (vs := [I a0_17,I a0_18,I a0_19,I a0_20,I a0_21,I a0_22,I a0_23,I a0_24,I a0_25]) Z jf df (dz (i := 1) Z Z)) Z Z Z c8 Z Z ?_
 refine aa (am (sz := 8) (o := 0) Z eO df) Z Z Z c8 Z Z ?_
 refine aa (aN (vs := [I a1_17,I a1_18,I a1_19,I a1_20,I a1_21,I a1_22,I a1_23,I a1_24,I a1_25]) Z jf df (dz (i := 0) Z Z)) Z Z Z c8 Z Z ?_
 refine aa (an Z Z (oh _ _ _ _ _ _ _ _ _ _ _ _ _ _ _ _ _ _)) Z Z Z c8 Z Z ?_
 refine vV (al Z Z Z (aK c8)) Z (vM Z Z ?_)
 refine eW H (fun c9 H => ?_) fun c9 H => ?_
 ·refine af Z Z Z (bF c9) Z Z ?_
  refine af Z Z Z (bF c9) Z Z ?_
  refine af Z Z Z (bF c9) Z Z ?_
  refine af Z Z Z (bF c9) Z Z ?_
  refine af Z Z Z (bF c9) Z Z ?_
  refine vV (al Z Z Z (aO (bF c9))) Z (vM Z Z ?_)
  refine af Z Z Z Z Z Z ?_
  refine af Z Z Z Z Z Z ?_
  refine af Z Z Z Z Z Z ?_
  refine af Z Z Z Z Z Z ?_
  refine af Z Z Z Z Z Z ?_
  refine vV (al Z Z Z Z) Z (vA Z Z (ae (ap ?_)))
  cases H
  refine vP [2,3] Z Z ?_
  exact az Z Z ⟨rfl,rfl⟩
 refine aa (am (sz := 0) (o := 0) Z dY fC) Z Z Z c9 Z Z ?_
 refine aa (aB (v := sv0) Z hG (au (i := 1) Z Z)) Z Z Z c9 Z Z ?_
 refine aa (am (sz := 0) (o := 0) Z dY fC) Z Z Z c9 Z Z ?_
 refine aa (aB (v := sv2) Z hG (au (i := 0) Z Z)) Z Z Z c9 Z Z ?_
 obtain ⟨x3,h3,H⟩ := oB H
 refine cv (bt (Lr := C0_) [2,3,0,1] [2,3,0,1] (first := []) (cap := []) (xs := [.tmp 33,.tmp 35]) Z Z wF Z (du.spec K sv0 A0 sv2 A2 l0 l2 hA0 hA2 _ h3) (by decide) Z (by decide) Z) Z Z Z c9 Z Z ?_
 rintro _ _ ⟨rfl,rfl⟩
 refine vV (al Z Z Z (aK c9)) Z (vM Z Z ?_)
 refine eW H (fun c10 H => ?_) fun c10 H => ?_
 ·refine af Z Z Z (bF c10) Z Z ?_
  refine af Z Z Z (bF c10) Z Z ?_
  refine af Z Z Z (bF c10) Z Z ?_
  refine af Z Z Z (bF c10) Z Z ?_
  refine af Z Z Z (bF c10) Z Z ?_
  refine vV (al Z Z Z (aO (bF c10))) Z (vA Z Z (ae (ap ?_)))
  cases H
  refine vP [2,3] Z Z ?_
  exact az Z Z ⟨rfl,rfl⟩
 refine aa (am (sz := 0) (o := 0) Z bT cI) Z Z Z c10 Z Z ?_
 refine aa (aB (v := sv1) Z ew (au (i := 1) Z Z)) Z Z Z c10 Z Z ?_
 refine aa (am (sz := 0) (o := 0) Z bT cI) Z Z Z c10 Z Z ?_
 refine aa (aB (v := sv3) Z ew (au (i := 0) Z Z)) Z Z Z c10 Z Z ?_
 obtain ⟨x4,h4,H⟩ := oB H
 refine cv (bt (Lr := C0_) [2,3,0,1] [2,3,0,1] (first := []) (cap := []) (xs := [.tmp 40,.tmp 42]) Z Z vI Z (eV.spec K sv1 A0 sv3 A2 l1 l3 hA1 hA3 _ h4) (by decide) Z (by decide) Z) Z Z Z c10 Z Z ?_
 rintro _ _ ⟨rfl,rfl⟩
 refine vV (al Z Z Z (aK c10)) Z (vA Z Z (ae (ap ?_)))
 cases H
 refine vP [2,3] Z Z ?_
 exact az Z Z ⟨rfl,rfl⟩
theorem bI.spec (K : Nat) (sv0 sv1 : JM) (l0 : List aG) (l1 : List aG) (r : Bool) (H : bI K l0 l1 = some r) : bu Tryd.prog 86 [sv0.sv,sv1.sv,(Value.func (.func 87) #[] #[])] [(dW sv0 41 27 av aI l0),(dW sv1 41 27 av aI l1)] (fun v M => v = (bool r) ∧ M = [(dW sv0 41 27 av aI l0),(dW sv1 41 27 av aI l1)]) := by
 unfold bI at H
 refine bB Tryd.func86 Z 32 Z (nL Z) fun F w0 => ?_
 let C2_ : List Value := [I 0,I 0,L0,I 0,I 0,B0,B0,B0,B0,B0,B0,B0,B0,S0,S0,S0,S0,I 0,I 0,I 0,I 0,I 0,I 0,I 0,I 0,I 0,L0]
 show cM (St 32 w0 F [(0,sv0.sv),(1,sv1.sv),(2,(Value.func (.func 87) #[] #[]))] [(dW sv0 41 27 av aI l0),(dW sv1 41 27 av aI l1)]) _
 refine ag (ac (vA Z Z (ae (ag (ag (ac (vM Z Z (vV (bV 0 Z dK Z gW) Z (vM Z Z (vV (bV 1 Z dK Z gW) Z (vV (an Z Z (kN _ _ _)) Z ?_)))))))))))
 refine ae ?_
 refine cG H (fun c48 H => ?_) fun c48 H => ?_
 ·refine aj Z (ja c48) (ag (ac (vA Z Z (ae (ap ?_)))))
  cases H
  refine vP [0,1] Z Z ?_
  exact az Z Z ⟨rfl,rfl⟩
 refine ak Z (iZ c48) (aD (ag (ag (ac (vM Z Z (vV (bV 0 Z dK Z gW) Z (vM Z Z (ae (aP ?_)))))))))
 refine cK (fun k a w => ∃ i4,bD K l0 l1 k i4 = some r ∧ St 32 w0 F [(1,sv1.sv),(2,(Value.func (.func 87) #[] #[])),(15,sv0.sv),(16,I (l0.length : Int)),(17,I i4)] [(dW sv0 41 27 av aI l0),(dW sv1 41 27 av aI l1)] a w) K ?_ ?_
 ·exact vF [0,1] Z Z (vS [1,2,15,16,17] Z) fun a w h => ⟨_,H,h⟩
 ·refine fun k => aJ fun i4 => ca fun H4 => ?_
  let C1_ : List Value := [I ((l1.getD i4.toNat ah).Kind),I ((l1.getD i4.toNat ah).N),(sv1.vs i4.toNat 0),I (((l1.getD i4.toNat ah).Query).From),I (((l1.getD i4.toNat ah).Query).To),bool (((l1.getD i4.toNat ah).Query).Group_0),bool (((l1.getD i4.toNat ah).Query).Group_1),bool (((l1.getD i4.toNat ah).Query).Group_2),bool (((l1.getD i4.toNat ah).Query).Group_3),bool (((l1.getD i4.toNat ah).Query).Has_0),bool (((l1.getD i4.toNat ah).Query).Has_1),bool (((l1.getD i4.toNat ah).Query).Has_2),bool (((l1.getD i4.toNat ah).Query).Has_3),ay (((l1.getD i4.toNat ah).Query).Filter_0),ay (((l1.getD i4.toNat ah).Query).Filter_1),ay (((l1.getD i4.toNat ah).Query).Filter_2),ay (((l1.getD i4.toNat ah).Query).Filter_3),I (((l1.getD i4.toNat ah).Rules).Retain),I (((l1.getD i4.toNat ah).Rules).SealLag),I (((l1.getD i4.toNat ah).Rules).DayLag),I (((l1.getD i4.toNat ah).Rules).MonthLag),I (((l1.getD i4.toNat ah).Rules).ColdLag),I (((l1.getD i4.toNat ah).Rules).Base),I (((l1.getD i4.toNat ah).Rules).Cap),I (((l1.getD i4.toNat ah).Rules).Queue),I (((l1.getD i4.toNat ah).Rules).Wal),(sv1.vs i4.toNat 1)]
  let C0_ : List Value := [I ((l0.getD i4.toNat ah).Kind),I ((l0.getD i4.toNat ah).N),(sv0.vs i4.toNat 0),I (((l0.getD i4.toNat ah).Query).From),I (((l0.getD i4.toNat ah).Query).To),bool (((l0.getD i4.toNat ah).Query).Group_0),bool (((l0.getD i4.toNat ah).Query).Group_1),bool (((l0.getD i4.toNat ah).Query).Group_2),bool (((l0.getD i4.toNat ah).Query).Group_3),bool (((l0.getD i4.toNat ah).Query).Has_0),bool (((l0.getD i4.toNat ah).Query).Has_1),bool (((l0.getD i4.toNat ah).Query).Has_2),bool (((l0.getD i4.toNat ah).Query).Has_3),ay (((l0.getD i4.toNat ah).Query).Filter_0),ay (((l0.getD i4.toNat ah).Query).Filter_1),ay (((l0.getD i4.toNat ah).Query).Filter_2),ay (((l0.getD i4.toNat ah).Query).Filter_3),I (((l0.getD i4.toNat ah).Rules).Retain),I (((l0.getD i4.toNat ah).Rules).SealLag),I (((l0.getD i4.toNat ah).Rules).DayLag),I (((l0.getD i4.toNat ah).Rules).MonthLag),I (((l0.getD i4.toNat ah).Rules).ColdLag),I (((l0.getD i4.toNat ah).Rules).Base),I (((l0.getD i4.toNat ah).Rules).Cap),I (((l0.getD i4.toNat ah).Rules).Queue),I (((l0.getD i4.toNat ah).Rules).Wal),(sv0.vs i4.toNat 1)]
  cases k with
  | zero => exact absurd H4 (by simp [C2_,C1_,C0_,bD])
  | succ k =>
   rw [bD] at H4
   refine ag (ac (vV (an Z Z (cl _ _ _)) Z (ae (ag ?_))))
   refine eW H4 (fun c86 H4 => ?_) fun c86 H4 => ?_
   ·refine ak Z (dF c86) (bZ (ag (ac (vA Z Z (ae (ap ?_))))))
    cases H4
    refine vP [0,1] Z Z ?_
    exact az Z Z ⟨rfl,rfl⟩
   refine aj Z (dT c86) (aD (ag (aP (ag (ac (vM Z Z ?_))))))
   obtain ⟨c90,H4⟩ := eX H4
   refine vV (bz (sz := 26) 0 Z Z dK aE Z gW c90 c86) Z ?_
   refine vV (aN (vs := C0_) Z bf aE (cP (i := 0) Z gW (by simp [C2_,C1_,C0_]) (pn (z := ah) jY (bJ c90 c86) Z))) Z ?_
   refine aL (cS bv) Z Z Z ?_
   rintro _ _ ⟨b47,rfl,rfl⟩
   refine vA Z Z ?_
   refine bp (aZ (cs := C2_) (cs' := C0_) (us := C0_) (L' := [box b47 41 C0_,(dW sv0 41 27 av aI l0),(dW sv1 41 27 av aI l1)]) 0 Z Z Z (ao Z (ao Z (gM 1 Z (show cX _ _ ((l0.getD i4.toNat ah).Facts).length 6 (fl ar ((l0.getD i4.toNat ah).Facts)) from fU (z := ah) (bJ c90 c86) (fJ 0 Z (fM _ _ _ _ _))) (ao Z (ao Z (ao Z (ao Z (ao Z (ao Z (ao Z (ao Z (ao Z (ao Z (ao Z (ao Z (ao Z (ao Z (ao Z (ao Z (ao Z (ao Z (ao Z (ao Z (ao Z (ao Z (ao Z (gM 1 Z (show cX _ _ ((l0.getD i4.toNat ah).Fails).length 1 (fl eB ((l0.getD i4.toNat ah).Fails)) from fU (z := ah) (bJ c90 c86) (fJ 1 Z (fM _ _ _ _ _))) iP))))))))))))))))))))))))))) aE Z Z (by simp [C2_,C1_,C0_]) Z) Z Z ?_
   rintro _ _ rfl
   refine ae (ag (ac (vM Z Z (vM Z Z ?_))))
   obtain ⟨c91,H4⟩ := eX H4
   refine vV (bz (sz := 26) 2 Z Z dK aE Z gW c90 c91) Z ?_
   refine vV (aN (vs := C1_) Z bf aE (cP (i := 2) Z gW (by simp [C2_,C1_,C0_]) (pn (z := ah) jY (bJ c90 c91) Z))) Z ?_
   refine aL (cS bv) Z Z Z ?_
   rintro _ _ ⟨b48,rfl,rfl⟩
   refine bp (aZ (cs := C2_) (cs' := C1_) (us := C1_) (L' := [box b48 41 C1_,box b47 41 C0_,(dW sv0 41 27 av aI l0),(dW sv1 41 27 av aI l1)]) 0 Z Z Z (ao Z (ao Z (gM 3 Z (show cX _ _ ((l1.getD i4.toNat ah).Facts).length 6 (fl ar ((l1.getD i4.toNat ah).Facts)) from fU (z := ah) (bJ c90 c91) (fJ 0 Z (fM _ _ _ _ _))) (ao Z (ao Z (ao Z (ao Z (ao Z (ao Z (ao Z (ao Z (ao Z (ao Z (ao Z (ao Z (ao Z (ao Z (ao Z (ao Z (ao Z (ao Z (ao Z (ao Z (ao Z (ao Z (ao Z (gM 3 Z (show cX _ _ ((l1.getD i4.toNat ah).Fails).length 1 (fl eB ((l1.getD i4.toNat ah).Fails)) from fU (z := ah) (bJ c90 c91) (fJ 1 Z (fM _ _ _ _ _))) iP))))))))))))))))))))))))))) aE Z Z (by simp [C2_,C1_,C0_]) Z) Z Z ?_
   rintro _ _ rfl
   refine ae (ag (ac (vM Z Z (vV (aN (vs := C0_) Z bf aE (aR (i := 1) Z)) Z (vV (aN (vs := C1_) Z bf aE (aR (i := 0) Z)) Z ?_)))))
   obtain ⟨x24,h24,H4⟩ := oB H4
   refine aL (bt (Lr := [box b48 41 C1_,box b47 41 C0_]) [2,3,0,1] [2,3,0,1] (first := []) (cap := []) (xs := [.tmp 27,.tmp 28]) Z Z vO Z (iC.spec K (sv0.vs i4.toNat 0) (dW sv0 41 27 av aI l0) (sv0.vs i4.toNat 1) (sv1.vs i4.toNat 0) (dW sv1 41 27 av aI l1) (sv1.vs i4.toNat 1) ((l0.getD i4.toNat ah).Kind) ((l0.getD i4.toNat ah).N) ((l0.getD i4.toNat ah).Facts) (((l0.getD i4.toNat ah).Query).From) (((l0.getD i4.toNat ah).Query).To) (((l0.getD i4.toNat ah).Query).Group_0) (((l0.getD i4.toNat ah).Query).Group_1) (((l0.getD i4.toNat ah).Query).Group_2) (((l0.getD i4.toNat ah).Query).Group_3) (((l0.getD i4.toNat ah).Query).Has_0) (((l0.getD i4.toNat ah).Query).Has_1) (((l0.getD i4.toNat ah).Query).Has_2) (((l0.getD i4.toNat ah).Query).Has_3) (((l0.getD i4.toNat ah).Query).Filter_0) (((l0.getD i4.toNat ah).Query).Filter_1) (((l0.getD i4.toNat ah).Query).Filter_2) (((l0.getD i4.toNat ah).Query).Filter_3) (((l0.getD i4.toNat ah).Rules).Retain) (((l0.getD i4.toNat ah).Rules).SealLag) (((l0.getD i4.toNat ah).Rules).DayLag) (((l0.getD i4.toNat ah).Rules).MonthLag) (((l0.getD i4.toNat ah).Rules).ColdLag) (((l0.getD i4.toNat ah).Rules).Base) (((l0.getD i4.toNat ah).Rules).Cap) (((l0.getD i4.toNat ah).Rules).Queue) (((l0.getD i4.toNat ah).Rules).Wal) ((l0.getD i4.toNat ah).Fails) ((l1.getD i4.toNat ah).Kind) ((l1.getD i4.toNat ah).N) ((l1.getD i4.toNat ah).Facts) (((l1.getD i4.toNat ah).Query).From) (((l1.getD i4.toNat ah).Query).To) (((l1.getD i4.toNat ah).Query).Group_0) (((l1.getD i4.toNat ah).Query).Group_1) (((l1.getD i4.toNat ah).Query).Group_2) (((l1.getD i4.toNat ah).Query).Group_3) (((l1.getD i4.toNat ah).Query).Has_0) (((l1.getD i4.toNat ah).Query).Has_1) (((l1.getD i4.toNat ah).Query).Has_2) (((l1.getD i4.toNat ah).Query).Has_3) (((l1.getD i4.toNat ah).Query).Filter_0) (((l1.getD i4.toNat ah).Query).Filter_1) (((l1.getD i4.toNat ah).Query).Filter_2) (((l1.getD i4.toNat ah).Query).Filter_3) (((l1.getD i4.toNat ah).Rules).Retain) (((l1.getD i4.toNat ah).Rules).SealLag) (((l1.getD i4.toNat ah).Rules).DayLag) (((l1.getD i4.toNat ah).Rules).MonthLag) (((l1.getD i4.toNat ah).Rules).ColdLag) (((l1.getD i4.toNat ah).Rules).Base) (((l1.getD i4.toNat ah).Rules).Cap) (((l1.getD i4.toNat ah).Rules).Queue) (((l1.getD i4.toNat ah).Rules).Wal) ((l1.getD i4.toNat ah).Fails) (show cX _ _ ((l0.getD i4.toNat ah).Facts).length 6 (fl ar ((l0.getD i4.toNat ah).Facts)) from fU (z := ah) (bJ c90 c86) (fJ 0 Z (fM _ _ _ _ _))) (show cX _ _ ((l0.getD i4.toNat ah).Fails).length 1 (fl eB ((l0.getD i4.toNat ah).Fails)) from fU (z := ah) (bJ c90 c86) (fJ 1 Z (fM _ _ _ _ _))) (show cX _ _ ((l1.getD i4.toNat ah).Facts).length 6 (fl ar ((l1.getD i4.toNat ah).Facts)) from fU (z := ah) (bJ c90 c91) (fJ 0 Z (fM _ _ _ _ _))) (show cX _ _ ((l1.getD i4.toNat ah).Fails).length 1 (fl eB ((l1.getD i4.toNat ah).Fails)) from fU (z := ah) (bJ c90 c91) (fJ 1 Z (fM _ _ _ _ _))) _ h24) (by decide) Z (by decide) Z) Z Z Z ?_
   rintro _ _ ⟨rfl,rfl⟩
   refine vV (gV Z (il _)) Z (ae ?_)
   refine cG H4 (fun c92 H4 => ?_) fun c92 H4 => ?_
   ·refine aj Z c92 (ag (ac (vA Z Z (ae (ap ?_)))))
    cases H4
    refine vP [2,3] Z Z ?_
    exact az Z Z ⟨rfl,rfl⟩
   refine ak Z (bF c92) (aD (ac (vV (an Z Z (bL _ _ _) ) Z (vM Z Z (ae ?_)))))
   exact vF [2,3] Z Z (vS [1,2,15,16,17] Z) fun a w h => ⟨k,Nat.lt_succ_self k,_,H4,h⟩
theorem bR.spec (K : Nat) (sv0 sv1 : JM) (l0 : List aG) (l1 : List aG) (r : Bool) (H : bR K l0 l1 = some r) : bu Tryd.prog 71 [sv0.sv,sv1.sv] [(dW sv0 41 27 av aI l0),(dW sv1 41 27 av aI l1)] (fun v M => v = (bool r) ∧ M = [(dW sv0 41 27 av aI l0),(dW sv1 41 27 av aI l1)]) := by
 unfold bR at H
 refine bB Tryd.func71 Z 8 Z (nL Z) fun F w0 => ?_
 show cM (St 8 w0 F [(0,sv0.sv),(1,sv1.sv)] [(dW sv0 41 27 av aI l0),(dW sv1 41 27 av aI l1)]) _
 refine ag (ac (vA Z Z (ae (ag (ac (vM Z Z (vM Z Z ?_)))))))
 obtain ⟨x2,h2,H⟩ := oB H
 refine aL (bt (Lr := []) [0,1] [0,1] (first := []) (cap := []) (xs := [.tmp 5,.tmp 6,.func 87]) Z Z wV Z (bI.spec K sv0 sv1 l0 l1 _ h2) (by decide) Z (by decide) Z) Z Z Z ?_
 rintro _ _ ⟨rfl,rfl⟩
 refine vA Z Z (ae (ap ?_))
 cases H
 refine vP [0,1] Z Z ?_
 exact az Z Z ⟨rfl,rfl⟩
theorem ji.spec (a0 : Int) (r : Bool) (H : ji a0 = r) : bu Tryd.prog 90 [I a0] [] (fun v M => v = (bool r) ∧ M = []) := by
 unfold ji at H
 refine bB Tryd.func90 Z 9 Z (nL Z) fun F w0 => ?_
 show cM (St 9 w0 F [(0,I a0)] []) _
 refine ag (ac (vA Z Z (ae (ag (ac (vM Z Z (vV (an Z Z (iY _ _ _)) Z (vM Z Z ?_))))))))
 refine eW H (fun c2 H => ?_) fun c2 H => ?_
 ·refine af Z Z Z (dF c2) Z Z ?_
  refine af Z Z Z (dF c2) Z Z ?_
  refine vV (al Z Z Z (aO (dF c2))) Z (vA Z Z (ae (ap ?_)))
  cases H
  refine vP [] Z Z ?_
  exact az Z Z ⟨rfl,rfl⟩
 refine aa (aq Z) Z Z Z (dT c2) Z Z ?_
 refine aa (an Z Z (kb _ _ _)) Z Z Z (dT c2) Z Z ?_
 refine vV (al Z Z Z (aK (dT c2))) Z (vA Z Z (ae (ap ?_)))
 cases H
 refine vP [] Z Z ?_
 exact az Z Z ⟨rfl,rfl⟩
theorem kq.spec (K : Nat) (a0_0 : Int) (a0_1 : List UInt8) (a0_2 : List UInt8) (a0_3 : List UInt8) (a0_4 : List UInt8) (a0_5 a1 r : Int) (H : kq K a0_0 a0_1 a0_2 a0_3 a0_4 a0_5 a1 = some r) : bu Tryd.prog 91 [agg #[I a0_0,ay a0_1,ay a0_2,ay a0_3,ay a0_4,I a0_5],I a1] [] (fun v M => v = (I r) ∧ M = []) := by
 unfold kq at H
 refine bB Tryd.func91 Z 52 Z (nL Z) fun F w0 => ?_
 show cM (St 52 w0 F [(0,agg #[I a0_0,ay a0_1,ay a0_2,ay a0_3,ay a0_4,I a0_5]),(1,I a1)] []) _
 refine ag (ac ?_)
 refine aL (gx (cs := [I a0_0,ay a0_1,ay a0_2,ay a0_3,ay a0_4,I a0_5]) Z Z) Z Z Z ?_
 rintro _ _ ⟨b2,rfl,rfl⟩
 refine vA Z Z (ae (ag (aP (ag (ac (vM Z Z ?_))))))
 obtain ⟨x4,h4,H⟩ := bC H
 refine aL (aX (first := []) (cap := []) (xs := [.tmp 8]) Z Z ov Z (ji.spec a1 _ h4)) Z Z Z ?_
 rintro _ _ ⟨rfl,rfl⟩
 refine vV (gV Z (il _)) Z (vA Z Z (ae ?_))
 refine cG H (fun c80 H => ?_) fun c80 H => ?_
 ·refine aj Z c80 (ag (ac (vA Z Z (ae (ap ?_)))))
  cases H
  refine vP [] Z Z ?_
  exact az Z Z ⟨rfl,rfl⟩
 refine ak Z (bF c80) (ag (ac (vV (am (sz := 4) (o := 0) Z fP gO) Z (vV (am (sz := 0) (o := 0) Z jV aT) Z (vV (aB (v := (I a0_0)) Z aW (au (i := 0) Z Z)) Z (vV (an Z Z (cl _ _ _)) Z (vM Z Z ?_)))))))
 refine cG H (fun c81 H => ?_) fun c81 H => ?_
 ·refine af Z Z Z (dT c81) Z Z ?_
  refine af Z Z Z (dT c81) Z Z ?_
  refine af Z Z Z (dT c81) Z Z ?_
  refine af Z Z Z (dT c81) Z Z ?_
  refine vV (al Z Z Z (aK (dT c81))) Z (vM Z Z ?_)
  refine af Z Z Z Z Z Z ?_
  refine af Z Z Z Z Z Z ?_
  refine af Z Z Z Z Z Z ?_
  refine vV (al Z Z Z Z) Z (vM Z Z ?_)
  refine af Z Z Z Z Z Z ?_
  refine af Z Z Z Z Z Z ?_
  refine af Z Z Z Z Z Z ?_
  refine vV (al Z Z Z Z) Z (vA Z Z (ae (aj Z Z (ag (ac (vA Z Z (ae (ap ?_))))))))
  cases H
  refine vP [] Z Z ?_
  exact az Z Z ⟨rfl,rfl⟩
 refine aa (am (sz := 4) (o := 0) Z fP gO) Z Z Z (dF c81) Z Z ?_
 refine aa (am (sz := 0) (o := 0) Z jV aT) Z Z Z (dF c81) Z Z ?_
 refine aa (aB (v := (I a0_0)) Z aW (au (i := 0) Z Z)) Z Z Z (dF c81) Z Z ?_
 refine aa (an Z Z (eJ _ _ _)) Z Z Z (dF c81) Z Z ?_
 refine vV (al Z Z Z (aO (dF c81))) Z (vM Z Z ?_)
 refine cG H (fun c82 H => ?_) fun c82 H => ?_
 ·refine af Z Z Z (dT c82) Z Z ?_
  refine af Z Z Z (dT c82) Z Z ?_
  refine af Z Z Z (dT c82) Z Z ?_
  refine vV (al Z Z Z (aK (dT c82))) Z (vM Z Z ?_)
  refine af Z Z Z Z Z Z ?_
  refine af Z Z Z Z Z Z ?_
  refine af Z Z Z Z Z Z ?_
  refine vV (al Z Z Z Z) Z (vA Z Z (ae (aj Z Z (ag (ac (vA Z Z (ae (ap ?_))))))))
  cases H
  refine vP [] Z Z ?_
  exact az Z Z ⟨rfl,rfl⟩
 refine aa (am (sz := 0) (o := 0) Z jw aT) Z Z Z (dF c82) Z Z ?_
 refine aa (aB (v := (I a0_5)) Z aW (au (i := 0) Z Z)) Z Z Z (dF c82) Z Z ?_
 refine aa (an Z Z (eJ _ _ _)) Z Z Z (dF c82) Z Z ?_
 refine vV (al Z Z Z (aO (dF c82))) Z (vM Z Z ?_)
 refine cG H (fun c83 H => ?_) fun c83 H => ?_
 ·refine af Z Z Z (dT c83) Z Z ?_
  refine af Z Z Z (dT c83) Z Z ?_
  refine af Z Z Z (dT c83) Z Z ?_
  refine vV (al Z Z Z (aK (dT c83))) Z (vA Z Z (ae (aj Z Z (ag (ac (vA Z Z (ae (ap ?_))))))))
  cases H
  refine vP [] Z Z ?_
  exact az Z Z ⟨rfl,rfl⟩
 refine aa (am (sz := 0) (o := 0) Z jw aT) Z Z Z (dF c83) Z Z ?_
 refine aa (aB (v := (I a0_5)) Z aW (au (i := 0) Z Z)) Z Z Z (dF c83) Z Z ?_
 refine aa (an Z Z (cl _ _ _)) Z Z Z (dF c83) Z Z ?_
 refine vV (al Z Z Z (aO (dF c83))) Z (vA Z Z (ae ?_))
 refine cG H (fun c84 H => ?_) fun c84 H => ?_
 ·refine aj Z (dT c84) (ag (ac (vA Z Z (ae (ap ?_)))))
  cases H
  refine vP [] Z Z ?_
  exact az Z Z ⟨rfl,rfl⟩
 refine ak Z (dF c84) (aD (ag (ag (ac (vV (am (sz := 4) (o := 0) Z fP gO) Z (vV (am (sz := 3) (o := 0) Z jx eh) Z (vV (aN (vs := [ay a0_1,ay a0_2,ay a0_3,ay a0_4]) Z kF eh (dz (i := 0) Z Z)) Z (vM Z Z (ae (aP ?_))))))))))
 refine cK (fun k a w => ∃ i5,im K a0_1 a0_2 a0_3 a0_4 a1 k i5 = some r ∧ St 52 w0 F [(1,I a1),(34,agg #[ay a0_1,ay a0_2,ay a0_3,ay a0_4]),(35,I i5)] [] a w) K ?_ ?_
 ·exact vF [] Z Z (vS [1,34,35] Z) fun a w h => ⟨_,H,h⟩
 ·refine fun k => aJ fun i5 => ca fun H4 => ?_
  cases k with
  | zero => exact absurd H4 (by simp [im])
  | succ k =>
   rw [im] at H4
   refine ag (ac (vV (an Z Z (cl _ _ _)) Z (ae (ag ?_))))
   refine eW H4 (fun c138 H4 => ?_) fun c138 H4 => ?_
   ·refine ak Z (dF c138) (bZ (ag (ac (vA Z Z (ae (ap ?_))))))
    cases H4
    refine vP [] Z Z ?_
    exact az Z Z ⟨rfl,rfl⟩
   refine aj Z (dT c138) (aD (ag (aP (ag (ac (vM Z Z ?_))))))
   obtain ⟨c144,H4⟩ := eX H4
   obtain ⟨c145,H4⟩ := eX H4
   refine vV (lc Z Z eK cg cD c144 c145 (iD (fun i_ => #[ay a0_1,ay a0_2,ay a0_3,ay a0_4][i_]? = some (ay ([a0_1,a0_2,a0_3,a0_4].getD i_ []))) (bJ c144 c145) Z Z Z Z)) Z ?_
   refine vA Z Z (vA Z Z (ae (ag (ac (vM Z Z (vV (fX Z Tryd.underlying9) Z (vV (an Z Z (eJ _ _ _)) Z (vM Z Z ?_))))))))
   refine cG H4 (fun c146 H4 => ?_) fun c146 H4 => ?_
   ·refine af Z Z Z (dT c146) Z Z ?_
    refine af Z Z Z (dT c146) Z Z ?_
    refine af Z Z Z (dT c146) Z Z ?_
    refine af Z Z Z (dT c146) Z Z ?_
    refine aH Z Z Z Z Z ?_
    refine aH Z Z Z Z Z ?_
    refine af Z Z Z (dT c146) Z Z ?_
    refine vV (al Z Z Z (aK (dT c146))) Z (ae (aj Z Z (ag (ac (vA Z Z (ae (ap ?_)))))))
    cases H4
    refine vP [] Z Z ?_
    exact az Z Z ⟨rfl,rfl⟩
   refine aa (aq Z) Z Z Z (dF c146) Z Z ?_
   refine aa (aq Z) Z Z Z (dF c146) Z Z ?_
   refine aa (an Z Z (iY _ _ _)) Z Z Z (dF c146) Z Z ?_
   refine aa (aq Z) Z Z Z (dF c146) Z Z ?_
   refine eW H4 (fun c147 H4 => ?_) fun c147 H4 => ?_
   ·refine af Z Z Z (dF c147) Z Z ?_
    refine af Z Z Z (dF c147) Z Z ?_
    refine aa (al Z Z Z (aO (dF c147))) Z Z Z (dF c146) Z Z ?_
    refine vV (al Z Z Z (aO (dF c146))) Z (ae (ak Z Z (aD (ac (vV (an Z Z (bL _ _ _) ) Z (vM Z Z (ae ?_)))))))
    exact vF [] Z Z (vS [1,34,35] Z) fun a w h => ⟨k,Nat.lt_succ_self k,_,H4,h⟩
   refine aa (aq Z) Z Z Z (dT c147) Z Z ?_
   refine aa (an Z Z (iN _ _)) Z Z Z (dT c147) Z Z ?_
   refine aa (al Z Z Z (aK (dT c147))) Z Z Z (dF c146) Z Z ?_
   refine vV (al Z Z Z (aO (dF c146))) Z (ae ?_)
   refine cG H4 (fun c148 H4 => ?_) fun c148 H4 => ?_
   ·refine aj Z (kC c148) (ag (ac (vA Z Z (ae (ap ?_)))))
    cases H4
    refine vP [] Z Z ?_
    exact az Z Z ⟨rfl,rfl⟩
   refine ak Z (ku c148) (aD (ac (vV (an Z Z (bL _ _ _) ) Z (vM Z Z (ae ?_)))))
   exact vF [] Z Z (vS [1,34,35] Z) fun a w h => ⟨k,Nat.lt_succ_self k,_,H4,h⟩
theorem kr.spec (K : Nat) (sv0 : Value) (A0 : HP) (l0 : List aA) (a1 : Int) (hA0 : cX A0 sv0 l0.length 6 (fl ar l0)) (r : (Int × Int)) (H : kr K l0 a1 = some r) : bu Tryd.prog 72 [sv0,I a1] [A0] (fun v M => v = (tU #[I r.1,I r.2]) ∧ M = [A0]) := by
 unfold kr at H
 refine bB Tryd.func72 Z 37 Z (nL Z) fun F w0 => ?_
 show cM (St 37 w0 F [(0,sv0),(1,I a1)] [A0]) _
 refine ag (ac (vA Z Z (vA Z Z (ae (ag (ag (ac (vM Z Z ?_))))))))
 obtain ⟨x16,h16,H⟩ := bC H
 refine aL (aX (first := []) (cap := []) (xs := [.tmp 9]) Z Z ov Z (ji.spec a1 _ h16)) Z Z Z ?_
 rintro _ _ ⟨rfl,rfl⟩
 refine vV (gV Z (il _)) Z (vM Z Z ?_)
 refine cG H (fun c42 H => ?_) fun c42 H => ?_
 ·refine af Z Z Z c42 Z Z ?_
  refine af Z Z Z c42 Z Z ?_
  refine af Z Z Z c42 Z Z ?_
  refine vV (al Z Z Z (aK c42)) Z (vM Z Z ?_)
  refine af Z Z Z Z Z Z ?_
  refine af Z Z Z Z Z Z ?_
  refine af Z Z Z Z Z Z ?_
  refine vV (al Z Z Z Z) Z (ae (aj Z Z (ag (ac (vA Z Z (vA Z Z (ae (ap ?_))))))))
  cases H
  refine vP [0] Z Z ?_
  exact bG (vs := [I 1,I 0]) Z ⟨rfl,⟨rfl,trivial⟩⟩ _ Z ⟨rfl,rfl⟩
 refine aa (aq Z) Z Z Z (bF c42) Z Z ?_
 refine aa (bV 0 Z cw Z hA0) Z Z Z (bF c42) Z Z ?_
 refine aa (an Z Z (bg _ _ _)) Z Z Z (bF c42) Z Z ?_
 refine vV (al Z Z Z (aO (bF c42))) Z (vM Z Z ?_)
 refine cG H (fun c43 H => ?_) fun c43 H => ?_
 ·refine af Z Z Z (aY c43) Z Z ?_
  refine af Z Z Z (aY c43) Z Z ?_
  refine af Z Z Z (aY c43) Z Z ?_
  refine vV (al Z Z Z (aK (aY c43))) Z (ae (aj Z Z (ag (ac (vA Z Z (vA Z Z (ae (ap ?_))))))))
  cases H
  refine vP [0] Z Z ?_
  exact bG (vs := [I 1,I 0]) Z ⟨rfl,⟨rfl,trivial⟩⟩ _ Z ⟨rfl,rfl⟩
 refine aa (aq Z) Z Z Z (bd c43) Z Z ?_
 refine aa (bV 0 Z cw Z hA0) Z Z Z (bd c43) Z Z ?_
 refine aa (an Z Z (eJ _ _ _)) Z Z Z (bd c43) Z Z ?_
 refine vV (al Z Z Z (aO (bd c43))) Z (ae ?_)
 refine cG H (fun c44 H => ?_) fun c44 H => ?_
 ·refine aj Z (dT c44) (ag (ac (vA Z Z (vA Z Z (ae (ap ?_))))))
  cases H
  refine vP [0] Z Z ?_
  exact bG (vs := [I 1,I 0]) Z ⟨rfl,⟨rfl,trivial⟩⟩ _ Z ⟨rfl,rfl⟩
 refine ak Z (dF c44) (aD (ag (ag (ac (vM Z Z (vV (bV 0 Z cw Z hA0) Z (vM Z Z (ae (aP ?_)))))))))
 refine cK (fun k a w => ∃ i6,ij K l0 a1 k i6 = some r ∧ St 37 w0 F [(1,I a1),(22,sv0),(23,I (l0.length : Int)),(24,I i6)] [A0] a w) K ?_ ?_
 ·exact vF [0] Z Z (vS [1,22,23,24] Z) fun a w h => ⟨_,H,h⟩
 ·refine fun k => aJ fun i6 => ca fun H4 => ?_
  let C0_ : List Value := [I (((l0.getD i6.toNat ax).Key).Hour),ay (((l0.getD i6.toNat ax).Key).Dims_0),ay (((l0.getD i6.toNat ax).Key).Dims_1),ay (((l0.getD i6.toNat ax).Key).Dims_2),ay (((l0.getD i6.toNat ax).Key).Dims_3),I ((l0.getD i6.toNat ax).Value)]
  cases k with
  | zero => exact absurd H4 (by simp [C0_,ij])
  | succ k =>
   rw [ij] at H4
   refine ag (ac (vV (an Z Z (cl _ _ _)) Z (ae (ag ?_))))
   refine eW H4 (fun c72 H4 => ?_) fun c72 H4 => ?_
   ·refine ak Z (dF c72) (bZ (ag (ac (vA Z Z (vA Z Z (ae (ap ?_)))))))
    cases H4
    refine vP [0] Z Z ?_
    exact bG (vs := [I 0,I 0]) Z ⟨rfl,⟨rfl,trivial⟩⟩ _ Z ⟨rfl,rfl⟩
   refine aj Z (dT c72) (aD (ag (aP (ag (ac (vM Z Z ?_))))))
   obtain ⟨c75,H4⟩ := eX H4
   refine vV (bz (sz := 5) 0 Z Z cw dE Z hA0 c75 c72) Z ?_
   refine vV (aN (vs := C0_) Z kG dE (cP (i := 0) Z hA0 (by simp [C0_]) (dP bP (bJ c75 c72) Z))) Z ?_
   refine aL (cS jZ) Z Z Z ?_
   rintro _ _ ⟨b24,rfl,rfl⟩
   refine vA Z Z ?_
   refine bp (aZ (cs := [I 0,S0,S0,S0,S0,I 0]) (cs' := C0_) (us := C0_) (L' := [box b24 54 C0_,A0]) 0 Z Z Z (bH Z) dE Z Z (by simp [C0_]) Z) Z Z ?_
   rintro _ _ rfl
   refine ae (ag (ac (vV (aN (vs := C0_) Z kG dE (aR (i := 0) Z)) Z (vM Z Z ?_))))
   obtain ⟨x28,h28,H4⟩ := oB H4
   refine aL (aX (first := []) (cap := []) (xs := [.tmp 29,.tmp 30]) Z Z wn Z (kq.spec K (((l0.getD i6.toNat ax).Key).Hour) (((l0.getD i6.toNat ax).Key).Dims_0) (((l0.getD i6.toNat ax).Key).Dims_1) (((l0.getD i6.toNat ax).Key).Dims_2) (((l0.getD i6.toNat ax).Key).Dims_3) ((l0.getD i6.toNat ax).Value) a1 _ h28)) Z Z Z ?_
   rintro _ _ ⟨rfl,rfl⟩
   refine vA Z Z (ae (ag (ac (vM Z Z (vV (an Z Z (kN _ _ _)) Z (ae ?_))))))
   refine eW H4 (fun c76 H4 => ?_) fun c76 H4 => ?_
   ·refine ak Z (iZ c76) (aD (ac (vV (an Z Z (bL _ _ _) ) Z (vM Z Z (ae ?_)))))
    exact vF [1] Z Z (vS [1,22,23,24] Z) fun a w h => ⟨k,Nat.lt_succ_self k,_,H4,h⟩
   refine aj Z (ja c76) (ag (ac (vM Z Z (vM Z Z (vA Z Z (vA Z Z (ae (ap ?_))))))))
   cases H4
   refine vP [1] Z Z ?_
   exact bG (vs := [I x28,I i6]) Z ⟨rfl,⟨rfl,trivial⟩⟩ _ Z ⟨rfl,rfl⟩
theorem gb.spec (K : Nat) (sv0 : Value) (l0 : List aA) (a1 : Int) (r : Bool) (H : gb K l0 a1 = some r) : bu Tryd.prog 51 [agg #[I 1,I 0,sv0,I 0,I 0,B0,B0,B0,B0,B0,B0,B0,B0,S0,S0,S0,S0,I 0,I 0,I 0,I 0,I 0,I 0,I 0,I 0,I 0,L0],I a1] [own sv0 54 6 l0.length (fl ar l0)] (fun v M => v = (bool r) ∧ M = [own sv0 54 6 l0.length (fl ar l0)]) := by
 unfold gb at H
 refine bB Tryd.func51 Z 58 Z (nL Z) fun F w0 => ?_
 let C1_ : List Value := [I 1,I 0,sv0,I 0,I 0,B0,B0,B0,B0,B0,B0,B0,B0,S0,S0,S0,S0,I 0,I 0,I 0,I 0,I 0,I 0,I 0,I 0,I 0,L0]
 show cM (St 58 w0 F [(0,agg #[I 1,I 0,sv0,I 0,I 0,B0,B0,B0,B0,B0,B0,B0,B0,S0,S0,S0,S0,I 0,I 0,I 0,I 0,I 0,I 0,I 0,I 0,I 0,L0]),(1,I a1)] [own sv0 54 6 l0.length (fl ar l0)]) _
 refine ag (ac ?_)
 refine aL (gx (cs := C1_) Z Z) Z Z Z ?_
 rintro _ _ ⟨b3,rfl,rfl⟩
 refine vA Z Z (ae (ag (ac (vV (aN (vs := C1_) Z bf aE (aR (i := 0) Z)) Z ?_))))
 obtain ⟨x6,h6,H⟩ := bC H
 let C0_ : List Value := [I x6.1,I x6.2.1,L0,I x6.2.2.1,I x6.2.2.2.1,bool x6.2.2.2.2.1,bool x6.2.2.2.2.2.1,bool x6.2.2.2.2.2.2.1,bool x6.2.2.2.2.2.2.2.1,bool x6.2.2.2.2.2.2.2.2.1,bool x6.2.2.2.2.2.2.2.2.2.1,bool x6.2.2.2.2.2.2.2.2.2.2.1,bool x6.2.2.2.2.2.2.2.2.2.2.2.1,ay x6.2.2.2.2.2.2.2.2.2.2.2.2.1,ay x6.2.2.2.2.2.2.2.2.2.2.2.2.2.1,ay x6.2.2.2.2.2.2.2.2.2.2.2.2.2.2.1,ay x6.2.2.2.2.2.2.2.2.2.2.2.2.2.2.2.1,I x6.2.2.2.2.2.2.2.2.2.2.2.2.2.2.2.2.1,I x6.2.2.2.2.2.2.2.2.2.2.2.2.2.2.2.2.2.1,I x6.2.2.2.2.2.2.2.2.2.2.2.2.2.2.2.2.2.2.1,I x6.2.2.2.2.2.2.2.2.2.2.2.2.2.2.2.2.2.2.2.1,I x6.2.2.2.2.2.2.2.2.2.2.2.2.2.2.2.2.2.2.2.2.1,I x6.2.2.2.2.2.2.2.2.2.2.2.2.2.2.2.2.2.2.2.2.2.1,I x6.2.2.2.2.2.2.2.2.2.2.2.2.2.2.2.2.2.2.2.2.2.2.1,I x6.2.2.2.2.2.2.2.2.2.2.2.2.2.2.2.2.2.2.2.2.2.2.2.1,I x6.2.2.2.2.2.2.2.2.2.2.2.2.2.2.2.2.2.2.2.2.2.2.2.2,L0]
 refine aL (bt (Lr := [box b3 41 C1_]) [1,0] [1,0] (first := []) (cap := []) (xs := [.tmp 8]) Z Z lD Z (je.spec sv0 l0 _ h6) (by decide) Z (by decide) Z) Z Z Z ?_
 rintro _ _ ⟨rfl,rfl⟩
 refine aL (cS bv) Z Z Z ?_
 rintro _ _ ⟨b4,rfl,rfl⟩
 let C2_ : List HP := [box b4 41 C0_,box b3 41 C1_,own sv0 54 6 l0.length (fl ar l0)]
 refine bp (aZ (cs := [I 0,I 0,L0,I 0,I 0,B0,B0,B0,B0,B0,B0,B0,B0,S0,S0,S0,S0,I 0,I 0,I 0,I 0,I 0,I 0,I 0,I 0,I 0,L0]) (cs' := C0_) (us := C0_) (L' := C2_) 0 Z Z Z (bH Z) aE Z Z (by simp [C1_,C0_,C2_]) Z) Z Z ?_
 rintro _ _ rfl
 refine ae (ag (ag (ac (vV (am (sz := 0) (o := 0) Z bA bE) Z (vV (aB (v := (I 1)) Z ci (au (i := 1) Z Z)) Z (vV (an Z Z (cl _ _ _)) Z (vM Z Z ?_)))))))
 refine aa (am (sz := 0) (o := 0) Z bA bE) Z Z Z Z Z Z ?_
 refine aa (aB (v := (I 1)) Z ci (au (i := 1) Z Z)) Z Z Z Z Z Z ?_
 refine aa (an Z Z (eJ _ _ _)) Z Z Z Z Z Z ?_
 refine vV (al Z Z Z Z) Z (vM Z Z ?_)
 refine aa (aN (vs := C0_) Z bf aE (aR (i := 0) Z)) Z Z Z Z Z Z ?_
 refine bc 54 6 ?_
 refine bc 4 1 ?_
 refine cv (bN (sz := 26) (xs := [.tmp 19]) (cs := av (⟨x6.1,x6.2.1,[],(⟨x6.2.2.1,x6.2.2.2.1,x6.2.2.2.2.1,x6.2.2.2.2.2.1,x6.2.2.2.2.2.2.1,x6.2.2.2.2.2.2.2.1,x6.2.2.2.2.2.2.2.2.1,x6.2.2.2.2.2.2.2.2.2.1,x6.2.2.2.2.2.2.2.2.2.2.1,x6.2.2.2.2.2.2.2.2.2.2.2.1,x6.2.2.2.2.2.2.2.2.2.2.2.2.1,x6.2.2.2.2.2.2.2.2.2.2.2.2.2.1,x6.2.2.2.2.2.2.2.2.2.2.2.2.2.2.1,x6.2.2.2.2.2.2.2.2.2.2.2.2.2.2.2.1⟩ : aF),(⟨x6.2.2.2.2.2.2.2.2.2.2.2.2.2.2.2.2.1,x6.2.2.2.2.2.2.2.2.2.2.2.2.2.2.2.2.2.1,x6.2.2.2.2.2.2.2.2.2.2.2.2.2.2.2.2.2.2.1,x6.2.2.2.2.2.2.2.2.2.2.2.2.2.2.2.2.2.2.2.1,x6.2.2.2.2.2.2.2.2.2.2.2.2.2.2.2.2.2.2.2.2.1,x6.2.2.2.2.2.2.2.2.2.2.2.2.2.2.2.2.2.2.2.2.2.1,x6.2.2.2.2.2.2.2.2.2.2.2.2.2.2.2.2.2.2.2.2.2.2.1,x6.2.2.2.2.2.2.2.2.2.2.2.2.2.2.2.2.2.2.2.2.2.2.2.1,x6.2.2.2.2.2.2.2.2.2.2.2.2.2.2.2.2.2.2.2.2.2.2.2.2⟩ : aC),[]⟩ : aG) (gU [L0,L0])) Z Z dK aE bv Z Z (dX Z) Z (by decide)) Z Z Z Z Z Z ?_
 rintro sv7 _ rfl
 refine gI [own sv7 41 27 1 (av (⟨x6.1,x6.2.1,[],(⟨x6.2.2.1,x6.2.2.2.1,x6.2.2.2.2.1,x6.2.2.2.2.2.1,x6.2.2.2.2.2.2.1,x6.2.2.2.2.2.2.2.1,x6.2.2.2.2.2.2.2.2.1,x6.2.2.2.2.2.2.2.2.2.1,x6.2.2.2.2.2.2.2.2.2.2.1,x6.2.2.2.2.2.2.2.2.2.2.2.1,x6.2.2.2.2.2.2.2.2.2.2.2.2.1,x6.2.2.2.2.2.2.2.2.2.2.2.2.2.1,x6.2.2.2.2.2.2.2.2.2.2.2.2.2.2.1,x6.2.2.2.2.2.2.2.2.2.2.2.2.2.2.2.1⟩ : aF),(⟨x6.2.2.2.2.2.2.2.2.2.2.2.2.2.2.2.2.1,x6.2.2.2.2.2.2.2.2.2.2.2.2.2.2.2.2.2.1,x6.2.2.2.2.2.2.2.2.2.2.2.2.2.2.2.2.2.2.1,x6.2.2.2.2.2.2.2.2.2.2.2.2.2.2.2.2.2.2.2.1,x6.2.2.2.2.2.2.2.2.2.2.2.2.2.2.2.2.2.2.2.2.1,x6.2.2.2.2.2.2.2.2.2.2.2.2.2.2.2.2.2.2.2.2.2.1,x6.2.2.2.2.2.2.2.2.2.2.2.2.2.2.2.2.2.2.2.2.2.2.1,x6.2.2.2.2.2.2.2.2.2.2.2.2.2.2.2.2.2.2.2.2.2.2.2.1,x6.2.2.2.2.2.2.2.2.2.2.2.2.2.2.2.2.2.2.2.2.2.2.2.2⟩ : aC),[]⟩ : aG) (gU [L0,L0])),own L0 4 1 ([] : List Bool).length (fl eB ([] : List Bool)),own L0 54 6 ([] : List aA).length (fl ar ([] : List aA)),box b4 41 C0_,box b3 41 C1_,own sv0 54 6 l0.length (fl ar l0)] Z ?_
 refine aa (am (sz := 0) (o := 0) Z bA bE) Z Z Z Z Z Z ?_
 refine aa (aB (v := (I 1)) Z ci (au (i := 4) Z Z)) Z Z Z Z Z Z ?_
 refine aa (bW (is := [0]) (xs := [.tmp 22]) (vs := [I 1]) Z Z (bl (cs := [I 1,I 0,L0,I 0,I 0,B0,B0,B0,B0,B0,B0,B0,B0,S0,S0,S0,S0,I 0,I 0,I 0,I 0,I 0,I 0,I 0,I 0,I 0,L0]) bv dn Z)) Z Z Z Z Z Z ?_
 refine bc 54 6 ?_
 refine bc 4 1 ?_
 refine cv (bN (sz := 26) (xs := [.tmp 23]) (cs := av (⟨1,0,[],(⟨0,0,false,false,false,false,false,false,false,false,nB,nB,nB,nB⟩ : aF),(⟨0,0,0,0,0,0,0,0,0⟩ : aC),[]⟩ : aG) (gU [L0,L0])) Z Z dK aE bv Z Z (dX Z) Z (by decide)) Z Z Z Z Z Z ?_
 rintro sv8 _ rfl
 refine gI [own sv8 41 27 1 (av (⟨1,0,[],(⟨0,0,false,false,false,false,false,false,false,false,nB,nB,nB,nB⟩ : aF),(⟨0,0,0,0,0,0,0,0,0⟩ : aC),[]⟩ : aG) (gU [L0,L0])),own L0 4 1 ([] : List Bool).length (fl eB ([] : List Bool)),own L0 54 6 ([] : List aA).length (fl ar ([] : List aA)),own sv7 41 27 1 (av (⟨x6.1,x6.2.1,[],(⟨x6.2.2.1,x6.2.2.2.1,x6.2.2.2.2.1,x6.2.2.2.2.2.1,x6.2.2.2.2.2.2.1,x6.2.2.2.2.2.2.2.1,x6.2.2.2.2.2.2.2.2.1,x6.2.2.2.2.2.2.2.2.2.1,x6.2.2.2.2.2.2.2.2.2.2.1,x6.2.2.2.2.2.2.2.2.2.2.2.1,x6.2.2.2.2.2.2.2.2.2.2.2.2.1,x6.2.2.2.2.2.2.2.2.2.2.2.2.2.1,x6.2.2.2.2.2.2.2.2.2.2.2.2.2.2.1,x6.2.2.2.2.2.2.2.2.2.2.2.2.2.2.2.1⟩ : aF),(⟨x6.2.2.2.2.2.2.2.2.2.2.2.2.2.2.2.2.1,x6.2.2.2.2.2.2.2.2.2.2.2.2.2.2.2.2.2.1,x6.2.2.2.2.2.2.2.2.2.2.2.2.2.2.2.2.2.2.1,x6.2.2.2.2.2.2.2.2.2.2.2.2.2.2.2.2.2.2.2.1,x6.2.2.2.2.2.2.2.2.2.2.2.2.2.2.2.2.2.2.2.2.1,x6.2.2.2.2.2.2.2.2.2.2.2.2.2.2.2.2.2.2.2.2.2.1,x6.2.2.2.2.2.2.2.2.2.2.2.2.2.2.2.2.2.2.2.2.2.2.1,x6.2.2.2.2.2.2.2.2.2.2.2.2.2.2.2.2.2.2.2.2.2.2.2.1,x6.2.2.2.2.2.2.2.2.2.2.2.2.2.2.2.2.2.2.2.2.2.2.2.2⟩ : aC),[]⟩ : aG) (gU [L0,L0])),own L0 4 1 ([] : List Bool).length (fl eB ([] : List Bool)),own L0 54 6 ([] : List aA).length (fl ar ([] : List aA)),box b4 41 C0_,box b3 41 C1_,own sv0 54 6 l0.length (fl ar l0)] Z ?_
 refine iT (enc := av) (R := aI) (iv := (gU [L0,L0])) (el := (⟨x6.1,x6.2.1,[],(⟨x6.2.2.1,x6.2.2.2.1,x6.2.2.2.2.1,x6.2.2.2.2.2.1,x6.2.2.2.2.2.2.1,x6.2.2.2.2.2.2.2.1,x6.2.2.2.2.2.2.2.2.1,x6.2.2.2.2.2.2.2.2.2.1,x6.2.2.2.2.2.2.2.2.2.2.1,x6.2.2.2.2.2.2.2.2.2.2.2.1,x6.2.2.2.2.2.2.2.2.2.2.2.2.1,x6.2.2.2.2.2.2.2.2.2.2.2.2.2.1,x6.2.2.2.2.2.2.2.2.2.2.2.2.2.2.1,x6.2.2.2.2.2.2.2.2.2.2.2.2.2.2.2.1⟩ : aF),(⟨x6.2.2.2.2.2.2.2.2.2.2.2.2.2.2.2.2.1,x6.2.2.2.2.2.2.2.2.2.2.2.2.2.2.2.2.2.1,x6.2.2.2.2.2.2.2.2.2.2.2.2.2.2.2.2.2.2.1,x6.2.2.2.2.2.2.2.2.2.2.2.2.2.2.2.2.2.2.2.1,x6.2.2.2.2.2.2.2.2.2.2.2.2.2.2.2.2.2.2.2.2.1,x6.2.2.2.2.2.2.2.2.2.2.2.2.2.2.2.2.2.2.2.2.2.1,x6.2.2.2.2.2.2.2.2.2.2.2.2.2.2.2.2.2.2.2.2.2.2.1,x6.2.2.2.2.2.2.2.2.2.2.2.2.2.2.2.2.2.2.2.2.2.2.2.1,x6.2.2.2.2.2.2.2.2.2.2.2.2.2.2.2.2.2.2.2.2.2.2.2.2⟩ : aC),[]⟩ : aG)) (M := [own L0 54 6 ([] : List aA).length (fl ar ([] : List aA)),own L0 4 1 ([] : List Bool).length (fl eB ([] : List Bool))]) (Lr := [own sv8 41 27 1 (av (⟨1,0,[],(⟨0,0,false,false,false,false,false,false,false,false,nB,nB,nB,nB⟩ : aF),(⟨0,0,0,0,0,0,0,0,0⟩ : aC),[]⟩ : aG) (gU [L0,L0])),own L0 4 1 ([] : List Bool).length (fl eB ([] : List Bool)),own L0 54 6 ([] : List aA).length (fl ar ([] : List aA)),box b4 41 C0_,box b3 41 C1_,own sv0 54 6 l0.length (fl ar l0)]) [3,5,4,0,1,2,6,7,8] (by decide) Z Z ?_
 refine gI [(dW (JM.mk sv7 (fun _ => (gU [L0,L0]))) 41 27 av aI [(⟨x6.1,x6.2.1,[],(⟨x6.2.2.1,x6.2.2.2.1,x6.2.2.2.2.1,x6.2.2.2.2.2.1,x6.2.2.2.2.2.2.1,x6.2.2.2.2.2.2.2.1,x6.2.2.2.2.2.2.2.2.1,x6.2.2.2.2.2.2.2.2.2.1,x6.2.2.2.2.2.2.2.2.2.2.1,x6.2.2.2.2.2.2.2.2.2.2.2.1,x6.2.2.2.2.2.2.2.2.2.2.2.2.1,x6.2.2.2.2.2.2.2.2.2.2.2.2.2.1,x6.2.2.2.2.2.2.2.2.2.2.2.2.2.2.1,x6.2.2.2.2.2.2.2.2.2.2.2.2.2.2.2.1⟩ : aF),(⟨x6.2.2.2.2.2.2.2.2.2.2.2.2.2.2.2.2.1,x6.2.2.2.2.2.2.2.2.2.2.2.2.2.2.2.2.2.1,x6.2.2.2.2.2.2.2.2.2.2.2.2.2.2.2.2.2.2.1,x6.2.2.2.2.2.2.2.2.2.2.2.2.2.2.2.2.2.2.2.1,x6.2.2.2.2.2.2.2.2.2.2.2.2.2.2.2.2.2.2.2.2.1,x6.2.2.2.2.2.2.2.2.2.2.2.2.2.2.2.2.2.2.2.2.2.1,x6.2.2.2.2.2.2.2.2.2.2.2.2.2.2.2.2.2.2.2.2.2.2.1,x6.2.2.2.2.2.2.2.2.2.2.2.2.2.2.2.2.2.2.2.2.2.2.2.1,x6.2.2.2.2.2.2.2.2.2.2.2.2.2.2.2.2.2.2.2.2.2.2.2.2⟩ : aC),[]⟩ : aG)]),own sv8 41 27 1 (av (⟨1,0,[],(⟨0,0,false,false,false,false,false,false,false,false,nB,nB,nB,nB⟩ : aF),(⟨0,0,0,0,0,0,0,0,0⟩ : aC),[]⟩ : aG) (gU [L0,L0])),own L0 4 1 ([] : List Bool).length (fl eB ([] : List Bool)),own L0 54 6 ([] : List aA).length (fl ar ([] : List aA)),box b4 41 C0_,box b3 41 C1_,own sv0 54 6 l0.length (fl ar l0)] Z ?_
 refine iT (enc := av) (R := aI) (iv := (gU [L0,L0])) (el := (⟨1,0,[],(⟨0,0,false,false,false,false,false,false,false,false,nB,nB,nB,nB⟩ : aF),(⟨0,0,0,0,0,0,0,0,0⟩ : aC),[]⟩ : aG)) (M := [own L0 54 6 ([] : List aA).length (fl ar ([] : List aA)),own L0 4 1 ([] : List Bool).length (fl eB ([] : List Bool))]) (Lr := [(dW (JM.mk sv7 (fun _ => (gU [L0,L0]))) 41 27 av aI [(⟨x6.1,x6.2.1,[],(⟨x6.2.2.1,x6.2.2.2.1,x6.2.2.2.2.1,x6.2.2.2.2.2.1,x6.2.2.2.2.2.2.1,x6.2.2.2.2.2.2.2.1,x6.2.2.2.2.2.2.2.2.1,x6.2.2.2.2.2.2.2.2.2.1,x6.2.2.2.2.2.2.2.2.2.2.1,x6.2.2.2.2.2.2.2.2.2.2.2.1,x6.2.2.2.2.2.2.2.2.2.2.2.2.1,x6.2.2.2.2.2.2.2.2.2.2.2.2.2.1,x6.2.2.2.2.2.2.2.2.2.2.2.2.2.2.1,x6.2.2.2.2.2.2.2.2.2.2.2.2.2.2.2.1⟩ : aF),(⟨x6.2.2.2.2.2.2.2.2.2.2.2.2.2.2.2.2.1,x6.2.2.2.2.2.2.2.2.2.2.2.2.2.2.2.2.2.1,x6.2.2.2.2.2.2.2.2.2.2.2.2.2.2.2.2.2.2.1,x6.2.2.2.2.2.2.2.2.2.2.2.2.2.2.2.2.2.2.2.1,x6.2.2.2.2.2.2.2.2.2.2.2.2.2.2.2.2.2.2.2.2.1,x6.2.2.2.2.2.2.2.2.2.2.2.2.2.2.2.2.2.2.2.2.2.1,x6.2.2.2.2.2.2.2.2.2.2.2.2.2.2.2.2.2.2.2.2.2.2.1,x6.2.2.2.2.2.2.2.2.2.2.2.2.2.2.2.2.2.2.2.2.2.2.2.1,x6.2.2.2.2.2.2.2.2.2.2.2.2.2.2.2.2.2.2.2.2.2.2.2.2⟩ : aC),[]⟩ : aG)]),box b4 41 C0_,box b3 41 C1_,own sv0 54 6 l0.length (fl ar l0)]) [1,3,2,0,4,5,6] (by decide) Z Z ?_
 refine gI [(dW (JM.mk sv8 (fun _ => (gU [L0,L0]))) 41 27 av aI [(⟨1,0,[],(⟨0,0,false,false,false,false,false,false,false,false,nB,nB,nB,nB⟩ : aF),(⟨0,0,0,0,0,0,0,0,0⟩ : aC),[]⟩ : aG)]),(dW (JM.mk sv7 (fun _ => (gU [L0,L0]))) 41 27 av aI [(⟨x6.1,x6.2.1,[],(⟨x6.2.2.1,x6.2.2.2.1,x6.2.2.2.2.1,x6.2.2.2.2.2.1,x6.2.2.2.2.2.2.1,x6.2.2.2.2.2.2.2.1,x6.2.2.2.2.2.2.2.2.1,x6.2.2.2.2.2.2.2.2.2.1,x6.2.2.2.2.2.2.2.2.2.2.1,x6.2.2.2.2.2.2.2.2.2.2.2.1,x6.2.2.2.2.2.2.2.2.2.2.2.2.1,x6.2.2.2.2.2.2.2.2.2.2.2.2.2.1,x6.2.2.2.2.2.2.2.2.2.2.2.2.2.2.1,x6.2.2.2.2.2.2.2.2.2.2.2.2.2.2.2.1⟩ : aF),(⟨x6.2.2.2.2.2.2.2.2.2.2.2.2.2.2.2.2.1,x6.2.2.2.2.2.2.2.2.2.2.2.2.2.2.2.2.2.1,x6.2.2.2.2.2.2.2.2.2.2.2.2.2.2.2.2.2.2.1,x6.2.2.2.2.2.2.2.2.2.2.2.2.2.2.2.2.2.2.2.1,x6.2.2.2.2.2.2.2.2.2.2.2.2.2.2.2.2.2.2.2.2.1,x6.2.2.2.2.2.2.2.2.2.2.2.2.2.2.2.2.2.2.2.2.2.1,x6.2.2.2.2.2.2.2.2.2.2.2.2.2.2.2.2.2.2.2.2.2.2.1,x6.2.2.2.2.2.2.2.2.2.2.2.2.2.2.2.2.2.2.2.2.2.2.2.1,x6.2.2.2.2.2.2.2.2.2.2.2.2.2.2.2.2.2.2.2.2.2.2.2.2⟩ : aC),[]⟩ : aG)]),box b4 41 C0_,box b3 41 C1_,own sv0 54 6 l0.length (fl ar l0)] Z ?_
 obtain ⟨x8,h8,H⟩ := oB H
 refine cv (bt (Lr := C2_) [1,0,2,3,4] [1,0,2,3,4] (first := []) (cap := []) (xs := [.tmp 20,.tmp 24]) Z Z lG Z (bR.spec K (JM.mk sv7 (fun _ => (gU [L0,L0]))) (JM.mk sv8 (fun _ => (gU [L0,L0]))) [(⟨x6.1,x6.2.1,[],(⟨x6.2.2.1,x6.2.2.2.1,x6.2.2.2.2.1,x6.2.2.2.2.2.1,x6.2.2.2.2.2.2.1,x6.2.2.2.2.2.2.2.1,x6.2.2.2.2.2.2.2.2.1,x6.2.2.2.2.2.2.2.2.2.1,x6.2.2.2.2.2.2.2.2.2.2.1,x6.2.2.2.2.2.2.2.2.2.2.2.1,x6.2.2.2.2.2.2.2.2.2.2.2.2.1,x6.2.2.2.2.2.2.2.2.2.2.2.2.2.1,x6.2.2.2.2.2.2.2.2.2.2.2.2.2.2.1,x6.2.2.2.2.2.2.2.2.2.2.2.2.2.2.2.1⟩ : aF),(⟨x6.2.2.2.2.2.2.2.2.2.2.2.2.2.2.2.2.1,x6.2.2.2.2.2.2.2.2.2.2.2.2.2.2.2.2.2.1,x6.2.2.2.2.2.2.2.2.2.2.2.2.2.2.2.2.2.2.1,x6.2.2.2.2.2.2.2.2.2.2.2.2.2.2.2.2.2.2.2.1,x6.2.2.2.2.2.2.2.2.2.2.2.2.2.2.2.2.2.2.2.2.1,x6.2.2.2.2.2.2.2.2.2.2.2.2.2.2.2.2.2.2.2.2.2.1,x6.2.2.2.2.2.2.2.2.2.2.2.2.2.2.2.2.2.2.2.2.2.2.1,x6.2.2.2.2.2.2.2.2.2.2.2.2.2.2.2.2.2.2.2.2.2.2.2.1,x6.2.2.2.2.2.2.2.2.2.2.2.2.2.2.2.2.2.2.2.2.2.2.2.2⟩ : aC),[]⟩ : aG)] [(⟨1,0,[],(⟨0,0,false,false,false,false,false,false,false,false,nB,nB,nB,nB⟩ : aF),(⟨0,0,0,0,0,0,0,0,0⟩ : aC),[]⟩ : aG)] _ h8) (by decide) Z (by decide) Z) Z Z Z Z Z Z ?_
 rintro _ _ ⟨rfl,rfl⟩
 refine aa (gV Z (il _)) Z Z Z Z Z Z ?_
 refine vV (al Z Z Z Z) Z (ae ?_)
 refine cG H (fun c4 H => ?_) fun c4 H => ?_
 ·refine aj Z c4 (ag (ac (vA Z Z (ae (ap ?_)))))
  cases H
  refine vP [4] Z Z ?_
  exact az Z Z ⟨rfl,rfl⟩
 refine ak Z (bF c4) (aD (ag (ag (ac (vV (am (sz := 0) (o := 0) Z bA bE) Z (vV (aB (v := (I 1)) Z ci (au (i := 3) Z Z)) Z (ae (aP (ag (ac (vV (an Z Z (bg _ _ _)) Z ?_)))))))))))
 refine vA Z Z (ae (aj Z Z (ag (ac (vV (am (sz := 0) (o := 0) Z dY fC) Z (vV (aB (v := sv0) Z hG (au (i := 3) Z Z)) Z (vM Z Z ?_)))))))
 obtain ⟨x10,h10,H⟩ := oB H
 refine aL (bt (Lr := [(dW (JM.mk sv8 (fun _ => (gU [L0,L0]))) 41 27 av aI [(⟨1,0,[],(⟨0,0,false,false,false,false,false,false,false,false,nB,nB,nB,nB⟩ : aF),(⟨0,0,0,0,0,0,0,0,0⟩ : aC),[]⟩ : aG)]),(dW (JM.mk sv7 (fun _ => (gU [L0,L0]))) 41 27 av aI [(⟨x6.1,x6.2.1,[],(⟨x6.2.2.1,x6.2.2.2.1,x6.2.2.2.2.1,x6.2.2.2.2.2.1,x6.2.2.2.2.2.2.1,x6.2.2.2.2.2.2.2.1,x6.2.2.2.2.2.2.2.2.1,x6.2.2.2.2.2.2.2.2.2.1,x6.2.2.2.2.2.2.2.2.2.2.1,x6.2.2.2.2.2.2.2.2.2.2.2.1,x6.2.2.2.2.2.2.2.2.2.2.2.2.1,x6.2.2.2.2.2.2.2.2.2.2.2.2.2.1,x6.2.2.2.2.2.2.2.2.2.2.2.2.2.2.1,x6.2.2.2.2.2.2.2.2.2.2.2.2.2.2.2.1⟩ : aF),(⟨x6.2.2.2.2.2.2.2.2.2.2.2.2.2.2.2.2.1,x6.2.2.2.2.2.2.2.2.2.2.2.2.2.2.2.2.2.1,x6.2.2.2.2.2.2.2.2.2.2.2.2.2.2.2.2.2.2.1,x6.2.2.2.2.2.2.2.2.2.2.2.2.2.2.2.2.2.2.2.1,x6.2.2.2.2.2.2.2.2.2.2.2.2.2.2.2.2.2.2.2.2.1,x6.2.2.2.2.2.2.2.2.2.2.2.2.2.2.2.2.2.2.2.2.2.1,x6.2.2.2.2.2.2.2.2.2.2.2.2.2.2.2.2.2.2.2.2.2.2.1,x6.2.2.2.2.2.2.2.2.2.2.2.2.2.2.2.2.2.2.2.2.2.2.2.1,x6.2.2.2.2.2.2.2.2.2.2.2.2.2.2.2.2.2.2.2.2.2.2.2.2⟩ : aC),[]⟩ : aG)]),box b4 41 C0_,box b3 41 C1_]) [4,0,1,2,3] [1,2,3,4,0] (first := []) (cap := []) (xs := [.tmp 34,.tmp 35]) Z Z qC Z (kr.spec K sv0 (own sv0 54 6 l0.length (fl ar l0)) l0 a1 (aQ 54) _ h10) (by decide) Z (by decide) Z) Z Z Z ?_
 rintro _ _ ⟨rfl,rfl⟩
 refine vM Z Z (vV (bU Z Z) Z (vV (bU Z Z) Z (vA Z Z (vA Z Z (ae (ag (ac (vM Z Z (vV (an Z Z (bg _ _ _)) Z (vA Z Z (ae ?_)))))))))))
 refine ap ?_
 cases H
 refine vP [4] Z Z ?_
 exact az Z Z ⟨rfl,rfl⟩
end Go.Proofs.YtgbjponaoeiglaaDoor.WordsParses
end
