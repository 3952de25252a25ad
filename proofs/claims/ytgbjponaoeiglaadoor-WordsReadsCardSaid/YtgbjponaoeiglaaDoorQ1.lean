/- wordsReads_card: a part of what its proof rests on. -/
import Derived.Test.YtgbjponaoeiglaaDoorQ0
set_option linter.unusedVariables false
set_option linter.unusedSimpArgs false
section
set_option linter.unusedVariables false
namespace Go.Proofs.YtgbjponaoeiglaaDoor.WordsReads
open Go E
structure iV where
  Hour:Int
  Dims_0:List UInt8
  Dims_1:List UInt8
  Dims_2:List UInt8
  Dims_3:List UInt8
  deriving DecidableEq
def xq:iV:=⟨0,[],[],[],[]⟩
structure aA where
  Key:iV
  Value:Int
  deriving DecidableEq
def ax:aA:=⟨xq,0⟩
structure aI where
  From:Int
  To:Int
  Group_0:Bool
  Group_1:Bool
  Group_2:Bool
  Group_3:Bool
  Has_0:Bool
  Has_1:Bool
  Has_2:Bool
  Has_3:Bool
  Filter_0:List UInt8
  Filter_1:List UInt8
  Filter_2:List UInt8
  Filter_3:List UInt8
  deriving DecidableEq
def tq:aI:=⟨0,0,false,false,false,false,false,false,false,false,[],[],[],[]⟩
structure aE where
  Retain:Int
  SealLag:Int
  DayLag:Int
  MonthLag:Int
  ColdLag:Int
  Base:Int
  Cap:Int
  Queue:Int
  Wal:Int
  deriving DecidableEq
def sI:aE:=⟨0,0,0,0,0,0,0,0,0⟩
structure aD where
  Kind:Int
  N:Int
  Facts:List aA
  Query:aI
  Rules:aE
  Fails:List Bool
  deriving DecidableEq
def ai:aD:=⟨0,0,[],tq,sI,[]⟩
def strings_Split (a0 a1:List UInt8):Option (List (List UInt8)):=match a1 with | [c]=>if a0.length < 4294967281 then some (dL c a0) else none | _=>none
def jY (a0:List UInt8):Option (List (List UInt8)):=(if a0 = ([]:List UInt8) then (some (([]:List (List UInt8)))) else ((strings_Split a0 ([32]:List UInt8)).bind fun x2=>(some (x2))))
def cM (l0:List (List UInt8)) (p0_1:Int):Option (Option ((List (List UInt8)) × (List UInt8))):=(if 0 < (l0.length:Int) then (if 1 ≤ (l0.length:Int) then (some (some ((l0.drop (1:Int).toNat),(l0.getD ((0:Int).toNat) [])))) else none) else (some (none)))
def br (l0:List (List UInt8)) (p0_1:Int):Option (Option ((List (List UInt8)) × (List UInt8))):=(if 0 < (l0.length:Int) then (if 1 ≤ (l0.length:Int) then (some (some ((l0.drop (1:Int).toNat),(l0.getD ((0:Int).toNat) [])))) else none) else (some (none)))
def kB (a0:Int):Bool:=(if (Int.tmod a0 4) = 0 then (if ¬ ((Int.tmod a0 100) = 0) then (true) else (((Int.tmod a0 400) == 0))) else (((Int.tmod a0 400) == 0)))
def ig (a0:Int) (a1:Int):Int:=(if a1 < 1 then (0) else (if 12 < a1 then (0) else (if a1 = 2 then (kr (kB a0) fun x4=>(if x4 = true then (29) else (28))) else (bj (30 + (AE .i64 (bj (a1 + (A4 .i64 a1 3))) 1))))))
def jC (a0:Int) (a1:Int) (a2:Int):Int:=(kr (if (bj (a1 - 3)) < 0 then ((bj (a0 - 1),bj ((bj (a1 - 3)) + 12))) else ((a0,bj (a1 - 3)))) fun x2=>(bj ((bj ((bj ((bj (Int.tdiv x2.1 400)) * 146097)) + (bj ((bj ((bj ((bj ((bj ((bj (365 * (Int.tmod x2.1 400))) + (bj (Int.tdiv (Int.tmod x2.1 400) 4)))) - (bj (Int.tdiv (Int.tmod x2.1 400) 100)))) + (bj (Int.tdiv (bj ((bj (153 * x2.2)) + 2)) 5)))) + a2)) - 1)))) - 719468)))
def jE (a0:Int) (a1:Int) (a2:Int):(Int × Bool):=(if a0 < 1970 then ((0,false)) else (if 4900 < a0 then ((0,false)) else (if a2 < 1 then ((0,false)) else (kr (ig a0 a1) fun x5=>(if x5 < a2 then ((0,false)) else (kr (jC a0 a1 a2) fun x6=>((x6,true))))))))
def dI (K:Nat) (a0:List UInt8):Nat → Int → Int → Int → Int → Int → Int → Option (Sum (Int × Int × Int × Int) (Int × Bool))
  | 0,_,_,_,_,_,_=>none
  | k + 1,i30,i31,i33,i34,i35,i36=>(if i31 < ((dn a0).length:Int) then (if 0 ≤ i31 then (if i31 < (([48,48,48,48,45,48,48,45,48,48,84,48,48]:List UInt8).length:Int) then (if ¬ (((([48,48,48,48,45,48,48,45,48,48,84,48,48]:List UInt8).getD i31.toNat 0).toNat:Int) = 48) then (if ¬ (((dn a0).getD i31.toNat 0) = ((([48,48,48,48,45,48,48,45,48,48,84,48,48]:List UInt8).getD i31.toNat 0).toNat:Int)) then (some (Sum.inr ((0,false)))) else (dI K a0 k (bj (i30 + 1)) (bj (i31 + 1)) i33 i34 i35 i36)) else (if ((dn a0).getD i31.toNat 0) < 48 then (some (Sum.inr ((0,false)))) else (if 57 < ((dn a0).getD i31.toNat 0) then (some (Sum.inr ((0,false)))) else (if 0 ≤ i30 then (if i30 < (4:Int) then (dI K a0 k i30 (bj (i31 + 1)) (if i30.toNat = 0 then bj ((bj (([i33,i34,i35,i36].getD i30.toNat 0) * 10)) + (bj (dR (((dn a0).getD i31.toNat 0) - 48)))) else i33) (if i30.toNat = 1 then bj ((bj (([i33,i34,i35,i36].getD i30.toNat 0) * 10)) + (bj (dR (((dn a0).getD i31.toNat 0) - 48)))) else i34) (if i30.toNat = 2 then bj ((bj (([i33,i34,i35,i36].getD i30.toNat 0) * 10)) + (bj (dR (((dn a0).getD i31.toNat 0) - 48)))) else i35) (if i30.toNat = 3 then bj ((bj (([i33,i34,i35,i36].getD i30.toNat 0) * 10)) + (bj (dR (((dn a0).getD i31.toNat 0) - 48)))) else i36)) else none) else none)))) else none) else none) else (some (Sum.inl (i33,i34,i35,i36))))
def jV (K:Nat) (a0:List UInt8):Option (Int × Bool):=(if ¬ ((a0.length:Int) = 13) then (some ((0,false))) else (Option.bind (if a0.length ≤ 9223372036854775807 then (dI K a0 K 0 0 0 0 0 0) else none) fun z=>(mD z (fun v2=>(if 0 < (4:Int) then (if 1 < (4:Int) then (if 2 < (4:Int) then (kr (jE v2.1 v2.2.1 v2.2.2.1) fun x4=>(if 3 < (4:Int) then (if (!x4.2) = true then (some ((0,false))) else (if 24 ≤ v2.2.2.2 then (some ((0,false))) else (if 16777216 < (bj ((bj (x4.1 * 24)) + v2.2.2.2)) then (some ((0,false))) else (some ((bj ((bj (x4.1 * 24)) + v2.2.2.2),true)))))) else none)) else none) else none) else none)) (fun t_=>(some (t_))))))
def gK (a0:Int):Bool:=(kr (if 48 ≤ a0 then (if a0 ≤ 57 then (decide (a0 ≤ 57)) else (if 97 ≤ a0 then (if a0 ≤ 122 then (decide (a0 ≤ 122)) else (if 65 ≤ a0 then (decide (a0 ≤ 90)) else (false))) else (if 65 ≤ a0 then (decide (a0 ≤ 90)) else (false)))) else (if 97 ≤ a0 then (if a0 ≤ 122 then (decide (a0 ≤ 122)) else (if 65 ≤ a0 then (decide (a0 ≤ 90)) else (false))) else (if 65 ≤ a0 then (decide (a0 ≤ 90)) else (false)))) fun x4=>(if x4 = true then (true) else (if a0 = 95 then (true) else ((a0 == 46)))))
def strings_IndexByte (a0:List UInt8) (a1:Int):Int:=mR a0 a1.toNat.toUInt8
def io (K:Nat) (a0:List UInt8):Nat → Int → (List Int) → Option (Sum (List Int) (Bool × (List UInt8)))
  | 0,_,_=>none
  | k + 1,i4,l6=>(if i4 < (a0.length:Int) then (if 0 ≤ i4 then (kr (gK ((a0.getD i4.toNat 0).toNat:Int)) fun x142=>(if x142 = true then (if (l6.length + [((a0.getD i4.toNat 0).toNat:Int)].length) * 1 ≤ 140737488355328 then (io K a0 k (bj (i4 + 1)) (l6 ++ [((a0.getD i4.toNat 0).toNat:Int)])) else none) else (if ¬ (((a0.getD i4.toNat 0).toNat:Int) = 37) then (some (Sum.inr ((false,([]:List UInt8))))) else (if (a0.length:Int) ≤ (bj (i4 + 2)) then (some (Sum.inr ((false,([]:List UInt8))))) else (if 0 ≤ (bj (i4 + 1)) then (if (bj (i4 + 1)) < (a0.length:Int) then (kr (strings_IndexByte ([48,49,50,51,52,53,54,55,56,57,97,98,99,100,101,102]:List UInt8) ((a0.getD (bj (i4 + 1)).toNat 0).toNat:Int)) fun x143=>(if 0 ≤ (bj (i4 + 2)) then (if (bj (i4 + 2)) < (a0.length:Int) then (kr (strings_IndexByte ([48,49,50,51,52,53,54,55,56,57,97,98,99,100,101,102]:List UInt8) ((a0.getD (bj (i4 + 2)).toNat 0).toNat:Int)) fun x144=>(if x143 < 0 then (some (Sum.inr ((false,([]:List UInt8))))) else (if x144 < 0 then (some (Sum.inr ((false,([]:List UInt8))))) else (kr (gK (dR (xD .i64 (pj .i64 x143 4) x144))) fun x146=>(if x146 = true then (some (Sum.inr ((false,([]:List UInt8))))) else (if (l6.length + [dR (xD .i64 (pj .i64 x143 4) x144)].length) * 1 ≤ 140737488355328 then (io K a0 k (bj ((bj (i4 + 2)) + 1)) (l6 ++ [dR (xD .i64 (pj .i64 x143 4) x144)])) else none)))))) else none) else none)) else none) else none))))) else none) else (some (Sum.inl l6)))
def gf (K:Nat) (a0:List UInt8):Option (Bool × (List UInt8)):=(if a0 = ([45]:List UInt8) then (some ((true,([]:List UInt8)))) else (Option.bind (io K a0 K 0 ([]:List Int)) fun z=>(mD z (fun v2=>(some ((decide (0 < (v2.length:Int)),(mg v2))))) (fun t_=>(some (t_))))))
def cB (K:Nat) (l0:List (List UInt8)) (p0_1:Int):Option (Option ((List (List UInt8)) × (List UInt8))):=((br l0 p0_1).bind fun x11=>(oK x11 (some (none)) fun x10=>((gf K x10.2).bind fun x12=>(if x12.1 = true then (some (some (x10.1,x12.2))) else (some (none))))))
def strings_CutPrefix (a0 a1:List UInt8):List UInt8 × Bool:=(if a1.isPrefixOf a0 then a0.drop a1.length else a0,a1.isPrefixOf a0)
def gJ (K:Nat) (x4:List UInt8 × Bool):Nat → Int → Int → Option (Sum Int (Int × Bool))
  | 0,_,_=>none
  | k + 1,i11,i12=>(if i12 < ((dn x4.1).length:Int) then (if 0 ≤ i12 then (if (bj ((bj ((dn x4.1).getD i12.toNat 0)) - 48)) < 0 then (some (Sum.inr ((0,false)))) else (if 9 < (bj ((bj ((dn x4.1).getD i12.toNat 0)) - 48)) then (some (Sum.inr ((0,false)))) else (if i11 < (-922337203685477580) then (some (Sum.inr ((0,false)))) else (if (bj (i11 * 10)) < (bj ((-9223372036854775808) + (bj ((bj ((dn x4.1).getD i12.toNat 0)) - 48)))) then (some (Sum.inr ((0,false)))) else (gJ K x4 k (bj ((bj (i11 * 10)) - (bj ((bj ((dn x4.1).getD i12.toNat 0)) - 48)))) (bj (i12 + 1))))))) else none) else (some (Sum.inl i11)))
def gb (K:Nat) (a0:List UInt8):Option (Int × Bool):=(kr (strings_CutPrefix a0 ([45]:List UInt8)) fun x4=>(Option.bind (if x4.1 = ([]:List UInt8) then (some (Sum.inr ((0,false)))) else (if 1 < (x4.1.length:Int) then (if 0 < (x4.1.length:Int) then (if ((x4.1.getD (0:Int).toNat 0).toNat:Int) = 48 then (some (Sum.inr ((0,false)))) else (if x4.2 = true then (if x4.1 = ([48]:List UInt8) then (some (Sum.inr ((0,false)))) else (some (Sum.inl ()))) else (some (Sum.inl ())))) else none) else (if x4.2 = true then (if x4.1 = ([48]:List UInt8) then (some (Sum.inr ((0,false)))) else (some (Sum.inl ()))) else (some (Sum.inl ()))))) fun z=>(mD z (fun v3=>(Option.bind (if x4.1.length ≤ 9223372036854775807 then (gJ K x4 K 0 0) else none) fun z=>(mD z (fun v4=>(if x4.2 = true then (some ((v4,true))) else (if v4 = (-9223372036854775808) then (some ((0,false))) else (some ((bj (0 - v4),true)))))) (fun t_=>(some (t_)))))) (fun t_=>(some (t_))))))
def aM (K:Nat) (l0:List (List UInt8)) (p0_1:Int):Option (Option ((List (List UInt8)) × Int)):=((br l0 p0_1).bind fun x11=>(oK x11 (some (none)) fun x10=>((gb K x10.2).bind fun x12=>(if x12.2 = true then (some (some (x10.1,x12.1))) else (some (none))))))
def db (K:Nat) (p0_1:Int):Nat → Int → (List (List UInt8)) → (List UInt8) → (List UInt8) → (List UInt8) → (List UInt8) → Option (Sum ((List (List UInt8)) × (List UInt8) × (List UInt8) × (List UInt8) × (List UInt8)) (Option ((List aA) × (List (List UInt8)))))
  | 0,_,_,_,_,_,_=>none
  | k + 1,i26,l46,t141,t142,t143,t144=>(if i26 < p0_1 then ((cB K l46 p0_1).bind fun x896=>(oK x896 (some (Sum.inr (none))) fun x895=>(if 0 ≤ i26 then (if i26 < (4:Int) then (db K p0_1 k (bj (i26 + 1)) x895.1 (if i26.toNat = 0 then x895.2 else t141) (if i26.toNat = 1 then x895.2 else t142) (if i26.toNat = 2 then x895.2 else t143) (if i26.toNat = 3 then x895.2 else t144)) else none) else none))) else (some (Sum.inl (l46,t141,t142,t143,t144))))
def en (K:Nat) (p0_1:Int):Nat → (List (List UInt8)) → (List aA) → Option (Option ((List aA) × (List (List UInt8))))
  | 0,_,_=>none
  | k + 1,l39,l40=>(if (l39.length:Int) = 0 then (some (some (l40,l39))) else (if (l40.length:Int) < 50 then ((br l39 p0_1).bind fun x830=>(oK x830 (some (none)) fun x829=>((jV K x829.2).bind fun x831=>(if x831.2 = true then (Option.bind (db K p0_1 K 0 x829.1 ([]:List UInt8) ([]:List UInt8) ([]:List UInt8) ([]:List UInt8)) fun z=>(mD z (fun v12=>((aM K v12.1 p0_1).bind fun x900=>(oK x900 (some (none)) fun x899=>(if (l40.length + [(⟨(⟨x831.1,v12.2.1,v12.2.2.1,v12.2.2.2.1,v12.2.2.2.2⟩:iV),x899.2⟩:aA)].length) * 80 ≤ 140737488355328 then (en K p0_1 k x899.1 (l40 ++ [(⟨(⟨x831.1,v12.2.1,v12.2.2.1,v12.2.2.2.1,v12.2.2.2.2⟩:iV),x899.2⟩:aA)])) else none)))) (fun t_=>(some (t_))))) else (some (none)))))) else (some (none))))
def cG (K:Nat) (l0:List (List UInt8)) (p0_1:Int):Option (Option ((List aA) × (List (List UInt8)))):=(en K p0_1 K l0 ([]:List aA))
def jm (l0:List aA):(Int × Int × Int × Int × Bool × Bool × Bool × Bool × Bool × Bool × Bool × Bool × (List UInt8) × (List UInt8) × (List UInt8) × (List UInt8) × Int × Int × Int × Int × Int × Int × Int × Int × Int):=((1,0,0,0,false,false,false,false,false,false,false,false,([]:List UInt8),([]:List UInt8),([]:List UInt8),([]:List UInt8),0,0,0,0,0,0,0,0,0))
def dc (K:Nat) (l0:List aA) (l1:List aA):Nat → Int → Option Bool
  | 0,_=>none
  | k + 1,i4=>(if i4 < (l0.length:Int) then (if 0 ≤ i4 then (if i4 < (l1.length:Int) then (if (!((((((l0.getD i4.toNat ax).Key).Hour) == (((l1.getD i4.toNat ax).Key).Hour)) && ((((((l0.getD i4.toNat ax).Key).Dims_0) == (((l1.getD i4.toNat ax).Key).Dims_0)) && (((((l0.getD i4.toNat ax).Key).Dims_1) == (((l1.getD i4.toNat ax).Key).Dims_1)) && (((((l0.getD i4.toNat ax).Key).Dims_2) == (((l1.getD i4.toNat ax).Key).Dims_2)) && (((((l0.getD i4.toNat ax).Key).Dims_3) == (((l1.getD i4.toNat ax).Key).Dims_3)) && true)))) && true)) && ((((l0.getD i4.toNat ax).Value) == ((l1.getD i4.toNat ax).Value)) && true))) = true then (some (false)) else (dc K l0 l1 k (bj (i4 + 1)))) else none) else none) else (some (true)))
def du (K:Nat) (l0:List aA) (l1:List aA):Option Bool:=(if ¬ ((l0.length:Int) = (l1.length:Int)) then (some (false)) else (dc K l0 l1 K 0))
def eC (K:Nat) (l0:List Bool) (l1:List Bool):Nat → Int → Option Bool
  | 0,_=>none
  | k + 1,i4=>(if i4 < (l0.length:Int) then (if 0 ≤ i4 then (if i4 < (l1.length:Int) then (if ((l0.getD i4.toNat false) != (l1.getD i4.toNat false)) = true then (some (false)) else (eC K l0 l1 k (bj (i4 + 1)))) else none) else none) else (some (true)))
def eU (K:Nat) (l0:List Bool) (l1:List Bool):Option Bool:=(if ¬ ((l0.length:Int) = (l1.length:Int)) then (some (false)) else (eC K l0 l1 K 0))
def iM (K:Nat) (a0_0:Int) (a0_1:Int) (l0:List aA) (a0_3:Int) (a0_4:Int) (a0_5:Bool) (a0_6:Bool) (a0_7:Bool) (a0_8:Bool) (a0_9:Bool) (a0_10:Bool) (a0_11:Bool) (a0_12:Bool) (a0_13:List UInt8) (a0_14:List UInt8) (a0_15:List UInt8) (a0_16:List UInt8) (a0_17:Int) (a0_18:Int) (a0_19:Int) (a0_20:Int) (a0_21:Int) (a0_22:Int) (a0_23:Int) (a0_24:Int) (a0_25:Int) (l1:List Bool) (a1_0:Int) (a1_1:Int) (l2:List aA) (a1_3:Int) (a1_4:Int) (a1_5:Bool) (a1_6:Bool) (a1_7:Bool) (a1_8:Bool) (a1_9:Bool) (a1_10:Bool) (a1_11:Bool) (a1_12:Bool) (a1_13:List UInt8) (a1_14:List UInt8) (a1_15:List UInt8) (a1_16:List UInt8) (a1_17:Int) (a1_18:Int) (a1_19:Int) (a1_20:Int) (a1_21:Int) (a1_22:Int) (a1_23:Int) (a1_24:Int) (a1_25:Int) (l3:List Bool):Option Bool:=(if a0_0 = a1_0 then (if a0_1 = a1_1 then (if ((a0_3 == a1_3) && ((a0_4 == a1_4) && (((a0_5 == a1_5) && ((a0_6 == a1_6) && ((a0_7 == a1_7) && ((a0_8 == a1_8) && true)))) && (((a0_9 == a1_9) && ((a0_10 == a1_10) && ((a0_11 == a1_11) && ((a0_12 == a1_12) && true)))) && (((a0_13 == a1_13) && ((a0_14 == a1_14) && ((a0_15 == a1_15) && ((a0_16 == a1_16) && true)))) && true))))) = true then (if ((a0_17 == a1_17) && ((a0_18 == a1_18) && ((a0_19 == a1_19) && ((a0_20 == a1_20) && ((a0_21 == a1_21) && ((a0_22 == a1_22) && ((a0_23 == a1_23) && ((a0_24 == a1_24) && ((a0_25 == a1_25) && true))))))))) = true then ((du K l0 l2).bind fun x3=>(if x3 = true then ((eU K l1 l3).bind fun x4=>(some (x4))) else (some (false)))) else (some (false))) else (some (false))) else (some (false))) else (some (false)))
def bI (K:Nat) (l0:List aD) (l1:List aD):Nat → Int → Option Bool
  | 0,_=>none
  | k + 1,i4=>(if i4 < (l0.length:Int) then (if 0 ≤ i4 then (if i4 < (l1.length:Int) then ((iM K ((l0.getD i4.toNat ai).Kind) ((l0.getD i4.toNat ai).N) ((l0.getD i4.toNat ai).Facts) (((l0.getD i4.toNat ai).Query).From) (((l0.getD i4.toNat ai).Query).To) (((l0.getD i4.toNat ai).Query).Group_0) (((l0.getD i4.toNat ai).Query).Group_1) (((l0.getD i4.toNat ai).Query).Group_2) (((l0.getD i4.toNat ai).Query).Group_3) (((l0.getD i4.toNat ai).Query).Has_0) (((l0.getD i4.toNat ai).Query).Has_1) (((l0.getD i4.toNat ai).Query).Has_2) (((l0.getD i4.toNat ai).Query).Has_3) (((l0.getD i4.toNat ai).Query).Filter_0) (((l0.getD i4.toNat ai).Query).Filter_1) (((l0.getD i4.toNat ai).Query).Filter_2) (((l0.getD i4.toNat ai).Query).Filter_3) (((l0.getD i4.toNat ai).Rules).Retain) (((l0.getD i4.toNat ai).Rules).SealLag) (((l0.getD i4.toNat ai).Rules).DayLag) (((l0.getD i4.toNat ai).Rules).MonthLag) (((l0.getD i4.toNat ai).Rules).ColdLag) (((l0.getD i4.toNat ai).Rules).Base) (((l0.getD i4.toNat ai).Rules).Cap) (((l0.getD i4.toNat ai).Rules).Queue) (((l0.getD i4.toNat ai).Rules).Wal) ((l0.getD i4.toNat ai).Fails) ((l1.getD i4.toNat ai).Kind) ((l1.getD i4.toNat ai).N) ((l1.getD i4.toNat ai).Facts) (((l1.getD i4.toNat ai).Query).From) (((l1.getD i4.toNat ai).Query).To) (((l1.getD i4.toNat ai).Query).Group_0) (((l1.getD i4.toNat ai).Query).Group_1) (((l1.getD i4.toNat ai).Query).Group_2) (((l1.getD i4.toNat ai).Query).Group_3) (((l1.getD i4.toNat ai).Query).Has_0) (((l1.getD i4.toNat ai).Query).Has_1) (((l1.getD i4.toNat ai).Query).Has_2) (((l1.getD i4.toNat ai).Query).Has_3) (((l1.getD i4.toNat ai).Query).Filter_0) (((l1.getD i4.toNat ai).Query).Filter_1) (((l1.getD i4.toNat ai).Query).Filter_2) (((l1.getD i4.toNat ai).Query).Filter_3) (((l1.getD i4.toNat ai).Rules).Retain) (((l1.getD i4.toNat ai).Rules).SealLag) (((l1.getD i4.toNat ai).Rules).DayLag) (((l1.getD i4.toNat ai).Rules).MonthLag) (((l1.getD i4.toNat ai).Rules).ColdLag) (((l1.getD i4.toNat ai).Rules).Base) (((l1.getD i4.toNat ai).Rules).Cap) (((l1.getD i4.toNat ai).Rules).Queue) (((l1.getD i4.toNat ai).Rules).Wal) ((l1.getD i4.toNat ai).Fails)).bind fun x24=>(if (!x24) = true then (some (false)) else (bI K l0 l1 k (bj (i4 + 1))))) else none) else none) else (some (true)))
def bK (K:Nat) (l0:List aD) (l1:List aD):Option Bool:=(if ¬ ((l0.length:Int) = (l1.length:Int)) then (some (false)) else (bI K l0 l1 K 0))
def bT (K:Nat) (l0:List aD) (l1:List aD):Option Bool:=((bK K l0 l1).bind fun x2=>(some (x2)))
def ju (a0:Int):Bool:=(if 1 ≤ a0 then (decide (a0 ≤ 4)) else (false))
def ir (K:Nat) (a0_1:List UInt8) (a0_2:List UInt8) (a0_3:List UInt8) (a0_4:List UInt8) (a1:Int):Nat → Int → Option Int
  | 0,_=>none
  | k + 1,i5=>(if i5 < 4 then (if 0 ≤ i5 then (if i5 < (4:Int) then (if 16 < (([a0_1,a0_2,a0_3,a0_4].getD i5.toNat []).length:Int) then (some (4)) else (if a1 ≤ i5 then (if ¬ (([a0_1,a0_2,a0_3,a0_4].getD i5.toNat []) = ([]:List UInt8)) then (some (4)) else (ir K a0_1 a0_2 a0_3 a0_4 a1 k (bj (i5 + 1)))) else (ir K a0_1 a0_2 a0_3 a0_4 a1 k (bj (i5 + 1))))) else none) else none) else (some (0)))
def kA (K:Nat) (a0_0:Int) (a0_1:List UInt8) (a0_2:List UInt8) (a0_3:List UInt8) (a0_4:List UInt8) (a0_5:Int) (a1:Int):Option Int:=(kr (ju a1) fun x4=>(if (!x4) = true then (some (1)) else (if a0_0 < 0 then (some (2)) else (if 16777216 < a0_0 then (some (2)) else (if 1152921504606846976 < a0_5 then (some (2)) else (if a0_5 < (-1152921504606846976) then (some (2)) else (ir K a0_1 a0_2 a0_3 a0_4 a1 K 0)))))))
def iw (K:Nat) (l0:List aA) (a1:Int):Nat → Int → Option (Int × Int)
  | 0,_=>none
  | k + 1,i6=>(if i6 < (l0.length:Int) then (if 0 ≤ i6 then ((kA K (((l0.getD i6.toNat ax).Key).Hour) (((l0.getD i6.toNat ax).Key).Dims_0) (((l0.getD i6.toNat ax).Key).Dims_1) (((l0.getD i6.toNat ax).Key).Dims_2) (((l0.getD i6.toNat ax).Key).Dims_3) ((l0.getD i6.toNat ax).Value) a1).bind fun x28=>(if ¬ (x28 = 0) then (some ((x28,i6))) else (iw K l0 a1 k (bj (i6 + 1))))) else none) else (some ((0,0))))
def kE (K:Nat) (l0:List aA) (a1:Int):Option (Int × Int):=(kr (ju a1) fun x16=>(if (!x16) = true then (some ((1,0))) else (if (l0.length:Int) = 0 then (some ((1,0))) else (if 50 < (l0.length:Int) then (some ((1,0))) else (iw K l0 a1 K 0)))))
def ga (K:Nat) (l0:List aA) (a1:Int):Option Bool:=(kr (jm l0) fun x6=>((bT K [(⟨x6.1,x6.2.1,[],(⟨x6.2.2.1,x6.2.2.2.1,x6.2.2.2.2.1,x6.2.2.2.2.2.1,x6.2.2.2.2.2.2.1,x6.2.2.2.2.2.2.2.1,x6.2.2.2.2.2.2.2.2.1,x6.2.2.2.2.2.2.2.2.2.1,x6.2.2.2.2.2.2.2.2.2.2.1,x6.2.2.2.2.2.2.2.2.2.2.2.1,x6.2.2.2.2.2.2.2.2.2.2.2.2.1,x6.2.2.2.2.2.2.2.2.2.2.2.2.2.1,x6.2.2.2.2.2.2.2.2.2.2.2.2.2.2.1,x6.2.2.2.2.2.2.2.2.2.2.2.2.2.2.2.1⟩:aI),(⟨x6.2.2.2.2.2.2.2.2.2.2.2.2.2.2.2.2.1,x6.2.2.2.2.2.2.2.2.2.2.2.2.2.2.2.2.2.1,x6.2.2.2.2.2.2.2.2.2.2.2.2.2.2.2.2.2.2.1,x6.2.2.2.2.2.2.2.2.2.2.2.2.2.2.2.2.2.2.2.1,x6.2.2.2.2.2.2.2.2.2.2.2.2.2.2.2.2.2.2.2.2.1,x6.2.2.2.2.2.2.2.2.2.2.2.2.2.2.2.2.2.2.2.2.2.1,x6.2.2.2.2.2.2.2.2.2.2.2.2.2.2.2.2.2.2.2.2.2.2.1,x6.2.2.2.2.2.2.2.2.2.2.2.2.2.2.2.2.2.2.2.2.2.2.2.1,x6.2.2.2.2.2.2.2.2.2.2.2.2.2.2.2.2.2.2.2.2.2.2.2.2⟩:aE),[]⟩:aD)] [(⟨1,0,[],(⟨0,0,false,false,false,false,false,false,false,false,([]:List UInt8),([]:List UInt8),([]:List UInt8),([]:List UInt8)⟩:aI),(⟨0,0,0,0,0,0,0,0,0⟩:aE),[]⟩:aD)]).bind fun x8=>(if (!x8) = true then (some (false)) else ((kE K l0 a1).bind fun x10=>(some ((x10.1 == 0)))))))
def co (K:Nat) (p0_1:Int) (x187:((List (List UInt8)) × Int)) (x191:((List (List UInt8)) × Int)):Nat → Int → (List (List UInt8)) → Bool → Bool → (List UInt8) → (List UInt8) → (List UInt8) → (List UInt8) → Bool → Bool → Bool → Bool → Bool → Bool → Option (Option ((List (List UInt8)) × Int × Int × Bool × Bool × Bool × Bool × Bool × Bool × Bool × Bool × (List UInt8) × (List UInt8) × (List UInt8) × (List UInt8)))
  | 0,_,_,_,_,_,_,_,_,_,_,_,_,_,_=>none
  | k + 1,i4,l31,q25,q26,t45,t46,t47,t48,q27,q28,q29,q30,q31,q32=>(if i4 < p0_1 then ((br l31 p0_1).bind fun x361=>(oK x361 (some (none)) fun x360=>(if x360.2 = ([46]:List UInt8) then (co K p0_1 x187 x191 k (bj (i4 + 1)) x360.1 q25 q26 t45 t46 t47 t48 q27 q28 q29 q30 q31 q32) else (kr (strings_CutPrefix x360.2 ([43]:List UInt8)) fun x363=>(if 0 ≤ i4 then (if i4 < (4:Int) then (Option.bind (if x363.2 = true then (if x363.1 = ([]:List UInt8) then (Option.map Sum.inr (co K p0_1 x187 x191 k (bj (i4 + 1)) x360.1 (if i4.toNat = 0 then x363.2 else q25) q26 t45 t46 t47 t48 (if i4.toNat = 1 then x363.2 else q27) (if i4.toNat = 2 then x363.2 else q28) (if i4.toNat = 3 then x363.2 else q29) q30 q31 q32)) else (some (Sum.inl x360.1))) else (some (Sum.inl x360.1))) fun z=>(mD z (fun v32=>(kr (strings_CutPrefix x363.1 ([61]:List UInt8)) fun x366=>(if x366.2 = true then ((gf K x366.1).bind fun x368=>(if x368.1 = true then (co K p0_1 x187 x191 k (bj (i4 + 1)) v32 (if i4.toNat = 0 then x363.2 else q25) (if i4.toNat = 0 then true else q26) (if i4.toNat = 0 then x368.2 else t45) (if i4.toNat = 1 then x368.2 else t46) (if i4.toNat = 2 then x368.2 else t47) (if i4.toNat = 3 then x368.2 else t48) (if i4.toNat = 1 then x363.2 else q27) (if i4.toNat = 2 then x363.2 else q28) (if i4.toNat = 3 then x363.2 else q29) (if i4.toNat = 1 then true else q30) (if i4.toNat = 2 then true else q31) (if i4.toNat = 3 then true else q32)) else (some (none)))) else (some (none))))) (fun t_=>(some (t_))))) else none) else none))))) else (some (some (l31,x187.2,x191.2,q25,q27,q28,q29,q26,q30,q31,q32,t45,t46,t47,t48))))
def cE (K:Nat) (l0:List (List UInt8)) (p0_1:Int):Option (Option ((List (List UInt8)) × Int × Int × Bool × Bool × Bool × Bool × Bool × Bool × Bool × Bool × (List UInt8) × (List UInt8) × (List UInt8) × (List UInt8))):=((aM K l0 p0_1).bind fun x188=>(oK x188 (some (none)) fun x187=>((aM K x187.1 p0_1).bind fun x192=>(oK x192 (some (none)) fun x191=>(co K p0_1 x187 x191 K 0 x191.1 false false ([]:List UInt8) ([]:List UInt8) ([]:List UInt8) ([]:List UInt8) false false false false false false)))))
def jn (a0_3:Int) (a0_4:Int) (a0_5:Bool) (a0_6:Bool) (a0_7:Bool) (a0_8:Bool) (a0_9:Bool) (a0_10:Bool) (a0_11:Bool) (a0_12:Bool) (a0_13:List UInt8) (a0_14:List UInt8) (a0_15:List UInt8) (a0_16:List UInt8):(Int × Int × Int × Int × Bool × Bool × Bool × Bool × Bool × Bool × Bool × Bool × (List UInt8) × (List UInt8) × (List UInt8) × (List UInt8) × Int × Int × Int × Int × Int × Int × Int × Int × Int):=((2,0,0,0,false,false,false,false,false,false,false,false,([]:List UInt8),([]:List UInt8),([]:List UInt8),([]:List UInt8),0,0,0,0,0,0,0,0,0))
def mm (a0:Int):Bool:=(if 1 ≤ a0 then (decide (a0 ≤ 4)) else (false))
def ja (K:Nat) (a0_2:Bool) (a0_3:Bool) (a0_4:Bool) (a0_5:Bool) (a0_6:Bool) (a0_7:Bool) (a0_8:Bool) (a0_9:Bool) (a0_10:List UInt8) (a0_11:List UInt8) (a0_12:List UInt8) (a0_13:List UInt8) (a1:Int):Nat → Int → Option Int
  | 0,_=>none
  | k + 1,i5=>(if i5 < 4 then (Option.bind (if 0 ≤ i5 then (if i5 < (4:Int) then (if a1 ≤ i5 then (if ([a0_2,a0_3,a0_4,a0_5].getD i5.toNat false) = true then (some (Sum.inr (4))) else (if ([a0_6,a0_7,a0_8,a0_9].getD i5.toNat false) = true then (some (Sum.inr (4))) else (if ¬ (([a0_10,a0_11,a0_12,a0_13].getD i5.toNat []) = ([]:List UInt8)) then (if (!([a0_6,a0_7,a0_8,a0_9].getD i5.toNat false)) = true then (some (Sum.inr (4))) else (if 16 < (([a0_10,a0_11,a0_12,a0_13].getD i5.toNat []).length:Int) then (some (Sum.inr (4))) else (some (Sum.inl ())))) else (if 16 < (([a0_10,a0_11,a0_12,a0_13].getD i5.toNat []).length:Int) then (some (Sum.inr (4))) else (some (Sum.inl ())))))) else (if ¬ (([a0_10,a0_11,a0_12,a0_13].getD i5.toNat []) = ([]:List UInt8)) then (if (!([a0_6,a0_7,a0_8,a0_9].getD i5.toNat false)) = true then (some (Sum.inr (4))) else (if 16 < (([a0_10,a0_11,a0_12,a0_13].getD i5.toNat []).length:Int) then (some (Sum.inr (4))) else (some (Sum.inl ())))) else (if 16 < (([a0_10,a0_11,a0_12,a0_13].getD i5.toNat []).length:Int) then (some (Sum.inr (4))) else (some (Sum.inl ()))))) else none) else none) fun z=>(mD z (fun v12=>(ja K a0_2 a0_3 a0_4 a0_5 a0_6 a0_7 a0_8 a0_9 a0_10 a0_11 a0_12 a0_13 a1 k (bj (i5 + 1)))) (fun t_=>(some (t_))))) else (some (0)))
def ki (K:Nat) (a0_0:Int) (a0_1:Int) (a0_2:Bool) (a0_3:Bool) (a0_4:Bool) (a0_5:Bool) (a0_6:Bool) (a0_7:Bool) (a0_8:Bool) (a0_9:Bool) (a0_10:List UInt8) (a0_11:List UInt8) (a0_12:List UInt8) (a0_13:List UInt8) (a1:Int):Option Int:=(kr (mm a1) fun x10=>(if (!x10) = true then (some (1)) else (if a0_0 < 0 then (some (2)) else (if a0_1 < a0_0 then (some (2)) else (if 16777217 < a0_1 then (some (2)) else (ja K a0_2 a0_3 a0_4 a0_5 a0_6 a0_7 a0_8 a0_9 a0_10 a0_11 a0_12 a0_13 a1 K 0))))))
def gd (K:Nat) (a0_3:Int) (a0_4:Int) (a0_5:Bool) (a0_6:Bool) (a0_7:Bool) (a0_8:Bool) (a0_9:Bool) (a0_10:Bool) (a0_11:Bool) (a0_12:Bool) (a0_13:List UInt8) (a0_14:List UInt8) (a0_15:List UInt8) (a0_16:List UInt8) (a1:Int):Option Bool:=(kr (jn a0_3 a0_4 a0_5 a0_6 a0_7 a0_8 a0_9 a0_10 a0_11 a0_12 a0_13 a0_14 a0_15 a0_16) fun x6=>((bT K [(⟨x6.1,x6.2.1,[],(⟨x6.2.2.1,x6.2.2.2.1,x6.2.2.2.2.1,x6.2.2.2.2.2.1,x6.2.2.2.2.2.2.1,x6.2.2.2.2.2.2.2.1,x6.2.2.2.2.2.2.2.2.1,x6.2.2.2.2.2.2.2.2.2.1,x6.2.2.2.2.2.2.2.2.2.2.1,x6.2.2.2.2.2.2.2.2.2.2.2.1,x6.2.2.2.2.2.2.2.2.2.2.2.2.1,x6.2.2.2.2.2.2.2.2.2.2.2.2.2.1,x6.2.2.2.2.2.2.2.2.2.2.2.2.2.2.1,x6.2.2.2.2.2.2.2.2.2.2.2.2.2.2.2.1⟩:aI),(⟨x6.2.2.2.2.2.2.2.2.2.2.2.2.2.2.2.2.1,x6.2.2.2.2.2.2.2.2.2.2.2.2.2.2.2.2.2.1,x6.2.2.2.2.2.2.2.2.2.2.2.2.2.2.2.2.2.2.1,x6.2.2.2.2.2.2.2.2.2.2.2.2.2.2.2.2.2.2.2.1,x6.2.2.2.2.2.2.2.2.2.2.2.2.2.2.2.2.2.2.2.2.1,x6.2.2.2.2.2.2.2.2.2.2.2.2.2.2.2.2.2.2.2.2.2.1,x6.2.2.2.2.2.2.2.2.2.2.2.2.2.2.2.2.2.2.2.2.2.2.1,x6.2.2.2.2.2.2.2.2.2.2.2.2.2.2.2.2.2.2.2.2.2.2.2.1,x6.2.2.2.2.2.2.2.2.2.2.2.2.2.2.2.2.2.2.2.2.2.2.2.2⟩:aE),[]⟩:aD)] [(⟨2,0,[],(⟨0,0,false,false,false,false,false,false,false,false,([]:List UInt8),([]:List UInt8),([]:List UInt8),([]:List UInt8)⟩:aI),(⟨0,0,0,0,0,0,0,0,0⟩:aE),[]⟩:aD)]).bind fun x8=>(if (!x8) = true then (some (false)) else ((ki K a0_3 a0_4 a0_5 a0_6 a0_7 a0_8 a0_9 a0_10 a0_11 a0_12 a0_13 a0_14 a0_15 a0_16 a1).bind fun x10=>(some ((x10 == 0)))))))
def js (p0_0:Int) (p0_1:Int) (p0_3:Int) (p0_4:Int) (p0_5:Bool) (p0_6:Bool) (p0_7:Bool) (p0_8:Bool) (p0_9:Bool) (p0_10:Bool) (p0_11:Bool) (p0_12:Bool) (p0_13:List UInt8) (p0_14:List UInt8) (p0_15:List UInt8) (p0_16:List UInt8) (p0_17:Int) (p0_18:Int) (p0_19:Int) (p0_20:Int) (p0_21:Int) (p0_22:Int) (p0_23:Int) (p0_24:Int) (p0_25:Int) (p1_0:Int):Unit:=(())
def iz (a0_17:Int) (a0_18:Int) (a0_19:Int) (a0_20:Int) (a0_21:Int) (a0_22:Int) (a0_23:Int) (a0_24:Int) (a0_25:Int):(Int × Int × Int × Int × Bool × Bool × Bool × Bool × Bool × Bool × Bool × Bool × (List UInt8) × (List UInt8) × (List UInt8) × (List UInt8) × Int × Int × Int × Int × Int × Int × Int × Int × Int):=((3,0,0,0,false,false,false,false,false,false,false,false,([]:List UInt8),([]:List UInt8),([]:List UInt8),([]:List UInt8),0,0,0,0,0,0,0,0,0))
def jR:(Int × Int × Int × Int × Int × Int × Int × Int × Int × Int × Int × Int × Int × Int × Int × Int × Int × Int):=((1,1048576,0,1048576,0,1048576,0,1048576,0,1048576,1,1048576,1,1048576,1,64,100,1048576))
def jq (a0_0:Int) (a0_1:Int) (a0_2:Int) (a0_3:Int) (a0_4:Int) (a0_5:Int) (a0_6:Int) (a0_7:Int) (a0_8:Int):(Int × Int × Int × Int × Int × Int × Int × Int × Int):=((a0_0,a0_1,a0_2,a0_3,a0_4,a0_5,a0_6,a0_7,a0_8))
def im (a0_0:Int) (a0_1:Int) (a0_2:Int) (a0_3:Int) (a0_4:Int) (a0_5:Int) (a0_6:Int) (a0_7:Int) (a0_8:Int):Option Int:=(kr (jR) fun x4=>(kr (jq a0_0 a0_1 a0_2 a0_3 a0_4 a0_5 a0_6 a0_7 a0_8) fun x6=>(if 0 < (9:Int) then (if x6.1 < x4.1 then (some (2)) else (if x4.2.1 < x6.1 then (some (2)) else (if 1 < (9:Int) then (if x6.2.1 < x4.2.2.1 then (some (2)) else (if x4.2.2.2.1 < x6.2.1 then (some (2)) else (if 2 < (9:Int) then (if x6.2.2.1 < x4.2.2.2.2.1 then (some (2)) else (if x4.2.2.2.2.2.1 < x6.2.2.1 then (some (2)) else (if 3 < (9:Int) then (if x6.2.2.2.1 < x4.2.2.2.2.2.2.1 then (some (2)) else (if x4.2.2.2.2.2.2.2.1 < x6.2.2.2.1 then (some (2)) else (if 4 < (9:Int) then (if x6.2.2.2.2.1 < x4.2.2.2.2.2.2.2.2.1 then (some (2)) else (if x4.2.2.2.2.2.2.2.2.2.1 < x6.2.2.2.2.1 then (some (2)) else (if 5 < (9:Int) then (if x6.2.2.2.2.2.1 < x4.2.2.2.2.2.2.2.2.2.2.1 then (some (2)) else (if x4.2.2.2.2.2.2.2.2.2.2.2.1 < x6.2.2.2.2.2.1 then (some (2)) else (if 6 < (9:Int) then (if x6.2.2.2.2.2.2.1 < x4.2.2.2.2.2.2.2.2.2.2.2.2.1 then (some (2)) else (if x4.2.2.2.2.2.2.2.2.2.2.2.2.2.1 < x6.2.2.2.2.2.2.1 then (some (2)) else (if 7 < (9:Int) then (if x6.2.2.2.2.2.2.2.1 < x4.2.2.2.2.2.2.2.2.2.2.2.2.2.2.1 then (some (2)) else (if x4.2.2.2.2.2.2.2.2.2.2.2.2.2.2.2.1 < x6.2.2.2.2.2.2.2.1 then (some (2)) else (if 8 < (9:Int) then (if x6.2.2.2.2.2.2.2.2 < x4.2.2.2.2.2.2.2.2.2.2.2.2.2.2.2.2.1 then (some (2)) else (if x4.2.2.2.2.2.2.2.2.2.2.2.2.2.2.2.2.2 < x6.2.2.2.2.2.2.2.2 then (some (2)) else (some (0)))) else none))) else none))) else none))) else none))) else none))) else none))) else none))) else none))) else none)))
def fF (K:Nat) (a0_17:Int) (a0_18:Int) (a0_19:Int) (a0_20:Int) (a0_21:Int) (a0_22:Int) (a0_23:Int) (a0_24:Int) (a0_25:Int) (a1:Int):Option Bool:=(kr (iz a0_17 a0_18 a0_19 a0_20 a0_21 a0_22 a0_23 a0_24 a0_25) fun x6=>((bT K [(⟨x6.1,x6.2.1,[],(⟨x6.2.2.1,x6.2.2.2.1,x6.2.2.2.2.1,x6.2.2.2.2.2.1,x6.2.2.2.2.2.2.1,x6.2.2.2.2.2.2.2.1,x6.2.2.2.2.2.2.2.2.1,x6.2.2.2.2.2.2.2.2.2.1,x6.2.2.2.2.2.2.2.2.2.2.1,x6.2.2.2.2.2.2.2.2.2.2.2.1,x6.2.2.2.2.2.2.2.2.2.2.2.2.1,x6.2.2.2.2.2.2.2.2.2.2.2.2.2.1,x6.2.2.2.2.2.2.2.2.2.2.2.2.2.2.1,x6.2.2.2.2.2.2.2.2.2.2.2.2.2.2.2.1⟩:aI),(⟨x6.2.2.2.2.2.2.2.2.2.2.2.2.2.2.2.2.1,x6.2.2.2.2.2.2.2.2.2.2.2.2.2.2.2.2.2.1,x6.2.2.2.2.2.2.2.2.2.2.2.2.2.2.2.2.2.2.1,x6.2.2.2.2.2.2.2.2.2.2.2.2.2.2.2.2.2.2.2.1,x6.2.2.2.2.2.2.2.2.2.2.2.2.2.2.2.2.2.2.2.2.1,x6.2.2.2.2.2.2.2.2.2.2.2.2.2.2.2.2.2.2.2.2.2.1,x6.2.2.2.2.2.2.2.2.2.2.2.2.2.2.2.2.2.2.2.2.2.2.1,x6.2.2.2.2.2.2.2.2.2.2.2.2.2.2.2.2.2.2.2.2.2.2.2.1,x6.2.2.2.2.2.2.2.2.2.2.2.2.2.2.2.2.2.2.2.2.2.2.2.2⟩:aE),[]⟩:aD)] [(⟨3,0,[],(⟨0,0,false,false,false,false,false,false,false,false,([]:List UInt8),([]:List UInt8),([]:List UInt8),([]:List UInt8)⟩:aI),(⟨0,0,0,0,0,0,0,0,0⟩:aE),[]⟩:aD)]).bind fun x8=>(if (!x8) = true then (some (false)) else ((im a0_17 a0_18 a0_19 a0_20 a0_21 a0_22 a0_23 a0_24 a0_25).bind fun x10=>(some ((x10 == 0)))))))
def dz (K:Nat) (x7:((List (List UInt8)) × (List UInt8))):Nat → Int → (List Bool) → Option (Option ((List (List UInt8)) × (List Bool)))
  | 0,_,_=>none
  | k + 1,i4,l6=>(if i4 < ((dn x7.2).length:Int) then (if 0 ≤ i4 then (if ((dn x7.2).getD i4.toNat 0) = 48 then (if (l6.length + [(((dn x7.2).getD i4.toNat 0) == 49)].length) * 1 ≤ 140737488355328 then (dz K x7 k (bj (i4 + 1)) (l6 ++ [(((dn x7.2).getD i4.toNat 0) == 49)])) else none) else (if ((dn x7.2).getD i4.toNat 0) = 49 then (if (l6.length + [(((dn x7.2).getD i4.toNat 0) == 49)].length) * 1 ≤ 140737488355328 then (dz K x7 k (bj (i4 + 1)) (l6 ++ [(((dn x7.2).getD i4.toNat 0) == 49)])) else none) else (some (none)))) else none) else (some (some (x7.1,l6))))
def cF (K:Nat) (l0:List (List UInt8)) (p0_1:Int):Option (Option ((List (List UInt8)) × (List Bool))):=(if (l0.length:Int) = 0 then (some (some (l0,([]:List Bool)))) else ((br l0 p0_1).bind fun x8=>(oK x8 (some (none)) fun x7=>(if ¬ (x7.2 = ([]:List UInt8)) then (if x7.2.length ≤ 9223372036854775807 then (dz K x7 K 0 ([]:List Bool)) else none) else (some (none))))))
def jp (l0:List Bool):(Int × Int × Int × Int × Bool × Bool × Bool × Bool × Bool × Bool × Bool × Bool × (List UInt8) × (List UInt8) × (List UInt8) × (List UInt8) × Int × Int × Int × Int × Int × Int × Int × Int × Int):=((6,0,0,0,false,false,false,false,false,false,false,false,([]:List UInt8),([]:List UInt8),([]:List UInt8),([]:List UInt8),0,0,0,0,0,0,0,0,0))
def gM (K:Nat) (l0:List Bool) (a1:Int):Option Bool:=(kr (jp l0) fun x4=>((bT K [(⟨x4.1,x4.2.1,[],(⟨x4.2.2.1,x4.2.2.2.1,x4.2.2.2.2.1,x4.2.2.2.2.2.1,x4.2.2.2.2.2.2.1,x4.2.2.2.2.2.2.2.1,x4.2.2.2.2.2.2.2.2.1,x4.2.2.2.2.2.2.2.2.2.1,x4.2.2.2.2.2.2.2.2.2.2.1,x4.2.2.2.2.2.2.2.2.2.2.2.1,x4.2.2.2.2.2.2.2.2.2.2.2.2.1,x4.2.2.2.2.2.2.2.2.2.2.2.2.2.1,x4.2.2.2.2.2.2.2.2.2.2.2.2.2.2.1,x4.2.2.2.2.2.2.2.2.2.2.2.2.2.2.2.1⟩:aI),(⟨x4.2.2.2.2.2.2.2.2.2.2.2.2.2.2.2.2.1,x4.2.2.2.2.2.2.2.2.2.2.2.2.2.2.2.2.2.1,x4.2.2.2.2.2.2.2.2.2.2.2.2.2.2.2.2.2.2.1,x4.2.2.2.2.2.2.2.2.2.2.2.2.2.2.2.2.2.2.2.1,x4.2.2.2.2.2.2.2.2.2.2.2.2.2.2.2.2.2.2.2.2.1,x4.2.2.2.2.2.2.2.2.2.2.2.2.2.2.2.2.2.2.2.2.2.1,x4.2.2.2.2.2.2.2.2.2.2.2.2.2.2.2.2.2.2.2.2.2.2.1,x4.2.2.2.2.2.2.2.2.2.2.2.2.2.2.2.2.2.2.2.2.2.2.2.1,x4.2.2.2.2.2.2.2.2.2.2.2.2.2.2.2.2.2.2.2.2.2.2.2.2⟩:aE),[]⟩:aD)] [(⟨6,0,[],(⟨0,0,false,false,false,false,false,false,false,false,([]:List UInt8),([]:List UInt8),([]:List UInt8),([]:List UInt8)⟩:aI),(⟨0,0,0,0,0,0,0,0,0⟩:aE),[]⟩:aD)]).bind fun x6=>(if (!x6) = true then (some (false)) else (some (decide ((l0.length:Int) ≤ 1000))))))
def iD:(Int × Int × Int × Int × Bool × Bool × Bool × Bool × Bool × Bool × Bool × Bool × (List UInt8) × (List UInt8) × (List UInt8) × (List UInt8) × Int × Int × Int × Int × Int × Int × Int × Int × Int):=((9,0,0,0,false,false,false,false,false,false,false,false,([]:List UInt8),([]:List UInt8),([]:List UInt8),([]:List UInt8),0,0,0,0,0,0,0,0,0))
def fU (K:Nat) (a1:Int):Option Bool:=(kr (iD) fun x4=>((bT K [(⟨x4.1,x4.2.1,[],(⟨x4.2.2.1,x4.2.2.2.1,x4.2.2.2.2.1,x4.2.2.2.2.2.1,x4.2.2.2.2.2.2.1,x4.2.2.2.2.2.2.2.1,x4.2.2.2.2.2.2.2.2.1,x4.2.2.2.2.2.2.2.2.2.1,x4.2.2.2.2.2.2.2.2.2.2.1,x4.2.2.2.2.2.2.2.2.2.2.2.1,x4.2.2.2.2.2.2.2.2.2.2.2.2.1,x4.2.2.2.2.2.2.2.2.2.2.2.2.2.1,x4.2.2.2.2.2.2.2.2.2.2.2.2.2.2.1,x4.2.2.2.2.2.2.2.2.2.2.2.2.2.2.2.1⟩:aI),(⟨x4.2.2.2.2.2.2.2.2.2.2.2.2.2.2.2.2.1,x4.2.2.2.2.2.2.2.2.2.2.2.2.2.2.2.2.2.1,x4.2.2.2.2.2.2.2.2.2.2.2.2.2.2.2.2.2.2.1,x4.2.2.2.2.2.2.2.2.2.2.2.2.2.2.2.2.2.2.2.1,x4.2.2.2.2.2.2.2.2.2.2.2.2.2.2.2.2.2.2.2.2.1,x4.2.2.2.2.2.2.2.2.2.2.2.2.2.2.2.2.2.2.2.2.2.1,x4.2.2.2.2.2.2.2.2.2.2.2.2.2.2.2.2.2.2.2.2.2.2.1,x4.2.2.2.2.2.2.2.2.2.2.2.2.2.2.2.2.2.2.2.2.2.2.2.1,x4.2.2.2.2.2.2.2.2.2.2.2.2.2.2.2.2.2.2.2.2.2.2.2.2⟩:aE),[]⟩:aD)] [(⟨9,0,[],(⟨0,0,false,false,false,false,false,false,false,false,([]:List UInt8),([]:List UInt8),([]:List UInt8),([]:List UInt8)⟩:aI),(⟨0,0,0,0,0,0,0,0,0⟩:aE),[]⟩:aD)]).bind fun x6=>(if (!x6) = true then (some (false)) else (some (true)))))
def iu:((List UInt8) × (List UInt8) × (List UInt8) × (List UInt8)):=((([116,105,99,107]:List UInt8),([119,111,114,107]:List UInt8),([97,114,109]:List UInt8),([99,114,97,115,104]:List UInt8)))
def kN:(Int × Int × Int × Int):=((4,5,7,8))
def jo (a0_0:Int) (a0_1:Int):(Int × Int × Int × Int × Bool × Bool × Bool × Bool × Bool × Bool × Bool × Bool × (List UInt8) × (List UInt8) × (List UInt8) × (List UInt8) × Int × Int × Int × Int × Int × Int × Int × Int × Int):=(kr (if a0_0 = 1 then ((a0_1,([]:List UInt8),([]:List UInt8),([]:List UInt8),([]:List UInt8),([]:List UInt8),([]:List UInt8),([]:List UInt8),([]:List UInt8))) else (if a0_0 = 2 then ((a0_1,([]:List UInt8),([]:List UInt8),([]:List UInt8),([]:List UInt8),([]:List UInt8),([]:List UInt8),([]:List UInt8),([]:List UInt8))) else (if a0_0 = 3 then ((a0_1,([]:List UInt8),([]:List UInt8),([]:List UInt8),([]:List UInt8),([]:List UInt8),([]:List UInt8),([]:List UInt8),([]:List UInt8))) else (kr (if a0_0 = 4 then (((a0_0 == 4),([]:List UInt8),([]:List UInt8),([]:List UInt8),([]:List UInt8),([]:List UInt8),([]:List UInt8),([]:List UInt8),([]:List UInt8))) else (if a0_0 = 5 then (((a0_0 == 5),([]:List UInt8),([]:List UInt8),([]:List UInt8),([]:List UInt8),([]:List UInt8),([]:List UInt8),([]:List UInt8),([]:List UInt8))) else (if a0_0 = 7 then (((a0_0 == 7),([]:List UInt8),([]:List UInt8),([]:List UInt8),([]:List UInt8),([]:List UInt8),([]:List UInt8),([]:List UInt8),([]:List UInt8))) else (((a0_0 == 8),([]:List UInt8),([]:List UInt8),([]:List UInt8),([]:List UInt8),([]:List UInt8),([]:List UInt8),([]:List UInt8),([]:List UInt8)))))) fun x6=>(if x6.1 = true then ((0,x6.2.1,x6.2.2.1,x6.2.2.2.1,x6.2.2.2.2.1,x6.2.2.2.2.2.1,x6.2.2.2.2.2.2.1,x6.2.2.2.2.2.2.2.1,x6.2.2.2.2.2.2.2.2)) else (if a0_0 = 6 then ((a0_1,x6.2.1,x6.2.2.1,x6.2.2.2.1,x6.2.2.2.2.1,x6.2.2.2.2.2.1,x6.2.2.2.2.2.2.1,x6.2.2.2.2.2.2.2.1,x6.2.2.2.2.2.2.2.2)) else ((a0_1,x6.2.1,x6.2.2.1,x6.2.2.2.1,x6.2.2.2.2.1,x6.2.2.2.2.2.1,x6.2.2.2.2.2.2.1,x6.2.2.2.2.2.2.2.1,x6.2.2.2.2.2.2.2.2)))))))) fun x5=>((a0_0,x5.1,0,0,false,false,false,false,false,false,false,false,x5.2.1,x5.2.2.1,x5.2.2.2.1,x5.2.2.2.2.1,0,0,0,0,0,0,0,0,0)))
def lZ (a1:Int):(Int × Int):=(kr (ju a1) fun x4=>(if (!x4) = true then ((1,0)) else ((1,0))))
def ct (K:Nat) (a0_0:Int) (a0_1:Int) (a1:Int):Option Bool:=(kr (jo a0_0 a0_1) fun x10=>(if a0_0 < 1 then (some (false)) else (if 9 < a0_0 then (some (false)) else ((bT K [(⟨x10.1,x10.2.1,[],(⟨x10.2.2.1,x10.2.2.2.1,x10.2.2.2.2.1,x10.2.2.2.2.2.1,x10.2.2.2.2.2.2.1,x10.2.2.2.2.2.2.2.1,x10.2.2.2.2.2.2.2.2.1,x10.2.2.2.2.2.2.2.2.2.1,x10.2.2.2.2.2.2.2.2.2.2.1,x10.2.2.2.2.2.2.2.2.2.2.2.1,x10.2.2.2.2.2.2.2.2.2.2.2.2.1,x10.2.2.2.2.2.2.2.2.2.2.2.2.2.1,x10.2.2.2.2.2.2.2.2.2.2.2.2.2.2.1,x10.2.2.2.2.2.2.2.2.2.2.2.2.2.2.2.1⟩:aI),(⟨x10.2.2.2.2.2.2.2.2.2.2.2.2.2.2.2.2.1,x10.2.2.2.2.2.2.2.2.2.2.2.2.2.2.2.2.2.1,x10.2.2.2.2.2.2.2.2.2.2.2.2.2.2.2.2.2.2.1,x10.2.2.2.2.2.2.2.2.2.2.2.2.2.2.2.2.2.2.2.1,x10.2.2.2.2.2.2.2.2.2.2.2.2.2.2.2.2.2.2.2.2.1,x10.2.2.2.2.2.2.2.2.2.2.2.2.2.2.2.2.2.2.2.2.2.1,x10.2.2.2.2.2.2.2.2.2.2.2.2.2.2.2.2.2.2.2.2.2.2.1,x10.2.2.2.2.2.2.2.2.2.2.2.2.2.2.2.2.2.2.2.2.2.2.2.1,x10.2.2.2.2.2.2.2.2.2.2.2.2.2.2.2.2.2.2.2.2.2.2.2.2⟩:aE),[]⟩:aD)] [(⟨a0_0,0,[],(⟨0,0,false,false,false,false,false,false,false,false,([]:List UInt8),([]:List UInt8),([]:List UInt8),([]:List UInt8)⟩:aI),(⟨0,0,0,0,0,0,0,0,0⟩:aE),[]⟩:aD)]).bind fun x12=>(if (!x12) = true then (some (false)) else (if a0_0 = 1 then (kr (lZ a1) fun x16=>(some ((x16.1 == 0)))) else (if a0_0 = 2 then ((ki K 0 0 false false false false false false false false ([]:List UInt8) ([]:List UInt8) ([]:List UInt8) ([]:List UInt8) a1).bind fun x17=>(some ((x17 == 0)))) else (if a0_0 = 3 then ((im 0 0 0 0 0 0 0 0 0).bind fun x18=>(some ((x18 == 0)))) else (some (true))))))))))
def bM (K:Nat) (p0_1:Int):Nat → Int → Int → (List (List UInt8)) → Int → Int → Int → Int → Int → Int → Int → Int → Option (Option (Int × (List aA) × Int × Int × Bool × Bool × Bool × Bool × Bool × Bool × Bool × Bool × (List UInt8) × (List UInt8) × (List UInt8) × (List UInt8) × (List (List UInt8)) × Int × Int × Int × Int × Int × Int × Int × Int × Int × (List Bool) × Int))
  | 0,_,_,_,_,_,_,_,_,_,_,_=>none
  | k + 1,i29,i30,l6,i31,i33,i34,i35,i36,i37,i38,i39=>(if i30 < 9 then (if 0 ≤ i30 then (if i30 < (9:Int) then (if i30 = 0 then ((aM K l6 p0_1).bind fun x262=>(oK x262 (some (none)) fun x261=>(bM K p0_1 k x261.2 (bj (i30 + 1)) x261.1 i31 i33 i34 i35 i36 i37 i38 i39))) else (if i30 = 1 then ((aM K l6 p0_1).bind fun x266=>(oK x266 (some (none)) fun x265=>(bM K p0_1 k i29 (bj (i30 + 1)) x265.1 x265.2 i33 i34 i35 i36 i37 i38 i39))) else (if i30 = 2 then ((aM K l6 p0_1).bind fun x270=>(oK x270 (some (none)) fun x269=>(bM K p0_1 k i29 (bj (i30 + 1)) x269.1 i31 x269.2 i34 i35 i36 i37 i38 i39))) else (if i30 = 3 then ((aM K l6 p0_1).bind fun x274=>(oK x274 (some (none)) fun x273=>(bM K p0_1 k i29 (bj (i30 + 1)) x273.1 i31 i33 x273.2 i35 i36 i37 i38 i39))) else (if i30 = 4 then ((aM K l6 p0_1).bind fun x278=>(oK x278 (some (none)) fun x277=>(bM K p0_1 k i29 (bj (i30 + 1)) x277.1 i31 i33 i34 x277.2 i36 i37 i38 i39))) else (if i30 = 5 then ((aM K l6 p0_1).bind fun x282=>(oK x282 (some (none)) fun x281=>(bM K p0_1 k i29 (bj (i30 + 1)) x281.1 i31 i33 i34 i35 x281.2 i37 i38 i39))) else (if i30 = 6 then ((aM K l6 p0_1).bind fun x286=>(oK x286 (some (none)) fun x285=>(bM K p0_1 k i29 (bj (i30 + 1)) x285.1 i31 i33 i34 i35 i36 x285.2 i38 i39))) else (if i30 = 7 then ((aM K l6 p0_1).bind fun x290=>(oK x290 (some (none)) fun x289=>(bM K p0_1 k i29 (bj (i30 + 1)) x289.1 i31 i33 i34 i35 i36 i37 x289.2 i39))) else (if i30 = 8 then ((aM K l6 p0_1).bind fun x294=>(oK x294 (some (none)) fun x293=>(bM K p0_1 k i29 (bj (i30 + 1)) x293.1 i31 i33 i34 i35 i36 i37 i38 x293.2))) else none))))))))) else none) else none) else (if (l6.length:Int) = 0 then ((fF K i29 i31 i33 i34 i35 i36 i37 i38 i39 p0_1).bind fun x296=>(if x296 = true then (some (some (3,([]:List aA),0,0,false,false,false,false,false,false,false,false,([]:List UInt8),([]:List UInt8),([]:List UInt8),([]:List UInt8),l6,i29,i31,i33,i34,i35,i36,i37,i38,i39,([]:List Bool),0))) else (some (none)))) else (some (none))))
def bm (K:Nat) (p0_1:Int) (x169:((List (List UInt8)) × (List UInt8))) (x306:((List UInt8) × (List UInt8) × (List UInt8) × (List UInt8))):Nat → Int → (List (List UInt8)) → Int → Int → Option (Option (Int × (List aA) × Int × Int × Bool × Bool × Bool × Bool × Bool × Bool × Bool × Bool × (List UInt8) × (List UInt8) × (List UInt8) × (List UInt8) × (List (List UInt8)) × Int × Int × Int × Int × Int × Int × Int × Int × Int × (List Bool) × Int))
  | 0,_,_,_,_=>none
  | k + 1,i40,l7,i41,i42=>(if i40 < 4 then (if 0 ≤ i40 then (if i40 < (4:Int) then (if ([x306.1,x306.2.1,x306.2.2.1,x306.2.2.2].getD i40.toNat []) = x169.2 then (kr (kN) fun x322=>((aM K l7 p0_1).bind fun x324=>(oK x324 (some (none)) fun x323=>(bm K p0_1 x169 x306 k (bj (i40 + 1)) x323.1 ([x322.1,x322.2.1,x322.2.2.1,x322.2.2.2].getD i40.toNat 0) x323.2)))) else (bm K p0_1 x169 x306 k (bj (i40 + 1)) l7 i41 i42)) else none) else none) else (if (l7.length:Int) = 0 then ((ct K i41 i42 p0_1).bind fun x326=>(if x326 = true then (some (some (i41,([]:List aA),0,0,false,false,false,false,false,false,false,false,([]:List UInt8),([]:List UInt8),([]:List UInt8),([]:List UInt8),l7,0,0,0,0,0,0,0,0,0,([]:List Bool),i42))) else (some (none)))) else (some (none))))
def bk (K:Nat) (l0:List (List UInt8)) (p0_1:Int):Option (Option (Int × (List aA) × Int × Int × Bool × Bool × Bool × Bool × Bool × Bool × Bool × Bool × (List UInt8) × (List UInt8) × (List UInt8) × (List UInt8) × (List (List UInt8)) × Int × Int × Int × Int × Int × Int × Int × Int × Int × (List Bool) × Int)):=((cM l0 p0_1).bind fun x170=>(oK x170 (some (none)) fun x169=>(if x169.2 = ([105,110,103,101,115,116]:List UInt8) then ((cG K x169.1 p0_1).bind fun x174=>(oK x174 (some (none)) fun x173=>(if (x173.2.length:Int) = 0 then ((ga K x173.1 p0_1).bind fun x176=>(if x176 = true then (some (some (1,x173.1,0,0,false,false,false,false,false,false,false,false,([]:List UInt8),([]:List UInt8),([]:List UInt8),([]:List UInt8),x173.2,0,0,0,0,0,0,0,0,0,([]:List Bool),0))) else (some (none)))) else (some (none))))) else (if x169.2 = ([97,115,107]:List UInt8) then ((cE K x169.1 p0_1).bind fun x180=>(oK x180 (some (none)) fun x179=>(if (x179.1.length:Int) = 0 then ((gd K x179.2.1 x179.2.2.1 x179.2.2.2.1 x179.2.2.2.2.1 x179.2.2.2.2.2.1 x179.2.2.2.2.2.2.1 x179.2.2.2.2.2.2.2.1 x179.2.2.2.2.2.2.2.2.1 x179.2.2.2.2.2.2.2.2.2.1 x179.2.2.2.2.2.2.2.2.2.2.1 x179.2.2.2.2.2.2.2.2.2.2.2.1 x179.2.2.2.2.2.2.2.2.2.2.2.2.1 x179.2.2.2.2.2.2.2.2.2.2.2.2.2.1 x179.2.2.2.2.2.2.2.2.2.2.2.2.2.2 p0_1).bind fun x182=>(if x182 = true then (some (some (2,([]:List aA),x179.2.1,x179.2.2.1,x179.2.2.2.1,x179.2.2.2.2.1,x179.2.2.2.2.2.1,x179.2.2.2.2.2.2.1,x179.2.2.2.2.2.2.2.1,x179.2.2.2.2.2.2.2.2.1,x179.2.2.2.2.2.2.2.2.2.1,x179.2.2.2.2.2.2.2.2.2.2.1,x179.2.2.2.2.2.2.2.2.2.2.2.1,x179.2.2.2.2.2.2.2.2.2.2.2.2.1,x179.2.2.2.2.2.2.2.2.2.2.2.2.2.1,x179.2.2.2.2.2.2.2.2.2.2.2.2.2.2,x179.1,0,0,0,0,0,0,0,0,0,([]:List Bool),0))) else (some (none)))) else (some (none))))) else (if x169.2 = ([112,111,108,105,99,121]:List UInt8) then (kr (js 3 0 0 0 false false false false false false false false ([]:List UInt8) ([]:List UInt8) ([]:List UInt8) ([]:List UInt8) 0 0 0 0 0 0 0 0 0 0) fun u4=>(bM K p0_1 K 0 0 x169.1 0 0 0 0 0 0 0 0)) else (if x169.2 = ([102,97,105,108]:List UInt8) then ((cF K x169.1 p0_1).bind fun x300=>(oK x300 (some (none)) fun x299=>(if (x299.1.length:Int) = 0 then ((gM K x299.2 p0_1).bind fun x302=>(if x302 = true then (some (some (6,([]:List aA),0,0,false,false,false,false,false,false,false,false,([]:List UInt8),([]:List UInt8),([]:List UInt8),([]:List UInt8),x299.1,0,0,0,0,0,0,0,0,0,x299.2,0))) else (some (none)))) else (some (none))))) else (if x169.2 = ([115,116,97,114,116]:List UInt8) then (if (x169.1.length:Int) = 0 then ((fU K p0_1).bind fun x304=>(if x304 = true then (some (some (9,([]:List aA),0,0,false,false,false,false,false,false,false,false,([]:List UInt8),([]:List UInt8),([]:List UInt8),([]:List UInt8),x169.1,0,0,0,0,0,0,0,0,0,([]:List Bool),0))) else (some (none)))) else (some (none))) else (kr (iu) fun x306=>(bm K p0_1 x169 x306 K 0 x169.1 0 0)))))))))
def gx (K:Nat) (a0:List UInt8) (a1:Int):Option (Int × Int × (List aA) × Int × Int × Bool × Bool × Bool × Bool × Bool × Bool × Bool × Bool × (List UInt8) × (List UInt8) × (List UInt8) × (List UInt8) × Int × Int × Int × Int × Int × Int × Int × Int × Int × (List Bool) × Int):=(if a1 < 1 then (some ((0,0,([]:List aA),0,0,false,false,false,false,false,false,false,false,([]:List UInt8),([]:List UInt8),([]:List UInt8),([]:List UInt8),0,0,0,0,0,0,0,0,0,([]:List Bool),1))) else (if 4 < a1 then (some ((0,0,([]:List aA),0,0,false,false,false,false,false,false,false,false,([]:List UInt8),([]:List UInt8),([]:List UInt8),([]:List UInt8),0,0,0,0,0,0,0,0,0,([]:List Bool),1))) else ((jY a0).bind fun x4=>((bk K x4 a1).bind fun x6=>(oK x6 (some ((0,0,([]:List aA),0,0,false,false,false,false,false,false,false,false,([]:List UInt8),([]:List UInt8),([]:List UInt8),([]:List UInt8),0,0,0,0,0,0,0,0,0,([]:List Bool),4))) fun x5=>(some ((x5.1,x5.2.2.2.2.2.2.2.2.2.2.2.2.2.2.2.2.2.2.2.2.2.2.2.2.2.2.2,x5.2.1,x5.2.2.1,x5.2.2.2.1,x5.2.2.2.2.1,x5.2.2.2.2.2.1,x5.2.2.2.2.2.2.1,x5.2.2.2.2.2.2.2.1,x5.2.2.2.2.2.2.2.2.1,x5.2.2.2.2.2.2.2.2.2.1,x5.2.2.2.2.2.2.2.2.2.2.1,x5.2.2.2.2.2.2.2.2.2.2.2.1,x5.2.2.2.2.2.2.2.2.2.2.2.2.1,x5.2.2.2.2.2.2.2.2.2.2.2.2.2.1,x5.2.2.2.2.2.2.2.2.2.2.2.2.2.2.1,x5.2.2.2.2.2.2.2.2.2.2.2.2.2.2.2.1,x5.2.2.2.2.2.2.2.2.2.2.2.2.2.2.2.2.2.1,x5.2.2.2.2.2.2.2.2.2.2.2.2.2.2.2.2.2.2.1,x5.2.2.2.2.2.2.2.2.2.2.2.2.2.2.2.2.2.2.2.1,x5.2.2.2.2.2.2.2.2.2.2.2.2.2.2.2.2.2.2.2.2.1,x5.2.2.2.2.2.2.2.2.2.2.2.2.2.2.2.2.2.2.2.2.2.1,x5.2.2.2.2.2.2.2.2.2.2.2.2.2.2.2.2.2.2.2.2.2.2.1,x5.2.2.2.2.2.2.2.2.2.2.2.2.2.2.2.2.2.2.2.2.2.2.2.1,x5.2.2.2.2.2.2.2.2.2.2.2.2.2.2.2.2.2.2.2.2.2.2.2.2.1,x5.2.2.2.2.2.2.2.2.2.2.2.2.2.2.2.2.2.2.2.2.2.2.2.2.2.1,x5.2.2.2.2.2.2.2.2.2.2.2.2.2.2.2.2.2.2.2.2.2.2.2.2.2.2.1,0))))))))
def fJ (K:Nat):Option Bool:=((gx K ([105,110,103,101,115,116,32,49,57,55,48,45,48,49,45,48,49,84,48,53,32,101,117,32,45,32,51]:List UInt8) 2).bind fun x2=>(if x2.2.2.2.2.2.2.2.2.2.2.2.2.2.2.2.2.2.2.2.2.2.2.2.2.2.2.2 = 0 then (if (x2.2.2.1.length:Int) = 1 then (if 0 < (x2.2.2.1.length:Int) then (if (((x2.2.2.1.getD ((0:Int).toNat) ax).Key).Hour) = 5 then (if 0 < (4:Int) then (if ([((x2.2.2.1.getD ((0:Int).toNat) ax).Key).Dims_0,((x2.2.2.1.getD ((0:Int).toNat) ax).Key).Dims_1,((x2.2.2.1.getD ((0:Int).toNat) ax).Key).Dims_2,((x2.2.2.1.getD ((0:Int).toNat) ax).Key).Dims_3].getD ((0:Int).toNat) []) = ([101,117]:List UInt8) then (some ((((x2.2.2.1.getD ((0:Int).toNat) ax).Value) == 3))) else (some (false))) else none) else (some (false))) else none) else (some (false))) else (some (false))))
def jN (a0 a1:List UInt8):Option Int:=match a1 with | [c]=>some ((a0.count c:Nat):Int) | _=>none
def gB (a0 a1:List UInt8):Option Int:=match a1 with | [c]=>some (mR a0 c) | _=>none
def hE (a0:List UInt8) (a1:List UInt8):Option ((List UInt8) × (List UInt8) × Bool):=((gB a0 a1).bind fun x4=>(if 0 ≤ x4 then (if x4 ≤ (a0.length:Int) then (if 0 ≤ (bj (x4 + (a1.length:Int))) then (if (bj (x4 + (a1.length:Int))) ≤ (a0.length:Int) then (some (((a0.take x4.toNat),(a0.drop (bj (x4 + (a1.length:Int))).toNat),true))) else none) else none) else none) else (some ((a0,([]:List UInt8),false)))))
def strings_Cut (a0:List UInt8) (a1:List UInt8):Option ((List UInt8) × (List UInt8) × Bool):=((hE a0 a1).bind fun x2=>(some ((x2.1,x2.2.1,x2.2.2))))
def iy (K:Nat) (a1:Int):Nat → (List UInt8) → (List aD) → Option (Int × Int × (List aD))
  | 0,_,_=>none
  | k + 1,t4,l5=>(if ¬ (t4 = ([]:List UInt8)) then ((strings_Cut t4 ([10]:List UInt8)).bind fun x27=>((gx K x27.1 a1).bind fun x28=>(if ¬ (x28.2.2.2.2.2.2.2.2.2.2.2.2.2.2.2.2.2.2.2.2.2.2.2.2.2.2.2 = 0) then (some ((4,bj ((l5.length:Int) + 1),([]:List aD)))) else (if (!x27.2.2) = true then (some ((4,bj ((l5.length:Int) + 1),([]:List aD)))) else (if (l5.length + 1) * 224 ≤ 140737488355328 then (iy K a1 k x27.2.1 (l5 ++ [(⟨x28.1,x28.2.1,x28.2.2.1,(⟨x28.2.2.2.1,x28.2.2.2.2.1,x28.2.2.2.2.2.1,x28.2.2.2.2.2.2.1,x28.2.2.2.2.2.2.2.1,x28.2.2.2.2.2.2.2.2.1,x28.2.2.2.2.2.2.2.2.2.1,x28.2.2.2.2.2.2.2.2.2.2.1,x28.2.2.2.2.2.2.2.2.2.2.2.1,x28.2.2.2.2.2.2.2.2.2.2.2.2.1,x28.2.2.2.2.2.2.2.2.2.2.2.2.2.1,x28.2.2.2.2.2.2.2.2.2.2.2.2.2.2.1,x28.2.2.2.2.2.2.2.2.2.2.2.2.2.2.2.1,x28.2.2.2.2.2.2.2.2.2.2.2.2.2.2.2.2.1⟩:aI),(⟨x28.2.2.2.2.2.2.2.2.2.2.2.2.2.2.2.2.2.1,x28.2.2.2.2.2.2.2.2.2.2.2.2.2.2.2.2.2.2.1,x28.2.2.2.2.2.2.2.2.2.2.2.2.2.2.2.2.2.2.2.1,x28.2.2.2.2.2.2.2.2.2.2.2.2.2.2.2.2.2.2.2.2.1,x28.2.2.2.2.2.2.2.2.2.2.2.2.2.2.2.2.2.2.2.2.2.1,x28.2.2.2.2.2.2.2.2.2.2.2.2.2.2.2.2.2.2.2.2.2.2.1,x28.2.2.2.2.2.2.2.2.2.2.2.2.2.2.2.2.2.2.2.2.2.2.2.1,x28.2.2.2.2.2.2.2.2.2.2.2.2.2.2.2.2.2.2.2.2.2.2.2.2.1,x28.2.2.2.2.2.2.2.2.2.2.2.2.2.2.2.2.2.2.2.2.2.2.2.2.2.1⟩:aE),x28.2.2.2.2.2.2.2.2.2.2.2.2.2.2.2.2.2.2.2.2.2.2.2.2.2.2.1⟩:aD)])) else none))))) else (some ((0,0,l5))))
def kJ (K:Nat) (a0:List UInt8) (a1:Int):Option (Int × Int × (List aD)):=(if a1 < 1 then (some ((1,0,([]:List aD)))) else (if 4 < a1 then (some ((1,0,([]:List aD)))) else ((jN a0 ([10]:List UInt8)).bind fun x16=>(if 1000 < x16 then (some ((2,0,([]:List aD)))) else (iy K a1 K a0 ([]:List aD))))))
def eR (K:Nat) (a0:List UInt8):Nat → Int → (List (List UInt8)) → Option (List (List UInt8))
  | 0,_,_=>none
  | k + 1,i4,l5=>(if i4 < (a0.length:Int) then (if 0 ≤ i4 then (if ((a0.getD i4.toNat 0).toNat:Int) = 32 then (if (l5.length + [([]:List UInt8)].length) * 16 ≤ 140737488355328 then (eR K a0 k (bj (i4 + 1)) (l5 ++ [([]:List UInt8)])) else none) else (if 0 ≤ (bj ((l5.length:Int) - 1)) then (if (bj ((l5.length:Int) - 1)) < (l5.length:Int) then (if i4 ≤ (bj (i4 + 1)) then (if (bj (i4 + 1)) ≤ (a0.length:Int) then (if ((l5.getD ((bj ((l5.length:Int) - 1)).toNat) []).length:Int) + (((a0.drop i4.toNat).take ((bj (i4 + 1)).toNat - i4.toNat)).length:Int) ≤ 9223372036854775807 then (eR K a0 k (bj (i4 + 1)) (l5.set ((bj ((l5.length:Int) - 1)).toNat) ((l5.getD ((bj ((l5.length:Int) - 1)).toNat) []) ++ ((a0.drop i4.toNat).take ((bj (i4 + 1)).toNat - i4.toNat))))) else none) else none) else none) else none) else none)) else none) else (some (l5)))
def gi (K:Nat) (a0:List UInt8):Option (List (List UInt8)):=(if a0 = ([]:List UInt8) then (some (([]:List (List UInt8)))) else (eR K a0 K 0 [([]:List UInt8)]))
def dK (K:Nat) (a0:List UInt8):Nat → Int → Int → Option Int
  | 0,_,_=>none
  | k + 1,i7,i9=>(if i9 < (a0.length:Int) then (if 0 ≤ i9 then (if 48 ≤ ((a0.getD i9.toNat 0).toNat:Int) then (if ((a0.getD i9.toNat 0).toNat:Int) ≤ 57 then (dK K a0 k (bj ((bj (i7 * 10)) + (bj (dR (((a0.getD i9.toNat 0).toNat:Int) - 48))))) (bj (i9 + 1))) else (dK K a0 k i7 (bj (i9 + 1)))) else (dK K a0 k i7 (bj (i9 + 1)))) else none) else (some (i7)))
def cY (K:Nat) (a0:List UInt8):Option Int:=(dK K a0 K 0 0)
def fb (a0:Int):Bool:=(if (Int.tmod a0 4) = 0 then (if ¬ ((Int.tmod a0 100) = 0) then (true) else (((Int.tmod a0 400) == 0))) else (false))
def cC (a0:Int) (a1:Int):Int:=(if a1 = 2 then (kr (fb a0) fun x14=>(if x14 = true then (29) else (28))) else (kr (if a1 = 4 then ((a1 == 4)) else (if a1 = 6 then ((a1 == 6)) else (if a1 = 9 then ((a1 == 9)) else ((a1 == 11))))) fun x15=>(if x15 = true then (30) else (kr (if a1 = 1 then ((a1 == 1)) else (if a1 = 3 then ((a1 == 3)) else (if a1 = 5 then ((a1 == 5)) else (if a1 = 7 then ((a1 == 7)) else (if a1 = 8 then ((a1 == 8)) else (if a1 = 10 then ((a1 == 10)) else ((a1 == 12)))))))) fun x16=>(if x16 = true then (31) else (0))))))
def eH (a0:Int):Int:=(kr (fb a0) fun x4=>(if x4 = true then (366) else (365)))
def fg (K:Nat) (a0:Int):Nat → Int → Int → Option Int
  | 0,_,_=>none
  | k + 1,i17,i18=>(if i18 < a0 then (kr (eH i18) fun x43=>(fg K a0 k (bj (i17 + x43)) (bj (i18 + 1)))) else (some (i17)))
def fp (K:Nat) (a0:Int) (a1:Int):Nat → Int → Int → Option Int
  | 0,_,_=>none
  | k + 1,i22,i23=>(if i23 < a1 then (kr (cC a0 i23) fun x56=>(fp K a0 a1 k (bj (i22 + x56)) (bj (i23 + 1)))) else (some (i22)))
def fT (K:Nat) (a0:Int) (a1:Int) (a2:Int):Option (Int × Bool):=(if a0 < 1970 then (some ((0,false))) else (if 4900 < a0 then (some ((0,false))) else (if a2 < 1 then (some ((0,false))) else (kr (cC a0 a1) fun x30=>(if x30 < a2 then (some ((0,false))) else (Option.bind (fg K a0 K 0 1970) fun x37=>(Option.bind (fp K a0 a1 K x37 1) fun x50=>(some ((bj ((bj (x50 + a2)) - 1),true))))))))))
def fR (K:Nat):Nat → Int → Int → Option (Int × Int)
  | 0,_,_=>none
  | k + 1,i19,i20=>(kr (eH i20) fun x62=>(if x62 ≤ i19 then (if i20 < 5000 then (kr (eH i20) fun x63=>(fR K k (bj (i19 - x63)) (bj (i20 + 1)))) else (some ((i19,i20)))) else (some ((i19,i20)))))
def fO (K:Nat) (x53:(Int × Int)):Nat → Int → Int → Option (Int × Int)
  | 0,_,_=>none
  | k + 1,i25,i26=>(if i26 < 12 then (kr (cC x53.2 i26) fun x83=>(if x83 ≤ i25 then (kr (cC x53.2 i26) fun x84=>(fO K x53 k (bj (i25 - x84)) (bj (i26 + 1)))) else (some ((i25,i26))))) else (some ((i25,i26))))
def gC (K:Nat) (a0:Int):Option (Int × Int × Int):=(Option.bind (fR K K a0 1970) fun x53=>(Option.bind (fO K x53 K x53.1 1) fun x74=>(some ((x53.2,x74.2,bj (x74.1 + 1))))))
def fm (K:Nat) (a1:Int):Nat → Int → (List UInt8) → Int → Option (List UInt8)
  | 0,_,_,_=>none
  | k + 1,i7,t4,i9=>(if i9 < a1 then (if ((mg [dR (bj (48 + (Int.tmod i7 10)))]).length:Int) + (t4.length:Int) ≤ 9223372036854775807 then (fm K a1 k (bj (Int.tdiv i7 10)) ((mg [dR (bj (48 + (Int.tmod i7 10)))]) ++ t4) (bj (i9 + 1))) else none) else (some (t4)))
def ci (K:Nat) (a0:Int) (a1:Int):Option (List UInt8):=(fm K a1 K a0 ([]:List UInt8) 0)
def eF (K:Nat) (a0:Int):Option (List UInt8):=((gC K (bj (Int.tdiv a0 24))).bind fun x6=>((ci K x6.1 4).bind fun x7=>(if (x7.length:Int) + (([45]:List UInt8).length:Int) ≤ 9223372036854775807 then ((ci K x6.2.1 2).bind fun x8=>(if ((x7 ++ ([45]:List UInt8)).length:Int) + (x8.length:Int) ≤ 9223372036854775807 then (if (((x7 ++ ([45]:List UInt8)) ++ x8).length:Int) + (([45]:List UInt8).length:Int) ≤ 9223372036854775807 then ((ci K x6.2.2 2).bind fun x9=>(if ((((x7 ++ ([45]:List UInt8)) ++ x8) ++ ([45]:List UInt8)).length:Int) + (x9.length:Int) ≤ 9223372036854775807 then (if (((((x7 ++ ([45]:List UInt8)) ++ x8) ++ ([45]:List UInt8)) ++ x9).length:Int) + (([84]:List UInt8).length:Int) ≤ 9223372036854775807 then ((ci K (Int.tmod a0 24) 2).bind fun x10=>(if ((((((x7 ++ ([45]:List UInt8)) ++ x8) ++ ([45]:List UInt8)) ++ x9) ++ ([84]:List UInt8)).length:Int) + (x10.length:Int) ≤ 9223372036854775807 then (some (((((((x7 ++ ([45]:List UInt8)) ++ x8) ++ ([45]:List UInt8)) ++ x9) ++ ([84]:List UInt8)) ++ x10))) else none)) else none) else none)) else none) else none)) else none)))
def ge (K:Nat) (a0:List UInt8):Option (Int × Bool):=(if ¬ ((a0.length:Int) = 13) then (some ((0,false))) else (if 4 ≤ (a0.length:Int) then ((cY K ((a0.drop (0:Int).toNat).take ((4:Int).toNat - (0:Int).toNat))).bind fun x8=>(if 7 ≤ (a0.length:Int) then ((cY K ((a0.drop (5:Int).toNat).take ((7:Int).toNat - (5:Int).toNat))).bind fun x9=>(if 10 ≤ (a0.length:Int) then ((cY K ((a0.drop (8:Int).toNat).take ((10:Int).toNat - (8:Int).toNat))).bind fun x10=>((fT K x8 x9 x10).bind fun x11=>(if 13 ≤ (a0.length:Int) then ((cY K ((a0.drop (11:Int).toNat).take ((13:Int).toNat - (11:Int).toNat))).bind fun x12=>(if (!x11.2) = true then (some ((0,false))) else (if 23 < x12 then (some ((0,false))) else (if 16777216 < (bj ((bj (24 * x11.1)) + x12)) then (some ((0,false))) else ((eF K (bj ((bj (24 * x11.1)) + x12))).bind fun x14=>(if ¬ (x14 = a0) then (some ((0,false))) else (some ((bj ((bj (24 * x11.1)) + x12),true))))))))) else none))) else none)) else none)) else none))
def bp (K:Nat):Nat → Int → Option (List UInt8)
  | 0,_=>none
  | k_ + 1,a0=>(if a0 = (-9223372036854775808) then (some (([45,57,50,50,51,51,55,50,48,51,54,56,53,52,55,55,53,56,48,56]:List UInt8))) else (if a0 < 0 then (((bp K k_) (bj (0 - a0))).bind fun x6=>(if (([45]:List UInt8).length:Int) + (x6.length:Int) ≤ 9223372036854775807 then (some ((([45]:List UInt8) ++ x6))) else none)) else (if a0 < 10 then (some ((mg [dR (bj (48 + a0))]))) else (((bp K k_) (bj (Int.tdiv a0 10))).bind fun x7=>(((bp K k_) (Int.tmod a0 10)).bind fun x8=>(if (x7.length:Int) + (x8.length:Int) ≤ 9223372036854775807 then (some ((x7 ++ x8))) else none))))))
def bV (K:Nat) (a0:Int):Option (List UInt8):=bp K K a0
def fo (K:Nat) (a0:List UInt8):Nat → Int → Int → Option (Sum Int (Int × Bool))
  | 0,_,_=>none
  | k + 1,i14,i15=>(if i15 < (a0.length:Int) then (if 0 ≤ i15 then (if (bj ((bj ((a0.getD i15.toNat 0).toNat:Int)) - 48)) < 0 then (some (Sum.inr ((0,false)))) else (if 9 < (bj ((bj ((a0.getD i15.toNat 0).toNat:Int)) - 48)) then (some (Sum.inr ((0,false)))) else (if i14 < (bj (Int.tdiv (bj ((-9223372036854775808) + (bj ((bj ((a0.getD i15.toNat 0).toNat:Int)) - 48)))) 10)) then (some (Sum.inr ((0,false)))) else (fo K a0 k (bj ((bj (i14 * 10)) - (bj ((bj ((a0.getD i15.toNat 0).toNat:Int)) - 48)))) (bj (i15 + 1)))))) else none) else (some (Sum.inl i14)))
def dk (K:Nat) (a0:List UInt8):Option (Int × Bool):=(if (a0.length:Int) = 0 then (some ((0,false))) else (if 20 < (a0.length:Int) then (some ((0,false))) else (Option.bind (if 0 < (a0.length:Int) then (if ((a0.getD (0:Int).toNat 0).toNat:Int) = 45 then (some (1)) else (some (0))) else none) fun x6=>(Option.bind (fo K a0 K 0 x6) fun z=>(mD z (fun v3=>(kr (if x6 = 0 then (if v3 = (-9223372036854775808) then (Sum.inr ((0,false))) else (Sum.inl (bj (0 - v3)))) else (Sum.inl v3)) fun z=>(mD z (fun v4=>((bV K v4).bind fun x10=>(if ¬ (x10 = a0) then (some ((0,false))) else (some ((v4,true)))))) (fun t_=>(some (t_)))))) (fun t_=>(some (t_))))))))
def aW (K:Nat) (l0:List (List UInt8)) (a1:Int):Option Int:=(if (l0.length:Int) ≤ a1 then (some (0)) else (if 0 ≤ a1 then (if a1 < (l0.length:Int) then ((dk K (l0.getD a1.toNat [])).bind fun x2=>(some (x2.1))) else none) else none))
def hN (K:Nat) (a0:Int):Nat → Int → Option Int
  | 0,_=>none
  | k + 1,i5=>(if i5 < 16 then (if 0 ≤ i5 then (if i5 < (([48,49,50,51,52,53,54,55,56,57,97,98,99,100,101,102]:List UInt8).length:Int) then (if ((([48,49,50,51,52,53,54,55,56,57,97,98,99,100,101,102]:List UInt8).getD i5.toNat 0).toNat:Int) = a0 then (some (i5)) else (hN K a0 k (bj (i5 + 1)))) else none) else none) else (some (0)))
def fa (K:Nat) (a0:Int):Option Int:=(hN K a0 K 0)
def gj (a0:Int):Bool:=(if 97 ≤ a0 then (if a0 ≤ 122 then (true) else (if 65 ≤ a0 then (if a0 ≤ 90 then (true) else (if 48 ≤ a0 then (if a0 ≤ 57 then (true) else (if a0 = 95 then (true) else ((a0 == 46)))) else (if a0 = 95 then (true) else ((a0 == 46))))) else (if 48 ≤ a0 then (if a0 ≤ 57 then (true) else (if a0 = 95 then (true) else ((a0 == 46)))) else (if a0 = 95 then (true) else ((a0 == 46)))))) else (if 65 ≤ a0 then (if a0 ≤ 90 then (true) else (if 48 ≤ a0 then (if a0 ≤ 57 then (true) else (if a0 = 95 then (true) else ((a0 == 46)))) else (if a0 = 95 then (true) else ((a0 == 46))))) else (if 48 ≤ a0 then (if a0 ≤ 57 then (true) else (if a0 = 95 then (true) else ((a0 == 46)))) else (if a0 = 95 then (true) else ((a0 == 46))))))
def dX (K:Nat) (a0:List UInt8):Nat → (List UInt8) → Int → Option (List UInt8)
  | 0,_,_=>none
  | k + 1,t5,i4=>(if i4 < (a0.length:Int) then (if 0 ≤ i4 then (kr (gj ((a0.getD i4.toNat 0).toNat:Int)) fun x24=>(if x24 = true then (if i4 ≤ (bj (i4 + 1)) then (if (bj (i4 + 1)) ≤ (a0.length:Int) then (if (t5.length:Int) + (((a0.drop i4.toNat).take ((bj (i4 + 1)).toNat - i4.toNat)).length:Int) ≤ 9223372036854775807 then (dX K a0 k (t5 ++ ((a0.drop i4.toNat).take ((bj (i4 + 1)).toNat - i4.toNat))) (bj (i4 + 1))) else none) else none) else none) else (if (t5.length:Int) + (([37]:List UInt8).length:Int) ≤ 9223372036854775807 then (if 0 ≤ (dR (Int.tdiv ((a0.getD i4.toNat 0).toNat:Int) 16)) then (if (dR (Int.tdiv ((a0.getD i4.toNat 0).toNat:Int) 16)) ≤ (dR ((dR (Int.tdiv ((a0.getD i4.toNat 0).toNat:Int) 16)) + 1)) then (if (dR ((dR (Int.tdiv ((a0.getD i4.toNat 0).toNat:Int) 16)) + 1)) ≤ (([48,49,50,51,52,53,54,55,56,57,97,98,99,100,101,102]:List UInt8).length:Int) then (if ((t5 ++ ([37]:List UInt8)).length:Int) + (((([48,49,50,51,52,53,54,55,56,57,97,98,99,100,101,102]:List UInt8).drop (dR (Int.tdiv ((a0.getD i4.toNat 0).toNat:Int) 16)).toNat).take ((dR ((dR (Int.tdiv ((a0.getD i4.toNat 0).toNat:Int) 16)) + 1)).toNat - (dR (Int.tdiv ((a0.getD i4.toNat 0).toNat:Int) 16)).toNat)).length:Int) ≤ 9223372036854775807 then (if 0 ≤ (Int.tmod ((a0.getD i4.toNat 0).toNat:Int) 16) then (if (Int.tmod ((a0.getD i4.toNat 0).toNat:Int) 16) ≤ (dR ((Int.tmod ((a0.getD i4.toNat 0).toNat:Int) 16) + 1)) then (if (dR ((Int.tmod ((a0.getD i4.toNat 0).toNat:Int) 16) + 1)) ≤ (([48,49,50,51,52,53,54,55,56,57,97,98,99,100,101,102]:List UInt8).length:Int) then (if (((t5 ++ ([37]:List UInt8)) ++ ((([48,49,50,51,52,53,54,55,56,57,97,98,99,100,101,102]:List UInt8).drop (dR (Int.tdiv ((a0.getD i4.toNat 0).toNat:Int) 16)).toNat).take ((dR ((dR (Int.tdiv ((a0.getD i4.toNat 0).toNat:Int) 16)) + 1)).toNat - (dR (Int.tdiv ((a0.getD i4.toNat 0).toNat:Int) 16)).toNat))).length:Int) + (((([48,49,50,51,52,53,54,55,56,57,97,98,99,100,101,102]:List UInt8).drop (Int.tmod ((a0.getD i4.toNat 0).toNat:Int) 16).toNat).take ((dR ((Int.tmod ((a0.getD i4.toNat 0).toNat:Int) 16) + 1)).toNat - (Int.tmod ((a0.getD i4.toNat 0).toNat:Int) 16).toNat)).length:Int) ≤ 9223372036854775807 then (dX K a0 k (((t5 ++ ([37]:List UInt8)) ++ ((([48,49,50,51,52,53,54,55,56,57,97,98,99,100,101,102]:List UInt8).drop (dR (Int.tdiv ((a0.getD i4.toNat 0).toNat:Int) 16)).toNat).take ((dR ((dR (Int.tdiv ((a0.getD i4.toNat 0).toNat:Int) 16)) + 1)).toNat - (dR (Int.tdiv ((a0.getD i4.toNat 0).toNat:Int) 16)).toNat))) ++ ((([48,49,50,51,52,53,54,55,56,57,97,98,99,100,101,102]:List UInt8).drop (Int.tmod ((a0.getD i4.toNat 0).toNat:Int) 16).toNat).take ((dR ((Int.tmod ((a0.getD i4.toNat 0).toNat:Int) 16) + 1)).toNat - (Int.tmod ((a0.getD i4.toNat 0).toNat:Int) 16).toNat))) (bj (i4 + 1))) else none) else none) else none) else none) else none) else none) else none) else none) else none))) else none) else (some (t5)))
def dU (K:Nat) (a0:List UInt8):Option (List UInt8):=(if a0 = ([]:List UInt8) then (some (([45]:List UInt8))) else (dX K a0 K ([]:List UInt8) 0))
def dP (K:Nat) (a0:List UInt8):Nat → Int → (List Int) → Option (List Int)
  | 0,_,_=>none
  | k + 1,i4,l6=>(if i4 < (a0.length:Int) then (if 0 ≤ i4 then (if ((a0.getD i4.toNat 0).toNat:Int) = 37 then (if (bj (i4 + 2)) < (a0.length:Int) then (if 0 ≤ (bj (i4 + 1)) then (if (bj (i4 + 1)) < (a0.length:Int) then ((fa K ((a0.getD (bj (i4 + 1)).toNat 0).toNat:Int)).bind fun x53=>(if 0 ≤ (bj (i4 + 2)) then ((fa K ((a0.getD (bj (i4 + 2)).toNat 0).toNat:Int)).bind fun x54=>(if (l6.length + [dR (bj ((bj (16 * x53)) + x54))].length) * 1 ≤ 140737488355328 then (dP K a0 k (bj ((bj (i4 + 2)) + 1)) (l6 ++ [dR (bj ((bj (16 * x53)) + x54))])) else none)) else none)) else none) else none) else (if (l6.length + [((a0.getD i4.toNat 0).toNat:Int)].length) * 1 ≤ 140737488355328 then (dP K a0 k (bj (i4 + 1)) (l6 ++ [((a0.getD i4.toNat 0).toNat:Int)])) else none)) else (if (l6.length + [((a0.getD i4.toNat 0).toNat:Int)].length) * 1 ≤ 140737488355328 then (dP K a0 k (bj (i4 + 1)) (l6 ++ [((a0.getD i4.toNat 0).toNat:Int)])) else none)) else none) else (some (l6)))
def eK (K:Nat) (a0:List UInt8):Option ((List UInt8) × Bool):=(Option.bind (if ¬ (a0 = ([45]:List UInt8)) then (dP K a0 K 0 ([]:List Int)) else (some (([]:List Int)))) fun x42=>((dU K (mg x42)).bind fun x56=>(if ¬ (x56 = a0) then (some ((([]:List UInt8),false))) else (some (((mg x42),true))))))
def eu (K:Nat) (l0:List (List UInt8)) (a1:Int):Option (List UInt8):=(if (l0.length:Int) ≤ a1 then (some (([]:List UInt8))) else (if 0 ≤ a1 then (if a1 < (l0.length:Int) then ((eK K (l0.getD a1.toNat [])).bind fun x2=>(some (x2.1))) else none) else none))
def dx (K:Nat) (l0:List (List UInt8)) (a1:Int) (i47:Int):Nat → Int → (List UInt8) → (List UInt8) → (List UInt8) → (List UInt8) → Option ((List UInt8) × (List UInt8) × (List UInt8) × (List UInt8))
  | 0,_,_,_,_,_=>none
  | k + 1,i55,t285,t286,t287,t288=>(if i55 < a1 then ((eu K l0 (bj ((bj (i47 + 1)) + i55))).bind fun x468=>(if 0 ≤ i55 then (if i55 < (4:Int) then (dx K l0 a1 i47 k (bj (i55 + 1)) (if i55.toNat = 0 then x468 else t285) (if i55.toNat = 1 then x468 else t286) (if i55.toNat = 2 then x468 else t287) (if i55.toNat = 3 then x468 else t288)) else none) else none)) else (some ((t285,t286,t287,t288))))
def eY (K:Nat) (l0:List (List UInt8)) (a1:Int):Nat → Int → (List aA) → Option (List aA)
  | 0,_,_=>none
  | k + 1,i47,l15=>(if i47 < (l0.length:Int) then (if (l15.length:Int) < 60 then (Option.bind (if 0 ≤ i47 then ((ge K (l0.getD i47.toNat [])).bind fun x450=>((aW K l0 (bj ((bj (i47 + a1)) + 1))).bind fun x451=>(Option.bind (dx K l0 a1 i47 K 0 ([]:List UInt8) ([]:List UInt8) ([]:List UInt8) ([]:List UInt8)) fun x460=>(if (l15.length + [(⟨(⟨x450.1,x460.1,x460.2.1,x460.2.2.1,x460.2.2.2⟩:iV),x451⟩:aA)].length) * 80 ≤ 140737488355328 then (some ((l15 ++ [(⟨(⟨x450.1,x460.1,x460.2.1,x460.2.2.1,x460.2.2.2⟩:iV),x451⟩:aA)]))) else none)))) else none) fun x449=>(eY K l0 a1 k (bj (i47 + (bj (a1 + 2)))) x449)) else (some (l15))) else (some (l15)))
def fP (K:Nat) (l0:List (List UInt8)) (a1:Int):Option (List aA):=(eY K l0 a1 K 1 ([]:List aA))
def dw (K:Nat) (l0:List (List UInt8)) (a1:Int) (x35:Int) (x36:Int):Nat → Int → (List UInt8) → (List UInt8) → (List UInt8) → (List UInt8) → Bool → Bool → (List UInt8) → (List UInt8) → (List UInt8) → (List UInt8) → Bool → Bool → Bool → Bool → Bool → Bool → Option (Int × Int × Bool × Bool × Bool × Bool × Bool × Bool × Bool × Bool × (List UInt8) × (List UInt8) × (List UInt8) × (List UInt8))
  | 0,_,_,_,_,_,_,_,_,_,_,_,_,_,_,_,_,_=>none
  | k + 1,i4,t115,t116,t117,t118,q105,q106,t119,t120,t121,t122,q115,q116,q117,q118,q119,q120=>(if i4 < a1 then (if (bj (3 + i4)) < (l0.length:Int) then (if 0 ≤ (bj (3 + i4)) then (Option.bind (if 0 < ((l0.getD ((bj (3 + i4)).toNat) []).length:Int) then (if (((l0.getD ((bj (3 + i4)).toNat) []).getD (0:Int).toNat 0).toNat:Int) = 43 then (if 0 ≤ i4 then (if i4 < (4:Int) then (if 1 ≤ ((l0.getD ((bj (3 + i4)).toNat) []).length:Int) then (some ((((l0.getD ((bj (3 + i4)).toNat) []).drop (1:Int).toNat),(if i4.toNat = 0 then true else q105),(if i4.toNat = 1 then true else q115),(if i4.toNat = 2 then true else q116),(if i4.toNat = 3 then true else q117)))) else none) else none) else none) else (some (((l0.getD ((bj (3 + i4)).toNat) []),q105,q115,q116,q117)))) else (some (((l0.getD ((bj (3 + i4)).toNat) []),q105,q115,q116,q117)))) fun x67=>(if 0 < (x67.1.length:Int) then (if ((x67.1.getD (0:Int).toNat 0).toNat:Int) = 61 then (if 0 ≤ i4 then (if i4 < (4:Int) then (if 1 ≤ (x67.1.length:Int) then ((eu K [(x67.1.drop (1:Int).toNat)] 0).bind fun x68=>(dw K l0 a1 x35 x36 k (bj (i4 + 1)) t115 t116 t117 t118 x67.2.1 (if i4.toNat = 0 then true else q106) (if i4.toNat = 0 then x68 else t119) (if i4.toNat = 1 then x68 else t120) (if i4.toNat = 2 then x68 else t121) (if i4.toNat = 3 then x68 else t122) x67.2.2.1 x67.2.2.2.1 x67.2.2.2.2 (if i4.toNat = 1 then true else q118) (if i4.toNat = 2 then true else q119) (if i4.toNat = 3 then true else q120))) else none) else none) else none) else (dw K l0 a1 x35 x36 k (bj (i4 + 1)) t115 t116 t117 t118 x67.2.1 q106 t119 t120 t121 t122 x67.2.2.1 x67.2.2.2.1 x67.2.2.2.2 q118 q119 q120)) else (dw K l0 a1 x35 x36 k (bj (i4 + 1)) t115 t116 t117 t118 x67.2.1 q106 t119 t120 t121 t122 x67.2.2.1 x67.2.2.2.1 x67.2.2.2.2 q118 q119 q120))) else none) else (some ((x35,x36,q105,q115,q116,q117,q106,q118,q119,q120,t119,t120,t121,t122)))) else (some ((x35,x36,q105,q115,q116,q117,q106,q118,q119,q120,t119,t120,t121,t122))))
def fN (K:Nat) (l0:List (List UInt8)) (a1:Int):Option (Int × Int × Bool × Bool × Bool × Bool × Bool × Bool × Bool × Bool × (List UInt8) × (List UInt8) × (List UInt8) × (List UInt8)):=((aW K l0 1).bind fun x35=>((aW K l0 2).bind fun x36=>(dw K l0 a1 x35 x36 K 0 ([]:List UInt8) ([]:List UInt8) ([]:List UInt8) ([]:List UInt8) false false ([]:List UInt8) ([]:List UInt8) ([]:List UInt8) ([]:List UInt8) false false false false false false)))
def aU:List (List UInt8):=([([]:List UInt8),([]:List UInt8),([]:List UInt8),([]:List UInt8),([116,105,99,107]:List UInt8),([119,111,114,107]:List UInt8),([]:List UInt8),([97,114,109]:List UInt8),([99,114,97,115,104]:List UInt8)])
def cP (K:Nat) (l0:List (List UInt8)):Nat → Int → (List Bool) → Option (Sum ((List UInt8) × (List UInt8) × (List UInt8) × (List UInt8)) (Int × (List aA) × Int × Int × Bool × Bool × Bool × Bool × Bool × Bool × Bool × Bool × (List UInt8) × (List UInt8) × (List UInt8) × (List UInt8) × Int × Int × Int × Int × Int × Int × Int × Int × Int × (List Bool) × Int))
  | 0,_,_=>none
  | k + 1,i25,l10=>(if 1 < (l0.length:Int) then (if i25 < ((l0.getD ((1:Int).toNat) []).length:Int) then (if 0 ≤ i25 then (if (l10.length + [((((l0.getD ((1:Int).toNat) []).getD i25.toNat 0).toNat:Int) == 49)].length) * 1 ≤ 140737488355328 then (cP K l0 k (bj (i25 + 1)) (l10 ++ [((((l0.getD ((1:Int).toNat) []).getD i25.toNat 0).toNat:Int) == 49)])) else none) else none) else (some (Sum.inr ((6,([]:List aA),0,0,false,false,false,false,false,false,false,false,([]:List UInt8),([]:List UInt8),([]:List UInt8),([]:List UInt8),0,0,0,0,0,0,0,0,0,l10,0))))) else (some (Sum.inr ((6,([]:List aA),0,0,false,false,false,false,false,false,false,false,([]:List UInt8),([]:List UInt8),([]:List UInt8),([]:List UInt8),0,0,0,0,0,0,0,0,0,l10,0)))))
def bb (K:Nat) (l0:List (List UInt8)):Nat → Int → Option (Int × (List aA) × Int × Int × Bool × Bool × Bool × Bool × Bool × Bool × Bool × Bool × (List UInt8) × (List UInt8) × (List UInt8) × (List UInt8) × Int × Int × Int × Int × Int × Int × Int × Int × Int × (List Bool) × Int)
  | 0,_=>none
  | k + 1,i27=>(if i27 < 9 then (kr (aU) fun x94=>(if 0 ≤ i27 then (if i27 < (x94.length:Int) then (if 0 < (l0.length:Int) then (if (x94.getD i27.toNat []) = (l0.getD ((0:Int).toNat) []) then (if ¬ ((l0.getD ((0:Int).toNat) []) = ([]:List UInt8)) then ((aW K l0 1).bind fun x95=>(some ((i27,([]:List aA),0,0,false,false,false,false,false,false,false,false,([]:List UInt8),([]:List UInt8),([]:List UInt8),([]:List UInt8),0,0,0,0,0,0,0,0,0,([]:List Bool),x95)))) else (bb K l0 k (bj (i27 + 1)))) else (bb K l0 k (bj (i27 + 1)))) else none) else none) else none)) else (some ((0,([]:List aA),0,0,false,false,false,false,false,false,false,false,([]:List UInt8),([]:List UInt8),([]:List UInt8),([]:List UInt8),0,0,0,0,0,0,0,0,0,([]:List Bool),0))))
def bA (K:Nat) (l0:List (List UInt8)) (a1:Int):Option (Int × (List aA) × Int × Int × Bool × Bool × Bool × Bool × Bool × Bool × Bool × Bool × (List UInt8) × (List UInt8) × (List UInt8) × (List UInt8) × Int × Int × Int × Int × Int × Int × Int × Int × Int × (List Bool) × Int):=(Option.bind (if 0 < (l0.length:Int) then (if (l0.getD ((0:Int).toNat) []) = ([105,110,103,101,115,116]:List UInt8) then ((fP K l0 a1).bind fun x61=>(some (Sum.inr ((1,x61,0,0,false,false,false,false,false,false,false,false,([]:List UInt8),([]:List UInt8),([]:List UInt8),([]:List UInt8),0,0,0,0,0,0,0,0,0,([]:List Bool),0))))) else (if (l0.getD ((0:Int).toNat) []) = ([97,115,107]:List UInt8) then ((fN K l0 a1).bind fun x62=>(some (Sum.inr ((2,([]:List aA),x62.1,x62.2.1,x62.2.2.1,x62.2.2.2.1,x62.2.2.2.2.1,x62.2.2.2.2.2.1,x62.2.2.2.2.2.2.1,x62.2.2.2.2.2.2.2.1,x62.2.2.2.2.2.2.2.2.1,x62.2.2.2.2.2.2.2.2.2.1,x62.2.2.2.2.2.2.2.2.2.2.1,x62.2.2.2.2.2.2.2.2.2.2.2.1,x62.2.2.2.2.2.2.2.2.2.2.2.2.1,x62.2.2.2.2.2.2.2.2.2.2.2.2.2,0,0,0,0,0,0,0,0,0,([]:List Bool),0))))) else (if (l0.getD ((0:Int).toNat) []) = ([112,111,108,105,99,121]:List UInt8) then ((aW K l0 1).bind fun x63=>((aW K l0 2).bind fun x64=>((aW K l0 3).bind fun x65=>((aW K l0 4).bind fun x66=>((aW K l0 5).bind fun x67=>((aW K l0 6).bind fun x68=>((aW K l0 7).bind fun x69=>((aW K l0 8).bind fun x70=>((aW K l0 9).bind fun x71=>(some (Sum.inr ((3,([]:List aA),0,0,false,false,false,false,false,false,false,false,([]:List UInt8),([]:List UInt8),([]:List UInt8),([]:List UInt8),x63,x64,x65,x66,x67,x68,x69,x70,x71,([]:List Bool),0))))))))))))) else (if (l0.getD ((0:Int).toNat) []) = ([102,97,105,108]:List UInt8) then (cP K l0 K 0 ([]:List Bool)) else (if (l0.getD ((0:Int).toNat) []) = ([115,116,97,114,116]:List UInt8) then (some (Sum.inr ((9,([]:List aA),0,0,false,false,false,false,false,false,false,false,([]:List UInt8),([]:List UInt8),([]:List UInt8),([]:List UInt8),0,0,0,0,0,0,0,0,0,([]:List Bool),0)))) else (some (Sum.inl (([]:List UInt8),([]:List UInt8),([]:List UInt8),([]:List UInt8))))))))) else none) fun z=>(mD z (fun v2=>(bb K l0 K 1)) (fun t_=>(some (t_)))))
def de (K:Nat) (a0_1:List UInt8) (a0_2:List UInt8) (a0_3:List UInt8) (a0_4:List UInt8) (a1:Int):Nat → Int → Option Int
  | 0,_=>none
  | k + 1,i5=>(if i5 < 4 then (if 0 ≤ i5 then (if i5 < (4:Int) then (if 16 < (([a0_1,a0_2,a0_3,a0_4].getD i5.toNat []).length:Int) then (some (4)) else (if a1 ≤ i5 then (if ¬ (([a0_1,a0_2,a0_3,a0_4].getD i5.toNat []) = ([]:List UInt8)) then (some (4)) else (de K a0_1 a0_2 a0_3 a0_4 a1 k (bj (i5 + 1)))) else (de K a0_1 a0_2 a0_3 a0_4 a1 k (bj (i5 + 1))))) else none) else none) else (some (0)))
def gm (K:Nat) (a0_0:Int) (a0_1:List UInt8) (a0_2:List UInt8) (a0_3:List UInt8) (a0_4:List UInt8) (a0_5:Int) (a1:Int):Option Int:=(if a1 < 1 then (some (1)) else (if 4 < a1 then (some (1)) else (if a0_0 < 0 then (some (2)) else (if 16777216 < a0_0 then (some (2)) else (if 1152921504606846976 < a0_5 then (some (2)) else (if a0_5 < (-1152921504606846976) then (some (2)) else (de K a0_1 a0_2 a0_3 a0_4 a1 K 0)))))))
def eQ (K:Nat) (l0:List aA) (a1:Int):Nat → Int → Option (Int × Int)
  | 0,_=>none
  | k + 1,i6=>(if i6 < (l0.length:Int) then (if 0 ≤ i6 then ((gm K (((l0.getD i6.toNat ax).Key).Hour) (((l0.getD i6.toNat ax).Key).Dims_0) (((l0.getD i6.toNat ax).Key).Dims_1) (((l0.getD i6.toNat ax).Key).Dims_2) (((l0.getD i6.toNat ax).Key).Dims_3) ((l0.getD i6.toNat ax).Value) a1).bind fun x24=>(if ¬ (x24 = 0) then (some ((x24,i6))) else (eQ K l0 a1 k (bj (i6 + 1))))) else none) else (some ((0,0))))
def gk (K:Nat) (l0:List aA) (a1:Int):Option (Int × Int):=(if a1 < 1 then (some ((1,0))) else (if 4 < a1 then (some ((1,0))) else (if (l0.length:Int) < 1 then (some ((1,0))) else (if 50 < (l0.length:Int) then (some ((1,0))) else (eQ K l0 a1 K 0)))))
def cr (a0_0:Int) (a0_1:Int) (l0:List aA) (a0_3:Int) (a0_4:Int) (a0_5:Bool) (a0_6:Bool) (a0_7:Bool) (a0_8:Bool) (a0_9:Bool) (a0_10:Bool) (a0_11:Bool) (a0_12:Bool) (a0_13:List UInt8) (a0_14:List UInt8) (a0_15:List UInt8) (a0_16:List UInt8) (a0_17:Int) (a0_18:Int) (a0_19:Int) (a0_20:Int) (a0_21:Int) (a0_22:Int) (a0_23:Int) (a0_24:Int) (a0_25:Int) (l1:List Bool) (a1:Bool) (a2:Bool) (a3:Bool) (a4:Bool) (a5:Bool):Bool:=(if a1 = true then (if a2 = true then (if a3 = true then (if a4 = true then (if a5 = true then (true) else (((l1.length:Int) == 0))) else (if a0_1 = 0 then (if a5 = true then (true) else (((l1.length:Int) == 0))) else (false))) else (if ((a0_17 == 0) && ((a0_18 == 0) && ((a0_19 == 0) && ((a0_20 == 0) && ((a0_21 == 0) && ((a0_22 == 0) && ((a0_23 == 0) && ((a0_24 == 0) && ((a0_25 == 0) && true))))))))) = true then (if a4 = true then (if a5 = true then (true) else (((l1.length:Int) == 0))) else (if a0_1 = 0 then (if a5 = true then (true) else (((l1.length:Int) == 0))) else (false))) else (false))) else (if ((a0_3 == 0) && ((a0_4 == 0) && (((a0_5 == false) && ((a0_6 == false) && ((a0_7 == false) && ((a0_8 == false) && true)))) && (((a0_9 == false) && ((a0_10 == false) && ((a0_11 == false) && ((a0_12 == false) && true)))) && (((a0_13 == ([]:List UInt8)) && ((a0_14 == ([]:List UInt8)) && ((a0_15 == ([]:List UInt8)) && ((a0_16 == ([]:List UInt8)) && true)))) && true))))) = true then (if a3 = true then (if a4 = true then (if a5 = true then (true) else (((l1.length:Int) == 0))) else (if a0_1 = 0 then (if a5 = true then (true) else (((l1.length:Int) == 0))) else (false))) else (if ((a0_17 == 0) && ((a0_18 == 0) && ((a0_19 == 0) && ((a0_20 == 0) && ((a0_21 == 0) && ((a0_22 == 0) && ((a0_23 == 0) && ((a0_24 == 0) && ((a0_25 == 0) && true))))))))) = true then (if a4 = true then (if a5 = true then (true) else (((l1.length:Int) == 0))) else (if a0_1 = 0 then (if a5 = true then (true) else (((l1.length:Int) == 0))) else (false))) else (false))) else (false))) else (if (l0.length:Int) = 0 then (if a2 = true then (if a3 = true then (if a4 = true then (if a5 = true then (true) else (((l1.length:Int) == 0))) else (if a0_1 = 0 then (if a5 = true then (true) else (((l1.length:Int) == 0))) else (false))) else (if ((a0_17 == 0) && ((a0_18 == 0) && ((a0_19 == 0) && ((a0_20 == 0) && ((a0_21 == 0) && ((a0_22 == 0) && ((a0_23 == 0) && ((a0_24 == 0) && ((a0_25 == 0) && true))))))))) = true then (if a4 = true then (if a5 = true then (true) else (((l1.length:Int) == 0))) else (if a0_1 = 0 then (if a5 = true then (true) else (((l1.length:Int) == 0))) else (false))) else (false))) else (if ((a0_3 == 0) && ((a0_4 == 0) && (((a0_5 == false) && ((a0_6 == false) && ((a0_7 == false) && ((a0_8 == false) && true)))) && (((a0_9 == false) && ((a0_10 == false) && ((a0_11 == false) && ((a0_12 == false) && true)))) && (((a0_13 == ([]:List UInt8)) && ((a0_14 == ([]:List UInt8)) && ((a0_15 == ([]:List UInt8)) && ((a0_16 == ([]:List UInt8)) && true)))) && true))))) = true then (if a3 = true then (if a4 = true then (if a5 = true then (true) else (((l1.length:Int) == 0))) else (if a0_1 = 0 then (if a5 = true then (true) else (((l1.length:Int) == 0))) else (false))) else (if ((a0_17 == 0) && ((a0_18 == 0) && ((a0_19 == 0) && ((a0_20 == 0) && ((a0_21 == 0) && ((a0_22 == 0) && ((a0_23 == 0) && ((a0_24 == 0) && ((a0_25 == 0) && true))))))))) = true then (if a4 = true then (if a5 = true then (true) else (((l1.length:Int) == 0))) else (if a0_1 = 0 then (if a5 = true then (true) else (((l1.length:Int) == 0))) else (false))) else (false))) else (false))) else (false)))
def eP (K:Nat) (a0_2:Bool) (a0_3:Bool) (a0_4:Bool) (a0_5:Bool) (a0_6:Bool) (a0_7:Bool) (a0_8:Bool) (a0_9:Bool) (a0_10:List UInt8) (a0_11:List UInt8) (a0_12:List UInt8) (a0_13:List UInt8) (a1:Int):Nat → Int → Option Int
  | 0,_=>none
  | k + 1,i5=>(if i5 < 4 then (Option.bind (if a1 ≤ i5 then (if 0 ≤ i5 then (if i5 < (4:Int) then (if ([a0_2,a0_3,a0_4,a0_5].getD i5.toNat false) = true then (some (Sum.inr (4))) else (if ([a0_6,a0_7,a0_8,a0_9].getD i5.toNat false) = true then (some (Sum.inr (4))) else (if ¬ (([a0_10,a0_11,a0_12,a0_13].getD i5.toNat []) = ([]:List UInt8)) then (some (Sum.inr (4))) else (if 16 < (([a0_10,a0_11,a0_12,a0_13].getD i5.toNat []).length:Int) then (some (Sum.inr (4))) else (if (!([a0_6,a0_7,a0_8,a0_9].getD i5.toNat false)) = true then (some (Sum.inl ())) else (some (Sum.inl ()))))))) else none) else none) else (if 0 ≤ i5 then (if i5 < (4:Int) then (if 16 < (([a0_10,a0_11,a0_12,a0_13].getD i5.toNat []).length:Int) then (some (Sum.inr (4))) else (if (!([a0_6,a0_7,a0_8,a0_9].getD i5.toNat false)) = true then (if ¬ (([a0_10,a0_11,a0_12,a0_13].getD i5.toNat []) = ([]:List UInt8)) then (some (Sum.inr (4))) else (some (Sum.inl ()))) else (some (Sum.inl ())))) else none) else none)) fun z=>(mD z (fun v12=>(eP K a0_2 a0_3 a0_4 a0_5 a0_6 a0_7 a0_8 a0_9 a0_10 a0_11 a0_12 a0_13 a1 k (bj (i5 + 1)))) (fun t_=>(some (t_))))) else (some (0)))
def gl (K:Nat) (a0_0:Int) (a0_1:Int) (a0_2:Bool) (a0_3:Bool) (a0_4:Bool) (a0_5:Bool) (a0_6:Bool) (a0_7:Bool) (a0_8:Bool) (a0_9:Bool) (a0_10:List UInt8) (a0_11:List UInt8) (a0_12:List UInt8) (a0_13:List UInt8) (a1:Int):Option Int:=(if a1 < 1 then (some (1)) else (if 4 < a1 then (some (1)) else (if a0_0 < 0 then (some (2)) else (if 16777217 < a0_1 then (some (2)) else (if a0_1 < a0_0 then (some (2)) else (eP K a0_2 a0_3 a0_4 a0_5 a0_6 a0_7 a0_8 a0_9 a0_10 a0_11 a0_12 a0_13 a1 K 0))))))
def cm (a0:Int) (a1:Int) (a2:Int):Bool:=(if a1 ≤ a0 then (decide (a0 ≤ a2)) else (false))
def dj (a0_0:Int) (a0_1:Int) (a0_2:Int) (a0_3:Int) (a0_4:Int) (a0_5:Int) (a0_6:Int) (a0_7:Int) (a0_8:Int):Int:=(kr (cm a0_0 1 1048576) fun x24=>(if (!x24) = true then (2) else (kr (cm a0_1 0 1048576) fun x25=>(if (!x25) = true then (2) else (kr (cm a0_2 0 1048576) fun x26=>(if (!x26) = true then (2) else (kr (cm a0_3 0 1048576) fun x27=>(if (!x27) = true then (2) else (kr (cm a0_4 0 1048576) fun x28=>(if (!x28) = true then (2) else (kr (cm a0_5 1 1048576) fun x33=>(if (!x33) = true then (2) else (kr (cm a0_6 1 1048576) fun x34=>(if (!x34) = true then (2) else (kr (cm a0_7 1 64) fun x35=>(if (!x35) = true then (2) else (kr (cm a0_8 100 1048576) fun x36=>(if (!x36) = true then (2) else (0)))))))))))))))))))
def dB (K:Nat) (a0_0:Int) (a0_1:Int) (l0:List aA) (a0_3:Int) (a0_4:Int) (a0_5:Bool) (a0_6:Bool) (a0_7:Bool) (a0_8:Bool) (a0_9:Bool) (a0_10:Bool) (a0_11:Bool) (a0_12:Bool) (a0_13:List UInt8) (a0_14:List UInt8) (a0_15:List UInt8) (a0_16:List UInt8) (a0_17:Int) (a0_18:Int) (a0_19:Int) (a0_20:Int) (a0_21:Int) (a0_22:Int) (a0_23:Int) (a0_24:Int) (a0_25:Int) (l1:List Bool) (a1:Int):Option Bool:=(if a0_0 = 1 then ((gk K l0 a1).bind fun x31=>(if x31.1 = 0 then (kr (cr a0_0 a0_1 l0 a0_3 a0_4 a0_5 a0_6 a0_7 a0_8 a0_9 a0_10 a0_11 a0_12 a0_13 a0_14 a0_15 a0_16 a0_17 a0_18 a0_19 a0_20 a0_21 a0_22 a0_23 a0_24 a0_25 l1 true false false false false) fun x32=>(some (x32))) else (some (false)))) else (if a0_0 = 2 then ((gl K a0_3 a0_4 a0_5 a0_6 a0_7 a0_8 a0_9 a0_10 a0_11 a0_12 a0_13 a0_14 a0_15 a0_16 a1).bind fun x33=>(if x33 = 0 then (kr (cr a0_0 a0_1 l0 a0_3 a0_4 a0_5 a0_6 a0_7 a0_8 a0_9 a0_10 a0_11 a0_12 a0_13 a0_14 a0_15 a0_16 a0_17 a0_18 a0_19 a0_20 a0_21 a0_22 a0_23 a0_24 a0_25 l1 false true false false false) fun x34=>(some (x34))) else (some (false)))) else (if a0_0 = 3 then (kr (dj a0_17 a0_18 a0_19 a0_20 a0_21 a0_22 a0_23 a0_24 a0_25) fun x35=>(if x35 = 0 then (kr (cr a0_0 a0_1 l0 a0_3 a0_4 a0_5 a0_6 a0_7 a0_8 a0_9 a0_10 a0_11 a0_12 a0_13 a0_14 a0_15 a0_16 a0_17 a0_18 a0_19 a0_20 a0_21 a0_22 a0_23 a0_24 a0_25 l1 false false true false false) fun x36=>(some (x36))) else (some (false)))) else (kr (if a0_0 = 4 then ((a0_0 == 4)) else (if a0_0 = 5 then ((a0_0 == 5)) else (if a0_0 = 7 then ((a0_0 == 7)) else ((a0_0 == 8))))) fun x37=>(if x37 = true then (kr (cr a0_0 a0_1 l0 a0_3 a0_4 a0_5 a0_6 a0_7 a0_8 a0_9 a0_10 a0_11 a0_12 a0_13 a0_14 a0_15 a0_16 a0_17 a0_18 a0_19 a0_20 a0_21 a0_22 a0_23 a0_24 a0_25 l1 false false false true false) fun x38=>(some (x38))) else (if a0_0 = 6 then (if (l1.length:Int) ≤ 1000 then (kr (cr a0_0 a0_1 l0 a0_3 a0_4 a0_5 a0_6 a0_7 a0_8 a0_9 a0_10 a0_11 a0_12 a0_13 a0_14 a0_15 a0_16 a0_17 a0_18 a0_19 a0_20 a0_21 a0_22 a0_23 a0_24 a0_25 l1 false false false false true) fun x39=>(some (x39))) else (some (false))) else (if a0_0 = 9 then (kr (cr a0_0 a0_1 l0 a0_3 a0_4 a0_5 a0_6 a0_7 a0_8 a0_9 a0_10 a0_11 a0_12 a0_13 a0_14 a0_15 a0_16 a0_17 a0_18 a0_19 a0_20 a0_21 a0_22 a0_23 a0_24 a0_25 l1 false false false false false) fun x40=>(some (x40))) else (some (false)))))))))
def gz (K:Nat) (a0_0:Int) (a0_1:Int) (a0_2:Bool) (a0_3:Bool) (a0_4:Bool) (a0_5:Bool) (a0_6:Bool) (a0_7:Bool) (a0_8:Bool) (a0_9:Bool) (a0_10:List UInt8) (a0_11:List UInt8) (a0_12:List UInt8) (a0_13:List UInt8) (a1:Int):Option (List UInt8):=(Option.bind (if 0 ≤ a1 then (if a1 < (4:Int) then (if ([a0_2,a0_3,a0_4,a0_5].getD a1.toNat false) = true then (some (([43]:List UInt8))) else (some (([]:List UInt8)))) else none) else none) fun x5=>(Option.bind (if 0 ≤ a1 then (if a1 < (4:Int) then (if ([a0_6,a0_7,a0_8,a0_9].getD a1.toNat false) = true then (if (x5.length:Int) + (([61]:List UInt8).length:Int) ≤ 9223372036854775807 then ((dU K ([a0_10,a0_11,a0_12,a0_13].getD a1.toNat [])).bind fun x8=>(if ((x5 ++ ([61]:List UInt8)).length:Int) + (x8.length:Int) ≤ 9223372036854775807 then (some (((x5 ++ ([61]:List UInt8)) ++ x8))) else none)) else none) else (some (x5))) else none) else none) fun x7=>(if x7 = ([]:List UInt8) then (some (([46]:List UInt8))) else (some (x7)))))
def gS (a0_0:Int) (a0_1:Int) (a0_2:Int) (a0_3:Int) (a0_4:Int) (a0_5:Int) (a0_6:Int) (a0_7:Int) (a0_8:Int):List Int:=([a0_0,a0_1,a0_2,a0_3,a0_4,a0_5,a0_6,a0_7,a0_8])
def dv (K:Nat) (l0:List aA) (a1:Int) (i119:Int):Nat → (List UInt8) → Int → Option (List UInt8)
  | 0,_,_=>none
  | k + 1,t231,i127=>(if i127 < a1 then (if (t231.length:Int) + (([32]:List UInt8).length:Int) ≤ 9223372036854775807 then (if 0 ≤ i127 then (if i127 < (4:Int) then ((dU K ([((l0.getD i119.toNat ax).Key).Dims_0,((l0.getD i119.toNat ax).Key).Dims_1,((l0.getD i119.toNat ax).Key).Dims_2,((l0.getD i119.toNat ax).Key).Dims_3].getD i127.toNat [])).bind fun x869=>(if ((t231 ++ ([32]:List UInt8)).length:Int) + (x869.length:Int) ≤ 9223372036854775807 then (dv K l0 a1 i119 k ((t231 ++ ([32]:List UInt8)) ++ x869) (bj (i127 + 1))) else none)) else none) else none) else none) else (some (t231)))
def es (K:Nat) (l0:List aA) (a1:Int):Nat → (List UInt8) → Int → Option (Sum Unit ((List UInt8) × Int))
  | 0,_,_=>none
  | k + 1,t217,i119=>(if i119 < (l0.length:Int) then (Option.bind (if (t217.length:Int) + (([32]:List UInt8).length:Int) ≤ 9223372036854775807 then (if 0 ≤ i119 then ((eF K (((l0.getD i119.toNat ax).Key).Hour)).bind fun x856=>(if ((t217 ++ ([32]:List UInt8)).length:Int) + (x856.length:Int) ≤ 9223372036854775807 then (Option.bind (dv K l0 a1 i119 K ((t217 ++ ([32]:List UInt8)) ++ x856) 0) fun x863=>(if (x863.length:Int) + (([32]:List UInt8).length:Int) ≤ 9223372036854775807 then ((bV K ((l0.getD i119.toNat ax).Value)).bind fun x870=>(if ((x863 ++ ([32]:List UInt8)).length:Int) + (x870.length:Int) ≤ 9223372036854775807 then (some (((x863 ++ ([32]:List UInt8)) ++ x870))) else none)) else none)) else none)) else none) else none) fun x855=>(es K l0 a1 k x855 (bj (i119 + 1)))) else (some (Sum.inr ((t217,0)))))
def dy (K:Nat) (a0_3:Int) (a0_4:Int) (a0_5:Bool) (a0_6:Bool) (a0_7:Bool) (a0_8:Bool) (a0_9:Bool) (a0_10:Bool) (a0_11:Bool) (a0_12:Bool) (a0_13:List UInt8) (a0_14:List UInt8) (a0_15:List UInt8) (a0_16:List UInt8) (a1:Int):Nat → (List UInt8) → Int → Option (Sum Unit ((List UInt8) × Int))
  | 0,_,_=>none
  | k + 1,t233,i129=>(if i129 < a1 then (if (t233.length:Int) + (([32]:List UInt8).length:Int) ≤ 9223372036854775807 then ((gz K a0_3 a0_4 a0_5 a0_6 a0_7 a0_8 a0_9 a0_10 a0_11 a0_12 a0_13 a0_14 a0_15 a0_16 i129).bind fun x884=>(if ((t233 ++ ([32]:List UInt8)).length:Int) + (x884.length:Int) ≤ 9223372036854775807 then (dy K a0_3 a0_4 a0_5 a0_6 a0_7 a0_8 a0_9 a0_10 a0_11 a0_12 a0_13 a0_14 a0_15 a0_16 a1 k ((t233 ++ ([32]:List UInt8)) ++ x884) (bj (i129 + 1))) else none)) else none) else (some (Sum.inr ((t233,0)))))
def eq (K:Nat) (x885:List Int):Nat → (List UInt8) → Int → Option (Sum Unit ((List UInt8) × Int))
  | 0,_,_=>none
  | k + 1,t235,i131=>(if i131 < (x885.length:Int) then (if (t235.length:Int) + (([32]:List UInt8).length:Int) ≤ 9223372036854775807 then (if 0 ≤ i131 then ((bV K (x885.getD i131.toNat 0)).bind fun x897=>(if ((t235 ++ ([32]:List UInt8)).length:Int) + (x897.length:Int) ≤ 9223372036854775807 then (eq K x885 k ((t235 ++ ([32]:List UInt8)) ++ x897) (bj (i131 + 1))) else none)) else none) else none) else (some (Sum.inr ((t235,0)))))
def cn (K:Nat) (l1:List Bool):Nat → (List UInt8) → Int → Option (Sum Unit ((List UInt8) × Int))
  | 0,_,_=>none
  | k + 1,t243,i133=>(if i133 < (l1.length:Int) then (Option.bind (if i133 = 0 then (if (t243.length:Int) + (([32]:List UInt8).length:Int) ≤ 9223372036854775807 then (some ((t243 ++ ([32]:List UInt8)))) else none) else (some (t243))) fun x909=>(if 0 ≤ i133 then (if (l1.getD i133.toNat false) = true then (if (x909.length:Int) + (([49]:List UInt8).length:Int) ≤ 9223372036854775807 then (cn K l1 k (x909 ++ ([49]:List UInt8)) (bj (i133 + 1))) else none) else (if (x909.length:Int) + (([48]:List UInt8).length:Int) ≤ 9223372036854775807 then (cn K l1 k (x909 ++ ([48]:List UInt8)) (bj (i133 + 1))) else none)) else none)) else (some (Sum.inr ((t243,0)))))
def cq (K:Nat) (a0_0:Int) (a0_1:Int) (l0:List aA) (a0_3:Int) (a0_4:Int) (a0_5:Bool) (a0_6:Bool) (a0_7:Bool) (a0_8:Bool) (a0_9:Bool) (a0_10:Bool) (a0_11:Bool) (a0_12:Bool) (a0_13:List UInt8) (a0_14:List UInt8) (a0_15:List UInt8) (a0_16:List UInt8) (a0_17:Int) (a0_18:Int) (a0_19:Int) (a0_20:Int) (a0_21:Int) (a0_22:Int) (a0_23:Int) (a0_24:Int) (a0_25:Int) (l1:List Bool) (a1:Int):Option ((List UInt8) × Int):=((dB K a0_0 a0_1 l0 a0_3 a0_4 a0_5 a0_6 a0_7 a0_8 a0_9 a0_10 a0_11 a0_12 a0_13 a0_14 a0_15 a0_16 a0_17 a0_18 a0_19 a0_20 a0_21 a0_22 a0_23 a0_24 a0_25 l1 a1).bind fun x458=>(if (!x458) = true then (some ((([]:List UInt8),1))) else (Option.bind (if a0_0 = 1 then (es K l0 a1 K ([105,110,103,101,115,116]:List UInt8) 0) else (if a0_0 = 2 then ((bV K a0_3).bind fun x871=>(if (([97,115,107,32]:List UInt8).length:Int) + (x871.length:Int) ≤ 9223372036854775807 then (if ((([97,115,107,32]:List UInt8) ++ x871).length:Int) + (([32]:List UInt8).length:Int) ≤ 9223372036854775807 then ((bV K a0_4).bind fun x872=>(if (((([97,115,107,32]:List UInt8) ++ x871) ++ ([32]:List UInt8)).length:Int) + (x872.length:Int) ≤ 9223372036854775807 then (dy K a0_3 a0_4 a0_5 a0_6 a0_7 a0_8 a0_9 a0_10 a0_11 a0_12 a0_13 a0_14 a0_15 a0_16 a1 K (((([97,115,107,32]:List UInt8) ++ x871) ++ ([32]:List UInt8)) ++ x872) 0) else none)) else none) else none)) else (if a0_0 = 3 then (kr (gS a0_17 a0_18 a0_19 a0_20 a0_21 a0_22 a0_23 a0_24 a0_25) fun x885=>(eq K x885 K ([112,111,108,105,99,121]:List UInt8) 0)) else (if a0_0 = 6 then (cn K l1 K ([102,97,105,108]:List UInt8) 0) else (if a0_0 = 9 then (some (Sum.inr ((([115,116,97,114,116]:List UInt8),0)))) else (some (Sum.inl ()))))))) fun z=>(mD z (fun v2=>(kr (aU) fun x910=>(if 0 ≤ a0_0 then (if a0_0 < (x910.length:Int) then (if ((x910.getD a0_0.toNat []).length:Int) + (([32]:List UInt8).length:Int) ≤ 9223372036854775807 then ((bV K a0_1).bind fun x911=>(if (((x910.getD a0_0.toNat []) ++ ([32]:List UInt8)).length:Int) + (x911.length:Int) ≤ 9223372036854775807 then (some (((((x910.getD a0_0.toNat []) ++ ([32]:List UInt8)) ++ x911),0))) else none)) else none) else none) else none))) (fun t_=>(some (t_)))))))
def fk (K:Nat) (a0:List UInt8) (a1:Int):Option (Int × Int × Int × (List aA) × Int × Int × Bool × Bool × Bool × Bool × Bool × Bool × Bool × Bool × (List UInt8) × (List UInt8) × (List UInt8) × (List UInt8) × Int × Int × Int × Int × Int × Int × Int × Int × Int × (List Bool)):=(if a1 < 1 then (some ((1,0,0,([]:List aA),0,0,false,false,false,false,false,false,false,false,([]:List UInt8),([]:List UInt8),([]:List UInt8),([]:List UInt8),0,0,0,0,0,0,0,0,0,([]:List Bool)))) else (if 4 < a1 then (some ((1,0,0,([]:List aA),0,0,false,false,false,false,false,false,false,false,([]:List UInt8),([]:List UInt8),([]:List UInt8),([]:List UInt8),0,0,0,0,0,0,0,0,0,([]:List Bool)))) else ((gi K a0).bind fun x4=>(if (x4.length:Int) = 0 then (some ((4,0,0,([]:List aA),0,0,false,false,false,false,false,false,false,false,([]:List UInt8),([]:List UInt8),([]:List UInt8),([]:List UInt8),0,0,0,0,0,0,0,0,0,([]:List Bool)))) else ((bA K x4 a1).bind fun x5=>((cq K x5.1 x5.2.2.2.2.2.2.2.2.2.2.2.2.2.2.2.2.2.2.2.2.2.2.2.2.2.2 x5.2.1 x5.2.2.1 x5.2.2.2.1 x5.2.2.2.2.1 x5.2.2.2.2.2.1 x5.2.2.2.2.2.2.1 x5.2.2.2.2.2.2.2.1 x5.2.2.2.2.2.2.2.2.1 x5.2.2.2.2.2.2.2.2.2.1 x5.2.2.2.2.2.2.2.2.2.2.1 x5.2.2.2.2.2.2.2.2.2.2.2.1 x5.2.2.2.2.2.2.2.2.2.2.2.2.1 x5.2.2.2.2.2.2.2.2.2.2.2.2.2.1 x5.2.2.2.2.2.2.2.2.2.2.2.2.2.2.1 x5.2.2.2.2.2.2.2.2.2.2.2.2.2.2.2.1 x5.2.2.2.2.2.2.2.2.2.2.2.2.2.2.2.2.1 x5.2.2.2.2.2.2.2.2.2.2.2.2.2.2.2.2.2.1 x5.2.2.2.2.2.2.2.2.2.2.2.2.2.2.2.2.2.2.1 x5.2.2.2.2.2.2.2.2.2.2.2.2.2.2.2.2.2.2.2.1 x5.2.2.2.2.2.2.2.2.2.2.2.2.2.2.2.2.2.2.2.2.1 x5.2.2.2.2.2.2.2.2.2.2.2.2.2.2.2.2.2.2.2.2.2.1 x5.2.2.2.2.2.2.2.2.2.2.2.2.2.2.2.2.2.2.2.2.2.2.1 x5.2.2.2.2.2.2.2.2.2.2.2.2.2.2.2.2.2.2.2.2.2.2.2.1 x5.2.2.2.2.2.2.2.2.2.2.2.2.2.2.2.2.2.2.2.2.2.2.2.2.1 x5.2.2.2.2.2.2.2.2.2.2.2.2.2.2.2.2.2.2.2.2.2.2.2.2.2.1 a1).bind fun x6=>(if ¬ (x6.2 = 0) then (some ((4,0,0,([]:List aA),0,0,false,false,false,false,false,false,false,false,([]:List UInt8),([]:List UInt8),([]:List UInt8),([]:List UInt8),0,0,0,0,0,0,0,0,0,([]:List Bool)))) else (if ¬ (x6.1 = a0) then (some ((4,0,0,([]:List aA),0,0,false,false,false,false,false,false,false,false,([]:List UInt8),([]:List UInt8),([]:List UInt8),([]:List UInt8),0,0,0,0,0,0,0,0,0,([]:List Bool)))) else (some ((0,x5.1,x5.2.2.2.2.2.2.2.2.2.2.2.2.2.2.2.2.2.2.2.2.2.2.2.2.2.2,x5.2.1,x5.2.2.1,x5.2.2.2.1,x5.2.2.2.2.1,x5.2.2.2.2.2.1,x5.2.2.2.2.2.2.1,x5.2.2.2.2.2.2.2.1,x5.2.2.2.2.2.2.2.2.1,x5.2.2.2.2.2.2.2.2.2.1,x5.2.2.2.2.2.2.2.2.2.2.1,x5.2.2.2.2.2.2.2.2.2.2.2.1,x5.2.2.2.2.2.2.2.2.2.2.2.2.1,x5.2.2.2.2.2.2.2.2.2.2.2.2.2.1,x5.2.2.2.2.2.2.2.2.2.2.2.2.2.2.1,x5.2.2.2.2.2.2.2.2.2.2.2.2.2.2.2.1,x5.2.2.2.2.2.2.2.2.2.2.2.2.2.2.2.2.1,x5.2.2.2.2.2.2.2.2.2.2.2.2.2.2.2.2.2.1,x5.2.2.2.2.2.2.2.2.2.2.2.2.2.2.2.2.2.2.1,x5.2.2.2.2.2.2.2.2.2.2.2.2.2.2.2.2.2.2.2.1,x5.2.2.2.2.2.2.2.2.2.2.2.2.2.2.2.2.2.2.2.2.1,x5.2.2.2.2.2.2.2.2.2.2.2.2.2.2.2.2.2.2.2.2.2.1,x5.2.2.2.2.2.2.2.2.2.2.2.2.2.2.2.2.2.2.2.2.2.2.1,x5.2.2.2.2.2.2.2.2.2.2.2.2.2.2.2.2.2.2.2.2.2.2.2.1,x5.2.2.2.2.2.2.2.2.2.2.2.2.2.2.2.2.2.2.2.2.2.2.2.2.1,x5.2.2.2.2.2.2.2.2.2.2.2.2.2.2.2.2.2.2.2.2.2.2.2.2.2.1)))))))))))
def eJ (K:Nat) (a0:List UInt8):Nat → Int → Int → Option Int
  | 0,_,_=>none
  | k + 1,i18,i19=>(if i19 < (a0.length:Int) then (if 0 ≤ i19 then (if ((a0.getD i19.toNat 0).toNat:Int) = 10 then (eJ K a0 k (bj (i18 + 1)) (bj (i19 + 1))) else (eJ K a0 k i18 (bj (i19 + 1)))) else none) else (some (i18)))
def cQ (K:Nat) (a0:List UInt8) (a1:Int):Nat → Int → Int → (List aD) → Option (Sum ((List aD) × Int) (Int × Int × (List aD)))
  | 0,_,_,_=>none
  | k + 1,i23,i24,l7=>(if i23 < (a0.length:Int) then (if 0 ≤ i23 then (if ¬ (((a0.getD i23.toNat 0).toNat:Int) = 10) then (cQ K a0 a1 k (bj (i23 + 1)) i24 l7) else (if 0 ≤ i24 then (if i24 ≤ i23 then (if i23 ≤ (a0.length:Int) then ((fk K ((a0.drop i24.toNat).take (i23.toNat - i24.toNat)) a1).bind fun x28=>(if ¬ (x28.1 = 0) then (some (Sum.inr ((x28.1,bj ((l7.length:Int) + 1),([]:List aD))))) else (if (l7.length + 1) * 224 ≤ 140737488355328 then (cQ K a0 a1 k (bj (i23 + 1)) (bj (i23 + 1)) (l7 ++ [(⟨x28.2.1,x28.2.2.1,x28.2.2.2.1,(⟨x28.2.2.2.2.1,x28.2.2.2.2.2.1,x28.2.2.2.2.2.2.1,x28.2.2.2.2.2.2.2.1,x28.2.2.2.2.2.2.2.2.1,x28.2.2.2.2.2.2.2.2.2.1,x28.2.2.2.2.2.2.2.2.2.2.1,x28.2.2.2.2.2.2.2.2.2.2.2.1,x28.2.2.2.2.2.2.2.2.2.2.2.2.1,x28.2.2.2.2.2.2.2.2.2.2.2.2.2.1,x28.2.2.2.2.2.2.2.2.2.2.2.2.2.2.1,x28.2.2.2.2.2.2.2.2.2.2.2.2.2.2.2.1,x28.2.2.2.2.2.2.2.2.2.2.2.2.2.2.2.2.1,x28.2.2.2.2.2.2.2.2.2.2.2.2.2.2.2.2.2.1⟩:aI),(⟨x28.2.2.2.2.2.2.2.2.2.2.2.2.2.2.2.2.2.2.1,x28.2.2.2.2.2.2.2.2.2.2.2.2.2.2.2.2.2.2.2.1,x28.2.2.2.2.2.2.2.2.2.2.2.2.2.2.2.2.2.2.2.2.1,x28.2.2.2.2.2.2.2.2.2.2.2.2.2.2.2.2.2.2.2.2.2.1,x28.2.2.2.2.2.2.2.2.2.2.2.2.2.2.2.2.2.2.2.2.2.2.1,x28.2.2.2.2.2.2.2.2.2.2.2.2.2.2.2.2.2.2.2.2.2.2.2.1,x28.2.2.2.2.2.2.2.2.2.2.2.2.2.2.2.2.2.2.2.2.2.2.2.2.1,x28.2.2.2.2.2.2.2.2.2.2.2.2.2.2.2.2.2.2.2.2.2.2.2.2.2.1,x28.2.2.2.2.2.2.2.2.2.2.2.2.2.2.2.2.2.2.2.2.2.2.2.2.2.2.1⟩:aE),x28.2.2.2.2.2.2.2.2.2.2.2.2.2.2.2.2.2.2.2.2.2.2.2.2.2.2.2⟩:aD)])) else none))) else none) else none) else none)) else none) else (some (Sum.inl (l7,i24))))
def gA (K:Nat) (a0:List UInt8) (a1:Int):Option (Int × Int × (List aD)):=(if a1 < 1 then (some ((1,0,([]:List aD)))) else (if 4 < a1 then (some ((1,0,([]:List aD)))) else (Option.bind (eJ K a0 K 0 0) fun x15=>(if 1000 < x15 then (some ((2,0,([]:List aD)))) else (Option.bind (cQ K a0 a1 K 0 0 ([]:List aD)) fun z=>(mD z (fun v2=>(if v2.2 < (a0.length:Int) then (some ((4,bj ((v2.1.length:Int) + 1),([]:List aD)))) else (some ((0,0,v2.1))))) (fun t_=>(some (t_)))))))))
def eX (K:Nat) (l0:List aA) (l1:List aA):Nat → Int → Option Bool
  | 0,_=>none
  | k + 1,i4=>(if i4 < (l0.length:Int) then (if 0 ≤ i4 then (if i4 < (l1.length:Int) then (if (!((((((l0.getD i4.toNat ax).Key).Hour) == (((l1.getD i4.toNat ax).Key).Hour)) && ((((((l0.getD i4.toNat ax).Key).Dims_0) == (((l1.getD i4.toNat ax).Key).Dims_0)) && (((((l0.getD i4.toNat ax).Key).Dims_1) == (((l1.getD i4.toNat ax).Key).Dims_1)) && (((((l0.getD i4.toNat ax).Key).Dims_2) == (((l1.getD i4.toNat ax).Key).Dims_2)) && (((((l0.getD i4.toNat ax).Key).Dims_3) == (((l1.getD i4.toNat ax).Key).Dims_3)) && true)))) && true)) && ((((l0.getD i4.toNat ax).Value) == ((l1.getD i4.toNat ax).Value)) && true))) = true then (some (false)) else (eX K l0 l1 k (bj (i4 + 1)))) else none) else none) else (some (true)))
def fQ (K:Nat) (l0:List aA) (l1:List aA):Option Bool:=(if ¬ ((l0.length:Int) = (l1.length:Int)) then (some (false)) else (eX K l0 l1 K 0))
def ee (K:Nat) (l0:List aD) (l1:List aD) (i26:Int):Nat → Int → Option (Sum Unit Bool)
  | 0,_=>none
  | k + 1,i30=>(if i30 < (((l0.getD i26.toNat ai).Fails).length:Int) then (if 0 ≤ i30 then (if i30 < (((l1.getD i26.toNat ai).Fails).length:Int) then (if ((((l0.getD i26.toNat ai).Fails).getD i30.toNat false) != (((l1.getD i26.toNat ai).Fails).getD i30.toNat false)) = true then (some (Sum.inr (false))) else (ee K l0 l1 i26 k (bj (i30 + 1)))) else none) else none) else (some (Sum.inl ())))
def eW (K:Nat) (l0:List aD) (l1:List aD):Nat → Int → Option Bool
  | 0,_=>none
  | k + 1,i26=>(if i26 < (l0.length:Int) then (Option.bind (if 0 ≤ i26 then (if i26 < (l1.length:Int) then (if ¬ (((l0.getD i26.toNat ai).Kind) = ((l1.getD i26.toNat ai).Kind)) then (some (Sum.inr (false))) else (if ¬ (((l0.getD i26.toNat ai).N) = ((l1.getD i26.toNat ai).N)) then (some (Sum.inr (false))) else (if (!(((((l0.getD i26.toNat ai).Query).From) == (((l1.getD i26.toNat ai).Query).From)) && (((((l0.getD i26.toNat ai).Query).To) == (((l1.getD i26.toNat ai).Query).To)) && ((((((l0.getD i26.toNat ai).Query).Group_0) == (((l1.getD i26.toNat ai).Query).Group_0)) && (((((l0.getD i26.toNat ai).Query).Group_1) == (((l1.getD i26.toNat ai).Query).Group_1)) && (((((l0.getD i26.toNat ai).Query).Group_2) == (((l1.getD i26.toNat ai).Query).Group_2)) && (((((l0.getD i26.toNat ai).Query).Group_3) == (((l1.getD i26.toNat ai).Query).Group_3)) && true)))) && ((((((l0.getD i26.toNat ai).Query).Has_0) == (((l1.getD i26.toNat ai).Query).Has_0)) && (((((l0.getD i26.toNat ai).Query).Has_1) == (((l1.getD i26.toNat ai).Query).Has_1)) && (((((l0.getD i26.toNat ai).Query).Has_2) == (((l1.getD i26.toNat ai).Query).Has_2)) && (((((l0.getD i26.toNat ai).Query).Has_3) == (((l1.getD i26.toNat ai).Query).Has_3)) && true)))) && ((((((l0.getD i26.toNat ai).Query).Filter_0) == (((l1.getD i26.toNat ai).Query).Filter_0)) && (((((l0.getD i26.toNat ai).Query).Filter_1) == (((l1.getD i26.toNat ai).Query).Filter_1)) && (((((l0.getD i26.toNat ai).Query).Filter_2) == (((l1.getD i26.toNat ai).Query).Filter_2)) && (((((l0.getD i26.toNat ai).Query).Filter_3) == (((l1.getD i26.toNat ai).Query).Filter_3)) && true)))) && true)))))) = true then (some (Sum.inr (false))) else (if (!(((((l0.getD i26.toNat ai).Rules).Retain) == (((l1.getD i26.toNat ai).Rules).Retain)) && (((((l0.getD i26.toNat ai).Rules).SealLag) == (((l1.getD i26.toNat ai).Rules).SealLag)) && (((((l0.getD i26.toNat ai).Rules).DayLag) == (((l1.getD i26.toNat ai).Rules).DayLag)) && (((((l0.getD i26.toNat ai).Rules).MonthLag) == (((l1.getD i26.toNat ai).Rules).MonthLag)) && (((((l0.getD i26.toNat ai).Rules).ColdLag) == (((l1.getD i26.toNat ai).Rules).ColdLag)) && (((((l0.getD i26.toNat ai).Rules).Base) == (((l1.getD i26.toNat ai).Rules).Base)) && (((((l0.getD i26.toNat ai).Rules).Cap) == (((l1.getD i26.toNat ai).Rules).Cap)) && (((((l0.getD i26.toNat ai).Rules).Queue) == (((l1.getD i26.toNat ai).Rules).Queue)) && (((((l0.getD i26.toNat ai).Rules).Wal) == (((l1.getD i26.toNat ai).Rules).Wal)) && true)))))))))) = true then (some (Sum.inr (false))) else ((fQ K ((l0.getD i26.toNat ai).Facts) ((l1.getD i26.toNat ai).Facts)).bind fun x60=>(if (!x60) = true then (some (Sum.inr (false))) else (if ¬ ((((l0.getD i26.toNat ai).Fails).length:Int) = (((l1.getD i26.toNat ai).Fails).length:Int)) then (some (Sum.inr (false))) else (ee K l0 l1 i26 K 0)))))))) else none) else none) fun z=>(mD z (fun v12=>(eW K l0 l1 k (bj (i26 + 1)))) (fun t_=>(some (t_))))) else (some (true)))
def fL (K:Nat) (l0:List aD) (l1:List aD):Option Bool:=(if ¬ ((l0.length:Int) = (l1.length:Int)) then (some (false)) else (eW K l0 l1 K 0))
def fI (K:Nat) (a0:List UInt8) (a1:Int):Option Bool:=(if 1500 < (a0.length:Int) then ((fJ K).bind fun x8=>(some (x8))) else ((kJ K a0 a1).bind fun x9=>((gA K a0 a1).bind fun x10=>((fL K x9.2.2 x10.2.2).bind fun x11=>(if x11 = true then (if x9.2.1 = x10.2.1 then (if x9.1 = x10.1 then ((fJ K).bind fun x12=>(some (x12))) else (some (false))) else (some (false))) else (some (false)))))))
end Go.Proofs.YtgbjponaoeiglaaDoor.WordsReads
end
section
set_option linter.unusedVariables false
namespace Go.Proofs.YtgbjponaoeiglaaDoor.E
open Go
section
variable {r:Option Nat} {P:Program} {n:Nat} {w0:World} {F L L':List HP} {ρ ρ':jL} {Q:Exit → Act → World → Prop} {ops:Array Oper} {rest:List Oper} {d:Nat} {v:Value} {ty:TypeId} {pos:String} {after:Array Edge} {op:Op}
theorem vM {x:Operand} (hx:ev ρ x = some v) (hd:Nat.blt d n = true) (k:cJ (St n w0 F ((d,v) :: ρ) L) (wpListIn (Wd r) 0 P ops Q rest)):cJ (St n w0 F ρ L) (wpListIn (Wd r) 0 P ops Q (⟨some d,.move x,ty,pos,after,none⟩ :: rest)):=pi (aq hx) rfl rfl hd k
theorem vA {x:Operand} (hx:ev ρ x = some v) (hd:Nat.blt d n = true) (k:cJ (St n w0 F ((d,v) :: ρ) L) (wpListIn (Wd r) 0 P ops Q rest)):cJ (St n w0 F ρ L) (wpListIn (Wd r) 0 P ops Q (⟨some d,.assign x,ty,pos,after,none⟩ :: rest)):=pi (iH hx) rfl rfl hd k
theorem vV (h:OV P ⟨some d,op,ty,pos,after,none⟩ ρ L v) (hd:Nat.blt d n = true) (k:cJ (St n w0 F ((d,v) :: ρ) L) (wpListIn (Wd r) 0 P ops Q rest)):cJ (St n w0 F ρ L) (wpListIn (Wd r) 0 P ops Q (⟨some d,op,ty,pos,after,none⟩ :: rest)):=pi h rfl rfl hd k
def qJ:List Nat → Bool
  | []=>true
  | x :: l=>l.all (fun y=>!Nat.beq x y) && qJ l
theorem qx:∀ {l:List Nat},qJ l = true → l.Nodup
  | [],_=>List.nodup_nil
  | x :: l,h=>by
    simp only [qJ,Bool.and_eq_true,List.all_eq_true,Bool.not_eq_true'] at h
    rw [List.nodup_cons]
    refine ⟨fun hx=>?_,qx h.2⟩
    exact Nat.ne_of_beq_eq_false (h.1 x hx) rfl
theorem vF {X:Act → World → Prop} (σ:List Nat) (hn:qJ σ = true) (hp:pick L σ = some L') (hs:sub ρ' ρ) (hx:∀ a w,St n w0 F ρ' L' a w → X a w):cJ (St n w0 F ρ L) X:=zK σ (qx hn) hp hs hx
theorem vP {X:Act → World → Prop} (σ:List Nat) (hn:qJ σ = true) (hp:pick L σ = some L') (k:cJ (St n w0 F ρ L') X):cJ (St n w0 F ρ L) X:=tn σ (qx hn) hp k
def A6 (ρ:jL):List Nat → Option jL
  | []=>some []
  | t :: ts=>match jw ρ t,A6 ρ ts with
    | some v,some e=>some ((t,v) :: e)
    | _,_=>none
theorem vS:∀ (ts:List Nat) {ρ':jL},A6 ρ ts = some ρ' → sub ρ' ρ
  | [],ρ',h=>by cases h; exact zt _
  | t :: ts,ρ',h=>by
    simp only [A6] at h
    split at h
    · rename_i v e hv he
      cases h
      exact zg hv (vS ts he)
    · cases h
theorem dT {p:Prop} [Decidable p] (h:p):decide p = true:=decide_eq_true h
theorem dF {p:Prop} [Decidable p] (h:¬ p):decide p = false:=decide_eq_false h
theorem bF {b:Bool} (h:¬ b = true):b = false:=Bool.eq_false_iff.2 h
theorem oB {α β:Type} {o:Option α} {f:α → Option β} {b:β} (h:o.bind f = some b):∃ a,o = some a ∧ f a = some b:=Option.bind_eq_some_iff.1 h
theorem nL {a b:Nat} (h:Nat.ble a b = true):a ≤ b:=Nat.le_of_ble_eq_true h
end
section
variable {r:Option Nat} {P:Program} {n:Nat} {w0:World} {F L:List HP} {ρ ρ':jL} {Q:Exit → Act → World → Prop} {ops:Array Oper} {done:Nat → Bool} {T:List (Nat × Nat × Value)} {a:Act} {i j t:Nat} {v:Value} {o:Oper}
theorem hD (k:Nat) (hc:jv ops (up done i)) (hk:T[k]? = some (j,t,v)) (ho:ops[i]? = some o) (hne:Nat.beq j i = false) (he:(o.after.toList.any fun e=>Region.binds .any e && Nat.beq e.on j) = true) (h:lq a ρ T done → jT a ρ'):lq a ρ T done → jT a ((t,v) :: ρ'):=rF hk (vR hc ho (Nat.ne_of_beq_eq_false hne) he) h
theorem yP:∀ {T:List (Nat × Nat × Value)},(∀ e ∈ T,done e.1 = true) → pC a done T → jT a ρ → jT a (T.map (fun e=>(e.2.1,e.2.2)) ++ ρ)
  | [],_,_,h=>h
  | (i,t,v) :: T,hd,hA,h=>by
    intro s u hu
    simp only [List.map_cons,List.cons_append,jw] at hu
    split at hu
    · rename_i e
      subst e
      cases hu
      exact hA.1 (hd _ List.mem_cons_self)
    · exact yP (fun e he=>hd e (List.mem_cons_of_mem _ he)) hA.2 h s u hu
theorem hL {m:Nat} (hall:∀ i,i < m → done i = true) (hT:(T.all fun e=>Nat.blt e.1 m) = true) (a:Act):lq a ρ T done → jT a (T.map (fun e=>(e.2.1,e.2.2)) ++ ρ):=fun h =>
  yP (fun e he=>hall _ (by have:=List.all_eq_true.1 hT e he; simpa [Nat.blt_eq] using this)) h.2 h.1
theorem dV (k0:Nat) {ρi:jL} (hk:T[k0]? = some (i,t,v)) (ho:ops[i]? = some o) (hg:o.guard = none) (hdst:o.dst = some t) (hρ:∀ a,lq a ρ T done → jT a ρi) (hv:OV P o ρi L v) (ht:Nat.blt t n = true) (hn:jw ρ t = none) (h1:pA i t T = true) (h2:pB T = true) :
    cJ (kF n w0 F ρ T done L) fun a w=>wpOpIn (Wd r) 0 P ops Q i (kF n w0 F ρ T (up done i) L) a w:=qa ho hdst (cc hg) hρ hv ht hn (mL h1 hk h2)
theorem oT (k0:Nat) (h:pA i t T = true) (h0:T[k0]? = some (i,t,v)) (hinc:pB T = true):∀ (k:Nat) (e:Nat × Nat × Value),T[k]? = some e → (e.1 = i ∧ e.2.1 = t ∧ e.2.2 = v) ∨ (e.1 ≠ i ∧ e.2.1 ≠ t):=mL h h0 hinc
end
section
variable {r:Option Nat} {P:Program} {Q:Exit → Act → World → Prop} {ops:Array Oper} {done:Nat → Bool} {A:(Nat → Bool) → Act → World → Prop}
def oD (ops:Array Oper) (m j:Nat):Bool :=
  match ops[m]? with
  | some o=>o.after.toList.any fun e=>Region.binds .any e && Nat.beq e.on j
  | none=>false
def vL (ops:Array Oper) (i:Nat):Nat → List Nat → Bool
  | m,[]=>oD ops m i
  | m,x :: l=>oD ops m x && vL ops i x l
theorem tM {m i:Nat} (hc:jv ops done) (hi:done i = false) (h:oD ops m i = true):done m = false:=by
  unfold oD at h
  split at h
  · rename_i o ho; exact uB hc hi ho h
  · cases h
theorem ri {m i:Nat} (hc:jv ops done) (hm:done m = true) (h:oD ops m i = true):done i = true:=by
  unfold oD at h
  split at h
  · rename_i o ho; exact xh hc hm ho h
  · cases h
theorem nP {i:Nat}:∀ (m:Nat) (l:List Nat),jv ops done → done i = false → vL ops i m l = true → done m = false
  | _,[],hc,hi,h=>tM hc hi h
  | _,x :: l,hc,hi,h=>by
    simp only [vL,Bool.and_eq_true] at h
    exact tM hc (nP x l hc hi h.2) h.1
theorem nQ {B:Act → World → Prop} {i:Nat} (m:Nat) (l:List Nat) (hne:Nat.beq m i = false) (hp:vL ops i m l = true) (h:∀ done:Nat → Bool,done i = false → jv ops done → jv ops (up done i) → done m = false → cJ (A done) fun a w=>wpOpIn (Wd r) 0 P ops Q i (A (up done i)) a w):sp r P ops Q (kQ m A B) i:=fun done hi hc hu =>
  have hm:=nP m l hc hi hp
  sZ hm hne (h done hi hc hu hm)
theorem nX {m i:Nat} (hne:Nat.beq m i = false) (h:∀ done:Nat → Bool,done i = false → jv ops done → jv ops (up done i) → done m = false → cJ (A done) fun a w=>wpOpIn (Wd r) 0 P ops Q i (A (up done i)) a w):sp r P ops Q (kQ m A (fun _ _=>False)) i:=fun done hi hc hu =>
  yl hne (h done hi hc hu)
theorem dO (j:Nat) {i:Nat} {o:Oper} (hc:jv ops (up done i)) (ho:ops[i]? = some o) (hne:Nat.beq j i = false) (he:(o.after.toList.any fun e=>Region.binds .any e && Nat.beq e.on j) = true):done j = true:=vR hc ho (Nat.ne_of_beq_eq_false hne) he
theorem dS (i j:Nat) (hc:jv ops done) (hi:done i = true) (he:oD ops i j = true):done j = true:=ri hc hi he
def yp (ops:Array Oper) (m:Nat):Nat → Bool
  | 0=>true
  | j + 1=>((List.range (m - j)).any fun k=>oD ops (j + 1 + k) j) && yp ops m j
theorem vt {m:Nat}:∀ {j:Nat},yp ops m j = true → ∀ x,x < j → ∃ k,k < m - x ∧ oD ops (x + 1 + k) x = true
  | 0,_,x,hx=>absurd hx (Nat.not_lt_zero x)
  | j + 1,h,x,hx=>by
    simp only [yp,Bool.and_eq_true,List.any_eq_true,List.mem_range] at h
    rcases Nat.lt_succ_iff_lt_or_eq.1 hx with hx | hx
    · exact vt h.2 x hx
    · subst hx; exact h.1
theorem AO {m:Nat} {D:Nat → Bool} (hc:jv ops D) (hm:D m = true) (h:yp ops m m = true):∀ (d x:Nat),m = x + d → D x = true:=by
  intro d
  induction d using Nat.strongRecOn with
  | _ d ih =>
    intro x hx
    cases d with
    | zero =>
      have:x = m:=by omega
      rw [this]; exact hm
    | succ d =>
      obtain ⟨k,hk,he⟩:=vt h x (by omega)
      exact ri hc (ih (m - (x + 1 + k)) (by omega) (x + 1 + k) (by omega)) he
theorem dA (m:Nat) (hu:jv ops (up done m)) (h:yp ops m m = true):∀ x,x < m → done x = true:=fun x hx=>by
  have:=AO hu (by simp [up]) h (m - x) x (by omega)
  have hne:x ≠ m:=by omega
  simpa [up,hne] using this
theorem Z {α:Sort _} {a:α}:a = a:=rfl
end
section
variable {r:Option Nat} {P:Program} {n:Nat} {w0:World} {F L L':List HP} {ρ ρi:jL} {Q:Exit → Act → World → Prop} {ops:Array Oper} {done:Nat → Bool} {T:List (Nat × Nat × Value)} {a:Act} {i j t:Nat} {v:Value} {o:Oper}
theorem hC (k:Nat) {ρ':jL} (hk:T[k]? = some (i,t,v)) (hd:done i = true) (h:lq a ρ T done → jT a ρ'):lq a ρ T done → jT a ((t,v) :: ρ'):=rF hk hd h
theorem dG (k0:Nat) (hk:T[k0]? = some (i,t,v)) (ho:ops[i]? = some o) (hdst:o.dst = some t) (hw:∀ a,jT a ρi → Region.wanted o (yielded ops a.tmps) = true) (hρ:∀ a,lq a ρ T done → jT a ρi) (hv:OV P o ρi L v) (ht:Nat.blt t n = true) (hn:jw ρ t = none) (h1:pA i t T = true) (h2:pB T = true) :
    cJ (kF n w0 F ρ T done L) fun a w=>wpOpIn (Wd r) 0 P ops Q i (kF n w0 F ρ T (up done i) L) a w:=qa ho hdst hw hρ hv ht hn (mL h1 hk h2)
theorem pI (k0:Nat) (hk:T[k0]? = some (i,t,v)) (ho:ops[i]? = some o) (hdst:o.dst = some t) (hw:∀ a,jT a ρi → Region.wanted o (yielded ops a.tmps) = true) (hρ:∀ a,lq a ρ T done → jT a ρi) (hv:OT P o ρi L (fun u M=>u = v ∧ M = L)) (ht:Nat.blt t n = true) (hn:jw ρ t = none) (h1:pA i t T = true) (h2:pB T = true) :
    cJ (kF n w0 F ρ T done L) fun a w=>wpOpIn (Wd r) 0 P ops Q i (kF n w0 F ρ T (up done i) L) a w:=wg ho hdst hw hρ hv ht hn (mL h1 hk h2)
end
end Go.Proofs.YtgbjponaoeiglaaDoor.E
end
section
set_option linter.unusedVariables false
set_option linter.unusedSimpArgs false
set_option maxHeartbeats 8000000
set_option maxRecDepth 100000
namespace Go.Proofs.YtgbjponaoeiglaaDoor.WordsReads
open Go Go.RowKit E
open Go.Value (int bool slice agg)
def av (x:aA):List Value:=[(Value.int .i64 x.Key.Hour),(ay x.Key.Dims_0),(ay x.Key.Dims_1),(ay x.Key.Dims_2),(ay x.Key.Dims_3),(Value.int .i64 x.Value)]
theorem ml (x:aA):(av x).all (·.oneCell') = true:=rfl
theorem bS (x:aA):(av x).length = 6:=rfl
def ar (x:aD) (v:Nat → Value):List Value:=[(Value.int .i64 x.Kind),(Value.int .i64 x.N),v 0,(Value.int .i64 x.Query.From),(Value.int .i64 x.Query.To),(Value.bool x.Query.Group_0),(Value.bool x.Query.Group_1),(Value.bool x.Query.Group_2),(Value.bool x.Query.Group_3),(Value.bool x.Query.Has_0),(Value.bool x.Query.Has_1),(Value.bool x.Query.Has_2),(Value.bool x.Query.Has_3),(ay x.Query.Filter_0),(ay x.Query.Filter_1),(ay x.Query.Filter_2),(ay x.Query.Filter_3),(Value.int .i64 x.Rules.Retain),(Value.int .i64 x.Rules.SealLag),(Value.int .i64 x.Rules.DayLag),(Value.int .i64 x.Rules.MonthLag),(Value.int .i64 x.Rules.ColdLag),(Value.int .i64 x.Rules.Base),(Value.int .i64 x.Rules.Cap),(Value.int .i64 x.Rules.Queue),(Value.int .i64 x.Rules.Wal),v 1]
theorem kc (x:aD) (v:Nat → Value):(ar x v).length = 27:=rfl
theorem mx (x:aD) (v:Nat → Value) (h:∀ q,q < 2 → (v q).oneCell' = true):∀ u ∈ ar x v,u.oneCell' = true:=List.all_eq_true.1 (by simp only [ar,List.all_cons,List.all_nil,h 0 (by decide),h 1 (by decide),Bool.and_true]; rfl)
def aF (x:aD) (v:Nat → Value):HP:=bun [own (v 0) 54 6 x.Facts.length (fl av x.Facts),own (v 1) 4 1 x.Fails.length (fl eB x.Fails)]
theorem bv:jk Tryd.prog 41 = some [(Value.int .i64 0),(Value.int .i64 0),(Value.slice none 0 0),(Value.int .i64 0),(Value.int .i64 0),(Value.bool false),(Value.bool false),(Value.bool false),(Value.bool false),(Value.bool false),(Value.bool false),(Value.bool false),(Value.bool false),(ay ([]:List UInt8)),(ay ([]:List UInt8)),(ay ([]:List UInt8)),(ay ([]:List UInt8)),(Value.int .i64 0),(Value.int .i64 0),(Value.int .i64 0),(Value.int .i64 0),(Value.int .i64 0),(Value.int .i64 0),(Value.int .i64 0),(Value.int .i64 0),(Value.int .i64 0),(Value.slice none 0 0)]:=by kernel_rfl
theorem wx:jk Tryd.prog 42 = some [(Value.int .i64 0)]:=by kernel_rfl
theorem bi:kp Tryd.prog 41 = some true:=by kernel_rfl
theorem aG:fq Tryd.prog 41 = some 27:=by kernel_rfl
theorem nr:fq Tryd.prog 42 = some 1:=by kernel_rfl
theorem xb:cI Tryd.prog 30 = true:=by kernel_rfl
theorem wl:cI Tryd.prog 14 = true:=by kernel_rfl
theorem we:jk Tryd.prog 72 = some [(Value.slice none 0 0),(Value.int .i64 0)]:=by kernel_rfl
theorem tG:lD Tryd.prog 72 = some [(0,1),(1,1)]:=by kernel_rfl
theorem cp:fX Tryd.prog 72 0 = some (0,29):=by kernel_rfl
theorem dp:fq Tryd.prog 29 = some 1:=by kernel_rfl
theorem fe:kp Tryd.prog 29 = some false:=by kernel_rfl
theorem bx:jF Tryd.prog 29 = some 9:=by kernel_rfl
theorem cw:cI Tryd.prog 50 = true:=by kernel_rfl
theorem cg:fq Tryd.prog 9 = some 1:=by kernel_rfl
theorem cD:kp Tryd.prog 9 = some false:=by kernel_rfl
theorem iY:cI Tryd.prog 42 = true:=by kernel_rfl
theorem cv:jF Tryd.prog 32 = some 54:=by kernel_rfl
theorem uU:jk Tryd.prog 120 = some [(Value.int .i64 0),(Value.int .i64 0),(Value.int .i64 0),(Value.int .i64 0)]:=by kernel_rfl
theorem dr:jF Tryd.prog 56 = some 5:=by kernel_rfl
theorem iP:fq Tryd.prog 5 = some 1:=by kernel_rfl
theorem sA:kp Tryd.prog 5 = some false:=by kernel_rfl
theorem jW:kC Tryd.prog 120 = some (4,2):=by kernel_rfl
theorem aT:fq Tryd.prog 2 = some 1:=by kernel_rfl
theorem aX:kp Tryd.prog 2 = some false:=by kernel_rfl
theorem uM:cI Tryd.prog 109 = true:=by kernel_rfl
theorem uK:cI Tryd.prog 105 = true:=by kernel_rfl
theorem uq:cI Tryd.prog 106 = true:=by kernel_rfl
theorem xx:cI Tryd.prog 85 = true:=by kernel_rfl
theorem ww:cI Tryd.prog 69 = true:=by kernel_rfl
theorem ry:jk Tryd.prog 52 = some [(Value.int .i64 0),(ay ([]:List UInt8)),(ay ([]:List UInt8)),(ay ([]:List UInt8)),(ay ([]:List UInt8))]:=by kernel_rfl
theorem pw:lD Tryd.prog 52 = some [(0,1),(1,4)]:=by kernel_rfl
theorem kb:jk Tryd.prog 54 = some [(Value.int .i64 0),(ay ([]:List UInt8)),(ay ([]:List UInt8)),(ay ([]:List UInt8)),(ay ([]:List UInt8)),(Value.int .i64 0)]:=by kernel_rfl
theorem pq:lD Tryd.prog 54 = some [(0,5),(5,1)]:=by kernel_rfl
theorem dJ:fq Tryd.prog 54 = some 6:=by kernel_rfl
theorem fC:fX Tryd.prog 72 1 = some (1,3):=by kernel_rfl
theorem bH:fq Tryd.prog 3 = some 1:=by kernel_rfl
theorem ck:kp Tryd.prog 3 = some false:=by kernel_rfl
theorem rh:cI Tryd.prog 24 = true:=by kernel_rfl
theorem jJ:jk Tryd.prog 5 = some [(Value.int .u8 0)]:=by kernel_rfl
theorem mo:mh Tryd.prog 5 = some 1:=by kernel_rfl
theorem rp:cI Tryd.prog 25 = true:=by kernel_rfl
theorem tA:cI Tryd.prog 9 = true:=by kernel_rfl
theorem rK:cI Tryd.prog 68 = true:=by kernel_rfl
theorem fS:fX Tryd.prog 54 0 = some (0,52):=by kernel_rfl
theorem gR:fq Tryd.prog 52 = some 5:=by kernel_rfl
theorem jB:fX Tryd.prog 52 1 = some (1,34):=by kernel_rfl
theorem ep:fq Tryd.prog 34 = some 4:=by kernel_rfl
theorem eM:kC Tryd.prog 34 = some (4,9):=by kernel_rfl
theorem oR:cI Tryd.prog 22 = true:=by kernel_rfl
theorem yt:cI Tryd.prog 7 = true:=by kernel_rfl
theorem eo:cI Tryd.prog 46 = true:=by kernel_rfl
theorem jH:fX Tryd.prog 54 1 = some (5,2):=by kernel_rfl
theorem kS:kp Tryd.prog 54 = some true:=by kernel_rfl
theorem qL:mh Tryd.prog 54 = some 80:=by kernel_rfl
theorem rB:cI Tryd.prog 43 = true:=by kernel_rfl
theorem dt:lD Tryd.prog 41 = some [(0,1),(1,1),(2,1),(3,14),(17,9),(26,1)]:=by kernel_rfl
theorem bD:fX Tryd.prog 41 0 = some (0,3):=by kernel_rfl
theorem dZ:fX Tryd.prog 41 2 = some (2,32):=by kernel_rfl
theorem fH:fq Tryd.prog 32 = some 1:=by kernel_rfl
theorem lS:cI Tryd.prog 70 = true:=by kernel_rfl
theorem cS:jF Tryd.prog 47 = some 41:=by kernel_rfl
theorem fA:fX Tryd.prog 41 1 = some (1,2):=by kernel_rfl
theorem fG:fX Tryd.prog 41 3 = some (3,36):=by kernel_rfl
theorem cK:fq Tryd.prog 36 = some 14:=by kernel_rfl
theorem hJ:kp Tryd.prog 36 = some true:=by kernel_rfl
theorem cX:kp Tryd.prog 4 = some false:=by kernel_rfl
theorem fy:kC Tryd.prog 33 = some (4,4):=by kernel_rfl
theorem dE:fq Tryd.prog 4 = some 1:=by kernel_rfl
theorem kX:kp Tryd.prog 34 = some true:=by kernel_rfl
theorem lr:kp Tryd.prog 33 = some true:=by kernel_rfl
theorem ff:fq Tryd.prog 33 = some 4:=by kernel_rfl
theorem qM:Tryd.prog.eqGuardType Tryd.prog.depth 36 = false:=by kernel_rfl
theorem sN {x y:Operand} (x0:Int) (x1:Int) (x2:Bool) (x3:Bool) (x4:Bool) (x5:Bool) (x6:Bool) (x7:Bool) (x8:Bool) (x9:Bool) (x10:List UInt8) (x11:List UInt8) (x12:List UInt8) (x13:List UInt8) (y0:Int) (y1:Int) (y2:Bool) (y3:Bool) (y4:Bool) (y5:Bool) (y6:Bool) (y7:Bool) (y8:Bool) (y9:Bool) (y10:List UInt8) (y11:List UInt8) (y12:List UInt8) (y13:List UInt8) (w:World):(do eqGuard .eql 36 x y (.agg #[(Value.int .i64 x0),(Value.int .i64 x1),(Value.bool x2),(Value.bool x3),(Value.bool x4),(Value.bool x5),(Value.bool x6),(Value.bool x7),(Value.bool x8),(Value.bool x9),(ay x10),(ay x11),(ay x12),(ay x13)]) (.agg #[(Value.int .i64 y0),(Value.int .i64 y1),(Value.bool y2),(Value.bool y3),(Value.bool y4),(Value.bool y5),(Value.bool y6),(Value.bool y7),(Value.bool y8),(Value.bool y9),(ay y10),(ay y11),(ay y12),(ay y13)]); binOp .eql 36 (.agg #[(Value.int .i64 x0),(Value.int .i64 x1),(Value.bool x2),(Value.bool x3),(Value.bool x4),(Value.bool x5),(Value.bool x6),(Value.bool x7),(Value.bool x8),(Value.bool x9),(ay x10),(ay x11),(ay x12),(ay x13)]) (.agg #[(Value.int .i64 y0),(Value.int .i64 y1),(Value.bool y2),(Value.bool y3),(Value.bool y4),(Value.bool y5),(Value.bool y6),(Value.bool y7),(Value.bool y8),(Value.bool y9),(ay y10),(ay y11),(ay y12),(ay y13)])).run Tryd.prog w = .ok (.bool ((x0 == y0) && ((x1 == y1) && (((x2 == y2) && ((x3 == y3) && ((x4 == y4) && ((x5 == y5) && true)))) && (((x6 == y6) && ((x7 == y7) && ((x8 == y8) && ((x9 == y9) && true)))) && (((x10 == y10) && ((x11 == y11) && ((x12 == y12) && ((x13 == y13) && true)))) && true)))))) w :=
  rX qM (lQ Tryd.underlying36 (by kernel_rfl) (dQ Z (aS aX Z) (aS aX Z) (ii Tryd.underlying2 _ _) (dQ Z (aS aX Z) (aS aX Z) (ii Tryd.underlying2 _ _) (dQ Z (ib lr ff) (ib lr ff) (mF fy dE (aS cX Z) (aS cX Z) (aS cX Z) (aS cX Z) (aS cX Z) (aS cX Z) (aS cX Z) (aS cX Z) (jd Tryd.underlying4 _ _) (jd Tryd.underlying4 _ _) (jd Tryd.underlying4 _ _) (jd Tryd.underlying4 _ _)) (dQ Z (ib lr ff) (ib lr ff) (mF fy dE (aS cX Z) (aS cX Z) (aS cX Z) (aS cX Z) (aS cX Z) (aS cX Z) (aS cX Z) (aS cX Z) (jd Tryd.underlying4 _ _) (jd Tryd.underlying4 _ _) (jd Tryd.underlying4 _ _) (jd Tryd.underlying4 _ _)) (dQ Z (ib kX ep) (ib kX ep) (mF eM cg (aS cD Z) (aS cD Z) (aS cD Z) (aS cD Z) (aS cD Z) (aS cD Z) (aS cD Z) (aS cD Z) (lz Tryd.underlying9 _ _) (lz Tryd.underlying9 _ _) (lz Tryd.underlying9 _ _) (lz Tryd.underlying9 _ _)) nA)))))) w
theorem xr {x y:Operand} (x0:Int) (x1:Int) (x2:Bool) (x3:Bool) (x4:Bool) (x5:Bool) (x6:Bool) (x7:Bool) (x8:Bool) (x9:Bool) (x10:List UInt8) (x11:List UInt8) (x12:List UInt8) (x13:List UInt8) (y0:Int) (y1:Int) (y2:Bool) (y3:Bool) (y4:Bool) (y5:Bool) (y6:Bool) (y7:Bool) (y8:Bool) (y9:Bool) (y10:List UInt8) (y11:List UInt8) (y12:List UInt8) (y13:List UInt8) (w:World):(do eqGuard .neq 36 x y (.agg #[(Value.int .i64 x0),(Value.int .i64 x1),(Value.bool x2),(Value.bool x3),(Value.bool x4),(Value.bool x5),(Value.bool x6),(Value.bool x7),(Value.bool x8),(Value.bool x9),(ay x10),(ay x11),(ay x12),(ay x13)]) (.agg #[(Value.int .i64 y0),(Value.int .i64 y1),(Value.bool y2),(Value.bool y3),(Value.bool y4),(Value.bool y5),(Value.bool y6),(Value.bool y7),(Value.bool y8),(Value.bool y9),(ay y10),(ay y11),(ay y12),(ay y13)]); binOp .neq 36 (.agg #[(Value.int .i64 x0),(Value.int .i64 x1),(Value.bool x2),(Value.bool x3),(Value.bool x4),(Value.bool x5),(Value.bool x6),(Value.bool x7),(Value.bool x8),(Value.bool x9),(ay x10),(ay x11),(ay x12),(ay x13)]) (.agg #[(Value.int .i64 y0),(Value.int .i64 y1),(Value.bool y2),(Value.bool y3),(Value.bool y4),(Value.bool y5),(Value.bool y6),(Value.bool y7),(Value.bool y8),(Value.bool y9),(ay y10),(ay y11),(ay y12),(ay y13)])).run Tryd.prog w = .ok (.bool (!((x0 == y0) && ((x1 == y1) && (((x2 == y2) && ((x3 == y3) && ((x4 == y4) && ((x5 == y5) && true)))) && (((x6 == y6) && ((x7 == y7) && ((x8 == y8) && ((x9 == y9) && true)))) && (((x10 == y10) && ((x11 == y11) && ((x12 == y12) && ((x13 == y13) && true)))) && true))))))) w :=
  pe qM (lQ Tryd.underlying36 (by kernel_rfl) (dQ Z (aS aX Z) (aS aX Z) (ii Tryd.underlying2 _ _) (dQ Z (aS aX Z) (aS aX Z) (ii Tryd.underlying2 _ _) (dQ Z (ib lr ff) (ib lr ff) (mF fy dE (aS cX Z) (aS cX Z) (aS cX Z) (aS cX Z) (aS cX Z) (aS cX Z) (aS cX Z) (aS cX Z) (jd Tryd.underlying4 _ _) (jd Tryd.underlying4 _ _) (jd Tryd.underlying4 _ _) (jd Tryd.underlying4 _ _)) (dQ Z (ib lr ff) (ib lr ff) (mF fy dE (aS cX Z) (aS cX Z) (aS cX Z) (aS cX Z) (aS cX Z) (aS cX Z) (aS cX Z) (aS cX Z) (jd Tryd.underlying4 _ _) (jd Tryd.underlying4 _ _) (jd Tryd.underlying4 _ _) (jd Tryd.underlying4 _ _)) (dQ Z (ib kX ep) (ib kX ep) (mF eM cg (aS cD Z) (aS cD Z) (aS cD Z) (aS cD Z) (aS cD Z) (aS cD Z) (aS cD Z) (aS cD Z) (lz Tryd.underlying9 _ _) (lz Tryd.underlying9 _ _) (lz Tryd.underlying9 _ _) (lz Tryd.underlying9 _ _)) nA)))))) w
theorem eT:fX Tryd.prog 41 4 = some (17,38):=by kernel_rfl
theorem di:fq Tryd.prog 38 = some 9:=by kernel_rfl
theorem jr:kp Tryd.prog 38 = some true:=by kernel_rfl
theorem qt:Tryd.prog.eqGuardType Tryd.prog.depth 38 = false:=by kernel_rfl
theorem ov {x y:Operand} (x0:Int) (x1:Int) (x2:Int) (x3:Int) (x4:Int) (x5:Int) (x6:Int) (x7:Int) (x8:Int) (y0:Int) (y1:Int) (y2:Int) (y3:Int) (y4:Int) (y5:Int) (y6:Int) (y7:Int) (y8:Int) (w:World):(do eqGuard .eql 38 x y (.agg #[(Value.int .i64 x0),(Value.int .i64 x1),(Value.int .i64 x2),(Value.int .i64 x3),(Value.int .i64 x4),(Value.int .i64 x5),(Value.int .i64 x6),(Value.int .i64 x7),(Value.int .i64 x8)]) (.agg #[(Value.int .i64 y0),(Value.int .i64 y1),(Value.int .i64 y2),(Value.int .i64 y3),(Value.int .i64 y4),(Value.int .i64 y5),(Value.int .i64 y6),(Value.int .i64 y7),(Value.int .i64 y8)]); binOp .eql 38 (.agg #[(Value.int .i64 x0),(Value.int .i64 x1),(Value.int .i64 x2),(Value.int .i64 x3),(Value.int .i64 x4),(Value.int .i64 x5),(Value.int .i64 x6),(Value.int .i64 x7),(Value.int .i64 x8)]) (.agg #[(Value.int .i64 y0),(Value.int .i64 y1),(Value.int .i64 y2),(Value.int .i64 y3),(Value.int .i64 y4),(Value.int .i64 y5),(Value.int .i64 y6),(Value.int .i64 y7),(Value.int .i64 y8)])).run Tryd.prog w = .ok (.bool ((x0 == y0) && ((x1 == y1) && ((x2 == y2) && ((x3 == y3) && ((x4 == y4) && ((x5 == y5) && ((x6 == y6) && ((x7 == y7) && ((x8 == y8) && true)))))))))) w :=
  rX qt (lQ Tryd.underlying38 (by kernel_rfl) (dQ Z (aS aX Z) (aS aX Z) (ii Tryd.underlying2 _ _) (dQ Z (aS aX Z) (aS aX Z) (ii Tryd.underlying2 _ _) (dQ Z (aS aX Z) (aS aX Z) (ii Tryd.underlying2 _ _) (dQ Z (aS aX Z) (aS aX Z) (ii Tryd.underlying2 _ _) (dQ Z (aS aX Z) (aS aX Z) (ii Tryd.underlying2 _ _) (dQ Z (aS aX Z) (aS aX Z) (ii Tryd.underlying2 _ _) (dQ Z (aS aX Z) (aS aX Z) (ii Tryd.underlying2 _ _) (dQ Z (aS ck Z) (aS ck Z) (ii Tryd.underlying3 _ _) (dQ Z (aS aX Z) (aS aX Z) (ii Tryd.underlying2 _ _) nA)))))))))) w
theorem wz {x y:Operand} (x0:Int) (x1:Int) (x2:Int) (x3:Int) (x4:Int) (x5:Int) (x6:Int) (x7:Int) (x8:Int) (y0:Int) (y1:Int) (y2:Int) (y3:Int) (y4:Int) (y5:Int) (y6:Int) (y7:Int) (y8:Int) (w:World):(do eqGuard .neq 38 x y (.agg #[(Value.int .i64 x0),(Value.int .i64 x1),(Value.int .i64 x2),(Value.int .i64 x3),(Value.int .i64 x4),(Value.int .i64 x5),(Value.int .i64 x6),(Value.int .i64 x7),(Value.int .i64 x8)]) (.agg #[(Value.int .i64 y0),(Value.int .i64 y1),(Value.int .i64 y2),(Value.int .i64 y3),(Value.int .i64 y4),(Value.int .i64 y5),(Value.int .i64 y6),(Value.int .i64 y7),(Value.int .i64 y8)]); binOp .neq 38 (.agg #[(Value.int .i64 x0),(Value.int .i64 x1),(Value.int .i64 x2),(Value.int .i64 x3),(Value.int .i64 x4),(Value.int .i64 x5),(Value.int .i64 x6),(Value.int .i64 x7),(Value.int .i64 x8)]) (.agg #[(Value.int .i64 y0),(Value.int .i64 y1),(Value.int .i64 y2),(Value.int .i64 y3),(Value.int .i64 y4),(Value.int .i64 y5),(Value.int .i64 y6),(Value.int .i64 y7),(Value.int .i64 y8)])).run Tryd.prog w = .ok (.bool (!((x0 == y0) && ((x1 == y1) && ((x2 == y2) && ((x3 == y3) && ((x4 == y4) && ((x5 == y5) && ((x6 == y6) && ((x7 == y7) && ((x8 == y8) && true))))))))))) w :=
  pe qt (lQ Tryd.underlying38 (by kernel_rfl) (dQ Z (aS aX Z) (aS aX Z) (ii Tryd.underlying2 _ _) (dQ Z (aS aX Z) (aS aX Z) (ii Tryd.underlying2 _ _) (dQ Z (aS aX Z) (aS aX Z) (ii Tryd.underlying2 _ _) (dQ Z (aS aX Z) (aS aX Z) (ii Tryd.underlying2 _ _) (dQ Z (aS aX Z) (aS aX Z) (ii Tryd.underlying2 _ _) (dQ Z (aS aX Z) (aS aX Z) (ii Tryd.underlying2 _ _) (dQ Z (aS aX Z) (aS aX Z) (ii Tryd.underlying2 _ _) (dQ Z (aS ck Z) (aS ck Z) (ii Tryd.underlying3 _ _) (dQ Z (aS aX Z) (aS aX Z) (ii Tryd.underlying2 _ _) nA)))))))))) w
theorem hZ:kp Tryd.prog 32 = some false:=by kernel_rfl
theorem tC:kp Tryd.prog 52 = some true:=by kernel_rfl
theorem ub:Tryd.prog.eqGuardType Tryd.prog.depth 54 = false:=by kernel_rfl
theorem rg {x y:Operand} (x0:Int) (x1:List UInt8) (x2:List UInt8) (x3:List UInt8) (x4:List UInt8) (x5:Int) (y0:Int) (y1:List UInt8) (y2:List UInt8) (y3:List UInt8) (y4:List UInt8) (y5:Int) (w:World):(do eqGuard .neq 54 x y (.agg #[(Value.int .i64 x0),(ay x1),(ay x2),(ay x3),(ay x4),(Value.int .i64 x5)]) (.agg #[(Value.int .i64 y0),(ay y1),(ay y2),(ay y3),(ay y4),(Value.int .i64 y5)]); binOp .neq 54 (.agg #[(Value.int .i64 x0),(ay x1),(ay x2),(ay x3),(ay x4),(Value.int .i64 x5)]) (.agg #[(Value.int .i64 y0),(ay y1),(ay y2),(ay y3),(ay y4),(Value.int .i64 y5)])).run Tryd.prog w = .ok (.bool (!(((x0 == y0) && (((x1 == y1) && ((x2 == y2) && ((x3 == y3) && ((x4 == y4) && true)))) && true)) && ((x5 == y5) && true)))) w :=
  pe ub (lQ Tryd.underlying54 (by kernel_rfl) (dQ Z (ib tC gR) (ib tC gR) (lQ Tryd.underlying52 (by kernel_rfl) (dQ Z (aS aX Z) (aS aX Z) (ii Tryd.underlying2 _ _) (dQ Z (ib kX ep) (ib kX ep) (mF eM cg (aS cD Z) (aS cD Z) (aS cD Z) (aS cD Z) (aS cD Z) (aS cD Z) (aS cD Z) (aS cD Z) (lz Tryd.underlying9 _ _) (lz Tryd.underlying9 _ _) (lz Tryd.underlying9 _ _) (lz Tryd.underlying9 _ _)) nA))) (dQ Z (aS aX Z) (aS aX Z) (ii Tryd.underlying2 _ _) nA))) w
theorem wR:cI Tryd.prog 88 = true:=by kernel_rfl
theorem bW:fX Tryd.prog 41 5 = some (26,39):=by kernel_rfl
theorem cL:fq Tryd.prog 39 = some 1:=by kernel_rfl
theorem ez:kp Tryd.prog 39 = some false:=by kernel_rfl
theorem ce:jF Tryd.prog 39 = some 4:=by kernel_rfl
theorem xa:cI Tryd.prog 89 = true:=by kernel_rfl
theorem xE:cI Tryd.prog 87 = true:=by kernel_rfl
theorem vZ:cI Tryd.prog 86 = true:=by kernel_rfl
theorem lT:cI Tryd.prog 71 = true:=by kernel_rfl
theorem oQ:cI Tryd.prog 90 = true:=by kernel_rfl
theorem kf:fX Tryd.prog 52 0 = some (0,2):=by kernel_rfl
theorem wD:cI Tryd.prog 91 = true:=by kernel_rfl
theorem rE:cI Tryd.prog 72 = true:=by kernel_rfl
theorem iX:cI Tryd.prog 51 = true:=by kernel_rfl
theorem kL:jk Tryd.prog 36 = some [(Value.int .i64 0),(Value.int .i64 0),(Value.bool false),(Value.bool false),(Value.bool false),(Value.bool false),(Value.bool false),(Value.bool false),(Value.bool false),(Value.bool false),(ay ([]:List UInt8)),(ay ([]:List UInt8)),(ay ([]:List UInt8)),(ay ([]:List UInt8))]:=by kernel_rfl
theorem kh:fX Tryd.prog 36 0 = some (0,2):=by kernel_rfl
theorem kg:fX Tryd.prog 36 1 = some (1,2):=by kernel_rfl
theorem kY:fX Tryd.prog 36 2 = some (2,33):=by kernel_rfl
theorem ic:fX Tryd.prog 36 3 = some (6,33):=by kernel_rfl
theorem il:fX Tryd.prog 36 4 = some (10,34):=by kernel_rfl
theorem rx:cI Tryd.prog 44 = true:=by kernel_rfl
theorem ln:lD Tryd.prog 36 = some [(0,1),(1,1),(2,4),(6,4),(10,4)]:=by kernel_rfl
theorem xi:cI Tryd.prog 92 = true:=by kernel_rfl
theorem rI:cI Tryd.prog 73 = true:=by kernel_rfl
theorem tK:jk Tryd.prog 2 = some [(Value.int .i64 0)]:=by kernel_rfl
theorem rl:jk Tryd.prog 86 = some [(Value.pointer none),(Value.pointer none),(Value.pointer none),(Value.pointer none),(Value.pointer none),(Value.pointer none),(Value.pointer none),(Value.pointer none),(Value.pointer none)]:=by kernel_rfl
theorem lN:fX Tryd.prog 38 0 = some (0,2):=by kernel_rfl
theorem lM:fX Tryd.prog 38 1 = some (1,2):=by kernel_rfl
theorem lO:fX Tryd.prog 38 2 = some (2,2):=by kernel_rfl
theorem lE:fX Tryd.prog 38 3 = some (3,2):=by kernel_rfl
theorem lG:fX Tryd.prog 38 4 = some (4,2):=by kernel_rfl
theorem lK:fX Tryd.prog 38 5 = some (5,2):=by kernel_rfl
theorem lJ:fX Tryd.prog 38 6 = some (6,2):=by kernel_rfl
theorem lF:fX Tryd.prog 38 8 = some (8,2):=by kernel_rfl
theorem jj:kC Tryd.prog 86 = some (9,85):=by kernel_rfl
theorem jO:fq Tryd.prog 85 = some 1:=by kernel_rfl
theorem rc:fq Tryd.prog 86 = some 9:=by kernel_rfl
theorem yR:kp Tryd.prog 86 = some true:=by kernel_rfl
theorem wG:cI Tryd.prog 45 = true:=by kernel_rfl
theorem kT:kp Tryd.prog 85 = some false:=by kernel_rfl
theorem lL:fX Tryd.prog 38 7 = some (7,3):=by kernel_rfl
theorem le:jk Tryd.prog 38 = some [(Value.int .i64 0),(Value.int .i64 0),(Value.int .i64 0),(Value.int .i64 0),(Value.int .i64 0),(Value.int .i64 0),(Value.int .i64 0),(Value.int .i64 0),(Value.int .i64 0)]:=by kernel_rfl
theorem jZ:lD Tryd.prog 38 = some [(0,1),(1,1),(2,1),(3,1),(4,1),(5,1),(6,1),(7,1),(8,1)]:=by kernel_rfl
theorem ob:jk Tryd.prog 128 = some [(Value.int .i64 0),(Value.int .i64 0),(Value.int .i64 0),(Value.int .i64 0),(Value.int .i64 0),(Value.int .i64 0),(Value.int .i64 0),(Value.int .i64 0),(Value.int .i64 0),(Value.int .i64 0),(Value.int .i64 0),(Value.int .i64 0),(Value.int .i64 0),(Value.int .i64 0),(Value.int .i64 0),(Value.int .i64 0),(Value.int .i64 0),(Value.int .i64 0)]:=by kernel_rfl
theorem jG:jk Tryd.prog 127 = some [(Value.int .i64 0),(Value.int .i64 0)]:=by kernel_rfl
theorem ik:lD Tryd.prog 127 = some [(0,1),(1,1)]:=by kernel_rfl
theorem eG:kC Tryd.prog 128 = some (9,127):=by kernel_rfl
theorem fj:fq Tryd.prog 127 = some 2:=by kernel_rfl
theorem oa:fq Tryd.prog 128 = some 18:=by kernel_rfl
theorem xk:kp Tryd.prog 128 = some true:=by kernel_rfl
theorem wT:cI Tryd.prog 93 = true:=by kernel_rfl
theorem pW:jk Tryd.prog 130 = some [(Value.int .i64 0),(Value.int .i64 0),(Value.int .i64 0),(Value.int .i64 0),(Value.int .i64 0),(Value.int .i64 0),(Value.int .i64 0),(Value.int .i64 0),(Value.int .i64 0)]:=by kernel_rfl
theorem iq:kC Tryd.prog 130 = some (9,2):=by kernel_rfl
theorem qC:fq Tryd.prog 130 = some 9:=by kernel_rfl
theorem wO:kp Tryd.prog 130 = some true:=by kernel_rfl
theorem wK:cI Tryd.prog 94 = true:=by kernel_rfl
theorem gY:fX Tryd.prog 127 0 = some (0,2):=by kernel_rfl
theorem gZ:fX Tryd.prog 127 1 = some (1,2):=by kernel_rfl
theorem rn:cI Tryd.prog 74 = true:=by kernel_rfl
theorem mA:jk Tryd.prog 4 = some [(Value.bool false)]:=by kernel_rfl
theorem oP:mh Tryd.prog 4 = some 1:=by kernel_rfl
theorem re:cI Tryd.prog 47 = true:=by kernel_rfl
theorem rN:jk Tryd.prog 34 = some [(ay ([]:List UInt8)),(ay ([]:List UInt8)),(ay ([]:List UInt8)),(ay ([]:List UInt8))]:=by kernel_rfl
theorem vY:cI Tryd.prog 48 = true:=by kernel_rfl
theorem rk:jk Tryd.prog 92 = some [(Value.int .i64 0),(Value.int .i64 0),(Value.int .i64 0),(Value.int .i64 0)]:=by kernel_rfl
theorem nY:kC Tryd.prog 92 = some (4,3):=by kernel_rfl
theorem rO:fq Tryd.prog 92 = some 4:=by kernel_rfl
theorem xI:kp Tryd.prog 92 = some true:=by kernel_rfl
theorem rd:cI Tryd.prog 49 = true:=by kernel_rfl
theorem rv:cI Tryd.prog 32 = true:=by kernel_rfl
theorem oz:kp Tryd.prog 42 = some false:=by kernel_rfl
theorem rQ:cI Tryd.prog 16 = true:=by kernel_rfl
theorem tO:cI Tryd.prog 6 = true:=by kernel_rfl
theorem xl:cI Tryd.prog 35 = true:=by kernel_rfl
theorem wv:cI Tryd.prog 83 = true:=by kernel_rfl
theorem xw:cI Tryd.prog 63 = true:=by kernel_rfl
theorem wI:cI Tryd.prog 36 = true:=by kernel_rfl
theorem qu:mh Tryd.prog 41 = some 224:=by kernel_rfl
theorem xC:cI Tryd.prog 19 = true:=by kernel_rfl
theorem mX:jk Tryd.prog 9 = some [(ay ([]:List UInt8))]:=by kernel_rfl
theorem wu:mh Tryd.prog 9 = some 16:=by kernel_rfl
theorem wC:cI Tryd.prog 15 = true:=by kernel_rfl
theorem nD:cI Tryd.prog 96 = true:=by kernel_rfl
theorem ql:cI Tryd.prog 107 = true:=by kernel_rfl
theorem mM:cI Tryd.prog 100 = true:=by kernel_rfl
theorem oS:cI Tryd.prog 99 = true:=by kernel_rfl
theorem wj:cI Tryd.prog 95 = true:=by kernel_rfl
theorem xe:cI Tryd.prog 81 = true:=by kernel_rfl
theorem nv:cI Tryd.prog 82 = true:=by kernel_rfl
theorem sb:cI Tryd.prog 57 = true:=by kernel_rfl
theorem xc:cI Tryd.prog 75 = true:=by kernel_rfl
theorem km:cI Tryd.prog 23 = true:=by kernel_rfl
theorem zh:cI Tryd.prog 8 = true:=by kernel_rfl
theorem iG:cI Tryd.prog 54 = true:=by kernel_rfl
theorem rW:cI Tryd.prog 26 = true:=by kernel_rfl
theorem xF:cI Tryd.prog 29 = true:=by kernel_rfl
theorem oX:cI Tryd.prog 12 = true:=by kernel_rfl
theorem wa:cI Tryd.prog 10 = true:=by kernel_rfl
theorem rZ:cI Tryd.prog 76 = true:=by kernel_rfl
theorem wc:cI Tryd.prog 52 = true:=by kernel_rfl
theorem wr:cI Tryd.prog 53 = true:=by kernel_rfl
theorem ph:cI Tryd.prog 55 = true:=by kernel_rfl
theorem xn:cI Tryd.prog 33 = true:=by kernel_rfl
theorem wy:cI Tryd.prog 97 = true:=by kernel_rfl
theorem xg:cI Tryd.prog 77 = true:=by kernel_rfl
theorem lP:cI Tryd.prog 78 = true:=by kernel_rfl
theorem wU:cI Tryd.prog 79 = true:=by kernel_rfl
theorem kj:cI Tryd.prog 98 = true:=by kernel_rfl
theorem wA:cI Tryd.prog 80 = true:=by kernel_rfl
theorem wi:cI Tryd.prog 56 = true:=by kernel_rfl
theorem xz:cI Tryd.prog 58 = true:=by kernel_rfl
theorem nb:jF Tryd.prog 101 = some 2:=by kernel_rfl
theorem wX:cI Tryd.prog 59 = true:=by kernel_rfl
theorem wt:cI Tryd.prog 34 = true:=by kernel_rfl
theorem wV:cI Tryd.prog 17 = true:=by kernel_rfl
theorem wJ:cI Tryd.prog 20 = true:=by kernel_rfl
theorem xu:cI Tryd.prog 37 = true:=by kernel_rfl
theorem xt:cI Tryd.prog 21 = true:=by kernel_rfl
theorem words_Parse_1_quiet.spec (b0_ b1_:Nat):rq Tryd.prog { target:=.fn (.func 31) ([pt b0_ 0,pt b1_ 0]:List Value).toArray,args:=([]:List Value).toArray ++ ([]:List Value).toArray }:=by
 refine ⟨31,#[pt b0_ 0,pt b1_ 0],⟨_,_,rfl,fun w=>?_⟩,fun w=>?_⟩
 ·simp [invoke,callFunc,go_sem,Tryd.func31,Tryd.f31]
 ·refine callsDIn_of_wpSIn Tryd.func31 Z trivial fun c₀ cs hu=>?_
  apply wpSIn_seq
  apply wpSIn_region
  simp [wpOpsSIn,go_sem,recoverD,hu,Exit.thenS]
  apply wpSIn_seq
  apply wpSIn_region
  simp [wpOpsSIn,go_sem,Exit.thenS]
  refine wpSIn_cond (t:=false) (by simp [Act.eval,Array.replicate]) ?_
  simp only [Bool.false_eq_true,if_false]
  refine wpSIn_of_wpIn Z (wpIn_skip ?_)
  cases c₀
  simp_all [bodyPostS,results]
theorem strings_Split.spec (a0 a1:List UInt8) (r:List (List UInt8)) (H:strings_Split a0 a1 = some r):bo Tryd.prog 30 [ay a0,ay a1] [] (fun v M=>∃ sv2:Value,v = sv2 ∧ M = [own sv2 9 1 r.length (fl eS r)]):=by
 unfold strings_Split at H
 split at H
 ·split at H
  ·rename_i c h
   cases H
   exact uP (fun s c w hs=>qQ Tryd.lays146 (by kernel_rfl) s c w hs) a0 c h
  ·cases H
 ·cases H
theorem jY.spec (a0:List UInt8) (r:List (List UInt8)) (H:jY a0 = some r):bo Tryd.prog 14 [ay a0] [] (fun v M=>∃ sv2:Value,v = sv2 ∧ M = [own sv2 9 1 r.length (fl eS r)]):=by
 unfold jY at H
 refine bC Tryd.func14 Z 7 Z (nL Z) fun F w0=>?_
 show cJ (St 7 w0 F [(0,ay a0)] []) _
 refine ag (ac (vA Z Z (ae (ag (ag (ac (vM Z Z (vV (an Z Z (eE _ _)) Z (ae ?_)))))))))
 refine cy H (fun c4 H=>?_) fun c4 H=>?_
 ·refine aj Z (aY c4) (ag (ac (vA Z Z (ae (ap ?_)))))
  cases H
  refine bc 9 1 ?_
  refine vP [0] Z Z ?_
  exact az Z Z ⟨_,rfl,rfl⟩
 refine ak Z (bd c4) (aC (ag (ac (vM Z Z ?_))))
 obtain ⟨x2,h2,H⟩:=oB H
 refine aL (dD (Lr:=[]) (first:=[]) (cap:=[]) (xs:=[.tmp 5,.const (ay ([32]:List UInt8))]) Z Z xb Z (strings_Split.spec a0 ([32]:List UInt8) _ h2) Z) Z Z Z ?_
 rintro sv3 _ ⟨_,⟨_,rfl,rfl⟩,rfl⟩
 refine vA Z Z (ae (ap ?_))
 cases H
 refine vP [0] Z Z ?_
 exact az Z Z ⟨_,rfl,rfl⟩
def mH:List PanicEntry:=[{ v:=.iface 42 (.int .i64 4),recovered:=false }]
theorem words_must.spec (b:Bool) (h:b = true):bo Tryd.prog 50 [.bool b] [] (fun v M=>v = (tU #[]) ∧ M = []):=by
 subst h
 refine bC Tryd.func50 Z 5 Z (nL Z) fun F w0=>?_
 show cJ (St 5 w0 F [(0,.bool true)] []) _
 refine ag (ac (vM Z Z (vV (gW Z (ia _)) Z (ae (ak Z Z (aC ?_))))))
 exact um (za Z ⟨rfl,rfl⟩)
theorem words_must.bad (b:Bool) (h:b = false):ma Tryd.prog 50 [.bool b] [] mH:=by
 subst h
 refine me.bad (Post:=fun _ _=>False) (Bad:=True) ?_ (fun _ _ h=>h)
 refine kV Tryd.func50 Z 5 Z (nL Z) fun F w0=>?_
 show cJ (St 5 w0 F [(0,.bool false)] []) _
 refine ag (ac (vM Z Z (vV (gW Z (ia _)) Z (ae (aj Z Z (ac (vV (yN Z Tryd.underlying42) Z ?_)))))))
 refine bR (yg rfl (fun w=>rfl)) (fun c e=>by cases e) rfl ?_
 exact ca trivial
theorem cM.specM (p0:Nat) (sv0:Value) (l0:List (List UInt8)) (p0_1:Int) (r:Option ((List (List UInt8)) × (List UInt8))) (H:cM l0 p0_1 = some r):me Tryd.prog 42 [pt p0 0] [box p0 72 [sv0,I p0_1],own sv0 9 1 l0.length (fl eS l0)] (fun v M=>∃ y_,r = some y_ ∧ ∃ sv1:Value,cW (own sv0 9 1 l0.length (fl eS l0)) sv1 y_.1.length 1 (fl eS y_.1) ∧ v = (ay y_.2) ∧ M = [box p0 72 [sv1,I p0_1],own sv0 9 1 l0.length (fl eS l0)]) (r = none) mH:=by
 unfold cM at H
 refine kV Tryd.func42 Z 26 Z (nL Z) fun F w0=>?_
 show cJ (St 26 w0 F [(0,pt p0 0)] [box p0 72 [sv0,I p0_1],own sv0 9 1 l0.length (fl eS l0)]) _
 refine ag (ac (vA Z Z (ae (ag (ac (vM Z Z (vV (bf Z) Z (vV (am (sz:=0) (o:=0) Z cp dp) Z (vV (aB (v:=sv0) Z fe (au (i:=0) Z Z)) Z (vV (bQ 1 Z bx Z (aQ 9)) Z (vV (an Z Z (eh _ _ _)) Z ?_)))))))))))
 refine eO H (fun c6 H=>?_) fun c6 H=>?_
 ·refine bR (cu (Lr:=[box p0 72 [sv0,I p0_1],own sv0 9 1 l0.length (fl eS l0)]) (first:=[]) (cap:=[]) (xs:=[.tmp 9]) rfl rfl cw rfl (words_must.bad _ (dF c6)) [0,1] (by decide) rfl) (fun c e=>by cases e) rfl ?_
  cases H
  exact ca Z
 refine aL (aV (first:=[]) (cap:=[]) (xs:=[.tmp 9]) Z Z cw Z (words_must.spec _ (dT c6))) Z Z Z ?_
 rintro _ _ ⟨rfl,rfl⟩
 refine ae (ag (ac (vM Z Z (vV (bf Z) Z (vV (am (sz:=0) (o:=0) Z cp dp) Z (vV (aB (v:=sv0) Z fe (au (i:=0) Z Z)) Z (vV (bB (sz:=0) 1 Z Z bx cg Z (aQ 9) (by decide) c6) Z ?_)))))))
 refine vV (aB (v:=(ay (l0.getD ((0:Int).toNat) []))) Z cD (cN (i:=1) Z (aQ 9) (by simp) (dN gp (bL (by decide) c6) Z))) Z ?_
 refine vA Z Z (ae (ag (ac (vM Z Z (vM Z Z (vV (bf Z) Z (vV (am (sz:=0) (o:=0) Z cp dp) Z (vV (aB (v:=sv0) Z fe (au (i:=0) Z Z)) Z ?_))))))))
 obtain ⟨c8,H⟩:=eL H
 refine vV (pk 1 Z Z bx cg Z (aQ 9) (by decide) c8) Z (vV (bf Z) Z (vV (am (sz:=0) (o:=0) Z cp dp) Z ?_))
 refine bq (pg (cs:=[sv0,I p0_1]) (cs':=[(pD sv0 (1:Int).toNat l0.length 1),I p0_1]) (sv:=(pD sv0 (1:Int).toNat l0.length 1)) (L':=[box p0 72 [(pD sv0 (1:Int).toNat l0.length 1),I p0_1],own sv0 9 1 l0.length (fl eS l0)]) 0 1 Z Z dp Z Z (nh gp (aQ 9) (qc (by decide) c8)) Z (by simp) Z) Z Z ?_
 rintro _ _ rfl
 refine ae (ag (ac (vM Z Z (vA Z Z (ae (ap ?_))))))
 cases H
 refine jS ?_
 refine vP [0,1] Z Z ?_
 exact az Z Z ⟨_,rfl,_,(nh gp (aQ 9) (qc (by decide) c8)),rfl,rfl⟩
theorem cM.spec (p0:Nat) (sv0:Value) (l0:List (List UInt8)) (p0_1:Int) (r:((List (List UInt8)) × (List UInt8))) (H:cM l0 p0_1 = some (some r)):bo Tryd.prog 42 [(pt p0 0)] [(box p0 72 [sv0,(int .i64 p0_1)]),(own sv0 9 1 l0.length (fl eS l0))] (fun v M=>∃ sv1:Value,cW (own sv0 9 1 l0.length (fl eS l0)) sv1 r.1.length 1 (fl eS r.1) ∧ v = (ay r.2) ∧ M = [(box p0 72 [sv1,(int .i64 p0_1)]),(own sv0 9 1 l0.length (fl eS l0))]):=(cM.specM p0 sv0 l0 p0_1 _ H).ret (fun h=>by cases h) fun v M h=>by obtain ⟨y_,e,h⟩:=h; cases e; exact h
theorem cM.bad (p0:Nat) (sv0:Value) (l0:List (List UInt8)) (p0_1:Int) (H:cM l0 p0_1 = some none):ma Tryd.prog 42 [(pt p0 0)] [(box p0 72 [sv0,(int .i64 p0_1)]),(own sv0 9 1 l0.length (fl eS l0))] mH:=(cM.specM p0 sv0 l0 p0_1 _ H).bad fun v M h=>by obtain ⟨y_,e,h⟩:=h; cases e
theorem br.specM (p0:Nat) (sv0:Value) (A0:HP) (l0:List (List UInt8)) (p0_1:Int) (hA0:cW A0 sv0 l0.length 1 (fl eS l0)) (r:Option ((List (List UInt8)) × (List UInt8))) (H:br l0 p0_1 = some r):me Tryd.prog 42 [pt p0 0] [box p0 72 [sv0,I p0_1],A0] (fun v M=>∃ y_,r = some y_ ∧ ∃ sv1:Value,cW A0 sv1 y_.1.length 1 (fl eS y_.1) ∧ v = (ay y_.2) ∧ M = [box p0 72 [sv1,I p0_1],A0]) (r = none) mH:=by
 unfold br at H
 refine kV Tryd.func42 Z 26 Z (nL Z) fun F w0=>?_
 show cJ (St 26 w0 F [(0,pt p0 0)] [box p0 72 [sv0,I p0_1],A0]) _
 refine ag (ac (vA Z Z (ae (ag (ac (vM Z Z (vV (bf Z) Z (vV (am (sz:=0) (o:=0) Z cp dp) Z (vV (aB (v:=sv0) Z fe (au (i:=0) Z Z)) Z (vV (bQ 1 Z bx Z hA0) Z (vV (an Z Z (eh _ _ _)) Z ?_)))))))))))
 refine eO H (fun c6 H=>?_) fun c6 H=>?_
 ·refine bR (cu (Lr:=[box p0 72 [sv0,I p0_1],A0]) (first:=[]) (cap:=[]) (xs:=[.tmp 9]) rfl rfl cw rfl (words_must.bad _ (dF c6)) [0,1] (by decide) rfl) (fun c e=>by cases e) rfl ?_
  cases H
  exact ca Z
 refine aL (aV (first:=[]) (cap:=[]) (xs:=[.tmp 9]) Z Z cw Z (words_must.spec _ (dT c6))) Z Z Z ?_
 rintro _ _ ⟨rfl,rfl⟩
 refine ae (ag (ac (vM Z Z (vV (bf Z) Z (vV (am (sz:=0) (o:=0) Z cp dp) Z (vV (aB (v:=sv0) Z fe (au (i:=0) Z Z)) Z (vV (bB (sz:=0) 1 Z Z bx cg Z hA0 (by decide) c6) Z ?_)))))))
 refine vV (aB (v:=(ay (l0.getD ((0:Int).toNat) []))) Z cD (cN (i:=1) Z hA0 (by simp) (dN gp (bL (by decide) c6) Z))) Z ?_
 refine vA Z Z (ae (ag (ac (vM Z Z (vM Z Z (vV (bf Z) Z (vV (am (sz:=0) (o:=0) Z cp dp) Z (vV (aB (v:=sv0) Z fe (au (i:=0) Z Z)) Z ?_))))))))
 obtain ⟨c8,H⟩:=eL H
 refine vV (pk 1 Z Z bx cg Z hA0 (by decide) c8) Z (vV (bf Z) Z (vV (am (sz:=0) (o:=0) Z cp dp) Z ?_))
 refine bq (pg (cs:=[sv0,I p0_1]) (cs':=[(pD sv0 (1:Int).toNat l0.length 1),I p0_1]) (sv:=(pD sv0 (1:Int).toNat l0.length 1)) (L':=[box p0 72 [(pD sv0 (1:Int).toNat l0.length 1),I p0_1],A0]) 0 1 Z Z dp Z Z (nh gp hA0 (qc (by decide) c8)) Z (by simp) Z) Z Z ?_
 rintro _ _ rfl
 refine ae (ag (ac (vM Z Z (vA Z Z (ae (ap ?_))))))
 cases H
 refine jS ?_
 refine vP [0,1] Z Z ?_
 exact az Z Z ⟨_,rfl,_,(nh gp hA0 (qc (by decide) c8)),rfl,rfl⟩
theorem br.spec (p0:Nat) (sv0:Value) (A0:HP) (l0:List (List UInt8)) (p0_1:Int) (hA0:cW A0 sv0 l0.length 1 (fl eS l0)) (r:((List (List UInt8)) × (List UInt8))) (H:br l0 p0_1 = some (some r)):bo Tryd.prog 42 [(pt p0 0)] [(box p0 72 [sv0,(int .i64 p0_1)]),A0] (fun v M=>∃ sv1:Value,cW A0 sv1 r.1.length 1 (fl eS r.1) ∧ v = (ay r.2) ∧ M = [(box p0 72 [sv1,(int .i64 p0_1)]),A0]):=(br.specM p0 sv0 A0 l0 p0_1 hA0 _ H).ret (fun h=>by cases h) fun v M h=>by obtain ⟨y_,e,h⟩:=h; cases e; exact h
theorem br.bad (p0:Nat) (sv0:Value) (A0:HP) (l0:List (List UInt8)) (p0_1:Int) (hA0:cW A0 sv0 l0.length 1 (fl eS l0)) (H:br l0 p0_1 = some none):ma Tryd.prog 42 [(pt p0 0)] [(box p0 72 [sv0,(int .i64 p0_1)]),A0] mH:=(br.specM p0 sv0 A0 l0 p0_1 hA0 _ H).bad fun v M h=>by obtain ⟨y_,e,h⟩:=h; cases e
theorem kB.spec (a0:Int) (r:Bool) (H:kB a0 = r):bo Tryd.prog 109 [I a0] [] (fun v M=>v = (bool r) ∧ M = []):=by
 unfold kB at H
 refine bC Tryd.func109 Z 16 Z (nL Z) fun F w0=>?_
 show cJ (St 16 w0 F [(0,I a0)] []) _
 refine ag (ac (vA Z Z (ae (ag (ac (vM Z Z ?_))))))
 refine vV (an Z Z fun w=>mB _ _ _ w (by decide)) Z ?_
 refine vV (an Z Z (be _ _ _)) Z (vM Z Z ?_)
 refine eO H (fun c3 H=>?_) fun c3 H=>?_
 ·refine af Z Z Z (bd c3) Z Z ?_
  refine af Z Z Z (bd c3) Z Z ?_
  refine af Z Z Z (bd c3) Z Z ?_
  refine vV (al Z Z Z (aN (bd c3))) Z (vM Z Z ?_)
  refine aa (aq Z) Z Z Z Z Z Z ?_
  refine aa (an Z Z fun w=>mB _ _ _ w (by decide)) Z Z Z Z Z Z ?_
  refine aa (an Z Z (be _ _ _)) Z Z Z Z Z Z ?_
  refine vV (al Z Z Z Z) Z (vA Z Z (ae (ap ?_)))
  cases H
  refine vP [] Z Z ?_
  exact az Z Z ⟨rfl,rfl⟩
 refine aa (aq Z) Z Z Z (aY c3) Z Z ?_
 refine aa (an Z Z fun w=>mB _ _ _ w (by decide)) Z Z Z (aY c3) Z Z ?_
 refine aa (an Z Z (ku _ _ _)) Z Z Z (aY c3) Z Z ?_
 refine vV (al Z Z Z (aK (aY c3))) Z (vM Z Z ?_)
 refine cy H (fun c4 H=>?_) fun c4 H=>?_
 ·refine af Z Z Z (iO c4) Z Z ?_
  refine af Z Z Z (iO c4) Z Z ?_
  refine af Z Z Z (iO c4) Z Z ?_
  refine vV (al Z Z Z (aK (iO c4))) Z (vA Z Z (ae (ap ?_)))
  cases H
  refine vP [] Z Z ?_
  exact az Z Z ⟨rfl,rfl⟩
 refine aa (aq Z) Z Z Z (iS c4) Z Z ?_
 refine aa (an Z Z fun w=>mB _ _ _ w (by decide)) Z Z Z (iS c4) Z Z ?_
 refine aa (an Z Z (be _ _ _)) Z Z Z (iS c4) Z Z ?_
 refine vV (al Z Z Z (aN (iS c4))) Z (vA Z Z (ae (ap ?_)))
 cases H
 refine vP [] Z Z ?_
 exact az Z Z ⟨rfl,rfl⟩
theorem ig.spec (a0 a1 r:Int) (H:ig a0 a1 = r):bo Tryd.prog 105 [I a0,I a1] [] (fun v M=>v = (I r) ∧ M = []):=by
 unfold ig at H
 refine bC Tryd.func105 Z 28 Z (nL Z) fun F w0=>?_
 show cJ (St 28 w0 F [(0,I a0),(1,I a1)] []) _
 refine ag (ac (vA Z Z (ae (ag (aO (ag (ac (vM Z Z (vV (an Z Z (cd _ _ _)) Z (vM Z Z ?_))))))))))
 refine cy H (fun c13 H=>?_) fun c13 H=>?_
 ·refine af Z Z Z (dT c13) Z Z ?_
  refine af Z Z Z (dT c13) Z Z ?_
  refine vV (al Z Z Z (aK (dT c13))) Z (vA Z Z (ae (aj Z Z (ag (ac (vA Z Z (ae (ap ?_))))))))
  cases H
  refine vP [] Z Z ?_
  exact az Z Z ⟨rfl,rfl⟩
 refine aa (aq Z) Z Z Z (dF c13) Z Z ?_
 refine aa (an Z Z (eh _ _ _)) Z Z Z (dF c13) Z Z ?_
 refine vV (al Z Z Z (aN (dF c13))) Z (vA Z Z (ae ?_))
 refine cy H (fun c14 H=>?_) fun c14 H=>?_
 ·refine aj Z (dT c14) (ag (ac (vA Z Z (ae (ap ?_)))))
  cases H
  refine vP [] Z Z ?_
  exact az Z Z ⟨rfl,rfl⟩
 refine ak Z (dF c14) (ag (ac (vM Z Z (vV (an Z Z (be _ _ _)) Z (vM Z Z ?_)))))
 refine eO H (fun c15 H=>?_) fun c15 H=>?_
 ·refine af Z Z Z (bd c15) Z Z ?_
  refine af Z Z Z (bd c15) Z Z ?_
  refine vV (al Z Z Z (aN (bd c15))) Z (vA Z Z (ae (ak Z Z (ag (ac (vM Z Z (vV (an Z Z (be _ _ _)) Z (vA Z Z (ae (ak Z (bd c15) (aC ?_)))))))))))
  refine ag (ac (vM Z Z (vM Z Z ?_)))
  refine vV (an Z Z fun w=>Bw _ _ _ _ w (by decide)) Z ?_
  refine vV (an Z Z (bG _ _ _) ) Z (vV (an Z Z (Bj _ _ _)) Z (vV (an Z Z (bG _ _ _) ) Z (vA Z Z (ae (ap ?_)))))
  cases H
  refine vP [] Z Z ?_
  exact az Z Z ⟨rfl,rfl⟩
 refine aa (aq Z) Z Z Z (aY c15) Z Z ?_
 obtain ⟨x4,h4,H⟩:=bE H
 refine cx (aV (first:=[]) (cap:=[]) (xs:=[.tmp 16]) Z Z uM Z (kB.spec a0 _ h4)) Z Z Z (aY c15) Z Z ?_
 rintro _ _ ⟨rfl,rfl⟩
 refine vV (al Z Z Z (aK (aY c15))) Z (vA Z Z (ae ?_))
 refine cy H (fun c16 H=>?_) fun c16 H=>?_
 ·refine aj Z c16 (ag (ac (vA Z Z (ae (ap ?_)))))
  cases H
  refine vP [] Z Z ?_
  exact az Z Z ⟨rfl,rfl⟩
 refine ak Z (bF c16) (ag (ac (vM Z Z (vV (an Z Z (be _ _ _)) Z (vA Z Z (ae (aj Z (aY c15) (ag (ac (vA Z Z (ae ?_)))))))))))
 refine ap ?_
 cases H
 refine vP [] Z Z ?_
 exact az Z Z ⟨rfl,rfl⟩
theorem jC.spec (a0 a1:Int) (a2 r:Int) (H:jC a0 a1 a2 = r):bo Tryd.prog 106 [I a0,I a1,I a2] [] (fun v M=>v = (I r) ∧ M = []):=by
 unfold jC at H
 refine bC Tryd.func106 Z 42 Z (nL Z) fun F w0=>?_
 show cJ (St 42 w0 F [(0,I a0),(1,I a1),(2,I a2)] []) _
 refine ag (ac (vA Z Z (ae (ag (ac (vM Z Z (vV (an Z Z (lC _ _ _) ) Z (vA Z Z (ae ?_)))))))))
 obtain ⟨x2,H2,H⟩:=bE H
 refine bY (fun a w=>St 42 w0 F [(0,I x2.1),(2,I a2),(7,I x2.2)] [] a w) ?_ ?_
 ·refine ag (ac (vM Z Z (vV (an Z Z (cd _ _ _)) Z (ae ?_))))
  refine eO H2 (fun c4 H2=>?_) fun c4 H2=>?_
  ·refine ak Z (dF c4) (aC ?_)
   cases H2
   exact vF [] Z Z (vS [0,2,7] Z) fun a w h=>h
  refine aj Z (dT c4) (ag (ac (vM Z Z (vV (an Z Z (bG _ _ _) ) Z (vA Z Z (ae (ac (vM Z Z (vV (an Z Z (lC _ _ _) ) Z (vA Z Z (ae ?_)))))))))))
  cases H2
  exact vF [] Z Z (vS [0,2,7] Z) fun a w h=>h
 ·refine ag (ac (vM Z Z ?_))
  refine vV (an Z Z fun w=>mB _ _ _ w (by decide)) Z ?_
  refine vA Z Z (ae (ag (ac (vM Z Z (vV (an Z Z (na _ _ _) ) Z (vM Z Z ?_))))))
  refine vV (an Z Z fun w=>nI _ _ _ w (by decide)) Z ?_
  refine vV (an Z Z (bG _ _ _) ) Z (vM Z Z ?_)
  refine vV (an Z Z fun w=>nI _ _ _ w (by decide)) Z ?_
  refine vV (an Z Z (lC _ _ _) ) Z (vM Z Z (vV (an Z Z (na _ _ _) ) Z (vV (an Z Z (bG _ _ _) ) Z ?_)))
  refine vV (an Z Z fun w=>nI _ _ _ w (by decide)) Z ?_
  refine vV (an Z Z (bG _ _ _) ) Z (vM Z Z (vV (an Z Z (bG _ _ _) ) Z (vV (an Z Z (lC _ _ _) ) Z (vA Z Z (ae (ag (ac (vM Z Z ?_))))))))
  refine vV (an Z Z fun w=>nI _ _ _ w (by decide)) Z ?_
  refine vV (an Z Z (na _ _ _) ) Z (vM Z Z (vV (an Z Z (bG _ _ _) ) Z (vV (an Z Z (lC _ _ _) ) Z (vA Z Z (ae (ap ?_))))))
  cases H
  refine vP [] Z Z ?_
  exact az Z Z ⟨rfl,rfl⟩
theorem jE.spec (a0 a1 a2:Int) (r:(Int × Bool)) (H:jE a0 a1 a2 = r):bo Tryd.prog 85 [I a0,I a1,I a2] [] (fun v M=>v = (tU #[I r.1,bool r.2]) ∧ M = []):=by
 unfold jE at H
 refine bC Tryd.func85 Z 29 Z (nL Z) fun F w0=>?_
 show cJ (St 29 w0 F [(0,I a0),(1,I a1),(2,I a2)] []) _
 refine ag (ac (vA Z Z (vA Z Z (ae (ag (ag (ac (vM Z Z (vV (an Z Z (cd _ _ _)) Z (vM Z Z ?_))))))))))
 refine cy H (fun c13 H=>?_) fun c13 H=>?_
 ·refine af Z Z Z (dT c13) Z Z ?_
  refine af Z Z Z (dT c13) Z Z ?_
  refine vV (al Z Z Z (aK (dT c13))) Z (vM Z Z ?_)
  refine af Z Z Z Z Z Z ?_
  refine af Z Z Z Z Z Z ?_
  refine vV (al Z Z Z Z) Z (vM Z Z ?_)
  refine af Z Z Z Z Z Z ?_
  refine af Z Z Z Z Z Z ?_
  refine af Z Z Z Z Z Z ?_
  refine af Z Z Z Z Z Z ?_
  refine af Z Z Z Z Z Z ?_
  refine vV (al Z Z Z Z) Z (ae (aj Z Z (ag (ac (vA Z Z (vA Z Z (ae (ap ?_))))))))
  cases H
  refine vP [] Z Z ?_
  exact bw (vs:=[I 0,B0]) Z ⟨rfl,⟨rfl,trivial⟩⟩ _ Z ⟨rfl,rfl⟩
 refine aa (aq Z) Z Z Z (dF c13) Z Z ?_
 refine aa (an Z Z (eh _ _ _)) Z Z Z (dF c13) Z Z ?_
 refine vV (al Z Z Z (aN (dF c13))) Z (vM Z Z ?_)
 refine cy H (fun c14 H=>?_) fun c14 H=>?_
 ·refine af Z Z Z (dT c14) Z Z ?_
  refine af Z Z Z (dT c14) Z Z ?_
  refine vV (al Z Z Z (aK (dT c14))) Z (vM Z Z ?_)
  refine af Z Z Z Z Z Z ?_
  refine af Z Z Z Z Z Z ?_
  refine af Z Z Z Z Z Z ?_
  refine af Z Z Z Z Z Z ?_
  refine af Z Z Z Z Z Z ?_
  refine vV (al Z Z Z Z) Z (ae (aj Z Z (ag (ac (vA Z Z (vA Z Z (ae (ap ?_))))))))
  cases H
  refine vP [] Z Z ?_
  exact bw (vs:=[I 0,B0]) Z ⟨rfl,⟨rfl,trivial⟩⟩ _ Z ⟨rfl,rfl⟩
 refine aa (aq Z) Z Z Z (dF c14) Z Z ?_
 refine aa (an Z Z (cd _ _ _)) Z Z Z (dF c14) Z Z ?_
 refine vV (al Z Z Z (aN (dF c14))) Z (vM Z Z ?_)
 refine cy H (fun c15 H=>?_) fun c15 H=>?_
 ·refine af Z Z Z (dT c15) Z Z ?_
  refine af Z Z Z (dT c15) Z Z ?_
  refine af Z Z Z (dT c15) Z Z ?_
  refine af Z Z Z (dT c15) Z Z ?_
  refine af Z Z Z (dT c15) Z Z ?_
  refine vV (al Z Z Z (aK (dT c15))) Z (ae (aj Z Z (ag (ac (vA Z Z (vA Z Z (ae (ap ?_))))))))
  cases H
  refine vP [] Z Z ?_
  exact bw (vs:=[I 0,B0]) Z ⟨rfl,⟨rfl,trivial⟩⟩ _ Z ⟨rfl,rfl⟩
 refine aa (aq Z) Z Z Z (dF c15) Z Z ?_
 refine aa (aq Z) Z Z Z (dF c15) Z Z ?_
 refine aa (aq Z) Z Z Z (dF c15) Z Z ?_
 obtain ⟨x5,h5,H⟩:=bE H
 refine cx (aV (first:=[]) (cap:=[]) (xs:=[.tmp 20,.tmp 21]) Z Z uK Z (ig.spec a0 a1 _ h5)) Z Z Z (dF c15) Z Z ?_
 rintro _ _ ⟨rfl,rfl⟩
 refine aa (an Z Z (eh _ _ _)) Z Z Z (dF c15) Z Z ?_
 refine vV (al Z Z Z (aN (dF c15))) Z (ae ?_)
 refine cy H (fun c16 H=>?_) fun c16 H=>?_
 ·refine aj Z (dT c16) (ag (ac (vA Z Z (vA Z Z (ae (ap ?_))))))
  cases H
  refine vP [] Z Z ?_
  exact bw (vs:=[I 0,B0]) Z ⟨rfl,⟨rfl,trivial⟩⟩ _ Z ⟨rfl,rfl⟩
 refine ak Z (dF c16) (aC (ag (ac (vM Z Z (vM Z Z (vM Z Z ?_))))))
 obtain ⟨x6,h6,H⟩:=bE H
 refine aL (aV (first:=[]) (cap:=[]) (xs:=[.tmp 25,.tmp 26,.tmp 27]) Z Z uq Z (jC.spec a0 a1 a2 _ h6)) Z Z Z ?_
 rintro _ _ ⟨rfl,rfl⟩
 refine vA Z Z (vA Z Z (ae (ap ?_)))
 cases H
 refine vP [] Z Z ?_
 exact bw (vs:=[I x6,bool true]) Z ⟨rfl,⟨rfl,trivial⟩⟩ _ Z ⟨rfl,rfl⟩
theorem jV.spec (K:Nat) (a0:List UInt8) (r:(Int × Bool)) (H:jV K a0 = some r):bo Tryd.prog 69 [ay a0] [] (fun v M=>v = (tU #[I r.1,bool r.2]) ∧ M = []):=by
 unfold jV at H
 refine bC Tryd.func69 Z 75 Z (nL Z) fun F w0=>?_
 show cJ (St 75 w0 F [(0,ay a0)] []) _
 refine ag (ac (vA Z Z (vA Z Z (ae (rJ (ag (ag (ac (vM Z Z (vV (fE Z Tryd.underlying9) Z (vV (an Z Z (ku _ _ _)) Z ?_)))))))))))
 refine ae ?_
 refine cy H (fun c264 H=>?_) fun c264 H=>?_
 ·refine aj Z (iO c264) (ag (ac (vA Z Z (vA Z Z (ae (ap ?_))))))
  cases H
  refine vP [] Z Z ?_
  exact bw (vs:=[I 0,B0]) Z ⟨rfl,⟨rfl,trivial⟩⟩ _ Z ⟨rfl,rfl⟩
 refine ak Z (iS c264) (aC (ag (ac ?_)))
 refine aL (cT uU) Z Z Z ?_
 rintro _ _ ⟨b3,rfl,rfl⟩
 refine ae (ag (ac (vA Z Z (ae (ag (sa ?_))))))
 obtain ⟨x3,H8,H⟩:=oB H
 refine bY (fun a w=>∃ v2,x3 = Sum.inl v2 ∧ ∃ b4:Nat,St 75 w0 F [(4,pt b4 0)] [box b4 120 [I v2.1,I v2.2.1,I v2.2.2.1,I v2.2.2.2]] a w) ?_ ?_
 ·refine ag (ac (vM Z Z ?_))
  obtain ⟨c390,H8⟩:=eL H8
  refine aL (uE Z Tryd.underlying9 dr Tryd.underlying5 c390) Z Z Z ?_
  rintro sv4 _ rfl
  refine vV (bQ 0 Z dr Z (kl 5)) Z (vM Z Z (ae (aO ?_)))
  refine cz (fun k a w=>∃ i30,∃ i31,∃ i33,∃ i34,∃ i35,∃ i36,dI K a0 k i30 i31 i33 i34 i35 i36 = some x3 ∧ St 75 w0 F [(4,pt b3 0),(5,I i30),(15,sv4),(16,I ((dn a0).length:Int)),(17,I i31)] [box b3 120 [I i33,I i34,I i35,I i36],(zk sv4 5 (dn a0).length (fl (eI .u8) (dn a0)))] a w) K ?_ ?_
  ·exact vF [1,0] Z Z (vS [4,5,15,16,17] Z) fun a w h=>⟨_,_,_,_,_,_,H8,h⟩
  ·refine fun k=>aJ fun i30=>aJ fun i31=>aJ fun i33=>aJ fun i34=>aJ fun i35=>aJ fun i36=>bX fun H9=>?_
   cases k with
   | zero=>exact absurd H9 (by simp [dI])
   | succ k =>
    rw [dI] at H9
    refine ag (ac (vV (an Z Z (cd _ _ _)) Z (ae (ag ?_))))
    refine eO H9 (fun c484 H9=>?_) fun c484 H9=>?_
    ·refine ak Z (dF c484) (bU ?_)
     cases H9
     exact vF [0] Z Z (vS [4] Z) fun a w h=>⟨_,rfl,_,h⟩
    refine aj Z (dT c484) (aC (ag (aO (ag (ac (vM Z Z ?_))))))
    obtain ⟨c500,H9⟩:=eL H9
    refine vV (bB (sz:=0) 1 Z Z dr iP Z (kl 5) c500 c484) Z ?_
    refine vV (aB (v:=(int .u8 ((dn a0).getD i31.toNat 0))) Z sA (cN (i:=1) Z (kl 5) (by simp) (dN (qo _) (bL c500 c484) Z))) Z ?_
    refine vA Z Z (vA Z Z (ae (ag (ag (ac (vM Z Z ?_))))))
    obtain ⟨c505,H9⟩:=eL H9
    refine vV (dq Z Z Tryd.underlying9 c500 c505) Z (vV (an Z Z (ku _ _ _)) Z (ae ?_))
    refine cy H9 (fun c506 H9=>?_) fun c506 H9=>?_
    ·refine aj Z (iO c506) (ag (ag (ac (vM Z Z (vM Z Z (vV (dq Z Z Tryd.underlying9 c500 c505) Z (vV (an Z Z (ku _ _ _)) Z (ae ?_))))))))
     refine cy H9 (fun c508 H9=>?_) fun c508 H9=>?_
     ·refine aj Z (iO c508) (ag (ac (vA Z Z (vA Z Z (ae (ap ?_))))))
      cases H9
      have H10:=Option.some.inj (show some _ = some _ from H)
      cases H10
      refine vP [] Z Z ?_
      exact bw (vs:=[I 0,B0]) Z ⟨rfl,⟨rfl,trivial⟩⟩ _ Z ⟨rfl,rfl⟩
     refine ak Z (iS c508) (aC (ag (ac (vM Z Z (vV (an Z Z (bG _ _ _) ) Z (vA Z Z (ae (bU (ac (vV (an Z Z (bG _ _ _) ) Z (vM Z Z ?_)))))))))))
     refine ae ?_
     exact vF [0,1] Z Z (vS [4,5,15,16,17] Z) fun a w h=>⟨k,Nat.lt_succ_self k,_,_,_,_,_,_,H9,h⟩
    refine ak Z (iS c506) (aC (ag (ag (ac (vM Z Z (vV (an Z Z (cd _ _ _)) Z (vM Z Z ?_)))))))
    refine cy H9 (fun c511 H9=>?_) fun c511 H9=>?_
    ·refine af Z Z Z (dT c511) Z Z ?_
     refine af Z Z Z (dT c511) Z Z ?_
     refine vV (al Z Z Z (aK (dT c511))) Z (ae (aj Z Z (ag (ac (vA Z Z (vA Z Z (ae (ap ?_))))))))
     cases H9
     have H11:=Option.some.inj (show some _ = some _ from H)
     cases H11
     refine vP [] Z Z ?_
     exact bw (vs:=[I 0,B0]) Z ⟨rfl,⟨rfl,trivial⟩⟩ _ Z ⟨rfl,rfl⟩
    refine aa (aq Z) Z Z Z (dF c511) Z Z ?_
    refine aa (an Z Z (eh _ _ _)) Z Z Z (dF c511) Z Z ?_
    refine vV (al Z Z Z (aN (dF c511))) Z (ae ?_)
    refine cy H9 (fun c512 H9=>?_) fun c512 H9=>?_
    ·refine aj Z (dT c512) (ag (ac (vA Z Z (vA Z Z (ae (ap ?_))))))
     cases H9
     have H12:=Option.some.inj (show some _ = some _ from H)
     cases H12
     refine vP [] Z Z ?_
     exact bw (vs:=[I 0,B0]) Z ⟨rfl,⟨rfl,trivial⟩⟩ _ Z ⟨rfl,rfl⟩
    refine ak Z (dF c512) (aC (ac (vM Z Z (vM Z Z ?_))))
    obtain ⟨c513,H9⟩:=eL H9
    obtain ⟨c514,H9⟩:=eL H9
    refine vV (bt (o:=0) Z Z jW aT c513 c514) Z (vV (aB (v:=(I ([i33,i34,i35,i36].getD i30.toNat 0))) Z aX (fi (i:=0) (enc:=(eI .i64)) (z:=0) (xs:=[i33,i34,i35,i36]) Z (qo _) Z (bL c513 c514))) Z (vV (an Z Z (na _ _ _) ) Z (vM Z Z (vV (an Z Z (lC _ _ _) ) Z (vV (jD Z (oo Tryd.underlying5 Tryd.underlying2)) Z (vV (an Z Z (bG _ _ _) ) Z (vV (bt (o:=0) Z Z jW aT c513 c514) Z ?_)))))))
    refine bq (ka (cs:=[I i33,I i34,I i35,I i36]) (cs':=[I (if i30.toNat = 0 then bj ((bj (([i33,i34,i35,i36].getD i30.toNat 0) * 10)) + (bj (dR (((dn a0).getD i31.toNat 0) - 48)))) else i33),I (if i30.toNat = 1 then bj ((bj (([i33,i34,i35,i36].getD i30.toNat 0) * 10)) + (bj (dR (((dn a0).getD i31.toNat 0) - 48)))) else i34),I (if i30.toNat = 2 then bj ((bj (([i33,i34,i35,i36].getD i30.toNat 0) * 10)) + (bj (dR (((dn a0).getD i31.toNat 0) - 48)))) else i35),I (if i30.toNat = 3 then bj ((bj (([i33,i34,i35,i36].getD i30.toNat 0) * 10)) + (bj (dR (((dn a0).getD i31.toNat 0) - 48)))) else i36)]) (us:=[I (bj ((bj (([i33,i34,i35,i36].getD i30.toNat 0) * 10)) + (bj (dR (((dn a0).getD i31.toNat 0) - 48)))))]) (L':=[box b3 120 [I (if i30.toNat = 0 then bj ((bj (([i33,i34,i35,i36].getD i30.toNat 0) * 10)) + (bj (dR (((dn a0).getD i31.toNat 0) - 48)))) else i33),I (if i30.toNat = 1 then bj ((bj (([i33,i34,i35,i36].getD i30.toNat 0) * 10)) + (bj (dR (((dn a0).getD i31.toNat 0) - 48)))) else i34),I (if i30.toNat = 2 then bj ((bj (([i33,i34,i35,i36].getD i30.toNat 0) * 10)) + (bj (dR (((dn a0).getD i31.toNat 0) - 48)))) else i35),I (if i30.toNat = 3 then bj ((bj (([i33,i34,i35,i36].getD i30.toNat 0) * 10)) + (bj (dR (((dn a0).getD i31.toNat 0) - 48)))) else i36)],(zk sv4 5 (dn a0).length (fl (eI .u8) (dn a0)))]) 0 Z Z Z (kU Z) aT Z (iQ (fun i_=>List.take (0 + i_ * 1) [I i33,I i34,I i35,I i36] ++ [I (bj ((bj (([i33,i34,i35,i36].getD i30.toNat 0) * 10)) + (bj (dR (((dn a0).getD i31.toNat 0) - 48)))))] ++ List.drop (0 + i_ * 1 + List.length [I (bj ((bj (([i33,i34,i35,i36].getD i30.toNat 0) * 10)) + (bj (dR (((dn a0).getD i31.toNat 0) - 48)))))]) [I i33,I i34,I i35,I i36] = [I (if i_ = 0 then bj ((bj (([i33,i34,i35,i36].getD i30.toNat 0) * 10)) + (bj (dR (((dn a0).getD i31.toNat 0) - 48)))) else i33),I (if i_ = 1 then bj ((bj (([i33,i34,i35,i36].getD i30.toNat 0) * 10)) + (bj (dR (((dn a0).getD i31.toNat 0) - 48)))) else i34),I (if i_ = 2 then bj ((bj (([i33,i34,i35,i36].getD i30.toNat 0) * 10)) + (bj (dR (((dn a0).getD i31.toNat 0) - 48)))) else i35),I (if i_ = 3 then bj ((bj (([i33,i34,i35,i36].getD i30.toNat 0) * 10)) + (bj (dR (((dn a0).getD i31.toNat 0) - 48)))) else i36)]) (bL c513 c514) Z Z Z Z) (iQ (fun i_=>0 + i_ * 1 + List.length [I (bj ((bj (([i33,i34,i35,i36].getD i30.toNat 0) * 10)) + (bj (dR (((dn a0).getD i31.toNat 0) - 48)))))] ≤ List.length [I i33,I i34,I i35,I i36]) (bL c513 c514) (nL Z) (nL Z) (nL Z) (nL Z)) Z) Z Z ?_
    rintro _ _ rfl
    refine ae (ac (vV (an Z Z (bG _ _ _) ) Z (vM Z Z (ae ?_))))
    exact vF [0,1] Z Z (vS [4,5,15,16,17] Z) fun a w h=>⟨k,Nat.lt_succ_self k,_,_,_,_,_,_,H9,h⟩
 ·refine aJ fun v2=>bX fun e_=>?_
  subst e_
  rw [jg] at H
  refine aJ fun b4=>?_
  refine ag (ac ?_)
  obtain ⟨c515,H⟩:=eL H
  refine vV (bt (o:=0) Z Z jW aT (by decide) c515) Z (vV (aB (v:=(I v2.1)) Z aX (au (i:=0) Z Z)) Z ?_)
  obtain ⟨c516,H⟩:=eL H
  refine vV (bt (o:=0) Z Z jW aT (by decide) c516) Z (vV (aB (v:=(I v2.2.1)) Z aX (au (i:=0) Z Z)) Z ?_)
  obtain ⟨c517,H⟩:=eL H
  refine vV (bt (o:=0) Z Z jW aT (by decide) c517) Z (vV (aB (v:=(I v2.2.2.1)) Z aX (au (i:=0) Z Z)) Z ?_)
  obtain ⟨x4,h2,H⟩:=bE H
  refine aL (aV (first:=[]) (cap:=[]) (xs:=[.tmp 50,.tmp 52,.tmp 54]) Z Z xx Z (jE.spec v2.1 v2.2.1 v2.2.2.1 _ h2)) Z Z Z ?_
  rintro _ _ ⟨rfl,rfl⟩
  refine vM Z Z (vV (bz Z Z) Z (vV (bz Z Z) Z (vA Z Z (vA Z Z (ae (ag (ac (vM Z Z (vV (an Z Z (na _ _ _) ) Z ?_)))))))))
  obtain ⟨c518,H⟩:=eL H
  refine vV (bt (o:=0) Z Z jW aT (by decide) c518) Z (vV (aB (v:=(I v2.2.2.2)) Z aX (au (i:=0) Z Z)) Z (vV (an Z Z (bG _ _ _) ) Z (vA Z Z (ae (ag (ag (ac (vM Z Z (vV (gW Z (ia _)) Z (vM Z Z ?_))))))))))
  refine cy H (fun c522 H=>?_) fun c522 H=>?_
  ·refine af Z Z Z c522 Z Z ?_
   refine af Z Z Z c522 Z Z ?_
   refine af Z Z Z c522 Z Z ?_
   refine vV (al Z Z Z (aK c522)) Z (vM Z Z ?_)
   refine af Z Z Z Z Z Z ?_
   refine af Z Z Z Z Z Z ?_
   refine vV (al Z Z Z Z) Z (ae (aj Z Z (ag (ac (vA Z Z (vA Z Z (ae (ap ?_))))))))
   cases H
   refine vP [] Z Z ?_
   exact bw (vs:=[I 0,B0]) Z ⟨rfl,⟨rfl,trivial⟩⟩ _ Z ⟨rfl,rfl⟩
  refine aa (bt (o:=0) Z Z jW aT (by decide) c518) Z Z Z (bF c522) Z Z ?_
  refine aa (aB (v:=(I v2.2.2.2)) Z aX (au (i:=0) Z Z)) Z Z Z (bF c522) Z Z ?_
  refine aa (an Z Z (iZ _ _ _)) Z Z Z (bF c522) Z Z ?_
  refine vV (al Z Z Z (aN (bF c522))) Z (vM Z Z ?_)
  refine cy H (fun c523 H=>?_) fun c523 H=>?_
  ·refine af Z Z Z (dT c523) Z Z ?_
   refine af Z Z Z (dT c523) Z Z ?_
   refine vV (al Z Z Z (aK (dT c523))) Z (ae (aj Z Z (ag (ac (vA Z Z (vA Z Z (ae (ap ?_))))))))
   cases H
   refine vP [] Z Z ?_
   exact bw (vs:=[I 0,B0]) Z ⟨rfl,⟨rfl,trivial⟩⟩ _ Z ⟨rfl,rfl⟩
  refine aa (aq Z) Z Z Z (dF c523) Z Z ?_
  refine aa (an Z Z (eh _ _ _)) Z Z Z (dF c523) Z Z ?_
  refine vV (al Z Z Z (aN (dF c523))) Z (ae ?_)
  refine cy H (fun c524 H=>?_) fun c524 H=>?_
  ·refine aj Z (dT c524) (ag (ac (vA Z Z (vA Z Z (ae (ap ?_))))))
   cases H
   refine vP [] Z Z ?_
   exact bw (vs:=[I 0,B0]) Z ⟨rfl,⟨rfl,trivial⟩⟩ _ Z ⟨rfl,rfl⟩
  refine ak Z (dF c524) (aC (ag (ac (vM Z Z (vA Z Z (vA Z Z (ae (ap ?_))))))))
  cases H
  refine vP [] Z Z ?_
  exact bw (vs:=[I (bj ((bj (x4.1 * 24)) + v2.2.2.2)),bool true]) Z ⟨rfl,⟨rfl,trivial⟩⟩ _ Z ⟨rfl,rfl⟩
theorem gK.spec (a0:Int) (r:Bool) (H:gK a0 = r):bo Tryd.prog 24 [int .u8 a0] [] (fun v M=>v = (bool r) ∧ M = []):=by
 unfold gK at H
 refine bC Tryd.func24 Z 28 Z (nL Z) fun F w0=>?_
 show cJ (St 28 w0 F [(0,int .u8 a0)] []) _
 refine ag (ac (vA Z Z (ae (ag (aO ?_)))))
 obtain ⟨x4,H4,H⟩:=bE H
 refine bY (fun a w=>St 28 w0 F [(0,int .u8 a0),(3,bool x4)] [] a w) ?_ ?_
 ·refine ag (ac (vM Z Z (vV (an Z Z (iZ _ _ _)) Z (vM Z Z ?_))))
  refine eO H4 (fun c75 H4=>?_) fun c75 H4=>?_
  ·refine af Z Z Z (dF c75) Z Z ?_
   refine af Z Z Z (dF c75) Z Z ?_
   refine vV (al Z Z Z (aN (dF c75))) Z (vA Z Z (ae (ak Z Z (ag (ac (vM Z Z (vV (an Z Z (iZ _ _ _)) Z (vM Z Z ?_))))))))
   refine eO H4 (fun c81 H4=>?_) fun c81 H4=>?_
   ·refine af Z Z Z (dF c81) Z Z ?_
    refine af Z Z Z (dF c81) Z Z ?_
    refine vV (al Z Z Z (aN (dF c81))) Z (vA Z Z (ae (ak Z Z (ac (vM Z Z (vV (an Z Z (iZ _ _ _)) Z (vM Z Z ?_)))))))
    refine eO H4 (fun c84 H4=>?_) fun c84 H4=>?_
    ·refine af Z Z Z (dF c84) Z Z ?_
     refine af Z Z Z (dF c84) Z Z ?_
     refine vV (al Z Z Z (aN (dF c84))) Z (vA Z Z (ae ?_))
     cases H4
     exact vF [] Z Z (vS [0,3] Z) fun a w h=>h
    refine aa (aq Z) Z Z Z (dT c84) Z Z ?_
    refine aa (an Z Z (ko _ _ _)) Z Z Z (dT c84) Z Z ?_
    refine vV (al Z Z Z (aK (dT c84))) Z (vA Z Z (ae ?_))
    cases H4
    exact vF [] Z Z (vS [0,3] Z) fun a w h=>h
   refine aa (aq Z) Z Z Z (dT c81) Z Z ?_
   refine aa (an Z Z (ko _ _ _)) Z Z Z (dT c81) Z Z ?_
   refine vV (al Z Z Z (aK (dT c81))) Z (vA Z Z (ae ?_))
   refine cy H4 (fun c82 H4=>?_) fun c82 H4=>?_
   ·refine aj Z (dT c82) (aC ?_)
    cases H4
    exact vF [] Z Z (vS [0,3] Z) fun a w h=>h
   refine ak Z (dF c82) (ac (vM Z Z (vV (an Z Z (iZ _ _ _)) Z (vM Z Z ?_))))
   refine eO H4 (fun c83 H4=>?_) fun c83 H4=>?_
   ·refine af Z Z Z (dF c83) Z Z ?_
    refine af Z Z Z (dF c83) Z Z ?_
    refine vV (al Z Z Z (aN (dF c83))) Z (vA Z Z (ae ?_))
    cases H4
    exact vF [] Z Z (vS [0,3] Z) fun a w h=>h
   refine aa (aq Z) Z Z Z (dT c83) Z Z ?_
   refine aa (an Z Z (ko _ _ _)) Z Z Z (dT c83) Z Z ?_
   refine vV (al Z Z Z (aK (dT c83))) Z (vA Z Z (ae ?_))
   cases H4
   exact vF [] Z Z (vS [0,3] Z) fun a w h=>h
  refine aa (aq Z) Z Z Z (dT c75) Z Z ?_
  refine aa (an Z Z (ko _ _ _)) Z Z Z (dT c75) Z Z ?_
  refine vV (al Z Z Z (aK (dT c75))) Z (vA Z Z (ae ?_))
  refine cy H4 (fun c76 H4=>?_) fun c76 H4=>?_
  ·refine aj Z (dT c76) (aC ?_)
   cases H4
   exact vF [] Z Z (vS [0,3] Z) fun a w h=>h
  refine ak Z (dF c76) (ag (ac (vM Z Z (vV (an Z Z (iZ _ _ _)) Z (vM Z Z ?_)))))
  refine eO H4 (fun c77 H4=>?_) fun c77 H4=>?_
  ·refine af Z Z Z (dF c77) Z Z ?_
   refine af Z Z Z (dF c77) Z Z ?_
   refine vV (al Z Z Z (aN (dF c77))) Z (vA Z Z (ae (ak Z Z (ac (vM Z Z (vV (an Z Z (iZ _ _ _)) Z (vM Z Z ?_)))))))
   refine eO H4 (fun c80 H4=>?_) fun c80 H4=>?_
   ·refine af Z Z Z (dF c80) Z Z ?_
    refine af Z Z Z (dF c80) Z Z ?_
    refine vV (al Z Z Z (aN (dF c80))) Z (vA Z Z (ae ?_))
    cases H4
    exact vF [] Z Z (vS [0,3] Z) fun a w h=>h
   refine aa (aq Z) Z Z Z (dT c80) Z Z ?_
   refine aa (an Z Z (ko _ _ _)) Z Z Z (dT c80) Z Z ?_
   refine vV (al Z Z Z (aK (dT c80))) Z (vA Z Z (ae ?_))
   cases H4
   exact vF [] Z Z (vS [0,3] Z) fun a w h=>h
  refine aa (aq Z) Z Z Z (dT c77) Z Z ?_
  refine aa (an Z Z (ko _ _ _)) Z Z Z (dT c77) Z Z ?_
  refine vV (al Z Z Z (aK (dT c77))) Z (vA Z Z (ae ?_))
  refine cy H4 (fun c78 H4=>?_) fun c78 H4=>?_
  ·refine aj Z (dT c78) (aC ?_)
   cases H4
   exact vF [] Z Z (vS [0,3] Z) fun a w h=>h
  refine ak Z (dF c78) (ac (vM Z Z (vV (an Z Z (iZ _ _ _)) Z (vM Z Z ?_))))
  refine eO H4 (fun c79 H4=>?_) fun c79 H4=>?_
  ·refine af Z Z Z (dF c79) Z Z ?_
   refine af Z Z Z (dF c79) Z Z ?_
   refine vV (al Z Z Z (aN (dF c79))) Z (vA Z Z (ae ?_))
   cases H4
   exact vF [] Z Z (vS [0,3] Z) fun a w h=>h
  refine aa (aq Z) Z Z Z (dT c79) Z Z ?_
  refine aa (an Z Z (ko _ _ _)) Z Z Z (dT c79) Z Z ?_
  refine vV (al Z Z Z (aK (dT c79))) Z (vA Z Z (ae ?_))
  cases H4
  exact vF [] Z Z (vS [0,3] Z) fun a w h=>h
 ·refine cy H (fun c85 H=>?_) fun c85 H=>?_
  ·refine aj Z c85 (ag (ac (vA Z Z (ae (ap ?_)))))
   cases H
   refine vP [] Z Z ?_
   exact az Z Z ⟨rfl,rfl⟩
  refine ak Z (bF c85) (aC (ag (ac (vM Z Z (vV (an Z Z (be _ _ _)) Z (vM Z Z ?_))))))
  refine cy H (fun c86 H=>?_) fun c86 H=>?_
  ·refine af Z Z Z (aY c86) Z Z ?_
   refine af Z Z Z (aY c86) Z Z ?_
   refine vV (al Z Z Z (aK (aY c86))) Z (vA Z Z (ae (ap ?_)))
   cases H
   refine vP [] Z Z ?_
   exact az Z Z ⟨rfl,rfl⟩
  refine aa (aq Z) Z Z Z (bd c86) Z Z ?_
  refine aa (an Z Z (be _ _ _)) Z Z Z (bd c86) Z Z ?_
  refine vV (al Z Z Z (aN (bd c86))) Z (vA Z Z (ae (ap ?_)))
  cases H
  refine vP [] Z Z ?_
  exact az Z Z ⟨rfl,rfl⟩
theorem strings_IndexByte.spec (a0:List UInt8) (a1 r:Int) (H:strings_IndexByte a0 a1 = r):bo Tryd.prog 25 [ay a0,int .u8 a1] [] (fun v M=>v = (I r) ∧ M = []):=by
 subst H
 exact qh (fun s c w=>Tryd.strings_IndexByte s c w) a0 a1
theorem gf.spec (K:Nat) (a0:List UInt8) (r:(Bool × (List UInt8))) (H:gf K a0 = some r):bo Tryd.prog 9 [ay a0] [] (fun v M=>v = (tU #[ay r.2,bool r.1]) ∧ M = []):=by
 unfold gf at H
 refine bC Tryd.func9 Z 76 Z (nL Z) fun F w0=>?_
 show cJ (St 76 w0 F [(0,ay a0)] []) _
 refine ag (ac (vA Z Z (vA Z Z (ae (ag (ag (ac (vM Z Z (vV (an Z Z (eE _ _)) Z (ae ?_))))))))))
 refine cy H (fun c252 H=>?_) fun c252 H=>?_
 ·refine aj Z (aY c252) (ag (ac (vA Z Z (vA Z Z (ae (ap ?_))))))
  cases H
  refine vP [] Z Z ?_
  exact bw (vs:=[S0,bool true]) Z ⟨rfl,⟨rfl,trivial⟩⟩ _ Z ⟨rfl,rfl⟩
 refine ak Z (bd c252) (aC (ag (ac (vA Z Z (ae ?_)))))
 obtain ⟨x110,H10,H⟩:=oB H
 refine bY (fun a w=>∃ v2,x110 = Sum.inl v2 ∧ ∃ sv113:Value,St 76 w0 F [(4,sv113)] [own sv113 5 1 v2.length (fl (eI .u8) v2)] a w) ?_ ?_
 ·refine ag (ac (vA Z Z (ae (aO ?_))))
  refine cz (fun k a w=>∃ i4,∃ l6,∃ sv126:Value,io K a0 k i4 l6 = some x110 ∧ St 76 w0 F [(0,ay a0),(4,sv126),(5,I i4)] [own sv126 5 1 l6.length (fl (eI .u8) l6)] a w) K ?_ ?_
  ·refine bc 5 1 ?_
   exact vF [0] Z Z (vS [0,4,5] Z) fun a w h=>⟨_,_,_,H10,h⟩
  ·refine fun k=>aJ fun i4=>aJ fun l6=>aJ fun sv126=>bX fun H11=>?_
   cases k with
   | zero=>exact absurd H11 (by simp [io])
   | succ k =>
    rw [io] at H11
    refine ag (ag (ac (vM Z Z (vM Z Z (vV (fE Z Tryd.underlying9) Z (vV (an Z Z (cd _ _ _)) Z (ae ?_)))))))
    refine eO H11 (fun c458 H11=>?_) fun c458 H11=>?_
    ·refine ak Z (dF c458) (bU ?_)
     cases H11
     exact vF [0] Z Z (vS [4] Z) fun a w h=>⟨_,rfl,_,h⟩
    refine aj Z (dT c458) (aC (ag (aO (ag (ag (ac (vM Z Z (vM Z Z ?_))))))))
    obtain ⟨c483,H11⟩:=eL H11
    refine vV (dq Z Z Tryd.underlying9 c483 c458) Z ?_
    obtain ⟨x142,h140,H11⟩:=bE H11
    refine aL (aV (first:=[]) (cap:=[]) (xs:=[.tmp 18]) Z Z rh Z (gK.spec ((a0.getD i4.toNat 0).toNat:Int) _ h140)) Z Z Z ?_
    rintro _ _ ⟨rfl,rfl⟩
    refine ae ?_
    refine cy H11 (fun c484 H11=>?_) fun c484 H11=>?_
    ·refine aj Z c484 (ag (ac (vM Z Z (vM Z Z (vM Z Z (vV (dq Z Z Tryd.underlying9 c483 c458) Z ?_))))))
     refine aL (bP (sz:=0) (xs:=[.tmp 23]) (cs:=fl (eI .u8) [((a0.getD i4.toNat 0).toNat:Int)]) Z Z dr iP jJ Z Z (dW Z) Z (by decide)) Z Z Z ?_
     rintro sv147 _ rfl
     obtain ⟨c485,H11⟩:=eL H11
     refine aL (iN (sz:=0) (xs:=l6) (ys:=[((a0.getD i4.toNat 0).toNat:Int)]) 1 0 Z Z dr iP jJ Z mo Z Z Z (aQ 5) Z (qj _) c485) Z Z Z ?_
     rintro sv148 _ rfl
     refine gL [own sv147 5 1 [((a0.getD i4.toNat 0).toNat:Int)].length (fl (eI .u8) [((a0.getD i4.toNat 0).toNat:Int)]),own sv148 5 1 (l6 ++ [((a0.getD i4.toNat 0).toNat:Int)]).length (fl (eI .u8) (l6 ++ [((a0.getD i4.toNat 0).toNat:Int)]))] Z ?_
     refine vA Z Z (ae (bU (ac (vM Z Z (vV (an Z Z (bG _ _ _) ) Z (vA Z Z (ae ?_)))))))
     exact vF [1] Z Z (vS [0,4,5] Z) fun a w h=>⟨k,Nat.lt_succ_self k,_,_,_,H11,h⟩
    refine ak Z (bF c484) (aC (ag (ag (ac (vM Z Z (vM Z Z (vV (dq Z Z Tryd.underlying9 c483 c458) Z (vV (an Z Z (ku _ _ _)) Z (vM Z Z ?_)))))))))
    refine cy H11 (fun c488 H11=>?_) fun c488 H11=>?_
    ·refine af Z Z Z (iO c488) Z Z ?_
     refine af Z Z Z (iO c488) Z Z ?_
     refine af Z Z Z (iO c488) Z Z ?_
     refine af Z Z Z (iO c488) Z Z ?_
     refine af Z Z Z (iO c488) Z Z ?_
     refine vV (al Z Z Z (aK (iO c488))) Z (ae (aj Z Z (ag (ac (vA Z Z (vA Z Z (ae (ap ?_))))))))
     cases H11
     have H12:=Option.some.inj (show some _ = some _ from H)
     cases H12
     refine vP [] Z Z ?_
     exact bw (vs:=[S0,B0]) Z ⟨rfl,⟨rfl,trivial⟩⟩ _ Z ⟨rfl,rfl⟩
    refine aa (aq Z) Z Z Z (iS c488) Z Z ?_
    refine aa (an Z Z (bG _ _ _) ) Z Z Z (iS c488) Z Z ?_
    refine aa (aq Z) Z Z Z (iS c488) Z Z ?_
    refine aa (fE Z Tryd.underlying9) Z Z Z (iS c488) Z Z ?_
    refine aa (an Z Z (iZ _ _ _)) Z Z Z (iS c488) Z Z ?_
    refine vV (al Z Z Z (aN (iS c488))) Z (ae ?_)
    refine cy H11 (fun c489 H11=>?_) fun c489 H11=>?_
    ·refine aj Z (dT c489) (ag (ac (vA Z Z (vA Z Z (ae (ap ?_))))))
     cases H11
     have H13:=Option.some.inj (show some _ = some _ from H)
     cases H13
     refine vP [] Z Z ?_
     exact bw (vs:=[S0,B0]) Z ⟨rfl,⟨rfl,trivial⟩⟩ _ Z ⟨rfl,rfl⟩
    refine ak Z (dF c489) (aC (ag ?_))
    obtain ⟨c490,H11⟩:=eL H11
    obtain ⟨c491,H11⟩:=eL H11
    obtain ⟨x143,h141,H11⟩:=bE H11
    obtain ⟨c492,H11⟩:=eL H11
    obtain ⟨c493,H11⟩:=eL H11
    obtain ⟨x144,h142,H11⟩:=bE H11
    refine cA 12 Z (fun D a w=>kF 76 w0 F [(0,ay a0),(4,sv126),(5,I i4),(10,I i4),(11,ay a0),(12,I (a0.length:Int)),(13,Value.bool (decide (i4 < (a0.length:Int)))),(16,ay a0),(17,I i4),(18,int .u8 ((a0.getD i4.toNat 0).toNat:Int)),(19,bool x142),(26,ay a0),(27,I i4),(28,int .u8 ((a0.getD i4.toNat 0).toNat:Int)),(29,bool (((a0.getD i4.toNat 0).toNat:Int) != 37)),(30,bool (((a0.getD i4.toNat 0).toNat:Int) != 37)),(31,I i4),(32,I (bj (i4 + 2))),(33,ay a0),(34,I (a0.length:Int)),(35,Value.bool (decide ((a0.length:Int) ≤ (bj (i4 + 2))))),(36,Value.bool (decide ((a0.length:Int) ≤ (bj (i4 + 2)))))] [(0,37,ay a0),(1,38,I i4),(2,39,I (bj (i4 + 1))),(3,40,int .u8 ((a0.getD (bj (i4 + 1)).toNat 0).toNat:Int)),(4,41,I x143),(5,42,ay a0),(6,43,I i4),(7,44,I (bj (i4 + 2))),(8,45,int .u8 ((a0.getD (bj (i4 + 2)).toNat 0).toNat:Int)),(9,46,I x144),(10,6,I x143),(11,7,I x144)] D [own sv126 5 1 l6.length (fl (eI .u8) l6)] a w) (by kernel_rfl) (by kernel_rfl) (cH (vS [0,4,5,10,11,12,13,16,17,18,19,26,27,28,29,30,31,32,33,34,35,36] Z) Z) ?_ ?_
    ·refine ⟨?_,?_,?_,?_,?_,?_,?_,?_,?_,?_,?_,?_,trivial⟩
     ·exact fun D hi hc U=>dV 0 Z Z Z Z (fun a=>ah) (aq Z) Z Z Z Z
     ·exact fun D hi hc U=>dV 1 Z Z Z Z (fun a=>ah) (aq Z) Z Z Z Z
     ·exact fun D hi hc U=>dV 2 Z Z Z Z (fun a=>(hD 1 U Z Z Z Z ah)) (an Z Z (bG _ _ _) ) Z Z Z Z
     ·exact fun D hi hc U=>dV 3 Z Z Z Z (fun a=>(hD 2 U Z Z Z Z (hD 0 U Z Z Z Z ah))) (dq Z Z Tryd.underlying9 c490 c491) Z Z Z Z
     ·exact fun D hi hc U=>pI 4 Z Z Z (cc Z) (fun a=>(hD 3 U Z Z Z Z ah)) (aV (first:=[]) (cap:=[]) (xs:=[.const (ay ([48,49,50,51,52,53,54,55,56,57,97,98,99,100,101,102]:List UInt8)),.tmp 40]) Z Z rp Z (strings_IndexByte.spec ([48,49,50,51,52,53,54,55,56,57,97,98,99,100,101,102]:List UInt8) ((a0.getD (bj (i4 + 1)).toNat 0).toNat:Int) _ h141)) Z Z Z Z
     ·exact fun D hi hc U=>dV 5 Z Z Z Z (fun a=>ah) (aq Z) Z Z Z Z
     ·exact fun D hi hc U=>dV 6 Z Z Z Z (fun a=>ah) (aq Z) Z Z Z Z
     ·exact fun D hi hc U=>dV 7 Z Z Z Z (fun a=>(hD 6 U Z Z Z Z ah)) (an Z Z (bG _ _ _) ) Z Z Z Z
     ·exact fun D hi hc U=>dV 8 Z Z Z Z (fun a=>(hD 7 U Z Z Z Z (hD 5 U Z Z Z Z ah))) (dq Z Z Tryd.underlying9 c492 c493) Z Z Z Z
     ·exact fun D hi hc U=>pI 9 Z Z Z (cc Z) (fun a=>(hD 8 U Z Z Z Z ah)) (aV (first:=[]) (cap:=[]) (xs:=[.const (ay ([48,49,50,51,52,53,54,55,56,57,97,98,99,100,101,102]:List UInt8)),.tmp 45]) Z Z rp Z (strings_IndexByte.spec ([48,49,50,51,52,53,54,55,56,57,97,98,99,100,101,102]:List UInt8) ((a0.getD (bj (i4 + 2)).toNat 0).toNat:Int) _ h142)) Z Z Z Z
     ·exact fun D hi hc U=>dV 10 Z Z Z Z (fun a=>(hD 4 U Z Z Z Z ah)) (iH Z) Z Z Z Z
     ·exact fun D hi hc U=>dV 11 Z Z Z Z (fun a=>(hD 9 U Z Z Z Z ah)) (iH Z) Z Z Z Z
    ·intro D hall
     refine cR [own sv126 5 1 l6.length (fl (eI .u8) l6)] Z (fun a=>(hC 10 Z (hall 10 (by decide)) (hC 11 Z (hall 11 (by decide)) (hC 0 Z (hall 0 (by decide)) (hC 1 Z (hall 1 (by decide)) (hC 2 Z (hall 2 (by decide)) (hC 3 Z (hall 3 (by decide)) (hC 4 Z (hall 4 (by decide)) (hC 5 Z (hall 5 (by decide)) (hC 6 Z (hall 6 (by decide)) (hC 7 Z (hall 7 (by decide)) (hC 8 Z (hall 8 (by decide)) (hC 9 Z (hall 9 (by decide)) ah))))))))))))) ?_
     refine ag (ag (ac (vM Z Z (vV (an Z Z (cd _ _ _)) Z (vM Z Z ?_)))))
     refine cy H11 (fun c497 H11=>?_) fun c497 H11=>?_
     ·refine af Z Z Z (dT c497) Z Z ?_
      refine af Z Z Z (dT c497) Z Z ?_
      refine vV (al Z Z Z (aK (dT c497))) Z (vM Z Z ?_)
      refine af Z Z Z Z Z Z ?_
      refine af Z Z Z Z Z Z ?_
      refine af Z Z Z Z Z Z ?_
      refine af Z Z Z Z Z Z ?_
      refine af Z Z Z Z Z Z ?_
      refine af Z Z Z Z Z Z ?_
      refine vV (al Z Z Z Z) Z (ae (aj Z Z (ag (ac (vA Z Z (vA Z Z (ae (ap ?_))))))))
      cases H11
      have H14:=Option.some.inj (show some _ = some _ from H)
      cases H14
      refine vP [] Z Z ?_
      exact bw (vs:=[S0,B0]) Z ⟨rfl,⟨rfl,trivial⟩⟩ _ Z ⟨rfl,rfl⟩
     refine aa (aq Z) Z Z Z (dF c497) Z Z ?_
     refine aa (an Z Z (cd _ _ _)) Z Z Z (dF c497) Z Z ?_
     refine vV (al Z Z Z (aN (dF c497))) Z (vM Z Z ?_)
     refine cy H11 (fun c498 H11=>?_) fun c498 H11=>?_
     ·refine af Z Z Z (dT c498) Z Z ?_
      refine af Z Z Z (dT c498) Z Z ?_
      refine af Z Z Z (dT c498) Z Z ?_
      refine af Z Z Z (dT c498) Z Z ?_
      refine af Z Z Z (dT c498) Z Z ?_
      refine af Z Z Z (dT c498) Z Z ?_
      refine vV (al Z Z Z (aK (dT c498))) Z (ae (aj Z Z (ag (ac (vA Z Z (vA Z Z (ae (ap ?_))))))))
      cases H11
      have H15:=Option.some.inj (show some _ = some _ from H)
      cases H15
      refine vP [] Z Z ?_
      exact bw (vs:=[S0,B0]) Z ⟨rfl,⟨rfl,trivial⟩⟩ _ Z ⟨rfl,rfl⟩
     refine aa (aq Z) Z Z Z (dF c498) Z Z ?_
     refine aa (an Z Z fun w=>zZ _ _ _ _ w (by decide)) Z Z Z (dF c498) Z Z ?_
     refine aa (aq Z) Z Z Z (dF c498) Z Z ?_
     refine aa (an Z Z (Bk _ _ _)) Z Z Z (dF c498) Z Z ?_
     refine aa (jD Z (oo Tryd.underlying3 Tryd.underlying5)) Z Z Z (dF c498) Z Z ?_
     obtain ⟨x146,h144,H11⟩:=bE H11
     refine cx (aV (first:=[]) (cap:=[]) (xs:=[.tmp 58]) Z Z rh Z (gK.spec (dR (xD .i64 (pj .i64 x143 4) x144)) _ h144)) Z Z Z (dF c498) Z Z ?_
     rintro _ _ ⟨rfl,rfl⟩
     refine vV (al Z Z Z (aN (dF c498))) Z (ae ?_)
     refine cy H11 (fun c499 H11=>?_) fun c499 H11=>?_
     ·refine aj Z c499 (ag (ac (vA Z Z (vA Z Z (ae (ap ?_))))))
      cases H11
      have H16:=Option.some.inj (show some _ = some _ from H)
      cases H16
      refine vP [] Z Z ?_
      exact bw (vs:=[S0,B0]) Z ⟨rfl,⟨rfl,trivial⟩⟩ _ Z ⟨rfl,rfl⟩
     refine ak Z (bF c499) (aC (ag (ac (vM Z Z (vM Z Z ?_)))))
     refine vV (an Z Z fun w=>zZ _ _ _ _ w (by decide)) Z ?_
     refine vM Z Z (vV (an Z Z (Bk _ _ _)) Z (vV (jD Z (oo Tryd.underlying3 Tryd.underlying5)) Z ?_))
     refine aL (bP (sz:=0) (xs:=[.tmp 66]) (cs:=fl (eI .u8) [dR (xD .i64 (pj .i64 x143 4) x144)]) Z Z dr iP jJ Z Z (dW Z) Z (by decide)) Z Z Z ?_
     rintro sv149 _ rfl
     obtain ⟨c500,H11⟩:=eL H11
     refine aL (iN (sz:=0) (xs:=l6) (ys:=[dR (xD .i64 (pj .i64 x143 4) x144)]) 1 0 Z Z dr iP jJ Z mo Z Z Z (aQ 5) Z (qj _) c500) Z Z Z ?_
     rintro sv150 _ rfl
     refine gL [own sv149 5 1 [dR (xD .i64 (pj .i64 x143 4) x144)].length (fl (eI .u8) [dR (xD .i64 (pj .i64 x143 4) x144)]),own sv150 5 1 (l6 ++ [dR (xD .i64 (pj .i64 x143 4) x144)]).length (fl (eI .u8) (l6 ++ [dR (xD .i64 (pj .i64 x143 4) x144)]))] Z ?_
     refine vA Z Z (ae (ac (vM Z Z (vV (an Z Z (bG _ _ _) ) Z (vA Z Z (ae (ac (vM Z Z (vV (an Z Z (bG _ _ _) ) Z (vA Z Z (ae ?_)))))))))))
     exact vF [1] Z Z (vS [0,4,5] Z) fun a w h=>⟨k,Nat.lt_succ_self k,_,_,_,H11,h⟩
 ·refine aJ fun v2=>bX fun e_=>?_
  subst e_
  rw [jg] at H
  refine aJ fun sv113=>?_
  refine ag (ac (vM Z Z (vV (sQ 0 Z dr Tryd.underlying5 Tryd.underlying9 Z (aQ 5)) Z (vM Z Z (vV (bQ 0 Z dr Z (aQ 5)) Z (vV (an Z Z (eh _ _ _)) Z (vA Z Z (vA Z Z (ae (ap ?_))))))))))
  cases H
  refine vP [] Z Z ?_
  exact bw (vs:=[ay (mg v2),Value.bool (decide (0 < (v2.length:Int)))]) Z ⟨rfl,⟨rfl,trivial⟩⟩ _ Z ⟨rfl,rfl⟩
theorem cB.specM (K p0:Nat) (sv0:Value) (A0:HP) (l0:List (List UInt8)) (p0_1:Int) (hA0:cW A0 sv0 l0.length 1 (fl eS l0)) (r:Option ((List (List UInt8)) × (List UInt8))) (H:cB K l0 p0_1 = some r):me Tryd.prog 68 [pt p0 0] [box p0 72 [sv0,I p0_1],A0] (fun v M=>∃ y_,r = some y_ ∧ ∃ sv3:Value,cW A0 sv3 y_.1.length 1 (fl eS y_.1) ∧ v = (ay y_.2) ∧ M = [box p0 72 [sv3,I p0_1],A0]) (r = none) mH:=by
 unfold cB at H
 refine kV Tryd.func68 Z 14 Z (nL Z) fun F w0=>?_
 show cJ (St 14 w0 F [(0,pt p0 0)] [box p0 72 [sv0,I p0_1],A0]) _
 refine ag (ac (vA Z Z (ae (ag (ac (vM Z Z ?_))))))
 obtain ⟨x11,h7,H⟩:=oB H
 cases x11 with
 | none =>
  rw [ew] at H
  refine bR (cu (Lr:=[]) (first:=[]) (cap:=[]) (xs:=[.tmp 6]) rfl rfl iY rfl (br.bad p0 sv0 A0 l0 p0_1 hA0 h7) [0,1] (by decide) rfl) (fun c e=>by cases e) rfl ?_
  cases H
  exact ca Z
 | some x10 =>
  rw [bN] at H
  refine aL (dD (Lr:=[]) (first:=[]) (cap:=[]) (xs:=[.tmp 6]) Z Z iY Z (br.spec p0 sv0 A0 l0 p0_1 hA0 _ h7) Z) Z Z Z ?_
  rintro _ _ ⟨_,⟨sv5,hr5,rfl,rfl⟩,rfl⟩
  obtain ⟨x12,h8,H⟩:=oB H
  refine aL (aV (first:=[]) (cap:=[]) (xs:=[.tmp 7]) Z Z tA Z (gf.spec K x10.2 _ h8)) Z Z Z ?_
  rintro _ _ ⟨rfl,rfl⟩
  refine vM Z Z (vV (bz Z Z) Z (vV (bz Z Z) Z (vA Z Z (vA Z Z (ae (ag (ac (vM Z Z ?_))))))))
  refine eO H (fun c4 H=>?_) fun c4 H=>?_
  ·refine bR (cu (Lr:=[box p0 72 [sv5,I p0_1],A0]) (first:=[]) (cap:=[]) (xs:=[.tmp 11]) rfl rfl cw rfl (words_must.bad _ (bF c4)) [0,1] (by decide) rfl) (fun c e=>by cases e) rfl ?_
   cases H
   exact ca Z
  refine aL (aV (first:=[]) (cap:=[]) (xs:=[.tmp 11]) Z Z cw Z (words_must.spec _ c4)) Z Z Z ?_
  rintro _ _ ⟨rfl,rfl⟩
  refine ae (ag (ac (vM Z Z (vA Z Z (ae (ap ?_))))))
  cases H
  refine jS ?_
  refine vP [0,1] Z Z ?_
  exact az Z Z ⟨_,rfl,_,hr5,rfl,rfl⟩
theorem cB.spec (K:Nat) (p0:Nat) (sv0:Value) (A0:HP) (l0:List (List UInt8)) (p0_1:Int) (hA0:cW A0 sv0 l0.length 1 (fl eS l0)) (r:((List (List UInt8)) × (List UInt8))) (H:cB K l0 p0_1 = some (some r)):bo Tryd.prog 68 [(pt p0 0)] [(box p0 72 [sv0,(int .i64 p0_1)]),A0] (fun v M=>∃ sv3:Value,cW A0 sv3 r.1.length 1 (fl eS r.1) ∧ v = (ay r.2) ∧ M = [(box p0 72 [sv3,(int .i64 p0_1)]),A0]):=(cB.specM K p0 sv0 A0 l0 p0_1 hA0 _ H).ret (fun h=>by cases h) fun v M h=>by obtain ⟨y_,e,h⟩:=h; cases e; exact h
theorem cB.bad (K:Nat) (p0:Nat) (sv0:Value) (A0:HP) (l0:List (List UInt8)) (p0_1:Int) (hA0:cW A0 sv0 l0.length 1 (fl eS l0)) (H:cB K l0 p0_1 = some none):ma Tryd.prog 68 [(pt p0 0)] [(box p0 72 [sv0,(int .i64 p0_1)]),A0] mH:=(cB.specM K p0 sv0 A0 l0 p0_1 hA0 _ H).bad fun v M h=>by obtain ⟨y_,e,h⟩:=h; cases e
theorem strings_CutPrefix.spec (a0 a1:List UInt8) (r:List UInt8 × Bool) (H:strings_CutPrefix a0 a1 = r):bo Tryd.prog 22 [ay a0,ay a1] [] (fun v M=>v = (tU #[ay r.1,bool r.2]) ∧ M = []):=by
 subst H
 exact qE (fun s p w=>Tryd.strings_CutPrefix s p w) a0 a1
theorem gb.spec (K:Nat) (a0:List UInt8) (r:(Int × Bool)) (H:gb K a0 = some r):bo Tryd.prog 7 [ay a0] [] (fun v M=>v = (tU #[I r.1,bool r.2]) ∧ M = []):=by
 unfold gb at H
 refine bC Tryd.func7 Z 73 Z (nL Z) fun F w0=>?_
 show cJ (St 73 w0 F [(0,ay a0)] []) _
 refine ag (ac (vA Z Z (vA Z Z (ae (ag (ac (vM Z Z ?_)))))))
 obtain ⟨x4,h2,H⟩:=bE H
 refine aL (aV (first:=[]) (cap:=[]) (xs:=[.tmp 10,.const (ay ([45]:List UInt8))]) Z Z oR Z (strings_CutPrefix.spec a0 ([45]:List UInt8) _ h2)) Z Z Z ?_
 rintro _ _ ⟨rfl,rfl⟩
 refine vM Z Z (vV (bz Z Z) Z (vV (bz Z Z) Z (vA Z Z (vA Z Z (ae ?_)))))
 obtain ⟨x5,H13,H⟩:=oB H
 refine bY (fun a w=>∃ v3,x5 = Sum.inl v3 ∧ St 73 w0 F [(2,I 0),(4,ay x4.1),(5,bool x4.2)] [] a w) ?_ ?_
 ·refine ag (ac (vM Z Z (vV (an Z Z (eE _ _)) Z (vM Z Z ?_))))
  refine cy H13 (fun c139 H13=>?_) fun c139 H13=>?_
  ·refine af Z Z Z (aY c139) Z Z ?_
   refine af Z Z Z (aY c139) Z Z ?_
   refine af Z Z Z (aY c139) Z Z ?_
   refine af Z Z Z (aY c139) Z Z ?_
   refine aH Z Z Z Z Z ?_
   refine aH Z Z Z Z Z ?_
   refine aH Z Z Z Z Z ?_
   refine af Z Z Z (aY c139) Z Z ?_
   refine vV (al Z Z Z (aK (aY c139))) Z (vM Z Z ?_)
   refine af Z Z Z Z Z Z ?_
   refine af Z Z Z Z Z Z ?_
   refine aH Z Z Z Z Z ?_
   refine aH Z Z Z Z Z ?_
   refine af Z Z Z Z Z Z ?_
   refine vV (al Z Z Z Z) Z (ae (aj Z Z (ag (ac (vA Z Z (vA Z Z (ae (ap ?_))))))))
   cases H13
   have H14:=Option.some.inj (show some _ = some _ from H)
   cases H14
   refine vP [] Z Z ?_
   exact bw (vs:=[I 0,B0]) Z ⟨rfl,⟨rfl,trivial⟩⟩ _ Z ⟨rfl,rfl⟩
  refine aa (aq Z) Z Z Z (bd c139) Z Z ?_
  refine aa (fE Z Tryd.underlying9) Z Z Z (bd c139) Z Z ?_
  refine aa (an Z Z (eh _ _ _)) Z Z Z (bd c139) Z Z ?_
  refine aa (aq Z) Z Z Z (bd c139) Z Z ?_
  refine eO H13 (fun c140 H13=>?_) fun c140 H13=>?_
  ·refine af Z Z Z (dF c140) Z Z ?_
   refine af Z Z Z (dF c140) Z Z ?_
   refine af Z Z Z (dF c140) Z Z ?_
   refine aa (al Z Z Z (aN (dF c140))) Z Z Z (bd c139) Z Z ?_
   refine vV (al Z Z Z (aN (bd c139))) Z (vM Z Z ?_)
   refine aa (aq Z) Z Z Z Z Z Z ?_
   refine aa (aq Z) Z Z Z Z Z Z ?_
   refine eO H13 (fun c145 H13=>?_) fun c145 H13=>?_
   ·refine af Z Z Z (bF c145) Z Z ?_
    refine af Z Z Z (bF c145) Z Z ?_
    refine aa (al Z Z Z (aN (bF c145))) Z Z Z Z Z Z ?_
    refine vV (al Z Z Z Z) Z (ae (ak Z Z (aC ?_)))
    cases H13
    exact vF [] Z Z (vS [2,4,5] Z) fun a w h=>⟨_,rfl,h⟩
   refine aa (aq Z) Z Z Z c145 Z Z ?_
   refine aa (an Z Z (eE _ _)) Z Z Z c145 Z Z ?_
   refine aa (al Z Z Z (aK c145)) Z Z Z Z Z Z ?_
   refine vV (al Z Z Z Z) Z (ae ?_)
   refine eO H13 (fun c146 H13=>?_) fun c146 H13=>?_
   ·refine ak Z (bd c146) (aC ?_)
    cases H13
    exact vF [] Z Z (vS [2,4,5] Z) fun a w h=>⟨_,rfl,h⟩
   refine aj Z (aY c146) (ag (ac (vA Z Z (vA Z Z (ae (ap ?_))))))
   cases H13
   have H17:=Option.some.inj (show some _ = some _ from H)
   cases H17
   refine vP [] Z Z ?_
   exact bw (vs:=[I 0,B0]) Z ⟨rfl,⟨rfl,trivial⟩⟩ _ Z ⟨rfl,rfl⟩
  refine aa (aq Z) Z Z Z (dT c140) Z Z ?_
  obtain ⟨c141,H13⟩:=eL H13
  refine aa (dq Z Z Tryd.underlying9 (by decide) c141) Z Z Z (dT c140) Z Z ?_
  refine aa (an Z Z (be _ _ _)) Z Z Z (dT c140) Z Z ?_
  refine aa (al Z Z Z (aK (dT c140))) Z Z Z (bd c139) Z Z ?_
  refine vV (al Z Z Z (aN (bd c139))) Z (vM Z Z ?_)
  refine cy H13 (fun c142 H13=>?_) fun c142 H13=>?_
  ·refine af Z Z Z (aY c142) Z Z ?_
   refine af Z Z Z (aY c142) Z Z ?_
   refine aH Z Z Z Z Z ?_
   refine aH Z Z Z Z Z ?_
   refine af Z Z Z (aY c142) Z Z ?_
   refine vV (al Z Z Z (aK (aY c142))) Z (ae (aj Z Z (ag (ac (vA Z Z (vA Z Z (ae (ap ?_))))))))
   cases H13
   have H15:=Option.some.inj (show some _ = some _ from H)
   cases H15
   refine vP [] Z Z ?_
   exact bw (vs:=[I 0,B0]) Z ⟨rfl,⟨rfl,trivial⟩⟩ _ Z ⟨rfl,rfl⟩
  refine aa (aq Z) Z Z Z (bd c142) Z Z ?_
  refine aa (aq Z) Z Z Z (bd c142) Z Z ?_
  refine eO H13 (fun c143 H13=>?_) fun c143 H13=>?_
  ·refine af Z Z Z (bF c143) Z Z ?_
   refine af Z Z Z (bF c143) Z Z ?_
   refine aa (al Z Z Z (aN (bF c143))) Z Z Z (bd c142) Z Z ?_
   refine vV (al Z Z Z (aN (bd c142))) Z (ae (ak Z Z (aC ?_)))
   cases H13
   exact vF [] Z Z (vS [2,4,5] Z) fun a w h=>⟨_,rfl,h⟩
  refine aa (aq Z) Z Z Z c143 Z Z ?_
  refine aa (an Z Z (eE _ _)) Z Z Z c143 Z Z ?_
  refine aa (al Z Z Z (aK c143)) Z Z Z (bd c142) Z Z ?_
  refine vV (al Z Z Z (aN (bd c142))) Z (ae ?_)
  refine eO H13 (fun c144 H13=>?_) fun c144 H13=>?_
  ·refine ak Z (bd c144) (aC ?_)
   cases H13
   exact vF [] Z Z (vS [2,4,5] Z) fun a w h=>⟨_,rfl,h⟩
  refine aj Z (aY c144) (ag (ac (vA Z Z (vA Z Z (ae (ap ?_))))))
  cases H13
  have H16:=Option.some.inj (show some _ = some _ from H)
  cases H16
  refine vP [] Z Z ?_
  exact bw (vs:=[I 0,B0]) Z ⟨rfl,⟨rfl,trivial⟩⟩ _ Z ⟨rfl,rfl⟩
 ·refine aJ fun v3=>bX fun e_=>?_
  subst e_
  rw [jg] at H
  obtain ⟨x6,H19,H⟩:=oB H
  refine bY (fun a w=>∃ v4,x6 = Sum.inl v4 ∧ St 73 w0 F [(2,I v4),(5,bool x4.2)] [] a w) ?_ ?_
  ·refine ag (ac (vM Z Z ?_))
   obtain ⟨c202,H19⟩:=eL H19
   refine aL (uE Z Tryd.underlying9 dr Tryd.underlying5 c202) Z Z Z ?_
   rintro sv4 _ rfl
   refine vV (bQ 0 Z dr Z (kl 5)) Z (vM Z Z (ae (aO ?_)))
   refine cz (fun k a w=>∃ i11,∃ i12,gJ K x4 k i11 i12 = some x6 ∧ St 73 w0 F [(2,I i11),(5,bool x4.2),(34,sv4),(35,I ((dn x4.1).length:Int)),(36,I i12)] [(zk sv4 5 (dn x4.1).length (fl (eI .u8) (dn x4.1)))] a w) K ?_ ?_
   ·exact vF [0] Z Z (vS [2,5,34,35,36] Z) fun a w h=>⟨_,_,H19,h⟩
   ·refine fun k=>aJ fun i11=>aJ fun i12=>bX fun H20=>?_
    cases k with
    | zero=>exact absurd H20 (by simp [gJ])
    | succ k =>
     rw [gJ] at H20
     refine ag (ac (vV (an Z Z (cd _ _ _)) Z (ae (ag ?_))))
     refine eO H20 (fun c238 H20=>?_) fun c238 H20=>?_
     ·refine ak Z (dF c238) (bU ?_)
      cases H20
      exact vF [] Z Z (vS [2,5] Z) fun a w h=>⟨_,rfl,h⟩
     refine aj Z (dT c238) (aC (ag (aO (ag (ac ?_)))))
     obtain ⟨c248,H20⟩:=eL H20
     refine vV (bB (sz:=0) 0 Z Z dr iP Z (kl 5) c248 c238) Z ?_
     refine vV (aB (v:=(int .u8 ((dn x4.1).getD i12.toNat 0))) Z sA (cN (i:=0) Z (kl 5) (by simp) (dN (qo _) (bL c248 c238) Z))) Z ?_
     refine vA Z Z (ae (ag (ac (vM Z Z (vV (jD Z (oo Tryd.underlying5 Tryd.underlying2)) Z (vV (an Z Z (lC _ _ _) ) Z (vA Z Z (ae (ag (ag (ac ?_)))))))))))
     refine vM Z Z (vV (an Z Z (cd _ _ _)) Z (vM Z Z ?_))
     refine cy H20 (fun c253 H20=>?_) fun c253 H20=>?_
     ·refine af Z Z Z (dT c253) Z Z ?_
      refine af Z Z Z (dT c253) Z Z ?_
      refine vV (al Z Z Z (aK (dT c253))) Z (vM Z Z ?_)
      refine af Z Z Z Z Z Z ?_
      refine af Z Z Z Z Z Z ?_
      refine vV (al Z Z Z Z) Z (vM Z Z ?_)
      refine af Z Z Z Z Z Z ?_
      refine af Z Z Z Z Z Z ?_
      refine af Z Z Z Z Z Z ?_
      refine af Z Z Z Z Z Z ?_
      refine af Z Z Z Z Z Z ?_
      refine vV (al Z Z Z Z) Z (ae (aj Z Z (ag (ac (vA Z Z (vA Z Z (ae (ap ?_))))))))
      cases H20
      have H21:=Option.some.inj (show some _ = some _ from H)
      cases H21
      refine vP [] Z Z ?_
      exact bw (vs:=[I 0,B0]) Z ⟨rfl,⟨rfl,trivial⟩⟩ _ Z ⟨rfl,rfl⟩
     refine aa (aq Z) Z Z Z (dF c253) Z Z ?_
     refine aa (an Z Z (eh _ _ _)) Z Z Z (dF c253) Z Z ?_
     refine vV (al Z Z Z (aN (dF c253))) Z (vM Z Z ?_)
     refine cy H20 (fun c254 H20=>?_) fun c254 H20=>?_
     ·refine af Z Z Z (dT c254) Z Z ?_
      refine af Z Z Z (dT c254) Z Z ?_
      refine vV (al Z Z Z (aK (dT c254))) Z (vM Z Z ?_)
      refine af Z Z Z Z Z Z ?_
      refine af Z Z Z Z Z Z ?_
      refine af Z Z Z Z Z Z ?_
      refine af Z Z Z Z Z Z ?_
      refine af Z Z Z Z Z Z ?_
      refine vV (al Z Z Z Z) Z (ae (aj Z Z (ag (ac (vA Z Z (vA Z Z (ae (ap ?_))))))))
      cases H20
      have H22:=Option.some.inj (show some _ = some _ from H)
      cases H22
      refine vP [] Z Z ?_
      exact bw (vs:=[I 0,B0]) Z ⟨rfl,⟨rfl,trivial⟩⟩ _ Z ⟨rfl,rfl⟩
     refine aa (aq Z) Z Z Z (dF c254) Z Z ?_
     refine aa (an Z Z (cd _ _ _)) Z Z Z (dF c254) Z Z ?_
     refine vV (al Z Z Z (aN (dF c254))) Z (vM Z Z ?_)
     refine cy H20 (fun c255 H20=>?_) fun c255 H20=>?_
     ·refine af Z Z Z (dT c255) Z Z ?_
      refine af Z Z Z (dT c255) Z Z ?_
      refine af Z Z Z (dT c255) Z Z ?_
      refine af Z Z Z (dT c255) Z Z ?_
      refine af Z Z Z (dT c255) Z Z ?_
      refine vV (al Z Z Z (aK (dT c255))) Z (ae (aj Z Z (ag (ac (vA Z Z (vA Z Z (ae (ap ?_))))))))
      cases H20
      have H23:=Option.some.inj (show some _ = some _ from H)
      cases H23
      refine vP [] Z Z ?_
      exact bw (vs:=[I 0,B0]) Z ⟨rfl,⟨rfl,trivial⟩⟩ _ Z ⟨rfl,rfl⟩
     refine aa (aq Z) Z Z Z (dF c255) Z Z ?_
     refine aa (an Z Z (na _ _ _) ) Z Z Z (dF c255) Z Z ?_
     refine aa (aq Z) Z Z Z (dF c255) Z Z ?_
     refine aa (an Z Z (bG _ _ _) ) Z Z Z (dF c255) Z Z ?_
     refine aa (an Z Z (cd _ _ _)) Z Z Z (dF c255) Z Z ?_
     refine vV (al Z Z Z (aN (dF c255))) Z (ae ?_)
     refine cy H20 (fun c256 H20=>?_) fun c256 H20=>?_
     ·refine aj Z (dT c256) (ag (ac (vA Z Z (vA Z Z (ae (ap ?_))))))
      cases H20
      have H24:=Option.some.inj (show some _ = some _ from H)
      cases H24
      refine vP [] Z Z ?_
      exact bw (vs:=[I 0,B0]) Z ⟨rfl,⟨rfl,trivial⟩⟩ _ Z ⟨rfl,rfl⟩
     refine ak Z (dF c256) (aC (ac (vM Z Z (vV (an Z Z (na _ _ _) ) Z (vM Z Z (vV (an Z Z (lC _ _ _) ) Z (vA Z Z (ae (ac (vV (an Z Z (bG _ _ _) ) Z (vM Z Z ?_)))))))))))
     refine ae ?_
     exact vF [0] Z Z (vS [2,5,34,35,36] Z) fun a w h=>⟨k,Nat.lt_succ_self k,_,_,H20,h⟩
  ·refine aJ fun v4=>bX fun e_=>?_
   subst e_
   rw [jg] at H
   refine ag (aO (ag (ac (vM Z Z (vA Z Z (ae ?_))))))
   refine cy H (fun c259 H=>?_) fun c259 H=>?_
   ·refine aj Z c259 (ag (ac (vM Z Z (vA Z Z (vA Z Z (ae (ap ?_)))))))
    cases H
    refine vP [] Z Z ?_
    exact bw (vs:=[I v4,bool true]) Z ⟨rfl,⟨rfl,trivial⟩⟩ _ Z ⟨rfl,rfl⟩
   refine ak Z (bF c259) (ag (ac (vM Z Z (vV (an Z Z (be _ _ _)) Z (vA Z Z (ae ?_))))))
   refine cy H (fun c260 H=>?_) fun c260 H=>?_
   ·refine aj Z (aY c260) (ag (ac (vA Z Z (vA Z Z (ae (ap ?_))))))
    cases H
    refine vP [] Z Z ?_
    exact bw (vs:=[I 0,B0]) Z ⟨rfl,⟨rfl,trivial⟩⟩ _ Z ⟨rfl,rfl⟩
   refine ak Z (bd c260) (aC (ag (ac (vM Z Z (vV (gW Z (yA _ _)) Z (vA Z Z (vA Z Z (ae (ap ?_)))))))))
   cases H
   refine vP [] Z Z ?_
   exact bw (vs:=[I (bj (0 - v4)),bool true]) Z ⟨rfl,⟨rfl,trivial⟩⟩ _ Z ⟨rfl,rfl⟩
theorem aM.specM (K p0:Nat) (sv0:Value) (A0:HP) (l0:List (List UInt8)) (p0_1:Int) (hA0:cW A0 sv0 l0.length 1 (fl eS l0)) (r:Option ((List (List UInt8)) × Int)) (H:aM K l0 p0_1 = some r):me Tryd.prog 46 [pt p0 0] [box p0 72 [sv0,I p0_1],A0] (fun v M=>∃ y_,r = some y_ ∧ ∃ sv3:Value,cW A0 sv3 y_.1.length 1 (fl eS y_.1) ∧ v = (I y_.2) ∧ M = [box p0 72 [sv3,I p0_1],A0]) (r = none) mH:=by
 unfold aM at H
 refine kV Tryd.func46 Z 14 Z (nL Z) fun F w0=>?_
 show cJ (St 14 w0 F [(0,pt p0 0)] [box p0 72 [sv0,I p0_1],A0]) _
 refine ag (ac (vA Z Z (ae (ag (ac (vM Z Z ?_))))))
 obtain ⟨x11,h7,H⟩:=oB H
 cases x11 with
 | none =>
  rw [ew] at H
  refine bR (cu (Lr:=[]) (first:=[]) (cap:=[]) (xs:=[.tmp 6]) rfl rfl iY rfl (br.bad p0 sv0 A0 l0 p0_1 hA0 h7) [0,1] (by decide) rfl) (fun c e=>by cases e) rfl ?_
  cases H
  exact ca Z
 | some x10 =>
  rw [bN] at H
  refine aL (dD (Lr:=[]) (first:=[]) (cap:=[]) (xs:=[.tmp 6]) Z Z iY Z (br.spec p0 sv0 A0 l0 p0_1 hA0 _ h7) Z) Z Z Z ?_
  rintro _ _ ⟨_,⟨sv5,hr5,rfl,rfl⟩,rfl⟩
  obtain ⟨x12,h8,H⟩:=oB H
  refine aL (aV (first:=[]) (cap:=[]) (xs:=[.tmp 7]) Z Z yt Z (gb.spec K x10.2 _ h8)) Z Z Z ?_
  rintro _ _ ⟨rfl,rfl⟩
  refine vM Z Z (vV (bz Z Z) Z (vV (bz Z Z) Z (vA Z Z (vA Z Z (ae (ag (ac (vM Z Z ?_))))))))
  refine eO H (fun c4 H=>?_) fun c4 H=>?_
  ·refine bR (cu (Lr:=[box p0 72 [sv5,I p0_1],A0]) (first:=[]) (cap:=[]) (xs:=[.tmp 11]) rfl rfl cw rfl (words_must.bad _ (bF c4)) [0,1] (by decide) rfl) (fun c e=>by cases e) rfl ?_
   cases H
   exact ca Z
  refine aL (aV (first:=[]) (cap:=[]) (xs:=[.tmp 11]) Z Z cw Z (words_must.spec _ c4)) Z Z Z ?_
  rintro _ _ ⟨rfl,rfl⟩
  refine ae (ag (ac (vM Z Z (vA Z Z (ae (ap ?_))))))
  cases H
  refine jS ?_
  refine vP [0,1] Z Z ?_
  exact az Z Z ⟨_,rfl,_,hr5,rfl,rfl⟩
theorem aM.spec (K:Nat) (p0:Nat) (sv0:Value) (A0:HP) (l0:List (List UInt8)) (p0_1:Int) (hA0:cW A0 sv0 l0.length 1 (fl eS l0)) (r:((List (List UInt8)) × Int)) (H:aM K l0 p0_1 = some (some r)):bo Tryd.prog 46 [(pt p0 0)] [(box p0 72 [sv0,(int .i64 p0_1)]),A0] (fun v M=>∃ sv3:Value,cW A0 sv3 r.1.length 1 (fl eS r.1) ∧ v = (int .i64 r.2) ∧ M = [(box p0 72 [sv3,(int .i64 p0_1)]),A0]):=(aM.specM K p0 sv0 A0 l0 p0_1 hA0 _ H).ret (fun h=>by cases h) fun v M h=>by obtain ⟨y_,e,h⟩:=h; cases e; exact h
theorem aM.bad (K:Nat) (p0:Nat) (sv0:Value) (A0:HP) (l0:List (List UInt8)) (p0_1:Int) (hA0:cW A0 sv0 l0.length 1 (fl eS l0)) (H:aM K l0 p0_1 = some none):ma Tryd.prog 46 [(pt p0 0)] [(box p0 72 [sv0,(int .i64 p0_1)]),A0] mH:=(aM.specM K p0 sv0 A0 l0 p0_1 hA0 _ H).bad fun v M h=>by obtain ⟨y_,e,h⟩:=h; cases e
theorem aM.specs (K:Nat) (p0:Nat) (sv0:Value) (A0:HP) (l0:List (List UInt8)) (p0_1:Int) (hA0:cW A0 sv0 l0.length 1 (fl eS l0)) (r:((List (List UInt8)) × Int)) (H:aM K l0 p0_1 = some (some r)):bo Tryd.prog 46 [(pt p0 0)] [(box p0 72 [sv0,(int .i64 p0_1)]),A0] (fun v M=>∃ sv3:Value,v = (int .i64 r.2) ∧ M = [(says (cW A0 sv3 r.1.length 1 (fl eS r.1))),(box p0 72 [sv3,(int .i64 p0_1)]),A0]) :=
 bo.hideS (aM.spec K p0 sv0 A0 l0 p0_1 hA0 r H) (by rintro v M ⟨sv3,q0_,rfl,rfl⟩; exact ⟨_,⟨sv3,rfl,rfl⟩,fun w_ X_ h_=>(fu.saying q0_ h_)⟩)
theorem cG.specM (K p0:Nat) (sv0:Value) (A0:HP) (l0:List (List UInt8)) (p0_1:Int) (hA0:cW A0 sv0 l0.length 1 (fl eS l0)) (r:Option ((List aA) × (List (List UInt8)))) (H:cG K l0 p0_1 = some r):me Tryd.prog 43 [pt p0 0] [box p0 72 [sv0,I p0_1],A0] (fun v M=>∃ y_,r = some y_ ∧ ∃ sv263:Value,∃ sv264:Value,cW A0 sv264 y_.2.length 1 (fl eS y_.2) ∧ v = sv263 ∧ M = [box p0 72 [sv264,I p0_1],A0,own sv263 54 6 y_.1.length (fl av y_.1)]) (r = none) mH:=by
 unfold cG at H
 refine kV Tryd.func43 Z 53 Z (nL Z) fun F w0=>?_
 show cJ (St 53 w0 F [(0,pt p0 0)] [box p0 72 [sv0,I p0_1],A0]) _
 refine ag (ac (vA Z Z (ae (rJ (ag (ac (vM Z Z (vV (pm (first:=[.tmp 8]) (cap:=[]) Z Z) Z (vA Z Z (ae (ag ?_)))))))))))
 refine sa (ag (aO ?_))
 refine cz (fun k a w=>∃ l39,∃ l40,∃ sv439:Value,∃ sv440:Value,cW A0 sv439 l39.length 1 (fl eS l39) ∧ en K p0_1 k l39 l40 = some r ∧ St 53 w0 F [(0,pt p0 0),(2,sv440),(3,(Value.func (.func 68) #[pt p0 0] #[]))] [box p0 72 [sv439,I p0_1],A0,own sv440 54 6 l40.length (fl av l40)] a w) K ?_ ?_
 ·refine bc 54 6 ?_
  exact vF [1,2,0] Z Z (vS [0,2,3] Z) fun a w h=>⟨_,_,_,_,hA0,H,h⟩
 ·refine fun k=>aJ fun l39=>aJ fun l40=>aJ fun sv439=>aJ fun sv440=>bX fun hr395=>bX fun H59=>?_
  cases k with
  | zero=>exact absurd H59 (by simp [en])
  | succ k =>
   rw [en] at H59
   refine aO (ag (ag (ac (vM Z Z (vV (bf Z) Z (vV (am (sz:=0) (o:=0) Z cp dp) Z (vV (aB (v:=sv439) Z fe (au (i:=0) Z Z)) Z (vV (bQ 1 Z bx Z hr395) Z (vV (an Z Z (be _ _ _)) Z (ae ?_))))))))))
   refine cy H59 (fun c874 H59=>?_) fun c874 H59=>?_
   ·refine aj Z (aY c874) (bU (ag (ac (vM Z Z (vA Z Z (ae (ap ?_)))))))
    cases H59
    refine jS ?_
    refine vP [0,1,2] Z Z ?_
    exact az Z Z ⟨_,rfl,_,_,hr395,rfl,rfl⟩
   refine ak Z (bd c874) (aC (ag (ac (vM Z Z (vV (bQ 2 Z cv Z (aQ 54)) Z (vV (an Z Z (cd _ _ _)) Z ?_))))))
   refine eO H59 (fun c876 H59=>?_) fun c876 H59=>?_
   ·refine bR (cu (Lr:=[box p0 72 [sv439,I p0_1],A0,own sv440 54 6 l40.length (fl av l40)]) (first:=[]) (cap:=[]) (xs:=[.tmp 18]) rfl rfl cw rfl (words_must.bad _ (dF c876)) [0,1,2] (by decide) rfl) (fun c e=>by cases e) rfl ?_
    cases H59
    exact ca Z
   refine aL (aV (first:=[]) (cap:=[]) (xs:=[.tmp 18]) Z Z cw Z (words_must.spec _ (dT c876))) Z Z Z ?_
   rintro _ _ ⟨rfl,rfl⟩
   refine ae (ag (ac (vM Z Z ?_)))
   obtain ⟨x830,h421,H59⟩:=oB H59
   cases x830 with
   | none =>
    rw [ew] at H59
    refine bR (cu (Lr:=[own sv440 54 6 l40.length (fl av l40)]) (first:=[]) (cap:=[]) (xs:=[.tmp 21]) rfl rfl iY rfl (br.bad p0 sv439 A0 l39 p0_1 hr395 h421) [0,1,2] (by decide) rfl) (fun c e=>by cases e) rfl ?_
    cases H59
    exact ca Z
   | some x829 =>
    rw [bN] at H59
    refine aL (dD (Lr:=[own sv440 54 6 l40.length (fl av l40)]) (first:=[]) (cap:=[]) (xs:=[.tmp 21]) Z Z iY Z (br.spec p0 sv439 A0 l39 p0_1 hr395 _ h421) Z) Z Z Z ?_
    rintro _ _ ⟨_,⟨sv485,hr436,rfl,rfl⟩,rfl⟩
    obtain ⟨x831,h422,H59⟩:=oB H59
    refine aL (aV (first:=[]) (cap:=[]) (xs:=[.tmp 22]) Z Z ww Z (jV.spec K x829.2 _ h422)) Z Z Z ?_
    rintro _ _ ⟨rfl,rfl⟩
    refine vM Z Z (vV (bz Z Z) Z (vV (bz Z Z) Z (vA Z Z (vA Z Z (ae (ag (ac (vM Z Z ?_))))))))
    refine eO H59 (fun c878 H59=>?_) fun c878 H59=>?_
    ·refine bR (cu (Lr:=[box p0 72 [sv485,I p0_1],A0,own sv440 54 6 l40.length (fl av l40)]) (first:=[]) (cap:=[]) (xs:=[.tmp 26]) rfl rfl cw rfl (words_must.bad _ (bF c878)) [0,1,2] (by decide) rfl) (fun c e=>by cases e) rfl ?_
     cases H59
     exact ca Z
    refine aL (aV (first:=[]) (cap:=[]) (xs:=[.tmp 26]) Z Z cw Z (words_must.spec _ c878)) Z Z Z ?_
    rintro _ _ ⟨rfl,rfl⟩
    refine ae (ag (ac (vM Z Z (vV (bZ (is:=[0]) (xs:=[.tmp 28]) (vs:=[I x831.1]) Z Z (bl (cs:=[I x831.1,S0,S0,S0,S0]) ry pw Z)) Z ?_))))
    refine vV (bZ (is:=[0]) (xs:=[.tmp 29]) (vs:=[agg #[I x831.1,S0,S0,S0,S0]]) Z Z (bl (cs:=[I x831.1,S0,S0,S0,S0,I 0]) kb pq (by simp [Instr.fill,iB,gU,iE,gO,gq,iF,fx,iC,]))) Z ?_
    refine aL (cT kb) Z Z Z ?_
    rintro _ _ ⟨b35,rfl,rfl⟩
    refine bq (aZ (cs:=[I 0,S0,S0,S0,S0,I 0]) (cs':=[I x831.1,S0,S0,S0,S0,I 0]) (us:=[I x831.1,S0,S0,S0,S0,I 0]) (L':=[box b35 54 [I x831.1,S0,S0,S0,S0,I 0],box p0 72 [sv485,I p0_1],A0,own sv440 54 6 l40.length (fl av l40)]) 0 Z Z Z (bJ Z) dJ Z Z (by simp) Z) Z Z ?_
    rintro _ _ rfl
    refine ae ?_
    obtain ⟨x864,H61,H59⟩:=oB H59
    refine bY (fun a w=>∃ v12,x864 = Sum.inl v12 ∧ ∃ b36:Nat,∃ sv503:Value,cW A0 sv503 v12.1.length 1 (fl eS v12.1) ∧ St 53 w0 F [(0,pt p0 0),(2,sv440),(3,(Value.func (.func 68) #[pt p0 0] #[])),(6,pt b36 0)] [box p0 72 [sv503,I p0_1],A0,own sv440 54 6 l40.length (fl av l40),box b36 54 [I x831.1,ay v12.2.1,ay v12.2.2.1,ay v12.2.2.2.1,ay v12.2.2.2.2,I 0]] a w) ?_ ?_
    ·refine ag (ac (vM Z Z (vV (bf Z) Z (vV (am (sz:=0) (o:=0) Z fC bH) Z (vV (aB (v:=(I p0_1)) Z ck (au (i:=1) Z Z)) Z (vM Z Z (ae (aO ?_))))))))
     refine cz (fun k a w=>∃ i26,∃ l46,∃ t141,∃ t142,∃ t143,∃ t144,∃ sv508:Value,cW A0 sv508 l46.length 1 (fl eS l46) ∧ db K p0_1 k i26 l46 t141 t142 t143 t144 = some x864 ∧ St 53 w0 F [(0,pt p0 0),(2,sv440),(3,(Value.func (.func 68) #[pt p0 0] #[])),(6,pt b35 0),(34,I p0_1),(35,I i26)] [box p0 72 [sv508,I p0_1],A0,own sv440 54 6 l40.length (fl av l40),box b35 54 [I x831.1,ay t141,ay t142,ay t143,ay t144,I 0]] a w) K ?_ ?_
     ·exact vF [1,2,3,0] Z Z (vS [0,2,3,6,34,35] Z) fun a w h=>⟨_,_,_,_,_,_,_,hr436,H61,h⟩
     ·refine fun k=>aJ fun i26=>aJ fun l46=>aJ fun t141=>aJ fun t142=>aJ fun t143=>aJ fun t144=>aJ fun sv508=>bX fun hr459=>bX fun H62=>?_
      let C0_:List Value:=[I x831.1,ay t141,ay t142,ay t143,ay t144,I 0]
      let C2_:List HP:=[own sv440 54 6 l40.length (fl av l40),box b35 54 C0_]
      cases k with
      | zero=>exact absurd H62 (by simp [C0_,C2_,db])
      | succ k =>
       rw [db] at H62
       refine ag (ac (vV (an Z Z (cd _ _ _)) Z (ae (ag ?_))))
       refine eO H62 (fun c942 H62=>?_) fun c942 H62=>?_
       ·refine ak Z (dF c942) (bU ?_)
        cases H62
        exact vF [0,1,2,3] Z Z (vS [0,2,3,6] Z) fun a w h=>⟨_,rfl,_,_,hr459,h⟩
       refine aj Z (dT c942) (aC (ag (aO (ag (ac (vM Z Z (vA Z Z (ae (ac (vM Z Z (vM Z Z ?_)))))))))))
       obtain ⟨x896,h454,H62⟩:=oB H62
       cases x896 with
       | none =>
        rw [ew] at H62
        refine bR (cu (Lr:=C2_) (first:=[pt p0 0]) (cap:=[]) (xs:=[]) rfl rfl rK rfl (cB.bad K p0 sv508 A0 l46 p0_1 hr459 h454) [0,1,2,3] (by decide) rfl) (fun c e=>by cases e) rfl ?_
        cases H62
        have H64:=Option.some.inj (show some _ = some _ from H59)
        cases H64
        exact ca Z
       | some x895 =>
        rw [bN] at H62
        refine aL (dD (Lr:=C2_) (first:=[pt p0 0]) (cap:=[]) (xs:=[]) Z Z rK Z (cB.spec K p0 sv508 A0 l46 p0_1 hr459 _ h454) Z) Z Z Z ?_
        rintro _ _ ⟨_,⟨sv520,hr471,rfl,rfl⟩,rfl⟩
        refine vV (am (sz:=4) (o:=0) Z fS gR) Z (vV (am (sz:=3) (o:=0) Z jB ep) Z ?_)
        obtain ⟨c949,H62⟩:=eL H62
        obtain ⟨c950,H62⟩:=eL H62
        refine vV (bt (o:=1) Z Z eM cg c949 c950) Z ?_
        refine bq (ka (cs:=C0_) (cs':=[I x831.1,ay (if i26.toNat = 0 then x895.2 else t141),ay (if i26.toNat = 1 then x895.2 else t142),ay (if i26.toNat = 2 then x895.2 else t143),ay (if i26.toNat = 3 then x895.2 else t144),I 0]) (us:=[ay x895.2]) (L':=[box p0 72 [sv520,I p0_1],A0,own sv440 54 6 l40.length (fl av l40),box b35 54 [I x831.1,ay (if i26.toNat = 0 then x895.2 else t141),ay (if i26.toNat = 1 then x895.2 else t142),ay (if i26.toNat = 2 then x895.2 else t143),ay (if i26.toNat = 3 then x895.2 else t144),I 0]]) 3 Z Z Z (kU Z) cg Z (iQ (fun i_=>List.take (1 + i_ * 1) C0_ ++ [ay x895.2] ++ List.drop (1 + i_ * 1 + List.length [ay x895.2]) C0_ = [I x831.1,ay (if i_ = 0 then x895.2 else t141),ay (if i_ = 1 then x895.2 else t142),ay (if i_ = 2 then x895.2 else t143),ay (if i_ = 3 then x895.2 else t144),I 0]) (bL c949 c950) Z Z Z Z) (iQ (fun i_=>1 + i_ * 1 + List.length [ay x895.2] ≤ List.length C0_) (bL c949 c950) (nL Z) (nL Z) (nL Z) (nL Z)) Z) Z Z ?_
        rintro _ _ rfl
        refine ae (ac (vV (an Z Z (bG _ _ _) ) Z (vM Z Z (ae ?_))))
        exact vF [0,1,2,3] Z Z (vS [0,2,3,6,34,35] Z) fun a w h=>⟨k,Nat.lt_succ_self k,_,_,_,_,_,_,_,hr471,H62,h⟩
    ·refine aJ fun v12=>bX fun e_=>?_
     let C1_:List Value:=[I x831.1,ay v12.2.1,ay v12.2.2.1,ay v12.2.2.2.1,ay v12.2.2.2.2,I 0]
     subst e_
     rw [jg] at H59
     refine aJ fun b36=>aJ fun sv503=>bX fun hr454=>?_
     let C3_:List HP:=[own sv440 54 6 l40.length (fl av l40),box b36 54 C1_]
     refine ag (ac (vM Z Z ?_))
     obtain ⟨x900,h456,H59⟩:=oB H59
     cases x900 with
     | none =>
      rw [ew] at H59
      refine bR (cu (Lr:=C3_) (first:=[]) (cap:=[]) (xs:=[.tmp 45]) rfl rfl eo rfl (aM.bad K p0 sv503 A0 v12.1 p0_1 hr454 h456) [0,1,2,3] (by decide) rfl) (fun c e=>by cases e) rfl ?_
      cases H59
      exact ca Z
     | some x899 =>
      rw [bN] at H59
      refine aL (dD (Lr:=C3_) (first:=[]) (cap:=[]) (xs:=[.tmp 45]) Z Z eo Z (aM.spec K p0 sv503 A0 v12.1 p0_1 hr454 _ h456) Z) Z Z Z ?_
      rintro _ _ ⟨_,⟨sv522,hr473,rfl,rfl⟩,rfl⟩
      refine vV (am (sz:=0) (o:=0) Z jH aT) Z ?_
      refine bq (aZ (cs:=C1_) (cs':=[I x831.1,ay v12.2.1,ay v12.2.2.1,ay v12.2.2.2.1,ay v12.2.2.2.2,I x899.2]) (us:=[I x899.2]) (L':=[box p0 72 [sv522,I p0_1],A0,own sv440 54 6 l40.length (fl av l40),box b36 54 [I x831.1,ay v12.2.1,ay v12.2.2.1,ay v12.2.2.2.1,ay v12.2.2.2.2,I x899.2]]) 3 Z Z Z (bJ Z) aT Z Z (by simp [C1_,C3_]) Z) Z Z ?_
      rintro _ _ rfl
      refine ae (ac (vM Z Z (vV (aP (vs:=[I x831.1,ay v12.2.1,ay v12.2.2.1,ay v12.2.2.2.1,ay v12.2.2.2.2,I x899.2]) Z kS dJ (aR (i:=3) Z)) Z ?_)))
      refine aL (bP (sz:=5) (xs:=[.tmp 49]) (cs:=fl av [(⟨(⟨x831.1,v12.2.1,v12.2.2.1,v12.2.2.2.1,v12.2.2.2.2⟩:iV),x899.2⟩:aA)]) Z Z cv dJ kb Z Z (dW Z) Z (by decide)) Z Z Z ?_
      rintro sv525 _ rfl
      obtain ⟨c952,H59⟩:=eL H59
      refine aL (iN (sz:=5) (xs:=l40) (ys:=[(⟨(⟨x831.1,v12.2.1,v12.2.2.1,v12.2.2.2.1,v12.2.2.2.2⟩:iV),x899.2⟩:aA)]) 3 0 Z Z cv dJ kb Z qL Z Z Z (aQ 54) Z ml c952) Z Z Z ?_
      rintro sv526 _ rfl
      refine gL [own sv525 54 6 [(⟨(⟨x831.1,v12.2.1,v12.2.2.1,v12.2.2.2.1,v12.2.2.2.2⟩:iV),x899.2⟩:aA)].length (fl av [(⟨(⟨x831.1,v12.2.1,v12.2.2.1,v12.2.2.2.1,v12.2.2.2.2⟩:iV),x899.2⟩:aA)]),box p0 72 [sv522,I p0_1],A0,own sv526 54 6 (l40 ++ [(⟨(⟨x831.1,v12.2.1,v12.2.2.1,v12.2.2.2.1,v12.2.2.2.2⟩:iV),x899.2⟩:aA)]).length (fl av (l40 ++ [(⟨(⟨x831.1,v12.2.1,v12.2.2.1,v12.2.2.2.1,v12.2.2.2.2⟩:iV),x899.2⟩:aA)])),box b36 54 [I x831.1,ay v12.2.1,ay v12.2.2.1,ay v12.2.2.2.1,ay v12.2.2.2.2,I x899.2]] Z ?_
      refine vA Z Z (ae ?_)
      exact vF [1,2,3] Z Z (vS [0,2,3] Z) fun a w h=>⟨k,Nat.lt_succ_self k,_,_,_,_,hr473,H59,h⟩
theorem cG.spec (K:Nat) (p0:Nat) (sv0:Value) (A0:HP) (l0:List (List UInt8)) (p0_1:Int) (hA0:cW A0 sv0 l0.length 1 (fl eS l0)) (r:((List aA) × (List (List UInt8)))) (H:cG K l0 p0_1 = some (some r)):bo Tryd.prog 43 [(pt p0 0)] [(box p0 72 [sv0,(int .i64 p0_1)]),A0] (fun v M=>∃ sv263:Value,∃ sv264:Value,cW A0 sv264 r.2.length 1 (fl eS r.2) ∧ v = sv263 ∧ M = [(box p0 72 [sv264,(int .i64 p0_1)]),A0,(own sv263 54 6 r.1.length (fl av r.1))]):=(cG.specM K p0 sv0 A0 l0 p0_1 hA0 _ H).ret (fun h=>by cases h) fun v M h=>by obtain ⟨y_,e,h⟩:=h; cases e; exact h
theorem cG.bad (K:Nat) (p0:Nat) (sv0:Value) (A0:HP) (l0:List (List UInt8)) (p0_1:Int) (hA0:cW A0 sv0 l0.length 1 (fl eS l0)) (H:cG K l0 p0_1 = some none):ma Tryd.prog 43 [(pt p0 0)] [(box p0 72 [sv0,(int .i64 p0_1)]),A0] mH:=(cG.specM K p0 sv0 A0 l0 p0_1 hA0 _ H).bad fun v M h=>by obtain ⟨y_,e,h⟩:=h; cases e
theorem jm.spec (sv0:Value) (l0:List aA) (r:(Int × Int × Int × Int × Bool × Bool × Bool × Bool × Bool × Bool × Bool × Bool × (List UInt8) × (List UInt8) × (List UInt8) × (List UInt8) × Int × Int × Int × Int × Int × Int × Int × Int × Int)) (H:jm l0 = r):bo Tryd.prog 70 [agg #[I 1,I 0,sv0,I 0,I 0,B0,B0,B0,B0,B0,B0,B0,B0,S0,S0,S0,S0,I 0,I 0,I 0,I 0,I 0,I 0,I 0,I 0,I 0,L0]] [own sv0 54 6 l0.length (fl av l0)] (fun v M=>v = (agg #[I r.1,I r.2.1,L0,I r.2.2.1,I r.2.2.2.1,bool r.2.2.2.2.1,bool r.2.2.2.2.2.1,bool r.2.2.2.2.2.2.1,bool r.2.2.2.2.2.2.2.1,bool r.2.2.2.2.2.2.2.2.1,bool r.2.2.2.2.2.2.2.2.2.1,bool r.2.2.2.2.2.2.2.2.2.2.1,bool r.2.2.2.2.2.2.2.2.2.2.2.1,ay r.2.2.2.2.2.2.2.2.2.2.2.2.1,ay r.2.2.2.2.2.2.2.2.2.2.2.2.2.1,ay r.2.2.2.2.2.2.2.2.2.2.2.2.2.2.1,ay r.2.2.2.2.2.2.2.2.2.2.2.2.2.2.2.1,I r.2.2.2.2.2.2.2.2.2.2.2.2.2.2.2.2.1,I r.2.2.2.2.2.2.2.2.2.2.2.2.2.2.2.2.2.1,I r.2.2.2.2.2.2.2.2.2.2.2.2.2.2.2.2.2.2.1,I r.2.2.2.2.2.2.2.2.2.2.2.2.2.2.2.2.2.2.2.1,I r.2.2.2.2.2.2.2.2.2.2.2.2.2.2.2.2.2.2.2.2.1,I r.2.2.2.2.2.2.2.2.2.2.2.2.2.2.2.2.2.2.2.2.2.1,I r.2.2.2.2.2.2.2.2.2.2.2.2.2.2.2.2.2.2.2.2.2.2.1,I r.2.2.2.2.2.2.2.2.2.2.2.2.2.2.2.2.2.2.2.2.2.2.2.1,I r.2.2.2.2.2.2.2.2.2.2.2.2.2.2.2.2.2.2.2.2.2.2.2.2,L0]) ∧ M = [own sv0 54 6 l0.length (fl av l0)]):=by
 unfold jm at H
 refine bC Tryd.func70 Z 26 Z (nL Z) fun F w0=>?_
 let C2_:List Value:=[I 0,I 0,L0,I 0,I 0,B0,B0,B0,B0,B0,B0,B0,B0,S0,S0,S0,S0,I 0,I 0,I 0,I 0,I 0,I 0,I 0,I 0,I 0,L0]
 let C1_:List Value:=[I 1,I 0,sv0,I 0,I 0,B0,B0,B0,B0,B0,B0,B0,B0,S0,S0,S0,S0,I 0,I 0,I 0,I 0,I 0,I 0,I 0,I 0,I 0,L0]
 let C0_:List Value:=[I 1,I 0,L0,I 0,I 0,B0,B0,B0,B0,B0,B0,B0,B0,S0,S0,S0,S0,I 0,I 0,I 0,I 0,I 0,I 0,I 0,I 0,I 0,L0]
 show cJ (St 26 w0 F [(0,agg #[I 1,I 0,sv0,I 0,I 0,B0,B0,B0,B0,B0,B0,B0,B0,S0,S0,S0,S0,I 0,I 0,I 0,I 0,I 0,I 0,I 0,I 0,I 0,L0])] [own sv0 54 6 l0.length (fl av l0)]) _
 refine ag (ac ?_)
 refine aL (gQ (cs:=C1_) Z Z) Z Z Z ?_
 rintro _ _ ⟨b3,rfl,rfl⟩
 refine aL (cT bv) Z Z Z ?_
 rintro _ _ ⟨b4,rfl,rfl⟩
 refine ae (ag (ag (ac (vV (am (sz:=0) (o:=0) Z bD bH) Z (vV (aB (v:=(I 1)) Z ck (au (i:=1) Z Z)) Z (ae (aO (ag (ac (vV (an Z Z (be _ _ _)) Z (vA Z Z ?_)))))))))))
 refine ae (aj Z Z (ac (vV (am (sz:=0) (o:=0) Z dZ fH) Z ?_)))
 refine bq (aZ (cs:=C1_) (cs':=C0_) (us:=[L0]) (L':=[box b4 41 C2_,box b3 41 C0_,own sv0 54 6 l0.length (fl av l0)]) 1 Z Z Z (bJ Z) fH Z Z (by simp [C2_,C1_,C0_]) Z) Z Z ?_
 rintro _ _ rfl
 refine ae (ag (ac (vV (aP (vs:=C0_) Z bi aG (aR (i:=1) Z)) Z ?_)))
 refine bq (aZ (cs:=C2_) (cs':=C0_) (us:=C0_) (L':=[box b4 41 C0_,box b3 41 C0_,own sv0 54 6 l0.length (fl av l0)]) 0 Z Z Z (bJ Z) aG Z Z (by simp [C2_,C1_,C0_]) Z) Z Z ?_
 rintro _ _ rfl
 refine ae (ap ?_)
 subst H
 exact cZ [2] (by decide) Z (vs:=[agg #[I 1,I 0,L0,I 0,I 0,B0,B0,B0,B0,B0,B0,B0,B0,S0,S0,S0,S0,I 0,I 0,I 0,I 0,I 0,I 0,I 0,I 0,I 0,L0]]) Z ⟨⟨_,C0_,rfl,aR (i:=0) Z,.inl ⟨bi,aG,rfl⟩⟩,trivial⟩ _ Z ⟨rfl,rfl⟩
theorem du.spec (K:Nat) (sv0:Value) (A0:HP) (sv1:Value) (A1:HP) (l0:List aA) (l1:List aA) (hA0:cW A0 sv0 l0.length 6 (fl av l0)) (hA1:cW A1 sv1 l1.length 6 (fl av l1)) (r:Bool) (H:du K l0 l1 = some r):bo Tryd.prog 88 [sv0,sv1] [A0,A1] (fun v M=>v = (bool r) ∧ M = [A0,A1]):=by
 unfold du at H
 refine bC Tryd.func88 Z 26 Z (nL Z) fun F w0=>?_
 show cJ (St 26 w0 F [(0,sv0),(1,sv1)] [A0,A1]) _
 refine ag (ac (vA Z Z (ae (ag (ag (ac (vM Z Z (vV (bQ 0 Z cv Z hA0) Z (vM Z Z (vV (bQ 1 Z cv Z hA1) Z (vV (an Z Z (ku _ _ _)) Z ?_)))))))))))
 refine ae ?_
 refine cy H (fun c48 H=>?_) fun c48 H=>?_
 ·refine aj Z (iO c48) (ag (ac (vA Z Z (ae (ap ?_)))))
  cases H
  refine vP [0,1] Z Z ?_
  exact az Z Z ⟨rfl,rfl⟩
 refine ak Z (iS c48) (aC (ag (ag (ac (vM Z Z (vV (bQ 0 Z cv Z hA0) Z (vM Z Z (ae (aO ?_)))))))))
 refine cz (fun k a w=>∃ i4,dc K l0 l1 k i4 = some r ∧ St 26 w0 F [(0,sv0),(1,sv1),(12,I (l0.length:Int)),(13,I i4)] [A0,A1] a w) K ?_ ?_
 ·exact vF [0,1] Z Z (vS [0,1,12,13] Z) fun a w h=>⟨_,H,h⟩
 ·refine fun k=>aJ fun i4=>bX fun H4=>?_
  let C1_:Value:=agg #[I (((l1.getD i4.toNat ax).Key).Hour),ay (((l1.getD i4.toNat ax).Key).Dims_0),ay (((l1.getD i4.toNat ax).Key).Dims_1),ay (((l1.getD i4.toNat ax).Key).Dims_2),ay (((l1.getD i4.toNat ax).Key).Dims_3),I ((l1.getD i4.toNat ax).Value)]
  let C0_:Value:=agg #[I (((l0.getD i4.toNat ax).Key).Hour),ay (((l0.getD i4.toNat ax).Key).Dims_0),ay (((l0.getD i4.toNat ax).Key).Dims_1),ay (((l0.getD i4.toNat ax).Key).Dims_2),ay (((l0.getD i4.toNat ax).Key).Dims_3),I ((l0.getD i4.toNat ax).Value)]
  cases k with
  | zero=>exact absurd H4 (by simp [C1_,C0_,dc])
  | succ k =>
   rw [dc] at H4
   refine ag (ac (vV (an Z Z (cd _ _ _)) Z (ae (ag ?_))))
   refine eO H4 (fun c86 H4=>?_) fun c86 H4=>?_
   ·refine ak Z (dF c86) (bU (ag (ac (vA Z Z (ae (ap ?_))))))
    cases H4
    refine vP [0,1] Z Z ?_
    exact az Z Z ⟨rfl,rfl⟩
   refine aj Z (dT c86) (aC (ag (aO (ag (ac (vM Z Z (vA Z Z (ae (ag ?_)))))))))
   obtain ⟨c90,H4⟩:=eL H4
   obtain ⟨c91,H4⟩:=eL H4
   refine cA 9 Z (fun D a w=>kF 26 w0 F [(0,sv0),(1,sv1),(5,I i4),(12,I (l0.length:Int)),(13,I i4),(14,Value.bool (decide (i4 < (l0.length:Int)))),(15,I i4)] [(0,16,sv0),(1,17,I i4),(2,18,(kq sv0 (i4.toNat * 6))),(3,19,C0_),(4,20,sv1),(5,21,I i4),(6,22,(kq sv1 (i4.toNat * 6))),(7,23,C1_),(8,24,bool (!((((((l0.getD i4.toNat ax).Key).Hour) == (((l1.getD i4.toNat ax).Key).Hour)) && ((((((l0.getD i4.toNat ax).Key).Dims_0) == (((l1.getD i4.toNat ax).Key).Dims_0)) && (((((l0.getD i4.toNat ax).Key).Dims_1) == (((l1.getD i4.toNat ax).Key).Dims_1)) && (((((l0.getD i4.toNat ax).Key).Dims_2) == (((l1.getD i4.toNat ax).Key).Dims_2)) && (((((l0.getD i4.toNat ax).Key).Dims_3) == (((l1.getD i4.toNat ax).Key).Dims_3)) && true)))) && true)) && ((((l0.getD i4.toNat ax).Value) == ((l1.getD i4.toNat ax).Value)) && true))))] D [A0,A1] a w) (by kernel_rfl) (by kernel_rfl) (cH (vS [0,1,5,12,13,14,15] Z) Z) ?_ ?_
   ·refine ⟨?_,?_,?_,?_,?_,?_,?_,?_,?_,trivial⟩
    ·exact fun D hi hc U=>dV 0 Z Z Z Z (fun a=>ah) (aq Z) Z Z Z Z
    ·exact fun D hi hc U=>dV 1 Z Z Z Z (fun a=>ah) (aq Z) Z Z Z Z
    ·exact fun D hi hc U=>dV 2 Z Z Z Z (fun a=>(hD 1 U Z Z Z Z (hD 0 U Z Z Z Z ah))) (bB (sz:=5) 0 Z Z cv dJ Z hA0 c90 c86) Z Z Z Z
    ·exact fun D hi hc U=>dV 3 Z Z Z Z (fun a=>(hD 2 U Z Z Z Z ah)) (aP (vs:=[I (((l0.getD i4.toNat ax).Key).Hour),ay (((l0.getD i4.toNat ax).Key).Dims_0),ay (((l0.getD i4.toNat ax).Key).Dims_1),ay (((l0.getD i4.toNat ax).Key).Dims_2),ay (((l0.getD i4.toNat ax).Key).Dims_3),I ((l0.getD i4.toNat ax).Value)]) Z kS dJ (cN (i:=0) Z hA0 (by simp [C1_,C0_]) (dN bS (bL c90 c86) Z))) Z Z Z Z
    ·exact fun D hi hc U=>dV 4 Z Z Z Z (fun a=>ah) (aq Z) Z Z Z Z
    ·exact fun D hi hc U=>dV 5 Z Z Z Z (fun a=>ah) (aq Z) Z Z Z Z
    ·exact fun D hi hc U=>dV 6 Z Z Z Z (fun a=>(hD 5 U Z Z Z Z (hD 4 U Z Z Z Z ah))) (bB (sz:=5) 1 Z Z cv dJ Z hA1 c90 c91) Z Z Z Z
    ·exact fun D hi hc U=>dV 7 Z Z Z Z (fun a=>(hD 6 U Z Z Z Z ah)) (aP (vs:=[I (((l1.getD i4.toNat ax).Key).Hour),ay (((l1.getD i4.toNat ax).Key).Dims_0),ay (((l1.getD i4.toNat ax).Key).Dims_1),ay (((l1.getD i4.toNat ax).Key).Dims_2),ay (((l1.getD i4.toNat ax).Key).Dims_3),I ((l1.getD i4.toNat ax).Value)]) Z kS dJ (cN (i:=1) Z hA1 (by simp [C1_,C0_]) (dN bS (bL c90 c91) Z))) Z Z Z Z
    ·exact fun D hi hc U=>dV 8 Z Z Z Z (fun a=>(hD 7 U Z Z Z Z (hD 3 U Z Z Z Z ah))) (an Z Z (rg _ _ _ _ _ _ _ _ _ _ _ _)) Z Z Z Z
   ·intro D hall
    refine cR [A0,A1] Z (hL hall Z) ?_
    refine cy H4 (fun c92 H4=>?_) fun c92 H4=>?_
    ·refine aj Z c92 (ag (ac (vA Z Z (ae (ap ?_)))))
     cases H4
     refine vP [0,1] Z Z ?_
     exact az Z Z ⟨rfl,rfl⟩
    refine ak Z (bF c92) (aC (ac (vV (an Z Z (bG _ _ _) ) Z (vM Z Z (ae ?_)))))
    exact vF [0,1] Z Z (vS [0,1,12,13] Z) fun a w h=>⟨k,Nat.lt_succ_self k,_,H4,h⟩
theorem eU.spec (K:Nat) (sv0:Value) (A0:HP) (sv1:Value) (A1:HP) (l0:List Bool) (l1:List Bool) (hA0:cW A0 sv0 l0.length 1 (fl eB l0)) (hA1:cW A1 sv1 l1.length 1 (fl eB l1)) (r:Bool) (H:eU K l0 l1 = some r):bo Tryd.prog 89 [sv0,sv1] [A0,A1] (fun v M=>v = (bool r) ∧ M = [A0,A1]):=by
 unfold eU at H
 refine bC Tryd.func89 Z 26 Z (nL Z) fun F w0=>?_
 show cJ (St 26 w0 F [(0,sv0),(1,sv1)] [A0,A1]) _
 refine ag (ac (vA Z Z (ae (ag (ag (ac (vM Z Z (vV (bQ 0 Z ce Z hA0) Z (vM Z Z (vV (bQ 1 Z ce Z hA1) Z (vV (an Z Z (ku _ _ _)) Z ?_)))))))))))
 refine ae ?_
 refine cy H (fun c48 H=>?_) fun c48 H=>?_
 ·refine aj Z (iO c48) (ag (ac (vA Z Z (ae (ap ?_)))))
  cases H
  refine vP [0,1] Z Z ?_
  exact az Z Z ⟨rfl,rfl⟩
 refine ak Z (iS c48) (aC (ag (ag (ac (vM Z Z (vV (bQ 0 Z ce Z hA0) Z (vM Z Z (ae (aO ?_)))))))))
 refine cz (fun k a w=>∃ i4,eC K l0 l1 k i4 = some r ∧ St 26 w0 F [(0,sv0),(1,sv1),(12,I (l0.length:Int)),(13,I i4)] [A0,A1] a w) K ?_ ?_
 ·exact vF [0,1] Z Z (vS [0,1,12,13] Z) fun a w h=>⟨_,H,h⟩
 ·refine fun k=>aJ fun i4=>bX fun H4=>?_
  cases k with
  | zero=>exact absurd H4 (by simp [eC])
  | succ k =>
   rw [eC] at H4
   refine ag (ac (vV (an Z Z (cd _ _ _)) Z (ae (ag ?_))))
   refine eO H4 (fun c86 H4=>?_) fun c86 H4=>?_
   ·refine ak Z (dF c86) (bU (ag (ac (vA Z Z (ae (ap ?_))))))
    cases H4
    refine vP [0,1] Z Z ?_
    exact az Z Z ⟨rfl,rfl⟩
   refine aj Z (dT c86) (aC (ag (aO (ag (ac (vM Z Z (vA Z Z (ae (ag ?_)))))))))
   obtain ⟨c90,H4⟩:=eL H4
   obtain ⟨c91,H4⟩:=eL H4
   refine cA 9 Z (fun D a w=>kF 26 w0 F [(0,sv0),(1,sv1),(5,I i4),(12,I (l0.length:Int)),(13,I i4),(14,Value.bool (decide (i4 < (l0.length:Int)))),(15,I i4)] [(0,16,sv0),(1,17,I i4),(2,18,(kq sv0 (i4.toNat * 1))),(3,19,bool (l0.getD i4.toNat false)),(4,20,sv1),(5,21,I i4),(6,22,(kq sv1 (i4.toNat * 1))),(7,23,bool (l1.getD i4.toNat false)),(8,24,bool ((l0.getD i4.toNat false) != (l1.getD i4.toNat false)))] D [A0,A1] a w) (by kernel_rfl) (by kernel_rfl) (cH (vS [0,1,5,12,13,14,15] Z) Z) ?_ ?_
   ·refine ⟨?_,?_,?_,?_,?_,?_,?_,?_,?_,trivial⟩
    ·exact fun D hi hc U=>dV 0 Z Z Z Z (fun a=>ah) (aq Z) Z Z Z Z
    ·exact fun D hi hc U=>dV 1 Z Z Z Z (fun a=>ah) (aq Z) Z Z Z Z
    ·exact fun D hi hc U=>dV 2 Z Z Z Z (fun a=>(hD 1 U Z Z Z Z (hD 0 U Z Z Z Z ah))) (bB (sz:=0) 0 Z Z ce dE Z hA0 c90 c86) Z Z Z Z
    ·exact fun D hi hc U=>dV 3 Z Z Z Z (fun a=>(hD 2 U Z Z Z Z ah)) (aB (v:=(bool (l0.getD i4.toNat false))) Z cX (cN (i:=0) Z hA0 (by simp) (dN kI (bL c90 c86) Z))) Z Z Z Z
    ·exact fun D hi hc U=>dV 4 Z Z Z Z (fun a=>ah) (aq Z) Z Z Z Z
    ·exact fun D hi hc U=>dV 5 Z Z Z Z (fun a=>ah) (aq Z) Z Z Z Z
    ·exact fun D hi hc U=>dV 6 Z Z Z Z (fun a=>(hD 5 U Z Z Z Z (hD 4 U Z Z Z Z ah))) (bB (sz:=0) 1 Z Z ce dE Z hA1 c90 c91) Z Z Z Z
    ·exact fun D hi hc U=>dV 7 Z Z Z Z (fun a=>(hD 6 U Z Z Z Z ah)) (aB (v:=(bool (l1.getD i4.toNat false))) Z cX (cN (i:=1) Z hA1 (by simp) (dN kI (bL c90 c91) Z))) Z Z Z Z
    ·exact fun D hi hc U=>dV 8 Z Z Z Z (fun a=>(hD 7 U Z Z Z Z (hD 3 U Z Z Z Z ah))) (an Z Z (pT Tryd.underlying4 _ _)) Z Z Z Z
   ·intro D hall
    refine cR [A0,A1] Z (hL hall Z) ?_
    refine cy H4 (fun c92 H4=>?_) fun c92 H4=>?_
    ·refine aj Z c92 (ag (ac (vA Z Z (ae (ap ?_)))))
     cases H4
     refine vP [0,1] Z Z ?_
     exact az Z Z ⟨rfl,rfl⟩
    refine ak Z (bF c92) (aC (ac (vV (an Z Z (bG _ _ _) ) Z (vM Z Z (ae ?_)))))
    exact vF [0,1] Z Z (vS [0,1,12,13] Z) fun a w h=>⟨k,Nat.lt_succ_self k,_,H4,h⟩
theorem iM.spec (K:Nat) (sv0:Value) (A0:HP) (sv1 sv2:Value) (A2:HP) (sv3:Value) (a0_0 a0_1:Int) (l0:List aA) (a0_3 a0_4:Int) (a0_5 a0_6:Bool) (a0_7 a0_8:Bool) (a0_9 a0_10:Bool) (a0_11 a0_12:Bool) (a0_13:List UInt8) (a0_14:List UInt8) (a0_15:List UInt8) (a0_16:List UInt8) (a0_17 a0_18:Int) (a0_19 a0_20:Int) (a0_21 a0_22:Int) (a0_23 a0_24 a0_25:Int) (l1:List Bool) (a1_0 a1_1:Int) (l2:List aA) (a1_3 a1_4:Int) (a1_5 a1_6:Bool) (a1_7 a1_8:Bool) (a1_9 a1_10:Bool) (a1_11 a1_12:Bool) (a1_13:List UInt8) (a1_14:List UInt8) (a1_15:List UInt8) (a1_16:List UInt8) (a1_17 a1_18:Int) (a1_19 a1_20:Int) (a1_21 a1_22:Int) (a1_23 a1_24 a1_25:Int) (l3:List Bool) (hA0:cW A0 sv0 l0.length 6 (fl av l0)) (hA1:cW A0 sv1 l1.length 1 (fl eB l1)) (hA2:cW A2 sv2 l2.length 6 (fl av l2)) (hA3:cW A2 sv3 l3.length 1 (fl eB l3)) (r:Bool) (H:iM K a0_0 a0_1 l0 a0_3 a0_4 a0_5 a0_6 a0_7 a0_8 a0_9 a0_10 a0_11 a0_12 a0_13 a0_14 a0_15 a0_16 a0_17 a0_18 a0_19 a0_20 a0_21 a0_22 a0_23 a0_24 a0_25 l1 a1_0 a1_1 l2 a1_3 a1_4 a1_5 a1_6 a1_7 a1_8 a1_9 a1_10 a1_11 a1_12 a1_13 a1_14 a1_15 a1_16 a1_17 a1_18 a1_19 a1_20 a1_21 a1_22 a1_23 a1_24 a1_25 l3 = some r):bo Tryd.prog 87 [agg #[I a0_0,I a0_1,sv0,I a0_3,I a0_4,bool a0_5,bool a0_6,bool a0_7,bool a0_8,bool a0_9,bool a0_10,bool a0_11,bool a0_12,ay a0_13,ay a0_14,ay a0_15,ay a0_16,I a0_17,I a0_18,I a0_19,I a0_20,I a0_21,I a0_22,I a0_23,I a0_24,I a0_25,sv1],agg #[I a1_0,I a1_1,sv2,I a1_3,I a1_4,bool a1_5,bool a1_6,bool a1_7,bool a1_8,bool a1_9,bool a1_10,bool a1_11,bool a1_12,ay a1_13,ay a1_14,ay a1_15,ay a1_16,I a1_17,I a1_18,I a1_19,I a1_20,I a1_21,I a1_22,I a1_23,I a1_24,I a1_25,sv3]] [A0,A2] (fun v M=>v = (bool r) ∧ M = [A0,A2]):=by
 unfold iM at H
 refine bC Tryd.func87 Z 45 Z (nL Z) fun F w0=>?_
 let C2_:List Value:=[I a1_0,I a1_1,sv2,I a1_3,I a1_4,bool a1_5,bool a1_6,bool a1_7,bool a1_8,bool a1_9,bool a1_10,bool a1_11,bool a1_12,ay a1_13,ay a1_14,ay a1_15,ay a1_16,I a1_17,I a1_18,I a1_19,I a1_20,I a1_21,I a1_22,I a1_23,I a1_24,I a1_25,sv3]
 let C1_:List Value:=[I a0_0,I a0_1,sv0,I a0_3,I a0_4,bool a0_5,bool a0_6,bool a0_7,bool a0_8,bool a0_9,bool a0_10,bool a0_11,bool a0_12,ay a0_13,ay a0_14,ay a0_15,ay a0_16,I a0_17,I a0_18,I a0_19,I a0_20,I a0_21,I a0_22,I a0_23,I a0_24,I a0_25,sv1]
 show cJ (St 45 w0 F [(0,agg #[I a0_0,I a0_1,sv0,I a0_3,I a0_4,bool a0_5,bool a0_6,bool a0_7,bool a0_8,bool a0_9,bool a0_10,bool a0_11,bool a0_12,ay a0_13,ay a0_14,ay a0_15,ay a0_16,I a0_17,I a0_18,I a0_19,I a0_20,I a0_21,I a0_22,I a0_23,I a0_24,I a0_25,sv1]),(1,agg #[I a1_0,I a1_1,sv2,I a1_3,I a1_4,bool a1_5,bool a1_6,bool a1_7,bool a1_8,bool a1_9,bool a1_10,bool a1_11,bool a1_12,ay a1_13,ay a1_14,ay a1_15,ay a1_16,I a1_17,I a1_18,I a1_19,I a1_20,I a1_21,I a1_22,I a1_23,I a1_24,I a1_25,sv3])] [A0,A2]) _
 refine ag (ac ?_)
 refine aL (gQ (cs:=C1_) Z Z) Z Z Z ?_
 rintro _ _ ⟨b3,rfl,rfl⟩
 refine aL (gQ (cs:=C2_) Z Z) Z Z Z ?_
 rintro _ _ ⟨b4,rfl,rfl⟩
 let C0_:List HP:=[box b4 41 C2_,box b3 41 C1_]
 refine vA Z Z (ae (ag (ac (vV (am (sz:=0) (o:=0) Z bD bH) Z (vV (aB (v:=(I a0_0)) Z ck (au (i:=1) Z Z)) Z (vV (am (sz:=0) (o:=0) Z bD bH) Z (vV (aB (v:=(I a1_0)) Z ck (au (i:=0) Z Z)) Z (vV (an Z Z (be _ _ _)) Z (vM Z Z ?_)))))))))
 refine eO H (fun c6 H=>?_) fun c6 H=>?_
 ·refine af Z Z Z (bd c6) Z Z ?_
  refine af Z Z Z (bd c6) Z Z ?_
  refine af Z Z Z (bd c6) Z Z ?_
  refine af Z Z Z (bd c6) Z Z ?_
  refine af Z Z Z (bd c6) Z Z ?_
  refine vV (al Z Z Z (aN (bd c6))) Z (vM Z Z ?_)
  refine af Z Z Z Z Z Z ?_
  refine af Z Z Z Z Z Z ?_
  refine af Z Z Z Z Z Z ?_
  refine af Z Z Z Z Z Z ?_
  refine af Z Z Z Z Z Z ?_
  refine vV (al Z Z Z Z) Z (vM Z Z ?_)
  refine af Z Z Z Z Z Z ?_
  refine af Z Z Z Z Z Z ?_
  refine af Z Z Z Z Z Z ?_
  refine af Z Z Z Z Z Z ?_
  refine af Z Z Z Z Z Z ?_
  refine vV (al Z Z Z Z) Z (vM Z Z ?_)
  refine af Z Z Z Z Z Z ?_
  refine af Z Z Z Z Z Z ?_
  refine af Z Z Z Z Z Z ?_
  refine af Z Z Z Z Z Z ?_
  refine af Z Z Z Z Z Z ?_
  refine vV (al Z Z Z Z) Z (vM Z Z ?_)
  refine af Z Z Z Z Z Z ?_
  refine af Z Z Z Z Z Z ?_
  refine af Z Z Z Z Z Z ?_
  refine af Z Z Z Z Z Z ?_
  refine af Z Z Z Z Z Z ?_
  refine vV (al Z Z Z Z) Z (vA Z Z (ae (ap ?_)))
  cases H
  refine vP [2,3] Z Z ?_
  exact az Z Z ⟨rfl,rfl⟩
 refine aa (am (sz:=0) (o:=0) Z fA aT) Z Z Z (aY c6) Z Z ?_
 refine aa (aB (v:=(I a0_1)) Z aX (au (i:=1) Z Z)) Z Z Z (aY c6) Z Z ?_
 refine aa (am (sz:=0) (o:=0) Z fA aT) Z Z Z (aY c6) Z Z ?_
 refine aa (aB (v:=(I a1_1)) Z aX (au (i:=0) Z Z)) Z Z Z (aY c6) Z Z ?_
 refine aa (an Z Z (be _ _ _)) Z Z Z (aY c6) Z Z ?_
 refine vV (al Z Z Z (aK (aY c6))) Z (vM Z Z ?_)
 refine eO H (fun c7 H=>?_) fun c7 H=>?_
 ·refine af Z Z Z (bd c7) Z Z ?_
  refine af Z Z Z (bd c7) Z Z ?_
  refine af Z Z Z (bd c7) Z Z ?_
  refine af Z Z Z (bd c7) Z Z ?_
  refine af Z Z Z (bd c7) Z Z ?_
  refine vV (al Z Z Z (aN (bd c7))) Z (vM Z Z ?_)
  refine af Z Z Z Z Z Z ?_
  refine af Z Z Z Z Z Z ?_
  refine af Z Z Z Z Z Z ?_
  refine af Z Z Z Z Z Z ?_
  refine af Z Z Z Z Z Z ?_
  refine vV (al Z Z Z Z) Z (vM Z Z ?_)
  refine af Z Z Z Z Z Z ?_
  refine af Z Z Z Z Z Z ?_
  refine af Z Z Z Z Z Z ?_
  refine af Z Z Z Z Z Z ?_
  refine af Z Z Z Z Z Z ?_
  refine vV (al Z Z Z Z) Z (vM Z Z ?_)
  refine af Z Z Z Z Z Z ?_
  refine af Z Z Z Z Z Z ?_
  refine af Z Z Z Z Z Z ?_
  refine af Z Z Z Z Z Z ?_
  refine af Z Z Z Z Z Z ?_
  refine vV (al Z Z Z Z) Z (vA Z Z (ae (ap ?_)))
  cases H
  refine vP [2,3] Z Z ?_
  exact az Z Z ⟨rfl,rfl⟩
 refine aa (am (sz:=13) (o:=0) Z fG cK) Z Z Z (aY c7) Z Z ?_
 refine aa (aP (vs:=[I a0_3,I a0_4,bool a0_5,bool a0_6,bool a0_7,bool a0_8,bool a0_9,bool a0_10,bool a0_11,bool a0_12,ay a0_13,ay a0_14,ay a0_15,ay a0_16]) Z hJ cK (dC (i:=1) Z Z)) Z Z Z (aY c7) Z Z ?_
 refine aa (am (sz:=13) (o:=0) Z fG cK) Z Z Z (aY c7) Z Z ?_
 refine aa (aP (vs:=[I a1_3,I a1_4,bool a1_5,bool a1_6,bool a1_7,bool a1_8,bool a1_9,bool a1_10,bool a1_11,bool a1_12,ay a1_13,ay a1_14,ay a1_15,ay a1_16]) Z hJ cK (dC (i:=0) Z Z)) Z Z Z (aY c7) Z Z ?_
 refine aa (an Z Z (sN _ _ _ _ _ _ _ _ _ _ _ _ _ _ _ _ _ _ _ _ _ _ _ _ _ _ _ _)) Z Z Z (aY c7) Z Z ?_
 refine vV (al Z Z Z (aK (aY c7))) Z (vM Z Z ?_)
 refine eO H (fun c8 H=>?_) fun c8 H=>?_
 ·refine af Z Z Z (bF c8) Z Z ?_
  refine af Z Z Z (bF c8) Z Z ?_
  refine af Z Z Z (bF c8) Z Z ?_
  refine af Z Z Z (bF c8) Z Z ?_
  refine af Z Z Z (bF c8) Z Z ?_
  refine vV (al Z Z Z (aN (bF c8))) Z (vM Z Z ?_)
  refine af Z Z Z Z Z Z ?_
  refine af Z Z Z Z Z Z ?_
  refine af Z Z Z Z Z Z ?_
  refine af Z Z Z Z Z Z ?_
  refine af Z Z Z Z Z Z ?_
  refine vV (al Z Z Z Z) Z (vM Z Z ?_)
  refine af Z Z Z Z Z Z ?_
  refine af Z Z Z Z Z Z ?_
  refine af Z Z Z Z Z Z ?_
  refine af Z Z Z Z Z Z ?_
  refine af Z Z Z Z Z Z ?_
  refine vV (al Z Z Z Z) Z (vA Z Z (ae (ap ?_)))
  cases H
  refine vP [2,3] Z Z ?_
  exact az Z Z ⟨rfl,rfl⟩
 refine aa (am (sz:=8) (o:=0) Z eT di) Z Z Z c8 Z Z ?_
 refine aa (aP (vs:=[I a0_17,I a0_18,I a0_19,I a0_20,I a0_21,I a0_22,I a0_23,I a0_24,I a0_25]) Z jr di (dC (i:=1) Z Z)) Z Z Z c8 Z Z ?_
 refine aa (am (sz:=8) (o:=0) Z eT di) Z Z Z c8 Z Z ?_
 refine aa (aP (vs:=[I a1_17,I a1_18,I a1_19,I a1_20,I a1_21,I a1_22,I a1_23,I a1_24,I a1_25]) Z jr di (dC (i:=0) Z Z)) Z Z Z c8 Z Z ?_
 refine aa (an Z Z (ov _ _ _ _ _ _ _ _ _ _ _ _ _ _ _ _ _ _)) Z Z Z c8 Z Z ?_
 refine vV (al Z Z Z (aK c8)) Z (vM Z Z ?_)
 refine eO H (fun c9 H=>?_) fun c9 H=>?_
 ·refine af Z Z Z (bF c9) Z Z ?_
  refine af Z Z Z (bF c9) Z Z ?_
  refine af Z Z Z (bF c9) Z Z ?_
  refine af Z Z Z (bF c9) Z Z ?_
  refine af Z Z Z (bF c9) Z Z ?_
  refine vV (al Z Z Z (aN (bF c9))) Z (vM Z Z ?_)
  refine af Z Z Z Z Z Z ?_
  refine af Z Z Z Z Z Z ?_
  refine af Z Z Z Z Z Z ?_
  refine af Z Z Z Z Z Z ?_
  refine af Z Z Z Z Z Z ?_
  refine vV (al Z Z Z Z) Z (vA Z Z (ae (ap ?_)))
  cases H
  refine vP [2,3] Z Z ?_
  exact az Z Z ⟨rfl,rfl⟩
 refine aa (am (sz:=0) (o:=0) Z dZ fH) Z Z Z c9 Z Z ?_
 refine aa (aB (v:=sv0) Z hZ (au (i:=1) Z Z)) Z Z Z c9 Z Z ?_
 refine aa (am (sz:=0) (o:=0) Z dZ fH) Z Z Z c9 Z Z ?_
 refine aa (aB (v:=sv2) Z hZ (au (i:=0) Z Z)) Z Z Z c9 Z Z ?_
 obtain ⟨x3,h3,H⟩:=oB H
 refine cx (bu (Lr:=C0_) [2,3,0,1] [2,3,0,1] (first:=[]) (cap:=[]) (xs:=[.tmp 33,.tmp 35]) Z Z wR Z (du.spec K sv0 A0 sv2 A2 l0 l2 hA0 hA2 _ h3) (by decide) Z (by decide) Z) Z Z Z c9 Z Z ?_
 rintro _ _ ⟨rfl,rfl⟩
 refine vV (al Z Z Z (aK c9)) Z (vM Z Z ?_)
 refine eO H (fun c10 H=>?_) fun c10 H=>?_
 ·refine af Z Z Z (bF c10) Z Z ?_
  refine af Z Z Z (bF c10) Z Z ?_
  refine af Z Z Z (bF c10) Z Z ?_
  refine af Z Z Z (bF c10) Z Z ?_
  refine af Z Z Z (bF c10) Z Z ?_
  refine vV (al Z Z Z (aN (bF c10))) Z (vA Z Z (ae (ap ?_)))
  cases H
  refine vP [2,3] Z Z ?_
  exact az Z Z ⟨rfl,rfl⟩
 refine aa (am (sz:=0) (o:=0) Z bW cL) Z Z Z c10 Z Z ?_
 refine aa (aB (v:=sv1) Z ez (au (i:=1) Z Z)) Z Z Z c10 Z Z ?_
 refine aa (am (sz:=0) (o:=0) Z bW cL) Z Z Z c10 Z Z ?_
 refine aa (aB (v:=sv3) Z ez (au (i:=0) Z Z)) Z Z Z c10 Z Z ?_
 obtain ⟨x4,h4,H⟩:=oB H
 refine cx (bu (Lr:=C0_) [2,3,0,1] [2,3,0,1] (first:=[]) (cap:=[]) (xs:=[.tmp 40,.tmp 42]) Z Z xa Z (eU.spec K sv1 A0 sv3 A2 l1 l3 hA1 hA3 _ h4) (by decide) Z (by decide) Z) Z Z Z c10 Z Z ?_
 rintro _ _ ⟨rfl,rfl⟩
 refine vV (al Z Z Z (aK c10)) Z (vA Z Z (ae (ap ?_)))
 cases H
 refine vP [2,3] Z Z ?_
 exact az Z Z ⟨rfl,rfl⟩
theorem bK.spec (K:Nat) (sv0 sv1:JM) (l0:List aD) (l1:List aD) (r:Bool) (H:bK K l0 l1 = some r):bo Tryd.prog 86 [sv0.sv,sv1.sv,(Value.func (.func 87) #[] #[])] [(df sv0 41 27 ar aF l0),(df sv1 41 27 ar aF l1)] (fun v M=>v = (bool r) ∧ M = [(df sv0 41 27 ar aF l0),(df sv1 41 27 ar aF l1)]):=by
 unfold bK at H
 refine bC Tryd.func86 Z 32 Z (nL Z) fun F w0=>?_
 let C2_:List Value:=[I 0,I 0,L0,I 0,I 0,B0,B0,B0,B0,B0,B0,B0,B0,S0,S0,S0,S0,I 0,I 0,I 0,I 0,I 0,I 0,I 0,I 0,I 0,L0]
 show cJ (St 32 w0 F [(0,sv0.sv),(1,sv1.sv),(2,(Value.func (.func 87) #[] #[]))] [(df sv0 41 27 ar aF l0),(df sv1 41 27 ar aF l1)]) _
 refine ag (ac (vA Z Z (ae (ag (ag (ac (vM Z Z (vV (bQ 0 Z cS Z fV) Z (vM Z Z (vV (bQ 1 Z cS Z fV) Z (vV (an Z Z (ku _ _ _)) Z ?_)))))))))))
 refine ae ?_
 refine cy H (fun c48 H=>?_) fun c48 H=>?_
 ·refine aj Z (iO c48) (ag (ac (vA Z Z (ae (ap ?_)))))
  cases H
  refine vP [0,1] Z Z ?_
  exact az Z Z ⟨rfl,rfl⟩
 refine ak Z (iS c48) (aC (ag (ag (ac (vM Z Z (vV (bQ 0 Z cS Z fV) Z (vM Z Z (ae (aO ?_)))))))))
 refine cz (fun k a w=>∃ i4,bI K l0 l1 k i4 = some r ∧ St 32 w0 F [(1,sv1.sv),(2,(Value.func (.func 87) #[] #[])),(15,sv0.sv),(16,I (l0.length:Int)),(17,I i4)] [(df sv0 41 27 ar aF l0),(df sv1 41 27 ar aF l1)] a w) K ?_ ?_
 ·exact vF [0,1] Z Z (vS [1,2,15,16,17] Z) fun a w h=>⟨_,H,h⟩
 ·refine fun k=>aJ fun i4=>bX fun H4=>?_
  let C1_:List Value:=[I ((l1.getD i4.toNat ai).Kind),I ((l1.getD i4.toNat ai).N),(sv1.vs i4.toNat 0),I (((l1.getD i4.toNat ai).Query).From),I (((l1.getD i4.toNat ai).Query).To),bool (((l1.getD i4.toNat ai).Query).Group_0),bool (((l1.getD i4.toNat ai).Query).Group_1),bool (((l1.getD i4.toNat ai).Query).Group_2),bool (((l1.getD i4.toNat ai).Query).Group_3),bool (((l1.getD i4.toNat ai).Query).Has_0),bool (((l1.getD i4.toNat ai).Query).Has_1),bool (((l1.getD i4.toNat ai).Query).Has_2),bool (((l1.getD i4.toNat ai).Query).Has_3),ay (((l1.getD i4.toNat ai).Query).Filter_0),ay (((l1.getD i4.toNat ai).Query).Filter_1),ay (((l1.getD i4.toNat ai).Query).Filter_2),ay (((l1.getD i4.toNat ai).Query).Filter_3),I (((l1.getD i4.toNat ai).Rules).Retain),I (((l1.getD i4.toNat ai).Rules).SealLag),I (((l1.getD i4.toNat ai).Rules).DayLag),I (((l1.getD i4.toNat ai).Rules).MonthLag),I (((l1.getD i4.toNat ai).Rules).ColdLag),I (((l1.getD i4.toNat ai).Rules).Base),I (((l1.getD i4.toNat ai).Rules).Cap),I (((l1.getD i4.toNat ai).Rules).Queue),I (((l1.getD i4.toNat ai).Rules).Wal),(sv1.vs i4.toNat 1)]
  let C0_:List Value:=[I ((l0.getD i4.toNat ai).Kind),I ((l0.getD i4.toNat ai).N),(sv0.vs i4.toNat 0),I (((l0.getD i4.toNat ai).Query).From),I (((l0.getD i4.toNat ai).Query).To),bool (((l0.getD i4.toNat ai).Query).Group_0),bool (((l0.getD i4.toNat ai).Query).Group_1),bool (((l0.getD i4.toNat ai).Query).Group_2),bool (((l0.getD i4.toNat ai).Query).Group_3),bool (((l0.getD i4.toNat ai).Query).Has_0),bool (((l0.getD i4.toNat ai).Query).Has_1),bool (((l0.getD i4.toNat ai).Query).Has_2),bool (((l0.getD i4.toNat ai).Query).Has_3),ay (((l0.getD i4.toNat ai).Query).Filter_0),ay (((l0.getD i4.toNat ai).Query).Filter_1),ay (((l0.getD i4.toNat ai).Query).Filter_2),ay (((l0.getD i4.toNat ai).Query).Filter_3),I (((l0.getD i4.toNat ai).Rules).Retain),I (((l0.getD i4.toNat ai).Rules).SealLag),I (((l0.getD i4.toNat ai).Rules).DayLag),I (((l0.getD i4.toNat ai).Rules).MonthLag),I (((l0.getD i4.toNat ai).Rules).ColdLag),I (((l0.getD i4.toNat ai).Rules).Base),I (((l0.getD i4.toNat ai).Rules).Cap),I (((l0.getD i4.toNat ai).Rules).Queue),I (((l0.getD i4.toNat ai).Rules).Wal),(sv0.vs i4.toNat 1)]
  cases k with
  | zero=>exact absurd H4 (by simp [C2_,C1_,C0_,bI])
  | succ k =>
   rw [bI] at H4
   refine ag (ac (vV (an Z Z (cd _ _ _)) Z (ae (ag ?_))))
   refine eO H4 (fun c86 H4=>?_) fun c86 H4=>?_
   ·refine ak Z (dF c86) (bU (ag (ac (vA Z Z (ae (ap ?_))))))
    cases H4
    refine vP [0,1] Z Z ?_
    exact az Z Z ⟨rfl,rfl⟩
   refine aj Z (dT c86) (aC (ag (aO (ag (ac (vM Z Z ?_))))))
   obtain ⟨c90,H4⟩:=eL H4
   refine vV (bB (sz:=26) 0 Z Z cS aG Z fV c90 c86) Z ?_
   refine vV (aP (vs:=C0_) Z bi aG (cN (i:=0) Z fV (by simp [C2_,C1_,C0_]) (pL (z:=ai) kc (bL c90 c86) Z))) Z ?_
   refine aL (cT bv) Z Z Z ?_
   rintro _ _ ⟨b47,rfl,rfl⟩
   refine vA Z Z ?_
   refine bq (aZ (cs:=C2_) (cs':=C0_) (us:=C0_) (L':=[box b47 41 C0_,(df sv0 41 27 ar aF l0),(df sv1 41 27 ar aF l1)]) 0 Z Z Z (ao Z (ao Z (gP 1 Z (show cW _ _ ((l0.getD i4.toNat ai).Facts).length 6 (fl av ((l0.getD i4.toNat ai).Facts)) from fZ (z:=ai) (bL c90 c86) (fM 0 Z (eN _ _ _ _ _))) (ao Z (ao Z (ao Z (ao Z (ao Z (ao Z (ao Z (ao Z (ao Z (ao Z (ao Z (ao Z (ao Z (ao Z (ao Z (ao Z (ao Z (ao Z (ao Z (ao Z (ao Z (ao Z (ao Z (gP 1 Z (show cW _ _ ((l0.getD i4.toNat ai).Fails).length 1 (fl eB ((l0.getD i4.toNat ai).Fails)) from fZ (z:=ai) (bL c90 c86) (fM 1 Z (eN _ _ _ _ _))) jc))))))))))))))))))))))))))) aG Z Z (by simp [C2_,C1_,C0_]) Z) Z Z ?_
   rintro _ _ rfl
   refine ae (ag (ac (vM Z Z (vM Z Z ?_))))
   obtain ⟨c91,H4⟩:=eL H4
   refine vV (bB (sz:=26) 2 Z Z cS aG Z fV c90 c91) Z ?_
   refine vV (aP (vs:=C1_) Z bi aG (cN (i:=2) Z fV (by simp [C2_,C1_,C0_]) (pL (z:=ai) kc (bL c90 c91) Z))) Z ?_
   refine aL (cT bv) Z Z Z ?_
   rintro _ _ ⟨b48,rfl,rfl⟩
   refine bq (aZ (cs:=C2_) (cs':=C1_) (us:=C1_) (L':=[box b48 41 C1_,box b47 41 C0_,(df sv0 41 27 ar aF l0),(df sv1 41 27 ar aF l1)]) 0 Z Z Z (ao Z (ao Z (gP 3 Z (show cW _ _ ((l1.getD i4.toNat ai).Facts).length 6 (fl av ((l1.getD i4.toNat ai).Facts)) from fZ (z:=ai) (bL c90 c91) (fM 0 Z (eN _ _ _ _ _))) (ao Z (ao Z (ao Z (ao Z (ao Z (ao Z (ao Z (ao Z (ao Z (ao Z (ao Z (ao Z (ao Z (ao Z (ao Z (ao Z (ao Z (ao Z (ao Z (ao Z (ao Z (ao Z (ao Z (gP 3 Z (show cW _ _ ((l1.getD i4.toNat ai).Fails).length 1 (fl eB ((l1.getD i4.toNat ai).Fails)) from fZ (z:=ai) (bL c90 c91) (fM 1 Z (eN _ _ _ _ _))) jc))))))))))))))))))))))))))) aG Z Z (by simp [C2_,C1_,C0_]) Z) Z Z ?_
   rintro _ _ rfl
   refine ae (ag (ac (vM Z Z (vV (aP (vs:=C0_) Z bi aG (aR (i:=1) Z)) Z (vV (aP (vs:=C1_) Z bi aG (aR (i:=0) Z)) Z ?_)))))
   obtain ⟨x24,h24,H4⟩:=oB H4
   refine aL (bu (Lr:=[box b48 41 C1_,box b47 41 C0_]) [2,3,0,1] [2,3,0,1] (first:=[]) (cap:=[]) (xs:=[.tmp 27,.tmp 28]) Z Z xE Z (iM.spec K (sv0.vs i4.toNat 0) (df sv0 41 27 ar aF l0) (sv0.vs i4.toNat 1) (sv1.vs i4.toNat 0) (df sv1 41 27 ar aF l1) (sv1.vs i4.toNat 1) ((l0.getD i4.toNat ai).Kind) ((l0.getD i4.toNat ai).N) ((l0.getD i4.toNat ai).Facts) (((l0.getD i4.toNat ai).Query).From) (((l0.getD i4.toNat ai).Query).To) (((l0.getD i4.toNat ai).Query).Group_0) (((l0.getD i4.toNat ai).Query).Group_1) (((l0.getD i4.toNat ai).Query).Group_2) (((l0.getD i4.toNat ai).Query).Group_3) (((l0.getD i4.toNat ai).Query).Has_0) (((l0.getD i4.toNat ai).Query).Has_1) (((l0.getD i4.toNat ai).Query).Has_2) (((l0.getD i4.toNat ai).Query).Has_3) (((l0.getD i4.toNat ai).Query).Filter_0) (((l0.getD i4.toNat ai).Query).Filter_1) (((l0.getD i4.toNat ai).Query).Filter_2) (((l0.getD i4.toNat ai).Query).Filter_3) (((l0.getD i4.toNat ai).Rules).Retain) (((l0.getD i4.toNat ai).Rules).SealLag) (((l0.getD i4.toNat ai).Rules).DayLag) (((l0.getD i4.toNat ai).Rules).MonthLag) (((l0.getD i4.toNat ai).Rules).ColdLag) (((l0.getD i4.toNat ai).Rules).Base) (((l0.getD i4.toNat ai).Rules).Cap) (((l0.getD i4.toNat ai).Rules).Queue) (((l0.getD i4.toNat ai).Rules).Wal) ((l0.getD i4.toNat ai).Fails) ((l1.getD i4.toNat ai).Kind) ((l1.getD i4.toNat ai).N) ((l1.getD i4.toNat ai).Facts) (((l1.getD i4.toNat ai).Query).From) (((l1.getD i4.toNat ai).Query).To) (((l1.getD i4.toNat ai).Query).Group_0) (((l1.getD i4.toNat ai).Query).Group_1) (((l1.getD i4.toNat ai).Query).Group_2) (((l1.getD i4.toNat ai).Query).Group_3) (((l1.getD i4.toNat ai).Query).Has_0) (((l1.getD i4.toNat ai).Query).Has_1) (((l1.getD i4.toNat ai).Query).Has_2) (((l1.getD i4.toNat ai).Query).Has_3) (((l1.getD i4.toNat ai).Query).Filter_0) (((l1.getD i4.toNat ai).Query).Filter_1) (((l1.getD i4.toNat ai).Query).Filter_2) (((l1.getD i4.toNat ai).Query).Filter_3) (((l1.getD i4.toNat ai).Rules).Retain) (((l1.getD i4.toNat ai).Rules).SealLag) (((l1.getD i4.toNat ai).Rules).DayLag) (((l1.getD i4.toNat ai).Rules).MonthLag) (((l1.getD i4.toNat ai).Rules).ColdLag) (((l1.getD i4.toNat ai).Rules).Base) (((l1.getD i4.toNat ai).Rules).Cap) (((l1.getD i4.toNat ai).Rules).Queue) (((l1.getD i4.toNat ai).Rules).Wal) ((l1.getD i4.toNat ai).Fails) (show cW _ _ ((l0.getD i4.toNat ai).Facts).length 6 (fl av ((l0.getD i4.toNat ai).Facts)) from fZ (z:=ai) (bL c90 c86) (fM 0 Z (eN _ _ _ _ _))) (show cW _ _ ((l0.getD i4.toNat ai).Fails).length 1 (fl eB ((l0.getD i4.toNat ai).Fails)) from fZ (z:=ai) (bL c90 c86) (fM 1 Z (eN _ _ _ _ _))) (show cW _ _ ((l1.getD i4.toNat ai).Facts).length 6 (fl av ((l1.getD i4.toNat ai).Facts)) from fZ (z:=ai) (bL c90 c91) (fM 0 Z (eN _ _ _ _ _))) (show cW _ _ ((l1.getD i4.toNat ai).Fails).length 1 (fl eB ((l1.getD i4.toNat ai).Fails)) from fZ (z:=ai) (bL c90 c91) (fM 1 Z (eN _ _ _ _ _))) _ h24) (by decide) Z (by decide) Z) Z Z Z ?_
   rintro _ _ ⟨rfl,rfl⟩
   refine vV (gW Z (ia _)) Z (ae ?_)
   refine cy H4 (fun c92 H4=>?_) fun c92 H4=>?_
   ·refine aj Z c92 (ag (ac (vA Z Z (ae (ap ?_)))))
    cases H4
    refine vP [2,3] Z Z ?_
    exact az Z Z ⟨rfl,rfl⟩
   refine ak Z (bF c92) (aC (ac (vV (an Z Z (bG _ _ _) ) Z (vM Z Z (ae ?_)))))
   exact vF [2,3] Z Z (vS [1,2,15,16,17] Z) fun a w h=>⟨k,Nat.lt_succ_self k,_,H4,h⟩
theorem bT.spec (K:Nat) (sv0 sv1:JM) (l0:List aD) (l1:List aD) (r:Bool) (H:bT K l0 l1 = some r):bo Tryd.prog 71 [sv0.sv,sv1.sv] [(df sv0 41 27 ar aF l0),(df sv1 41 27 ar aF l1)] (fun v M=>v = (bool r) ∧ M = [(df sv0 41 27 ar aF l0),(df sv1 41 27 ar aF l1)]):=by
 unfold bT at H
 refine bC Tryd.func71 Z 8 Z (nL Z) fun F w0=>?_
 show cJ (St 8 w0 F [(0,sv0.sv),(1,sv1.sv)] [(df sv0 41 27 ar aF l0),(df sv1 41 27 ar aF l1)]) _
 refine ag (ac (vA Z Z (ae (ag (ac (vM Z Z (vM Z Z ?_)))))))
 obtain ⟨x2,h2,H⟩:=oB H
 refine aL (bu (Lr:=[]) [0,1] [0,1] (first:=[]) (cap:=[]) (xs:=[.tmp 5,.tmp 6,.func 87]) Z Z vZ Z (bK.spec K sv0 sv1 l0 l1 _ h2) (by decide) Z (by decide) Z) Z Z Z ?_
 rintro _ _ ⟨rfl,rfl⟩
 refine vA Z Z (ae (ap ?_))
 cases H
 refine vP [0,1] Z Z ?_
 exact az Z Z ⟨rfl,rfl⟩
theorem ju.spec (a0:Int) (r:Bool) (H:ju a0 = r):bo Tryd.prog 90 [I a0] [] (fun v M=>v = (bool r) ∧ M = []):=by
 unfold ju at H
 refine bC Tryd.func90 Z 9 Z (nL Z) fun F w0=>?_
 show cJ (St 9 w0 F [(0,I a0)] []) _
 refine ag (ac (vA Z Z (ae (ag (ac (vM Z Z (vV (an Z Z (iZ _ _ _)) Z (vM Z Z ?_))))))))
 refine eO H (fun c2 H=>?_) fun c2 H=>?_
 ·refine af Z Z Z (dF c2) Z Z ?_
  refine af Z Z Z (dF c2) Z Z ?_
  refine vV (al Z Z Z (aN (dF c2))) Z (vA Z Z (ae (ap ?_)))
  cases H
  refine vP [] Z Z ?_
  exact az Z Z ⟨rfl,rfl⟩
 refine aa (aq Z) Z Z Z (dT c2) Z Z ?_
 refine aa (an Z Z (ko _ _ _)) Z Z Z (dT c2) Z Z ?_
 refine vV (al Z Z Z (aK (dT c2))) Z (vA Z Z (ae (ap ?_)))
 cases H
 refine vP [] Z Z ?_
 exact az Z Z ⟨rfl,rfl⟩
theorem kA.spec (K:Nat) (a0_0:Int) (a0_1:List UInt8) (a0_2:List UInt8) (a0_3:List UInt8) (a0_4:List UInt8) (a0_5 a1 r:Int) (H:kA K a0_0 a0_1 a0_2 a0_3 a0_4 a0_5 a1 = some r):bo Tryd.prog 91 [agg #[I a0_0,ay a0_1,ay a0_2,ay a0_3,ay a0_4,I a0_5],I a1] [] (fun v M=>v = (I r) ∧ M = []):=by
 unfold kA at H
 refine bC Tryd.func91 Z 52 Z (nL Z) fun F w0=>?_
 show cJ (St 52 w0 F [(0,agg #[I a0_0,ay a0_1,ay a0_2,ay a0_3,ay a0_4,I a0_5]),(1,I a1)] []) _
 refine ag (ac ?_)
 refine aL (gQ (cs:=[I a0_0,ay a0_1,ay a0_2,ay a0_3,ay a0_4,I a0_5]) Z Z) Z Z Z ?_
 rintro _ _ ⟨b2,rfl,rfl⟩
 refine vA Z Z (ae (ag (aO (ag (ac (vM Z Z ?_))))))
 obtain ⟨x4,h4,H⟩:=bE H
 refine aL (aV (first:=[]) (cap:=[]) (xs:=[.tmp 8]) Z Z oQ Z (ju.spec a1 _ h4)) Z Z Z ?_
 rintro _ _ ⟨rfl,rfl⟩
 refine vV (gW Z (ia _)) Z (vA Z Z (ae ?_))
 refine cy H (fun c80 H=>?_) fun c80 H=>?_
 ·refine aj Z c80 (ag (ac (vA Z Z (ae (ap ?_)))))
  cases H
  refine vP [] Z Z ?_
  exact az Z Z ⟨rfl,rfl⟩
 refine ak Z (bF c80) (ag (ac (vV (am (sz:=4) (o:=0) Z fS gR) Z (vV (am (sz:=0) (o:=0) Z kf aT) Z (vV (aB (v:=(I a0_0)) Z aX (au (i:=0) Z Z)) Z (vV (an Z Z (cd _ _ _)) Z (vM Z Z ?_)))))))
 refine cy H (fun c81 H=>?_) fun c81 H=>?_
 ·refine af Z Z Z (dT c81) Z Z ?_
  refine af Z Z Z (dT c81) Z Z ?_
  refine af Z Z Z (dT c81) Z Z ?_
  refine af Z Z Z (dT c81) Z Z ?_
  refine vV (al Z Z Z (aK (dT c81))) Z (vM Z Z ?_)
  refine af Z Z Z Z Z Z ?_
  refine af Z Z Z Z Z Z ?_
  refine af Z Z Z Z Z Z ?_
  refine vV (al Z Z Z Z) Z (vM Z Z ?_)
  refine af Z Z Z Z Z Z ?_
  refine af Z Z Z Z Z Z ?_
  refine af Z Z Z Z Z Z ?_
  refine vV (al Z Z Z Z) Z (vA Z Z (ae (aj Z Z (ag (ac (vA Z Z (ae (ap ?_))))))))
  cases H
  refine vP [] Z Z ?_
  exact az Z Z ⟨rfl,rfl⟩
 refine aa (am (sz:=4) (o:=0) Z fS gR) Z Z Z (dF c81) Z Z ?_
 refine aa (am (sz:=0) (o:=0) Z kf aT) Z Z Z (dF c81) Z Z ?_
 refine aa (aB (v:=(I a0_0)) Z aX (au (i:=0) Z Z)) Z Z Z (dF c81) Z Z ?_
 refine aa (an Z Z (eh _ _ _)) Z Z Z (dF c81) Z Z ?_
 refine vV (al Z Z Z (aN (dF c81))) Z (vM Z Z ?_)
 refine cy H (fun c82 H=>?_) fun c82 H=>?_
 ·refine af Z Z Z (dT c82) Z Z ?_
  refine af Z Z Z (dT c82) Z Z ?_
  refine af Z Z Z (dT c82) Z Z ?_
  refine vV (al Z Z Z (aK (dT c82))) Z (vM Z Z ?_)
  refine af Z Z Z Z Z Z ?_
  refine af Z Z Z Z Z Z ?_
  refine af Z Z Z Z Z Z ?_
  refine vV (al Z Z Z Z) Z (vA Z Z (ae (aj Z Z (ag (ac (vA Z Z (ae (ap ?_))))))))
  cases H
  refine vP [] Z Z ?_
  exact az Z Z ⟨rfl,rfl⟩
 refine aa (am (sz:=0) (o:=0) Z jH aT) Z Z Z (dF c82) Z Z ?_
 refine aa (aB (v:=(I a0_5)) Z aX (au (i:=0) Z Z)) Z Z Z (dF c82) Z Z ?_
 refine aa (an Z Z (eh _ _ _)) Z Z Z (dF c82) Z Z ?_
 refine vV (al Z Z Z (aN (dF c82))) Z (vM Z Z ?_)
 refine cy H (fun c83 H=>?_) fun c83 H=>?_
 ·refine af Z Z Z (dT c83) Z Z ?_
  refine af Z Z Z (dT c83) Z Z ?_
  refine af Z Z Z (dT c83) Z Z ?_
  refine vV (al Z Z Z (aK (dT c83))) Z (vA Z Z (ae (aj Z Z (ag (ac (vA Z Z (ae (ap ?_))))))))
  cases H
  refine vP [] Z Z ?_
  exact az Z Z ⟨rfl,rfl⟩
 refine aa (am (sz:=0) (o:=0) Z jH aT) Z Z Z (dF c83) Z Z ?_
 refine aa (aB (v:=(I a0_5)) Z aX (au (i:=0) Z Z)) Z Z Z (dF c83) Z Z ?_
 refine aa (an Z Z (cd _ _ _)) Z Z Z (dF c83) Z Z ?_
 refine vV (al Z Z Z (aN (dF c83))) Z (vA Z Z (ae ?_))
 refine cy H (fun c84 H=>?_) fun c84 H=>?_
 ·refine aj Z (dT c84) (ag (ac (vA Z Z (ae (ap ?_)))))
  cases H
  refine vP [] Z Z ?_
  exact az Z Z ⟨rfl,rfl⟩
 refine ak Z (dF c84) (aC (ag (ag (ac (vV (am (sz:=4) (o:=0) Z fS gR) Z (vV (am (sz:=3) (o:=0) Z jB ep) Z (vV (aP (vs:=[ay a0_1,ay a0_2,ay a0_3,ay a0_4]) Z kX ep (dC (i:=0) Z Z)) Z (vM Z Z (ae (aO ?_))))))))))
 refine cz (fun k a w=>∃ i5,ir K a0_1 a0_2 a0_3 a0_4 a1 k i5 = some r ∧ St 52 w0 F [(1,I a1),(34,agg #[ay a0_1,ay a0_2,ay a0_3,ay a0_4]),(35,I i5)] [] a w) K ?_ ?_
 ·exact vF [] Z Z (vS [1,34,35] Z) fun a w h=>⟨_,H,h⟩
 ·refine fun k=>aJ fun i5=>bX fun H4=>?_
  cases k with
  | zero=>exact absurd H4 (by simp [ir])
  | succ k =>
   rw [ir] at H4
   refine ag (ac (vV (an Z Z (cd _ _ _)) Z (ae (ag ?_))))
   refine eO H4 (fun c138 H4=>?_) fun c138 H4=>?_
   ·refine ak Z (dF c138) (bU (ag (ac (vA Z Z (ae (ap ?_))))))
    cases H4
    refine vP [] Z Z ?_
    exact az Z Z ⟨rfl,rfl⟩
   refine aj Z (dT c138) (aC (ag (aO (ag (ac (vM Z Z ?_))))))
   obtain ⟨c144,H4⟩:=eL H4
   obtain ⟨c145,H4⟩:=eL H4
   refine vV (lm Z Z eM cg cD c144 c145 (iQ (fun i_=>#[ay a0_1,ay a0_2,ay a0_3,ay a0_4][i_]? = some (ay ([a0_1,a0_2,a0_3,a0_4].getD i_ []))) (bL c144 c145) Z Z Z Z)) Z ?_
   refine vA Z Z (vA Z Z (ae (ag (ac (vM Z Z (vV (fE Z Tryd.underlying9) Z (vV (an Z Z (eh _ _ _)) Z (vM Z Z ?_))))))))
   refine cy H4 (fun c146 H4=>?_) fun c146 H4=>?_
   ·refine af Z Z Z (dT c146) Z Z ?_
    refine af Z Z Z (dT c146) Z Z ?_
    refine af Z Z Z (dT c146) Z Z ?_
    refine af Z Z Z (dT c146) Z Z ?_
    refine aH Z Z Z Z Z ?_
    refine aH Z Z Z Z Z ?_
    refine af Z Z Z (dT c146) Z Z ?_
    refine vV (al Z Z Z (aK (dT c146))) Z (ae (aj Z Z (ag (ac (vA Z Z (ae (ap ?_)))))))
    cases H4
    refine vP [] Z Z ?_
    exact az Z Z ⟨rfl,rfl⟩
   refine aa (aq Z) Z Z Z (dF c146) Z Z ?_
   refine aa (aq Z) Z Z Z (dF c146) Z Z ?_
   refine aa (an Z Z (iZ _ _ _)) Z Z Z (dF c146) Z Z ?_
   refine aa (aq Z) Z Z Z (dF c146) Z Z ?_
   refine eO H4 (fun c147 H4=>?_) fun c147 H4=>?_
   ·refine af Z Z Z (dF c147) Z Z ?_
    refine af Z Z Z (dF c147) Z Z ?_
    refine aa (al Z Z Z (aN (dF c147))) Z Z Z (dF c146) Z Z ?_
    refine vV (al Z Z Z (aN (dF c146))) Z (ae (ak Z Z (aC (ac (vV (an Z Z (bG _ _ _) ) Z (vM Z Z (ae ?_)))))))
    exact vF [] Z Z (vS [1,34,35] Z) fun a w h=>⟨k,Nat.lt_succ_self k,_,H4,h⟩
   refine aa (aq Z) Z Z Z (dT c147) Z Z ?_
   refine aa (an Z Z (iA _ _)) Z Z Z (dT c147) Z Z ?_
   refine aa (al Z Z Z (aK (dT c147))) Z Z Z (dF c146) Z Z ?_
   refine vV (al Z Z Z (aN (dF c146))) Z (ae ?_)
   refine cy H4 (fun c148 H4=>?_) fun c148 H4=>?_
   ·refine aj Z (kD c148) (ag (ac (vA Z Z (ae (ap ?_)))))
    cases H4
    refine vP [] Z Z ?_
    exact az Z Z ⟨rfl,rfl⟩
   refine ak Z (ks c148) (aC (ac (vV (an Z Z (bG _ _ _) ) Z (vM Z Z (ae ?_)))))
   exact vF [] Z Z (vS [1,34,35] Z) fun a w h=>⟨k,Nat.lt_succ_self k,_,H4,h⟩
theorem kE.spec (K:Nat) (sv0:Value) (A0:HP) (l0:List aA) (a1:Int) (hA0:cW A0 sv0 l0.length 6 (fl av l0)) (r:(Int × Int)) (H:kE K l0 a1 = some r):bo Tryd.prog 72 [sv0,I a1] [A0] (fun v M=>v = (tU #[I r.1,I r.2]) ∧ M = [A0]):=by
 unfold kE at H
 refine bC Tryd.func72 Z 37 Z (nL Z) fun F w0=>?_
 show cJ (St 37 w0 F [(0,sv0),(1,I a1)] [A0]) _
 refine ag (ac (vA Z Z (vA Z Z (ae (ag (ag (ac (vM Z Z ?_))))))))
 obtain ⟨x16,h16,H⟩:=bE H
 refine aL (aV (first:=[]) (cap:=[]) (xs:=[.tmp 9]) Z Z oQ Z (ju.spec a1 _ h16)) Z Z Z ?_
 rintro _ _ ⟨rfl,rfl⟩
 refine vV (gW Z (ia _)) Z (vM Z Z ?_)
 refine cy H (fun c42 H=>?_) fun c42 H=>?_
 ·refine af Z Z Z c42 Z Z ?_
  refine af Z Z Z c42 Z Z ?_
  refine af Z Z Z c42 Z Z ?_
  refine vV (al Z Z Z (aK c42)) Z (vM Z Z ?_)
  refine af Z Z Z Z Z Z ?_
  refine af Z Z Z Z Z Z ?_
  refine af Z Z Z Z Z Z ?_
  refine vV (al Z Z Z Z) Z (ae (aj Z Z (ag (ac (vA Z Z (vA Z Z (ae (ap ?_))))))))
  cases H
  refine vP [0] Z Z ?_
  exact bw (vs:=[I 1,I 0]) Z ⟨rfl,⟨rfl,trivial⟩⟩ _ Z ⟨rfl,rfl⟩
 refine aa (aq Z) Z Z Z (bF c42) Z Z ?_
 refine aa (bQ 0 Z cv Z hA0) Z Z Z (bF c42) Z Z ?_
 refine aa (an Z Z (be _ _ _)) Z Z Z (bF c42) Z Z ?_
 refine vV (al Z Z Z (aN (bF c42))) Z (vM Z Z ?_)
 refine cy H (fun c43 H=>?_) fun c43 H=>?_
 ·refine af Z Z Z (aY c43) Z Z ?_
  refine af Z Z Z (aY c43) Z Z ?_
  refine af Z Z Z (aY c43) Z Z ?_
  refine vV (al Z Z Z (aK (aY c43))) Z (ae (aj Z Z (ag (ac (vA Z Z (vA Z Z (ae (ap ?_))))))))
  cases H
  refine vP [0] Z Z ?_
  exact bw (vs:=[I 1,I 0]) Z ⟨rfl,⟨rfl,trivial⟩⟩ _ Z ⟨rfl,rfl⟩
 refine aa (aq Z) Z Z Z (bd c43) Z Z ?_
 refine aa (bQ 0 Z cv Z hA0) Z Z Z (bd c43) Z Z ?_
 refine aa (an Z Z (eh _ _ _)) Z Z Z (bd c43) Z Z ?_
 refine vV (al Z Z Z (aN (bd c43))) Z (ae ?_)
 refine cy H (fun c44 H=>?_) fun c44 H=>?_
 ·refine aj Z (dT c44) (ag (ac (vA Z Z (vA Z Z (ae (ap ?_))))))
  cases H
  refine vP [0] Z Z ?_
  exact bw (vs:=[I 1,I 0]) Z ⟨rfl,⟨rfl,trivial⟩⟩ _ Z ⟨rfl,rfl⟩
 refine ak Z (dF c44) (aC (ag (ag (ac (vM Z Z (vV (bQ 0 Z cv Z hA0) Z (vM Z Z (ae (aO ?_)))))))))
 refine cz (fun k a w=>∃ i6,iw K l0 a1 k i6 = some r ∧ St 37 w0 F [(1,I a1),(22,sv0),(23,I (l0.length:Int)),(24,I i6)] [A0] a w) K ?_ ?_
 ·exact vF [0] Z Z (vS [1,22,23,24] Z) fun a w h=>⟨_,H,h⟩
 ·refine fun k=>aJ fun i6=>bX fun H4=>?_
  let C0_:List Value:=[I (((l0.getD i6.toNat ax).Key).Hour),ay (((l0.getD i6.toNat ax).Key).Dims_0),ay (((l0.getD i6.toNat ax).Key).Dims_1),ay (((l0.getD i6.toNat ax).Key).Dims_2),ay (((l0.getD i6.toNat ax).Key).Dims_3),I ((l0.getD i6.toNat ax).Value)]
  cases k with
  | zero=>exact absurd H4 (by simp [C0_,iw])
  | succ k =>
   rw [iw] at H4
   refine ag (ac (vV (an Z Z (cd _ _ _)) Z (ae (ag ?_))))
   refine eO H4 (fun c72 H4=>?_) fun c72 H4=>?_
   ·refine ak Z (dF c72) (bU (ag (ac (vA Z Z (vA Z Z (ae (ap ?_)))))))
    cases H4
    refine vP [0] Z Z ?_
    exact bw (vs:=[I 0,I 0]) Z ⟨rfl,⟨rfl,trivial⟩⟩ _ Z ⟨rfl,rfl⟩
   refine aj Z (dT c72) (aC (ag (aO (ag (ac (vM Z Z ?_))))))
   obtain ⟨c75,H4⟩:=eL H4
   refine vV (bB (sz:=5) 0 Z Z cv dJ Z hA0 c75 c72) Z ?_
   refine vV (aP (vs:=C0_) Z kS dJ (cN (i:=0) Z hA0 (by simp [C0_]) (dN bS (bL c75 c72) Z))) Z ?_
   refine aL (cT kb) Z Z Z ?_
   rintro _ _ ⟨b24,rfl,rfl⟩
   refine vA Z Z ?_
   refine bq (aZ (cs:=[I 0,S0,S0,S0,S0,I 0]) (cs':=C0_) (us:=C0_) (L':=[box b24 54 C0_,A0]) 0 Z Z Z (bJ Z) dJ Z Z (by simp [C0_]) Z) Z Z ?_
   rintro _ _ rfl
   refine ae (ag (ac (vV (aP (vs:=C0_) Z kS dJ (aR (i:=0) Z)) Z (vM Z Z ?_))))
   obtain ⟨x28,h28,H4⟩:=oB H4
   refine aL (aV (first:=[]) (cap:=[]) (xs:=[.tmp 29,.tmp 30]) Z Z wD Z (kA.spec K (((l0.getD i6.toNat ax).Key).Hour) (((l0.getD i6.toNat ax).Key).Dims_0) (((l0.getD i6.toNat ax).Key).Dims_1) (((l0.getD i6.toNat ax).Key).Dims_2) (((l0.getD i6.toNat ax).Key).Dims_3) ((l0.getD i6.toNat ax).Value) a1 _ h28)) Z Z Z ?_
   rintro _ _ ⟨rfl,rfl⟩
   refine vA Z Z (ae (ag (ac (vM Z Z (vV (an Z Z (ku _ _ _)) Z (ae ?_))))))
   refine eO H4 (fun c76 H4=>?_) fun c76 H4=>?_
   ·refine ak Z (iS c76) (aC (ac (vV (an Z Z (bG _ _ _) ) Z (vM Z Z (ae ?_)))))
    exact vF [1] Z Z (vS [1,22,23,24] Z) fun a w h=>⟨k,Nat.lt_succ_self k,_,H4,h⟩
   refine aj Z (iO c76) (ag (ac (vM Z Z (vM Z Z (vA Z Z (vA Z Z (ae (ap ?_))))))))
   cases H4
   refine vP [1] Z Z ?_
   exact bw (vs:=[I x28,I i6]) Z ⟨rfl,⟨rfl,trivial⟩⟩ _ Z ⟨rfl,rfl⟩
theorem ga.spec (K:Nat) (sv0:Value) (l0:List aA) (a1:Int) (r:Bool) (H:ga K l0 a1 = some r):bo Tryd.prog 51 [agg #[I 1,I 0,sv0,I 0,I 0,B0,B0,B0,B0,B0,B0,B0,B0,S0,S0,S0,S0,I 0,I 0,I 0,I 0,I 0,I 0,I 0,I 0,I 0,L0],I a1] [own sv0 54 6 l0.length (fl av l0)] (fun v M=>v = (bool r) ∧ M = [own sv0 54 6 l0.length (fl av l0)]):=by
 unfold ga at H
 refine bC Tryd.func51 Z 58 Z (nL Z) fun F w0=>?_
 let C1_:List Value:=[I 1,I 0,sv0,I 0,I 0,B0,B0,B0,B0,B0,B0,B0,B0,S0,S0,S0,S0,I 0,I 0,I 0,I 0,I 0,I 0,I 0,I 0,I 0,L0]
 show cJ (St 58 w0 F [(0,agg #[I 1,I 0,sv0,I 0,I 0,B0,B0,B0,B0,B0,B0,B0,B0,S0,S0,S0,S0,I 0,I 0,I 0,I 0,I 0,I 0,I 0,I 0,I 0,L0]),(1,I a1)] [own sv0 54 6 l0.length (fl av l0)]) _
 refine ag (ac ?_)
 refine aL (gQ (cs:=C1_) Z Z) Z Z Z ?_
 rintro _ _ ⟨b3,rfl,rfl⟩
 refine vA Z Z (ae (ag (ac (vV (aP (vs:=C1_) Z bi aG (aR (i:=0) Z)) Z ?_))))
 obtain ⟨x6,h6,H⟩:=bE H
 let C0_:List Value:=[I x6.1,I x6.2.1,L0,I x6.2.2.1,I x6.2.2.2.1,bool x6.2.2.2.2.1,bool x6.2.2.2.2.2.1,bool x6.2.2.2.2.2.2.1,bool x6.2.2.2.2.2.2.2.1,bool x6.2.2.2.2.2.2.2.2.1,bool x6.2.2.2.2.2.2.2.2.2.1,bool x6.2.2.2.2.2.2.2.2.2.2.1,bool x6.2.2.2.2.2.2.2.2.2.2.2.1,ay x6.2.2.2.2.2.2.2.2.2.2.2.2.1,ay x6.2.2.2.2.2.2.2.2.2.2.2.2.2.1,ay x6.2.2.2.2.2.2.2.2.2.2.2.2.2.2.1,ay x6.2.2.2.2.2.2.2.2.2.2.2.2.2.2.2.1,I x6.2.2.2.2.2.2.2.2.2.2.2.2.2.2.2.2.1,I x6.2.2.2.2.2.2.2.2.2.2.2.2.2.2.2.2.2.1,I x6.2.2.2.2.2.2.2.2.2.2.2.2.2.2.2.2.2.2.1,I x6.2.2.2.2.2.2.2.2.2.2.2.2.2.2.2.2.2.2.2.1,I x6.2.2.2.2.2.2.2.2.2.2.2.2.2.2.2.2.2.2.2.2.1,I x6.2.2.2.2.2.2.2.2.2.2.2.2.2.2.2.2.2.2.2.2.2.1,I x6.2.2.2.2.2.2.2.2.2.2.2.2.2.2.2.2.2.2.2.2.2.2.1,I x6.2.2.2.2.2.2.2.2.2.2.2.2.2.2.2.2.2.2.2.2.2.2.2.1,I x6.2.2.2.2.2.2.2.2.2.2.2.2.2.2.2.2.2.2.2.2.2.2.2.2,L0]
 refine aL (bu (Lr:=[box b3 41 C1_]) [1,0] [1,0] (first:=[]) (cap:=[]) (xs:=[.tmp 8]) Z Z lS Z (jm.spec sv0 l0 _ h6) (by decide) Z (by decide) Z) Z Z Z ?_
 rintro _ _ ⟨rfl,rfl⟩
 refine aL (cT bv) Z Z Z ?_
 rintro _ _ ⟨b4,rfl,rfl⟩
 let C2_:List HP:=[box b4 41 C0_,box b3 41 C1_,own sv0 54 6 l0.length (fl av l0)]
 refine bq (aZ (cs:=[I 0,I 0,L0,I 0,I 0,B0,B0,B0,B0,B0,B0,B0,B0,S0,S0,S0,S0,I 0,I 0,I 0,I 0,I 0,I 0,I 0,I 0,I 0,L0]) (cs':=C0_) (us:=C0_) (L':=C2_) 0 Z Z Z (bJ Z) aG Z Z (by simp [C1_,C0_,C2_]) Z) Z Z ?_
 rintro _ _ rfl
 refine ae (ag (ag (ac (vV (am (sz:=0) (o:=0) Z bD bH) Z (vV (aB (v:=(I 1)) Z ck (au (i:=1) Z Z)) Z (vV (an Z Z (cd _ _ _)) Z (vM Z Z ?_)))))))
 refine aa (am (sz:=0) (o:=0) Z bD bH) Z Z Z Z Z Z ?_
 refine aa (aB (v:=(I 1)) Z ck (au (i:=1) Z Z)) Z Z Z Z Z Z ?_
 refine aa (an Z Z (eh _ _ _)) Z Z Z Z Z Z ?_
 refine vV (al Z Z Z Z) Z (vM Z Z ?_)
 refine aa (aP (vs:=C0_) Z bi aG (aR (i:=0) Z)) Z Z Z Z Z Z ?_
 refine bc 54 6 ?_
 refine bc 4 1 ?_
 refine cx (bP (sz:=26) (xs:=[.tmp 19]) (cs:=ar (⟨x6.1,x6.2.1,[],(⟨x6.2.2.1,x6.2.2.2.1,x6.2.2.2.2.1,x6.2.2.2.2.2.1,x6.2.2.2.2.2.2.1,x6.2.2.2.2.2.2.2.1,x6.2.2.2.2.2.2.2.2.1,x6.2.2.2.2.2.2.2.2.2.1,x6.2.2.2.2.2.2.2.2.2.2.1,x6.2.2.2.2.2.2.2.2.2.2.2.1,x6.2.2.2.2.2.2.2.2.2.2.2.2.1,x6.2.2.2.2.2.2.2.2.2.2.2.2.2.1,x6.2.2.2.2.2.2.2.2.2.2.2.2.2.2.1,x6.2.2.2.2.2.2.2.2.2.2.2.2.2.2.2.1⟩:aI),(⟨x6.2.2.2.2.2.2.2.2.2.2.2.2.2.2.2.2.1,x6.2.2.2.2.2.2.2.2.2.2.2.2.2.2.2.2.2.1,x6.2.2.2.2.2.2.2.2.2.2.2.2.2.2.2.2.2.2.1,x6.2.2.2.2.2.2.2.2.2.2.2.2.2.2.2.2.2.2.2.1,x6.2.2.2.2.2.2.2.2.2.2.2.2.2.2.2.2.2.2.2.2.1,x6.2.2.2.2.2.2.2.2.2.2.2.2.2.2.2.2.2.2.2.2.2.1,x6.2.2.2.2.2.2.2.2.2.2.2.2.2.2.2.2.2.2.2.2.2.2.1,x6.2.2.2.2.2.2.2.2.2.2.2.2.2.2.2.2.2.2.2.2.2.2.2.1,x6.2.2.2.2.2.2.2.2.2.2.2.2.2.2.2.2.2.2.2.2.2.2.2.2⟩:aE),[]⟩:aD) (iJ [L0,L0])) Z Z cS aG bv Z Z (dW Z) Z (by decide)) Z Z Z Z Z Z ?_
 rintro sv7 _ rfl
 refine gL [own sv7 41 27 1 (ar (⟨x6.1,x6.2.1,[],(⟨x6.2.2.1,x6.2.2.2.1,x6.2.2.2.2.1,x6.2.2.2.2.2.1,x6.2.2.2.2.2.2.1,x6.2.2.2.2.2.2.2.1,x6.2.2.2.2.2.2.2.2.1,x6.2.2.2.2.2.2.2.2.2.1,x6.2.2.2.2.2.2.2.2.2.2.1,x6.2.2.2.2.2.2.2.2.2.2.2.1,x6.2.2.2.2.2.2.2.2.2.2.2.2.1,x6.2.2.2.2.2.2.2.2.2.2.2.2.2.1,x6.2.2.2.2.2.2.2.2.2.2.2.2.2.2.1,x6.2.2.2.2.2.2.2.2.2.2.2.2.2.2.2.1⟩:aI),(⟨x6.2.2.2.2.2.2.2.2.2.2.2.2.2.2.2.2.1,x6.2.2.2.2.2.2.2.2.2.2.2.2.2.2.2.2.2.1,x6.2.2.2.2.2.2.2.2.2.2.2.2.2.2.2.2.2.2.1,x6.2.2.2.2.2.2.2.2.2.2.2.2.2.2.2.2.2.2.2.1,x6.2.2.2.2.2.2.2.2.2.2.2.2.2.2.2.2.2.2.2.2.1,x6.2.2.2.2.2.2.2.2.2.2.2.2.2.2.2.2.2.2.2.2.2.1,x6.2.2.2.2.2.2.2.2.2.2.2.2.2.2.2.2.2.2.2.2.2.2.1,x6.2.2.2.2.2.2.2.2.2.2.2.2.2.2.2.2.2.2.2.2.2.2.2.1,x6.2.2.2.2.2.2.2.2.2.2.2.2.2.2.2.2.2.2.2.2.2.2.2.2⟩:aE),[]⟩:aD) (iJ [L0,L0])),own L0 4 1 ([]:List Bool).length (fl eB ([]:List Bool)),own L0 54 6 ([]:List aA).length (fl av ([]:List aA)),box b4 41 C0_,box b3 41 C1_,own sv0 54 6 l0.length (fl av l0)] Z ?_
 refine aa (am (sz:=0) (o:=0) Z bD bH) Z Z Z Z Z Z ?_
 refine aa (aB (v:=(I 1)) Z ck (au (i:=4) Z Z)) Z Z Z Z Z Z ?_
 refine aa (bZ (is:=[0]) (xs:=[.tmp 22]) (vs:=[I 1]) Z Z (bl (cs:=[I 1,I 0,L0,I 0,I 0,B0,B0,B0,B0,B0,B0,B0,B0,S0,S0,S0,S0,I 0,I 0,I 0,I 0,I 0,I 0,I 0,I 0,I 0,L0]) bv dt Z)) Z Z Z Z Z Z ?_
 refine bc 54 6 ?_
 refine bc 4 1 ?_
 refine cx (bP (sz:=26) (xs:=[.tmp 23]) (cs:=ar (⟨1,0,[],(⟨0,0,false,false,false,false,false,false,false,false,nB,nB,nB,nB⟩:aI),(⟨0,0,0,0,0,0,0,0,0⟩:aE),[]⟩:aD) (iJ [L0,L0])) Z Z cS aG bv Z Z (dW Z) Z (by decide)) Z Z Z Z Z Z ?_
 rintro sv8 _ rfl
 refine gL [own sv8 41 27 1 (ar (⟨1,0,[],(⟨0,0,false,false,false,false,false,false,false,false,nB,nB,nB,nB⟩:aI),(⟨0,0,0,0,0,0,0,0,0⟩:aE),[]⟩:aD) (iJ [L0,L0])),own L0 4 1 ([]:List Bool).length (fl eB ([]:List Bool)),own L0 54 6 ([]:List aA).length (fl av ([]:List aA)),own sv7 41 27 1 (ar (⟨x6.1,x6.2.1,[],(⟨x6.2.2.1,x6.2.2.2.1,x6.2.2.2.2.1,x6.2.2.2.2.2.1,x6.2.2.2.2.2.2.1,x6.2.2.2.2.2.2.2.1,x6.2.2.2.2.2.2.2.2.1,x6.2.2.2.2.2.2.2.2.2.1,x6.2.2.2.2.2.2.2.2.2.2.1,x6.2.2.2.2.2.2.2.2.2.2.2.1,x6.2.2.2.2.2.2.2.2.2.2.2.2.1,x6.2.2.2.2.2.2.2.2.2.2.2.2.2.1,x6.2.2.2.2.2.2.2.2.2.2.2.2.2.2.1,x6.2.2.2.2.2.2.2.2.2.2.2.2.2.2.2.1⟩:aI),(⟨x6.2.2.2.2.2.2.2.2.2.2.2.2.2.2.2.2.1,x6.2.2.2.2.2.2.2.2.2.2.2.2.2.2.2.2.2.1,x6.2.2.2.2.2.2.2.2.2.2.2.2.2.2.2.2.2.2.1,x6.2.2.2.2.2.2.2.2.2.2.2.2.2.2.2.2.2.2.2.1,x6.2.2.2.2.2.2.2.2.2.2.2.2.2.2.2.2.2.2.2.2.1,x6.2.2.2.2.2.2.2.2.2.2.2.2.2.2.2.2.2.2.2.2.2.1,x6.2.2.2.2.2.2.2.2.2.2.2.2.2.2.2.2.2.2.2.2.2.2.1,x6.2.2.2.2.2.2.2.2.2.2.2.2.2.2.2.2.2.2.2.2.2.2.2.1,x6.2.2.2.2.2.2.2.2.2.2.2.2.2.2.2.2.2.2.2.2.2.2.2.2⟩:aE),[]⟩:aD) (iJ [L0,L0])),own L0 4 1 ([]:List Bool).length (fl eB ([]:List Bool)),own L0 54 6 ([]:List aA).length (fl av ([]:List aA)),box b4 41 C0_,box b3 41 C1_,own sv0 54 6 l0.length (fl av l0)] Z ?_
 refine jK (enc:=ar) (R:=aF) (iv:=(iJ [L0,L0])) (el:=(⟨x6.1,x6.2.1,[],(⟨x6.2.2.1,x6.2.2.2.1,x6.2.2.2.2.1,x6.2.2.2.2.2.1,x6.2.2.2.2.2.2.1,x6.2.2.2.2.2.2.2.1,x6.2.2.2.2.2.2.2.2.1,x6.2.2.2.2.2.2.2.2.2.1,x6.2.2.2.2.2.2.2.2.2.2.1,x6.2.2.2.2.2.2.2.2.2.2.2.1,x6.2.2.2.2.2.2.2.2.2.2.2.2.1,x6.2.2.2.2.2.2.2.2.2.2.2.2.2.1,x6.2.2.2.2.2.2.2.2.2.2.2.2.2.2.1,x6.2.2.2.2.2.2.2.2.2.2.2.2.2.2.2.1⟩:aI),(⟨x6.2.2.2.2.2.2.2.2.2.2.2.2.2.2.2.2.1,x6.2.2.2.2.2.2.2.2.2.2.2.2.2.2.2.2.2.1,x6.2.2.2.2.2.2.2.2.2.2.2.2.2.2.2.2.2.2.1,x6.2.2.2.2.2.2.2.2.2.2.2.2.2.2.2.2.2.2.2.1,x6.2.2.2.2.2.2.2.2.2.2.2.2.2.2.2.2.2.2.2.2.1,x6.2.2.2.2.2.2.2.2.2.2.2.2.2.2.2.2.2.2.2.2.2.1,x6.2.2.2.2.2.2.2.2.2.2.2.2.2.2.2.2.2.2.2.2.2.2.1,x6.2.2.2.2.2.2.2.2.2.2.2.2.2.2.2.2.2.2.2.2.2.2.2.1,x6.2.2.2.2.2.2.2.2.2.2.2.2.2.2.2.2.2.2.2.2.2.2.2.2⟩:aE),[]⟩:aD)) (M:=[own L0 54 6 ([]:List aA).length (fl av ([]:List aA)),own L0 4 1 ([]:List Bool).length (fl eB ([]:List Bool))]) (Lr:=[own sv8 41 27 1 (ar (⟨1,0,[],(⟨0,0,false,false,false,false,false,false,false,false,nB,nB,nB,nB⟩:aI),(⟨0,0,0,0,0,0,0,0,0⟩:aE),[]⟩:aD) (iJ [L0,L0])),own L0 4 1 ([]:List Bool).length (fl eB ([]:List Bool)),own L0 54 6 ([]:List aA).length (fl av ([]:List aA)),box b4 41 C0_,box b3 41 C1_,own sv0 54 6 l0.length (fl av l0)]) [3,5,4,0,1,2,6,7,8] (by decide) Z Z ?_
 refine gL [(df (JM.mk sv7 (fun _=>(iJ [L0,L0]))) 41 27 ar aF [(⟨x6.1,x6.2.1,[],(⟨x6.2.2.1,x6.2.2.2.1,x6.2.2.2.2.1,x6.2.2.2.2.2.1,x6.2.2.2.2.2.2.1,x6.2.2.2.2.2.2.2.1,x6.2.2.2.2.2.2.2.2.1,x6.2.2.2.2.2.2.2.2.2.1,x6.2.2.2.2.2.2.2.2.2.2.1,x6.2.2.2.2.2.2.2.2.2.2.2.1,x6.2.2.2.2.2.2.2.2.2.2.2.2.1,x6.2.2.2.2.2.2.2.2.2.2.2.2.2.1,x6.2.2.2.2.2.2.2.2.2.2.2.2.2.2.1,x6.2.2.2.2.2.2.2.2.2.2.2.2.2.2.2.1⟩:aI),(⟨x6.2.2.2.2.2.2.2.2.2.2.2.2.2.2.2.2.1,x6.2.2.2.2.2.2.2.2.2.2.2.2.2.2.2.2.2.1,x6.2.2.2.2.2.2.2.2.2.2.2.2.2.2.2.2.2.2.1,x6.2.2.2.2.2.2.2.2.2.2.2.2.2.2.2.2.2.2.2.1,x6.2.2.2.2.2.2.2.2.2.2.2.2.2.2.2.2.2.2.2.2.1,x6.2.2.2.2.2.2.2.2.2.2.2.2.2.2.2.2.2.2.2.2.2.1,x6.2.2.2.2.2.2.2.2.2.2.2.2.2.2.2.2.2.2.2.2.2.2.1,x6.2.2.2.2.2.2.2.2.2.2.2.2.2.2.2.2.2.2.2.2.2.2.2.1,x6.2.2.2.2.2.2.2.2.2.2.2.2.2.2.2.2.2.2.2.2.2.2.2.2⟩:aE),[]⟩:aD)]),own sv8 41 27 1 (ar (⟨1,0,[],(⟨0,0,false,false,false,false,false,false,false,false,nB,nB,nB,nB⟩:aI),(⟨0,0,0,0,0,0,0,0,0⟩:aE),[]⟩:aD) (iJ [L0,L0])),own L0 4 1 ([]:List Bool).length (fl eB ([]:List Bool)),own L0 54 6 ([]:List aA).length (fl av ([]:List aA)),box b4 41 C0_,box b3 41 C1_,own sv0 54 6 l0.length (fl av l0)] Z ?_
 refine jK (enc:=ar) (R:=aF) (iv:=(iJ [L0,L0])) (el:=(⟨1,0,[],(⟨0,0,false,false,false,false,false,false,false,false,nB,nB,nB,nB⟩:aI),(⟨0,0,0,0,0,0,0,0,0⟩:aE),[]⟩:aD)) (M:=[own L0 54 6 ([]:List aA).length (fl av ([]:List aA)),own L0 4 1 ([]:List Bool).length (fl eB ([]:List Bool))]) (Lr:=[(df (JM.mk sv7 (fun _=>(iJ [L0,L0]))) 41 27 ar aF [(⟨x6.1,x6.2.1,[],(⟨x6.2.2.1,x6.2.2.2.1,x6.2.2.2.2.1,x6.2.2.2.2.2.1,x6.2.2.2.2.2.2.1,x6.2.2.2.2.2.2.2.1,x6.2.2.2.2.2.2.2.2.1,x6.2.2.2.2.2.2.2.2.2.1,x6.2.2.2.2.2.2.2.2.2.2.1,x6.2.2.2.2.2.2.2.2.2.2.2.1,x6.2.2.2.2.2.2.2.2.2.2.2.2.1,x6.2.2.2.2.2.2.2.2.2.2.2.2.2.1,x6.2.2.2.2.2.2.2.2.2.2.2.2.2.2.1,x6.2.2.2.2.2.2.2.2.2.2.2.2.2.2.2.1⟩:aI),(⟨x6.2.2.2.2.2.2.2.2.2.2.2.2.2.2.2.2.1,x6.2.2.2.2.2.2.2.2.2.2.2.2.2.2.2.2.2.1,x6.2.2.2.2.2.2.2.2.2.2.2.2.2.2.2.2.2.2.1,x6.2.2.2.2.2.2.2.2.2.2.2.2.2.2.2.2.2.2.2.1,x6.2.2.2.2.2.2.2.2.2.2.2.2.2.2.2.2.2.2.2.2.1,x6.2.2.2.2.2.2.2.2.2.2.2.2.2.2.2.2.2.2.2.2.2.1,x6.2.2.2.2.2.2.2.2.2.2.2.2.2.2.2.2.2.2.2.2.2.2.1,x6.2.2.2.2.2.2.2.2.2.2.2.2.2.2.2.2.2.2.2.2.2.2.2.1,x6.2.2.2.2.2.2.2.2.2.2.2.2.2.2.2.2.2.2.2.2.2.2.2.2⟩:aE),[]⟩:aD)]),box b4 41 C0_,box b3 41 C1_,own sv0 54 6 l0.length (fl av l0)]) [1,3,2,0,4,5,6] (by decide) Z Z ?_
 refine gL [(df (JM.mk sv8 (fun _=>(iJ [L0,L0]))) 41 27 ar aF [(⟨1,0,[],(⟨0,0,false,false,false,false,false,false,false,false,nB,nB,nB,nB⟩:aI),(⟨0,0,0,0,0,0,0,0,0⟩:aE),[]⟩:aD)]),(df (JM.mk sv7 (fun _=>(iJ [L0,L0]))) 41 27 ar aF [(⟨x6.1,x6.2.1,[],(⟨x6.2.2.1,x6.2.2.2.1,x6.2.2.2.2.1,x6.2.2.2.2.2.1,x6.2.2.2.2.2.2.1,x6.2.2.2.2.2.2.2.1,x6.2.2.2.2.2.2.2.2.1,x6.2.2.2.2.2.2.2.2.2.1,x6.2.2.2.2.2.2.2.2.2.2.1,x6.2.2.2.2.2.2.2.2.2.2.2.1,x6.2.2.2.2.2.2.2.2.2.2.2.2.1,x6.2.2.2.2.2.2.2.2.2.2.2.2.2.1,x6.2.2.2.2.2.2.2.2.2.2.2.2.2.2.1,x6.2.2.2.2.2.2.2.2.2.2.2.2.2.2.2.1⟩:aI),(⟨x6.2.2.2.2.2.2.2.2.2.2.2.2.2.2.2.2.1,x6.2.2.2.2.2.2.2.2.2.2.2.2.2.2.2.2.2.1,x6.2.2.2.2.2.2.2.2.2.2.2.2.2.2.2.2.2.2.1,x6.2.2.2.2.2.2.2.2.2.2.2.2.2.2.2.2.2.2.2.1,x6.2.2.2.2.2.2.2.2.2.2.2.2.2.2.2.2.2.2.2.2.1,x6.2.2.2.2.2.2.2.2.2.2.2.2.2.2.2.2.2.2.2.2.2.1,x6.2.2.2.2.2.2.2.2.2.2.2.2.2.2.2.2.2.2.2.2.2.2.1,x6.2.2.2.2.2.2.2.2.2.2.2.2.2.2.2.2.2.2.2.2.2.2.2.1,x6.2.2.2.2.2.2.2.2.2.2.2.2.2.2.2.2.2.2.2.2.2.2.2.2⟩:aE),[]⟩:aD)]),box b4 41 C0_,box b3 41 C1_,own sv0 54 6 l0.length (fl av l0)] Z ?_
 obtain ⟨x8,h8,H⟩:=oB H
 refine cx (bu (Lr:=C2_) [1,0,2,3,4] [1,0,2,3,4] (first:=[]) (cap:=[]) (xs:=[.tmp 20,.tmp 24]) Z Z lT Z (bT.spec K (JM.mk sv7 (fun _=>(iJ [L0,L0]))) (JM.mk sv8 (fun _=>(iJ [L0,L0]))) [(⟨x6.1,x6.2.1,[],(⟨x6.2.2.1,x6.2.2.2.1,x6.2.2.2.2.1,x6.2.2.2.2.2.1,x6.2.2.2.2.2.2.1,x6.2.2.2.2.2.2.2.1,x6.2.2.2.2.2.2.2.2.1,x6.2.2.2.2.2.2.2.2.2.1,x6.2.2.2.2.2.2.2.2.2.2.1,x6.2.2.2.2.2.2.2.2.2.2.2.1,x6.2.2.2.2.2.2.2.2.2.2.2.2.1,x6.2.2.2.2.2.2.2.2.2.2.2.2.2.1,x6.2.2.2.2.2.2.2.2.2.2.2.2.2.2.1,x6.2.2.2.2.2.2.2.2.2.2.2.2.2.2.2.1⟩:aI),(⟨x6.2.2.2.2.2.2.2.2.2.2.2.2.2.2.2.2.1,x6.2.2.2.2.2.2.2.2.2.2.2.2.2.2.2.2.2.1,x6.2.2.2.2.2.2.2.2.2.2.2.2.2.2.2.2.2.2.1,x6.2.2.2.2.2.2.2.2.2.2.2.2.2.2.2.2.2.2.2.1,x6.2.2.2.2.2.2.2.2.2.2.2.2.2.2.2.2.2.2.2.2.1,x6.2.2.2.2.2.2.2.2.2.2.2.2.2.2.2.2.2.2.2.2.2.1,x6.2.2.2.2.2.2.2.2.2.2.2.2.2.2.2.2.2.2.2.2.2.2.1,x6.2.2.2.2.2.2.2.2.2.2.2.2.2.2.2.2.2.2.2.2.2.2.2.1,x6.2.2.2.2.2.2.2.2.2.2.2.2.2.2.2.2.2.2.2.2.2.2.2.2⟩:aE),[]⟩:aD)] [(⟨1,0,[],(⟨0,0,false,false,false,false,false,false,false,false,nB,nB,nB,nB⟩:aI),(⟨0,0,0,0,0,0,0,0,0⟩:aE),[]⟩:aD)] _ h8) (by decide) Z (by decide) Z) Z Z Z Z Z Z ?_
 rintro _ _ ⟨rfl,rfl⟩
 refine aa (gW Z (ia _)) Z Z Z Z Z Z ?_
 refine vV (al Z Z Z Z) Z (ae ?_)
 refine cy H (fun c4 H=>?_) fun c4 H=>?_
 ·refine aj Z c4 (ag (ac (vA Z Z (ae (ap ?_)))))
  cases H
  refine vP [4] Z Z ?_
  exact az Z Z ⟨rfl,rfl⟩
 refine ak Z (bF c4) (aC (ag (ag (ac (vV (am (sz:=0) (o:=0) Z bD bH) Z (vV (aB (v:=(I 1)) Z ck (au (i:=3) Z Z)) Z (ae (aO (ag (ac (vV (an Z Z (be _ _ _)) Z ?_)))))))))))
 refine vA Z Z (ae (aj Z Z (ag (ac (vV (am (sz:=0) (o:=0) Z dZ fH) Z (vV (aB (v:=sv0) Z hZ (au (i:=3) Z Z)) Z (vM Z Z ?_)))))))
 obtain ⟨x10,h10,H⟩:=oB H
 refine aL (bu (Lr:=[(df (JM.mk sv8 (fun _=>(iJ [L0,L0]))) 41 27 ar aF [(⟨1,0,[],(⟨0,0,false,false,false,false,false,false,false,false,nB,nB,nB,nB⟩:aI),(⟨0,0,0,0,0,0,0,0,0⟩:aE),[]⟩:aD)]),(df (JM.mk sv7 (fun _=>(iJ [L0,L0]))) 41 27 ar aF [(⟨x6.1,x6.2.1,[],(⟨x6.2.2.1,x6.2.2.2.1,x6.2.2.2.2.1,x6.2.2.2.2.2.1,x6.2.2.2.2.2.2.1,x6.2.2.2.2.2.2.2.1,x6.2.2.2.2.2.2.2.2.1,x6.2.2.2.2.2.2.2.2.2.1,x6.2.2.2.2.2.2.2.2.2.2.1,x6.2.2.2.2.2.2.2.2.2.2.2.1,x6.2.2.2.2.2.2.2.2.2.2.2.2.1,x6.2.2.2.2.2.2.2.2.2.2.2.2.2.1,x6.2.2.2.2.2.2.2.2.2.2.2.2.2.2.1,x6.2.2.2.2.2.2.2.2.2.2.2.2.2.2.2.1⟩:aI),(⟨x6.2.2.2.2.2.2.2.2.2.2.2.2.2.2.2.2.1,x6.2.2.2.2.2.2.2.2.2.2.2.2.2.2.2.2.2.1,x6.2.2.2.2.2.2.2.2.2.2.2.2.2.2.2.2.2.2.1,x6.2.2.2.2.2.2.2.2.2.2.2.2.2.2.2.2.2.2.2.1,x6.2.2.2.2.2.2.2.2.2.2.2.2.2.2.2.2.2.2.2.2.1,x6.2.2.2.2.2.2.2.2.2.2.2.2.2.2.2.2.2.2.2.2.2.1,x6.2.2.2.2.2.2.2.2.2.2.2.2.2.2.2.2.2.2.2.2.2.2.1,x6.2.2.2.2.2.2.2.2.2.2.2.2.2.2.2.2.2.2.2.2.2.2.2.1,x6.2.2.2.2.2.2.2.2.2.2.2.2.2.2.2.2.2.2.2.2.2.2.2.2⟩:aE),[]⟩:aD)]),box b4 41 C0_,box b3 41 C1_]) [4,0,1,2,3] [1,2,3,4,0] (first:=[]) (cap:=[]) (xs:=[.tmp 34,.tmp 35]) Z Z rE Z (kE.spec K sv0 (own sv0 54 6 l0.length (fl av l0)) l0 a1 (aQ 54) _ h10) (by decide) Z (by decide) Z) Z Z Z ?_
 rintro _ _ ⟨rfl,rfl⟩
 refine vM Z Z (vV (bz Z Z) Z (vV (bz Z Z) Z (vA Z Z (vA Z Z (ae (ag (ac (vM Z Z (vV (an Z Z (be _ _ _)) Z (vA Z Z (ae ?_)))))))))))
 refine ap ?_
 cases H
 refine vP [4] Z Z ?_
 exact az Z Z ⟨rfl,rfl⟩
end Go.Proofs.YtgbjponaoeiglaaDoor.WordsReads
end
