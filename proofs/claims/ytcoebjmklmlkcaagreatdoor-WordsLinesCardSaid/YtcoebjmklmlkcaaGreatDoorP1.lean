/- wordsLines_card: a part of what its proof rests on. -/
import Derived.Test.YtcoebjmklmlkcaaGreatDoorP0
set_option linter.unusedVariables false
set_option linter.unusedSimpArgs false
section
set_option linter.unusedVariables false
namespace Go.Proofs.YtcoebjmklmlkcaaGreatDoor.WordsLines
open Go E
structure ju where
  Hour:Int
  Dims_0:List UInt8
  Dims_1:List UInt8
  Dims_2:List UInt8
  Dims_3:List UInt8
  deriving DecidableEq
def uR:ju:=⟨0,[],[],[],[]⟩
def rS (x:ju):Prop:=qy .i64 x.Hour ∧ x.Dims_0.length ≤ 140737488351232 ∧ x.Dims_1.length ≤ 140737488351232 ∧ x.Dims_2.length ≤ 140737488351232 ∧ x.Dims_3.length ≤ 140737488351232
structure aB where
  Key:ju
  Value:Int
  deriving DecidableEq
def aq:aB:=⟨uR,0⟩
def qV (x:aB):Prop:=rS x.Key ∧ qy .i64 x.Value
structure bc where
  From:Int
  To:Int
  Group_0:Bool
  Group_1:Bool
  Group_2:Bool
  Group_3:Bool
  Has_0:Bool
  Has_1:Bool
  Has_2:Bool
  Has_3:Bool
  Filter_0:List UInt8
  Filter_1:List UInt8
  Filter_2:List UInt8
  Filter_3:List UInt8
  deriving DecidableEq
def rp:bc:=⟨0,0,false,false,false,false,false,false,false,false,[],[],[],[]⟩
structure aS where
  Retain:Int
  SealLag:Int
  DayLag:Int
  MonthLag:Int
  ColdLag:Int
  Base:Int
  Cap:Int
  Queue:Int
  Wal:Int
  deriving DecidableEq
def qp:aS:=⟨0,0,0,0,0,0,0,0,0⟩
def ls (x:aS):Prop:=qy .i64 x.Retain ∧ qy .i64 x.SealLag ∧ qy .i64 x.DayLag ∧ qy .i64 x.MonthLag ∧ qy .i64 x.ColdLag ∧ qy .i64 x.Base ∧ qy .i64 x.Cap ∧ qy .i64 x.Queue ∧ qy .i64 x.Wal
structure aE where
  Kind:Int
  N:Int
  Facts:Sl aB
  Query:bc
  Rules:aS
  Fails:Sl Bool
def ae:aE:=⟨0,0,⟨Value.slice none 0 0,[]⟩,rp,qp,⟨Value.slice none 0 0,[]⟩⟩
def dD (K:Nat) (l0:List aB) (i26:Int):Nat → Int → Option (Sum Unit Bool)
  | 0,_=>none
  | k + 1,i30=>(if i30 < 4 then (if 0 ≤ i26 then (if 0 ≤ i30 then (if i30 < (4:Int) then (if 40 < (([((l0.getD i26.toNat aq).Key).Dims_0,((l0.getD i26.toNat aq).Key).Dims_1,((l0.getD i26.toNat aq).Key).Dims_2,((l0.getD i26.toNat aq).Key).Dims_3].getD i30.toNat []).length:Int) then (some (Sum.inr (false))) else (dD K l0 i26 k (aH (i30 + 1)))) else none) else none) else none) else (some (Sum.inl ())))
def eo (K:Nat) (l0:List aB):Nat → Int → Option Bool
  | 0,_=>none
  | k + 1,i26=>(if i26 < (l0.length:Int) then (Option.bind (dD K l0 i26 K 0) fun z=>(rE z (fun v12=>(eo K l0 k (aH (i26 + 1)))) (fun t_=>(some (t_))))) else (some (true)))
def fe (K:Nat) (l0:List aB):Option Bool:=(if 100 < (l0.length:Int) then (some (false)) else (eo K l0 K 0))
def ee (K:Nat) (a0_10:List UInt8) (a0_11:List UInt8) (a0_12:List UInt8) (a0_13:List UInt8):Nat → Int → Option Bool
  | 0,_=>none
  | k + 1,i4=>(if i4 < 4 then (if 0 ≤ i4 then (if i4 < (4:Int) then (if 40 < (([a0_10,a0_11,a0_12,a0_13].getD i4.toNat []).length:Int) then (some (false)) else (ee K a0_10 a0_11 a0_12 a0_13 k (aH (i4 + 1)))) else none) else none) else (some (true)))
def fX (K:Nat) (a0_0:Int) (a0_1:Int) (a0_2:Bool) (a0_3:Bool) (a0_4:Bool) (a0_5:Bool) (a0_6:Bool) (a0_7:Bool) (a0_8:Bool) (a0_9:Bool) (a0_10:List UInt8) (a0_11:List UInt8) (a0_12:List UInt8) (a0_13:List UInt8):Option Bool:=(ee K a0_10 a0_11 a0_12 a0_13 K 0)
def dB (K:Nat) (l0:List aE):Nat → Int → Int → Option Bool
  | 0,_,_=>none
  | k + 1,i7,i9=>(if i9 < (l0.length:Int) then (if 0 ≤ i9 then (if 300 < (aH (i7 + ((((l0.getD i9.toNat ae).Facts).xs).length:Int))) then (some (false)) else ((fe K (((l0.getD i9.toNat ae).Facts).xs)).bind fun x47=>(if (!x47) = true then (some (false)) else (if 40 < ((((l0.getD i9.toNat ae).Fails).xs).length:Int) then (some (false)) else ((fX K (((l0.getD i9.toNat ae).Query).From) (((l0.getD i9.toNat ae).Query).To) (((l0.getD i9.toNat ae).Query).Group_0) (((l0.getD i9.toNat ae).Query).Group_1) (((l0.getD i9.toNat ae).Query).Group_2) (((l0.getD i9.toNat ae).Query).Group_3) (((l0.getD i9.toNat ae).Query).Has_0) (((l0.getD i9.toNat ae).Query).Has_1) (((l0.getD i9.toNat ae).Query).Has_2) (((l0.getD i9.toNat ae).Query).Has_3) (((l0.getD i9.toNat ae).Query).Filter_0) (((l0.getD i9.toNat ae).Query).Filter_1) (((l0.getD i9.toNat ae).Query).Filter_2) (((l0.getD i9.toNat ae).Query).Filter_3)).bind fun x48=>(if (!x48) = true then (some (false)) else (dB K l0 k (aH (i7 + ((((l0.getD i9.toNat ae).Facts).xs).length:Int))) (aH (i9 + 1))))))))) else none) else (some (true)))
def eY (K:Nat) (l0:List aE):Option Bool:=(if 100 < (l0.length:Int) then (some (false)) else (dB K l0 K 0 0))
def cz (K:Nat) (l0:List aE):Nat → Int → Option Bool
  | 0,_=>none
  | k + 1,i4=>(if i4 < (l0.length:Int) then (if 0 ≤ i4 then (if 40 < ((((l0.getD i4.toNat ae).Fails).xs).length:Int) then (some (false)) else (cz K l0 k (aH (i4 + 1)))) else none) else ((eY K l0).bind fun x2=>(some (x2))))
def fb (K:Nat) (l0:List aE):Option Bool:=(cz K l0 K 0)
def strings_Split (a0 a1:List UInt8):Option (List (List UInt8)):=match a1 with | [c]=>if a0.length < 4294967281 then some (jh c a0) else none | _=>none
def kz (a0:List UInt8):Option (List (List UInt8)):=(if a0 = ([]:List UInt8) then (some (([]:List (List UInt8)))) else ((strings_Split a0 ([32]:List UInt8)).bind fun x2=>(some (x2))))
def bz (a0:Bool):Option Unit:=(if (!a0) = true then none else (some (())))
def gq (l0:List (List UInt8)) (p0_1:Int):Option ((List (List UInt8)) × (List UInt8)):=((bz (decide (0 < (l0.length:Int)))).bind fun u4=>(if 0 < (l0.length:Int) then (if 1 ≤ (l0.length:Int) then (some (((l0.drop (1:Int).toNat),(l0.getD ((0:Int).toNat) [])))) else none) else none))
def cK (l0:List (List UInt8)) (p0_1:Int):Option ((List (List UInt8)) × (List UInt8)):=((bz (decide (0 < (l0.length:Int)))).bind fun u4=>(if 0 < (l0.length:Int) then (if 1 ≤ (l0.length:Int) then (some (((l0.drop (1:Int).toNat),(l0.getD ((0:Int).toNat) [])))) else none) else none))
def kU (a0:Int):Bool:=(if (Int.tmod a0 4) = 0 then (if ¬ ((Int.tmod a0 100) = 0) then (true) else (((Int.tmod a0 400) == 0))) else (((Int.tmod a0 400) == 0)))
def jT (a0:Int) (a1:Int):Int:=(if a1 < 1 then (0) else (if 12 < a1 then (0) else (if a1 = 2 then (iR (kU a0) fun x4=>(if x4 = true then (29) else (28))) else (aH (30 + (np .i64 (aH (a1 + (ng .i64 a1 3))) 1))))))
def jY (a0:Int) (a1:Int) (a2:Int):Int:=(iR (if (aH (a1 - 3)) < 0 then ((aH (a0 - 1),aH ((aH (a1 - 3)) + 12))) else ((a0,aH (a1 - 3)))) fun x2=>(aH ((aH ((aH ((aH (Int.tdiv x2.1 400)) * 146097)) + (aH ((aH ((aH ((aH ((aH ((aH (365 * (Int.tmod x2.1 400))) + (aH (Int.tdiv (Int.tmod x2.1 400) 4)))) - (aH (Int.tdiv (Int.tmod x2.1 400) 100)))) + (aH (Int.tdiv (aH ((aH (153 * x2.2)) + 2)) 5)))) + a2)) - 1)))) - 719468)))
def jK (a0:Int) (a1:Int) (a2:Int):(Int × Bool):=(if a0 < 1970 then ((0,false)) else (if 4900 < a0 then ((0,false)) else (if a2 < 1 then ((0,false)) else (iR (jT a0 a1) fun x5=>(if x5 < a2 then ((0,false)) else (iR (jY a0 a1 a2) fun x6=>((x6,true))))))))
def gY (K:Nat) (a0:List UInt8):Nat → Int → Int → Int → Int → Int → Int → Option (Sum (Int × Int × Int × Int) (Int × Bool))
  | 0,_,_,_,_,_,_=>none
  | k + 1,i30,i31,i33,i34,i35,i36=>(if i31 < ((bY a0).length:Int) then (if 0 ≤ i31 then (if i31 < (([48,48,48,48,45,48,48,45,48,48,84,48,48]:List UInt8).length:Int) then (if ¬ (((([48,48,48,48,45,48,48,45,48,48,84,48,48]:List UInt8).getD i31.toNat 0).toNat:Int) = 48) then (if ¬ (((bY a0).getD i31.toNat 0) = ((([48,48,48,48,45,48,48,45,48,48,84,48,48]:List UInt8).getD i31.toNat 0).toNat:Int)) then (some (Sum.inr ((0,false)))) else (gY K a0 k (aH (i30 + 1)) (aH (i31 + 1)) i33 i34 i35 i36)) else (if ((bY a0).getD i31.toNat 0) < 48 then (some (Sum.inr ((0,false)))) else (if 57 < ((bY a0).getD i31.toNat 0) then (some (Sum.inr ((0,false)))) else (if 0 ≤ i30 then (if i30 < (4:Int) then (gY K a0 k i30 (aH (i31 + 1)) (if i30.toNat = 0 then aH ((aH (([i33,i34,i35,i36].getD i30.toNat 0) * 10)) + (aH (et (((bY a0).getD i31.toNat 0) - 48)))) else i33) (if i30.toNat = 1 then aH ((aH (([i33,i34,i35,i36].getD i30.toNat 0) * 10)) + (aH (et (((bY a0).getD i31.toNat 0) - 48)))) else i34) (if i30.toNat = 2 then aH ((aH (([i33,i34,i35,i36].getD i30.toNat 0) * 10)) + (aH (et (((bY a0).getD i31.toNat 0) - 48)))) else i35) (if i30.toNat = 3 then aH ((aH (([i33,i34,i35,i36].getD i30.toNat 0) * 10)) + (aH (et (((bY a0).getD i31.toNat 0) - 48)))) else i36)) else none) else none)))) else none) else none) else (some (Sum.inl (i33,i34,i35,i36))))
def kx (K:Nat) (a0:List UInt8):Option (Int × Bool):=(if ¬ ((a0.length:Int) = 13) then (some ((0,false))) else (Option.bind (if a0.length ≤ 9223372036854775807 then (gY K a0 K 0 0 0 0 0 0) else none) fun z=>(rE z (fun v2=>(if 0 < (4:Int) then (if 1 < (4:Int) then (if 2 < (4:Int) then (iR (jK v2.1 v2.2.1 v2.2.2.1) fun x4=>(if 3 < (4:Int) then (if (!x4.2) = true then (some ((0,false))) else (if 24 ≤ v2.2.2.2 then (some ((0,false))) else (if 16777216 < (aH ((aH (x4.1 * 24)) + v2.2.2.2)) then (some ((0,false))) else (some ((aH ((aH (x4.1 * 24)) + v2.2.2.2),true)))))) else none)) else none) else none) else none)) (fun t_=>(some (t_))))))
def fC (a0:Int):Bool:=(iR (if 48 ≤ a0 then (if a0 ≤ 57 then (decide (a0 ≤ 57)) else (if 97 ≤ a0 then (if a0 ≤ 122 then (decide (a0 ≤ 122)) else (if 65 ≤ a0 then (decide (a0 ≤ 90)) else (false))) else (if 65 ≤ a0 then (decide (a0 ≤ 90)) else (false)))) else (if 97 ≤ a0 then (if a0 ≤ 122 then (decide (a0 ≤ 122)) else (if 65 ≤ a0 then (decide (a0 ≤ 90)) else (false))) else (if 65 ≤ a0 then (decide (a0 ≤ 90)) else (false)))) fun x4=>(if x4 = true then (true) else (if a0 = 95 then (true) else ((a0 == 46)))))
def strings_IndexByte (a0:List UInt8) (a1:Int):Int:=sg a0 a1.toNat.toUInt8
def iL (K:Nat) (a0:List UInt8):Nat → Int → (List Int) → Option (Sum (List Int) (Bool × (List UInt8)))
  | 0,_,_=>none
  | k + 1,i4,l6=>(if i4 < (a0.length:Int) then (if 0 ≤ i4 then (iR (fC ((a0.getD i4.toNat 0).toNat:Int)) fun x142=>(if x142 = true then (if (l6.length + [((a0.getD i4.toNat 0).toNat:Int)].length) * 1 ≤ 140737488355328 then (iL K a0 k (aH (i4 + 1)) (l6 ++ [((a0.getD i4.toNat 0).toNat:Int)])) else none) else (if ¬ (((a0.getD i4.toNat 0).toNat:Int) = 37) then (some (Sum.inr ((false,([]:List UInt8))))) else (if (a0.length:Int) ≤ (aH (i4 + 2)) then (some (Sum.inr ((false,([]:List UInt8))))) else (if 0 ≤ (aH (i4 + 1)) then (if (aH (i4 + 1)) < (a0.length:Int) then (iR (strings_IndexByte ([48,49,50,51,52,53,54,55,56,57,97,98,99,100,101,102]:List UInt8) ((a0.getD (aH (i4 + 1)).toNat 0).toNat:Int)) fun x143=>(if 0 ≤ (aH (i4 + 2)) then (if (aH (i4 + 2)) < (a0.length:Int) then (iR (strings_IndexByte ([48,49,50,51,52,53,54,55,56,57,97,98,99,100,101,102]:List UInt8) ((a0.getD (aH (i4 + 2)).toNat 0).toNat:Int)) fun x144=>(if x143 < 0 then (some (Sum.inr ((false,([]:List UInt8))))) else (if x144 < 0 then (some (Sum.inr ((false,([]:List UInt8))))) else (iR (fC (et (uV .i64 (nU .i64 x143 4) x144))) fun x146=>(if x146 = true then (some (Sum.inr ((false,([]:List UInt8))))) else (if (l6.length + [et (uV .i64 (nU .i64 x143 4) x144)].length) * 1 ≤ 140737488355328 then (iL K a0 k (aH ((aH (i4 + 2)) + 1)) (l6 ++ [et (uV .i64 (nU .i64 x143 4) x144)])) else none)))))) else none) else none)) else none) else none))))) else none) else (some (Sum.inl l6)))
def jx (K:Nat) (a0:List UInt8):Option (Bool × (List UInt8)):=(if a0 = ([45]:List UInt8) then (some ((true,([]:List UInt8)))) else (Option.bind (iL K a0 K 0 ([]:List Int)) fun z=>(rE z (fun v2=>(some ((decide (0 < (v2.length:Int)),(ig v2))))) (fun t_=>(some (t_))))))
def gr (K:Nat) (l0:List (List UInt8)) (p0_1:Int):Option ((List (List UInt8)) × (List UInt8)):=((cK l0 p0_1).bind fun x7=>((jx K x7.2).bind fun x8=>((bz x8.1).bind fun u4=>(some ((x7.1,x8.2))))))
def strings_CutPrefix (a0 a1:List UInt8):List UInt8 × Bool:=(if a1.isPrefixOf a0 then a0.drop a1.length else a0,a1.isPrefixOf a0)
def iG (K:Nat) (x4:List UInt8 × Bool):Nat → Int → Int → Option (Sum Int (Int × Bool))
  | 0,_,_=>none
  | k + 1,i11,i12=>(if i12 < ((bY x4.1).length:Int) then (if 0 ≤ i12 then (if (aH ((aH ((bY x4.1).getD i12.toNat 0)) - 48)) < 0 then (some (Sum.inr ((0,false)))) else (if 9 < (aH ((aH ((bY x4.1).getD i12.toNat 0)) - 48)) then (some (Sum.inr ((0,false)))) else (if i11 < (-922337203685477580) then (some (Sum.inr ((0,false)))) else (if (aH (i11 * 10)) < (aH ((-9223372036854775808) + (aH ((aH ((bY x4.1).getD i12.toNat 0)) - 48)))) then (some (Sum.inr ((0,false)))) else (iG K x4 k (aH ((aH (i11 * 10)) - (aH ((aH ((bY x4.1).getD i12.toNat 0)) - 48)))) (aH (i12 + 1))))))) else none) else (some (Sum.inl i11)))
def kb (K:Nat) (a0:List UInt8):Option (Int × Bool):=(iR (strings_CutPrefix a0 ([45]:List UInt8)) fun x4=>(Option.bind (if x4.1 = ([]:List UInt8) then (some (Sum.inr ((0,false)))) else (if 1 < (x4.1.length:Int) then (if 0 < (x4.1.length:Int) then (if ((x4.1.getD (0:Int).toNat 0).toNat:Int) = 48 then (some (Sum.inr ((0,false)))) else (if x4.2 = true then (if x4.1 = ([48]:List UInt8) then (some (Sum.inr ((0,false)))) else (some (Sum.inl ()))) else (some (Sum.inl ())))) else none) else (if x4.2 = true then (if x4.1 = ([48]:List UInt8) then (some (Sum.inr ((0,false)))) else (some (Sum.inl ()))) else (some (Sum.inl ()))))) fun z=>(rE z (fun v3=>(Option.bind (if x4.1.length ≤ 9223372036854775807 then (iG K x4 K 0 0) else none) fun z=>(rE z (fun v4=>(if x4.2 = true then (some ((v4,true))) else (if v4 = (-9223372036854775808) then (some ((0,false))) else (some ((aH (0 - v4),true)))))) (fun t_=>(some (t_)))))) (fun t_=>(some (t_))))))
def bi (K:Nat) (l0:List (List UInt8)) (p0_1:Int):Option ((List (List UInt8)) × Int):=((cK l0 p0_1).bind fun x7=>((kb K x7.2).bind fun x8=>((bz x8.2).bind fun u4=>(some ((x7.1,x8.1))))))
def fF (K:Nat) (p0_1:Int):Nat → Int → (List (List UInt8)) → (List UInt8) → (List UInt8) → (List UInt8) → (List UInt8) → Option ((List (List UInt8)) × (List UInt8) × (List UInt8) × (List UInt8) × (List UInt8))
  | 0,_,_,_,_,_,_=>none
  | k + 1,i26,l46,t141,t142,t143,t144=>(if i26 < p0_1 then ((gr K l46 p0_1).bind fun x466=>(if 0 ≤ i26 then (if i26 < (4:Int) then (fF K p0_1 k (aH (i26 + 1)) x466.1 (if i26.toNat = 0 then x466.2 else t141) (if i26.toNat = 1 then x466.2 else t142) (if i26.toNat = 2 then x466.2 else t143) (if i26.toNat = 3 then x466.2 else t144)) else none) else none)) else (some ((l46,t141,t142,t143,t144))))
def fG (K:Nat) (p0_1:Int):Nat → (List (List UInt8)) → (List aB) → Option ((List aB) × (List (List UInt8)))
  | 0,_,_=>none
  | k + 1,l39,l40=>(if (l39.length:Int) = 0 then (some ((l40,l39))) else ((bz (decide ((l40.length:Int) < 50))).bind fun u49=>((cK l39 p0_1).bind fun x432=>((kx K x432.2).bind fun x433=>((bz x433.2).bind fun u51=>(Option.bind (fF K p0_1 K 0 x432.1 ([]:List UInt8) ([]:List UInt8) ([]:List UInt8) ([]:List UInt8)) fun x450=>((bi K x450.1 p0_1).bind fun x468=>(if (l40.length + [(⟨(⟨x433.1,x450.2.1,x450.2.2.1,x450.2.2.2.1,x450.2.2.2.2⟩:ju),x468.2⟩:aB)].length) * 80 ≤ 140737488355328 then (fG K p0_1 k x468.1 (l40 ++ [(⟨(⟨x433.1,x450.2.1,x450.2.2.1,x450.2.2.2.1,x450.2.2.2.2⟩:ju),x468.2⟩:aB)])) else none))))))))
def gd (K:Nat) (l0:List (List UInt8)) (p0_1:Int):Option ((List aB) × (List (List UInt8))):=(fG K p0_1 K l0 ([]:List aB))
def jb (l0:List aB):(Int × Int × Int × Int × Bool × Bool × Bool × Bool × Bool × Bool × Bool × Bool × (List UInt8) × (List UInt8) × (List UInt8) × (List UInt8) × Int × Int × Int × Int × Int × Int × Int × Int × Int):=((1,0,0,0,false,false,false,false,false,false,false,false,([]:List UInt8),([]:List UInt8),([]:List UInt8),([]:List UInt8),0,0,0,0,0,0,0,0,0))
def cP (K:Nat) (l0:List aB) (l1:List aB):Nat → Int → Option Bool
  | 0,_=>none
  | k + 1,i4=>(if i4 < (l0.length:Int) then (if 0 ≤ i4 then (if i4 < (l1.length:Int) then (if (!((((((l0.getD i4.toNat aq).Key).Hour) == (((l1.getD i4.toNat aq).Key).Hour)) && ((((((l0.getD i4.toNat aq).Key).Dims_0) == (((l1.getD i4.toNat aq).Key).Dims_0)) && (((((l0.getD i4.toNat aq).Key).Dims_1) == (((l1.getD i4.toNat aq).Key).Dims_1)) && (((((l0.getD i4.toNat aq).Key).Dims_2) == (((l1.getD i4.toNat aq).Key).Dims_2)) && (((((l0.getD i4.toNat aq).Key).Dims_3) == (((l1.getD i4.toNat aq).Key).Dims_3)) && true)))) && true)) && ((((l0.getD i4.toNat aq).Value) == ((l1.getD i4.toNat aq).Value)) && true))) = true then (some (false)) else (cP K l0 l1 k (aH (i4 + 1)))) else none) else none) else (some (true)))
def cl (K:Nat) (l0:List aB) (l1:List aB):Option Bool:=(if ¬ ((l0.length:Int) = (l1.length:Int)) then (some (false)) else (cP K l0 l1 K 0))
def dI (K:Nat) (l0:List Bool) (l1:List Bool):Nat → Int → Option Bool
  | 0,_=>none
  | k + 1,i4=>(if i4 < (l0.length:Int) then (if 0 ≤ i4 then (if i4 < (l1.length:Int) then (if ((l0.getD i4.toNat false) != (l1.getD i4.toNat false)) = true then (some (false)) else (dI K l0 l1 k (aH (i4 + 1)))) else none) else none) else (some (true)))
def cQ (K:Nat) (l0:List Bool) (l1:List Bool):Option Bool:=(if ¬ ((l0.length:Int) = (l1.length:Int)) then (some (false)) else (dI K l0 l1 K 0))
def dN (K:Nat) (a0_0:Int) (a0_1:Int) (l0:List aB) (a0_3:Int) (a0_4:Int) (a0_5:Bool) (a0_6:Bool) (a0_7:Bool) (a0_8:Bool) (a0_9:Bool) (a0_10:Bool) (a0_11:Bool) (a0_12:Bool) (a0_13:List UInt8) (a0_14:List UInt8) (a0_15:List UInt8) (a0_16:List UInt8) (a0_17:Int) (a0_18:Int) (a0_19:Int) (a0_20:Int) (a0_21:Int) (a0_22:Int) (a0_23:Int) (a0_24:Int) (a0_25:Int) (l1:List Bool) (a1_0:Int) (a1_1:Int) (l2:List aB) (a1_3:Int) (a1_4:Int) (a1_5:Bool) (a1_6:Bool) (a1_7:Bool) (a1_8:Bool) (a1_9:Bool) (a1_10:Bool) (a1_11:Bool) (a1_12:Bool) (a1_13:List UInt8) (a1_14:List UInt8) (a1_15:List UInt8) (a1_16:List UInt8) (a1_17:Int) (a1_18:Int) (a1_19:Int) (a1_20:Int) (a1_21:Int) (a1_22:Int) (a1_23:Int) (a1_24:Int) (a1_25:Int) (l3:List Bool):Option Bool:=(if a0_0 = a1_0 then (if a0_1 = a1_1 then (if ((a0_3 == a1_3) && ((a0_4 == a1_4) && (((a0_5 == a1_5) && ((a0_6 == a1_6) && ((a0_7 == a1_7) && ((a0_8 == a1_8) && true)))) && (((a0_9 == a1_9) && ((a0_10 == a1_10) && ((a0_11 == a1_11) && ((a0_12 == a1_12) && true)))) && (((a0_13 == a1_13) && ((a0_14 == a1_14) && ((a0_15 == a1_15) && ((a0_16 == a1_16) && true)))) && true))))) = true then (if ((a0_17 == a1_17) && ((a0_18 == a1_18) && ((a0_19 == a1_19) && ((a0_20 == a1_20) && ((a0_21 == a1_21) && ((a0_22 == a1_22) && ((a0_23 == a1_23) && ((a0_24 == a1_24) && ((a0_25 == a1_25) && true))))))))) = true then ((cl K l0 l2).bind fun x3=>(if x3 = true then ((cQ K l1 l3).bind fun x4=>(some (x4))) else (some (false)))) else (some (false))) else (some (false))) else (some (false))) else (some (false)))
def bC (K:Nat) (l0:List aE) (l1:List aE):Nat → Int → Option Bool
  | 0,_=>none
  | k + 1,i4=>(if i4 < (l0.length:Int) then (if 0 ≤ i4 then (if i4 < (l1.length:Int) then ((dN K ((l0.getD i4.toNat ae).Kind) ((l0.getD i4.toNat ae).N) (((l0.getD i4.toNat ae).Facts).xs) (((l0.getD i4.toNat ae).Query).From) (((l0.getD i4.toNat ae).Query).To) (((l0.getD i4.toNat ae).Query).Group_0) (((l0.getD i4.toNat ae).Query).Group_1) (((l0.getD i4.toNat ae).Query).Group_2) (((l0.getD i4.toNat ae).Query).Group_3) (((l0.getD i4.toNat ae).Query).Has_0) (((l0.getD i4.toNat ae).Query).Has_1) (((l0.getD i4.toNat ae).Query).Has_2) (((l0.getD i4.toNat ae).Query).Has_3) (((l0.getD i4.toNat ae).Query).Filter_0) (((l0.getD i4.toNat ae).Query).Filter_1) (((l0.getD i4.toNat ae).Query).Filter_2) (((l0.getD i4.toNat ae).Query).Filter_3) (((l0.getD i4.toNat ae).Rules).Retain) (((l0.getD i4.toNat ae).Rules).SealLag) (((l0.getD i4.toNat ae).Rules).DayLag) (((l0.getD i4.toNat ae).Rules).MonthLag) (((l0.getD i4.toNat ae).Rules).ColdLag) (((l0.getD i4.toNat ae).Rules).Base) (((l0.getD i4.toNat ae).Rules).Cap) (((l0.getD i4.toNat ae).Rules).Queue) (((l0.getD i4.toNat ae).Rules).Wal) (((l0.getD i4.toNat ae).Fails).xs) ((l1.getD i4.toNat ae).Kind) ((l1.getD i4.toNat ae).N) (((l1.getD i4.toNat ae).Facts).xs) (((l1.getD i4.toNat ae).Query).From) (((l1.getD i4.toNat ae).Query).To) (((l1.getD i4.toNat ae).Query).Group_0) (((l1.getD i4.toNat ae).Query).Group_1) (((l1.getD i4.toNat ae).Query).Group_2) (((l1.getD i4.toNat ae).Query).Group_3) (((l1.getD i4.toNat ae).Query).Has_0) (((l1.getD i4.toNat ae).Query).Has_1) (((l1.getD i4.toNat ae).Query).Has_2) (((l1.getD i4.toNat ae).Query).Has_3) (((l1.getD i4.toNat ae).Query).Filter_0) (((l1.getD i4.toNat ae).Query).Filter_1) (((l1.getD i4.toNat ae).Query).Filter_2) (((l1.getD i4.toNat ae).Query).Filter_3) (((l1.getD i4.toNat ae).Rules).Retain) (((l1.getD i4.toNat ae).Rules).SealLag) (((l1.getD i4.toNat ae).Rules).DayLag) (((l1.getD i4.toNat ae).Rules).MonthLag) (((l1.getD i4.toNat ae).Rules).ColdLag) (((l1.getD i4.toNat ae).Rules).Base) (((l1.getD i4.toNat ae).Rules).Cap) (((l1.getD i4.toNat ae).Rules).Queue) (((l1.getD i4.toNat ae).Rules).Wal) (((l1.getD i4.toNat ae).Fails).xs)).bind fun x24=>(if (!x24) = true then (some (false)) else (bC K l0 l1 k (aH (i4 + 1))))) else none) else none) else (some (true)))
def bE (K:Nat) (l0:List aE) (l1:List aE):Option Bool:=(if ¬ ((l0.length:Int) = (l1.length:Int)) then (some (false)) else (bC K l0 l1 K 0))
def dt (K:Nat) (l0:List aE) (l1:List aE):Option Bool:=((bE K l0 l1).bind fun x2=>(some (x2)))
def gB (a0:Int):Bool:=(if 1 ≤ a0 then (decide (a0 ≤ 4)) else (false))
def gy (K:Nat) (a0_1:List UInt8) (a0_2:List UInt8) (a0_3:List UInt8) (a0_4:List UInt8) (a1:Int):Nat → Int → Option Int
  | 0,_=>none
  | k + 1,i5=>(if i5 < 4 then (if 0 ≤ i5 then (if i5 < (4:Int) then (if 16 < (([a0_1,a0_2,a0_3,a0_4].getD i5.toNat []).length:Int) then (some (4)) else (if a1 ≤ i5 then (if ¬ (([a0_1,a0_2,a0_3,a0_4].getD i5.toNat []) = ([]:List UInt8)) then (some (4)) else (gy K a0_1 a0_2 a0_3 a0_4 a1 k (aH (i5 + 1)))) else (gy K a0_1 a0_2 a0_3 a0_4 a1 k (aH (i5 + 1))))) else none) else none) else (some (0)))
def jv (K:Nat) (a0_0:Int) (a0_1:List UInt8) (a0_2:List UInt8) (a0_3:List UInt8) (a0_4:List UInt8) (a0_5:Int) (a1:Int):Option Int:=(iR (gB a1) fun x4=>(if (!x4) = true then (some (1)) else (if a0_0 < 0 then (some (2)) else (if 16777216 < a0_0 then (some (2)) else (if 1152921504606846976 < a0_5 then (some (2)) else (if a0_5 < (-1152921504606846976) then (some (2)) else (gy K a0_1 a0_2 a0_3 a0_4 a1 K 0)))))))
def gx (K:Nat) (l0:List aB) (a1:Int):Nat → Int → Option (Int × Int)
  | 0,_=>none
  | k + 1,i6=>(if i6 < (l0.length:Int) then (if 0 ≤ i6 then ((jv K (((l0.getD i6.toNat aq).Key).Hour) (((l0.getD i6.toNat aq).Key).Dims_0) (((l0.getD i6.toNat aq).Key).Dims_1) (((l0.getD i6.toNat aq).Key).Dims_2) (((l0.getD i6.toNat aq).Key).Dims_3) ((l0.getD i6.toNat aq).Value) a1).bind fun x28=>(if ¬ (x28 = 0) then (some ((x28,i6))) else (gx K l0 a1 k (aH (i6 + 1))))) else none) else (some ((0,0))))
def fM (K:Nat) (l0:List aB) (a1:Int):Option (Int × Int):=(iR (gB a1) fun x16=>(if (!x16) = true then (some ((1,0))) else (if (l0.length:Int) = 0 then (some ((1,0))) else (if 50 < (l0.length:Int) then (some ((1,0))) else (gx K l0 a1 K 0)))))
def iH (K:Nat) (l0:List aB) (a1:Int):Option Bool:=(iR (jb l0) fun x6=>((dt K [(⟨x6.1,x6.2.1,(⟨Value.slice none 0 0,[]⟩:Sl aB),(⟨x6.2.2.1,x6.2.2.2.1,x6.2.2.2.2.1,x6.2.2.2.2.2.1,x6.2.2.2.2.2.2.1,x6.2.2.2.2.2.2.2.1,x6.2.2.2.2.2.2.2.2.1,x6.2.2.2.2.2.2.2.2.2.1,x6.2.2.2.2.2.2.2.2.2.2.1,x6.2.2.2.2.2.2.2.2.2.2.2.1,x6.2.2.2.2.2.2.2.2.2.2.2.2.1,x6.2.2.2.2.2.2.2.2.2.2.2.2.2.1,x6.2.2.2.2.2.2.2.2.2.2.2.2.2.2.1,x6.2.2.2.2.2.2.2.2.2.2.2.2.2.2.2.1⟩:bc),(⟨x6.2.2.2.2.2.2.2.2.2.2.2.2.2.2.2.2.1,x6.2.2.2.2.2.2.2.2.2.2.2.2.2.2.2.2.2.1,x6.2.2.2.2.2.2.2.2.2.2.2.2.2.2.2.2.2.2.1,x6.2.2.2.2.2.2.2.2.2.2.2.2.2.2.2.2.2.2.2.1,x6.2.2.2.2.2.2.2.2.2.2.2.2.2.2.2.2.2.2.2.2.1,x6.2.2.2.2.2.2.2.2.2.2.2.2.2.2.2.2.2.2.2.2.2.1,x6.2.2.2.2.2.2.2.2.2.2.2.2.2.2.2.2.2.2.2.2.2.2.1,x6.2.2.2.2.2.2.2.2.2.2.2.2.2.2.2.2.2.2.2.2.2.2.2.1,x6.2.2.2.2.2.2.2.2.2.2.2.2.2.2.2.2.2.2.2.2.2.2.2.2⟩:aS),(⟨Value.slice none 0 0,[]⟩:Sl Bool)⟩:aE)] [(⟨1,0,(⟨Value.slice none 0 0,[]⟩:Sl aB),(⟨0,0,false,false,false,false,false,false,false,false,([]:List UInt8),([]:List UInt8),([]:List UInt8),([]:List UInt8)⟩:bc),(⟨0,0,0,0,0,0,0,0,0⟩:aS),(⟨Value.slice none 0 0,[]⟩:Sl Bool)⟩:aE)]).bind fun x8=>(if (!x8) = true then (some (false)) else ((fM K l0 a1).bind fun x10=>(some ((x10.1 == 0)))))))
def es (K:Nat) (p0_1:Int) (x150:((List (List UInt8)) × Int)) (x152:((List (List UInt8)) × Int)):Nat → Int → (List (List UInt8)) → Bool → Bool → (List UInt8) → (List UInt8) → (List UInt8) → (List UInt8) → Bool → Bool → Bool → Bool → Bool → Bool → Option ((List (List UInt8)) × Int × Int × Bool × Bool × Bool × Bool × Bool × Bool × Bool × Bool × (List UInt8) × (List UInt8) × (List UInt8) × (List UInt8))
  | 0,_,_,_,_,_,_,_,_,_,_,_,_,_,_=>none
  | k + 1,i4,l31,q25,q26,t45,t46,t47,t48,q27,q28,q29,q30,q31,q32=>(if i4 < p0_1 then ((cK l31 p0_1).bind fun x289=>(if x289.2 = ([46]:List UInt8) then (es K p0_1 x150 x152 k (aH (i4 + 1)) x289.1 q25 q26 t45 t46 t47 t48 q27 q28 q29 q30 q31 q32) else (iR (strings_CutPrefix x289.2 ([43]:List UInt8)) fun x291=>(if 0 ≤ i4 then (if i4 < (4:Int) then (Option.bind (if x291.2 = true then (if x291.1 = ([]:List UInt8) then (Option.map Sum.inr (es K p0_1 x150 x152 k (aH (i4 + 1)) x289.1 (if i4.toNat = 0 then x291.2 else q25) q26 t45 t46 t47 t48 (if i4.toNat = 1 then x291.2 else q27) (if i4.toNat = 2 then x291.2 else q28) (if i4.toNat = 3 then x291.2 else q29) q30 q31 q32)) else (some (Sum.inl x289.1))) else (some (Sum.inl x289.1))) fun z=>(rE z (fun v32=>(iR (strings_CutPrefix x291.1 ([61]:List UInt8)) fun x294=>((bz x294.2).bind fun u130=>((jx K x294.1).bind fun x296=>((bz x296.1).bind fun u132=>(es K p0_1 x150 x152 k (aH (i4 + 1)) v32 (if i4.toNat = 0 then x291.2 else q25) (if i4.toNat = 0 then true else q26) (if i4.toNat = 0 then x296.2 else t45) (if i4.toNat = 1 then x296.2 else t46) (if i4.toNat = 2 then x296.2 else t47) (if i4.toNat = 3 then x296.2 else t48) (if i4.toNat = 1 then x291.2 else q27) (if i4.toNat = 2 then x291.2 else q28) (if i4.toNat = 3 then x291.2 else q29) (if i4.toNat = 1 then true else q30) (if i4.toNat = 2 then true else q31) (if i4.toNat = 3 then true else q32))))))) (fun t_=>(some (t_))))) else none) else none)))) else (some ((l31,x150.2,x152.2,q25,q27,q28,q29,q26,q30,q31,q32,t45,t46,t47,t48))))
def ge (K:Nat) (l0:List (List UInt8)) (p0_1:Int):Option ((List (List UInt8)) × Int × Int × Bool × Bool × Bool × Bool × Bool × Bool × Bool × Bool × (List UInt8) × (List UInt8) × (List UInt8) × (List UInt8)):=((bi K l0 p0_1).bind fun x150=>((bi K x150.1 p0_1).bind fun x152=>(es K p0_1 x150 x152 K 0 x152.1 false false ([]:List UInt8) ([]:List UInt8) ([]:List UInt8) ([]:List UInt8) false false false false false false)))
def iX (a0_3:Int) (a0_4:Int) (a0_5:Bool) (a0_6:Bool) (a0_7:Bool) (a0_8:Bool) (a0_9:Bool) (a0_10:Bool) (a0_11:Bool) (a0_12:Bool) (a0_13:List UInt8) (a0_14:List UInt8) (a0_15:List UInt8) (a0_16:List UInt8):(Int × Int × Int × Int × Bool × Bool × Bool × Bool × Bool × Bool × Bool × Bool × (List UInt8) × (List UInt8) × (List UInt8) × (List UInt8) × Int × Int × Int × Int × Int × Int × Int × Int × Int):=((2,0,0,0,false,false,false,false,false,false,false,false,([]:List UInt8),([]:List UInt8),([]:List UInt8),([]:List UInt8),0,0,0,0,0,0,0,0,0))
def kB (a0:Int):Bool:=(if 1 ≤ a0 then (decide (a0 ≤ 4)) else (false))
def gT (K:Nat) (a0_2:Bool) (a0_3:Bool) (a0_4:Bool) (a0_5:Bool) (a0_6:Bool) (a0_7:Bool) (a0_8:Bool) (a0_9:Bool) (a0_10:List UInt8) (a0_11:List UInt8) (a0_12:List UInt8) (a0_13:List UInt8) (a1:Int):Nat → Int → Option Int
  | 0,_=>none
  | k + 1,i5=>(if i5 < 4 then (Option.bind (if 0 ≤ i5 then (if i5 < (4:Int) then (if a1 ≤ i5 then (if ([a0_2,a0_3,a0_4,a0_5].getD i5.toNat false) = true then (some (Sum.inr (4))) else (if ([a0_6,a0_7,a0_8,a0_9].getD i5.toNat false) = true then (some (Sum.inr (4))) else (if ¬ (([a0_10,a0_11,a0_12,a0_13].getD i5.toNat []) = ([]:List UInt8)) then (if (!([a0_6,a0_7,a0_8,a0_9].getD i5.toNat false)) = true then (some (Sum.inr (4))) else (if 16 < (([a0_10,a0_11,a0_12,a0_13].getD i5.toNat []).length:Int) then (some (Sum.inr (4))) else (some (Sum.inl ())))) else (if 16 < (([a0_10,a0_11,a0_12,a0_13].getD i5.toNat []).length:Int) then (some (Sum.inr (4))) else (some (Sum.inl ())))))) else (if ¬ (([a0_10,a0_11,a0_12,a0_13].getD i5.toNat []) = ([]:List UInt8)) then (if (!([a0_6,a0_7,a0_8,a0_9].getD i5.toNat false)) = true then (some (Sum.inr (4))) else (if 16 < (([a0_10,a0_11,a0_12,a0_13].getD i5.toNat []).length:Int) then (some (Sum.inr (4))) else (some (Sum.inl ())))) else (if 16 < (([a0_10,a0_11,a0_12,a0_13].getD i5.toNat []).length:Int) then (some (Sum.inr (4))) else (some (Sum.inl ()))))) else none) else none) fun z=>(rE z (fun v12=>(gT K a0_2 a0_3 a0_4 a0_5 a0_6 a0_7 a0_8 a0_9 a0_10 a0_11 a0_12 a0_13 a1 k (aH (i5 + 1)))) (fun t_=>(some (t_))))) else (some (0)))
def fN (K:Nat) (a0_0:Int) (a0_1:Int) (a0_2:Bool) (a0_3:Bool) (a0_4:Bool) (a0_5:Bool) (a0_6:Bool) (a0_7:Bool) (a0_8:Bool) (a0_9:Bool) (a0_10:List UInt8) (a0_11:List UInt8) (a0_12:List UInt8) (a0_13:List UInt8) (a1:Int):Option Int:=(iR (kB a1) fun x10=>(if (!x10) = true then (some (1)) else (if a0_0 < 0 then (some (2)) else (if a0_1 < a0_0 then (some (2)) else (if 16777217 < a0_1 then (some (2)) else (gT K a0_2 a0_3 a0_4 a0_5 a0_6 a0_7 a0_8 a0_9 a0_10 a0_11 a0_12 a0_13 a1 K 0))))))
def iF (K:Nat) (a0_3:Int) (a0_4:Int) (a0_5:Bool) (a0_6:Bool) (a0_7:Bool) (a0_8:Bool) (a0_9:Bool) (a0_10:Bool) (a0_11:Bool) (a0_12:Bool) (a0_13:List UInt8) (a0_14:List UInt8) (a0_15:List UInt8) (a0_16:List UInt8) (a1:Int):Option Bool:=(iR (iX a0_3 a0_4 a0_5 a0_6 a0_7 a0_8 a0_9 a0_10 a0_11 a0_12 a0_13 a0_14 a0_15 a0_16) fun x6=>((dt K [(⟨x6.1,x6.2.1,(⟨Value.slice none 0 0,[]⟩:Sl aB),(⟨x6.2.2.1,x6.2.2.2.1,x6.2.2.2.2.1,x6.2.2.2.2.2.1,x6.2.2.2.2.2.2.1,x6.2.2.2.2.2.2.2.1,x6.2.2.2.2.2.2.2.2.1,x6.2.2.2.2.2.2.2.2.2.1,x6.2.2.2.2.2.2.2.2.2.2.1,x6.2.2.2.2.2.2.2.2.2.2.2.1,x6.2.2.2.2.2.2.2.2.2.2.2.2.1,x6.2.2.2.2.2.2.2.2.2.2.2.2.2.1,x6.2.2.2.2.2.2.2.2.2.2.2.2.2.2.1,x6.2.2.2.2.2.2.2.2.2.2.2.2.2.2.2.1⟩:bc),(⟨x6.2.2.2.2.2.2.2.2.2.2.2.2.2.2.2.2.1,x6.2.2.2.2.2.2.2.2.2.2.2.2.2.2.2.2.2.1,x6.2.2.2.2.2.2.2.2.2.2.2.2.2.2.2.2.2.2.1,x6.2.2.2.2.2.2.2.2.2.2.2.2.2.2.2.2.2.2.2.1,x6.2.2.2.2.2.2.2.2.2.2.2.2.2.2.2.2.2.2.2.2.1,x6.2.2.2.2.2.2.2.2.2.2.2.2.2.2.2.2.2.2.2.2.2.1,x6.2.2.2.2.2.2.2.2.2.2.2.2.2.2.2.2.2.2.2.2.2.2.1,x6.2.2.2.2.2.2.2.2.2.2.2.2.2.2.2.2.2.2.2.2.2.2.2.1,x6.2.2.2.2.2.2.2.2.2.2.2.2.2.2.2.2.2.2.2.2.2.2.2.2⟩:aS),(⟨Value.slice none 0 0,[]⟩:Sl Bool)⟩:aE)] [(⟨2,0,(⟨Value.slice none 0 0,[]⟩:Sl aB),(⟨0,0,false,false,false,false,false,false,false,false,([]:List UInt8),([]:List UInt8),([]:List UInt8),([]:List UInt8)⟩:bc),(⟨0,0,0,0,0,0,0,0,0⟩:aS),(⟨Value.slice none 0 0,[]⟩:Sl Bool)⟩:aE)]).bind fun x8=>(if (!x8) = true then (some (false)) else ((fN K a0_3 a0_4 a0_5 a0_6 a0_7 a0_8 a0_9 a0_10 a0_11 a0_12 a0_13 a0_14 a0_15 a0_16 a1).bind fun x10=>(some ((x10 == 0)))))))
def hX (p0_0:Int) (p0_1:Int) (p0_3:Int) (p0_4:Int) (p0_5:Bool) (p0_6:Bool) (p0_7:Bool) (p0_8:Bool) (p0_9:Bool) (p0_10:Bool) (p0_11:Bool) (p0_12:Bool) (p0_13:List UInt8) (p0_14:List UInt8) (p0_15:List UInt8) (p0_16:List UInt8) (p0_17:Int) (p0_18:Int) (p0_19:Int) (p0_20:Int) (p0_21:Int) (p0_22:Int) (p0_23:Int) (p0_24:Int) (p0_25:Int) (p1_0:Int):Unit:=(())
def hQ (a0_17:Int) (a0_18:Int) (a0_19:Int) (a0_20:Int) (a0_21:Int) (a0_22:Int) (a0_23:Int) (a0_24:Int) (a0_25:Int):(Int × Int × Int × Int × Bool × Bool × Bool × Bool × Bool × Bool × Bool × Bool × (List UInt8) × (List UInt8) × (List UInt8) × (List UInt8) × Int × Int × Int × Int × Int × Int × Int × Int × Int):=((3,0,0,0,false,false,false,false,false,false,false,false,([]:List UInt8),([]:List UInt8),([]:List UInt8),([]:List UInt8),0,0,0,0,0,0,0,0,0))
def iJ:(Int × Int × Int × Int × Int × Int × Int × Int × Int × Int × Int × Int × Int × Int × Int × Int × Int × Int):=((1,1048576,0,1048576,0,1048576,0,1048576,0,1048576,1,1048576,1,1048576,1,64,100,1048576))
def hE (a0_0:Int) (a0_1:Int) (a0_2:Int) (a0_3:Int) (a0_4:Int) (a0_5:Int) (a0_6:Int) (a0_7:Int) (a0_8:Int):(Int × Int × Int × Int × Int × Int × Int × Int × Int):=((a0_0,a0_1,a0_2,a0_3,a0_4,a0_5,a0_6,a0_7,a0_8))
def fh (a0_0:Int) (a0_1:Int) (a0_2:Int) (a0_3:Int) (a0_4:Int) (a0_5:Int) (a0_6:Int) (a0_7:Int) (a0_8:Int):Option Int:=(iR (iJ) fun x4=>(iR (hE a0_0 a0_1 a0_2 a0_3 a0_4 a0_5 a0_6 a0_7 a0_8) fun x6=>(if 0 < (9:Int) then (if x6.1 < x4.1 then (some (2)) else (if x4.2.1 < x6.1 then (some (2)) else (if 1 < (9:Int) then (if x6.2.1 < x4.2.2.1 then (some (2)) else (if x4.2.2.2.1 < x6.2.1 then (some (2)) else (if 2 < (9:Int) then (if x6.2.2.1 < x4.2.2.2.2.1 then (some (2)) else (if x4.2.2.2.2.2.1 < x6.2.2.1 then (some (2)) else (if 3 < (9:Int) then (if x6.2.2.2.1 < x4.2.2.2.2.2.2.1 then (some (2)) else (if x4.2.2.2.2.2.2.2.1 < x6.2.2.2.1 then (some (2)) else (if 4 < (9:Int) then (if x6.2.2.2.2.1 < x4.2.2.2.2.2.2.2.2.1 then (some (2)) else (if x4.2.2.2.2.2.2.2.2.2.1 < x6.2.2.2.2.1 then (some (2)) else (if 5 < (9:Int) then (if x6.2.2.2.2.2.1 < x4.2.2.2.2.2.2.2.2.2.2.1 then (some (2)) else (if x4.2.2.2.2.2.2.2.2.2.2.2.1 < x6.2.2.2.2.2.1 then (some (2)) else (if 6 < (9:Int) then (if x6.2.2.2.2.2.2.1 < x4.2.2.2.2.2.2.2.2.2.2.2.2.1 then (some (2)) else (if x4.2.2.2.2.2.2.2.2.2.2.2.2.2.1 < x6.2.2.2.2.2.2.1 then (some (2)) else (if 7 < (9:Int) then (if x6.2.2.2.2.2.2.2.1 < x4.2.2.2.2.2.2.2.2.2.2.2.2.2.2.1 then (some (2)) else (if x4.2.2.2.2.2.2.2.2.2.2.2.2.2.2.2.1 < x6.2.2.2.2.2.2.2.1 then (some (2)) else (if 8 < (9:Int) then (if x6.2.2.2.2.2.2.2.2 < x4.2.2.2.2.2.2.2.2.2.2.2.2.2.2.2.2.1 then (some (2)) else (if x4.2.2.2.2.2.2.2.2.2.2.2.2.2.2.2.2.2 < x6.2.2.2.2.2.2.2.2 then (some (2)) else (some (0)))) else none))) else none))) else none))) else none))) else none))) else none))) else none))) else none))) else none)))
def gS (K:Nat) (a0_17:Int) (a0_18:Int) (a0_19:Int) (a0_20:Int) (a0_21:Int) (a0_22:Int) (a0_23:Int) (a0_24:Int) (a0_25:Int) (a1:Int):Option Bool:=(iR (hQ a0_17 a0_18 a0_19 a0_20 a0_21 a0_22 a0_23 a0_24 a0_25) fun x6=>((dt K [(⟨x6.1,x6.2.1,(⟨Value.slice none 0 0,[]⟩:Sl aB),(⟨x6.2.2.1,x6.2.2.2.1,x6.2.2.2.2.1,x6.2.2.2.2.2.1,x6.2.2.2.2.2.2.1,x6.2.2.2.2.2.2.2.1,x6.2.2.2.2.2.2.2.2.1,x6.2.2.2.2.2.2.2.2.2.1,x6.2.2.2.2.2.2.2.2.2.2.1,x6.2.2.2.2.2.2.2.2.2.2.2.1,x6.2.2.2.2.2.2.2.2.2.2.2.2.1,x6.2.2.2.2.2.2.2.2.2.2.2.2.2.1,x6.2.2.2.2.2.2.2.2.2.2.2.2.2.2.1,x6.2.2.2.2.2.2.2.2.2.2.2.2.2.2.2.1⟩:bc),(⟨x6.2.2.2.2.2.2.2.2.2.2.2.2.2.2.2.2.1,x6.2.2.2.2.2.2.2.2.2.2.2.2.2.2.2.2.2.1,x6.2.2.2.2.2.2.2.2.2.2.2.2.2.2.2.2.2.2.1,x6.2.2.2.2.2.2.2.2.2.2.2.2.2.2.2.2.2.2.2.1,x6.2.2.2.2.2.2.2.2.2.2.2.2.2.2.2.2.2.2.2.2.1,x6.2.2.2.2.2.2.2.2.2.2.2.2.2.2.2.2.2.2.2.2.2.1,x6.2.2.2.2.2.2.2.2.2.2.2.2.2.2.2.2.2.2.2.2.2.2.1,x6.2.2.2.2.2.2.2.2.2.2.2.2.2.2.2.2.2.2.2.2.2.2.2.1,x6.2.2.2.2.2.2.2.2.2.2.2.2.2.2.2.2.2.2.2.2.2.2.2.2⟩:aS),(⟨Value.slice none 0 0,[]⟩:Sl Bool)⟩:aE)] [(⟨3,0,(⟨Value.slice none 0 0,[]⟩:Sl aB),(⟨0,0,false,false,false,false,false,false,false,false,([]:List UInt8),([]:List UInt8),([]:List UInt8),([]:List UInt8)⟩:bc),(⟨0,0,0,0,0,0,0,0,0⟩:aS),(⟨Value.slice none 0 0,[]⟩:Sl Bool)⟩:aE)]).bind fun x8=>(if (!x8) = true then (some (false)) else ((fh a0_17 a0_18 a0_19 a0_20 a0_21 a0_22 a0_23 a0_24 a0_25).bind fun x10=>(some ((x10 == 0)))))))
def eV (K:Nat) (x4:((List (List UInt8)) × (List UInt8))):Nat → Int → (List Bool) → Option ((List (List UInt8)) × (List Bool))
  | 0,_,_=>none
  | k + 1,i4,l6=>(if i4 < ((bY x4.2).length:Int) then (if 0 ≤ i4 then (if ((bY x4.2).getD i4.toNat 0) = 48 then ((bz true).bind fun u103=>(if (l6.length + [(((bY x4.2).getD i4.toNat 0) == 49)].length) * 1 ≤ 140737488355328 then (eV K x4 k (aH (i4 + 1)) (l6 ++ [(((bY x4.2).getD i4.toNat 0) == 49)])) else none)) else ((bz (((bY x4.2).getD i4.toNat 0) == 49)).bind fun u104=>(if (l6.length + [(((bY x4.2).getD i4.toNat 0) == 49)].length) * 1 ≤ 140737488355328 then (eV K x4 k (aH (i4 + 1)) (l6 ++ [(((bY x4.2).getD i4.toNat 0) == 49)])) else none))) else none) else (some ((x4.1,l6))))
def gl (K:Nat) (l0:List (List UInt8)) (p0_1:Int):Option ((List (List UInt8)) × (List Bool)):=(if (l0.length:Int) = 0 then (some ((l0,([]:List Bool)))) else ((cK l0 p0_1).bind fun x4=>((bz (!(x4.2 == ([]:List UInt8)))).bind fun u55=>(if x4.2.length ≤ 9223372036854775807 then (eV K x4 K 0 ([]:List Bool)) else none))))
def iY (l0:List Bool):(Int × Int × Int × Int × Bool × Bool × Bool × Bool × Bool × Bool × Bool × Bool × (List UInt8) × (List UInt8) × (List UInt8) × (List UInt8) × Int × Int × Int × Int × Int × Int × Int × Int × Int):=((6,0,0,0,false,false,false,false,false,false,false,false,([]:List UInt8),([]:List UInt8),([]:List UInt8),([]:List UInt8),0,0,0,0,0,0,0,0,0))
def iA (K:Nat) (l0:List Bool) (a1:Int):Option Bool:=(iR (iY l0) fun x4=>((dt K [(⟨x4.1,x4.2.1,(⟨Value.slice none 0 0,[]⟩:Sl aB),(⟨x4.2.2.1,x4.2.2.2.1,x4.2.2.2.2.1,x4.2.2.2.2.2.1,x4.2.2.2.2.2.2.1,x4.2.2.2.2.2.2.2.1,x4.2.2.2.2.2.2.2.2.1,x4.2.2.2.2.2.2.2.2.2.1,x4.2.2.2.2.2.2.2.2.2.2.1,x4.2.2.2.2.2.2.2.2.2.2.2.1,x4.2.2.2.2.2.2.2.2.2.2.2.2.1,x4.2.2.2.2.2.2.2.2.2.2.2.2.2.1,x4.2.2.2.2.2.2.2.2.2.2.2.2.2.2.1,x4.2.2.2.2.2.2.2.2.2.2.2.2.2.2.2.1⟩:bc),(⟨x4.2.2.2.2.2.2.2.2.2.2.2.2.2.2.2.2.1,x4.2.2.2.2.2.2.2.2.2.2.2.2.2.2.2.2.2.1,x4.2.2.2.2.2.2.2.2.2.2.2.2.2.2.2.2.2.2.1,x4.2.2.2.2.2.2.2.2.2.2.2.2.2.2.2.2.2.2.2.1,x4.2.2.2.2.2.2.2.2.2.2.2.2.2.2.2.2.2.2.2.2.1,x4.2.2.2.2.2.2.2.2.2.2.2.2.2.2.2.2.2.2.2.2.2.1,x4.2.2.2.2.2.2.2.2.2.2.2.2.2.2.2.2.2.2.2.2.2.2.1,x4.2.2.2.2.2.2.2.2.2.2.2.2.2.2.2.2.2.2.2.2.2.2.2.1,x4.2.2.2.2.2.2.2.2.2.2.2.2.2.2.2.2.2.2.2.2.2.2.2.2⟩:aS),(⟨Value.slice none 0 0,[]⟩:Sl Bool)⟩:aE)] [(⟨6,0,(⟨Value.slice none 0 0,[]⟩:Sl aB),(⟨0,0,false,false,false,false,false,false,false,false,([]:List UInt8),([]:List UInt8),([]:List UInt8),([]:List UInt8)⟩:bc),(⟨0,0,0,0,0,0,0,0,0⟩:aS),(⟨Value.slice none 0 0,[]⟩:Sl Bool)⟩:aE)]).bind fun x6=>(if (!x6) = true then (some (false)) else (some (decide ((l0.length:Int) ≤ 1000))))))
def hJ:(Int × Int × Int × Int × Bool × Bool × Bool × Bool × Bool × Bool × Bool × Bool × (List UInt8) × (List UInt8) × (List UInt8) × (List UInt8) × Int × Int × Int × Int × Int × Int × Int × Int × Int):=((9,0,0,0,false,false,false,false,false,false,false,false,([]:List UInt8),([]:List UInt8),([]:List UInt8),([]:List UInt8),0,0,0,0,0,0,0,0,0))
def gL (K:Nat) (a1:Int):Option Bool:=(iR (hJ) fun x4=>((dt K [(⟨x4.1,x4.2.1,(⟨Value.slice none 0 0,[]⟩:Sl aB),(⟨x4.2.2.1,x4.2.2.2.1,x4.2.2.2.2.1,x4.2.2.2.2.2.1,x4.2.2.2.2.2.2.1,x4.2.2.2.2.2.2.2.1,x4.2.2.2.2.2.2.2.2.1,x4.2.2.2.2.2.2.2.2.2.1,x4.2.2.2.2.2.2.2.2.2.2.1,x4.2.2.2.2.2.2.2.2.2.2.2.1,x4.2.2.2.2.2.2.2.2.2.2.2.2.1,x4.2.2.2.2.2.2.2.2.2.2.2.2.2.1,x4.2.2.2.2.2.2.2.2.2.2.2.2.2.2.1,x4.2.2.2.2.2.2.2.2.2.2.2.2.2.2.2.1⟩:bc),(⟨x4.2.2.2.2.2.2.2.2.2.2.2.2.2.2.2.2.1,x4.2.2.2.2.2.2.2.2.2.2.2.2.2.2.2.2.2.1,x4.2.2.2.2.2.2.2.2.2.2.2.2.2.2.2.2.2.2.1,x4.2.2.2.2.2.2.2.2.2.2.2.2.2.2.2.2.2.2.2.1,x4.2.2.2.2.2.2.2.2.2.2.2.2.2.2.2.2.2.2.2.2.1,x4.2.2.2.2.2.2.2.2.2.2.2.2.2.2.2.2.2.2.2.2.2.1,x4.2.2.2.2.2.2.2.2.2.2.2.2.2.2.2.2.2.2.2.2.2.2.1,x4.2.2.2.2.2.2.2.2.2.2.2.2.2.2.2.2.2.2.2.2.2.2.2.1,x4.2.2.2.2.2.2.2.2.2.2.2.2.2.2.2.2.2.2.2.2.2.2.2.2⟩:aS),(⟨Value.slice none 0 0,[]⟩:Sl Bool)⟩:aE)] [(⟨9,0,(⟨Value.slice none 0 0,[]⟩:Sl aB),(⟨0,0,false,false,false,false,false,false,false,false,([]:List UInt8),([]:List UInt8),([]:List UInt8),([]:List UInt8)⟩:bc),(⟨0,0,0,0,0,0,0,0,0⟩:aS),(⟨Value.slice none 0 0,[]⟩:Sl Bool)⟩:aE)]).bind fun x6=>(if (!x6) = true then (some (false)) else (some (true)))))
def gh:((List UInt8) × (List UInt8) × (List UInt8) × (List UInt8)):=((([116,105,99,107]:List UInt8),([119,111,114,107]:List UInt8),([97,114,109]:List UInt8),([99,114,97,115,104]:List UInt8)))
def eM:(Int × Int × Int × Int):=((4,5,7,8))
def gZ (a0_0:Int) (a0_1:Int):(Int × Int × Int × Int × Bool × Bool × Bool × Bool × Bool × Bool × Bool × Bool × (List UInt8) × (List UInt8) × (List UInt8) × (List UInt8) × Int × Int × Int × Int × Int × Int × Int × Int × Int):=(if a0_0 = 1 then ((a0_1,a0_0,0,0,false,false,false,false,false,false,false,false,([]:List UInt8),([]:List UInt8),([]:List UInt8),([]:List UInt8),0,0,0,0,0,0,0,0,0)) else (if a0_0 = 2 then ((a0_1,a0_0,0,0,false,false,false,false,false,false,false,false,([]:List UInt8),([]:List UInt8),([]:List UInt8),([]:List UInt8),0,0,0,0,0,0,0,0,0)) else (if a0_0 = 3 then ((a0_1,a0_0,0,0,false,false,false,false,false,false,false,false,([]:List UInt8),([]:List UInt8),([]:List UInt8),([]:List UInt8),0,0,0,0,0,0,0,0,0)) else (if a0_0 = 4 then ((0,a0_0,0,0,false,false,false,false,false,false,false,false,([]:List UInt8),([]:List UInt8),([]:List UInt8),([]:List UInt8),0,0,0,0,0,0,0,0,0)) else (if a0_0 = 5 then ((0,a0_0,0,0,false,false,false,false,false,false,false,false,([]:List UInt8),([]:List UInt8),([]:List UInt8),([]:List UInt8),0,0,0,0,0,0,0,0,0)) else (if a0_0 = 7 then ((0,a0_0,0,0,false,false,false,false,false,false,false,false,([]:List UInt8),([]:List UInt8),([]:List UInt8),([]:List UInt8),0,0,0,0,0,0,0,0,0)) else (if a0_0 = 8 then ((0,a0_0,0,0,false,false,false,false,false,false,false,false,([]:List UInt8),([]:List UInt8),([]:List UInt8),([]:List UInt8),0,0,0,0,0,0,0,0,0)) else (if a0_0 = 6 then ((a0_1,a0_0,0,0,false,false,false,false,false,false,false,false,([]:List UInt8),([]:List UInt8),([]:List UInt8),([]:List UInt8),0,0,0,0,0,0,0,0,0)) else ((a0_1,a0_0,0,0,false,false,false,false,false,false,false,false,([]:List UInt8),([]:List UInt8),([]:List UInt8),([]:List UInt8),0,0,0,0,0,0,0,0,0))))))))))
def kV (a1:Int):(Int × Int):=(iR (gB a1) fun x4=>(if (!x4) = true then ((1,0)) else ((1,0))))
def gN (K:Nat) (a0_0:Int) (a0_1:Int) (a1:Int):Option Bool:=(iR (gZ a0_0 a0_1) fun x10=>(if a0_0 < 1 then (some (false)) else (if 9 < a0_0 then (some (false)) else ((dt K [(⟨x10.2.1,x10.1,(⟨Value.slice none 0 0,[]⟩:Sl aB),(⟨x10.2.2.1,x10.2.2.2.1,x10.2.2.2.2.1,x10.2.2.2.2.2.1,x10.2.2.2.2.2.2.1,x10.2.2.2.2.2.2.2.1,x10.2.2.2.2.2.2.2.2.1,x10.2.2.2.2.2.2.2.2.2.1,x10.2.2.2.2.2.2.2.2.2.2.1,x10.2.2.2.2.2.2.2.2.2.2.2.1,x10.2.2.2.2.2.2.2.2.2.2.2.2.1,x10.2.2.2.2.2.2.2.2.2.2.2.2.2.1,x10.2.2.2.2.2.2.2.2.2.2.2.2.2.2.1,x10.2.2.2.2.2.2.2.2.2.2.2.2.2.2.2.1⟩:bc),(⟨x10.2.2.2.2.2.2.2.2.2.2.2.2.2.2.2.2.1,x10.2.2.2.2.2.2.2.2.2.2.2.2.2.2.2.2.2.1,x10.2.2.2.2.2.2.2.2.2.2.2.2.2.2.2.2.2.2.1,x10.2.2.2.2.2.2.2.2.2.2.2.2.2.2.2.2.2.2.2.1,x10.2.2.2.2.2.2.2.2.2.2.2.2.2.2.2.2.2.2.2.2.1,x10.2.2.2.2.2.2.2.2.2.2.2.2.2.2.2.2.2.2.2.2.2.1,x10.2.2.2.2.2.2.2.2.2.2.2.2.2.2.2.2.2.2.2.2.2.2.1,x10.2.2.2.2.2.2.2.2.2.2.2.2.2.2.2.2.2.2.2.2.2.2.2.1,x10.2.2.2.2.2.2.2.2.2.2.2.2.2.2.2.2.2.2.2.2.2.2.2.2⟩:aS),(⟨Value.slice none 0 0,[]⟩:Sl Bool)⟩:aE)] [(⟨a0_0,0,(⟨Value.slice none 0 0,[]⟩:Sl aB),(⟨0,0,false,false,false,false,false,false,false,false,([]:List UInt8),([]:List UInt8),([]:List UInt8),([]:List UInt8)⟩:bc),(⟨0,0,0,0,0,0,0,0,0⟩:aS),(⟨Value.slice none 0 0,[]⟩:Sl Bool)⟩:aE)]).bind fun x12=>(if (!x12) = true then (some (false)) else (if a0_0 = 1 then (iR (kV a1) fun x16=>(some ((x16.1 == 0)))) else (if a0_0 = 2 then ((fN K 0 0 false false false false false false false false ([]:List UInt8) ([]:List UInt8) ([]:List UInt8) ([]:List UInt8) a1).bind fun x17=>(some ((x17 == 0)))) else (if a0_0 = 3 then ((fh 0 0 0 0 0 0 0 0 0).bind fun x18=>(some ((x18 == 0)))) else (some (true))))))))))
def cm (K:Nat) (p0_1:Int):Nat → Int → Int → (List (List UInt8)) → Int → Int → Int → Int → Int → Int → Int → Int → Option (Int × (List aB) × Int × Int × Bool × Bool × Bool × Bool × Bool × Bool × Bool × Bool × (List UInt8) × (List UInt8) × (List UInt8) × (List UInt8) × (List (List UInt8)) × Int × Int × Int × Int × Int × Int × Int × Int × Int × (List Bool) × Int)
  | 0,_,_,_,_,_,_,_,_,_,_,_=>none
  | k + 1,i29,i30,l6,i31,i33,i34,i35,i36,i37,i38,i39=>(if i30 < 9 then (if 0 ≤ i30 then (if i30 < (9:Int) then (if i30 = 0 then ((bi K l6 p0_1).bind fun x144=>(cm K p0_1 k x144.2 (aH (i30 + 1)) x144.1 i31 i33 i34 i35 i36 i37 i38 i39)) else (if i30 = 1 then ((bi K l6 p0_1).bind fun x146=>(cm K p0_1 k i29 (aH (i30 + 1)) x146.1 x146.2 i33 i34 i35 i36 i37 i38 i39)) else (if i30 = 2 then ((bi K l6 p0_1).bind fun x148=>(cm K p0_1 k i29 (aH (i30 + 1)) x148.1 i31 x148.2 i34 i35 i36 i37 i38 i39)) else (if i30 = 3 then ((bi K l6 p0_1).bind fun x150=>(cm K p0_1 k i29 (aH (i30 + 1)) x150.1 i31 i33 x150.2 i35 i36 i37 i38 i39)) else (if i30 = 4 then ((bi K l6 p0_1).bind fun x152=>(cm K p0_1 k i29 (aH (i30 + 1)) x152.1 i31 i33 i34 x152.2 i36 i37 i38 i39)) else (if i30 = 5 then ((bi K l6 p0_1).bind fun x154=>(cm K p0_1 k i29 (aH (i30 + 1)) x154.1 i31 i33 i34 i35 x154.2 i37 i38 i39)) else (if i30 = 6 then ((bi K l6 p0_1).bind fun x156=>(cm K p0_1 k i29 (aH (i30 + 1)) x156.1 i31 i33 i34 i35 i36 x156.2 i38 i39)) else (if i30 = 7 then ((bi K l6 p0_1).bind fun x158=>(cm K p0_1 k i29 (aH (i30 + 1)) x158.1 i31 i33 i34 i35 i36 i37 x158.2 i39)) else (if i30 = 8 then ((bi K l6 p0_1).bind fun x160=>(cm K p0_1 k i29 (aH (i30 + 1)) x160.1 i31 i33 i34 i35 i36 i37 i38 x160.2)) else none))))))))) else none) else none) else (if (l6.length:Int) = 0 then ((gS K i29 i31 i33 i34 i35 i36 i37 i38 i39 p0_1).bind fun x162=>((bz x162).bind fun u42=>(some ((3,([]:List aB),0,0,false,false,false,false,false,false,false,false,([]:List UInt8),([]:List UInt8),([]:List UInt8),([]:List UInt8),l6,i29,i31,i33,i34,i35,i36,i37,i38,i39,([]:List Bool),0))))) else ((bz false).bind fun u43=>(some ((3,([]:List aB),0,0,false,false,false,false,false,false,false,false,([]:List UInt8),([]:List UInt8),([]:List UInt8),([]:List UInt8),l6,i29,i31,i33,i34,i35,i36,i37,i38,i39,([]:List Bool),0))))))
def fj (K:Nat) (p0_1:Int) (x96:((List (List UInt8)) × (List UInt8))) (x170:((List UInt8) × (List UInt8) × (List UInt8) × (List UInt8))):Nat → Int → (List (List UInt8)) → Int → Int → Option (Int × (List aB) × Int × Int × Bool × Bool × Bool × Bool × Bool × Bool × Bool × Bool × (List UInt8) × (List UInt8) × (List UInt8) × (List UInt8) × (List (List UInt8)) × Int × Int × Int × Int × Int × Int × Int × Int × Int × (List Bool) × Int)
  | 0,_,_,_,_=>none
  | k + 1,i40,l7,i41,i42=>(if i40 < 4 then (if 0 ≤ i40 then (if i40 < (4:Int) then (if ([x170.1,x170.2.1,x170.2.2.1,x170.2.2.2].getD i40.toNat []) = x96.2 then (iR (eM) fun x181=>((bi K l7 p0_1).bind fun x182=>(fj K p0_1 x96 x170 k (aH (i40 + 1)) x182.1 ([x181.1,x181.2.1,x181.2.2.1,x181.2.2.2].getD i40.toNat 0) x182.2))) else (fj K p0_1 x96 x170 k (aH (i40 + 1)) l7 i41 i42)) else none) else none) else (if (l7.length:Int) = 0 then ((gN K i41 i42 p0_1).bind fun x184=>((bz x184).bind fun u54=>(some ((i41,([]:List aB),0,0,false,false,false,false,false,false,false,false,([]:List UInt8),([]:List UInt8),([]:List UInt8),([]:List UInt8),l7,0,0,0,0,0,0,0,0,0,([]:List Bool),i42))))) else ((bz false).bind fun u55=>(some ((i41,([]:List aB),0,0,false,false,false,false,false,false,false,false,([]:List UInt8),([]:List UInt8),([]:List UInt8),([]:List UInt8),l7,0,0,0,0,0,0,0,0,0,([]:List Bool),i42))))))
def gp (K:Nat) (l0:List (List UInt8)) (p0_1:Int):Option (Int × (List aB) × Int × Int × Bool × Bool × Bool × Bool × Bool × Bool × Bool × Bool × (List UInt8) × (List UInt8) × (List UInt8) × (List UInt8) × (List (List UInt8)) × Int × Int × Int × Int × Int × Int × Int × Int × Int × (List Bool) × Int):=((gq l0 p0_1).bind fun x96=>(if x96.2 = ([105,110,103,101,115,116]:List UInt8) then ((gd K x96.1 p0_1).bind fun x98=>(if (x98.2.length:Int) = 0 then ((iH K x98.1 p0_1).bind fun x100=>((bz x100).bind fun u31=>(some ((1,x98.1,0,0,false,false,false,false,false,false,false,false,([]:List UInt8),([]:List UInt8),([]:List UInt8),([]:List UInt8),x98.2,0,0,0,0,0,0,0,0,0,([]:List Bool),0))))) else ((bz false).bind fun u33=>(some ((1,x98.1,0,0,false,false,false,false,false,false,false,false,([]:List UInt8),([]:List UInt8),([]:List UInt8),([]:List UInt8),x98.2,0,0,0,0,0,0,0,0,0,([]:List Bool),0)))))) else (if x96.2 = ([97,115,107]:List UInt8) then ((ge K x96.1 p0_1).bind fun x102=>(if (x102.1.length:Int) = 0 then ((iF K x102.2.1 x102.2.2.1 x102.2.2.2.1 x102.2.2.2.2.1 x102.2.2.2.2.2.1 x102.2.2.2.2.2.2.1 x102.2.2.2.2.2.2.2.1 x102.2.2.2.2.2.2.2.2.1 x102.2.2.2.2.2.2.2.2.2.1 x102.2.2.2.2.2.2.2.2.2.2.1 x102.2.2.2.2.2.2.2.2.2.2.2.1 x102.2.2.2.2.2.2.2.2.2.2.2.2.1 x102.2.2.2.2.2.2.2.2.2.2.2.2.2.1 x102.2.2.2.2.2.2.2.2.2.2.2.2.2.2 p0_1).bind fun x104=>((bz x104).bind fun u36=>(some ((2,([]:List aB),x102.2.1,x102.2.2.1,x102.2.2.2.1,x102.2.2.2.2.1,x102.2.2.2.2.2.1,x102.2.2.2.2.2.2.1,x102.2.2.2.2.2.2.2.1,x102.2.2.2.2.2.2.2.2.1,x102.2.2.2.2.2.2.2.2.2.1,x102.2.2.2.2.2.2.2.2.2.2.1,x102.2.2.2.2.2.2.2.2.2.2.2.1,x102.2.2.2.2.2.2.2.2.2.2.2.2.1,x102.2.2.2.2.2.2.2.2.2.2.2.2.2.1,x102.2.2.2.2.2.2.2.2.2.2.2.2.2.2,x102.1,0,0,0,0,0,0,0,0,0,([]:List Bool),0))))) else ((bz false).bind fun u37=>(some ((2,([]:List aB),x102.2.1,x102.2.2.1,x102.2.2.2.1,x102.2.2.2.2.1,x102.2.2.2.2.2.1,x102.2.2.2.2.2.2.1,x102.2.2.2.2.2.2.2.1,x102.2.2.2.2.2.2.2.2.1,x102.2.2.2.2.2.2.2.2.2.1,x102.2.2.2.2.2.2.2.2.2.2.1,x102.2.2.2.2.2.2.2.2.2.2.2.1,x102.2.2.2.2.2.2.2.2.2.2.2.2.1,x102.2.2.2.2.2.2.2.2.2.2.2.2.2.1,x102.2.2.2.2.2.2.2.2.2.2.2.2.2.2,x102.1,0,0,0,0,0,0,0,0,0,([]:List Bool),0)))))) else (if x96.2 = ([112,111,108,105,99,121]:List UInt8) then (iR (hX 3 0 0 0 false false false false false false false false ([]:List UInt8) ([]:List UInt8) ([]:List UInt8) ([]:List UInt8) 0 0 0 0 0 0 0 0 0 0) fun u39=>(cm K p0_1 K 0 0 x96.1 0 0 0 0 0 0 0 0)) else (if x96.2 = ([102,97,105,108]:List UInt8) then ((gl K x96.1 p0_1).bind fun x164=>(if (x164.1.length:Int) = 0 then ((iA K x164.2 p0_1).bind fun x166=>((bz x166).bind fun u46=>(some ((6,([]:List aB),0,0,false,false,false,false,false,false,false,false,([]:List UInt8),([]:List UInt8),([]:List UInt8),([]:List UInt8),x164.1,0,0,0,0,0,0,0,0,0,x164.2,0))))) else ((bz false).bind fun u47=>(some ((6,([]:List aB),0,0,false,false,false,false,false,false,false,false,([]:List UInt8),([]:List UInt8),([]:List UInt8),([]:List UInt8),x164.1,0,0,0,0,0,0,0,0,0,x164.2,0)))))) else (if x96.2 = ([115,116,97,114,116]:List UInt8) then (if (x96.1.length:Int) = 0 then ((gL K p0_1).bind fun x168=>((bz x168).bind fun u50=>(some ((9,([]:List aB),0,0,false,false,false,false,false,false,false,false,([]:List UInt8),([]:List UInt8),([]:List UInt8),([]:List UInt8),x96.1,0,0,0,0,0,0,0,0,0,([]:List Bool),0))))) else ((bz false).bind fun u51=>(some ((9,([]:List aB),0,0,false,false,false,false,false,false,false,false,([]:List UInt8),([]:List UInt8),([]:List UInt8),([]:List UInt8),x96.1,0,0,0,0,0,0,0,0,0,([]:List Bool),0))))) else (iR (gh) fun x170=>(fj K p0_1 x96 x170 K 0 x96.1 0 0))))))))
def ky (K:Nat) (a0:List UInt8) (a1:Int):Option (Int × Int × (List aB) × Int × Int × Bool × Bool × Bool × Bool × Bool × Bool × Bool × Bool × (List UInt8) × (List UInt8) × (List UInt8) × (List UInt8) × Int × Int × Int × Int × Int × Int × Int × Int × Int × (List Bool) × Int):=(if a1 < 1 then (some ((0,0,([]:List aB),0,0,false,false,false,false,false,false,false,false,([]:List UInt8),([]:List UInt8),([]:List UInt8),([]:List UInt8),0,0,0,0,0,0,0,0,0,([]:List Bool),1))) else (if 4 < a1 then (some ((0,0,([]:List aB),0,0,false,false,false,false,false,false,false,false,([]:List UInt8),([]:List UInt8),([]:List UInt8),([]:List UInt8),0,0,0,0,0,0,0,0,0,([]:List Bool),1))) else ((kz a0).bind fun x3=>((gp K x3 a1).bind fun x4=>(some ((x4.1,x4.2.2.2.2.2.2.2.2.2.2.2.2.2.2.2.2.2.2.2.2.2.2.2.2.2.2.2,x4.2.1,x4.2.2.1,x4.2.2.2.1,x4.2.2.2.2.1,x4.2.2.2.2.2.1,x4.2.2.2.2.2.2.1,x4.2.2.2.2.2.2.2.1,x4.2.2.2.2.2.2.2.2.1,x4.2.2.2.2.2.2.2.2.2.1,x4.2.2.2.2.2.2.2.2.2.2.1,x4.2.2.2.2.2.2.2.2.2.2.2.1,x4.2.2.2.2.2.2.2.2.2.2.2.2.1,x4.2.2.2.2.2.2.2.2.2.2.2.2.2.1,x4.2.2.2.2.2.2.2.2.2.2.2.2.2.2.1,x4.2.2.2.2.2.2.2.2.2.2.2.2.2.2.2.1,x4.2.2.2.2.2.2.2.2.2.2.2.2.2.2.2.2.2.1,x4.2.2.2.2.2.2.2.2.2.2.2.2.2.2.2.2.2.2.1,x4.2.2.2.2.2.2.2.2.2.2.2.2.2.2.2.2.2.2.2.1,x4.2.2.2.2.2.2.2.2.2.2.2.2.2.2.2.2.2.2.2.2.1,x4.2.2.2.2.2.2.2.2.2.2.2.2.2.2.2.2.2.2.2.2.2.1,x4.2.2.2.2.2.2.2.2.2.2.2.2.2.2.2.2.2.2.2.2.2.2.1,x4.2.2.2.2.2.2.2.2.2.2.2.2.2.2.2.2.2.2.2.2.2.2.2.1,x4.2.2.2.2.2.2.2.2.2.2.2.2.2.2.2.2.2.2.2.2.2.2.2.2.1,x4.2.2.2.2.2.2.2.2.2.2.2.2.2.2.2.2.2.2.2.2.2.2.2.2.2.1,x4.2.2.2.2.2.2.2.2.2.2.2.2.2.2.2.2.2.2.2.2.2.2.2.2.2.2.1,0)))))))
def eA (K:Nat):Option Bool:=((ky K ([105,110,103,101,115,116,32,49,57,55,48,45,48,49,45,48,49,84,48,53,32,101,117,32,45,32,51]:List UInt8) 2).bind fun x2=>(if x2.2.2.2.2.2.2.2.2.2.2.2.2.2.2.2.2.2.2.2.2.2.2.2.2.2.2.2 = 0 then (if (x2.2.2.1.length:Int) = 1 then (if 0 < (x2.2.2.1.length:Int) then (if (((x2.2.2.1.getD ((0:Int).toNat) aq).Key).Hour) = 5 then (if 0 < (4:Int) then (if ([((x2.2.2.1.getD ((0:Int).toNat) aq).Key).Dims_0,((x2.2.2.1.getD ((0:Int).toNat) aq).Key).Dims_1,((x2.2.2.1.getD ((0:Int).toNat) aq).Key).Dims_2,((x2.2.2.1.getD ((0:Int).toNat) aq).Key).Dims_3].getD ((0:Int).toNat) []) = ([101,117]:List UInt8) then (some ((((x2.2.2.1.getD ((0:Int).toNat) aq).Value) == 3))) else (some (false))) else none) else (some (false))) else none) else (some (false))) else (some (false))))
def iT (a0_0:Int) (a0_1:Int) (sv0:Value) (l0:List aB) (a0_3:Int) (a0_4:Int) (a0_5:Bool) (a0_6:Bool) (a0_7:Bool) (a0_8:Bool) (a0_9:Bool) (a0_10:Bool) (a0_11:Bool) (a0_12:Bool) (a0_13:List UInt8) (a0_14:List UInt8) (a0_15:List UInt8) (a0_16:List UInt8) (a0_17:Int) (a0_18:Int) (a0_19:Int) (a0_20:Int) (a0_21:Int) (a0_22:Int) (a0_23:Int) (a0_24:Int) (a0_25:Int) (sv1:Value) (l1:List Bool):(Value × (List aB) × Int × Int × Bool × Bool × Bool × Bool × Bool × Bool × Bool × Bool × (List UInt8) × (List UInt8) × (List UInt8) × (List UInt8) × Int × Int × Int × Int × Int × Int × Int × Int × Int × Int × Value × (List Bool) × Int):=(if a0_0 = 1 then (((Value.slice none 0 0),([]:List aB),a0_3,a0_4,a0_5,a0_6,a0_7,a0_8,a0_9,a0_10,a0_11,a0_12,a0_13,a0_14,a0_15,a0_16,a0_17,a0_18,a0_19,a0_20,a0_21,a0_22,a0_23,a0_24,a0_25,a0_1,sv1,l1,a0_0)) else (if a0_0 = 2 then ((sv0,l0,0,0,false,false,false,false,false,false,false,false,([]:List UInt8),([]:List UInt8),([]:List UInt8),([]:List UInt8),a0_17,a0_18,a0_19,a0_20,a0_21,a0_22,a0_23,a0_24,a0_25,a0_1,sv1,l1,a0_0)) else (if a0_0 = 3 then ((sv0,l0,a0_3,a0_4,a0_5,a0_6,a0_7,a0_8,a0_9,a0_10,a0_11,a0_12,a0_13,a0_14,a0_15,a0_16,0,0,0,0,0,0,0,0,0,a0_1,sv1,l1,a0_0)) else (if a0_0 = 4 then ((sv0,l0,a0_3,a0_4,a0_5,a0_6,a0_7,a0_8,a0_9,a0_10,a0_11,a0_12,a0_13,a0_14,a0_15,a0_16,a0_17,a0_18,a0_19,a0_20,a0_21,a0_22,a0_23,a0_24,a0_25,0,sv1,l1,a0_0)) else (if a0_0 = 5 then ((sv0,l0,a0_3,a0_4,a0_5,a0_6,a0_7,a0_8,a0_9,a0_10,a0_11,a0_12,a0_13,a0_14,a0_15,a0_16,a0_17,a0_18,a0_19,a0_20,a0_21,a0_22,a0_23,a0_24,a0_25,0,sv1,l1,a0_0)) else (if a0_0 = 7 then ((sv0,l0,a0_3,a0_4,a0_5,a0_6,a0_7,a0_8,a0_9,a0_10,a0_11,a0_12,a0_13,a0_14,a0_15,a0_16,a0_17,a0_18,a0_19,a0_20,a0_21,a0_22,a0_23,a0_24,a0_25,0,sv1,l1,a0_0)) else (if a0_0 = 8 then ((sv0,l0,a0_3,a0_4,a0_5,a0_6,a0_7,a0_8,a0_9,a0_10,a0_11,a0_12,a0_13,a0_14,a0_15,a0_16,a0_17,a0_18,a0_19,a0_20,a0_21,a0_22,a0_23,a0_24,a0_25,0,sv1,l1,a0_0)) else (if a0_0 = 6 then ((sv0,l0,a0_3,a0_4,a0_5,a0_6,a0_7,a0_8,a0_9,a0_10,a0_11,a0_12,a0_13,a0_14,a0_15,a0_16,a0_17,a0_18,a0_19,a0_20,a0_21,a0_22,a0_23,a0_24,a0_25,a0_1,(Value.slice none 0 0),([]:List Bool),a0_0)) else ((sv0,l0,a0_3,a0_4,a0_5,a0_6,a0_7,a0_8,a0_9,a0_10,a0_11,a0_12,a0_13,a0_14,a0_15,a0_16,a0_17,a0_18,a0_19,a0_20,a0_21,a0_22,a0_23,a0_24,a0_25,a0_1,sv1,l1,a0_0))))))))))
def aT (K:Nat) (l0:List aE) (l1:List aE):Nat → Int → Option Bool
  | 0,_=>none
  | k + 1,i4=>(if i4 < (l0.length:Int) then (if 0 ≤ i4 then (if i4 < (l1.length:Int) then ((dN K ((l0.getD i4.toNat ae).Kind) ((l0.getD i4.toNat ae).N) (((l0.getD i4.toNat ae).Facts).xs) (((l0.getD i4.toNat ae).Query).From) (((l0.getD i4.toNat ae).Query).To) (((l0.getD i4.toNat ae).Query).Group_0) (((l0.getD i4.toNat ae).Query).Group_1) (((l0.getD i4.toNat ae).Query).Group_2) (((l0.getD i4.toNat ae).Query).Group_3) (((l0.getD i4.toNat ae).Query).Has_0) (((l0.getD i4.toNat ae).Query).Has_1) (((l0.getD i4.toNat ae).Query).Has_2) (((l0.getD i4.toNat ae).Query).Has_3) (((l0.getD i4.toNat ae).Query).Filter_0) (((l0.getD i4.toNat ae).Query).Filter_1) (((l0.getD i4.toNat ae).Query).Filter_2) (((l0.getD i4.toNat ae).Query).Filter_3) (((l0.getD i4.toNat ae).Rules).Retain) (((l0.getD i4.toNat ae).Rules).SealLag) (((l0.getD i4.toNat ae).Rules).DayLag) (((l0.getD i4.toNat ae).Rules).MonthLag) (((l0.getD i4.toNat ae).Rules).ColdLag) (((l0.getD i4.toNat ae).Rules).Base) (((l0.getD i4.toNat ae).Rules).Cap) (((l0.getD i4.toNat ae).Rules).Queue) (((l0.getD i4.toNat ae).Rules).Wal) (((l0.getD i4.toNat ae).Fails).xs) ((l1.getD i4.toNat ae).Kind) ((l1.getD i4.toNat ae).N) (((l1.getD i4.toNat ae).Facts).xs) (((l1.getD i4.toNat ae).Query).From) (((l1.getD i4.toNat ae).Query).To) (((l1.getD i4.toNat ae).Query).Group_0) (((l1.getD i4.toNat ae).Query).Group_1) (((l1.getD i4.toNat ae).Query).Group_2) (((l1.getD i4.toNat ae).Query).Group_3) (((l1.getD i4.toNat ae).Query).Has_0) (((l1.getD i4.toNat ae).Query).Has_1) (((l1.getD i4.toNat ae).Query).Has_2) (((l1.getD i4.toNat ae).Query).Has_3) (((l1.getD i4.toNat ae).Query).Filter_0) (((l1.getD i4.toNat ae).Query).Filter_1) (((l1.getD i4.toNat ae).Query).Filter_2) (((l1.getD i4.toNat ae).Query).Filter_3) (((l1.getD i4.toNat ae).Rules).Retain) (((l1.getD i4.toNat ae).Rules).SealLag) (((l1.getD i4.toNat ae).Rules).DayLag) (((l1.getD i4.toNat ae).Rules).MonthLag) (((l1.getD i4.toNat ae).Rules).ColdLag) (((l1.getD i4.toNat ae).Rules).Base) (((l1.getD i4.toNat ae).Rules).Cap) (((l1.getD i4.toNat ae).Rules).Queue) (((l1.getD i4.toNat ae).Rules).Wal) (((l1.getD i4.toNat ae).Fails).xs)).bind fun x24=>(if (!x24) = true then (some (false)) else (aT K l0 l1 k (aH (i4 + 1))))) else none) else none) else (some (true)))
def bq (K:Nat) (l0:List aE) (l1:List aE):Option Bool:=(if ¬ ((l0.length:Int) = (l1.length:Int)) then (some (false)) else (aT K l0 l1 K 0))
def cJ (K:Nat) (l0:List aE) (l1:List aE):Option Bool:=((bq K l0 l1).bind fun x2=>(some (x2)))
def bn (K:Nat) (a0_0:Int) (a0_1:Int) (sv0:Value) (l0:List aB) (a0_3:Int) (a0_4:Int) (a0_5:Bool) (a0_6:Bool) (a0_7:Bool) (a0_8:Bool) (a0_9:Bool) (a0_10:Bool) (a0_11:Bool) (a0_12:Bool) (a0_13:List UInt8) (a0_14:List UInt8) (a0_15:List UInt8) (a0_16:List UInt8) (a0_17:Int) (a0_18:Int) (a0_19:Int) (a0_20:Int) (a0_21:Int) (a0_22:Int) (a0_23:Int) (a0_24:Int) (a0_25:Int) (sv1:Value) (l1:List Bool) (a1:Int):Option Bool:=(iR (iT a0_0 a0_1 sv0 l0 a0_3 a0_4 a0_5 a0_6 a0_7 a0_8 a0_9 a0_10 a0_11 a0_12 a0_13 a0_14 a0_15 a0_16 a0_17 a0_18 a0_19 a0_20 a0_21 a0_22 a0_23 a0_24 a0_25 sv1 l1) fun x10=>(if a0_0 < 1 then (some (false)) else (if 9 < a0_0 then (some (false)) else ((cJ K [(⟨x10.2.2.2.2.2.2.2.2.2.2.2.2.2.2.2.2.2.2.2.2.2.2.2.2.2.2.2.2,x10.2.2.2.2.2.2.2.2.2.2.2.2.2.2.2.2.2.2.2.2.2.2.2.2.2.1,(⟨x10.1,x10.2.1⟩:Sl aB),(⟨x10.2.2.1,x10.2.2.2.1,x10.2.2.2.2.1,x10.2.2.2.2.2.1,x10.2.2.2.2.2.2.1,x10.2.2.2.2.2.2.2.1,x10.2.2.2.2.2.2.2.2.1,x10.2.2.2.2.2.2.2.2.2.1,x10.2.2.2.2.2.2.2.2.2.2.1,x10.2.2.2.2.2.2.2.2.2.2.2.1,x10.2.2.2.2.2.2.2.2.2.2.2.2.1,x10.2.2.2.2.2.2.2.2.2.2.2.2.2.1,x10.2.2.2.2.2.2.2.2.2.2.2.2.2.2.1,x10.2.2.2.2.2.2.2.2.2.2.2.2.2.2.2.1⟩:bc),(⟨x10.2.2.2.2.2.2.2.2.2.2.2.2.2.2.2.2.1,x10.2.2.2.2.2.2.2.2.2.2.2.2.2.2.2.2.2.1,x10.2.2.2.2.2.2.2.2.2.2.2.2.2.2.2.2.2.2.1,x10.2.2.2.2.2.2.2.2.2.2.2.2.2.2.2.2.2.2.2.1,x10.2.2.2.2.2.2.2.2.2.2.2.2.2.2.2.2.2.2.2.2.1,x10.2.2.2.2.2.2.2.2.2.2.2.2.2.2.2.2.2.2.2.2.2.1,x10.2.2.2.2.2.2.2.2.2.2.2.2.2.2.2.2.2.2.2.2.2.2.1,x10.2.2.2.2.2.2.2.2.2.2.2.2.2.2.2.2.2.2.2.2.2.2.2.1,x10.2.2.2.2.2.2.2.2.2.2.2.2.2.2.2.2.2.2.2.2.2.2.2.2.1⟩:aS),(⟨x10.2.2.2.2.2.2.2.2.2.2.2.2.2.2.2.2.2.2.2.2.2.2.2.2.2.2.1,x10.2.2.2.2.2.2.2.2.2.2.2.2.2.2.2.2.2.2.2.2.2.2.2.2.2.2.2.1⟩:Sl Bool)⟩:aE)] [(⟨a0_0,0,(⟨Value.slice none 0 0,[]⟩:Sl aB),(⟨0,0,false,false,false,false,false,false,false,false,([]:List UInt8),([]:List UInt8),([]:List UInt8),([]:List UInt8)⟩:bc),(⟨0,0,0,0,0,0,0,0,0⟩:aS),(⟨Value.slice none 0 0,[]⟩:Sl Bool)⟩:aE)]).bind fun x12=>(if (!x12) = true then (some (false)) else (if a0_0 = 1 then ((fM K l0 a1).bind fun x16=>(some ((x16.1 == 0)))) else (if a0_0 = 2 then ((fN K a0_3 a0_4 a0_5 a0_6 a0_7 a0_8 a0_9 a0_10 a0_11 a0_12 a0_13 a0_14 a0_15 a0_16 a1).bind fun x17=>(some ((x17 == 0)))) else (if a0_0 = 3 then ((fh a0_17 a0_18 a0_19 a0_20 a0_21 a0_22 a0_23 a0_24 a0_25).bind fun x18=>(some ((x18 == 0)))) else (some (decide ((l1.length:Int) ≤ 1000)))))))))))
def ci (l0:List (List UInt8)):Option (List (List UInt8)):=(if (([]:List (List UInt8)).length + l0.length) * 16 ≤ 140737488355328 then (some ((([]:List (List UInt8)) ++ l0))) else none)
def ja (a0:Int):Int:=(aH (Int.tdiv a0 24))
def jc (a0:Int):(Int × Int × Int):=(if (aH (Int.tdiv (aH ((aH (5 * (aH ((Int.tmod (aH (a0 + 719468)) 146097) - (aH ((aH ((aH (365 * (aH (Int.tdiv (aH ((aH ((aH ((Int.tmod (aH (a0 + 719468)) 146097) - (aH (Int.tdiv (Int.tmod (aH (a0 + 719468)) 146097) 1460)))) + (aH (Int.tdiv (Int.tmod (aH (a0 + 719468)) 146097) 36524)))) - (aH (Int.tdiv (Int.tmod (aH (a0 + 719468)) 146097) 146096)))) 365)))) + (aH (Int.tdiv (aH (Int.tdiv (aH ((aH ((aH ((Int.tmod (aH (a0 + 719468)) 146097) - (aH (Int.tdiv (Int.tmod (aH (a0 + 719468)) 146097) 1460)))) + (aH (Int.tdiv (Int.tmod (aH (a0 + 719468)) 146097) 36524)))) - (aH (Int.tdiv (Int.tmod (aH (a0 + 719468)) 146097) 146096)))) 365)) 4)))) - (aH (Int.tdiv (aH (Int.tdiv (aH ((aH ((aH ((Int.tmod (aH (a0 + 719468)) 146097) - (aH (Int.tdiv (Int.tmod (aH (a0 + 719468)) 146097) 1460)))) + (aH (Int.tdiv (Int.tmod (aH (a0 + 719468)) 146097) 36524)))) - (aH (Int.tdiv (Int.tmod (aH (a0 + 719468)) 146097) 146096)))) 365)) 100)))))))) + 2)) 153)) < 10 then ((aH ((aH ((aH (Int.tdiv (aH (a0 + 719468)) 146097)) * 400)) + (aH (Int.tdiv (aH ((aH ((aH ((Int.tmod (aH (a0 + 719468)) 146097) - (aH (Int.tdiv (Int.tmod (aH (a0 + 719468)) 146097) 1460)))) + (aH (Int.tdiv (Int.tmod (aH (a0 + 719468)) 146097) 36524)))) - (aH (Int.tdiv (Int.tmod (aH (a0 + 719468)) 146097) 146096)))) 365))),aH ((aH (Int.tdiv (aH ((aH (5 * (aH ((Int.tmod (aH (a0 + 719468)) 146097) - (aH ((aH ((aH (365 * (aH (Int.tdiv (aH ((aH ((aH ((Int.tmod (aH (a0 + 719468)) 146097) - (aH (Int.tdiv (Int.tmod (aH (a0 + 719468)) 146097) 1460)))) + (aH (Int.tdiv (Int.tmod (aH (a0 + 719468)) 146097) 36524)))) - (aH (Int.tdiv (Int.tmod (aH (a0 + 719468)) 146097) 146096)))) 365)))) + (aH (Int.tdiv (aH (Int.tdiv (aH ((aH ((aH ((Int.tmod (aH (a0 + 719468)) 146097) - (aH (Int.tdiv (Int.tmod (aH (a0 + 719468)) 146097) 1460)))) + (aH (Int.tdiv (Int.tmod (aH (a0 + 719468)) 146097) 36524)))) - (aH (Int.tdiv (Int.tmod (aH (a0 + 719468)) 146097) 146096)))) 365)) 4)))) - (aH (Int.tdiv (aH (Int.tdiv (aH ((aH ((aH ((Int.tmod (aH (a0 + 719468)) 146097) - (aH (Int.tdiv (Int.tmod (aH (a0 + 719468)) 146097) 1460)))) + (aH (Int.tdiv (Int.tmod (aH (a0 + 719468)) 146097) 36524)))) - (aH (Int.tdiv (Int.tmod (aH (a0 + 719468)) 146097) 146096)))) 365)) 100)))))))) + 2)) 153)) + 3),aH ((aH ((aH ((Int.tmod (aH (a0 + 719468)) 146097) - (aH ((aH ((aH (365 * (aH (Int.tdiv (aH ((aH ((aH ((Int.tmod (aH (a0 + 719468)) 146097) - (aH (Int.tdiv (Int.tmod (aH (a0 + 719468)) 146097) 1460)))) + (aH (Int.tdiv (Int.tmod (aH (a0 + 719468)) 146097) 36524)))) - (aH (Int.tdiv (Int.tmod (aH (a0 + 719468)) 146097) 146096)))) 365)))) + (aH (Int.tdiv (aH (Int.tdiv (aH ((aH ((aH ((Int.tmod (aH (a0 + 719468)) 146097) - (aH (Int.tdiv (Int.tmod (aH (a0 + 719468)) 146097) 1460)))) + (aH (Int.tdiv (Int.tmod (aH (a0 + 719468)) 146097) 36524)))) - (aH (Int.tdiv (Int.tmod (aH (a0 + 719468)) 146097) 146096)))) 365)) 4)))) - (aH (Int.tdiv (aH (Int.tdiv (aH ((aH ((aH ((Int.tmod (aH (a0 + 719468)) 146097) - (aH (Int.tdiv (Int.tmod (aH (a0 + 719468)) 146097) 1460)))) + (aH (Int.tdiv (Int.tmod (aH (a0 + 719468)) 146097) 36524)))) - (aH (Int.tdiv (Int.tmod (aH (a0 + 719468)) 146097) 146096)))) 365)) 100)))))) - (aH (Int.tdiv (aH ((aH (153 * (aH (Int.tdiv (aH ((aH (5 * (aH ((Int.tmod (aH (a0 + 719468)) 146097) - (aH ((aH ((aH (365 * (aH (Int.tdiv (aH ((aH ((aH ((Int.tmod (aH (a0 + 719468)) 146097) - (aH (Int.tdiv (Int.tmod (aH (a0 + 719468)) 146097) 1460)))) + (aH (Int.tdiv (Int.tmod (aH (a0 + 719468)) 146097) 36524)))) - (aH (Int.tdiv (Int.tmod (aH (a0 + 719468)) 146097) 146096)))) 365)))) + (aH (Int.tdiv (aH (Int.tdiv (aH ((aH ((aH ((Int.tmod (aH (a0 + 719468)) 146097) - (aH (Int.tdiv (Int.tmod (aH (a0 + 719468)) 146097) 1460)))) + (aH (Int.tdiv (Int.tmod (aH (a0 + 719468)) 146097) 36524)))) - (aH (Int.tdiv (Int.tmod (aH (a0 + 719468)) 146097) 146096)))) 365)) 4)))) - (aH (Int.tdiv (aH (Int.tdiv (aH ((aH ((aH ((Int.tmod (aH (a0 + 719468)) 146097) - (aH (Int.tdiv (Int.tmod (aH (a0 + 719468)) 146097) 1460)))) + (aH (Int.tdiv (Int.tmod (aH (a0 + 719468)) 146097) 36524)))) - (aH (Int.tdiv (Int.tmod (aH (a0 + 719468)) 146097) 146096)))) 365)) 100)))))))) + 2)) 153)))) + 2)) 5)))) + 1))) else ((aH ((aH ((aH ((aH (Int.tdiv (aH (a0 + 719468)) 146097)) * 400)) + (aH (Int.tdiv (aH ((aH ((aH ((Int.tmod (aH (a0 + 719468)) 146097) - (aH (Int.tdiv (Int.tmod (aH (a0 + 719468)) 146097) 1460)))) + (aH (Int.tdiv (Int.tmod (aH (a0 + 719468)) 146097) 36524)))) - (aH (Int.tdiv (Int.tmod (aH (a0 + 719468)) 146097) 146096)))) 365)))) + 1),aH ((aH (Int.tdiv (aH ((aH (5 * (aH ((Int.tmod (aH (a0 + 719468)) 146097) - (aH ((aH ((aH (365 * (aH (Int.tdiv (aH ((aH ((aH ((Int.tmod (aH (a0 + 719468)) 146097) - (aH (Int.tdiv (Int.tmod (aH (a0 + 719468)) 146097) 1460)))) + (aH (Int.tdiv (Int.tmod (aH (a0 + 719468)) 146097) 36524)))) - (aH (Int.tdiv (Int.tmod (aH (a0 + 719468)) 146097) 146096)))) 365)))) + (aH (Int.tdiv (aH (Int.tdiv (aH ((aH ((aH ((Int.tmod (aH (a0 + 719468)) 146097) - (aH (Int.tdiv (Int.tmod (aH (a0 + 719468)) 146097) 1460)))) + (aH (Int.tdiv (Int.tmod (aH (a0 + 719468)) 146097) 36524)))) - (aH (Int.tdiv (Int.tmod (aH (a0 + 719468)) 146097) 146096)))) 365)) 4)))) - (aH (Int.tdiv (aH (Int.tdiv (aH ((aH ((aH ((Int.tmod (aH (a0 + 719468)) 146097) - (aH (Int.tdiv (Int.tmod (aH (a0 + 719468)) 146097) 1460)))) + (aH (Int.tdiv (Int.tmod (aH (a0 + 719468)) 146097) 36524)))) - (aH (Int.tdiv (Int.tmod (aH (a0 + 719468)) 146097) 146096)))) 365)) 100)))))))) + 2)) 153)) - 9),aH ((aH ((aH ((Int.tmod (aH (a0 + 719468)) 146097) - (aH ((aH ((aH (365 * (aH (Int.tdiv (aH ((aH ((aH ((Int.tmod (aH (a0 + 719468)) 146097) - (aH (Int.tdiv (Int.tmod (aH (a0 + 719468)) 146097) 1460)))) + (aH (Int.tdiv (Int.tmod (aH (a0 + 719468)) 146097) 36524)))) - (aH (Int.tdiv (Int.tmod (aH (a0 + 719468)) 146097) 146096)))) 365)))) + (aH (Int.tdiv (aH (Int.tdiv (aH ((aH ((aH ((Int.tmod (aH (a0 + 719468)) 146097) - (aH (Int.tdiv (Int.tmod (aH (a0 + 719468)) 146097) 1460)))) + (aH (Int.tdiv (Int.tmod (aH (a0 + 719468)) 146097) 36524)))) - (aH (Int.tdiv (Int.tmod (aH (a0 + 719468)) 146097) 146096)))) 365)) 4)))) - (aH (Int.tdiv (aH (Int.tdiv (aH ((aH ((aH ((Int.tmod (aH (a0 + 719468)) 146097) - (aH (Int.tdiv (Int.tmod (aH (a0 + 719468)) 146097) 1460)))) + (aH (Int.tdiv (Int.tmod (aH (a0 + 719468)) 146097) 36524)))) - (aH (Int.tdiv (Int.tmod (aH (a0 + 719468)) 146097) 146096)))) 365)) 100)))))) - (aH (Int.tdiv (aH ((aH (153 * (aH (Int.tdiv (aH ((aH (5 * (aH ((Int.tmod (aH (a0 + 719468)) 146097) - (aH ((aH ((aH (365 * (aH (Int.tdiv (aH ((aH ((aH ((Int.tmod (aH (a0 + 719468)) 146097) - (aH (Int.tdiv (Int.tmod (aH (a0 + 719468)) 146097) 1460)))) + (aH (Int.tdiv (Int.tmod (aH (a0 + 719468)) 146097) 36524)))) - (aH (Int.tdiv (Int.tmod (aH (a0 + 719468)) 146097) 146096)))) 365)))) + (aH (Int.tdiv (aH (Int.tdiv (aH ((aH ((aH ((Int.tmod (aH (a0 + 719468)) 146097) - (aH (Int.tdiv (Int.tmod (aH (a0 + 719468)) 146097) 1460)))) + (aH (Int.tdiv (Int.tmod (aH (a0 + 719468)) 146097) 36524)))) - (aH (Int.tdiv (Int.tmod (aH (a0 + 719468)) 146097) 146096)))) 365)) 4)))) - (aH (Int.tdiv (aH (Int.tdiv (aH ((aH ((aH ((Int.tmod (aH (a0 + 719468)) 146097) - (aH (Int.tdiv (Int.tmod (aH (a0 + 719468)) 146097) 1460)))) + (aH (Int.tdiv (Int.tmod (aH (a0 + 719468)) 146097) 36524)))) - (aH (Int.tdiv (Int.tmod (aH (a0 + 719468)) 146097) 146096)))) 365)) 100)))))))) + 2)) 153)))) + 2)) 5)))) + 1))))
def fR (K:Nat):Nat → Int → Int → (List Int) → Option (List Int)
  | 0,_,_,_=>none
  | k + 1,i3,i4,l3=>(if 0 < i3 then (if 0 ≤ (aH (i4 - 1)) then (if (aH (i4 - 1)) < (l3.length:Int) then (fR K k (aH (Int.tdiv i3 10)) (aH (i4 - 1)) (l3.set ((aH (i4 - 1)).toNat) (et (aH (48 + (Int.tmod i3 10)))))) else none) else none) else (some (l3)))
def ej (K:Nat) (a0:Int) (a1:Int) (l0:List Int):Option (List Int):=(fR K K a0 a1 l0)
def jw (K:Nat) (a0:Int):Option (List UInt8):=(iR (ja a0) fun x7=>(iR (jc x7) fun x8=>((ej K x8.1 4 [48,48,48,48,45,48,48,45,48,48,84,48,48]).bind fun x9=>((ej K x8.2.1 7 x9).bind fun x10=>((ej K x8.2.2 10 x10).bind fun x11=>((ej K (Int.tmod a0 24) 13 x11).bind fun x12=>(some ((ig x12)))))))))
def bT (l0:List (List UInt8)) (l1:List (List UInt8)):Option (List (List UInt8)):=(if (l0.length + l1.length) * 16 ≤ 140737488355328 then (some ((l0 ++ l1))) else none)
def dW (l0:List Int):Unit:=()
def aX (l0:List Int) (a1:Int):Option (List Int):=(iR (dW l0) fun u2=>(if (l0.length + [a1].length) * 1 ≤ 140737488355328 then (some ((l0 ++ [a1]))) else none))
def dP (l0:List Int):Unit:=()
def cw (l0:List Int) (a1:Int):Option (List Int):=(iR (dP l0) fun u2=>(if (l0.length + [a1].length) * 1 ≤ 140737488355328 then (some ((l0 ++ [a1]))) else none))
def cT (l0:List Int):Option (List UInt8):=(if 0 < l0.length then (if (l0.all fun n=>decide (0 ≤ n ∧ n ≤ 255)) = true then (some ((ig l0))) else none) else none)
def dJ (l0:List Int):Option (List UInt8):=(if 0 < l0.length then (if (l0.all fun n=>decide (0 ≤ n ∧ n ≤ 255)) = true then (some ((ig l0))) else none) else none)
def gf (K:Nat) (a0:List UInt8):Nat → Int → Bool → (List Int) → (List Int) → Option (List UInt8)
  | 0,_,_,_,_=>none
  | k + 1,i4,q4,l25,l28=>(if i4 < ((bY a0).length:Int) then (Option.bind (if 0 ≤ i4 then (if i4 < (l28.length:Int) then (iR (fC (l28.getD i4.toNat 0)) fun x350=>(if x350 = true then (if q4 = true then ((aX l25 (l28.getD i4.toNat 0)).bind fun x351=>(some ((x351,l28)))) else ((cw l25 (l28.getD i4.toNat 0)).bind fun x352=>(some ((x352,l28))))) else (if q4 = true then ((aX l25 37).bind fun x353=>(if 0 ≤ (ng .u8 (l28.getD i4.toNat 0) 4) then (if (ng .u8 (l28.getD i4.toNat 0) 4) < (([48,49,50,51,52,53,54,55,56,57,97,98,99,100,101,102]:List UInt8).length:Int) then ((aX x353 ((([48,49,50,51,52,53,54,55,56,57,97,98,99,100,101,102]:List UInt8).getD (ng .u8 (l28.getD i4.toNat 0) 4).toNat 0).toNat:Int)).bind fun x354=>(if 0 ≤ (np .u8 (l28.getD i4.toNat 0) 15) then (if (np .u8 (l28.getD i4.toNat 0) 15) < (([48,49,50,51,52,53,54,55,56,57,97,98,99,100,101,102]:List UInt8).length:Int) then ((aX x354 ((([48,49,50,51,52,53,54,55,56,57,97,98,99,100,101,102]:List UInt8).getD (np .u8 (l28.getD i4.toNat 0) 15).toNat 0).toNat:Int)).bind fun x355=>(some ((x355,l28)))) else none) else none)) else none) else none)) else ((cw l25 37).bind fun x356=>(if 0 ≤ (ng .u8 (l28.getD i4.toNat 0) 4) then (if (ng .u8 (l28.getD i4.toNat 0) 4) < (([48,49,50,51,52,53,54,55,56,57,97,98,99,100,101,102]:List UInt8).length:Int) then ((aX x356 ((([48,49,50,51,52,53,54,55,56,57,97,98,99,100,101,102]:List UInt8).getD (ng .u8 (l28.getD i4.toNat 0) 4).toNat 0).toNat:Int)).bind fun x357=>(if 0 ≤ (np .u8 (l28.getD i4.toNat 0) 15) then (if (np .u8 (l28.getD i4.toNat 0) 15) < (([48,49,50,51,52,53,54,55,56,57,97,98,99,100,101,102]:List UInt8).length:Int) then ((aX x357 ((([48,49,50,51,52,53,54,55,56,57,97,98,99,100,101,102]:List UInt8).getD (np .u8 (l28.getD i4.toNat 0) 15).toNat 0).toNat:Int)).bind fun x358=>(some ((x358,l28)))) else none) else none)) else none) else none))))) else none) else none) fun x346=>(gf K a0 k (aH (i4 + 1)) true x346.1 x346.2)) else (if q4 = true then ((cT l25).bind fun x359=>(some (x359))) else ((dJ l25).bind fun x360=>(some (x360)))))
def gJ (K:Nat) (a0:List UInt8):Option (List UInt8):=(if a0 = ([]:List UInt8) then (some (([45]:List UInt8))) else (if a0.length ≤ 9223372036854775807 then (gf K a0 K 0 false ([]:List Int) (bY a0)) else none))
def fW (K:Nat):Nat → Int → Int → (Nat → Int) → Option ((Nat → Int) × Int)
  | 0,_,_,_=>none
  | k + 1,i12,i13,j6=>(if 0 ≤ (aH (i12 - 1)) then (if (aH (i12 - 1)) < (20:Int) then (if (lI (Int.tdiv i13 10)) = 0 then (some (((lg j6 ((aH (i12 - 1)).toNat) (et (lI (48 + (Int.tmod i13 10))))),aH (i12 - 1)))) else (fW K k (aH (i12 - 1)) (lI (Int.tdiv i13 10)) (lg j6 ((aH (i12 - 1)).toNat) (et (lI (48 + (Int.tmod i13 10))))))) else none) else none)
def gW (K:Nat) (a0:Int):Option (List UInt8):=(iR (if a0 < 0 then (lI (0 - (lI a0))) else (lI a0)) fun x3=>(Option.bind (fW K K 20 x3 (fun _=>0)) fun x4=>(if a0 < 0 then (if 0 ≤ (aH (x4.2 - 1)) then (if (aH (x4.2 - 1)) < (20:Int) then (if (aH (x4.2 - 1)) ≤ (20:Nat) then (some ((ig (((List.range 20).map (lg x4.1 ((aH (x4.2 - 1)).toNat) 45)).drop (aH (x4.2 - 1)).toNat)))) else none) else none) else none) else (if 0 ≤ x4.2 then (if x4.2 ≤ (20:Nat) then (some ((ig (((List.range 20).map x4.1).drop x4.2.toNat)))) else none) else none))))
def aZ (K:Nat) (l0:List (List UInt8)) (a1:Int):Option (List (List UInt8)):=((gW K a1).bind fun x3=>((bT l0 [x3]).bind fun x4=>(some (x4))))
def dj (K:Nat) (l1:List aB) (a2:Int) (i20:Int):Nat → Int → (List (List UInt8)) → Option (List (List UInt8))
  | 0,_,_=>none
  | k + 1,i28,l46=>(if i28 < (([((l1.getD i20.toNat aq).Key).Dims_0,((l1.getD i20.toNat aq).Key).Dims_1,((l1.getD i20.toNat aq).Key).Dims_2,((l1.getD i20.toNat aq).Key).Dims_3].take a2.toNat).length:Int) then (if 0 ≤ i28 then ((gJ K (([((l1.getD i20.toNat aq).Key).Dims_0,((l1.getD i20.toNat aq).Key).Dims_1,((l1.getD i20.toNat aq).Key).Dims_2,((l1.getD i20.toNat aq).Key).Dims_3].take a2.toNat).getD i28.toNat [])).bind fun x340=>((bT l46 [x340]).bind fun x341=>(dj K l1 a2 i20 k (aH (i28 + 1)) x341))) else none) else (some (l46)))
def eJ (K:Nat) (l1:List aB) (a2:Int):Nat → Int → (List (List UInt8)) → Option (List (List UInt8))
  | 0,_,_=>none
  | k + 1,i20,l32=>(if i20 < (l1.length:Int) then (Option.bind (if 0 ≤ i20 then ((jw K (((l1.getD i20.toNat aq).Key).Hour)).bind fun x315=>((bT l32 [x315]).bind fun x316=>(Option.bind (if 0 ≤ a2 then (if a2 ≤ (4:Nat) then (dj K l1 a2 i20 K 0 x316) else none) else none) fun x329=>((aZ K x329 ((l1.getD i20.toNat aq).Value)).bind fun x342=>(some (x342)))))) else none) fun x314=>(eJ K l1 a2 k (aH (i20 + 1)) x314)) else (some (l32)))
def fO (K:Nat) (l0:List (List UInt8)) (l1:List aB) (a2:Int):Option (List (List UInt8)):=(eJ K l1 a2 K 0 l0)
def cN (K:Nat) (a1_2:Bool) (a1_3:Bool) (a1_4:Bool) (a1_5:Bool) (a1_6:Bool) (a1_7:Bool) (a1_8:Bool) (a1_9:Bool) (a1_10:List UInt8) (a1_11:List UInt8) (a1_12:List UInt8) (a1_13:List UInt8) (a2:Int):Nat → Int → (List (List UInt8)) → Option (List (List UInt8))
  | 0,_,_=>none
  | k + 1,i2,l3=>(if i2 < a2 then (Option.bind (if 0 ≤ i2 then (if i2 < (4:Int) then (if ([a1_2,a1_3,a1_4,a1_5].getD i2.toNat false) = true then (some (([43]:List UInt8))) else (some (([]:List UInt8)))) else none) else none) fun x71=>(Option.bind (if 0 ≤ i2 then (if i2 < (4:Int) then (if ([a1_6,a1_7,a1_8,a1_9].getD i2.toNat false) = true then ((gJ K ([a1_10,a1_11,a1_12,a1_13].getD i2.toNat [])).bind fun x74=>(if (([61]:List UInt8).length:Int) + (x74.length:Int) ≤ 9223372036854775807 then (if (x71.length:Int) + ((([61]:List UInt8) ++ x74).length:Int) ≤ 9223372036854775807 then (some ((x71 ++ (([61]:List UInt8) ++ x74)))) else none) else none)) else (some (x71))) else none) else none) fun x73=>(if x73 = ([]:List UInt8) then ((bT l3 [([46]:List UInt8)]).bind fun x75=>(cN K a1_2 a1_3 a1_4 a1_5 a1_6 a1_7 a1_8 a1_9 a1_10 a1_11 a1_12 a1_13 a2 k (aH (i2 + 1)) x75)) else ((bT l3 [x73]).bind fun x76=>(cN K a1_2 a1_3 a1_4 a1_5 a1_6 a1_7 a1_8 a1_9 a1_10 a1_11 a1_12 a1_13 a2 k (aH (i2 + 1)) x76))))) else (some (l3)))
def fA (K:Nat) (l0:List (List UInt8)) (a1_0:Int) (a1_1:Int) (a1_2:Bool) (a1_3:Bool) (a1_4:Bool) (a1_5:Bool) (a1_6:Bool) (a1_7:Bool) (a1_8:Bool) (a1_9:Bool) (a1_10:List UInt8) (a1_11:List UInt8) (a1_12:List UInt8) (a1_13:List UInt8) (a2:Int):Option (List (List UInt8)):=((aZ K l0 a1_0).bind fun x39=>((aZ K x39 a1_1).bind fun x40=>(cN K a1_2 a1_3 a1_4 a1_5 a1_6 a1_7 a1_8 a1_9 a1_10 a1_11 a1_12 a1_13 a2 K 0 x40)))
def hZ (p0_0:Int) (p0_1:Int) (l0:List aB) (p0_3:Int) (p0_4:Int) (p0_5:Bool) (p0_6:Bool) (p0_7:Bool) (p0_8:Bool) (p0_9:Bool) (p0_10:Bool) (p0_11:Bool) (p0_12:Bool) (p0_13:List UInt8) (p0_14:List UInt8) (p0_15:List UInt8) (p0_16:List UInt8) (p0_17:Int) (p0_18:Int) (p0_19:Int) (p0_20:Int) (p0_21:Int) (p0_22:Int) (p0_23:Int) (p0_24:Int) (p0_25:Int) (l1:List Bool) (p1_0:Int):Unit:=(())
def eD (K:Nat) (l1:List Bool):Nat → Int → (List Int) → Option (List Int)
  | 0,_,_=>none
  | k + 1,i26,l8=>(if i26 < (l1.length:Int) then (if 0 ≤ i26 then (iR (if (l1.getD i26.toNat false) = true then (49) else (48)) fun x27=>(if (l8.length + [x27].length) * 1 ≤ 140737488355328 then (eD K l1 k (aH (i26 + 1)) (l8 ++ [x27])) else none)) else none) else (some (l8)))
def fp (K:Nat) (l0:List (List UInt8)) (l1:List Bool):Option (List (List UInt8)):=(if (l1.length:Int) = 0 then (some (l0)) else (if 0 ≤ (l1.length:Int) then (if ((1:Nat):Int) * (l1.length:Int) ≤ 281474976710656 then (Option.bind (eD K l1 K 0 ([]:List Int)) fun x21=>((bT l0 [(ig x21)]).bind fun x28=>(some (x28)))) else none) else none))
def strings_Join (l0:List (List UInt8)) (a1:List UInt8):Option (List UInt8):=if (a1.intercalate l0).length ≤ 140737488355328 ∧ l0.length ≤ 140737488355328 then some (a1.intercalate l0) else none
def fk (K:Nat) (a0_17:Int) (a0_18:Int) (a0_19:Int) (a0_20:Int) (a0_21:Int) (a0_22:Int) (a0_23:Int) (a0_24:Int) (a0_25:Int):Nat → Int → (List (List UInt8)) → Option (List (List UInt8))
  | 0,_,_=>none
  | k + 1,i9,l19=>(if i9 < 9 then (Option.bind (if 0 ≤ i9 then (if i9 < (9:Int) then (if i9 = 0 then ((aZ K l19 a0_17).bind fun x321=>(some (x321))) else (if i9 = 1 then ((aZ K l19 a0_18).bind fun x322=>(some (x322))) else (if i9 = 2 then ((aZ K l19 a0_19).bind fun x323=>(some (x323))) else (if i9 = 3 then ((aZ K l19 a0_20).bind fun x324=>(some (x324))) else (if i9 = 4 then ((aZ K l19 a0_21).bind fun x325=>(some (x325))) else (if i9 = 5 then ((aZ K l19 a0_22).bind fun x326=>(some (x326))) else (if i9 = 6 then ((aZ K l19 a0_23).bind fun x327=>(some (x327))) else (if i9 = 7 then ((aZ K l19 a0_24).bind fun x328=>(some (x328))) else (if i9 = 8 then ((aZ K l19 a0_25).bind fun x329=>(some (x329))) else none))))))))) else none) else none) fun x320=>(fk K a0_17 a0_18 a0_19 a0_20 a0_21 a0_22 a0_23 a0_24 a0_25 k (aH (i9 + 1)) x320)) else (some (l19)))
def dp (K:Nat) (a0_0:Int) (a0_1:Int) (x333:(Int × Int × Int × Int)):Nat → Int → (List (List UInt8)) → Option (List (List UInt8))
  | 0,_,_=>none
  | k + 1,i10,l23=>(if i10 < 4 then (if 0 ≤ i10 then (if i10 < (4:Int) then (if ([x333.1,x333.2.1,x333.2.2.1,x333.2.2.2].getD i10.toNat 0) = a0_0 then (iR (gh) fun x349=>((bT l23 [([x349.1,x349.2.1,x349.2.2.1,x349.2.2.2].getD i10.toNat [])]).bind fun x350=>((aZ K x350 a0_1).bind fun x351=>(dp K a0_0 a0_1 x333 k (aH (i10 + 1)) x351)))) else (dp K a0_0 a0_1 x333 k (aH (i10 + 1)) l23)) else none) else none) else (some (l23)))
def bI (K:Nat) (a0_0:Int) (a0_1:Int) (sv0:Value) (l0:List aB) (a0_3:Int) (a0_4:Int) (a0_5:Bool) (a0_6:Bool) (a0_7:Bool) (a0_8:Bool) (a0_9:Bool) (a0_10:Bool) (a0_11:Bool) (a0_12:Bool) (a0_13:List UInt8) (a0_14:List UInt8) (a0_15:List UInt8) (a0_16:List UInt8) (a0_17:Int) (a0_18:Int) (a0_19:Int) (a0_20:Int) (a0_21:Int) (a0_22:Int) (a0_23:Int) (a0_24:Int) (a0_25:Int) (sv1:Value) (l1:List Bool) (a1:Int):Option ((List UInt8) × Int):=((bn K a0_0 a0_1 sv0 l0 a0_3 a0_4 a0_5 a0_6 a0_7 a0_8 a0_9 a0_10 a0_11 a0_12 a0_13 a0_14 a0_15 a0_16 a0_17 a0_18 a0_19 a0_20 a0_21 a0_22 a0_23 a0_24 a0_25 sv1 l1 a1).bind fun x178=>(if (!x178) = true then (some ((([]:List UInt8),1))) else (Option.bind (if a0_0 = 1 then ((ci [([105,110,103,101,115,116]:List UInt8)]).bind fun x266=>((fO K x266 l0 a1).bind fun x267=>(some (x267)))) else (if a0_0 = 2 then ((ci [([97,115,107]:List UInt8)]).bind fun x268=>((fA K x268 a0_3 a0_4 a0_5 a0_6 a0_7 a0_8 a0_9 a0_10 a0_11 a0_12 a0_13 a0_14 a0_15 a0_16 a1).bind fun x269=>(some (x269)))) else (if a0_0 = 3 then ((ci [([112,111,108,105,99,121]:List UInt8)]).bind fun x270=>(iR (hZ a0_0 a0_1 l0 a0_3 a0_4 a0_5 a0_6 a0_7 a0_8 a0_9 a0_10 a0_11 a0_12 a0_13 a0_14 a0_15 a0_16 a0_17 a0_18 a0_19 a0_20 a0_21 a0_22 a0_23 a0_24 a0_25 l1 a0_24) fun u4=>(fk K a0_17 a0_18 a0_19 a0_20 a0_21 a0_22 a0_23 a0_24 a0_25 K 0 x270))) else (if a0_0 = 6 then ((ci [([102,97,105,108]:List UInt8)]).bind fun x330=>((fp K x330 l1).bind fun x331=>(some (x331)))) else (if a0_0 = 9 then ((ci [([115,116,97,114,116]:List UInt8)]).bind fun x332=>(some (x332))) else (iR (eM) fun x333=>(dp K a0_0 a0_1 x333 K 0 ([]:List (List UInt8))))))))) fun x265=>((strings_Join x265 ([32]:List UInt8)).bind fun x352=>(some ((x352,0)))))))
def cO (K:Nat) (a0_1:List UInt8) (a0_2:List UInt8) (a0_3:List UInt8) (a0_4:List UInt8) (a1:Int):Nat → Int → Option Int
  | 0,_=>none
  | k + 1,i5=>(if i5 < 4 then (if 0 ≤ i5 then (if i5 < (4:Int) then (if 16 < (([a0_1,a0_2,a0_3,a0_4].getD i5.toNat []).length:Int) then (some (4)) else (if a1 ≤ i5 then (if ¬ (([a0_1,a0_2,a0_3,a0_4].getD i5.toNat []) = ([]:List UInt8)) then (some (4)) else (cO K a0_1 a0_2 a0_3 a0_4 a1 k (aH (i5 + 1)))) else (cO K a0_1 a0_2 a0_3 a0_4 a1 k (aH (i5 + 1))))) else none) else none) else (some (0)))
def fB (K:Nat) (a0_0:Int) (a0_1:List UInt8) (a0_2:List UInt8) (a0_3:List UInt8) (a0_4:List UInt8) (a0_5:Int) (a1:Int):Option Int:=(if a1 < 1 then (some (1)) else (if 4 < a1 then (some (1)) else (if a0_0 < 0 then (some (2)) else (if 16777216 < a0_0 then (some (2)) else (if 1152921504606846976 < a0_5 then (some (2)) else (if a0_5 < (-1152921504606846976) then (some (2)) else (cO K a0_1 a0_2 a0_3 a0_4 a1 K 0)))))))
def ec (K:Nat) (l0:List aB) (a1:Int):Nat → Int → Option (Int × Int)
  | 0,_=>none
  | k + 1,i6=>(if i6 < (l0.length:Int) then (if 0 ≤ i6 then ((fB K (((l0.getD i6.toNat aq).Key).Hour) (((l0.getD i6.toNat aq).Key).Dims_0) (((l0.getD i6.toNat aq).Key).Dims_1) (((l0.getD i6.toNat aq).Key).Dims_2) (((l0.getD i6.toNat aq).Key).Dims_3) ((l0.getD i6.toNat aq).Value) a1).bind fun x24=>(if ¬ (x24 = 0) then (some ((x24,i6))) else (ec K l0 a1 k (aH (i6 + 1))))) else none) else (some ((0,0))))
def dv (K:Nat) (l0:List aB) (a1:Int):Option (Int × Int):=(if a1 < 1 then (some ((1,0))) else (if 4 < a1 then (some ((1,0))) else (if (l0.length:Int) < 1 then (some ((1,0))) else (if 50 < (l0.length:Int) then (some ((1,0))) else (ec K l0 a1 K 0)))))
def aJ (a0_0:Int) (a0_1:Int) (l0:List aB) (a0_3:Int) (a0_4:Int) (a0_5:Bool) (a0_6:Bool) (a0_7:Bool) (a0_8:Bool) (a0_9:Bool) (a0_10:Bool) (a0_11:Bool) (a0_12:Bool) (a0_13:List UInt8) (a0_14:List UInt8) (a0_15:List UInt8) (a0_16:List UInt8) (a0_17:Int) (a0_18:Int) (a0_19:Int) (a0_20:Int) (a0_21:Int) (a0_22:Int) (a0_23:Int) (a0_24:Int) (a0_25:Int) (l1:List Bool) (a1:Bool) (a2:Bool) (a3:Bool) (a4:Bool) (a5:Bool):Bool:=(if a1 = true then (if a2 = true then (if a3 = true then (if a4 = true then (if a5 = true then (true) else (((l1.length:Int) == 0))) else (if a0_1 = 0 then (if a5 = true then (true) else (((l1.length:Int) == 0))) else (false))) else (if ((a0_17 == 0) && ((a0_18 == 0) && ((a0_19 == 0) && ((a0_20 == 0) && ((a0_21 == 0) && ((a0_22 == 0) && ((a0_23 == 0) && ((a0_24 == 0) && ((a0_25 == 0) && true))))))))) = true then (if a4 = true then (if a5 = true then (true) else (((l1.length:Int) == 0))) else (if a0_1 = 0 then (if a5 = true then (true) else (((l1.length:Int) == 0))) else (false))) else (false))) else (if ((a0_3 == 0) && ((a0_4 == 0) && (((a0_5 == false) && ((a0_6 == false) && ((a0_7 == false) && ((a0_8 == false) && true)))) && (((a0_9 == false) && ((a0_10 == false) && ((a0_11 == false) && ((a0_12 == false) && true)))) && (((a0_13 == ([]:List UInt8)) && ((a0_14 == ([]:List UInt8)) && ((a0_15 == ([]:List UInt8)) && ((a0_16 == ([]:List UInt8)) && true)))) && true))))) = true then (if a3 = true then (if a4 = true then (if a5 = true then (true) else (((l1.length:Int) == 0))) else (if a0_1 = 0 then (if a5 = true then (true) else (((l1.length:Int) == 0))) else (false))) else (if ((a0_17 == 0) && ((a0_18 == 0) && ((a0_19 == 0) && ((a0_20 == 0) && ((a0_21 == 0) && ((a0_22 == 0) && ((a0_23 == 0) && ((a0_24 == 0) && ((a0_25 == 0) && true))))))))) = true then (if a4 = true then (if a5 = true then (true) else (((l1.length:Int) == 0))) else (if a0_1 = 0 then (if a5 = true then (true) else (((l1.length:Int) == 0))) else (false))) else (false))) else (false))) else (if (l0.length:Int) = 0 then (if a2 = true then (if a3 = true then (if a4 = true then (if a5 = true then (true) else (((l1.length:Int) == 0))) else (if a0_1 = 0 then (if a5 = true then (true) else (((l1.length:Int) == 0))) else (false))) else (if ((a0_17 == 0) && ((a0_18 == 0) && ((a0_19 == 0) && ((a0_20 == 0) && ((a0_21 == 0) && ((a0_22 == 0) && ((a0_23 == 0) && ((a0_24 == 0) && ((a0_25 == 0) && true))))))))) = true then (if a4 = true then (if a5 = true then (true) else (((l1.length:Int) == 0))) else (if a0_1 = 0 then (if a5 = true then (true) else (((l1.length:Int) == 0))) else (false))) else (false))) else (if ((a0_3 == 0) && ((a0_4 == 0) && (((a0_5 == false) && ((a0_6 == false) && ((a0_7 == false) && ((a0_8 == false) && true)))) && (((a0_9 == false) && ((a0_10 == false) && ((a0_11 == false) && ((a0_12 == false) && true)))) && (((a0_13 == ([]:List UInt8)) && ((a0_14 == ([]:List UInt8)) && ((a0_15 == ([]:List UInt8)) && ((a0_16 == ([]:List UInt8)) && true)))) && true))))) = true then (if a3 = true then (if a4 = true then (if a5 = true then (true) else (((l1.length:Int) == 0))) else (if a0_1 = 0 then (if a5 = true then (true) else (((l1.length:Int) == 0))) else (false))) else (if ((a0_17 == 0) && ((a0_18 == 0) && ((a0_19 == 0) && ((a0_20 == 0) && ((a0_21 == 0) && ((a0_22 == 0) && ((a0_23 == 0) && ((a0_24 == 0) && ((a0_25 == 0) && true))))))))) = true then (if a4 = true then (if a5 = true then (true) else (((l1.length:Int) == 0))) else (if a0_1 = 0 then (if a5 = true then (true) else (((l1.length:Int) == 0))) else (false))) else (false))) else (false))) else (false)))
def ef (K:Nat) (a0_2:Bool) (a0_3:Bool) (a0_4:Bool) (a0_5:Bool) (a0_6:Bool) (a0_7:Bool) (a0_8:Bool) (a0_9:Bool) (a0_10:List UInt8) (a0_11:List UInt8) (a0_12:List UInt8) (a0_13:List UInt8) (a1:Int):Nat → Int → Option Int
  | 0,_=>none
  | k + 1,i5=>(if i5 < 4 then (Option.bind (if a1 ≤ i5 then (if 0 ≤ i5 then (if i5 < (4:Int) then (if ([a0_2,a0_3,a0_4,a0_5].getD i5.toNat false) = true then (some (Sum.inr (4))) else (if ([a0_6,a0_7,a0_8,a0_9].getD i5.toNat false) = true then (some (Sum.inr (4))) else (if ¬ (([a0_10,a0_11,a0_12,a0_13].getD i5.toNat []) = ([]:List UInt8)) then (some (Sum.inr (4))) else (if 16 < (([a0_10,a0_11,a0_12,a0_13].getD i5.toNat []).length:Int) then (some (Sum.inr (4))) else (if (!([a0_6,a0_7,a0_8,a0_9].getD i5.toNat false)) = true then (some (Sum.inl ())) else (some (Sum.inl ()))))))) else none) else none) else (if 0 ≤ i5 then (if i5 < (4:Int) then (if 16 < (([a0_10,a0_11,a0_12,a0_13].getD i5.toNat []).length:Int) then (some (Sum.inr (4))) else (if (!([a0_6,a0_7,a0_8,a0_9].getD i5.toNat false)) = true then (if ¬ (([a0_10,a0_11,a0_12,a0_13].getD i5.toNat []) = ([]:List UInt8)) then (some (Sum.inr (4))) else (some (Sum.inl ()))) else (some (Sum.inl ())))) else none) else none)) fun z=>(rE z (fun v12=>(ef K a0_2 a0_3 a0_4 a0_5 a0_6 a0_7 a0_8 a0_9 a0_10 a0_11 a0_12 a0_13 a1 k (aH (i5 + 1)))) (fun t_=>(some (t_))))) else (some (0)))
def du (K:Nat) (a0_0:Int) (a0_1:Int) (a0_2:Bool) (a0_3:Bool) (a0_4:Bool) (a0_5:Bool) (a0_6:Bool) (a0_7:Bool) (a0_8:Bool) (a0_9:Bool) (a0_10:List UInt8) (a0_11:List UInt8) (a0_12:List UInt8) (a0_13:List UInt8) (a1:Int):Option Int:=(if a1 < 1 then (some (1)) else (if 4 < a1 then (some (1)) else (if a0_0 < 0 then (some (2)) else (if 16777217 < a0_1 then (some (2)) else (if a0_1 < a0_0 then (some (2)) else (ef K a0_2 a0_3 a0_4 a0_5 a0_6 a0_7 a0_8 a0_9 a0_10 a0_11 a0_12 a0_13 a1 K 0))))))
def bZ (a0:Int) (a1:Int) (a2:Int):Bool:=(if a1 ≤ a0 then (decide (a0 ≤ a2)) else (false))
def dc (a0_0:Int) (a0_1:Int) (a0_2:Int) (a0_3:Int) (a0_4:Int) (a0_5:Int) (a0_6:Int) (a0_7:Int) (a0_8:Int):Int:=(iR (bZ a0_0 1 1048576) fun x24=>(if (!x24) = true then (2) else (iR (bZ a0_1 0 1048576) fun x25=>(if (!x25) = true then (2) else (iR (bZ a0_2 0 1048576) fun x26=>(if (!x26) = true then (2) else (iR (bZ a0_3 0 1048576) fun x27=>(if (!x27) = true then (2) else (iR (bZ a0_4 0 1048576) fun x28=>(if (!x28) = true then (2) else (iR (bZ a0_5 1 1048576) fun x33=>(if (!x33) = true then (2) else (iR (bZ a0_6 1 1048576) fun x34=>(if (!x34) = true then (2) else (iR (bZ a0_7 1 64) fun x35=>(if (!x35) = true then (2) else (iR (bZ a0_8 100 1048576) fun x36=>(if (!x36) = true then (2) else (0)))))))))))))))))))
def bh (K:Nat) (a0_0:Int) (a0_1:Int) (l0:List aB) (a0_3:Int) (a0_4:Int) (a0_5:Bool) (a0_6:Bool) (a0_7:Bool) (a0_8:Bool) (a0_9:Bool) (a0_10:Bool) (a0_11:Bool) (a0_12:Bool) (a0_13:List UInt8) (a0_14:List UInt8) (a0_15:List UInt8) (a0_16:List UInt8) (a0_17:Int) (a0_18:Int) (a0_19:Int) (a0_20:Int) (a0_21:Int) (a0_22:Int) (a0_23:Int) (a0_24:Int) (a0_25:Int) (l1:List Bool) (a1:Int):Option Bool:=(if a0_0 = 1 then ((dv K l0 a1).bind fun x31=>(if x31.1 = 0 then (iR (aJ a0_0 a0_1 l0 a0_3 a0_4 a0_5 a0_6 a0_7 a0_8 a0_9 a0_10 a0_11 a0_12 a0_13 a0_14 a0_15 a0_16 a0_17 a0_18 a0_19 a0_20 a0_21 a0_22 a0_23 a0_24 a0_25 l1 true false false false false) fun x32=>(some (x32))) else (some (false)))) else (if a0_0 = 2 then ((du K a0_3 a0_4 a0_5 a0_6 a0_7 a0_8 a0_9 a0_10 a0_11 a0_12 a0_13 a0_14 a0_15 a0_16 a1).bind fun x33=>(if x33 = 0 then (iR (aJ a0_0 a0_1 l0 a0_3 a0_4 a0_5 a0_6 a0_7 a0_8 a0_9 a0_10 a0_11 a0_12 a0_13 a0_14 a0_15 a0_16 a0_17 a0_18 a0_19 a0_20 a0_21 a0_22 a0_23 a0_24 a0_25 l1 false true false false false) fun x34=>(some (x34))) else (some (false)))) else (if a0_0 = 3 then (iR (dc a0_17 a0_18 a0_19 a0_20 a0_21 a0_22 a0_23 a0_24 a0_25) fun x35=>(if x35 = 0 then (iR (aJ a0_0 a0_1 l0 a0_3 a0_4 a0_5 a0_6 a0_7 a0_8 a0_9 a0_10 a0_11 a0_12 a0_13 a0_14 a0_15 a0_16 a0_17 a0_18 a0_19 a0_20 a0_21 a0_22 a0_23 a0_24 a0_25 l1 false false true false false) fun x36=>(some (x36))) else (some (false)))) else (iR (if a0_0 = 4 then ((a0_0 == 4)) else (if a0_0 = 5 then ((a0_0 == 5)) else (if a0_0 = 7 then ((a0_0 == 7)) else ((a0_0 == 8))))) fun x37=>(if x37 = true then (iR (aJ a0_0 a0_1 l0 a0_3 a0_4 a0_5 a0_6 a0_7 a0_8 a0_9 a0_10 a0_11 a0_12 a0_13 a0_14 a0_15 a0_16 a0_17 a0_18 a0_19 a0_20 a0_21 a0_22 a0_23 a0_24 a0_25 l1 false false false true false) fun x38=>(some (x38))) else (if a0_0 = 6 then (if (l1.length:Int) ≤ 1000 then (iR (aJ a0_0 a0_1 l0 a0_3 a0_4 a0_5 a0_6 a0_7 a0_8 a0_9 a0_10 a0_11 a0_12 a0_13 a0_14 a0_15 a0_16 a0_17 a0_18 a0_19 a0_20 a0_21 a0_22 a0_23 a0_24 a0_25 l1 false false false false true) fun x39=>(some (x39))) else (some (false))) else (if a0_0 = 9 then (iR (aJ a0_0 a0_1 l0 a0_3 a0_4 a0_5 a0_6 a0_7 a0_8 a0_9 a0_10 a0_11 a0_12 a0_13 a0_14 a0_15 a0_16 a0_17 a0_18 a0_19 a0_20 a0_21 a0_22 a0_23 a0_24 a0_25 l1 false false false false false) fun x40=>(some (x40))) else (some (false)))))))))
def eN (a0:Int):Bool:=(if (Int.tmod a0 4) = 0 then (if ¬ ((Int.tmod a0 100) = 0) then (true) else (((Int.tmod a0 400) == 0))) else (false))
def eO (a0:Int):Int:=(iR (eN a0) fun x4=>(if x4 = true then (366) else (365)))
def ei (a0:Int) (a1:Int):Int:=(if a1 = 2 then (iR (eN a0) fun x14=>(if x14 = true then (29) else (28))) else (iR (if a1 = 4 then ((a1 == 4)) else (if a1 = 6 then ((a1 == 6)) else (if a1 = 9 then ((a1 == 9)) else ((a1 == 11))))) fun x15=>(if x15 = true then (30) else (iR (if a1 = 1 then ((a1 == 1)) else (if a1 = 3 then ((a1 == 3)) else (if a1 = 5 then ((a1 == 5)) else (if a1 = 7 then ((a1 == 7)) else (if a1 = 8 then ((a1 == 8)) else (if a1 = 10 then ((a1 == 10)) else ((a1 == 12)))))))) fun x16=>(if x16 = true then (31) else (0))))))
def eZ (K:Nat):Nat → Int → Int → Option (Int × Int)
  | 0,_,_=>none
  | k + 1,i19,i20=>(iR (eO i20) fun x62=>(if x62 ≤ i19 then (if i20 < 5000 then (iR (eO i20) fun x63=>(eZ K k (aH (i19 - x63)) (aH (i20 + 1)))) else (some ((i19,i20)))) else (some ((i19,i20)))))
def fc (K:Nat) (x53:(Int × Int)):Nat → Int → Int → Option (Int × Int)
  | 0,_,_=>none
  | k + 1,i25,i26=>(if i26 < 12 then (iR (ei x53.2 i26) fun x83=>(if x83 ≤ i25 then (iR (ei x53.2 i26) fun x84=>(fc K x53 k (aH (i25 - x84)) (aH (i26 + 1)))) else (some ((i25,i26))))) else (some ((i25,i26))))
def fJ (K:Nat) (a0:Int):Option (Int × Int × Int):=(Option.bind (eZ K K a0 1970) fun x53=>(Option.bind (fc K x53 K x53.1 1) fun x74=>(some ((x53.2,x74.2,aH (x74.1 + 1))))))
def eE (K:Nat) (a1:Int):Nat → Int → (List UInt8) → Int → Option (List UInt8)
  | 0,_,_,_=>none
  | k + 1,i7,t4,i9=>(if i9 < a1 then (if ((ig [et (aH (48 + (Int.tmod i7 10)))]).length:Int) + (t4.length:Int) ≤ 9223372036854775807 then (eE K a1 k (aH (Int.tdiv i7 10)) ((ig [et (aH (48 + (Int.tmod i7 10)))]) ++ t4) (aH (i9 + 1))) else none) else (some (t4)))
def bX (K:Nat) (a0:Int) (a1:Int):Option (List UInt8):=(eE K a1 K a0 ([]:List UInt8) 0)
def eP (K:Nat) (a0:Int):Option (List UInt8):=((fJ K (aH (Int.tdiv a0 24))).bind fun x6=>((bX K x6.1 4).bind fun x7=>(if (x7.length:Int) + (([45]:List UInt8).length:Int) ≤ 9223372036854775807 then ((bX K x6.2.1 2).bind fun x8=>(if ((x7 ++ ([45]:List UInt8)).length:Int) + (x8.length:Int) ≤ 9223372036854775807 then (if (((x7 ++ ([45]:List UInt8)) ++ x8).length:Int) + (([45]:List UInt8).length:Int) ≤ 9223372036854775807 then ((bX K x6.2.2 2).bind fun x9=>(if ((((x7 ++ ([45]:List UInt8)) ++ x8) ++ ([45]:List UInt8)).length:Int) + (x9.length:Int) ≤ 9223372036854775807 then (if (((((x7 ++ ([45]:List UInt8)) ++ x8) ++ ([45]:List UInt8)) ++ x9).length:Int) + (([84]:List UInt8).length:Int) ≤ 9223372036854775807 then ((bX K (Int.tmod a0 24) 2).bind fun x10=>(if ((((((x7 ++ ([45]:List UInt8)) ++ x8) ++ ([45]:List UInt8)) ++ x9) ++ ([84]:List UInt8)).length:Int) + (x10.length:Int) ≤ 9223372036854775807 then (some (((((((x7 ++ ([45]:List UInt8)) ++ x8) ++ ([45]:List UInt8)) ++ x9) ++ ([84]:List UInt8)) ++ x10))) else none)) else none) else none)) else none) else none)) else none)))
def fy (a0:Int):Bool:=(if 97 ≤ a0 then (if a0 ≤ 122 then (true) else (if 65 ≤ a0 then (if a0 ≤ 90 then (true) else (if 48 ≤ a0 then (if a0 ≤ 57 then (true) else (if a0 = 95 then (true) else ((a0 == 46)))) else (if a0 = 95 then (true) else ((a0 == 46))))) else (if 48 ≤ a0 then (if a0 ≤ 57 then (true) else (if a0 = 95 then (true) else ((a0 == 46)))) else (if a0 = 95 then (true) else ((a0 == 46)))))) else (if 65 ≤ a0 then (if a0 ≤ 90 then (true) else (if 48 ≤ a0 then (if a0 ≤ 57 then (true) else (if a0 = 95 then (true) else ((a0 == 46)))) else (if a0 = 95 then (true) else ((a0 == 46))))) else (if 48 ≤ a0 then (if a0 ≤ 57 then (true) else (if a0 = 95 then (true) else ((a0 == 46)))) else (if a0 = 95 then (true) else ((a0 == 46))))))
def dw (K:Nat) (a0:List UInt8):Nat → (List UInt8) → Int → Option (List UInt8)
  | 0,_,_=>none
  | k + 1,t5,i4=>(if i4 < (a0.length:Int) then (if 0 ≤ i4 then (iR (fy ((a0.getD i4.toNat 0).toNat:Int)) fun x24=>(if x24 = true then (if i4 ≤ (aH (i4 + 1)) then (if (aH (i4 + 1)) ≤ (a0.length:Int) then (if (t5.length:Int) + (((a0.drop i4.toNat).take ((aH (i4 + 1)).toNat - i4.toNat)).length:Int) ≤ 9223372036854775807 then (dw K a0 k (t5 ++ ((a0.drop i4.toNat).take ((aH (i4 + 1)).toNat - i4.toNat))) (aH (i4 + 1))) else none) else none) else none) else (if (t5.length:Int) + (([37]:List UInt8).length:Int) ≤ 9223372036854775807 then (if 0 ≤ (et (Int.tdiv ((a0.getD i4.toNat 0).toNat:Int) 16)) then (if (et (Int.tdiv ((a0.getD i4.toNat 0).toNat:Int) 16)) ≤ (et ((et (Int.tdiv ((a0.getD i4.toNat 0).toNat:Int) 16)) + 1)) then (if (et ((et (Int.tdiv ((a0.getD i4.toNat 0).toNat:Int) 16)) + 1)) ≤ (([48,49,50,51,52,53,54,55,56,57,97,98,99,100,101,102]:List UInt8).length:Int) then (if ((t5 ++ ([37]:List UInt8)).length:Int) + (((([48,49,50,51,52,53,54,55,56,57,97,98,99,100,101,102]:List UInt8).drop (et (Int.tdiv ((a0.getD i4.toNat 0).toNat:Int) 16)).toNat).take ((et ((et (Int.tdiv ((a0.getD i4.toNat 0).toNat:Int) 16)) + 1)).toNat - (et (Int.tdiv ((a0.getD i4.toNat 0).toNat:Int) 16)).toNat)).length:Int) ≤ 9223372036854775807 then (if 0 ≤ (Int.tmod ((a0.getD i4.toNat 0).toNat:Int) 16) then (if (Int.tmod ((a0.getD i4.toNat 0).toNat:Int) 16) ≤ (et ((Int.tmod ((a0.getD i4.toNat 0).toNat:Int) 16) + 1)) then (if (et ((Int.tmod ((a0.getD i4.toNat 0).toNat:Int) 16) + 1)) ≤ (([48,49,50,51,52,53,54,55,56,57,97,98,99,100,101,102]:List UInt8).length:Int) then (if (((t5 ++ ([37]:List UInt8)) ++ ((([48,49,50,51,52,53,54,55,56,57,97,98,99,100,101,102]:List UInt8).drop (et (Int.tdiv ((a0.getD i4.toNat 0).toNat:Int) 16)).toNat).take ((et ((et (Int.tdiv ((a0.getD i4.toNat 0).toNat:Int) 16)) + 1)).toNat - (et (Int.tdiv ((a0.getD i4.toNat 0).toNat:Int) 16)).toNat))).length:Int) + (((([48,49,50,51,52,53,54,55,56,57,97,98,99,100,101,102]:List UInt8).drop (Int.tmod ((a0.getD i4.toNat 0).toNat:Int) 16).toNat).take ((et ((Int.tmod ((a0.getD i4.toNat 0).toNat:Int) 16) + 1)).toNat - (Int.tmod ((a0.getD i4.toNat 0).toNat:Int) 16).toNat)).length:Int) ≤ 9223372036854775807 then (dw K a0 k (((t5 ++ ([37]:List UInt8)) ++ ((([48,49,50,51,52,53,54,55,56,57,97,98,99,100,101,102]:List UInt8).drop (et (Int.tdiv ((a0.getD i4.toNat 0).toNat:Int) 16)).toNat).take ((et ((et (Int.tdiv ((a0.getD i4.toNat 0).toNat:Int) 16)) + 1)).toNat - (et (Int.tdiv ((a0.getD i4.toNat 0).toNat:Int) 16)).toNat))) ++ ((([48,49,50,51,52,53,54,55,56,57,97,98,99,100,101,102]:List UInt8).drop (Int.tmod ((a0.getD i4.toNat 0).toNat:Int) 16).toNat).take ((et ((Int.tmod ((a0.getD i4.toNat 0).toNat:Int) 16) + 1)).toNat - (Int.tmod ((a0.getD i4.toNat 0).toNat:Int) 16).toNat))) (aH (i4 + 1))) else none) else none) else none) else none) else none) else none) else none) else none) else none))) else none) else (some (t5)))
def eH (K:Nat) (a0:List UInt8):Option (List UInt8):=(if a0 = ([]:List UInt8) then (some (([45]:List UInt8))) else (dw K a0 K ([]:List UInt8) 0))
def bm (K:Nat):Nat → Int → Option (List UInt8)
  | 0,_=>none
  | k_ + 1,a0=>(if a0 = (-9223372036854775808) then (some (([45,57,50,50,51,51,55,50,48,51,54,56,53,52,55,55,53,56,48,56]:List UInt8))) else (if a0 < 0 then (((bm K k_) (aH (0 - a0))).bind fun x6=>(if (([45]:List UInt8).length:Int) + (x6.length:Int) ≤ 9223372036854775807 then (some ((([45]:List UInt8) ++ x6))) else none)) else (if a0 < 10 then (some ((ig [et (aH (48 + a0))]))) else (((bm K k_) (aH (Int.tdiv a0 10))).bind fun x7=>(((bm K k_) (Int.tmod a0 10)).bind fun x8=>(if (x7.length:Int) + (x8.length:Int) ≤ 9223372036854775807 then (some ((x7 ++ x8))) else none))))))
def cC (K:Nat) (a0:Int):Option (List UInt8):=bm K K a0
def fK (K:Nat) (a0_0:Int) (a0_1:Int) (a0_2:Bool) (a0_3:Bool) (a0_4:Bool) (a0_5:Bool) (a0_6:Bool) (a0_7:Bool) (a0_8:Bool) (a0_9:Bool) (a0_10:List UInt8) (a0_11:List UInt8) (a0_12:List UInt8) (a0_13:List UInt8) (a1:Int):Option (List UInt8):=(Option.bind (if 0 ≤ a1 then (if a1 < (4:Int) then (if ([a0_2,a0_3,a0_4,a0_5].getD a1.toNat false) = true then (some (([43]:List UInt8))) else (some (([]:List UInt8)))) else none) else none) fun x5=>(Option.bind (if 0 ≤ a1 then (if a1 < (4:Int) then (if ([a0_6,a0_7,a0_8,a0_9].getD a1.toNat false) = true then (if (x5.length:Int) + (([61]:List UInt8).length:Int) ≤ 9223372036854775807 then ((eH K ([a0_10,a0_11,a0_12,a0_13].getD a1.toNat [])).bind fun x8=>(if ((x5 ++ ([61]:List UInt8)).length:Int) + (x8.length:Int) ≤ 9223372036854775807 then (some (((x5 ++ ([61]:List UInt8)) ++ x8))) else none)) else none) else (some (x5))) else none) else none) fun x7=>(if x7 = ([]:List UInt8) then (some (([46]:List UInt8))) else (some (x7)))))
def fY (a0_0:Int) (a0_1:Int) (a0_2:Int) (a0_3:Int) (a0_4:Int) (a0_5:Int) (a0_6:Int) (a0_7:Int) (a0_8:Int):List Int:=([a0_0,a0_1,a0_2,a0_3,a0_4,a0_5,a0_6,a0_7,a0_8])
def eF:List (List UInt8):=([([]:List UInt8),([]:List UInt8),([]:List UInt8),([]:List UInt8),([116,105,99,107]:List UInt8),([119,111,114,107]:List UInt8),([]:List UInt8),([97,114,109]:List UInt8),([99,114,97,115,104]:List UInt8)])
def cZ (K:Nat) (l0:List aB) (a1:Int) (i119:Int):Nat → (List UInt8) → Int → Option (List UInt8)
  | 0,_,_=>none
  | k + 1,t231,i127=>(if i127 < a1 then (if (t231.length:Int) + (([32]:List UInt8).length:Int) ≤ 9223372036854775807 then (if 0 ≤ i127 then (if i127 < (4:Int) then ((eH K ([((l0.getD i119.toNat aq).Key).Dims_0,((l0.getD i119.toNat aq).Key).Dims_1,((l0.getD i119.toNat aq).Key).Dims_2,((l0.getD i119.toNat aq).Key).Dims_3].getD i127.toNat [])).bind fun x869=>(if ((t231 ++ ([32]:List UInt8)).length:Int) + (x869.length:Int) ≤ 9223372036854775807 then (cZ K l0 a1 i119 k ((t231 ++ ([32]:List UInt8)) ++ x869) (aH (i127 + 1))) else none)) else none) else none) else none) else (some (t231)))
def dz (K:Nat) (l0:List aB) (a1:Int):Nat → (List UInt8) → Int → Option (Sum Unit ((List UInt8) × Int))
  | 0,_,_=>none
  | k + 1,t217,i119=>(if i119 < (l0.length:Int) then (Option.bind (if (t217.length:Int) + (([32]:List UInt8).length:Int) ≤ 9223372036854775807 then (if 0 ≤ i119 then ((eP K (((l0.getD i119.toNat aq).Key).Hour)).bind fun x856=>(if ((t217 ++ ([32]:List UInt8)).length:Int) + (x856.length:Int) ≤ 9223372036854775807 then (Option.bind (cZ K l0 a1 i119 K ((t217 ++ ([32]:List UInt8)) ++ x856) 0) fun x863=>(if (x863.length:Int) + (([32]:List UInt8).length:Int) ≤ 9223372036854775807 then ((cC K ((l0.getD i119.toNat aq).Value)).bind fun x870=>(if ((x863 ++ ([32]:List UInt8)).length:Int) + (x870.length:Int) ≤ 9223372036854775807 then (some (((x863 ++ ([32]:List UInt8)) ++ x870))) else none)) else none)) else none)) else none) else none) fun x855=>(dz K l0 a1 k x855 (aH (i119 + 1)))) else (some (Sum.inr ((t217,0)))))
def db (K:Nat) (a0_3:Int) (a0_4:Int) (a0_5:Bool) (a0_6:Bool) (a0_7:Bool) (a0_8:Bool) (a0_9:Bool) (a0_10:Bool) (a0_11:Bool) (a0_12:Bool) (a0_13:List UInt8) (a0_14:List UInt8) (a0_15:List UInt8) (a0_16:List UInt8) (a1:Int):Nat → (List UInt8) → Int → Option (Sum Unit ((List UInt8) × Int))
  | 0,_,_=>none
  | k + 1,t233,i129=>(if i129 < a1 then (if (t233.length:Int) + (([32]:List UInt8).length:Int) ≤ 9223372036854775807 then ((fK K a0_3 a0_4 a0_5 a0_6 a0_7 a0_8 a0_9 a0_10 a0_11 a0_12 a0_13 a0_14 a0_15 a0_16 i129).bind fun x884=>(if ((t233 ++ ([32]:List UInt8)).length:Int) + (x884.length:Int) ≤ 9223372036854775807 then (db K a0_3 a0_4 a0_5 a0_6 a0_7 a0_8 a0_9 a0_10 a0_11 a0_12 a0_13 a0_14 a0_15 a0_16 a1 k ((t233 ++ ([32]:List UInt8)) ++ x884) (aH (i129 + 1))) else none)) else none) else (some (Sum.inr ((t233,0)))))
def dE (K:Nat) (x885:List Int):Nat → (List UInt8) → Int → Option (Sum Unit ((List UInt8) × Int))
  | 0,_,_=>none
  | k + 1,t235,i131=>(if i131 < (x885.length:Int) then (if (t235.length:Int) + (([32]:List UInt8).length:Int) ≤ 9223372036854775807 then (if 0 ≤ i131 then ((cC K (x885.getD i131.toNat 0)).bind fun x897=>(if ((t235 ++ ([32]:List UInt8)).length:Int) + (x897.length:Int) ≤ 9223372036854775807 then (dE K x885 k ((t235 ++ ([32]:List UInt8)) ++ x897) (aH (i131 + 1))) else none)) else none) else none) else (some (Sum.inr ((t235,0)))))
def cd (K:Nat) (l1:List Bool):Nat → (List UInt8) → Int → Option (Sum Unit ((List UInt8) × Int))
  | 0,_,_=>none
  | k + 1,t243,i133=>(if i133 < (l1.length:Int) then (Option.bind (if i133 = 0 then (if (t243.length:Int) + (([32]:List UInt8).length:Int) ≤ 9223372036854775807 then (some ((t243 ++ ([32]:List UInt8)))) else none) else (some (t243))) fun x909=>(if 0 ≤ i133 then (if (l1.getD i133.toNat false) = true then (if (x909.length:Int) + (([49]:List UInt8).length:Int) ≤ 9223372036854775807 then (cd K l1 k (x909 ++ ([49]:List UInt8)) (aH (i133 + 1))) else none) else (if (x909.length:Int) + (([48]:List UInt8).length:Int) ≤ 9223372036854775807 then (cd K l1 k (x909 ++ ([48]:List UInt8)) (aH (i133 + 1))) else none)) else none)) else (some (Sum.inr ((t243,0)))))
def bd (K:Nat) (a0_0:Int) (a0_1:Int) (l0:List aB) (a0_3:Int) (a0_4:Int) (a0_5:Bool) (a0_6:Bool) (a0_7:Bool) (a0_8:Bool) (a0_9:Bool) (a0_10:Bool) (a0_11:Bool) (a0_12:Bool) (a0_13:List UInt8) (a0_14:List UInt8) (a0_15:List UInt8) (a0_16:List UInt8) (a0_17:Int) (a0_18:Int) (a0_19:Int) (a0_20:Int) (a0_21:Int) (a0_22:Int) (a0_23:Int) (a0_24:Int) (a0_25:Int) (l1:List Bool) (a1:Int):Option ((List UInt8) × Int):=((bh K a0_0 a0_1 l0 a0_3 a0_4 a0_5 a0_6 a0_7 a0_8 a0_9 a0_10 a0_11 a0_12 a0_13 a0_14 a0_15 a0_16 a0_17 a0_18 a0_19 a0_20 a0_21 a0_22 a0_23 a0_24 a0_25 l1 a1).bind fun x458=>(if (!x458) = true then (some ((([]:List UInt8),1))) else (Option.bind (if a0_0 = 1 then (dz K l0 a1 K ([105,110,103,101,115,116]:List UInt8) 0) else (if a0_0 = 2 then ((cC K a0_3).bind fun x871=>(if (([97,115,107,32]:List UInt8).length:Int) + (x871.length:Int) ≤ 9223372036854775807 then (if ((([97,115,107,32]:List UInt8) ++ x871).length:Int) + (([32]:List UInt8).length:Int) ≤ 9223372036854775807 then ((cC K a0_4).bind fun x872=>(if (((([97,115,107,32]:List UInt8) ++ x871) ++ ([32]:List UInt8)).length:Int) + (x872.length:Int) ≤ 9223372036854775807 then (db K a0_3 a0_4 a0_5 a0_6 a0_7 a0_8 a0_9 a0_10 a0_11 a0_12 a0_13 a0_14 a0_15 a0_16 a1 K (((([97,115,107,32]:List UInt8) ++ x871) ++ ([32]:List UInt8)) ++ x872) 0) else none)) else none) else none)) else (if a0_0 = 3 then (iR (fY a0_17 a0_18 a0_19 a0_20 a0_21 a0_22 a0_23 a0_24 a0_25) fun x885=>(dE K x885 K ([112,111,108,105,99,121]:List UInt8) 0)) else (if a0_0 = 6 then (cd K l1 K ([102,97,105,108]:List UInt8) 0) else (if a0_0 = 9 then (some (Sum.inr ((([115,116,97,114,116]:List UInt8),0)))) else (some (Sum.inl ()))))))) fun z=>(rE z (fun v2=>(iR (eF) fun x910=>(if 0 ≤ a0_0 then (if a0_0 < (x910.length:Int) then (if ((x910.getD a0_0.toNat []).length:Int) + (([32]:List UInt8).length:Int) ≤ 9223372036854775807 then ((cC K a0_1).bind fun x911=>(if (((x910.getD a0_0.toNat []) ++ ([32]:List UInt8)).length:Int) + (x911.length:Int) ≤ 9223372036854775807 then (some (((((x910.getD a0_0.toNat []) ++ ([32]:List UInt8)) ++ x911),0))) else none)) else none) else none) else none))) (fun t_=>(some (t_)))))))
def cX (l0:List Int) (a1:List UInt8):Option ((List Int) × Int):=(iR (dW l0) fun u2=>(if (l0.length + a1.length) * 1 ≤ 140737488355328 then (some (((l0 ++ bY a1),(a1.length:Int)))) else none))
def dn (l0:List Int) (a1:List UInt8):Option ((List Int) × Int):=(iR (dP l0) fun u2=>(if (l0.length + a1.length) * 1 ≤ 140737488355328 then (some (((l0 ++ bY a1),(a1.length:Int)))) else none))
def fo:List UInt8:=(([]:List UInt8))
def fQ (K:Nat) (l0:List aE) (a1:Int):Nat → Int → Bool → (List Int) → Option (Int × (List UInt8))
  | 0,_,_,_=>none
  | k + 1,i5,q4,l4=>(if i5 < (l0.length:Int) then (if 0 ≤ i5 then ((bI K ((l0.getD i5.toNat ae).Kind) ((l0.getD i5.toNat ae).N) (((l0.getD i5.toNat ae).Facts).v) (((l0.getD i5.toNat ae).Facts).xs) (((l0.getD i5.toNat ae).Query).From) (((l0.getD i5.toNat ae).Query).To) (((l0.getD i5.toNat ae).Query).Group_0) (((l0.getD i5.toNat ae).Query).Group_1) (((l0.getD i5.toNat ae).Query).Group_2) (((l0.getD i5.toNat ae).Query).Group_3) (((l0.getD i5.toNat ae).Query).Has_0) (((l0.getD i5.toNat ae).Query).Has_1) (((l0.getD i5.toNat ae).Query).Has_2) (((l0.getD i5.toNat ae).Query).Has_3) (((l0.getD i5.toNat ae).Query).Filter_0) (((l0.getD i5.toNat ae).Query).Filter_1) (((l0.getD i5.toNat ae).Query).Filter_2) (((l0.getD i5.toNat ae).Query).Filter_3) (((l0.getD i5.toNat ae).Rules).Retain) (((l0.getD i5.toNat ae).Rules).SealLag) (((l0.getD i5.toNat ae).Rules).DayLag) (((l0.getD i5.toNat ae).Rules).MonthLag) (((l0.getD i5.toNat ae).Rules).ColdLag) (((l0.getD i5.toNat ae).Rules).Base) (((l0.getD i5.toNat ae).Rules).Cap) (((l0.getD i5.toNat ae).Rules).Queue) (((l0.getD i5.toNat ae).Rules).Wal) (((l0.getD i5.toNat ae).Fails).v) (((l0.getD i5.toNat ae).Fails).xs) a1).bind fun x103=>(if ¬ (x103.2 = 0) then (some ((x103.2,([]:List UInt8)))) else (if q4 = true then ((cX l4 x103.1).bind fun x104=>((aX x104.1 10).bind fun x105=>(fQ K l0 a1 k (aH (i5 + 1)) true x105))) else ((dn l4 x103.1).bind fun x106=>((aX x106.1 10).bind fun x107=>(fQ K l0 a1 k (aH (i5 + 1)) true x107)))))) else none) else (if q4 = true then ((cT l4).bind fun x108=>(some ((0,x108)))) else ((dJ l4).bind fun x109=>(some ((0,x109))))))
def iz (K:Nat) (l0:List aE) (a1:Int):Option (Int × (List UInt8)):=(if 1000 < (l0.length:Int) then (some ((2,([]:List UInt8)))) else (if 0 < (l0.length:Int) then (fQ K l0 a1 K 0 false ([]:List Int)) else (iR (fo) fun x110=>(some ((0,x110))))))
def eC (K:Nat) (l0:List aE) (a1:Int):Nat → (List UInt8) → Int → Option (Int × (List UInt8))
  | 0,_,_=>none
  | k + 1,t5,i5=>(if i5 < (l0.length:Int) then (if 0 ≤ i5 then ((bd K ((l0.getD i5.toNat ae).Kind) ((l0.getD i5.toNat ae).N) (((l0.getD i5.toNat ae).Facts).xs) (((l0.getD i5.toNat ae).Query).From) (((l0.getD i5.toNat ae).Query).To) (((l0.getD i5.toNat ae).Query).Group_0) (((l0.getD i5.toNat ae).Query).Group_1) (((l0.getD i5.toNat ae).Query).Group_2) (((l0.getD i5.toNat ae).Query).Group_3) (((l0.getD i5.toNat ae).Query).Has_0) (((l0.getD i5.toNat ae).Query).Has_1) (((l0.getD i5.toNat ae).Query).Has_2) (((l0.getD i5.toNat ae).Query).Has_3) (((l0.getD i5.toNat ae).Query).Filter_0) (((l0.getD i5.toNat ae).Query).Filter_1) (((l0.getD i5.toNat ae).Query).Filter_2) (((l0.getD i5.toNat ae).Query).Filter_3) (((l0.getD i5.toNat ae).Rules).Retain) (((l0.getD i5.toNat ae).Rules).SealLag) (((l0.getD i5.toNat ae).Rules).DayLag) (((l0.getD i5.toNat ae).Rules).MonthLag) (((l0.getD i5.toNat ae).Rules).ColdLag) (((l0.getD i5.toNat ae).Rules).Base) (((l0.getD i5.toNat ae).Rules).Cap) (((l0.getD i5.toNat ae).Rules).Queue) (((l0.getD i5.toNat ae).Rules).Wal) (((l0.getD i5.toNat ae).Fails).xs) a1).bind fun x24=>(if ¬ (x24.2 = 0) then (some ((x24.2,([]:List UInt8)))) else (if (t5.length:Int) + (x24.1.length:Int) ≤ 9223372036854775807 then (if ((t5 ++ x24.1).length:Int) + (([10]:List UInt8).length:Int) ≤ 9223372036854775807 then (eC K l0 a1 k ((t5 ++ x24.1) ++ ([10]:List UInt8)) (aH (i5 + 1))) else none) else none))) else none) else (some ((0,t5))))
def fu (K:Nat) (l0:List aE) (a1:Int):Option (Int × (List UInt8)):=(if 1000 < (l0.length:Int) then (some ((2,([]:List UInt8)))) else (eC K l0 a1 K ([]:List UInt8) 0))
def cW (K:Nat) (l0:List aE) (a1:Int):Nat → Int → Option (Sum Unit Bool)
  | 0,_=>none
  | k + 1,i4=>(if i4 < (l0.length:Int) then (if 0 ≤ i4 then ((bI K ((l0.getD i4.toNat ae).Kind) ((l0.getD i4.toNat ae).N) (((l0.getD i4.toNat ae).Facts).v) (((l0.getD i4.toNat ae).Facts).xs) (((l0.getD i4.toNat ae).Query).From) (((l0.getD i4.toNat ae).Query).To) (((l0.getD i4.toNat ae).Query).Group_0) (((l0.getD i4.toNat ae).Query).Group_1) (((l0.getD i4.toNat ae).Query).Group_2) (((l0.getD i4.toNat ae).Query).Group_3) (((l0.getD i4.toNat ae).Query).Has_0) (((l0.getD i4.toNat ae).Query).Has_1) (((l0.getD i4.toNat ae).Query).Has_2) (((l0.getD i4.toNat ae).Query).Has_3) (((l0.getD i4.toNat ae).Query).Filter_0) (((l0.getD i4.toNat ae).Query).Filter_1) (((l0.getD i4.toNat ae).Query).Filter_2) (((l0.getD i4.toNat ae).Query).Filter_3) (((l0.getD i4.toNat ae).Rules).Retain) (((l0.getD i4.toNat ae).Rules).SealLag) (((l0.getD i4.toNat ae).Rules).DayLag) (((l0.getD i4.toNat ae).Rules).MonthLag) (((l0.getD i4.toNat ae).Rules).ColdLag) (((l0.getD i4.toNat ae).Rules).Base) (((l0.getD i4.toNat ae).Rules).Cap) (((l0.getD i4.toNat ae).Rules).Queue) (((l0.getD i4.toNat ae).Rules).Wal) (((l0.getD i4.toNat ae).Fails).v) (((l0.getD i4.toNat ae).Fails).xs) a1).bind fun x60=>((bd K ((l0.getD i4.toNat ae).Kind) ((l0.getD i4.toNat ae).N) (((l0.getD i4.toNat ae).Facts).xs) (((l0.getD i4.toNat ae).Query).From) (((l0.getD i4.toNat ae).Query).To) (((l0.getD i4.toNat ae).Query).Group_0) (((l0.getD i4.toNat ae).Query).Group_1) (((l0.getD i4.toNat ae).Query).Group_2) (((l0.getD i4.toNat ae).Query).Group_3) (((l0.getD i4.toNat ae).Query).Has_0) (((l0.getD i4.toNat ae).Query).Has_1) (((l0.getD i4.toNat ae).Query).Has_2) (((l0.getD i4.toNat ae).Query).Has_3) (((l0.getD i4.toNat ae).Query).Filter_0) (((l0.getD i4.toNat ae).Query).Filter_1) (((l0.getD i4.toNat ae).Query).Filter_2) (((l0.getD i4.toNat ae).Query).Filter_3) (((l0.getD i4.toNat ae).Rules).Retain) (((l0.getD i4.toNat ae).Rules).SealLag) (((l0.getD i4.toNat ae).Rules).DayLag) (((l0.getD i4.toNat ae).Rules).MonthLag) (((l0.getD i4.toNat ae).Rules).ColdLag) (((l0.getD i4.toNat ae).Rules).Base) (((l0.getD i4.toNat ae).Rules).Cap) (((l0.getD i4.toNat ae).Rules).Queue) (((l0.getD i4.toNat ae).Rules).Wal) (((l0.getD i4.toNat ae).Fails).xs) a1).bind fun x61=>(if ¬ (x60.1 = x61.1) then (some (Sum.inr (false))) else (if ¬ (x60.2 = x61.2) then (some (Sum.inr (false))) else (cW K l0 a1 k (aH (i4 + 1))))))) else none) else (some (Sum.inl ())))
def ep (K:Nat) (l0:List aE) (a1:Int):Option Bool:=((fb K l0).bind fun x35=>(if (!x35) = true then ((eA K).bind fun x36=>(some (x36))) else (Option.bind (cW K l0 a1 K 0) fun z=>(rE z (fun v2=>((iz K l0 a1).bind fun x62=>((fu K l0 a1).bind fun x63=>(if x62.2 = x63.2 then (if x62.1 = x63.1 then ((eA K).bind fun x64=>(some (x64))) else (some (false))) else (some (false)))))) (fun t_=>(some (t_)))))))
end Go.Proofs.YtcoebjmklmlkcaaGreatDoor.WordsLines
end
section
set_option linter.unusedVariables false
namespace Go.Proofs.YtcoebjmklmlkcaaGreatDoor.E
open Go
section
variable {r:Option Nat} {P:Program} {n:Nat} {w0:World} {F L L':List HP} {ρ ρ':iS} {Q:Exit → Act → World → Prop} {ops:Array Oper} {rest:List Oper} {d:Nat} {v:Value} {ty:TypeId} {pos:String} {after:Array Edge} {op:Op}
theorem vM {x:Operand} (hx:ev ρ x = some v) (hd:Nat.blt d n = true) (k:cE (St n w0 F ((d,v) :: ρ) L) (wpListIn (Wd r) 0 P ops Q rest)):cE (St n w0 F ρ L) (wpListIn (Wd r) 0 P ops Q (⟨some d,.move x,ty,pos,after,none⟩ :: rest)):=nc (au hx) rfl rfl hd k
theorem vA {x:Operand} (hx:ev ρ x = some v) (hd:Nat.blt d n = true) (k:cE (St n w0 F ((d,v) :: ρ) L) (wpListIn (Wd r) 0 P ops Q rest)):cE (St n w0 F ρ L) (wpListIn (Wd r) 0 P ops Q (⟨some d,.assign x,ty,pos,after,none⟩ :: rest)):=nc (iI hx) rfl rfl hd k
theorem vV (h:OV P ⟨some d,op,ty,pos,after,none⟩ ρ L v) (hd:Nat.blt d n = true) (k:cE (St n w0 F ((d,v) :: ρ) L) (wpListIn (Wd r) 0 P ops Q rest)):cE (St n w0 F ρ L) (wpListIn (Wd r) 0 P ops Q (⟨some d,op,ty,pos,after,none⟩ :: rest)):=nc h rfl rfl hd k
def oz:List Nat → Bool
  | []=>true
  | x :: l=>l.all (fun y=>!Nat.beq x y) && oz l
theorem ot:∀ {l:List Nat},oz l = true → l.Nodup
  | [],_=>List.nodup_nil
  | x :: l,h=>by
    simp only [oz,Bool.and_eq_true,List.all_eq_true,Bool.not_eq_true'] at h
    rw [List.nodup_cons]
    refine ⟨fun hx=>?_,ot h.2⟩
    exact Nat.ne_of_beq_eq_false (h.1 x hx) rfl
theorem vF {X:Act → World → Prop} (σ:List Nat) (hn:oz σ = true) (hp:pick L σ = some L') (hs:sub ρ' ρ) (hx:∀ a w,St n w0 F ρ' L' a w → X a w):cE (St n w0 F ρ L) X:=wB σ (ot hn) hp hs hx
theorem vP {X:Act → World → Prop} (σ:List Nat) (hn:oz σ = true) (hp:pick L σ = some L') (k:cE (St n w0 F ρ L') X):cE (St n w0 F ρ L) X:=qR σ (ot hn) hp k
def xg (ρ:iS):List Nat → Option iS
  | []=>some []
  | t :: ts=>match iM ρ t,xg ρ ts with
    | some v,some e=>some ((t,v) :: e)
    | _,_=>none
theorem vS:∀ (ts:List Nat) {ρ':iS},xg ρ ts = some ρ' → sub ρ' ρ
  | [],ρ',h=>by cases h; exact wA _
  | t :: ts,ρ',h=>by
    simp only [xg] at h
    split at h
    · rename_i v e hv he
      cases h
      exact vX hv (vS ts he)
    · cases h
theorem dT {p:Prop} [Decidable p] (h:p):decide p = true:=decide_eq_true h
theorem dF {p:Prop} [Decidable p] (h:¬ p):decide p = false:=decide_eq_false h
theorem bF {b:Bool} (h:¬ b = true):b = false:=Bool.eq_false_iff.2 h
theorem oB {α β:Type} {o:Option α} {f:α → Option β} {b:β} (h:o.bind f = some b):∃ a,o = some a ∧ f a = some b:=Option.bind_eq_some_iff.1 h
theorem nL {a b:Nat} (h:Nat.ble a b = true):a ≤ b:=Nat.le_of_ble_eq_true h
end
section
variable {r:Option Nat} {P:Program} {n:Nat} {w0:World} {F L:List HP} {ρ ρ':iS} {Q:Exit → Act → World → Prop} {ops:Array Oper} {done:Nat → Bool} {T:List (Nat × Nat × Value)} {a:Act} {i j t:Nat} {v:Value} {o:Oper}
theorem hD (k:Nat) (hc:iO ops (up done i)) (hk:T[k]? = some (j,t,v)) (ho:ops[i]? = some o) (hne:Nat.beq j i = false) (he:(o.after.toList.any fun e=>Region.binds .any e && Nat.beq e.on j) = true) (h:lj a ρ T done → jo a ρ'):lj a ρ T done → jo a ((t,v) :: ρ'):=pI hk (sK hc ho (Nat.ne_of_beq_eq_false hne) he) h
theorem vH:∀ {T:List (Nat × Nat × Value)},(∀ e ∈ T,done e.1 = true) → oy a done T → jo a ρ → jo a (T.map (fun e=>(e.2.1,e.2.2)) ++ ρ)
  | [],_,_,h=>h
  | (i,t,v) :: T,hd,hA,h=>by
    intro s u hu
    simp only [List.map_cons,List.cons_append,iM] at hu
    split at hu
    · rename_i e
      subst e
      cases hu
      exact hA.1 (hd _ List.mem_cons_self)
    · exact vH (fun e he=>hd e (List.mem_cons_of_mem _ he)) hA.2 h s u hu
theorem hL {m:Nat} (hall:∀ i,i < m → done i = true) (hT:(T.all fun e=>Nat.blt e.1 m) = true) (a:Act):lj a ρ T done → jo a (T.map (fun e=>(e.2.1,e.2.2)) ++ ρ):=fun h =>
  vH (fun e he=>hall _ (by have:=List.all_eq_true.1 hT e he; simpa [Nat.blt_eq] using this)) h.2 h.1
theorem dV (k0:Nat) {ρi:iS} (hk:T[k0]? = some (i,t,v)) (ho:ops[i]? = some o) (hg:o.guard = none) (hdst:o.dst = some t) (hρ:∀ a,lj a ρ T done → jo a ρi) (hv:OV P o ρi L v) (ht:Nat.blt t n = true) (hn:iM ρ t = none) (h1:nA i t T = true) (h2:nW T = true) :
    cE (kO n w0 F ρ T done L) fun a w=>wpOpIn (Wd r) 0 P ops Q i (kO n w0 F ρ T (up done i) L) a w:=ov ho hdst (cB hg) hρ hv ht hn (lF h1 hk h2)
theorem oT (k0:Nat) (h:nA i t T = true) (h0:T[k0]? = some (i,t,v)) (hinc:nW T = true):∀ (k:Nat) (e:Nat × Nat × Value),T[k]? = some e → (e.1 = i ∧ e.2.1 = t ∧ e.2.2 = v) ∨ (e.1 ≠ i ∧ e.2.1 ≠ t):=lF h h0 hinc
end
section
variable {r:Option Nat} {P:Program} {Q:Exit → Act → World → Prop} {ops:Array Oper} {done:Nat → Bool} {A:(Nat → Bool) → Act → World → Prop}
def mM (ops:Array Oper) (m j:Nat):Bool :=
  match ops[m]? with
  | some o=>o.after.toList.any fun e=>Region.binds .any e && Nat.beq e.on j
  | none=>false
def sY (ops:Array Oper) (i:Nat):Nat → List Nat → Bool
  | m,[]=>mM ops m i
  | m,x :: l=>mM ops m x && sY ops i x l
theorem qQ {m i:Nat} (hc:iO ops done) (hi:done i = false) (h:mM ops m i = true):done m = false:=by
  unfold mM at h
  split at h
  · rename_i o ho; exact rH hc hi ho h
  · cases h
theorem pw {m i:Nat} (hc:iO ops done) (hm:done m = true) (h:mM ops m i = true):done i = true:=by
  unfold mM at h
  split at h
  · rename_i o ho; exact tK hc hm ho h
  · cases h
theorem nP {i:Nat}:∀ (m:Nat) (l:List Nat),iO ops done → done i = false → sY ops i m l = true → done m = false
  | _,[],hc,hi,h=>qQ hc hi h
  | _,x :: l,hc,hi,h=>by
    simp only [sY,Bool.and_eq_true] at h
    exact qQ hc (nP x l hc hi h.2) h.1
theorem nQ {B:Act → World → Prop} {i:Nat} (m:Nat) (l:List Nat) (hne:Nat.beq m i = false) (hp:sY ops i m l = true) (h:∀ done:Nat → Bool,done i = false → iO ops done → iO ops (up done i) → done m = false → cE (A done) fun a w=>wpOpIn (Wd r) 0 P ops Q i (A (up done i)) a w):rY r P ops Q (nn m A B) i:=fun done hi hc hu =>
  have hm:=nP m l hc hi hp
  uY hm hne (h done hi hc hu hm)
theorem dO (j:Nat) {i:Nat} {o:Oper} (hc:iO ops (up done i)) (ho:ops[i]? = some o) (hne:Nat.beq j i = false) (he:(o.after.toList.any fun e=>Region.binds .any e && Nat.beq e.on j) = true):done j = true:=sK hc ho (Nat.ne_of_beq_eq_false hne) he
theorem dS (i j:Nat) (hc:iO ops done) (hi:done i = true) (he:mM ops i j = true):done j = true:=pw hc hi he
def vm (ops:Array Oper) (m:Nat):Nat → Bool
  | 0=>true
  | j + 1=>((List.range (m - j)).any fun k=>mM ops (j + 1 + k) j) && vm ops m j
theorem so {m:Nat}:∀ {j:Nat},vm ops m j = true → ∀ x,x < j → ∃ k,k < m - x ∧ mM ops (x + 1 + k) x = true
  | 0,_,x,hx=>absurd hx (Nat.not_lt_zero x)
  | j + 1,h,x,hx=>by
    simp only [vm,Bool.and_eq_true,List.any_eq_true,List.mem_range] at h
    rcases Nat.lt_succ_iff_lt_or_eq.1 hx with hx | hx
    · exact so h.2 x hx
    · subst hx; exact h.1
theorem xx {m:Nat} {D:Nat → Bool} (hc:iO ops D) (hm:D m = true) (h:vm ops m m = true):∀ (d x:Nat),m = x + d → D x = true:=by
  intro d
  induction d using Nat.strongRecOn with
  | _ d ih =>
    intro x hx
    cases d with
    | zero =>
      have:x = m:=by omega
      rw [this]; exact hm
    | succ d =>
      obtain ⟨k,hk,he⟩:=so h x (by omega)
      exact pw hc (ih (m - (x + 1 + k)) (by omega) (x + 1 + k) (by omega)) he
theorem dA (m:Nat) (hu:iO ops (up done m)) (h:vm ops m m = true):∀ x,x < m → done x = true:=fun x hx=>by
  have:=xx hu (by simp [up]) h (m - x) x (by omega)
  have hne:x ≠ m:=by omega
  simpa [up,hne] using this
theorem Z {α:Sort _} {a:α}:a = a:=rfl
end
section
variable {r:Option Nat} {P:Program} {n:Nat} {w0:World} {F L L':List HP} {ρ ρi:iS} {Q:Exit → Act → World → Prop} {ops:Array Oper} {done:Nat → Bool} {T:List (Nat × Nat × Value)} {a:Act} {i j t:Nat} {v:Value} {o:Oper}
theorem hC (k:Nat) {ρ':iS} (hk:T[k]? = some (i,t,v)) (hd:done i = true) (h:lj a ρ T done → jo a ρ'):lj a ρ T done → jo a ((t,v) :: ρ'):=pI hk hd h
theorem dG (k0:Nat) (hk:T[k0]? = some (i,t,v)) (ho:ops[i]? = some o) (hdst:o.dst = some t) (hw:∀ a,jo a ρi → Region.wanted o (yielded ops a.tmps) = true) (hρ:∀ a,lj a ρ T done → jo a ρi) (hv:OV P o ρi L v) (ht:Nat.blt t n = true) (hn:iM ρ t = none) (h1:nA i t T = true) (h2:nW T = true) :
    cE (kO n w0 F ρ T done L) fun a w=>wpOpIn (Wd r) 0 P ops Q i (kO n w0 F ρ T (up done i) L) a w:=ov ho hdst hw hρ hv ht hn (lF h1 hk h2)
theorem nX (k0:Nat) (hk:T[k0]? = some (i,t,v)) (ho:ops[i]? = some o) (hdst:o.dst = some t) (hw:∀ a,jo a ρi → Region.wanted o (yielded ops a.tmps) = true) (hρ:∀ a,lj a ρ T done → jo a ρi) (hv:OT P o ρi L (fun u M=>u = v ∧ M = L)) (ht:Nat.blt t n = true) (hn:iM ρ t = none) (h1:nA i t T = true) (h2:nW T = true) :
    cE (kO n w0 F ρ T done L) fun a w=>wpOpIn (Wd r) 0 P ops Q i (kO n w0 F ρ T (up done i) L) a w:=tR ho hdst hw hρ hv ht hn (lF h1 hk h2)
end
end Go.Proofs.YtcoebjmklmlkcaaGreatDoor.E
end
section
set_option linter.unusedVariables false
set_option linter.unusedSimpArgs false
set_option maxHeartbeats 8000000
set_option maxRecDepth 100000
namespace Go.Proofs.YtcoebjmklmlkcaaGreatDoor.WordsLines
open Go Go.RowKit E
open Go.Value (int bool slice agg)
def aW (x:aB):List Value:=[(Value.int .i64 x.Key.Hour),(aF x.Key.Dims_0),(aF x.Key.Dims_1),(aF x.Key.Dims_2),(aF x.Key.Dims_3),(Value.int .i64 x.Value)]
theorem nr (x:aB):(aW x).all (·.oneCell') = true:=rfl
theorem bB (x:aB):(aW x).length = 6:=rfl
def bo (x:aE):List Value:=[(Value.int .i64 x.Kind),(Value.int .i64 x.N),x.Facts.v,(Value.int .i64 x.Query.From),(Value.int .i64 x.Query.To),(Value.bool x.Query.Group_0),(Value.bool x.Query.Group_1),(Value.bool x.Query.Group_2),(Value.bool x.Query.Group_3),(Value.bool x.Query.Has_0),(Value.bool x.Query.Has_1),(Value.bool x.Query.Has_2),(Value.bool x.Query.Has_3),(aF x.Query.Filter_0),(aF x.Query.Filter_1),(aF x.Query.Filter_2),(aF x.Query.Filter_3),(Value.int .i64 x.Rules.Retain),(Value.int .i64 x.Rules.SealLag),(Value.int .i64 x.Rules.DayLag),(Value.int .i64 x.Rules.MonthLag),(Value.int .i64 x.Rules.ColdLag),(Value.int .i64 x.Rules.Base),(Value.int .i64 x.Rules.Cap),(Value.int .i64 x.Rules.Queue),(Value.int .i64 x.Rules.Wal),x.Fails.v]
theorem cr (x:aE):(bo x).length = 27:=rfl
theorem bO:gD Tryz.prog 22 = some 37:=by kernel_rfl
theorem ax:dX Tryz.prog 37 = some 27:=by kernel_rfl
theorem bS:ff Tryz.prog 37 5 = some (26,35):=by kernel_rfl
theorem cD:dX Tryz.prog 35 = some 1:=by kernel_rfl
theorem dZ:ji Tryz.prog 35 = some false:=by kernel_rfl
theorem bW:gD Tryz.prog 35 = some 4:=by kernel_rfl
theorem cU:ff Tryz.prog 37 2 = some (2,28):=by kernel_rfl
theorem dU:dX Tryz.prog 28 = some 1:=by kernel_rfl
theorem fU:ji Tryz.prog 28 = some false:=by kernel_rfl
theorem cv:gD Tryz.prog 28 = some 45:=by kernel_rfl
theorem dR:dX Tryz.prog 45 = some 6:=by kernel_rfl
theorem eG:ff Tryz.prog 45 0 = some (0,43):=by kernel_rfl
theorem fE:dX Tryz.prog 43 = some 5:=by kernel_rfl
theorem gP:ff Tryz.prog 43 1 = some (1,30):=by kernel_rfl
theorem dC:dX Tryz.prog 30 = some 4:=by kernel_rfl
theorem dq:im Tryz.prog 30 = some (4,9):=by kernel_rfl
theorem cj:dX Tryz.prog 9 = some 1:=by kernel_rfl
theorem dx:ji Tryz.prog 9 = some false:=by kernel_rfl
theorem tE:cu Tryz.prog 32 = true:=by kernel_rfl
theorem eh:ff Tryz.prog 37 3 = some (3,32):=by kernel_rfl
theorem cH:dX Tryz.prog 32 = some 14:=by kernel_rfl
theorem hO:ji Tryz.prog 32 = some true:=by kernel_rfl
theorem gc:ff Tryz.prog 32 4 = some (10,30):=by kernel_rfl
theorem tC:cu Tryz.prog 33 = true:=by kernel_rfl
theorem tp:cu Tryz.prog 10 = true:=by kernel_rfl
theorem ve:cu Tryz.prog 4 = true:=by kernel_rfl
theorem bP:gm Tryz.prog 37 = some [(Value.int .i64 0),(Value.int .i64 0),(Value.slice none 0 0),(Value.int .i64 0),(Value.int .i64 0),(Value.bool false),(Value.bool false),(Value.bool false),(Value.bool false),(Value.bool false),(Value.bool false),(Value.bool false),(Value.bool false),(aF ([]:List UInt8)),(aF ([]:List UInt8)),(aF ([]:List UInt8)),(aF ([]:List UInt8)),(Value.int .i64 0),(Value.int .i64 0),(Value.int .i64 0),(Value.int .i64 0),(Value.int .i64 0),(Value.int .i64 0),(Value.int .i64 0),(Value.int .i64 0),(Value.int .i64 0),(Value.slice none 0 0)]:=by kernel_rfl
theorem td:gm Tryz.prog 25 = some [(Value.int .i64 0)]:=by kernel_rfl
theorem aQ:ji Tryz.prog 37 = some true:=by kernel_rfl
theorem mY:dX Tryz.prog 25 = some 1:=by kernel_rfl
theorem uh:cu Tryz.prog 54 = true:=by kernel_rfl
theorem uf:cu Tryz.prog 35 = true:=by kernel_rfl
theorem uN:gm Tryz.prog 84 = some [(Value.slice none 0 0),(Value.int .i64 0)]:=by kernel_rfl
theorem qT:kJ Tryz.prog 84 = some [(0,1),(1,1)]:=by kernel_rfl
theorem cM:ff Tryz.prog 84 0 = some (0,47):=by kernel_rfl
theorem cR:dX Tryz.prog 47 = some 1:=by kernel_rfl
theorem fa:ji Tryz.prog 47 = some false:=by kernel_rfl
theorem bV:gD Tryz.prog 47 = some 9:=by kernel_rfl
theorem el:cu Tryz.prog 60 = true:=by kernel_rfl
theorem kQ:cu Tryz.prog 55 = true:=by kernel_rfl
theorem si:gm Tryz.prog 137 = some [(Value.int .i64 0),(Value.int .i64 0),(Value.int .i64 0),(Value.int .i64 0)]:=by kernel_rfl
theorem bN:gD Tryz.prog 70 = some 5:=by kernel_rfl
theorem dY:dX Tryz.prog 5 = some 1:=by kernel_rfl
theorem ob:ji Tryz.prog 5 = some false:=by kernel_rfl
theorem iU:im Tryz.prog 137 = some (4,2):=by kernel_rfl
theorem aI:dX Tryz.prog 2 = some 1:=by kernel_rfl
theorem aU:ji Tryz.prog 2 = some false:=by kernel_rfl
theorem sj:cu Tryz.prog 106 = true:=by kernel_rfl
theorem tV:cu Tryz.prog 98 = true:=by kernel_rfl
theorem tX:cu Tryz.prog 99 = true:=by kernel_rfl
theorem uz:cu Tryz.prog 91 = true:=by kernel_rfl
theorem tM:cu Tryz.prog 82 = true:=by kernel_rfl
theorem tv:gm Tryz.prog 43 = some [(Value.int .i64 0),(aF ([]:List UInt8)),(aF ([]:List UInt8)),(aF ([]:List UInt8)),(aF ([]:List UInt8))]:=by kernel_rfl
theorem rn:kJ Tryz.prog 43 = some [(0,1),(1,4)]:=by kernel_rfl
theorem kP:gm Tryz.prog 45 = some [(Value.int .i64 0),(aF ([]:List UInt8)),(aF ([]:List UInt8)),(aF ([]:List UInt8)),(aF ([]:List UInt8)),(Value.int .i64 0)]:=by kernel_rfl
theorem qK:kJ Tryz.prog 45 = some [(0,5),(5,1)]:=by kernel_rfl
theorem gK:ff Tryz.prog 84 1 = some (1,3):=by kernel_rfl
theorem bD:dX Tryz.prog 3 = some 1:=by kernel_rfl
theorem cb:ji Tryz.prog 3 = some false:=by kernel_rfl
theorem mU:cu Tryz.prog 73 = true:=by kernel_rfl
theorem gR:gm Tryz.prog 5 = some [(Value.int .u8 0)]:=by kernel_rfl
theorem jy:ko Tryz.prog 5 = some 1:=by kernel_rfl
theorem pQ:cu Tryz.prog 93 = true:=by kernel_rfl
theorem pE:cu Tryz.prog 84 = true:=by kernel_rfl
theorem uq:cu Tryz.prog 81 = true:=by kernel_rfl
theorem mZ:cu Tryz.prog 83 = true:=by kernel_rfl
theorem tF:cu Tryz.prog 85 = true:=by kernel_rfl
theorem gA:cu Tryz.prog 58 = true:=by kernel_rfl
theorem gI:ff Tryz.prog 45 1 = some (5,2):=by kernel_rfl
theorem kY:ji Tryz.prog 45 = some true:=by kernel_rfl
theorem sc:ko Tryz.prog 45 = some 80:=by kernel_rfl
theorem uL:cu Tryz.prog 56 = true:=by kernel_rfl
theorem gj:kJ Tryz.prog 37 = some [(0,1),(1,1),(2,1),(3,14),(17,9),(26,1)]:=by kernel_rfl
theorem bp:ff Tryz.prog 37 0 = some (0,3):=by kernel_rfl
theorem kj:cu Tryz.prog 37 = true:=by kernel_rfl
theorem da:ff Tryz.prog 37 1 = some (1,2):=by kernel_rfl
theorem eu:ji Tryz.prog 4 = some false:=by kernel_rfl
theorem fq:im Tryz.prog 29 = some (4,4):=by kernel_rfl
theorem ew:dX Tryz.prog 4 = some 1:=by kernel_rfl
theorem ld:ji Tryz.prog 30 = some true:=by kernel_rfl
theorem mK:ji Tryz.prog 29 = some true:=by kernel_rfl
theorem fw:dX Tryz.prog 29 = some 4:=by kernel_rfl
theorem rW:Tryz.prog.eqGuardType Tryz.prog.depth 32 = false:=by kernel_rfl
theorem qC {x y:Operand} (x0:Int) (x1:Int) (x2:Bool) (x3:Bool) (x4:Bool) (x5:Bool) (x6:Bool) (x7:Bool) (x8:Bool) (x9:Bool) (x10:List UInt8) (x11:List UInt8) (x12:List UInt8) (x13:List UInt8) (y0:Int) (y1:Int) (y2:Bool) (y3:Bool) (y4:Bool) (y5:Bool) (y6:Bool) (y7:Bool) (y8:Bool) (y9:Bool) (y10:List UInt8) (y11:List UInt8) (y12:List UInt8) (y13:List UInt8) (w:World):(do eqGuard .eql 32 x y (.agg #[(Value.int .i64 x0),(Value.int .i64 x1),(Value.bool x2),(Value.bool x3),(Value.bool x4),(Value.bool x5),(Value.bool x6),(Value.bool x7),(Value.bool x8),(Value.bool x9),(aF x10),(aF x11),(aF x12),(aF x13)]) (.agg #[(Value.int .i64 y0),(Value.int .i64 y1),(Value.bool y2),(Value.bool y3),(Value.bool y4),(Value.bool y5),(Value.bool y6),(Value.bool y7),(Value.bool y8),(Value.bool y9),(aF y10),(aF y11),(aF y12),(aF y13)]); binOp .eql 32 (.agg #[(Value.int .i64 x0),(Value.int .i64 x1),(Value.bool x2),(Value.bool x3),(Value.bool x4),(Value.bool x5),(Value.bool x6),(Value.bool x7),(Value.bool x8),(Value.bool x9),(aF x10),(aF x11),(aF x12),(aF x13)]) (.agg #[(Value.int .i64 y0),(Value.int .i64 y1),(Value.bool y2),(Value.bool y3),(Value.bool y4),(Value.bool y5),(Value.bool y6),(Value.bool y7),(Value.bool y8),(Value.bool y9),(aF y10),(aF y11),(aF y12),(aF y13)])).run Tryz.prog w = .ok (.bool ((x0 == y0) && ((x1 == y1) && (((x2 == y2) && ((x3 == y3) && ((x4 == y4) && ((x5 == y5) && true)))) && (((x6 == y6) && ((x7 == y7) && ((x8 == y8) && ((x9 == y9) && true)))) && (((x10 == y10) && ((x11 == y11) && ((x12 == y12) && ((x13 == y13) && true)))) && true)))))) w :=
  pj rW (ma Tryz.underlying32 (by kernel_rfl) (fT Z (bu aU Z) (bu aU Z) (kk Tryz.underlying2 _ _) (fT Z (bu aU Z) (bu aU Z) (kk Tryz.underlying2 _ _) (fT Z (jq mK fw) (jq mK fw) (nZ fq ew (bu eu Z) (bu eu Z) (bu eu Z) (bu eu Z) (bu eu Z) (bu eu Z) (bu eu Z) (bu eu Z) (kL Tryz.underlying4 _ _) (kL Tryz.underlying4 _ _) (kL Tryz.underlying4 _ _) (kL Tryz.underlying4 _ _)) (fT Z (jq mK fw) (jq mK fw) (nZ fq ew (bu eu Z) (bu eu Z) (bu eu Z) (bu eu Z) (bu eu Z) (bu eu Z) (bu eu Z) (bu eu Z) (kL Tryz.underlying4 _ _) (kL Tryz.underlying4 _ _) (kL Tryz.underlying4 _ _) (kL Tryz.underlying4 _ _)) (fT Z (jq ld dC) (jq ld dC) (nZ dq cj (bu dx Z) (bu dx Z) (bu dx Z) (bu dx Z) (bu dx Z) (bu dx Z) (bu dx Z) (bu dx Z) (lM Tryz.underlying9 _ _) (lM Tryz.underlying9 _ _) (lM Tryz.underlying9 _ _) (lM Tryz.underlying9 _ _)) oa)))))) w
theorem dy:ff Tryz.prog 37 4 = some (17,34):=by kernel_rfl
theorem cI:dX Tryz.prog 34 = some 9:=by kernel_rfl
theorem iB:ji Tryz.prog 34 = some true:=by kernel_rfl
theorem rL:Tryz.prog.eqGuardType Tryz.prog.depth 34 = false:=by kernel_rfl
theorem mS {x y:Operand} (x0:Int) (x1:Int) (x2:Int) (x3:Int) (x4:Int) (x5:Int) (x6:Int) (x7:Int) (x8:Int) (y0:Int) (y1:Int) (y2:Int) (y3:Int) (y4:Int) (y5:Int) (y6:Int) (y7:Int) (y8:Int) (w:World):(do eqGuard .eql 34 x y (.agg #[(Value.int .i64 x0),(Value.int .i64 x1),(Value.int .i64 x2),(Value.int .i64 x3),(Value.int .i64 x4),(Value.int .i64 x5),(Value.int .i64 x6),(Value.int .i64 x7),(Value.int .i64 x8)]) (.agg #[(Value.int .i64 y0),(Value.int .i64 y1),(Value.int .i64 y2),(Value.int .i64 y3),(Value.int .i64 y4),(Value.int .i64 y5),(Value.int .i64 y6),(Value.int .i64 y7),(Value.int .i64 y8)]); binOp .eql 34 (.agg #[(Value.int .i64 x0),(Value.int .i64 x1),(Value.int .i64 x2),(Value.int .i64 x3),(Value.int .i64 x4),(Value.int .i64 x5),(Value.int .i64 x6),(Value.int .i64 x7),(Value.int .i64 x8)]) (.agg #[(Value.int .i64 y0),(Value.int .i64 y1),(Value.int .i64 y2),(Value.int .i64 y3),(Value.int .i64 y4),(Value.int .i64 y5),(Value.int .i64 y6),(Value.int .i64 y7),(Value.int .i64 y8)])).run Tryz.prog w = .ok (.bool ((x0 == y0) && ((x1 == y1) && ((x2 == y2) && ((x3 == y3) && ((x4 == y4) && ((x5 == y5) && ((x6 == y6) && ((x7 == y7) && ((x8 == y8) && true)))))))))) w :=
  pj rL (ma Tryz.underlying34 (by kernel_rfl) (fT Z (bu aU Z) (bu aU Z) (kk Tryz.underlying2 _ _) (fT Z (bu aU Z) (bu aU Z) (kk Tryz.underlying2 _ _) (fT Z (bu aU Z) (bu aU Z) (kk Tryz.underlying2 _ _) (fT Z (bu aU Z) (bu aU Z) (kk Tryz.underlying2 _ _) (fT Z (bu aU Z) (bu aU Z) (kk Tryz.underlying2 _ _) (fT Z (bu aU Z) (bu aU Z) (kk Tryz.underlying2 _ _) (fT Z (bu aU Z) (bu aU Z) (kk Tryz.underlying2 _ _) (fT Z (bu cb Z) (bu cb Z) (kk Tryz.underlying3 _ _) (fT Z (bu aU Z) (bu aU Z) (kk Tryz.underlying2 _ _) oa)))))))))) w
theorem qU:ji Tryz.prog 43 = some true:=by kernel_rfl
theorem rG:Tryz.prog.eqGuardType Tryz.prog.depth 45 = false:=by kernel_rfl
theorem uK {x y:Operand} (x0:Int) (x1:List UInt8) (x2:List UInt8) (x3:List UInt8) (x4:List UInt8) (x5:Int) (y0:Int) (y1:List UInt8) (y2:List UInt8) (y3:List UInt8) (y4:List UInt8) (y5:Int) (w:World):(do eqGuard .neq 45 x y (.agg #[(Value.int .i64 x0),(aF x1),(aF x2),(aF x3),(aF x4),(Value.int .i64 x5)]) (.agg #[(Value.int .i64 y0),(aF y1),(aF y2),(aF y3),(aF y4),(Value.int .i64 y5)]); binOp .neq 45 (.agg #[(Value.int .i64 x0),(aF x1),(aF x2),(aF x3),(aF x4),(Value.int .i64 x5)]) (.agg #[(Value.int .i64 y0),(aF y1),(aF y2),(aF y3),(aF y4),(Value.int .i64 y5)])).run Tryz.prog w = .ok (.bool (!(((x0 == y0) && (((x1 == y1) && ((x2 == y2) && ((x3 == y3) && ((x4 == y4) && true)))) && true)) && ((x5 == y5) && true)))) w :=
  tz rG (ma Tryz.underlying45 (by kernel_rfl) (fT Z (jq qU fE) (jq qU fE) (ma Tryz.underlying43 (by kernel_rfl) (fT Z (bu aU Z) (bu aU Z) (kk Tryz.underlying2 _ _) (fT Z (jq ld dC) (jq ld dC) (nZ dq cj (bu dx Z) (bu dx Z) (bu dx Z) (bu dx Z) (bu dx Z) (bu dx Z) (bu dx Z) (bu dx Z) (lM Tryz.underlying9 _ _) (lM Tryz.underlying9 _ _) (lM Tryz.underlying9 _ _) (lM Tryz.underlying9 _ _)) oa))) (fT Z (bu aU Z) (bu aU Z) (kk Tryz.underlying2 _ _) oa))) w
theorem tw:cu Tryz.prog 63 = true:=by kernel_rfl
theorem th:cu Tryz.prog 64 = true:=by kernel_rfl
theorem pz:cu Tryz.prog 62 = true:=by kernel_rfl
theorem pM:cu Tryz.prog 61 = true:=by kernel_rfl
theorem km:cu Tryz.prog 38 = true:=by kernel_rfl
theorem nk:cu Tryz.prog 65 = true:=by kernel_rfl
theorem iq:ff Tryz.prog 43 0 = some (0,2):=by kernel_rfl
theorem uv:cu Tryz.prog 66 = true:=by kernel_rfl
theorem nh:cu Tryz.prog 39 = true:=by kernel_rfl
theorem kn:cu Tryz.prog 12 = true:=by kernel_rfl
theorem kN:gm Tryz.prog 32 = some [(Value.int .i64 0),(Value.int .i64 0),(Value.bool false),(Value.bool false),(Value.bool false),(Value.bool false),(Value.bool false),(Value.bool false),(Value.bool false),(Value.bool false),(aF ([]:List UInt8)),(aF ([]:List UInt8)),(aF ([]:List UInt8)),(aF ([]:List UInt8))]:=by kernel_rfl
theorem ik:ff Tryz.prog 32 0 = some (0,2):=by kernel_rfl
theorem iv:ff Tryz.prog 32 1 = some (1,2):=by kernel_rfl
theorem jS:ff Tryz.prog 32 2 = some (2,29):=by kernel_rfl
theorem gu:ff Tryz.prog 32 3 = some (6,29):=by kernel_rfl
theorem tB:cu Tryz.prog 57 = true:=by kernel_rfl
theorem kt:kJ Tryz.prog 32 = some [(0,1),(1,1),(2,4),(6,4),(10,4)]:=by kernel_rfl
theorem uy:cu Tryz.prog 67 = true:=by kernel_rfl
theorem mW:cu Tryz.prog 40 = true:=by kernel_rfl
theorem od:gm Tryz.prog 2 = some [(Value.int .i64 0)]:=by kernel_rfl
theorem mh:gm Tryz.prog 54 = some [(Value.pointer none),(Value.pointer none),(Value.pointer none),(Value.pointer none),(Value.pointer none),(Value.pointer none),(Value.pointer none),(Value.pointer none),(Value.pointer none)]:=by kernel_rfl
theorem jW:ff Tryz.prog 34 0 = some (0,2):=by kernel_rfl
theorem jJ:ff Tryz.prog 34 1 = some (1,2):=by kernel_rfl
theorem jU:ff Tryz.prog 34 2 = some (2,2):=by kernel_rfl
theorem kf:ff Tryz.prog 34 3 = some (3,2):=by kernel_rfl
theorem jR:ff Tryz.prog 34 4 = some (4,2):=by kernel_rfl
theorem jH:ff Tryz.prog 34 5 = some (5,2):=by kernel_rfl
theorem jM:ff Tryz.prog 34 6 = some (6,2):=by kernel_rfl
theorem jL:ff Tryz.prog 34 8 = some (8,2):=by kernel_rfl
theorem eq:im Tryz.prog 54 = some (9,53):=by kernel_rfl
theorem eU:dX Tryz.prog 53 = some 1:=by kernel_rfl
theorem mj:dX Tryz.prog 54 = some 9:=by kernel_rfl
theorem rj:ji Tryz.prog 54 = some true:=by kernel_rfl
theorem pF:cu Tryz.prog 16 = true:=by kernel_rfl
theorem fS:ji Tryz.prog 53 = some false:=by kernel_rfl
theorem jP:ff Tryz.prog 34 7 = some (7,3):=by kernel_rfl
theorem ki:gm Tryz.prog 34 = some [(Value.int .i64 0),(Value.int .i64 0),(Value.int .i64 0),(Value.int .i64 0),(Value.int .i64 0),(Value.int .i64 0),(Value.int .i64 0),(Value.int .i64 0),(Value.int .i64 0)]:=by kernel_rfl
theorem iW:kJ Tryz.prog 34 = some [(0,1),(1,1),(2,1),(3,1),(4,1),(5,1),(6,1),(7,1),(8,1)]:=by kernel_rfl
theorem mw:gm Tryz.prog 114 = some [(Value.int .i64 0),(Value.int .i64 0),(Value.int .i64 0),(Value.int .i64 0),(Value.int .i64 0),(Value.int .i64 0),(Value.int .i64 0),(Value.int .i64 0),(Value.int .i64 0),(Value.int .i64 0),(Value.int .i64 0),(Value.int .i64 0),(Value.int .i64 0),(Value.int .i64 0),(Value.int .i64 0),(Value.int .i64 0),(Value.int .i64 0),(Value.int .i64 0)]:=by kernel_rfl
theorem ii:gm Tryz.prog 113 = some [(Value.int .i64 0),(Value.int .i64 0)]:=by kernel_rfl
theorem gv:kJ Tryz.prog 113 = some [(0,1),(1,1)]:=by kernel_rfl
theorem dL:im Tryz.prog 114 = some (9,113):=by kernel_rfl
theorem ez:dX Tryz.prog 113 = some 2:=by kernel_rfl
theorem mz:dX Tryz.prog 114 = some 18:=by kernel_rfl
theorem tD:ji Tryz.prog 114 = some true:=by kernel_rfl
theorem tq:cu Tryz.prog 68 = true:=by kernel_rfl
theorem oH:gm Tryz.prog 116 = some [(Value.int .i64 0),(Value.int .i64 0),(Value.int .i64 0),(Value.int .i64 0),(Value.int .i64 0),(Value.int .i64 0),(Value.int .i64 0),(Value.int .i64 0),(Value.int .i64 0)]:=by kernel_rfl
theorem gw:im Tryz.prog 116 = some (9,2):=by kernel_rfl
theorem oL:dX Tryz.prog 116 = some 9:=by kernel_rfl
theorem uD:ji Tryz.prog 116 = some true:=by kernel_rfl
theorem tP:cu Tryz.prog 69 = true:=by kernel_rfl
theorem gb:ff Tryz.prog 113 0 = some (0,2):=by kernel_rfl
theorem ga:ff Tryz.prog 113 1 = some (1,2):=by kernel_rfl
theorem na:cu Tryz.prog 41 = true:=by kernel_rfl
theorem mP:gm Tryz.prog 4 = some [(Value.bool false)]:=by kernel_rfl
theorem ph:ko Tryz.prog 4 = some 1:=by kernel_rfl
theorem ul:cu Tryz.prog 59 = true:=by kernel_rfl
theorem pV:gm Tryz.prog 30 = some [(aF ([]:List UInt8)),(aF ([]:List UInt8)),(aF ([]:List UInt8)),(aF ([]:List UInt8))]:=by kernel_rfl
theorem pB:cu Tryz.prog 20 = true:=by kernel_rfl
theorem pH:gm Tryz.prog 59 = some [(Value.int .i64 0),(Value.int .i64 0),(Value.int .i64 0),(Value.int .i64 0)]:=by kernel_rfl
theorem my:im Tryz.prog 59 = some (4,3):=by kernel_rfl
theorem pO:dX Tryz.prog 59 = some 4:=by kernel_rfl
theorem vj:ji Tryz.prog 59 = some true:=by kernel_rfl
theorem pp:cu Tryz.prog 19 = true:=by kernel_rfl
theorem tg:cu Tryz.prog 36 = true:=by kernel_rfl
theorem oh:ji Tryz.prog 25 = some false:=by kernel_rfl
theorem ut:cu Tryz.prog 11 = true:=by kernel_rfl
theorem rz:cu Tryz.prog 5 = true:=by kernel_rfl
theorem un:gm Tryz.prog 49 = some [(Value.slice none 0 0)]:=by kernel_rfl
theorem gE:gm Tryz.prog 9 = some [(aF ([]:List UInt8))]:=by kernel_rfl
theorem jO:ff Tryz.prog 49 0 = some (0,47):=by kernel_rfl
theorem pT:ko Tryz.prog 9 = some 16:=by kernel_rfl
theorem gG:cu Tryz.prog 13 = true:=by kernel_rfl
theorem uM:cu Tryz.prog 71 = true:=by kernel_rfl
theorem uw:cu Tryz.prog 70 = true:=by kernel_rfl
theorem tQ:gm Tryz.prog 70 = some [(Value.slice none 0 0)]:=by kernel_rfl
theorem fg:dX Tryz.prog 70 = some 1:=by kernel_rfl
theorem iE:ji Tryz.prog 70 = some false:=by kernel_rfl
theorem lX:cu Tryz.prog 72 = true:=by kernel_rfl
theorem ug:cu Tryz.prog 42 = true:=by kernel_rfl
theorem pX:gm Tryz.prog 72 = some [(Value.pointer none),(Value.slice none 0 0)]:=by kernel_rfl
theorem mg:cu Tryz.prog 53 = true:=by kernel_rfl
theorem eQ:ff Tryz.prog 72 1 = some (1,70):=by kernel_rfl
theorem iK:cu Tryz.prog 30 = true:=by kernel_rfl
theorem lz:cu Tryz.prog 31 = true:=by kernel_rfl
theorem pY:cu Tryz.prog 43 = true:=by kernel_rfl
theorem rT:gm Tryz.prog 121 = some (lh (eI .u8) 20 (fun _=>0)):=by kernel_rfl
theorem lm:im Tryz.prog 121 = some (20,5):=by kernel_rfl
theorem uo:cu Tryz.prog 44 = true:=by kernel_rfl
theorem gC:cu Tryz.prog 17 = true:=by kernel_rfl
theorem uO:cu Tryz.prog 14 = true:=by kernel_rfl
theorem ub:cu Tryz.prog 15 = true:=by kernel_rfl
theorem tr:cu Tryz.prog 18 = true:=by kernel_rfl
theorem uH:cu Tryz.prog 21 = true:=by kernel_rfl
theorem rl:cu Tryz.prog 6 = true:=by kernel_rfl
theorem uC:cu Tryz.prog 75 = true:=by kernel_rfl
theorem uG:cu Tryz.prog 46 = true:=by kernel_rfl
theorem kR:cu Tryz.prog 47 = true:=by kernel_rfl
theorem uS:cu Tryz.prog 48 = true:=by kernel_rfl
theorem jg:cu Tryz.prog 76 = true:=by kernel_rfl
theorem tL:cu Tryz.prog 49 = true:=by kernel_rfl
theorem te:cu Tryz.prog 22 = true:=by kernel_rfl
theorem pC:cu Tryz.prog 87 = true:=by kernel_rfl
theorem pW:cu Tryz.prog 77 = true:=by kernel_rfl
theorem pP:cu Tryz.prog 78 = true:=by kernel_rfl
theorem ua:cu Tryz.prog 50 = true:=by kernel_rfl
theorem mb:cu Tryz.prog 51 = true:=by kernel_rfl
theorem uE:cu Tryz.prog 23 = true:=by kernel_rfl
theorem ta:cu Tryz.prog 52 = true:=by kernel_rfl
theorem pL:cu Tryz.prog 24 = true:=by kernel_rfl
theorem jD:cu Tryz.prog 25 = true:=by kernel_rfl
theorem uP:cu Tryz.prog 26 = true:=by kernel_rfl
theorem ms:gD Tryz.prog 66 = some 2:=by kernel_rfl
theorem tS:cu Tryz.prog 27 = true:=by kernel_rfl
theorem uF:cu Tryz.prog 28 = true:=by kernel_rfl
theorem ra:cu Tryz.prog 7 = true:=by kernel_rfl
theorem py:rF Tryz.prog 5 = some (.int .u8 0):=by kernel_rfl
theorem pU:cu Tryz.prog 29 = true:=by kernel_rfl
theorem vL:cu Tryz.prog 8 = true:=by kernel_rfl
theorem vn:cu Tryz.prog 9 = true:=by kernel_rfl
theorem fe.spec (K:Nat) (sv0:Value) (A0:HP) (l0:List aB) (hA0:cg A0 sv0 l0.length 6 (fl aW l0)) (r:Bool) (H:fe K l0 = some r):bf Tryz.prog 32 [sv0] [A0] (fun v M=>v = (bool r) ∧ M = [A0]):=by
 unfold fe at H
 refine bj Tryz.func32 Z 28 Z (nL Z) fun F w0=>?_
 show cE (St 28 w0 F [(0,sv0)] [A0]) _
 refine ag (aa (vA Z Z (af (ag (ag (aa (vM Z Z (vV (bL 0 Z cv Z hA0) Z (vV (an Z Z (dM _ _ _)) Z (af ?_))))))))))
 refine cn H (fun c304 H=>?_) fun c304 H=>?_
 ·refine aj Z (dT c304) (ag (aa (vA Z Z (af (ap ?_)))))
  cases H
  refine vP [0] Z Z ?_
  exact av Z Z ⟨rfl,rfl⟩
 refine al Z (dF c304) (aA (ag (ag (aa (vA Z Z (af (aK ?_)))))))
 refine co (fun k a w=>∃ i26,eo K l0 k i26 = some r ∧ St 28 w0 F [(0,sv0),(3,I i26)] [A0] a w) K ?_ ?_
 ·exact vF [0] Z Z (vS [0,3] Z) fun a w h=>⟨_,H,h⟩
 ·refine fun k=>aL fun i26=>bQ fun H48=>?_
  cases k with
  | zero=>exact absurd H48 (by simp [eo])
  | succ k =>
   rw [eo] at H48
   refine ag (ag (aa (vM Z Z (vM Z Z (vV (bL 0 Z cv Z hA0) Z (vV (an Z Z (ce _ _ _)) Z (af ?_)))))))
   refine eW H48 (fun c552 H48=>?_) fun c552 H48=>?_
   ·refine al Z (dF c552) (bM (ag (aa (vA Z Z (af (ap ?_))))))
    cases H48
    refine vP [0] Z Z ?_
    exact av Z Z ⟨rfl,rfl⟩
   refine aj Z (dT c552) (aA ?_)
   obtain ⟨x12,H50,H48⟩:=oB H48
   refine bU (fun a w=>∃ v12,x12 = Sum.inl v12 ∧ St 28 w0 F [(0,sv0),(3,I i26)] [A0] a w) ?_ ?_
   ·refine aK (ag (aa (vA Z Z (af (aK ?_)))))
    refine co (fun k a w=>∃ i30,dD K l0 i26 k i30 = some x12 ∧ St 28 w0 F [(0,sv0),(3,I i26),(4,I i30)] [A0] a w) K ?_ ?_
    ·exact vF [0] Z Z (vS [0,3,4] Z) fun a w h=>⟨_,H50,h⟩
    ·refine fun k=>aL fun i30=>bQ fun H51=>?_
     cases k with
     | zero=>exact absurd H51 (by simp [dD])
     | succ k =>
      rw [dD] at H51
      refine ag (ag (aa (vM Z Z (vV (an Z Z (ce _ _ _)) Z (af ?_)))))
      refine eW H51 (fun c596 H51=>?_) fun c596 H51=>?_
      ·refine al Z (dF c596) (bM ?_)
       cases H51
       exact vF [0] Z Z (vS [0,3] Z) fun a w h=>⟨_,rfl,h⟩
      refine aj Z (dT c596) (aA (ag (aK (ag (aa (vM Z Z (vM Z Z (vM Z Z ?_))))))))
      obtain ⟨c601,H51⟩:=dK H51
      refine vV (bA (sz:=5) 0 Z Z cv dR Z hA0 c601 c552) Z (vV (dk (sz:=4) (k0:=i26.toNat * 6) (off:=0) 0 Z eG fE Z hA0 (hH bB (bx c601 c552))) Z (vV (dk (sz:=3) (k0:=i26.toNat * 6 + 0) (off:=1) 0 Z gP dC Z hA0 (hH bB (bx c601 c552))) Z ?_))
      obtain ⟨c602,H51⟩:=dK H51
      obtain ⟨c603,H51⟩:=dK H51
      refine vV (lE 0 Z Z dq cj Z hA0 (hH bB (bx c601 c552)) c602 c603) Z ?_
      refine vV (ay (v:=(aF ([((l0.getD i26.toNat aq).Key).Dims_0,((l0.getD i26.toNat aq).Key).Dims_1,((l0.getD i26.toNat aq).Key).Dims_2,((l0.getD i26.toNat aq).Key).Dims_3].getD i30.toNat []))) Z dx (cL (i:=0) Z hA0 (by simp) (oC bB (bx c601 c552) (qm (enc:=eS) (z:=[]) (ys:=[((l0.getD i26.toNat aq).Key).Dims_0,((l0.getD i26.toNat aq).Key).Dims_1,((l0.getD i26.toNat aq).Key).Dims_2,((l0.getD i26.toNat aq).Key).Dims_3]) gt Z (bx c602 c603))))) Z ?_
      refine vV (gQ Z Tryz.underlying9) Z (vV (an Z Z (dM _ _ _)) Z (af ?_))
      refine cn H51 (fun c604 H51=>?_) fun c604 H51=>?_
      ·refine aj Z (dT c604) (ag (aa (vA Z Z (af (ap ?_)))))
       cases H51
       have H52:=Option.some.inj (show some _ = some _ from H48)
       cases H52
       refine vP [0] Z Z ?_
       exact av Z Z ⟨rfl,rfl⟩
      refine al Z (dF c604) (aA (aa (vM Z Z (vV (an Z Z (bR _ _ _) ) Z (vA Z Z (af ?_))))))
      exact vF [0] Z Z (vS [0,3,4] Z) fun a w h=>⟨k,Nat.lt_succ_self k,_,H51,h⟩
   ·refine aL fun v12=>bQ fun e_=>?_
    subst e_
    rw [gX] at H48
    refine aa (vM Z Z (vV (an Z Z (bR _ _ _) ) Z (vA Z Z (af ?_))))
    exact vF [0] Z Z (vS [0,3] Z) fun a w h=>⟨k,Nat.lt_succ_self k,_,H48,h⟩
theorem fX.spec (K:Nat) (a0_0 a0_1:Int) (a0_2 a0_3:Bool) (a0_4 a0_5:Bool) (a0_6 a0_7:Bool) (a0_8 a0_9:Bool) (a0_10:List UInt8) (a0_11:List UInt8) (a0_12:List UInt8) (a0_13:List UInt8) (r:Bool) (H:fX K a0_0 a0_1 a0_2 a0_3 a0_4 a0_5 a0_6 a0_7 a0_8 a0_9 a0_10 a0_11 a0_12 a0_13 = some r):bf Tryz.prog 33 [agg #[I a0_0,I a0_1,bool a0_2,bool a0_3,bool a0_4,bool a0_5,bool a0_6,bool a0_7,bool a0_8,bool a0_9,aF a0_10,aF a0_11,aF a0_12,aF a0_13]] [] (fun v M=>v = (bool r) ∧ M = []):=by
 unfold fX at H
 refine bj Tryz.func33 Z 14 Z (nL Z) fun F w0=>?_
 let C0_:List Value:=[I a0_0,I a0_1,bool a0_2,bool a0_3,bool a0_4,bool a0_5,bool a0_6,bool a0_7,bool a0_8,bool a0_9,aF a0_10,aF a0_11,aF a0_12,aF a0_13]
 show cE (St 14 w0 F [(0,agg #[I a0_0,I a0_1,bool a0_2,bool a0_3,bool a0_4,bool a0_5,bool a0_6,bool a0_7,bool a0_8,bool a0_9,aF a0_10,aF a0_11,aF a0_12,aF a0_13])] []) _
 refine ag (aa ?_)
 refine az (fx (cs:=C0_) Z Z) Z Z Z ?_
 rintro _ _ ⟨b2,rfl,rfl⟩
 refine vA Z Z (af (ag (ag (aa (vA Z Z (af (aK ?_)))))))
 refine co (fun k a w=>∃ i4,ee K a0_10 a0_11 a0_12 a0_13 k i4 = some r ∧ St 14 w0 F [(1,pt b2 0),(3,I i4)] [box b2 32 C0_] a w) K ?_ ?_
 ·exact vF [0] Z Z (vS [1,3] Z) fun a w h=>⟨_,H,h⟩
 ·refine fun k=>aL fun i4=>bQ fun H4=>?_
  cases k with
  | zero=>exact absurd H4 (by simp [C0_,ee])
  | succ k =>
   rw [ee] at H4
   refine ag (ag (aa (vM Z Z (vV (an Z Z (ce _ _ _)) Z (af ?_)))))
   refine eW H4 (fun c74 H4=>?_) fun c74 H4=>?_
   ·refine al Z (dF c74) (bM (ag (aa (vA Z Z (af (ap ?_))))))
    cases H4
    refine vP [] Z Z ?_
    exact av Z Z ⟨rfl,rfl⟩
   refine aj Z (dT c74) (aA (ag (aK (ag (aa (vM Z Z (vV (ak (sz:=3) (o:=0) Z gc dC) Z ?_)))))))
   obtain ⟨c78,H4⟩:=dK H4
   obtain ⟨c79,H4⟩:=dK H4
   refine vV (bl (o:=10) Z Z dq cj c78 c79) Z (vV (ay (v:=(aF ([a0_10,a0_11,a0_12,a0_13].getD i4.toNat []))) Z dx (dr (i:=0) (enc:=eS) (z:=[]) (xs:=[a0_10,a0_11,a0_12,a0_13]) Z gt Z (bx c78 c79))) Z (vV (gQ Z Tryz.underlying9) Z (vV (an Z Z (dM _ _ _)) Z (af ?_))))
   refine cn H4 (fun c80 H4=>?_) fun c80 H4=>?_
   ·refine aj Z (dT c80) (ag (aa (vA Z Z (af (ap ?_)))))
    cases H4
    refine vP [] Z Z ?_
    exact av Z Z ⟨rfl,rfl⟩
   refine al Z (dF c80) (aA (aa (vM Z Z (vV (an Z Z (bR _ _ _) ) Z (vA Z Z (af ?_))))))
   exact vF [0] Z Z (vS [1,3] Z) fun a w h=>⟨k,Nat.lt_succ_self k,_,H4,h⟩
theorem eY.spec (K:Nat) (sv0:Value) (A0:HP) (l0:List aE) (hA0:cg A0 sv0 l0.length 27 (fl bo l0)) (hJ0:∀ x ∈ l0,cg A0 x.Facts.v x.Facts.xs.length 6 (fl aW x.Facts.xs) ∧ cg A0 x.Fails.v x.Fails.xs.length 1 (fl eB x.Fails.xs)) (r:Bool) (H:eY K l0 = some r):bf Tryz.prog 10 [sv0] [A0] (fun v M=>v = (bool r) ∧ M = [A0]):=by
 unfold eY at H
 refine bj Tryz.func10 Z 51 Z (nL Z) fun F w0=>?_
 show cE (St 51 w0 F [(0,sv0)] [A0]) _
 refine ag (aa (vA Z Z (af (ag (ag (aa (vM Z Z (vV (bL 0 Z bO Z hA0) Z (vV (an Z Z (dM _ _ _)) Z (af ?_))))))))))
 refine cn H (fun c72 H=>?_) fun c72 H=>?_
 ·refine aj Z (dT c72) (ag (aa (vA Z Z (af (ap ?_)))))
  cases H
  refine vP [0] Z Z ?_
  exact av Z Z ⟨rfl,rfl⟩
 refine al Z (dF c72) (aA (ag (aa (vA Z Z (af (ag (ag (aa (vA Z Z (af (aK ?_)))))))))))
 refine co (fun k a w=>∃ i7,∃ i9,dB K l0 k i7 i9 = some r ∧ St 51 w0 F [(0,sv0),(3,I i7),(4,I i9)] [A0] a w) K ?_ ?_
 ·exact vF [0] Z Z (vS [0,3,4] Z) fun a w h=>⟨_,_,H,h⟩
 ·refine fun k=>aL fun i7=>aL fun i9=>bQ fun H4=>?_
  cases k with
  | zero=>exact absurd H4 (by simp [dB])
  | succ k =>
   rw [dB] at H4
   refine ag (ag (aa (vM Z Z (vM Z Z (vV (bL 0 Z bO Z hA0) Z (vV (an Z Z (ce _ _ _)) Z (af ?_)))))))
   refine eW H4 (fun c130 H4=>?_) fun c130 H4=>?_
   ·refine al Z (dF c130) (bM (ag (aa (vA Z Z (af (ap ?_))))))
    cases H4
    refine vP [0] Z Z ?_
    exact av Z Z ⟨rfl,rfl⟩
   refine aj Z (dT c130) (aA (ag (aK (ag (aa (vM Z Z (vM Z Z (vM Z Z ?_))))))))
   obtain ⟨c136,H4⟩:=dK H4
   refine vV (bA (sz:=26) 0 Z Z bO ax Z hA0 c136 c130) Z (vV (dk (sz:=0) (k0:=i9.toNat * 27) (off:=2) 0 Z cU dU Z hA0 (hH cr (bx c136 c130))) Z ?_)
   refine vV (ay (v:=((l0.getD i9.toNat ae).Facts).v) Z fU (cL (i:=0) Z hA0 (by simp) (jX (off:=2) cr (bx c136 c130) Z))) Z ?_
   refine vV (bL 0 Z cv Z (hJ0 _ (cV ae (bx c136 c130))).1) Z (vV (an Z Z (bR _ _ _) ) Z (vA Z Z (af (ag (aa (vM Z Z (vV (an Z Z (dM _ _ _)) Z (vM Z Z ?_))))))))
   refine cn H4 (fun c137 H4=>?_) fun c137 H4=>?_
   ·refine ah Z Z Z (dT c137) Z Z ?_
    refine ah Z Z Z (dT c137) Z Z ?_
    refine ah Z Z Z (dT c137) Z Z ?_
    refine ah Z Z Z (dT c137) Z Z ?_
    refine ah Z Z Z (dT c137) Z Z ?_
    refine ah Z Z Z (dT c137) Z Z ?_
    refine ah Z Z Z (dT c137) Z Z ?_
    refine vV (am Z Z Z (aM (dT c137))) Z (vM Z Z ?_)
    refine ah Z Z Z Z Z Z ?_
    refine ah Z Z Z Z Z Z ?_
    refine ah Z Z Z Z Z Z ?_
    refine ah Z Z Z Z Z Z ?_
    refine ah Z Z Z Z Z Z ?_
    refine ah Z Z Z Z Z Z ?_
    refine ah Z Z Z Z Z Z ?_
    refine vV (am Z Z Z Z) Z (vM Z Z ?_)
    refine ah Z Z Z Z Z Z ?_
    refine ah Z Z Z Z Z Z ?_
    refine ah Z Z Z Z Z Z ?_
    refine ah Z Z Z Z Z Z ?_
    refine ah Z Z Z Z Z Z ?_
    refine ah Z Z Z Z Z Z ?_
    refine ah Z Z Z Z Z Z ?_
    refine vV (am Z Z Z Z) Z (af (aj Z Z (ag (aa (vA Z Z (af (ap ?_)))))))
    cases H4
    refine vP [0] Z Z ?_
    exact av Z Z ⟨rfl,rfl⟩
   refine ac (au Z) Z Z Z (dF c137) Z Z ?_
   refine ac (au Z) Z Z Z (dF c137) Z Z ?_
   refine ac (bA (sz:=26) 0 Z Z bO ax Z hA0 c136 c130) Z Z Z (dF c137) Z Z ?_
   refine ac (dk (sz:=0) (k0:=i9.toNat * 27) (off:=2) 0 Z cU dU Z hA0 (hH cr (bx c136 c130))) Z Z Z (dF c137) Z Z ?_
   refine ac (ay (v:=((l0.getD i9.toNat ae).Facts).v) Z fU (cL (i:=0) Z hA0 (by simp) (jX (off:=2) cr (bx c136 c130) Z))) Z Z Z (dF c137) Z Z ?_
   obtain ⟨x47,h47,H4⟩:=oB H4
   refine cc (br (Lr:=[]) [0] [0] (first:=[]) (cap:=[]) (xs:=[.tmp 29]) Z Z tE Z (fe.spec K (((l0.getD i9.toNat ae).Facts).v) A0 (((l0.getD i9.toNat ae).Facts).xs) ((hJ0 _ (cV ae (bx c136 c130))).1) _ h47) (by decide) Z (by decide) Z) Z Z Z (dF c137) Z Z ?_
   rintro _ _ ⟨rfl,rfl⟩
   refine ac (fP Z (gk _)) Z Z Z (dF c137) Z Z ?_
   refine vV (am Z Z Z (aN (dF c137))) Z (vM Z Z ?_)
   refine cn H4 (fun c138 H4=>?_) fun c138 H4=>?_
   ·refine ah Z Z Z c138 Z Z ?_
    refine ah Z Z Z c138 Z Z ?_
    refine ah Z Z Z c138 Z Z ?_
    refine ah Z Z Z c138 Z Z ?_
    refine ah Z Z Z c138 Z Z ?_
    refine ah Z Z Z c138 Z Z ?_
    refine ah Z Z Z c138 Z Z ?_
    refine vV (am Z Z Z (aM c138)) Z (vM Z Z ?_)
    refine ah Z Z Z Z Z Z ?_
    refine ah Z Z Z Z Z Z ?_
    refine ah Z Z Z Z Z Z ?_
    refine ah Z Z Z Z Z Z ?_
    refine ah Z Z Z Z Z Z ?_
    refine ah Z Z Z Z Z Z ?_
    refine ah Z Z Z Z Z Z ?_
    refine vV (am Z Z Z Z) Z (af (aj Z Z (ag (aa (vA Z Z (af (ap ?_)))))))
    cases H4
    refine vP [0] Z Z ?_
    exact av Z Z ⟨rfl,rfl⟩
   refine ac (au Z) Z Z Z (bF c138) Z Z ?_
   refine ac (au Z) Z Z Z (bF c138) Z Z ?_
   refine ac (bA (sz:=26) 0 Z Z bO ax Z hA0 c136 c130) Z Z Z (bF c138) Z Z ?_
   refine ac (dk (sz:=0) (k0:=i9.toNat * 27) (off:=26) 0 Z bS cD Z hA0 (hH cr (bx c136 c130))) Z Z Z (bF c138) Z Z ?_
   refine ac (ay (v:=((l0.getD i9.toNat ae).Fails).v) Z dZ (cL (i:=0) Z hA0 (by simp) (jX (off:=26) cr (bx c136 c130) Z))) Z Z Z (bF c138) Z Z ?_
   refine ac (bL 0 Z bW Z (hJ0 _ (cV ae (bx c136 c130))).2) Z Z Z (bF c138) Z Z ?_
   refine ac (an Z Z (dM _ _ _)) Z Z Z (bF c138) Z Z ?_
   refine vV (am Z Z Z (aN (bF c138))) Z (vM Z Z ?_)
   refine cn H4 (fun c139 H4=>?_) fun c139 H4=>?_
   ·refine ah Z Z Z (dT c139) Z Z ?_
    refine ah Z Z Z (dT c139) Z Z ?_
    refine ah Z Z Z (dT c139) Z Z ?_
    refine ah Z Z Z (dT c139) Z Z ?_
    refine ah Z Z Z (dT c139) Z Z ?_
    refine ah Z Z Z (dT c139) Z Z ?_
    refine ah Z Z Z (dT c139) Z Z ?_
    refine vV (am Z Z Z (aM (dT c139))) Z (af (aj Z Z (ag (aa (vA Z Z (af (ap ?_)))))))
    cases H4
    refine vP [0] Z Z ?_
    exact av Z Z ⟨rfl,rfl⟩
   refine ac (au Z) Z Z Z (dF c139) Z Z ?_
   refine ac (au Z) Z Z Z (dF c139) Z Z ?_
   refine ac (bA (sz:=26) 0 Z Z bO ax Z hA0 c136 c130) Z Z Z (dF c139) Z Z ?_
   refine ac (dk (sz:=13) (k0:=i9.toNat * 27) (off:=3) 0 Z eh cH Z hA0 (hH cr (bx c136 c130))) Z Z Z (dF c139) Z Z ?_
   refine ac (aD (vs:=[I (((l0.getD i9.toNat ae).Query).From),I (((l0.getD i9.toNat ae).Query).To),bool (((l0.getD i9.toNat ae).Query).Group_0),bool (((l0.getD i9.toNat ae).Query).Group_1),bool (((l0.getD i9.toNat ae).Query).Group_2),bool (((l0.getD i9.toNat ae).Query).Group_3),bool (((l0.getD i9.toNat ae).Query).Has_0),bool (((l0.getD i9.toNat ae).Query).Has_1),bool (((l0.getD i9.toNat ae).Query).Has_2),bool (((l0.getD i9.toNat ae).Query).Has_3),aF (((l0.getD i9.toNat ae).Query).Filter_0),aF (((l0.getD i9.toNat ae).Query).Filter_1),aF (((l0.getD i9.toNat ae).Query).Filter_2),aF (((l0.getD i9.toNat ae).Query).Filter_3)]) Z hO cH (cL (i:=0) Z hA0 (by simp) (jX (off:=3) cr (bx c136 c130) Z))) Z Z Z (dF c139) Z Z ?_
   obtain ⟨x48,h48,H4⟩:=oB H4
   refine cc (aR (first:=[]) (cap:=[]) (xs:=[.tmp 47]) Z Z tC Z (fX.spec K (((l0.getD i9.toNat ae).Query).From) (((l0.getD i9.toNat ae).Query).To) (((l0.getD i9.toNat ae).Query).Group_0) (((l0.getD i9.toNat ae).Query).Group_1) (((l0.getD i9.toNat ae).Query).Group_2) (((l0.getD i9.toNat ae).Query).Group_3) (((l0.getD i9.toNat ae).Query).Has_0) (((l0.getD i9.toNat ae).Query).Has_1) (((l0.getD i9.toNat ae).Query).Has_2) (((l0.getD i9.toNat ae).Query).Has_3) (((l0.getD i9.toNat ae).Query).Filter_0) (((l0.getD i9.toNat ae).Query).Filter_1) (((l0.getD i9.toNat ae).Query).Filter_2) (((l0.getD i9.toNat ae).Query).Filter_3) _ h48)) Z Z Z (dF c139) Z Z ?_
   rintro _ _ ⟨rfl,rfl⟩
   refine ac (fP Z (gk _)) Z Z Z (dF c139) Z Z ?_
   refine vV (am Z Z Z (aN (dF c139))) Z (af ?_)
   refine cn H4 (fun c140 H4=>?_) fun c140 H4=>?_
   ·refine aj Z c140 (ag (aa (vA Z Z (af (ap ?_)))))
    cases H4
    refine vP [0] Z Z ?_
    exact av Z Z ⟨rfl,rfl⟩
   refine al Z (bF c140) (aA (aa (vM Z Z (vV (an Z Z (bR _ _ _) ) Z (vA Z Z (af ?_))))))
   exact vF [0] Z Z (vS [0,3,4] Z) fun a w h=>⟨k,Nat.lt_succ_self k,_,_,H4,h⟩
theorem fb.spec (K:Nat) (sv0:Value) (A0:HP) (l0:List aE) (hA0:cg A0 sv0 l0.length 27 (fl bo l0)) (hJ0:∀ x ∈ l0,cg A0 x.Facts.v x.Facts.xs.length 6 (fl aW x.Facts.xs) ∧ cg A0 x.Fails.v x.Fails.xs.length 1 (fl eB x.Fails.xs)) (r:Bool) (H:fb K l0 = some r):bf Tryz.prog 4 [sv0] [A0] (fun v M=>v = (bool r) ∧ M = [A0]):=by
 unfold fb at H
 refine bj Tryz.func4 Z 19 Z (nL Z) fun F w0=>?_
 show cE (St 19 w0 F [(0,sv0)] [A0]) _
 refine ag (aa (vA Z Z (af (ag (ag (aa (vA Z Z (af (aK ?_)))))))))
 refine co (fun k a w=>∃ i4,cz K l0 k i4 = some r ∧ St 19 w0 F [(0,sv0),(3,I i4)] [A0] a w) K ?_ ?_
 ·exact vF [0] Z Z (vS [0,3] Z) fun a w h=>⟨_,H,h⟩
 ·refine fun k=>aL fun i4=>bQ fun H4=>?_
  cases k with
  | zero=>exact absurd H4 (by simp [cz])
  | succ k =>
   rw [cz] at H4
   refine ag (ag (aa (vM Z Z (vM Z Z (vV (bL 0 Z bO Z hA0) Z (vV (an Z Z (ce _ _ _)) Z (af ?_)))))))
   refine eW H4 (fun c60 H4=>?_) fun c60 H4=>?_
   ·refine al Z (dF c60) (bM (ag (aa (vM Z Z ?_))))
    obtain ⟨x2,h2,H4⟩:=oB H4
    refine az (br (Lr:=[]) [0] [0] (first:=[]) (cap:=[]) (xs:=[.tmp 17]) Z Z tp Z (eY.spec K sv0 A0 l0 hA0 hJ0 _ h2) (by decide) Z (by decide) Z) Z Z Z ?_
    rintro _ _ ⟨rfl,rfl⟩
    refine vA Z Z (af (ap ?_))
    cases H4
    refine vP [0] Z Z ?_
    exact av Z Z ⟨rfl,rfl⟩
   refine aj Z (dT c60) (aA (ag (aK (ag (aa (vM Z Z (vM Z Z ?_)))))))
   obtain ⟨c63,H4⟩:=dK H4
   refine vV (bA (sz:=26) 0 Z Z bO ax Z hA0 c63 c60) Z (vV (dk (sz:=0) (k0:=i4.toNat * 27) (off:=26) 0 Z bS cD Z hA0 (hH cr (bx c63 c60))) Z ?_)
   refine vV (ay (v:=((l0.getD i4.toNat ae).Fails).v) Z dZ (cL (i:=0) Z hA0 (by simp) (jX (off:=26) cr (bx c63 c60) Z))) Z ?_
   refine vV (bL 0 Z bW Z (hJ0 _ (cV ae (bx c63 c60))).2) Z (vV (an Z Z (dM _ _ _)) Z (af ?_))
   refine cn H4 (fun c64 H4=>?_) fun c64 H4=>?_
   ·refine aj Z (dT c64) (ag (aa (vA Z Z (af (ap ?_)))))
    cases H4
    refine vP [0] Z Z ?_
    exact av Z Z ⟨rfl,rfl⟩
   refine al Z (dF c64) (aA (aa (vM Z Z (vV (an Z Z (bR _ _ _) ) Z (vA Z Z (af ?_))))))
   exact vF [0] Z Z (vS [0,3] Z) fun a w h=>⟨k,Nat.lt_succ_self k,_,H4,h⟩
theorem words_Parse_1_quiet.spec (b0_ b1_:Nat):pu Tryz.prog { target:=.fn (.func 34) ([pt b0_ 0,pt b1_ 0]:List Value).toArray,args:=([]:List Value).toArray ++ ([]:List Value).toArray }:=by
 refine ⟨34,#[pt b0_ 0,pt b1_ 0],⟨_,_,rfl,fun w=>?_⟩,fun w=>?_⟩
 ·simp [invoke,callFunc,go_sem,Tryz.func34,Tryz.f34]
 ·refine callsDIn_of_wpSIn Tryz.func34 Z trivial fun c₀ cs hu=>?_
  apply wpSIn_seq
  apply wpSIn_region
  simp [wpOpsSIn,go_sem,recoverD,hu,Exit.thenS]
  apply wpSIn_seq
  apply wpSIn_region
  simp [wpOpsSIn,go_sem,Exit.thenS]
  refine wpSIn_cond (t:=false) (by simp [Act.eval,Array.replicate]) ?_
  simp only [Bool.false_eq_true,if_false]
  refine wpSIn_of_wpIn Z (wpIn_skip ?_)
  cases c₀
  simp_all [bodyPostS,results]
theorem strings_Split.spec (a0 a1:List UInt8) (r:List (List UInt8)) (H:strings_Split a0 a1 = some r):bf Tryz.prog 54 [aF a0,aF a1] [] (fun v M=>∃ sv2:Value,v = sv2 ∧ M = [own sv2 9 1 r.length (fl eS r)]):=by
 unfold strings_Split at H
 split at H
 ·split at H
  ·rename_i c h
   cases H
   exact rR (fun s c w hs=>pf Tryz.lays146 (by kernel_rfl) s c w hs) a0 c h
  ·cases H
 ·cases H
theorem kz.spec (a0:List UInt8) (r:List (List UInt8)) (H:kz a0 = some r):bf Tryz.prog 35 [aF a0] [] (fun v M=>∃ sv2:Value,v = sv2 ∧ M = [own sv2 9 1 r.length (fl eS r)]):=by
 unfold kz at H
 refine bj Tryz.func35 Z 7 Z (nL Z) fun F w0=>?_
 show cE (St 7 w0 F [(0,aF a0)] []) _
 refine ag (aa (vA Z Z (af (ag (ag (aa (vM Z Z (vV (an Z Z (eT _ _)) Z (af ?_)))))))))
 refine cn H (fun c4 H=>?_) fun c4 H=>?_
 ·refine aj Z (bb c4) (ag (aa (vA Z Z (af (ap ?_)))))
  cases H
  refine cq 9 1 ?_
  refine vP [0] Z Z ?_
  exact av Z Z ⟨_,rfl,rfl⟩
 refine al Z (bg c4) (aA (ag (aa (vM Z Z ?_))))
 obtain ⟨x2,h2,H⟩:=oB H
 refine az (bw (Lr:=[]) (first:=[]) (cap:=[]) (xs:=[.tmp 5,.const (aF ([32]:List UInt8))]) Z Z uh Z (strings_Split.spec a0 ([32]:List UInt8) _ h2) Z) Z Z Z ?_
 rintro sv3 _ ⟨_,⟨_,rfl,rfl⟩,rfl⟩
 refine vA Z Z (af (ap ?_))
 cases H
 refine vP [0] Z Z ?_
 exact av Z Z ⟨_,rfl,rfl⟩
theorem bz.spec (a0:Bool) (r:Unit) (H:bz a0 = some r):bf Tryz.prog 60 [bool a0] [] (fun v M=>v = (tU #[]) ∧ M = []):=by
 unfold bz at H
 refine bj Tryz.func60 Z 5 Z (nL Z) fun F w0=>?_
 show cE (St 5 w0 F [(0,bool a0)] []) _
 refine ag (aa (vM Z Z (vV (fP Z (gk _)) Z (af ?_))))
 refine cn H (fun c2 H=>?_) fun c2 H=>?_
 ·refine aj Z c2 (aa ?_)
  cases H
 refine al Z (bF c2) (aA ?_)
 cases H
 refine iZ ?_
 refine vP [] Z Z ?_
 exact jF Z ⟨rfl,rfl⟩
theorem gq.spec (p0:Nat) (sv0:Value) (l0:List (List UInt8)) (p0_1:Int) (r:((List (List UInt8)) × (List UInt8))) (H:gq l0 p0_1 = some r):bf Tryz.prog 55 [pt p0 0] [box p0 84 [sv0,I p0_1],own sv0 9 1 l0.length (fl eS l0)] (fun v M=>∃ sv1:Value,cg (own sv0 9 1 l0.length (fl eS l0)) sv1 r.1.length 1 (fl eS r.1) ∧ v = (aF r.2) ∧ M = [box p0 84 [sv1,I p0_1],own sv0 9 1 l0.length (fl eS l0)]):=by
 unfold gq at H
 refine bj Tryz.func55 Z 26 Z (nL Z) fun F w0=>?_
 show cE (St 26 w0 F [(0,pt p0 0)] [box p0 84 [sv0,I p0_1],own sv0 9 1 l0.length (fl eS l0)]) _
 refine ag (aa (vA Z Z (af (ag (aa (vM Z Z (vV (aO Z) Z (vV (ak (sz:=0) (o:=0) Z cM cR) Z (vV (ay (v:=sv0) Z fa (ar (i:=0) Z Z)) Z (vV (bL 1 Z bV Z (aV 9)) Z (vV (an Z Z (dM _ _ _)) Z ?_)))))))))))
 obtain ⟨u4,h4,H⟩:=oB H
 refine az (aR (first:=[]) (cap:=[]) (xs:=[.tmp 9]) Z Z el Z (bz.spec (decide (0 < (l0.length:Int))) _ h4)) Z Z Z ?_
 rintro _ _ ⟨rfl,rfl⟩
 refine af (ag (aa (vM Z Z (vV (aO Z) Z (vV (ak (sz:=0) (o:=0) Z cM cR) Z (vV (ay (v:=sv0) Z fa (ar (i:=0) Z Z)) Z ?_))))))
 obtain ⟨c6,H⟩:=dK H
 refine vV (bA (sz:=0) 1 Z Z bV cj Z (aV 9) (by decide) c6) Z ?_
 refine vV (ay (v:=(aF (l0.getD ((0:Int).toNat) []))) Z dx (cL (i:=1) Z (aV 9) (by simp) (ek gt (bx (by decide) c6) Z))) Z ?_
 refine vA Z Z (af (ag (aa (vM Z Z (vM Z Z (vV (aO Z) Z (vV (ak (sz:=0) (o:=0) Z cM cR) Z (vV (ay (v:=sv0) Z fa (ar (i:=0) Z Z)) Z ?_))))))))
 obtain ⟨c8,H⟩:=dK H
 refine vV (nK 1 Z Z bV cj Z (aV 9) (by decide) c8) Z (vV (aO Z) Z (vV (ak (sz:=0) (o:=0) Z cM cR) Z ?_))
 refine aY (jd (cs:=[sv0,I p0_1]) (cs':=[(lJ sv0 (1:Int).toNat l0.length 1),I p0_1]) (sv:=(lJ sv0 (1:Int).toNat l0.length 1)) (L':=[box p0 84 [(lJ sv0 (1:Int).toNat l0.length 1),I p0_1],own sv0 9 1 l0.length (fl eS l0)]) 0 1 Z Z cR Z Z (kM gt (aV 9) (lr (by decide) c8)) Z (by simp) Z) Z Z ?_
 rintro _ _ rfl
 refine af (ag (aa (vM Z Z (vA Z Z (af (ap ?_))))))
 cases H
 refine vP [0,1] Z Z ?_
 exact av Z Z ⟨_,(kM gt (aV 9) (lr (by decide) c8)),rfl,rfl⟩
theorem cK.spec (p0:Nat) (sv0:Value) (A0:HP) (l0:List (List UInt8)) (p0_1:Int) (hA0:cg A0 sv0 l0.length 1 (fl eS l0)) (r:((List (List UInt8)) × (List UInt8))) (H:cK l0 p0_1 = some r):bf Tryz.prog 55 [pt p0 0] [box p0 84 [sv0,I p0_1],A0] (fun v M=>∃ sv1:Value,cg A0 sv1 r.1.length 1 (fl eS r.1) ∧ v = (aF r.2) ∧ M = [box p0 84 [sv1,I p0_1],A0]):=by
 unfold cK at H
 refine bj Tryz.func55 Z 26 Z (nL Z) fun F w0=>?_
 show cE (St 26 w0 F [(0,pt p0 0)] [box p0 84 [sv0,I p0_1],A0]) _
 refine ag (aa (vA Z Z (af (ag (aa (vM Z Z (vV (aO Z) Z (vV (ak (sz:=0) (o:=0) Z cM cR) Z (vV (ay (v:=sv0) Z fa (ar (i:=0) Z Z)) Z (vV (bL 1 Z bV Z hA0) Z (vV (an Z Z (dM _ _ _)) Z ?_)))))))))))
 obtain ⟨u4,h4,H⟩:=oB H
 refine az (aR (first:=[]) (cap:=[]) (xs:=[.tmp 9]) Z Z el Z (bz.spec (decide (0 < (l0.length:Int))) _ h4)) Z Z Z ?_
 rintro _ _ ⟨rfl,rfl⟩
 refine af (ag (aa (vM Z Z (vV (aO Z) Z (vV (ak (sz:=0) (o:=0) Z cM cR) Z (vV (ay (v:=sv0) Z fa (ar (i:=0) Z Z)) Z ?_))))))
 obtain ⟨c6,H⟩:=dK H
 refine vV (bA (sz:=0) 1 Z Z bV cj Z hA0 (by decide) c6) Z ?_
 refine vV (ay (v:=(aF (l0.getD ((0:Int).toNat) []))) Z dx (cL (i:=1) Z hA0 (by simp) (ek gt (bx (by decide) c6) Z))) Z ?_
 refine vA Z Z (af (ag (aa (vM Z Z (vM Z Z (vV (aO Z) Z (vV (ak (sz:=0) (o:=0) Z cM cR) Z (vV (ay (v:=sv0) Z fa (ar (i:=0) Z Z)) Z ?_))))))))
 obtain ⟨c8,H⟩:=dK H
 refine vV (nK 1 Z Z bV cj Z hA0 (by decide) c8) Z (vV (aO Z) Z (vV (ak (sz:=0) (o:=0) Z cM cR) Z ?_))
 refine aY (jd (cs:=[sv0,I p0_1]) (cs':=[(lJ sv0 (1:Int).toNat l0.length 1),I p0_1]) (sv:=(lJ sv0 (1:Int).toNat l0.length 1)) (L':=[box p0 84 [(lJ sv0 (1:Int).toNat l0.length 1),I p0_1],A0]) 0 1 Z Z cR Z Z (kM gt hA0 (lr (by decide) c8)) Z (by simp) Z) Z Z ?_
 rintro _ _ rfl
 refine af (ag (aa (vM Z Z (vA Z Z (af (ap ?_))))))
 cases H
 refine vP [0,1] Z Z ?_
 exact av Z Z ⟨_,(kM gt hA0 (lr (by decide) c8)),rfl,rfl⟩
theorem kU.spec (a0:Int) (r:Bool) (H:kU a0 = r):bf Tryz.prog 106 [I a0] [] (fun v M=>v = (bool r) ∧ M = []):=by
 unfold kU at H
 refine bj Tryz.func106 Z 16 Z (nL Z) fun F w0=>?_
 show cE (St 16 w0 F [(0,I a0)] []) _
 refine ag (aa (vA Z Z (af (ag (aa (vM Z Z ?_))))))
 refine vV (an Z Z fun w=>ku _ _ _ w (by decide)) Z ?_
 refine vV (an Z Z (be _ _ _)) Z (vM Z Z ?_)
 refine eW H (fun c3 H=>?_) fun c3 H=>?_
 ·refine ah Z Z Z (bg c3) Z Z ?_
  refine ah Z Z Z (bg c3) Z Z ?_
  refine ah Z Z Z (bg c3) Z Z ?_
  refine vV (am Z Z Z (aN (bg c3))) Z (vM Z Z ?_)
  refine ac (au Z) Z Z Z Z Z Z ?_
  refine ac (an Z Z fun w=>ku _ _ _ w (by decide)) Z Z Z Z Z Z ?_
  refine ac (an Z Z (be _ _ _)) Z Z Z Z Z Z ?_
  refine vV (am Z Z Z Z) Z (vA Z Z (af (ap ?_)))
  cases H
  refine vP [] Z Z ?_
  exact av Z Z ⟨rfl,rfl⟩
 refine ac (au Z) Z Z Z (bb c3) Z Z ?_
 refine ac (an Z Z fun w=>ku _ _ _ w (by decide)) Z Z Z (bb c3) Z Z ?_
 refine ac (an Z Z (kZ _ _ _)) Z Z Z (bb c3) Z Z ?_
 refine vV (am Z Z Z (aM (bb c3))) Z (vM Z Z ?_)
 refine cn H (fun c4 H=>?_) fun c4 H=>?_
 ·refine ah Z Z Z (kw c4) Z Z ?_
  refine ah Z Z Z (kw c4) Z Z ?_
  refine ah Z Z Z (kw c4) Z Z ?_
  refine vV (am Z Z Z (aM (kw c4))) Z (vA Z Z (af (ap ?_)))
  cases H
  refine vP [] Z Z ?_
  exact av Z Z ⟨rfl,rfl⟩
 refine ac (au Z) Z Z Z (kv c4) Z Z ?_
 refine ac (an Z Z fun w=>ku _ _ _ w (by decide)) Z Z Z (kv c4) Z Z ?_
 refine ac (an Z Z (be _ _ _)) Z Z Z (kv c4) Z Z ?_
 refine vV (am Z Z Z (aN (kv c4))) Z (vA Z Z (af (ap ?_)))
 cases H
 refine vP [] Z Z ?_
 exact av Z Z ⟨rfl,rfl⟩
theorem jT.spec (a0 a1 r:Int) (H:jT a0 a1 = r):bf Tryz.prog 98 [I a0,I a1] [] (fun v M=>v = (I r) ∧ M = []):=by
 unfold jT at H
 refine bj Tryz.func98 Z 28 Z (nL Z) fun F w0=>?_
 show cE (St 28 w0 F [(0,I a0),(1,I a1)] []) _
 refine ag (aa (vA Z Z (af (ag (aK (ag (aa (vM Z Z (vV (an Z Z (ce _ _ _)) Z (vM Z Z ?_))))))))))
 refine cn H (fun c13 H=>?_) fun c13 H=>?_
 ·refine ah Z Z Z (dT c13) Z Z ?_
  refine ah Z Z Z (dT c13) Z Z ?_
  refine vV (am Z Z Z (aM (dT c13))) Z (vA Z Z (af (aj Z Z (ag (aa (vA Z Z (af (ap ?_))))))))
  cases H
  refine vP [] Z Z ?_
  exact av Z Z ⟨rfl,rfl⟩
 refine ac (au Z) Z Z Z (dF c13) Z Z ?_
 refine ac (an Z Z (dM _ _ _)) Z Z Z (dF c13) Z Z ?_
 refine vV (am Z Z Z (aN (dF c13))) Z (vA Z Z (af ?_))
 refine cn H (fun c14 H=>?_) fun c14 H=>?_
 ·refine aj Z (dT c14) (ag (aa (vA Z Z (af (ap ?_)))))
  cases H
  refine vP [] Z Z ?_
  exact av Z Z ⟨rfl,rfl⟩
 refine al Z (dF c14) (ag (aa (vM Z Z (vV (an Z Z (be _ _ _)) Z (vM Z Z ?_)))))
 refine eW H (fun c15 H=>?_) fun c15 H=>?_
 ·refine ah Z Z Z (bg c15) Z Z ?_
  refine ah Z Z Z (bg c15) Z Z ?_
  refine vV (am Z Z Z (aN (bg c15))) Z (vA Z Z (af (al Z Z (ag (aa (vM Z Z (vV (an Z Z (be _ _ _)) Z (vA Z Z (af (al Z (bg c15) (aA ?_)))))))))))
  refine ag (aa (vM Z Z (vM Z Z ?_)))
  refine vV (an Z Z fun w=>vY _ _ _ _ w (by decide)) Z ?_
  refine vV (an Z Z (bR _ _ _) ) Z (vV (an Z Z (vZ _ _ _)) Z (vV (an Z Z (bR _ _ _) ) Z (vA Z Z (af (ap ?_)))))
  cases H
  refine vP [] Z Z ?_
  exact av Z Z ⟨rfl,rfl⟩
 refine ac (au Z) Z Z Z (bb c15) Z Z ?_
 obtain ⟨x4,h4,H⟩:=bt H
 refine cc (aR (first:=[]) (cap:=[]) (xs:=[.tmp 16]) Z Z sj Z (kU.spec a0 _ h4)) Z Z Z (bb c15) Z Z ?_
 rintro _ _ ⟨rfl,rfl⟩
 refine vV (am Z Z Z (aM (bb c15))) Z (vA Z Z (af ?_))
 refine cn H (fun c16 H=>?_) fun c16 H=>?_
 ·refine aj Z c16 (ag (aa (vA Z Z (af (ap ?_)))))
  cases H
  refine vP [] Z Z ?_
  exact av Z Z ⟨rfl,rfl⟩
 refine al Z (bF c16) (ag (aa (vM Z Z (vV (an Z Z (be _ _ _)) Z (vA Z Z (af (aj Z (bb c15) (ag (aa (vA Z Z (af ?_)))))))))))
 refine ap ?_
 cases H
 refine vP [] Z Z ?_
 exact av Z Z ⟨rfl,rfl⟩
theorem jY.spec (a0 a1:Int) (a2 r:Int) (H:jY a0 a1 a2 = r):bf Tryz.prog 99 [I a0,I a1,I a2] [] (fun v M=>v = (I r) ∧ M = []):=by
 unfold jY at H
 refine bj Tryz.func99 Z 42 Z (nL Z) fun F w0=>?_
 show cE (St 42 w0 F [(0,I a0),(1,I a1),(2,I a2)] []) _
 refine ag (aa (vA Z Z (af (ag (aa (vM Z Z (vV (an Z Z (jI _ _ _) ) Z (vA Z Z (af ?_)))))))))
 obtain ⟨x2,H2,H⟩:=bt H
 refine bU (fun a w=>St 42 w0 F [(0,I x2.1),(2,I a2),(7,I x2.2)] [] a w) ?_ ?_
 ·refine ag (aa (vM Z Z (vV (an Z Z (ce _ _ _)) Z (af ?_))))
  refine eW H2 (fun c4 H2=>?_) fun c4 H2=>?_
  ·refine al Z (dF c4) (aA ?_)
   cases H2
   exact vF [] Z Z (vS [0,2,7] Z) fun a w h=>h
  refine aj Z (dT c4) (ag (aa (vM Z Z (vV (an Z Z (bR _ _ _) ) Z (vA Z Z (af (aa (vM Z Z (vV (an Z Z (jI _ _ _) ) Z (vA Z Z (af ?_)))))))))))
  cases H2
  exact vF [] Z Z (vS [0,2,7] Z) fun a w h=>h
 ·refine ag (aa (vM Z Z ?_))
  refine vV (an Z Z fun w=>ku _ _ _ w (by decide)) Z ?_
  refine vA Z Z (af (ag (aa (vM Z Z (vV (an Z Z (lP _ _ _) ) Z (vM Z Z ?_))))))
  refine vV (an Z Z fun w=>js _ _ _ w (by decide)) Z ?_
  refine vV (an Z Z (bR _ _ _) ) Z (vM Z Z ?_)
  refine vV (an Z Z fun w=>js _ _ _ w (by decide)) Z ?_
  refine vV (an Z Z (jI _ _ _) ) Z (vM Z Z (vV (an Z Z (lP _ _ _) ) Z (vV (an Z Z (bR _ _ _) ) Z ?_)))
  refine vV (an Z Z fun w=>js _ _ _ w (by decide)) Z ?_
  refine vV (an Z Z (bR _ _ _) ) Z (vM Z Z (vV (an Z Z (bR _ _ _) ) Z (vV (an Z Z (jI _ _ _) ) Z (vA Z Z (af (ag (aa (vM Z Z ?_))))))))
  refine vV (an Z Z fun w=>js _ _ _ w (by decide)) Z ?_
  refine vV (an Z Z (lP _ _ _) ) Z (vM Z Z (vV (an Z Z (bR _ _ _) ) Z (vV (an Z Z (jI _ _ _) ) Z (vA Z Z (af (ap ?_))))))
  cases H
  refine vP [] Z Z ?_
  exact av Z Z ⟨rfl,rfl⟩
theorem jK.spec (a0 a1 a2:Int) (r:(Int × Bool)) (H:jK a0 a1 a2 = r):bf Tryz.prog 91 [I a0,I a1,I a2] [] (fun v M=>v = (tU #[I r.1,bool r.2]) ∧ M = []):=by
 unfold jK at H
 refine bj Tryz.func91 Z 29 Z (nL Z) fun F w0=>?_
 show cE (St 29 w0 F [(0,I a0),(1,I a1),(2,I a2)] []) _
 refine ag (aa (vA Z Z (vA Z Z (af (ag (ag (aa (vM Z Z (vV (an Z Z (ce _ _ _)) Z (vM Z Z ?_))))))))))
 refine cn H (fun c13 H=>?_) fun c13 H=>?_
 ·refine ah Z Z Z (dT c13) Z Z ?_
  refine ah Z Z Z (dT c13) Z Z ?_
  refine vV (am Z Z Z (aM (dT c13))) Z (vM Z Z ?_)
  refine ah Z Z Z Z Z Z ?_
  refine ah Z Z Z Z Z Z ?_
  refine vV (am Z Z Z Z) Z (vM Z Z ?_)
  refine ah Z Z Z Z Z Z ?_
  refine ah Z Z Z Z Z Z ?_
  refine ah Z Z Z Z Z Z ?_
  refine ah Z Z Z Z Z Z ?_
  refine ah Z Z Z Z Z Z ?_
  refine vV (am Z Z Z Z) Z (af (aj Z Z (ag (aa (vA Z Z (vA Z Z (af (ap ?_))))))))
  cases H
  refine vP [] Z Z ?_
  exact bK (vs:=[I 0,B0]) Z ⟨rfl,⟨rfl,trivial⟩⟩ _ Z ⟨rfl,rfl⟩
 refine ac (au Z) Z Z Z (dF c13) Z Z ?_
 refine ac (an Z Z (dM _ _ _)) Z Z Z (dF c13) Z Z ?_
 refine vV (am Z Z Z (aN (dF c13))) Z (vM Z Z ?_)
 refine cn H (fun c14 H=>?_) fun c14 H=>?_
 ·refine ah Z Z Z (dT c14) Z Z ?_
  refine ah Z Z Z (dT c14) Z Z ?_
  refine vV (am Z Z Z (aM (dT c14))) Z (vM Z Z ?_)
  refine ah Z Z Z Z Z Z ?_
  refine ah Z Z Z Z Z Z ?_
  refine ah Z Z Z Z Z Z ?_
  refine ah Z Z Z Z Z Z ?_
  refine ah Z Z Z Z Z Z ?_
  refine vV (am Z Z Z Z) Z (af (aj Z Z (ag (aa (vA Z Z (vA Z Z (af (ap ?_))))))))
  cases H
  refine vP [] Z Z ?_
  exact bK (vs:=[I 0,B0]) Z ⟨rfl,⟨rfl,trivial⟩⟩ _ Z ⟨rfl,rfl⟩
 refine ac (au Z) Z Z Z (dF c14) Z Z ?_
 refine ac (an Z Z (ce _ _ _)) Z Z Z (dF c14) Z Z ?_
 refine vV (am Z Z Z (aN (dF c14))) Z (vM Z Z ?_)
 refine cn H (fun c15 H=>?_) fun c15 H=>?_
 ·refine ah Z Z Z (dT c15) Z Z ?_
  refine ah Z Z Z (dT c15) Z Z ?_
  refine ah Z Z Z (dT c15) Z Z ?_
  refine ah Z Z Z (dT c15) Z Z ?_
  refine ah Z Z Z (dT c15) Z Z ?_
  refine vV (am Z Z Z (aM (dT c15))) Z (af (aj Z Z (ag (aa (vA Z Z (vA Z Z (af (ap ?_))))))))
  cases H
  refine vP [] Z Z ?_
  exact bK (vs:=[I 0,B0]) Z ⟨rfl,⟨rfl,trivial⟩⟩ _ Z ⟨rfl,rfl⟩
 refine ac (au Z) Z Z Z (dF c15) Z Z ?_
 refine ac (au Z) Z Z Z (dF c15) Z Z ?_
 refine ac (au Z) Z Z Z (dF c15) Z Z ?_
 obtain ⟨x5,h5,H⟩:=bt H
 refine cc (aR (first:=[]) (cap:=[]) (xs:=[.tmp 20,.tmp 21]) Z Z tV Z (jT.spec a0 a1 _ h5)) Z Z Z (dF c15) Z Z ?_
 rintro _ _ ⟨rfl,rfl⟩
 refine ac (an Z Z (dM _ _ _)) Z Z Z (dF c15) Z Z ?_
 refine vV (am Z Z Z (aN (dF c15))) Z (af ?_)
 refine cn H (fun c16 H=>?_) fun c16 H=>?_
 ·refine aj Z (dT c16) (ag (aa (vA Z Z (vA Z Z (af (ap ?_))))))
  cases H
  refine vP [] Z Z ?_
  exact bK (vs:=[I 0,B0]) Z ⟨rfl,⟨rfl,trivial⟩⟩ _ Z ⟨rfl,rfl⟩
 refine al Z (dF c16) (aA (ag (aa (vM Z Z (vM Z Z (vM Z Z ?_))))))
 obtain ⟨x6,h6,H⟩:=bt H
 refine az (aR (first:=[]) (cap:=[]) (xs:=[.tmp 25,.tmp 26,.tmp 27]) Z Z tX Z (jY.spec a0 a1 a2 _ h6)) Z Z Z ?_
 rintro _ _ ⟨rfl,rfl⟩
 refine vA Z Z (vA Z Z (af (ap ?_)))
 cases H
 refine vP [] Z Z ?_
 exact bK (vs:=[I x6,bool true]) Z ⟨rfl,⟨rfl,trivial⟩⟩ _ Z ⟨rfl,rfl⟩
theorem kx.spec (K:Nat) (a0:List UInt8) (r:(Int × Bool)) (H:kx K a0 = some r):bf Tryz.prog 82 [aF a0] [] (fun v M=>v = (tU #[I r.1,bool r.2]) ∧ M = []):=by
 unfold kx at H
 refine bj Tryz.func82 Z 75 Z (nL Z) fun F w0=>?_
 show cE (St 75 w0 F [(0,aF a0)] []) _
 refine ag (aa (vA Z Z (vA Z Z (af (pk (ag (ag (aa (vM Z Z (vV (gQ Z Tryz.underlying9) Z (vV (an Z Z (kZ _ _ _)) Z ?_)))))))))))
 refine af ?_
 refine cn H (fun c264 H=>?_) fun c264 H=>?_
 ·refine aj Z (kw c264) (ag (aa (vA Z Z (vA Z Z (af (ap ?_))))))
  cases H
  refine vP [] Z Z ?_
  exact bK (vs:=[I 0,B0]) Z ⟨rfl,⟨rfl,trivial⟩⟩ _ Z ⟨rfl,rfl⟩
 refine al Z (kv c264) (aA (ag (aa ?_)))
 refine az (cy si) Z Z Z ?_
 rintro _ _ ⟨b3,rfl,rfl⟩
 refine af (ag (aa (vA Z Z (af (ag (qa ?_))))))
 obtain ⟨x3,H8,H⟩:=oB H
 refine bU (fun a w=>∃ v2,x3 = Sum.inl v2 ∧ ∃ b4:Nat,St 75 w0 F [(4,pt b4 0)] [box b4 137 [I v2.1,I v2.2.1,I v2.2.2.1,I v2.2.2.2]] a w) ?_ ?_
 ·refine ag (aa (vM Z Z ?_))
  obtain ⟨c390,H8⟩:=dK H8
  refine az (qz Z Tryz.underlying9 bN Tryz.underlying5 c390) Z Z Z ?_
  rintro sv4 _ rfl
  refine vV (bL 0 Z bN Z (hG 5)) Z (vM Z Z (af (aK ?_)))
  refine co (fun k a w=>∃ i30,∃ i31,∃ i33,∃ i34,∃ i35,∃ i36,gY K a0 k i30 i31 i33 i34 i35 i36 = some x3 ∧ St 75 w0 F [(4,pt b3 0),(5,I i30),(15,sv4),(16,I ((bY a0).length:Int)),(17,I i31)] [box b3 137 [I i33,I i34,I i35,I i36],(wm sv4 5 (bY a0).length (fl (eI .u8) (bY a0)))] a w) K ?_ ?_
  ·exact vF [1,0] Z Z (vS [4,5,15,16,17] Z) fun a w h=>⟨_,_,_,_,_,_,H8,h⟩
  ·refine fun k=>aL fun i30=>aL fun i31=>aL fun i33=>aL fun i34=>aL fun i35=>aL fun i36=>bQ fun H9=>?_
   cases k with
   | zero=>exact absurd H9 (by simp [gY])
   | succ k =>
    rw [gY] at H9
    refine ag (aa (vV (an Z Z (ce _ _ _)) Z (af (ag ?_))))
    refine eW H9 (fun c484 H9=>?_) fun c484 H9=>?_
    ·refine al Z (dF c484) (bM ?_)
     cases H9
     exact vF [0] Z Z (vS [4] Z) fun a w h=>⟨_,rfl,_,h⟩
    refine aj Z (dT c484) (aA (ag (aK (ag (aa (vM Z Z ?_))))))
    obtain ⟨c500,H9⟩:=dK H9
    refine vV (bA (sz:=0) 1 Z Z bN dY Z (hG 5) c500 c484) Z ?_
    refine vV (ay (v:=(int .u8 ((bY a0).getD i31.toNat 0))) Z ob (cL (i:=1) Z (hG 5) (by simp) (ek (jG _) (bx c500 c484) Z))) Z ?_
    refine vA Z Z (vA Z Z (af (ag (ag (aa (vM Z Z ?_))))))
    obtain ⟨c505,H9⟩:=dK H9
    refine vV (fH Z Z Tryz.underlying9 c500 c505) Z (vV (an Z Z (kZ _ _ _)) Z (af ?_))
    refine cn H9 (fun c506 H9=>?_) fun c506 H9=>?_
    ·refine aj Z (kw c506) (ag (ag (aa (vM Z Z (vM Z Z (vV (fH Z Z Tryz.underlying9 c500 c505) Z (vV (an Z Z (kZ _ _ _)) Z (af ?_))))))))
     refine cn H9 (fun c508 H9=>?_) fun c508 H9=>?_
     ·refine aj Z (kw c508) (ag (aa (vA Z Z (vA Z Z (af (ap ?_))))))
      cases H9
      have H10:=Option.some.inj (show some _ = some _ from H)
      cases H10
      refine vP [] Z Z ?_
      exact bK (vs:=[I 0,B0]) Z ⟨rfl,⟨rfl,trivial⟩⟩ _ Z ⟨rfl,rfl⟩
     refine al Z (kv c508) (aA (ag (aa (vM Z Z (vV (an Z Z (bR _ _ _) ) Z (vA Z Z (af (bM (aa (vV (an Z Z (bR _ _ _) ) Z (vM Z Z ?_)))))))))))
     refine af ?_
     exact vF [0,1] Z Z (vS [4,5,15,16,17] Z) fun a w h=>⟨k,Nat.lt_succ_self k,_,_,_,_,_,_,H9,h⟩
    refine al Z (kv c506) (aA (ag (ag (aa (vM Z Z (vV (an Z Z (ce _ _ _)) Z (vM Z Z ?_)))))))
    refine cn H9 (fun c511 H9=>?_) fun c511 H9=>?_
    ·refine ah Z Z Z (dT c511) Z Z ?_
     refine ah Z Z Z (dT c511) Z Z ?_
     refine vV (am Z Z Z (aM (dT c511))) Z (af (aj Z Z (ag (aa (vA Z Z (vA Z Z (af (ap ?_))))))))
     cases H9
     have H11:=Option.some.inj (show some _ = some _ from H)
     cases H11
     refine vP [] Z Z ?_
     exact bK (vs:=[I 0,B0]) Z ⟨rfl,⟨rfl,trivial⟩⟩ _ Z ⟨rfl,rfl⟩
    refine ac (au Z) Z Z Z (dF c511) Z Z ?_
    refine ac (an Z Z (dM _ _ _)) Z Z Z (dF c511) Z Z ?_
    refine vV (am Z Z Z (aN (dF c511))) Z (af ?_)
    refine cn H9 (fun c512 H9=>?_) fun c512 H9=>?_
    ·refine aj Z (dT c512) (ag (aa (vA Z Z (vA Z Z (af (ap ?_))))))
     cases H9
     have H12:=Option.some.inj (show some _ = some _ from H)
     cases H12
     refine vP [] Z Z ?_
     exact bK (vs:=[I 0,B0]) Z ⟨rfl,⟨rfl,trivial⟩⟩ _ Z ⟨rfl,rfl⟩
    refine al Z (dF c512) (aA (aa (vM Z Z (vM Z Z ?_))))
    obtain ⟨c513,H9⟩:=dK H9
    obtain ⟨c514,H9⟩:=dK H9
    refine vV (bl (o:=0) Z Z iU aI c513 c514) Z (vV (ay (v:=(I ([i33,i34,i35,i36].getD i30.toNat 0))) Z aU (dr (i:=0) (enc:=(eI .i64)) (z:=0) (xs:=[i33,i34,i35,i36]) Z (jG _) Z (bx c513 c514))) Z (vV (an Z Z (lP _ _ _) ) Z (vM Z Z (vV (an Z Z (jI _ _ _) ) Z (vV (ij Z (mR Tryz.underlying5 Tryz.underlying2)) Z (vV (an Z Z (bR _ _ _) ) Z (vV (bl (o:=0) Z Z iU aI c513 c514) Z ?_)))))))
    refine aY (jZ (cs:=[I i33,I i34,I i35,I i36]) (cs':=[I (if i30.toNat = 0 then aH ((aH (([i33,i34,i35,i36].getD i30.toNat 0) * 10)) + (aH (et (((bY a0).getD i31.toNat 0) - 48)))) else i33),I (if i30.toNat = 1 then aH ((aH (([i33,i34,i35,i36].getD i30.toNat 0) * 10)) + (aH (et (((bY a0).getD i31.toNat 0) - 48)))) else i34),I (if i30.toNat = 2 then aH ((aH (([i33,i34,i35,i36].getD i30.toNat 0) * 10)) + (aH (et (((bY a0).getD i31.toNat 0) - 48)))) else i35),I (if i30.toNat = 3 then aH ((aH (([i33,i34,i35,i36].getD i30.toNat 0) * 10)) + (aH (et (((bY a0).getD i31.toNat 0) - 48)))) else i36)]) (us:=[I (aH ((aH (([i33,i34,i35,i36].getD i30.toNat 0) * 10)) + (aH (et (((bY a0).getD i31.toNat 0) - 48)))))]) (L':=[box b3 137 [I (if i30.toNat = 0 then aH ((aH (([i33,i34,i35,i36].getD i30.toNat 0) * 10)) + (aH (et (((bY a0).getD i31.toNat 0) - 48)))) else i33),I (if i30.toNat = 1 then aH ((aH (([i33,i34,i35,i36].getD i30.toNat 0) * 10)) + (aH (et (((bY a0).getD i31.toNat 0) - 48)))) else i34),I (if i30.toNat = 2 then aH ((aH (([i33,i34,i35,i36].getD i30.toNat 0) * 10)) + (aH (et (((bY a0).getD i31.toNat 0) - 48)))) else i35),I (if i30.toNat = 3 then aH ((aH (([i33,i34,i35,i36].getD i30.toNat 0) * 10)) + (aH (et (((bY a0).getD i31.toNat 0) - 48)))) else i36)],(wm sv4 5 (bY a0).length (fl (eI .u8) (bY a0)))]) 0 Z Z Z (lp Z) aI Z (jm (fun i_=>List.take (0 + i_ * 1) [I i33,I i34,I i35,I i36] ++ [I (aH ((aH (([i33,i34,i35,i36].getD i30.toNat 0) * 10)) + (aH (et (((bY a0).getD i31.toNat 0) - 48)))))] ++ List.drop (0 + i_ * 1 + List.length [I (aH ((aH (([i33,i34,i35,i36].getD i30.toNat 0) * 10)) + (aH (et (((bY a0).getD i31.toNat 0) - 48)))))]) [I i33,I i34,I i35,I i36] = [I (if i_ = 0 then aH ((aH (([i33,i34,i35,i36].getD i30.toNat 0) * 10)) + (aH (et (((bY a0).getD i31.toNat 0) - 48)))) else i33),I (if i_ = 1 then aH ((aH (([i33,i34,i35,i36].getD i30.toNat 0) * 10)) + (aH (et (((bY a0).getD i31.toNat 0) - 48)))) else i34),I (if i_ = 2 then aH ((aH (([i33,i34,i35,i36].getD i30.toNat 0) * 10)) + (aH (et (((bY a0).getD i31.toNat 0) - 48)))) else i35),I (if i_ = 3 then aH ((aH (([i33,i34,i35,i36].getD i30.toNat 0) * 10)) + (aH (et (((bY a0).getD i31.toNat 0) - 48)))) else i36)]) (bx c513 c514) Z Z Z Z) (jm (fun i_=>0 + i_ * 1 + List.length [I (aH ((aH (([i33,i34,i35,i36].getD i30.toNat 0) * 10)) + (aH (et (((bY a0).getD i31.toNat 0) - 48)))))] ≤ List.length [I i33,I i34,I i35,I i36]) (bx c513 c514) (nL Z) (nL Z) (nL Z) (nL Z)) Z) Z Z ?_
    rintro _ _ rfl
    refine af (aa (vV (an Z Z (bR _ _ _) ) Z (vM Z Z (af ?_))))
    exact vF [0,1] Z Z (vS [4,5,15,16,17] Z) fun a w h=>⟨k,Nat.lt_succ_self k,_,_,_,_,_,_,H9,h⟩
 ·refine aL fun v2=>bQ fun e_=>?_
  subst e_
  rw [gX] at H
  refine aL fun b4=>?_
  refine ag (aa ?_)
  obtain ⟨c515,H⟩:=dK H
  refine vV (bl (o:=0) Z Z iU aI (by decide) c515) Z (vV (ay (v:=(I v2.1)) Z aU (ar (i:=0) Z Z)) Z ?_)
  obtain ⟨c516,H⟩:=dK H
  refine vV (bl (o:=0) Z Z iU aI (by decide) c516) Z (vV (ay (v:=(I v2.2.1)) Z aU (ar (i:=0) Z Z)) Z ?_)
  obtain ⟨c517,H⟩:=dK H
  refine vV (bl (o:=0) Z Z iU aI (by decide) c517) Z (vV (ay (v:=(I v2.2.2.1)) Z aU (ar (i:=0) Z Z)) Z ?_)
  obtain ⟨x4,h2,H⟩:=bt H
  refine az (aR (first:=[]) (cap:=[]) (xs:=[.tmp 50,.tmp 52,.tmp 54]) Z Z uz Z (jK.spec v2.1 v2.2.1 v2.2.2.1 _ h2)) Z Z Z ?_
  rintro _ _ ⟨rfl,rfl⟩
  refine vM Z Z (vV (bH Z Z) Z (vV (bH Z Z) Z (vA Z Z (vA Z Z (af (ag (aa (vM Z Z (vV (an Z Z (lP _ _ _) ) Z ?_)))))))))
  obtain ⟨c518,H⟩:=dK H
  refine vV (bl (o:=0) Z Z iU aI (by decide) c518) Z (vV (ay (v:=(I v2.2.2.2)) Z aU (ar (i:=0) Z Z)) Z (vV (an Z Z (bR _ _ _) ) Z (vA Z Z (af (ag (ag (aa (vM Z Z (vV (fP Z (gk _)) Z (vM Z Z ?_))))))))))
  refine cn H (fun c522 H=>?_) fun c522 H=>?_
  ·refine ah Z Z Z c522 Z Z ?_
   refine ah Z Z Z c522 Z Z ?_
   refine ah Z Z Z c522 Z Z ?_
   refine vV (am Z Z Z (aM c522)) Z (vM Z Z ?_)
   refine ah Z Z Z Z Z Z ?_
   refine ah Z Z Z Z Z Z ?_
   refine vV (am Z Z Z Z) Z (af (aj Z Z (ag (aa (vA Z Z (vA Z Z (af (ap ?_))))))))
   cases H
   refine vP [] Z Z ?_
   exact bK (vs:=[I 0,B0]) Z ⟨rfl,⟨rfl,trivial⟩⟩ _ Z ⟨rfl,rfl⟩
  refine ac (bl (o:=0) Z Z iU aI (by decide) c518) Z Z Z (bF c522) Z Z ?_
  refine ac (ay (v:=(I v2.2.2.2)) Z aU (ar (i:=0) Z Z)) Z Z Z (bF c522) Z Z ?_
  refine ac (an Z Z (iD _ _ _)) Z Z Z (bF c522) Z Z ?_
  refine vV (am Z Z Z (aN (bF c522))) Z (vM Z Z ?_)
  refine cn H (fun c523 H=>?_) fun c523 H=>?_
  ·refine ah Z Z Z (dT c523) Z Z ?_
   refine ah Z Z Z (dT c523) Z Z ?_
   refine vV (am Z Z Z (aM (dT c523))) Z (af (aj Z Z (ag (aa (vA Z Z (vA Z Z (af (ap ?_))))))))
   cases H
   refine vP [] Z Z ?_
   exact bK (vs:=[I 0,B0]) Z ⟨rfl,⟨rfl,trivial⟩⟩ _ Z ⟨rfl,rfl⟩
  refine ac (au Z) Z Z Z (dF c523) Z Z ?_
  refine ac (an Z Z (dM _ _ _)) Z Z Z (dF c523) Z Z ?_
  refine vV (am Z Z Z (aN (dF c523))) Z (af ?_)
  refine cn H (fun c524 H=>?_) fun c524 H=>?_
  ·refine aj Z (dT c524) (ag (aa (vA Z Z (vA Z Z (af (ap ?_))))))
   cases H
   refine vP [] Z Z ?_
   exact bK (vs:=[I 0,B0]) Z ⟨rfl,⟨rfl,trivial⟩⟩ _ Z ⟨rfl,rfl⟩
  refine al Z (dF c524) (aA (ag (aa (vM Z Z (vA Z Z (vA Z Z (af (ap ?_))))))))
  cases H
  refine vP [] Z Z ?_
  exact bK (vs:=[I (aH ((aH (x4.1 * 24)) + v2.2.2.2)),bool true]) Z ⟨rfl,⟨rfl,trivial⟩⟩ _ Z ⟨rfl,rfl⟩
theorem fC.spec (a0:Int) (r:Bool) (H:fC a0 = r):bf Tryz.prog 73 [int .u8 a0] [] (fun v M=>v = (bool r) ∧ M = []):=by
 unfold fC at H
 refine bj Tryz.func73 Z 28 Z (nL Z) fun F w0=>?_
 show cE (St 28 w0 F [(0,int .u8 a0)] []) _
 refine ag (aa (vA Z Z (af (ag (aK ?_)))))
 obtain ⟨x4,H4,H⟩:=bt H
 refine bU (fun a w=>St 28 w0 F [(0,int .u8 a0),(3,bool x4)] [] a w) ?_ ?_
 ·refine ag (aa (vM Z Z (vV (an Z Z (iD _ _ _)) Z (vM Z Z ?_))))
  refine eW H4 (fun c75 H4=>?_) fun c75 H4=>?_
  ·refine ah Z Z Z (dF c75) Z Z ?_
   refine ah Z Z Z (dF c75) Z Z ?_
   refine vV (am Z Z Z (aN (dF c75))) Z (vA Z Z (af (al Z Z (ag (aa (vM Z Z (vV (an Z Z (iD _ _ _)) Z (vM Z Z ?_))))))))
   refine eW H4 (fun c81 H4=>?_) fun c81 H4=>?_
   ·refine ah Z Z Z (dF c81) Z Z ?_
    refine ah Z Z Z (dF c81) Z Z ?_
    refine vV (am Z Z Z (aN (dF c81))) Z (vA Z Z (af (al Z Z (aa (vM Z Z (vV (an Z Z (iD _ _ _)) Z (vM Z Z ?_)))))))
    refine eW H4 (fun c84 H4=>?_) fun c84 H4=>?_
    ·refine ah Z Z Z (dF c84) Z Z ?_
     refine ah Z Z Z (dF c84) Z Z ?_
     refine vV (am Z Z Z (aN (dF c84))) Z (vA Z Z (af ?_))
     cases H4
     exact vF [] Z Z (vS [0,3] Z) fun a w h=>h
    refine ac (au Z) Z Z Z (dT c84) Z Z ?_
    refine ac (an Z Z (jl _ _ _)) Z Z Z (dT c84) Z Z ?_
    refine vV (am Z Z Z (aM (dT c84))) Z (vA Z Z (af ?_))
    cases H4
    exact vF [] Z Z (vS [0,3] Z) fun a w h=>h
   refine ac (au Z) Z Z Z (dT c81) Z Z ?_
   refine ac (an Z Z (jl _ _ _)) Z Z Z (dT c81) Z Z ?_
   refine vV (am Z Z Z (aM (dT c81))) Z (vA Z Z (af ?_))
   refine cn H4 (fun c82 H4=>?_) fun c82 H4=>?_
   ·refine aj Z (dT c82) (aA ?_)
    cases H4
    exact vF [] Z Z (vS [0,3] Z) fun a w h=>h
   refine al Z (dF c82) (aa (vM Z Z (vV (an Z Z (iD _ _ _)) Z (vM Z Z ?_))))
   refine eW H4 (fun c83 H4=>?_) fun c83 H4=>?_
   ·refine ah Z Z Z (dF c83) Z Z ?_
    refine ah Z Z Z (dF c83) Z Z ?_
    refine vV (am Z Z Z (aN (dF c83))) Z (vA Z Z (af ?_))
    cases H4
    exact vF [] Z Z (vS [0,3] Z) fun a w h=>h
   refine ac (au Z) Z Z Z (dT c83) Z Z ?_
   refine ac (an Z Z (jl _ _ _)) Z Z Z (dT c83) Z Z ?_
   refine vV (am Z Z Z (aM (dT c83))) Z (vA Z Z (af ?_))
   cases H4
   exact vF [] Z Z (vS [0,3] Z) fun a w h=>h
  refine ac (au Z) Z Z Z (dT c75) Z Z ?_
  refine ac (an Z Z (jl _ _ _)) Z Z Z (dT c75) Z Z ?_
  refine vV (am Z Z Z (aM (dT c75))) Z (vA Z Z (af ?_))
  refine cn H4 (fun c76 H4=>?_) fun c76 H4=>?_
  ·refine aj Z (dT c76) (aA ?_)
   cases H4
   exact vF [] Z Z (vS [0,3] Z) fun a w h=>h
  refine al Z (dF c76) (ag (aa (vM Z Z (vV (an Z Z (iD _ _ _)) Z (vM Z Z ?_)))))
  refine eW H4 (fun c77 H4=>?_) fun c77 H4=>?_
  ·refine ah Z Z Z (dF c77) Z Z ?_
   refine ah Z Z Z (dF c77) Z Z ?_
   refine vV (am Z Z Z (aN (dF c77))) Z (vA Z Z (af (al Z Z (aa (vM Z Z (vV (an Z Z (iD _ _ _)) Z (vM Z Z ?_)))))))
   refine eW H4 (fun c80 H4=>?_) fun c80 H4=>?_
   ·refine ah Z Z Z (dF c80) Z Z ?_
    refine ah Z Z Z (dF c80) Z Z ?_
    refine vV (am Z Z Z (aN (dF c80))) Z (vA Z Z (af ?_))
    cases H4
    exact vF [] Z Z (vS [0,3] Z) fun a w h=>h
   refine ac (au Z) Z Z Z (dT c80) Z Z ?_
   refine ac (an Z Z (jl _ _ _)) Z Z Z (dT c80) Z Z ?_
   refine vV (am Z Z Z (aM (dT c80))) Z (vA Z Z (af ?_))
   cases H4
   exact vF [] Z Z (vS [0,3] Z) fun a w h=>h
  refine ac (au Z) Z Z Z (dT c77) Z Z ?_
  refine ac (an Z Z (jl _ _ _)) Z Z Z (dT c77) Z Z ?_
  refine vV (am Z Z Z (aM (dT c77))) Z (vA Z Z (af ?_))
  refine cn H4 (fun c78 H4=>?_) fun c78 H4=>?_
  ·refine aj Z (dT c78) (aA ?_)
   cases H4
   exact vF [] Z Z (vS [0,3] Z) fun a w h=>h
  refine al Z (dF c78) (aa (vM Z Z (vV (an Z Z (iD _ _ _)) Z (vM Z Z ?_))))
  refine eW H4 (fun c79 H4=>?_) fun c79 H4=>?_
  ·refine ah Z Z Z (dF c79) Z Z ?_
   refine ah Z Z Z (dF c79) Z Z ?_
   refine vV (am Z Z Z (aN (dF c79))) Z (vA Z Z (af ?_))
   cases H4
   exact vF [] Z Z (vS [0,3] Z) fun a w h=>h
  refine ac (au Z) Z Z Z (dT c79) Z Z ?_
  refine ac (an Z Z (jl _ _ _)) Z Z Z (dT c79) Z Z ?_
  refine vV (am Z Z Z (aM (dT c79))) Z (vA Z Z (af ?_))
  cases H4
  exact vF [] Z Z (vS [0,3] Z) fun a w h=>h
 ·refine cn H (fun c85 H=>?_) fun c85 H=>?_
  ·refine aj Z c85 (ag (aa (vA Z Z (af (ap ?_)))))
   cases H
   refine vP [] Z Z ?_
   exact av Z Z ⟨rfl,rfl⟩
  refine al Z (bF c85) (aA (ag (aa (vM Z Z (vV (an Z Z (be _ _ _)) Z (vM Z Z ?_))))))
  refine cn H (fun c86 H=>?_) fun c86 H=>?_
  ·refine ah Z Z Z (bb c86) Z Z ?_
   refine ah Z Z Z (bb c86) Z Z ?_
   refine vV (am Z Z Z (aM (bb c86))) Z (vA Z Z (af (ap ?_)))
   cases H
   refine vP [] Z Z ?_
   exact av Z Z ⟨rfl,rfl⟩
  refine ac (au Z) Z Z Z (bg c86) Z Z ?_
  refine ac (an Z Z (be _ _ _)) Z Z Z (bg c86) Z Z ?_
  refine vV (am Z Z Z (aN (bg c86))) Z (vA Z Z (af (ap ?_)))
  cases H
  refine vP [] Z Z ?_
  exact av Z Z ⟨rfl,rfl⟩
theorem strings_IndexByte.spec (a0:List UInt8) (a1 r:Int) (H:strings_IndexByte a0 a1 = r):bf Tryz.prog 93 [aF a0,int .u8 a1] [] (fun v M=>v = (I r) ∧ M = []):=by
 subst H
 exact oP (fun s c w=>Tryz.strings_IndexByte s c w) a0 a1
theorem jx.spec (K:Nat) (a0:List UInt8) (r:(Bool × (List UInt8))) (H:jx K a0 = some r):bf Tryz.prog 84 [aF a0] [] (fun v M=>v = (tU #[aF r.2,bool r.1]) ∧ M = []):=by
 unfold jx at H
 refine bj Tryz.func84 Z 76 Z (nL Z) fun F w0=>?_
 show cE (St 76 w0 F [(0,aF a0)] []) _
 refine ag (aa (vA Z Z (vA Z Z (af (ag (ag (aa (vM Z Z (vV (an Z Z (eT _ _)) Z (af ?_))))))))))
 refine cn H (fun c252 H=>?_) fun c252 H=>?_
 ·refine aj Z (bb c252) (ag (aa (vA Z Z (vA Z Z (af (ap ?_))))))
  cases H
  refine vP [] Z Z ?_
  exact bK (vs:=[S0,bool true]) Z ⟨rfl,⟨rfl,trivial⟩⟩ _ Z ⟨rfl,rfl⟩
 refine al Z (bg c252) (aA (ag (aa (vA Z Z (af ?_)))))
 obtain ⟨x110,H10,H⟩:=oB H
 refine bU (fun a w=>∃ v2,x110 = Sum.inl v2 ∧ ∃ sv113:Value,St 76 w0 F [(4,sv113)] [own sv113 5 1 v2.length (fl (eI .u8) v2)] a w) ?_ ?_
 ·refine ag (aa (vA Z Z (af (aK ?_))))
  refine co (fun k a w=>∃ i4,∃ l6,∃ sv126:Value,iL K a0 k i4 l6 = some x110 ∧ St 76 w0 F [(0,aF a0),(4,sv126),(5,I i4)] [own sv126 5 1 l6.length (fl (eI .u8) l6)] a w) K ?_ ?_
  ·refine cq 5 1 ?_
   exact vF [0] Z Z (vS [0,4,5] Z) fun a w h=>⟨_,_,_,H10,h⟩
  ·refine fun k=>aL fun i4=>aL fun l6=>aL fun sv126=>bQ fun H11=>?_
   cases k with
   | zero=>exact absurd H11 (by simp [iL])
   | succ k =>
    rw [iL] at H11
    refine ag (ag (aa (vM Z Z (vM Z Z (vV (gQ Z Tryz.underlying9) Z (vV (an Z Z (ce _ _ _)) Z (af ?_)))))))
    refine eW H11 (fun c458 H11=>?_) fun c458 H11=>?_
    ·refine al Z (dF c458) (bM ?_)
     cases H11
     exact vF [0] Z Z (vS [4] Z) fun a w h=>⟨_,rfl,_,h⟩
    refine aj Z (dT c458) (aA (ag (aK (ag (ag (aa (vM Z Z (vM Z Z ?_))))))))
    obtain ⟨c483,H11⟩:=dK H11
    refine vV (fH Z Z Tryz.underlying9 c483 c458) Z ?_
    obtain ⟨x142,h140,H11⟩:=bt H11
    refine az (aR (first:=[]) (cap:=[]) (xs:=[.tmp 18]) Z Z mU Z (fC.spec ((a0.getD i4.toNat 0).toNat:Int) _ h140)) Z Z Z ?_
    rintro _ _ ⟨rfl,rfl⟩
    refine af ?_
    refine cn H11 (fun c484 H11=>?_) fun c484 H11=>?_
    ·refine aj Z c484 (ag (aa (vM Z Z (vM Z Z (vM Z Z (vV (fH Z Z Tryz.underlying9 c483 c458) Z ?_))))))
     refine az (bs (sz:=0) (xs:=[.tmp 23]) (cs:=fl (eI .u8) [((a0.getD i4.toNat 0).toNat:Int)]) Z Z bN dY gR Z Z (cF Z) Z (by decide)) Z Z Z ?_
     rintro sv147 _ rfl
     obtain ⟨c485,H11⟩:=dK H11
     refine az (gV (sz:=0) (xs:=l6) (ys:=[((a0.getD i4.toNat 0).toNat:Int)]) 1 0 Z Z bN dY gR Z jy Z Z Z (aV 5) Z (oY _) c485) Z Z Z ?_
     rintro sv148 _ rfl
     refine lC [own sv147 5 1 [((a0.getD i4.toNat 0).toNat:Int)].length (fl (eI .u8) [((a0.getD i4.toNat 0).toNat:Int)]),own sv148 5 1 (l6 ++ [((a0.getD i4.toNat 0).toNat:Int)]).length (fl (eI .u8) (l6 ++ [((a0.getD i4.toNat 0).toNat:Int)]))] Z ?_
     refine vA Z Z (af (bM (aa (vM Z Z (vV (an Z Z (bR _ _ _) ) Z (vA Z Z (af ?_)))))))
     exact vF [1] Z Z (vS [0,4,5] Z) fun a w h=>⟨k,Nat.lt_succ_self k,_,_,_,H11,h⟩
    refine al Z (bF c484) (aA (ag (ag (aa (vM Z Z (vM Z Z (vV (fH Z Z Tryz.underlying9 c483 c458) Z (vV (an Z Z (kZ _ _ _)) Z (vM Z Z ?_)))))))))
    refine cn H11 (fun c488 H11=>?_) fun c488 H11=>?_
    ·refine ah Z Z Z (kw c488) Z Z ?_
     refine ah Z Z Z (kw c488) Z Z ?_
     refine ah Z Z Z (kw c488) Z Z ?_
     refine ah Z Z Z (kw c488) Z Z ?_
     refine ah Z Z Z (kw c488) Z Z ?_
     refine vV (am Z Z Z (aM (kw c488))) Z (af (aj Z Z (ag (aa (vA Z Z (vA Z Z (af (ap ?_))))))))
     cases H11
     have H12:=Option.some.inj (show some _ = some _ from H)
     cases H12
     refine vP [] Z Z ?_
     exact bK (vs:=[S0,B0]) Z ⟨rfl,⟨rfl,trivial⟩⟩ _ Z ⟨rfl,rfl⟩
    refine ac (au Z) Z Z Z (kv c488) Z Z ?_
    refine ac (an Z Z (bR _ _ _) ) Z Z Z (kv c488) Z Z ?_
    refine ac (au Z) Z Z Z (kv c488) Z Z ?_
    refine ac (gQ Z Tryz.underlying9) Z Z Z (kv c488) Z Z ?_
    refine ac (an Z Z (iD _ _ _)) Z Z Z (kv c488) Z Z ?_
    refine vV (am Z Z Z (aN (kv c488))) Z (af ?_)
    refine cn H11 (fun c489 H11=>?_) fun c489 H11=>?_
    ·refine aj Z (dT c489) (ag (aa (vA Z Z (vA Z Z (af (ap ?_))))))
     cases H11
     have H13:=Option.some.inj (show some _ = some _ from H)
     cases H13
     refine vP [] Z Z ?_
     exact bK (vs:=[S0,B0]) Z ⟨rfl,⟨rfl,trivial⟩⟩ _ Z ⟨rfl,rfl⟩
    refine al Z (dF c489) (aA (ag ?_))
    obtain ⟨c490,H11⟩:=dK H11
    obtain ⟨c491,H11⟩:=dK H11
    obtain ⟨x143,h141,H11⟩:=bt H11
    obtain ⟨c492,H11⟩:=dK H11
    obtain ⟨c493,H11⟩:=dK H11
    obtain ⟨x144,h142,H11⟩:=bt H11
    refine dQ 12 Z (fun D a w=>kO 76 w0 F [(0,aF a0),(4,sv126),(5,I i4),(10,I i4),(11,aF a0),(12,I (a0.length:Int)),(13,bool (decide (i4 < (a0.length:Int)))),(16,aF a0),(17,I i4),(18,int .u8 ((a0.getD i4.toNat 0).toNat:Int)),(19,bool x142),(26,aF a0),(27,I i4),(28,int .u8 ((a0.getD i4.toNat 0).toNat:Int)),(29,bool (((a0.getD i4.toNat 0).toNat:Int) != 37)),(30,bool (((a0.getD i4.toNat 0).toNat:Int) != 37)),(31,I i4),(32,I (aH (i4 + 2))),(33,aF a0),(34,I (a0.length:Int)),(35,bool (decide ((a0.length:Int) ≤ (aH (i4 + 2))))),(36,bool (decide ((a0.length:Int) ≤ (aH (i4 + 2)))))] [(0,37,aF a0),(1,38,I i4),(2,39,I (aH (i4 + 1))),(3,40,int .u8 ((a0.getD (aH (i4 + 1)).toNat 0).toNat:Int)),(4,41,I x143),(5,42,aF a0),(6,43,I i4),(7,44,I (aH (i4 + 2))),(8,45,int .u8 ((a0.getD (aH (i4 + 2)).toNat 0).toNat:Int)),(9,46,I x144),(10,6,I x143),(11,7,I x144)] D [own sv126 5 1 l6.length (fl (eI .u8) l6)] a w) (by kernel_rfl) (by kernel_rfl) (de (vS [0,4,5,10,11,12,13,16,17,18,19,26,27,28,29,30,31,32,33,34,35,36] Z) Z) ?_ ?_
    ·refine ⟨?_,?_,?_,?_,?_,?_,?_,?_,?_,?_,?_,?_,trivial⟩
     ·exact fun D hi hc U=>dV 0 Z Z Z Z (fun a=>ao) (au Z) Z Z Z Z
     ·exact fun D hi hc U=>dV 1 Z Z Z Z (fun a=>ao) (au Z) Z Z Z Z
     ·exact fun D hi hc U=>dV 2 Z Z Z Z (fun a=>(hD 1 U Z Z Z Z ao)) (an Z Z (bR _ _ _) ) Z Z Z Z
     ·exact fun D hi hc U=>dV 3 Z Z Z Z (fun a=>(hD 2 U Z Z Z Z (hD 0 U Z Z Z Z ao))) (fH Z Z Tryz.underlying9 c490 c491) Z Z Z Z
     ·exact fun D hi hc U=>nX 4 Z Z Z (cB Z) (fun a=>(hD 3 U Z Z Z Z ao)) (aR (first:=[]) (cap:=[]) (xs:=[.const (aF ([48,49,50,51,52,53,54,55,56,57,97,98,99,100,101,102]:List UInt8)),.tmp 40]) Z Z pQ Z (strings_IndexByte.spec ([48,49,50,51,52,53,54,55,56,57,97,98,99,100,101,102]:List UInt8) ((a0.getD (aH (i4 + 1)).toNat 0).toNat:Int) _ h141)) Z Z Z Z
     ·exact fun D hi hc U=>dV 5 Z Z Z Z (fun a=>ao) (au Z) Z Z Z Z
     ·exact fun D hi hc U=>dV 6 Z Z Z Z (fun a=>ao) (au Z) Z Z Z Z
     ·exact fun D hi hc U=>dV 7 Z Z Z Z (fun a=>(hD 6 U Z Z Z Z ao)) (an Z Z (bR _ _ _) ) Z Z Z Z
     ·exact fun D hi hc U=>dV 8 Z Z Z Z (fun a=>(hD 7 U Z Z Z Z (hD 5 U Z Z Z Z ao))) (fH Z Z Tryz.underlying9 c492 c493) Z Z Z Z
     ·exact fun D hi hc U=>nX 9 Z Z Z (cB Z) (fun a=>(hD 8 U Z Z Z Z ao)) (aR (first:=[]) (cap:=[]) (xs:=[.const (aF ([48,49,50,51,52,53,54,55,56,57,97,98,99,100,101,102]:List UInt8)),.tmp 45]) Z Z pQ Z (strings_IndexByte.spec ([48,49,50,51,52,53,54,55,56,57,97,98,99,100,101,102]:List UInt8) ((a0.getD (aH (i4 + 2)).toNat 0).toNat:Int) _ h142)) Z Z Z Z
     ·exact fun D hi hc U=>dV 10 Z Z Z Z (fun a=>(hD 4 U Z Z Z Z ao)) (iI Z) Z Z Z Z
     ·exact fun D hi hc U=>dV 11 Z Z Z Z (fun a=>(hD 9 U Z Z Z Z ao)) (iI Z) Z Z Z Z
    ·intro D hall
     refine en [own sv126 5 1 l6.length (fl (eI .u8) l6)] Z (fun a=>(hC 10 Z (hall 10 (by decide)) (hC 11 Z (hall 11 (by decide)) (hC 0 Z (hall 0 (by decide)) (hC 1 Z (hall 1 (by decide)) (hC 2 Z (hall 2 (by decide)) (hC 3 Z (hall 3 (by decide)) (hC 4 Z (hall 4 (by decide)) (hC 5 Z (hall 5 (by decide)) (hC 6 Z (hall 6 (by decide)) (hC 7 Z (hall 7 (by decide)) (hC 8 Z (hall 8 (by decide)) (hC 9 Z (hall 9 (by decide)) ao))))))))))))) ?_
     refine ag (ag (aa (vM Z Z (vV (an Z Z (ce _ _ _)) Z (vM Z Z ?_)))))
     refine cn H11 (fun c497 H11=>?_) fun c497 H11=>?_
     ·refine ah Z Z Z (dT c497) Z Z ?_
      refine ah Z Z Z (dT c497) Z Z ?_
      refine vV (am Z Z Z (aM (dT c497))) Z (vM Z Z ?_)
      refine ah Z Z Z Z Z Z ?_
      refine ah Z Z Z Z Z Z ?_
      refine ah Z Z Z Z Z Z ?_
      refine ah Z Z Z Z Z Z ?_
      refine ah Z Z Z Z Z Z ?_
      refine ah Z Z Z Z Z Z ?_
      refine vV (am Z Z Z Z) Z (af (aj Z Z (ag (aa (vA Z Z (vA Z Z (af (ap ?_))))))))
      cases H11
      have H14:=Option.some.inj (show some _ = some _ from H)
      cases H14
      refine vP [] Z Z ?_
      exact bK (vs:=[S0,B0]) Z ⟨rfl,⟨rfl,trivial⟩⟩ _ Z ⟨rfl,rfl⟩
     refine ac (au Z) Z Z Z (dF c497) Z Z ?_
     refine ac (an Z Z (ce _ _ _)) Z Z Z (dF c497) Z Z ?_
     refine vV (am Z Z Z (aN (dF c497))) Z (vM Z Z ?_)
     refine cn H11 (fun c498 H11=>?_) fun c498 H11=>?_
     ·refine ah Z Z Z (dT c498) Z Z ?_
      refine ah Z Z Z (dT c498) Z Z ?_
      refine ah Z Z Z (dT c498) Z Z ?_
      refine ah Z Z Z (dT c498) Z Z ?_
      refine ah Z Z Z (dT c498) Z Z ?_
      refine ah Z Z Z (dT c498) Z Z ?_
      refine vV (am Z Z Z (aM (dT c498))) Z (af (aj Z Z (ag (aa (vA Z Z (vA Z Z (af (ap ?_))))))))
      cases H11
      have H15:=Option.some.inj (show some _ = some _ from H)
      cases H15
      refine vP [] Z Z ?_
      exact bK (vs:=[S0,B0]) Z ⟨rfl,⟨rfl,trivial⟩⟩ _ Z ⟨rfl,rfl⟩
     refine ac (au Z) Z Z Z (dF c498) Z Z ?_
     refine ac (an Z Z fun w=>wY _ _ _ _ w (by decide)) Z Z Z (dF c498) Z Z ?_
     refine ac (au Z) Z Z Z (dF c498) Z Z ?_
     refine ac (an Z Z (xV _ _ _)) Z Z Z (dF c498) Z Z ?_
     refine ac (ij Z (mR Tryz.underlying3 Tryz.underlying5)) Z Z Z (dF c498) Z Z ?_
     obtain ⟨x146,h144,H11⟩:=bt H11
     refine cc (aR (first:=[]) (cap:=[]) (xs:=[.tmp 58]) Z Z mU Z (fC.spec (et (uV .i64 (nU .i64 x143 4) x144)) _ h144)) Z Z Z (dF c498) Z Z ?_
     rintro _ _ ⟨rfl,rfl⟩
     refine vV (am Z Z Z (aN (dF c498))) Z (af ?_)
     refine cn H11 (fun c499 H11=>?_) fun c499 H11=>?_
     ·refine aj Z c499 (ag (aa (vA Z Z (vA Z Z (af (ap ?_))))))
      cases H11
      have H16:=Option.some.inj (show some _ = some _ from H)
      cases H16
      refine vP [] Z Z ?_
      exact bK (vs:=[S0,B0]) Z ⟨rfl,⟨rfl,trivial⟩⟩ _ Z ⟨rfl,rfl⟩
     refine al Z (bF c499) (aA (ag (aa (vM Z Z (vM Z Z ?_)))))
     refine vV (an Z Z fun w=>wY _ _ _ _ w (by decide)) Z ?_
     refine vM Z Z (vV (an Z Z (xV _ _ _)) Z (vV (ij Z (mR Tryz.underlying3 Tryz.underlying5)) Z ?_))
     refine az (bs (sz:=0) (xs:=[.tmp 66]) (cs:=fl (eI .u8) [et (uV .i64 (nU .i64 x143 4) x144)]) Z Z bN dY gR Z Z (cF Z) Z (by decide)) Z Z Z ?_
     rintro sv149 _ rfl
     obtain ⟨c500,H11⟩:=dK H11
     refine az (gV (sz:=0) (xs:=l6) (ys:=[et (uV .i64 (nU .i64 x143 4) x144)]) 1 0 Z Z bN dY gR Z jy Z Z Z (aV 5) Z (oY _) c500) Z Z Z ?_
     rintro sv150 _ rfl
     refine lC [own sv149 5 1 [et (uV .i64 (nU .i64 x143 4) x144)].length (fl (eI .u8) [et (uV .i64 (nU .i64 x143 4) x144)]),own sv150 5 1 (l6 ++ [et (uV .i64 (nU .i64 x143 4) x144)]).length (fl (eI .u8) (l6 ++ [et (uV .i64 (nU .i64 x143 4) x144)]))] Z ?_
     refine vA Z Z (af (aa (vM Z Z (vV (an Z Z (bR _ _ _) ) Z (vA Z Z (af (aa (vM Z Z (vV (an Z Z (bR _ _ _) ) Z (vA Z Z (af ?_)))))))))))
     exact vF [1] Z Z (vS [0,4,5] Z) fun a w h=>⟨k,Nat.lt_succ_self k,_,_,_,H11,h⟩
 ·refine aL fun v2=>bQ fun e_=>?_
  subst e_
  rw [gX] at H
  refine aL fun sv113=>?_
  refine ag (aa (vM Z Z (vV (mC 0 Z bN Tryz.underlying5 Tryz.underlying9 Z (aV 5)) Z (vM Z Z (vV (bL 0 Z bN Z (aV 5)) Z (vV (an Z Z (dM _ _ _)) Z (vA Z Z (vA Z Z (af (ap ?_))))))))))
  cases H
  refine vP [] Z Z ?_
  exact bK (vs:=[aF (ig v2),bool (decide (0 < (v2.length:Int)))]) Z ⟨rfl,⟨rfl,trivial⟩⟩ _ Z ⟨rfl,rfl⟩
theorem gr.spec (K p0:Nat) (sv0:Value) (A0:HP) (l0:List (List UInt8)) (p0_1:Int) (hA0:cg A0 sv0 l0.length 1 (fl eS l0)) (r:((List (List UInt8)) × (List UInt8))) (H:gr K l0 p0_1 = some r):bf Tryz.prog 81 [pt p0 0] [box p0 84 [sv0,I p0_1],A0] (fun v M=>∃ sv3:Value,cg A0 sv3 r.1.length 1 (fl eS r.1) ∧ v = (aF r.2) ∧ M = [box p0 84 [sv3,I p0_1],A0]):=by
 unfold gr at H
 refine bj Tryz.func81 Z 14 Z (nL Z) fun F w0=>?_
 show cE (St 14 w0 F [(0,pt p0 0)] [box p0 84 [sv0,I p0_1],A0]) _
 refine ag (aa (vA Z Z (af (ag (aa (vM Z Z ?_))))))
 obtain ⟨x7,h9,H⟩:=oB H
 refine az (bw (Lr:=[]) (first:=[]) (cap:=[]) (xs:=[.tmp 6]) Z Z kQ Z (cK.spec p0 sv0 A0 l0 p0_1 hA0 _ h9) Z) Z Z Z ?_
 rintro _ _ ⟨_,⟨sv5,hr5,rfl,rfl⟩,rfl⟩
 obtain ⟨x8,h10,H⟩:=oB H
 refine az (aR (first:=[]) (cap:=[]) (xs:=[.tmp 7]) Z Z pE Z (jx.spec K x7.2 _ h10)) Z Z Z ?_
 rintro _ _ ⟨rfl,rfl⟩
 refine vM Z Z (vV (bH Z Z) Z (vV (bH Z Z) Z (vA Z Z (vA Z Z (af (ag (aa (vM Z Z ?_))))))))
 obtain ⟨u4,h12,H⟩:=oB H
 refine az (aR (first:=[]) (cap:=[]) (xs:=[.tmp 11]) Z Z el Z (bz.spec x8.1 _ h12)) Z Z Z ?_
 rintro _ _ ⟨rfl,rfl⟩
 refine af (ag (aa (vM Z Z (vA Z Z (af (ap ?_))))))
 cases H
 refine vP [0,1] Z Z ?_
 exact av Z Z ⟨_,hr5,rfl,rfl⟩
theorem strings_CutPrefix.spec (a0 a1:List UInt8) (r:List UInt8 × Bool) (H:strings_CutPrefix a0 a1 = r):bf Tryz.prog 83 [aF a0,aF a1] [] (fun v M=>v = (tU #[aF r.1,bool r.2]) ∧ M = []):=by
 subst H
 exact oG (fun s p w=>Tryz.strings_CutPrefix s p w) a0 a1
theorem kb.spec (K:Nat) (a0:List UInt8) (r:(Int × Bool)) (H:kb K a0 = some r):bf Tryz.prog 85 [aF a0] [] (fun v M=>v = (tU #[I r.1,bool r.2]) ∧ M = []):=by
 unfold kb at H
 refine bj Tryz.func85 Z 73 Z (nL Z) fun F w0=>?_
 show cE (St 73 w0 F [(0,aF a0)] []) _
 refine ag (aa (vA Z Z (vA Z Z (af (ag (aa (vM Z Z ?_)))))))
 obtain ⟨x4,h2,H⟩:=bt H
 refine az (aR (first:=[]) (cap:=[]) (xs:=[.tmp 10,.const (aF ([45]:List UInt8))]) Z Z mZ Z (strings_CutPrefix.spec a0 ([45]:List UInt8) _ h2)) Z Z Z ?_
 rintro _ _ ⟨rfl,rfl⟩
 refine vM Z Z (vV (bH Z Z) Z (vV (bH Z Z) Z (vA Z Z (vA Z Z (af ?_)))))
 obtain ⟨x5,H13,H⟩:=oB H
 refine bU (fun a w=>∃ v3,x5 = Sum.inl v3 ∧ St 73 w0 F [(2,I 0),(4,aF x4.1),(5,bool x4.2)] [] a w) ?_ ?_
 ·refine ag (aa (vM Z Z (vV (an Z Z (eT _ _)) Z (vM Z Z ?_))))
  refine cn H13 (fun c139 H13=>?_) fun c139 H13=>?_
  ·refine ah Z Z Z (bb c139) Z Z ?_
   refine ah Z Z Z (bb c139) Z Z ?_
   refine ah Z Z Z (bb c139) Z Z ?_
   refine ah Z Z Z (bb c139) Z Z ?_
   refine aC Z Z Z Z Z ?_
   refine aC Z Z Z Z Z ?_
   refine aC Z Z Z Z Z ?_
   refine ah Z Z Z (bb c139) Z Z ?_
   refine vV (am Z Z Z (aM (bb c139))) Z (vM Z Z ?_)
   refine ah Z Z Z Z Z Z ?_
   refine ah Z Z Z Z Z Z ?_
   refine aC Z Z Z Z Z ?_
   refine aC Z Z Z Z Z ?_
   refine ah Z Z Z Z Z Z ?_
   refine vV (am Z Z Z Z) Z (af (aj Z Z (ag (aa (vA Z Z (vA Z Z (af (ap ?_))))))))
   cases H13
   have H14:=Option.some.inj (show some _ = some _ from H)
   cases H14
   refine vP [] Z Z ?_
   exact bK (vs:=[I 0,B0]) Z ⟨rfl,⟨rfl,trivial⟩⟩ _ Z ⟨rfl,rfl⟩
  refine ac (au Z) Z Z Z (bg c139) Z Z ?_
  refine ac (gQ Z Tryz.underlying9) Z Z Z (bg c139) Z Z ?_
  refine ac (an Z Z (dM _ _ _)) Z Z Z (bg c139) Z Z ?_
  refine ac (au Z) Z Z Z (bg c139) Z Z ?_
  refine eW H13 (fun c140 H13=>?_) fun c140 H13=>?_
  ·refine ah Z Z Z (dF c140) Z Z ?_
   refine ah Z Z Z (dF c140) Z Z ?_
   refine ah Z Z Z (dF c140) Z Z ?_
   refine ac (am Z Z Z (aN (dF c140))) Z Z Z (bg c139) Z Z ?_
   refine vV (am Z Z Z (aN (bg c139))) Z (vM Z Z ?_)
   refine ac (au Z) Z Z Z Z Z Z ?_
   refine ac (au Z) Z Z Z Z Z Z ?_
   refine eW H13 (fun c145 H13=>?_) fun c145 H13=>?_
   ·refine ah Z Z Z (bF c145) Z Z ?_
    refine ah Z Z Z (bF c145) Z Z ?_
    refine ac (am Z Z Z (aN (bF c145))) Z Z Z Z Z Z ?_
    refine vV (am Z Z Z Z) Z (af (al Z Z (aA ?_)))
    cases H13
    exact vF [] Z Z (vS [2,4,5] Z) fun a w h=>⟨_,rfl,h⟩
   refine ac (au Z) Z Z Z c145 Z Z ?_
   refine ac (an Z Z (eT _ _)) Z Z Z c145 Z Z ?_
   refine ac (am Z Z Z (aM c145)) Z Z Z Z Z Z ?_
   refine vV (am Z Z Z Z) Z (af ?_)
   refine eW H13 (fun c146 H13=>?_) fun c146 H13=>?_
   ·refine al Z (bg c146) (aA ?_)
    cases H13
    exact vF [] Z Z (vS [2,4,5] Z) fun a w h=>⟨_,rfl,h⟩
   refine aj Z (bb c146) (ag (aa (vA Z Z (vA Z Z (af (ap ?_))))))
   cases H13
   have H17:=Option.some.inj (show some _ = some _ from H)
   cases H17
   refine vP [] Z Z ?_
   exact bK (vs:=[I 0,B0]) Z ⟨rfl,⟨rfl,trivial⟩⟩ _ Z ⟨rfl,rfl⟩
  refine ac (au Z) Z Z Z (dT c140) Z Z ?_
  obtain ⟨c141,H13⟩:=dK H13
  refine ac (fH Z Z Tryz.underlying9 (by decide) c141) Z Z Z (dT c140) Z Z ?_
  refine ac (an Z Z (be _ _ _)) Z Z Z (dT c140) Z Z ?_
  refine ac (am Z Z Z (aM (dT c140))) Z Z Z (bg c139) Z Z ?_
  refine vV (am Z Z Z (aN (bg c139))) Z (vM Z Z ?_)
  refine cn H13 (fun c142 H13=>?_) fun c142 H13=>?_
  ·refine ah Z Z Z (bb c142) Z Z ?_
   refine ah Z Z Z (bb c142) Z Z ?_
   refine aC Z Z Z Z Z ?_
   refine aC Z Z Z Z Z ?_
   refine ah Z Z Z (bb c142) Z Z ?_
   refine vV (am Z Z Z (aM (bb c142))) Z (af (aj Z Z (ag (aa (vA Z Z (vA Z Z (af (ap ?_))))))))
   cases H13
   have H15:=Option.some.inj (show some _ = some _ from H)
   cases H15
   refine vP [] Z Z ?_
   exact bK (vs:=[I 0,B0]) Z ⟨rfl,⟨rfl,trivial⟩⟩ _ Z ⟨rfl,rfl⟩
  refine ac (au Z) Z Z Z (bg c142) Z Z ?_
  refine ac (au Z) Z Z Z (bg c142) Z Z ?_
  refine eW H13 (fun c143 H13=>?_) fun c143 H13=>?_
  ·refine ah Z Z Z (bF c143) Z Z ?_
   refine ah Z Z Z (bF c143) Z Z ?_
   refine ac (am Z Z Z (aN (bF c143))) Z Z Z (bg c142) Z Z ?_
   refine vV (am Z Z Z (aN (bg c142))) Z (af (al Z Z (aA ?_)))
   cases H13
   exact vF [] Z Z (vS [2,4,5] Z) fun a w h=>⟨_,rfl,h⟩
  refine ac (au Z) Z Z Z c143 Z Z ?_
  refine ac (an Z Z (eT _ _)) Z Z Z c143 Z Z ?_
  refine ac (am Z Z Z (aM c143)) Z Z Z (bg c142) Z Z ?_
  refine vV (am Z Z Z (aN (bg c142))) Z (af ?_)
  refine eW H13 (fun c144 H13=>?_) fun c144 H13=>?_
  ·refine al Z (bg c144) (aA ?_)
   cases H13
   exact vF [] Z Z (vS [2,4,5] Z) fun a w h=>⟨_,rfl,h⟩
  refine aj Z (bb c144) (ag (aa (vA Z Z (vA Z Z (af (ap ?_))))))
  cases H13
  have H16:=Option.some.inj (show some _ = some _ from H)
  cases H16
  refine vP [] Z Z ?_
  exact bK (vs:=[I 0,B0]) Z ⟨rfl,⟨rfl,trivial⟩⟩ _ Z ⟨rfl,rfl⟩
 ·refine aL fun v3=>bQ fun e_=>?_
  subst e_
  rw [gX] at H
  obtain ⟨x6,H19,H⟩:=oB H
  refine bU (fun a w=>∃ v4,x6 = Sum.inl v4 ∧ St 73 w0 F [(2,I v4),(5,bool x4.2)] [] a w) ?_ ?_
  ·refine ag (aa (vM Z Z ?_))
   obtain ⟨c202,H19⟩:=dK H19
   refine az (qz Z Tryz.underlying9 bN Tryz.underlying5 c202) Z Z Z ?_
   rintro sv4 _ rfl
   refine vV (bL 0 Z bN Z (hG 5)) Z (vM Z Z (af (aK ?_)))
   refine co (fun k a w=>∃ i11,∃ i12,iG K x4 k i11 i12 = some x6 ∧ St 73 w0 F [(2,I i11),(5,bool x4.2),(34,sv4),(35,I ((bY x4.1).length:Int)),(36,I i12)] [(wm sv4 5 (bY x4.1).length (fl (eI .u8) (bY x4.1)))] a w) K ?_ ?_
   ·exact vF [0] Z Z (vS [2,5,34,35,36] Z) fun a w h=>⟨_,_,H19,h⟩
   ·refine fun k=>aL fun i11=>aL fun i12=>bQ fun H20=>?_
    cases k with
    | zero=>exact absurd H20 (by simp [iG])
    | succ k =>
     rw [iG] at H20
     refine ag (aa (vV (an Z Z (ce _ _ _)) Z (af (ag ?_))))
     refine eW H20 (fun c238 H20=>?_) fun c238 H20=>?_
     ·refine al Z (dF c238) (bM ?_)
      cases H20
      exact vF [] Z Z (vS [2,5] Z) fun a w h=>⟨_,rfl,h⟩
     refine aj Z (dT c238) (aA (ag (aK (ag (aa ?_)))))
     obtain ⟨c248,H20⟩:=dK H20
     refine vV (bA (sz:=0) 0 Z Z bN dY Z (hG 5) c248 c238) Z ?_
     refine vV (ay (v:=(int .u8 ((bY x4.1).getD i12.toNat 0))) Z ob (cL (i:=0) Z (hG 5) (by simp) (ek (jG _) (bx c248 c238) Z))) Z ?_
     refine vA Z Z (af (ag (aa (vM Z Z (vV (ij Z (mR Tryz.underlying5 Tryz.underlying2)) Z (vV (an Z Z (jI _ _ _) ) Z (vA Z Z (af (ag (ag (aa ?_)))))))))))
     refine vM Z Z (vV (an Z Z (ce _ _ _)) Z (vM Z Z ?_))
     refine cn H20 (fun c253 H20=>?_) fun c253 H20=>?_
     ·refine ah Z Z Z (dT c253) Z Z ?_
      refine ah Z Z Z (dT c253) Z Z ?_
      refine vV (am Z Z Z (aM (dT c253))) Z (vM Z Z ?_)
      refine ah Z Z Z Z Z Z ?_
      refine ah Z Z Z Z Z Z ?_
      refine vV (am Z Z Z Z) Z (vM Z Z ?_)
      refine ah Z Z Z Z Z Z ?_
      refine ah Z Z Z Z Z Z ?_
      refine ah Z Z Z Z Z Z ?_
      refine ah Z Z Z Z Z Z ?_
      refine ah Z Z Z Z Z Z ?_
      refine vV (am Z Z Z Z) Z (af (aj Z Z (ag (aa (vA Z Z (vA Z Z (af (ap ?_))))))))
      cases H20
      have H21:=Option.some.inj (show some _ = some _ from H)
      cases H21
      refine vP [] Z Z ?_
      exact bK (vs:=[I 0,B0]) Z ⟨rfl,⟨rfl,trivial⟩⟩ _ Z ⟨rfl,rfl⟩
     refine ac (au Z) Z Z Z (dF c253) Z Z ?_
     refine ac (an Z Z (dM _ _ _)) Z Z Z (dF c253) Z Z ?_
     refine vV (am Z Z Z (aN (dF c253))) Z (vM Z Z ?_)
     refine cn H20 (fun c254 H20=>?_) fun c254 H20=>?_
     ·refine ah Z Z Z (dT c254) Z Z ?_
      refine ah Z Z Z (dT c254) Z Z ?_
      refine vV (am Z Z Z (aM (dT c254))) Z (vM Z Z ?_)
      refine ah Z Z Z Z Z Z ?_
      refine ah Z Z Z Z Z Z ?_
      refine ah Z Z Z Z Z Z ?_
      refine ah Z Z Z Z Z Z ?_
      refine ah Z Z Z Z Z Z ?_
      refine vV (am Z Z Z Z) Z (af (aj Z Z (ag (aa (vA Z Z (vA Z Z (af (ap ?_))))))))
      cases H20
      have H22:=Option.some.inj (show some _ = some _ from H)
      cases H22
      refine vP [] Z Z ?_
      exact bK (vs:=[I 0,B0]) Z ⟨rfl,⟨rfl,trivial⟩⟩ _ Z ⟨rfl,rfl⟩
     refine ac (au Z) Z Z Z (dF c254) Z Z ?_
     refine ac (an Z Z (ce _ _ _)) Z Z Z (dF c254) Z Z ?_
     refine vV (am Z Z Z (aN (dF c254))) Z (vM Z Z ?_)
     refine cn H20 (fun c255 H20=>?_) fun c255 H20=>?_
     ·refine ah Z Z Z (dT c255) Z Z ?_
      refine ah Z Z Z (dT c255) Z Z ?_
      refine ah Z Z Z (dT c255) Z Z ?_
      refine ah Z Z Z (dT c255) Z Z ?_
      refine ah Z Z Z (dT c255) Z Z ?_
      refine vV (am Z Z Z (aM (dT c255))) Z (af (aj Z Z (ag (aa (vA Z Z (vA Z Z (af (ap ?_))))))))
      cases H20
      have H23:=Option.some.inj (show some _ = some _ from H)
      cases H23
      refine vP [] Z Z ?_
      exact bK (vs:=[I 0,B0]) Z ⟨rfl,⟨rfl,trivial⟩⟩ _ Z ⟨rfl,rfl⟩
     refine ac (au Z) Z Z Z (dF c255) Z Z ?_
     refine ac (an Z Z (lP _ _ _) ) Z Z Z (dF c255) Z Z ?_
     refine ac (au Z) Z Z Z (dF c255) Z Z ?_
     refine ac (an Z Z (bR _ _ _) ) Z Z Z (dF c255) Z Z ?_
     refine ac (an Z Z (ce _ _ _)) Z Z Z (dF c255) Z Z ?_
     refine vV (am Z Z Z (aN (dF c255))) Z (af ?_)
     refine cn H20 (fun c256 H20=>?_) fun c256 H20=>?_
     ·refine aj Z (dT c256) (ag (aa (vA Z Z (vA Z Z (af (ap ?_))))))
      cases H20
      have H24:=Option.some.inj (show some _ = some _ from H)
      cases H24
      refine vP [] Z Z ?_
      exact bK (vs:=[I 0,B0]) Z ⟨rfl,⟨rfl,trivial⟩⟩ _ Z ⟨rfl,rfl⟩
     refine al Z (dF c256) (aA (aa (vM Z Z (vV (an Z Z (lP _ _ _) ) Z (vM Z Z (vV (an Z Z (jI _ _ _) ) Z (vA Z Z (af (aa (vV (an Z Z (bR _ _ _) ) Z (vM Z Z ?_)))))))))))
     refine af ?_
     exact vF [0] Z Z (vS [2,5,34,35,36] Z) fun a w h=>⟨k,Nat.lt_succ_self k,_,_,H20,h⟩
  ·refine aL fun v4=>bQ fun e_=>?_
   subst e_
   rw [gX] at H
   refine ag (aK (ag (aa (vM Z Z (vA Z Z (af ?_))))))
   refine cn H (fun c259 H=>?_) fun c259 H=>?_
   ·refine aj Z c259 (ag (aa (vM Z Z (vA Z Z (vA Z Z (af (ap ?_)))))))
    cases H
    refine vP [] Z Z ?_
    exact bK (vs:=[I v4,bool true]) Z ⟨rfl,⟨rfl,trivial⟩⟩ _ Z ⟨rfl,rfl⟩
   refine al Z (bF c259) (ag (aa (vM Z Z (vV (an Z Z (be _ _ _)) Z (vA Z Z (af ?_))))))
   refine cn H (fun c260 H=>?_) fun c260 H=>?_
   ·refine aj Z (bb c260) (ag (aa (vA Z Z (vA Z Z (af (ap ?_))))))
    cases H
    refine vP [] Z Z ?_
    exact bK (vs:=[I 0,B0]) Z ⟨rfl,⟨rfl,trivial⟩⟩ _ Z ⟨rfl,rfl⟩
   refine al Z (bg c260) (aA (ag (aa (vM Z Z (vV (fP Z (vW _ _)) Z (vA Z Z (vA Z Z (af (ap ?_)))))))))
   cases H
   refine vP [] Z Z ?_
   exact bK (vs:=[I (aH (0 - v4)),bool true]) Z ⟨rfl,⟨rfl,trivial⟩⟩ _ Z ⟨rfl,rfl⟩
theorem bi.spec (K p0:Nat) (sv0:Value) (A0:HP) (l0:List (List UInt8)) (p0_1:Int) (hA0:cg A0 sv0 l0.length 1 (fl eS l0)) (r:((List (List UInt8)) × Int)) (H:bi K l0 p0_1 = some r):bf Tryz.prog 58 [pt p0 0] [box p0 84 [sv0,I p0_1],A0] (fun v M=>∃ sv3:Value,cg A0 sv3 r.1.length 1 (fl eS r.1) ∧ v = (I r.2) ∧ M = [box p0 84 [sv3,I p0_1],A0]):=by
 unfold bi at H
 refine bj Tryz.func58 Z 14 Z (nL Z) fun F w0=>?_
 show cE (St 14 w0 F [(0,pt p0 0)] [box p0 84 [sv0,I p0_1],A0]) _
 refine ag (aa (vA Z Z (af (ag (aa (vM Z Z ?_))))))
 obtain ⟨x7,h9,H⟩:=oB H
 refine az (bw (Lr:=[]) (first:=[]) (cap:=[]) (xs:=[.tmp 6]) Z Z kQ Z (cK.spec p0 sv0 A0 l0 p0_1 hA0 _ h9) Z) Z Z Z ?_
 rintro _ _ ⟨_,⟨sv5,hr5,rfl,rfl⟩,rfl⟩
 obtain ⟨x8,h10,H⟩:=oB H
 refine az (aR (first:=[]) (cap:=[]) (xs:=[.tmp 7]) Z Z tF Z (kb.spec K x7.2 _ h10)) Z Z Z ?_
 rintro _ _ ⟨rfl,rfl⟩
 refine vM Z Z (vV (bH Z Z) Z (vV (bH Z Z) Z (vA Z Z (vA Z Z (af (ag (aa (vM Z Z ?_))))))))
 obtain ⟨u4,h12,H⟩:=oB H
 refine az (aR (first:=[]) (cap:=[]) (xs:=[.tmp 11]) Z Z el Z (bz.spec x8.2 _ h12)) Z Z Z ?_
 rintro _ _ ⟨rfl,rfl⟩
 refine af (ag (aa (vM Z Z (vA Z Z (af (ap ?_))))))
 cases H
 refine vP [0,1] Z Z ?_
 exact av Z Z ⟨_,hr5,rfl,rfl⟩
theorem bi.specs (K:Nat) (p0:Nat) (sv0:Value) (A0:HP) (l0:List (List UInt8)) (p0_1:Int) (hA0:cg A0 sv0 l0.length 1 (fl eS l0)) (r:((List (List UInt8)) × Int)) (H:bi K l0 p0_1 = some r):bf Tryz.prog 58 [(pt p0 0)] [(box p0 84 [sv0,(int .i64 p0_1)]),A0] (fun v M=>∃ sv3:Value,v = (int .i64 r.2) ∧ M = [(says (cg A0 sv3 r.1.length 1 (fl eS r.1))),(box p0 84 [sv3,(int .i64 p0_1)]),A0]) :=
 bf.hideS (bi.spec K p0 sv0 A0 l0 p0_1 hA0 r H) (by rintro v M ⟨sv3,q0_,rfl,rfl⟩; exact ⟨_,⟨sv3,rfl,rfl⟩,fun w_ X_ h_=>(fI.saying q0_ h_)⟩)
theorem gd.spec (K p0:Nat) (sv0:Value) (A0:HP) (l0:List (List UInt8)) (p0_1:Int) (hA0:cg A0 sv0 l0.length 1 (fl eS l0)) (r:((List aB) × (List (List UInt8)))) (H:gd K l0 p0_1 = some r):bf Tryz.prog 56 [pt p0 0] [box p0 84 [sv0,I p0_1],A0] (fun v M=>∃ sv263:Value,∃ sv264:Value,cg A0 sv264 r.2.length 1 (fl eS r.2) ∧ v = sv263 ∧ M = [box p0 84 [sv264,I p0_1],A0,own sv263 45 6 r.1.length (fl aW r.1)]):=by
 unfold gd at H
 refine bj Tryz.func56 Z 53 Z (nL Z) fun F w0=>?_
 show cE (St 53 w0 F [(0,pt p0 0)] [box p0 84 [sv0,I p0_1],A0]) _
 refine ag (aa (vA Z Z (af (pk (ag (aa (vM Z Z (vV (lk (first:=[.tmp 8]) (cap:=[]) Z Z) Z (vA Z Z (af (ag ?_)))))))))))
 refine qa (ag (aK ?_))
 refine co (fun k a w=>∃ l39,∃ l40,∃ sv439:Value,∃ sv440:Value,cg A0 sv439 l39.length 1 (fl eS l39) ∧ fG K p0_1 k l39 l40 = some r ∧ St 53 w0 F [(0,pt p0 0),(2,sv440),(3,(Value.func (.func 81) #[pt p0 0] #[]))] [box p0 84 [sv439,I p0_1],A0,own sv440 45 6 l40.length (fl aW l40)] a w) K ?_ ?_
 ·refine cq 45 6 ?_
  exact vF [1,2,0] Z Z (vS [0,2,3] Z) fun a w h=>⟨_,_,_,_,hA0,H,h⟩
 ·refine fun k=>aL fun l39=>aL fun l40=>aL fun sv439=>aL fun sv440=>bQ fun hr395=>bQ fun H37=>?_
  cases k with
  | zero=>exact absurd H37 (by simp [fG])
  | succ k =>
   rw [fG] at H37
   refine aK (ag (ag (aa (vM Z Z (vV (aO Z) Z (vV (ak (sz:=0) (o:=0) Z cM cR) Z (vV (ay (v:=sv439) Z fa (ar (i:=0) Z Z)) Z (vV (bL 1 Z bV Z hr395) Z (vV (an Z Z (be _ _ _)) Z (af ?_))))))))))
   refine cn H37 (fun c838 H37=>?_) fun c838 H37=>?_
   ·refine aj Z (bb c838) (bM (ag (aa (vM Z Z (vA Z Z (af (ap ?_)))))))
    cases H37
    refine vP [0,1,2] Z Z ?_
    exact av Z Z ⟨_,_,hr395,rfl,rfl⟩
   refine al Z (bg c838) (aA (ag (aa (vM Z Z (vV (bL 2 Z cv Z (aV 45)) Z (vV (an Z Z (ce _ _ _)) Z ?_))))))
   obtain ⟨u49,h464,H37⟩:=oB H37
   refine az (aR (first:=[]) (cap:=[]) (xs:=[.tmp 18]) Z Z el Z (bz.spec (decide ((l40.length:Int) < 50)) _ h464)) Z Z Z ?_
   rintro _ _ ⟨rfl,rfl⟩
   refine af (ag (aa (vM Z Z ?_)))
   obtain ⟨x432,h467,H37⟩:=oB H37
   refine az (bw (Lr:=[own sv440 45 6 l40.length (fl aW l40)]) (first:=[]) (cap:=[]) (xs:=[.tmp 21]) Z Z kQ Z (cK.spec p0 sv439 A0 l39 p0_1 hr395 _ h467) Z) Z Z Z ?_
   rintro _ _ ⟨_,⟨sv485,hr436,rfl,rfl⟩,rfl⟩
   obtain ⟨x433,h468,H37⟩:=oB H37
   refine az (aR (first:=[]) (cap:=[]) (xs:=[.tmp 22]) Z Z tM Z (kx.spec K x432.2 _ h468)) Z Z Z ?_
   rintro _ _ ⟨rfl,rfl⟩
   refine vM Z Z (vV (bH Z Z) Z (vV (bH Z Z) Z (vA Z Z (vA Z Z (af (ag (aa (vM Z Z ?_))))))))
   obtain ⟨u51,h470,H37⟩:=oB H37
   refine az (aR (first:=[]) (cap:=[]) (xs:=[.tmp 26]) Z Z el Z (bz.spec x433.2 _ h470)) Z Z Z ?_
   rintro _ _ ⟨rfl,rfl⟩
   refine af (ag (aa (vM Z Z (vV (cA (is:=[0]) (xs:=[.tmp 28]) (vs:=[I x433.1]) Z Z (bG (cs:=[I x433.1,S0,S0,S0,S0]) tv rn Z)) Z ?_))))
   refine vV (cA (is:=[0]) (xs:=[.tmp 29]) (vs:=[agg #[I x433.1,S0,S0,S0,S0]]) Z Z (bG (cs:=[I x433.1,S0,S0,S0,S0,I 0]) kP qK (by simp [Instr.fill,jj,il,jk,io,gH,je,fZ,jf,]))) Z ?_
   refine az (cy kP) Z Z Z ?_
   rintro _ _ ⟨b35,rfl,rfl⟩
   refine aY (aP (cs:=[I 0,S0,S0,S0,S0,I 0]) (cs':=[I x433.1,S0,S0,S0,S0,I 0]) (us:=[I x433.1,S0,S0,S0,S0,I 0]) (L':=[box b35 45 [I x433.1,S0,S0,S0,S0,I 0],box p0 84 [sv485,I p0_1],A0,own sv440 45 6 l40.length (fl aW l40)]) 0 Z Z Z (bv Z) dR Z Z (by simp) Z) Z Z ?_
   rintro _ _ rfl
   refine af ?_
   obtain ⟨x450,H39,H37⟩:=oB H37
   let C2_:List Value:=[I x433.1,aF x450.2.1,aF x450.2.2.1,aF x450.2.2.2.1,aF x450.2.2.2.2,I 0]
   refine bU (fun a w=>∃ b36:Nat,∃ sv503:Value,cg A0 sv503 x450.1.length 1 (fl eS x450.1) ∧ St 53 w0 F [(0,pt p0 0),(2,sv440),(3,(Value.func (.func 81) #[pt p0 0] #[])),(6,pt b36 0)] [box p0 84 [sv503,I p0_1],A0,own sv440 45 6 l40.length (fl aW l40),box b36 45 C2_] a w) ?_ ?_
   ·refine ag (aa (vM Z Z (vV (aO Z) Z (vV (ak (sz:=0) (o:=0) Z gK bD) Z (vV (ay (v:=(I p0_1)) Z cb (ar (i:=1) Z Z)) Z (vM Z Z (af (aK ?_))))))))
    refine co (fun k a w=>∃ i26,∃ l46,∃ t141,∃ t142,∃ t143,∃ t144,∃ sv508:Value,cg A0 sv508 l46.length 1 (fl eS l46) ∧ fF K p0_1 k i26 l46 t141 t142 t143 t144 = some x450 ∧ St 53 w0 F [(0,pt p0 0),(2,sv440),(3,(Value.func (.func 81) #[pt p0 0] #[])),(6,pt b35 0),(34,I p0_1),(35,I i26)] [box p0 84 [sv508,I p0_1],A0,own sv440 45 6 l40.length (fl aW l40),box b35 45 [I x433.1,aF t141,aF t142,aF t143,aF t144,I 0]] a w) K ?_ ?_
    ·exact vF [1,2,3,0] Z Z (vS [0,2,3,6,34,35] Z) fun a w h=>⟨_,_,_,_,_,_,_,hr436,H39,h⟩
    ·refine fun k=>aL fun i26=>aL fun l46=>aL fun t141=>aL fun t142=>aL fun t143=>aL fun t144=>aL fun sv508=>bQ fun hr459=>bQ fun H40=>?_
     let C1_:List Value:=[I x433.1,aF t141,aF t142,aF t143,aF t144,I 0]
     cases k with
     | zero=>exact absurd H40 (by simp [C2_,C1_,fF])
     | succ k =>
      rw [fF] at H40
      refine ag (aa (vV (an Z Z (ce _ _ _)) Z (af (ag ?_))))
      refine eW H40 (fun c902 H40=>?_) fun c902 H40=>?_
      ·refine al Z (dF c902) (bM ?_)
       cases H40
       exact vF [0,1,2,3] Z Z (vS [0,2,3,6] Z) fun a w h=>⟨_,_,hr459,h⟩
      refine aj Z (dT c902) (aA (ag (aK (ag (aa (vM Z Z (vA Z Z (af (aa (vM Z Z (vM Z Z ?_)))))))))))
      obtain ⟨x466,h502,H40⟩:=oB H40
      refine az (bw (Lr:=[own sv440 45 6 l40.length (fl aW l40),box b35 45 C1_]) (first:=[pt p0 0]) (cap:=[]) (xs:=[]) Z Z uq Z (gr.spec K p0 sv508 A0 l46 p0_1 hr459 _ h502) Z) Z Z Z ?_
      rintro _ _ ⟨_,⟨sv520,hr471,rfl,rfl⟩,rfl⟩
      refine vV (ak (sz:=4) (o:=0) Z eG fE) Z (vV (ak (sz:=3) (o:=0) Z gP dC) Z ?_)
      obtain ⟨c909,H40⟩:=dK H40
      obtain ⟨c910,H40⟩:=dK H40
      refine vV (bl (o:=1) Z Z dq cj c909 c910) Z ?_
      refine aY (jZ (cs:=C1_) (cs':=[I x433.1,aF (if i26.toNat = 0 then x466.2 else t141),aF (if i26.toNat = 1 then x466.2 else t142),aF (if i26.toNat = 2 then x466.2 else t143),aF (if i26.toNat = 3 then x466.2 else t144),I 0]) (us:=[aF x466.2]) (L':=[box p0 84 [sv520,I p0_1],A0,own sv440 45 6 l40.length (fl aW l40),box b35 45 [I x433.1,aF (if i26.toNat = 0 then x466.2 else t141),aF (if i26.toNat = 1 then x466.2 else t142),aF (if i26.toNat = 2 then x466.2 else t143),aF (if i26.toNat = 3 then x466.2 else t144),I 0]]) 3 Z Z Z (lp Z) cj Z (jm (fun i_=>List.take (1 + i_ * 1) C1_ ++ [aF x466.2] ++ List.drop (1 + i_ * 1 + List.length [aF x466.2]) C1_ = [I x433.1,aF (if i_ = 0 then x466.2 else t141),aF (if i_ = 1 then x466.2 else t142),aF (if i_ = 2 then x466.2 else t143),aF (if i_ = 3 then x466.2 else t144),I 0]) (bx c909 c910) Z Z Z Z) (jm (fun i_=>1 + i_ * 1 + List.length [aF x466.2] ≤ List.length C1_) (bx c909 c910) (nL Z) (nL Z) (nL Z) (nL Z)) Z) Z Z ?_
      rintro _ _ rfl
      refine af (aa (vV (an Z Z (bR _ _ _) ) Z (vM Z Z (af ?_))))
      exact vF [0,1,2,3] Z Z (vS [0,2,3,6,34,35] Z) fun a w h=>⟨k,Nat.lt_succ_self k,_,_,_,_,_,_,_,hr471,H40,h⟩
   ·refine aL fun b36=>aL fun sv503=>bQ fun hr454=>?_
    refine ag (aa (vM Z Z ?_))
    obtain ⟨x468,h504,H37⟩:=oB H37
    let C0_:List Value:=[I x433.1,aF x450.2.1,aF x450.2.2.1,aF x450.2.2.2.1,aF x450.2.2.2.2,I x468.2]
    refine az (bw (Lr:=[own sv440 45 6 l40.length (fl aW l40),box b36 45 C2_]) (first:=[]) (cap:=[]) (xs:=[.tmp 45]) Z Z gA Z (bi.spec K p0 sv503 A0 x450.1 p0_1 hr454 _ h504) Z) Z Z Z ?_
    rintro _ _ ⟨_,⟨sv522,hr473,rfl,rfl⟩,rfl⟩
    refine vV (ak (sz:=0) (o:=0) Z gI aI) Z ?_
    refine aY (aP (cs:=C2_) (cs':=C0_) (us:=[I x468.2]) (L':=[box p0 84 [sv522,I p0_1],A0,own sv440 45 6 l40.length (fl aW l40),box b36 45 C0_]) 3 Z Z Z (bv Z) aI Z Z (by simp [C2_,C0_]) Z) Z Z ?_
    rintro _ _ rfl
    refine af (aa (vM Z Z (vV (aD (vs:=C0_) Z kY dR (aG (i:=3) Z)) Z ?_)))
    refine az (bs (sz:=5) (xs:=[.tmp 49]) (cs:=fl aW [(⟨(⟨x433.1,x450.2.1,x450.2.2.1,x450.2.2.2.1,x450.2.2.2.2⟩:ju),x468.2⟩:aB)]) Z Z cv dR kP Z Z (cF Z) Z (by decide)) Z Z Z ?_
    rintro sv525 _ rfl
    obtain ⟨c912,H37⟩:=dK H37
    refine az (gV (sz:=5) (xs:=l40) (ys:=[(⟨(⟨x433.1,x450.2.1,x450.2.2.1,x450.2.2.2.1,x450.2.2.2.2⟩:ju),x468.2⟩:aB)]) 3 0 Z Z cv dR kP Z sc Z Z Z (aV 45) Z nr c912) Z Z Z ?_
    rintro sv526 _ rfl
    refine lC [own sv525 45 6 [(⟨(⟨x433.1,x450.2.1,x450.2.2.1,x450.2.2.2.1,x450.2.2.2.2⟩:ju),x468.2⟩:aB)].length (fl aW [(⟨(⟨x433.1,x450.2.1,x450.2.2.1,x450.2.2.2.1,x450.2.2.2.2⟩:ju),x468.2⟩:aB)]),box p0 84 [sv522,I p0_1],A0,own sv526 45 6 (l40 ++ [(⟨(⟨x433.1,x450.2.1,x450.2.2.1,x450.2.2.2.1,x450.2.2.2.2⟩:ju),x468.2⟩:aB)]).length (fl aW (l40 ++ [(⟨(⟨x433.1,x450.2.1,x450.2.2.1,x450.2.2.2.1,x450.2.2.2.2⟩:ju),x468.2⟩:aB)])),box b36 45 C0_] Z ?_
    refine vA Z Z (af ?_)
    exact vF [1,2,3] Z Z (vS [0,2,3] Z) fun a w h=>⟨k,Nat.lt_succ_self k,_,_,_,_,hr473,H37,h⟩
theorem jb.spec (sv0:Value) (l0:List aB) (r:(Int × Int × Int × Int × Bool × Bool × Bool × Bool × Bool × Bool × Bool × Bool × (List UInt8) × (List UInt8) × (List UInt8) × (List UInt8) × Int × Int × Int × Int × Int × Int × Int × Int × Int)) (H:jb l0 = r):bf Tryz.prog 37 [agg #[I 1,I 0,sv0,I 0,I 0,B0,B0,B0,B0,B0,B0,B0,B0,S0,S0,S0,S0,I 0,I 0,I 0,I 0,I 0,I 0,I 0,I 0,I 0,L0]] [own sv0 45 6 l0.length (fl aW l0)] (fun v M=>v = (agg #[I r.1,I r.2.1,L0,I r.2.2.1,I r.2.2.2.1,bool r.2.2.2.2.1,bool r.2.2.2.2.2.1,bool r.2.2.2.2.2.2.1,bool r.2.2.2.2.2.2.2.1,bool r.2.2.2.2.2.2.2.2.1,bool r.2.2.2.2.2.2.2.2.2.1,bool r.2.2.2.2.2.2.2.2.2.2.1,bool r.2.2.2.2.2.2.2.2.2.2.2.1,aF r.2.2.2.2.2.2.2.2.2.2.2.2.1,aF r.2.2.2.2.2.2.2.2.2.2.2.2.2.1,aF r.2.2.2.2.2.2.2.2.2.2.2.2.2.2.1,aF r.2.2.2.2.2.2.2.2.2.2.2.2.2.2.2.1,I r.2.2.2.2.2.2.2.2.2.2.2.2.2.2.2.2.1,I r.2.2.2.2.2.2.2.2.2.2.2.2.2.2.2.2.2.1,I r.2.2.2.2.2.2.2.2.2.2.2.2.2.2.2.2.2.2.1,I r.2.2.2.2.2.2.2.2.2.2.2.2.2.2.2.2.2.2.2.1,I r.2.2.2.2.2.2.2.2.2.2.2.2.2.2.2.2.2.2.2.2.1,I r.2.2.2.2.2.2.2.2.2.2.2.2.2.2.2.2.2.2.2.2.2.1,I r.2.2.2.2.2.2.2.2.2.2.2.2.2.2.2.2.2.2.2.2.2.2.1,I r.2.2.2.2.2.2.2.2.2.2.2.2.2.2.2.2.2.2.2.2.2.2.2.1,I r.2.2.2.2.2.2.2.2.2.2.2.2.2.2.2.2.2.2.2.2.2.2.2.2,L0]) ∧ M = [own sv0 45 6 l0.length (fl aW l0)]):=by
 unfold jb at H
 refine bj Tryz.func37 Z 26 Z (nL Z) fun F w0=>?_
 let C2_:List Value:=[I 0,I 0,L0,I 0,I 0,B0,B0,B0,B0,B0,B0,B0,B0,S0,S0,S0,S0,I 0,I 0,I 0,I 0,I 0,I 0,I 0,I 0,I 0,L0]
 let C1_:List Value:=[I 1,I 0,sv0,I 0,I 0,B0,B0,B0,B0,B0,B0,B0,B0,S0,S0,S0,S0,I 0,I 0,I 0,I 0,I 0,I 0,I 0,I 0,I 0,L0]
 let C0_:List Value:=[I 1,I 0,L0,I 0,I 0,B0,B0,B0,B0,B0,B0,B0,B0,S0,S0,S0,S0,I 0,I 0,I 0,I 0,I 0,I 0,I 0,I 0,I 0,L0]
 show cE (St 26 w0 F [(0,agg #[I 1,I 0,sv0,I 0,I 0,B0,B0,B0,B0,B0,B0,B0,B0,S0,S0,S0,S0,I 0,I 0,I 0,I 0,I 0,I 0,I 0,I 0,I 0,L0])] [own sv0 45 6 l0.length (fl aW l0)]) _
 refine ag (aa ?_)
 refine az (fx (cs:=C1_) Z Z) Z Z Z ?_
 rintro _ _ ⟨b3,rfl,rfl⟩
 refine az (cy bP) Z Z Z ?_
 rintro _ _ ⟨b4,rfl,rfl⟩
 refine af (ag (ag (aa (vV (ak (sz:=0) (o:=0) Z bp bD) Z (vV (ay (v:=(I 1)) Z cb (ar (i:=1) Z Z)) Z (af (aK (ag (aa (vV (an Z Z (be _ _ _)) Z (vA Z Z ?_)))))))))))
 refine af (aj Z Z (aa (vV (ak (sz:=0) (o:=0) Z cU dU) Z ?_)))
 refine aY (aP (cs:=C1_) (cs':=C0_) (us:=[L0]) (L':=[box b4 37 C2_,box b3 37 C0_,own sv0 45 6 l0.length (fl aW l0)]) 1 Z Z Z (bv Z) dU Z Z (by simp [C2_,C1_,C0_]) Z) Z Z ?_
 rintro _ _ rfl
 refine af (ag (aa (vV (aD (vs:=C0_) Z aQ ax (aG (i:=1) Z)) Z ?_)))
 refine aY (aP (cs:=C2_) (cs':=C0_) (us:=C0_) (L':=[box b4 37 C0_,box b3 37 C0_,own sv0 45 6 l0.length (fl aW l0)]) 0 Z Z Z (bv Z) ax Z Z (by simp [C2_,C1_,C0_]) Z) Z Z ?_
 rintro _ _ rfl
 refine af (ap ?_)
 subst H
 exact cp [2] (by decide) Z (vs:=[agg #[I 1,I 0,L0,I 0,I 0,B0,B0,B0,B0,B0,B0,B0,B0,S0,S0,S0,S0,I 0,I 0,I 0,I 0,I 0,I 0,I 0,I 0,I 0,L0]]) Z ⟨⟨_,C0_,rfl,aG (i:=0) Z,.inl ⟨aQ,ax,rfl⟩⟩,trivial⟩ _ Z ⟨rfl,rfl⟩
theorem cl.spec (K:Nat) (sv0:Value) (A0:HP) (sv1:Value) (A1:HP) (l0:List aB) (l1:List aB) (hA0:cg A0 sv0 l0.length 6 (fl aW l0)) (hA1:cg A1 sv1 l1.length 6 (fl aW l1)) (r:Bool) (H:cl K l0 l1 = some r):bf Tryz.prog 63 [sv0,sv1] [A0,A1] (fun v M=>v = (bool r) ∧ M = [A0,A1]):=by
 unfold cl at H
 refine bj Tryz.func63 Z 26 Z (nL Z) fun F w0=>?_
 show cE (St 26 w0 F [(0,sv0),(1,sv1)] [A0,A1]) _
 refine ag (aa (vA Z Z (af (ag (ag (aa (vM Z Z (vV (bL 0 Z cv Z hA0) Z (vM Z Z (vV (bL 1 Z cv Z hA1) Z (vV (an Z Z (kZ _ _ _)) Z ?_)))))))))))
 refine af ?_
 refine cn H (fun c48 H=>?_) fun c48 H=>?_
 ·refine aj Z (kw c48) (ag (aa (vA Z Z (af (ap ?_)))))
  cases H
  refine vP [0,1] Z Z ?_
  exact av Z Z ⟨rfl,rfl⟩
 refine al Z (kv c48) (aA (ag (ag (aa (vM Z Z (vV (bL 0 Z cv Z hA0) Z (vM Z Z (af (aK ?_)))))))))
 refine co (fun k a w=>∃ i4,cP K l0 l1 k i4 = some r ∧ St 26 w0 F [(0,sv0),(1,sv1),(12,I (l0.length:Int)),(13,I i4)] [A0,A1] a w) K ?_ ?_
 ·exact vF [0,1] Z Z (vS [0,1,12,13] Z) fun a w h=>⟨_,H,h⟩
 ·refine fun k=>aL fun i4=>bQ fun H4=>?_
  let C1_:Value:=agg #[I (((l1.getD i4.toNat aq).Key).Hour),aF (((l1.getD i4.toNat aq).Key).Dims_0),aF (((l1.getD i4.toNat aq).Key).Dims_1),aF (((l1.getD i4.toNat aq).Key).Dims_2),aF (((l1.getD i4.toNat aq).Key).Dims_3),I ((l1.getD i4.toNat aq).Value)]
  let C0_:Value:=agg #[I (((l0.getD i4.toNat aq).Key).Hour),aF (((l0.getD i4.toNat aq).Key).Dims_0),aF (((l0.getD i4.toNat aq).Key).Dims_1),aF (((l0.getD i4.toNat aq).Key).Dims_2),aF (((l0.getD i4.toNat aq).Key).Dims_3),I ((l0.getD i4.toNat aq).Value)]
  cases k with
  | zero=>exact absurd H4 (by simp [C1_,C0_,cP])
  | succ k =>
   rw [cP] at H4
   refine ag (aa (vV (an Z Z (ce _ _ _)) Z (af (ag ?_))))
   refine eW H4 (fun c86 H4=>?_) fun c86 H4=>?_
   ·refine al Z (dF c86) (bM (ag (aa (vA Z Z (af (ap ?_))))))
    cases H4
    refine vP [0,1] Z Z ?_
    exact av Z Z ⟨rfl,rfl⟩
   refine aj Z (dT c86) (aA (ag (aK (ag (aa (vM Z Z (vA Z Z (af (ag ?_)))))))))
   obtain ⟨c90,H4⟩:=dK H4
   obtain ⟨c91,H4⟩:=dK H4
   refine dQ 9 Z (fun D a w=>kO 26 w0 F [(0,sv0),(1,sv1),(5,I i4),(12,I (l0.length:Int)),(13,I i4),(14,bool (decide (i4 < (l0.length:Int)))),(15,I i4)] [(0,16,sv0),(1,17,I i4),(2,18,(lf sv0 (i4.toNat * 6))),(3,19,C0_),(4,20,sv1),(5,21,I i4),(6,22,(lf sv1 (i4.toNat * 6))),(7,23,C1_),(8,24,bool (!((((((l0.getD i4.toNat aq).Key).Hour) == (((l1.getD i4.toNat aq).Key).Hour)) && ((((((l0.getD i4.toNat aq).Key).Dims_0) == (((l1.getD i4.toNat aq).Key).Dims_0)) && (((((l0.getD i4.toNat aq).Key).Dims_1) == (((l1.getD i4.toNat aq).Key).Dims_1)) && (((((l0.getD i4.toNat aq).Key).Dims_2) == (((l1.getD i4.toNat aq).Key).Dims_2)) && (((((l0.getD i4.toNat aq).Key).Dims_3) == (((l1.getD i4.toNat aq).Key).Dims_3)) && true)))) && true)) && ((((l0.getD i4.toNat aq).Value) == ((l1.getD i4.toNat aq).Value)) && true))))] D [A0,A1] a w) (by kernel_rfl) (by kernel_rfl) (de (vS [0,1,5,12,13,14,15] Z) Z) ?_ ?_
   ·refine ⟨?_,?_,?_,?_,?_,?_,?_,?_,?_,trivial⟩
    ·exact fun D hi hc U=>dV 0 Z Z Z Z (fun a=>ao) (au Z) Z Z Z Z
    ·exact fun D hi hc U=>dV 1 Z Z Z Z (fun a=>ao) (au Z) Z Z Z Z
    ·exact fun D hi hc U=>dV 2 Z Z Z Z (fun a=>(hD 1 U Z Z Z Z (hD 0 U Z Z Z Z ao))) (bA (sz:=5) 0 Z Z cv dR Z hA0 c90 c86) Z Z Z Z
    ·exact fun D hi hc U=>dV 3 Z Z Z Z (fun a=>(hD 2 U Z Z Z Z ao)) (aD (vs:=[I (((l0.getD i4.toNat aq).Key).Hour),aF (((l0.getD i4.toNat aq).Key).Dims_0),aF (((l0.getD i4.toNat aq).Key).Dims_1),aF (((l0.getD i4.toNat aq).Key).Dims_2),aF (((l0.getD i4.toNat aq).Key).Dims_3),I ((l0.getD i4.toNat aq).Value)]) Z kY dR (cL (i:=0) Z hA0 (by simp [C1_,C0_]) (ek bB (bx c90 c86) Z))) Z Z Z Z
    ·exact fun D hi hc U=>dV 4 Z Z Z Z (fun a=>ao) (au Z) Z Z Z Z
    ·exact fun D hi hc U=>dV 5 Z Z Z Z (fun a=>ao) (au Z) Z Z Z Z
    ·exact fun D hi hc U=>dV 6 Z Z Z Z (fun a=>(hD 5 U Z Z Z Z (hD 4 U Z Z Z Z ao))) (bA (sz:=5) 1 Z Z cv dR Z hA1 c90 c91) Z Z Z Z
    ·exact fun D hi hc U=>dV 7 Z Z Z Z (fun a=>(hD 6 U Z Z Z Z ao)) (aD (vs:=[I (((l1.getD i4.toNat aq).Key).Hour),aF (((l1.getD i4.toNat aq).Key).Dims_0),aF (((l1.getD i4.toNat aq).Key).Dims_1),aF (((l1.getD i4.toNat aq).Key).Dims_2),aF (((l1.getD i4.toNat aq).Key).Dims_3),I ((l1.getD i4.toNat aq).Value)]) Z kY dR (cL (i:=1) Z hA1 (by simp [C1_,C0_]) (ek bB (bx c90 c91) Z))) Z Z Z Z
    ·exact fun D hi hc U=>dV 8 Z Z Z Z (fun a=>(hD 7 U Z Z Z Z (hD 3 U Z Z Z Z ao))) (an Z Z (uK _ _ _ _ _ _ _ _ _ _ _ _)) Z Z Z Z
   ·intro D hall
    refine en [A0,A1] Z (hL hall Z) ?_
    refine cn H4 (fun c92 H4=>?_) fun c92 H4=>?_
    ·refine aj Z c92 (ag (aa (vA Z Z (af (ap ?_)))))
     cases H4
     refine vP [0,1] Z Z ?_
     exact av Z Z ⟨rfl,rfl⟩
    refine al Z (bF c92) (aA (aa (vV (an Z Z (bR _ _ _) ) Z (vM Z Z (af ?_)))))
    exact vF [0,1] Z Z (vS [0,1,12,13] Z) fun a w h=>⟨k,Nat.lt_succ_self k,_,H4,h⟩
theorem cQ.spec (K:Nat) (sv0:Value) (A0:HP) (sv1:Value) (A1:HP) (l0:List Bool) (l1:List Bool) (hA0:cg A0 sv0 l0.length 1 (fl eB l0)) (hA1:cg A1 sv1 l1.length 1 (fl eB l1)) (r:Bool) (H:cQ K l0 l1 = some r):bf Tryz.prog 64 [sv0,sv1] [A0,A1] (fun v M=>v = (bool r) ∧ M = [A0,A1]):=by
 unfold cQ at H
 refine bj Tryz.func64 Z 26 Z (nL Z) fun F w0=>?_
 show cE (St 26 w0 F [(0,sv0),(1,sv1)] [A0,A1]) _
 refine ag (aa (vA Z Z (af (ag (ag (aa (vM Z Z (vV (bL 0 Z bW Z hA0) Z (vM Z Z (vV (bL 1 Z bW Z hA1) Z (vV (an Z Z (kZ _ _ _)) Z ?_)))))))))))
 refine af ?_
 refine cn H (fun c48 H=>?_) fun c48 H=>?_
 ·refine aj Z (kw c48) (ag (aa (vA Z Z (af (ap ?_)))))
  cases H
  refine vP [0,1] Z Z ?_
  exact av Z Z ⟨rfl,rfl⟩
 refine al Z (kv c48) (aA (ag (ag (aa (vM Z Z (vV (bL 0 Z bW Z hA0) Z (vM Z Z (af (aK ?_)))))))))
 refine co (fun k a w=>∃ i4,dI K l0 l1 k i4 = some r ∧ St 26 w0 F [(0,sv0),(1,sv1),(12,I (l0.length:Int)),(13,I i4)] [A0,A1] a w) K ?_ ?_
 ·exact vF [0,1] Z Z (vS [0,1,12,13] Z) fun a w h=>⟨_,H,h⟩
 ·refine fun k=>aL fun i4=>bQ fun H4=>?_
  cases k with
  | zero=>exact absurd H4 (by simp [dI])
  | succ k =>
   rw [dI] at H4
   refine ag (aa (vV (an Z Z (ce _ _ _)) Z (af (ag ?_))))
   refine eW H4 (fun c86 H4=>?_) fun c86 H4=>?_
   ·refine al Z (dF c86) (bM (ag (aa (vA Z Z (af (ap ?_))))))
    cases H4
    refine vP [0,1] Z Z ?_
    exact av Z Z ⟨rfl,rfl⟩
   refine aj Z (dT c86) (aA (ag (aK (ag (aa (vM Z Z (vA Z Z (af (ag ?_)))))))))
   obtain ⟨c90,H4⟩:=dK H4
   obtain ⟨c91,H4⟩:=dK H4
   refine dQ 9 Z (fun D a w=>kO 26 w0 F [(0,sv0),(1,sv1),(5,I i4),(12,I (l0.length:Int)),(13,I i4),(14,bool (decide (i4 < (l0.length:Int)))),(15,I i4)] [(0,16,sv0),(1,17,I i4),(2,18,(lf sv0 (i4.toNat * 1))),(3,19,bool (l0.getD i4.toNat false)),(4,20,sv1),(5,21,I i4),(6,22,(lf sv1 (i4.toNat * 1))),(7,23,bool (l1.getD i4.toNat false)),(8,24,bool ((l0.getD i4.toNat false) != (l1.getD i4.toNat false)))] D [A0,A1] a w) (by kernel_rfl) (by kernel_rfl) (de (vS [0,1,5,12,13,14,15] Z) Z) ?_ ?_
   ·refine ⟨?_,?_,?_,?_,?_,?_,?_,?_,?_,trivial⟩
    ·exact fun D hi hc U=>dV 0 Z Z Z Z (fun a=>ao) (au Z) Z Z Z Z
    ·exact fun D hi hc U=>dV 1 Z Z Z Z (fun a=>ao) (au Z) Z Z Z Z
    ·exact fun D hi hc U=>dV 2 Z Z Z Z (fun a=>(hD 1 U Z Z Z Z (hD 0 U Z Z Z Z ao))) (bA (sz:=0) 0 Z Z bW ew Z hA0 c90 c86) Z Z Z Z
    ·exact fun D hi hc U=>dV 3 Z Z Z Z (fun a=>(hD 2 U Z Z Z Z ao)) (ay (v:=(bool (l0.getD i4.toNat false))) Z eu (cL (i:=0) Z hA0 (by simp) (ek jn (bx c90 c86) Z))) Z Z Z Z
    ·exact fun D hi hc U=>dV 4 Z Z Z Z (fun a=>ao) (au Z) Z Z Z Z
    ·exact fun D hi hc U=>dV 5 Z Z Z Z (fun a=>ao) (au Z) Z Z Z Z
    ·exact fun D hi hc U=>dV 6 Z Z Z Z (fun a=>(hD 5 U Z Z Z Z (hD 4 U Z Z Z Z ao))) (bA (sz:=0) 1 Z Z bW ew Z hA1 c90 c91) Z Z Z Z
    ·exact fun D hi hc U=>dV 7 Z Z Z Z (fun a=>(hD 6 U Z Z Z Z ao)) (ay (v:=(bool (l1.getD i4.toNat false))) Z eu (cL (i:=1) Z hA1 (by simp) (ek jn (bx c90 c91) Z))) Z Z Z Z
    ·exact fun D hi hc U=>dV 8 Z Z Z Z (fun a=>(hD 7 U Z Z Z Z (hD 3 U Z Z Z Z ao))) (an Z Z (rD Tryz.underlying4 _ _)) Z Z Z Z
   ·intro D hall
    refine en [A0,A1] Z (hL hall Z) ?_
    refine cn H4 (fun c92 H4=>?_) fun c92 H4=>?_
    ·refine aj Z c92 (ag (aa (vA Z Z (af (ap ?_)))))
     cases H4
     refine vP [0,1] Z Z ?_
     exact av Z Z ⟨rfl,rfl⟩
    refine al Z (bF c92) (aA (aa (vV (an Z Z (bR _ _ _) ) Z (vM Z Z (af ?_)))))
    exact vF [0,1] Z Z (vS [0,1,12,13] Z) fun a w h=>⟨k,Nat.lt_succ_self k,_,H4,h⟩
theorem dN.spec (K:Nat) (sv0:Value) (A0:HP) (sv1 sv2:Value) (A2:HP) (sv3:Value) (a0_0 a0_1:Int) (l0:List aB) (a0_3 a0_4:Int) (a0_5 a0_6:Bool) (a0_7 a0_8:Bool) (a0_9 a0_10:Bool) (a0_11 a0_12:Bool) (a0_13:List UInt8) (a0_14:List UInt8) (a0_15:List UInt8) (a0_16:List UInt8) (a0_17 a0_18:Int) (a0_19 a0_20:Int) (a0_21 a0_22:Int) (a0_23 a0_24 a0_25:Int) (l1:List Bool) (a1_0 a1_1:Int) (l2:List aB) (a1_3 a1_4:Int) (a1_5 a1_6:Bool) (a1_7 a1_8:Bool) (a1_9 a1_10:Bool) (a1_11 a1_12:Bool) (a1_13:List UInt8) (a1_14:List UInt8) (a1_15:List UInt8) (a1_16:List UInt8) (a1_17 a1_18:Int) (a1_19 a1_20:Int) (a1_21 a1_22:Int) (a1_23 a1_24 a1_25:Int) (l3:List Bool) (hA0:cg A0 sv0 l0.length 6 (fl aW l0)) (hA1:cg A0 sv1 l1.length 1 (fl eB l1)) (hA2:cg A2 sv2 l2.length 6 (fl aW l2)) (hA3:cg A2 sv3 l3.length 1 (fl eB l3)) (r:Bool) (H:dN K a0_0 a0_1 l0 a0_3 a0_4 a0_5 a0_6 a0_7 a0_8 a0_9 a0_10 a0_11 a0_12 a0_13 a0_14 a0_15 a0_16 a0_17 a0_18 a0_19 a0_20 a0_21 a0_22 a0_23 a0_24 a0_25 l1 a1_0 a1_1 l2 a1_3 a1_4 a1_5 a1_6 a1_7 a1_8 a1_9 a1_10 a1_11 a1_12 a1_13 a1_14 a1_15 a1_16 a1_17 a1_18 a1_19 a1_20 a1_21 a1_22 a1_23 a1_24 a1_25 l3 = some r):bf Tryz.prog 62 [agg #[I a0_0,I a0_1,sv0,I a0_3,I a0_4,bool a0_5,bool a0_6,bool a0_7,bool a0_8,bool a0_9,bool a0_10,bool a0_11,bool a0_12,aF a0_13,aF a0_14,aF a0_15,aF a0_16,I a0_17,I a0_18,I a0_19,I a0_20,I a0_21,I a0_22,I a0_23,I a0_24,I a0_25,sv1],agg #[I a1_0,I a1_1,sv2,I a1_3,I a1_4,bool a1_5,bool a1_6,bool a1_7,bool a1_8,bool a1_9,bool a1_10,bool a1_11,bool a1_12,aF a1_13,aF a1_14,aF a1_15,aF a1_16,I a1_17,I a1_18,I a1_19,I a1_20,I a1_21,I a1_22,I a1_23,I a1_24,I a1_25,sv3]] [A0,A2] (fun v M=>v = (bool r) ∧ M = [A0,A2]):=by
 unfold dN at H
 refine bj Tryz.func62 Z 45 Z (nL Z) fun F w0=>?_
 let C2_:List Value:=[I a1_0,I a1_1,sv2,I a1_3,I a1_4,bool a1_5,bool a1_6,bool a1_7,bool a1_8,bool a1_9,bool a1_10,bool a1_11,bool a1_12,aF a1_13,aF a1_14,aF a1_15,aF a1_16,I a1_17,I a1_18,I a1_19,I a1_20,I a1_21,I a1_22,I a1_23,I a1_24,I a1_25,sv3]
 let C1_:List Value:=[I a0_0,I a0_1,sv0,I a0_3,I a0_4,bool a0_5,bool a0_6,bool a0_7,bool a0_8,bool a0_9,bool a0_10,bool a0_11,bool a0_12,aF a0_13,aF a0_14,aF a0_15,aF a0_16,I a0_17,I a0_18,I a0_19,I a0_20,I a0_21,I a0_22,I a0_23,I a0_24,I a0_25,sv1]
 show cE (St 45 w0 F [(0,agg #[I a0_0,I a0_1,sv0,I a0_3,I a0_4,bool a0_5,bool a0_6,bool a0_7,bool a0_8,bool a0_9,bool a0_10,bool a0_11,bool a0_12,aF a0_13,aF a0_14,aF a0_15,aF a0_16,I a0_17,I a0_18,I a0_19,I a0_20,I a0_21,I a0_22,I a0_23,I a0_24,I a0_25,sv1]),(1,agg #[I a1_0,I a1_1,sv2,I a1_3,I a1_4,bool a1_5,bool a1_6,bool a1_7,bool a1_8,bool a1_9,bool a1_10,bool a1_11,bool a1_12,aF a1_13,aF a1_14,aF a1_15,aF a1_16,I a1_17,I a1_18,I a1_19,I a1_20,I a1_21,I a1_22,I a1_23,I a1_24,I a1_25,sv3])] [A0,A2]) _
 refine ag (aa ?_)
 refine az (fx (cs:=C1_) Z Z) Z Z Z ?_
 rintro _ _ ⟨b3,rfl,rfl⟩
 refine az (fx (cs:=C2_) Z Z) Z Z Z ?_
 rintro _ _ ⟨b4,rfl,rfl⟩
 let C0_:List HP:=[box b4 37 C2_,box b3 37 C1_]
 refine vA Z Z (af (ag (aa (vV (ak (sz:=0) (o:=0) Z bp bD) Z (vV (ay (v:=(I a0_0)) Z cb (ar (i:=1) Z Z)) Z (vV (ak (sz:=0) (o:=0) Z bp bD) Z (vV (ay (v:=(I a1_0)) Z cb (ar (i:=0) Z Z)) Z (vV (an Z Z (be _ _ _)) Z (vM Z Z ?_)))))))))
 refine eW H (fun c6 H=>?_) fun c6 H=>?_
 ·refine ah Z Z Z (bg c6) Z Z ?_
  refine ah Z Z Z (bg c6) Z Z ?_
  refine ah Z Z Z (bg c6) Z Z ?_
  refine ah Z Z Z (bg c6) Z Z ?_
  refine ah Z Z Z (bg c6) Z Z ?_
  refine vV (am Z Z Z (aN (bg c6))) Z (vM Z Z ?_)
  refine ah Z Z Z Z Z Z ?_
  refine ah Z Z Z Z Z Z ?_
  refine ah Z Z Z Z Z Z ?_
  refine ah Z Z Z Z Z Z ?_
  refine ah Z Z Z Z Z Z ?_
  refine vV (am Z Z Z Z) Z (vM Z Z ?_)
  refine ah Z Z Z Z Z Z ?_
  refine ah Z Z Z Z Z Z ?_
  refine ah Z Z Z Z Z Z ?_
  refine ah Z Z Z Z Z Z ?_
  refine ah Z Z Z Z Z Z ?_
  refine vV (am Z Z Z Z) Z (vM Z Z ?_)
  refine ah Z Z Z Z Z Z ?_
  refine ah Z Z Z Z Z Z ?_
  refine ah Z Z Z Z Z Z ?_
  refine ah Z Z Z Z Z Z ?_
  refine ah Z Z Z Z Z Z ?_
  refine vV (am Z Z Z Z) Z (vM Z Z ?_)
  refine ah Z Z Z Z Z Z ?_
  refine ah Z Z Z Z Z Z ?_
  refine ah Z Z Z Z Z Z ?_
  refine ah Z Z Z Z Z Z ?_
  refine ah Z Z Z Z Z Z ?_
  refine vV (am Z Z Z Z) Z (vA Z Z (af (ap ?_)))
  cases H
  refine vP [2,3] Z Z ?_
  exact av Z Z ⟨rfl,rfl⟩
 refine ac (ak (sz:=0) (o:=0) Z da aI) Z Z Z (bb c6) Z Z ?_
 refine ac (ay (v:=(I a0_1)) Z aU (ar (i:=1) Z Z)) Z Z Z (bb c6) Z Z ?_
 refine ac (ak (sz:=0) (o:=0) Z da aI) Z Z Z (bb c6) Z Z ?_
 refine ac (ay (v:=(I a1_1)) Z aU (ar (i:=0) Z Z)) Z Z Z (bb c6) Z Z ?_
 refine ac (an Z Z (be _ _ _)) Z Z Z (bb c6) Z Z ?_
 refine vV (am Z Z Z (aM (bb c6))) Z (vM Z Z ?_)
 refine eW H (fun c7 H=>?_) fun c7 H=>?_
 ·refine ah Z Z Z (bg c7) Z Z ?_
  refine ah Z Z Z (bg c7) Z Z ?_
  refine ah Z Z Z (bg c7) Z Z ?_
  refine ah Z Z Z (bg c7) Z Z ?_
  refine ah Z Z Z (bg c7) Z Z ?_
  refine vV (am Z Z Z (aN (bg c7))) Z (vM Z Z ?_)
  refine ah Z Z Z Z Z Z ?_
  refine ah Z Z Z Z Z Z ?_
  refine ah Z Z Z Z Z Z ?_
  refine ah Z Z Z Z Z Z ?_
  refine ah Z Z Z Z Z Z ?_
  refine vV (am Z Z Z Z) Z (vM Z Z ?_)
  refine ah Z Z Z Z Z Z ?_
  refine ah Z Z Z Z Z Z ?_
  refine ah Z Z Z Z Z Z ?_
  refine ah Z Z Z Z Z Z ?_
  refine ah Z Z Z Z Z Z ?_
  refine vV (am Z Z Z Z) Z (vM Z Z ?_)
  refine ah Z Z Z Z Z Z ?_
  refine ah Z Z Z Z Z Z ?_
  refine ah Z Z Z Z Z Z ?_
  refine ah Z Z Z Z Z Z ?_
  refine ah Z Z Z Z Z Z ?_
  refine vV (am Z Z Z Z) Z (vA Z Z (af (ap ?_)))
  cases H
  refine vP [2,3] Z Z ?_
  exact av Z Z ⟨rfl,rfl⟩
 refine ac (ak (sz:=13) (o:=0) Z eh cH) Z Z Z (bb c7) Z Z ?_
 refine ac (aD (vs:=[I a0_3,I a0_4,bool a0_5,bool a0_6,bool a0_7,bool a0_8,bool a0_9,bool a0_10,bool a0_11,bool a0_12,aF a0_13,aF a0_14,aF a0_15,aF a0_16]) Z hO cH (di (i:=1) Z Z)) Z Z Z (bb c7) Z Z ?_
 refine ac (ak (sz:=13) (o:=0) Z eh cH) Z Z Z (bb c7) Z Z ?_
 refine ac (aD (vs:=[I a1_3,I a1_4,bool a1_5,bool a1_6,bool a1_7,bool a1_8,bool a1_9,bool a1_10,bool a1_11,bool a1_12,aF a1_13,aF a1_14,aF a1_15,aF a1_16]) Z hO cH (di (i:=0) Z Z)) Z Z Z (bb c7) Z Z ?_
 refine ac (an Z Z (qC _ _ _ _ _ _ _ _ _ _ _ _ _ _ _ _ _ _ _ _ _ _ _ _ _ _ _ _)) Z Z Z (bb c7) Z Z ?_
 refine vV (am Z Z Z (aM (bb c7))) Z (vM Z Z ?_)
 refine eW H (fun c8 H=>?_) fun c8 H=>?_
 ·refine ah Z Z Z (bF c8) Z Z ?_
  refine ah Z Z Z (bF c8) Z Z ?_
  refine ah Z Z Z (bF c8) Z Z ?_
  refine ah Z Z Z (bF c8) Z Z ?_
  refine ah Z Z Z (bF c8) Z Z ?_
  refine vV (am Z Z Z (aN (bF c8))) Z (vM Z Z ?_)
  refine ah Z Z Z Z Z Z ?_
  refine ah Z Z Z Z Z Z ?_
  refine ah Z Z Z Z Z Z ?_
  refine ah Z Z Z Z Z Z ?_
  refine ah Z Z Z Z Z Z ?_
  refine vV (am Z Z Z Z) Z (vM Z Z ?_)
  refine ah Z Z Z Z Z Z ?_
  refine ah Z Z Z Z Z Z ?_
  refine ah Z Z Z Z Z Z ?_
  refine ah Z Z Z Z Z Z ?_
  refine ah Z Z Z Z Z Z ?_
  refine vV (am Z Z Z Z) Z (vA Z Z (af (ap ?_)))
  cases H
  refine vP [2,3] Z Z ?_
  exact av Z Z ⟨rfl,rfl⟩
 refine ac (ak (sz:=8) (o:=0) Z dy cI) Z Z Z c8 Z Z ?_
 refine ac (aD (vs:=[I a0_17,I a0_18,I a0_19,I a0_20,I a0_21,I a0_22,I a0_23,I a0_24,I a0_25]) Z iB cI (di (i:=1) Z Z)) Z Z Z c8 Z Z ?_
 refine ac (ak (sz:=8) (o:=0) Z dy cI) Z Z Z c8 Z Z ?_
 refine ac (aD (vs:=[I a1_17,I a1_18,I a1_19,I a1_20,I a1_21,I a1_22,I a1_23,I a1_24,I a1_25]) Z iB cI (di (i:=0) Z Z)) Z Z Z c8 Z Z ?_
 refine ac (an Z Z (mS _ _ _ _ _ _ _ _ _ _ _ _ _ _ _ _ _ _)) Z Z Z c8 Z Z ?_
 refine vV (am Z Z Z (aM c8)) Z (vM Z Z ?_)
 refine eW H (fun c9 H=>?_) fun c9 H=>?_
 ·refine ah Z Z Z (bF c9) Z Z ?_
  refine ah Z Z Z (bF c9) Z Z ?_
  refine ah Z Z Z (bF c9) Z Z ?_
  refine ah Z Z Z (bF c9) Z Z ?_
  refine ah Z Z Z (bF c9) Z Z ?_
  refine vV (am Z Z Z (aN (bF c9))) Z (vM Z Z ?_)
  refine ah Z Z Z Z Z Z ?_
  refine ah Z Z Z Z Z Z ?_
  refine ah Z Z Z Z Z Z ?_
  refine ah Z Z Z Z Z Z ?_
  refine ah Z Z Z Z Z Z ?_
  refine vV (am Z Z Z Z) Z (vA Z Z (af (ap ?_)))
  cases H
  refine vP [2,3] Z Z ?_
  exact av Z Z ⟨rfl,rfl⟩
 refine ac (ak (sz:=0) (o:=0) Z cU dU) Z Z Z c9 Z Z ?_
 refine ac (ay (v:=sv0) Z fU (ar (i:=1) Z Z)) Z Z Z c9 Z Z ?_
 refine ac (ak (sz:=0) (o:=0) Z cU dU) Z Z Z c9 Z Z ?_
 refine ac (ay (v:=sv2) Z fU (ar (i:=0) Z Z)) Z Z Z c9 Z Z ?_
 obtain ⟨x3,h3,H⟩:=oB H
 refine cc (br (Lr:=C0_) [2,3,0,1] [2,3,0,1] (first:=[]) (cap:=[]) (xs:=[.tmp 33,.tmp 35]) Z Z tw Z (cl.spec K sv0 A0 sv2 A2 l0 l2 hA0 hA2 _ h3) (by decide) Z (by decide) Z) Z Z Z c9 Z Z ?_
 rintro _ _ ⟨rfl,rfl⟩
 refine vV (am Z Z Z (aM c9)) Z (vM Z Z ?_)
 refine eW H (fun c10 H=>?_) fun c10 H=>?_
 ·refine ah Z Z Z (bF c10) Z Z ?_
  refine ah Z Z Z (bF c10) Z Z ?_
  refine ah Z Z Z (bF c10) Z Z ?_
  refine ah Z Z Z (bF c10) Z Z ?_
  refine ah Z Z Z (bF c10) Z Z ?_
  refine vV (am Z Z Z (aN (bF c10))) Z (vA Z Z (af (ap ?_)))
  cases H
  refine vP [2,3] Z Z ?_
  exact av Z Z ⟨rfl,rfl⟩
 refine ac (ak (sz:=0) (o:=0) Z bS cD) Z Z Z c10 Z Z ?_
 refine ac (ay (v:=sv1) Z dZ (ar (i:=1) Z Z)) Z Z Z c10 Z Z ?_
 refine ac (ak (sz:=0) (o:=0) Z bS cD) Z Z Z c10 Z Z ?_
 refine ac (ay (v:=sv3) Z dZ (ar (i:=0) Z Z)) Z Z Z c10 Z Z ?_
 obtain ⟨x4,h4,H⟩:=oB H
 refine cc (br (Lr:=C0_) [2,3,0,1] [2,3,0,1] (first:=[]) (cap:=[]) (xs:=[.tmp 40,.tmp 42]) Z Z th Z (cQ.spec K sv1 A0 sv3 A2 l1 l3 hA1 hA3 _ h4) (by decide) Z (by decide) Z) Z Z Z c10 Z Z ?_
 rintro _ _ ⟨rfl,rfl⟩
 refine vV (am Z Z Z (aM c10)) Z (vA Z Z (af (ap ?_)))
 cases H
 refine vP [2,3] Z Z ?_
 exact av Z Z ⟨rfl,rfl⟩
theorem bE.spec (K:Nat) (sv0:Value) (A0:HP) (sv1:Value) (A1:HP) (l0:List aE) (l1:List aE) (hA0:cg A0 sv0 l0.length 27 (fl bo l0)) (hJ0:∀ x ∈ l0,cg A0 x.Facts.v x.Facts.xs.length 6 (fl aW x.Facts.xs) ∧ cg A0 x.Fails.v x.Fails.xs.length 1 (fl eB x.Fails.xs)) (hA1:cg A1 sv1 l1.length 27 (fl bo l1)) (hJ1:∀ x ∈ l1,cg A1 x.Facts.v x.Facts.xs.length 6 (fl aW x.Facts.xs) ∧ cg A1 x.Fails.v x.Fails.xs.length 1 (fl eB x.Fails.xs)) (r:Bool) (H:bE K l0 l1 = some r):bf Tryz.prog 61 [sv0,sv1,(Value.func (.func 62) #[] #[])] [A0,A1] (fun v M=>v = (bool r) ∧ M = [A0,A1]):=by
 unfold bE at H
 refine bj Tryz.func61 Z 32 Z (nL Z) fun F w0=>?_
 let C2_:List Value:=[I 0,I 0,L0,I 0,I 0,B0,B0,B0,B0,B0,B0,B0,B0,S0,S0,S0,S0,I 0,I 0,I 0,I 0,I 0,I 0,I 0,I 0,I 0,L0]
 show cE (St 32 w0 F [(0,sv0),(1,sv1),(2,(Value.func (.func 62) #[] #[]))] [A0,A1]) _
 refine ag (aa (vA Z Z (af (ag (ag (aa (vM Z Z (vV (bL 0 Z bO Z hA0) Z (vM Z Z (vV (bL 1 Z bO Z hA1) Z (vV (an Z Z (kZ _ _ _)) Z ?_)))))))))))
 refine af ?_
 refine cn H (fun c48 H=>?_) fun c48 H=>?_
 ·refine aj Z (kw c48) (ag (aa (vA Z Z (af (ap ?_)))))
  cases H
  refine vP [0,1] Z Z ?_
  exact av Z Z ⟨rfl,rfl⟩
 refine al Z (kv c48) (aA (ag (ag (aa (vM Z Z (vV (bL 0 Z bO Z hA0) Z (vM Z Z (af (aK ?_)))))))))
 refine co (fun k a w=>∃ i4,bC K l0 l1 k i4 = some r ∧ St 32 w0 F [(1,sv1),(2,(Value.func (.func 62) #[] #[])),(15,sv0),(16,I (l0.length:Int)),(17,I i4)] [A0,A1] a w) K ?_ ?_
 ·exact vF [0,1] Z Z (vS [1,2,15,16,17] Z) fun a w h=>⟨_,H,h⟩
 ·refine fun k=>aL fun i4=>bQ fun H4=>?_
  let C1_:List Value:=[I ((l1.getD i4.toNat ae).Kind),I ((l1.getD i4.toNat ae).N),((l1.getD i4.toNat ae).Facts).v,I (((l1.getD i4.toNat ae).Query).From),I (((l1.getD i4.toNat ae).Query).To),bool (((l1.getD i4.toNat ae).Query).Group_0),bool (((l1.getD i4.toNat ae).Query).Group_1),bool (((l1.getD i4.toNat ae).Query).Group_2),bool (((l1.getD i4.toNat ae).Query).Group_3),bool (((l1.getD i4.toNat ae).Query).Has_0),bool (((l1.getD i4.toNat ae).Query).Has_1),bool (((l1.getD i4.toNat ae).Query).Has_2),bool (((l1.getD i4.toNat ae).Query).Has_3),aF (((l1.getD i4.toNat ae).Query).Filter_0),aF (((l1.getD i4.toNat ae).Query).Filter_1),aF (((l1.getD i4.toNat ae).Query).Filter_2),aF (((l1.getD i4.toNat ae).Query).Filter_3),I (((l1.getD i4.toNat ae).Rules).Retain),I (((l1.getD i4.toNat ae).Rules).SealLag),I (((l1.getD i4.toNat ae).Rules).DayLag),I (((l1.getD i4.toNat ae).Rules).MonthLag),I (((l1.getD i4.toNat ae).Rules).ColdLag),I (((l1.getD i4.toNat ae).Rules).Base),I (((l1.getD i4.toNat ae).Rules).Cap),I (((l1.getD i4.toNat ae).Rules).Queue),I (((l1.getD i4.toNat ae).Rules).Wal),((l1.getD i4.toNat ae).Fails).v]
  let C0_:List Value:=[I ((l0.getD i4.toNat ae).Kind),I ((l0.getD i4.toNat ae).N),((l0.getD i4.toNat ae).Facts).v,I (((l0.getD i4.toNat ae).Query).From),I (((l0.getD i4.toNat ae).Query).To),bool (((l0.getD i4.toNat ae).Query).Group_0),bool (((l0.getD i4.toNat ae).Query).Group_1),bool (((l0.getD i4.toNat ae).Query).Group_2),bool (((l0.getD i4.toNat ae).Query).Group_3),bool (((l0.getD i4.toNat ae).Query).Has_0),bool (((l0.getD i4.toNat ae).Query).Has_1),bool (((l0.getD i4.toNat ae).Query).Has_2),bool (((l0.getD i4.toNat ae).Query).Has_3),aF (((l0.getD i4.toNat ae).Query).Filter_0),aF (((l0.getD i4.toNat ae).Query).Filter_1),aF (((l0.getD i4.toNat ae).Query).Filter_2),aF (((l0.getD i4.toNat ae).Query).Filter_3),I (((l0.getD i4.toNat ae).Rules).Retain),I (((l0.getD i4.toNat ae).Rules).SealLag),I (((l0.getD i4.toNat ae).Rules).DayLag),I (((l0.getD i4.toNat ae).Rules).MonthLag),I (((l0.getD i4.toNat ae).Rules).ColdLag),I (((l0.getD i4.toNat ae).Rules).Base),I (((l0.getD i4.toNat ae).Rules).Cap),I (((l0.getD i4.toNat ae).Rules).Queue),I (((l0.getD i4.toNat ae).Rules).Wal),((l0.getD i4.toNat ae).Fails).v]
  cases k with
  | zero=>exact absurd H4 (by simp [C2_,C1_,C0_,bC])
  | succ k =>
   rw [bC] at H4
   refine ag (aa (vV (an Z Z (ce _ _ _)) Z (af (ag ?_))))
   refine eW H4 (fun c86 H4=>?_) fun c86 H4=>?_
   ·refine al Z (dF c86) (bM (ag (aa (vA Z Z (af (ap ?_))))))
    cases H4
    refine vP [0,1] Z Z ?_
    exact av Z Z ⟨rfl,rfl⟩
   refine aj Z (dT c86) (aA (ag (aK (ag (aa (vM Z Z ?_))))))
   obtain ⟨c90,H4⟩:=dK H4
   refine vV (bA (sz:=26) 0 Z Z bO ax Z hA0 c90 c86) Z ?_
   refine vV (aD (vs:=C0_) Z aQ ax (cL (i:=0) Z hA0 (by simp [C2_,C1_,C0_]) (ek cr (bx c90 c86) Z))) Z ?_
   refine az (cy bP) Z Z Z ?_
   rintro _ _ ⟨b47,rfl,rfl⟩
   refine vA Z Z ?_
   refine aY (aP (cs:=C2_) (cs':=C0_) (us:=C0_) (L':=[box b47 37 C0_,A0,A1]) 0 Z Z Z (ai Z (ai Z (eK 1 Z (hJ0 _ (cV ae (bx c90 c86))).1 (ai Z (ai Z (ai Z (ai Z (ai Z (ai Z (ai Z (ai Z (ai Z (ai Z (ai Z (ai Z (ai Z (ai Z (ai Z (ai Z (ai Z (ai Z (ai Z (ai Z (ai Z (ai Z (ai Z (eK 1 Z (hJ0 _ (cV ae (bx c90 c86))).2 fL))))))))))))))))))))))))))) ax Z Z (by simp [C2_,C1_,C0_]) Z) Z Z ?_
   rintro _ _ rfl
   refine af (ag (aa (vM Z Z (vM Z Z ?_))))
   obtain ⟨c91,H4⟩:=dK H4
   refine vV (bA (sz:=26) 2 Z Z bO ax Z hA1 c90 c91) Z ?_
   refine vV (aD (vs:=C1_) Z aQ ax (cL (i:=2) Z hA1 (by simp [C2_,C1_,C0_]) (ek cr (bx c90 c91) Z))) Z ?_
   refine az (cy bP) Z Z Z ?_
   rintro _ _ ⟨b48,rfl,rfl⟩
   refine aY (aP (cs:=C2_) (cs':=C1_) (us:=C1_) (L':=[box b48 37 C1_,box b47 37 C0_,A0,A1]) 0 Z Z Z (ai Z (ai Z (eK 3 Z (hJ1 _ (cV ae (bx c90 c91))).1 (ai Z (ai Z (ai Z (ai Z (ai Z (ai Z (ai Z (ai Z (ai Z (ai Z (ai Z (ai Z (ai Z (ai Z (ai Z (ai Z (ai Z (ai Z (ai Z (ai Z (ai Z (ai Z (ai Z (eK 3 Z (hJ1 _ (cV ae (bx c90 c91))).2 fL))))))))))))))))))))))))))) ax Z Z (by simp [C2_,C1_,C0_]) Z) Z Z ?_
   rintro _ _ rfl
   refine af (ag (aa (vM Z Z (vV (aD (vs:=C0_) Z aQ ax (aG (i:=1) Z)) Z (vV (aD (vs:=C1_) Z aQ ax (aG (i:=0) Z)) Z ?_)))))
   obtain ⟨x24,h24,H4⟩:=oB H4
   refine az (br (Lr:=[box b48 37 C1_,box b47 37 C0_]) [2,3,0,1] [2,3,0,1] (first:=[]) (cap:=[]) (xs:=[.tmp 27,.tmp 28]) Z Z pz Z (dN.spec K (((l0.getD i4.toNat ae).Facts).v) A0 (((l0.getD i4.toNat ae).Fails).v) (((l1.getD i4.toNat ae).Facts).v) A1 (((l1.getD i4.toNat ae).Fails).v) ((l0.getD i4.toNat ae).Kind) ((l0.getD i4.toNat ae).N) (((l0.getD i4.toNat ae).Facts).xs) (((l0.getD i4.toNat ae).Query).From) (((l0.getD i4.toNat ae).Query).To) (((l0.getD i4.toNat ae).Query).Group_0) (((l0.getD i4.toNat ae).Query).Group_1) (((l0.getD i4.toNat ae).Query).Group_2) (((l0.getD i4.toNat ae).Query).Group_3) (((l0.getD i4.toNat ae).Query).Has_0) (((l0.getD i4.toNat ae).Query).Has_1) (((l0.getD i4.toNat ae).Query).Has_2) (((l0.getD i4.toNat ae).Query).Has_3) (((l0.getD i4.toNat ae).Query).Filter_0) (((l0.getD i4.toNat ae).Query).Filter_1) (((l0.getD i4.toNat ae).Query).Filter_2) (((l0.getD i4.toNat ae).Query).Filter_3) (((l0.getD i4.toNat ae).Rules).Retain) (((l0.getD i4.toNat ae).Rules).SealLag) (((l0.getD i4.toNat ae).Rules).DayLag) (((l0.getD i4.toNat ae).Rules).MonthLag) (((l0.getD i4.toNat ae).Rules).ColdLag) (((l0.getD i4.toNat ae).Rules).Base) (((l0.getD i4.toNat ae).Rules).Cap) (((l0.getD i4.toNat ae).Rules).Queue) (((l0.getD i4.toNat ae).Rules).Wal) (((l0.getD i4.toNat ae).Fails).xs) ((l1.getD i4.toNat ae).Kind) ((l1.getD i4.toNat ae).N) (((l1.getD i4.toNat ae).Facts).xs) (((l1.getD i4.toNat ae).Query).From) (((l1.getD i4.toNat ae).Query).To) (((l1.getD i4.toNat ae).Query).Group_0) (((l1.getD i4.toNat ae).Query).Group_1) (((l1.getD i4.toNat ae).Query).Group_2) (((l1.getD i4.toNat ae).Query).Group_3) (((l1.getD i4.toNat ae).Query).Has_0) (((l1.getD i4.toNat ae).Query).Has_1) (((l1.getD i4.toNat ae).Query).Has_2) (((l1.getD i4.toNat ae).Query).Has_3) (((l1.getD i4.toNat ae).Query).Filter_0) (((l1.getD i4.toNat ae).Query).Filter_1) (((l1.getD i4.toNat ae).Query).Filter_2) (((l1.getD i4.toNat ae).Query).Filter_3) (((l1.getD i4.toNat ae).Rules).Retain) (((l1.getD i4.toNat ae).Rules).SealLag) (((l1.getD i4.toNat ae).Rules).DayLag) (((l1.getD i4.toNat ae).Rules).MonthLag) (((l1.getD i4.toNat ae).Rules).ColdLag) (((l1.getD i4.toNat ae).Rules).Base) (((l1.getD i4.toNat ae).Rules).Cap) (((l1.getD i4.toNat ae).Rules).Queue) (((l1.getD i4.toNat ae).Rules).Wal) (((l1.getD i4.toNat ae).Fails).xs) ((hJ0 _ (cV ae (bx c90 c86))).1) ((hJ0 _ (cV ae (bx c90 c86))).2) ((hJ1 _ (cV ae (bx c90 c91))).1) ((hJ1 _ (cV ae (bx c90 c91))).2) _ h24) (by decide) Z (by decide) Z) Z Z Z ?_
   rintro _ _ ⟨rfl,rfl⟩
   refine vV (fP Z (gk _)) Z (af ?_)
   refine cn H4 (fun c92 H4=>?_) fun c92 H4=>?_
   ·refine aj Z c92 (ag (aa (vA Z Z (af (ap ?_)))))
    cases H4
    refine vP [2,3] Z Z ?_
    exact av Z Z ⟨rfl,rfl⟩
   refine al Z (bF c92) (aA (aa (vV (an Z Z (bR _ _ _) ) Z (vM Z Z (af ?_)))))
   exact vF [2,3] Z Z (vS [1,2,15,16,17] Z) fun a w h=>⟨k,Nat.lt_succ_self k,_,H4,h⟩
theorem dt.spec (K:Nat) (sv0:Value) (A0:HP) (sv1:Value) (A1:HP) (l0:List aE) (l1:List aE) (hA0:cg A0 sv0 l0.length 27 (fl bo l0)) (hJ0:∀ x ∈ l0,cg A0 x.Facts.v x.Facts.xs.length 6 (fl aW x.Facts.xs) ∧ cg A0 x.Fails.v x.Fails.xs.length 1 (fl eB x.Fails.xs)) (hA1:cg A1 sv1 l1.length 27 (fl bo l1)) (hJ1:∀ x ∈ l1,cg A1 x.Facts.v x.Facts.xs.length 6 (fl aW x.Facts.xs) ∧ cg A1 x.Fails.v x.Fails.xs.length 1 (fl eB x.Fails.xs)) (r:Bool) (H:dt K l0 l1 = some r):bf Tryz.prog 38 [sv0,sv1] [A0,A1] (fun v M=>v = (bool r) ∧ M = [A0,A1]):=by
 unfold dt at H
 refine bj Tryz.func38 Z 8 Z (nL Z) fun F w0=>?_
 show cE (St 8 w0 F [(0,sv0),(1,sv1)] [A0,A1]) _
 refine ag (aa (vA Z Z (af (ag (aa (vM Z Z (vM Z Z ?_)))))))
 obtain ⟨x2,h2,H⟩:=oB H
 refine az (br (Lr:=[]) [0,1] [0,1] (first:=[]) (cap:=[]) (xs:=[.tmp 5,.tmp 6,.func 62]) Z Z pM Z (bE.spec K sv0 A0 sv1 A1 l0 l1 hA0 hJ0 hA1 hJ1 _ h2) (by decide) Z (by decide) Z) Z Z Z ?_
 rintro _ _ ⟨rfl,rfl⟩
 refine vA Z Z (af (ap ?_))
 cases H
 refine vP [0,1] Z Z ?_
 exact av Z Z ⟨rfl,rfl⟩
theorem gB.spec (a0:Int) (r:Bool) (H:gB a0 = r):bf Tryz.prog 65 [I a0] [] (fun v M=>v = (bool r) ∧ M = []):=by
 unfold gB at H
 refine bj Tryz.func65 Z 9 Z (nL Z) fun F w0=>?_
 show cE (St 9 w0 F [(0,I a0)] []) _
 refine ag (aa (vA Z Z (af (ag (aa (vM Z Z (vV (an Z Z (iD _ _ _)) Z (vM Z Z ?_))))))))
 refine eW H (fun c2 H=>?_) fun c2 H=>?_
 ·refine ah Z Z Z (dF c2) Z Z ?_
  refine ah Z Z Z (dF c2) Z Z ?_
  refine vV (am Z Z Z (aN (dF c2))) Z (vA Z Z (af (ap ?_)))
  cases H
  refine vP [] Z Z ?_
  exact av Z Z ⟨rfl,rfl⟩
 refine ac (au Z) Z Z Z (dT c2) Z Z ?_
 refine ac (an Z Z (jl _ _ _)) Z Z Z (dT c2) Z Z ?_
 refine vV (am Z Z Z (aM (dT c2))) Z (vA Z Z (af (ap ?_)))
 cases H
 refine vP [] Z Z ?_
 exact av Z Z ⟨rfl,rfl⟩
theorem jv.spec (K:Nat) (a0_0:Int) (a0_1:List UInt8) (a0_2:List UInt8) (a0_3:List UInt8) (a0_4:List UInt8) (a0_5 a1 r:Int) (H:jv K a0_0 a0_1 a0_2 a0_3 a0_4 a0_5 a1 = some r):bf Tryz.prog 66 [agg #[I a0_0,aF a0_1,aF a0_2,aF a0_3,aF a0_4,I a0_5],I a1] [] (fun v M=>v = (I r) ∧ M = []):=by
 unfold jv at H
 refine bj Tryz.func66 Z 52 Z (nL Z) fun F w0=>?_
 show cE (St 52 w0 F [(0,agg #[I a0_0,aF a0_1,aF a0_2,aF a0_3,aF a0_4,I a0_5]),(1,I a1)] []) _
 refine ag (aa ?_)
 refine az (fx (cs:=[I a0_0,aF a0_1,aF a0_2,aF a0_3,aF a0_4,I a0_5]) Z Z) Z Z Z ?_
 rintro _ _ ⟨b2,rfl,rfl⟩
 refine vA Z Z (af (ag (aK (ag (aa (vM Z Z ?_))))))
 obtain ⟨x4,h4,H⟩:=bt H
 refine az (aR (first:=[]) (cap:=[]) (xs:=[.tmp 8]) Z Z nk Z (gB.spec a1 _ h4)) Z Z Z ?_
 rintro _ _ ⟨rfl,rfl⟩
 refine vV (fP Z (gk _)) Z (vA Z Z (af ?_))
 refine cn H (fun c80 H=>?_) fun c80 H=>?_
 ·refine aj Z c80 (ag (aa (vA Z Z (af (ap ?_)))))
  cases H
  refine vP [] Z Z ?_
  exact av Z Z ⟨rfl,rfl⟩
 refine al Z (bF c80) (ag (aa (vV (ak (sz:=4) (o:=0) Z eG fE) Z (vV (ak (sz:=0) (o:=0) Z iq aI) Z (vV (ay (v:=(I a0_0)) Z aU (ar (i:=0) Z Z)) Z (vV (an Z Z (ce _ _ _)) Z (vM Z Z ?_)))))))
 refine cn H (fun c81 H=>?_) fun c81 H=>?_
 ·refine ah Z Z Z (dT c81) Z Z ?_
  refine ah Z Z Z (dT c81) Z Z ?_
  refine ah Z Z Z (dT c81) Z Z ?_
  refine ah Z Z Z (dT c81) Z Z ?_
  refine vV (am Z Z Z (aM (dT c81))) Z (vM Z Z ?_)
  refine ah Z Z Z Z Z Z ?_
  refine ah Z Z Z Z Z Z ?_
  refine ah Z Z Z Z Z Z ?_
  refine vV (am Z Z Z Z) Z (vM Z Z ?_)
  refine ah Z Z Z Z Z Z ?_
  refine ah Z Z Z Z Z Z ?_
  refine ah Z Z Z Z Z Z ?_
  refine vV (am Z Z Z Z) Z (vA Z Z (af (aj Z Z (ag (aa (vA Z Z (af (ap ?_))))))))
  cases H
  refine vP [] Z Z ?_
  exact av Z Z ⟨rfl,rfl⟩
 refine ac (ak (sz:=4) (o:=0) Z eG fE) Z Z Z (dF c81) Z Z ?_
 refine ac (ak (sz:=0) (o:=0) Z iq aI) Z Z Z (dF c81) Z Z ?_
 refine ac (ay (v:=(I a0_0)) Z aU (ar (i:=0) Z Z)) Z Z Z (dF c81) Z Z ?_
 refine ac (an Z Z (dM _ _ _)) Z Z Z (dF c81) Z Z ?_
 refine vV (am Z Z Z (aN (dF c81))) Z (vM Z Z ?_)
 refine cn H (fun c82 H=>?_) fun c82 H=>?_
 ·refine ah Z Z Z (dT c82) Z Z ?_
  refine ah Z Z Z (dT c82) Z Z ?_
  refine ah Z Z Z (dT c82) Z Z ?_
  refine vV (am Z Z Z (aM (dT c82))) Z (vM Z Z ?_)
  refine ah Z Z Z Z Z Z ?_
  refine ah Z Z Z Z Z Z ?_
  refine ah Z Z Z Z Z Z ?_
  refine vV (am Z Z Z Z) Z (vA Z Z (af (aj Z Z (ag (aa (vA Z Z (af (ap ?_))))))))
  cases H
  refine vP [] Z Z ?_
  exact av Z Z ⟨rfl,rfl⟩
 refine ac (ak (sz:=0) (o:=0) Z gI aI) Z Z Z (dF c82) Z Z ?_
 refine ac (ay (v:=(I a0_5)) Z aU (ar (i:=0) Z Z)) Z Z Z (dF c82) Z Z ?_
 refine ac (an Z Z (dM _ _ _)) Z Z Z (dF c82) Z Z ?_
 refine vV (am Z Z Z (aN (dF c82))) Z (vM Z Z ?_)
 refine cn H (fun c83 H=>?_) fun c83 H=>?_
 ·refine ah Z Z Z (dT c83) Z Z ?_
  refine ah Z Z Z (dT c83) Z Z ?_
  refine ah Z Z Z (dT c83) Z Z ?_
  refine vV (am Z Z Z (aM (dT c83))) Z (vA Z Z (af (aj Z Z (ag (aa (vA Z Z (af (ap ?_))))))))
  cases H
  refine vP [] Z Z ?_
  exact av Z Z ⟨rfl,rfl⟩
 refine ac (ak (sz:=0) (o:=0) Z gI aI) Z Z Z (dF c83) Z Z ?_
 refine ac (ay (v:=(I a0_5)) Z aU (ar (i:=0) Z Z)) Z Z Z (dF c83) Z Z ?_
 refine ac (an Z Z (ce _ _ _)) Z Z Z (dF c83) Z Z ?_
 refine vV (am Z Z Z (aN (dF c83))) Z (vA Z Z (af ?_))
 refine cn H (fun c84 H=>?_) fun c84 H=>?_
 ·refine aj Z (dT c84) (ag (aa (vA Z Z (af (ap ?_)))))
  cases H
  refine vP [] Z Z ?_
  exact av Z Z ⟨rfl,rfl⟩
 refine al Z (dF c84) (aA (ag (ag (aa (vV (ak (sz:=4) (o:=0) Z eG fE) Z (vV (ak (sz:=3) (o:=0) Z gP dC) Z (vV (aD (vs:=[aF a0_1,aF a0_2,aF a0_3,aF a0_4]) Z ld dC (di (i:=0) Z Z)) Z (vM Z Z (af (aK ?_))))))))))
 refine co (fun k a w=>∃ i5,gy K a0_1 a0_2 a0_3 a0_4 a1 k i5 = some r ∧ St 52 w0 F [(1,I a1),(34,agg #[aF a0_1,aF a0_2,aF a0_3,aF a0_4]),(35,I i5)] [] a w) K ?_ ?_
 ·exact vF [] Z Z (vS [1,34,35] Z) fun a w h=>⟨_,H,h⟩
 ·refine fun k=>aL fun i5=>bQ fun H4=>?_
  cases k with
  | zero=>exact absurd H4 (by simp [gy])
  | succ k =>
   rw [gy] at H4
   refine ag (aa (vV (an Z Z (ce _ _ _)) Z (af (ag ?_))))
   refine eW H4 (fun c138 H4=>?_) fun c138 H4=>?_
   ·refine al Z (dF c138) (bM (ag (aa (vA Z Z (af (ap ?_))))))
    cases H4
    refine vP [] Z Z ?_
    exact av Z Z ⟨rfl,rfl⟩
   refine aj Z (dT c138) (aA (ag (aK (ag (aa (vM Z Z ?_))))))
   obtain ⟨c144,H4⟩:=dK H4
   obtain ⟨c145,H4⟩:=dK H4
   refine vV (jA Z Z dq cj dx c144 c145 (jm (fun i_=>#[aF a0_1,aF a0_2,aF a0_3,aF a0_4][i_]? = some (aF ([a0_1,a0_2,a0_3,a0_4].getD i_ []))) (bx c144 c145) Z Z Z Z)) Z ?_
   refine vA Z Z (vA Z Z (af (ag (aa (vM Z Z (vV (gQ Z Tryz.underlying9) Z (vV (an Z Z (dM _ _ _)) Z (vM Z Z ?_))))))))
   refine cn H4 (fun c146 H4=>?_) fun c146 H4=>?_
   ·refine ah Z Z Z (dT c146) Z Z ?_
    refine ah Z Z Z (dT c146) Z Z ?_
    refine ah Z Z Z (dT c146) Z Z ?_
    refine ah Z Z Z (dT c146) Z Z ?_
    refine aC Z Z Z Z Z ?_
    refine aC Z Z Z Z Z ?_
    refine ah Z Z Z (dT c146) Z Z ?_
    refine vV (am Z Z Z (aM (dT c146))) Z (af (aj Z Z (ag (aa (vA Z Z (af (ap ?_)))))))
    cases H4
    refine vP [] Z Z ?_
    exact av Z Z ⟨rfl,rfl⟩
   refine ac (au Z) Z Z Z (dF c146) Z Z ?_
   refine ac (au Z) Z Z Z (dF c146) Z Z ?_
   refine ac (an Z Z (iD _ _ _)) Z Z Z (dF c146) Z Z ?_
   refine ac (au Z) Z Z Z (dF c146) Z Z ?_
   refine eW H4 (fun c147 H4=>?_) fun c147 H4=>?_
   ·refine ah Z Z Z (dF c147) Z Z ?_
    refine ah Z Z Z (dF c147) Z Z ?_
    refine ac (am Z Z Z (aN (dF c147))) Z Z Z (dF c146) Z Z ?_
    refine vV (am Z Z Z (aN (dF c146))) Z (af (al Z Z (aA (aa (vV (an Z Z (bR _ _ _) ) Z (vM Z Z (af ?_)))))))
    exact vF [] Z Z (vS [1,34,35] Z) fun a w h=>⟨k,Nat.lt_succ_self k,_,H4,h⟩
   refine ac (au Z) Z Z Z (dT c147) Z Z ?_
   refine ac (an Z Z (kr _ _)) Z Z Z (dT c147) Z Z ?_
   refine ac (am Z Z Z (aM (dT c147))) Z Z Z (dF c146) Z Z ?_
   refine vV (am Z Z Z (aN (dF c146))) Z (af ?_)
   refine cn H4 (fun c148 H4=>?_) fun c148 H4=>?_
   ·refine aj Z (kp c148) (ag (aa (vA Z Z (af (ap ?_)))))
    cases H4
    refine vP [] Z Z ?_
    exact av Z Z ⟨rfl,rfl⟩
   refine al Z (kh c148) (aA (aa (vV (an Z Z (bR _ _ _) ) Z (vM Z Z (af ?_)))))
   exact vF [] Z Z (vS [1,34,35] Z) fun a w h=>⟨k,Nat.lt_succ_self k,_,H4,h⟩
theorem fM.spec (K:Nat) (sv0:Value) (A0:HP) (l0:List aB) (a1:Int) (hA0:cg A0 sv0 l0.length 6 (fl aW l0)) (r:(Int × Int)) (H:fM K l0 a1 = some r):bf Tryz.prog 39 [sv0,I a1] [A0] (fun v M=>v = (tU #[I r.1,I r.2]) ∧ M = [A0]):=by
 unfold fM at H
 refine bj Tryz.func39 Z 37 Z (nL Z) fun F w0=>?_
 show cE (St 37 w0 F [(0,sv0),(1,I a1)] [A0]) _
 refine ag (aa (vA Z Z (vA Z Z (af (ag (ag (aa (vM Z Z ?_))))))))
 obtain ⟨x16,h16,H⟩:=bt H
 refine az (aR (first:=[]) (cap:=[]) (xs:=[.tmp 9]) Z Z nk Z (gB.spec a1 _ h16)) Z Z Z ?_
 rintro _ _ ⟨rfl,rfl⟩
 refine vV (fP Z (gk _)) Z (vM Z Z ?_)
 refine cn H (fun c42 H=>?_) fun c42 H=>?_
 ·refine ah Z Z Z c42 Z Z ?_
  refine ah Z Z Z c42 Z Z ?_
  refine ah Z Z Z c42 Z Z ?_
  refine vV (am Z Z Z (aM c42)) Z (vM Z Z ?_)
  refine ah Z Z Z Z Z Z ?_
  refine ah Z Z Z Z Z Z ?_
  refine ah Z Z Z Z Z Z ?_
  refine vV (am Z Z Z Z) Z (af (aj Z Z (ag (aa (vA Z Z (vA Z Z (af (ap ?_))))))))
  cases H
  refine vP [0] Z Z ?_
  exact bK (vs:=[I 1,I 0]) Z ⟨rfl,⟨rfl,trivial⟩⟩ _ Z ⟨rfl,rfl⟩
 refine ac (au Z) Z Z Z (bF c42) Z Z ?_
 refine ac (bL 0 Z cv Z hA0) Z Z Z (bF c42) Z Z ?_
 refine ac (an Z Z (be _ _ _)) Z Z Z (bF c42) Z Z ?_
 refine vV (am Z Z Z (aN (bF c42))) Z (vM Z Z ?_)
 refine cn H (fun c43 H=>?_) fun c43 H=>?_
 ·refine ah Z Z Z (bb c43) Z Z ?_
  refine ah Z Z Z (bb c43) Z Z ?_
  refine ah Z Z Z (bb c43) Z Z ?_
  refine vV (am Z Z Z (aM (bb c43))) Z (af (aj Z Z (ag (aa (vA Z Z (vA Z Z (af (ap ?_))))))))
  cases H
  refine vP [0] Z Z ?_
  exact bK (vs:=[I 1,I 0]) Z ⟨rfl,⟨rfl,trivial⟩⟩ _ Z ⟨rfl,rfl⟩
 refine ac (au Z) Z Z Z (bg c43) Z Z ?_
 refine ac (bL 0 Z cv Z hA0) Z Z Z (bg c43) Z Z ?_
 refine ac (an Z Z (dM _ _ _)) Z Z Z (bg c43) Z Z ?_
 refine vV (am Z Z Z (aN (bg c43))) Z (af ?_)
 refine cn H (fun c44 H=>?_) fun c44 H=>?_
 ·refine aj Z (dT c44) (ag (aa (vA Z Z (vA Z Z (af (ap ?_))))))
  cases H
  refine vP [0] Z Z ?_
  exact bK (vs:=[I 1,I 0]) Z ⟨rfl,⟨rfl,trivial⟩⟩ _ Z ⟨rfl,rfl⟩
 refine al Z (dF c44) (aA (ag (ag (aa (vM Z Z (vV (bL 0 Z cv Z hA0) Z (vM Z Z (af (aK ?_)))))))))
 refine co (fun k a w=>∃ i6,gx K l0 a1 k i6 = some r ∧ St 37 w0 F [(1,I a1),(22,sv0),(23,I (l0.length:Int)),(24,I i6)] [A0] a w) K ?_ ?_
 ·exact vF [0] Z Z (vS [1,22,23,24] Z) fun a w h=>⟨_,H,h⟩
 ·refine fun k=>aL fun i6=>bQ fun H4=>?_
  let C0_:List Value:=[I (((l0.getD i6.toNat aq).Key).Hour),aF (((l0.getD i6.toNat aq).Key).Dims_0),aF (((l0.getD i6.toNat aq).Key).Dims_1),aF (((l0.getD i6.toNat aq).Key).Dims_2),aF (((l0.getD i6.toNat aq).Key).Dims_3),I ((l0.getD i6.toNat aq).Value)]
  cases k with
  | zero=>exact absurd H4 (by simp [C0_,gx])
  | succ k =>
   rw [gx] at H4
   refine ag (aa (vV (an Z Z (ce _ _ _)) Z (af (ag ?_))))
   refine eW H4 (fun c72 H4=>?_) fun c72 H4=>?_
   ·refine al Z (dF c72) (bM (ag (aa (vA Z Z (vA Z Z (af (ap ?_)))))))
    cases H4
    refine vP [0] Z Z ?_
    exact bK (vs:=[I 0,I 0]) Z ⟨rfl,⟨rfl,trivial⟩⟩ _ Z ⟨rfl,rfl⟩
   refine aj Z (dT c72) (aA (ag (aK (ag (aa (vM Z Z ?_))))))
   obtain ⟨c75,H4⟩:=dK H4
   refine vV (bA (sz:=5) 0 Z Z cv dR Z hA0 c75 c72) Z ?_
   refine vV (aD (vs:=C0_) Z kY dR (cL (i:=0) Z hA0 (by simp [C0_]) (ek bB (bx c75 c72) Z))) Z ?_
   refine az (cy kP) Z Z Z ?_
   rintro _ _ ⟨b24,rfl,rfl⟩
   refine vA Z Z ?_
   refine aY (aP (cs:=[I 0,S0,S0,S0,S0,I 0]) (cs':=C0_) (us:=C0_) (L':=[box b24 45 C0_,A0]) 0 Z Z Z (bv Z) dR Z Z (by simp [C0_]) Z) Z Z ?_
   rintro _ _ rfl
   refine af (ag (aa (vV (aD (vs:=C0_) Z kY dR (aG (i:=0) Z)) Z (vM Z Z ?_))))
   obtain ⟨x28,h28,H4⟩:=oB H4
   refine az (aR (first:=[]) (cap:=[]) (xs:=[.tmp 29,.tmp 30]) Z Z uv Z (jv.spec K (((l0.getD i6.toNat aq).Key).Hour) (((l0.getD i6.toNat aq).Key).Dims_0) (((l0.getD i6.toNat aq).Key).Dims_1) (((l0.getD i6.toNat aq).Key).Dims_2) (((l0.getD i6.toNat aq).Key).Dims_3) ((l0.getD i6.toNat aq).Value) a1 _ h28)) Z Z Z ?_
   rintro _ _ ⟨rfl,rfl⟩
   refine vA Z Z (af (ag (aa (vM Z Z (vV (an Z Z (kZ _ _ _)) Z (af ?_))))))
   refine eW H4 (fun c76 H4=>?_) fun c76 H4=>?_
   ·refine al Z (kv c76) (aA (aa (vV (an Z Z (bR _ _ _) ) Z (vM Z Z (af ?_)))))
    exact vF [1] Z Z (vS [1,22,23,24] Z) fun a w h=>⟨k,Nat.lt_succ_self k,_,H4,h⟩
   refine aj Z (kw c76) (ag (aa (vM Z Z (vM Z Z (vA Z Z (vA Z Z (af (ap ?_))))))))
   cases H4
   refine vP [1] Z Z ?_
   exact bK (vs:=[I x28,I i6]) Z ⟨rfl,⟨rfl,trivial⟩⟩ _ Z ⟨rfl,rfl⟩
end Go.Proofs.YtcoebjmklmlkcaaGreatDoor.WordsLines
end
