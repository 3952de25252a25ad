/- dueTargets_holds: a part of what its proof rests on. -/
import Derived.Test.YtnjfjmbanmaciaaGreatP0
set_option linter.unusedVariables false
set_option linter.unusedSimpArgs false
section
set_option linter.unusedVariables false
namespace Go.Proofs.YtnjfjmbanmaciaaGreat.DueTargets
open Go E
structure aD where
  Tier:Int
  Index:Int
  deriving DecidableEq
def lO:aD:=⟨0,0⟩
def qz (x:aD):Prop:=wj .i64 x.Tier ∧ wj .i64 x.Index
structure av where
  Part:aD
  Seg:Int
  Mark:Int
  Rows:Int
  Cold:Bool
  deriving DecidableEq
def aT:av:=⟨lO,0,0,0,false⟩
def qf (x:av):Prop:=qz x.Part ∧ wj .i64 x.Seg ∧ wj .i64 x.Mark ∧ wj .i64 x.Rows
structure ag where
  k:Int
  v:av
  deriving DecidableEq
def ap:ag:=⟨0,aT⟩
structure bl where
  kind:Int
  p:aD
  deriving DecidableEq
def bX:bl:=⟨0,lO⟩
structure gp where
  Kind:Int
  Part:aD
  Try:Int
  At:Int
  deriving DecidableEq
def ig:gp:=⟨0,lO,0,0⟩
def bG (a0:Int) (a1:Int) (a2:Int):Bool:=(if a1 ≤ a0 then (decide (a0 ≤ a2)) else (false))
def bA (a0_0:Int) (a0_1:Int) (a0_2:Int) (a0_3:Int) (a0_4:Int) (a0_5:Int) (a0_6:Int) (a0_7:Int) (a0_8:Int):Int:=(fX (bG a0_0 1 1048576) fun x24=>(if (!x24) = true then (2) else (fX (bG a0_1 0 1048576) fun x25=>(if (!x25) = true then (2) else (fX (bG a0_2 0 1048576) fun x26=>(if (!x26) = true then (2) else (fX (bG a0_3 0 1048576) fun x27=>(if (!x27) = true then (2) else (fX (bG a0_4 0 1048576) fun x28=>(if (!x28) = true then (2) else (fX (bG a0_5 1 1048576) fun x33=>(if (!x33) = true then (2) else (fX (bG a0_6 1 1048576) fun x34=>(if (!x34) = true then (2) else (fX (bG a0_7 1 64) fun x35=>(if (!x35) = true then (2) else (fX (bG a0_8 100 1048576) fun x36=>(if (!x36) = true then (2) else (0)))))))))))))))))))
def da:Unit:=(())
def ip:Unit:=(fX (da) fun u2=>(()))
def cF:Unit:=(())
def dG (K:Nat):Nat → Option Unit
  | 0=>none
  | k + 1=>(some (()))
def dz (K:Nat) (Gm0:Type) (y0:Int → av → Gm0 → Option (Gm0 × Bool)) (x0y:Gm0):Option Unit:=(dG K K)
def gn (a0:Int):Int:=(aO (Int.tdiv a0 24))
def ja (a0:Int):(Int × Int × Int):=(if (aO (Int.tdiv (aO ((aO (5 * (aO ((Int.tmod (aO (a0 + 719468)) 146097) - (aO ((aO ((aO (365 * (aO (Int.tdiv (aO ((aO ((aO ((Int.tmod (aO (a0 + 719468)) 146097) - (aO (Int.tdiv (Int.tmod (aO (a0 + 719468)) 146097) 1460)))) + (aO (Int.tdiv (Int.tmod (aO (a0 + 719468)) 146097) 36524)))) - (aO (Int.tdiv (Int.tmod (aO (a0 + 719468)) 146097) 146096)))) 365)))) + (aO (Int.tdiv (aO (Int.tdiv (aO ((aO ((aO ((Int.tmod (aO (a0 + 719468)) 146097) - (aO (Int.tdiv (Int.tmod (aO (a0 + 719468)) 146097) 1460)))) + (aO (Int.tdiv (Int.tmod (aO (a0 + 719468)) 146097) 36524)))) - (aO (Int.tdiv (Int.tmod (aO (a0 + 719468)) 146097) 146096)))) 365)) 4)))) - (aO (Int.tdiv (aO (Int.tdiv (aO ((aO ((aO ((Int.tmod (aO (a0 + 719468)) 146097) - (aO (Int.tdiv (Int.tmod (aO (a0 + 719468)) 146097) 1460)))) + (aO (Int.tdiv (Int.tmod (aO (a0 + 719468)) 146097) 36524)))) - (aO (Int.tdiv (Int.tmod (aO (a0 + 719468)) 146097) 146096)))) 365)) 100)))))))) + 2)) 153)) < 10 then ((aO ((aO ((aO (Int.tdiv (aO (a0 + 719468)) 146097)) * 400)) + (aO (Int.tdiv (aO ((aO ((aO ((Int.tmod (aO (a0 + 719468)) 146097) - (aO (Int.tdiv (Int.tmod (aO (a0 + 719468)) 146097) 1460)))) + (aO (Int.tdiv (Int.tmod (aO (a0 + 719468)) 146097) 36524)))) - (aO (Int.tdiv (Int.tmod (aO (a0 + 719468)) 146097) 146096)))) 365))),aO ((aO (Int.tdiv (aO ((aO (5 * (aO ((Int.tmod (aO (a0 + 719468)) 146097) - (aO ((aO ((aO (365 * (aO (Int.tdiv (aO ((aO ((aO ((Int.tmod (aO (a0 + 719468)) 146097) - (aO (Int.tdiv (Int.tmod (aO (a0 + 719468)) 146097) 1460)))) + (aO (Int.tdiv (Int.tmod (aO (a0 + 719468)) 146097) 36524)))) - (aO (Int.tdiv (Int.tmod (aO (a0 + 719468)) 146097) 146096)))) 365)))) + (aO (Int.tdiv (aO (Int.tdiv (aO ((aO ((aO ((Int.tmod (aO (a0 + 719468)) 146097) - (aO (Int.tdiv (Int.tmod (aO (a0 + 719468)) 146097) 1460)))) + (aO (Int.tdiv (Int.tmod (aO (a0 + 719468)) 146097) 36524)))) - (aO (Int.tdiv (Int.tmod (aO (a0 + 719468)) 146097) 146096)))) 365)) 4)))) - (aO (Int.tdiv (aO (Int.tdiv (aO ((aO ((aO ((Int.tmod (aO (a0 + 719468)) 146097) - (aO (Int.tdiv (Int.tmod (aO (a0 + 719468)) 146097) 1460)))) + (aO (Int.tdiv (Int.tmod (aO (a0 + 719468)) 146097) 36524)))) - (aO (Int.tdiv (Int.tmod (aO (a0 + 719468)) 146097) 146096)))) 365)) 100)))))))) + 2)) 153)) + 3),aO ((aO ((aO ((Int.tmod (aO (a0 + 719468)) 146097) - (aO ((aO ((aO (365 * (aO (Int.tdiv (aO ((aO ((aO ((Int.tmod (aO (a0 + 719468)) 146097) - (aO (Int.tdiv (Int.tmod (aO (a0 + 719468)) 146097) 1460)))) + (aO (Int.tdiv (Int.tmod (aO (a0 + 719468)) 146097) 36524)))) - (aO (Int.tdiv (Int.tmod (aO (a0 + 719468)) 146097) 146096)))) 365)))) + (aO (Int.tdiv (aO (Int.tdiv (aO ((aO ((aO ((Int.tmod (aO (a0 + 719468)) 146097) - (aO (Int.tdiv (Int.tmod (aO (a0 + 719468)) 146097) 1460)))) + (aO (Int.tdiv (Int.tmod (aO (a0 + 719468)) 146097) 36524)))) - (aO (Int.tdiv (Int.tmod (aO (a0 + 719468)) 146097) 146096)))) 365)) 4)))) - (aO (Int.tdiv (aO (Int.tdiv (aO ((aO ((aO ((Int.tmod (aO (a0 + 719468)) 146097) - (aO (Int.tdiv (Int.tmod (aO (a0 + 719468)) 146097) 1460)))) + (aO (Int.tdiv (Int.tmod (aO (a0 + 719468)) 146097) 36524)))) - (aO (Int.tdiv (Int.tmod (aO (a0 + 719468)) 146097) 146096)))) 365)) 100)))))) - (aO (Int.tdiv (aO ((aO (153 * (aO (Int.tdiv (aO ((aO (5 * (aO ((Int.tmod (aO (a0 + 719468)) 146097) - (aO ((aO ((aO (365 * (aO (Int.tdiv (aO ((aO ((aO ((Int.tmod (aO (a0 + 719468)) 146097) - (aO (Int.tdiv (Int.tmod (aO (a0 + 719468)) 146097) 1460)))) + (aO (Int.tdiv (Int.tmod (aO (a0 + 719468)) 146097) 36524)))) - (aO (Int.tdiv (Int.tmod (aO (a0 + 719468)) 146097) 146096)))) 365)))) + (aO (Int.tdiv (aO (Int.tdiv (aO ((aO ((aO ((Int.tmod (aO (a0 + 719468)) 146097) - (aO (Int.tdiv (Int.tmod (aO (a0 + 719468)) 146097) 1460)))) + (aO (Int.tdiv (Int.tmod (aO (a0 + 719468)) 146097) 36524)))) - (aO (Int.tdiv (Int.tmod (aO (a0 + 719468)) 146097) 146096)))) 365)) 4)))) - (aO (Int.tdiv (aO (Int.tdiv (aO ((aO ((aO ((Int.tmod (aO (a0 + 719468)) 146097) - (aO (Int.tdiv (Int.tmod (aO (a0 + 719468)) 146097) 1460)))) + (aO (Int.tdiv (Int.tmod (aO (a0 + 719468)) 146097) 36524)))) - (aO (Int.tdiv (Int.tmod (aO (a0 + 719468)) 146097) 146096)))) 365)) 100)))))))) + 2)) 153)))) + 2)) 5)))) + 1))) else ((aO ((aO ((aO ((aO (Int.tdiv (aO (a0 + 719468)) 146097)) * 400)) + (aO (Int.tdiv (aO ((aO ((aO ((Int.tmod (aO (a0 + 719468)) 146097) - (aO (Int.tdiv (Int.tmod (aO (a0 + 719468)) 146097) 1460)))) + (aO (Int.tdiv (Int.tmod (aO (a0 + 719468)) 146097) 36524)))) - (aO (Int.tdiv (Int.tmod (aO (a0 + 719468)) 146097) 146096)))) 365)))) + 1),aO ((aO (Int.tdiv (aO ((aO (5 * (aO ((Int.tmod (aO (a0 + 719468)) 146097) - (aO ((aO ((aO (365 * (aO (Int.tdiv (aO ((aO ((aO ((Int.tmod (aO (a0 + 719468)) 146097) - (aO (Int.tdiv (Int.tmod (aO (a0 + 719468)) 146097) 1460)))) + (aO (Int.tdiv (Int.tmod (aO (a0 + 719468)) 146097) 36524)))) - (aO (Int.tdiv (Int.tmod (aO (a0 + 719468)) 146097) 146096)))) 365)))) + (aO (Int.tdiv (aO (Int.tdiv (aO ((aO ((aO ((Int.tmod (aO (a0 + 719468)) 146097) - (aO (Int.tdiv (Int.tmod (aO (a0 + 719468)) 146097) 1460)))) + (aO (Int.tdiv (Int.tmod (aO (a0 + 719468)) 146097) 36524)))) - (aO (Int.tdiv (Int.tmod (aO (a0 + 719468)) 146097) 146096)))) 365)) 4)))) - (aO (Int.tdiv (aO (Int.tdiv (aO ((aO ((aO ((Int.tmod (aO (a0 + 719468)) 146097) - (aO (Int.tdiv (Int.tmod (aO (a0 + 719468)) 146097) 1460)))) + (aO (Int.tdiv (Int.tmod (aO (a0 + 719468)) 146097) 36524)))) - (aO (Int.tdiv (Int.tmod (aO (a0 + 719468)) 146097) 146096)))) 365)) 100)))))))) + 2)) 153)) - 9),aO ((aO ((aO ((Int.tmod (aO (a0 + 719468)) 146097) - (aO ((aO ((aO (365 * (aO (Int.tdiv (aO ((aO ((aO ((Int.tmod (aO (a0 + 719468)) 146097) - (aO (Int.tdiv (Int.tmod (aO (a0 + 719468)) 146097) 1460)))) + (aO (Int.tdiv (Int.tmod (aO (a0 + 719468)) 146097) 36524)))) - (aO (Int.tdiv (Int.tmod (aO (a0 + 719468)) 146097) 146096)))) 365)))) + (aO (Int.tdiv (aO (Int.tdiv (aO ((aO ((aO ((Int.tmod (aO (a0 + 719468)) 146097) - (aO (Int.tdiv (Int.tmod (aO (a0 + 719468)) 146097) 1460)))) + (aO (Int.tdiv (Int.tmod (aO (a0 + 719468)) 146097) 36524)))) - (aO (Int.tdiv (Int.tmod (aO (a0 + 719468)) 146097) 146096)))) 365)) 4)))) - (aO (Int.tdiv (aO (Int.tdiv (aO ((aO ((aO ((Int.tmod (aO (a0 + 719468)) 146097) - (aO (Int.tdiv (Int.tmod (aO (a0 + 719468)) 146097) 1460)))) + (aO (Int.tdiv (Int.tmod (aO (a0 + 719468)) 146097) 36524)))) - (aO (Int.tdiv (Int.tmod (aO (a0 + 719468)) 146097) 146096)))) 365)) 100)))))) - (aO (Int.tdiv (aO ((aO (153 * (aO (Int.tdiv (aO ((aO (5 * (aO ((Int.tmod (aO (a0 + 719468)) 146097) - (aO ((aO ((aO (365 * (aO (Int.tdiv (aO ((aO ((aO ((Int.tmod (aO (a0 + 719468)) 146097) - (aO (Int.tdiv (Int.tmod (aO (a0 + 719468)) 146097) 1460)))) + (aO (Int.tdiv (Int.tmod (aO (a0 + 719468)) 146097) 36524)))) - (aO (Int.tdiv (Int.tmod (aO (a0 + 719468)) 146097) 146096)))) 365)))) + (aO (Int.tdiv (aO (Int.tdiv (aO ((aO ((aO ((Int.tmod (aO (a0 + 719468)) 146097) - (aO (Int.tdiv (Int.tmod (aO (a0 + 719468)) 146097) 1460)))) + (aO (Int.tdiv (Int.tmod (aO (a0 + 719468)) 146097) 36524)))) - (aO (Int.tdiv (Int.tmod (aO (a0 + 719468)) 146097) 146096)))) 365)) 4)))) - (aO (Int.tdiv (aO (Int.tdiv (aO ((aO ((aO ((Int.tmod (aO (a0 + 719468)) 146097) - (aO (Int.tdiv (Int.tmod (aO (a0 + 719468)) 146097) 1460)))) + (aO (Int.tdiv (Int.tmod (aO (a0 + 719468)) 146097) 36524)))) - (aO (Int.tdiv (Int.tmod (aO (a0 + 719468)) 146097) 146096)))) 365)) 100)))))))) + 2)) 153)))) + 2)) 5)))) + 1))))
def cP (a0:Int):Int:=(fX (ja a0) fun x2=>(aO ((aO ((aO (x2.1 - 1970)) * 12)) + (aO (x2.2.1 - 1)))))
def ff (a0:Int) (a1:Int):(Int × Int × Bool):=(if a1 < 0 then ((0,0,false)) else (if 16777216 < a1 then ((0,0,false)) else (if a0 = 1 then ((a0,a1,true)) else (if a0 = 2 then (fX (gn a1) fun x10=>((a0,x10,true))) else (if a0 = 3 then (fX (gn a1) fun x11=>(fX (cP x11) fun x12=>((a0,x12,true)))) else ((0,0,false)))))))
def fN (a0_0:Int) (a0_1:Int):Bool:=(fX (ff a0_0 16777216) fun x2=>(if x2.2.2 = true then (if 0 ≤ a0_1 then (decide (a0_1 ≤ x2.2.1)) else (false)) else (false)))
def dX (a0:Int) (a1:Int):Bool:=(if a1 ≤ a0 then (decide (a0 ≤ 4611686018427387904)) else (false))
def gr (a0_0:Int) (a0_1:Int) (a0_2:Int) (a0_3:Int) (a0_4:Int) (a0_5:Bool):Bool:=(fX (fN a0_0 a0_1) fun x5=>(if x5 = true then (fX (dX a0_2 1) fun x6=>(if x6 = true then (fX (dX a0_4 1) fun x7=>(if x7 = true then (fX (dX a0_3 0) fun x8=>(if x8 = true then (if a0_0 = 3 then (true) else ((!a0_5))) else (false))) else (false))) else (false))) else (false)))
def gO (a0:Int) (a1:Int) (a2:Int):Int:=(fX (if (aO (a1 - 3)) < 0 then ((aO (a0 - 1),aO ((aO (a1 - 3)) + 12))) else ((a0,aO (a1 - 3)))) fun x2=>(aO ((aO ((aO ((aO (Int.tdiv x2.1 400)) * 146097)) + (aO ((aO ((aO ((aO ((aO ((aO (365 * (Int.tmod x2.1 400))) + (aO (Int.tdiv (Int.tmod x2.1 400) 4)))) - (aO (Int.tdiv (Int.tmod x2.1 400) 100)))) + (aO (Int.tdiv (aO ((aO (153 * x2.2)) + 2)) 5)))) + a2)) - 1)))) - 719468)))
def fR (a0:Int):Int:=(fX (gO (aO (1970 + (aO (Int.tdiv a0 12)))) (aO ((Int.tmod a0 12) + 1)) 1) fun x2=>(x2))
def iJ (a0:Int):(Int × Int):=(fX (fR a0) fun x3=>(fX (fR (aO (a0 + 1))) fun x4=>((x3,x4))))
def fm (a0_0:Int) (a0_1:Int):(Int × Int):=(fX (fN a0_0 a0_1) fun x10=>(if (!x10) = true then ((0,0)) else (fX (if a0_0 = 3 then (fX (iJ a0_1) fun x16=>(Sum.inl (x16.1,x16.2))) else (if a0_0 = 2 then (Sum.inl (a0_1,aO (a0_1 + 1))) else (Sum.inr ((a0_1,aO (a0_1 + 1)))))) fun z=>(rn z (fun v4=>((aO (v4.1 * 24),aO (v4.2 * 24)))) (fun t_=>(t_))))))
def cp (a0:Int) (l0:List ag) (p2_0:Int):Option Bool:=(if 0 ≤ a0 then (if a0 < (l0.length:Int) then (some (decide (p2_0 ≤ ((l0.getD a0.toNat ap).k)))) else none) else none)
def fa (K:Nat) (l0:List ag) (p2_0:Int):Nat → Int → Int → Option Int
  | 0,_,_=>none
  | k + 1,i7,i9=>(if i7 < i9 then ((cp (aO (na .u64 (nF (aO (i7 + i9))) 1)) l0 p2_0).bind fun x12=>(if (!x12) = true then (fa K l0 p2_0 k (aO ((aO (na .u64 (nF (aO (i7 + i9))) 1)) + 1)) i9) else (fa K l0 p2_0 k i7 (aO (na .u64 (nF (aO (i7 + i9))) 1))))) else (some (i7)))
def hG (K:Nat) (a0:Int) (l0:List ag) (p2_0:Int):Option Int:=(fa K l0 p2_0 K 0 a0)
def bo (K:Nat) (l0:List ag) (a1:Int):Option (Bool × Int):=((hG K (l0.length:Int) l0 a1).bind fun x2=>(if x2 < (l0.length:Int) then (if 0 ≤ x2 then (some (((((l0.getD x2.toNat ap).k) == a1),x2))) else none) else (some ((false,x2)))))
def cy (K:Nat) (l0:List ag) (a1:Int):Option (Int × Int × Int × Int × Int × Int × Bool × Bool):=((bo K l0 a1).bind fun x3=>(fX (if (!x3.1) = true then (aO (x3.2 - 1)) else (x3.2)) fun x4=>(if x4 < 0 then (some ((0,0,0,0,0,0,false,false))) else (if 0 ≤ x4 then (if x4 < (l0.length:Int) then (some (((l0.getD x4.toNat ap).k,(((l0.getD x4.toNat ap).v).Part).Tier,(((l0.getD x4.toNat ap).v).Part).Index,((l0.getD x4.toNat ap).v).Seg,((l0.getD x4.toNat ap).v).Mark,((l0.getD x4.toNat ap).v).Rows,((l0.getD x4.toNat ap).v).Cold,true))) else none) else none))))
def gG (a0_0:Int) (a0_1:Int) (a1:Int):Bool:=(fX (ff a0_0 a1) fun x4=>(if (!x4.2.2) = true then (fX (fm a0_0 a0_1) fun x6=>(if x6.1 ≤ a1 then (decide (a1 < x6.2)) else (false))) else (((x4.1 == a0_0) && ((x4.2.1 == a0_1) && true)))))
def ew (K:Nat) (l0:List ag) (a1:Int):Option (Int × Int × Int × Int × Int × Bool × Bool):=((cy K l0 a1).bind fun x4=>(if (!x4.2.2.2.2.2.2.2) = true then (some ((0,0,0,0,0,false,false))) else (fX (gG x4.2.1 x4.2.2.1 a1) fun x6=>(if (!x6) = true then (some ((0,0,0,0,0,false,false))) else (some ((x4.2.1,x4.2.2.1,x4.2.2.2.1,x4.2.2.2.2.1,x4.2.2.2.2.2.1,x4.2.2.2.2.2.2.1,true)))))))
def cH (l0:List ag):Unit:=(())
def cb (K:Nat) (l0:List ag) (a1:Int) (a2:Int):Option (List ag):=((bo K l0 a1).bind fun x3=>((bo K l0 a2).bind fun x4=>(if x4.2 ≤ x3.2 then (fX (cF) fun u5=>(some (([]:List ag)))) else (if 0 ≤ x3.2 then (if x3.2 ≤ x4.2 then (if x4.2 ≤ (l0.length:Int) then (fX (cH ((l0.drop x3.2.toNat).take (x4.2.toNat - x3.2.toNat))) fun u6=>(some (((l0.drop x3.2.toNat).take (x4.2.toNat - x3.2.toNat))))) else none) else none) else none))))
def bY (K:Nat) (Gm0:Type) (y0:Int → av → Gm0 → Option (Gm0 × Bool)) (l0:List ag):Nat → Int → Gm0 → Option Gm0
  | 0,_,_=>none
  | k + 1,i2,l3=>(if i2 < (l0.length:Int) then (if 0 ≤ i2 then ((y0 ((l0.getD i2.toNat ap).k) (⟨(⟨(((l0.getD i2.toNat ap).v).Part).Tier,(((l0.getD i2.toNat ap).v).Part).Index⟩:aD),((l0.getD i2.toNat ap).v).Seg,((l0.getD i2.toNat ap).v).Mark,((l0.getD i2.toNat ap).v).Rows,((l0.getD i2.toNat ap).v).Cold⟩:av) l3).bind fun x12=>(if (!x12.2) = true then (some (x12.1)) else (bY K Gm0 y0 l0 k (aO (i2 + 1)) x12.1))) else none) else (some (l3)))
def bK (K:Nat) (Gm0:Type) (y0:Int → av → Gm0 → Option (Gm0 × Bool)) (x0y:Gm0) (l0:List ag):Option Gm0:=(bY K Gm0 y0 l0 K 0 x0y)
def dI (K:Nat) (a1:Int) (t0_:Int) (t1_:av) (z4:List av):Option ((List av) × Bool):=(if t0_ = a1 then (some ((z4,true))) else (if (z4.length + [(⟨(⟨t1_.Part.Tier,t1_.Part.Index⟩:aD),t1_.Seg,t1_.Mark,t1_.Rows,t1_.Cold⟩:av)].length) * 48 ≤ 140737488355328 then (some (((z4 ++ [(⟨(⟨t1_.Part.Tier,t1_.Part.Index⟩:aD),t1_.Seg,t1_.Mark,t1_.Rows,t1_.Cold⟩:av)]),true))) else none))
def dW (K:Nat) (l0:List ag) (a1:Int) (a2:Int):Option (List av):=(if a2 ≤ a1 then (some (([]:List av))) else (Option.bind ((ew K l0 a1).bind fun x11=>(if x11.2.2.2.2.2.2 = true then (if (([]:List av).length + [(⟨(⟨x11.1,x11.2.1⟩:aD),x11.2.2.1,x11.2.2.2.1,x11.2.2.2.2.1,x11.2.2.2.2.2.1⟩:av)].length) * 48 ≤ 140737488355328 then (some ((([]:List av) ++ [(⟨(⟨x11.1,x11.2.1⟩:aD),x11.2.2.1,x11.2.2.2.1,x11.2.2.2.2.1,x11.2.2.2.2.2.1⟩:av)]))) else none) else (some (([]:List av))))) fun x10=>((cb K l0 a1 a2).bind fun x14=>((bK K (List av) (dI K a1) x10 x14).bind fun x15=>(some (x15))))))
def be (l0:List ag) (a1:Int) (l1:List ag):Option (List ag):=wu 56 l0 a1 l1
def cK (K:Nat) (l0:List ag) (a1:Int) (a2_0:Int) (a2_1:Int) (a2_2:Int) (a2_3:Int) (a2_4:Int) (a2_5:Bool):Option (Bool × (List ag)):=((bo K l0 a1).bind fun x3=>(if x3.1 = true then (if 0 ≤ x3.2 then (if x3.2 < (l0.length:Int) then (some ((false,(l0.set x3.2.toNat (⟨(l0.getD x3.2.toNat ap).k,(⟨(⟨a2_0,a2_1⟩:aD),a2_2,a2_3,a2_4,a2_5⟩:av)⟩:ag))))) else none) else none) else ((be l0 x3.2 [(⟨a1,(⟨(⟨a2_0,a2_1⟩:aD),a2_2,a2_3,a2_4,a2_5⟩:av)⟩:ag)]).bind fun x4=>(some ((true,x4))))))
def ei (K:Nat) (l0:List ag) (a1_0:Int) (a1_1:Int) (a1_2:Int) (a1_3:Int) (a1_4:Int) (a1_5:Bool):Option (Int × (List ag)):=(fX (gr a1_0 a1_1 a1_2 a1_3 a1_4 a1_5) fun x9=>(if (!x9) = true then (some ((4,l0))) else (fX (fm a1_0 a1_1) fun x10=>((dW K l0 x10.1 x10.2).bind fun x12=>(if 0 < (x12.length:Int) then (some ((12,l0))) else ((cK K l0 x10.1 a1_0 a1_1 a1_2 a1_3 a1_4 a1_5).bind fun x13=>(some ((0,x13.2)))))))))
def en (a0:Int):Bool:=(if (Int.tmod a0 4) = 0 then (if ¬ ((Int.tmod a0 100) = 0) then (true) else (((Int.tmod a0 400) == 0))) else (false))
def dv (a0:Int):Int:=(fX (en a0) fun x4=>(if x4 = true then (366) else (365)))
def bS (a0:Int) (a1:Int):Int:=(if a1 = 2 then (fX (en a0) fun x14=>(if x14 = true then (29) else (28))) else (fX (if a1 = 4 then ((a1 == 4)) else (if a1 = 6 then ((a1 == 6)) else (if a1 = 9 then ((a1 == 9)) else ((a1 == 11))))) fun x15=>(if x15 = true then (30) else (fX (if a1 = 1 then ((a1 == 1)) else (if a1 = 3 then ((a1 == 3)) else (if a1 = 5 then ((a1 == 5)) else (if a1 = 7 then ((a1 == 7)) else (if a1 = 8 then ((a1 == 8)) else (if a1 = 10 then ((a1 == 10)) else ((a1 == 12)))))))) fun x16=>(if x16 = true then (31) else (0))))))
def et (K:Nat):Nat → Int → Int → Option (Int × Int)
  | 0,_,_=>none
  | k + 1,i19,i20=>(fX (dv i20) fun x62=>(if x62 ≤ i19 then (if i20 < 5000 then (fX (dv i20) fun x63=>(et K k (aO (i19 - x63)) (aO (i20 + 1)))) else (some ((i19,i20)))) else (some ((i19,i20)))))
def er (K:Nat) (x53:(Int × Int)):Nat → Int → Int → Option (Int × Int)
  | 0,_,_=>none
  | k + 1,i25,i26=>(if i26 < 12 then (fX (bS x53.2 i26) fun x83=>(if x83 ≤ i25 then (fX (bS x53.2 i26) fun x84=>(er K x53 k (aO (i25 - x84)) (aO (i26 + 1)))) else (some ((i25,i26))))) else (some ((i25,i26))))
def fM (K:Nat) (a0:Int):Option (Int × Int × Int):=(Option.bind (et K K a0 1970) fun x53=>(Option.bind (er K x53 K x53.1 1) fun x74=>(some ((x53.2,x74.2,aO (x74.1 + 1))))))
def du (K:Nat) (a0:Int):Option Int:=((fM K a0).bind fun x2=>(some (aO ((aO ((aO ((aO (x2.1 - 1970)) * 12)) + x2.2.1)) - 1))))
def el (K:Nat) (a0:Int):Option Int:=(if a0 = 1 then (some (16777216)) else (if a0 = 2 then (some (699050)) else (if a0 = 3 then ((du K 699050).bind fun x4=>(some (x4))) else (some ((-1))))))
def bH (K:Nat) (a0_0:Int) (a0_1:Int):Option Bool:=(if 0 ≤ a0_1 then ((el K a0_0).bind fun x2=>(some (decide (a0_1 ≤ x2)))) else (some (false)))
def ef (a0:Int) (a1:Int) (a2:Int):Bool:=(if a1 ≤ a0 then (decide (a0 ≤ a2)) else (false))
def eR (K:Nat) (a0_0:Int) (a0_1:Int) (a0_2:Int) (a0_3:Int) (a0_4:Int) (a0_5:Bool):Option Bool:=((bH K a0_0 a0_1).bind fun x5=>(if x5 = true then (fX (ef a0_2 1 4611686018427387904) fun x6=>(if x6 = true then (fX (ef a0_4 1 4611686018427387904) fun x7=>(if x7 = true then (fX (ef a0_3 0 4611686018427387904) fun x8=>(if x8 = true then (if (!a0_5) = true then (some (true)) else (some ((a0_0 == 3)))) else (some (false)))) else (some (false)))) else (some (false)))) else (some (false))))
def dS (K:Nat) (a0:Int):Nat → Int → Int → Option Int
  | 0,_,_=>none
  | k + 1,i17,i18=>(if i18 < a0 then (fX (dv i18) fun x43=>(dS K a0 k (aO (i17 + x43)) (aO (i18 + 1)))) else (some (i17)))
def dM (K:Nat) (a0:Int) (a1:Int):Nat → Int → Int → Option Int
  | 0,_,_=>none
  | k + 1,i22,i23=>(if i23 < a1 then (fX (bS a0 i23) fun x56=>(dM K a0 a1 k (aO (i22 + x56)) (aO (i23 + 1)))) else (some (i22)))
def eL (K:Nat) (a0:Int) (a1:Int) (a2:Int):Option (Int × Bool):=(if a0 < 1970 then (some ((0,false))) else (if 4900 < a0 then (some ((0,false))) else (if a2 < 1 then (some ((0,false))) else (fX (bS a0 a1) fun x30=>(if x30 < a2 then (some ((0,false))) else (Option.bind (dS K a0 K 0 1970) fun x37=>(Option.bind (dM K a0 a1 K x37 1) fun x50=>(some ((aO ((aO (x50 + a2)) - 1),true))))))))))
def fi (K:Nat) (a0:Int):Option (Int × Int):=((eL K (aO (1970 + (aO (Int.tdiv a0 12)))) (aO ((Int.tmod a0 12) + 1)) 1).bind fun x3=>(fX (bS (aO (1970 + (aO (Int.tdiv a0 12)))) (aO ((Int.tmod a0 12) + 1))) fun x4=>(some ((x3.1,aO (x3.1 + x4))))))
def bV (K:Nat) (a0_0:Int) (a0_1:Int):Option (Int × Int):=((bH K a0_0 a0_1).bind fun x5=>(if (!x5) = true then (some ((0,0))) else (if a0_0 = 1 then (some ((a0_1,aO (a0_1 + 1)))) else (if a0_0 = 2 then (some ((aO (24 * a0_1),aO (24 * (aO (a0_1 + 1)))))) else ((fi K a0_1).bind fun x6=>(some ((aO (24 * x6.1),aO (24 * x6.2)))))))))
def eU (K:Nat) (a0_0:Int) (a0_1:Int) (a1_0:Int) (a1_1:Int):Option Bool:=((bV K a0_0 a0_1).bind fun x5=>((bV K a1_0 a1_1).bind fun x6=>((bH K a0_0 a0_1).bind fun x7=>(if x7 = true then ((bH K a1_0 a1_1).bind fun x8=>(if x8 = true then (if x5.1 < x6.2 then (some (decide (x6.1 < x5.2))) else (some (false))) else (some (false)))) else (some (false))))))
def fh (K:Nat) (a0_0:Int) (a0_1:Int) (a1_0:Int) (a1_1:Int):Option Bool:=((bV K a0_0 a0_1).bind fun x5=>((bV K a1_0 a1_1).bind fun x6=>((bH K a0_0 a0_1).bind fun x7=>(if x7 = true then ((bH K a1_0 a1_1).bind fun x8=>(if x8 = true then (if x5.1 < x6.1 then (some (true)) else (if x5.1 = x6.1 then (some (decide (a0_0 < a1_0))) else (some (false)))) else (some (false)))) else (some (false))))))
def cO (K:Nat) (l0:List av) (a1_0:Int) (a1_1:Int):Nat → Int → Int → Option (Sum Int (Int × (List av)))
  | 0,_,_=>none
  | k + 1,i11,i12=>(if i12 < (l0.length:Int) then (if 0 ≤ i12 then ((eU K (((l0.getD i12.toNat aT).Part).Tier) (((l0.getD i12.toNat aT).Part).Index) a1_0 a1_1).bind fun x77=>(if x77 = true then (some (Sum.inr ((12,([]:List av))))) else ((fh K (((l0.getD i12.toNat aT).Part).Tier) (((l0.getD i12.toNat aT).Part).Index) a1_0 a1_1).bind fun x78=>(if x78 = true then (cO K l0 a1_0 a1_1 k (aO (i12 + 1)) (aO (i12 + 1))) else (cO K l0 a1_0 a1_1 k i11 (aO (i12 + 1))))))) else none) else (some (Sum.inl i11)))
def eS (K:Nat) (l0:List av) (a1_0:Int) (a1_1:Int) (a1_2:Int) (a1_3:Int) (a1_4:Int) (a1_5:Bool):Option (Int × (List av)):=((eR K a1_0 a1_1 a1_2 a1_3 a1_4 a1_5).bind fun x41=>(if (!x41) = true then (some ((4,([]:List av)))) else (Option.bind (cO K l0 a1_0 a1_1 K 0 0) fun z=>(rn z (fun v2=>(if 0 ≤ v2 then (if v2 ≤ (l0.length:Int) then (if (([]:List av).length + (l0.take v2.toNat).length) * 48 ≤ 140737488355328 then (if ((([]:List av) ++ (l0.take v2.toNat)).length + [(⟨(⟨a1_0,a1_1⟩:aD),a1_2,a1_3,a1_4,a1_5⟩:av)].length) * 48 ≤ 140737488355328 then (if (((([]:List av) ++ (l0.take v2.toNat)) ++ [(⟨(⟨a1_0,a1_1⟩:aD),a1_2,a1_3,a1_4,a1_5⟩:av)]).length + (l0.drop v2.toNat).length) * 48 ≤ 140737488355328 then (some ((0,(((([]:List av) ++ (l0.take v2.toNat)) ++ [(⟨(⟨a1_0,a1_1⟩:aD),a1_2,a1_3,a1_4,a1_5⟩:av)]) ++ (l0.drop v2.toNat))))) else none) else none) else none) else none) else none)) (fun t_=>(some (t_)))))))
def dr (l0:List ag):Unit:=(fX (cH l0) fun u2=>(()))
def cr (K:Nat) (t0_:Int) (t1_:av) (z4:List ag):Option ((List ag) × Bool):=(if (z4.length + [(⟨t0_,(⟨(⟨t1_.Part.Tier,t1_.Part.Index⟩:aD),t1_.Seg,t1_.Mark,t1_.Rows,t1_.Cold⟩:av)⟩:ag)].length) * 56 ≤ 140737488355328 then (some (((z4 ++ [(⟨t0_,(⟨(⟨t1_.Part.Tier,t1_.Part.Index⟩:aD),t1_.Seg,t1_.Mark,t1_.Rows,t1_.Cold⟩:av)⟩:ag)]),true))) else none)
def ck (K:Nat) (l0:List ag):Option (List ag):=(fX (da) fun u4=>(fX (dr l0) fun u6=>((bK K (List ag) (cr K) ([]:List ag) l0).bind fun x4=>(some (x4)))))
def dQ (K:Nat) (l0:List ag):Option (List ag):=((ck K l0).bind fun x2=>(some (x2)))
def dY (K:Nat):Nat → Option Unit
  | 0=>none
  | k + 1=>(some (()))
def cQ (K:Nat) (l0:List ag) (l1:List av):Nat → Int → (List ag) → Option (Sum (List ag) (Int × (List ag)))
  | 0,_,_=>none
  | k + 1,i9,l12=>(if i9 < (l1.length:Int) then (if 0 ≤ i9 then ((ei K l12 (((l1.getD i9.toNat aT).Part).Tier) (((l1.getD i9.toNat aT).Part).Index) ((l1.getD i9.toNat aT).Seg) ((l1.getD i9.toNat aT).Mark) ((l1.getD i9.toNat aT).Rows) ((l1.getD i9.toNat aT).Cold)).bind fun x45=>(if ¬ (x45.1 = 0) then (some (Sum.inr ((x45.1,l0)))) else (cQ K l0 l1 k (aO (i9 + 1)) x45.2))) else none) else (some (Sum.inl l12)))
def dp (K:Nat) (l0:List ag) (l1:List av):Option (Int × (List ag)):=((dQ K l0).bind fun x31=>(Option.bind (dY K K) fun x32=>(Option.bind (cQ K l0 l1 K 0 x31) fun z=>(rn z (fun v3=>(some ((0,v3)))) (fun t_=>(some (t_)))))))
def eH (K:Nat):Nat → Option Unit
  | 0=>none
  | k + 1=>(some (()))
def dn (K:Nat) (l1:List av):Nat → Int → (List av) → (List av) → Option (Int × (List av))
  | 0,_,_,_=>none
  | k + 1,i10,l9,l10=>(if i10 < (l1.length:Int) then (if 0 ≤ i10 then ((eS K l10 (((l1.getD i10.toNat aT).Part).Tier) (((l1.getD i10.toNat aT).Part).Index) ((l1.getD i10.toNat aT).Seg) ((l1.getD i10.toNat aT).Mark) ((l1.getD i10.toNat aT).Rows) ((l1.getD i10.toNat aT).Cold)).bind fun x26=>(if ¬ (x26.1 = 0) then (some ((x26.1,l9))) else (dn K l1 k (aO (i10 + 1)) l9 x26.2))) else none) else (some ((0,l10))))
def dR (K:Nat) (l0:List av) (l1:List av):Option (Int × (List av)):=(Option.bind (eH K K) fun x14=>(dn K l1 K 0 l0 l0))
def dF (K:Nat) (l0:List av):Nat → Int → (List ag) → (List av) → Option ((List ag) × (List av))
  | 0,_,_,_=>none
  | k + 1,i4,l17,l19=>(if i4 < (l0.length:Int) then (if 0 ≤ i4 then (if i4 ≤ (aO (i4 + 1)) then (if (aO (i4 + 1)) ≤ (l0.length:Int) then ((dp K l17 ((l0.drop i4.toNat).take ((aO (i4 + 1)).toNat - i4.toNat))).bind fun x69=>((dR K l19 ((l0.drop i4.toNat).take ((aO (i4 + 1)).toNat - i4.toNat))).bind fun x70=>(dF K l0 k (aO (i4 + 1)) x69.2 x70.2))) else none) else none) else none) else (some ((l17,l19))))
def cT (K:Nat) (l0:List av) (l1:List Int) (a0_2:Int) (a0_3:Int) (a0_4:Int) (a0_5:Int) (a0_6:Int) (a0_7:Int) (a0_8:Int) (a0_9:Int) (a0_10:Int) (a0_11:Int) (a0_12:Int) (a0_13:Bool):Option ((List ag) × Int × Int × Int × Int × Int × Int × Int × Int × Int × Int × Int × Bool × (List av) × Int × Int × Int × Int × Int × Int × Int × Int × Int × Int × Int × Bool):=(if 40 < (l0.length:Int) then none else (if 40 < (l1.length:Int) then none else (fX (bA a0_2 a0_3 a0_4 a0_5 a0_6 a0_7 a0_8 a0_9 a0_10) fun x37=>(if ¬ (x37 = 0) then none else (if a0_11 < 0 then none else (if 1099511627776 < a0_11 then none else (if a0_12 < 0 then none else (if 16777217 < a0_12 then none else (fX (ip) fun u2=>(Option.bind (dF K l0 K 0 ([]:List ag) ([]:List av)) fun x54=>(some ((x54.1,a0_2,a0_3,a0_4,a0_5,a0_6,a0_7,a0_8,a0_9,a0_10,a0_11,a0_12,a0_13,x54.2,a0_2,a0_3,a0_4,a0_5,a0_6,a0_7,a0_8,a0_9,a0_10,a0_11,a0_12,a0_13)))))))))))))
def hJ:(Int × Int × Int × Int × Int × Int × Int × Int × Int × Int × Int × Int × Int × Int × Int × Int × Int × Int):=((1,1048576,0,1048576,0,1048576,0,1048576,0,1048576,1,1048576,1,1048576,1,64,100,1048576))
def gF (a0_0:Int) (a0_1:Int) (a0_2:Int) (a0_3:Int) (a0_4:Int) (a0_5:Int) (a0_6:Int) (a0_7:Int) (a0_8:Int):(Int × Int × Int × Int × Int × Int × Int × Int × Int):=((a0_0,a0_1,a0_2,a0_3,a0_4,a0_5,a0_6,a0_7,a0_8))
def gS (a0_0:Int) (a0_1:Int) (a0_2:Int) (a0_3:Int) (a0_4:Int) (a0_5:Int) (a0_6:Int) (a0_7:Int) (a0_8:Int):Option Int:=(fX (hJ) fun x4=>(fX (gF a0_0 a0_1 a0_2 a0_3 a0_4 a0_5 a0_6 a0_7 a0_8) fun x6=>(if 0 < (9:Int) then (if x6.1 < x4.1 then (some (2)) else (if x4.2.1 < x6.1 then (some (2)) else (if 1 < (9:Int) then (if x6.2.1 < x4.2.2.1 then (some (2)) else (if x4.2.2.2.1 < x6.2.1 then (some (2)) else (if 2 < (9:Int) then (if x6.2.2.1 < x4.2.2.2.2.1 then (some (2)) else (if x4.2.2.2.2.2.1 < x6.2.2.1 then (some (2)) else (if 3 < (9:Int) then (if x6.2.2.2.1 < x4.2.2.2.2.2.2.1 then (some (2)) else (if x4.2.2.2.2.2.2.2.1 < x6.2.2.2.1 then (some (2)) else (if 4 < (9:Int) then (if x6.2.2.2.2.1 < x4.2.2.2.2.2.2.2.2.1 then (some (2)) else (if x4.2.2.2.2.2.2.2.2.2.1 < x6.2.2.2.2.1 then (some (2)) else (if 5 < (9:Int) then (if x6.2.2.2.2.2.1 < x4.2.2.2.2.2.2.2.2.2.2.1 then (some (2)) else (if x4.2.2.2.2.2.2.2.2.2.2.2.1 < x6.2.2.2.2.2.1 then (some (2)) else (if 6 < (9:Int) then (if x6.2.2.2.2.2.2.1 < x4.2.2.2.2.2.2.2.2.2.2.2.2.1 then (some (2)) else (if x4.2.2.2.2.2.2.2.2.2.2.2.2.2.1 < x6.2.2.2.2.2.2.1 then (some (2)) else (if 7 < (9:Int) then (if x6.2.2.2.2.2.2.2.1 < x4.2.2.2.2.2.2.2.2.2.2.2.2.2.2.1 then (some (2)) else (if x4.2.2.2.2.2.2.2.2.2.2.2.2.2.2.2.1 < x6.2.2.2.2.2.2.2.1 then (some (2)) else (if 8 < (9:Int) then (if x6.2.2.2.2.2.2.2.2 < x4.2.2.2.2.2.2.2.2.2.2.2.2.2.2.2.2.1 then (some (2)) else (if x4.2.2.2.2.2.2.2.2.2.2.2.2.2.2.2.2.2 < x6.2.2.2.2.2.2.2.2 then (some (2)) else (some (0)))) else none))) else none))) else none))) else none))) else none))) else none))) else none))) else none))) else none)))
def iI (a0_0:Int) (a0_1:Int) (a0_2:Int) (a0_3:Int) (a0_4:Int) (a0_5:Int) (a0_6:Int) (a0_7:Int) (a0_8:Int) (a1:Int):Option (Int × Bool):=(if a1 < 1 then (some ((0,false))) else (if 3 < a1 then (some ((0,false))) else (if 0 ≤ a1 then (if a1 < (4:Int) then (some ((([0,a0_1,a0_2,a0_3].getD a1.toNat 0),true))) else none) else none)))
def io (a0_0:Int) (a0_1:Int) (a1_0:Int) (a1_1:Int) (a1_2:Int) (a1_3:Int) (a1_4:Int) (a1_5:Int) (a1_6:Int) (a1_7:Int) (a1_8:Int) (a2:Int):Option Bool:=(fX (fN a0_0 a0_1) fun x9=>(if (!x9) = true then (some (false)) else ((gS a1_0 a1_1 a1_2 a1_3 a1_4 a1_5 a1_6 a1_7 a1_8).bind fun x10=>(if ¬ (x10 = 0) then (some (false)) else ((iI a1_0 a1_1 a1_2 a1_3 a1_4 a1_5 a1_6 a1_7 a1_8 a0_0).bind fun x11=>(fX (fm a0_0 a0_1) fun x12=>(some (decide (x12.2 ≤ (aO (a2 - x11.1)))))))))))
def eE (K:Nat) (a0:Int) (a1_0:Int) (a1_1:Int) (a1_2:Int) (a1_3:Int) (a1_4:Int) (a1_5:Int) (a1_6:Int) (a1_7:Int) (a1_8:Int) (a2:Int):Nat → Int → Option Int
  | 0,_=>none
  | k + 1,i5=>(if i5 < 3 then (Option.bind (if 0 ≤ i5 then (if i5 < (3:Int) then (if i5 = 0 then (fX (ff 3 a0) fun x244=>(if (!x244.2.2) = true then (some (Sum.inl ())) else ((io x244.1 x244.2.1 a1_0 a1_1 a1_2 a1_3 a1_4 a1_5 a1_6 a1_7 a1_8 a2).bind fun x246=>(if (!x246) = true then (some (Sum.inl ())) else (some (Sum.inr (3))))))) else (if i5 = 1 then (fX (ff 2 a0) fun x247=>(if (!x247.2.2) = true then (some (Sum.inl ())) else ((io x247.1 x247.2.1 a1_0 a1_1 a1_2 a1_3 a1_4 a1_5 a1_6 a1_7 a1_8 a2).bind fun x249=>(if (!x249) = true then (some (Sum.inl ())) else (some (Sum.inr (2))))))) else (if i5 = 2 then (fX (ff 1 a0) fun x250=>(if (!x250.2.2) = true then (some (Sum.inl ())) else ((io x250.1 x250.2.1 a1_0 a1_1 a1_2 a1_3 a1_4 a1_5 a1_6 a1_7 a1_8 a2).bind fun x252=>(if (!x252) = true then (some (Sum.inl ())) else (some (Sum.inr (1))))))) else none))) else none) else none) fun z=>(rn z (fun v12=>(eE K a0 a1_0 a1_1 a1_2 a1_3 a1_4 a1_5 a1_6 a1_7 a1_8 a2 k (aO (i5 + 1)))) (fun t_=>(some (t_))))) else (some (0)))
def iy (K:Nat) (a0:Int) (a1_0:Int) (a1_1:Int) (a1_2:Int) (a1_3:Int) (a1_4:Int) (a1_5:Int) (a1_6:Int) (a1_7:Int) (a1_8:Int) (a2:Int):Option Int:=(eE K a0 a1_0 a1_1 a1_2 a1_3 a1_4 a1_5 a1_6 a1_7 a1_8 a2 K 0)
def cd (a0:Int) (l0:List ag) (p2_0:Int):Option Bool:=(if 0 ≤ a0 then (if a0 < (l0.length:Int) then (some (decide (p2_0 ≤ ((l0.getD a0.toNat ap).k)))) else none) else none)
def ex (K:Nat) (l0:List ag) (p2_0:Int):Nat → Int → Int → Option Int
  | 0,_,_=>none
  | k + 1,i7,i9=>(if i7 < i9 then ((cd (aO (na .u64 (nF (aO (i7 + i9))) 1)) l0 p2_0).bind fun x12=>(if (!x12) = true then (ex K l0 p2_0 k (aO ((aO (na .u64 (nF (aO (i7 + i9))) 1)) + 1)) i9) else (ex K l0 p2_0 k i7 (aO (na .u64 (nF (aO (i7 + i9))) 1))))) else (some (i7)))
def gj (K:Nat) (a0:Int) (l0:List ag) (p2_0:Int):Option Int:=(ex K l0 p2_0 K 0 a0)
def bT (K:Nat) (l0:List ag) (a1:Int):Option (Bool × Int):=((gj K (l0.length:Int) l0 a1).bind fun x2=>(if x2 < (l0.length:Int) then (if 0 ≤ x2 then (some (((((l0.getD x2.toNat ap).k) == a1),x2))) else none) else (some ((false,x2)))))
def cq (K:Nat) (l0:List ag) (a1:Int):Option (Int × Int × Int × Int × Int × Int × Bool × Bool):=((bT K l0 a1).bind fun x3=>(fX (if (!x3.1) = true then (aO (x3.2 - 1)) else (x3.2)) fun x4=>(if x4 < 0 then (some ((0,0,0,0,0,0,false,false))) else (if 0 ≤ x4 then (if x4 < (l0.length:Int) then (some (((l0.getD x4.toNat ap).k,(((l0.getD x4.toNat ap).v).Part).Tier,(((l0.getD x4.toNat ap).v).Part).Index,((l0.getD x4.toNat ap).v).Seg,((l0.getD x4.toNat ap).v).Mark,((l0.getD x4.toNat ap).v).Rows,((l0.getD x4.toNat ap).v).Cold,true))) else none) else none))))
def dN (K:Nat) (l0:List ag) (a1:Int):Option (Int × Int × Int × Int × Int × Bool × Bool):=((cq K l0 a1).bind fun x4=>(if (!x4.2.2.2.2.2.2.2) = true then (some ((0,0,0,0,0,false,false))) else (fX (gG x4.2.1 x4.2.2.1 a1) fun x6=>(if (!x6) = true then (some ((0,0,0,0,0,false,false))) else (some ((x4.2.1,x4.2.2.1,x4.2.2.2.1,x4.2.2.2.2.1,x4.2.2.2.2.2.1,x4.2.2.2.2.2.2.1,true)))))))
def fW (K:Nat) (l0:List ag) (l1:List Int) (a0_2:Int) (a0_3:Int) (a0_4:Int) (a0_5:Int) (a0_6:Int) (a0_7:Int) (a0_8:Int) (a0_9:Int) (a0_10:Int) (a0_11:Int) (a0_12:Int) (a0_13:Bool) (a1:Int):Option Int:=((dN K l0 a1).bind fun x2=>(some (x2.1)))
def gv (K:Nat) (l0:List ag) (l1:List Int) (a0_2:Int) (a0_3:Int) (a0_4:Int) (a0_5:Int) (a0_6:Int) (a0_7:Int) (a0_8:Int) (a0_9:Int) (a0_10:Int) (a0_11:Int) (a0_12:Int) (a0_13:Bool) (a1:Int):Option (Int × Int × Bool):=((iy K a1 a0_2 a0_3 a0_4 a0_5 a0_6 a0_7 a0_8 a0_9 a0_10 a0_11).bind fun x4=>(if x4 = 0 then (some ((0,0,false))) else ((fW K l0 l1 a0_2 a0_3 a0_4 a0_5 a0_6 a0_7 a0_8 a0_9 a0_10 a0_11 a0_12 a0_13 a1).bind fun x5=>(fX (ff (mx x5 x4) a1) fun x6=>(some ((x6.1,x6.2.1,x6.2.2)))))))
def ed (K:Nat) (a0:Int) (a1:Int):Option (Int × Int × Bool):=(if a1 < 0 then (some ((0,0,false))) else (if 16777216 < a1 then (some ((0,0,false))) else ((el K a0).bind fun x5=>(if x5 < 0 then (some ((0,0,false))) else (if a0 = 1 then (some ((a0,a1,true))) else (if a0 = 2 then (some ((a0,aO (Int.tdiv a1 24),true))) else ((du K (aO (Int.tdiv a1 24))).bind fun x6=>(some ((a0,x6,true))))))))))
def dE (a0_0:Int) (a0_1:Int) (a0_2:Int) (a0_3:Int) (a0_4:Int) (a0_5:Int) (a0_6:Int) (a0_7:Int) (a0_8:Int) (a1:Int):(Int × Bool):=(if a1 = 1 then ((a0_1,true)) else (if a1 = 2 then ((a0_2,true)) else (if a1 = 3 then ((a0_3,true)) else ((0,false)))))
def fy (K:Nat) (a0_0:Int) (a0_1:Int) (a1_0:Int) (a1_1:Int) (a1_2:Int) (a1_3:Int) (a1_4:Int) (a1_5:Int) (a1_6:Int) (a1_7:Int) (a1_8:Int) (a2:Int):Option Bool:=(fX (dE a1_0 a1_1 a1_2 a1_3 a1_4 a1_5 a1_6 a1_7 a1_8 a0_0) fun x5=>((bV K a0_0 a0_1).bind fun x6=>((bH K a0_0 a0_1).bind fun x7=>(if x7 = true then (fX (bA a1_0 a1_1 a1_2 a1_3 a1_4 a1_5 a1_6 a1_7 a1_8) fun x8=>(if x8 = 0 then (some (decide ((aO (x6.2 + x5.1)) ≤ a2))) else (some (false)))) else (some (false))))))
def bU (K:Nat) (a0:Int) (a1_0:Int) (a1_1:Int) (a1_2:Int) (a1_3:Int) (a1_4:Int) (a1_5:Int) (a1_6:Int) (a1_7:Int) (a1_8:Int) (a2:Int):Nat → Int → Int → Option Int
  | 0,_,_=>none
  | k + 1,i7,i9=>(if i9 ≤ 3 then ((ed K i9 a0).bind fun x47=>(if x47.2.2 = true then ((fy K x47.1 x47.2.1 a1_0 a1_1 a1_2 a1_3 a1_4 a1_5 a1_6 a1_7 a1_8 a2).bind fun x48=>(if x48 = true then (bU K a0 a1_0 a1_1 a1_2 a1_3 a1_4 a1_5 a1_6 a1_7 a1_8 a2 k i9 (aO (i9 + 1))) else (bU K a0 a1_0 a1_1 a1_2 a1_3 a1_4 a1_5 a1_6 a1_7 a1_8 a2 k i7 (aO (i9 + 1))))) else (bU K a0 a1_0 a1_1 a1_2 a1_3 a1_4 a1_5 a1_6 a1_7 a1_8 a2 k i7 (aO (i9 + 1))))) else (some (i7)))
def fj (K:Nat) (a0:Int) (a1_0:Int) (a1_1:Int) (a1_2:Int) (a1_3:Int) (a1_4:Int) (a1_5:Int) (a1_6:Int) (a1_7:Int) (a1_8:Int) (a2:Int):Option Int:=(bU K a0 a1_0 a1_1 a1_2 a1_3 a1_4 a1_5 a1_6 a1_7 a1_8 a2 K 0 1)
def fz (K:Nat) (a0_0:Int) (a0_1:Int) (a1:Int):Option Bool:=((bV K a0_0 a0_1).bind fun x2=>(if x2.1 ≤ a1 then (some (decide (a1 < x2.2))) else (some (false))))
def eu (K:Nat) (l0:List av) (a1:Int):Nat → Int → Option (Int × Int × Int × Int × Int × Bool × Bool)
  | 0,_=>none
  | k + 1,i10=>(if i10 < (l0.length:Int) then (if 0 ≤ i10 then ((fz K (((l0.getD i10.toNat aT).Part).Tier) (((l0.getD i10.toNat aT).Part).Index) a1).bind fun x24=>(if x24 = true then (some ((((l0.getD i10.toNat aT).Part).Tier,((l0.getD i10.toNat aT).Part).Index,(l0.getD i10.toNat aT).Seg,(l0.getD i10.toNat aT).Mark,(l0.getD i10.toNat aT).Rows,(l0.getD i10.toNat aT).Cold,true))) else (eu K l0 a1 k (aO (i10 + 1))))) else none) else (some ((0,0,0,0,0,false,false))))
def fg (K:Nat) (l0:List av) (a1:Int):Option (Int × Int × Int × Int × Int × Bool × Bool):=(eu K l0 a1 K 0)
def cU (K:Nat) (l0:List av) (l1:List Int) (a0_2:Int) (a0_3:Int) (a0_4:Int) (a0_5:Int) (a0_6:Int) (a0_7:Int) (a0_8:Int) (a0_9:Int) (a0_10:Int) (a0_11:Int) (a0_12:Int) (a0_13:Bool) (a1:Int):Option Int:=((fg K l0 a1).bind fun x2=>(if (!x2.2.2.2.2.2.2) = true then (some (0)) else (some (x2.1))))
def dK (K:Nat) (l0:List av) (l1:List Int) (a0_2:Int) (a0_3:Int) (a0_4:Int) (a0_5:Int) (a0_6:Int) (a0_7:Int) (a0_8:Int) (a0_9:Int) (a0_10:Int) (a0_11:Int) (a0_12:Int) (a0_13:Bool) (a1:Int):Option (Int × Int × Bool):=((fj K a1 a0_2 a0_3 a0_4 a0_5 a0_6 a0_7 a0_8 a0_9 a0_10 a0_11).bind fun x4=>(if x4 = 0 then (some ((0,0,false))) else ((cU K l0 l1 a0_2 a0_3 a0_4 a0_5 a0_6 a0_7 a0_8 a0_9 a0_10 a0_11 a0_12 a0_13 a1).bind fun x5=>((ed K (mx x4 x5) a1).bind fun x6=>(some ((x6.1,x6.2.1,x6.2.2)))))))
def bw:(Int × Int × Int × Int × Int × Int × Int × Int × Int):=((2000,1,2,24,48,2,60,16,4000))
def dC (l0:List Int):Option (List Int):=(if 0 < l0.length then (if (([]:List Int).length + l0.length) * 8 ≤ 140737488355328 then (some ((([]:List Int) ++ l0))) else none) else (if (([]:List Int).length + ([]:List Int).length) * 8 ≤ 140737488355328 then (some ((([]:List Int) ++ ([]:List Int)))) else none))
def dV (a0:Int) (l0:List Int) (p1_2:Int) (p1_3:Int) (p1_4:Int) (p1_5:Int) (p1_6:Int) (p1_7:Int) (p1_8:Int) (p1_9:Int) (p1_10:Int) (p1_11:Int) (p1_12:Int) (p1_13:Bool) (l1:List (bl × Int)):Bool:=(decide (a0 < p1_12))
def cw (K:Nat) (l0:List Int) (l1:List Int) (p1_2:Int) (p1_3:Int) (p1_4:Int) (p1_5:Int) (p1_6:Int) (p1_7:Int) (p1_8:Int) (p1_9:Int) (p1_10:Int) (p1_11:Int) (p1_12:Int) (p1_13:Bool) (l2:List (bl × Int)):Nat → Int → Option Int
  | 0,_=>none
  | k + 1,i5=>(if i5 < (l0.length:Int) then (if 0 ≤ i5 then (fX (dV (l0.getD i5.toNat 0) l1 p1_2 p1_3 p1_4 p1_5 p1_6 p1_7 p1_8 p1_9 p1_10 p1_11 p1_12 p1_13 l2) fun x24=>(if x24 = true then (some (i5)) else (cw K l0 l1 p1_2 p1_3 p1_4 p1_5 p1_6 p1_7 p1_8 p1_9 p1_10 p1_11 p1_12 p1_13 l2 k (aO (i5 + 1))))) else none) else (some ((-1))))
def cM (K:Nat) (l0:List Int) (l1:List Int) (p1_2:Int) (p1_3:Int) (p1_4:Int) (p1_5:Int) (p1_6:Int) (p1_7:Int) (p1_8:Int) (p1_9:Int) (p1_10:Int) (p1_11:Int) (p1_12:Int) (p1_13:Bool) (l2:List (bl × Int)):Option Int:=(cw K l0 l1 p1_2 p1_3 p1_4 p1_5 p1_6 p1_7 p1_8 p1_9 p1_10 p1_11 p1_12 p1_13 l2 K 0)
def bQ (K:Nat) (l1:List Int) (p1_2:Int) (p1_3:Int) (p1_4:Int) (p1_5:Int) (p1_6:Int) (p1_7:Int) (p1_8:Int) (p1_9:Int) (p1_10:Int) (p1_11:Int) (p1_12:Int) (p1_13:Bool) (l2:List (bl × Int)):Nat → Int → Int → (List Int) → Option ((List Int) × Int)
  | 0,_,_,_=>none
  | k + 1,i10,i11,l10=>(if i11 < (l10.length:Int) then (if 0 ≤ i11 then (fX (dV (l10.getD i11.toNat 0) l1 p1_2 p1_3 p1_4 p1_5 p1_6 p1_7 p1_8 p1_9 p1_10 p1_11 p1_12 p1_13 l2) fun x28=>(if (!x28) = true then (if 0 ≤ i10 then (if i10 < (l10.length:Int) then (bQ K l1 p1_2 p1_3 p1_4 p1_5 p1_6 p1_7 p1_8 p1_9 p1_10 p1_11 p1_12 p1_13 l2 k (aO (i10 + 1)) (aO (i11 + 1)) (l10.set i10.toNat (l10.getD i11.toNat 0))) else none) else none) else (bQ K l1 p1_2 p1_3 p1_4 p1_5 p1_6 p1_7 p1_8 p1_9 p1_10 p1_11 p1_12 p1_13 l2 k i10 (aO (i11 + 1)) l10))) else none) else (some ((l10,i10))))
def cC (K:Nat) (l0:List Int) (l1:List Int) (p1_2:Int) (p1_3:Int) (p1_4:Int) (p1_5:Int) (p1_6:Int) (p1_7:Int) (p1_8:Int) (p1_9:Int) (p1_10:Int) (p1_11:Int) (p1_12:Int) (p1_13:Bool) (l2:List (bl × Int)):Option ((List Int) × (List Int)):=((cM K l0 l1 p1_2 p1_3 p1_4 p1_5 p1_6 p1_7 p1_8 p1_9 p1_10 p1_11 p1_12 p1_13 l2).bind fun x15=>(if x15 = (-1) then (some ((l0,l0))) else (Option.bind (bQ K l1 p1_2 p1_3 p1_4 p1_5 p1_6 p1_7 p1_8 p1_9 p1_10 p1_11 p1_12 p1_13 l2 K x15 (aO (x15 + 1)) l0) fun x22=>(if 0 ≤ x22.2 then (if x22.2 ≤ (x22.1.length:Int) then (if x22.2 ≤ ((x22.1.take x22.2.toNat ++ List.replicate (x22.1.length - x22.2.toNat) 0).length:Int) then (some (((x22.1.take x22.2.toNat ++ List.replicate (x22.1.length - x22.2.toNat) 0),((x22.1.take x22.2.toNat ++ List.replicate (x22.1.length - x22.2.toNat) 0).take x22.2.toNat)))) else none) else none) else none))))
def fE (K:Nat) (l0:List Int) (p0_2:Int) (p0_3:Int) (p0_4:Int) (p0_5:Int) (p0_6:Int) (p0_7:Int) (p0_8:Int) (p0_9:Int) (p0_10:Int) (p0_11:Int) (p0_12:Int) (p0_13:Bool) (l1:List (bl × Int)):Option ((List Int) × (List Int)):=((dC l0).bind fun x3=>((cC K x3 l0 p0_2 p0_3 p0_4 p0_5 p0_6 p0_7 p0_8 p0_9 p0_10 p0_11 p0_12 p0_13 l1).bind fun x4=>(some ((x4.1,x4.2)))))
def fq:Unit:=(())
def dt (l0:List Int) (p0_2:Int) (p0_3:Int) (p0_4:Int) (p0_5:Int) (p0_6:Int) (p0_7:Int) (p0_8:Int) (p0_9:Int) (p0_10:Int) (p0_11:Int) (p0_12:Int) (p0_13:Bool) (l1:List (bl × Int)) (a1:Int) (a2_0:Int) (a2_1:Int):List (bl × Int):=(fX (fm a2_0 a2_1) fun x2=>((mw l1 (⟨a1,(⟨a2_0,a2_1⟩:aD)⟩:bl) x2.1)))
def iu (K:Nat) (a0:Int):Nat → Option Int
  | 0=>none
  | k + 1=>(if 0 < a0 then none else (some (0)))
def iD (K:Nat) (a0:Int) (p2_0:Int):Option Int:=(iu K a0 K)
def df (K:Nat) (a1:Int):Option (Int × Bool):=((iD K 0 a1).bind fun x2=>(if x2 < 0 then none else (some ((x2,false)))))
def cZ (K:Nat) (a1:Int):Option (Int × Int × Int × Int × Int × Int × Bool × Bool):=((df K a1).bind fun x3=>(fX (if (!x3.2) = true then (aO (x3.1 - 1)) else (x3.1)) fun x4=>(if x4 < 0 then (some ((0,0,0,0,0,0,false,false))) else none)))
def fG (K:Nat) (a1:Int):Option (Int × Int × Int × Int × Int × Bool × Bool):=((cZ K a1).bind fun x4=>(if (!x4.2.2.2.2.2.2.2) = true then (some ((0,0,0,0,0,false,false))) else (fX (gG x4.2.1 x4.2.2.1 a1) fun x6=>(if (!x6) = true then (some ((0,0,0,0,0,false,false))) else (some ((x4.2.1,x4.2.2.1,x4.2.2.2.1,x4.2.2.2.2.1,x4.2.2.2.2.2.1,x4.2.2.2.2.2.2.1,true)))))))
def jp (K:Nat) (l0:List Int) (a0_2:Int) (a0_3:Int) (a0_4:Int) (a0_5:Int) (a0_6:Int) (a0_7:Int) (a0_8:Int) (a0_9:Int) (a0_10:Int) (a0_11:Int) (a0_12:Int) (a0_13:Bool) (a1:Int):Option Int:=((fG K a1).bind fun x2=>(some (x2.1)))
def iA (K:Nat) (l0:List Int) (a0_2:Int) (a0_3:Int) (a0_4:Int) (a0_5:Int) (a0_6:Int) (a0_7:Int) (a0_8:Int) (a0_9:Int) (a0_10:Int) (a0_11:Int) (a0_12:Int) (a0_13:Bool) (a1:Int):Option (Int × Int × Bool):=((iy K a1 a0_2 a0_3 a0_4 a0_5 a0_6 a0_7 a0_8 a0_9 a0_10 a0_11).bind fun x4=>(if x4 = 0 then (some ((0,0,false))) else ((jp K l0 a0_2 a0_3 a0_4 a0_5 a0_6 a0_7 a0_8 a0_9 a0_10 a0_11 a0_12 a0_13 a1).bind fun x5=>(fX (ff (mx x5 x4) a1) fun x6=>(some ((x6.1,x6.2.1,x6.2.2)))))))
def eK (K:Nat) (l0:List Int) (p0_2:Int) (p0_3:Int) (p0_4:Int) (p0_5:Int) (p0_6:Int) (p0_7:Int) (p0_8:Int) (p0_9:Int) (p0_10:Int) (p0_11:Int) (p0_12:Int) (p0_13:Bool) (l1:List (bl × Int)) (a1:Int) (a2:Int):Option (List (bl × Int)):=((iA K l0 p0_2 p0_3 p0_4 p0_5 p0_6 p0_7 p0_8 p0_9 p0_10 p0_11 p0_12 p0_13 a1).bind fun x3=>(if x3.2.2 = true then (if a2 < x3.1 then (fX (dt l0 p0_2 p0_3 p0_4 p0_5 p0_6 p0_7 p0_8 p0_9 p0_10 p0_11 p0_12 p0_13 l1 2 x3.1 x3.2.1) fun x4=>(some (x4))) else (some (l1))) else (some (l1))))
def gb (a0:Int) (p0_0:Int) (p1_0:Int):Bool:=(if p0_0 ≤ a0 then (decide (a0 < p1_0)) else (false))
def cE (K:Nat) (l0:List Int) (p0_0:Int) (p1_0:Int):Nat → Int → Option Int
  | 0,_=>none
  | k + 1,i5=>(if i5 < (l0.length:Int) then (if 0 ≤ i5 then (fX (gb (l0.getD i5.toNat 0) p0_0 p1_0) fun x24=>(if x24 = true then (some (i5)) else (cE K l0 p0_0 p1_0 k (aO (i5 + 1))))) else none) else (some ((-1))))
def cW (K:Nat) (l0:List Int) (p0_0:Int) (p1_0:Int):Option Int:=(cE K l0 p0_0 p1_0 K 0)
def cG (K:Nat) (l0:List Int) (p0_0:Int) (p1_0:Int):Option Bool:=((cW K l0 p0_0 p1_0).bind fun x2=>(some (decide (0 ≤ x2))))
def fH (K:Nat) (l0:List Int) (p0_2:Int) (p0_3:Int) (p0_4:Int) (p0_5:Int) (p0_6:Int) (p0_7:Int) (p0_8:Int) (p0_9:Int) (p0_10:Int) (p0_11:Int) (p0_12:Int) (p0_13:Bool) (l1:List (bl × Int)) (a1_0:Int) (a1_1:Int) (a1_2:Int) (a1_3:Int) (a1_4:Int) (a1_5:Bool) (l2:List Int):Option (List (bl × Int)):=(fX (fm a1_0 a1_1) fun x7=>(if x7.2 ≤ p0_12 then (fX (dt l0 p0_2 p0_3 p0_4 p0_5 p0_6 p0_7 p0_8 p0_9 p0_10 p0_11 p0_12 p0_13 l1 1 a1_0 a1_1) fun x9=>(some (x9))) else ((eK K l0 p0_2 p0_3 p0_4 p0_5 p0_6 p0_7 p0_8 p0_9 p0_10 p0_11 p0_12 p0_13 l1 x7.1 a1_0).bind fun x10=>((cG K l2 x7.1 x7.2).bind fun x11=>(if a1_0 = 3 then (if (!a1_5) = true then (if x7.2 ≤ (aO (p0_11 - p0_6)) then (if (!x11) = true then (fX (dt l0 p0_2 p0_3 p0_4 p0_5 p0_6 p0_7 p0_8 p0_9 p0_10 p0_11 p0_12 p0_13 x10 3 a1_0 a1_1) fun x12=>(some (x12))) else (some (x10))) else (some (x10))) else (some (x10))) else (some (x10)))))))
def cY:Unit:=(fX (cF) fun u2=>(()))
def fc (K:Nat) (Gm0:Type) (y0:av → Gm0 → Option (Gm0 × Bool)) (t0_:Int) (t1_:av) (zz_:Sum Gm0 Gm0):Option ((Sum Gm0 Gm0) × Bool):=(rn zz_ (fun z2=>((y0 (⟨(⟨t1_.Part.Tier,t1_.Part.Index⟩:aD),t1_.Seg,t1_.Mark,t1_.Rows,t1_.Cold⟩:av) z2).bind fun x7=>(if (!x7.2) = true then (some ((Sum.inr x7.1,false))) else (some ((Sum.inl x7.1,true)))))) (fun _=>none))
def eO (K:Nat) (Gm0:Type) (y0:av → Gm0 → Option (Gm0 × Bool)) (x0y:Gm0):Option Gm0:=(fX (cY) fun u2=>((dz K (Sum Gm0 Gm0) (fc K Gm0 y0) (Sum.inl x0y)).bind fun x8=>(rn (Sum.inl x0y:Sum Gm0 Gm0) (fun y2=>(some (y2))) (fun d_=>(fX d_ fun d2=>(some (d2)))))))
def gP (K:Nat) (l0:List Int) (a0_2:Int) (a0_3:Int) (a0_4:Int) (a0_5:Int) (a0_6:Int) (a0_7:Int) (a0_8:Int) (a0_9:Int) (a0_10:Int) (a0_11:Int) (a0_12:Int) (a0_13:Bool) (x27:((List Int) × (List Int))) (t0_:av) (z4:List (bl × Int)):Option ((List (bl × Int)) × Bool):=((fH K l0 a0_2 a0_3 a0_4 a0_5 a0_6 a0_7 a0_8 a0_9 a0_10 a0_11 a0_12 a0_13 z4 t0_.Part.Tier t0_.Part.Index t0_.Seg t0_.Mark t0_.Rows t0_.Cold x27.2).bind fun x35=>(some ((x35,true))))
def gd (K:Nat) (l0:List Int) (a0_2:Int) (a0_3:Int) (a0_4:Int) (a0_5:Int) (a0_6:Int) (a0_7:Int) (a0_8:Int) (a0_9:Int) (a0_10:Int) (a0_11:Int) (a0_12:Int) (a0_13:Bool) (x32:((List (bl × Int)) × (List Int))):Nat → Int → (List (bl × Int)) → Option (List (bl × Int))
  | 0,_,_=>none
  | k + 1,i4,l16=>(if i4 < (x32.2.length:Int) then (if 0 ≤ i4 then ((eK K l0 a0_2 a0_3 a0_4 a0_5 a0_6 a0_7 a0_8 a0_9 a0_10 a0_11 a0_12 a0_13 l16 (x32.2.getD i4.toNat 0) 0).bind fun x49=>(gd K l0 a0_2 a0_3 a0_4 a0_5 a0_6 a0_7 a0_8 a0_9 a0_10 a0_11 a0_12 a0_13 x32 k (aO (i4 + 1)) x49)) else none) else (some (l16)))
def gh (K:Nat) (l0:List Int) (a0_2:Int) (a0_3:Int) (a0_4:Int) (a0_5:Int) (a0_6:Int) (a0_7:Int) (a0_8:Int) (a0_9:Int) (a0_10:Int) (a0_11:Int) (a0_12:Int) (a0_13:Bool):Option (List (bl × Int)):=((fE K l0 a0_2 a0_3 a0_4 a0_5 a0_6 a0_7 a0_8 a0_9 a0_10 a0_11 a0_12 a0_13 ([]:List (bl × Int))).bind fun x27=>(Option.bind (fX (fq) fun u4=>((eO K (List (bl × Int)) (gP K l0 a0_2 a0_3 a0_4 a0_5 a0_6 a0_7 a0_8 a0_9 a0_10 a0_11 a0_12 a0_13 x27) ([]:List (bl × Int))).bind fun x36=>(some ((x36,x27.2))))) fun x32=>(Option.bind (gd K l0 a0_2 a0_3 a0_4 a0_5 a0_6 a0_7 a0_8 a0_9 a0_10 a0_11 a0_12 a0_13 x32 K 0 x32.1) fun x43=>(fX (if a0_13 = true then (fX (dt l0 a0_2 a0_3 a0_4 a0_5 a0_6 a0_7 a0_8 a0_9 a0_10 a0_11 a0_12 a0_13 x43 4 0 0) fun x52=>(x52)) else (x43)) fun x51=>(some (x51))))))
def ca (l0:List (bl × Int)):Unit:=(())
def fK (a0:Int):Bool:=((a0 != a0))
def fw (a0:Int) (a1:Int):Int:=(fX (fK a0) fun x3=>(fX (fK a1) fun x4=>(if x3 = true then (if x4 = true then (0) else ((-1))) else (if x4 = true then (1) else (if a0 < a1 then ((-1)) else (if a1 < a0 then (1) else (0)))))))
def eW (a0:Int):Bool:=((a0 != a0))
def eT (a0:Int) (a1:Int):Int:=(fX (eW a0) fun x3=>(fX (eW a1) fun x4=>(if x3 = true then (if x4 = true then (0) else ((-1))) else (if x4 = true then (1) else (if a0 < a1 then ((-1)) else (if a1 < a0 then (1) else (0)))))))
def cA (K:Nat) (l0:List Int):Nat → Int → Option Int
  | 0,_=>none
  | k + 1,i5=>(if i5 < (l0.length:Int) then (if 0 ≤ i5 then (if ¬ ((l0.getD i5.toNat 0) = 0) then (some ((l0.getD i5.toNat 0))) else (cA K l0 k (aO (i5 + 1)))) else none) else (some (0)))
def gx (K:Nat) (l0:List Int):Option Int:=(cA K l0 K 0)
def gl (K:Nat) (a0_0:Int) (a0_1:Int) (a0_2:Int) (a1_0:Int) (a1_1:Int) (a1_2:Int) (l0:List (bl × Int)):Option Int:=(fX (fw a0_0 a1_0) fun x4=>(fX (eT ((kG l0 (⟨a0_0,(⟨a0_1,a0_2⟩:aD)⟩:bl)).getD 0) ((kG l0 (⟨a1_0,(⟨a1_1,a1_2⟩:aD)⟩:bl)).getD 0)) fun x5=>((gx K [x4,x5]).bind fun x6=>(some (x6)))))
def gk (K:Nat) (l0:List (bl × Int)) (x y:bl):Int:=(gl K x.kind x.p.Tier x.p.Index y.kind y.p.Tier y.p.Index l0).getD 0
def dg (K:Nat) (l0:List (bl × Int)):Option (List bl):=if 100 ≤ K ∧ l0.length * 24 ≤ 140737488355328 then sD (gk K l0) (l0.map (·.1)) else none
def fY (K:Nat) (x6:List bl):Nat → Int → (List gp) → Option (List gp)
  | 0,_,_=>none
  | k + 1,i4,l5=>(if i4 < (x6.length:Int) then (if 0 ≤ i4 then (if (l5.length + [(⟨(x6.getD i4.toNat bX).kind,(⟨((x6.getD i4.toNat bX).p).Tier,((x6.getD i4.toNat bX).p).Index⟩:aD),0,0⟩:gp)].length) * 40 ≤ 140737488355328 then (fY K x6 k (aO (i4 + 1)) (l5 ++ [(⟨(x6.getD i4.toNat bX).kind,(⟨((x6.getD i4.toNat bX).p).Tier,((x6.getD i4.toNat bX).p).Index⟩:aD),0,0⟩:gp)])) else none) else none) else (some (l5)))
def gt (K:Nat) (l0:List Int) (a0_2:Int) (a0_3:Int) (a0_4:Int) (a0_5:Int) (a0_6:Int) (a0_7:Int) (a0_8:Int) (a0_9:Int) (a0_10:Int) (a0_11:Int) (a0_12:Int) (a0_13:Bool):Option (List gp):=((gh K l0 a0_2 a0_3 a0_4 a0_5 a0_6 a0_7 a0_8 a0_9 a0_10 a0_11 a0_12 a0_13).bind fun x4=>(fX (ca x4) fun u4=>((dg K x4).bind fun x6=>(fY K x6 K 0 ([]:List gp)))))
def dL (K:Nat):Option Bool:=(fX (ip) fun u2=>(fX (bw) fun x3=>((gt K [5] x3.1 x3.2.1 x3.2.2.1 x3.2.2.2.1 x3.2.2.2.2.1 x3.2.2.2.2.2.1 x3.2.2.2.2.2.2.1 x3.2.2.2.2.2.2.2.1 x3.2.2.2.2.2.2.2.2 7 0 false).bind fun x4=>(if (x4.length:Int) = 1 then (if 0 < (x4.length:Int) then (some (((((x4.getD ((0:Int).toNat) ig).Kind) == 2) && ((((((x4.getD ((0:Int).toNat) ig).Part).Tier) == 1) && (((((x4.getD ((0:Int).toNat) ig).Part).Index) == 5) && true)) && ((((x4.getD ((0:Int).toNat) ig).Try) == 0) && ((((x4.getD ((0:Int).toNat) ig).At) == 0) && true)))))) else none) else (some (false))))))
def dP (K:Nat) (l0:List av) (l1:List Int) (a0_2:Int) (a0_3:Int) (a0_4:Int) (a0_5:Int) (a0_6:Int) (a0_7:Int) (a0_8:Int) (a0_9:Int) (a0_10:Int) (a0_11:Int) (a0_12:Int) (a0_13:Bool):Option (Int × Int × Int × Int × Int × Int × Int × Int × Int × Int × Int × Bool × Int × Int × Int × Int × Int × Int × Int × Int × Int × Int × Int × Bool):=(if 40 < (l0.length:Int) then (some ((0,0,0,0,0,0,0,0,0,0,0,false,0,0,0,0,0,0,0,0,0,0,0,false))) else (if 40 < (l1.length:Int) then (some ((0,0,0,0,0,0,0,0,0,0,0,false,0,0,0,0,0,0,0,0,0,0,0,false))) else (fX (bA a0_2 a0_3 a0_4 a0_5 a0_6 a0_7 a0_8 a0_9 a0_10) fun x37=>(if ¬ (x37 = 0) then (some ((0,0,0,0,0,0,0,0,0,0,0,false,0,0,0,0,0,0,0,0,0,0,0,false))) else (if a0_11 < 0 then (some ((0,0,0,0,0,0,0,0,0,0,0,false,0,0,0,0,0,0,0,0,0,0,0,false))) else (if 1099511627776 < a0_11 then (some ((0,0,0,0,0,0,0,0,0,0,0,false,0,0,0,0,0,0,0,0,0,0,0,false))) else (if a0_12 < 0 then (some ((0,0,0,0,0,0,0,0,0,0,0,false,0,0,0,0,0,0,0,0,0,0,0,false))) else (if 16777217 < a0_12 then (some ((0,0,0,0,0,0,0,0,0,0,0,false,0,0,0,0,0,0,0,0,0,0,0,false))) else none))))))))
def ep (K:Nat) (s0_0:Value) (l0_0:List av) (s0_1:Value) (l0_1:List Int) (a0_2_0:Int) (a0_2_1:Int) (a0_2_2:Int) (a0_2_3:Int) (a0_2_4:Int) (a0_2_5:Int) (a0_2_6:Int) (a0_2_7:Int) (a0_2_8:Int) (a0_3:Int) (a0_4:Int) (a0_5:Bool) (a1:Int):Option Bool:=(xQ (cT K l0_0 l0_1 a0_2_0 a0_2_1 a0_2_2 a0_2_3 a0_2_4 a0_2_5 a0_2_6 a0_2_7 a0_2_8 a0_3 a0_4 a0_5) (fun x10=>((gv K x10.1 l0_1 x10.2.1 x10.2.2.1 x10.2.2.2.1 x10.2.2.2.2.1 x10.2.2.2.2.2.1 x10.2.2.2.2.2.2.1 x10.2.2.2.2.2.2.2.1 x10.2.2.2.2.2.2.2.2.1 x10.2.2.2.2.2.2.2.2.2.1 x10.2.2.2.2.2.2.2.2.2.2.1 x10.2.2.2.2.2.2.2.2.2.2.2.1 x10.2.2.2.2.2.2.2.2.2.2.2.2.1 a1).bind fun x11=>((dK K x10.2.2.2.2.2.2.2.2.2.2.2.2.2.1 l0_1 x10.2.2.2.2.2.2.2.2.2.2.2.2.2.2.1 x10.2.2.2.2.2.2.2.2.2.2.2.2.2.2.2.1 x10.2.2.2.2.2.2.2.2.2.2.2.2.2.2.2.2.1 x10.2.2.2.2.2.2.2.2.2.2.2.2.2.2.2.2.2.1 x10.2.2.2.2.2.2.2.2.2.2.2.2.2.2.2.2.2.2.1 x10.2.2.2.2.2.2.2.2.2.2.2.2.2.2.2.2.2.2.2.1 x10.2.2.2.2.2.2.2.2.2.2.2.2.2.2.2.2.2.2.2.2.1 x10.2.2.2.2.2.2.2.2.2.2.2.2.2.2.2.2.2.2.2.2.2.1 x10.2.2.2.2.2.2.2.2.2.2.2.2.2.2.2.2.2.2.2.2.2.2.1 x10.2.2.2.2.2.2.2.2.2.2.2.2.2.2.2.2.2.2.2.2.2.2.2.1 x10.2.2.2.2.2.2.2.2.2.2.2.2.2.2.2.2.2.2.2.2.2.2.2.2.1 x10.2.2.2.2.2.2.2.2.2.2.2.2.2.2.2.2.2.2.2.2.2.2.2.2.2 a1).bind fun x12=>(if ((x11.1 == x12.1) && ((x11.2.1 == x12.2.1) && true)) = true then (if (x11.2.2 == x12.2.2) = true then ((fW K x10.1 l0_1 x10.2.1 x10.2.2.1 x10.2.2.2.1 x10.2.2.2.2.1 x10.2.2.2.2.2.1 x10.2.2.2.2.2.2.1 x10.2.2.2.2.2.2.2.1 x10.2.2.2.2.2.2.2.2.1 x10.2.2.2.2.2.2.2.2.2.1 x10.2.2.2.2.2.2.2.2.2.2.1 x10.2.2.2.2.2.2.2.2.2.2.2.1 x10.2.2.2.2.2.2.2.2.2.2.2.2.1 a1).bind fun x13=>((cU K x10.2.2.2.2.2.2.2.2.2.2.2.2.2.1 l0_1 x10.2.2.2.2.2.2.2.2.2.2.2.2.2.2.1 x10.2.2.2.2.2.2.2.2.2.2.2.2.2.2.2.1 x10.2.2.2.2.2.2.2.2.2.2.2.2.2.2.2.2.1 x10.2.2.2.2.2.2.2.2.2.2.2.2.2.2.2.2.2.1 x10.2.2.2.2.2.2.2.2.2.2.2.2.2.2.2.2.2.2.1 x10.2.2.2.2.2.2.2.2.2.2.2.2.2.2.2.2.2.2.2.1 x10.2.2.2.2.2.2.2.2.2.2.2.2.2.2.2.2.2.2.2.2.1 x10.2.2.2.2.2.2.2.2.2.2.2.2.2.2.2.2.2.2.2.2.2.1 x10.2.2.2.2.2.2.2.2.2.2.2.2.2.2.2.2.2.2.2.2.2.2.1 x10.2.2.2.2.2.2.2.2.2.2.2.2.2.2.2.2.2.2.2.2.2.2.2.1 x10.2.2.2.2.2.2.2.2.2.2.2.2.2.2.2.2.2.2.2.2.2.2.2.2.1 x10.2.2.2.2.2.2.2.2.2.2.2.2.2.2.2.2.2.2.2.2.2.2.2.2.2 a1).bind fun x14=>(if x13 = x14 then ((dL K).bind fun x15=>(some (x15))) else (some (false))))) else (some (false))) else (some (false)))))) ((dP K l0_0 l0_1 a0_2_0 a0_2_1 a0_2_2 a0_2_3 a0_2_4 a0_2_5 a0_2_6 a0_2_7 a0_2_8 a0_3 a0_4 a0_5).bind fun x16=>((dL K).bind fun x18=>(some (x18)))))
end Go.Proofs.YtnjfjmbanmaciaaGreat.DueTargets
end
section
set_option linter.unusedVariables false
set_option linter.unusedSimpArgs false
namespace Go.Proofs.YtnjfjmbanmaciaaGreat.E
open Go
theorem di {α β:Type} (x:α) (f:α → β):fX x f = f x:=rfl
theorem wz (n:Int):aO n = if n % 18446744073709551616 ≥ 9223372036854775808 then n % 18446744073709551616 - 18446744073709551616 else n % 18446744073709551616:=by
  simp [aO,IntKind.wrap,IntKind.signed,IntKind.bits]
theorem bs {n:Int} (h:-9223372036854775808 ≤ n ∧ n ≤ 9223372036854775807):aO n = n:=by
  rw [wz]; split <;> omega
theorem vC (n:Int):nF n = n % 18446744073709551616:=by
  simp [nF,IntKind.wrap,IntKind.signed,IntKind.bits]
theorem wk {n:Int} (h:0 ≤ n ∧ n ≤ 18446744073709551615):nF n = n:=by
  rw [vC]; omega
end Go.Proofs.YtnjfjmbanmaciaaGreat.E
end
section
set_option linter.unusedVariables false
set_option linter.unusedSimpArgs false
namespace Go.Proofs.YtnjfjmbanmaciaaGreat.DueTargets
open Go E Go.Sort
instance:Inhabited bl:=⟨bX⟩
def ci (a b:Int):Int:=if a < b then -1 else if b < a then 1 else 0
def xo (a b:Int):Int:=if a = 0 then b else a
theorem wU (a b:Int):fw a b = ci a b:=by
  simp [fw,fK,di,ci]
theorem vw (a b:Int):eT a b = ci a b:=by
  simp [eT,eW,di,ci]
theorem xE {K k:Nat} (hK:K = k + 3) (a b:Int):gx K [a,b] = some (xo a b):=by
  unfold gx
  have e0:cA K [a,b] (k + 3) 0 = if ¬ a = 0 then some a else cA K [a,b] (k + 2) 1:=by
    rw [cA,if_pos (by simp),if_pos (by simp)]; rfl
  have e1:cA K [a,b] (k + 2) 1 = if ¬ b = 0 then some b else cA K [a,b] (k + 1) 2:=by
    rw [cA,if_pos (by simp),if_pos (by simp)]; rfl
  have e2:cA K [a,b] (k + 1) 2 = some 0:=by
    rw [cA,if_neg (by simp)]
  have:cA K [a,b] K 0 = cA K [a,b] (k + 3) 0:=by rw [← hK]
  rw [this,e0,e1,e2]
  unfold xo
  by_cases h1:a = 0 <;> by_cases h2:b = 0 <;> simp [h1,h2]
def kc (m:List (bl × Int)) (j:bl):Int:=(kG m j).getD 0
def cj (m:List (bl × Int)) (x y:bl):Int:=xo (ci x.kind y.kind) (ci (kc m x) (kc m y))
theorem vj {K:Nat} (hK:100 ≤ K) (m:List (bl × Int)) (x y:bl):gl K x.kind x.p.Tier x.p.Index y.kind y.p.Tier y.p.Index m = some (cj m x y):=by
  unfold gl
  simp only [di,wU,vw]
  rw [xE (k:=K - 3) (by omega)]
  rfl
theorem wP {K:Nat} (hK:100 ≤ K) (m:List (bl × Int)):gk K m = cj m:=by
  funext x y
  unfold gk
  rw [vj hK]
  rfl
theorem kV {K:Nat} (hK:100 ≤ K) (m:List (bl × Int)) (x y:bl):gl K x.kind x.p.Tier x.p.Index y.kind y.p.Tier y.p.Index m = some (gk K m x y):=by
  rw [wP hK,vj hK]
theorem wK (a b:Int):ci a b < 0 ↔ a < b:=by
  unfold ci
  by_cases h1:a < b <;> by_cases h2:b < a <;> simp [h1,h2]
theorem xq (a b:Int):ci a b = 0 ↔ a = b:=by
  unfold ci
  by_cases h1:a < b <;> by_cases h2:b < a <;> simp [h1,h2] <;> omega
theorem sx (a b:Int):ci b a = - ci a b:=by
  unfold ci
  by_cases h1:a < b <;> by_cases h2:b < a <;> simp [h1,h2] <;> omega
theorem rq (m:List (bl × Int)) (x y:bl):ltOf (cj m) x y = true ↔ x.kind < y.kind ∨ x.kind = y.kind ∧ kc m x < kc m y:=by
  have h1:=wK x.kind y.kind
  have h2:=xq x.kind y.kind
  have h3:=wK (kc m x) (kc m y)
  have h0:ltOf (cj m) x y = true ↔ xo (ci x.kind y.kind) (ci (kc m x) (kc m y)) < 0:=decide_eq_true_iff
  rw [h0]
  unfold xo
  by_cases hk:x.kind = y.kind
  · rw [if_pos (h2.2 hk),h3]
    simp [hk]
  · rw [if_neg fun h=>hk (h2.1 h),h1]
    simp [hk]
theorem xf (m:List (bl × Int)):xh (cj m):=by
  refine ⟨⟨fun x=>?_,fun x y z h1 h2=>?_,fun x y z h1 h2=>?_⟩,fun x y=>?_⟩
  · exact Bool.eq_false_iff.2 fun h=>by rw [rq] at h; omega
  · rw [rq] at h1 h2 ⊢; omega
  · rw [Bool.eq_false_iff,ne_eq,rq] at h1 h2 ⊢; omega
  · simp only [cj,xo]
    rw [sx x.kind y.kind,sx (kc m x) (kc m y)]
    split <;> split <;> omega
theorem jx {K:Nat} (hK:100 ≤ K) (m:List (bl × Int)):xh (gk K m):=by
  rw [wP hK]
  exact xf m
end Go.Proofs.YtnjfjmbanmaciaaGreat.DueTargets
end
section
set_option linter.unusedVariables false
namespace Go.Proofs.YtnjfjmbanmaciaaGreat.E
open Go Go.Proofs Go.RowKit Go.Sort
theorem wl {l:List Value} (h:l.all (·.oneCell') = true):∀ v ∈ l,v.oneCell' = true:=fun v hv=>List.all_eq_true.1 h v hv
def uY:Go.Shelf.Ren where
  f:=fun x=>match x with | 6=>66 | 15=>97 | 14=>96 | 28=>121 | 29=>122 | 20=>113 | 21=>114 | 22=>115 | 23=>116 | 24=>117 | 25=>118 | 26=>119 | 27=>120 | 46=>127 | 47=>128 | 48=>129 | 49=>130 | 50=>131 | 57=>133 | n=>n
  t:=fun x=>match x with | 22=>74 | 24=>77 | 25=>84 | 3=>3 | 39=>150 | 0=>0 | 53=>175 | 55=>177 | 4=>4 | 46=>169 | 45=>168 | 50=>131 | 5=>5 | 9=>9 | 66=>180 | 70=>184 | 76=>186 | 77=>187 | n=>n
  g:=fun x=>x
theorem rg:SlLaysF0.n6 Tryz.prog uY :=
  { mixed:=Eq.refl true,
    f6 := ⟨ "slices.SortFunc[[]ossuary/due.job,ossuary/due.job]", of_decide_eq_true (id (Eq.refl true)), Eq.trans Tryz.func66 (congrArg some rfl)⟩,
    f14 := ⟨ "slices.pdqsortCmpFunc[ossuary/due.job]", of_decide_eq_true (id (Eq.refl true)), Eq.trans Tryz.func96 (congrArg some rfl)⟩,
    f15:=Eq.trans Tryz.func97 (congrArg some rfl),
    f20 := ⟨ "slices.insertionSortCmpFunc[ossuary/due.job]", of_decide_eq_true (id (Eq.refl true)), Eq.trans Tryz.func113 (congrArg some rfl)⟩,
    f21 := ⟨ "slices.heapSortCmpFunc[ossuary/due.job]", of_decide_eq_true (id (Eq.refl true)), Eq.trans Tryz.func114 (congrArg some rfl)⟩,
    f22 := ⟨ "slices.breakPatternsCmpFunc[ossuary/due.job]", of_decide_eq_true (id (Eq.refl true)), Eq.trans Tryz.func115 (congrArg some rfl)⟩,
    f23 := ⟨ "slices.choosePivotCmpFunc[ossuary/due.job]", of_decide_eq_true (id (Eq.refl true)), Eq.trans Tryz.func116 (congrArg some rfl)⟩,
    f24 := ⟨ "slices.reverseRangeCmpFunc[ossuary/due.job]", of_decide_eq_true (id (Eq.refl true)), Eq.trans Tryz.func117 (congrArg some rfl)⟩,
    f25 := ⟨ "slices.partialInsertionSortCmpFunc[ossuary/due.job]", of_decide_eq_true (id (Eq.refl true)), Eq.trans Tryz.func118 (congrArg some rfl)⟩,
    f26 := ⟨ "slices.partitionEqualCmpFunc[ossuary/due.job]", of_decide_eq_true (id (Eq.refl true)), Eq.trans Tryz.func119 (congrArg some rfl)⟩,
    f27 := ⟨ "slices.partitionCmpFunc[ossuary/due.job]", of_decide_eq_true (id (Eq.refl true)), Eq.trans Tryz.func120 (congrArg some rfl)⟩,
    f28:=Eq.trans Tryz.func121 (congrArg some rfl),
    f29:=Eq.trans Tryz.func122 (congrArg some rfl),
    f46 := ⟨ "slices.siftDownCmpFunc[ossuary/due.job]", of_decide_eq_true (id (Eq.refl true)), Eq.trans Tryz.func127 (congrArg some rfl)⟩,
    f47:=Eq.trans Tryz.func128 (congrArg some rfl),
    f48:=Eq.trans Tryz.func129 (congrArg some rfl),
    f49 := ⟨ "slices.medianAdjacentCmpFunc[ossuary/due.job]", of_decide_eq_true (id (Eq.refl true)), Eq.trans Tryz.func130 (congrArg some rfl)⟩,
    f50 := ⟨ "slices.medianCmpFunc[ossuary/due.job]", of_decide_eq_true (id (Eq.refl true)), Eq.trans Tryz.func131 (congrArg some rfl)⟩,
    f57 := ⟨ "slices.order2CmpFunc[ossuary/due.job]", of_decide_eq_true (id (Eq.refl true)), Eq.trans Tryz.func133 (congrArg some rfl)⟩,
    t0:=Tryz.underlying0,
    a0:=Tryz.isAgg0,
    z0:=Tryz.sizeOf0,
    v0:=Tryz.zeroValue0,
    t3:=Tryz.underlying3,
    a3:=Tryz.isAgg3,
    z3:=Tryz.sizeOf3,
    v3:=Tryz.zeroValue3,
    t4:=Tryz.underlying4,
    a4:=Tryz.isAgg4,
    z4:=Tryz.sizeOf4,
    v4:=Tryz.zeroValue4,
    t5:=Tryz.underlying5,
    a5:=Tryz.isAgg5,
    z5:=Tryz.sizeOf5,
    v5:=Tryz.zeroValue5,
    t9:=Tryz.underlying9,
    a9:=Tryz.isAgg9,
    z9:=Tryz.sizeOf9,
    v9:=Tryz.zeroValue9,
    t22:=Tryz.underlying74,
    a22:=Tryz.isAgg74,
    z22:=Tryz.sizeOf74,
    v22:=Tryz.zeroValue74,
    t25:=Tryz.underlying84,
    a25:=Tryz.isAgg84,
    z25:=Tryz.sizeOf84,
    v25:=Tryz.zeroValue84,
    t39:=Tryz.underlying150,
    a39:=Tryz.isAgg150,
    z39:=Tryz.sizeOf150,
    v39:=Tryz.zeroValue150,
    t45:=Tryz.underlying168,
    a45:=Tryz.isAgg168,
    z45:=Tryz.sizeOf168,
    v45:=Tryz.zeroValue168,
    t46:=Tryz.underlying169,
    a46:=Tryz.isAgg169,
    z46:=Tryz.sizeOf169,
    v46:=Tryz.zeroValue169,
    t50:=Tryz.underlying131,
    a50:=Tryz.isAgg131,
    z50:=Tryz.sizeOf131,
    v50:=Tryz.zeroValue131,
    t53:=Tryz.underlying175,
    a53:=Tryz.isAgg175,
    z53:=Tryz.sizeOf175,
    v53:=Tryz.zeroValue175,
    t55:=Tryz.underlying177,
    a55:=Tryz.isAgg177,
    z55:=Tryz.sizeOf177,
    v55:=Tryz.zeroValue177,
    t66:=Tryz.underlying180,
    a66:=Tryz.isAgg180,
    z66:=Tryz.sizeOf180,
    v66:=Tryz.zeroValue180,
    t70:=Tryz.underlying184,
    a70:=Tryz.isAgg184,
    z70:=Tryz.sizeOf184,
    v70:=Tryz.zeroValue184,
    t76:=Tryz.underlying186,
    a76:=Tryz.isAgg186,
    z76:=Tryz.sizeOf186,
    v76:=Tryz.zeroValue186,
    t77:=Tryz.underlying187,
    a77:=Tryz.isAgg187,
    z77:=Tryz.sizeOf187,
    v77:=Tryz.zeroValue187 }
theorem tL {α κ ν:Type} [Inhabited α] {enc:α → List Value} {k:Nat} {e:TypeId} (hk:∀ x,(enc x).length = k) (h1:∀ x,∀ v ∈ enc x,v.oneCell' = true) (cf:α → α → Int) (hO:SWO (ltOf cf)) {g:FuncId} (eg:∀ args w,(callFunc g args).run Tryz.prog w = .ok (.enter g args) w) {b1 T:Nat} {cs:List Value} {sv:Value} {ek:κ → Value} {ev:ν → Value} {m:List (κ × ν)} (hsp:∀ x y:α,bk Tryz.prog g [.agg (enc x).toArray,.agg (enc y).toArray,pt b1 0] [box b1 T cs,co sv ek ev m] (fun v M=>v = .int .i64 (cf x y) ∧ M = [box b1 T cs,co sv ek ev m])) (svr:Value) (l:List α) (hl:l.length < 4611686018427387904) (hz:dh Tryz.prog 77 = some k:=by kernel_rfl) :
    bk Tryz.prog 66 [svr,.func (.func g) #[] #[pt b1 0]] [own svr e k l.length (fl enc l),box b1 T cs,co sv ek ev m] (fun v M=>∃ l2:List α,l2.Perm l ∧ l2.Pairwise (fun x y=>ltOf cf y x = false) ∧ v = .tuple #[] ∧ M = [own svr e k l2.length (fl enc l2),box b1 T cs,co sv ek ev m]) :=
  rf hk cf hsp (fun sd cap d w hC hH hb hs=>AnyQ.slices_SortFunc rg k Tryz.isAgg77 (fun w=>eZ w hz) enc hk h1 cf hO g #[pt b1 0] sd 0 cap d w eg hC hH hb hs) (fun p cap w=>AnyF.slices_SortFunc_none rg p cap _ w) svr l hl
end Go.Proofs.YtnjfjmbanmaciaaGreat.E
end
section
set_option linter.unusedVariables false
set_option linter.unusedSimpArgs false
namespace Go.Proofs.YtnjfjmbanmaciaaGreat.E
open Go Go.RowKit
def aZ (b:Nat) (T:TypeId) (cs:List Value):HP:=⟨fun _ s=>s b (.cells cs.toArray T (0,0)),fun h _ hs=>hs _ _ h,[]⟩
def xR (A:HP):Prop:=∀ o s,A.p o s → A.p (fun _ _=>False) s
theorem rj {b T:Nat} {cs:List Value}:xR (aZ b T cs):=fun _ _ h=>h
def xK (A B:HP):Prop:=∀ o s s',(∀ b x,o b x → s' b x) → (∀ b x,s b x → s' b x) → A.p o s → B.p (fun _ _=>False) s'
theorem nN {b T:Nat} {cs:List Value}:xK (box b T cs) (aZ b T cs):=fun _ _ _ ho _ h=>ho _ _ h
theorem wg {sv:Value} {e sz n:Nat} {cs:List Value}:xK (own sv e sz n cs) (rd sv n sz cs):=fun o s s' ho hs h=>by
  obtain ⟨h1,h2,A,c,h3,h4,h5⟩:=qw sv e sz n cs o s h
  refine ⟨h1,h2,A,c,h3,h4,fun hp=>?_⟩
  obtain ⟨a,ha,hsp,C,T,fr,hb,hc⟩:=h5 hp
  exact ⟨a,ha,hsp,C,T,fr,Or.inr (hb.elim (ho _ _) (hs _ _)),hc⟩
theorem cV.share {w:World} {L:List HP} (h:cV w L) (i:Nat) {A B:HP} (hi:L[i]? = some A) (hAB:xK A B):cV w (L.set i B):=by
  obtain ⟨own,S,hd,hs,hl,hsl,hat⟩:=h
  have hlen:=(List.getElem?_eq_some_iff.1 hi).1
  refine ⟨fun j b=>j ≠ i ∧ own j b,fun b=>S b ∨ own i b,fun j k b hj hk=>hd j k b hj.2 hk.2,?_,fun j b hj=>hl j b hj.2,?_,?_⟩
  · rintro j b ⟨hji,hj⟩ (hS | hI)
    · exact hs j b hj hS
    · exact hji (hd _ _ b hj hI)
  · rintro b (hS | hI)
    · exact hsl b hS
    · exact hl i b hI
  · intro j C hC
    by_cases h1:j = i
    · subst h1
      rw [List.getElem?_set_self hlen] at hC
      cases hC
      exact B.mono (hAB _ _ (jj w fun b=>S b ∨ own j b) (fun b x hx=>⟨Or.inr hx.1,hx.2⟩) (fun b x hx=>⟨Or.inl hx.1,hx.2⟩) (hat j A hi)) (fun _ _ q=>q.elim) (fun _ _ q=>q)
    · rw [List.getElem?_set_ne (by omega)] at hC
      exact C.mono (hat j C hC) (fun b x hx=>⟨⟨h1,hx.1⟩,hx.2⟩) (fun b x hx=>⟨Or.inl hx.1,hx.2⟩)
theorem cV.dup {w:World} {L:List HP} (h:cV w L) (i:Nat) {A:HP} (hi:L[i]? = some A) (hA:xR A):cV w (A :: L):=by
  obtain ⟨own,S,hd,hs,hl,hsl,hat⟩:=h
  refine ⟨fun j=>match j with | 0=>fun _=>False | j + 1=>own j,S,?_,?_,?_,hsl,?_⟩
  · intro j k b hj hk
    cases j <;> cases k <;> simp only at hj hk
    exact congrArg _ (hd _ _ b hj hk)
  · intro j b hj
    cases j <;> simp only at hj
    exact hs _ b hj
  · intro j b hj
    cases j <;> simp only at hj
    exact hl _ b hj
  · intro j C hC
    cases j with
    | zero =>
      simp at hC; subst hC
      exact A.mono (hA _ _ (hat i A hi)) (fun _ _ q=>q.elim) (fun _ _ q=>q)
    | succ j =>
      simp at hC
      exact hat j C hC
section
variable {n:Nat} {w0:World} {F L L':List HP} {ρ:gW} {X:Act → World → Prop}
theorem kj (i:Nat) {A B:HP} (hi:L[i]? = some A) (hAB:xK A B) (hL:L.set i B = L') (k:bW (St n w0 F ρ L') X):bW (St n w0 F ρ L) X:=by
  intro a w h
  have hlt:=(List.getElem?_eq_some_iff.1 hi).1
  have:=cV.share h.sat i (by rw [List.getElem?_append_left hlt]; exact hi) hAB
  rw [List.set_append_left _ _ hlt,hL] at this
  exact k a w ⟨h.defers,h.size,h.has,this,h.keeps⟩
theorem sG (i:Nat) {A:HP} (hi:L[i]? = some A) (hA:xR A) (k:bW (St n w0 F ρ (A :: L)) X):bW (St n w0 F ρ L) X:=by
  intro a w h
  have hlt:=(List.getElem?_eq_some_iff.1 hi).1
  have:=cV.dup h.sat i (by rw [List.getElem?_append_left hlt]; exact hi) hA
  exact k a w ⟨h.defers,h.size,h.has,this,h.keeps⟩
end
theorem sf {L:List HP} {i b T o:Nat} {cs vs:List Value} (hi:L[i]? = some (aZ b T cs)) (hv:∀ j v,vs[j]? = some v → cs[o + j]? = some v):kN L (pt b o) vs:=by
  intro F w h
  have hlt:=(List.getElem?_eq_some_iff.1 hi).1
  refine ⟨_,rfl,fun j v hj=>?_⟩
  have hh:w.heap[b]? = some (.cells cs.toArray T (0,0)):=h.says (φ:=w.heap[b]? = some (.cells cs.toArray T (0,0))) i (aZ b T cs) (by rw [List.getElem?_append_left hlt]; exact hi) fun _ _ hA=>hA.2
  rw [Addr.add_lit]
  simp [World.cell?,hh,hv j v hj]
theorem eX {L:List HP} {i b T o:Nat} {cs:List Value} {v:Value} (hi:L[i]? = some (aZ b T cs)) (hv:cs[o]? = some v):kN L (pt b o) [v] :=
  sf hi fun j u hj=>by
    match j,hj with
    | 0,hj=>simp at hj; subst hj; simpa using hv
end Go.Proofs.YtnjfjmbanmaciaaGreat.E
end
section
set_option linter.unusedVariables false
set_option linter.unusedSimpArgs false
namespace Go.Proofs.YtnjfjmbanmaciaaGreat.E
open Go Go.RowKit
theorem tp (z:Array Value) (k:Nat) (hz:z.size = k) (hk:0 < k) (c:Nat):∀ (l:Nat),l ≤ c → ((madeCells z (c * k)).toList.take (l * k)) = (List.replicate l z.toList).flatten:=by
  intro l hlc
  apply List.ext_getElem?
  intro i
  rw [List.getElem?_take]
  have e2:(List.replicate l z.toList).flatten = (List.range (l * k)).map (fun i=>z[i % z.size]!):=by
    clear hlc
    induction l with
    | zero=>simp
    | succ l ih =>
      rw [List.replicate_succ',List.flatten_append,ih,Nat.succ_mul,List.range_add,List.map_append]
      congr 1
      simp only [List.flatten_cons,List.flatten_nil,List.append_nil]
      apply List.ext_getElem
      · simp [hz]
      · intro j h1 h2
        simp only [List.getElem_map,List.getElem_range]
        have hj:j < k:=by simpa [hz] using h1
        have e3:(l * k + j) % z.size = j:=by rw [hz,Nat.add_comm,Nat.add_mul_mod_self_right,Nat.mod_eq_of_lt hj]
        rw [e3,getElem!_pos z j (by omega)]
        simp
  rw [e2]
  have hle:l * k ≤ c * k:=Nat.mul_le_mul_right k hlc
  by_cases h:i < l * k
  · rw [if_pos h]
    simp [madeCells,h,show i < c * k by omega]
  · rw [if_neg h,List.getElem?_eq_none (by simp; omega)]
end Go.Proofs.YtnjfjmbanmaciaaGreat.E
end
section
set_option linter.unusedVariables false
set_option linter.unusedSimpArgs false
namespace Go.Proofs.YtnjfjmbanmaciaaGreat.E
open Go Go.RowKit
theorem vf {α:Type} {L:List α} {i:Nat} {A:α} (h:L[i]? = some A):L.set i A = L:=by
  apply List.ext_getElem?
  intro j
  rw [List.getElem?_set]
  by_cases q:i = j
  · subst q
    have hlt:=(List.getElem?_eq_some_iff.1 h).1
    rw [if_pos rfl,if_pos hlt,h]
  · rw [if_neg q]
theorem vu {α:Type} (enc:α → List Value) (k:Nat) (z:α):fl enc (List.replicate k z) = (List.replicate k (enc z)).flatten:=by
  induction k with
  | zero=>rfl
  | succ k ih =>
    rw [List.replicate_succ,List.replicate_succ,List.flatten_cons,← ih]
    unfold fl
    rw [List.flatMap_cons]
theorem uC {α:Type} (enc:α → List Value) (a b:List α):fl enc (a ++ b) = fl enc a ++ fl enc b:=by unfold fl; rw [List.flatMap_append]
section
variable {P:Program} {ρ:gW} {L:List HP} {dd:Option Tmp} {ty:TypeId} {pos:String} {after:Array Edge} {gg:Option (Nat × Bool)}
theorem tO {α:Type} {t e sz lo n:Nat} {x:Operand} {sv:Value} {l:List α} {enc:α → List Value} {z:α} {zz:List Value} (i:Nat) (hx:ev ρ x = some (il sv lo n (sz + 1))) (ht:fp P t = some e) (hz:fA P e = some zz) (hez:enc z = zz)
    (he:∀ x,(enc x).length = sz + 1) (hz1:zz.all (·.oneCell') = true) (hi:L[i]? = some (own sv e (sz + 1) l.length (fl enc l))) (hn:n = l.length) (hlo:lo ≤ l.length) :
    OT P ⟨dd,.call { callee:=.builtin .clear,args:=#[x],argTypes:=#[t] },ty,pos,after,gg⟩ ρ L (fun _ M=>M = L.set i (own sv e (sz + 1) (l.take lo ++ List.replicate (l.length - lo) z).length (fl enc (l.take lo ++ List.replicate (l.length - lo) z)))):=by
  intro F a w K Q ha hs hk
  subst hn
  have hlt:=(List.getElem?_eq_some_iff.1 hi).1
  have hi':(L ++ F)[i]? = some (own sv e (sz + 1) l.length (fl enc l)):=by rw [List.getElem?_append_left hlt]; exact hi
  have hl':(l.take lo ++ List.replicate (l.length - lo) z).length = l.length:=by simp; omega
  have form:(sv = .slice none 0 0 ∧ l.length = 0) ∨ ∃ g cap cur,sv = .slice (some ⟨g,0,none⟩) l.length cap ∧ w.heap[g]? = some (.cells cur e (0,0)) ∧ l.length ≤ cap ∧ cap ≤ maxLen ∧ cur.size = cap * (sz + 1) ∧ cur.toList.take (l.length * (sz + 1)) = fl enc l :=
    hs.says (φ:=(sv = .slice none 0 0 ∧ l.length = 0) ∨ ∃ g cap cur,sv = .slice (some ⟨g,0,none⟩) l.length cap ∧ w.heap[g]? = some (.cells cur e (0,0)) ∧ l.length ≤ cap ∧ cap ≤ maxLen ∧ cur.size = cap * (sz + 1) ∧ cur.toList.take (l.length * (sz + 1)) = fl enc l) i _ hi' fun U S hp =>
      hp.2.imp id fun ⟨g,cap,cur,q1,q2,q3,q4,q5,q6⟩=>⟨g,cap,cur,q1,q2.2,q3,q4,q5,q6⟩
  by_cases hk0:l.length - lo = 0
  · have hll:l.take lo ++ List.replicate (l.length - lo) z = l:=by rw [hk0,List.take_of_length_le (by omega)]; simp
    have hsub:∃ A c,il sv lo l.length (sz + 1) = .slice A 0 c:=by
      rcases form with ⟨rfl,h0⟩ | ⟨g,cap,cur,rfl,_⟩
      · exact ⟨_,_,by simp only [il]; rw [hk0]⟩
      · exact ⟨_,_,by simp only [il]; rw [hk0]⟩
    obtain ⟨A,c,hsub⟩:=hsub
    rw [hsub] at hx
    have hrun:(Builtin.clear_ #[t] ty #[.slice A 0 c]).run P w = .ok (.tuple #[]) w:=by
      cases A <;> simp [Builtin.clear_,run_underlying (cc ht)]
    unfold Oper.wp
    simp only [execOp,resolve,invoke,builtin,List.map_toArray,List.map_cons,List.map_nil,bF ha hx,Sem.run_bind,Sem.run_pure,Result.andThen_ok,hrun,Oper.upon]
    exact hk _ _ _ rfl (by rw [hll,vf hi]; exact hs) (dA.refl _)
  · rcases form with ⟨_,h0⟩ | ⟨g,cap,cur,rfl,hg,hmc,hcm,hcs2,htk⟩
    · omega
    have hsub:il (.slice (some ⟨g,0,none⟩) l.length cap) lo l.length (sz + 1) = .slice (some ⟨g,lo * (sz + 1),none⟩) (l.length - lo) (cap - lo):=by
      simp only [il]
      rw [if_neg (by omega)]
      simp only [Option.map_some]
      have hadd:(⟨g,0,none⟩:Addr).add (lo * (sz + 1)) = ⟨g,lo * (sz + 1),none⟩:=by unfold Addr.add; split <;> simp_all
      rw [hadd]
    rw [hsub] at hx
    obtain ⟨zv,hzv,hzz⟩:=ki w hz
    have hzs:zv.cells.size = sz + 1:=by rw [← Array.length_toList,hzz,← hez,he]
    obtain ⟨us,hus⟩:∃ us,us = (Builtin.zeroCells zv.cells (l.length - lo)).toList:=⟨_,rfl⟩
    have husl:us.length = (l.length - lo) * (sz + 1):=by rw [hus]; simp [Builtin.zeroCells,hzs]
    have husf:us = fl enc (List.replicate (l.length - lo) z):=by
      have hm:=tp zv.cells (sz + 1) hzs (by omega) (l.length - lo) (l.length - lo) (Nat.le_refl _)
      rw [vu,hez,← hzz,← hm,hus,List.take_of_length_le (by simp [size_madeCells])]
      unfold Builtin.zeroCells madeCells
      rw [hzs]
    have hone:∀ v ∈ us,v.oneCell' = true:=by
      intro v hv
      rw [husf,vu] at hv
      simp only [List.mem_flatten,List.mem_replicate] at hv
      obtain ⟨q,⟨_,hq⟩,hv⟩:=hv
      rw [hq,hez] at hv
      exact (List.all_eq_true.1 hz1) v hv
    have hmz:=Nat.mul_le_mul_right (sz + 1) hmc
    have hfit:lo * (sz + 1) + us.length = l.length * (sz + 1):=by
      rw [husl,← Nat.add_mul]
      congr 1
      omega
    have hst:=run_storeCells_at P g (lo * (sz + 1)) e us 0 cur w hg (by rw [hcs2]; omega) hone
    simp only [Nat.add_zero] at hst
    obtain ⟨k',hk'⟩:∃ k',l.length - lo = k' + 1:=⟨l.length - lo - 1,by omega⟩
    rw [hk'] at hx
    have hrun:(Builtin.clear_ #[t] ty #[.slice (some ⟨g,lo * (sz + 1),none⟩) (k' + 1) (cap - lo)]).run P w = .ok (.tuple #[]) (w.setRow g (cur.toList.take (lo * (sz + 1)) ++ us ++ cur.toList.drop (lo * (sz + 1) + us.length)).toArray):=by
      have hus2:(Builtin.zeroCells zv.cells (k' + 1)).toList = us:=by rw [hus,hk']
      simp [Builtin.clear_,run_underlying (cc ht),hzv,hus2,hst]
    unfold Oper.wp
    simp only [execOp,resolve,invoke,builtin,List.map_toArray,List.map_cons,List.map_nil,bF ha hx,Sem.run_bind,Sem.run_pure,Result.andThen_ok,hrun,Oper.upon]
    refine hk _ _ _ rfl ?_ ⟨rfl,rfl,rfl,by simp [World.setRow],Nat.le_refl _⟩
    rw [hl']
    have hcl:(fl enc l).length = l.length * (sz + 1):=fk he l
    have hle:lo * (sz + 1) ≤ cur.toList.length:=by rw [Array.length_toList,hcs2]; omega
    have key:(cur.toList.take (lo * (sz + 1)) ++ us ++ cur.toList.drop (lo * (sz + 1) + us.length)).take (l.length * (sz + 1)) = fl enc (l.take lo ++ List.replicate (l.length - lo) z):=by
      have hX:(cur.toList.take (lo * (sz + 1)) ++ us).length = l.length * (sz + 1):=by
        rw [List.length_append,List.length_take,Nat.min_eq_left hle,hfit]
      rw [List.take_append,List.take_of_length_le (by rw [hX]; exact Nat.le_refl _),hX,Nat.sub_self,List.take_zero,List.append_nil,uC,← husf]
      congr 1
      have hlm:lo * (sz + 1) ≤ l.length * (sz + 1):=Nat.mul_le_mul_right _ hlo
      have e1:cur.toList.take (lo * (sz + 1)) = (fl enc l).take (lo * (sz + 1)):=by rw [← htk,List.take_take,Nat.min_eq_left hlm]
      rw [e1]
      exact nO he lo l
    have:=hs.upd (w':=w.setRow g (cur.toList.take (lo * (sz + 1)) ++ us ++ cur.toList.drop (lo * (sz + 1) + us.length)).toArray) i _ (own (.slice (some ⟨g,0,none⟩) l.length cap) e (sz + 1) l.length (fl enc (l.take lo ++ List.replicate (l.length - lo) z))) hi' (by simp [World.setRow]) fun U S hA hU hS hUS=>by
      have hUg:U g:=by
        rcases hA.2 with ⟨q1,_⟩ | ⟨g',cap',cur',q1,q2,_⟩
        · cases q1
        · cases q1; exact q2.1
      refine ⟨U,fun _ hb=>.inl hb,fun c _ hc=>setRow_other w g c _ (fun e=>hc (e ▸ hUg)),?_,.inr ⟨g,cap,_,rfl,⟨hUg,setRow_heap w g cur _ e _ hg⟩,hmc,hcm,?_,key⟩⟩
      · rw [fk he,hl']
      · have hcz:cur.toList.length = cap * (sz + 1):=by rw [Array.length_toList,hcs2]
        simp only [List.size_toArray,List.length_append,List.length_take,List.length_drop]
        omega
    rw [List.set_append_left _ _ hlt] at this
    exact this
end
end Go.Proofs.YtnjfjmbanmaciaaGreat.E
end
section
set_option linter.unusedVariables false
set_option linter.unusedSimpArgs false
set_option maxHeartbeats 8000000
set_option maxRecDepth 100000
namespace Go.Proofs.YtnjfjmbanmaciaaGreat.DueTargets
open Go Go.RowKit E
open Go.Value (int bool slice agg)
def aL (x:av):List Value:=[(Value.int .i64 x.Part.Tier),(Value.int .i64 x.Part.Index),(Value.int .i64 x.Seg),(Value.int .i64 x.Mark),(Value.int .i64 x.Rows),(Value.bool x.Cold)]
theorem gm (x:av):(aL x).all (·.oneCell') = true:=rfl
theorem cx (x:av):(aL x).length = 6:=rfl
def ab (x:ag):List Value:=[(Value.int .i64 x.k),(Value.int .i64 x.v.Part.Tier),(Value.int .i64 x.v.Part.Index),(Value.int .i64 x.v.Seg),(Value.int .i64 x.v.Mark),(Value.int .i64 x.v.Rows),(Value.bool x.v.Cold)]
theorem cv (x:ag):(ab x).all (·.oneCell') = true:=rfl
theorem aK (x:ag):(ab x).length = 7:=rfl
def aI (x:bl):List Value:=[(Value.int .i64 x.kind),(Value.int .i64 x.p.Tier),(Value.int .i64 x.p.Index)]
theorem nD (x:bl):(aI x).all (·.oneCell') = true:=rfl
theorem nI (x:bl):(aI x).length = 3:=rfl
def gM (x:gp):List Value:=[(Value.int .i64 x.Kind),(Value.int .i64 x.Part.Tier),(Value.int .i64 x.Part.Index),(Value.int .i64 x.Try),(Value.int .i64 x.At)]
theorem nJ (x:gp):(gM x).all (·.oneCell') = true:=rfl
theorem nC (x:gp):(gM x).length = 5:=rfl
theorem uV:ik Tryz.prog 27 = some true:=by kernel_rfl
theorem uq:dh Tryz.prog 27 = some 14:=by kernel_rfl
theorem fL:fA Tryz.prog 30 = some [(Value.pointer none),(Value.slice none 0 0),(Value.int .i64 0),(Value.int .i64 0),(Value.int .i64 0),(Value.int .i64 0),(Value.int .i64 0),(Value.int .i64 0),(Value.int .i64 0),(Value.int .i64 0),(Value.int .i64 0),(Value.int .i64 0),(Value.int .i64 0),(Value.bool false)]:=by kernel_rfl
theorem gi:fA Tryz.prog 31 = some [(Value.slice none 0 0),(Value.slice none 0 0),(Value.int .i64 0),(Value.int .i64 0),(Value.int .i64 0),(Value.int .i64 0),(Value.int .i64 0),(Value.int .i64 0),(Value.int .i64 0),(Value.int .i64 0),(Value.int .i64 0),(Value.int .i64 0),(Value.int .i64 0),(Value.bool false)]:=by kernel_rfl
theorem iO:db Tryz.prog 27 0 = some (0,22):=by kernel_rfl
theorem gC:dh Tryz.prog 22 = some 1:=by kernel_rfl
theorem gU:ik Tryz.prog 22 = some false:=by kernel_rfl
theorem cz:fp Tryz.prog 22 = some 54:=by kernel_rfl
theorem go:gT Tryz.prog 30 = some [(0,1),(1,1),(2,9),(11,1),(12,1),(13,1)]:=by kernel_rfl
theorem gL:gT Tryz.prog 31 = some [(0,1),(1,1),(2,9),(11,1),(12,1),(13,1)]:=by kernel_rfl
theorem bZ:dh Tryz.prog 30 = some 14:=by kernel_rfl
theorem dJ:dh Tryz.prog 31 = some 14:=by kernel_rfl
theorem jy:db Tryz.prog 27 1 = some (1,23):=by kernel_rfl
theorem jI:dh Tryz.prog 23 = some 1:=by kernel_rfl
theorem jQ:ik Tryz.prog 23 = some false:=by kernel_rfl
theorem dO:fp Tryz.prog 23 = some 2:=by kernel_rfl
theorem jF:db Tryz.prog 27 2 = some (2,25):=by kernel_rfl
theorem cX:dh Tryz.prog 25 = some 9:=by kernel_rfl
theorem fJ:ik Tryz.prog 25 = some true:=by kernel_rfl
theorem mG:db Tryz.prog 25 0 = some (0,2):=by kernel_rfl
theorem aU:dh Tryz.prog 2 = some 1:=by kernel_rfl
theorem ba:ik Tryz.prog 2 = some false:=by kernel_rfl
theorem iw:bL Tryz.prog 45 = true:=by kernel_rfl
theorem jB:db Tryz.prog 25 1 = some (1,2):=by kernel_rfl
theorem jA:db Tryz.prog 25 2 = some (2,2):=by kernel_rfl
theorem jz:db Tryz.prog 25 3 = some (3,2):=by kernel_rfl
theorem jC:db Tryz.prog 25 4 = some (4,2):=by kernel_rfl
theorem mm:db Tryz.prog 25 5 = some (5,2):=by kernel_rfl
theorem my:db Tryz.prog 25 6 = some (6,2):=by kernel_rfl
theorem mI:db Tryz.prog 25 7 = some (7,3):=by kernel_rfl
theorem de:dh Tryz.prog 3 = some 1:=by kernel_rfl
theorem cI:ik Tryz.prog 3 = some false:=by kernel_rfl
theorem mz:db Tryz.prog 25 8 = some (8,2):=by kernel_rfl
theorem nf:bL Tryz.prog 21 = true:=by kernel_rfl
theorem iv:db Tryz.prog 27 3 = some (11,2):=by kernel_rfl
theorem iz:db Tryz.prog 27 4 = some (12,2):=by kernel_rfl
theorem rE:fA Tryz.prog 130 = some [(Value.slice none 0 0)]:=by kernel_rfl
theorem pT:gT Tryz.prog 130 = some [(0,1)]:=by kernel_rfl
theorem pk:bL Tryz.prog 46 = true:=by kernel_rfl
theorem pB:fA Tryz.prog 99 = some [(Value.pointer none)]:=by kernel_rfl
theorem np:gT Tryz.prog 99 = some [(0,1)]:=by kernel_rfl
theorem pi:bL Tryz.prog 22 = true:=by kernel_rfl
theorem aW:dh Tryz.prog 54 = some 6:=by kernel_rfl
theorem ue:fA Tryz.prog 64 = some [(Value.slice none 0 0),(Value.slice none 0 0)]:=by kernel_rfl
theorem qE:gT Tryz.prog 64 = some [(0,1),(1,1)]:=by kernel_rfl
theorem fP:db Tryz.prog 99 0 = some (0,96):=by kernel_rfl
theorem gE:dh Tryz.prog 96 = some 1:=by kernel_rfl
theorem dH:ik Tryz.prog 96 = some false:=by kernel_rfl
theorem uE:fA Tryz.prog 96 = some [(Value.pointer none)]:=by kernel_rfl
theorem bP:db Tryz.prog 130 0 = some (0,128):=by kernel_rfl
theorem cD:dh Tryz.prog 128 = some 1:=by kernel_rfl
theorem dB:ik Tryz.prog 128 = some false:=by kernel_rfl
theorem kw:bL Tryz.prog 112 = true:=by kernel_rfl
theorem pw:bL Tryz.prog 92 = true:=by kernel_rfl
theorem cu:fA Tryz.prog 54 = some [(Value.int .i64 0),(Value.int .i64 0),(Value.int .i64 0),(Value.int .i64 0),(Value.int .i64 0),(Value.bool false)]:=by kernel_rfl
theorem cl:ik Tryz.prog 54 = some true:=by kernel_rfl
theorem ir:fA Tryz.prog 135 = some [(Value.int .i64 0),(Value.int .i64 0),(Value.int .i64 0),(Value.int .i64 0),(Value.int .i64 0),(Value.int .i64 0),(Value.bool false)]:=by kernel_rfl
theorem mu:gT Tryz.prog 135 = some [(0,1),(1,6)]:=by kernel_rfl
theorem bt:fp Tryz.prog 128 = some 135:=by kernel_rfl
theorem bR:dh Tryz.prog 135 = some 7:=by kernel_rfl
theorem kW:jv Tryz.prog 135 = some 56:=by kernel_rfl
theorem tv:bL Tryz.prog 76 = true:=by kernel_rfl
theorem uj:bL Tryz.prog 47 = true:=by kernel_rfl
theorem qc:db Tryz.prog 64 0 = some (0,62):=by kernel_rfl
theorem sV:dh Tryz.prog 62 = some 1:=by kernel_rfl
theorem uT:ik Tryz.prog 62 = some false:=by kernel_rfl
theorem oa:fp Tryz.prog 62 = some 36:=by kernel_rfl
theorem qj:db Tryz.prog 64 1 = some (1,22):=by kernel_rfl
theorem ce:db Tryz.prog 54 0 = some (0,36):=by kernel_rfl
theorem aN:dh Tryz.prog 36 = some 2:=by kernel_rfl
theorem bp:ik Tryz.prog 36 = some true:=by kernel_rfl
theorem cJ:db Tryz.prog 36 0 = some (0,3):=by kernel_rfl
theorem cS:fA Tryz.prog 36 = some [(Value.int .i64 0),(Value.int .i64 0)]:=by kernel_rfl
theorem eM:gT Tryz.prog 36 = some [(0,1),(1,1)]:=by kernel_rfl
theorem pj:bL Tryz.prog 53 = true:=by kernel_rfl
theorem uD:bL Tryz.prog 85 = true:=by kernel_rfl
theorem uh:bL Tryz.prog 54 = true:=by kernel_rfl
theorem jd:bL Tryz.prog 26 = true:=by kernel_rfl
theorem ej:db Tryz.prog 36 1 = some (1,2):=by kernel_rfl
theorem mM:bL Tryz.prog 72 = true:=by kernel_rfl
theorem mg:db Tryz.prog 54 1 = some (2,2):=by kernel_rfl
theorem lF:bL Tryz.prog 106 = true:=by kernel_rfl
theorem mA:db Tryz.prog 54 3 = some (4,2):=by kernel_rfl
theorem mi:db Tryz.prog 54 2 = some (3,2):=by kernel_rfl
theorem iR:db Tryz.prog 54 4 = some (5,4):=by kernel_rfl
theorem js:dh Tryz.prog 4 = some 1:=by kernel_rfl
theorem jY:ik Tryz.prog 4 = some false:=by kernel_rfl
theorem ud:bL Tryz.prog 79 = true:=by kernel_rfl
theorem rQ:bL Tryz.prog 103 = true:=by kernel_rfl
theorem oQ:bL Tryz.prog 102 = true:=by kernel_rfl
theorem uJ:bL Tryz.prog 75 = true:=by kernel_rfl
theorem kl:bL Tryz.prog 44 = true:=by kernel_rfl
theorem um:fA Tryz.prog 22 = some [(Value.slice none 0 0)]:=by kernel_rfl
theorem gw:db Tryz.prog 135 0 = some (0,2):=by kernel_rfl
theorem oH:bL Tryz.prog 105 = true:=by kernel_rfl
theorem lK:bL Tryz.prog 104 = true:=by kernel_rfl
theorem jN:bL Tryz.prog 77 = true:=by kernel_rfl
theorem jh:db Tryz.prog 135 1 = some (1,54):=by kernel_rfl
theorem mN:bL Tryz.prog 58 = true:=by kernel_rfl
theorem iq:gT Tryz.prog 54 = some [(0,2),(2,1),(3,1),(4,1),(5,1)]:=by kernel_rfl
theorem si:Tryz.prog.eqGuardType Tryz.prog.depth 36 = false:=by kernel_rfl
theorem me {x y:Operand} (x0:Int) (x1:Int) (y0:Int) (y1:Int) (w:World):(do eqGuard .eql 36 x y (.agg #[(Value.int .i64 x0),(Value.int .i64 x1)]) (.agg #[(Value.int .i64 y0),(Value.int .i64 y1)]); binOp .eql 36 (.agg #[(Value.int .i64 x0),(Value.int .i64 x1)]) (.agg #[(Value.int .i64 y0),(Value.int .i64 y1)])).run Tryz.prog w = .ok (.bool ((x0 == y0) && ((x1 == y1) && true))) w :=
  pA si (km Tryz.underlying36 (by kernel_rfl) (hE rfl (eh cI rfl) (eh cI rfl) (jZ Tryz.underlying3 _ _) (hE rfl (eh ba rfl) (eh ba rfl) (jZ Tryz.underlying2 _ _) mH))) w
theorem mR:bL Tryz.prog 20 = true:=by kernel_rfl
theorem mX:bL Tryz.prog 29 = true:=by kernel_rfl
theorem jP:jv Tryz.prog 54 = some 48:=by kernel_rfl
theorem rp:bL Tryz.prog 107 = true:=by kernel_rfl
theorem tB:ik Tryz.prog 135 = some true:=by kernel_rfl
theorem ti:bL Tryz.prog 80 = true:=by kernel_rfl
theorem rJ:bL Tryz.prog 108 = true:=by kernel_rfl
theorem sR:bL Tryz.prog 81 = true:=by kernel_rfl
theorem tY:bL Tryz.prog 50 = true:=by kernel_rfl
theorem sY:bL Tryz.prog 23 = true:=by kernel_rfl
theorem oI:bL Tryz.prog 123 = true:=by kernel_rfl
theorem lM:bL Tryz.prog 110 = true:=by kernel_rfl
theorem ko:bL Tryz.prog 99 = true:=by kernel_rfl
theorem ua:bL Tryz.prog 87 = true:=by kernel_rfl
theorem ph:bL Tryz.prog 57 = true:=by kernel_rfl
theorem pd:bL Tryz.prog 56 = true:=by kernel_rfl
theorem iY:bL Tryz.prog 70 = true:=by kernel_rfl
theorem lQ:bL Tryz.prog 109 = true:=by kernel_rfl
theorem tG:bL Tryz.prog 82 = true:=by kernel_rfl
theorem tS:bL Tryz.prog 52 = true:=by kernel_rfl
theorem uB:bL Tryz.prog 98 = true:=by kernel_rfl
theorem uG:bL Tryz.prog 71 = true:=by kernel_rfl
theorem jH:bL Tryz.prog 38 = true:=by kernel_rfl
theorem un:bL Tryz.prog 83 = true:=by kernel_rfl
theorem sX:bL Tryz.prog 84 = true:=by kernel_rfl
theorem tX:bL Tryz.prog 24 = true:=by kernel_rfl
theorem mb:db Tryz.prog 27 5 = some (13,4):=by kernel_rfl
theorem fI:ik Tryz.prog 30 = some true:=by kernel_rfl
theorem gV:ik Tryz.prog 31 = some true:=by kernel_rfl
theorem qX:bL Tryz.prog 6 = true:=by kernel_rfl
theorem jD:db Tryz.prog 30 2 = some (2,25):=by kernel_rfl
theorem jG:db Tryz.prog 30 3 = some (11,2):=by kernel_rfl
theorem tf:fA Tryz.prog 93 = some [(Value.int .i64 0),(Value.int .i64 0),(Value.int .i64 0)]:=by kernel_rfl
theorem kz:kF Tryz.prog 93 = some (3,3):=by kernel_rfl
theorem lT:fA Tryz.prog 155 = some [(Value.int .i64 0),(Value.int .i64 0),(Value.int .i64 0),(Value.int .i64 0),(Value.int .i64 0),(Value.int .i64 0),(Value.int .i64 0),(Value.int .i64 0),(Value.int .i64 0),(Value.int .i64 0),(Value.int .i64 0),(Value.int .i64 0),(Value.int .i64 0),(Value.int .i64 0),(Value.int .i64 0),(Value.int .i64 0),(Value.int .i64 0),(Value.int .i64 0)]:=by kernel_rfl
theorem gQ:fA Tryz.prog 154 = some [(Value.int .i64 0),(Value.int .i64 0)]:=by kernel_rfl
theorem fQ:gT Tryz.prog 154 = some [(0,1),(1,1)]:=by kernel_rfl
theorem dy:kF Tryz.prog 155 = some (9,154):=by kernel_rfl
theorem dU:dh Tryz.prog 154 = some 2:=by kernel_rfl
theorem lJ:dh Tryz.prog 155 = some 18:=by kernel_rfl
theorem uv:ik Tryz.prog 155 = some true:=by kernel_rfl
theorem rV:bL Tryz.prog 100 = true:=by kernel_rfl
theorem oK:fA Tryz.prog 157 = some [(Value.int .i64 0),(Value.int .i64 0),(Value.int .i64 0),(Value.int .i64 0),(Value.int .i64 0),(Value.int .i64 0),(Value.int .i64 0),(Value.int .i64 0),(Value.int .i64 0)]:=by kernel_rfl
theorem fV:kF Tryz.prog 157 = some (9,2):=by kernel_rfl
theorem ox:dh Tryz.prog 157 = some 9:=by kernel_rfl
theorem tT:ik Tryz.prog 157 = some true:=by kernel_rfl
theorem ro:bL Tryz.prog 101 = true:=by kernel_rfl
theorem fB:db Tryz.prog 154 0 = some (0,2):=by kernel_rfl
theorem fD:db Tryz.prog 154 1 = some (1,2):=by kernel_rfl
theorem tK:bL Tryz.prog 73 = true:=by kernel_rfl
theorem nZ:fA Tryz.prog 159 = some [(Value.int .i64 0),(Value.int .i64 0),(Value.int .i64 0),(Value.int .i64 0)]:=by kernel_rfl
theorem nk:kF Tryz.prog 159 = some (4,2):=by kernel_rfl
theorem sg:dh Tryz.prog 159 = some 4:=by kernel_rfl
theorem tN:bL Tryz.prog 74 = true:=by kernel_rfl
theorem nb:bL Tryz.prog 43 = true:=by kernel_rfl
theorem pC:bL Tryz.prog 19 = true:=by kernel_rfl
theorem kv:db Tryz.prog 30 0 = some (0,28):=by kernel_rfl
theorem ng:dh Tryz.prog 28 = some 1:=by kernel_rfl
theorem lf:ik Tryz.prog 28 = some false:=by kernel_rfl
theorem ls:bL Tryz.prog 10 = true:=by kernel_rfl
theorem qH:bL Tryz.prog 8 = true:=by kernel_rfl
theorem qb:db Tryz.prog 31 2 = some (2,25):=by kernel_rfl
theorem pH:db Tryz.prog 31 3 = some (11,2):=by kernel_rfl
theorem pr:bL Tryz.prog 28 = true:=by kernel_rfl
theorem tI:bL Tryz.prog 86 = true:=by kernel_rfl
theorem ul:bL Tryz.prog 55 = true:=by kernel_rfl
theorem sP:bL Tryz.prog 27 = true:=by kernel_rfl
theorem pL:db Tryz.prog 31 0 = some (0,22):=by kernel_rfl
theorem tH:bL Tryz.prog 59 = true:=by kernel_rfl
theorem uo:bL Tryz.prog 30 = true:=by kernel_rfl
theorem mU:bL Tryz.prog 11 = true:=by kernel_rfl
theorem vq:bL Tryz.prog 9 = true:=by kernel_rfl
theorem jm:fA Tryz.prog 2 = some [(Value.int .i64 0)]:=by kernel_rfl
theorem px:fA Tryz.prog 25 = some [(Value.int .i64 0),(Value.int .i64 0),(Value.int .i64 0),(Value.int .i64 0),(Value.int .i64 0),(Value.int .i64 0),(Value.int .i64 0),(Value.int .i64 0),(Value.int .i64 0)]:=by kernel_rfl
theorem qU:gT Tryz.prog 25 = some [(0,1),(1,1),(2,1),(3,1),(4,1),(5,1),(6,1),(7,1),(8,1)]:=by kernel_rfl
theorem ux:bL Tryz.prog 25 = true:=by kernel_rfl
theorem rB:fA Tryz.prog 112 = some [(Value.pointer none),(Value.slice none 0 0),(Value.int .i64 0),(Value.int .i64 0),(Value.int .i64 0),(Value.int .i64 0),(Value.int .i64 0),(Value.int .i64 0),(Value.int .i64 0),(Value.int .i64 0),(Value.int .i64 0),(Value.int .i64 0),(Value.int .i64 0),(Value.bool false),(Value.map none)]:=by kernel_rfl
theorem pM:gT Tryz.prog 112 = some [(0,14),(14,1)]:=by kernel_rfl
theorem rU:fA Tryz.prog 110 = some [(Value.pointer none)]:=by kernel_rfl
theorem rZ:dh Tryz.prog 110 = some 1:=by kernel_rfl
theorem jf:ik Tryz.prog 110 = some false:=by kernel_rfl
theorem fU:db Tryz.prog 112 0 = some (0,30):=by kernel_rfl
theorem qe:db Tryz.prog 30 1 = some (1,23):=by kernel_rfl
theorem pE:jv Tryz.prog 2 = some 8:=by kernel_rfl
theorem uz:bL Tryz.prog 89 = true:=by kernel_rfl
theorem mn:db Tryz.prog 30 4 = some (12,2):=by kernel_rfl
theorem pm:bL Tryz.prog 90 = true:=by kernel_rfl
theorem oJ:bL Tryz.prog 111 = true:=by kernel_rfl
theorem ut:bL Tryz.prog 88 = true:=by kernel_rfl
theorem uw:bL Tryz.prog 60 = true:=by kernel_rfl
theorem uH:fA Tryz.prog 23 = some [(Value.slice none 0 0)]:=by kernel_rfl
theorem tj:bL Tryz.prog 61 = true:=by kernel_rfl
theorem lD:db Tryz.prog 112 1 = some (14,72):=by kernel_rfl
theorem mL:dh Tryz.prog 72 = some 1:=by kernel_rfl
theorem kf:ik Tryz.prog 72 = some false:=by kernel_rfl
theorem jM:fA Tryz.prog 77 = some [(Value.int .i64 0),(Value.int .i64 0),(Value.int .i64 0)]:=by kernel_rfl
theorem qA:gT Tryz.prog 77 = some [(0,1),(1,2)]:=by kernel_rfl
theorem mE:tq Tryz.prog 72 = some (77,2):=by kernel_rfl
theorem pP:vH Tryz.prog 77 (vA aI):=⟨fun x y=>by
    have h:uK Tryz.prog (9999 + 1) 77 (vA aI x) (vA aI y) _:=(km Tryz.underlying77 (by kernel_rfl) (hE rfl (eh cI rfl) (eh cI rfl) (jZ Tryz.underlying3 _ _) (hE rfl (lW bp aN) (lW bp aN) (km Tryz.underlying36 (by kernel_rfl) (hE rfl (eh cI rfl) (eh cI rfl) (jZ Tryz.underlying3 _ _) (hE rfl (eh ba rfl) (eh ba rfl) (jZ Tryz.underlying2 _ _) mH))) mH)))
    refine xl h ?_
    obtain ⟨_,⟨_,_⟩⟩:=x
    obtain ⟨_,⟨_,_⟩⟩:=y
    rw [Bool.eq_iff_iff]
    simp [and_assoc],fun b x w=>by kernel_rfl,by kernel_rfl,fun x=>by
    show Instr.sameBits (9999 + 1) _ _ = true
    simp [vA,aI,Instr.sameBits,xL]⟩
theorem ll:bL Tryz.prog 64 = true:=by kernel_rfl
theorem pz:bL Tryz.prog 63 = true:=by kernel_rfl
theorem td:bL Tryz.prog 94 = true:=by kernel_rfl
theorem ub:bL Tryz.prog 93 = true:=by kernel_rfl
theorem tl:bL Tryz.prog 62 = true:=by kernel_rfl
theorem tP:ik Tryz.prog 136 = some false:=by kernel_rfl
theorem pK:db Tryz.prog 30 5 = some (13,4):=by kernel_rfl
theorem uy:bL Tryz.prog 31 = true:=by kernel_rfl
theorem tc:fA Tryz.prog 72 = some [(Value.map none)]:=by kernel_rfl
theorem ui:bL Tryz.prog 33 = true:=by kernel_rfl
theorem kC:db Tryz.prog 77 0 = some (0,3):=by kernel_rfl
theorem pv:bL Tryz.prog 68 = true:=by kernel_rfl
theorem te:bL Tryz.prog 36 = true:=by kernel_rfl
theorem kP:ik Tryz.prog 77 = some true:=by kernel_rfl
theorem gD:dh Tryz.prog 77 = some 3:=by kernel_rfl
theorem vR (w:World):(zeroValue 2).run Tryz.prog w = .ok ((Value.int .i64) 0) w:=by kernel_rfl
theorem pe:bL Tryz.prog 69 = true:=by kernel_rfl
theorem tQ:bL Tryz.prog 37 = true:=by kernel_rfl
theorem ld:fp Tryz.prog 123 = some 3:=by kernel_rfl
theorem vz:fA Tryz.prog 3 = some [(Value.int .i64 0)]:=by kernel_rfl
theorem tk:bL Tryz.prog 35 = true:=by kernel_rfl
theorem sU:bL Tryz.prog 32 = true:=by kernel_rfl
theorem kI:fp Tryz.prog 74 = some 77:=by kernel_rfl
theorem pQ:db Tryz.prog 77 1 = some (1,36):=by kernel_rfl
theorem lj:fA Tryz.prog 51 = some [(Value.int .i64 0),(Value.int .i64 0),(Value.int .i64 0),(Value.int .i64 0),(Value.int .i64 0)]:=by kernel_rfl
theorem nr:gT Tryz.prog 51 = some [(0,1),(1,2),(3,1),(4,1)]:=by kernel_rfl
theorem kD:fp Tryz.prog 44 = some 51:=by kernel_rfl
theorem ln:dh Tryz.prog 51 = some 5:=by kernel_rfl
theorem rz:jv Tryz.prog 51 = some 40:=by kernel_rfl
theorem sS:bL Tryz.prog 13 = true:=by kernel_rfl
theorem vc:ik Tryz.prog 51 = some true:=by kernel_rfl
theorem rT:Tryz.prog.eqGuardType Tryz.prog.depth 51 = false:=by kernel_rfl
theorem wA {x y:Operand} (x0:Int) (x1:Int) (x2:Int) (x3:Int) (x4:Int) (y0:Int) (y1:Int) (y2:Int) (y3:Int) (y4:Int) (w:World):(do eqGuard .eql 51 x y (.agg #[(Value.int .i64 x0),(Value.int .i64 x1),(Value.int .i64 x2),(Value.int .i64 x3),(Value.int .i64 x4)]) (.agg #[(Value.int .i64 y0),(Value.int .i64 y1),(Value.int .i64 y2),(Value.int .i64 y3),(Value.int .i64 y4)]); binOp .eql 51 (.agg #[(Value.int .i64 x0),(Value.int .i64 x1),(Value.int .i64 x2),(Value.int .i64 x3),(Value.int .i64 x4)]) (.agg #[(Value.int .i64 y0),(Value.int .i64 y1),(Value.int .i64 y2),(Value.int .i64 y3),(Value.int .i64 y4)])).run Tryz.prog w = .ok (.bool ((x0 == y0) && (((x1 == y1) && ((x2 == y2) && true)) && ((x3 == y3) && ((x4 == y4) && true))))) w :=
  pA rT (km Tryz.underlying51 (by kernel_rfl) (hE rfl (eh cI rfl) (eh cI rfl) (jZ Tryz.underlying3 _ _) (hE rfl (lW bp aN) (lW bp aN) (km Tryz.underlying36 (by kernel_rfl) (hE rfl (eh cI rfl) (eh cI rfl) (jZ Tryz.underlying3 _ _) (hE rfl (eh ba rfl) (eh ba rfl) (jZ Tryz.underlying2 _ _) mH))) (hE rfl (eh cI rfl) (eh cI rfl) (jZ Tryz.underlying3 _ _) (hE rfl (eh ba rfl) (eh ba rfl) (jZ Tryz.underlying2 _ _) mH))))) w
theorem rh:bL Tryz.prog 7 = true:=by kernel_rfl
theorem rv:jv Tryz.prog 77 = some 24:=by kernel_rfl
theorem qM:ik Tryz.prog 74 = some false:=by kernel_rfl
theorem tz:dh Tryz.prog 74 = some 1:=by kernel_rfl
theorem tw:bL Tryz.prog 95 = true:=by kernel_rfl
theorem uf:bL Tryz.prog 65 = true:=by kernel_rfl
theorem tR:bL Tryz.prog 66 = true:=by kernel_rfl
theorem bG.spec (a0 a1 a2:Int) (r:Bool) (H:bG a0 a1 a2 = r):bk Tryz.prog 45 [I a0,I a1,I a2] [] (fun v M=>v = (bool r) ∧ M = []):=by
 unfold bG at H
 refine bh Tryz.func45 rfl 15 rfl (Nat.le_of_ble_eq_true rfl) fun F w0=>?_
 show bW (St 15 w0 F [(0,I a0),(1,I a1),(2,I a2)] []) _
 refine al (af (aa (ai rfl) rfl rfl rfl (am (al (af (aa (ak rfl) rfl rfl rfl (aa (ak rfl) rfl rfl rfl (aa (aC rfl rfl (iL _ _ _)) rfl rfl rfl (aa (ak rfl) rfl rfl rfl ?_)))))))))
 refine gN H (fun c2 H=>?_) fun c2 H=>?_
 ·refine au rfl rfl rfl (decide_eq_false c2) rfl rfl ?_
  refine au rfl rfl rfl (decide_eq_false c2) rfl rfl ?_
  refine au rfl rfl rfl (decide_eq_false c2) rfl rfl ?_
  refine aa (aE rfl rfl rfl (bC (decide_eq_false c2))) rfl rfl rfl (aa (ai rfl) rfl rfl rfl (am (aB ?_)))
  cases H
  refine aA [] (by decide) rfl ?_
  exact aP rfl rfl ⟨rfl,rfl⟩
 refine ar (ak rfl) rfl rfl rfl (decide_eq_true c2) rfl rfl ?_
 refine ar (ak rfl) rfl rfl rfl (decide_eq_true c2) rfl rfl ?_
 refine ar (aC rfl rfl (nY _ _ _)) rfl rfl rfl (decide_eq_true c2) rfl rfl ?_
 refine aa (aE rfl rfl rfl (bB (decide_eq_true c2))) rfl rfl rfl (aa (ai rfl) rfl rfl rfl (am (aB ?_)))
 cases H
 refine aA [] (by decide) rfl ?_
 exact aP rfl rfl ⟨rfl,rfl⟩
theorem bA.spec (a0_0 a0_1:Int) (a0_2 a0_3:Int) (a0_4 a0_5:Int) (a0_6 a0_7:Int) (a0_8 r:Int) (H:bA a0_0 a0_1 a0_2 a0_3 a0_4 a0_5 a0_6 a0_7 a0_8 = r):bk Tryz.prog 21 [agg #[I a0_0,I a0_1,I a0_2,I a0_3,I a0_4,I a0_5,I a0_6,I a0_7,I a0_8]] [] (fun v M=>v = (I r) ∧ M = []):=by
 unfold bA at H
 refine bh Tryz.func21 rfl 53 rfl (Nat.le_of_ble_eq_true rfl) fun F w0=>?_
 show bW (St 53 w0 F [(0,agg #[I a0_0,I a0_1,I a0_2,I a0_3,I a0_4,I a0_5,I a0_6,I a0_7,I a0_8])] []) _
 refine al (af ?_)
 refine aG (cm (cs:=[I a0_0,I a0_1,I a0_2,I a0_3,I a0_4,I a0_5,I a0_6,I a0_7,I a0_8]) rfl rfl) rfl rfl rfl ?_
 rintro _ _ ⟨b2,rfl,rfl⟩
 refine aa (ai rfl) rfl rfl rfl (am (al (al (af (aa (aw (sz:=0) (o:=0) rfl mG aU) rfl rfl rfl (aa (aF (v:=(I a0_0)) rfl ba (az (i:=0) rfl rfl)) rfl rfl rfl ?_))))))
 obtain ⟨x24,h24,H⟩:=bg H
 refine aG (bb (first:=[]) (cap:=[]) (xs:=[.tmp 4,.const (I 1),.const (I 1048576)]) rfl rfl iw rfl (bG.spec a0_0 1 1048576 _ h24)) rfl rfl rfl ?_
 rintro _ _ ⟨rfl,rfl⟩
 refine aa (eC rfl (eD _)) rfl rfl rfl (aa (ak rfl) rfl rfl rfl ?_)
 refine eV H (fun c24 H=>?_) fun c24 H=>?_
 ·refine au rfl rfl rfl c24 rfl rfl ?_
  refine au rfl rfl rfl c24 rfl rfl ?_
  refine au rfl rfl rfl c24 rfl rfl ?_
  refine au rfl rfl rfl c24 rfl rfl ?_
  refine aa (aE rfl rfl rfl (bB c24)) rfl rfl rfl (aa (ak rfl) rfl rfl rfl ?_)
  refine au rfl rfl rfl rfl rfl rfl ?_
  refine au rfl rfl rfl rfl rfl rfl ?_
  refine au rfl rfl rfl rfl rfl rfl ?_
  refine au rfl rfl rfl rfl rfl rfl ?_
  refine aa (aE rfl rfl rfl rfl) rfl rfl rfl (aa (ak rfl) rfl rfl rfl ?_)
  refine au rfl rfl rfl rfl rfl rfl ?_
  refine au rfl rfl rfl rfl rfl rfl ?_
  refine au rfl rfl rfl rfl rfl rfl ?_
  refine au rfl rfl rfl rfl rfl rfl ?_
  refine aa (aE rfl rfl rfl rfl) rfl rfl rfl (aa (ak rfl) rfl rfl rfl ?_)
  refine au rfl rfl rfl rfl rfl rfl ?_
  refine au rfl rfl rfl rfl rfl rfl ?_
  refine au rfl rfl rfl rfl rfl rfl ?_
  refine au rfl rfl rfl rfl rfl rfl ?_
  refine aa (aE rfl rfl rfl rfl) rfl rfl rfl (am (ax rfl rfl (al (af (aa (ai rfl) rfl rfl rfl (am (aB ?_)))))))
  cases H
  refine aA [] (by decide) rfl ?_
  exact aP rfl rfl ⟨rfl,rfl⟩
 refine ar (aw (sz:=0) (o:=0) rfl jB aU) rfl rfl rfl (Bool.eq_false_iff.2 c24) rfl rfl ?_
 refine ar (aF (v:=(I a0_1)) rfl ba (az (i:=0) rfl rfl)) rfl rfl rfl (Bool.eq_false_iff.2 c24) rfl rfl ?_
 obtain ⟨x25,h25,H⟩:=bg H
 refine cN (bb (first:=[]) (cap:=[]) (xs:=[.tmp 9,.const (I 0),.const (I 1048576)]) rfl rfl iw rfl (bG.spec a0_1 0 1048576 _ h25)) rfl rfl rfl (Bool.eq_false_iff.2 c24) rfl rfl ?_
 rintro _ _ ⟨rfl,rfl⟩
 refine ar (eC rfl (eD _)) rfl rfl rfl (Bool.eq_false_iff.2 c24) rfl rfl ?_
 refine aa (aE rfl rfl rfl (bC (Bool.eq_false_iff.2 c24))) rfl rfl rfl (aa (ak rfl) rfl rfl rfl ?_)
 refine eV H (fun c25 H=>?_) fun c25 H=>?_
 ·refine au rfl rfl rfl c25 rfl rfl ?_
  refine au rfl rfl rfl c25 rfl rfl ?_
  refine au rfl rfl rfl c25 rfl rfl ?_
  refine au rfl rfl rfl c25 rfl rfl ?_
  refine aa (aE rfl rfl rfl (bB c25)) rfl rfl rfl (aa (ak rfl) rfl rfl rfl ?_)
  refine au rfl rfl rfl rfl rfl rfl ?_
  refine au rfl rfl rfl rfl rfl rfl ?_
  refine au rfl rfl rfl rfl rfl rfl ?_
  refine au rfl rfl rfl rfl rfl rfl ?_
  refine aa (aE rfl rfl rfl rfl) rfl rfl rfl (aa (ak rfl) rfl rfl rfl ?_)
  refine au rfl rfl rfl rfl rfl rfl ?_
  refine au rfl rfl rfl rfl rfl rfl ?_
  refine au rfl rfl rfl rfl rfl rfl ?_
  refine au rfl rfl rfl rfl rfl rfl ?_
  refine aa (aE rfl rfl rfl rfl) rfl rfl rfl (am (ax rfl rfl (al (af (aa (ai rfl) rfl rfl rfl (am (aB ?_)))))))
  cases H
  refine aA [] (by decide) rfl ?_
  exact aP rfl rfl ⟨rfl,rfl⟩
 refine ar (aw (sz:=0) (o:=0) rfl jA aU) rfl rfl rfl (Bool.eq_false_iff.2 c25) rfl rfl ?_
 refine ar (aF (v:=(I a0_2)) rfl ba (az (i:=0) rfl rfl)) rfl rfl rfl (Bool.eq_false_iff.2 c25) rfl rfl ?_
 obtain ⟨x26,h26,H⟩:=bg H
 refine cN (bb (first:=[]) (cap:=[]) (xs:=[.tmp 15,.const (I 0),.const (I 1048576)]) rfl rfl iw rfl (bG.spec a0_2 0 1048576 _ h26)) rfl rfl rfl (Bool.eq_false_iff.2 c25) rfl rfl ?_
 rintro _ _ ⟨rfl,rfl⟩
 refine ar (eC rfl (eD _)) rfl rfl rfl (Bool.eq_false_iff.2 c25) rfl rfl ?_
 refine aa (aE rfl rfl rfl (bC (Bool.eq_false_iff.2 c25))) rfl rfl rfl (aa (ak rfl) rfl rfl rfl ?_)
 refine eV H (fun c26 H=>?_) fun c26 H=>?_
 ·refine au rfl rfl rfl c26 rfl rfl ?_
  refine au rfl rfl rfl c26 rfl rfl ?_
  refine au rfl rfl rfl c26 rfl rfl ?_
  refine au rfl rfl rfl c26 rfl rfl ?_
  refine aa (aE rfl rfl rfl (bB c26)) rfl rfl rfl (aa (ak rfl) rfl rfl rfl ?_)
  refine au rfl rfl rfl rfl rfl rfl ?_
  refine au rfl rfl rfl rfl rfl rfl ?_
  refine au rfl rfl rfl rfl rfl rfl ?_
  refine au rfl rfl rfl rfl rfl rfl ?_
  refine aa (aE rfl rfl rfl rfl) rfl rfl rfl (am (ax rfl rfl (al (af (aa (ai rfl) rfl rfl rfl (am (aB ?_)))))))
  cases H
  refine aA [] (by decide) rfl ?_
  exact aP rfl rfl ⟨rfl,rfl⟩
 refine ar (aw (sz:=0) (o:=0) rfl jz aU) rfl rfl rfl (Bool.eq_false_iff.2 c26) rfl rfl ?_
 refine ar (aF (v:=(I a0_3)) rfl ba (az (i:=0) rfl rfl)) rfl rfl rfl (Bool.eq_false_iff.2 c26) rfl rfl ?_
 obtain ⟨x27,h27,H⟩:=bg H
 refine cN (bb (first:=[]) (cap:=[]) (xs:=[.tmp 21,.const (I 0),.const (I 1048576)]) rfl rfl iw rfl (bG.spec a0_3 0 1048576 _ h27)) rfl rfl rfl (Bool.eq_false_iff.2 c26) rfl rfl ?_
 rintro _ _ ⟨rfl,rfl⟩
 refine ar (eC rfl (eD _)) rfl rfl rfl (Bool.eq_false_iff.2 c26) rfl rfl ?_
 refine aa (aE rfl rfl rfl (bC (Bool.eq_false_iff.2 c26))) rfl rfl rfl (aa (ak rfl) rfl rfl rfl ?_)
 refine eV H (fun c27 H=>?_) fun c27 H=>?_
 ·refine au rfl rfl rfl c27 rfl rfl ?_
  refine au rfl rfl rfl c27 rfl rfl ?_
  refine au rfl rfl rfl c27 rfl rfl ?_
  refine au rfl rfl rfl c27 rfl rfl ?_
  refine aa (aE rfl rfl rfl (bB c27)) rfl rfl rfl (am (ax rfl rfl (al (af (aa (ai rfl) rfl rfl rfl (am (aB ?_)))))))
  cases H
  refine aA [] (by decide) rfl ?_
  exact aP rfl rfl ⟨rfl,rfl⟩
 refine ar (aw (sz:=0) (o:=0) rfl jC aU) rfl rfl rfl (Bool.eq_false_iff.2 c27) rfl rfl ?_
 refine ar (aF (v:=(I a0_4)) rfl ba (az (i:=0) rfl rfl)) rfl rfl rfl (Bool.eq_false_iff.2 c27) rfl rfl ?_
 obtain ⟨x28,h28,H⟩:=bg H
 refine cN (bb (first:=[]) (cap:=[]) (xs:=[.tmp 27,.const (I 0),.const (I 1048576)]) rfl rfl iw rfl (bG.spec a0_4 0 1048576 _ h28)) rfl rfl rfl (Bool.eq_false_iff.2 c27) rfl rfl ?_
 rintro _ _ ⟨rfl,rfl⟩
 refine ar (eC rfl (eD _)) rfl rfl rfl (Bool.eq_false_iff.2 c27) rfl rfl ?_
 refine aa (aE rfl rfl rfl (bC (Bool.eq_false_iff.2 c27))) rfl rfl rfl (am ?_)
 refine eV H (fun c28 H=>?_) fun c28 H=>?_
 ·refine ax rfl c28 (al (af (aa (ai rfl) rfl rfl rfl (am (aB ?_)))))
  cases H
  refine aA [] (by decide) rfl ?_
  exact aP rfl rfl ⟨rfl,rfl⟩
 refine ay rfl (Bool.eq_false_iff.2 c28) (aM (al (al (af (aa (aw (sz:=0) (o:=0) rfl mm aU) rfl rfl rfl (aa (aF (v:=(I a0_5)) rfl ba (az (i:=0) rfl rfl)) rfl rfl rfl ?_))))))
 obtain ⟨x33,h33,H⟩:=bg H
 refine aG (bb (first:=[]) (cap:=[]) (xs:=[.tmp 32,.const (I 1),.const (I 1048576)]) rfl rfl iw rfl (bG.spec a0_5 1 1048576 _ h33)) rfl rfl rfl ?_
 rintro _ _ ⟨rfl,rfl⟩
 refine aa (eC rfl (eD _)) rfl rfl rfl (aa (ak rfl) rfl rfl rfl ?_)
 refine eV H (fun c33 H=>?_) fun c33 H=>?_
 ·refine au rfl rfl rfl c33 rfl rfl ?_
  refine au rfl rfl rfl c33 rfl rfl ?_
  refine au rfl rfl rfl c33 rfl rfl ?_
  refine au rfl rfl rfl c33 rfl rfl ?_
  refine aa (aE rfl rfl rfl (bB c33)) rfl rfl rfl (aa (ak rfl) rfl rfl rfl ?_)
  refine au rfl rfl rfl rfl rfl rfl ?_
  refine au rfl rfl rfl rfl rfl rfl ?_
  refine au rfl rfl rfl rfl rfl rfl ?_
  refine au rfl rfl rfl rfl rfl rfl ?_
  refine aa (aE rfl rfl rfl rfl) rfl rfl rfl (aa (ak rfl) rfl rfl rfl ?_)
  refine au rfl rfl rfl rfl rfl rfl ?_
  refine au rfl rfl rfl rfl rfl rfl ?_
  refine au rfl rfl rfl rfl rfl rfl ?_
  refine au rfl rfl rfl rfl rfl rfl ?_
  refine aa (aE rfl rfl rfl rfl) rfl rfl rfl (am (ax rfl rfl (al (af (aa (ai rfl) rfl rfl rfl (am (aB ?_)))))))
  cases H
  refine aA [] (by decide) rfl ?_
  exact aP rfl rfl ⟨rfl,rfl⟩
 refine ar (aw (sz:=0) (o:=0) rfl my aU) rfl rfl rfl (Bool.eq_false_iff.2 c33) rfl rfl ?_
 refine ar (aF (v:=(I a0_6)) rfl ba (az (i:=0) rfl rfl)) rfl rfl rfl (Bool.eq_false_iff.2 c33) rfl rfl ?_
 obtain ⟨x34,h34,H⟩:=bg H
 refine cN (bb (first:=[]) (cap:=[]) (xs:=[.tmp 37,.const (I 1),.const (I 1048576)]) rfl rfl iw rfl (bG.spec a0_6 1 1048576 _ h34)) rfl rfl rfl (Bool.eq_false_iff.2 c33) rfl rfl ?_
 rintro _ _ ⟨rfl,rfl⟩
 refine ar (eC rfl (eD _)) rfl rfl rfl (Bool.eq_false_iff.2 c33) rfl rfl ?_
 refine aa (aE rfl rfl rfl (bC (Bool.eq_false_iff.2 c33))) rfl rfl rfl (aa (ak rfl) rfl rfl rfl ?_)
 refine eV H (fun c34 H=>?_) fun c34 H=>?_
 ·refine au rfl rfl rfl c34 rfl rfl ?_
  refine au rfl rfl rfl c34 rfl rfl ?_
  refine au rfl rfl rfl c34 rfl rfl ?_
  refine au rfl rfl rfl c34 rfl rfl ?_
  refine aa (aE rfl rfl rfl (bB c34)) rfl rfl rfl (aa (ak rfl) rfl rfl rfl ?_)
  refine au rfl rfl rfl rfl rfl rfl ?_
  refine au rfl rfl rfl rfl rfl rfl ?_
  refine au rfl rfl rfl rfl rfl rfl ?_
  refine au rfl rfl rfl rfl rfl rfl ?_
  refine aa (aE rfl rfl rfl rfl) rfl rfl rfl (am (ax rfl rfl (al (af (aa (ai rfl) rfl rfl rfl (am (aB ?_)))))))
  cases H
  refine aA [] (by decide) rfl ?_
  exact aP rfl rfl ⟨rfl,rfl⟩
 refine ar (aw (sz:=0) (o:=0) rfl mI de) rfl rfl rfl (Bool.eq_false_iff.2 c34) rfl rfl ?_
 refine ar (aF (v:=(I a0_7)) rfl cI (az (i:=0) rfl rfl)) rfl rfl rfl (Bool.eq_false_iff.2 c34) rfl rfl ?_
 obtain ⟨x35,h35,H⟩:=bg H
 refine cN (bb (first:=[]) (cap:=[]) (xs:=[.tmp 43,.const (I 1),.const (I 64)]) rfl rfl iw rfl (bG.spec a0_7 1 64 _ h35)) rfl rfl rfl (Bool.eq_false_iff.2 c34) rfl rfl ?_
 rintro _ _ ⟨rfl,rfl⟩
 refine ar (eC rfl (eD _)) rfl rfl rfl (Bool.eq_false_iff.2 c34) rfl rfl ?_
 refine aa (aE rfl rfl rfl (bC (Bool.eq_false_iff.2 c34))) rfl rfl rfl (aa (ak rfl) rfl rfl rfl ?_)
 refine eV H (fun c35 H=>?_) fun c35 H=>?_
 ·refine au rfl rfl rfl c35 rfl rfl ?_
  refine au rfl rfl rfl c35 rfl rfl ?_
  refine au rfl rfl rfl c35 rfl rfl ?_
  refine au rfl rfl rfl c35 rfl rfl ?_
  refine aa (aE rfl rfl rfl (bB c35)) rfl rfl rfl (am (ax rfl rfl (al (af (aa (ai rfl) rfl rfl rfl (am (aB ?_)))))))
  cases H
  refine aA [] (by decide) rfl ?_
  exact aP rfl rfl ⟨rfl,rfl⟩
 refine ar (aw (sz:=0) (o:=0) rfl mz aU) rfl rfl rfl (Bool.eq_false_iff.2 c35) rfl rfl ?_
 refine ar (aF (v:=(I a0_8)) rfl ba (az (i:=0) rfl rfl)) rfl rfl rfl (Bool.eq_false_iff.2 c35) rfl rfl ?_
 obtain ⟨x36,h36,H⟩:=bg H
 refine cN (bb (first:=[]) (cap:=[]) (xs:=[.tmp 49,.const (I 100),.const (I 1048576)]) rfl rfl iw rfl (bG.spec a0_8 100 1048576 _ h36)) rfl rfl rfl (Bool.eq_false_iff.2 c35) rfl rfl ?_
 rintro _ _ ⟨rfl,rfl⟩
 refine ar (eC rfl (eD _)) rfl rfl rfl (Bool.eq_false_iff.2 c35) rfl rfl ?_
 refine aa (aE rfl rfl rfl (bC (Bool.eq_false_iff.2 c35))) rfl rfl rfl (am ?_)
 refine eV H (fun c36 H=>?_) fun c36 H=>?_
 ·refine ax rfl c36 (al (af (aa (ai rfl) rfl rfl rfl (am (aB ?_)))))
  cases H
  refine aA [] (by decide) rfl ?_
  exact aP rfl rfl ⟨rfl,rfl⟩
 refine ay rfl (Bool.eq_false_iff.2 c36) (aM (al (af (aa (ai rfl) rfl rfl rfl (am (aB ?_))))))
 cases H
 refine aA [] (by decide) rfl ?_
 exact aP rfl rfl ⟨rfl,rfl⟩
theorem da.spec (r:Unit) (H:da = r):bk Tryz.prog 46 [] [] (fun v M=>∃ b2:Nat,v = (pt b2 0) ∧ M = [box b2 130 [L0]]):=by
 unfold da at H
 refine bh Tryz.func46 rfl 3 rfl (Nat.le_of_ble_eq_true rfl) fun F w0=>?_
 show bW (St 3 w0 F [] []) _
 refine al (af (aa (ai rfl) rfl rfl rfl (am (al (af (aa (bx (is:=[]) (xs:=[]) (vs:=[]) rfl rfl (bc (cs:=[L0]) rE pT rfl)) rfl rfl rfl ?_))))))
 refine aG (cm (cs:=[L0]) rfl rfl) rfl rfl rfl ?_
 rintro _ _ ⟨b3,rfl,rfl⟩
 refine aa (ai rfl) rfl rfl rfl (am (aB ?_))
 cases H
 refine aA [0] (by decide) rfl ?_
 exact aP rfl rfl ⟨_,rfl,rfl⟩
theorem ip.spec (r:Unit) (H:ip = r):bk Tryz.prog 22 [] [] (fun v M=>∃ b3:Nat,∃ b4:Nat,v = (pt b3 0) ∧ M = [box b3 99 [pt b4 0],box b4 130 [L0]]):=by
 unfold ip at H
 refine bh Tryz.func22 rfl 4 rfl (Nat.le_of_ble_eq_true rfl) fun F w0=>?_
 show bW (St 4 w0 F [] []) _
 refine al (af (aa (ai rfl) rfl rfl rfl (am (al (af ?_)))))
 obtain ⟨u2,h2,H⟩:=bg H
 refine aG (cL (Lr:=[]) (first:=[]) (cap:=[]) (xs:=[]) rfl rfl pk rfl (da.spec _ h2) rfl) rfl rfl rfl ?_
 rintro _ _ ⟨_,⟨b5,rfl,rfl⟩,rfl⟩
 refine aa (bx (is:=[0]) (xs:=[.tmp 1]) (vs:=[pt b5 0]) rfl rfl (bc (cs:=[pt b5 0]) pB np rfl)) rfl rfl rfl ?_
 refine aG (cm (cs:=[pt b5 0]) rfl rfl) rfl rfl rfl ?_
 rintro _ _ ⟨b6,rfl,rfl⟩
 refine aa (ai rfl) rfl rfl rfl (am (aB ?_))
 cases H
 refine aA [0,1] (by decide) rfl ?_
 exact aP rfl rfl ⟨_,_,rfl,rfl⟩
theorem cF.spec (r:Unit) (H:cF = r):bk Tryz.prog 112 [L0] [] (fun v M=>∃ b2:Nat,v = (Value.func (.func 126) #[] #[pt b2 0]) ∧ M = [box b2 128 [L0]]):=by
 unfold cF at H
 refine bh Tryz.func112 rfl 4 rfl (Nat.le_of_ble_eq_true rfl) fun F w0=>?_
 show bW (St 4 w0 F [(0,L0)] []) _
 refine al (af ?_)
 refine aG (cm (cs:=[L0]) rfl rfl) rfl rfl rfl ?_
 rintro _ _ ⟨b3,rfl,rfl⟩
 refine aa (ai rfl) rfl rfl rfl (am (al (af (aa (fT (first:=[]) (cap:=[.tmp 1]) rfl rfl) rfl rfl rfl (aa (ai rfl) rfl rfl rfl (am (aB ?_)))))))
 cases H
 refine aA [0] (by decide) rfl ?_
 exact aP rfl rfl ⟨_,rfl,rfl⟩
theorem dz.spec (K yl0 p0:Nat) (Gm0:Type) (y0:Int → av → Gm0 → Option (Gm0 × Bool)) (x0y:Gm0) (Y0:Gm0 → HP) (hY0:∀ (t0_:Int) (t1_:av) (z_:Gm0) (r_:Gm0 × Bool),y0 t0_ t1_ z_ = some r_ → kK Tryz.prog yl0 [I t0_,agg #[I t1_.Part.Tier,I t1_.Part.Index,I t1_.Seg,I t1_.Mark,I t1_.Rows,bool t1_.Cold]] [Y0 z_] (fun v N=>v = .bool r_.2 ∧ N = [Y0 r_.1])) (r:Unit) (H:dz K Gm0 y0 x0y = some r):bk Tryz.prog 126 [(Value.func (.yield yl0) #[] #[]),pt p0 0] [(Y0 x0y),box p0 128 [L0]] (fun v M=>v = (tU #[]) ∧ M = [(Y0 x0y),box p0 128 [L0]]):=by
 unfold dz at H
 refine bh Tryz.func126 rfl 19 rfl (Nat.le_of_ble_eq_true rfl) fun F w0=>?_
 show bW (St 19 w0 F [(0,(Value.func (.yield yl0) #[] #[])),(1,pt p0 0)] [(Y0 x0y),box p0 128 [L0]]) _
 refine al (af (aa (aF (v:=L0) rfl dB (az (i:=1) rfl rfl)) rfl rfl rfl (aa (mj rfl bt) rfl rfl rfl (aa (ak rfl) rfl rfl rfl (am (bi ?_))))))
 refine dZ (fun k a w=>dG K k = some r ∧ St 19 w0 F [(0,(Value.func (.yield yl0) #[] #[])),(5,L0),(6,I 0),(7,I 0)] [(Y0 x0y),box p0 128 [L0]] a w) K ?_ ?_
 ·exact bj [0,1] (by decide) rfl (ae (t:=0) rfl (ae (t:=5) rfl (ae (t:=6) rfl (ae (t:=7) rfl (aS _))))) fun a w h=>⟨H,h⟩
 ·refine fun k=>dx fun H2=>?_
  cases k with
  | zero=>exact absurd H2 (by simp [dG])
  | succ k =>
   rw [dG] at H2
   refine al (af (aa (aC rfl rfl (cB _ _ _)) rfl rfl rfl (am (al (ay rfl rfl (cn ?_))))))
   cases H2
   refine fx ?_
   refine aA [0,1] (by decide) rfl ?_
   exact gc rfl ⟨rfl,rfl⟩
theorem gn.spec (a0 r:Int) (H:gn a0 = r):bk Tryz.prog 53 [I a0] [] (fun v M=>v = (I r) ∧ M = []):=by
 unfold gn at H
 refine bh Tryz.func53 rfl 5 rfl (Nat.le_of_ble_eq_true rfl) fun F w0=>?_
 show bW (St 5 w0 F [(0,I a0)] []) _
 refine al (af (aa (ai rfl) rfl rfl rfl (am (al (af (aa (ak rfl) rfl rfl rfl ?_))))))
 refine aa (aC rfl rfl fun w=>iS _ _ _ w (by decide)) rfl rfl rfl ?_
 refine aa (ai rfl) rfl rfl rfl (am (aB ?_))
 cases H
 refine aA [] (by decide) rfl ?_
 exact aP rfl rfl ⟨rfl,rfl⟩
theorem ja.spec (a0:Int) (r:(Int × Int × Int)) (H:ja a0 = r):bk Tryz.prog 85 [I a0] [] (fun v M=>v = (tU #[I r.1,I r.2.1,I r.2.2]) ∧ M = []):=by
 unfold ja at H
 refine bh Tryz.func85 rfl 62 rfl (Nat.le_of_ble_eq_true rfl) fun F w0=>?_
 show bW (St 62 w0 F [(0,I a0)] []) _
 refine al (af (aa (ai rfl) rfl rfl rfl (aa (ai rfl) rfl rfl rfl (aa (ai rfl) rfl rfl rfl (am (al (af (aa (ak rfl) rfl rfl rfl (aa (aC rfl rfl (ct _ _ _) ) rfl rfl rfl (aa (ai rfl) rfl rfl rfl (am ?_)))))))))))
 refine al (af (aa (ak rfl) rfl rfl rfl ?_))
 refine aa (aC rfl rfl fun w=>oG _ _ _ w (by decide)) rfl rfl rfl ?_
 refine aa (ai rfl) rfl rfl rfl (am (al (af (aa (ak rfl) rfl rfl rfl (aa (ak rfl) rfl rfl rfl ?_)))))
 refine aa (aC rfl rfl fun w=>iS _ _ _ w (by decide)) rfl rfl rfl ?_
 refine aa (aC rfl rfl (gY _ _ _) ) rfl rfl rfl (aa (ak rfl) rfl rfl rfl ?_)
 refine aa (aC rfl rfl fun w=>iS _ _ _ w (by decide)) rfl rfl rfl ?_
 refine aa (aC rfl rfl (ct _ _ _) ) rfl rfl rfl (aa (ak rfl) rfl rfl rfl ?_)
 refine aa (aC rfl rfl fun w=>iS _ _ _ w (by decide)) rfl rfl rfl ?_
 refine aa (aC rfl rfl (gY _ _ _) ) rfl rfl rfl ?_
 refine aa (aC rfl rfl fun w=>iS _ _ _ w (by decide)) rfl rfl rfl ?_
 refine aa (ai rfl) rfl rfl rfl (am (al (af (aa (ak rfl) rfl rfl rfl (aa (ak rfl) rfl rfl rfl (aa (aC rfl rfl (jO _ _ _) ) rfl rfl rfl (aa (ak rfl) rfl rfl rfl ?_)))))))
 refine aa (aC rfl rfl fun w=>iS _ _ _ w (by decide)) rfl rfl rfl ?_
 refine aa (aC rfl rfl (ct _ _ _) ) rfl rfl rfl (aa (ak rfl) rfl rfl rfl ?_)
 refine aa (aC rfl rfl fun w=>iS _ _ _ w (by decide)) rfl rfl rfl ?_
 refine aa (aC rfl rfl (gY _ _ _) ) rfl rfl rfl (aa (aC rfl rfl (gY _ _ _) ) rfl rfl rfl (aa (ai rfl) rfl rfl rfl (am (al (af (aa (ak rfl) rfl rfl rfl (aa (aC rfl rfl (jO _ _ _) ) rfl rfl rfl (aa (aC rfl rfl (ct _ _ _) ) rfl rfl rfl ?_))))))))
 refine aa (aC rfl rfl fun w=>iS _ _ _ w (by decide)) rfl rfl rfl ?_
 refine aa (ai rfl) rfl rfl rfl (am (al (af (aa (ak rfl) rfl rfl rfl (aa (ak rfl) rfl rfl rfl (aa (aC rfl rfl (jO _ _ _) ) rfl rfl rfl (aa (aC rfl rfl (ct _ _ _) ) rfl rfl rfl ?_)))))))
 refine aa (aC rfl rfl fun w=>iS _ _ _ w (by decide)) rfl rfl rfl ?_
 refine aa (aC rfl rfl (gY _ _ _) ) rfl rfl rfl (aa (aC rfl rfl (ct _ _ _) ) rfl rfl rfl (aa (ai rfl) rfl rfl rfl (am (al (af (aa (ak rfl) rfl rfl rfl ?_))))))
 refine aa (aC rfl rfl fun w=>iS _ _ _ w (by decide)) rfl rfl rfl ?_
 refine aa (aC rfl rfl (jO _ _ _) ) rfl rfl rfl (aa (ak rfl) rfl rfl rfl (aa (aC rfl rfl (ct _ _ _) ) rfl rfl rfl (aa (ai rfl) rfl rfl rfl (am (al (al (af (aa (ak rfl) rfl rfl rfl (aa (aC rfl rfl (cB _ _ _)) rfl rfl rfl (am ?_))))))))))
 refine eV H (fun c4 H=>?_) fun c4 H=>?_
 ·refine ax rfl (decide_eq_true c4) (al (af (aa (ak rfl) rfl rfl rfl (aa (ak rfl) rfl rfl rfl (aa (aC rfl rfl (ct _ _ _) ) rfl rfl rfl (aa (ak rfl) rfl rfl rfl (aa (ai rfl) rfl rfl rfl (aa (ai rfl) rfl rfl rfl (aa (ai rfl) rfl rfl rfl (am (aB ?_)))))))))))
  cases H
  refine aA [] (by decide) rfl ?_
  exact dq (vs:=[I (aO ((aO ((aO (Int.tdiv (aO (a0 + 719468)) 146097)) * 400)) + (aO (Int.tdiv (aO ((aO ((aO ((Int.tmod (aO (a0 + 719468)) 146097) - (aO (Int.tdiv (Int.tmod (aO (a0 + 719468)) 146097) 1460)))) + (aO (Int.tdiv (Int.tmod (aO (a0 + 719468)) 146097) 36524)))) - (aO (Int.tdiv (Int.tmod (aO (a0 + 719468)) 146097) 146096)))) 365)))),I (aO ((aO (Int.tdiv (aO ((aO (5 * (aO ((Int.tmod (aO (a0 + 719468)) 146097) - (aO ((aO ((aO (365 * (aO (Int.tdiv (aO ((aO ((aO ((Int.tmod (aO (a0 + 719468)) 146097) - (aO (Int.tdiv (Int.tmod (aO (a0 + 719468)) 146097) 1460)))) + (aO (Int.tdiv (Int.tmod (aO (a0 + 719468)) 146097) 36524)))) - (aO (Int.tdiv (Int.tmod (aO (a0 + 719468)) 146097) 146096)))) 365)))) + (aO (Int.tdiv (aO (Int.tdiv (aO ((aO ((aO ((Int.tmod (aO (a0 + 719468)) 146097) - (aO (Int.tdiv (Int.tmod (aO (a0 + 719468)) 146097) 1460)))) + (aO (Int.tdiv (Int.tmod (aO (a0 + 719468)) 146097) 36524)))) - (aO (Int.tdiv (Int.tmod (aO (a0 + 719468)) 146097) 146096)))) 365)) 4)))) - (aO (Int.tdiv (aO (Int.tdiv (aO ((aO ((aO ((Int.tmod (aO (a0 + 719468)) 146097) - (aO (Int.tdiv (Int.tmod (aO (a0 + 719468)) 146097) 1460)))) + (aO (Int.tdiv (Int.tmod (aO (a0 + 719468)) 146097) 36524)))) - (aO (Int.tdiv (Int.tmod (aO (a0 + 719468)) 146097) 146096)))) 365)) 100)))))))) + 2)) 153)) + 3)),I (aO ((aO ((aO ((Int.tmod (aO (a0 + 719468)) 146097) - (aO ((aO ((aO (365 * (aO (Int.tdiv (aO ((aO ((aO ((Int.tmod (aO (a0 + 719468)) 146097) - (aO (Int.tdiv (Int.tmod (aO (a0 + 719468)) 146097) 1460)))) + (aO (Int.tdiv (Int.tmod (aO (a0 + 719468)) 146097) 36524)))) - (aO (Int.tdiv (Int.tmod (aO (a0 + 719468)) 146097) 146096)))) 365)))) + (aO (Int.tdiv (aO (Int.tdiv (aO ((aO ((aO ((Int.tmod (aO (a0 + 719468)) 146097) - (aO (Int.tdiv (Int.tmod (aO (a0 + 719468)) 146097) 1460)))) + (aO (Int.tdiv (Int.tmod (aO (a0 + 719468)) 146097) 36524)))) - (aO (Int.tdiv (Int.tmod (aO (a0 + 719468)) 146097) 146096)))) 365)) 4)))) - (aO (Int.tdiv (aO (Int.tdiv (aO ((aO ((aO ((Int.tmod (aO (a0 + 719468)) 146097) - (aO (Int.tdiv (Int.tmod (aO (a0 + 719468)) 146097) 1460)))) + (aO (Int.tdiv (Int.tmod (aO (a0 + 719468)) 146097) 36524)))) - (aO (Int.tdiv (Int.tmod (aO (a0 + 719468)) 146097) 146096)))) 365)) 100)))))) - (aO (Int.tdiv (aO ((aO (153 * (aO (Int.tdiv (aO ((aO (5 * (aO ((Int.tmod (aO (a0 + 719468)) 146097) - (aO ((aO ((aO (365 * (aO (Int.tdiv (aO ((aO ((aO ((Int.tmod (aO (a0 + 719468)) 146097) - (aO (Int.tdiv (Int.tmod (aO (a0 + 719468)) 146097) 1460)))) + (aO (Int.tdiv (Int.tmod (aO (a0 + 719468)) 146097) 36524)))) - (aO (Int.tdiv (Int.tmod (aO (a0 + 719468)) 146097) 146096)))) 365)))) + (aO (Int.tdiv (aO (Int.tdiv (aO ((aO ((aO ((Int.tmod (aO (a0 + 719468)) 146097) - (aO (Int.tdiv (Int.tmod (aO (a0 + 719468)) 146097) 1460)))) + (aO (Int.tdiv (Int.tmod (aO (a0 + 719468)) 146097) 36524)))) - (aO (Int.tdiv (Int.tmod (aO (a0 + 719468)) 146097) 146096)))) 365)) 4)))) - (aO (Int.tdiv (aO (Int.tdiv (aO ((aO ((aO ((Int.tmod (aO (a0 + 719468)) 146097) - (aO (Int.tdiv (Int.tmod (aO (a0 + 719468)) 146097) 1460)))) + (aO (Int.tdiv (Int.tmod (aO (a0 + 719468)) 146097) 36524)))) - (aO (Int.tdiv (Int.tmod (aO (a0 + 719468)) 146097) 146096)))) 365)) 100)))))))) + 2)) 153)))) + 2)) 5)))) + 1))]) rfl ⟨rfl,⟨rfl,⟨rfl,trivial⟩⟩⟩ _ rfl ⟨rfl,rfl⟩
 refine ay rfl (decide_eq_false c4) (aM (al (af (aa (ak rfl) rfl rfl rfl (aa (aC rfl rfl (ct _ _ _) ) rfl rfl rfl (aa (ak rfl) rfl rfl rfl (aa (aC rfl rfl (gY _ _ _) ) rfl rfl rfl (aa (ak rfl) rfl rfl rfl (aa (ai rfl) rfl rfl rfl (aa (ai rfl) rfl rfl rfl (aa (ai rfl) rfl rfl rfl ?_)))))))))))
 refine am (aB ?_)
 cases H
 refine aA [] (by decide) rfl ?_
 exact dq (vs:=[I (aO ((aO ((aO ((aO (Int.tdiv (aO (a0 + 719468)) 146097)) * 400)) + (aO (Int.tdiv (aO ((aO ((aO ((Int.tmod (aO (a0 + 719468)) 146097) - (aO (Int.tdiv (Int.tmod (aO (a0 + 719468)) 146097) 1460)))) + (aO (Int.tdiv (Int.tmod (aO (a0 + 719468)) 146097) 36524)))) - (aO (Int.tdiv (Int.tmod (aO (a0 + 719468)) 146097) 146096)))) 365)))) + 1)),I (aO ((aO (Int.tdiv (aO ((aO (5 * (aO ((Int.tmod (aO (a0 + 719468)) 146097) - (aO ((aO ((aO (365 * (aO (Int.tdiv (aO ((aO ((aO ((Int.tmod (aO (a0 + 719468)) 146097) - (aO (Int.tdiv (Int.tmod (aO (a0 + 719468)) 146097) 1460)))) + (aO (Int.tdiv (Int.tmod (aO (a0 + 719468)) 146097) 36524)))) - (aO (Int.tdiv (Int.tmod (aO (a0 + 719468)) 146097) 146096)))) 365)))) + (aO (Int.tdiv (aO (Int.tdiv (aO ((aO ((aO ((Int.tmod (aO (a0 + 719468)) 146097) - (aO (Int.tdiv (Int.tmod (aO (a0 + 719468)) 146097) 1460)))) + (aO (Int.tdiv (Int.tmod (aO (a0 + 719468)) 146097) 36524)))) - (aO (Int.tdiv (Int.tmod (aO (a0 + 719468)) 146097) 146096)))) 365)) 4)))) - (aO (Int.tdiv (aO (Int.tdiv (aO ((aO ((aO ((Int.tmod (aO (a0 + 719468)) 146097) - (aO (Int.tdiv (Int.tmod (aO (a0 + 719468)) 146097) 1460)))) + (aO (Int.tdiv (Int.tmod (aO (a0 + 719468)) 146097) 36524)))) - (aO (Int.tdiv (Int.tmod (aO (a0 + 719468)) 146097) 146096)))) 365)) 100)))))))) + 2)) 153)) - 9)),I (aO ((aO ((aO ((Int.tmod (aO (a0 + 719468)) 146097) - (aO ((aO ((aO (365 * (aO (Int.tdiv (aO ((aO ((aO ((Int.tmod (aO (a0 + 719468)) 146097) - (aO (Int.tdiv (Int.tmod (aO (a0 + 719468)) 146097) 1460)))) + (aO (Int.tdiv (Int.tmod (aO (a0 + 719468)) 146097) 36524)))) - (aO (Int.tdiv (Int.tmod (aO (a0 + 719468)) 146097) 146096)))) 365)))) + (aO (Int.tdiv (aO (Int.tdiv (aO ((aO ((aO ((Int.tmod (aO (a0 + 719468)) 146097) - (aO (Int.tdiv (Int.tmod (aO (a0 + 719468)) 146097) 1460)))) + (aO (Int.tdiv (Int.tmod (aO (a0 + 719468)) 146097) 36524)))) - (aO (Int.tdiv (Int.tmod (aO (a0 + 719468)) 146097) 146096)))) 365)) 4)))) - (aO (Int.tdiv (aO (Int.tdiv (aO ((aO ((aO ((Int.tmod (aO (a0 + 719468)) 146097) - (aO (Int.tdiv (Int.tmod (aO (a0 + 719468)) 146097) 1460)))) + (aO (Int.tdiv (Int.tmod (aO (a0 + 719468)) 146097) 36524)))) - (aO (Int.tdiv (Int.tmod (aO (a0 + 719468)) 146097) 146096)))) 365)) 100)))))) - (aO (Int.tdiv (aO ((aO (153 * (aO (Int.tdiv (aO ((aO (5 * (aO ((Int.tmod (aO (a0 + 719468)) 146097) - (aO ((aO ((aO (365 * (aO (Int.tdiv (aO ((aO ((aO ((Int.tmod (aO (a0 + 719468)) 146097) - (aO (Int.tdiv (Int.tmod (aO (a0 + 719468)) 146097) 1460)))) + (aO (Int.tdiv (Int.tmod (aO (a0 + 719468)) 146097) 36524)))) - (aO (Int.tdiv (Int.tmod (aO (a0 + 719468)) 146097) 146096)))) 365)))) + (aO (Int.tdiv (aO (Int.tdiv (aO ((aO ((aO ((Int.tmod (aO (a0 + 719468)) 146097) - (aO (Int.tdiv (Int.tmod (aO (a0 + 719468)) 146097) 1460)))) + (aO (Int.tdiv (Int.tmod (aO (a0 + 719468)) 146097) 36524)))) - (aO (Int.tdiv (Int.tmod (aO (a0 + 719468)) 146097) 146096)))) 365)) 4)))) - (aO (Int.tdiv (aO (Int.tdiv (aO ((aO ((aO ((Int.tmod (aO (a0 + 719468)) 146097) - (aO (Int.tdiv (Int.tmod (aO (a0 + 719468)) 146097) 1460)))) + (aO (Int.tdiv (Int.tmod (aO (a0 + 719468)) 146097) 36524)))) - (aO (Int.tdiv (Int.tmod (aO (a0 + 719468)) 146097) 146096)))) 365)) 100)))))))) + 2)) 153)))) + 2)) 5)))) + 1))]) rfl ⟨rfl,⟨rfl,⟨rfl,trivial⟩⟩⟩ _ rfl ⟨rfl,rfl⟩
theorem cP.spec (a0 r:Int) (H:cP a0 = r):bk Tryz.prog 54 [I a0] [] (fun v M=>v = (I r) ∧ M = []):=by
 unfold cP at H
 refine bh Tryz.func54 rfl 18 rfl (Nat.le_of_ble_eq_true rfl) fun F w0=>?_
 show bW (St 18 w0 F [(0,I a0)] []) _
 refine al (af (aa (ai rfl) rfl rfl rfl (am (al (af (aa (ak rfl) rfl rfl rfl ?_))))))
 obtain ⟨x2,h2,H⟩:=bg H
 refine aG (bb (first:=[]) (cap:=[]) (xs:=[.tmp 7]) rfl rfl uD rfl (ja.spec a0 _ h2)) rfl rfl rfl ?_
 rintro _ _ ⟨rfl,rfl⟩
 refine aa (ak rfl) rfl rfl rfl (aa (aQ rfl rfl) rfl rfl rfl (aa (aQ rfl rfl) rfl rfl rfl (aa (aQ rfl rfl) rfl rfl rfl (aa (ai rfl) rfl rfl rfl (aa (ai rfl) rfl rfl rfl (aa (ai rfl) rfl rfl rfl (am (al (af (aa (ak rfl) rfl rfl rfl (aa (aC rfl rfl (gY _ _ _) ) rfl rfl rfl ?_)))))))))))
 refine aa (aC rfl rfl (jO _ _ _) ) rfl rfl rfl (aa (ak rfl) rfl rfl rfl (aa (aC rfl rfl (gY _ _ _) ) rfl rfl rfl (aa (aC rfl rfl (ct _ _ _) ) rfl rfl rfl (aa (ai rfl) rfl rfl rfl (am (aB ?_))))))
 cases H
 refine aA [] (by decide) rfl ?_
 exact aP rfl rfl ⟨rfl,rfl⟩
theorem ff.spec (a0 a1:Int) (r:(Int × Int × Bool)) (H:ff a0 a1 = r):bk Tryz.prog 26 [I a0,I a1] [] (fun v M=>v = (tU #[agg #[I r.1,I r.2.1],bool r.2.2]) ∧ M = []):=by
 unfold ff at H
 refine bh Tryz.func26 rfl 33 rfl (Nat.le_of_ble_eq_true rfl) fun F w0=>?_
 show bW (St 33 w0 F [(0,I a0),(1,I a1)] []) _
 refine al (af ?_)
 refine aG (bE cS) rfl rfl rfl ?_
 rintro _ _ ⟨b2,rfl,rfl⟩
 refine aa (ai rfl) rfl rfl rfl (am (al (al (af (aa (ak rfl) rfl rfl rfl (aa (aC rfl rfl (cB _ _ _)) rfl rfl rfl (aa (ak rfl) rfl rfl rfl ?_)))))))
 refine eV H (fun c13 H=>?_) fun c13 H=>?_
 ·refine au rfl rfl rfl (decide_eq_true c13) rfl rfl ?_
  refine au rfl rfl rfl (decide_eq_true c13) rfl rfl ?_
  refine aa (aE rfl rfl rfl (bB (decide_eq_true c13))) rfl rfl rfl (am (ax rfl rfl (al (af (aa (aJ (vs:=[I 0,I 0]) rfl bp aN (aH (i:=0) rfl)) rfl rfl rfl ?_)))))
  refine bn (aX (cs:=[I 0,I 0]) (cs':=[I 0,I 0]) (us:=[I 0,I 0]) (L':=[box b2 36 [I 0,I 0]]) 0 rfl rfl rfl (bq rfl) aN rfl rfl (by simp) rfl) rfl rfl ?_
  rintro _ _ rfl
  refine aa (ai rfl) rfl rfl rfl (am (aB ?_))
  subst H
  exact bM [] (by decide) rfl (vs:=[agg #[I 0,I 0],B0]) rfl ⟨⟨_,[I 0,I 0],rfl,aH (i:=0) rfl,.inl ⟨bp,aN,rfl⟩⟩,⟨rfl,trivial⟩⟩ _ rfl ⟨rfl,rfl⟩
 refine ar (ak rfl) rfl rfl rfl (decide_eq_false c13) rfl rfl ?_
 refine ar (aC rfl rfl (gK _ _ _)) rfl rfl rfl (decide_eq_false c13) rfl rfl ?_
 refine aa (aE rfl rfl rfl (bC (decide_eq_false c13))) rfl rfl rfl (am ?_)
 refine eV H (fun c14 H=>?_) fun c14 H=>?_
 ·refine ax rfl (decide_eq_true c14) (al (af (aa (aJ (vs:=[I 0,I 0]) rfl bp aN (aH (i:=0) rfl)) rfl rfl rfl ?_)))
  refine bn (aX (cs:=[I 0,I 0]) (cs':=[I 0,I 0]) (us:=[I 0,I 0]) (L':=[box b2 36 [I 0,I 0]]) 0 rfl rfl rfl (bq rfl) aN rfl rfl (by simp) rfl) rfl rfl ?_
  rintro _ _ rfl
  refine aa (ai rfl) rfl rfl rfl (am (aB ?_))
  subst H
  exact bM [] (by decide) rfl (vs:=[agg #[I 0,I 0],B0]) rfl ⟨⟨_,[I 0,I 0],rfl,aH (i:=0) rfl,.inl ⟨bp,aN,rfl⟩⟩,⟨rfl,trivial⟩⟩ _ rfl ⟨rfl,rfl⟩
 refine ay rfl (decide_eq_false c14) (aM (al (al (af (aa (ak rfl) rfl rfl rfl (am (bi (al (af (aa (aC rfl rfl (em _ _ _)) rfl rfl rfl (aa (ai rfl) rfl rfl rfl ?_)))))))))))
 refine am ?_
 refine eV H (fun c18 H=>?_) fun c18 H=>?_
 ·refine ax rfl (ee c18) (al (af (aa (ak rfl) rfl rfl rfl (aa (ak rfl) rfl rfl rfl (aa (bx (is:=[0,1]) (xs:=[.tmp 16,.tmp 17]) (vs:=[I a0,I a1]) rfl rfl (bc (cs:=[I a0,I a1]) cS eM rfl)) rfl rfl rfl ?_)))))
  refine bn (aX (cs:=[I 0,I 0]) (cs':=[I a0,I a1]) (us:=[I a0,I a1]) (L':=[box b2 36 [I a0,I a1]]) 0 rfl rfl rfl (bq rfl) aN rfl rfl (by simp) rfl) rfl rfl ?_
  rintro _ _ rfl
  refine aa (ai rfl) rfl rfl rfl (am (aB ?_))
  subst H
  exact bM [] (by decide) rfl (vs:=[agg #[I a0,I a1],bool true]) rfl ⟨⟨_,[I a0,I a1],rfl,aH (i:=0) rfl,.inl ⟨bp,aN,rfl⟩⟩,⟨rfl,trivial⟩⟩ _ rfl ⟨rfl,rfl⟩
 refine ay rfl (eJ c18) (al (af (aa (aC rfl rfl (em _ _ _)) rfl rfl rfl (aa (ai rfl) rfl rfl rfl (am ?_)))))
 refine eV H (fun c19 H=>?_) fun c19 H=>?_
 ·refine ax rfl (ee c19) (al (af (aa (ak rfl) rfl rfl rfl (aa (ak rfl) rfl rfl rfl ?_))))
  obtain ⟨x10,h10,H⟩:=bg H
  refine aG (bb (first:=[]) (cap:=[]) (xs:=[.tmp 22]) rfl rfl pj rfl (gn.spec a1 _ h10)) rfl rfl rfl ?_
  rintro _ _ ⟨rfl,rfl⟩
  refine aa (bx (is:=[0,1]) (xs:=[.tmp 21,.tmp 23]) (vs:=[I a0,I x10]) rfl rfl (bc (cs:=[I a0,I x10]) cS eM rfl)) rfl rfl rfl ?_
  refine bn (aX (cs:=[I 0,I 0]) (cs':=[I a0,I x10]) (us:=[I a0,I x10]) (L':=[box b2 36 [I a0,I x10]]) 0 rfl rfl rfl (bq rfl) aN rfl rfl (by simp) rfl) rfl rfl ?_
  rintro _ _ rfl
  refine aa (ai rfl) rfl rfl rfl (am (aB ?_))
  subst H
  exact bM [] (by decide) rfl (vs:=[agg #[I a0,I x10],bool true]) rfl ⟨⟨_,[I a0,I x10],rfl,aH (i:=0) rfl,.inl ⟨bp,aN,rfl⟩⟩,⟨rfl,trivial⟩⟩ _ rfl ⟨rfl,rfl⟩
 refine ay rfl (eJ c19) (al (af (aa (aC rfl rfl (em _ _ _)) rfl rfl rfl (aa (ai rfl) rfl rfl rfl (am ?_)))))
 refine gN H (fun c20 H=>?_) fun c20 H=>?_
 ·refine ay rfl (eJ c20) (aM (al (af (aa (aJ (vs:=[I 0,I 0]) rfl bp aN (aH (i:=0) rfl)) rfl rfl rfl ?_))))
  refine bn (aX (cs:=[I 0,I 0]) (cs':=[I 0,I 0]) (us:=[I 0,I 0]) (L':=[box b2 36 [I 0,I 0]]) 0 rfl rfl rfl (bq rfl) aN rfl rfl (by simp) rfl) rfl rfl ?_
  rintro _ _ rfl
  refine aa (ai rfl) rfl rfl rfl (am (aB ?_))
  subst H
  exact bM [] (by decide) rfl (vs:=[agg #[I 0,I 0],B0]) rfl ⟨⟨_,[I 0,I 0],rfl,aH (i:=0) rfl,.inl ⟨bp,aN,rfl⟩⟩,⟨rfl,trivial⟩⟩ _ rfl ⟨rfl,rfl⟩
 refine ax rfl (ee c20) (al (af (aa (ak rfl) rfl rfl rfl (aa (ak rfl) rfl rfl rfl ?_))))
 obtain ⟨x11,h11,H⟩:=bg H
 refine aG (bb (first:=[]) (cap:=[]) (xs:=[.tmp 28]) rfl rfl pj rfl (gn.spec a1 _ h11)) rfl rfl rfl ?_
 rintro _ _ ⟨rfl,rfl⟩
 obtain ⟨x12,h12,H⟩:=bg H
 refine aG (bb (first:=[]) (cap:=[]) (xs:=[.tmp 29]) rfl rfl uh rfl (cP.spec x11 _ h12)) rfl rfl rfl ?_
 rintro _ _ ⟨rfl,rfl⟩
 refine aa (bx (is:=[0,1]) (xs:=[.tmp 27,.tmp 30]) (vs:=[I a0,I x12]) rfl rfl (bc (cs:=[I a0,I x12]) cS eM rfl)) rfl rfl rfl ?_
 refine bn (aX (cs:=[I 0,I 0]) (cs':=[I a0,I x12]) (us:=[I a0,I x12]) (L':=[box b2 36 [I a0,I x12]]) 0 rfl rfl rfl (bq rfl) aN rfl rfl (by simp) rfl) rfl rfl ?_
 rintro _ _ rfl
 refine aa (ai rfl) rfl rfl rfl (am (aB ?_))
 subst H
 exact bM [] (by decide) rfl (vs:=[agg #[I a0,I x12],bool true]) rfl ⟨⟨_,[I a0,I x12],rfl,aH (i:=0) rfl,.inl ⟨bp,aN,rfl⟩⟩,⟨rfl,trivial⟩⟩ _ rfl ⟨rfl,rfl⟩
theorem fN.spec (a0_0 a0_1:Int) (r:Bool) (H:fN a0_0 a0_1 = r):bk Tryz.prog 72 [agg #[I a0_0,I a0_1]] [] (fun v M=>v = (bool r) ∧ M = []):=by
 unfold fN at H
 refine bh Tryz.func72 rfl 24 rfl (Nat.le_of_ble_eq_true rfl) fun F w0=>?_
 show bW (St 24 w0 F [(0,agg #[I a0_0,I a0_1])] []) _
 refine al (af ?_)
 refine aG (cm (cs:=[I a0_0,I a0_1]) rfl rfl) rfl rfl rfl ?_
 rintro _ _ ⟨b3,rfl,rfl⟩
 refine aa (ai rfl) rfl rfl rfl (am (al (af (aa (aw (sz:=0) (o:=0) rfl cJ de) rfl rfl rfl (aa (aF (v:=(I a0_0)) rfl cI (az (i:=0) rfl rfl)) rfl rfl rfl ?_)))))
 obtain ⟨x2,h2,H⟩:=bg H
 refine aG (bb (first:=[]) (cap:=[]) (xs:=[.tmp 7,.const (I 16777216)]) rfl rfl jd rfl (ff.spec a0_0 16777216 _ h2)) rfl rfl rfl ?_
 rintro _ _ ⟨rfl,rfl⟩
 refine aa (ak rfl) rfl rfl rfl (aa (aQ rfl rfl) rfl rfl rfl (aa (aQ rfl rfl) rfl rfl rfl ?_))
 refine aG (bE cS) rfl rfl rfl ?_
 rintro _ _ ⟨b4,rfl,rfl⟩
 refine bn (aX (cs:=[I 0,I 0]) (cs':=[I x2.1,I x2.2.1]) (us:=[I x2.1,I x2.2.1]) (L':=[box b4 36 [I x2.1,I x2.2.1],box b3 36 [I a0_0,I a0_1]]) 0 rfl rfl rfl (bq rfl) aN rfl rfl (by simp) rfl) rfl rfl ?_
 rintro _ _ rfl
 refine aa (ai rfl) rfl rfl rfl (am (al (af (aa (ak rfl) rfl rfl rfl (aa (ak rfl) rfl rfl rfl ?_)))))
 refine gN H (fun c3 H=>?_) fun c3 H=>?_
 ·refine au rfl rfl rfl (Bool.eq_false_iff.2 c3) rfl rfl ?_
  refine au rfl rfl rfl (Bool.eq_false_iff.2 c3) rfl rfl ?_
  refine au rfl rfl rfl (Bool.eq_false_iff.2 c3) rfl rfl ?_
  refine aa (aE rfl rfl rfl (bC (Bool.eq_false_iff.2 c3))) rfl rfl rfl (aa (ak rfl) rfl rfl rfl ?_)
  refine au rfl rfl rfl rfl rfl rfl ?_
  refine au rfl rfl rfl rfl rfl rfl ?_
  refine au rfl rfl rfl rfl rfl rfl ?_
  refine au rfl rfl rfl rfl rfl rfl ?_
  refine au rfl rfl rfl rfl rfl rfl ?_
  refine aa (aE rfl rfl rfl rfl) rfl rfl rfl (aa (ai rfl) rfl rfl rfl (am (aB ?_)))
  cases H
  refine aA [] (by decide) rfl ?_
  exact aP rfl rfl ⟨rfl,rfl⟩
 refine ar (aw (sz:=0) (o:=0) rfl ej aU) rfl rfl rfl c3 rfl rfl ?_
 refine ar (aF (v:=(I a0_1)) rfl ba (az (i:=1) rfl rfl)) rfl rfl rfl c3 rfl rfl ?_
 refine ar (aC rfl rfl (iL _ _ _)) rfl rfl rfl c3 rfl rfl ?_
 refine aa (aE rfl rfl rfl (bB c3)) rfl rfl rfl (aa (ak rfl) rfl rfl rfl ?_)
 refine gN H (fun c4 H=>?_) fun c4 H=>?_
 ·refine au rfl rfl rfl (decide_eq_false c4) rfl rfl ?_
  refine au rfl rfl rfl (decide_eq_false c4) rfl rfl ?_
  refine au rfl rfl rfl (decide_eq_false c4) rfl rfl ?_
  refine au rfl rfl rfl (decide_eq_false c4) rfl rfl ?_
  refine au rfl rfl rfl (decide_eq_false c4) rfl rfl ?_
  refine aa (aE rfl rfl rfl (bC (decide_eq_false c4))) rfl rfl rfl (aa (ai rfl) rfl rfl rfl (am (aB ?_)))
  cases H
  refine aA [] (by decide) rfl ?_
  exact aP rfl rfl ⟨rfl,rfl⟩
 refine ar (aw (sz:=0) (o:=0) rfl ej aU) rfl rfl rfl (decide_eq_true c4) rfl rfl ?_
 refine ar (aF (v:=(I a0_1)) rfl ba (az (i:=1) rfl rfl)) rfl rfl rfl (decide_eq_true c4) rfl rfl ?_
 refine ar (aw (sz:=0) (o:=0) rfl ej aU) rfl rfl rfl (decide_eq_true c4) rfl rfl ?_
 refine ar (aF (v:=(I x2.2.1)) rfl ba (az (i:=0) rfl rfl)) rfl rfl rfl (decide_eq_true c4) rfl rfl ?_
 refine ar (aC rfl rfl (nY _ _ _)) rfl rfl rfl (decide_eq_true c4) rfl rfl ?_
 refine aa (aE rfl rfl rfl (bB (decide_eq_true c4))) rfl rfl rfl (aa (ai rfl) rfl rfl rfl (am (aB ?_)))
 cases H
 refine aA [] (by decide) rfl ?_
 exact aP rfl rfl ⟨rfl,rfl⟩
theorem dX.spec (a0 a1:Int) (r:Bool) (H:dX a0 a1 = r):bk Tryz.prog 106 [I a0,I a1] [] (fun v M=>v = (bool r) ∧ M = []):=by
 unfold dX at H
 refine bh Tryz.func106 rfl 12 rfl (Nat.le_of_ble_eq_true rfl) fun F w0=>?_
 show bW (St 12 w0 F [(0,I a0),(1,I a1)] []) _
 refine al (af (aa (ai rfl) rfl rfl rfl (am (al (af (aa (ak rfl) rfl rfl rfl (aa (ak rfl) rfl rfl rfl (aa (aC rfl rfl (iL _ _ _)) rfl rfl rfl (aa (ak rfl) rfl rfl rfl ?_)))))))))
 refine gN H (fun c2 H=>?_) fun c2 H=>?_
 ·refine au rfl rfl rfl (decide_eq_false c2) rfl rfl ?_
  refine au rfl rfl rfl (decide_eq_false c2) rfl rfl ?_
  refine aa (aE rfl rfl rfl (bC (decide_eq_false c2))) rfl rfl rfl (aa (ai rfl) rfl rfl rfl (am (aB ?_)))
  cases H
  refine aA [] (by decide) rfl ?_
  exact aP rfl rfl ⟨rfl,rfl⟩
 refine ar (ak rfl) rfl rfl rfl (decide_eq_true c2) rfl rfl ?_
 refine ar (aC rfl rfl (nY _ _ _)) rfl rfl rfl (decide_eq_true c2) rfl rfl ?_
 refine aa (aE rfl rfl rfl (bB (decide_eq_true c2))) rfl rfl rfl (aa (ai rfl) rfl rfl rfl (am (aB ?_)))
 cases H
 refine aA [] (by decide) rfl ?_
 exact aP rfl rfl ⟨rfl,rfl⟩
theorem gr.spec (a0_0 a0_1:Int) (a0_2 a0_3 a0_4:Int) (a0_5 r:Bool) (H:gr a0_0 a0_1 a0_2 a0_3 a0_4 a0_5 = r):bk Tryz.prog 79 [agg #[I a0_0,I a0_1,I a0_2,I a0_3,I a0_4,bool a0_5]] [] (fun v M=>v = (bool r) ∧ M = []):=by
 unfold gr at H
 refine bh Tryz.func79 rfl 36 rfl (Nat.le_of_ble_eq_true rfl) fun F w0=>?_
 show bW (St 36 w0 F [(0,agg #[I a0_0,I a0_1,I a0_2,I a0_3,I a0_4,bool a0_5])] []) _
 refine al (af ?_)
 refine aG (cm (cs:=[I a0_0,I a0_1,I a0_2,I a0_3,I a0_4,bool a0_5]) rfl rfl) rfl rfl rfl ?_
 rintro _ _ ⟨b2,rfl,rfl⟩
 refine aa (ai rfl) rfl rfl rfl (am (al (af (aa (ai rfl) rfl rfl rfl (am (al (af (aa (aw (sz:=1) (o:=0) rfl ce aN) rfl rfl rfl (aa (aJ (vs:=[I a0_0,I a0_1]) rfl bp aN (dm (i:=0) rfl rfl)) rfl rfl rfl ?_)))))))))
 obtain ⟨x5,h5,H⟩:=bg H
 refine aG (bb (first:=[]) (cap:=[]) (xs:=[.tmp 5]) rfl rfl mM rfl (fN.spec a0_0 a0_1 _ h5)) rfl rfl rfl ?_
 rintro _ _ ⟨rfl,rfl⟩
 refine aa (ak rfl) rfl rfl rfl ?_
 refine gN H (fun c6 H=>?_) fun c6 H=>?_
 ·refine au rfl rfl rfl (Bool.eq_false_iff.2 c6) rfl rfl ?_
  refine au rfl rfl rfl (Bool.eq_false_iff.2 c6) rfl rfl ?_
  refine au rfl rfl rfl (Bool.eq_false_iff.2 c6) rfl rfl ?_
  refine au rfl rfl rfl (Bool.eq_false_iff.2 c6) rfl rfl ?_
  refine aa (aE rfl rfl rfl (bC (Bool.eq_false_iff.2 c6))) rfl rfl rfl (aa (ak rfl) rfl rfl rfl ?_)
  refine au rfl rfl rfl rfl rfl rfl ?_
  refine au rfl rfl rfl rfl rfl rfl ?_
  refine au rfl rfl rfl rfl rfl rfl ?_
  refine au rfl rfl rfl rfl rfl rfl ?_
  refine aa (aE rfl rfl rfl rfl) rfl rfl rfl (aa (ak rfl) rfl rfl rfl ?_)
  refine au rfl rfl rfl rfl rfl rfl ?_
  refine au rfl rfl rfl rfl rfl rfl ?_
  refine au rfl rfl rfl rfl rfl rfl ?_
  refine au rfl rfl rfl rfl rfl rfl ?_
  refine aa (aE rfl rfl rfl rfl) rfl rfl rfl (aa (ak rfl) rfl rfl rfl ?_)
  refine au rfl rfl rfl rfl rfl rfl ?_
  refine au rfl rfl rfl rfl rfl rfl ?_
  refine au rfl rfl rfl rfl rfl rfl ?_
  refine au rfl rfl rfl rfl rfl rfl ?_
  refine au rfl rfl rfl rfl rfl rfl ?_
  refine bD rfl rfl rfl rfl rfl ?_
  refine bD rfl rfl rfl rfl rfl ?_
  refine bD rfl rfl rfl rfl rfl ?_
  refine au rfl rfl rfl rfl rfl rfl ?_
  refine aa (aE rfl rfl rfl rfl) rfl rfl rfl (aa (ai rfl) rfl rfl rfl (am (aB ?_)))
  cases H
  refine aA [] (by decide) rfl ?_
  exact aP rfl rfl ⟨rfl,rfl⟩
 refine ar (ak rfl) rfl rfl rfl c6 rfl rfl ?_
 refine ar (aw (sz:=0) (o:=0) rfl mg aU) rfl rfl rfl c6 rfl rfl ?_
 refine ar (aF (v:=(I a0_2)) rfl ba (az (i:=0) rfl rfl)) rfl rfl rfl c6 rfl rfl ?_
 obtain ⟨x6,h6,H⟩:=bg H
 refine cN (bb (first:=[]) (cap:=[]) (xs:=[.tmp 10,.const (I 1)]) rfl rfl lF rfl (dX.spec a0_2 1 _ h6)) rfl rfl rfl c6 rfl rfl ?_
 rintro _ _ ⟨rfl,rfl⟩
 refine aa (aE rfl rfl rfl (bB c6)) rfl rfl rfl (aa (ak rfl) rfl rfl rfl ?_)
 refine gN H (fun c7 H=>?_) fun c7 H=>?_
 ·refine au rfl rfl rfl (Bool.eq_false_iff.2 c7) rfl rfl ?_
  refine au rfl rfl rfl (Bool.eq_false_iff.2 c7) rfl rfl ?_
  refine au rfl rfl rfl (Bool.eq_false_iff.2 c7) rfl rfl ?_
  refine au rfl rfl rfl (Bool.eq_false_iff.2 c7) rfl rfl ?_
  refine aa (aE rfl rfl rfl (bC (Bool.eq_false_iff.2 c7))) rfl rfl rfl (aa (ak rfl) rfl rfl rfl ?_)
  refine au rfl rfl rfl rfl rfl rfl ?_
  refine au rfl rfl rfl rfl rfl rfl ?_
  refine au rfl rfl rfl rfl rfl rfl ?_
  refine au rfl rfl rfl rfl rfl rfl ?_
  refine aa (aE rfl rfl rfl rfl) rfl rfl rfl (aa (ak rfl) rfl rfl rfl ?_)
  refine au rfl rfl rfl rfl rfl rfl ?_
  refine au rfl rfl rfl rfl rfl rfl ?_
  refine au rfl rfl rfl rfl rfl rfl ?_
  refine au rfl rfl rfl rfl rfl rfl ?_
  refine au rfl rfl rfl rfl rfl rfl ?_
  refine bD rfl rfl rfl rfl rfl ?_
  refine bD rfl rfl rfl rfl rfl ?_
  refine bD rfl rfl rfl rfl rfl ?_
  refine au rfl rfl rfl rfl rfl rfl ?_
  refine aa (aE rfl rfl rfl rfl) rfl rfl rfl (aa (ai rfl) rfl rfl rfl (am (aB ?_)))
  cases H
  refine aA [] (by decide) rfl ?_
  exact aP rfl rfl ⟨rfl,rfl⟩
 refine ar (ak rfl) rfl rfl rfl c7 rfl rfl ?_
 refine ar (aw (sz:=0) (o:=0) rfl mA aU) rfl rfl rfl c7 rfl rfl ?_
 refine ar (aF (v:=(I a0_4)) rfl ba (az (i:=0) rfl rfl)) rfl rfl rfl c7 rfl rfl ?_
 obtain ⟨x7,h7,H⟩:=bg H
 refine cN (bb (first:=[]) (cap:=[]) (xs:=[.tmp 16,.const (I 1)]) rfl rfl lF rfl (dX.spec a0_4 1 _ h7)) rfl rfl rfl c7 rfl rfl ?_
 rintro _ _ ⟨rfl,rfl⟩
 refine aa (aE rfl rfl rfl (bB c7)) rfl rfl rfl (aa (ak rfl) rfl rfl rfl ?_)
 refine gN H (fun c8 H=>?_) fun c8 H=>?_
 ·refine au rfl rfl rfl (Bool.eq_false_iff.2 c8) rfl rfl ?_
  refine au rfl rfl rfl (Bool.eq_false_iff.2 c8) rfl rfl ?_
  refine au rfl rfl rfl (Bool.eq_false_iff.2 c8) rfl rfl ?_
  refine au rfl rfl rfl (Bool.eq_false_iff.2 c8) rfl rfl ?_
  refine aa (aE rfl rfl rfl (bC (Bool.eq_false_iff.2 c8))) rfl rfl rfl (aa (ak rfl) rfl rfl rfl ?_)
  refine au rfl rfl rfl rfl rfl rfl ?_
  refine au rfl rfl rfl rfl rfl rfl ?_
  refine au rfl rfl rfl rfl rfl rfl ?_
  refine au rfl rfl rfl rfl rfl rfl ?_
  refine au rfl rfl rfl rfl rfl rfl ?_
  refine bD rfl rfl rfl rfl rfl ?_
  refine bD rfl rfl rfl rfl rfl ?_
  refine bD rfl rfl rfl rfl rfl ?_
  refine au rfl rfl rfl rfl rfl rfl ?_
  refine aa (aE rfl rfl rfl rfl) rfl rfl rfl (aa (ai rfl) rfl rfl rfl (am (aB ?_)))
  cases H
  refine aA [] (by decide) rfl ?_
  exact aP rfl rfl ⟨rfl,rfl⟩
 refine ar (ak rfl) rfl rfl rfl c8 rfl rfl ?_
 refine ar (aw (sz:=0) (o:=0) rfl mi aU) rfl rfl rfl c8 rfl rfl ?_
 refine ar (aF (v:=(I a0_3)) rfl ba (az (i:=0) rfl rfl)) rfl rfl rfl c8 rfl rfl ?_
 obtain ⟨x8,h8,H⟩:=bg H
 refine cN (bb (first:=[]) (cap:=[]) (xs:=[.tmp 22,.const (I 0)]) rfl rfl lF rfl (dX.spec a0_3 0 _ h8)) rfl rfl rfl c8 rfl rfl ?_
 rintro _ _ ⟨rfl,rfl⟩
 refine aa (aE rfl rfl rfl (bB c8)) rfl rfl rfl (aa (ak rfl) rfl rfl rfl ?_)
 refine gN H (fun c9 H=>?_) fun c9 H=>?_
 ·refine au rfl rfl rfl (Bool.eq_false_iff.2 c9) rfl rfl ?_
  refine au rfl rfl rfl (Bool.eq_false_iff.2 c9) rfl rfl ?_
  refine au rfl rfl rfl (Bool.eq_false_iff.2 c9) rfl rfl ?_
  refine au rfl rfl rfl (Bool.eq_false_iff.2 c9) rfl rfl ?_
  refine au rfl rfl rfl (Bool.eq_false_iff.2 c9) rfl rfl ?_
  refine bD rfl rfl rfl rfl rfl ?_
  refine bD rfl rfl rfl rfl rfl ?_
  refine bD rfl rfl rfl rfl rfl ?_
  refine au rfl rfl rfl (Bool.eq_false_iff.2 c9) rfl rfl ?_
  refine aa (aE rfl rfl rfl (bC (Bool.eq_false_iff.2 c9))) rfl rfl rfl (aa (ai rfl) rfl rfl rfl (am (aB ?_)))
  cases H
  refine aA [] (by decide) rfl ?_
  exact aP rfl rfl ⟨rfl,rfl⟩
 refine ar (aw (sz:=1) (o:=0) rfl ce aN) rfl rfl rfl c9 rfl rfl ?_
 refine ar (aw (sz:=0) (o:=0) rfl cJ de) rfl rfl rfl c9 rfl rfl ?_
 refine ar (aF (v:=(I a0_0)) rfl cI (az (i:=0) rfl rfl)) rfl rfl rfl c9 rfl rfl ?_
 refine ar (aC rfl rfl (em _ _ _)) rfl rfl rfl c9 rfl rfl ?_
 refine ar (ak rfl) rfl rfl rfl c9 rfl rfl ?_
 refine eV H (fun c10 H=>?_) fun c10 H=>?_
 ·refine au rfl rfl rfl (ee c10) rfl rfl ?_
  refine au rfl rfl rfl (ee c10) rfl rfl ?_
  refine au rfl rfl rfl (ee c10) rfl rfl ?_
  refine ar (aE rfl rfl rfl (bB (ee c10))) rfl rfl rfl c9 rfl rfl ?_
  refine aa (aE rfl rfl rfl (bB c9)) rfl rfl rfl (aa (ai rfl) rfl rfl rfl (am (aB ?_)))
  cases H
  refine aA [] (by decide) rfl ?_
  exact aP rfl rfl ⟨rfl,rfl⟩
 refine ar (aw (sz:=0) (o:=0) rfl iR js) rfl rfl rfl (eJ c10) rfl rfl ?_
 refine ar (aF (v:=(bool a0_5)) rfl jY (az (i:=0) rfl rfl)) rfl rfl rfl (eJ c10) rfl rfl ?_
 refine ar (eC rfl (eD _)) rfl rfl rfl (eJ c10) rfl rfl ?_
 refine ar (aE rfl rfl rfl (bC (eJ c10))) rfl rfl rfl c9 rfl rfl ?_
 refine aa (aE rfl rfl rfl (bB c9)) rfl rfl rfl (aa (ai rfl) rfl rfl rfl (am (aB ?_)))
 cases H
 refine aA [] (by decide) rfl ?_
 exact aP rfl rfl ⟨rfl,rfl⟩
theorem gO.spec (a0 a1:Int) (a2 r:Int) (H:gO a0 a1 a2 = r):bk Tryz.prog 103 [I a0,I a1,I a2] [] (fun v M=>v = (I r) ∧ M = []):=by
 unfold gO at H
 refine bh Tryz.func103 rfl 42 rfl (Nat.le_of_ble_eq_true rfl) fun F w0=>?_
 show bW (St 42 w0 F [(0,I a0),(1,I a1),(2,I a2)] []) _
 refine al (af (aa (ai rfl) rfl rfl rfl (am (al (af (aa (ak rfl) rfl rfl rfl (aa (aC rfl rfl (gY _ _ _) ) rfl rfl rfl (aa (ai rfl) rfl rfl rfl (am ?_)))))))))
 obtain ⟨x2,H2,H⟩:=bg H
 refine cR (fun a w=>St 42 w0 F [(0,I x2.1),(2,I a2),(7,I x2.2)] [] a w) ?_ ?_
 ·refine al (af (aa (ak rfl) rfl rfl rfl (aa (aC rfl rfl (cB _ _ _)) rfl rfl rfl (am ?_))))
  refine gN H2 (fun c4 H2=>?_) fun c4 H2=>?_
  ·refine ay rfl (decide_eq_false c4) (aM ?_)
   cases H2
   exact bj [] (by decide) rfl (ae (t:=0) rfl (ae (t:=2) rfl (ae (t:=7) rfl (aS _)))) fun a w h=>h
  refine ax rfl (decide_eq_true c4) (al (af (aa (ak rfl) rfl rfl rfl (aa (aC rfl rfl (ct _ _ _) ) rfl rfl rfl (aa (ai rfl) rfl rfl rfl (am (af (aa (ak rfl) rfl rfl rfl (aa (aC rfl rfl (gY _ _ _) ) rfl rfl rfl (aa (ai rfl) rfl rfl rfl (am ?_)))))))))))
  cases H2
  exact bj [] (by decide) rfl (ae (t:=0) rfl (ae (t:=2) rfl (ae (t:=7) rfl (aS _)))) fun a w h=>h
 ·refine al (af (aa (ak rfl) rfl rfl rfl ?_))
  refine aa (aC rfl rfl fun w=>oG _ _ _ w (by decide)) rfl rfl rfl ?_
  refine aa (ai rfl) rfl rfl rfl (am (al (af (aa (ak rfl) rfl rfl rfl (aa (aC rfl rfl (jO _ _ _) ) rfl rfl rfl (aa (ak rfl) rfl rfl rfl ?_))))))
  refine aa (aC rfl rfl fun w=>iS _ _ _ w (by decide)) rfl rfl rfl ?_
  refine aa (aC rfl rfl (ct _ _ _) ) rfl rfl rfl (aa (ak rfl) rfl rfl rfl ?_)
  refine aa (aC rfl rfl fun w=>iS _ _ _ w (by decide)) rfl rfl rfl ?_
  refine aa (aC rfl rfl (gY _ _ _) ) rfl rfl rfl (aa (ak rfl) rfl rfl rfl (aa (aC rfl rfl (jO _ _ _) ) rfl rfl rfl (aa (aC rfl rfl (ct _ _ _) ) rfl rfl rfl ?_)))
  refine aa (aC rfl rfl fun w=>iS _ _ _ w (by decide)) rfl rfl rfl ?_
  refine aa (aC rfl rfl (ct _ _ _) ) rfl rfl rfl (aa (ak rfl) rfl rfl rfl (aa (aC rfl rfl (ct _ _ _) ) rfl rfl rfl (aa (aC rfl rfl (gY _ _ _) ) rfl rfl rfl (aa (ai rfl) rfl rfl rfl (am (al (af (aa (ak rfl) rfl rfl rfl ?_))))))))
  refine aa (aC rfl rfl fun w=>iS _ _ _ w (by decide)) rfl rfl rfl ?_
  refine aa (aC rfl rfl (jO _ _ _) ) rfl rfl rfl (aa (ak rfl) rfl rfl rfl (aa (aC rfl rfl (ct _ _ _) ) rfl rfl rfl (aa (aC rfl rfl (gY _ _ _) ) rfl rfl rfl (aa (ai rfl) rfl rfl rfl (am (aB ?_))))))
  cases H
  refine aA [] (by decide) rfl ?_
  exact aP rfl rfl ⟨rfl,rfl⟩
theorem fR.spec (a0 r:Int) (H:fR a0 = r):bk Tryz.prog 102 [I a0] [] (fun v M=>v = (I r) ∧ M = []):=by
 unfold fR at H
 refine bh Tryz.func102 rfl 10 rfl (Nat.le_of_ble_eq_true rfl) fun F w0=>?_
 show bW (St 10 w0 F [(0,I a0)] []) _
 refine al (af (aa (ai rfl) rfl rfl rfl (am (al (af (aa (ak rfl) rfl rfl rfl ?_))))))
 refine aa (aC rfl rfl fun w=>iS _ _ _ w (by decide)) rfl rfl rfl ?_
 refine aa (aC rfl rfl (ct _ _ _) ) rfl rfl rfl (aa (ak rfl) rfl rfl rfl ?_)
 refine aa (aC rfl rfl fun w=>oG _ _ _ w (by decide)) rfl rfl rfl ?_
 refine aa (aC rfl rfl (ct _ _ _) ) rfl rfl rfl ?_
 obtain ⟨x2,h2,H⟩:=bg H
 refine aG (bb (first:=[]) (cap:=[]) (xs:=[.tmp 5,.tmp 8,.const (I 1)]) rfl rfl rQ rfl (gO.spec (aO (1970 + (aO (Int.tdiv a0 12)))) (aO ((Int.tmod a0 12) + 1)) 1 _ h2)) rfl rfl rfl ?_
 rintro _ _ ⟨rfl,rfl⟩
 refine aa (ai rfl) rfl rfl rfl (am (aB ?_))
 cases H
 refine aA [] (by decide) rfl ?_
 exact aP rfl rfl ⟨rfl,rfl⟩
theorem iJ.spec (a0:Int) (r:(Int × Int)) (H:iJ a0 = r):bk Tryz.prog 75 [I a0] [] (fun v M=>v = (tU #[I r.1,I r.2]) ∧ M = []):=by
 unfold iJ at H
 refine bh Tryz.func75 rfl 12 rfl (Nat.le_of_ble_eq_true rfl) fun F w0=>?_
 show bW (St 12 w0 F [(0,I a0)] []) _
 refine al (af (aa (ai rfl) rfl rfl rfl (aa (ai rfl) rfl rfl rfl (am (al (af (aa (ai rfl) rfl rfl rfl (am (al (af (aa (ak rfl) rfl rfl rfl ?_)))))))))))
 refine aa (ak rfl) rfl rfl rfl ?_
 obtain ⟨x3,h3,H⟩:=bg H
 refine aG (bb (first:=[]) (cap:=[]) (xs:=[.tmp 6]) rfl rfl oQ rfl (fR.spec a0 _ h3)) rfl rfl rfl ?_
 rintro _ _ ⟨rfl,rfl⟩
 refine aa (ak rfl) rfl rfl rfl (aa (ak rfl) rfl rfl rfl (aa (aC rfl rfl (ct _ _ _) ) rfl rfl rfl ?_))
 obtain ⟨x4,h4,H⟩:=bg H
 refine aG (bb (first:=[]) (cap:=[]) (xs:=[.tmp 10]) rfl rfl oQ rfl (fR.spec (aO (a0 + 1)) _ h4)) rfl rfl rfl ?_
 rintro _ _ ⟨rfl,rfl⟩
 refine aa (ai rfl) rfl rfl rfl (aa (ai rfl) rfl rfl rfl (am (aB ?_)))
 cases H
 refine aA [] (by decide) rfl ?_
 exact dq (vs:=[I x3,I x4]) rfl ⟨rfl,⟨rfl,trivial⟩⟩ _ rfl ⟨rfl,rfl⟩
theorem fm.spec (a0_0 a0_1:Int) (r:(Int × Int)) (H:fm a0_0 a0_1 = r):bk Tryz.prog 44 [agg #[I a0_0,I a0_1]] [] (fun v M=>v = (tU #[I r.1,I r.2]) ∧ M = []):=by
 unfold fm at H
 refine bh Tryz.func44 rfl 30 rfl (Nat.le_of_ble_eq_true rfl) fun F w0=>?_
 show bW (St 30 w0 F [(0,agg #[I a0_0,I a0_1])] []) _
 refine al (af ?_)
 refine aG (cm (cs:=[I a0_0,I a0_1]) rfl rfl) rfl rfl rfl ?_
 rintro _ _ ⟨b2,rfl,rfl⟩
 refine aa (ai rfl) rfl rfl rfl (aa (ai rfl) rfl rfl rfl (am (al (al (af (aa (aJ (vs:=[I a0_0,I a0_1]) rfl bp aN (aH (i:=0) rfl)) rfl rfl rfl ?_))))))
 obtain ⟨x10,h8,H⟩:=bg H
 refine aG (bb (first:=[]) (cap:=[]) (xs:=[.tmp 4]) rfl rfl mM rfl (fN.spec a0_0 a0_1 _ h8)) rfl rfl rfl ?_
 rintro _ _ ⟨rfl,rfl⟩
 refine aa (eC rfl (eD _)) rfl rfl rfl (am ?_)
 refine eV H (fun c52 H=>?_) fun c52 H=>?_
 ·refine ax rfl c52 (al (af (aa (ai rfl) rfl rfl rfl (aa (ai rfl) rfl rfl rfl (am (aB ?_))))))
  cases H
  refine aA [] (by decide) rfl ?_
  exact dq (vs:=[I 0,I 0]) rfl ⟨rfl,⟨rfl,trivial⟩⟩ _ rfl ⟨rfl,rfl⟩
 refine ay rfl (Bool.eq_false_iff.2 c52) (aM (al ?_))
 refine bO 7 rfl (fun D a w=>iN 30 w0 F [(0,agg #[I a0_0,I a0_1]),(1,pt b2 0),(4,agg #[I a0_0,I a0_1]),(5,bool x10),(6,bool (!x10))] [(0,7,pt b2 1),(1,8,I a0_1),(2,9,pt b2 1),(3,10,I a0_1),(4,11,I (aO (a0_1 + 1))),(5,2,I a0_1),(6,3,I (aO (a0_1 + 1)))] D [box b2 36 [I a0_0,I a0_1]] a w) (by kernel_rfl) (by kernel_rfl) (bJ (ae (t:=0) rfl (ae (t:=1) rfl (ae (t:=4) rfl (ae (t:=5) rfl (ae (t:=6) rfl (aS _)))))) rfl) ?_ ?_
 ·refine ⟨?_,?_,?_,?_,?_,?_,?_,trivial⟩
  ·exact fun D hi hc U=>an (i:=0) (t:=7) (v:=(pt b2 1)) rfl rfl (ao rfl) (fun a=>aj) (aw (sz:=0) (o:=0) rfl ej aU) rfl rfl (ah (k0:=0) rfl rfl rfl)
  ·exact fun D hi hc U=>an (i:=1) (t:=8) (v:=(I a0_1)) rfl rfl (ao rfl) (fun a=>(ac (k:=0) rfl (aq (j:=0) U rfl (by decide) rfl) aj)) (aF (v:=(I a0_1)) rfl ba (az (i:=0) rfl rfl)) rfl rfl (ah (k0:=1) rfl rfl rfl)
  ·exact fun D hi hc U=>an (i:=2) (t:=9) (v:=(pt b2 1)) rfl rfl (ao rfl) (fun a=>aj) (aw (sz:=0) (o:=0) rfl ej aU) rfl rfl (ah (k0:=2) rfl rfl rfl)
  ·exact fun D hi hc U=>an (i:=3) (t:=10) (v:=(I a0_1)) rfl rfl (ao rfl) (fun a=>(ac (k:=2) rfl (aq (j:=2) U rfl (by decide) rfl) aj)) (aF (v:=(I a0_1)) rfl ba (az (i:=0) rfl rfl)) rfl rfl (ah (k0:=3) rfl rfl rfl)
  ·exact fun D hi hc U=>an (i:=4) (t:=11) (v:=(I (aO (a0_1 + 1)))) rfl rfl (ao rfl) (fun a=>(ac (k:=3) rfl (aq (j:=3) U rfl (by decide) rfl) aj)) (aC rfl rfl (ct _ _ _) ) rfl rfl (ah (k0:=4) rfl rfl rfl)
  ·exact fun D hi hc U=>an (i:=5) (t:=2) (v:=(I a0_1)) rfl rfl (ao rfl) (fun a=>(ac (k:=1) rfl (aq (j:=1) U rfl (by decide) rfl) aj)) (ai rfl) rfl rfl (ah (k0:=5) rfl rfl rfl)
  ·exact fun D hi hc U=>an (i:=6) (t:=3) (v:=(I (aO (a0_1 + 1)))) rfl rfl (ao rfl) (fun a=>(ac (k:=4) rfl (aq (j:=4) U rfl (by decide) rfl) aj)) (ai rfl) rfl rfl (ah (k0:=6) rfl rfl rfl)
 ·intro D hall
  refine bN [box b2 36 [I a0_0,I a0_1]] rfl (fun a=>(ac (k:=5) rfl (hall 5 (by decide)) (ac (k:=6) rfl (hall 6 (by decide)) (ac (k:=0) rfl (hall 0 (by decide)) (ac (k:=1) rfl (hall 1 (by decide)) (ac (k:=2) rfl (hall 2 (by decide)) (ac (k:=3) rfl (hall 3 (by decide)) (ac (k:=4) rfl (hall 4 (by decide)) aj)))))))) ?_
  refine al (al (af (aa (aw (sz:=0) (o:=0) rfl cJ de) rfl rfl rfl (aa (aF (v:=(I a0_0)) rfl cI (az (i:=0) rfl rfl)) rfl rfl rfl (am (bi ?_))))))
  obtain ⟨x15,H7,H⟩:=bg H
  refine cR (fun a w=>∃ v4,x15 = Sum.inl v4 ∧ St 30 w0 F [(2,I v4.1),(3,I v4.2)] [] a w) ?_ ?_
  ·refine bi (al (bi (al (al (al (af (aa (aC rfl rfl (em _ _ _)) rfl rfl rfl (aa (ai rfl) rfl rfl rfl (am ?_)))))))))
   refine eV H7 (fun c99 H7=>?_) fun c99 H7=>?_
   ·refine ax rfl (ee c99) (cn (af (aa (aw (sz:=0) (o:=0) rfl ej aU) rfl rfl rfl (aa (aF (v:=(I a0_1)) rfl ba (az (i:=0) rfl rfl)) rfl rfl rfl ?_))))
    obtain ⟨x16,h12,H7⟩:=bg H7
    refine aG (bb (first:=[]) (cap:=[]) (xs:=[.tmp 20]) rfl rfl uJ rfl (iJ.spec a0_1 _ h12)) rfl rfl rfl ?_
    rintro _ _ ⟨rfl,rfl⟩
    refine aa (ak rfl) rfl rfl rfl (aa (aQ rfl rfl) rfl rfl rfl (aa (aQ rfl rfl) rfl rfl rfl (aa (ai rfl) rfl rfl rfl (aa (ai rfl) rfl rfl rfl (am ?_)))))
    cases H7
    exact bj [] (by decide) rfl (ae (t:=2) rfl (ae (t:=3) rfl (aS _))) fun a w h=>⟨_,rfl,h⟩
   refine ay rfl (eJ c99) (aM (al (af (aa (aC rfl rfl (em _ _ _)) rfl rfl rfl (aa (ai rfl) rfl rfl rfl (am ?_))))))
   refine eV H7 (fun c100 H7=>?_) fun c100 H7=>?_
   ·refine ax rfl (ee c100) (cn ?_)
    cases H7
    exact bj [] (by decide) rfl (ae (t:=2) rfl (ae (t:=3) rfl (aS _))) fun a w h=>⟨_,rfl,h⟩
   refine ay rfl (eJ c100) (aM (cn ?_))
   subst H7
   have H8:=show _ = _ from H
   refine al (af (aa (ak rfl) rfl rfl rfl (aa (ak rfl) rfl rfl rfl (aa (ai rfl) rfl rfl rfl (aa (ai rfl) rfl rfl rfl (am (aB ?_)))))))
   cases H8
   refine aA [] (by decide) rfl ?_
   exact dq (vs:=[I a0_1,I (aO (a0_1 + 1))]) rfl ⟨rfl,⟨rfl,trivial⟩⟩ _ rfl ⟨rfl,rfl⟩
  ·refine bm fun v4=>dx fun e_=>?_
   subst e_
   rw [lh] at H
   refine al (af (aa (ak rfl) rfl rfl rfl (aa (aC rfl rfl (jO _ _ _) ) rfl rfl rfl (aa (ak rfl) rfl rfl rfl (aa (aC rfl rfl (jO _ _ _) ) rfl rfl rfl (aa (ai rfl) rfl rfl rfl (aa (ai rfl) rfl rfl rfl (am (cn (al (af ?_)))))))))))
   refine aa (ak rfl) rfl rfl rfl (aa (ak rfl) rfl rfl rfl (aa (ai rfl) rfl rfl rfl (aa (ai rfl) rfl rfl rfl (am (aB ?_)))))
   cases H
   refine aA [] (by decide) rfl ?_
   exact dq (vs:=[I (aO (v4.1 * 24)),I (aO (v4.2 * 24))]) rfl ⟨rfl,⟨rfl,trivial⟩⟩ _ rfl ⟨rfl,rfl⟩
theorem cp.spec (p0 p1:Nat) (sv0:Value) (p2:Nat) (a0:Int) (l0:List ag) (p2_0:Int) (r:Bool) (H:cp a0 l0 p2_0 = some r):bk Tryz.prog 105 [I a0,pt p0 0,pt p2 0] [box p0 96 [pt p1 0],box p1 130 [sv0],own sv0 135 7 l0.length (fl ab l0),box p2 2 [I p2_0]] (fun v M=>v = (bool r) ∧ M = [box p0 96 [pt p1 0],box p1 130 [sv0],own sv0 135 7 l0.length (fl ab l0),box p2 2 [I p2_0]]):=by
 unfold cp at H
 refine bh Tryz.func105 rfl 15 rfl (Nat.le_of_ble_eq_true rfl) fun F w0=>?_
 let C0_:List HP:=[box p0 96 [pt p1 0],box p1 130 [sv0],own sv0 135 7 l0.length (fl ab l0),box p2 2 [I p2_0]]
 show bW (St 15 w0 F [(0,I a0),(1,pt p0 0),(2,pt p2 0)] C0_) _
 refine al (af (aa (ai rfl) rfl rfl rfl (am (al ?_))))
 obtain ⟨c3,H⟩:=iM H
 obtain ⟨c4,H⟩:=iM H
 refine bO 11 rfl (fun D a w=>iN 15 w0 F [(0,I a0),(1,pt p0 0),(2,pt p2 0)] [(0,5,pt p1 0),(1,6,pt p1 0),(2,7,pt p1 0),(3,8,sv0),(4,9,I a0),(5,10,(fv sv0 (a0.toNat * 7))),(6,11,(fv sv0 (a0.toNat * 7 + 0))),(7,12,I ((l0.getD a0.toNat ap).k)),(8,13,I p2_0),(9,14,bool (decide (p2_0 ≤ ((l0.getD a0.toNat ap).k)))),(10,4,bool (decide (p2_0 ≤ ((l0.getD a0.toNat ap).k))))] D C0_ a w) (by kernel_rfl) (by kernel_rfl) (bJ (ae (t:=0) rfl (ae (t:=1) rfl (ae (t:=2) rfl (aS _)))) rfl) ?_ ?_
 ·refine ⟨?_,?_,?_,?_,?_,?_,?_,?_,?_,?_,?_,trivial⟩
  ·exact fun D hi hc U=>an (i:=0) (t:=5) (v:=(pt p1 0)) rfl rfl (ao rfl) (fun a=>aj) (aF (v:=(pt p1 0)) rfl dH (az (i:=0) rfl rfl)) rfl rfl (ah (k0:=0) rfl rfl rfl)
  ·exact fun D hi hc U=>an (i:=1) (t:=6) (v:=(pt p1 0)) rfl rfl (ao rfl) (fun a=>(ac (k:=0) rfl (aq (j:=0) U rfl (by decide) rfl) aj)) (bu rfl) rfl rfl (ah (k0:=1) rfl rfl rfl)
  ·exact fun D hi hc U=>an (i:=2) (t:=7) (v:=(pt p1 0)) rfl rfl (ao rfl) (fun a=>(ac (k:=1) rfl (aq (j:=1) U rfl (by decide) rfl) aj)) (aw (sz:=0) (o:=0) rfl bP cD) rfl rfl (ah (k0:=2) rfl rfl rfl)
  ·exact fun D hi hc U=>an (i:=3) (t:=8) (v:=sv0) rfl rfl (ao rfl) (fun a=>(ac (k:=2) rfl (aq (j:=2) U rfl (by decide) rfl) aj)) (aF (v:=sv0) rfl dB (az (i:=1) rfl rfl)) rfl rfl (ah (k0:=3) rfl rfl rfl)
  ·exact fun D hi hc U=>an (i:=4) (t:=9) (v:=(I a0)) rfl rfl (ao rfl) (fun a=>aj) (ak rfl) rfl rfl (ah (k0:=4) rfl rfl rfl)
  ·exact fun D hi hc U=>an (i:=5) (t:=10) (v:=(fv sv0 (a0.toNat * 7))) rfl rfl (ao rfl) (fun a=>(ac (k:=4) rfl (aq (j:=4) U rfl (by decide) rfl) (ac (k:=3) rfl (aq (j:=3) U rfl (by decide) rfl) aj))) (cg (sz:=6) 2 rfl rfl bt bR rfl (br 135) c3 c4) rfl rfl (ah (k0:=5) rfl rfl rfl)
  ·exact fun D hi hc U=>an (i:=6) (t:=11) (v:=(fv sv0 (a0.toNat * 7 + 0))) rfl rfl (ao rfl) (fun a=>(ac (k:=5) rfl (aq (j:=5) U rfl (by decide) rfl) aj)) (ez (sz:=0) (k0:=a0.toNat * 7) (off:=0) 2 rfl gw aU rfl (br 135) (ju aK (fu c3 c4))) rfl rfl (ah (k0:=6) rfl rfl rfl)
  ·exact fun D hi hc U=>an (i:=7) (t:=12) (v:=(I ((l0.getD a0.toNat ap).k))) rfl rfl (ao rfl) (fun a=>(ac (k:=6) rfl (aq (j:=6) U rfl (by decide) rfl) aj)) (aF (v:=(I ((l0.getD a0.toNat ap).k))) rfl ba (eF (i:=2) rfl (br 135) (by simp [C0_]) (iG (off:=0) aK (fu c3 c4) rfl))) rfl rfl (ah (k0:=7) rfl rfl rfl)
  ·exact fun D hi hc U=>an (i:=8) (t:=13) (v:=(I p2_0)) rfl rfl (ao rfl) (fun a=>aj) (aF (v:=(I p2_0)) rfl ba (az (i:=3) rfl rfl)) rfl rfl (ah (k0:=8) rfl rfl rfl)
  ·exact fun D hi hc U=>an (i:=9) (t:=14) (v:=(bool (decide (p2_0 ≤ ((l0.getD a0.toNat ap).k))))) rfl rfl (ao rfl) (fun a=>(ac (k:=8) rfl (aq (j:=8) U rfl (by decide) rfl) (ac (k:=7) rfl (aq (j:=7) U rfl (by decide) rfl) aj))) (aC rfl rfl (iL _ _ _)) rfl rfl (ah (k0:=9) rfl rfl rfl)
  ·exact fun D hi hc U=>an (i:=10) (t:=4) (v:=(bool (decide (p2_0 ≤ ((l0.getD a0.toNat ap).k))))) rfl rfl (ao rfl) (fun a=>(ac (k:=9) rfl (aq (j:=9) U rfl (by decide) rfl) aj)) (ai rfl) rfl rfl (ah (k0:=10) rfl rfl rfl)
 ·intro D hall
  refine bN C0_ rfl (fun a=>(ac (k:=10) rfl (hall 10 (by decide)) (ac (k:=0) rfl (hall 0 (by decide)) (ac (k:=1) rfl (hall 1 (by decide)) (ac (k:=2) rfl (hall 2 (by decide)) (ac (k:=3) rfl (hall 3 (by decide)) (ac (k:=4) rfl (hall 4 (by decide)) (ac (k:=5) rfl (hall 5 (by decide)) (ac (k:=6) rfl (hall 6 (by decide)) (ac (k:=7) rfl (hall 7 (by decide)) (ac (k:=8) rfl (hall 8 (by decide)) (ac (k:=9) rfl (hall 9 (by decide)) aj)))))))))))) ?_
  refine aB ?_
  cases H
  refine aA [0,1,2,3] (by decide) rfl ?_
  exact aP rfl rfl ⟨rfl,rfl⟩
theorem hG.spec (K p0 p1:Nat) (sv0:Value) (p2:Nat) (a0:Int) (l0:List ag) (p2_0 r:Int) (H:hG K a0 l0 p2_0 = some r):bk Tryz.prog 104 [I a0,(Value.func (.func 105) #[] #[pt p0 0,pt p2 0])] [box p0 96 [pt p1 0],box p1 130 [sv0],own sv0 135 7 l0.length (fl ab l0),box p2 2 [I p2_0]] (fun v M=>v = (I r) ∧ M = [box p0 96 [pt p1 0],box p1 130 [sv0],own sv0 135 7 l0.length (fl ab l0),box p2 2 [I p2_0]]):=by
 unfold hG at H
 refine bh Tryz.func104 rfl 26 rfl (Nat.le_of_ble_eq_true rfl) fun F w0=>?_
 let C0_:List HP:=[box p0 96 [pt p1 0],box p1 130 [sv0],own sv0 135 7 l0.length (fl ab l0),box p2 2 [I p2_0]]
 show bW (St 26 w0 F [(0,I a0),(1,(Value.func (.func 105) #[] #[pt p0 0,pt p2 0]))] C0_) _
 refine al (af (aa (ai rfl) rfl rfl rfl (am (al (af (aa (ak rfl) rfl rfl rfl (aa (ai rfl) rfl rfl rfl (aa (ai rfl) rfl rfl rfl (am (al (bi ?_)))))))))))
 refine dZ (fun k a w=>∃ i7,∃ i9,fa K l0 p2_0 k i7 i9 = some r ∧ St 26 w0 F [(1,(Value.func (.func 105) #[] #[pt p0 0,pt p2 0])),(5,I i7),(6,I i9)] C0_ a w) K ?_ ?_
 ·exact bj [0,1,2,3] (by decide) rfl (ae (t:=1) rfl (ae (t:=5) rfl (ae (t:=6) rfl (aS _)))) fun a w h=>⟨_,_,H,h⟩
 ·refine fun k=>bm fun i7=>bm fun i9=>dx fun H4=>?_
  cases k with
  | zero=>exact absurd H4 (by simp [C0_,fa])
  | succ k =>
   rw [fa] at H4
   refine al (al (af (aa (ak rfl) rfl rfl rfl (aa (ak rfl) rfl rfl rfl (aa (aC rfl rfl (cB _ _ _)) rfl rfl rfl (am ?_))))))
   refine gN H4 (fun c35 H4=>?_) fun c35 H4=>?_
   ·refine ay rfl (decide_eq_false c35) (cn (al (af (aa (ak rfl) rfl rfl rfl (aa (ai rfl) rfl rfl rfl (am (aB ?_)))))))
    cases H4
    refine aA [0,1,2,3] (by decide) rfl ?_
    exact aP rfl rfl ⟨rfl,rfl⟩
   refine ax rfl (decide_eq_true c35) (aM (bi (al (af (aa (ak rfl) rfl rfl rfl (aa (ak rfl) rfl rfl rfl (aa (aC rfl rfl (ct _ _ _) ) rfl rfl rfl (aa (iX rfl (pu Tryz.underlying3 Tryz.underlying150)) rfl rfl rfl ?_))))))))
   refine aa (aC rfl rfl fun w=>vn _ _ _ _ w (by decide)) rfl rfl rfl ?_
   refine aa (iX rfl (pu Tryz.underlying150 Tryz.underlying3)) rfl rfl rfl (aa (ai rfl) rfl rfl rfl (am (al (af (aa (ak rfl) rfl rfl rfl (aa (ak rfl) rfl rfl rfl ?_))))))
   obtain ⟨x12,h12,H4⟩:=Option.bind_eq_some_iff.1 H4
   refine aG (bz (Lr:=[]) [0,1,2,3] [0,1,2,3] (first:=[]) (cap:=[pt p0 0,pt p2 0]) (xs:=[.tmp 19]) rfl rfl oH rfl (cp.spec p0 p1 sv0 p2 (aO (na .u64 (nF (aO (i7 + i9))) 1)) l0 p2_0 _ h12) (by decide) rfl (by decide) rfl) rfl rfl rfl ?_
   rintro _ _ ⟨rfl,rfl⟩
   refine aa (eC rfl (eD _)) rfl rfl rfl (am ?_)
   refine gN H4 (fun c36 H4=>?_) fun c36 H4=>?_
   ·refine ay rfl (Bool.eq_false_iff.2 c36) (af (aa (ak rfl) rfl rfl rfl (aa (ai rfl) rfl rfl rfl (am ?_))))
    exact bj [0,1,2,3] (by decide) rfl (ae (t:=1) rfl (ae (t:=5) rfl (ae (t:=6) rfl (aS _)))) fun a w h=>⟨k,Nat.lt_succ_self k,_,_,H4,h⟩
   refine ax rfl c36 (af (aa (ak rfl) rfl rfl rfl (aa (aC rfl rfl (ct _ _ _) ) rfl rfl rfl (aa (ai rfl) rfl rfl rfl (am ?_)))))
   exact bj [0,1,2,3] (by decide) rfl (ae (t:=1) rfl (ae (t:=5) rfl (ae (t:=6) rfl (aS _)))) fun a w h=>⟨k,Nat.lt_succ_self k,_,_,H4,h⟩
theorem bo.spec (K p0:Nat) (sv0:Value) (l0:List ag) (a1:Int) (r:(Bool × Int)) (H:bo K l0 a1 = some r):bk Tryz.prog 77 [pt p0 0,I a1] [box p0 130 [sv0],own sv0 135 7 l0.length (fl ab l0)] (fun v M=>v = (tU #[I r.2,bool r.1]) ∧ M = [box p0 130 [sv0],own sv0 135 7 l0.length (fl ab l0)]):=by
 unfold bo at H
 refine bh Tryz.func77 rfl 36 rfl (Nat.le_of_ble_eq_true rfl) fun F w0=>?_
 show bW (St 36 w0 F [(0,pt p0 0),(1,I a1)] [box p0 130 [sv0],own sv0 135 7 l0.length (fl ab l0)]) _
 refine al (af ?_)
 refine aG (cm (cs:=[pt p0 0]) rfl rfl) rfl rfl rfl ?_
 rintro _ _ ⟨b3,rfl,rfl⟩
 refine aG (cm (cs:=[I a1]) rfl rfl) rfl rfl rfl ?_
 rintro _ _ ⟨b4,rfl,rfl⟩
 let C0_:List HP:=[box b4 2 [I a1],box b3 96 [pt p0 0],box p0 130 [sv0],own sv0 135 7 l0.length (fl ab l0)]
 refine aa (ai rfl) rfl rfl rfl (aa (ai rfl) rfl rfl rfl (am (al (al (af (aa (aF (v:=(pt p0 0)) rfl dH (az (i:=1) rfl rfl)) rfl rfl rfl ?_))))))
 refine aa (aC rfl rfl (eP (fun w=>rfl) rfl (jo Tryz.underlying96 _ _))) rfl rfl rfl ?_
 refine am (ay rfl rfl (aM (al (af (aa (aF (v:=(pt p0 0)) rfl dH (az (i:=1) rfl rfl)) rfl rfl rfl (aa (bu rfl) rfl rfl rfl (aa (aw (sz:=0) (o:=0) rfl bP cD) rfl rfl rfl (aa (aF (v:=sv0) rfl dB (az (i:=2) rfl rfl)) rfl rfl rfl (aa (fF 3 rfl bt rfl (br 135)) rfl rfl rfl (aa (fT (first:=[]) (cap:=[.tmp 2,.tmp 3]) rfl rfl) rfl rfl rfl ?_))))))))))
 obtain ⟨x2,h2,H⟩:=Option.bind_eq_some_iff.1 H
 refine aG (bz (Lr:=[]) [1,2,3,0] [3,0,1,2] (first:=[]) (cap:=[]) (xs:=[.tmp 13,.tmp 14]) rfl rfl lK rfl (hG.spec K b3 p0 sv0 b4 (l0.length:Int) l0 a1 _ h2) (by decide) rfl (by decide) rfl) rfl rfl rfl ?_
 rintro _ _ ⟨rfl,rfl⟩
 refine aa (ai rfl) rfl rfl rfl (am (al ?_))
 refine gN H (fun c3 H=>?_) fun c3 H=>?_
 ·refine bO 22 rfl (fun D a w=>iN 36 w0 F [(0,pt p0 0),(1,I a1),(2,pt b3 0),(3,pt b4 0),(6,I x2),(7,pt p0 0),(8,B0),(9,pt p0 0),(10,pt p0 0),(11,pt p0 0),(12,sv0),(13,I (l0.length:Int)),(14,(Value.func (.func 105) #[] #[pt b3 0,pt b4 0])),(15,I x2)] [(0,16,I x2),(1,17,I x2),(2,18,pt p0 0),(3,19,pt p0 0),(4,20,pt p0 0),(5,21,sv0),(6,22,I (l0.length:Int)),(7,23,bool (decide (x2 < (l0.length:Int)))),(8,24,bool (decide (x2 < (l0.length:Int)))),(9,25,undef),(10,26,undef),(11,27,undef),(12,28,undef),(13,29,undef),(14,30,undef),(15,31,undef),(16,32,undef),(17,33,undef),(18,34,undef),(19,35,B0),(20,4,I x2),(21,5,B0)] D C0_ a w) (by kernel_rfl) (by kernel_rfl) (bJ (ae (t:=0) rfl (ae (t:=1) rfl (ae (t:=2) rfl (ae (t:=3) rfl (ae (t:=6) rfl (ae (t:=7) rfl (ae (t:=8) rfl (ae (t:=9) rfl (ae (t:=10) rfl (ae (t:=11) rfl (ae (t:=12) rfl (ae (t:=13) rfl (ae (t:=14) rfl (ae (t:=15) rfl (aS _))))))))))))))) rfl) ?_ ?_
  ·refine ⟨?_,?_,?_,?_,?_,?_,?_,?_,?_,?_,?_,?_,?_,?_,?_,?_,?_,?_,?_,?_,?_,?_,trivial⟩
   ·exact fun D hi hc U=>an (i:=0) (t:=16) (v:=(I x2)) rfl rfl (ao rfl) (fun a=>aj) (ak rfl) rfl rfl (ah (k0:=0) rfl rfl rfl)
   ·exact fun D hi hc U=>an (i:=1) (t:=17) (v:=(I x2)) rfl rfl (ao rfl) (fun a=>aj) (ak rfl) rfl rfl (ah (k0:=1) rfl rfl rfl)
   ·exact fun D hi hc U=>an (i:=2) (t:=18) (v:=(pt p0 0)) rfl rfl (ao rfl) (fun a=>aj) (aF (v:=(pt p0 0)) rfl dH (az (i:=1) rfl rfl)) rfl rfl (ah (k0:=2) rfl rfl rfl)
   ·exact fun D hi hc U=>an (i:=3) (t:=19) (v:=(pt p0 0)) rfl rfl (ao rfl) (fun a=>(ac (k:=2) rfl (aq (j:=2) U rfl (by decide) rfl) aj)) (bu rfl) rfl rfl (ah (k0:=3) rfl rfl rfl)
   ·exact fun D hi hc U=>an (i:=4) (t:=20) (v:=(pt p0 0)) rfl rfl (ao rfl) (fun a=>(ac (k:=3) rfl (aq (j:=3) U rfl (by decide) rfl) aj)) (aw (sz:=0) (o:=0) rfl bP cD) rfl rfl (ah (k0:=4) rfl rfl rfl)
   ·exact fun D hi hc U=>an (i:=5) (t:=21) (v:=sv0) rfl rfl (ao rfl) (fun a=>(ac (k:=4) rfl (aq (j:=4) U rfl (by decide) rfl) aj)) (aF (v:=sv0) rfl dB (az (i:=2) rfl rfl)) rfl rfl (ah (k0:=5) rfl rfl rfl)
   ·exact fun D hi hc U=>an (i:=6) (t:=22) (v:=(I (l0.length:Int))) rfl rfl (ao rfl) (fun a=>(ac (k:=5) rfl (aq (j:=5) U rfl (by decide) rfl) aj)) (fF 3 rfl bt rfl (br 135)) rfl rfl (ah (k0:=6) rfl rfl rfl)
   ·exact fun D hi hc U=>an (i:=7) (t:=23) (v:=(bool (decide (x2 < (l0.length:Int))))) rfl rfl (ao rfl) (fun a=>(ac (k:=6) rfl (aq (j:=6) U rfl (by decide) rfl) (ac (k:=1) rfl (aq (j:=1) U rfl (by decide) rfl) aj))) (aC rfl rfl (cB _ _ _)) rfl rfl (ah (k0:=7) rfl rfl rfl)
   ·exact fun D hi hc U=>an (i:=8) (t:=24) (v:=(bool (decide (x2 < (l0.length:Int))))) rfl rfl (ao rfl) (fun a=>(ac (k:=7) rfl (aq (j:=7) U rfl (by decide) rfl) aj)) (ak rfl) rfl rfl (ah (k0:=8) rfl rfl rfl)
   ·exact fun D hi hc U=>bf (i:=9) (t:=25) rfl rfl (aR rfl rfl rfl (decide_eq_false c3)) (fun a=>(ac (k:=8) rfl (aq (j:=8) U rfl (by decide) rfl) aj)) rfl rfl (ah (k0:=9) rfl rfl rfl)
   ·exact fun D hi hc U=>bf (i:=10) (t:=26) rfl rfl (aR rfl rfl rfl (decide_eq_false c3)) (fun a=>(ac (k:=8) rfl (aq (j:=8) U rfl (by decide) rfl) aj)) rfl rfl (ah (k0:=10) rfl rfl rfl)
   ·exact fun D hi hc U=>bf (i:=11) (t:=27) rfl rfl (aR rfl rfl rfl (decide_eq_false c3)) (fun a=>(ac (k:=8) rfl (aq (j:=8) U rfl (by decide) rfl) aj)) rfl rfl (ah (k0:=11) rfl rfl rfl)
   ·exact fun D hi hc U=>bf (i:=12) (t:=28) rfl rfl (aR rfl rfl rfl (decide_eq_false c3)) (fun a=>(ac (k:=8) rfl (aq (j:=8) U rfl (by decide) rfl) aj)) rfl rfl (ah (k0:=12) rfl rfl rfl)
   ·exact fun D hi hc U=>bf (i:=13) (t:=29) rfl rfl (aR rfl rfl rfl (decide_eq_false c3)) (fun a=>(ac (k:=8) rfl (aq (j:=8) U rfl (by decide) rfl) aj)) rfl rfl (ah (k0:=13) rfl rfl rfl)
   ·exact fun D hi hc U=>bf (i:=14) (t:=30) rfl rfl (aR rfl rfl rfl (decide_eq_false c3)) (fun a=>(ac (k:=8) rfl (aq (j:=8) U rfl (by decide) rfl) aj)) rfl rfl (ah (k0:=14) rfl rfl rfl)
   ·exact fun D hi hc U=>bf (i:=15) (t:=31) rfl rfl (aR rfl rfl rfl (decide_eq_false c3)) (fun a=>(ac (k:=8) rfl (aq (j:=8) U rfl (by decide) rfl) aj)) rfl rfl (ah (k0:=15) rfl rfl rfl)
   ·exact fun D hi hc U=>bf (i:=16) (t:=32) rfl rfl (aR rfl rfl rfl (decide_eq_false c3)) (fun a=>(ac (k:=8) rfl (aq (j:=8) U rfl (by decide) rfl) aj)) rfl rfl (ah (k0:=16) rfl rfl rfl)
   ·exact fun D hi hc U=>bf (i:=17) (t:=33) rfl rfl (aR rfl rfl rfl (decide_eq_false c3)) (fun a=>(ac (k:=8) rfl (aq (j:=8) U rfl (by decide) rfl) aj)) rfl rfl (ah (k0:=17) rfl rfl rfl)
   ·exact fun D hi hc U=>bf (i:=18) (t:=34) rfl rfl (aR rfl rfl rfl (decide_eq_false c3)) (fun a=>(ac (k:=8) rfl (aq (j:=8) U rfl (by decide) rfl) aj)) rfl rfl (ah (k0:=18) rfl rfl rfl)
   ·exact fun D hi hc U=>an (i:=19) (t:=35) (v:=B0) rfl rfl (ao rfl) (fun a=>(ac (k:=18) rfl (aq (j:=18) U rfl (by decide) rfl) (ac (k:=8) rfl (aq (j:=8) U rfl (by decide) rfl) aj))) (aE rfl rfl rfl (bC (decide_eq_false c3))) rfl rfl (ah (k0:=19) rfl rfl rfl)
   ·exact fun D hi hc U=>an (i:=20) (t:=4) (v:=(I x2)) rfl rfl (ao rfl) (fun a=>(ac (k:=0) rfl (aq (j:=0) U rfl (by decide) rfl) aj)) (ai rfl) rfl rfl (ah (k0:=20) rfl rfl rfl)
   ·exact fun D hi hc U=>an (i:=21) (t:=5) (v:=B0) rfl rfl (ao rfl) (fun a=>(ac (k:=19) rfl (aq (j:=19) U rfl (by decide) rfl) aj)) (ai rfl) rfl rfl (ah (k0:=21) rfl rfl rfl)
  ·intro D hall
   refine bN C0_ rfl (fun a=>(ac (k:=20) rfl (hall 20 (by decide)) (ac (k:=21) rfl (hall 21 (by decide)) (ac (k:=0) rfl (hall 0 (by decide)) (ac (k:=1) rfl (hall 1 (by decide)) (ac (k:=2) rfl (hall 2 (by decide)) (ac (k:=3) rfl (hall 3 (by decide)) (ac (k:=4) rfl (hall 4 (by decide)) (ac (k:=5) rfl (hall 5 (by decide)) (ac (k:=6) rfl (hall 6 (by decide)) (ac (k:=7) rfl (hall 7 (by decide)) (ac (k:=8) rfl (hall 8 (by decide)) (ac (k:=9) rfl (hall 9 (by decide)) (ac (k:=10) rfl (hall 10 (by decide)) (ac (k:=11) rfl (hall 11 (by decide)) (ac (k:=12) rfl (hall 12 (by decide)) (ac (k:=13) rfl (hall 13 (by decide)) (ac (k:=14) rfl (hall 14 (by decide)) (ac (k:=15) rfl (hall 15 (by decide)) (ac (k:=16) rfl (hall 16 (by decide)) (ac (k:=17) rfl (hall 17 (by decide)) (ac (k:=18) rfl (hall 18 (by decide)) (ac (k:=19) rfl (hall 19 (by decide)) aj))))))))))))))))))))))) ?_
   refine aB ?_
   cases H
   refine aA [2,3] (by decide) rfl ?_
   exact dq (vs:=[I x2,B0]) rfl ⟨rfl,⟨rfl,trivial⟩⟩ _ rfl ⟨rfl,rfl⟩
 obtain ⟨c4,H⟩:=iM H
 refine bO 22 rfl (fun D a w=>iN 36 w0 F [(0,pt p0 0),(1,I a1),(2,pt b3 0),(3,pt b4 0),(6,I x2),(7,pt p0 0),(8,B0),(9,pt p0 0),(10,pt p0 0),(11,pt p0 0),(12,sv0),(13,I (l0.length:Int)),(14,(Value.func (.func 105) #[] #[pt b3 0,pt b4 0])),(15,I x2)] [(0,16,I x2),(1,17,I x2),(2,18,pt p0 0),(3,19,pt p0 0),(4,20,pt p0 0),(5,21,sv0),(6,22,I (l0.length:Int)),(7,23,bool (decide (x2 < (l0.length:Int)))),(8,24,bool (decide (x2 < (l0.length:Int)))),(9,25,pt p0 0),(10,26,pt p0 0),(11,27,pt p0 0),(12,28,sv0),(13,29,I x2),(14,30,(fv sv0 (x2.toNat * 7))),(15,31,(fv sv0 (x2.toNat * 7 + 0))),(16,32,I ((l0.getD x2.toNat ap).k)),(17,33,I a1),(18,34,bool (((l0.getD x2.toNat ap).k) == a1)),(19,35,bool (((l0.getD x2.toNat ap).k) == a1)),(20,4,I x2),(21,5,bool (((l0.getD x2.toNat ap).k) == a1))] D C0_ a w) (by kernel_rfl) (by kernel_rfl) (bJ (ae (t:=0) rfl (ae (t:=1) rfl (ae (t:=2) rfl (ae (t:=3) rfl (ae (t:=6) rfl (ae (t:=7) rfl (ae (t:=8) rfl (ae (t:=9) rfl (ae (t:=10) rfl (ae (t:=11) rfl (ae (t:=12) rfl (ae (t:=13) rfl (ae (t:=14) rfl (ae (t:=15) rfl (aS _))))))))))))))) rfl) ?_ ?_
 ·refine ⟨?_,?_,?_,?_,?_,?_,?_,?_,?_,?_,?_,?_,?_,?_,?_,?_,?_,?_,?_,?_,?_,?_,trivial⟩
  ·exact fun D hi hc U=>an (i:=0) (t:=16) (v:=(I x2)) rfl rfl (ao rfl) (fun a=>aj) (ak rfl) rfl rfl (ah (k0:=0) rfl rfl rfl)
  ·exact fun D hi hc U=>an (i:=1) (t:=17) (v:=(I x2)) rfl rfl (ao rfl) (fun a=>aj) (ak rfl) rfl rfl (ah (k0:=1) rfl rfl rfl)
  ·exact fun D hi hc U=>an (i:=2) (t:=18) (v:=(pt p0 0)) rfl rfl (ao rfl) (fun a=>aj) (aF (v:=(pt p0 0)) rfl dH (az (i:=1) rfl rfl)) rfl rfl (ah (k0:=2) rfl rfl rfl)
  ·exact fun D hi hc U=>an (i:=3) (t:=19) (v:=(pt p0 0)) rfl rfl (ao rfl) (fun a=>(ac (k:=2) rfl (aq (j:=2) U rfl (by decide) rfl) aj)) (bu rfl) rfl rfl (ah (k0:=3) rfl rfl rfl)
  ·exact fun D hi hc U=>an (i:=4) (t:=20) (v:=(pt p0 0)) rfl rfl (ao rfl) (fun a=>(ac (k:=3) rfl (aq (j:=3) U rfl (by decide) rfl) aj)) (aw (sz:=0) (o:=0) rfl bP cD) rfl rfl (ah (k0:=4) rfl rfl rfl)
  ·exact fun D hi hc U=>an (i:=5) (t:=21) (v:=sv0) rfl rfl (ao rfl) (fun a=>(ac (k:=4) rfl (aq (j:=4) U rfl (by decide) rfl) aj)) (aF (v:=sv0) rfl dB (az (i:=2) rfl rfl)) rfl rfl (ah (k0:=5) rfl rfl rfl)
  ·exact fun D hi hc U=>an (i:=6) (t:=22) (v:=(I (l0.length:Int))) rfl rfl (ao rfl) (fun a=>(ac (k:=5) rfl (aq (j:=5) U rfl (by decide) rfl) aj)) (fF 3 rfl bt rfl (br 135)) rfl rfl (ah (k0:=6) rfl rfl rfl)
  ·exact fun D hi hc U=>an (i:=7) (t:=23) (v:=(bool (decide (x2 < (l0.length:Int))))) rfl rfl (ao rfl) (fun a=>(ac (k:=6) rfl (aq (j:=6) U rfl (by decide) rfl) (ac (k:=1) rfl (aq (j:=1) U rfl (by decide) rfl) aj))) (aC rfl rfl (cB _ _ _)) rfl rfl (ah (k0:=7) rfl rfl rfl)
  ·exact fun D hi hc U=>an (i:=8) (t:=24) (v:=(bool (decide (x2 < (l0.length:Int))))) rfl rfl (ao rfl) (fun a=>(ac (k:=7) rfl (aq (j:=7) U rfl (by decide) rfl) aj)) (ak rfl) rfl rfl (ah (k0:=8) rfl rfl rfl)
  ·exact fun D hi hc U=>an (i:=9) (t:=25) (v:=(pt p0 0)) rfl rfl (aY rfl rfl rfl (decide_eq_true c3)) (fun a=>(ac (k:=8) rfl (aq (j:=8) U rfl (by decide) rfl) aj)) (aF (v:=(pt p0 0)) rfl dH (az (i:=1) rfl rfl)) rfl rfl (ah (k0:=9) rfl rfl rfl)
  ·exact fun D hi hc U=>an (i:=10) (t:=26) (v:=(pt p0 0)) rfl rfl (aY rfl rfl rfl (decide_eq_true c3)) (fun a=>(ac (k:=8) rfl (aq (j:=8) U rfl (by decide) rfl) (ac (k:=9) rfl (aq (j:=9) U rfl (by decide) rfl) aj))) (bu rfl) rfl rfl (ah (k0:=10) rfl rfl rfl)
  ·exact fun D hi hc U=>an (i:=11) (t:=27) (v:=(pt p0 0)) rfl rfl (aY rfl rfl rfl (decide_eq_true c3)) (fun a=>(ac (k:=8) rfl (aq (j:=8) U rfl (by decide) rfl) (ac (k:=10) rfl (aq (j:=10) U rfl (by decide) rfl) aj))) (aw (sz:=0) (o:=0) rfl bP cD) rfl rfl (ah (k0:=11) rfl rfl rfl)
  ·exact fun D hi hc U=>an (i:=12) (t:=28) (v:=sv0) rfl rfl (aY rfl rfl rfl (decide_eq_true c3)) (fun a=>(ac (k:=8) rfl (aq (j:=8) U rfl (by decide) rfl) (ac (k:=11) rfl (aq (j:=11) U rfl (by decide) rfl) aj))) (aF (v:=sv0) rfl dB (az (i:=2) rfl rfl)) rfl rfl (ah (k0:=12) rfl rfl rfl)
  ·exact fun D hi hc U=>an (i:=13) (t:=29) (v:=(I x2)) rfl rfl (aY rfl rfl rfl (decide_eq_true c3)) (fun a=>(ac (k:=8) rfl (aq (j:=8) U rfl (by decide) rfl) aj)) (ak rfl) rfl rfl (ah (k0:=13) rfl rfl rfl)
  ·exact fun D hi hc U=>an (i:=14) (t:=30) (v:=(fv sv0 (x2.toNat * 7))) rfl rfl (aY rfl rfl rfl (decide_eq_true c3)) (fun a=>(ac (k:=8) rfl (aq (j:=8) U rfl (by decide) rfl) (ac (k:=13) rfl (aq (j:=13) U rfl (by decide) rfl) (ac (k:=12) rfl (aq (j:=12) U rfl (by decide) rfl) aj)))) (cg (sz:=6) 3 rfl rfl bt bR rfl (br 135) c4 c3) rfl rfl (ah (k0:=14) rfl rfl rfl)
  ·exact fun D hi hc U=>an (i:=15) (t:=31) (v:=(fv sv0 (x2.toNat * 7 + 0))) rfl rfl (aY rfl rfl rfl (decide_eq_true c3)) (fun a=>(ac (k:=8) rfl (aq (j:=8) U rfl (by decide) rfl) (ac (k:=14) rfl (aq (j:=14) U rfl (by decide) rfl) aj))) (ez (sz:=0) (k0:=x2.toNat * 7) (off:=0) 3 rfl gw aU rfl (br 135) (ju aK (fu c4 c3))) rfl rfl (ah (k0:=15) rfl rfl rfl)
  ·exact fun D hi hc U=>an (i:=16) (t:=32) (v:=(I ((l0.getD x2.toNat ap).k))) rfl rfl (aY rfl rfl rfl (decide_eq_true c3)) (fun a=>(ac (k:=8) rfl (aq (j:=8) U rfl (by decide) rfl) (ac (k:=15) rfl (aq (j:=15) U rfl (by decide) rfl) aj))) (aF (v:=(I ((l0.getD x2.toNat ap).k))) rfl ba (eF (i:=3) rfl (br 135) (by simp [C0_]) (iG (off:=0) aK (fu c4 c3) rfl))) rfl rfl (ah (k0:=16) rfl rfl rfl)
  ·exact fun D hi hc U=>an (i:=17) (t:=33) (v:=(I a1)) rfl rfl (aY rfl rfl rfl (decide_eq_true c3)) (fun a=>(ac (k:=8) rfl (aq (j:=8) U rfl (by decide) rfl) aj)) (aF (v:=(I a1)) rfl ba (az (i:=0) rfl rfl)) rfl rfl (ah (k0:=17) rfl rfl rfl)
  ·exact fun D hi hc U=>an (i:=18) (t:=34) (v:=(bool (((l0.getD x2.toNat ap).k) == a1))) rfl rfl (aY rfl rfl rfl (decide_eq_true c3)) (fun a=>(ac (k:=8) rfl (aq (j:=8) U rfl (by decide) rfl) (ac (k:=17) rfl (aq (j:=17) U rfl (by decide) rfl) (ac (k:=16) rfl (aq (j:=16) U rfl (by decide) rfl) aj)))) (aC rfl rfl (em _ _ _)) rfl rfl (ah (k0:=18) rfl rfl rfl)
  ·exact fun D hi hc U=>an (i:=19) (t:=35) (v:=(bool (((l0.getD x2.toNat ap).k) == a1))) rfl rfl (ao rfl) (fun a=>(ac (k:=18) rfl (aq (j:=18) U rfl (by decide) rfl) (ac (k:=8) rfl (aq (j:=8) U rfl (by decide) rfl) aj))) (aE rfl rfl rfl (bB (decide_eq_true c3))) rfl rfl (ah (k0:=19) rfl rfl rfl)
  ·exact fun D hi hc U=>an (i:=20) (t:=4) (v:=(I x2)) rfl rfl (ao rfl) (fun a=>(ac (k:=0) rfl (aq (j:=0) U rfl (by decide) rfl) aj)) (ai rfl) rfl rfl (ah (k0:=20) rfl rfl rfl)
  ·exact fun D hi hc U=>an (i:=21) (t:=5) (v:=(bool (((l0.getD x2.toNat ap).k) == a1))) rfl rfl (ao rfl) (fun a=>(ac (k:=19) rfl (aq (j:=19) U rfl (by decide) rfl) aj)) (ai rfl) rfl rfl (ah (k0:=21) rfl rfl rfl)
 ·intro D hall
  refine bN C0_ rfl (fun a=>(ac (k:=20) rfl (hall 20 (by decide)) (ac (k:=21) rfl (hall 21 (by decide)) (ac (k:=0) rfl (hall 0 (by decide)) (ac (k:=1) rfl (hall 1 (by decide)) (ac (k:=2) rfl (hall 2 (by decide)) (ac (k:=3) rfl (hall 3 (by decide)) (ac (k:=4) rfl (hall 4 (by decide)) (ac (k:=5) rfl (hall 5 (by decide)) (ac (k:=6) rfl (hall 6 (by decide)) (ac (k:=7) rfl (hall 7 (by decide)) (ac (k:=8) rfl (hall 8 (by decide)) (ac (k:=9) rfl (hall 9 (by decide)) (ac (k:=10) rfl (hall 10 (by decide)) (ac (k:=11) rfl (hall 11 (by decide)) (ac (k:=12) rfl (hall 12 (by decide)) (ac (k:=13) rfl (hall 13 (by decide)) (ac (k:=14) rfl (hall 14 (by decide)) (ac (k:=15) rfl (hall 15 (by decide)) (ac (k:=16) rfl (hall 16 (by decide)) (ac (k:=17) rfl (hall 17 (by decide)) (ac (k:=18) rfl (hall 18 (by decide)) (ac (k:=19) rfl (hall 19 (by decide)) aj))))))))))))))))))))))) ?_
  refine aB ?_
  cases H
  refine aA [2,3] (by decide) rfl ?_
  exact dq (vs:=[I x2,bool (((l0.getD x2.toNat ap).k) == a1)]) rfl ⟨rfl,⟨rfl,trivial⟩⟩ _ rfl ⟨rfl,rfl⟩
theorem cy.spec (K p0:Nat) (sv0:Value) (l0:List ag) (a1:Int) (r:(Int × Int × Int × Int × Int × Int × Bool × Bool)) (H:cy K l0 a1 = some r):bk Tryz.prog 58 [pt p0 0,I a1] [box p0 130 [sv0],own sv0 135 7 l0.length (fl ab l0)] (fun v M=>v = (tU #[I r.1,agg #[I r.2.1,I r.2.2.1,I r.2.2.2.1,I r.2.2.2.2.1,I r.2.2.2.2.2.1,bool r.2.2.2.2.2.2.1],bool r.2.2.2.2.2.2.2]) ∧ M = [box p0 130 [sv0],own sv0 135 7 l0.length (fl ab l0)]):=by
 unfold cy at H
 refine bh Tryz.func58 rfl 42 rfl (Nat.le_of_ble_eq_true rfl) fun F w0=>?_
 show bW (St 42 w0 F [(0,pt p0 0),(1,I a1)] [box p0 130 [sv0],own sv0 135 7 l0.length (fl ab l0)]) _
 refine al (af (aa (ai rfl) rfl rfl rfl ?_))
 refine aG (bE cu) rfl rfl rfl ?_
 rintro _ _ ⟨b3,rfl,rfl⟩
 refine aa (ai rfl) rfl rfl rfl (am (al (af (aa (ak rfl) rfl rfl rfl (aa (ak rfl) rfl rfl rfl ?_)))))
 obtain ⟨x3,h2,H⟩:=Option.bind_eq_some_iff.1 H
 refine aG (bz (Lr:=[box b3 54 [I 0,I 0,I 0,I 0,I 0,B0]]) [1,2,0] [2,0,1] (first:=[]) (cap:=[]) (xs:=[.tmp 9,.tmp 10]) rfl rfl jN rfl (bo.spec K p0 sv0 l0 a1 _ h2) (by decide) rfl (by decide) rfl) rfl rfl rfl ?_
 rintro _ _ ⟨rfl,rfl⟩
 refine aa (ak rfl) rfl rfl rfl (aa (aQ rfl rfl) rfl rfl rfl (aa (aQ rfl rfl) rfl rfl rfl (aa (ai rfl) rfl rfl rfl (aa (ai rfl) rfl rfl rfl (am ?_)))))
 obtain ⟨x4,H2,H⟩:=bg H
 let C1_:Value:=agg #[I ((((l0.getD x4.toNat ap).v).Part).Tier),I ((((l0.getD x4.toNat ap).v).Part).Index),I (((l0.getD x4.toNat ap).v).Seg),I (((l0.getD x4.toNat ap).v).Mark),I (((l0.getD x4.toNat ap).v).Rows),bool (((l0.getD x4.toNat ap).v).Cold)]
 let C0_:List Value:=[I ((((l0.getD x4.toNat ap).v).Part).Tier),I ((((l0.getD x4.toNat ap).v).Part).Index),I (((l0.getD x4.toNat ap).v).Seg),I (((l0.getD x4.toNat ap).v).Mark),I (((l0.getD x4.toNat ap).v).Rows),bool (((l0.getD x4.toNat ap).v).Cold)]
 refine cR (fun a w=>∃ b4:Nat,St 42 w0 F [(0,pt p0 0),(4,I 0),(5,pt b4 0),(7,I x4)] [box p0 130 [sv0],own sv0 135 7 l0.length (fl ab l0),box b4 54 [I 0,I 0,I 0,I 0,I 0,B0]] a w) ?_ ?_
 ·refine al (af (aa (ak rfl) rfl rfl rfl (aa (eC rfl (eD _)) rfl rfl rfl (am ?_))))
  refine gN H2 (fun c8 H2=>?_) fun c8 H2=>?_
  ·refine ay rfl (Bool.eq_false_iff.2 c8) (aM ?_)
   cases H2
   exact bj [1,2,0] (by decide) rfl (ae (t:=0) rfl (ae (t:=4) rfl (ae (t:=5) rfl (ae (t:=7) rfl (aS _))))) fun a w h=>⟨_,h⟩
  refine ax rfl c8 (af (aa (ak rfl) rfl rfl rfl (aa (aC rfl rfl (gY _ _ _) ) rfl rfl rfl (aa (ai rfl) rfl rfl rfl (am ?_)))))
  cases H2
  exact bj [1,2,0] (by decide) rfl (ae (t:=0) rfl (ae (t:=4) rfl (ae (t:=5) rfl (ae (t:=7) rfl (aS _))))) fun a w h=>⟨_,h⟩
 ·refine bm fun b4=>?_
  let C3_:List HP:=[box p0 130 [sv0],own sv0 135 7 l0.length (fl ab l0),box b4 54 C0_]
  let C2_:List HP:=[box p0 130 [sv0],own sv0 135 7 l0.length (fl ab l0),box b4 54 [I 0,I 0,I 0,I 0,I 0,B0]]
  refine al (al (af (aa (ak rfl) rfl rfl rfl ?_)))
  refine aa (aC rfl rfl (eP (fun w=>rfl) rfl (jo Tryz.underlying96 _ _))) rfl rfl rfl ?_
  refine aa (ak rfl) rfl rfl rfl ?_
  refine ar (ak rfl) rfl rfl rfl rfl rfl rfl ?_
  refine ar (aC rfl rfl (cB _ _ _)) rfl rfl rfl rfl rfl rfl ?_
  refine aa (aE rfl rfl rfl rfl) rfl rfl rfl (am ?_)
  refine eV H (fun c10 H=>?_) fun c10 H=>?_
  ·refine ax rfl (decide_eq_true c10) (al ?_)
   refine bO 5 rfl (fun D a w=>iN 42 w0 F [(0,pt p0 0),(4,(qn (D 2) (I 0) (I 0))),(5,pt b4 0),(7,I x4),(18,pt p0 0),(19,B0),(20,B0),(21,I x4),(22,bool (decide (x4 < 0))),(23,bool (decide (x4 < 0)))] [(0,24,I 0),(1,25,agg #[I 0,I 0,I 0,I 0,I 0,B0]),(4,6,B0)] D C2_ a w) (by kernel_rfl) (by kernel_rfl) (bJ (ae (t:=0) rfl (ae (t:=4) rfl (ae (t:=5) rfl (ae (t:=7) rfl (ae (t:=18) rfl (ae (t:=19) rfl (ae (t:=20) rfl (ae (t:=21) rfl (ae (t:=22) rfl (ae (t:=23) rfl (aS _))))))))))) rfl) ?_ ?_
   ·refine ⟨?_,?_,?_,?_,?_,trivial⟩
    ·intro D hi hc U
     have n2:D 2 = false:=bd (m:=2) hc hi rfl rfl
     exact an (i:=0) (t:=24) (v:=(I 0)) rfl rfl (ao rfl) (fun a=>(lp (ρ':=[(0,pt p0 0),(4,I 0),(5,pt b4 0),(7,I x4),(18,pt p0 0),(19,B0),(20,B0),(21,I x4),(22,bool (decide (x4 < 0))),(23,bool (decide (x4 < 0)))]) (by simp only [C1_,C0_,C3_,C2_,n2,qn]))) (ak rfl) rfl rfl (ah (k0:=0) rfl rfl rfl)
    ·exact fun D hi hc U=>an (i:=1) (t:=25) (v:=(agg #[I 0,I 0,I 0,I 0,I 0,B0])) rfl rfl (ao rfl) (fun a=>aj) (aJ (vs:=[I 0,I 0,I 0,I 0,I 0,B0]) rfl cl aW (aH (i:=2) rfl)) rfl rfl (ah (k0:=1) rfl rfl rfl)
    ·exact fun D hi hc U=>ni (i:=2) (t:=4) (v:=(I 0)) rfl rfl (ao rfl) (fun a=>(ac (k:=0) rfl (aq (j:=0) U rfl (by decide) rfl) aj)) (ai rfl) rfl rfl rfl
    ·exact fun D hi hc U=>fZ (i:=3) (L2:=C2_) (L3:=C2_) rfl rfl (ao rfl) (fun a=>(ac (k:=1) rfl (aq (j:=1) U rfl (by decide) rfl) aj)) rfl (by simp [C1_,C0_,C3_,C2_,up,eo]) (aX (cs:=[I 0,I 0,I 0,I 0,I 0,B0]) (cs':=[I 0,I 0,I 0,I 0,I 0,B0]) (us:=[I 0,I 0,I 0,I 0,I 0,B0]) (L':=C2_) 2 rfl rfl rfl (bq rfl) aW rfl rfl (by simp [C1_,C0_,C3_,C2_]) rfl) (gI rfl)
    ·exact fun D hi hc U=>an (i:=4) (t:=6) (v:=B0) rfl rfl (ao rfl) (fun a=>aj) (ai rfl) rfl rfl (ah (k0:=2) rfl rfl rfl)
   ·intro D hall
    refine bN C2_ rfl (fun a=>(ac (k:=2) rfl (hall 4 (by decide)) (ac (k:=0) rfl (hall 0 (by decide)) (ac (k:=1) rfl (hall 1 (by decide)) (lp (ρ':=[(0,pt p0 0),(4,I 0),(5,pt b4 0),(7,I x4),(18,pt p0 0),(19,B0),(20,B0),(21,I x4),(22,bool (decide (x4 < 0))),(23,bool (decide (x4 < 0)))]) (by simp only [C1_,C0_,C3_,C2_,hall 2 (by decide),qn])))))) ?_
    refine aB ?_
    first | (have e_:=Option.some.inj (show some _ = some _ from H); subst e_) | subst H
    exact bM [0,1] (by decide) rfl (vs:=[I 0,agg #[I 0,I 0,I 0,I 0,I 0,B0],B0]) rfl ⟨rfl,⟨⟨_,[I 0,I 0,I 0,I 0,I 0,B0],rfl,aH (i:=2) rfl,.inl ⟨cl,aW,rfl⟩⟩,⟨rfl,trivial⟩⟩⟩ _ rfl ⟨rfl,rfl⟩
  refine ay rfl (decide_eq_false c10) (aM (al ?_))
  obtain ⟨c11,H⟩:=iM H
  obtain ⟨c12,H⟩:=iM H
  refine bO 19 rfl (fun D a w=>iN 42 w0 F [(0,pt p0 0),(5,pt b4 0),(7,I x4),(18,pt p0 0),(19,B0),(20,B0),(21,I x4),(22,bool (decide (x4 < 0))),(23,bool (decide (x4 < 0)))] [(0,26,pt p0 0),(1,27,pt p0 0),(2,28,pt p0 0),(3,29,sv0),(4,30,I x4),(5,31,(fv sv0 (x4.toNat * 7))),(6,32,(fv sv0 (x4.toNat * 7 + 0))),(7,33,I ((l0.getD x4.toNat ap).k)),(8,34,pt p0 0),(9,35,pt p0 0),(10,36,pt p0 0),(11,37,sv0),(12,38,I x4),(13,39,(fv sv0 (x4.toNat * 7))),(14,40,(fv sv0 (x4.toNat * 7 + 1))),(15,41,C1_),(16,4,I ((l0.getD x4.toNat ap).k)),(18,6,bool true)] D [box p0 130 [sv0],own sv0 135 7 l0.length (fl ab l0),eo (D 17) (box b4 54 C0_) (box b4 54 [I 0,I 0,I 0,I 0,I 0,B0])] a w) (by kernel_rfl) (by kernel_rfl) (bJ (ae (t:=0) rfl (ae (t:=5) rfl (ae (t:=7) rfl (ae (t:=18) rfl (ae (t:=19) rfl (ae (t:=20) rfl (ae (t:=21) rfl (ae (t:=22) rfl (ae (t:=23) rfl (aS _)))))))))) (by simp only [C1_,C0_,C3_,C2_,eo])) ?_ ?_
  ·refine ⟨?_,?_,?_,?_,?_,?_,?_,?_,?_,?_,?_,?_,?_,?_,?_,?_,?_,?_,?_,trivial⟩
   ·exact fun D hi hc U=>an (i:=0) (t:=26) (v:=(pt p0 0)) rfl rfl (ao rfl) (fun a=>aj) (ak rfl) rfl rfl (ah (k0:=0) rfl rfl rfl)
   ·exact fun D hi hc U=>an (i:=1) (t:=27) (v:=(pt p0 0)) rfl rfl (ao rfl) (fun a=>(ac (k:=0) rfl (aq (j:=0) U rfl (by decide) rfl) aj)) (bu rfl) rfl rfl (ah (k0:=1) rfl rfl rfl)
   ·exact fun D hi hc U=>an (i:=2) (t:=28) (v:=(pt p0 0)) rfl rfl (ao rfl) (fun a=>(ac (k:=1) rfl (aq (j:=1) U rfl (by decide) rfl) aj)) (aw (sz:=0) (o:=0) rfl bP cD) rfl rfl (ah (k0:=2) rfl rfl rfl)
   ·exact fun D hi hc U=>an (i:=3) (t:=29) (v:=sv0) rfl rfl (ao rfl) (fun a=>(ac (k:=2) rfl (aq (j:=2) U rfl (by decide) rfl) aj)) (aF (v:=sv0) rfl dB (az (i:=0) rfl rfl)) rfl rfl (ah (k0:=3) rfl rfl rfl)
   ·exact fun D hi hc U=>an (i:=4) (t:=30) (v:=(I x4)) rfl rfl (ao rfl) (fun a=>aj) (ak rfl) rfl rfl (ah (k0:=4) rfl rfl rfl)
   ·exact fun D hi hc U=>an (i:=5) (t:=31) (v:=(fv sv0 (x4.toNat * 7))) rfl rfl (ao rfl) (fun a=>(ac (k:=4) rfl (aq (j:=4) U rfl (by decide) rfl) (ac (k:=3) rfl (aq (j:=3) U rfl (by decide) rfl) aj))) (cg (sz:=6) 1 rfl rfl bt bR rfl (br 135) c11 c12) rfl rfl (ah (k0:=5) rfl rfl rfl)
   ·exact fun D hi hc U=>an (i:=6) (t:=32) (v:=(fv sv0 (x4.toNat * 7 + 0))) rfl rfl (ao rfl) (fun a=>(ac (k:=5) rfl (aq (j:=5) U rfl (by decide) rfl) aj)) (ez (sz:=0) (k0:=x4.toNat * 7) (off:=0) 1 rfl gw aU rfl (br 135) (ju aK (fu c11 c12))) rfl rfl (ah (k0:=6) rfl rfl rfl)
   ·exact fun D hi hc U=>an (i:=7) (t:=33) (v:=(I ((l0.getD x4.toNat ap).k))) rfl rfl (ao rfl) (fun a=>(ac (k:=6) rfl (aq (j:=6) U rfl (by decide) rfl) aj)) (aF (v:=(I ((l0.getD x4.toNat ap).k))) rfl ba (eF (i:=1) rfl (br 135) (by simp [C1_,C0_,C3_,C2_]) (iG (off:=0) aK (fu c11 c12) rfl))) rfl rfl (ah (k0:=7) rfl rfl rfl)
   ·exact fun D hi hc U=>an (i:=8) (t:=34) (v:=(pt p0 0)) rfl rfl (ao rfl) (fun a=>aj) (ak rfl) rfl rfl (ah (k0:=8) rfl rfl rfl)
   ·exact fun D hi hc U=>an (i:=9) (t:=35) (v:=(pt p0 0)) rfl rfl (ao rfl) (fun a=>(ac (k:=8) rfl (aq (j:=8) U rfl (by decide) rfl) aj)) (bu rfl) rfl rfl (ah (k0:=9) rfl rfl rfl)
   ·exact fun D hi hc U=>an (i:=10) (t:=36) (v:=(pt p0 0)) rfl rfl (ao rfl) (fun a=>(ac (k:=9) rfl (aq (j:=9) U rfl (by decide) rfl) aj)) (aw (sz:=0) (o:=0) rfl bP cD) rfl rfl (ah (k0:=10) rfl rfl rfl)
   ·exact fun D hi hc U=>an (i:=11) (t:=37) (v:=sv0) rfl rfl (ao rfl) (fun a=>(ac (k:=10) rfl (aq (j:=10) U rfl (by decide) rfl) aj)) (aF (v:=sv0) rfl dB (az (i:=0) rfl rfl)) rfl rfl (ah (k0:=11) rfl rfl rfl)
   ·exact fun D hi hc U=>an (i:=12) (t:=38) (v:=(I x4)) rfl rfl (ao rfl) (fun a=>aj) (ak rfl) rfl rfl (ah (k0:=12) rfl rfl rfl)
   ·exact fun D hi hc U=>an (i:=13) (t:=39) (v:=(fv sv0 (x4.toNat * 7))) rfl rfl (ao rfl) (fun a=>(ac (k:=12) rfl (aq (j:=12) U rfl (by decide) rfl) (ac (k:=11) rfl (aq (j:=11) U rfl (by decide) rfl) aj))) (cg (sz:=6) 1 rfl rfl bt bR rfl (br 135) c11 c12) rfl rfl (ah (k0:=13) rfl rfl rfl)
   ·exact fun D hi hc U=>an (i:=14) (t:=40) (v:=(fv sv0 (x4.toNat * 7 + 1))) rfl rfl (ao rfl) (fun a=>(ac (k:=13) rfl (aq (j:=13) U rfl (by decide) rfl) aj)) (ez (sz:=5) (k0:=x4.toNat * 7) (off:=1) 1 rfl jh aW rfl (br 135) (ju aK (fu c11 c12))) rfl rfl (ah (k0:=14) rfl rfl rfl)
   ·exact fun D hi hc U=>an (i:=15) (t:=41) (v:=(C1_)) rfl rfl (ao rfl) (fun a=>(ac (k:=14) rfl (aq (j:=14) U rfl (by decide) rfl) aj)) (aJ (vs:=C0_) rfl cl aW (eF (i:=1) rfl (br 135) (by simp [C1_,C0_,C3_,C2_]) (iG (off:=1) aK (fu c11 c12) rfl))) rfl rfl (ah (k0:=15) rfl rfl rfl)
   ·exact fun D hi hc U=>an (i:=16) (t:=4) (v:=(I ((l0.getD x4.toNat ap).k))) rfl rfl (ao rfl) (fun a=>(ac (k:=7) rfl (aq (j:=7) U rfl (by decide) rfl) aj)) (ai rfl) rfl rfl (ah (k0:=16) rfl rfl rfl)
   ·exact fun D hi hc U=>fZ (i:=17) (L2:=C2_) (L3:=C3_) rfl rfl (ao rfl) (fun a=>(ac (k:=15) rfl (aq (j:=15) U rfl (by decide) rfl) aj)) (by simp only [C1_,C0_,C3_,C2_,hi,eo]) (by simp [C1_,C0_,C3_,C2_,up,eo]) (aX (cs:=[I 0,I 0,I 0,I 0,I 0,B0]) (cs':=C0_) (us:=C0_) (L':=C3_) 2 rfl rfl rfl (bq rfl) aW rfl rfl (by simp [C1_,C0_,C3_,C2_]) rfl) (gI rfl)
   ·exact fun D hi hc U=>an (i:=18) (t:=6) (v:=(bool true)) rfl rfl (ao rfl) (fun a=>aj) (ai rfl) rfl rfl (ah (k0:=17) rfl rfl rfl)
  ·intro D hall
   refine bN C3_ (by simp only [C1_,C0_,C3_,C2_,hall 17 (by decide),eo]) (fun a=>(ac (k:=16) rfl (hall 16 (by decide)) (ac (k:=17) rfl (hall 18 (by decide)) (ac (k:=0) rfl (hall 0 (by decide)) (ac (k:=1) rfl (hall 1 (by decide)) (ac (k:=2) rfl (hall 2 (by decide)) (ac (k:=3) rfl (hall 3 (by decide)) (ac (k:=4) rfl (hall 4 (by decide)) (ac (k:=5) rfl (hall 5 (by decide)) (ac (k:=6) rfl (hall 6 (by decide)) (ac (k:=7) rfl (hall 7 (by decide)) (ac (k:=8) rfl (hall 8 (by decide)) (ac (k:=9) rfl (hall 9 (by decide)) (ac (k:=10) rfl (hall 10 (by decide)) (ac (k:=11) rfl (hall 11 (by decide)) (ac (k:=12) rfl (hall 12 (by decide)) (ac (k:=13) rfl (hall 13 (by decide)) (ac (k:=14) rfl (hall 14 (by decide)) (ac (k:=15) rfl (hall 15 (by decide)) aj))))))))))))))))))) ?_
   refine aB ?_
   first | (have e_:=Option.some.inj (show some _ = some _ from H); subst e_) | subst H
   exact bM [0,1] (by decide) rfl (vs:=[I ((l0.getD x4.toNat ap).k),C1_,bool true]) rfl ⟨rfl,⟨⟨_,C0_,rfl,aH (i:=2) rfl,.inl ⟨cl,aW,rfl⟩⟩,⟨rfl,trivial⟩⟩⟩ _ rfl ⟨rfl,rfl⟩
theorem gG.spec (a0_0 a0_1 a1:Int) (r:Bool) (H:gG a0_0 a0_1 a1 = r):bk Tryz.prog 20 [agg #[I a0_0,I a0_1],I a1] [] (fun v M=>v = (bool r) ∧ M = []):=by
 unfold gG at H
 refine bh Tryz.func20 rfl 34 rfl (Nat.le_of_ble_eq_true rfl) fun F w0=>?_
 show bW (St 34 w0 F [(0,agg #[I a0_0,I a0_1]),(1,I a1)] []) _
 refine al (af ?_)
 refine aG (cm (cs:=[I a0_0,I a0_1]) rfl rfl) rfl rfl rfl ?_
 rintro _ _ ⟨b3,rfl,rfl⟩
 refine aa (ai rfl) rfl rfl rfl (am (al (af (aa (aw (sz:=0) (o:=0) rfl cJ de) rfl rfl rfl (aa (aF (v:=(I a0_0)) rfl cI (az (i:=0) rfl rfl)) rfl rfl rfl (aa (ak rfl) rfl rfl rfl ?_))))))
 obtain ⟨x4,h4,H⟩:=bg H
 refine aG (bb (first:=[]) (cap:=[]) (xs:=[.tmp 11,.tmp 12]) rfl rfl jd rfl (ff.spec a0_0 a1 _ h4)) rfl rfl rfl ?_
 rintro _ _ ⟨rfl,rfl⟩
 refine aa (ak rfl) rfl rfl rfl (aa (aQ rfl rfl) rfl rfl rfl (aa (aQ rfl rfl) rfl rfl rfl ?_))
 refine aG (bE cS) rfl rfl rfl ?_
 rintro _ _ ⟨b4,rfl,rfl⟩
 refine bn (aX (cs:=[I 0,I 0]) (cs':=[I x4.1,I x4.2.1]) (us:=[I x4.1,I x4.2.1]) (L':=[box b4 36 [I x4.1,I x4.2.1],box b3 36 [I a0_0,I a0_1]]) 0 rfl rfl rfl (bq rfl) aN rfl rfl (by simp) rfl) rfl rfl ?_
 rintro _ _ rfl
 refine aa (ai rfl) rfl rfl rfl (am (al (al (af (aa (ak rfl) rfl rfl rfl (aa (eC rfl (eD _)) rfl rfl rfl (am ?_)))))))
 refine gN H (fun c7 H=>?_) fun c7 H=>?_
 ·refine ay rfl (Bool.eq_false_iff.2 c7) (aM (al (af (aa (aJ (vs:=[I x4.1,I x4.2.1]) rfl bp aN (aH (i:=0) rfl)) rfl rfl rfl (aa (aJ (vs:=[I a0_0,I a0_1]) rfl bp aN (aH (i:=1) rfl)) rfl rfl rfl (aa (aC rfl rfl (me _ _ _ _)) rfl rfl rfl (aa (ai rfl) rfl rfl rfl (am (aB ?_)))))))))
  cases H
  refine aA [] (by decide) rfl ?_
  exact aP rfl rfl ⟨rfl,rfl⟩
 refine ax rfl c7 (al (af (aa (aJ (vs:=[I a0_0,I a0_1]) rfl bp aN (aH (i:=1) rfl)) rfl rfl rfl ?_)))
 obtain ⟨x6,h6,H⟩:=bg H
 refine aG (bb (first:=[]) (cap:=[]) (xs:=[.tmp 19]) rfl rfl kl rfl (fm.spec a0_0 a0_1 _ h6)) rfl rfl rfl ?_
 rintro _ _ ⟨rfl,rfl⟩
 refine aa (ak rfl) rfl rfl rfl (aa (aQ rfl rfl) rfl rfl rfl (aa (aQ rfl rfl) rfl rfl rfl (aa (ai rfl) rfl rfl rfl (aa (ai rfl) rfl rfl rfl (am (al (af (aa (ak rfl) rfl rfl rfl (aa (ak rfl) rfl rfl rfl (aa (aC rfl rfl (iL _ _ _)) rfl rfl rfl (aa (ak rfl) rfl rfl rfl ?_)))))))))))
 refine gN H (fun c8 H=>?_) fun c8 H=>?_
 ·refine au rfl rfl rfl (decide_eq_false c8) rfl rfl ?_
  refine au rfl rfl rfl (decide_eq_false c8) rfl rfl ?_
  refine au rfl rfl rfl (decide_eq_false c8) rfl rfl ?_
  refine aa (aE rfl rfl rfl (bC (decide_eq_false c8))) rfl rfl rfl (aa (ai rfl) rfl rfl rfl (am (aB ?_)))
  cases H
  refine aA [] (by decide) rfl ?_
  exact aP rfl rfl ⟨rfl,rfl⟩
 refine ar (ak rfl) rfl rfl rfl (decide_eq_true c8) rfl rfl ?_
 refine ar (ak rfl) rfl rfl rfl (decide_eq_true c8) rfl rfl ?_
 refine ar (aC rfl rfl (cB _ _ _)) rfl rfl rfl (decide_eq_true c8) rfl rfl ?_
 refine aa (aE rfl rfl rfl (bB (decide_eq_true c8))) rfl rfl rfl (aa (ai rfl) rfl rfl rfl (am (aB ?_)))
 cases H
 refine aA [] (by decide) rfl ?_
 exact aP rfl rfl ⟨rfl,rfl⟩
theorem ew.spec (K p0 p1:Nat) (sv0:Value) (l0:List ag) (a1:Int) (r:(Int × Int × Int × Int × Int × Bool × Bool)) (H:ew K l0 a1 = some r):bk Tryz.prog 29 [pt p0 0,I a1] [box p0 99 [pt p1 0],box p1 130 [sv0],own sv0 135 7 l0.length (fl ab l0)] (fun v M=>v = (tU #[agg #[I r.1,I r.2.1,I r.2.2.1,I r.2.2.2.1,I r.2.2.2.2.1,bool r.2.2.2.2.2.1],bool r.2.2.2.2.2.2]) ∧ M = [box p0 99 [pt p1 0],box p1 130 [sv0],own sv0 135 7 l0.length (fl ab l0)]):=by
 unfold ew at H
 refine bh Tryz.func29 rfl 30 rfl (Nat.le_of_ble_eq_true rfl) fun F w0=>?_
 show bW (St 30 w0 F [(0,pt p0 0),(1,I a1)] [box p0 99 [pt p1 0],box p1 130 [sv0],own sv0 135 7 l0.length (fl ab l0)]) _
 refine al (af ?_)
 refine aG (bE cu) rfl rfl rfl ?_
 rintro _ _ ⟨b2,rfl,rfl⟩
 let C1_:List HP:=[box b2 54 [I 0,I 0,I 0,I 0,I 0,B0],box p0 99 [pt p1 0],box p1 130 [sv0],own sv0 135 7 l0.length (fl ab l0)]
 refine aa (ai rfl) rfl rfl rfl (am (al (al (af (aa (ak rfl) rfl rfl rfl ?_)))))
 refine aa (aC rfl rfl (eP (fun w=>rfl) rfl (jo Tryz.underlying28 _ _))) rfl rfl rfl ?_
 refine am (ay rfl rfl (aM (al (af (aa (ak rfl) rfl rfl rfl (aa (bu rfl) rfl rfl rfl (aa (aw (sz:=0) (o:=0) rfl fP gE) rfl rfl rfl (aa (aF (v:=(pt p1 0)) rfl dH (az (i:=1) rfl rfl)) rfl rfl rfl (aa (ak rfl) rfl rfl rfl ?_)))))))))
 obtain ⟨x4,h4,H⟩:=Option.bind_eq_some_iff.1 H
 let C0_:List Value:=[I x4.2.1,I x4.2.2.1,I x4.2.2.2.1,I x4.2.2.2.2.1,I x4.2.2.2.2.2.1,bool x4.2.2.2.2.2.2.1]
 let C2_:List HP:=[box b2 54 C0_,box p0 99 [pt p1 0],box p1 130 [sv0],own sv0 135 7 l0.length (fl ab l0)]
 refine aG (bz (Lr:=[box b2 54 [I 0,I 0,I 0,I 0,I 0,B0],box p0 99 [pt p1 0]]) [2,3,0,1] [2,3,0,1] (first:=[]) (cap:=[]) (xs:=[.tmp 13,.tmp 14]) rfl rfl mN rfl (cy.spec K p1 sv0 l0 a1 _ h4) (by decide) rfl (by decide) rfl) rfl rfl rfl ?_
 rintro _ _ ⟨rfl,rfl⟩
 refine aa (ak rfl) rfl rfl rfl (aa (aQ rfl rfl) rfl rfl rfl (aa (aQ rfl rfl) rfl rfl rfl (aa (aQ rfl rfl) rfl rfl rfl ?_)))
 refine bn (aX (cs:=[I 0,I 0,I 0,I 0,I 0,B0]) (cs':=C0_) (us:=C0_) (L':=C2_) 0 rfl rfl rfl (bq rfl) aW rfl rfl (by simp [C1_,C0_,C2_]) rfl) rfl rfl ?_
 rintro _ _ rfl
 refine aa (ai rfl) rfl rfl rfl (am (al (al (af (aa (ak rfl) rfl rfl rfl (aa (eC rfl (eD _)) rfl rfl rfl (aa (ak rfl) rfl rfl rfl ?_)))))))
 refine eV H (fun c7 H=>?_) fun c7 H=>?_
 ·refine au rfl rfl rfl c7 rfl rfl ?_
  refine au rfl rfl rfl c7 rfl rfl ?_
  refine au rfl rfl rfl c7 rfl rfl ?_
  refine au rfl rfl rfl c7 rfl rfl ?_
  refine au rfl rfl rfl c7 rfl rfl ?_
  refine aa (aE rfl rfl rfl (bB c7)) rfl rfl rfl (am (ax rfl rfl (al (af (aa (bx (is:=[]) (xs:=[]) (vs:=[]) rfl rfl (bc (cs:=[I 0,I 0,I 0,I 0,I 0,B0]) cu iq rfl)) rfl rfl rfl ?_)))))
  refine bn (aX (cs:=C0_) (cs':=[I 0,I 0,I 0,I 0,I 0,B0]) (us:=[I 0,I 0,I 0,I 0,I 0,B0]) (L':=C1_) 0 rfl rfl rfl (bq rfl) aW rfl rfl (by simp [C1_,C0_,C2_]) rfl) rfl rfl ?_
  rintro _ _ rfl
  refine aa (ai rfl) rfl rfl rfl (am (aB ?_))
  first | (have e_:=Option.some.inj (show some _ = some _ from H); subst e_) | subst H
  exact bM [1,2,3] (by decide) rfl (vs:=[agg #[I 0,I 0,I 0,I 0,I 0,B0],B0]) rfl ⟨⟨_,[I 0,I 0,I 0,I 0,I 0,B0],rfl,aH (i:=0) rfl,.inl ⟨cl,aW,rfl⟩⟩,⟨rfl,trivial⟩⟩ _ rfl ⟨rfl,rfl⟩
 refine ar (aw (sz:=1) (o:=0) rfl ce aN) rfl rfl rfl (Bool.eq_false_iff.2 c7) rfl rfl ?_
 refine ar (aJ (vs:=[I x4.2.1,I x4.2.2.1]) rfl bp aN (dm (i:=0) rfl rfl)) rfl rfl rfl (Bool.eq_false_iff.2 c7) rfl rfl ?_
 refine ar (ak rfl) rfl rfl rfl (Bool.eq_false_iff.2 c7) rfl rfl ?_
 obtain ⟨x6,h6,H⟩:=bg H
 refine cN (bb (first:=[]) (cap:=[]) (xs:=[.tmp 23,.tmp 24]) rfl rfl mR rfl (gG.spec x4.2.1 x4.2.2.1 a1 _ h6)) rfl rfl rfl (Bool.eq_false_iff.2 c7) rfl rfl ?_
 rintro _ _ ⟨rfl,rfl⟩
 refine ar (eC rfl (eD _)) rfl rfl rfl (Bool.eq_false_iff.2 c7) rfl rfl ?_
 refine aa (aE rfl rfl rfl (bC (Bool.eq_false_iff.2 c7))) rfl rfl rfl (am ?_)
 refine eV H (fun c8 H=>?_) fun c8 H=>?_
 ·refine ax rfl c8 (al (af (aa (bx (is:=[]) (xs:=[]) (vs:=[]) rfl rfl (bc (cs:=[I 0,I 0,I 0,I 0,I 0,B0]) cu iq rfl)) rfl rfl rfl ?_)))
  refine bn (aX (cs:=C0_) (cs':=[I 0,I 0,I 0,I 0,I 0,B0]) (us:=[I 0,I 0,I 0,I 0,I 0,B0]) (L':=C1_) 0 rfl rfl rfl (bq rfl) aW rfl rfl (by simp [C1_,C0_,C2_]) rfl) rfl rfl ?_
  rintro _ _ rfl
  refine aa (ai rfl) rfl rfl rfl (am (aB ?_))
  first | (have e_:=Option.some.inj (show some _ = some _ from H); subst e_) | subst H
  exact bM [1,2,3] (by decide) rfl (vs:=[agg #[I 0,I 0,I 0,I 0,I 0,B0],B0]) rfl ⟨⟨_,[I 0,I 0,I 0,I 0,I 0,B0],rfl,aH (i:=0) rfl,.inl ⟨cl,aW,rfl⟩⟩,⟨rfl,trivial⟩⟩ _ rfl ⟨rfl,rfl⟩
 refine ay rfl (Bool.eq_false_iff.2 c8) (aM (al (af (aa (aJ (vs:=C0_) rfl cl aW (aH (i:=0) rfl)) rfl rfl rfl ?_))))
 refine bn (aX (cs:=C0_) (cs':=C0_) (us:=C0_) (L':=C2_) 0 rfl rfl rfl (bq rfl) aW rfl rfl (by simp [C1_,C0_,C2_]) rfl) rfl rfl ?_
 rintro _ _ rfl
 refine aa (ai rfl) rfl rfl rfl (am (aB ?_))
 first | (have e_:=Option.some.inj (show some _ = some _ from H); subst e_) | subst H
 exact bM [1,2,3] (by decide) rfl (vs:=[agg #[I x4.2.1,I x4.2.2.1,I x4.2.2.2.1,I x4.2.2.2.2.1,I x4.2.2.2.2.2.1,bool x4.2.2.2.2.2.2.1],bool true]) rfl ⟨⟨_,C0_,rfl,aH (i:=0) rfl,.inl ⟨cl,aW,rfl⟩⟩,⟨rfl,trivial⟩⟩ _ rfl ⟨rfl,rfl⟩
theorem cH.spec (sv0:Value) (A0:HP) (l0:List ag) (hA0:eA A0 sv0 l0.length 7 (fl ab l0)) (r:Unit) (H:cH l0 = r):bk Tryz.prog 112 [sv0] [A0] (fun v M=>∃ b2:Nat,v = (Value.func (.func 126) #[] #[pt b2 0]) ∧ M = [A0,box b2 128 [sv0]]):=by
 unfold cH at H
 refine bh Tryz.func112 rfl 4 rfl (Nat.le_of_ble_eq_true rfl) fun F w0=>?_
 show bW (St 4 w0 F [(0,sv0)] [A0]) _
 refine al (af ?_)
 refine aG (wC 0 rfl rfl hA0) rfl rfl rfl ?_
 rintro _ _ ⟨b3,rfl,rfl⟩
 refine aa (ai rfl) rfl rfl rfl (am (al (af (aa (fT (first:=[]) (cap:=[.tmp 1]) rfl rfl) rfl rfl rfl (aa (ai rfl) rfl rfl rfl (am (aB ?_)))))))
 cases H
 refine aA [1,0] (by decide) rfl ?_
 exact aP rfl rfl ⟨_,rfl,rfl⟩
theorem cb.spec (K p0:Nat) (sv0:Value) (l0:List ag) (a1 a2:Int) (r:List ag) (H:cb K l0 a1 a2 = some r):bk Tryz.prog 107 [pt p0 0,I a1,I a2] [box p0 130 [sv0],own sv0 135 7 l0.length (fl ab l0)] (fun v M=>∃ b4:Nat,∃ sv1:Value,eA (own sv0 135 7 l0.length (fl ab l0)) sv1 r.length 7 (fl ab r) ∧ v = (Value.func (.func 126) #[] #[pt b4 0]) ∧ M = [box p0 130 [sv0],own sv0 135 7 l0.length (fl ab l0),box b4 128 [sv1]]):=by
 unfold cb at H
 refine bh Tryz.func107 rfl 35 rfl (Nat.le_of_ble_eq_true rfl) fun F w0=>?_
 let C0_:List HP:=[box p0 130 [sv0],own sv0 135 7 l0.length (fl ab l0)]
 show bW (St 35 w0 F [(0,pt p0 0),(1,I a1),(2,I a2)] C0_) _
 refine al (af (aa (ai rfl) rfl rfl rfl (am (al (af (aa (ak rfl) rfl rfl rfl (aa (ak rfl) rfl rfl rfl ?_)))))))
 obtain ⟨x3,h6,H⟩:=Option.bind_eq_some_iff.1 H
 refine aG (bz (Lr:=[]) [0,1] [0,1] (first:=[]) (cap:=[]) (xs:=[.tmp 12,.tmp 13]) rfl rfl jN rfl (bo.spec K p0 sv0 l0 a1 _ h6) (by decide) rfl (by decide) rfl) rfl rfl rfl ?_
 rintro _ _ ⟨rfl,rfl⟩
 refine aa (ak rfl) rfl rfl rfl (aa (aQ rfl rfl) rfl rfl rfl (aa (aQ rfl rfl) rfl rfl rfl (aa (ai rfl) rfl rfl rfl (aa (ai rfl) rfl rfl rfl (am (al (af (aa (ak rfl) rfl rfl rfl (aa (ak rfl) rfl rfl rfl ?_)))))))))
 obtain ⟨x4,h7,H⟩:=Option.bind_eq_some_iff.1 H
 refine aG (bz (Lr:=[]) [0,1] [0,1] (first:=[]) (cap:=[]) (xs:=[.tmp 18,.tmp 19]) rfl rfl jN rfl (bo.spec K p0 sv0 l0 a2 _ h7) (by decide) rfl (by decide) rfl) rfl rfl rfl ?_
 rintro _ _ ⟨rfl,rfl⟩
 refine aa (ak rfl) rfl rfl rfl (aa (aQ rfl rfl) rfl rfl rfl (aa (aQ rfl rfl) rfl rfl rfl (aa (ai rfl) rfl rfl rfl (aa (ai rfl) rfl rfl rfl (am (al (al (af (aa (ak rfl) rfl rfl rfl (aa (ak rfl) rfl rfl rfl (aa (aC rfl rfl (iL _ _ _)) rfl rfl rfl ?_)))))))))))
 refine am ?_
 refine eV H (fun c7 H=>?_) fun c7 H=>?_
 ·refine ax rfl (decide_eq_true c7) (al (af ?_))
  obtain ⟨u5,h9,H⟩:=bg H
  refine aG (cL (Lr:=C0_) (first:=[]) (cap:=[]) (xs:=[.const L0]) rfl rfl kw rfl (cF.spec _ h9) rfl) rfl rfl rfl ?_
  rintro _ _ ⟨_,⟨b6,rfl,rfl⟩,rfl⟩
  refine aa (ai rfl) rfl rfl rfl (am (aB ?_))
  cases H
  refine aA [1,2,0] (by decide) rfl ?_
  exact aP rfl rfl ⟨_,_,(pg _ _),rfl,rfl⟩
 refine ay rfl (decide_eq_false c7) (aM (al (af (aa (ak rfl) rfl rfl rfl (aa (bu rfl) rfl rfl rfl (aa (aw (sz:=0) (o:=0) rfl bP cD) rfl rfl rfl (aa (aF (v:=sv0) rfl dB (az (i:=0) rfl rfl)) rfl rfl rfl (aa (ak rfl) rfl rfl rfl (aa (ak rfl) rfl rfl rfl ?_)))))))))
 obtain ⟨c8,H⟩:=iM H
 obtain ⟨c9,H⟩:=iM H
 obtain ⟨c10,H⟩:=iM H
 refine aa (kb 1 rfl rfl rfl bt bR rfl (br 135) c8 c9 c10) rfl rfl rfl ?_
 obtain ⟨u6,h10,H⟩:=bg H
 refine aA [1,0] (by decide) rfl ?_
 refine aG (cL (Lr:=[box p0 130 [sv0]]) (first:=[]) (cap:=[]) (xs:=[.tmp 33]) rfl rfl kw rfl (cH.spec (il sv0 x3.2.toNat x4.2.toNat 7) (own sv0 135 7 l0.length (fl ab l0)) ((l0.drop x3.2.toNat).take (x4.2.toNat - x3.2.toNat)) (iZ aK (br 135) (lu c8 c9) (jw (Int.le_trans c8 c9) c10)) _ h10) rfl) rfl rfl rfl ?_
 rintro _ _ ⟨_,⟨b7,rfl,rfl⟩,rfl⟩
 refine aa (ai rfl) rfl rfl rfl (am (aB ?_))
 cases H
 refine aA [2,0,1] (by decide) rfl ?_
 exact aP rfl rfl ⟨_,_,(iZ aK (br 135) (lu c8 c9) (jw (Int.le_trans c8 c9) c10)),rfl,rfl⟩
theorem bK.spec (K yl0 p0:Nat) (sv0:Value) (A0:HP) (Gm0:Type) (y0:Int → av → Gm0 → Option (Gm0 × Bool)) (x0y:Gm0) (l0:List ag) (Y0:Gm0 → HP) (hY0:∀ (t0_:Int) (t1_:av) (z_:Gm0) (r_:Gm0 × Bool),y0 t0_ t1_ z_ = some r_ → kK Tryz.prog yl0 [I t0_,agg #[I t1_.Part.Tier,I t1_.Part.Index,I t1_.Seg,I t1_.Mark,I t1_.Rows,bool t1_.Cold]] [Y0 z_] (fun v N=>v = .bool r_.2 ∧ N = [Y0 r_.1])) (hA0:eA A0 sv0 l0.length 7 (fl ab l0)) (r:Gm0) (H:bK K Gm0 y0 x0y l0 = some r):bk Tryz.prog 126 [(Value.func (.yield yl0) #[] #[]),pt p0 0] [(Y0 x0y),box p0 128 [sv0],A0] (fun v M=>v = (tU #[]) ∧ M = [(Y0 r),box p0 128 [sv0],A0]):=by
 unfold bK at H
 refine bh Tryz.func126 rfl 19 rfl (Nat.le_of_ble_eq_true rfl) fun F w0=>?_
 show bW (St 19 w0 F [(0,(Value.func (.yield yl0) #[] #[])),(1,pt p0 0)] [(Y0 x0y),box p0 128 [sv0],A0]) _
 refine al (af (aa (aF (v:=sv0) rfl dB (az (i:=1) rfl rfl)) rfl rfl rfl (aa (fF 2 rfl bt rfl hA0) rfl rfl rfl (aa (ak rfl) rfl rfl rfl (am (bi ?_))))))
 refine dZ (fun k a w=>∃ i2,∃ l3,bY K Gm0 y0 l0 k i2 l3 = some r ∧ St 19 w0 F [(0,(Value.func (.yield yl0) #[] #[])),(5,sv0),(6,I (l0.length:Int)),(7,I i2)] [(Y0 l3),box p0 128 [sv0],A0] a w) K ?_ ?_
 ·exact bj [0,1,2] (by decide) rfl (ae (t:=0) rfl (ae (t:=5) rfl (ae (t:=6) rfl (ae (t:=7) rfl (aS _))))) fun a w h=>⟨_,_,H,h⟩
 ·refine fun k=>bm fun i2=>bm fun l3=>dx fun H2=>?_
  let C0_:List Value:=[I ((l0.getD i2.toNat ap).k),I ((((l0.getD i2.toNat ap).v).Part).Tier),I ((((l0.getD i2.toNat ap).v).Part).Index),I (((l0.getD i2.toNat ap).v).Seg),I (((l0.getD i2.toNat ap).v).Mark),I (((l0.getD i2.toNat ap).v).Rows),bool (((l0.getD i2.toNat ap).v).Cold)]
  cases k with
  | zero=>exact absurd H2 (by simp [C0_,bY])
  | succ k =>
   rw [bY] at H2
   refine al (af (aa (aC rfl rfl (cB _ _ _)) rfl rfl rfl (am (al ?_))))
   refine gN H2 (fun c28 H2=>?_) fun c28 H2=>?_
   ·refine ay rfl (decide_eq_false c28) (cn ?_)
    cases H2
    refine fx ?_
    refine aA [0,1,2] (by decide) rfl ?_
    exact gc rfl ⟨rfl,rfl⟩
   refine ax rfl (decide_eq_true c28) (aM (al (bi (al (af ?_)))))
   obtain ⟨c31,H2⟩:=iM H2
   refine aa (cg (sz:=6) 2 rfl rfl bt bR rfl hA0 c31 c28) rfl rfl rfl ?_
   refine aa (aJ (vs:=C0_) rfl tB bR (eF (i:=2) rfl hA0 (by simp [C0_]) (gX aK (fu c31 c28) rfl))) rfl rfl rfl ?_
   refine aG (bE ir) rfl rfl rfl ?_
   rintro _ _ ⟨b12,rfl,rfl⟩
   refine bn (aX (cs:=[I 0,I 0,I 0,I 0,I 0,I 0,B0]) (cs':=C0_) (us:=C0_) (L':=[box b12 135 C0_,(Y0 l3),box p0 128 [sv0],A0]) 0 rfl rfl rfl (bq rfl) bR rfl rfl (by simp [C0_]) rfl) rfl rfl ?_
   rintro _ _ rfl
   refine am (al (af (aa (ak rfl) rfl rfl rfl (aa (aw (sz:=0) (o:=0) rfl gw aU) rfl rfl rfl (aa (aF (v:=(I ((l0.getD i2.toNat ap).k))) rfl ba (az (i:=0) rfl rfl)) rfl rfl rfl (aa (aw (sz:=5) (o:=0) rfl jh aW) rfl rfl rfl (aa (aJ (vs:=[I ((((l0.getD i2.toNat ap).v).Part).Tier),I ((((l0.getD i2.toNat ap).v).Part).Index),I (((l0.getD i2.toNat ap).v).Seg),I (((l0.getD i2.toNat ap).v).Mark),I (((l0.getD i2.toNat ap).v).Rows),bool (((l0.getD i2.toNat ap).v).Cold)]) rfl cl aW (dm (i:=0) rfl rfl)) rfl rfl rfl ?_)))))))
   obtain ⟨x12,h12,H2⟩:=Option.bind_eq_some_iff.1 H2
   refine aA [1,0,2,3] (by decide) rfl ?_
   refine pJ (oD (vs:=[I ((l0.getD i2.toNat ap).k),agg #[I ((((l0.getD i2.toNat ap).v).Part).Tier),I ((((l0.getD i2.toNat ap).v).Part).Index),I (((l0.getD i2.toNat ap).v).Seg),I (((l0.getD i2.toNat ap).v).Mark),I (((l0.getD i2.toNat ap).v).Rows),bool (((l0.getD i2.toNat ap).v).Cold)]]) (Lp:=[(Y0 l3)]) (Lr:=[box b12 135 C0_,box p0 128 [sv0],A0]) rfl rfl (hY0 _ _ _ _ h12) rfl) rfl rfl rfl ?_
   rintro _ _ ⟨_,⟨rfl,rfl⟩,rfl⟩
   refine aa (eC rfl (eD _)) rfl rfl rfl (am ?_)
   refine eV H2 (fun c32 H2=>?_) fun c32 H2=>?_
   ·refine ax rfl c32 (aB ?_)
    cases H2
    refine aA [0,2,3] (by decide) rfl ?_
    exact gc rfl ⟨rfl,rfl⟩
   refine ay rfl (Bool.eq_false_iff.2 c32) (aM (af (aa (aC rfl rfl (ct _ _ _) ) rfl rfl rfl (aa (ak rfl) rfl rfl rfl (am ?_)))))
   exact bj [0,2,3] (by decide) rfl (ae (t:=0) rfl (ae (t:=5) rfl (ae (t:=6) rfl (ae (t:=7) rfl (aS _))))) fun a w h=>⟨k,Nat.lt_succ_self k,_,_,H2,h⟩
theorem dW.spec (K p0 p1:Nat) (sv0:Value) (l0:List ag) (a1 a2:Int) (r:List av) (H:dW K l0 a1 a2 = some r):bk Tryz.prog 80 [pt p0 0,I a1,I a2] [box p0 99 [pt p1 0],box p1 130 [sv0],own sv0 135 7 l0.length (fl ab l0)] (fun v M=>∃ sv23:Value,v = sv23 ∧ M = [box p0 99 [pt p1 0],box p1 130 [sv0],own sv0 135 7 l0.length (fl ab l0),own sv23 54 6 r.length (fl aL r)]):=by
 unfold dW at H
 refine bh Tryz.func80 rfl 46 rfl (Nat.le_of_ble_eq_true rfl) fun F w0=>?_
 show bW (St 46 w0 F [(0,pt p0 0),(1,I a1),(2,I a2)] [box p0 99 [pt p1 0],box p1 130 [sv0],own sv0 135 7 l0.length (fl ab l0)]) _
 refine al (af ?_)
 refine aG (cm (cs:=[I a1]) rfl rfl) rfl rfl rfl ?_
 rintro _ _ ⟨b20,rfl,rfl⟩
 refine aG (bE um) rfl rfl rfl ?_
 rintro _ _ ⟨b21,rfl,rfl⟩
 refine am (oY (al (al (af (aa (ak rfl) rfl rfl rfl ?_)))))
 refine aa (aC rfl rfl (eP (fun w=>rfl) rfl (jo Tryz.underlying28 _ _))) rfl rfl rfl ?_
 refine aa (ak rfl) rfl rfl rfl ?_
 refine ar (aF (v:=(I a1)) rfl ba (az (i:=1) rfl rfl)) rfl rfl rfl rfl rfl rfl ?_
 refine ar (ak rfl) rfl rfl rfl rfl rfl rfl ?_
 refine ar (aC rfl rfl (iL _ _ _)) rfl rfl rfl rfl rfl rfl ?_
 refine aa (aE rfl rfl rfl rfl) rfl rfl rfl (am ?_)
 refine eV H (fun c26 H=>?_) fun c26 H=>?_
 ·refine ax rfl (decide_eq_true c26) (al (af ?_))
  refine bn (aX (cs:=[L0]) (cs':=[L0]) (us:=[L0]) (L':=[box b21 22 [L0],box b20 2 [I a1],box p0 99 [pt p1 0],box p1 130 [sv0],own sv0 135 7 l0.length (fl ab l0)]) 0 rfl rfl rfl (bq rfl) gC rfl rfl (by simp) rfl) rfl rfl ?_
  rintro _ _ rfl
  refine am (aB ?_)
  first | (have e_:=Option.some.inj (show some _ = some _ from H); subst e_) | subst H
  refine ge 54 6 ?_
  exact bM [3,4,5,0] (by decide) rfl (vs:=[L0]) rfl ⟨⟨_,[L0],rfl,az (i:=1) rfl rfl,.inr ⟨gU,rfl⟩⟩,trivial⟩ _ rfl ⟨_,rfl,rfl⟩
 refine ay rfl (decide_eq_false c26) (aM ?_)
 obtain ⟨x10,H2,H⟩:=Option.bind_eq_some_iff.1 H
 refine cR (fun a w=>∃ sv26:Value,∃ b23:Nat,∃ b24:Nat,St 46 w0 F [(0,pt p0 0),(2,I a2),(4,pt b23 0),(6,pt b24 0)] [box p0 99 [pt p1 0],box p1 130 [sv0],own sv0 135 7 l0.length (fl ab l0),box b23 2 [I a1],box b24 22 [sv26],own sv26 54 6 x10.length (fl aL x10)] a w) ?_ ?_
 ·refine al (af (aa (ak rfl) rfl rfl rfl (aa (aF (v:=(I a1)) rfl ba (az (i:=1) rfl rfl)) rfl rfl rfl ?_)))
  obtain ⟨x11,h9,H2⟩:=Option.bind_eq_some_iff.1 H2
  let C1_:List Value:=[I x11.1,I x11.2.1,I x11.2.2.1,I x11.2.2.2.1,I x11.2.2.2.2.1,bool x11.2.2.2.2.2.1]
  refine aG (bz (Lr:=[box b21 22 [L0],box b20 2 [I a1]]) [2,3,4,0,1] [3,4,0,1,2] (first:=[]) (cap:=[]) (xs:=[.tmp 19,.tmp 20]) rfl rfl mX rfl (ew.spec K p0 p1 sv0 l0 a1 _ h9) (by decide) rfl (by decide) rfl) rfl rfl rfl ?_
  rintro _ _ ⟨rfl,rfl⟩
  refine aa (ak rfl) rfl rfl rfl (aa (aQ rfl rfl) rfl rfl rfl (aa (aQ rfl rfl) rfl rfl rfl ?_))
  refine aG (bE cu) rfl rfl rfl ?_
  rintro _ _ ⟨b25,rfl,rfl⟩
  refine bn (aX (cs:=[I 0,I 0,I 0,I 0,I 0,B0]) (cs':=C1_) (us:=C1_) (L':=[box b25 54 C1_,box b21 22 [L0],box b20 2 [I a1],box p0 99 [pt p1 0],box p1 130 [sv0],own sv0 135 7 l0.length (fl ab l0)]) 0 rfl rfl rfl (bq rfl) aW rfl rfl (by simp [C1_]) rfl) rfl rfl ?_
  rintro _ _ rfl
  refine aa (ai rfl) rfl rfl rfl (am (al (af (aa (ak rfl) rfl rfl rfl (am ?_)))))
  refine gN H2 (fun c29 H2=>?_) fun c29 H2=>?_
  ·refine ay rfl (Bool.eq_false_iff.2 c29) (aM ?_)
   cases H2
   refine ge 54 6 ?_
   exact bj [4,5,6,3,2,0] (by decide) rfl (ae (t:=0) rfl (ae (t:=2) rfl (ae (t:=4) rfl (ae (t:=6) rfl (aS _))))) fun a w h=>⟨_,_,_,h⟩
  refine ax rfl c29 (af (aa (aF (v:=L0) rfl gU (az (i:=1) rfl rfl)) rfl rfl rfl (aa (aJ (vs:=C1_) rfl cl aW (aH (i:=0) rfl)) rfl rfl rfl ?_)))
  refine aG (ey (sz:=5) (xs:=[.tmp 26]) (cs:=fl aL [(⟨(⟨x11.1,x11.2.1⟩:aD),x11.2.2.1,x11.2.2.2.1,x11.2.2.2.2.1,x11.2.2.2.2.2.1⟩:av)]) rfl rfl cz aW cu rfl rfl (gZ rfl) rfl (by decide)) rfl rfl rfl ?_
  rintro sv27 _ rfl
  refine ge 54 6 ?_
  obtain ⟨c30,H2⟩:=iM H2
  refine aG (ga (sz:=5) (xs:=([]:List av)) (ys:=[(⟨(⟨x11.1,x11.2.1⟩:aD),x11.2.2.1,x11.2.2.2.1,x11.2.2.2.2.1,x11.2.2.2.2.2.1⟩:av)]) 0 1 rfl rfl cz aW cu rfl jP rfl rfl rfl (br 54) rfl gm c30) rfl rfl rfl ?_
  rintro sv28 _ rfl
  refine ms [own sv28 54 6 (([]:List av) ++ [(⟨(⟨x11.1,x11.2.1⟩:aD),x11.2.2.1,x11.2.2.2.1,x11.2.2.2.2.1,x11.2.2.2.2.2.1⟩:av)]).length (fl aL (([]:List av) ++ [(⟨(⟨x11.1,x11.2.1⟩:aD),x11.2.2.1,x11.2.2.2.1,x11.2.2.2.2.1,x11.2.2.2.2.2.1⟩:av)])),own sv27 54 6 [(⟨(⟨x11.1,x11.2.1⟩:aD),x11.2.2.1,x11.2.2.2.1,x11.2.2.2.2.1,x11.2.2.2.2.2.1⟩:av)].length (fl aL [(⟨(⟨x11.1,x11.2.1⟩:aD),x11.2.2.1,x11.2.2.2.1,x11.2.2.2.2.1,x11.2.2.2.2.2.1⟩:av)]),box b25 54 C1_,box b21 22 [L0],box b20 2 [I a1],box p0 99 [pt p1 0],box p1 130 [sv0],own sv0 135 7 l0.length (fl ab l0)] rfl ?_
  refine bn (jc (cs:=[L0]) (cs':=[sv28]) (sv:=sv28) (L':=[own sv28 54 6 (([]:List av) ++ [(⟨(⟨x11.1,x11.2.1⟩:aD),x11.2.2.1,x11.2.2.2.1,x11.2.2.2.2.1,x11.2.2.2.2.2.1⟩:av)]).length (fl aL (([]:List av) ++ [(⟨(⟨x11.1,x11.2.1⟩:aD),x11.2.2.1,x11.2.2.2.1,x11.2.2.2.2.1,x11.2.2.2.2.2.1⟩:av)])),own sv27 54 6 [(⟨(⟨x11.1,x11.2.1⟩:aD),x11.2.2.1,x11.2.2.2.1,x11.2.2.2.2.1,x11.2.2.2.2.2.1⟩:av)].length (fl aL [(⟨(⟨x11.1,x11.2.1⟩:aD),x11.2.2.1,x11.2.2.2.1,x11.2.2.2.2.1,x11.2.2.2.2.2.1⟩:av)]),box b25 54 C1_,box b21 22 [sv28],box b20 2 [I a1],box p0 99 [pt p1 0],box p1 130 [sv0],own sv0 135 7 l0.length (fl ab l0)]) 3 0 rfl rfl gC rfl rfl (br 54) rfl (by simp [C1_]) rfl) rfl rfl ?_
  rintro _ _ rfl
  refine am ?_
  cases H2
  exact bj [5,6,7,4,3,0] (by decide) rfl (ae (t:=0) rfl (ae (t:=2) rfl (ae (t:=4) rfl (ae (t:=6) rfl (aS _))))) fun a w h=>⟨_,_,_,h⟩
 ·refine bm fun sv26=>bm fun b23=>bm fun b24=>?_
  let C2_:List HP:=[box p0 99 [pt p1 0],box p1 130 [sv0],own sv0 135 7 l0.length (fl ab l0),box b23 2 [I a1],box b24 22 [sv26],own sv26 54 6 x10.length (fl aL x10)]
  refine al (pG (al (al ?_)))
  obtain ⟨x14,h12,H⟩:=Option.bind_eq_some_iff.1 H
  let Z4_A:(Nat → Bool) → Act → World → Prop:=(fun D a w=>iN 46 w0 F [(0,pt p0 0),(2,I a2),(4,pt b23 0),(6,pt b24 0)] [(0,29,pt p0 0),(1,30,pt p0 0),(2,31,pt p0 0),(3,32,pt p1 0),(4,33,I a1),(5,34,I a2)] D C2_ a w)
  let Z4_B:Act → World → Prop:=(fun a w=>∃ b32:Nat,∃ sv37:Value,eA (own sv0 135 7 l0.length (fl ab l0)) sv37 x14.length 7 (fl ab x14) ∧ St 46 w0 F [(0,pt p0 0),(2,I a2),(4,pt b23 0),(6,pt b24 0),(29,pt p0 0),(30,pt p0 0),(31,pt p0 0),(32,pt p1 0),(33,I a1),(34,I a2),(35,(Value.func (.func 126) #[] #[pt b32 0]))] [box p1 130 [sv0],own sv0 135 7 l0.length (fl ab l0),box b32 128 [sv37],box p0 99 [pt p1 0],box b23 2 [I a1],box b24 22 [sv26],own sv26 54 6 x10.length (fl aL x10)] a w)
  refine bO 7 rfl (qd 6 Z4_A Z4_B) (by kernel_rfl) (by kernel_rfl) (mY (bJ (ae (t:=0) rfl (ae (t:=2) rfl (ae (t:=4) rfl (ae (t:=6) rfl (aS _))))) rfl)) ?_ ?_
  ·refine ⟨?_,?_,?_,?_,?_,?_,?_,trivial⟩
   ·intro D hi hc U
    have n1:D 1 = false:=bd (m:=1) hc hi rfl rfl
    have n2:D 2 = false:=bd (m:=2) hc n1 rfl rfl
    have n3:D 3 = false:=bd (m:=3) hc n2 rfl rfl
    have n6:D 6 = false:=bd (m:=6) hc n3 rfl rfl
    refine eG (m:=6) (A:=Z4_A) n6 rfl ?_
    exact an (i:=0) (t:=29) (v:=(pt p0 0)) rfl rfl (ao rfl) (fun a=>aj) (ak rfl) rfl rfl (ah (k0:=0) rfl rfl rfl)
   ·intro D hi hc U
    have n2:D 2 = false:=bd (m:=2) hc hi rfl rfl
    have n3:D 3 = false:=bd (m:=3) hc n2 rfl rfl
    have n6:D 6 = false:=bd (m:=6) hc n3 rfl rfl
    refine eG (m:=6) (A:=Z4_A) n6 rfl ?_
    have d0:D 0 = true:=aq (j:=0) U rfl (by decide) rfl
    exact an (i:=1) (t:=30) (v:=(pt p0 0)) rfl rfl (ao rfl) (fun a=>(ac (k:=0) rfl d0 aj)) (bu rfl) rfl rfl (ah (k0:=1) rfl rfl rfl)
   ·intro D hi hc U
    have n3:D 3 = false:=bd (m:=3) hc hi rfl rfl
    have n6:D 6 = false:=bd (m:=6) hc n3 rfl rfl
    refine eG (m:=6) (A:=Z4_A) n6 rfl ?_
    have d1:D 1 = true:=aq (j:=1) U rfl (by decide) rfl
    exact an (i:=2) (t:=31) (v:=(pt p0 0)) rfl rfl (ao rfl) (fun a=>(ac (k:=1) rfl d1 aj)) (aw (sz:=0) (o:=0) rfl fP gE) rfl rfl (ah (k0:=2) rfl rfl rfl)
   ·intro D hi hc U
    have n6:D 6 = false:=bd (m:=6) hc hi rfl rfl
    refine eG (m:=6) (A:=Z4_A) n6 rfl ?_
    have d2:D 2 = true:=aq (j:=2) U rfl (by decide) rfl
    exact an (i:=3) (t:=32) (v:=(pt p1 0)) rfl rfl (ao rfl) (fun a=>(ac (k:=2) rfl d2 aj)) (aF (v:=(pt p1 0)) rfl dH (az (i:=0) rfl rfl)) rfl rfl (ah (k0:=3) rfl rfl rfl)
   ·intro D hi hc U
    have n6:D 6 = false:=bd (m:=6) hc hi rfl rfl
    refine eG (m:=6) (A:=Z4_A) n6 rfl ?_
    exact an (i:=4) (t:=33) (v:=(I a1)) rfl rfl (ao rfl) (fun a=>aj) (aF (v:=(I a1)) rfl ba (az (i:=3) rfl rfl)) rfl rfl (ah (k0:=4) rfl rfl rfl)
   ·intro D hi hc U
    have n6:D 6 = false:=bd (m:=6) hc hi rfl rfl
    refine eG (m:=6) (A:=Z4_A) n6 rfl ?_
    exact an (i:=5) (t:=34) (v:=(I a2)) rfl rfl (ao rfl) (fun a=>aj) (ak rfl) rfl rfl (ah (k0:=5) rfl rfl rfl)
   ·intro D hi hc U
    refine oi (m:=6) (A:=Z4_A) (B:=Z4_B) hi ?_
    have d3:D 3 = true:=aq (j:=3) U rfl (by decide) rfl
    have d4:D 4 = true:=aq (j:=4) U rfl (by decide) rfl
    have d5:D 5 = true:=aq (j:=5) U rfl (by decide) rfl
    have d2:D 2 = true:=eN (i:=3) (j:=2) hc d3 rfl rfl
    have d1:D 1 = true:=eN (i:=2) (j:=1) hc d2 rfl rfl
    have d0:D 0 = true:=eN (i:=1) (j:=0) hc d1 rfl rfl
    refine bN C2_ rfl (fun a=>(ac (k:=0) rfl d0 (ac (k:=1) rfl d1 (ac (k:=2) rfl d2 (ac (k:=3) rfl d3 (ac (k:=4) rfl d4 (ac (k:=5) rfl d5 aj))))))) ?_
    refine aA [1,2,0,3,4,5] (by decide) rfl ?_
    refine pS rfl rfl rfl rfl (cL (Lr:=[box p0 99 [pt p1 0],box b23 2 [I a1],box b24 22 [sv26],own sv26 54 6 x10.length (fl aL x10)]) (first:=[]) (cap:=[]) (xs:=[.tmp 32,.tmp 33,.tmp 34]) rfl rfl rp rfl (cb.spec K p1 sv0 l0 a1 a2 _ h12) rfl) ?_
    rintro _ _ ⟨_,⟨b32,sv37,hr5,rfl,rfl⟩,rfl⟩
    exact bj [0,1,2,3,4,5,6] (by decide) rfl (ae (t:=0) rfl (ae (t:=2) rfl (ae (t:=4) rfl (ae (t:=6) rfl (ae (t:=29) rfl (ae (t:=30) rfl (ae (t:=31) rfl (ae (t:=32) rfl (ae (t:=33) rfl (ae (t:=34) rfl (ae (t:=35) rfl (aS _)))))))))))) fun a w h=>⟨_,_,hr5,h⟩
  ·intro D hall
   refine ql (A:=Z4_A) (B:=Z4_B) (hall 6 (by decide)) ?_
   refine bm fun b32=>bm fun sv37=>dx fun hr5=>?_
   refine bi ?_
   obtain ⟨x15,h13,H⟩:=Option.bind_eq_some_iff.1 H
   refine lG (γ:=List av) (cap:=[pt b32 0]) (Lg:=[box b32 128 [sv37],own sv0 135 7 l0.length (fl ab l0)]) (M0:=[box p0 99 [pt p1 0],box b23 2 [I a1],box b24 22 [sv26],own sv26 54 6 x10.length (fl aL x10),box p1 130 [sv0]]) (x0:=x10) (x1:=x15) (fun (z4:List av) M=>∃ sv40:Value,M = [box p0 99 [pt p1 0],box b23 2 [I a1],box b24 22 [sv40],own sv40 54 6 z4.length (fl aL z4),box p1 130 [sv0]]) (fun vs z_ r_=>∃ t0_:Int,∃ t1_:av,vs = [I t0_,agg #[I t1_.Part.Tier,I t1_.Part.Index,I t1_.Seg,I t1_.Mark,I t1_.Rows,bool t1_.Cold]] ∧ dI K a1 t0_ t1_ z_ = some r_) [2,1,3,4,5,6,0] rfl rfl (by decide) rfl (by decide) ⟨_,rfl⟩ ?_ ?_ ?_
   ·rintro l _ z4 r _ ⟨t0_,t1_,rfl,Hl⟩ ⟨sv40,rfl⟩
    let C3_:Value:=agg #[I t1_.Part.Tier,I t1_.Part.Index,I t1_.Seg,I t1_.Mark,I t1_.Rows,bool t1_.Cold]
    let C0_:List Value:=[I t1_.Part.Tier,I t1_.Part.Index,I t1_.Seg,I t1_.Mark,I t1_.Rows,bool t1_.Cold]
    unfold dI at Hl
    refine ⟨rfl,Nat,fun g_=>[(4,pt b23 0),(6,pt b24 0),(9,I t0_),(10,pt g_ 0),(36,I t0_),(37,C3_)],fun g_=>[box g_ 54 C0_,box p0 99 [pt p1 0],box b23 2 [I a1],box b24 22 [sv40],own sv40 54 6 z4.length (fl aL z4),box p1 130 [sv0]],fun F w0=>?_,?_⟩
    ·refine al (af (aa (ai rfl) rfl rfl rfl (am (af ?_))))
     refine aG (bE cu) rfl rfl rfl ?_
     rintro _ _ ⟨b37,rfl,rfl⟩
     refine bn (aX (cs:=[I 0,I 0,I 0,I 0,I 0,B0]) (cs':=C0_) (us:=C0_) (L':=[box b37 54 C0_,box p0 99 [pt p1 0],box b23 2 [I a1],box b24 22 [sv40],own sv40 54 6 z4.length (fl aL z4),box p1 130 [sv0]]) 0 rfl rfl rfl (bq rfl) aW rfl rfl (by simp [C2_,C3_,C0_]) rfl) rfl rfl ?_
     rintro _ _ rfl
     refine am ?_
     exact bj [0,1,2,3,4,5] (by decide) rfl (ae (t:=4) rfl (ae (t:=6) rfl (ae (t:=9) rfl (ae (t:=10) rfl (ae (t:=36) rfl (ae (t:=37) rfl (aS _))))))) fun a w h=>⟨b37,h⟩
    ·rintro b37 F w0
     show bW (St 46 w0 F [(4,pt b23 0),(6,pt b24 0),(9,I t0_),(10,pt b37 0),(36,I t0_),(37,C3_)] [box b37 54 C0_,box p0 99 [pt p1 0],box b23 2 [I a1],box b24 22 [sv40],own sv40 54 6 z4.length (fl aL z4),box p1 130 [sv0]]) _
     refine bi (al (al (af (aa (ak rfl) rfl rfl rfl (aa (aF (v:=(I a1)) rfl ba (az (i:=2) rfl rfl)) rfl rfl rfl (aa (aC rfl rfl (em _ _ _)) rfl rfl rfl (am ?_)))))))
     refine eV Hl (fun c47 Hl=>?_) fun c47 Hl=>?_
     ·refine ax rfl (ee c47) (cn ?_)
      cases Hl
      refine aA [1,2,3,4,5] (by decide) rfl ?_
      refine jg ?_
      exact ⟨rfl,rfl,_,rfl⟩
     refine ay rfl (eJ c47) (aM (af (aa (aF (v:=sv40) rfl gU (az (i:=3) rfl rfl)) rfl rfl rfl (aa (aJ (vs:=C0_) rfl cl aW (aH (i:=0) rfl)) rfl rfl rfl ?_))))
     refine aG (ey (sz:=5) (xs:=[.tmp 42]) (cs:=fl aL [(⟨(⟨t1_.Part.Tier,t1_.Part.Index⟩:aD),t1_.Seg,t1_.Mark,t1_.Rows,t1_.Cold⟩:av)]) rfl rfl cz aW cu rfl rfl (gZ rfl) rfl (by decide)) rfl rfl rfl ?_
     rintro sv43 _ rfl
     obtain ⟨c48,Hl⟩:=iM Hl
     refine aG (ga (sz:=5) (xs:=z4) (ys:=[(⟨(⟨t1_.Part.Tier,t1_.Part.Index⟩:aD),t1_.Seg,t1_.Mark,t1_.Rows,t1_.Cold⟩:av)]) 5 0 rfl rfl cz aW cu rfl jP rfl rfl rfl (br 54) rfl gm c48) rfl rfl rfl ?_
     rintro sv44 _ rfl
     refine ms [own sv43 54 6 [(⟨(⟨t1_.Part.Tier,t1_.Part.Index⟩:aD),t1_.Seg,t1_.Mark,t1_.Rows,t1_.Cold⟩:av)].length (fl aL [(⟨(⟨t1_.Part.Tier,t1_.Part.Index⟩:aD),t1_.Seg,t1_.Mark,t1_.Rows,t1_.Cold⟩:av)]),box b37 54 C0_,box p0 99 [pt p1 0],box b23 2 [I a1],box b24 22 [sv40],own sv44 54 6 (z4 ++ [(⟨(⟨t1_.Part.Tier,t1_.Part.Index⟩:aD),t1_.Seg,t1_.Mark,t1_.Rows,t1_.Cold⟩:av)]).length (fl aL (z4 ++ [(⟨(⟨t1_.Part.Tier,t1_.Part.Index⟩:aD),t1_.Seg,t1_.Mark,t1_.Rows,t1_.Cold⟩:av)])),box p1 130 [sv0]] rfl ?_
     refine bn (jc (cs:=[sv40]) (cs':=[sv44]) (sv:=sv44) (L':=[own sv43 54 6 [(⟨(⟨t1_.Part.Tier,t1_.Part.Index⟩:aD),t1_.Seg,t1_.Mark,t1_.Rows,t1_.Cold⟩:av)].length (fl aL [(⟨(⟨t1_.Part.Tier,t1_.Part.Index⟩:aD),t1_.Seg,t1_.Mark,t1_.Rows,t1_.Cold⟩:av)]),box b37 54 C0_,box p0 99 [pt p1 0],box b23 2 [I a1],box b24 22 [sv44],own sv44 54 6 (z4 ++ [(⟨(⟨t1_.Part.Tier,t1_.Part.Index⟩:aD),t1_.Seg,t1_.Mark,t1_.Rows,t1_.Cold⟩:av)]).length (fl aL (z4 ++ [(⟨(⟨t1_.Part.Tier,t1_.Part.Index⟩:aD),t1_.Seg,t1_.Mark,t1_.Rows,t1_.Cold⟩:av)])),box p1 130 [sv0]]) 4 5 rfl rfl gC rfl rfl (br 54) rfl (by simp [C2_,C3_,C0_]) rfl) rfl rfl ?_
     rintro _ _ rfl
     refine am ?_
     cases Hl
     refine aA [2,3,4,5,6] (by decide) rfl ?_
     refine jg ?_
     exact ⟨rfl,rfl,_,rfl⟩
   ·intro Y l hY
    exact (bK.spec K l b32 sv37 (own sv0 135 7 l0.length (fl ab l0)) (List av) (dI K a1) x10 x14 Y (fun t0_ t1_ z_ r_ h_=>hY _ z_ r_ ⟨t0_,t1_,rfl,h_⟩) hr5 _ h13).mono fun _ _ h_=>h_.2
   ·rintro _ ⟨sv40,rfl⟩
    refine lv [(4,pt b23 0),(6,pt b24 0)] (ae (t:=4) rfl (ae (t:=6) rfl (aS _))) ?_
    refine al (af (aa (aF (v:=sv40) rfl gU (az (i:=4) rfl rfl)) rfl rfl rfl ?_))
    refine bn (jc (cs:=[sv40]) (cs':=[sv40]) (sv:=sv40) (L':=[box b32 128 [sv37],own sv0 135 7 l0.length (fl ab l0),box p0 99 [pt p1 0],box b23 2 [I a1],box b24 22 [sv40],own sv40 54 6 x15.length (fl aL x15),box p1 130 [sv0]]) 4 5 rfl rfl gC rfl rfl (br 54) rfl (by simp [C2_]) rfl) rfl rfl ?_
    rintro _ _ rfl
    refine am (aB ?_)
    first | (have e_:=Option.some.inj (show some _ = some _ from H); subst e_) | subst H
    exact bM [2,6,1,5] (by decide) rfl (vs:=[sv40]) rfl ⟨⟨_,[sv40],rfl,az (i:=4) rfl rfl,.inr ⟨gU,rfl⟩⟩,trivial⟩ _ rfl ⟨_,rfl,rfl⟩
theorem be.spec (sv0 sv1:Value) (l0:List ag) (a1:Int) (l1:List ag) (r:List ag) (H:be l0 a1 l1 = some r):bk Tryz.prog 108 [sv0,I a1,sv1] [own sv0 135 7 l0.length (fl ab l0),own sv1 135 7 l1.length (fl ab l1)] (fun v M=>∃ sv2:Value,v = sv2 ∧ M = [own sv2 135 7 r.length (fl ab r),own sv1 135 7 l1.length (fl ab l1)]):=by
 obtain ⟨i,y,rfl,rfl,hin,hroom,rfl⟩:=uO H
 have hbig:l0.length + 1 ≤ 140737488355328:=by omega
 have hml:maxLen = 9223372036854775807:=rfl
 have hfy:(fl ab [y]).length = 7:=by rw [fk aK]; simp
 have hfd:(fl ab (l0.drop i)).length = (l0.length - i) * 7:=by rw [fk aK]; simp
 refine bh Tryz.func108 rfl 95 rfl (Nat.le_of_ble_eq_true rfl) fun F w0=>?_
 show bW (St 95 w0 F [(0,sv0),(1,I (i:Int)),(2,sv1)] [own sv0 135 7 l0.length (fl ab l0),own sv1 135 7 ([y]:List ag).length (fl ab [y])]) _
 refine al (af (aa (ai rfl) rfl rfl rfl (am (al (af (aa (ak rfl) rfl rfl rfl (aa (ak rfl) rfl rfl rfl ?_)))))))
 by_cases c1:0 ≤ (((i):Nat):Int)
 ·by_cases c2:(((i):Nat):Int) ≤ (l0.length:Int)
  ·refine aa (kO 0 rfl rfl bt bR rfl (br 135) c1 c2) rfl rfl rfl (am (al (af (aa (ak rfl) rfl rfl rfl (aa (fF (m:=1) 1 rfl bt rfl (br 135)) rfl rfl rfl (aa (ai rfl) rfl rfl rfl (am (al (al (af (aa (ak rfl) rfl rfl rfl ?_)))))))))))
   refine aa (aC rfl rfl (em _ _ _)) rfl rfl rfl (am (ay rfl rfl (aM (al (af (aa (ak rfl) rfl rfl rfl (aa (fF 0 rfl bt rfl (br 135)) rfl rfl rfl (aa (ai rfl) rfl rfl rfl (am (al (al ?_)))))))))))
   refine af (aa (ak rfl) rfl rfl rfl (aa (ak rfl) rfl rfl rfl (aa (aC rfl rfl (em _ _ _)) rfl rfl rfl (am ?_))))
   by_cases c3:(((i):Nat):Int) = (l0.length:Int)
   ·refine ax rfl (ee c3) (al (af (aa (ak rfl) rfl rfl rfl (aa (ak rfl) rfl rfl rfl ?_))))
    by_cases c4:(l0.length + [y].length) * 56 ≤ 140737488355328
    ·refine aG (ga (sz:=6) (xs:=l0) (ys:=[y]) 0 1 rfl rfl bt bR ir rfl kW rfl rfl rfl (br 135) rfl cv c4) rfl rfl rfl ?_
     rintro sv2 _ rfl
     refine ms [own sv2 135 7 (l0 ++ [y]).length (fl ab (l0 ++ [y])),own sv1 135 7 [y].length (fl ab [y])] rfl ?_
     refine aa (ai rfl) rfl rfl rfl (am (aB ?_))
     have e_:l0.insertIdx i y = l0 ++ [y]:=by
      have e2_:i = l0.length:=by omega
      rw [e2_]; exact vY l0 y
     rw [e_]
     refine aA [0,1] (by decide) rfl ?_
     exact aP rfl rfl ⟨_,rfl,rfl⟩
    ·first | omega | (simp only [List.length_cons,List.length_nil] at *; omega)
   ·refine ay rfl (eJ c3) (aM (al (al (af (aa (ak rfl) rfl rfl rfl (aa (ak rfl) rfl rfl rfl (aa (gz (m':=(((l0.length + 1):Nat):Int)) rfl rfl (ct _ _ _) (by rewrite [IntKind.wrap_i64]; omega)) rfl rfl rfl (aa (ak rfl) rfl rfl rfl ?_))))))))
    refine qV 0 rfl (by omega) ?_
    rintro b1 cap1 cur1 rfl hx1 hx2 hx3 hx4
    refine qV 1 rfl (Nat.zero_lt_one) ?_
    rintro b2 cap2 cur2 rfl hx5 hx6 hx7 hx8
    let C2_:List HP:=[box b1 135 (cur1.take (0 + (i + 1) * 7) ++ (fl ab (l0.drop i)) ++ cur1.drop (0 + (i + 1) * 7 + (fl ab (l0.drop i)).length)),box b2 135 cur2]
    refine ms [box b1 135 cur1,box b2 135 cur2] rfl ?_
    refine aa (wS rfl bt) rfl rfl rfl (aa (aC rfl rfl (gK _ _ _)) rfl rfl rfl (am ?_))
    by_cases c5:(((cap1):Nat):Int) < (((l0.length + 1):Nat):Int)
    ·refine ax rfl (decide_eq_true c5) (al (af (aa (ak rfl) rfl rfl rfl (aa (ak rfl) rfl rfl rfl (aa (oo (h:=i) rfl rfl (by omega) bt bR (by omega)) rfl rfl rfl (aa (ak rfl) rfl rfl rfl (aa (ak rfl) rfl rfl rfl (aa (gz (m':=(((l0.length + 1):Nat):Int)) rfl rfl (ct _ _ _) (by rewrite [IntKind.wrap_i64]; omega)) rfl rfl rfl (aa (ak rfl) rfl rfl rfl (aa (gz (m':=(((l0.length + 1 - i):Nat):Int)) rfl rfl (gY _ _ _) (by rewrite [IntKind.wrap_i64]; omega)) rfl rfl rfl ?_))))))))))
     refine aG (oT (m:=l0.length + 1) 0 rfl rfl (j:=(((l0.length + 1 - i):Nat):Int)) (k:=l0.length + 1 - i) rfl bt Tryz.underlying3 bR ir rfl kW rfl rfl hx3 (by omega) (by omega) (by omega) (by omega) hroom) rfl rfl rfl ?_
     rintro _ _ ⟨b3,cap3,row1,rfl,rfl,hx9,hx10,hx11,hx12⟩
     let C1_:List HP:=[box b3 135 (row1.take (0 + (i) * 7) ++ (fl ab [y]) ++ row1.drop (0 + (i) * 7 + (fl ab [y]).length)),box b1 135 cur1,box b2 135 cur2]
     let C0_:List HP:=[box b3 135 ((row1.take (0 + (i) * 7) ++ (fl ab [y]) ++ row1.drop (0 + (i) * 7 + (fl ab [y]).length)).take (0 + (i + 1) * 7) ++ (fl ab (l0.drop i)) ++ (row1.take (0 + (i) * 7) ++ (fl ab [y]) ++ row1.drop (0 + (i) * 7 + (fl ab [y]).length)).drop (0 + (i + 1) * 7 + (fl ab (l0.drop i)).length)),box b1 135 cur1,box b2 135 cur2]
     refine aa (ai rfl) rfl rfl rfl (am (al (af (aa (ak rfl) rfl rfl rfl (aa (ak rfl) rfl rfl rfl (aa (iH (l:=i) rfl rfl (by omega) bt bR (by omega) (by omega) (by omega)) rfl rfl rfl (aa (ak rfl) rfl rfl rfl ?_)))))))
     refine aG (nQ (L':=C1_) (cs:=(fl ab [y])) 0 2 rfl rfl bt bR rfl rfl (sy aK hx8) (nM (k:=1) (Nat.le_refl 1) (by omega) (.inl rfl) (by omega)) (by simp only [C2_,C1_,C0_,List.length_append,List.length_take,List.length_drop,hfy,hfd]; omega) (oE cv _) rfl) rfl rfl rfl ?_
     rintro _ _ ⟨rfl,rfl⟩
     refine am (al ?_)
     let Z1_A:(Nat → Bool) → Act → World → Prop:=(fun D a w=>iN 95 w0 F [(0,slice (some ⟨b1,0,none⟩) (l0.length) (cap1)),(1,I (((i):Nat):Int)),(2,slice (some ⟨b2,0,none⟩) (1) (cap2)),(6,L0),(7,I 1),(8,I (l0.length:Int)),(9,slice (some ⟨b3,0,none⟩) (l0.length + 1) (cap3)),(10,slice (some ⟨b1,0,none⟩) (l0.length) (cap1)),(11,I (((i):Nat):Int)),(12,(il (slice (some ⟨b1,0,none⟩) (l0.length) (cap1)) (((i):Nat):Int).toNat l0.length 7)),(13,slice (some ⟨b2,0,none⟩) (1) (cap2)),(14,I 1),(15,I 1),(16,B0),(18,slice (some ⟨b1,0,none⟩) (l0.length) (cap1)),(19,I (l0.length:Int)),(20,I (((i):Nat):Int)),(21,I (l0.length:Int)),(22,bool ((((i):Nat):Int) == (l0.length:Int))),(26,I (l0.length:Int)),(27,I 1),(28,I (((l0.length + 1):Nat):Int)),(29,slice (some ⟨b1,0,none⟩) (l0.length) (cap1)),(30,I (((cap1):Nat):Int)),(31,bool (decide ((((cap1):Nat):Int) < (((l0.length + 1):Nat):Int)))),(32,slice (some ⟨b1,0,none⟩) (l0.length) (cap1)),(33,I (((i):Nat):Int)),(34,slice (some ⟨b1,0,none⟩) (i) (cap1)),(35,I (l0.length:Int)),(36,I 1),(37,I (((l0.length + 1):Nat):Int)),(38,I (((i):Nat):Int)),(39,I (((l0.length + 1 - i):Nat):Int)),(40,slice (some ⟨b3,0,none⟩) (l0.length + 1) (cap3)),(41,slice (some ⟨b3,0,none⟩) (l0.length + 1) (cap3)),(42,I (((i):Nat):Int)),(43,slice (some ⟨b3,0 + (i) * 7,none⟩) (l0.length + 1 - (i)) (cap3 - (i))),(44,slice (some ⟨b2,0,none⟩) (1) (cap2)),(45,(goInt (Nat.min (1) (l0.length + 1 - (i)))))] [(0,46,slice (some ⟨b3,0,none⟩) (l0.length + 1) (cap3)),(1,47,I (((i):Nat):Int)),(2,48,I 1),(3,49,I (((i + 1):Nat):Int)),(4,50,slice (some ⟨b3,0 + (i + 1) * 7,none⟩) (l0.length + 1 - (i + 1)) (cap3 - (i + 1))),(5,51,slice (some ⟨b1,0,none⟩) (l0.length) (cap1)),(6,52,I (((i):Nat):Int)),(7,53,slice (some ⟨b1,0 + (i) * 7,none⟩) (l0.length - (i)) (cap1 - (i)))] D C1_ a w)
     let Z1_B:Act → World → Prop:=(fun a w=>St 95 w0 F [(0,slice (some ⟨b1,0,none⟩) (l0.length) (cap1)),(1,I (((i):Nat):Int)),(2,slice (some ⟨b2,0,none⟩) (1) (cap2)),(6,L0),(7,I 1),(8,I (l0.length:Int)),(9,slice (some ⟨b3,0,none⟩) (l0.length + 1) (cap3)),(10,slice (some ⟨b1,0,none⟩) (l0.length) (cap1)),(11,I (((i):Nat):Int)),(12,(il (slice (some ⟨b1,0,none⟩) (l0.length) (cap1)) (((i):Nat):Int).toNat l0.length 7)),(13,slice (some ⟨b2,0,none⟩) (1) (cap2)),(14,I 1),(15,I 1),(16,B0),(18,slice (some ⟨b1,0,none⟩) (l0.length) (cap1)),(19,I (l0.length:Int)),(20,I (((i):Nat):Int)),(21,I (l0.length:Int)),(22,bool ((((i):Nat):Int) == (l0.length:Int))),(26,I (l0.length:Int)),(27,I 1),(28,I (((l0.length + 1):Nat):Int)),(29,slice (some ⟨b1,0,none⟩) (l0.length) (cap1)),(30,I (((cap1):Nat):Int)),(31,bool (decide ((((cap1):Nat):Int) < (((l0.length + 1):Nat):Int)))),(32,slice (some ⟨b1,0,none⟩) (l0.length) (cap1)),(33,I (((i):Nat):Int)),(34,slice (some ⟨b1,0,none⟩) (i) (cap1)),(35,I (l0.length:Int)),(36,I 1),(37,I (((l0.length + 1):Nat):Int)),(38,I (((i):Nat):Int)),(39,I (((l0.length + 1 - i):Nat):Int)),(40,slice (some ⟨b3,0,none⟩) (l0.length + 1) (cap3)),(41,slice (some ⟨b3,0,none⟩) (l0.length + 1) (cap3)),(42,I (((i):Nat):Int)),(43,slice (some ⟨b3,0 + (i) * 7,none⟩) (l0.length + 1 - (i)) (cap3 - (i))),(44,slice (some ⟨b2,0,none⟩) (1) (cap2)),(45,(goInt (Nat.min (1) (l0.length + 1 - (i))))),(46,slice (some ⟨b3,0,none⟩) (l0.length + 1) (cap3)),(47,I (((i):Nat):Int)),(48,I 1),(49,I (((i + 1):Nat):Int)),(50,slice (some ⟨b3,0 + (i + 1) * 7,none⟩) (l0.length + 1 - (i + 1)) (cap3 - (i + 1))),(51,slice (some ⟨b1,0,none⟩) (l0.length) (cap1)),(52,I (((i):Nat):Int)),(53,slice (some ⟨b1,0 + (i) * 7,none⟩) (l0.length - (i)) (cap1 - (i))),(54,(goInt (Nat.min (l0.length - (i)) (l0.length + 1 - (i + 1)))))] C0_ a w)
     refine bO 9 rfl (qd 8 Z1_A Z1_B) (by kernel_rfl) (by kernel_rfl) (mY (bJ (ae (t:=0) rfl (ae (t:=1) rfl (ae (t:=2) rfl (ae (t:=6) rfl (ae (t:=7) rfl (ae (t:=8) rfl (ae (t:=9) rfl (ae (t:=10) rfl (ae (t:=11) rfl (ae (t:=12) rfl (ae (t:=13) rfl (ae (t:=14) rfl (ae (t:=15) rfl (ae (t:=16) rfl (ae (t:=18) rfl (ae (t:=19) rfl (ae (t:=20) rfl (ae (t:=21) rfl (ae (t:=22) rfl (ae (t:=26) rfl (ae (t:=27) rfl (ae (t:=28) rfl (ae (t:=29) rfl (ae (t:=30) rfl (ae (t:=31) rfl (ae (t:=32) rfl (ae (t:=33) rfl (ae (t:=34) rfl (ae (t:=35) rfl (ae (t:=36) rfl (ae (t:=37) rfl (ae (t:=38) rfl (ae (t:=39) rfl (ae (t:=40) rfl (ae (t:=41) rfl (ae (t:=42) rfl (ae (t:=43) rfl (ae (t:=44) rfl (ae (t:=45) rfl (aS _)))))))))))))))))))))))))))))))))))))))) rfl)) ?_ ?_
     ·refine ⟨?_,?_,?_,?_,?_,?_,?_,?_,?_,trivial⟩
      ·intro D hi hc U
       have n4:D 4 = false:=bd (m:=4) hc hi rfl rfl
       have n8:D 8 = false:=bd (m:=8) hc n4 rfl rfl
       refine eG (m:=8) (A:=Z1_A) n8 rfl ?_
       exact an (i:=0) (t:=46) (v:=(slice (some ⟨b3,0,none⟩) (l0.length + 1) (cap3))) rfl rfl (ao rfl) (fun a=>aj) (ak rfl) rfl rfl (ah (k0:=0) rfl rfl rfl)
      ·intro D hi hc U
       have n3:D 3 = false:=bd (m:=3) hc hi rfl rfl
       have n4:D 4 = false:=bd (m:=4) hc n3 rfl rfl
       have n8:D 8 = false:=bd (m:=8) hc n4 rfl rfl
       refine eG (m:=8) (A:=Z1_A) n8 rfl ?_
       exact an (i:=1) (t:=47) (v:=(I (((i):Nat):Int))) rfl rfl (ao rfl) (fun a=>aj) (ak rfl) rfl rfl (ah (k0:=1) rfl rfl rfl)
      ·intro D hi hc U
       have n3:D 3 = false:=bd (m:=3) hc hi rfl rfl
       have n4:D 4 = false:=bd (m:=4) hc n3 rfl rfl
       have n8:D 8 = false:=bd (m:=8) hc n4 rfl rfl
       refine eG (m:=8) (A:=Z1_A) n8 rfl ?_
       exact an (i:=2) (t:=48) (v:=(I 1)) rfl rfl (ao rfl) (fun a=>aj) (ak rfl) rfl rfl (ah (k0:=2) rfl rfl rfl)
      ·intro D hi hc U
       have n4:D 4 = false:=bd (m:=4) hc hi rfl rfl
       have n8:D 8 = false:=bd (m:=8) hc n4 rfl rfl
       refine eG (m:=8) (A:=Z1_A) n8 rfl ?_
       have d1:D 1 = true:=aq (j:=1) U rfl (by decide) rfl
       have d2:D 2 = true:=aq (j:=2) U rfl (by decide) rfl
       exact an (i:=3) (t:=49) (v:=(I (((i + 1):Nat):Int))) rfl rfl (ao rfl) (fun a=>(ac (k:=2) rfl d2 (ac (k:=1) rfl d1 aj))) (gz (m':=(((i + 1):Nat):Int)) rfl rfl (ct _ _ _) (by rewrite [IntKind.wrap_i64]; omega)) rfl rfl (ah (k0:=3) rfl rfl rfl)
      ·intro D hi hc U
       have n8:D 8 = false:=bd (m:=8) hc hi rfl rfl
       refine eG (m:=8) (A:=Z1_A) n8 rfl ?_
       have d0:D 0 = true:=aq (j:=0) U rfl (by decide) rfl
       have d3:D 3 = true:=aq (j:=3) U rfl (by decide) rfl
       exact an (i:=4) (t:=50) (v:=(slice (some ⟨b3,0 + (i + 1) * 7,none⟩) (l0.length + 1 - (i + 1)) (cap3 - (i + 1)))) rfl rfl (ao rfl) (fun a=>(ac (k:=3) rfl d3 (ac (k:=0) rfl d0 aj))) (iH (l:=i + 1) rfl rfl (by omega) bt bR (by omega) (by omega) (by omega)) rfl rfl (ah (k0:=4) rfl rfl rfl)
      ·intro D hi hc U
       have n7:D 7 = false:=bd (m:=7) hc hi rfl rfl
       have n8:D 8 = false:=bd (m:=8) hc n7 rfl rfl
       refine eG (m:=8) (A:=Z1_A) n8 rfl ?_
       exact an (i:=5) (t:=51) (v:=(slice (some ⟨b1,0,none⟩) (l0.length) (cap1))) rfl rfl (ao rfl) (fun a=>aj) (ak rfl) rfl rfl (ah (k0:=5) rfl rfl rfl)
      ·intro D hi hc U
       have n7:D 7 = false:=bd (m:=7) hc hi rfl rfl
       have n8:D 8 = false:=bd (m:=8) hc n7 rfl rfl
       refine eG (m:=8) (A:=Z1_A) n8 rfl ?_
       exact an (i:=6) (t:=52) (v:=(I (((i):Nat):Int))) rfl rfl (ao rfl) (fun a=>aj) (ak rfl) rfl rfl (ah (k0:=6) rfl rfl rfl)
      ·intro D hi hc U
       have n8:D 8 = false:=bd (m:=8) hc hi rfl rfl
       refine eG (m:=8) (A:=Z1_A) n8 rfl ?_
       have d5:D 5 = true:=aq (j:=5) U rfl (by decide) rfl
       have d6:D 6 = true:=aq (j:=6) U rfl (by decide) rfl
       exact an (i:=7) (t:=53) (v:=(slice (some ⟨b1,0 + (i) * 7,none⟩) (l0.length - (i)) (cap1 - (i)))) rfl rfl (ao rfl) (fun a=>(ac (k:=6) rfl d6 (ac (k:=5) rfl d5 aj))) (iH (l:=i) rfl rfl (by omega) bt bR (by omega) (by omega) (by omega)) rfl rfl (ah (k0:=7) rfl rfl rfl)
      ·intro D hi hc U
       refine oi (m:=8) (A:=Z1_A) (B:=Z1_B) hi ?_
       have d4:D 4 = true:=aq (j:=4) U rfl (by decide) rfl
       have d7:D 7 = true:=aq (j:=7) U rfl (by decide) rfl
       have d6:D 6 = true:=eN (i:=7) (j:=6) hc d7 rfl rfl
       have d5:D 5 = true:=eN (i:=7) (j:=5) hc d7 rfl rfl
       have d3:D 3 = true:=eN (i:=4) (j:=3) hc d4 rfl rfl
       have d2:D 2 = true:=eN (i:=3) (j:=2) hc d3 rfl rfl
       have d1:D 1 = true:=eN (i:=3) (j:=1) hc d3 rfl rfl
       have d0:D 0 = true:=eN (i:=4) (j:=0) hc d4 rfl rfl
       refine bN C1_ rfl (fun a=>(ac (k:=0) rfl d0 (ac (k:=1) rfl d1 (ac (k:=2) rfl d2 (ac (k:=3) rfl d3 (ac (k:=4) rfl d4 (ac (k:=5) rfl d5 (ac (k:=6) rfl d6 (ac (k:=7) rfl d7 aj))))))))) ?_
       refine pS rfl rfl rfl rfl (nQ (L':=C0_) (cs:=(fl ab (l0.drop i))) 0 1 rfl rfl bt bR rfl rfl (qt aK (by omega) hx4 (by omega)) (nM (k:=l0.length - i) (by omega) (by omega) (by omega) hfd) (by simp only [C2_,C1_,C0_,List.length_append,List.length_take,List.length_drop,hfy,hfd]; omega) (oE cv _) rfl) ?_
       rintro _ _ ⟨rfl,rfl⟩
       exact bj [0,1,2] (by decide) rfl (ae (t:=0) rfl (ae (t:=1) rfl (ae (t:=2) rfl (ae (t:=6) rfl (ae (t:=7) rfl (ae (t:=8) rfl (ae (t:=9) rfl (ae (t:=10) rfl (ae (t:=11) rfl (ae (t:=12) rfl (ae (t:=13) rfl (ae (t:=14) rfl (ae (t:=15) rfl (ae (t:=16) rfl (ae (t:=18) rfl (ae (t:=19) rfl (ae (t:=20) rfl (ae (t:=21) rfl (ae (t:=22) rfl (ae (t:=26) rfl (ae (t:=27) rfl (ae (t:=28) rfl (ae (t:=29) rfl (ae (t:=30) rfl (ae (t:=31) rfl (ae (t:=32) rfl (ae (t:=33) rfl (ae (t:=34) rfl (ae (t:=35) rfl (ae (t:=36) rfl (ae (t:=37) rfl (ae (t:=38) rfl (ae (t:=39) rfl (ae (t:=40) rfl (ae (t:=41) rfl (ae (t:=42) rfl (ae (t:=43) rfl (ae (t:=44) rfl (ae (t:=45) rfl (ae (t:=46) rfl (ae (t:=47) rfl (ae (t:=48) rfl (ae (t:=49) rfl (ae (t:=50) rfl (ae (t:=51) rfl (ae (t:=52) rfl (ae (t:=53) rfl (ae (t:=54) rfl (aS _))))))))))))))))))))))))))))))))))))))))))))))))) fun a w h=>h
     ·intro D hall
      refine ql (A:=Z1_A) (B:=Z1_B) (hall 8 (by decide)) ?_
      refine al (af (aa (ak rfl) rfl rfl rfl (aa (ai rfl) rfl rfl rfl (am (aB ?_)))))
      have hpre:cur1.take (i * 7) = (fl ab l0).take (i * 7):=by
       rw [← hx4,List.take_take,Nat.min_eq_left (by omega)]
      refine aA [0,2] (by decide) rfl ?_
      refine kQ 0 _ (own (slice (some ⟨b3,0,none⟩) (l0.length + 1) (cap3)) 135 7 (l0.insertIdx i y).length (fl ab (l0.insertIdx i y))) rfl (rC aK (row:=row1) (i:=i) (v:=y) (by omega) hx9 hx10 hx11 (hx12.trans hpre) (by omega) (by omega) rfl) rfl ?_
      refine kQ 1 _ (own (slice (some ⟨b2,0,none⟩) ([y]:List _).length (cap2)) 135 7 ([y]:List _).length (fl ab [y])) rfl (fun o s h=>li h hx5 hx6 hx7 hx8) rfl ?_
      exact aP rfl rfl ⟨_,rfl,rfl⟩
    ·refine ay rfl (decide_eq_false c5) (aM (al (af (aa (ak rfl) rfl rfl rfl (aa (ak rfl) rfl rfl rfl (aa (ak rfl) rfl rfl rfl (aa (gz (m':=(((l0.length + 1):Nat):Int)) rfl rfl (ct _ _ _) (by rewrite [IntKind.wrap_i64]; omega)) rfl rfl rfl (aa (oo (h:=l0.length + 1) rfl rfl (by omega) bt bR (by omega)) rfl rfl rfl (aa (ai rfl) rfl rfl rfl (am (al ?_)))))))))))
     refine al (af (aa (ak rfl) rfl rfl rfl (aa (ak rfl) rfl rfl rfl (aa (ak rfl) rfl rfl rfl (aa (ak rfl) rfl rfl rfl (aa (gz (m':=(((i + 1):Nat):Int)) rfl rfl (ct _ _ _) (by rewrite [IntKind.wrap_i64]; omega)) rfl rfl rfl (aa (iH (l:=i + 1) rfl rfl (by omega) bt bR (by omega) (by omega) (by omega)) rfl rfl rfl ?_)))))))
     refine aG (rm (tr:=4) 0 1 rfl rfl (show Tryz.prog.funcs[124]? = some Tryz.f124 from Tryz.func124) (by kernel_rfl) (by kernel_rfl) (by kernel_rfl) (by kernel_rfl) bt bR rfl rfl rfl (by omega)) rfl rfl rfl ?_
     rintro _ _ ⟨rfl,rfl⟩
     refine aa (eC rfl (eD _)) rfl rfl rfl (am (ax rfl rfl (al ?_)))
     let Z2_A:(Nat → Bool) → Act → World → Prop:=(fun D a w=>iN 95 w0 F [(0,slice (some ⟨b1,0,none⟩) (l0.length + 1) (cap1)),(1,I (((i):Nat):Int)),(2,slice (some ⟨b2,0,none⟩) (1) (cap2)),(6,L0),(7,I 1),(8,I (l0.length:Int)),(10,slice (some ⟨b1,0,none⟩) (l0.length) (cap1)),(11,I (((i):Nat):Int)),(12,(il (slice (some ⟨b1,0,none⟩) (l0.length) (cap1)) (((i):Nat):Int).toNat l0.length 7)),(13,slice (some ⟨b2,0,none⟩) (1) (cap2)),(14,I 1),(15,I 1),(16,B0),(18,slice (some ⟨b1,0,none⟩) (l0.length) (cap1)),(19,I (l0.length:Int)),(20,I (((i):Nat):Int)),(21,I (l0.length:Int)),(22,bool ((((i):Nat):Int) == (l0.length:Int))),(26,I (l0.length:Int)),(27,I 1),(28,I (((l0.length + 1):Nat):Int)),(29,slice (some ⟨b1,0,none⟩) (l0.length) (cap1)),(30,I (((cap1):Nat):Int)),(31,bool (decide ((((cap1):Nat):Int) < (((l0.length + 1):Nat):Int)))),(56,slice (some ⟨b1,0,none⟩) (l0.length) (cap1)),(57,I (l0.length:Int)),(58,I 1),(59,I (((l0.length + 1):Nat):Int)),(60,slice (some ⟨b1,0,none⟩) (l0.length + 1) (cap1)),(61,slice (some ⟨b2,0,none⟩) (1) (cap2)),(62,slice (some ⟨b1,0,none⟩) (l0.length + 1) (cap1)),(63,I (((i):Nat):Int)),(64,I 1),(65,I (((i + 1):Nat):Int)),(66,slice (some ⟨b1,0 + (i + 1) * 7,none⟩) (l0.length + 1 - (i + 1)) (cap1 - (i + 1))),(67,B0),(68,bool true)] [(0,69,slice (some ⟨b1,0,none⟩) (l0.length + 1) (cap1)),(1,70,I (((i):Nat):Int)),(2,71,I 1),(3,72,I (((i + 1):Nat):Int)),(4,73,slice (some ⟨b1,0 + (i + 1) * 7,none⟩) (l0.length + 1 - (i + 1)) (cap1 - (i + 1))),(5,74,slice (some ⟨b1,0,none⟩) (l0.length + 1) (cap1)),(6,75,I (((i):Nat):Int)),(7,76,slice (some ⟨b1,0 + (i) * 7,none⟩) (l0.length + 1 - (i)) (cap1 - (i)))] D [box b1 135 cur1,box b2 135 cur2] a w)
     let Z2_B:Act → World → Prop:=(fun a w=>St 95 w0 F [(0,slice (some ⟨b1,0,none⟩) (l0.length + 1) (cap1)),(1,I (((i):Nat):Int)),(2,slice (some ⟨b2,0,none⟩) (1) (cap2)),(6,L0),(7,I 1),(8,I (l0.length:Int)),(10,slice (some ⟨b1,0,none⟩) (l0.length) (cap1)),(11,I (((i):Nat):Int)),(12,(il (slice (some ⟨b1,0,none⟩) (l0.length) (cap1)) (((i):Nat):Int).toNat l0.length 7)),(13,slice (some ⟨b2,0,none⟩) (1) (cap2)),(14,I 1),(15,I 1),(16,B0),(18,slice (some ⟨b1,0,none⟩) (l0.length) (cap1)),(19,I (l0.length:Int)),(20,I (((i):Nat):Int)),(21,I (l0.length:Int)),(22,bool ((((i):Nat):Int) == (l0.length:Int))),(26,I (l0.length:Int)),(27,I 1),(28,I (((l0.length + 1):Nat):Int)),(29,slice (some ⟨b1,0,none⟩) (l0.length) (cap1)),(30,I (((cap1):Nat):Int)),(31,bool (decide ((((cap1):Nat):Int) < (((l0.length + 1):Nat):Int)))),(56,slice (some ⟨b1,0,none⟩) (l0.length) (cap1)),(57,I (l0.length:Int)),(58,I 1),(59,I (((l0.length + 1):Nat):Int)),(60,slice (some ⟨b1,0,none⟩) (l0.length + 1) (cap1)),(61,slice (some ⟨b2,0,none⟩) (1) (cap2)),(62,slice (some ⟨b1,0,none⟩) (l0.length + 1) (cap1)),(63,I (((i):Nat):Int)),(64,I 1),(65,I (((i + 1):Nat):Int)),(66,slice (some ⟨b1,0 + (i + 1) * 7,none⟩) (l0.length + 1 - (i + 1)) (cap1 - (i + 1))),(67,B0),(68,bool true),(69,slice (some ⟨b1,0,none⟩) (l0.length + 1) (cap1)),(70,I (((i):Nat):Int)),(71,I 1),(72,I (((i + 1):Nat):Int)),(73,slice (some ⟨b1,0 + (i + 1) * 7,none⟩) (l0.length + 1 - (i + 1)) (cap1 - (i + 1))),(74,slice (some ⟨b1,0,none⟩) (l0.length + 1) (cap1)),(75,I (((i):Nat):Int)),(76,slice (some ⟨b1,0 + (i) * 7,none⟩) (l0.length + 1 - (i)) (cap1 - (i))),(77,(goInt (Nat.min (l0.length + 1 - (i)) (l0.length + 1 - (i + 1)))))] C2_ a w)
     refine bO 9 rfl (qd 8 Z2_A Z2_B) (by kernel_rfl) (by kernel_rfl) (mY (bJ (ae (t:=0) rfl (ae (t:=1) rfl (ae (t:=2) rfl (ae (t:=6) rfl (ae (t:=7) rfl (ae (t:=8) rfl (ae (t:=10) rfl (ae (t:=11) rfl (ae (t:=12) rfl (ae (t:=13) rfl (ae (t:=14) rfl (ae (t:=15) rfl (ae (t:=16) rfl (ae (t:=18) rfl (ae (t:=19) rfl (ae (t:=20) rfl (ae (t:=21) rfl (ae (t:=22) rfl (ae (t:=26) rfl (ae (t:=27) rfl (ae (t:=28) rfl (ae (t:=29) rfl (ae (t:=30) rfl (ae (t:=31) rfl (ae (t:=56) rfl (ae (t:=57) rfl (ae (t:=58) rfl (ae (t:=59) rfl (ae (t:=60) rfl (ae (t:=61) rfl (ae (t:=62) rfl (ae (t:=63) rfl (ae (t:=64) rfl (ae (t:=65) rfl (ae (t:=66) rfl (ae (t:=67) rfl (ae (t:=68) rfl (aS _)))))))))))))))))))))))))))))))))))))) rfl)) ?_ ?_
     ·refine ⟨?_,?_,?_,?_,?_,?_,?_,?_,?_,trivial⟩
      ·intro D hi hc U
       have n4:D 4 = false:=bd (m:=4) hc hi rfl rfl
       have n8:D 8 = false:=bd (m:=8) hc n4 rfl rfl
       refine eG (m:=8) (A:=Z2_A) n8 rfl ?_
       exact an (i:=0) (t:=69) (v:=(slice (some ⟨b1,0,none⟩) (l0.length + 1) (cap1))) rfl rfl (ao rfl) (fun a=>aj) (ak rfl) rfl rfl (ah (k0:=0) rfl rfl rfl)
      ·intro D hi hc U
       have n3:D 3 = false:=bd (m:=3) hc hi rfl rfl
       have n4:D 4 = false:=bd (m:=4) hc n3 rfl rfl
       have n8:D 8 = false:=bd (m:=8) hc n4 rfl rfl
       refine eG (m:=8) (A:=Z2_A) n8 rfl ?_
       exact an (i:=1) (t:=70) (v:=(I (((i):Nat):Int))) rfl rfl (ao rfl) (fun a=>aj) (ak rfl) rfl rfl (ah (k0:=1) rfl rfl rfl)
      ·intro D hi hc U
       have n3:D 3 = false:=bd (m:=3) hc hi rfl rfl
       have n4:D 4 = false:=bd (m:=4) hc n3 rfl rfl
       have n8:D 8 = false:=bd (m:=8) hc n4 rfl rfl
       refine eG (m:=8) (A:=Z2_A) n8 rfl ?_
       exact an (i:=2) (t:=71) (v:=(I 1)) rfl rfl (ao rfl) (fun a=>aj) (ak rfl) rfl rfl (ah (k0:=2) rfl rfl rfl)
      ·intro D hi hc U
       have n4:D 4 = false:=bd (m:=4) hc hi rfl rfl
       have n8:D 8 = false:=bd (m:=8) hc n4 rfl rfl
       refine eG (m:=8) (A:=Z2_A) n8 rfl ?_
       have d1:D 1 = true:=aq (j:=1) U rfl (by decide) rfl
       have d2:D 2 = true:=aq (j:=2) U rfl (by decide) rfl
       exact an (i:=3) (t:=72) (v:=(I (((i + 1):Nat):Int))) rfl rfl (ao rfl) (fun a=>(ac (k:=2) rfl d2 (ac (k:=1) rfl d1 aj))) (gz (m':=(((i + 1):Nat):Int)) rfl rfl (ct _ _ _) (by rewrite [IntKind.wrap_i64]; omega)) rfl rfl (ah (k0:=3) rfl rfl rfl)
      ·intro D hi hc U
       have n8:D 8 = false:=bd (m:=8) hc hi rfl rfl
       refine eG (m:=8) (A:=Z2_A) n8 rfl ?_
       have d0:D 0 = true:=aq (j:=0) U rfl (by decide) rfl
       have d3:D 3 = true:=aq (j:=3) U rfl (by decide) rfl
       exact an (i:=4) (t:=73) (v:=(slice (some ⟨b1,0 + (i + 1) * 7,none⟩) (l0.length + 1 - (i + 1)) (cap1 - (i + 1)))) rfl rfl (ao rfl) (fun a=>(ac (k:=3) rfl d3 (ac (k:=0) rfl d0 aj))) (iH (l:=i + 1) rfl rfl (by omega) bt bR (by omega) (by omega) (by omega)) rfl rfl (ah (k0:=4) rfl rfl rfl)
      ·intro D hi hc U
       have n7:D 7 = false:=bd (m:=7) hc hi rfl rfl
       have n8:D 8 = false:=bd (m:=8) hc n7 rfl rfl
       refine eG (m:=8) (A:=Z2_A) n8 rfl ?_
       exact an (i:=5) (t:=74) (v:=(slice (some ⟨b1,0,none⟩) (l0.length + 1) (cap1))) rfl rfl (ao rfl) (fun a=>aj) (ak rfl) rfl rfl (ah (k0:=5) rfl rfl rfl)
      ·intro D hi hc U
       have n7:D 7 = false:=bd (m:=7) hc hi rfl rfl
       have n8:D 8 = false:=bd (m:=8) hc n7 rfl rfl
       refine eG (m:=8) (A:=Z2_A) n8 rfl ?_
       exact an (i:=6) (t:=75) (v:=(I (((i):Nat):Int))) rfl rfl (ao rfl) (fun a=>aj) (ak rfl) rfl rfl (ah (k0:=6) rfl rfl rfl)
      ·intro D hi hc U
       have n8:D 8 = false:=bd (m:=8) hc hi rfl rfl
       refine eG (m:=8) (A:=Z2_A) n8 rfl ?_
       have d5:D 5 = true:=aq (j:=5) U rfl (by decide) rfl
       have d6:D 6 = true:=aq (j:=6) U rfl (by decide) rfl
       exact an (i:=7) (t:=76) (v:=(slice (some ⟨b1,0 + (i) * 7,none⟩) (l0.length + 1 - (i)) (cap1 - (i)))) rfl rfl (ao rfl) (fun a=>(ac (k:=6) rfl d6 (ac (k:=5) rfl d5 aj))) (iH (l:=i) rfl rfl (by omega) bt bR (by omega) (by omega) (by omega)) rfl rfl (ah (k0:=7) rfl rfl rfl)
      ·intro D hi hc U
       refine oi (m:=8) (A:=Z2_A) (B:=Z2_B) hi ?_
       have d4:D 4 = true:=aq (j:=4) U rfl (by decide) rfl
       have d7:D 7 = true:=aq (j:=7) U rfl (by decide) rfl
       have d6:D 6 = true:=eN (i:=7) (j:=6) hc d7 rfl rfl
       have d5:D 5 = true:=eN (i:=7) (j:=5) hc d7 rfl rfl
       have d3:D 3 = true:=eN (i:=4) (j:=3) hc d4 rfl rfl
       have d2:D 2 = true:=eN (i:=3) (j:=2) hc d3 rfl rfl
       have d1:D 1 = true:=eN (i:=3) (j:=1) hc d3 rfl rfl
       have d0:D 0 = true:=eN (i:=4) (j:=0) hc d4 rfl rfl
       refine bN [box b1 135 cur1,box b2 135 cur2] rfl (fun a=>(ac (k:=0) rfl d0 (ac (k:=1) rfl d1 (ac (k:=2) rfl d2 (ac (k:=3) rfl d3 (ac (k:=4) rfl d4 (ac (k:=5) rfl d5 (ac (k:=6) rfl d6 (ac (k:=7) rfl d7 aj))))))))) ?_
       refine pS rfl rfl rfl rfl (nQ (L':=C2_) (cs:=(fl ab (l0.drop i))) 0 0 rfl rfl bt bR rfl rfl (qt aK (by omega) hx4 (by omega)) (nM (k:=l0.length - i) (by omega) (by omega) (by omega) hfd) (by simp only [C2_,List.length_append,List.length_take,List.length_drop,hfy,hfd]; omega) (oE cv _) rfl) ?_
       rintro _ _ ⟨rfl,rfl⟩
       exact bj [0,1] (by decide) rfl (ae (t:=0) rfl (ae (t:=1) rfl (ae (t:=2) rfl (ae (t:=6) rfl (ae (t:=7) rfl (ae (t:=8) rfl (ae (t:=10) rfl (ae (t:=11) rfl (ae (t:=12) rfl (ae (t:=13) rfl (ae (t:=14) rfl (ae (t:=15) rfl (ae (t:=16) rfl (ae (t:=18) rfl (ae (t:=19) rfl (ae (t:=20) rfl (ae (t:=21) rfl (ae (t:=22) rfl (ae (t:=26) rfl (ae (t:=27) rfl (ae (t:=28) rfl (ae (t:=29) rfl (ae (t:=30) rfl (ae (t:=31) rfl (ae (t:=56) rfl (ae (t:=57) rfl (ae (t:=58) rfl (ae (t:=59) rfl (ae (t:=60) rfl (ae (t:=61) rfl (ae (t:=62) rfl (ae (t:=63) rfl (ae (t:=64) rfl (ae (t:=65) rfl (ae (t:=66) rfl (ae (t:=67) rfl (ae (t:=68) rfl (ae (t:=69) rfl (ae (t:=70) rfl (ae (t:=71) rfl (ae (t:=72) rfl (ae (t:=73) rfl (ae (t:=74) rfl (ae (t:=75) rfl (ae (t:=76) rfl (ae (t:=77) rfl (aS _))))))))))))))))))))))))))))))))))))))))))))))) fun a w h=>h
     ·intro D hall
      refine ql (A:=Z2_A) (B:=Z2_B) (hall 8 (by decide)) ?_
      refine al (af (aa (ak rfl) rfl rfl rfl (aa (ak rfl) rfl rfl rfl (aa (iH (l:=i) rfl rfl (by omega) bt bR (by omega) (by omega) (by omega)) rfl rfl rfl (aa (ak rfl) rfl rfl rfl ?_)))))
      refine aG (nQ (L':=[box b1 135 ((cur1.take (0 + (i + 1) * 7) ++ (fl ab (l0.drop i)) ++ cur1.drop (0 + (i + 1) * 7 + (fl ab (l0.drop i)).length)).take (0 + (i) * 7) ++ (fl ab [y]) ++ (cur1.take (0 + (i + 1) * 7) ++ (fl ab (l0.drop i)) ++ cur1.drop (0 + (i + 1) * 7 + (fl ab (l0.drop i)).length)).drop (0 + (i) * 7 + (fl ab [y]).length)),box b2 135 cur2]) (cs:=(fl ab [y])) 0 1 rfl rfl bt bR rfl rfl (sy aK hx8) (nM (k:=1) (Nat.le_refl 1) (by omega) (.inl rfl) (by omega)) (by simp only [C2_,List.length_append,List.length_take,List.length_drop,hfy,hfd]; omega) (oE cv _) rfl) rfl rfl rfl ?_
      rintro _ _ ⟨rfl,rfl⟩
      refine am (al (af (aa (ak rfl) rfl rfl rfl (aa (ai rfl) rfl rfl rfl (am (aB ?_))))))
      refine aA [0,1] (by decide) rfl ?_
      refine kQ 0 _ (own (slice (some ⟨b1,0,none⟩) (l0.length + 1) (cap1)) 135 7 (l0.insertIdx i y).length (fl ab (l0.insertIdx i y))) rfl (sa aK (row:=cur1) (i:=i) (v:=y) (by omega) (by omega) hx2 hx3 hx4 (by omega) (by omega) rfl) rfl ?_
      refine kQ 1 _ (own (slice (some ⟨b2,0,none⟩) ([y]:List _).length (cap2)) 135 7 ([y]:List _).length (fl ab [y])) rfl (fun o s h=>li h hx5 hx6 hx7 hx8) rfl ?_
      exact aP rfl rfl ⟨_,rfl,rfl⟩
  ·first | omega | (simp only [List.length_cons,List.length_nil] at *; omega)
 ·first | omega | (simp only [List.length_cons,List.length_nil] at *; omega)
end Go.Proofs.YtnjfjmbanmaciaaGreat.DueTargets
end
