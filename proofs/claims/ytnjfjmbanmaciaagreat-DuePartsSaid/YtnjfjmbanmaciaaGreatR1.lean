/- dueParts_holds: a part of what its proof rests on. -/
import Derived.Test.YtnjfjmbanmaciaaGreatR0
set_option linter.unusedVariables false
set_option linter.unusedSimpArgs false
section
set_option linter.unusedVariables false
namespace Go.Proofs.YtnjfjmbanmaciaaGreat.DueParts
open Go E
structure aD where
  Tier:Int
  Index:Int
  deriving DecidableEq
def ni:aD:=⟨0,0⟩
def th (x:aD):Prop:=zg .i64 x.Tier ∧ zg .i64 x.Index
structure ax where
  Part:aD
  Seg:Int
  Mark:Int
  Rows:Int
  Cold:Bool
  deriving DecidableEq
def bg:ax:=⟨ni,0,0,0,false⟩
def se (x:ax):Prop:=th x.Part ∧ zg .i64 x.Seg ∧ zg .i64 x.Mark ∧ zg .i64 x.Rows
structure ag where
  k:Int
  v:ax
  deriving DecidableEq
def ap:ag:=⟨0,bg⟩
structure aI where
  kind:Int
  p:aD
  deriving DecidableEq
def bp:aI:=⟨0,ni⟩
structure dU where
  Kind:Int
  Part:aD
  Try:Int
  At:Int
  deriving DecidableEq
def bv:dU:=⟨0,ni,0,0⟩
def bT (a0:Int) (a1:Int) (a2:Int):Bool:=(if a1 ≤ a0 then (decide (a0 ≤ a2)) else (false))
def cc (a0_0:Int) (a0_1:Int) (a0_2:Int) (a0_3:Int) (a0_4:Int) (a0_5:Int) (a0_6:Int) (a0_7:Int) (a0_8:Int):Int:=(gd (bT a0_0 1 1048576) fun x24=>(if (!x24) = true then (2) else (gd (bT a0_1 0 1048576) fun x25=>(if (!x25) = true then (2) else (gd (bT a0_2 0 1048576) fun x26=>(if (!x26) = true then (2) else (gd (bT a0_3 0 1048576) fun x27=>(if (!x27) = true then (2) else (gd (bT a0_4 0 1048576) fun x28=>(if (!x28) = true then (2) else (gd (bT a0_5 1 1048576) fun x33=>(if (!x33) = true then (2) else (gd (bT a0_6 1 1048576) fun x34=>(if (!x34) = true then (2) else (gd (bT a0_7 1 64) fun x35=>(if (!x35) = true then (2) else (gd (bT a0_8 100 1048576) fun x36=>(if (!x36) = true then (2) else (0)))))))))))))))))))
def dB:Unit:=(())
def jt:Unit:=(gd (dB) fun u2=>(()))
def de:Unit:=(())
def eE (K:Nat):Nat → Option Unit
  | 0=>none
  | k + 1=>(some (()))
def dR (K:Nat) (Gm0:Type) (y0:Int → ax → Gm0 → Option (Gm0 × Bool)) (x0y:Gm0):Option Unit:=(eE K K)
def il (a0:Int):Int:=(aW (Int.tdiv a0 24))
def kz (a0:Int):(Int × Int × Int):=(if (aW (Int.tdiv (aW ((aW (5 * (aW ((Int.tmod (aW (a0 + 719468)) 146097) - (aW ((aW ((aW (365 * (aW (Int.tdiv (aW ((aW ((aW ((Int.tmod (aW (a0 + 719468)) 146097) - (aW (Int.tdiv (Int.tmod (aW (a0 + 719468)) 146097) 1460)))) + (aW (Int.tdiv (Int.tmod (aW (a0 + 719468)) 146097) 36524)))) - (aW (Int.tdiv (Int.tmod (aW (a0 + 719468)) 146097) 146096)))) 365)))) + (aW (Int.tdiv (aW (Int.tdiv (aW ((aW ((aW ((Int.tmod (aW (a0 + 719468)) 146097) - (aW (Int.tdiv (Int.tmod (aW (a0 + 719468)) 146097) 1460)))) + (aW (Int.tdiv (Int.tmod (aW (a0 + 719468)) 146097) 36524)))) - (aW (Int.tdiv (Int.tmod (aW (a0 + 719468)) 146097) 146096)))) 365)) 4)))) - (aW (Int.tdiv (aW (Int.tdiv (aW ((aW ((aW ((Int.tmod (aW (a0 + 719468)) 146097) - (aW (Int.tdiv (Int.tmod (aW (a0 + 719468)) 146097) 1460)))) + (aW (Int.tdiv (Int.tmod (aW (a0 + 719468)) 146097) 36524)))) - (aW (Int.tdiv (Int.tmod (aW (a0 + 719468)) 146097) 146096)))) 365)) 100)))))))) + 2)) 153)) < 10 then ((aW ((aW ((aW (Int.tdiv (aW (a0 + 719468)) 146097)) * 400)) + (aW (Int.tdiv (aW ((aW ((aW ((Int.tmod (aW (a0 + 719468)) 146097) - (aW (Int.tdiv (Int.tmod (aW (a0 + 719468)) 146097) 1460)))) + (aW (Int.tdiv (Int.tmod (aW (a0 + 719468)) 146097) 36524)))) - (aW (Int.tdiv (Int.tmod (aW (a0 + 719468)) 146097) 146096)))) 365))),aW ((aW (Int.tdiv (aW ((aW (5 * (aW ((Int.tmod (aW (a0 + 719468)) 146097) - (aW ((aW ((aW (365 * (aW (Int.tdiv (aW ((aW ((aW ((Int.tmod (aW (a0 + 719468)) 146097) - (aW (Int.tdiv (Int.tmod (aW (a0 + 719468)) 146097) 1460)))) + (aW (Int.tdiv (Int.tmod (aW (a0 + 719468)) 146097) 36524)))) - (aW (Int.tdiv (Int.tmod (aW (a0 + 719468)) 146097) 146096)))) 365)))) + (aW (Int.tdiv (aW (Int.tdiv (aW ((aW ((aW ((Int.tmod (aW (a0 + 719468)) 146097) - (aW (Int.tdiv (Int.tmod (aW (a0 + 719468)) 146097) 1460)))) + (aW (Int.tdiv (Int.tmod (aW (a0 + 719468)) 146097) 36524)))) - (aW (Int.tdiv (Int.tmod (aW (a0 + 719468)) 146097) 146096)))) 365)) 4)))) - (aW (Int.tdiv (aW (Int.tdiv (aW ((aW ((aW ((Int.tmod (aW (a0 + 719468)) 146097) - (aW (Int.tdiv (Int.tmod (aW (a0 + 719468)) 146097) 1460)))) + (aW (Int.tdiv (Int.tmod (aW (a0 + 719468)) 146097) 36524)))) - (aW (Int.tdiv (Int.tmod (aW (a0 + 719468)) 146097) 146096)))) 365)) 100)))))))) + 2)) 153)) + 3),aW ((aW ((aW ((Int.tmod (aW (a0 + 719468)) 146097) - (aW ((aW ((aW (365 * (aW (Int.tdiv (aW ((aW ((aW ((Int.tmod (aW (a0 + 719468)) 146097) - (aW (Int.tdiv (Int.tmod (aW (a0 + 719468)) 146097) 1460)))) + (aW (Int.tdiv (Int.tmod (aW (a0 + 719468)) 146097) 36524)))) - (aW (Int.tdiv (Int.tmod (aW (a0 + 719468)) 146097) 146096)))) 365)))) + (aW (Int.tdiv (aW (Int.tdiv (aW ((aW ((aW ((Int.tmod (aW (a0 + 719468)) 146097) - (aW (Int.tdiv (Int.tmod (aW (a0 + 719468)) 146097) 1460)))) + (aW (Int.tdiv (Int.tmod (aW (a0 + 719468)) 146097) 36524)))) - (aW (Int.tdiv (Int.tmod (aW (a0 + 719468)) 146097) 146096)))) 365)) 4)))) - (aW (Int.tdiv (aW (Int.tdiv (aW ((aW ((aW ((Int.tmod (aW (a0 + 719468)) 146097) - (aW (Int.tdiv (Int.tmod (aW (a0 + 719468)) 146097) 1460)))) + (aW (Int.tdiv (Int.tmod (aW (a0 + 719468)) 146097) 36524)))) - (aW (Int.tdiv (Int.tmod (aW (a0 + 719468)) 146097) 146096)))) 365)) 100)))))) - (aW (Int.tdiv (aW ((aW (153 * (aW (Int.tdiv (aW ((aW (5 * (aW ((Int.tmod (aW (a0 + 719468)) 146097) - (aW ((aW ((aW (365 * (aW (Int.tdiv (aW ((aW ((aW ((Int.tmod (aW (a0 + 719468)) 146097) - (aW (Int.tdiv (Int.tmod (aW (a0 + 719468)) 146097) 1460)))) + (aW (Int.tdiv (Int.tmod (aW (a0 + 719468)) 146097) 36524)))) - (aW (Int.tdiv (Int.tmod (aW (a0 + 719468)) 146097) 146096)))) 365)))) + (aW (Int.tdiv (aW (Int.tdiv (aW ((aW ((aW ((Int.tmod (aW (a0 + 719468)) 146097) - (aW (Int.tdiv (Int.tmod (aW (a0 + 719468)) 146097) 1460)))) + (aW (Int.tdiv (Int.tmod (aW (a0 + 719468)) 146097) 36524)))) - (aW (Int.tdiv (Int.tmod (aW (a0 + 719468)) 146097) 146096)))) 365)) 4)))) - (aW (Int.tdiv (aW (Int.tdiv (aW ((aW ((aW ((Int.tmod (aW (a0 + 719468)) 146097) - (aW (Int.tdiv (Int.tmod (aW (a0 + 719468)) 146097) 1460)))) + (aW (Int.tdiv (Int.tmod (aW (a0 + 719468)) 146097) 36524)))) - (aW (Int.tdiv (Int.tmod (aW (a0 + 719468)) 146097) 146096)))) 365)) 100)))))))) + 2)) 153)))) + 2)) 5)))) + 1))) else ((aW ((aW ((aW ((aW (Int.tdiv (aW (a0 + 719468)) 146097)) * 400)) + (aW (Int.tdiv (aW ((aW ((aW ((Int.tmod (aW (a0 + 719468)) 146097) - (aW (Int.tdiv (Int.tmod (aW (a0 + 719468)) 146097) 1460)))) + (aW (Int.tdiv (Int.tmod (aW (a0 + 719468)) 146097) 36524)))) - (aW (Int.tdiv (Int.tmod (aW (a0 + 719468)) 146097) 146096)))) 365)))) + 1),aW ((aW (Int.tdiv (aW ((aW (5 * (aW ((Int.tmod (aW (a0 + 719468)) 146097) - (aW ((aW ((aW (365 * (aW (Int.tdiv (aW ((aW ((aW ((Int.tmod (aW (a0 + 719468)) 146097) - (aW (Int.tdiv (Int.tmod (aW (a0 + 719468)) 146097) 1460)))) + (aW (Int.tdiv (Int.tmod (aW (a0 + 719468)) 146097) 36524)))) - (aW (Int.tdiv (Int.tmod (aW (a0 + 719468)) 146097) 146096)))) 365)))) + (aW (Int.tdiv (aW (Int.tdiv (aW ((aW ((aW ((Int.tmod (aW (a0 + 719468)) 146097) - (aW (Int.tdiv (Int.tmod (aW (a0 + 719468)) 146097) 1460)))) + (aW (Int.tdiv (Int.tmod (aW (a0 + 719468)) 146097) 36524)))) - (aW (Int.tdiv (Int.tmod (aW (a0 + 719468)) 146097) 146096)))) 365)) 4)))) - (aW (Int.tdiv (aW (Int.tdiv (aW ((aW ((aW ((Int.tmod (aW (a0 + 719468)) 146097) - (aW (Int.tdiv (Int.tmod (aW (a0 + 719468)) 146097) 1460)))) + (aW (Int.tdiv (Int.tmod (aW (a0 + 719468)) 146097) 36524)))) - (aW (Int.tdiv (Int.tmod (aW (a0 + 719468)) 146097) 146096)))) 365)) 100)))))))) + 2)) 153)) - 9),aW ((aW ((aW ((Int.tmod (aW (a0 + 719468)) 146097) - (aW ((aW ((aW (365 * (aW (Int.tdiv (aW ((aW ((aW ((Int.tmod (aW (a0 + 719468)) 146097) - (aW (Int.tdiv (Int.tmod (aW (a0 + 719468)) 146097) 1460)))) + (aW (Int.tdiv (Int.tmod (aW (a0 + 719468)) 146097) 36524)))) - (aW (Int.tdiv (Int.tmod (aW (a0 + 719468)) 146097) 146096)))) 365)))) + (aW (Int.tdiv (aW (Int.tdiv (aW ((aW ((aW ((Int.tmod (aW (a0 + 719468)) 146097) - (aW (Int.tdiv (Int.tmod (aW (a0 + 719468)) 146097) 1460)))) + (aW (Int.tdiv (Int.tmod (aW (a0 + 719468)) 146097) 36524)))) - (aW (Int.tdiv (Int.tmod (aW (a0 + 719468)) 146097) 146096)))) 365)) 4)))) - (aW (Int.tdiv (aW (Int.tdiv (aW ((aW ((aW ((Int.tmod (aW (a0 + 719468)) 146097) - (aW (Int.tdiv (Int.tmod (aW (a0 + 719468)) 146097) 1460)))) + (aW (Int.tdiv (Int.tmod (aW (a0 + 719468)) 146097) 36524)))) - (aW (Int.tdiv (Int.tmod (aW (a0 + 719468)) 146097) 146096)))) 365)) 100)))))) - (aW (Int.tdiv (aW ((aW (153 * (aW (Int.tdiv (aW ((aW (5 * (aW ((Int.tmod (aW (a0 + 719468)) 146097) - (aW ((aW ((aW (365 * (aW (Int.tdiv (aW ((aW ((aW ((Int.tmod (aW (a0 + 719468)) 146097) - (aW (Int.tdiv (Int.tmod (aW (a0 + 719468)) 146097) 1460)))) + (aW (Int.tdiv (Int.tmod (aW (a0 + 719468)) 146097) 36524)))) - (aW (Int.tdiv (Int.tmod (aW (a0 + 719468)) 146097) 146096)))) 365)))) + (aW (Int.tdiv (aW (Int.tdiv (aW ((aW ((aW ((Int.tmod (aW (a0 + 719468)) 146097) - (aW (Int.tdiv (Int.tmod (aW (a0 + 719468)) 146097) 1460)))) + (aW (Int.tdiv (Int.tmod (aW (a0 + 719468)) 146097) 36524)))) - (aW (Int.tdiv (Int.tmod (aW (a0 + 719468)) 146097) 146096)))) 365)) 4)))) - (aW (Int.tdiv (aW (Int.tdiv (aW ((aW ((aW ((Int.tmod (aW (a0 + 719468)) 146097) - (aW (Int.tdiv (Int.tmod (aW (a0 + 719468)) 146097) 1460)))) + (aW (Int.tdiv (Int.tmod (aW (a0 + 719468)) 146097) 36524)))) - (aW (Int.tdiv (Int.tmod (aW (a0 + 719468)) 146097) 146096)))) 365)) 100)))))))) + 2)) 153)))) + 2)) 5)))) + 1))))
def cy (a0:Int):Int:=(gd (kz a0) fun x2=>(aW ((aW ((aW (x2.1 - 1970)) * 12)) + (aW (x2.2.1 - 1)))))
def fX (a0:Int) (a1:Int):(Int × Int × Bool):=(if a1 < 0 then ((0,0,false)) else (if 16777216 < a1 then ((0,0,false)) else (if a0 = 1 then ((a0,a1,true)) else (if a0 = 2 then (gd (il a1) fun x10=>((a0,x10,true))) else (if a0 = 3 then (gd (il a1) fun x11=>(gd (cy x11) fun x12=>((a0,x12,true)))) else ((0,0,false)))))))
def gH (a0_0:Int) (a0_1:Int):Bool:=(gd (fX a0_0 16777216) fun x2=>(if x2.2.2 = true then (if 0 ≤ a0_1 then (decide (a0_1 ≤ x2.2.1)) else (false)) else (false)))
def eU (a0:Int) (a1:Int):Bool:=(if a1 ≤ a0 then (decide (a0 ≤ 4611686018427387904)) else (false))
def ir (a0_0:Int) (a0_1:Int) (a0_2:Int) (a0_3:Int) (a0_4:Int) (a0_5:Bool):Bool:=(gd (gH a0_0 a0_1) fun x5=>(if x5 = true then (gd (eU a0_2 1) fun x6=>(if x6 = true then (gd (eU a0_4 1) fun x7=>(if x7 = true then (gd (eU a0_3 0) fun x8=>(if x8 = true then (if a0_0 = 3 then (true) else ((!a0_5))) else (false))) else (false))) else (false))) else (false)))
def iS (a0:Int) (a1:Int) (a2:Int):Int:=(gd (if (aW (a1 - 3)) < 0 then ((aW (a0 - 1),aW ((aW (a1 - 3)) + 12))) else ((a0,aW (a1 - 3)))) fun x2=>(aW ((aW ((aW ((aW (Int.tdiv x2.1 400)) * 146097)) + (aW ((aW ((aW ((aW ((aW ((aW (365 * (Int.tmod x2.1 400))) + (aW (Int.tdiv (Int.tmod x2.1 400) 4)))) - (aW (Int.tdiv (Int.tmod x2.1 400) 100)))) + (aW (Int.tdiv (aW ((aW (153 * x2.2)) + 2)) 5)))) + a2)) - 1)))) - 719468)))
def gN (a0:Int):Int:=(gd (iS (aW (1970 + (aW (Int.tdiv a0 12)))) (aW ((Int.tmod a0 12) + 1)) 1) fun x2=>(x2))
def jS (a0:Int):(Int × Int):=(gd (gN a0) fun x3=>(gd (gN (aW (a0 + 1))) fun x4=>((x3,x4))))
def dJ (a0_0:Int) (a0_1:Int):(Int × Int):=(gd (gH a0_0 a0_1) fun x10=>(if (!x10) = true then ((0,0)) else (gd (if a0_0 = 3 then (gd (jS a0_1) fun x16=>(Sum.inl (x16.1,x16.2))) else (if a0_0 = 2 then (Sum.inl (a0_1,aW (a0_1 + 1))) else (Sum.inr ((a0_1,aW (a0_1 + 1)))))) fun z=>(pa z (fun v4=>((aW (v4.1 * 24),aW (v4.2 * 24)))) (fun t_=>(t_))))))
def cM (a0:Int) (l0:List ag) (p2_0:Int):Option Bool:=(if 0 ≤ a0 then (if a0 < (l0.length:Int) then (some (decide (p2_0 ≤ ((l0.getD a0.toNat ap).k)))) else none) else none)
def fR (K:Nat) (l0:List ag) (p2_0:Int):Nat → Int → Int → Option Int
  | 0,_,_=>none
  | k + 1,i7,i9=>(if i7 < i9 then ((cM (aW (oM .u64 (pp (aW (i7 + i9))) 1)) l0 p2_0).bind fun x12=>(if (!x12) = true then (fR K l0 p2_0 k (aW ((aW (oM .u64 (pp (aW (i7 + i9))) 1)) + 1)) i9) else (fR K l0 p2_0 k i7 (aW (oM .u64 (pp (aW (i7 + i9))) 1))))) else (some (i7)))
def jf (K:Nat) (a0:Int) (l0:List ag) (p2_0:Int):Option Int:=(fR K l0 p2_0 K 0 a0)
def bt (K:Nat) (l0:List ag) (a1:Int):Option (Bool × Int):=((jf K (l0.length:Int) l0 a1).bind fun x2=>(if x2 < (l0.length:Int) then (if 0 ≤ x2 then (some (((((l0.getD x2.toNat ap).k) == a1),x2))) else none) else (some ((false,x2)))))
def da (K:Nat) (l0:List ag) (a1:Int):Option (Int × Int × Int × Int × Int × Int × Bool × Bool):=((bt K l0 a1).bind fun x3=>(gd (if (!x3.1) = true then (aW (x3.2 - 1)) else (x3.2)) fun x4=>(if x4 < 0 then (some ((0,0,0,0,0,0,false,false))) else (if 0 ≤ x4 then (if x4 < (l0.length:Int) then (some (((l0.getD x4.toNat ap).k,(((l0.getD x4.toNat ap).v).Part).Tier,(((l0.getD x4.toNat ap).v).Part).Index,((l0.getD x4.toNat ap).v).Seg,((l0.getD x4.toNat ap).v).Mark,((l0.getD x4.toNat ap).v).Rows,((l0.getD x4.toNat ap).v).Cold,true))) else none) else none))))
def gL (a0_0:Int) (a0_1:Int) (a1:Int):Bool:=(gd (fX a0_0 a1) fun x4=>(if (!x4.2.2) = true then (gd (dJ a0_0 a0_1) fun x6=>(if x6.1 ≤ a1 then (decide (a1 < x6.2)) else (false))) else (((x4.1 == a0_0) && ((x4.2.1 == a0_1) && true)))))
def fo (K:Nat) (l0:List ag) (a1:Int):Option (Int × Int × Int × Int × Int × Bool × Bool):=((da K l0 a1).bind fun x4=>(if (!x4.2.2.2.2.2.2.2) = true then (some ((0,0,0,0,0,false,false))) else (gd (gL x4.2.1 x4.2.2.1 a1) fun x6=>(if (!x6) = true then (some ((0,0,0,0,0,false,false))) else (some ((x4.2.1,x4.2.2.1,x4.2.2.2.1,x4.2.2.2.2.1,x4.2.2.2.2.2.1,x4.2.2.2.2.2.2.1,true)))))))
def df (l0:List ag):Unit:=(())
def cv (K:Nat) (l0:List ag) (a1:Int) (a2:Int):Option (List ag):=((bt K l0 a1).bind fun x3=>((bt K l0 a2).bind fun x4=>(if x4.2 ≤ x3.2 then (gd (de) fun u5=>(some (([]:List ag)))) else (if 0 ≤ x3.2 then (if x3.2 ≤ x4.2 then (if x4.2 ≤ (l0.length:Int) then (gd (df ((l0.drop x3.2.toNat).take (x4.2.toNat - x3.2.toNat))) fun u6=>(some (((l0.drop x3.2.toNat).take (x4.2.toNat - x3.2.toNat))))) else none) else none) else none))))
def cu (K:Nat) (Gm0:Type) (y0:Int → ax → Gm0 → Option (Gm0 × Bool)) (l0:List ag):Nat → Int → Gm0 → Option Gm0
  | 0,_,_=>none
  | k + 1,i2,l3=>(if i2 < (l0.length:Int) then (if 0 ≤ i2 then ((y0 ((l0.getD i2.toNat ap).k) (⟨(⟨(((l0.getD i2.toNat ap).v).Part).Tier,(((l0.getD i2.toNat ap).v).Part).Index⟩:aD),((l0.getD i2.toNat ap).v).Seg,((l0.getD i2.toNat ap).v).Mark,((l0.getD i2.toNat ap).v).Rows,((l0.getD i2.toNat ap).v).Cold⟩:ax) l3).bind fun x12=>(if (!x12.2) = true then (some (x12.1)) else (cu K Gm0 y0 l0 k (aW (i2 + 1)) x12.1))) else none) else (some (l3)))
def bV (K:Nat) (Gm0:Type) (y0:Int → ax → Gm0 → Option (Gm0 × Bool)) (x0y:Gm0) (l0:List ag):Option Gm0:=(cu K Gm0 y0 l0 K 0 x0y)
def eG (K:Nat) (a1:Int) (t0_:Int) (t1_:ax) (z4:List ax):Option ((List ax) × Bool):=(if t0_ = a1 then (some ((z4,true))) else (if (z4.length + [(⟨(⟨t1_.Part.Tier,t1_.Part.Index⟩:aD),t1_.Seg,t1_.Mark,t1_.Rows,t1_.Cold⟩:ax)].length) * 48 ≤ 140737488355328 then (some (((z4 ++ [(⟨(⟨t1_.Part.Tier,t1_.Part.Index⟩:aD),t1_.Seg,t1_.Mark,t1_.Rows,t1_.Cold⟩:ax)]),true))) else none))
def eH (K:Nat) (l0:List ag) (a1:Int) (a2:Int):Option (List ax):=(if a2 ≤ a1 then (some (([]:List ax))) else (Option.bind ((fo K l0 a1).bind fun x11=>(if x11.2.2.2.2.2.2 = true then (if (([]:List ax).length + [(⟨(⟨x11.1,x11.2.1⟩:aD),x11.2.2.1,x11.2.2.2.1,x11.2.2.2.2.1,x11.2.2.2.2.2.1⟩:ax)].length) * 48 ≤ 140737488355328 then (some ((([]:List ax) ++ [(⟨(⟨x11.1,x11.2.1⟩:aD),x11.2.2.1,x11.2.2.2.1,x11.2.2.2.2.1,x11.2.2.2.2.2.1⟩:ax)]))) else none) else (some (([]:List ax))))) fun x10=>((cv K l0 a1 a2).bind fun x14=>((bV K (List ax) (eG K a1) x10 x14).bind fun x15=>(some (x15))))))
def bm (l0:List ag) (a1:Int) (l1:List ag):Option (List ag):=yy 56 l0 a1 l1
def dm (K:Nat) (l0:List ag) (a1:Int) (a2_0:Int) (a2_1:Int) (a2_2:Int) (a2_3:Int) (a2_4:Int) (a2_5:Bool):Option (Bool × (List ag)):=((bt K l0 a1).bind fun x3=>(if x3.1 = true then (if 0 ≤ x3.2 then (if x3.2 < (l0.length:Int) then (some ((false,(l0.set x3.2.toNat (⟨(l0.getD x3.2.toNat ap).k,(⟨(⟨a2_0,a2_1⟩:aD),a2_2,a2_3,a2_4,a2_5⟩:ax)⟩:ag))))) else none) else none) else ((bm l0 x3.2 [(⟨a1,(⟨(⟨a2_0,a2_1⟩:aD),a2_2,a2_3,a2_4,a2_5⟩:ax)⟩:ag)]).bind fun x4=>(some ((true,x4))))))
def eY (K:Nat) (l0:List ag) (a1_0:Int) (a1_1:Int) (a1_2:Int) (a1_3:Int) (a1_4:Int) (a1_5:Bool):Option (Int × (List ag)):=(gd (ir a1_0 a1_1 a1_2 a1_3 a1_4 a1_5) fun x9=>(if (!x9) = true then (some ((4,l0))) else (gd (dJ a1_0 a1_1) fun x10=>((eH K l0 x10.1 x10.2).bind fun x12=>(if 0 < (x12.length:Int) then (some ((12,l0))) else ((dm K l0 x10.1 a1_0 a1_1 a1_2 a1_3 a1_4 a1_5).bind fun x13=>(some ((0,x13.2)))))))))
def fb (a0:Int):Bool:=(if (Int.tmod a0 4) = 0 then (if ¬ ((Int.tmod a0 100) = 0) then (true) else (((Int.tmod a0 400) == 0))) else (false))
def dS (a0:Int):Int:=(gd (fb a0) fun x4=>(if x4 = true then (366) else (365)))
def cn (a0:Int) (a1:Int):Int:=(if a1 = 2 then (gd (fb a0) fun x14=>(if x14 = true then (29) else (28))) else (gd (if a1 = 4 then ((a1 == 4)) else (if a1 = 6 then ((a1 == 6)) else (if a1 = 9 then ((a1 == 9)) else ((a1 == 11))))) fun x15=>(if x15 = true then (30) else (gd (if a1 = 1 then ((a1 == 1)) else (if a1 = 3 then ((a1 == 3)) else (if a1 = 5 then ((a1 == 5)) else (if a1 = 7 then ((a1 == 7)) else (if a1 = 8 then ((a1 == 8)) else (if a1 = 10 then ((a1 == 10)) else ((a1 == 12)))))))) fun x16=>(if x16 = true then (31) else (0))))))
def fi (K:Nat):Nat → Int → Int → Option (Int × Int)
  | 0,_,_=>none
  | k + 1,i19,i20=>(gd (dS i20) fun x62=>(if x62 ≤ i19 then (if i20 < 5000 then (gd (dS i20) fun x63=>(fi K k (aW (i19 - x63)) (aW (i20 + 1)))) else (some ((i19,i20)))) else (some ((i19,i20)))))
def fp (K:Nat) (x53:(Int × Int)):Nat → Int → Int → Option (Int × Int)
  | 0,_,_=>none
  | k + 1,i25,i26=>(if i26 < 12 then (gd (cn x53.2 i26) fun x83=>(if x83 ≤ i25 then (gd (cn x53.2 i26) fun x84=>(fp K x53 k (aW (i25 - x84)) (aW (i26 + 1)))) else (some ((i25,i26))))) else (some ((i25,i26))))
def gB (K:Nat) (a0:Int):Option (Int × Int × Int):=(Option.bind (fi K K a0 1970) fun x53=>(Option.bind (fp K x53 K x53.1 1) fun x74=>(some ((x53.2,x74.2,aW (x74.1 + 1))))))
def fh (K:Nat) (a0:Int):Option Int:=((gB K a0).bind fun x2=>(some (aW ((aW ((aW ((aW (x2.1 - 1970)) * 12)) + x2.2.1)) - 1))))
def ga (K:Nat) (a0:Int):Option Int:=(if a0 = 1 then (some (16777216)) else (if a0 = 2 then (some (699050)) else (if a0 = 3 then ((fh K 699050).bind fun x4=>(some (x4))) else (some ((-1))))))
def cb (K:Nat) (a0_0:Int) (a0_1:Int):Option Bool:=(if 0 ≤ a0_1 then ((ga K a0_0).bind fun x2=>(some (decide (a0_1 ≤ x2)))) else (some (false)))
def eS (a0:Int) (a1:Int) (a2:Int):Bool:=(if a1 ≤ a0 then (decide (a0 ≤ a2)) else (false))
def fK (K:Nat) (a0_0:Int) (a0_1:Int) (a0_2:Int) (a0_3:Int) (a0_4:Int) (a0_5:Bool):Option Bool:=((cb K a0_0 a0_1).bind fun x5=>(if x5 = true then (gd (eS a0_2 1 4611686018427387904) fun x6=>(if x6 = true then (gd (eS a0_4 1 4611686018427387904) fun x7=>(if x7 = true then (gd (eS a0_3 0 4611686018427387904) fun x8=>(if x8 = true then (if (!a0_5) = true then (some (true)) else (some ((a0_0 == 3)))) else (some (false)))) else (some (false)))) else (some (false)))) else (some (false))))
def eJ (K:Nat) (a0:Int):Nat → Int → Int → Option Int
  | 0,_,_=>none
  | k + 1,i17,i18=>(if i18 < a0 then (gd (dS i18) fun x43=>(eJ K a0 k (aW (i17 + x43)) (aW (i18 + 1)))) else (some (i17)))
def eM (K:Nat) (a0:Int) (a1:Int):Nat → Int → Int → Option Int
  | 0,_,_=>none
  | k + 1,i22,i23=>(if i23 < a1 then (gd (cn a0 i23) fun x56=>(eM K a0 a1 k (aW (i22 + x56)) (aW (i23 + 1)))) else (some (i22)))
def fA (K:Nat) (a0:Int) (a1:Int) (a2:Int):Option (Int × Bool):=(if a0 < 1970 then (some ((0,false))) else (if 4900 < a0 then (some ((0,false))) else (if a2 < 1 then (some ((0,false))) else (gd (cn a0 a1) fun x30=>(if x30 < a2 then (some ((0,false))) else (Option.bind (eJ K a0 K 0 1970) fun x37=>(Option.bind (eM K a0 a1 K x37 1) fun x50=>(some ((aW ((aW (x50 + a2)) - 1),true))))))))))
def fY (K:Nat) (a0:Int):Option (Int × Int):=((fA K (aW (1970 + (aW (Int.tdiv a0 12)))) (aW ((Int.tmod a0 12) + 1)) 1).bind fun x3=>(gd (cn (aW (1970 + (aW (Int.tdiv a0 12)))) (aW ((Int.tmod a0 12) + 1))) fun x4=>(some ((x3.1,aW (x3.1 + x4))))))
def di (K:Nat) (a0_0:Int) (a0_1:Int):Option (Int × Int):=((cb K a0_0 a0_1).bind fun x5=>(if (!x5) = true then (some ((0,0))) else (if a0_0 = 1 then (some ((a0_1,aW (a0_1 + 1)))) else (if a0_0 = 2 then (some ((aW (24 * a0_1),aW (24 * (aW (a0_1 + 1)))))) else ((fY K a0_1).bind fun x6=>(some ((aW (24 * x6.1),aW (24 * x6.2)))))))))
def fO (K:Nat) (a0_0:Int) (a0_1:Int) (a1_0:Int) (a1_1:Int):Option Bool:=((di K a0_0 a0_1).bind fun x5=>((di K a1_0 a1_1).bind fun x6=>((cb K a0_0 a0_1).bind fun x7=>(if x7 = true then ((cb K a1_0 a1_1).bind fun x8=>(if x8 = true then (if x5.1 < x6.2 then (some (decide (x6.1 < x5.2))) else (some (false))) else (some (false)))) else (some (false))))))
def fZ (K:Nat) (a0_0:Int) (a0_1:Int) (a1_0:Int) (a1_1:Int):Option Bool:=((di K a0_0 a0_1).bind fun x5=>((di K a1_0 a1_1).bind fun x6=>((cb K a0_0 a0_1).bind fun x7=>(if x7 = true then ((cb K a1_0 a1_1).bind fun x8=>(if x8 = true then (if x5.1 < x6.1 then (some (true)) else (if x5.1 = x6.1 then (some (decide (a0_0 < a1_0))) else (some (false)))) else (some (false)))) else (some (false))))))
def dq (K:Nat) (l0:List ax) (a1_0:Int) (a1_1:Int):Nat → Int → Int → Option (Sum Int (Int × (List ax)))
  | 0,_,_=>none
  | k + 1,i11,i12=>(if i12 < (l0.length:Int) then (if 0 ≤ i12 then ((fO K (((l0.getD i12.toNat bg).Part).Tier) (((l0.getD i12.toNat bg).Part).Index) a1_0 a1_1).bind fun x77=>(if x77 = true then (some (Sum.inr ((12,([]:List ax))))) else ((fZ K (((l0.getD i12.toNat bg).Part).Tier) (((l0.getD i12.toNat bg).Part).Index) a1_0 a1_1).bind fun x78=>(if x78 = true then (dq K l0 a1_0 a1_1 k (aW (i12 + 1)) (aW (i12 + 1))) else (dq K l0 a1_0 a1_1 k i11 (aW (i12 + 1))))))) else none) else (some (Sum.inl i11)))
def fP (K:Nat) (l0:List ax) (a1_0:Int) (a1_1:Int) (a1_2:Int) (a1_3:Int) (a1_4:Int) (a1_5:Bool):Option (Int × (List ax)):=((fK K a1_0 a1_1 a1_2 a1_3 a1_4 a1_5).bind fun x41=>(if (!x41) = true then (some ((4,([]:List ax)))) else (Option.bind (dq K l0 a1_0 a1_1 K 0 0) fun z=>(pa z (fun v2=>(if 0 ≤ v2 then (if v2 ≤ (l0.length:Int) then (if (([]:List ax).length + (l0.take v2.toNat).length) * 48 ≤ 140737488355328 then (if ((([]:List ax) ++ (l0.take v2.toNat)).length + [(⟨(⟨a1_0,a1_1⟩:aD),a1_2,a1_3,a1_4,a1_5⟩:ax)].length) * 48 ≤ 140737488355328 then (if (((([]:List ax) ++ (l0.take v2.toNat)) ++ [(⟨(⟨a1_0,a1_1⟩:aD),a1_2,a1_3,a1_4,a1_5⟩:ax)]).length + (l0.drop v2.toNat).length) * 48 ≤ 140737488355328 then (some ((0,(((([]:List ax) ++ (l0.take v2.toNat)) ++ [(⟨(⟨a1_0,a1_1⟩:aD),a1_2,a1_3,a1_4,a1_5⟩:ax)]) ++ (l0.drop v2.toNat))))) else none) else none) else none) else none) else none)) (fun t_=>(some (t_)))))))
def ee (l0:List ag):Unit:=(gd (df l0) fun u2=>(()))
def cO (K:Nat) (t0_:Int) (t1_:ax) (z4:List ag):Option ((List ag) × Bool):=(if (z4.length + [(⟨t0_,(⟨(⟨t1_.Part.Tier,t1_.Part.Index⟩:aD),t1_.Seg,t1_.Mark,t1_.Rows,t1_.Cold⟩:ax)⟩:ag)].length) * 56 ≤ 140737488355328 then (some (((z4 ++ [(⟨t0_,(⟨(⟨t1_.Part.Tier,t1_.Part.Index⟩:aD),t1_.Seg,t1_.Mark,t1_.Rows,t1_.Cold⟩:ax)⟩:ag)]),true))) else none)
def cG (K:Nat) (l0:List ag):Option (List ag):=(gd (dB) fun u4=>(gd (ee l0) fun u6=>((bV K (List ag) (cO K) ([]:List ag) l0).bind fun x4=>(some (x4)))))
def eO (K:Nat) (l0:List ag):Option (List ag):=((cG K l0).bind fun x2=>(some (x2)))
def eT (K:Nat):Nat → Option Unit
  | 0=>none
  | k + 1=>(some (()))
def dr (K:Nat) (l0:List ag) (l1:List ax):Nat → Int → (List ag) → Option (Sum (List ag) (Int × (List ag)))
  | 0,_,_=>none
  | k + 1,i9,l12=>(if i9 < (l1.length:Int) then (if 0 ≤ i9 then ((eY K l12 (((l1.getD i9.toNat bg).Part).Tier) (((l1.getD i9.toNat bg).Part).Index) ((l1.getD i9.toNat bg).Seg) ((l1.getD i9.toNat bg).Mark) ((l1.getD i9.toNat bg).Rows) ((l1.getD i9.toNat bg).Cold)).bind fun x45=>(if ¬ (x45.1 = 0) then (some (Sum.inr ((x45.1,l0)))) else (dr K l0 l1 k (aW (i9 + 1)) x45.2))) else none) else (some (Sum.inl l12)))
def dQ (K:Nat) (l0:List ag) (l1:List ax):Option (Int × (List ag)):=((eO K l0).bind fun x31=>(Option.bind (eT K K) fun x32=>(Option.bind (dr K l0 l1 K 0 x31) fun z=>(pa z (fun v3=>(some ((0,v3)))) (fun t_=>(some (t_)))))))
def fw (K:Nat):Nat → Option Unit
  | 0=>none
  | k + 1=>(some (()))
def dP (K:Nat) (l1:List ax):Nat → Int → (List ax) → (List ax) → Option (Int × (List ax))
  | 0,_,_,_=>none
  | k + 1,i10,l9,l10=>(if i10 < (l1.length:Int) then (if 0 ≤ i10 then ((fP K l10 (((l1.getD i10.toNat bg).Part).Tier) (((l1.getD i10.toNat bg).Part).Index) ((l1.getD i10.toNat bg).Seg) ((l1.getD i10.toNat bg).Mark) ((l1.getD i10.toNat bg).Rows) ((l1.getD i10.toNat bg).Cold)).bind fun x26=>(if ¬ (x26.1 = 0) then (some ((x26.1,l9))) else (dP K l1 k (aW (i10 + 1)) l9 x26.2))) else none) else (some ((0,l10))))
def eK (K:Nat) (l0:List ax) (l1:List ax):Option (Int × (List ax)):=(Option.bind (fw K K) fun x14=>(dP K l1 K 0 l0 l0))
def eA (K:Nat) (l0:List ax):Nat → Int → (List ag) → (List ax) → Option ((List ag) × (List ax))
  | 0,_,_,_=>none
  | k + 1,i4,l17,l19=>(if i4 < (l0.length:Int) then (if 0 ≤ i4 then (if i4 ≤ (aW (i4 + 1)) then (if (aW (i4 + 1)) ≤ (l0.length:Int) then ((dQ K l17 ((l0.drop i4.toNat).take ((aW (i4 + 1)).toNat - i4.toNat))).bind fun x69=>((eK K l19 ((l0.drop i4.toNat).take ((aW (i4 + 1)).toNat - i4.toNat))).bind fun x70=>(eA K l0 k (aW (i4 + 1)) x69.2 x70.2))) else none) else none) else none) else (some ((l17,l19))))
def dx (K:Nat) (l0:List ax) (l1:List Int) (a0_2:Int) (a0_3:Int) (a0_4:Int) (a0_5:Int) (a0_6:Int) (a0_7:Int) (a0_8:Int) (a0_9:Int) (a0_10:Int) (a0_11:Int) (a0_12:Int) (a0_13:Bool):Option ((List ag) × Int × Int × Int × Int × Int × Int × Int × Int × Int × Int × Int × Bool × (List ax) × Int × Int × Int × Int × Int × Int × Int × Int × Int × Int × Int × Bool):=(if 40 < (l0.length:Int) then none else (if 40 < (l1.length:Int) then none else (gd (cc a0_2 a0_3 a0_4 a0_5 a0_6 a0_7 a0_8 a0_9 a0_10) fun x37=>(if ¬ (x37 = 0) then none else (if a0_11 < 0 then none else (if 1099511627776 < a0_11 then none else (if a0_12 < 0 then none else (if 16777217 < a0_12 then none else (gd (jt) fun u2=>(Option.bind (eA K l0 K 0 ([]:List ag) ([]:List ax)) fun x54=>(some ((x54.1,a0_2,a0_3,a0_4,a0_5,a0_6,a0_7,a0_8,a0_9,a0_10,a0_11,a0_12,a0_13,x54.2,a0_2,a0_3,a0_4,a0_5,a0_6,a0_7,a0_8,a0_9,a0_10,a0_11,a0_12,a0_13)))))))))))))
def bZ (l0:List Int):Option (List Int):=(if 0 < l0.length then (if (([]:List Int).length + l0.length) * 8 ≤ 140737488355328 then (some ((([]:List Int) ++ l0))) else none) else (if (([]:List Int).length + ([]:List Int).length) * 8 ≤ 140737488355328 then (some ((([]:List Int) ++ ([]:List Int)))) else none))
def dt (a0:Int) (l0:List ag) (l1:List Int) (p1_2:Int) (p1_3:Int) (p1_4:Int) (p1_5:Int) (p1_6:Int) (p1_7:Int) (p1_8:Int) (p1_9:Int) (p1_10:Int) (p1_11:Int) (p1_12:Int) (p1_13:Bool) (l2:List (aI × Int)):Bool:=(decide (a0 < p1_12))
def bU (K:Nat) (l0:List Int) (l1:List ag) (l2:List Int) (p1_2:Int) (p1_3:Int) (p1_4:Int) (p1_5:Int) (p1_6:Int) (p1_7:Int) (p1_8:Int) (p1_9:Int) (p1_10:Int) (p1_11:Int) (p1_12:Int) (p1_13:Bool) (l3:List (aI × Int)):Nat → Int → Option Int
  | 0,_=>none
  | k + 1,i5=>(if i5 < (l0.length:Int) then (if 0 ≤ i5 then (gd (dt (l0.getD i5.toNat 0) l1 l2 p1_2 p1_3 p1_4 p1_5 p1_6 p1_7 p1_8 p1_9 p1_10 p1_11 p1_12 p1_13 l3) fun x24=>(if x24 = true then (some (i5)) else (bU K l0 l1 l2 p1_2 p1_3 p1_4 p1_5 p1_6 p1_7 p1_8 p1_9 p1_10 p1_11 p1_12 p1_13 l3 k (aW (i5 + 1))))) else none) else (some ((-1))))
def cI (K:Nat) (l0:List Int) (l1:List ag) (l2:List Int) (p1_2:Int) (p1_3:Int) (p1_4:Int) (p1_5:Int) (p1_6:Int) (p1_7:Int) (p1_8:Int) (p1_9:Int) (p1_10:Int) (p1_11:Int) (p1_12:Int) (p1_13:Bool) (l3:List (aI × Int)):Option Int:=(bU K l0 l1 l2 p1_2 p1_3 p1_4 p1_5 p1_6 p1_7 p1_8 p1_9 p1_10 p1_11 p1_12 p1_13 l3 K 0)
def bL (K:Nat) (l1:List ag) (l2:List Int) (p1_2:Int) (p1_3:Int) (p1_4:Int) (p1_5:Int) (p1_6:Int) (p1_7:Int) (p1_8:Int) (p1_9:Int) (p1_10:Int) (p1_11:Int) (p1_12:Int) (p1_13:Bool) (l3:List (aI × Int)):Nat → Int → Int → (List Int) → Option ((List Int) × Int)
  | 0,_,_,_=>none
  | k + 1,i10,i11,l11=>(if i11 < (l11.length:Int) then (if 0 ≤ i11 then (gd (dt (l11.getD i11.toNat 0) l1 l2 p1_2 p1_3 p1_4 p1_5 p1_6 p1_7 p1_8 p1_9 p1_10 p1_11 p1_12 p1_13 l3) fun x28=>(if (!x28) = true then (if 0 ≤ i10 then (if i10 < (l11.length:Int) then (bL K l1 l2 p1_2 p1_3 p1_4 p1_5 p1_6 p1_7 p1_8 p1_9 p1_10 p1_11 p1_12 p1_13 l3 k (aW (i10 + 1)) (aW (i11 + 1)) (l11.set i10.toNat (l11.getD i11.toNat 0))) else none) else none) else (bL K l1 l2 p1_2 p1_3 p1_4 p1_5 p1_6 p1_7 p1_8 p1_9 p1_10 p1_11 p1_12 p1_13 l3 k i10 (aW (i11 + 1)) l11))) else none) else (some ((l11,i10))))
def cA (K:Nat) (l0:List Int) (l1:List ag) (l2:List Int) (p1_2:Int) (p1_3:Int) (p1_4:Int) (p1_5:Int) (p1_6:Int) (p1_7:Int) (p1_8:Int) (p1_9:Int) (p1_10:Int) (p1_11:Int) (p1_12:Int) (p1_13:Bool) (l3:List (aI × Int)):Option ((List Int) × (List Int)):=((cI K l0 l1 l2 p1_2 p1_3 p1_4 p1_5 p1_6 p1_7 p1_8 p1_9 p1_10 p1_11 p1_12 p1_13 l3).bind fun x15=>(if x15 = (-1) then (some ((l0,l0))) else (Option.bind (bL K l1 l2 p1_2 p1_3 p1_4 p1_5 p1_6 p1_7 p1_8 p1_9 p1_10 p1_11 p1_12 p1_13 l3 K x15 (aW (x15 + 1)) l0) fun x22=>(if 0 ≤ x22.2 then (if x22.2 ≤ (x22.1.length:Int) then (if x22.2 ≤ ((x22.1.take x22.2.toNat ++ List.replicate (x22.1.length - x22.2.toNat) 0).length:Int) then (some (((x22.1.take x22.2.toNat ++ List.replicate (x22.1.length - x22.2.toNat) 0),((x22.1.take x22.2.toNat ++ List.replicate (x22.1.length - x22.2.toNat) 0).take x22.2.toNat)))) else none) else none) else none))))
def fk (K:Nat) (l0:List ag) (l1:List Int) (p0_2:Int) (p0_3:Int) (p0_4:Int) (p0_5:Int) (p0_6:Int) (p0_7:Int) (p0_8:Int) (p0_9:Int) (p0_10:Int) (p0_11:Int) (p0_12:Int) (p0_13:Bool) (l2:List (aI × Int)):Option ((List Int) × (List Int)):=((bZ l1).bind fun x3=>((cA K x3 l0 l1 p0_2 p0_3 p0_4 p0_5 p0_6 p0_7 p0_8 p0_9 p0_10 p0_11 p0_12 p0_13 l2).bind fun x4=>(some ((x4.1,x4.2)))))
def gj (l0:List ag):Unit:=(())
def dh (l0:List ag) (l1:List Int) (p0_2:Int) (p0_3:Int) (p0_4:Int) (p0_5:Int) (p0_6:Int) (p0_7:Int) (p0_8:Int) (p0_9:Int) (p0_10:Int) (p0_11:Int) (p0_12:Int) (p0_13:Bool) (l2:List (aI × Int)) (a1:Int) (a2_0:Int) (a2_1:Int):List (aI × Int):=(gd (dJ a2_0 a2_1) fun x2=>((kF l2 (⟨a1,(⟨a2_0,a2_1⟩:aD)⟩:aI) x2.1)))
def jj:(Int × Int × Int × Int × Int × Int × Int × Int × Int × Int × Int × Int × Int × Int × Int × Int × Int × Int):=((1,1048576,0,1048576,0,1048576,0,1048576,0,1048576,1,1048576,1,1048576,1,64,100,1048576))
def iJ (a0_0:Int) (a0_1:Int) (a0_2:Int) (a0_3:Int) (a0_4:Int) (a0_5:Int) (a0_6:Int) (a0_7:Int) (a0_8:Int):(Int × Int × Int × Int × Int × Int × Int × Int × Int):=((a0_0,a0_1,a0_2,a0_3,a0_4,a0_5,a0_6,a0_7,a0_8))
def iW (a0_0:Int) (a0_1:Int) (a0_2:Int) (a0_3:Int) (a0_4:Int) (a0_5:Int) (a0_6:Int) (a0_7:Int) (a0_8:Int):Option Int:=(gd (jj) fun x4=>(gd (iJ a0_0 a0_1 a0_2 a0_3 a0_4 a0_5 a0_6 a0_7 a0_8) fun x6=>(if 0 < (9:Int) then (if x6.1 < x4.1 then (some (2)) else (if x4.2.1 < x6.1 then (some (2)) else (if 1 < (9:Int) then (if x6.2.1 < x4.2.2.1 then (some (2)) else (if x4.2.2.2.1 < x6.2.1 then (some (2)) else (if 2 < (9:Int) then (if x6.2.2.1 < x4.2.2.2.2.1 then (some (2)) else (if x4.2.2.2.2.2.1 < x6.2.2.1 then (some (2)) else (if 3 < (9:Int) then (if x6.2.2.2.1 < x4.2.2.2.2.2.2.1 then (some (2)) else (if x4.2.2.2.2.2.2.2.1 < x6.2.2.2.1 then (some (2)) else (if 4 < (9:Int) then (if x6.2.2.2.2.1 < x4.2.2.2.2.2.2.2.2.1 then (some (2)) else (if x4.2.2.2.2.2.2.2.2.2.1 < x6.2.2.2.2.1 then (some (2)) else (if 5 < (9:Int) then (if x6.2.2.2.2.2.1 < x4.2.2.2.2.2.2.2.2.2.2.1 then (some (2)) else (if x4.2.2.2.2.2.2.2.2.2.2.2.1 < x6.2.2.2.2.2.1 then (some (2)) else (if 6 < (9:Int) then (if x6.2.2.2.2.2.2.1 < x4.2.2.2.2.2.2.2.2.2.2.2.2.1 then (some (2)) else (if x4.2.2.2.2.2.2.2.2.2.2.2.2.2.1 < x6.2.2.2.2.2.2.1 then (some (2)) else (if 7 < (9:Int) then (if x6.2.2.2.2.2.2.2.1 < x4.2.2.2.2.2.2.2.2.2.2.2.2.2.2.1 then (some (2)) else (if x4.2.2.2.2.2.2.2.2.2.2.2.2.2.2.2.1 < x6.2.2.2.2.2.2.2.1 then (some (2)) else (if 8 < (9:Int) then (if x6.2.2.2.2.2.2.2.2 < x4.2.2.2.2.2.2.2.2.2.2.2.2.2.2.2.2.1 then (some (2)) else (if x4.2.2.2.2.2.2.2.2.2.2.2.2.2.2.2.2.2 < x6.2.2.2.2.2.2.2.2 then (some (2)) else (some (0)))) else none))) else none))) else none))) else none))) else none))) else none))) else none))) else none))) else none)))
def jT (a0_0:Int) (a0_1:Int) (a0_2:Int) (a0_3:Int) (a0_4:Int) (a0_5:Int) (a0_6:Int) (a0_7:Int) (a0_8:Int) (a1:Int):Option (Int × Bool):=(if a1 < 1 then (some ((0,false))) else (if 3 < a1 then (some ((0,false))) else (if 0 ≤ a1 then (if a1 < (4:Int) then (some ((([0,a0_1,a0_2,a0_3].getD a1.toNat 0),true))) else none) else none)))
def js (a0_0:Int) (a0_1:Int) (a1_0:Int) (a1_1:Int) (a1_2:Int) (a1_3:Int) (a1_4:Int) (a1_5:Int) (a1_6:Int) (a1_7:Int) (a1_8:Int) (a2:Int):Option Bool:=(gd (gH a0_0 a0_1) fun x9=>(if (!x9) = true then (some (false)) else ((iW a1_0 a1_1 a1_2 a1_3 a1_4 a1_5 a1_6 a1_7 a1_8).bind fun x10=>(if ¬ (x10 = 0) then (some (false)) else ((jT a1_0 a1_1 a1_2 a1_3 a1_4 a1_5 a1_6 a1_7 a1_8 a0_0).bind fun x11=>(gd (dJ a0_0 a0_1) fun x12=>(some (decide (x12.2 ≤ (aW (a2 - x11.1)))))))))))
def fu (K:Nat) (a0:Int) (a1_0:Int) (a1_1:Int) (a1_2:Int) (a1_3:Int) (a1_4:Int) (a1_5:Int) (a1_6:Int) (a1_7:Int) (a1_8:Int) (a2:Int):Nat → Int → Option Int
  | 0,_=>none
  | k + 1,i5=>(if i5 < 3 then (Option.bind (if 0 ≤ i5 then (if i5 < (3:Int) then (if i5 = 0 then (gd (fX 3 a0) fun x244=>(if (!x244.2.2) = true then (some (Sum.inl ())) else ((js x244.1 x244.2.1 a1_0 a1_1 a1_2 a1_3 a1_4 a1_5 a1_6 a1_7 a1_8 a2).bind fun x246=>(if (!x246) = true then (some (Sum.inl ())) else (some (Sum.inr (3))))))) else (if i5 = 1 then (gd (fX 2 a0) fun x247=>(if (!x247.2.2) = true then (some (Sum.inl ())) else ((js x247.1 x247.2.1 a1_0 a1_1 a1_2 a1_3 a1_4 a1_5 a1_6 a1_7 a1_8 a2).bind fun x249=>(if (!x249) = true then (some (Sum.inl ())) else (some (Sum.inr (2))))))) else (if i5 = 2 then (gd (fX 1 a0) fun x250=>(if (!x250.2.2) = true then (some (Sum.inl ())) else ((js x250.1 x250.2.1 a1_0 a1_1 a1_2 a1_3 a1_4 a1_5 a1_6 a1_7 a1_8 a2).bind fun x252=>(if (!x252) = true then (some (Sum.inl ())) else (some (Sum.inr (1))))))) else none))) else none) else none) fun z=>(pa z (fun v12=>(fu K a0 a1_0 a1_1 a1_2 a1_3 a1_4 a1_5 a1_6 a1_7 a1_8 a2 k (aW (i5 + 1)))) (fun t_=>(some (t_))))) else (some (0)))
def iM (K:Nat) (a0:Int) (a1_0:Int) (a1_1:Int) (a1_2:Int) (a1_3:Int) (a1_4:Int) (a1_5:Int) (a1_6:Int) (a1_7:Int) (a1_8:Int) (a2:Int):Option Int:=(fu K a0 a1_0 a1_1 a1_2 a1_3 a1_4 a1_5 a1_6 a1_7 a1_8 a2 K 0)
def cB (a0:Int) (l0:List ag) (p2_0:Int):Option Bool:=(if 0 ≤ a0 then (if a0 < (l0.length:Int) then (some (decide (p2_0 ≤ ((l0.getD a0.toNat ap).k)))) else none) else none)
def fe (K:Nat) (l0:List ag) (p2_0:Int):Nat → Int → Int → Option Int
  | 0,_,_=>none
  | k + 1,i7,i9=>(if i7 < i9 then ((cB (aW (oM .u64 (pp (aW (i7 + i9))) 1)) l0 p2_0).bind fun x12=>(if (!x12) = true then (fe K l0 p2_0 k (aW ((aW (oM .u64 (pp (aW (i7 + i9))) 1)) + 1)) i9) else (fe K l0 p2_0 k i7 (aW (oM .u64 (pp (aW (i7 + i9))) 1))))) else (some (i7)))
def ia (K:Nat) (a0:Int) (l0:List ag) (p2_0:Int):Option Int:=(fe K l0 p2_0 K 0 a0)
def co (K:Nat) (l0:List ag) (a1:Int):Option (Bool × Int):=((ia K (l0.length:Int) l0 a1).bind fun x2=>(if x2 < (l0.length:Int) then (if 0 ≤ x2 then (some (((((l0.getD x2.toNat ap).k) == a1),x2))) else none) else (some ((false,x2)))))
def cN (K:Nat) (l0:List ag) (a1:Int):Option (Int × Int × Int × Int × Int × Int × Bool × Bool):=((co K l0 a1).bind fun x3=>(gd (if (!x3.1) = true then (aW (x3.2 - 1)) else (x3.2)) fun x4=>(if x4 < 0 then (some ((0,0,0,0,0,0,false,false))) else (if 0 ≤ x4 then (if x4 < (l0.length:Int) then (some (((l0.getD x4.toNat ap).k,(((l0.getD x4.toNat ap).v).Part).Tier,(((l0.getD x4.toNat ap).v).Part).Index,((l0.getD x4.toNat ap).v).Seg,((l0.getD x4.toNat ap).v).Mark,((l0.getD x4.toNat ap).v).Rows,((l0.getD x4.toNat ap).v).Cold,true))) else none) else none))))
def eN (K:Nat) (l0:List ag) (a1:Int):Option (Int × Int × Int × Int × Int × Bool × Bool):=((cN K l0 a1).bind fun x4=>(if (!x4.2.2.2.2.2.2.2) = true then (some ((0,0,0,0,0,false,false))) else (gd (gL x4.2.1 x4.2.2.1 a1) fun x6=>(if (!x6) = true then (some ((0,0,0,0,0,false,false))) else (some ((x4.2.1,x4.2.2.1,x4.2.2.2.1,x4.2.2.2.2.1,x4.2.2.2.2.2.1,x4.2.2.2.2.2.2.1,true)))))))
def jo (K:Nat) (l0:List ag) (l1:List Int) (a0_2:Int) (a0_3:Int) (a0_4:Int) (a0_5:Int) (a0_6:Int) (a0_7:Int) (a0_8:Int) (a0_9:Int) (a0_10:Int) (a0_11:Int) (a0_12:Int) (a0_13:Bool) (a1:Int):Option Int:=((eN K l0 a1).bind fun x2=>(some (x2.1)))
def gp (K:Nat) (l0:List ag) (l1:List Int) (a0_2:Int) (a0_3:Int) (a0_4:Int) (a0_5:Int) (a0_6:Int) (a0_7:Int) (a0_8:Int) (a0_9:Int) (a0_10:Int) (a0_11:Int) (a0_12:Int) (a0_13:Bool) (a1:Int):Option (Int × Int × Bool):=((iM K a1 a0_2 a0_3 a0_4 a0_5 a0_6 a0_7 a0_8 a0_9 a0_10 a0_11).bind fun x4=>(if x4 = 0 then (some ((0,0,false))) else ((jo K l0 l1 a0_2 a0_3 a0_4 a0_5 a0_6 a0_7 a0_8 a0_9 a0_10 a0_11 a0_12 a0_13 a1).bind fun x5=>(gd (fX (mx x5 x4) a1) fun x6=>(some ((x6.1,x6.2.1,x6.2.2)))))))
def ez (K:Nat) (l0:List ag) (l1:List Int) (p0_2:Int) (p0_3:Int) (p0_4:Int) (p0_5:Int) (p0_6:Int) (p0_7:Int) (p0_8:Int) (p0_9:Int) (p0_10:Int) (p0_11:Int) (p0_12:Int) (p0_13:Bool) (l2:List (aI × Int)) (a1:Int) (a2:Int):Option (List (aI × Int)):=((gp K l0 l1 p0_2 p0_3 p0_4 p0_5 p0_6 p0_7 p0_8 p0_9 p0_10 p0_11 p0_12 p0_13 a1).bind fun x3=>(if x3.2.2 = true then (if a2 < x3.1 then (gd (dh l0 l1 p0_2 p0_3 p0_4 p0_5 p0_6 p0_7 p0_8 p0_9 p0_10 p0_11 p0_12 p0_13 l2 2 x3.1 x3.2.1) fun x4=>(some (x4))) else (some (l2))) else (some (l2))))
def fL (a0:Int) (p0_0:Int) (p1_0:Int):Bool:=(if p0_0 ≤ a0 then (decide (a0 < p1_0)) else (false))
def ca (K:Nat) (l0:List Int) (p0_0:Int) (p1_0:Int):Nat → Int → Option Int
  | 0,_=>none
  | k + 1,i5=>(if i5 < (l0.length:Int) then (if 0 ≤ i5 then (gd (fL (l0.getD i5.toNat 0) p0_0 p1_0) fun x24=>(if x24 = true then (some (i5)) else (ca K l0 p0_0 p1_0 k (aW (i5 + 1))))) else none) else (some ((-1))))
def cS (K:Nat) (l0:List Int) (p0_0:Int) (p1_0:Int):Option Int:=(ca K l0 p0_0 p1_0 K 0)
def bI (K:Nat) (l0:List Int) (p0_0:Int) (p1_0:Int):Option Bool:=((cS K l0 p0_0 p1_0).bind fun x2=>(some (decide (0 ≤ x2))))
def ff (K:Nat) (l0:List ag) (l1:List Int) (p0_2:Int) (p0_3:Int) (p0_4:Int) (p0_5:Int) (p0_6:Int) (p0_7:Int) (p0_8:Int) (p0_9:Int) (p0_10:Int) (p0_11:Int) (p0_12:Int) (p0_13:Bool) (l2:List (aI × Int)) (a1_0:Int) (a1_1:Int) (a1_2:Int) (a1_3:Int) (a1_4:Int) (a1_5:Bool) (l3:List Int):Option (List (aI × Int)):=(gd (dJ a1_0 a1_1) fun x7=>(if x7.2 ≤ p0_12 then (gd (dh l0 l1 p0_2 p0_3 p0_4 p0_5 p0_6 p0_7 p0_8 p0_9 p0_10 p0_11 p0_12 p0_13 l2 1 a1_0 a1_1) fun x9=>(some (x9))) else ((ez K l0 l1 p0_2 p0_3 p0_4 p0_5 p0_6 p0_7 p0_8 p0_9 p0_10 p0_11 p0_12 p0_13 l2 x7.1 a1_0).bind fun x10=>((bI K l3 x7.1 x7.2).bind fun x11=>(if a1_0 = 3 then (if (!a1_5) = true then (if x7.2 ≤ (aW (p0_11 - p0_6)) then (if (!x11) = true then (gd (dh l0 l1 p0_2 p0_3 p0_4 p0_5 p0_6 p0_7 p0_8 p0_9 p0_10 p0_11 p0_12 p0_13 x10 3 a1_0 a1_1) fun x12=>(some (x12))) else (some (x10))) else (some (x10))) else (some (x10))) else (some (x10)))))))
def eF (l0:List ag):Unit:=(())
def dI (l0:List ag):Unit:=(gd (eF l0) fun u2=>(()))
def ct (K:Nat) (Gm0:Type) (y0:Int → ax → Gm0 → Option (Gm0 × Bool)) (l0:List ag):Nat → Int → Gm0 → Option Gm0
  | 0,_,_=>none
  | k + 1,i2,l3=>(if i2 < (l0.length:Int) then (if 0 ≤ i2 then ((y0 ((l0.getD i2.toNat ap).k) (⟨(⟨(((l0.getD i2.toNat ap).v).Part).Tier,(((l0.getD i2.toNat ap).v).Part).Index⟩:aD),((l0.getD i2.toNat ap).v).Seg,((l0.getD i2.toNat ap).v).Mark,((l0.getD i2.toNat ap).v).Rows,((l0.getD i2.toNat ap).v).Cold⟩:ax) l3).bind fun x12=>(if (!x12.2) = true then (some (x12.1)) else (ct K Gm0 y0 l0 k (aW (i2 + 1)) x12.1))) else none) else (some (l3)))
def dp (K:Nat) (Gm0:Type) (y0:Int → ax → Gm0 → Option (Gm0 × Bool)) (x0y:Gm0) (l0:List ag):Option Gm0:=(ct K Gm0 y0 l0 K 0 x0y)
def fa (K:Nat) (Gm0:Type) (y0:ax → Gm0 → Option (Gm0 × Bool)) (t0_:Int) (t1_:ax) (zz_:Sum Gm0 Gm0):Option ((Sum Gm0 Gm0) × Bool):=(pa zz_ (fun z2=>((y0 (⟨(⟨t1_.Part.Tier,t1_.Part.Index⟩:aD),t1_.Seg,t1_.Mark,t1_.Rows,t1_.Cold⟩:ax) z2).bind fun x7=>(if (!x7.2) = true then (some ((Sum.inr x7.1,false))) else (some ((Sum.inl x7.1,true)))))) (fun _=>none))
def eo (K:Nat) (Gm0:Type) (y0:ax → Gm0 → Option (Gm0 × Bool)) (x0y:Gm0) (l0:List ag):Option Gm0:=(gd (dI l0) fun u2=>((dp K (Sum Gm0 Gm0) (fa K Gm0 y0) (Sum.inl x0y) l0).bind fun x8=>(pa x8 (fun y2=>(some (y2))) (fun d_=>(gd d_ fun d2=>(some (d2)))))))
def gZ (K:Nat) (l0:List ag) (l1:List Int) (a0_2:Int) (a0_3:Int) (a0_4:Int) (a0_5:Int) (a0_6:Int) (a0_7:Int) (a0_8:Int) (a0_9:Int) (a0_10:Int) (a0_11:Int) (a0_12:Int) (a0_13:Bool) (x27:((List Int) × (List Int))) (t0_:ax) (z4:List (aI × Int)):Option ((List (aI × Int)) × Bool):=((ff K l0 l1 a0_2 a0_3 a0_4 a0_5 a0_6 a0_7 a0_8 a0_9 a0_10 a0_11 a0_12 a0_13 z4 t0_.Part.Tier t0_.Part.Index t0_.Seg t0_.Mark t0_.Rows t0_.Cold x27.2).bind fun x35=>(some ((x35,true))))
def fM (K:Nat) (l0:List ag) (l1:List Int) (a0_2:Int) (a0_3:Int) (a0_4:Int) (a0_5:Int) (a0_6:Int) (a0_7:Int) (a0_8:Int) (a0_9:Int) (a0_10:Int) (a0_11:Int) (a0_12:Int) (a0_13:Bool) (x32:((List (aI × Int)) × (List Int))):Nat → Int → (List (aI × Int)) → Option (List (aI × Int))
  | 0,_,_=>none
  | k + 1,i4,l17=>(if i4 < (x32.2.length:Int) then (if 0 ≤ i4 then ((ez K l0 l1 a0_2 a0_3 a0_4 a0_5 a0_6 a0_7 a0_8 a0_9 a0_10 a0_11 a0_12 a0_13 l17 (x32.2.getD i4.toNat 0) 0).bind fun x49=>(fM K l0 l1 a0_2 a0_3 a0_4 a0_5 a0_6 a0_7 a0_8 a0_9 a0_10 a0_11 a0_12 a0_13 x32 k (aW (i4 + 1)) x49)) else none) else (some (l17)))
def fJ (K:Nat) (l0:List ag) (l1:List Int) (a0_2:Int) (a0_3:Int) (a0_4:Int) (a0_5:Int) (a0_6:Int) (a0_7:Int) (a0_8:Int) (a0_9:Int) (a0_10:Int) (a0_11:Int) (a0_12:Int) (a0_13:Bool):Option (List (aI × Int)):=((fk K l0 l1 a0_2 a0_3 a0_4 a0_5 a0_6 a0_7 a0_8 a0_9 a0_10 a0_11 a0_12 a0_13 ([]:List (aI × Int))).bind fun x27=>(Option.bind (gd (gj l0) fun u4=>((eo K (List (aI × Int)) (gZ K l0 l1 a0_2 a0_3 a0_4 a0_5 a0_6 a0_7 a0_8 a0_9 a0_10 a0_11 a0_12 a0_13 x27) ([]:List (aI × Int)) l0).bind fun x36=>(some ((x36,x27.2))))) fun x32=>(Option.bind (fM K l0 l1 a0_2 a0_3 a0_4 a0_5 a0_6 a0_7 a0_8 a0_9 a0_10 a0_11 a0_12 a0_13 x32 K 0 x32.1) fun x43=>(gd (if a0_13 = true then (gd (dh l0 l1 a0_2 a0_3 a0_4 a0_5 a0_6 a0_7 a0_8 a0_9 a0_10 a0_11 a0_12 a0_13 x43 4 0 0) fun x52=>(x52)) else (x43)) fun x51=>(some (x51))))))
def bN (l0:List (aI × Int)):Unit:=(())
def gx (a0:Int):Bool:=((a0 != a0))
def gn (a0:Int) (a1:Int):Int:=(gd (gx a0) fun x3=>(gd (gx a1) fun x4=>(if x3 = true then (if x4 = true then (0) else ((-1))) else (if x4 = true then (1) else (if a0 < a1 then ((-1)) else (if a1 < a0 then (1) else (0)))))))
def fU (a0:Int):Bool:=((a0 != a0))
def fQ (a0:Int) (a1:Int):Int:=(gd (fU a0) fun x3=>(gd (fU a1) fun x4=>(if x3 = true then (if x4 = true then (0) else ((-1))) else (if x4 = true then (1) else (if a0 < a1 then ((-1)) else (if a1 < a0 then (1) else (0)))))))
def cY (K:Nat) (l0:List Int):Nat → Int → Option Int
  | 0,_=>none
  | k + 1,i5=>(if i5 < (l0.length:Int) then (if 0 ≤ i5 then (if ¬ ((l0.getD i5.toNat 0) = 0) then (some ((l0.getD i5.toNat 0))) else (cY K l0 k (aW (i5 + 1)))) else none) else (some (0)))
def iv (K:Nat) (l0:List Int):Option Int:=(cY K l0 K 0)
def io (K:Nat) (a0_0:Int) (a0_1:Int) (a0_2:Int) (a1_0:Int) (a1_1:Int) (a1_2:Int) (l0:List (aI × Int)):Option Int:=(gd (gn a0_0 a1_0) fun x4=>(gd (fQ ((iH l0 (⟨a0_0,(⟨a0_1,a0_2⟩:aD)⟩:aI)).getD 0) ((iH l0 (⟨a1_0,(⟨a1_1,a1_2⟩:aD)⟩:aI)).getD 0)) fun x5=>((iv K [x4,x5]).bind fun x6=>(some (x6)))))
def ig (K:Nat) (l0:List (aI × Int)) (x y:aI):Int:=(io K x.kind x.p.Tier x.p.Index y.kind y.p.Tier y.p.Index l0).getD 0
def cd (K:Nat) (l0:List (aI × Int)):Option (List aI):=if 100 ≤ K ∧ l0.length * 24 ≤ 140737488355328 then rl (ig K l0) (l0.map (·.1)) else none
def gm (K:Nat) (x6:List aI):Nat → Int → (List dU) → Option (List dU)
  | 0,_,_=>none
  | k + 1,i4,l6=>(if i4 < (x6.length:Int) then (if 0 ≤ i4 then (if (l6.length + [(⟨(x6.getD i4.toNat bp).kind,(⟨((x6.getD i4.toNat bp).p).Tier,((x6.getD i4.toNat bp).p).Index⟩:aD),0,0⟩:dU)].length) * 40 ≤ 140737488355328 then (gm K x6 k (aW (i4 + 1)) (l6 ++ [(⟨(x6.getD i4.toNat bp).kind,(⟨((x6.getD i4.toNat bp).p).Tier,((x6.getD i4.toNat bp).p).Index⟩:aD),0,0⟩:dU)])) else none) else none) else (some (l6)))
def iu (K:Nat) (l0:List ag) (l1:List Int) (a0_2:Int) (a0_3:Int) (a0_4:Int) (a0_5:Int) (a0_6:Int) (a0_7:Int) (a0_8:Int) (a0_9:Int) (a0_10:Int) (a0_11:Int) (a0_12:Int) (a0_13:Bool):Option (List dU):=((fJ K l0 l1 a0_2 a0_3 a0_4 a0_5 a0_6 a0_7 a0_8 a0_9 a0_10 a0_11 a0_12 a0_13).bind fun x4=>(gd (bN x4) fun u4=>((cd K x4).bind fun x6=>(gm K x6 K 0 ([]:List dU)))))
def iQ (a0_0:Int) (a0_1:Int) (a1_0:Int) (a1_1:Int):(Bool × Int × Int × Int × Int):=(gd (dJ a0_0 a0_1) fun x3=>(gd (dJ a1_0 a1_1) fun x4=>(if 0 < x3.2 then ((decide (0 < x4.2),x3.1,x3.2,x4.1,x4.2)) else ((false,x3.1,x3.2,x4.1,x4.2)))))
def iy (a0_0:Int) (a0_1:Int) (a1_0:Int) (a1_1:Int):Bool:=(gd (iQ a0_0 a0_1 a1_0 a1_1) fun x2=>(if x2.1 = true then (decide ((mx x2.2.1 x2.2.2.2.1) < (mn x2.2.2.1 x2.2.2.2.2))) else (false)))
def jr (a0_0:Int) (a0_1:Int) (a1_0:Int) (a1_1:Int):Bool:=(gd (iQ a0_0 a0_1 a1_0 a1_1) fun x2=>(if x2.1 = true then (if x2.2.2.2.1 ≤ x2.2.1 then (decide (x2.2.2.1 ≤ x2.2.2.2.2)) else (false)) else (false)))
def ij (K:Nat) (l0:List ag) (l1:List Int) (a0_2:Int) (a0_3:Int) (a0_4:Int) (a0_5:Int) (a0_6:Int) (a0_7:Int) (a0_8:Int) (a0_9:Int) (a0_10:Int) (a0_11:Int) (a0_12:Int) (a0_13:Bool) (a1:Int) (a2_0:Int) (a2_1:Int):Option Bool:=((fJ K l0 l1 a0_2 a0_3 a0_4 a0_5 a0_6 a0_7 a0_8 a0_9 a0_10 a0_11 a0_12 a0_13).bind fun x3=>(some ((iH x3 (⟨a1,(⟨a2_0,a2_1⟩:aD)⟩:aI)).isSome)))
def bA:(Int × Int × Int × Int × Int × Int × Int × Int × Int):=((2000,1,2,24,48,2,60,16,4000))
def eQ (a0:Int) (l0:List Int) (p1_2:Int) (p1_3:Int) (p1_4:Int) (p1_5:Int) (p1_6:Int) (p1_7:Int) (p1_8:Int) (p1_9:Int) (p1_10:Int) (p1_11:Int) (p1_12:Int) (p1_13:Bool) (l1:List (aI × Int)):Bool:=(decide (a0 < p1_12))
def cV (K:Nat) (l0:List Int) (l1:List Int) (p1_2:Int) (p1_3:Int) (p1_4:Int) (p1_5:Int) (p1_6:Int) (p1_7:Int) (p1_8:Int) (p1_9:Int) (p1_10:Int) (p1_11:Int) (p1_12:Int) (p1_13:Bool) (l2:List (aI × Int)):Nat → Int → Option Int
  | 0,_=>none
  | k + 1,i5=>(if i5 < (l0.length:Int) then (if 0 ≤ i5 then (gd (eQ (l0.getD i5.toNat 0) l1 p1_2 p1_3 p1_4 p1_5 p1_6 p1_7 p1_8 p1_9 p1_10 p1_11 p1_12 p1_13 l2) fun x24=>(if x24 = true then (some (i5)) else (cV K l0 l1 p1_2 p1_3 p1_4 p1_5 p1_6 p1_7 p1_8 p1_9 p1_10 p1_11 p1_12 p1_13 l2 k (aW (i5 + 1))))) else none) else (some ((-1))))
def dj (K:Nat) (l0:List Int) (l1:List Int) (p1_2:Int) (p1_3:Int) (p1_4:Int) (p1_5:Int) (p1_6:Int) (p1_7:Int) (p1_8:Int) (p1_9:Int) (p1_10:Int) (p1_11:Int) (p1_12:Int) (p1_13:Bool) (l2:List (aI × Int)):Option Int:=(cV K l0 l1 p1_2 p1_3 p1_4 p1_5 p1_6 p1_7 p1_8 p1_9 p1_10 p1_11 p1_12 p1_13 l2 K 0)
def cm (K:Nat) (l1:List Int) (p1_2:Int) (p1_3:Int) (p1_4:Int) (p1_5:Int) (p1_6:Int) (p1_7:Int) (p1_8:Int) (p1_9:Int) (p1_10:Int) (p1_11:Int) (p1_12:Int) (p1_13:Bool) (l2:List (aI × Int)):Nat → Int → Int → (List Int) → Option ((List Int) × Int)
  | 0,_,_,_=>none
  | k + 1,i10,i11,l10=>(if i11 < (l10.length:Int) then (if 0 ≤ i11 then (gd (eQ (l10.getD i11.toNat 0) l1 p1_2 p1_3 p1_4 p1_5 p1_6 p1_7 p1_8 p1_9 p1_10 p1_11 p1_12 p1_13 l2) fun x28=>(if (!x28) = true then (if 0 ≤ i10 then (if i10 < (l10.length:Int) then (cm K l1 p1_2 p1_3 p1_4 p1_5 p1_6 p1_7 p1_8 p1_9 p1_10 p1_11 p1_12 p1_13 l2 k (aW (i10 + 1)) (aW (i11 + 1)) (l10.set i10.toNat (l10.getD i11.toNat 0))) else none) else none) else (cm K l1 p1_2 p1_3 p1_4 p1_5 p1_6 p1_7 p1_8 p1_9 p1_10 p1_11 p1_12 p1_13 l2 k i10 (aW (i11 + 1)) l10))) else none) else (some ((l10,i10))))
def dg (K:Nat) (l0:List Int) (l1:List Int) (p1_2:Int) (p1_3:Int) (p1_4:Int) (p1_5:Int) (p1_6:Int) (p1_7:Int) (p1_8:Int) (p1_9:Int) (p1_10:Int) (p1_11:Int) (p1_12:Int) (p1_13:Bool) (l2:List (aI × Int)):Option ((List Int) × (List Int)):=((dj K l0 l1 p1_2 p1_3 p1_4 p1_5 p1_6 p1_7 p1_8 p1_9 p1_10 p1_11 p1_12 p1_13 l2).bind fun x15=>(if x15 = (-1) then (some ((l0,l0))) else (Option.bind (cm K l1 p1_2 p1_3 p1_4 p1_5 p1_6 p1_7 p1_8 p1_9 p1_10 p1_11 p1_12 p1_13 l2 K x15 (aW (x15 + 1)) l0) fun x22=>(if 0 ≤ x22.2 then (if x22.2 ≤ (x22.1.length:Int) then (if x22.2 ≤ ((x22.1.take x22.2.toNat ++ List.replicate (x22.1.length - x22.2.toNat) 0).length:Int) then (some (((x22.1.take x22.2.toNat ++ List.replicate (x22.1.length - x22.2.toNat) 0),((x22.1.take x22.2.toNat ++ List.replicate (x22.1.length - x22.2.toNat) 0).take x22.2.toNat)))) else none) else none) else none))))
def gz (K:Nat) (l0:List Int) (p0_2:Int) (p0_3:Int) (p0_4:Int) (p0_5:Int) (p0_6:Int) (p0_7:Int) (p0_8:Int) (p0_9:Int) (p0_10:Int) (p0_11:Int) (p0_12:Int) (p0_13:Bool) (l1:List (aI × Int)):Option ((List Int) × (List Int)):=((bZ l0).bind fun x3=>((dg K x3 l0 p0_2 p0_3 p0_4 p0_5 p0_6 p0_7 p0_8 p0_9 p0_10 p0_11 p0_12 p0_13 l1).bind fun x4=>(some ((x4.1,x4.2)))))
def gk:Unit:=(())
def dX (l0:List Int) (p0_2:Int) (p0_3:Int) (p0_4:Int) (p0_5:Int) (p0_6:Int) (p0_7:Int) (p0_8:Int) (p0_9:Int) (p0_10:Int) (p0_11:Int) (p0_12:Int) (p0_13:Bool) (l1:List (aI × Int)) (a1:Int) (a2_0:Int) (a2_1:Int):List (aI × Int):=(gd (dJ a2_0 a2_1) fun x2=>((kF l1 (⟨a1,(⟨a2_0,a2_1⟩:aD)⟩:aI) x2.1)))
def jB (K:Nat) (a0:Int):Nat → Option Int
  | 0=>none
  | k + 1=>(if 0 < a0 then none else (some (0)))
def jG (K:Nat) (a0:Int) (p2_0:Int):Option Int:=(jB K a0 K)
def dE (K:Nat) (a1:Int):Option (Int × Bool):=((jG K 0 a1).bind fun x2=>(if x2 < 0 then none else (some ((x2,false)))))
def dD (K:Nat) (a1:Int):Option (Int × Int × Int × Int × Int × Int × Bool × Bool):=((dE K a1).bind fun x3=>(gd (if (!x3.2) = true then (aW (x3.1 - 1)) else (x3.1)) fun x4=>(if x4 < 0 then (some ((0,0,0,0,0,0,false,false))) else none)))
def gw (K:Nat) (a1:Int):Option (Int × Int × Int × Int × Int × Bool × Bool):=((dD K a1).bind fun x4=>(if (!x4.2.2.2.2.2.2.2) = true then (some ((0,0,0,0,0,false,false))) else (gd (gL x4.2.1 x4.2.2.1 a1) fun x6=>(if (!x6) = true then (some ((0,0,0,0,0,false,false))) else (some ((x4.2.1,x4.2.2.1,x4.2.2.2.1,x4.2.2.2.2.1,x4.2.2.2.2.2.1,x4.2.2.2.2.2.2.1,true)))))))
def kJ (K:Nat) (l0:List Int) (a0_2:Int) (a0_3:Int) (a0_4:Int) (a0_5:Int) (a0_6:Int) (a0_7:Int) (a0_8:Int) (a0_9:Int) (a0_10:Int) (a0_11:Int) (a0_12:Int) (a0_13:Bool) (a1:Int):Option Int:=((gw K a1).bind fun x2=>(some (x2.1)))
def jH (K:Nat) (l0:List Int) (a0_2:Int) (a0_3:Int) (a0_4:Int) (a0_5:Int) (a0_6:Int) (a0_7:Int) (a0_8:Int) (a0_9:Int) (a0_10:Int) (a0_11:Int) (a0_12:Int) (a0_13:Bool) (a1:Int):Option (Int × Int × Bool):=((iM K a1 a0_2 a0_3 a0_4 a0_5 a0_6 a0_7 a0_8 a0_9 a0_10 a0_11).bind fun x4=>(if x4 = 0 then (some ((0,0,false))) else ((kJ K l0 a0_2 a0_3 a0_4 a0_5 a0_6 a0_7 a0_8 a0_9 a0_10 a0_11 a0_12 a0_13 a1).bind fun x5=>(gd (fX (mx x5 x4) a1) fun x6=>(some ((x6.1,x6.2.1,x6.2.2)))))))
def fB (K:Nat) (l0:List Int) (p0_2:Int) (p0_3:Int) (p0_4:Int) (p0_5:Int) (p0_6:Int) (p0_7:Int) (p0_8:Int) (p0_9:Int) (p0_10:Int) (p0_11:Int) (p0_12:Int) (p0_13:Bool) (l1:List (aI × Int)) (a1:Int) (a2:Int):Option (List (aI × Int)):=((jH K l0 p0_2 p0_3 p0_4 p0_5 p0_6 p0_7 p0_8 p0_9 p0_10 p0_11 p0_12 p0_13 a1).bind fun x3=>(if x3.2.2 = true then (if a2 < x3.1 then (gd (dX l0 p0_2 p0_3 p0_4 p0_5 p0_6 p0_7 p0_8 p0_9 p0_10 p0_11 p0_12 p0_13 l1 2 x3.1 x3.2.1) fun x4=>(some (x4))) else (some (l1))) else (some (l1))))
def gy (K:Nat) (l0:List Int) (p0_2:Int) (p0_3:Int) (p0_4:Int) (p0_5:Int) (p0_6:Int) (p0_7:Int) (p0_8:Int) (p0_9:Int) (p0_10:Int) (p0_11:Int) (p0_12:Int) (p0_13:Bool) (l1:List (aI × Int)) (a1_0:Int) (a1_1:Int) (a1_2:Int) (a1_3:Int) (a1_4:Int) (a1_5:Bool) (l2:List Int):Option (List (aI × Int)):=(gd (dJ a1_0 a1_1) fun x7=>(if x7.2 ≤ p0_12 then (gd (dX l0 p0_2 p0_3 p0_4 p0_5 p0_6 p0_7 p0_8 p0_9 p0_10 p0_11 p0_12 p0_13 l1 1 a1_0 a1_1) fun x9=>(some (x9))) else ((fB K l0 p0_2 p0_3 p0_4 p0_5 p0_6 p0_7 p0_8 p0_9 p0_10 p0_11 p0_12 p0_13 l1 x7.1 a1_0).bind fun x10=>((bI K l2 x7.1 x7.2).bind fun x11=>(if a1_0 = 3 then (if (!a1_5) = true then (if x7.2 ≤ (aW (p0_11 - p0_6)) then (if (!x11) = true then (gd (dX l0 p0_2 p0_3 p0_4 p0_5 p0_6 p0_7 p0_8 p0_9 p0_10 p0_11 p0_12 p0_13 x10 3 a1_0 a1_1) fun x12=>(some (x12))) else (some (x10))) else (some (x10))) else (some (x10))) else (some (x10)))))))
def dH:Unit:=(gd (de) fun u2=>(()))
def fW (K:Nat) (Gm0:Type) (y0:ax → Gm0 → Option (Gm0 × Bool)) (t0_:Int) (t1_:ax) (zz_:Sum Gm0 Gm0):Option ((Sum Gm0 Gm0) × Bool):=(pa zz_ (fun z2=>((y0 (⟨(⟨t1_.Part.Tier,t1_.Part.Index⟩:aD),t1_.Seg,t1_.Mark,t1_.Rows,t1_.Cold⟩:ax) z2).bind fun x7=>(if (!x7.2) = true then (some ((Sum.inr x7.1,false))) else (some ((Sum.inl x7.1,true)))))) (fun _=>none))
def fF (K:Nat) (Gm0:Type) (y0:ax → Gm0 → Option (Gm0 × Bool)) (x0y:Gm0):Option Gm0:=(gd (dH) fun u2=>((dR K (Sum Gm0 Gm0) (fW K Gm0 y0) (Sum.inl x0y)).bind fun x8=>(pa (Sum.inl x0y:Sum Gm0 Gm0) (fun y2=>(some (y2))) (fun d_=>(gd d_ fun d2=>(some (d2)))))))
def iP (K:Nat) (l0:List Int) (a0_2:Int) (a0_3:Int) (a0_4:Int) (a0_5:Int) (a0_6:Int) (a0_7:Int) (a0_8:Int) (a0_9:Int) (a0_10:Int) (a0_11:Int) (a0_12:Int) (a0_13:Bool) (x27:((List Int) × (List Int))) (t0_:ax) (z4:List (aI × Int)):Option ((List (aI × Int)) × Bool):=((gy K l0 a0_2 a0_3 a0_4 a0_5 a0_6 a0_7 a0_8 a0_9 a0_10 a0_11 a0_12 a0_13 z4 t0_.Part.Tier t0_.Part.Index t0_.Seg t0_.Mark t0_.Rows t0_.Cold x27.2).bind fun x35=>(some ((x35,true))))
def gY (K:Nat) (l0:List Int) (a0_2:Int) (a0_3:Int) (a0_4:Int) (a0_5:Int) (a0_6:Int) (a0_7:Int) (a0_8:Int) (a0_9:Int) (a0_10:Int) (a0_11:Int) (a0_12:Int) (a0_13:Bool) (x32:((List (aI × Int)) × (List Int))):Nat → Int → (List (aI × Int)) → Option (List (aI × Int))
  | 0,_,_=>none
  | k + 1,i4,l16=>(if i4 < (x32.2.length:Int) then (if 0 ≤ i4 then ((fB K l0 a0_2 a0_3 a0_4 a0_5 a0_6 a0_7 a0_8 a0_9 a0_10 a0_11 a0_12 a0_13 l16 (x32.2.getD i4.toNat 0) 0).bind fun x49=>(gY K l0 a0_2 a0_3 a0_4 a0_5 a0_6 a0_7 a0_8 a0_9 a0_10 a0_11 a0_12 a0_13 x32 k (aW (i4 + 1)) x49)) else none) else (some (l16)))
def ic (K:Nat) (l0:List Int) (a0_2:Int) (a0_3:Int) (a0_4:Int) (a0_5:Int) (a0_6:Int) (a0_7:Int) (a0_8:Int) (a0_9:Int) (a0_10:Int) (a0_11:Int) (a0_12:Int) (a0_13:Bool):Option (List (aI × Int)):=((gz K l0 a0_2 a0_3 a0_4 a0_5 a0_6 a0_7 a0_8 a0_9 a0_10 a0_11 a0_12 a0_13 ([]:List (aI × Int))).bind fun x27=>(Option.bind (gd (gk) fun u4=>((fF K (List (aI × Int)) (iP K l0 a0_2 a0_3 a0_4 a0_5 a0_6 a0_7 a0_8 a0_9 a0_10 a0_11 a0_12 a0_13 x27) ([]:List (aI × Int))).bind fun x36=>(some ((x36,x27.2))))) fun x32=>(Option.bind (gY K l0 a0_2 a0_3 a0_4 a0_5 a0_6 a0_7 a0_8 a0_9 a0_10 a0_11 a0_12 a0_13 x32 K 0 x32.1) fun x43=>(gd (if a0_13 = true then (gd (dX l0 a0_2 a0_3 a0_4 a0_5 a0_6 a0_7 a0_8 a0_9 a0_10 a0_11 a0_12 a0_13 x43 4 0 0) fun x52=>(x52)) else (x43)) fun x51=>(some (x51))))))
def gS (K:Nat) (x6:List aI):Nat → Int → (List dU) → Option (List dU)
  | 0,_,_=>none
  | k + 1,i4,l5=>(if i4 < (x6.length:Int) then (if 0 ≤ i4 then (if (l5.length + [(⟨(x6.getD i4.toNat bp).kind,(⟨((x6.getD i4.toNat bp).p).Tier,((x6.getD i4.toNat bp).p).Index⟩:aD),0,0⟩:dU)].length) * 40 ≤ 140737488355328 then (gS K x6 k (aW (i4 + 1)) (l5 ++ [(⟨(x6.getD i4.toNat bp).kind,(⟨((x6.getD i4.toNat bp).p).Tier,((x6.getD i4.toNat bp).p).Index⟩:aD),0,0⟩:dU)])) else none) else none) else (some (l5)))
def iw (K:Nat) (l0:List Int) (a0_2:Int) (a0_3:Int) (a0_4:Int) (a0_5:Int) (a0_6:Int) (a0_7:Int) (a0_8:Int) (a0_9:Int) (a0_10:Int) (a0_11:Int) (a0_12:Int) (a0_13:Bool):Option (List dU):=((ic K l0 a0_2 a0_3 a0_4 a0_5 a0_6 a0_7 a0_8 a0_9 a0_10 a0_11 a0_12 a0_13).bind fun x4=>(gd (bN x4) fun u4=>((cd K x4).bind fun x6=>(gS K x6 K 0 ([]:List dU)))))
def dG (K:Nat):Option Bool:=(gd (jt) fun u2=>(gd (bA) fun x3=>((iw K [5] x3.1 x3.2.1 x3.2.2.1 x3.2.2.2.1 x3.2.2.2.2.1 x3.2.2.2.2.2.1 x3.2.2.2.2.2.2.1 x3.2.2.2.2.2.2.2.1 x3.2.2.2.2.2.2.2.2 7 0 false).bind fun x4=>(if (x4.length:Int) = 1 then (if 0 < (x4.length:Int) then (some (((((x4.getD ((0:Int).toNat) bv).Kind) == 2) && ((((((x4.getD ((0:Int).toNat) bv).Part).Tier) == 1) && (((((x4.getD ((0:Int).toNat) bv).Part).Index) == 5) && true)) && ((((x4.getD ((0:Int).toNat) bv).Try) == 0) && ((((x4.getD ((0:Int).toNat) bv).At) == 0) && true)))))) else none) else (some (false))))))
def eP (K:Nat) (l0:List ax) (l1:List Int) (a0_2:Int) (a0_3:Int) (a0_4:Int) (a0_5:Int) (a0_6:Int) (a0_7:Int) (a0_8:Int) (a0_9:Int) (a0_10:Int) (a0_11:Int) (a0_12:Int) (a0_13:Bool):Option (Int × Int × Int × Int × Int × Int × Int × Int × Int × Int × Int × Bool × Int × Int × Int × Int × Int × Int × Int × Int × Int × Int × Int × Bool):=(if 40 < (l0.length:Int) then (some ((0,0,0,0,0,0,0,0,0,0,0,false,0,0,0,0,0,0,0,0,0,0,0,false))) else (if 40 < (l1.length:Int) then (some ((0,0,0,0,0,0,0,0,0,0,0,false,0,0,0,0,0,0,0,0,0,0,0,false))) else (gd (cc a0_2 a0_3 a0_4 a0_5 a0_6 a0_7 a0_8 a0_9 a0_10) fun x37=>(if ¬ (x37 = 0) then (some ((0,0,0,0,0,0,0,0,0,0,0,false,0,0,0,0,0,0,0,0,0,0,0,false))) else (if a0_11 < 0 then (some ((0,0,0,0,0,0,0,0,0,0,0,false,0,0,0,0,0,0,0,0,0,0,0,false))) else (if 1099511627776 < a0_11 then (some ((0,0,0,0,0,0,0,0,0,0,0,false,0,0,0,0,0,0,0,0,0,0,0,false))) else (if a0_12 < 0 then (some ((0,0,0,0,0,0,0,0,0,0,0,false,0,0,0,0,0,0,0,0,0,0,0,false))) else (if 16777217 < a0_12 then (some ((0,0,0,0,0,0,0,0,0,0,0,false,0,0,0,0,0,0,0,0,0,0,0,false))) else none))))))))
def dz (K:Nat) (x327:List dU) (i53:Int) (l34:List ax):Nat → Int → Option (Sum (List ax) (Sum (List ax) (Sum Unit Bool)))
  | 0,_=>none
  | k + 1,i65=>(if i65 < i53 then (if 0 ≤ i65 then (if i65 < (x327.length:Int) then (if ((x327.getD i65.toNat bv).Kind) = 2 then (gd (iy (((x327.getD i53.toNat bv).Part).Tier) (((x327.getD i53.toNat bv).Part).Index) (((x327.getD i65.toNat bv).Part).Tier) (((x327.getD i65.toNat bv).Part).Index)) fun x574=>(if x574 = true then (some (Sum.inr (Sum.inr (Sum.inr (false))))) else (dz K x327 i53 l34 k (aW (i65 + 1))))) else (dz K x327 i53 l34 k (aW (i65 + 1)))) else none) else none) else (some (Sum.inl l34)))
def dv (K:Nat) (x327:List dU) (i53:Int) (v30:List ax):Nat → Int → Option (Sum (List ax) (Sum Unit Bool))
  | 0,_=>none
  | k + 1,i66=>(if i66 < (v30.length:Int) then (if 0 ≤ i66 then (gd (iy (((x327.getD i53.toNat bv).Part).Tier) (((x327.getD i53.toNat bv).Part).Index) (((v30.getD i66.toNat bg).Part).Tier) (((v30.getD i66.toNat bg).Part).Index)) fun x585=>(if x585 = true then (gd (jr (((v30.getD i66.toNat bg).Part).Tier) (((v30.getD i66.toNat bg).Part).Index) (((x327.getD i53.toNat bv).Part).Tier) (((x327.getD i53.toNat bv).Part).Index)) fun x586=>(if (!x586) = true then (some (Sum.inr (Sum.inr (false)))) else (dv K x327 i53 v30 k (aW (i66 + 1))))) else (dv K x327 i53 v30 k (aW (i66 + 1))))) else none) else (some (Sum.inl v30)))
def el (K:Nat) (x327:List dU):Nat → Int → (List ax) → Option (Sum Unit Bool)
  | 0,_,_=>none
  | k + 1,i53,l34=>(if i53 < (x327.length:Int) then (Option.bind (if 0 ≤ i53 then (if ¬ (((x327.getD i53.toNat bv).Kind) = 2) then (some (Sum.inl l34)) else (Option.bind (dz K x327 i53 l34 K 0) fun z=>(pa z (fun v30=>(dv K x327 i53 v30 K 0)) (fun t_=>(some (t_)))))) else none) fun z=>(pa z (fun v29=>(el K x327 k (aW (i53 + 1)) v29)) (fun t_=>(some (t_))))) else (some (Sum.inl ())))
def db (K:Nat) (l0_1:List Int) (x326:((List ag) × Int × Int × Int × Int × Int × Int × Int × Int × Int × Int × Int × Bool × (List ax) × Int × Int × Int × Int × Int × Int × Int × Int × Int × Int × Int × Bool)):Nat → Int → Option Bool
  | 0,_=>none
  | k + 1,i68=>(if i68 < (l0_1.length:Int) then (if 0 ≤ i68 then (if (l0_1.getD i68.toNat 0) < x326.2.2.2.2.2.2.2.2.2.2.2.1 then (db K l0_1 x326 k (aW (i68 + 1))) else ((iM K (l0_1.getD i68.toNat 0) x326.2.1 x326.2.2.1 x326.2.2.2.1 x326.2.2.2.2.1 x326.2.2.2.2.2.1 x326.2.2.2.2.2.2.1 x326.2.2.2.2.2.2.2.1 x326.2.2.2.2.2.2.2.2.1 x326.2.2.2.2.2.2.2.2.2.1 x326.2.2.2.2.2.2.2.2.2.2.1).bind fun x643=>(if x643 = 0 then (db K l0_1 x326 k (aW (i68 + 1))) else ((gp K x326.1 l0_1 x326.2.1 x326.2.2.1 x326.2.2.2.1 x326.2.2.2.2.1 x326.2.2.2.2.2.1 x326.2.2.2.2.2.2.1 x326.2.2.2.2.2.2.2.1 x326.2.2.2.2.2.2.2.2.1 x326.2.2.2.2.2.2.2.2.2.1 x326.2.2.2.2.2.2.2.2.2.2.1 x326.2.2.2.2.2.2.2.2.2.2.2.1 x326.2.2.2.2.2.2.2.2.2.2.2.2.1 (l0_1.getD i68.toNat 0)).bind fun x644=>(if (!x644.2.2) = true then (some (false)) else (gd (gL x644.1 x644.2.1 (l0_1.getD i68.toNat 0)) fun x645=>(if (!x645) = true then (some (false)) else ((ij K x326.1 l0_1 x326.2.1 x326.2.2.1 x326.2.2.2.1 x326.2.2.2.2.1 x326.2.2.2.2.2.1 x326.2.2.2.2.2.2.1 x326.2.2.2.2.2.2.2.1 x326.2.2.2.2.2.2.2.2.1 x326.2.2.2.2.2.2.2.2.2.1 x326.2.2.2.2.2.2.2.2.2.2.1 x326.2.2.2.2.2.2.2.2.2.2.2.1 x326.2.2.2.2.2.2.2.2.2.2.2.2.1 2 x644.1 x644.2.1).bind fun x646=>(if (!x646) = true then (some (false)) else (db K l0_1 x326 k (aW (i68 + 1)))))))))))) else none) else ((dG K).bind fun x647=>(some (x647))))
def eX (K:Nat) (s0_0:Value) (l0_0:List ax) (s0_1:Value) (l0_1:List Int) (a0_2_0:Int) (a0_2_1:Int) (a0_2_2:Int) (a0_2_3:Int) (a0_2_4:Int) (a0_2_5:Int) (a0_2_6:Int) (a0_2_7:Int) (a0_2_8:Int) (a0_3:Int) (a0_4:Int) (a0_5:Bool):Option Bool:=(Ag (dx K l0_0 l0_1 a0_2_0 a0_2_1 a0_2_2 a0_2_3 a0_2_4 a0_2_5 a0_2_6 a0_2_7 a0_2_8 a0_3 a0_4 a0_5) (fun x326=>((iu K x326.1 l0_1 x326.2.1 x326.2.2.1 x326.2.2.2.1 x326.2.2.2.2.1 x326.2.2.2.2.2.1 x326.2.2.2.2.2.2.1 x326.2.2.2.2.2.2.2.1 x326.2.2.2.2.2.2.2.2.1 x326.2.2.2.2.2.2.2.2.2.1 x326.2.2.2.2.2.2.2.2.2.2.1 x326.2.2.2.2.2.2.2.2.2.2.2.1 x326.2.2.2.2.2.2.2.2.2.2.2.2.1).bind fun x327=>(Option.bind (el K x327 K 0 x326.2.2.2.2.2.2.2.2.2.2.2.2.2.1) fun z=>(pa z (fun v23=>(db K l0_1 x326 K 0)) (fun t_=>(some (t_))))))) ((eP K l0_0 l0_1 a0_2_0 a0_2_1 a0_2_2 a0_2_3 a0_2_4 a0_2_5 a0_2_6 a0_2_7 a0_2_8 a0_3 a0_4 a0_5).bind fun x648=>((dG K).bind fun x650=>(some (x650)))))
end Go.Proofs.YtnjfjmbanmaciaaGreat.DueParts
end
section
set_option linter.unusedVariables false
set_option linter.unusedSimpArgs false
namespace Go.Proofs.YtnjfjmbanmaciaaGreat.E
open Go
theorem cJ {α β:Type} (x:α) (f:α → β):gd x f = f x:=rfl
theorem yz (n:Int):aW n = if n % 18446744073709551616 ≥ 9223372036854775808 then n % 18446744073709551616 - 18446744073709551616 else n % 18446744073709551616:=by
  simp [aW,IntKind.wrap,IntKind.signed,IntKind.bits]
theorem bz {n:Int} (h:-9223372036854775808 ≤ n ∧ n ≤ 9223372036854775807):aW n = n:=by
  rw [yz]; split <;> omega
theorem xa (n:Int):pp n = n % 18446744073709551616:=by
  simp [pp,IntKind.wrap,IntKind.signed,IntKind.bits]
theorem yL {n:Int} (h:0 ≤ n ∧ n ≤ 18446744073709551615):pp n = n:=by
  rw [xa]; omega
end Go.Proofs.YtnjfjmbanmaciaaGreat.E
end
section
set_option linter.unusedVariables false
set_option linter.unusedSimpArgs false
namespace Go.Proofs.YtnjfjmbanmaciaaGreat.DueParts
open Go E Go.Sort
instance:Inhabited aI:=⟨bp⟩
def ci (a b:Int):Int:=if a < b then -1 else if b < a then 1 else 0
def zt (a b:Int):Int:=if a = 0 then b else a
theorem zo (a b:Int):gn a b = ci a b:=by
  simp [gn,gx,cJ,ci]
theorem wS (a b:Int):fQ a b = ci a b:=by
  simp [fQ,fU,cJ,ci]
theorem zR {K k:Nat} (hK:K = k + 3) (a b:Int):iv K [a,b] = some (zt a b):=by
  unfold iv
  have e0:cY K [a,b] (k + 3) 0 = if ¬ a = 0 then some a else cY K [a,b] (k + 2) 1:=by
    rw [cY,if_pos (by simp),if_pos (by simp)]; rfl
  have e1:cY K [a,b] (k + 2) 1 = if ¬ b = 0 then some b else cY K [a,b] (k + 1) 2:=by
    rw [cY,if_pos (by simp),if_pos (by simp)]; rfl
  have e2:cY K [a,b] (k + 1) 2 = some 0:=by
    rw [cY,if_neg (by simp)]
  have:cY K [a,b] K 0 = cY K [a,b] (k + 3) 0:=by rw [← hK]
  rw [this,e0,e1,e2]
  unfold zt
  by_cases h1:a = 0 <;> by_cases h2:b = 0 <;> simp [h1,h2]
def jD (m:List (aI × Int)) (j:aI):Int:=(iH m j).getD 0
def cj (m:List (aI × Int)) (x y:aI):Int:=zt (ci x.kind y.kind) (ci (jD m x) (jD m y))
theorem wG {K:Nat} (hK:100 ≤ K) (m:List (aI × Int)) (x y:aI):io K x.kind x.p.Tier x.p.Index y.kind y.p.Tier y.p.Index m = some (cj m x y):=by
  unfold io
  simp only [cJ,zo,wS]
  rw [zR (k:=K - 3) (by omega)]
  rfl
theorem xh {K:Nat} (hK:100 ≤ K) (m:List (aI × Int)):ig K m = cj m:=by
  funext x y
  unfold ig
  rw [wG hK]
  rfl
theorem mG {K:Nat} (hK:100 ≤ K) (m:List (aI × Int)) (x y:aI):io K x.kind x.p.Tier x.p.Index y.kind y.p.Tier y.p.Index m = some (ig K m x y):=by
  rw [xh hK,wG hK]
theorem zc (a b:Int):ci a b < 0 ↔ a < b:=by
  unfold ci
  by_cases h1:a < b <;> by_cases h2:b < a <;> simp [h1,h2]
theorem xg (a b:Int):ci a b = 0 ↔ a = b:=by
  unfold ci
  by_cases h1:a < b <;> by_cases h2:b < a <;> simp [h1,h2] <;> omega
theorem uL (a b:Int):ci b a = - ci a b:=by
  unfold ci
  by_cases h1:a < b <;> by_cases h2:b < a <;> simp [h1,h2] <;> omega
theorem sa (m:List (aI × Int)) (x y:aI):ltOf (cj m) x y = true ↔ x.kind < y.kind ∨ x.kind = y.kind ∧ jD m x < jD m y:=by
  have h1:=zc x.kind y.kind
  have h2:=xg x.kind y.kind
  have h3:=zc (jD m x) (jD m y)
  have h0:ltOf (cj m) x y = true ↔ zt (ci x.kind y.kind) (ci (jD m x) (jD m y)) < 0:=decide_eq_true_iff
  rw [h0]
  unfold zt
  by_cases hk:x.kind = y.kind
  · rw [if_pos (h2.2 hk),h3]
    simp [hk]
  · rw [if_neg fun h=>hk (h2.1 h),h1]
    simp [hk]
theorem xS (m:List (aI × Int)):zu (cj m):=by
  refine ⟨⟨fun x=>?_,fun x y z h1 h2=>?_,fun x y z h1 h2=>?_⟩,fun x y=>?_⟩
  · exact Bool.eq_false_iff.2 fun h=>by rw [sa] at h; omega
  · rw [sa] at h1 h2 ⊢; omega
  · rw [Bool.eq_false_iff,ne_eq,sa] at h1 h2 ⊢; omega
  · simp only [cj,zt]
    rw [uL x.kind y.kind,uL (jD m x) (jD m y)]
    split <;> split <;> omega
theorem kP {K:Nat} (hK:100 ≤ K) (m:List (aI × Int)):zu (ig K m):=by
  rw [xh hK]
  exact xS m
end Go.Proofs.YtnjfjmbanmaciaaGreat.DueParts
end
section
set_option linter.unusedVariables false
namespace Go.Proofs.YtnjfjmbanmaciaaGreat.E
open Go Go.Proofs Go.RowKit Go.Sort
theorem yo {l:List Value} (h:l.all (·.oneCell') = true):∀ v ∈ l,v.oneCell' = true:=fun v hv=>List.all_eq_true.1 h v hv
def wV:Go.Shelf.Ren where
  f:=fun x=>match x with | 6=>66 | 15=>97 | 14=>96 | 28=>121 | 29=>122 | 20=>113 | 21=>114 | 22=>115 | 23=>116 | 24=>117 | 25=>118 | 26=>119 | 27=>120 | 46=>127 | 47=>128 | 48=>129 | 49=>130 | 50=>131 | 57=>133 | n=>n
  t:=fun x=>match x with | 22=>74 | 24=>77 | 25=>84 | 3=>3 | 39=>150 | 0=>0 | 53=>175 | 55=>177 | 4=>4 | 46=>169 | 45=>168 | 50=>131 | 5=>5 | 9=>9 | 66=>180 | 70=>184 | 76=>186 | 77=>187 | n=>n
  g:=fun x=>x
theorem sy:SlLaysF0.n6 Tryz.prog wV :=
  { mixed:=Eq.refl true,
    f6 := ⟨ "slices.SortFunc[[]ossuary/due.job,ossuary/due.job]", of_decide_eq_true (id (Eq.refl true)), Eq.trans Tryz.func66 (congrArg some rfl)⟩,
    f14 := ⟨ "slices.pdqsortCmpFunc[ossuary/due.job]", of_decide_eq_true (id (Eq.refl true)), Eq.trans Tryz.func96 (congrArg some rfl)⟩,
    f15:=Eq.trans Tryz.func97 (congrArg some rfl),
    f20 := ⟨ "slices.insertionSortCmpFunc[ossuary/due.job]", of_decide_eq_true (id (Eq.refl true)), Eq.trans Tryz.func113 (congrArg some rfl)⟩,
    f21 := ⟨ "slices.heapSortCmpFunc[ossuary/due.job]", of_decide_eq_true (id (Eq.refl true)), Eq.trans Tryz.func114 (congrArg some rfl)⟩,
    f22 := ⟨ "slices.breakPatternsCmpFunc[ossuary/due.job]", of_decide_eq_true (id (Eq.refl true)), Eq.trans Tryz.func115 (congrArg some rfl)⟩,
    f23 := ⟨ "slices.choosePivotCmpFunc[ossuary/due.job]", of_decide_eq_true (id (Eq.refl true)), Eq.trans Tryz.func116 (congrArg some rfl)⟩,
    f24 := ⟨ "slices.reverseRangeCmpFunc[ossuary/due.job]", of_decide_eq_true (id (Eq.refl true)), Eq.trans Tryz.func117 (congrArg some rfl)⟩,
    f25 := ⟨ "slices.partialInsertionSortCmpFunc[ossuary/due.job]", of_decide_eq_true (id (Eq.refl true)), Eq.trans Tryz.func118 (congrArg some rfl)⟩,
    f26 := ⟨ "slices.partitionEqualCmpFunc[ossuary/due.job]", of_decide_eq_true (id (Eq.refl true)), Eq.trans Tryz.func119 (congrArg some rfl)⟩,
    f27 := ⟨ "slices.partitionCmpFunc[ossuary/due.job]", of_decide_eq_true (id (Eq.refl true)), Eq.trans Tryz.func120 (congrArg some rfl)⟩,
    f28:=Eq.trans Tryz.func121 (congrArg some rfl),
    f29:=Eq.trans Tryz.func122 (congrArg some rfl),
    f46 := ⟨ "slices.siftDownCmpFunc[ossuary/due.job]", of_decide_eq_true (id (Eq.refl true)), Eq.trans Tryz.func127 (congrArg some rfl)⟩,
    f47:=Eq.trans Tryz.func128 (congrArg some rfl),
    f48:=Eq.trans Tryz.func129 (congrArg some rfl),
    f49 := ⟨ "slices.medianAdjacentCmpFunc[ossuary/due.job]", of_decide_eq_true (id (Eq.refl true)), Eq.trans Tryz.func130 (congrArg some rfl)⟩,
    f50 := ⟨ "slices.medianCmpFunc[ossuary/due.job]", of_decide_eq_true (id (Eq.refl true)), Eq.trans Tryz.func131 (congrArg some rfl)⟩,
    f57 := ⟨ "slices.order2CmpFunc[ossuary/due.job]", of_decide_eq_true (id (Eq.refl true)), Eq.trans Tryz.func133 (congrArg some rfl)⟩,
    t0:=Tryz.underlying0,
    a0:=Tryz.isAgg0,
    z0:=Tryz.sizeOf0,
    v0:=Tryz.zeroValue0,
    t3:=Tryz.underlying3,
    a3:=Tryz.isAgg3,
    z3:=Tryz.sizeOf3,
    v3:=Tryz.zeroValue3,
    t4:=Tryz.underlying4,
    a4:=Tryz.isAgg4,
    z4:=Tryz.sizeOf4,
    v4:=Tryz.zeroValue4,
    t5:=Tryz.underlying5,
    a5:=Tryz.isAgg5,
    z5:=Tryz.sizeOf5,
    v5:=Tryz.zeroValue5,
    t9:=Tryz.underlying9,
    a9:=Tryz.isAgg9,
    z9:=Tryz.sizeOf9,
    v9:=Tryz.zeroValue9,
    t22:=Tryz.underlying74,
    a22:=Tryz.isAgg74,
    z22:=Tryz.sizeOf74,
    v22:=Tryz.zeroValue74,
    t25:=Tryz.underlying84,
    a25:=Tryz.isAgg84,
    z25:=Tryz.sizeOf84,
    v25:=Tryz.zeroValue84,
    t39:=Tryz.underlying150,
    a39:=Tryz.isAgg150,
    z39:=Tryz.sizeOf150,
    v39:=Tryz.zeroValue150,
    t45:=Tryz.underlying168,
    a45:=Tryz.isAgg168,
    z45:=Tryz.sizeOf168,
    v45:=Tryz.zeroValue168,
    t46:=Tryz.underlying169,
    a46:=Tryz.isAgg169,
    z46:=Tryz.sizeOf169,
    v46:=Tryz.zeroValue169,
    t50:=Tryz.underlying131,
    a50:=Tryz.isAgg131,
    z50:=Tryz.sizeOf131,
    v50:=Tryz.zeroValue131,
    t53:=Tryz.underlying175,
    a53:=Tryz.isAgg175,
    z53:=Tryz.sizeOf175,
    v53:=Tryz.zeroValue175,
    t55:=Tryz.underlying177,
    a55:=Tryz.isAgg177,
    z55:=Tryz.sizeOf177,
    v55:=Tryz.zeroValue177,
    t66:=Tryz.underlying180,
    a66:=Tryz.isAgg180,
    z66:=Tryz.sizeOf180,
    v66:=Tryz.zeroValue180,
    t70:=Tryz.underlying184,
    a70:=Tryz.isAgg184,
    z70:=Tryz.sizeOf184,
    v70:=Tryz.zeroValue184,
    t76:=Tryz.underlying186,
    a76:=Tryz.isAgg186,
    z76:=Tryz.sizeOf186,
    v76:=Tryz.zeroValue186,
    t77:=Tryz.underlying187,
    a77:=Tryz.isAgg187,
    z77:=Tryz.sizeOf187,
    v77:=Tryz.zeroValue187 }
theorem vU {α κ ν:Type} [Inhabited α] {enc:α → List Value} {k:Nat} {e:TypeId} (hk:∀ x,(enc x).length = k) (h1:∀ x,∀ v ∈ enc x,v.oneCell' = true) (cf:α → α → Int) (hO:SWO (ltOf cf)) {g:FuncId} (eg:∀ args w,(callFunc g args).run Tryz.prog w = .ok (.enter g args) w) {b1 T:Nat} {cs:List Value} {sv:Value} {ek:κ → Value} {ev:ν → Value} {m:List (κ × ν)} (hsp:∀ x y:α,bn Tryz.prog g [.agg (enc x).toArray,.agg (enc y).toArray,pt b1 0] [box b1 T cs,bE sv ek ev m] (fun v M=>v = .int .i64 (cf x y) ∧ M = [box b1 T cs,bE sv ek ev m])) (svr:Value) (l:List α) (hl:l.length < 4611686018427387904) (hz:dL Tryz.prog 77 = some k:=by kernel_rfl) :
    bn Tryz.prog 66 [svr,.func (.func g) #[] #[pt b1 0]] [own svr e k l.length (fl enc l),box b1 T cs,bE sv ek ev m] (fun v M=>∃ l2:List α,l2.Perm l ∧ l2.Pairwise (fun x y=>ltOf cf y x = false) ∧ v = .tuple #[] ∧ M = [own svr e k l2.length (fl enc l2),box b1 T cs,bE sv ek ev m]) :=
  sZ hk cf hsp (fun tT cap d w hC hH hb hs=>AnyQ.slices_SortFunc sy k Tryz.isAgg77 (fun w=>fV w hz) enc hk h1 cf hO g #[pt b1 0] tT 0 cap d w eg hC hH hb hs) (fun p cap w=>AnyF.slices_SortFunc_none sy p cap _ w) svr l hl
end Go.Proofs.YtnjfjmbanmaciaaGreat.E
end
section
set_option linter.unusedVariables false
set_option linter.unusedSimpArgs false
namespace Go.Proofs.YtnjfjmbanmaciaaGreat.E
open Go Go.RowKit
def aO (b:Nat) (T:TypeId) (cs:List Value):HP:=⟨fun _ s=>s b (.cells cs.toArray T (0,0)),fun h _ hs=>hs _ _ h,[]⟩
def zV (A:HP):Prop:=∀ o s,A.p o s → A.p (fun _ _=>False) s
theorem oe {b T:Nat} {cs:List Value}:zV (aO b T cs):=fun _ _ h=>h
theorem zq {sv:Value} {n sz:Nat} {cs:List Value}:zV (rd sv n sz cs):=fun _ _ h=>h
def zY (A B:HP):Prop:=∀ o s s',(∀ b x,o b x → s' b x) → (∀ b x,s b x → s' b x) → A.p o s → B.p (fun _ _=>False) s'
theorem pA {b T:Nat} {cs:List Value}:zY (box b T cs) (aO b T cs):=fun _ _ _ ho _ h=>ho _ _ h
theorem yA {sv:Value} {e sz n:Nat} {cs:List Value}:zY (own sv e sz n cs) (rd sv n sz cs):=fun o s s' ho hs h=>by
  obtain ⟨h1,h2,A,c,h3,h4,h5⟩:=sH sv e sz n cs o s h
  refine ⟨h1,h2,A,c,h3,h4,fun hp=>?_⟩
  obtain ⟨a,ha,hsp,C,T,fr,hb,hc⟩:=h5 hp
  exact ⟨a,ha,hsp,C,T,fr,Or.inr (hb.elim (ho _ _) (hs _ _)),hc⟩
theorem dw.share {w:World} {L:List HP} (h:dw w L) (i:Nat) {A B:HP} (hi:L[i]? = some A) (hAB:zY A B):dw w (L.set i B):=by
  obtain ⟨own,S,hd,hs,hl,hsl,hat⟩:=h
  have hlen:=(List.getElem?_eq_some_iff.1 hi).1
  refine ⟨fun j b=>j ≠ i ∧ own j b,fun b=>S b ∨ own i b,fun j k b hj hk=>hd j k b hj.2 hk.2,?_,fun j b hj=>hl j b hj.2,?_,?_⟩
  · rintro j b ⟨hji,hj⟩ (hS | hI)
    · exact hs j b hj hS
    · exact hji (hd _ _ b hj hI)
  · rintro b (hS | hI)
    · exact hsl b hS
    · exact hl i b hI
  · intro j C hC
    by_cases h1:j = i
    · subst h1
      rw [List.getElem?_set_self hlen] at hC
      cases hC
      exact B.mono (hAB _ _ (kH w fun b=>S b ∨ own j b) (fun b x hx=>⟨Or.inr hx.1,hx.2⟩) (fun b x hx=>⟨Or.inl hx.1,hx.2⟩) (hat j A hi)) (fun _ _ q=>q.elim) (fun _ _ q=>q)
    · rw [List.getElem?_set_ne (by omega)] at hC
      exact C.mono (hat j C hC) (fun b x hx=>⟨⟨h1,hx.1⟩,hx.2⟩) (fun b x hx=>⟨Or.inl hx.1,hx.2⟩)
theorem dw.dup {w:World} {L:List HP} (h:dw w L) (i:Nat) {A:HP} (hi:L[i]? = some A) (hA:zV A):dw w (A :: L):=by
  obtain ⟨own,S,hd,hs,hl,hsl,hat⟩:=h
  refine ⟨fun j=>match j with | 0=>fun _=>False | j + 1=>own j,S,?_,?_,?_,hsl,?_⟩
  · intro j k b hj hk
    cases j <;> cases k <;> simp only at hj hk
    exact congrArg _ (hd _ _ b hj hk)
  · intro j b hj
    cases j <;> simp only at hj
    exact hs _ b hj
  · intro j b hj
    cases j <;> simp only at hj
    exact hl _ b hj
  · intro j C hC
    cases j with
    | zero =>
      simp at hC; subst hC
      exact A.mono (hA _ _ (hat i A hi)) (fun _ _ q=>q.elim) (fun _ _ q=>q)
    | succ j =>
      simp at hC
      exact hat j C hC
section
variable {n:Nat} {w0:World} {F L L':List HP} {ρ:jc} {X:Act → World → Prop}
theorem lJ (i:Nat) {A B:HP} (hi:L[i]? = some A) (hAB:zY A B) (hL:L.set i B = L') (k:ck (St n w0 F ρ L') X):ck (St n w0 F ρ L) X:=by
  intro a w h
  have hlt:=(List.getElem?_eq_some_iff.1 hi).1
  have:=dw.share h.sat i (by rw [List.getElem?_append_left hlt]; exact hi) hAB
  rw [List.set_append_left _ _ hlt,hL] at this
  exact k a w ⟨h.defers,h.size,h.has,this,h.keeps⟩
theorem nT (i:Nat) {A:HP} (hi:L[i]? = some A) (hA:zV A) (k:ck (St n w0 F ρ (A :: L)) X):ck (St n w0 F ρ L) X:=by
  intro a w h
  have hlt:=(List.getElem?_eq_some_iff.1 hi).1
  have:=dw.dup h.sat i (by rw [List.getElem?_append_left hlt]; exact hi) hA
  exact k a w ⟨h.defers,h.size,h.has,this,h.keeps⟩
end
theorem tF {L:List HP} {i b T o:Nat} {cs vs:List Value} (hi:L[i]? = some (aO b T cs)) (hv:∀ j v,vs[j]? = some v → cs[o + j]? = some v):mg L (pt b o) vs:=by
  intro F w h
  have hlt:=(List.getElem?_eq_some_iff.1 hi).1
  refine ⟨_,rfl,fun j v hj=>?_⟩
  have hh:w.heap[b]? = some (.cells cs.toArray T (0,0)):=h.says (φ:=w.heap[b]? = some (.cells cs.toArray T (0,0))) i (aO b T cs) (by rw [List.getElem?_append_left hlt]; exact hi) fun _ _ hA=>hA.2
  rw [Addr.add_lit]
  simp [World.cell?,hh,hv j v hj]
theorem fg {L:List HP} {i b T o:Nat} {cs:List Value} {v:Value} (hi:L[i]? = some (aO b T cs)) (hv:cs[o]? = some v):mg L (pt b o) [v] :=
  tF hi fun j u hj=>by
    match j,hj with
    | 0,hj=>simp at hj; subst hj; simpa using hv
end Go.Proofs.YtnjfjmbanmaciaaGreat.E
end
section
set_option linter.unusedVariables false
set_option linter.unusedSimpArgs false
namespace Go.Proofs.YtnjfjmbanmaciaaGreat.E
open Go Go.RowKit
theorem vw (z:Array Value) (k:Nat) (hz:z.size = k) (hk:0 < k) (c:Nat):∀ (l:Nat),l ≤ c → ((madeCells z (c * k)).toList.take (l * k)) = (List.replicate l z.toList).flatten:=by
  intro l hlc
  apply List.ext_getElem?
  intro i
  rw [List.getElem?_take]
  have e2:(List.replicate l z.toList).flatten = (List.range (l * k)).map (fun i=>z[i % z.size]!):=by
    clear hlc
    induction l with
    | zero=>simp
    | succ l ih =>
      rw [List.replicate_succ',List.flatten_append,ih,Nat.succ_mul,List.range_add,List.map_append]
      congr 1
      simp only [List.flatten_cons,List.flatten_nil,List.append_nil]
      apply List.ext_getElem
      · simp [hz]
      · intro j h1 h2
        simp only [List.getElem_map,List.getElem_range]
        have hj:j < k:=by simpa [hz] using h1
        have e3:(l * k + j) % z.size = j:=by rw [hz,Nat.add_comm,Nat.add_mul_mod_self_right,Nat.mod_eq_of_lt hj]
        rw [e3,getElem!_pos z j (by omega)]
        simp
  rw [e2]
  have hle:l * k ≤ c * k:=Nat.mul_le_mul_right k hlc
  by_cases h:i < l * k
  · rw [if_pos h]
    simp [madeCells,h,show i < c * k by omega]
  · rw [if_neg h,List.getElem?_eq_none (by simp; omega)]
end Go.Proofs.YtnjfjmbanmaciaaGreat.E
end
section
set_option linter.unusedVariables false
set_option linter.unusedSimpArgs false
namespace Go.Proofs.YtnjfjmbanmaciaaGreat.E
open Go Go.RowKit
theorem wD {α:Type} {L:List α} {i:Nat} {A:α} (h:L[i]? = some A):L.set i A = L:=by
  apply List.ext_getElem?
  intro j
  rw [List.getElem?_set]
  by_cases q:i = j
  · subst q
    have hlt:=(List.getElem?_eq_some_iff.1 h).1
    rw [if_pos rfl,if_pos hlt,h]
  · rw [if_neg q]
theorem wO {α:Type} (enc:α → List Value) (k:Nat) (z:α):fl enc (List.replicate k z) = (List.replicate k (enc z)).flatten:=by
  induction k with
  | zero=>rfl
  | succ k ih =>
    rw [List.replicate_succ,List.replicate_succ,List.flatten_cons,← ih]
    unfold fl
    rw [List.flatMap_cons]
theorem vO {α:Type} (enc:α → List Value) (a b:List α):fl enc (a ++ b) = fl enc a ++ fl enc b:=by unfold fl; rw [List.flatMap_append]
section
variable {P:Program} {ρ:jc} {L:List HP} {dd:Option Tmp} {ty:TypeId} {pos:String} {after:Array Edge} {gg:Option (Nat × Bool)}
theorem rj {α:Type} {t e sz lo n:Nat} {x:Operand} {sv:Value} {l:List α} {enc:α → List Value} {z:α} {zz:List Value} (i:Nat) (hx:ev ρ x = some (jn sv lo n (sz + 1))) (ht:gh P t = some e) (hz:go P e = some zz) (hez:enc z = zz)
    (he:∀ x,(enc x).length = sz + 1) (hz1:zz.all (·.oneCell') = true) (hi:L[i]? = some (own sv e (sz + 1) l.length (fl enc l))) (hn:n = l.length) (hlo:lo ≤ l.length) :
    OT P ⟨dd,.call { callee:=.builtin .clear,args:=#[x],argTypes:=#[t] },ty,pos,after,gg⟩ ρ L (fun _ M=>M = L.set i (own sv e (sz + 1) (l.take lo ++ List.replicate (l.length - lo) z).length (fl enc (l.take lo ++ List.replicate (l.length - lo) z)))):=by
  intro F a w K Q ha hs hk
  subst hn
  have hlt:=(List.getElem?_eq_some_iff.1 hi).1
  have hi':(L ++ F)[i]? = some (own sv e (sz + 1) l.length (fl enc l)):=by rw [List.getElem?_append_left hlt]; exact hi
  have hl':(l.take lo ++ List.replicate (l.length - lo) z).length = l.length:=by simp; omega
  have form:(sv = .slice none 0 0 ∧ l.length = 0) ∨ ∃ g cap cur,sv = .slice (some ⟨g,0,none⟩) l.length cap ∧ w.heap[g]? = some (.cells cur e (0,0)) ∧ l.length ≤ cap ∧ cap ≤ maxLen ∧ cur.size = cap * (sz + 1) ∧ cur.toList.take (l.length * (sz + 1)) = fl enc l :=
    hs.says (φ:=(sv = .slice none 0 0 ∧ l.length = 0) ∨ ∃ g cap cur,sv = .slice (some ⟨g,0,none⟩) l.length cap ∧ w.heap[g]? = some (.cells cur e (0,0)) ∧ l.length ≤ cap ∧ cap ≤ maxLen ∧ cur.size = cap * (sz + 1) ∧ cur.toList.take (l.length * (sz + 1)) = fl enc l) i _ hi' fun U S hp =>
      hp.2.imp id fun ⟨g,cap,cur,q1,q2,q3,q4,q5,q6⟩=>⟨g,cap,cur,q1,q2.2,q3,q4,q5,q6⟩
  by_cases hk0:l.length - lo = 0
  · have hll:l.take lo ++ List.replicate (l.length - lo) z = l:=by rw [hk0,List.take_of_length_le (by omega)]; simp
    have hsub:∃ A c,jn sv lo l.length (sz + 1) = .slice A 0 c:=by
      rcases form with ⟨rfl,h0⟩ | ⟨g,cap,cur,rfl,_⟩
      · exact ⟨_,_,by simp only [jn]; rw [hk0]⟩
      · exact ⟨_,_,by simp only [jn]; rw [hk0]⟩
    obtain ⟨A,c,hsub⟩:=hsub
    rw [hsub] at hx
    have hrun:(Builtin.clear_ #[t] ty #[.slice A 0 c]).run P w = .ok (.tuple #[]) w:=by
      cases A <;> simp [Builtin.clear_,run_underlying (cC ht)]
    unfold Oper.wp
    simp only [execOp,resolve,invoke,builtin,List.map_toArray,List.map_cons,List.map_nil,bM ha hx,Sem.run_bind,Sem.run_pure,Result.andThen_ok,hrun,Oper.upon]
    exact hk _ _ _ rfl (by rw [hll,wD hi]; exact hs) (ef.refl _)
  · rcases form with ⟨_,h0⟩ | ⟨g,cap,cur,rfl,hg,hmc,hcm,hcs2,htk⟩
    · omega
    have hsub:jn (.slice (some ⟨g,0,none⟩) l.length cap) lo l.length (sz + 1) = .slice (some ⟨g,lo * (sz + 1),none⟩) (l.length - lo) (cap - lo):=by
      simp only [jn]
      rw [if_neg (by omega)]
      simp only [Option.map_some]
      have hadd:(⟨g,0,none⟩:Addr).add (lo * (sz + 1)) = ⟨g,lo * (sz + 1),none⟩:=by unfold Addr.add; split <;> simp_all
      rw [hadd]
    rw [hsub] at hx
    obtain ⟨zv,hzv,hzz⟩:=lI w hz
    have hzs:zv.cells.size = sz + 1:=by rw [← Array.length_toList,hzz,← hez,he]
    obtain ⟨us,hus⟩:∃ us,us = (Builtin.zeroCells zv.cells (l.length - lo)).toList:=⟨_,rfl⟩
    have husl:us.length = (l.length - lo) * (sz + 1):=by rw [hus]; simp [Builtin.zeroCells,hzs]
    have husf:us = fl enc (List.replicate (l.length - lo) z):=by
      have hm:=vw zv.cells (sz + 1) hzs (by omega) (l.length - lo) (l.length - lo) (Nat.le_refl _)
      rw [wO,hez,← hzz,← hm,hus,List.take_of_length_le (by simp [size_madeCells])]
      unfold Builtin.zeroCells madeCells
      rw [hzs]
    have hone:∀ v ∈ us,v.oneCell' = true:=by
      intro v hv
      rw [husf,wO] at hv
      simp only [List.mem_flatten,List.mem_replicate] at hv
      obtain ⟨q,⟨_,hq⟩,hv⟩:=hv
      rw [hq,hez] at hv
      exact (List.all_eq_true.1 hz1) v hv
    have hmz:=Nat.mul_le_mul_right (sz + 1) hmc
    have hfit:lo * (sz + 1) + us.length = l.length * (sz + 1):=by
      rw [husl,← Nat.add_mul]
      congr 1
      omega
    have hst:=run_storeCells_at P g (lo * (sz + 1)) e us 0 cur w hg (by rw [hcs2]; omega) hone
    simp only [Nat.add_zero] at hst
    obtain ⟨k',hk'⟩:∃ k',l.length - lo = k' + 1:=⟨l.length - lo - 1,by omega⟩
    rw [hk'] at hx
    have hrun:(Builtin.clear_ #[t] ty #[.slice (some ⟨g,lo * (sz + 1),none⟩) (k' + 1) (cap - lo)]).run P w = .ok (.tuple #[]) (w.setRow g (cur.toList.take (lo * (sz + 1)) ++ us ++ cur.toList.drop (lo * (sz + 1) + us.length)).toArray):=by
      have hus2:(Builtin.zeroCells zv.cells (k' + 1)).toList = us:=by rw [hus,hk']
      simp [Builtin.clear_,run_underlying (cC ht),hzv,hus2,hst]
    unfold Oper.wp
    simp only [execOp,resolve,invoke,builtin,List.map_toArray,List.map_cons,List.map_nil,bM ha hx,Sem.run_bind,Sem.run_pure,Result.andThen_ok,hrun,Oper.upon]
    refine hk _ _ _ rfl ?_ ⟨rfl,rfl,rfl,by simp [World.setRow],Nat.le_refl _⟩
    rw [hl']
    have hcl:(fl enc l).length = l.length * (sz + 1):=gb he l
    have hle:lo * (sz + 1) ≤ cur.toList.length:=by rw [Array.length_toList,hcs2]; omega
    have key:(cur.toList.take (lo * (sz + 1)) ++ us ++ cur.toList.drop (lo * (sz + 1) + us.length)).take (l.length * (sz + 1)) = fl enc (l.take lo ++ List.replicate (l.length - lo) z):=by
      have hX:(cur.toList.take (lo * (sz + 1)) ++ us).length = l.length * (sz + 1):=by
        rw [List.length_append,List.length_take,Nat.min_eq_left hle,hfit]
      rw [List.take_append,List.take_of_length_le (by rw [hX]; exact Nat.le_refl _),hX,Nat.sub_self,List.take_zero,List.append_nil,vO,← husf]
      congr 1
      have hlm:lo * (sz + 1) ≤ l.length * (sz + 1):=Nat.mul_le_mul_right _ hlo
      have e1:cur.toList.take (lo * (sz + 1)) = (fl enc l).take (lo * (sz + 1)):=by rw [← htk,List.take_take,Nat.min_eq_left hlm]
      rw [e1]
      exact pB he lo l
    have:=hs.upd (w':=w.setRow g (cur.toList.take (lo * (sz + 1)) ++ us ++ cur.toList.drop (lo * (sz + 1) + us.length)).toArray) i _ (own (.slice (some ⟨g,0,none⟩) l.length cap) e (sz + 1) l.length (fl enc (l.take lo ++ List.replicate (l.length - lo) z))) hi' (by simp [World.setRow]) fun U S hA hU hS hUS=>by
      have hUg:U g:=by
        rcases hA.2 with ⟨q1,_⟩ | ⟨g',cap',cur',q1,q2,_⟩
        · cases q1
        · cases q1; exact q2.1
      refine ⟨U,fun _ hb=>.inl hb,fun c _ hc=>setRow_other w g c _ (fun e=>hc (e ▸ hUg)),?_,.inr ⟨g,cap,_,rfl,⟨hUg,setRow_heap w g cur _ e _ hg⟩,hmc,hcm,?_,key⟩⟩
      · rw [gb he,hl']
      · have hcz:cur.toList.length = cap * (sz + 1):=by rw [Array.length_toList,hcs2]
        simp only [List.size_toArray,List.length_append,List.length_take,List.length_drop]
        omega
    rw [List.set_append_left _ _ hlt] at this
    exact this
end
end Go.Proofs.YtnjfjmbanmaciaaGreat.E
end
section
set_option linter.unusedVariables false
set_option linter.unusedSimpArgs false
set_option maxHeartbeats 8000000
set_option maxRecDepth 100000
namespace Go.Proofs.YtnjfjmbanmaciaaGreat.DueParts
open Go Go.RowKit E
open Go.Value (int bool slice agg)
def aV (x:ax):List Value:=[(Value.int .i64 x.Part.Tier),(Value.int .i64 x.Part.Index),(Value.int .i64 x.Seg),(Value.int .i64 x.Mark),(Value.int .i64 x.Rows),(Value.bool x.Cold)]
theorem iq (x:ax):(aV x).all (·.oneCell') = true:=rfl
theorem cp (x:ax):(aV x).length = 6:=rfl
def ac (x:ag):List Value:=[(Value.int .i64 x.k),(Value.int .i64 x.v.Part.Tier),(Value.int .i64 x.v.Part.Index),(Value.int .i64 x.v.Seg),(Value.int .i64 x.v.Mark),(Value.int .i64 x.v.Rows),(Value.bool x.v.Cold)]
theorem cT (x:ag):(ac x).all (·.oneCell') = true:=rfl
theorem aM (x:ag):(ac x).length = 7:=rfl
def aC (x:aI):List Value:=[(Value.int .i64 x.kind),(Value.int .i64 x.p.Tier),(Value.int .i64 x.p.Index)]
theorem pq (x:aI):(aC x).all (·.oneCell') = true:=rfl
theorem md (x:aI):(aC x).length = 3:=rfl
def cz (x:dU):List Value:=[(Value.int .i64 x.Kind),(Value.int .i64 x.Part.Tier),(Value.int .i64 x.Part.Index),(Value.int .i64 x.Try),(Value.int .i64 x.At)]
theorem mc (x:dU):(cz x).all (·.oneCell') = true:=rfl
theorem cP (x:dU):(cz x).length = 5:=rfl
theorem xO:jl Tryz.prog 27 = some true:=by kernel_rfl
theorem vn:dL Tryz.prog 27 = some 14:=by kernel_rfl
theorem gD:go Tryz.prog 30 = some [(Value.pointer none),(Value.slice none 0 0),(Value.int .i64 0),(Value.int .i64 0),(Value.int .i64 0),(Value.int .i64 0),(Value.int .i64 0),(Value.int .i64 0),(Value.int .i64 0),(Value.int .i64 0),(Value.int .i64 0),(Value.int .i64 0),(Value.int .i64 0),(Value.bool false)]:=by kernel_rfl
theorem ib:go Tryz.prog 31 = some [(Value.slice none 0 0),(Value.slice none 0 0),(Value.int .i64 0),(Value.int .i64 0),(Value.int .i64 0),(Value.int .i64 0),(Value.int .i64 0),(Value.int .i64 0),(Value.int .i64 0),(Value.int .i64 0),(Value.int .i64 0),(Value.int .i64 0),(Value.int .i64 0),(Value.bool false)]:=by kernel_rfl
theorem kh:dC Tryz.prog 27 0 = some (0,22):=by kernel_rfl
theorem gG:dL Tryz.prog 22 = some 1:=by kernel_rfl
theorem gU:jl Tryz.prog 22 = some false:=by kernel_rfl
theorem cQ:gh Tryz.prog 22 = some 54:=by kernel_rfl
theorem ii:iU Tryz.prog 30 = some [(0,1),(1,1),(2,9),(11,1),(12,1),(13,1)]:=by kernel_rfl
theorem iO:iU Tryz.prog 31 = some [(0,1),(1,1),(2,9),(11,1),(12,1),(13,1)]:=by kernel_rfl
theorem bO:dL Tryz.prog 30 = some 14:=by kernel_rfl
theorem fC:dL Tryz.prog 31 = some 14:=by kernel_rfl
theorem lb:dC Tryz.prog 27 1 = some (1,23):=by kernel_rfl
theorem jh:dL Tryz.prog 23 = some 1:=by kernel_rfl
theorem jb:jl Tryz.prog 23 = some false:=by kernel_rfl
theorem cw:gh Tryz.prog 23 = some 2:=by kernel_rfl
theorem kU:dC Tryz.prog 27 2 = some (2,25):=by kernel_rfl
theorem dM:dL Tryz.prog 25 = some 9:=by kernel_rfl
theorem im:jl Tryz.prog 25 = some true:=by kernel_rfl
theorem nR:dC Tryz.prog 25 0 = some (0,2):=by kernel_rfl
theorem aY:dL Tryz.prog 2 = some 1:=by kernel_rfl
theorem ba:jl Tryz.prog 2 = some false:=by kernel_rfl
theorem jw:cg Tryz.prog 45 = true:=by kernel_rfl
theorem lW:dC Tryz.prog 25 1 = some (1,2):=by kernel_rfl
theorem lZ:dC Tryz.prog 25 2 = some (2,2):=by kernel_rfl
theorem ma:dC Tryz.prog 25 3 = some (3,2):=by kernel_rfl
theorem jz:dC Tryz.prog 25 4 = some (4,2):=by kernel_rfl
theorem nM:dC Tryz.prog 25 5 = some (5,2):=by kernel_rfl
theorem nV:dC Tryz.prog 25 6 = some (6,2):=by kernel_rfl
theorem nO:dC Tryz.prog 25 7 = some (7,3):=by kernel_rfl
theorem cL:dL Tryz.prog 3 = some 1:=by kernel_rfl
theorem cE:jl Tryz.prog 3 = some false:=by kernel_rfl
theorem od:dC Tryz.prog 25 8 = some (8,2):=by kernel_rfl
theorem ry:cg Tryz.prog 21 = true:=by kernel_rfl
theorem ju:dC Tryz.prog 27 3 = some (11,2):=by kernel_rfl
theorem jA:dC Tryz.prog 27 4 = some (12,2):=by kernel_rfl
theorem un:go Tryz.prog 130 = some [(Value.slice none 0 0)]:=by kernel_rfl
theorem sp:iU Tryz.prog 130 = some [(0,1)]:=by kernel_rfl
theorem rI:cg Tryz.prog 46 = true:=by kernel_rfl
theorem rB:go Tryz.prog 99 = some [(Value.pointer none)]:=by kernel_rfl
theorem ph:iU Tryz.prog 99 = some [(0,1)]:=by kernel_rfl
theorem rN:cg Tryz.prog 22 = true:=by kernel_rfl
theorem be:dL Tryz.prog 54 = some 6:=by kernel_rfl
theorem wt:go Tryz.prog 64 = some [(Value.slice none 0 0),(Value.slice none 0 0)]:=by kernel_rfl
theorem sA:iU Tryz.prog 64 = some [(0,1),(1,1)]:=by kernel_rfl
theorem gr:dC Tryz.prog 99 0 = some (0,96):=by kernel_rfl
theorem ie:dL Tryz.prog 96 = some 1:=by kernel_rfl
theorem eC:jl Tryz.prog 96 = some false:=by kernel_rfl
theorem wA:go Tryz.prog 96 = some [(Value.pointer none)]:=by kernel_rfl
theorem ce:dC Tryz.prog 130 0 = some (0,128):=by kernel_rfl
theorem cX:dL Tryz.prog 128 = some 1:=by kernel_rfl
theorem dK:jl Tryz.prog 128 = some false:=by kernel_rfl
theorem lk:cg Tryz.prog 112 = true:=by kernel_rfl
theorem ov:cg Tryz.prog 92 = true:=by kernel_rfl
theorem cZ:go Tryz.prog 54 = some [(Value.int .i64 0),(Value.int .i64 0),(Value.int .i64 0),(Value.int .i64 0),(Value.int .i64 0),(Value.bool false)]:=by kernel_rfl
theorem cH:jl Tryz.prog 54 = some true:=by kernel_rfl
theorem iX:go Tryz.prog 135 = some [(Value.int .i64 0),(Value.int .i64 0),(Value.int .i64 0),(Value.int .i64 0),(Value.int .i64 0),(Value.int .i64 0),(Value.bool false)]:=by kernel_rfl
theorem nN:iU Tryz.prog 135 = some [(0,1),(1,6)]:=by kernel_rfl
theorem bu:gh Tryz.prog 128 = some 135:=by kernel_rfl
theorem bY:dL Tryz.prog 135 = some 7:=by kernel_rfl
theorem mu:kN Tryz.prog 135 = some 56:=by kernel_rfl
theorem vo:cg Tryz.prog 76 = true:=by kernel_rfl
theorem vr:cg Tryz.prog 47 = true:=by kernel_rfl
theorem rZ:dC Tryz.prog 64 0 = some (0,62):=by kernel_rfl
theorem wq:dL Tryz.prog 62 = some 1:=by kernel_rfl
theorem xV:jl Tryz.prog 62 = some false:=by kernel_rfl
theorem pJ:gh Tryz.prog 62 = some 36:=by kernel_rfl
theorem rU:dC Tryz.prog 64 1 = some (1,22):=by kernel_rfl
theorem bQ:dC Tryz.prog 54 0 = some (0,36):=by kernel_rfl
theorem aQ:dL Tryz.prog 36 = some 2:=by kernel_rfl
theorem br:jl Tryz.prog 36 = some true:=by kernel_rfl
theorem cF:dC Tryz.prog 36 0 = some (0,3):=by kernel_rfl
theorem fq:go Tryz.prog 36 = some [(Value.int .i64 0),(Value.int .i64 0)]:=by kernel_rfl
theorem iN:iU Tryz.prog 36 = some [(0,1),(1,1)]:=by kernel_rfl
theorem ri:cg Tryz.prog 53 = true:=by kernel_rfl
theorem vp:cg Tryz.prog 85 = true:=by kernel_rfl
theorem vz:cg Tryz.prog 54 = true:=by kernel_rfl
theorem ko:cg Tryz.prog 26 = true:=by kernel_rfl
theorem eZ:dC Tryz.prog 36 1 = some (1,2):=by kernel_rfl
theorem oy:cg Tryz.prog 72 = true:=by kernel_rfl
theorem og:dC Tryz.prog 54 1 = some (2,2):=by kernel_rfl
theorem nr:cg Tryz.prog 106 = true:=by kernel_rfl
theorem nL:dC Tryz.prog 54 3 = some (4,2):=by kernel_rfl
theorem nQ:dC Tryz.prog 54 2 = some (3,2):=by kernel_rfl
theorem ik:dC Tryz.prog 54 4 = some (5,4):=by kernel_rfl
theorem iZ:dL Tryz.prog 4 = some 1:=by kernel_rfl
theorem jN:jl Tryz.prog 4 = some false:=by kernel_rfl
theorem vR:cg Tryz.prog 79 = true:=by kernel_rfl
theorem tX:cg Tryz.prog 103 = true:=by kernel_rfl
theorem qa:cg Tryz.prog 102 = true:=by kernel_rfl
theorem uT:cg Tryz.prog 75 = true:=by kernel_rfl
theorem jy:cg Tryz.prog 44 = true:=by kernel_rfl
theorem vT:go Tryz.prog 22 = some [(Value.slice none 0 0)]:=by kernel_rfl
theorem gR:dC Tryz.prog 135 0 = some (0,2):=by kernel_rfl
theorem qc:cg Tryz.prog 105 = true:=by kernel_rfl
theorem nw:cg Tryz.prog 104 = true:=by kernel_rfl
theorem lc:cg Tryz.prog 77 = true:=by kernel_rfl
theorem jJ:dC Tryz.prog 135 1 = some (1,54):=by kernel_rfl
theorem ox:cg Tryz.prog 58 = true:=by kernel_rfl
theorem jY:iU Tryz.prog 54 = some [(0,2),(2,1),(3,1),(4,1),(5,1)]:=by kernel_rfl
theorem ue:Tryz.prog.eqGuardType Tryz.prog.depth 36 = false:=by kernel_rfl
theorem yP {x y:Operand} (x0:Int) (x1:Int) (y0:Int) (y1:Int) (w:World):(do eqGuard .eql 36 x y (.agg #[(Value.int .i64 x0),(Value.int .i64 x1)]) (.agg #[(Value.int .i64 y0),(Value.int .i64 y1)]); binOp .eql 36 (.agg #[(Value.int .i64 x0),(Value.int .i64 x1)]) (.agg #[(Value.int .i64 y0),(Value.int .i64 y1)])).run Tryz.prog w = .ok (.bool ((x0 == y0) && ((x1 == y1) && true))) w :=
  qU ue (lL Tryz.underlying36 (by kernel_rfl) (ja rfl (eW cE rfl) (eW cE rfl) (ly Tryz.underlying3 _ _) (ja rfl (eW ba rfl) (eW ba rfl) (ly Tryz.underlying2 _ _) nW))) w
theorem mV:cg Tryz.prog 20 = true:=by kernel_rfl
theorem oF:cg Tryz.prog 29 = true:=by kernel_rfl
theorem ll:kN Tryz.prog 54 = some 48:=by kernel_rfl
theorem uh:cg Tryz.prog 107 = true:=by kernel_rfl
theorem rp:jl Tryz.prog 135 = some true:=by kernel_rfl
theorem wh:cg Tryz.prog 80 = true:=by kernel_rfl
theorem uk:cg Tryz.prog 108 = true:=by kernel_rfl
theorem vP:cg Tryz.prog 81 = true:=by kernel_rfl
theorem vK:cg Tryz.prog 50 = true:=by kernel_rfl
theorem vu:cg Tryz.prog 23 = true:=by kernel_rfl
theorem pX:cg Tryz.prog 123 = true:=by kernel_rfl
theorem nq:cg Tryz.prog 110 = true:=by kernel_rfl
theorem lC:cg Tryz.prog 99 = true:=by kernel_rfl
theorem wb:cg Tryz.prog 87 = true:=by kernel_rfl
theorem wm:cg Tryz.prog 57 = true:=by kernel_rfl
theorem vg:cg Tryz.prog 56 = true:=by kernel_rfl
theorem ld:cg Tryz.prog 70 = true:=by kernel_rfl
theorem nf:cg Tryz.prog 109 = true:=by kernel_rfl
theorem vW:cg Tryz.prog 82 = true:=by kernel_rfl
theorem wa:cg Tryz.prog 52 = true:=by kernel_rfl
theorem vj:cg Tryz.prog 98 = true:=by kernel_rfl
theorem wl:cg Tryz.prog 71 = true:=by kernel_rfl
theorem mL:cg Tryz.prog 38 = true:=by kernel_rfl
theorem wj:cg Tryz.prog 83 = true:=by kernel_rfl
theorem wg:cg Tryz.prog 84 = true:=by kernel_rfl
theorem vL:cg Tryz.prog 24 = true:=by kernel_rfl
theorem nU:dC Tryz.prog 27 5 = some (13,4):=by kernel_rfl
theorem fG:jl Tryz.prog 30 = some true:=by kernel_rfl
theorem kI:jl Tryz.prog 31 = some true:=by kernel_rfl
theorem sx:cg Tryz.prog 6 = true:=by kernel_rfl
theorem pH:go Tryz.prog 112 = some [(Value.pointer none),(Value.slice none 0 0),(Value.int .i64 0),(Value.int .i64 0),(Value.int .i64 0),(Value.int .i64 0),(Value.int .i64 0),(Value.int .i64 0),(Value.int .i64 0),(Value.int .i64 0),(Value.int .i64 0),(Value.int .i64 0),(Value.int .i64 0),(Value.bool false),(Value.map none)]:=by kernel_rfl
theorem oh:iU Tryz.prog 112 = some [(0,14),(14,1)]:=by kernel_rfl
theorem pR:go Tryz.prog 110 = some [(Value.pointer none)]:=by kernel_rfl
theorem qo:dL Tryz.prog 110 = some 1:=by kernel_rfl
theorem gC:jl Tryz.prog 110 = some false:=by kernel_rfl
theorem dN:dC Tryz.prog 112 0 = some (0,30):=by kernel_rfl
theorem kZ:dC Tryz.prog 30 1 = some (1,23):=by kernel_rfl
theorem jp:go Tryz.prog 2 = some [(Value.int .i64 0)]:=by kernel_rfl
theorem rq:kN Tryz.prog 2 = some 8:=by kernel_rfl
theorem qS:cg Tryz.prog 89 = true:=by kernel_rfl
theorem kf:dC Tryz.prog 30 4 = some (12,2):=by kernel_rfl
theorem mP:cg Tryz.prog 90 = true:=by kernel_rfl
theorem nk:cg Tryz.prog 111 = true:=by kernel_rfl
theorem qV:cg Tryz.prog 88 = true:=by kernel_rfl
theorem qZ:cg Tryz.prog 60 = true:=by kernel_rfl
theorem qT:go Tryz.prog 23 = some [(Value.slice none 0 0)]:=by kernel_rfl
theorem kW:dC Tryz.prog 30 0 = some (0,28):=by kernel_rfl
theorem mT:dL Tryz.prog 28 = some 1:=by kernel_rfl
theorem kD:jl Tryz.prog 28 = some false:=by kernel_rfl
theorem rh:cg Tryz.prog 61 = true:=by kernel_rfl
theorem kB:dC Tryz.prog 112 1 = some (14,72):=by kernel_rfl
theorem lj:dL Tryz.prog 72 = some 1:=by kernel_rfl
theorem kc:jl Tryz.prog 72 = some false:=by kernel_rfl
theorem jv:go Tryz.prog 77 = some [(Value.int .i64 0),(Value.int .i64 0),(Value.int .i64 0)]:=by kernel_rfl
theorem mJ:iU Tryz.prog 77 = some [(0,1),(1,2)]:=by kernel_rfl
theorem lE:vq Tryz.prog 72 = some (77,2):=by kernel_rfl
theorem nI:xl Tryz.prog 77 (vA aC):=⟨fun x y=>by
    have h:wC Tryz.prog (9999 + 1) 77 (vA aC x) (vA aC y) _:=(lL Tryz.underlying77 (by kernel_rfl) (ja rfl (eW cE rfl) (eW cE rfl) (ly Tryz.underlying3 _ _) (ja rfl (nD br aQ) (nD br aQ) (lL Tryz.underlying36 (by kernel_rfl) (ja rfl (eW cE rfl) (eW cE rfl) (ly Tryz.underlying3 _ _) (ja rfl (eW ba rfl) (eW ba rfl) (ly Tryz.underlying2 _ _) nW))) nW)))
    refine zB h ?_
    obtain ⟨_,⟨_,_⟩⟩:=x
    obtain ⟨_,⟨_,_⟩⟩:=y
    rw [Bool.eq_iff_iff]
    simp [and_assoc],fun b x w=>by kernel_rfl,by kernel_rfl,fun x=>by
    show Instr.sameBits (9999 + 1) _ _ = true
    simp [vA,aC,Instr.sameBits,zW]⟩
theorem jW:cg Tryz.prog 64 = true:=by kernel_rfl
theorem iY:dC Tryz.prog 30 2 = some (2,25):=by kernel_rfl
theorem iT:dC Tryz.prog 30 3 = some (11,2):=by kernel_rfl
theorem ve:go Tryz.prog 93 = some [(Value.int .i64 0),(Value.int .i64 0),(Value.int .i64 0)]:=by kernel_rfl
theorem lQ:lO Tryz.prog 93 = some (3,3):=by kernel_rfl
theorem nj:go Tryz.prog 155 = some [(Value.int .i64 0),(Value.int .i64 0),(Value.int .i64 0),(Value.int .i64 0),(Value.int .i64 0),(Value.int .i64 0),(Value.int .i64 0),(Value.int .i64 0),(Value.int .i64 0),(Value.int .i64 0),(Value.int .i64 0),(Value.int .i64 0),(Value.int .i64 0),(Value.int .i64 0),(Value.int .i64 0),(Value.int .i64 0),(Value.int .i64 0),(Value.int .i64 0)]:=by kernel_rfl
theorem iR:go Tryz.prog 154 = some [(Value.int .i64 0),(Value.int .i64 0)]:=by kernel_rfl
theorem gO:iU Tryz.prog 154 = some [(0,1),(1,1)]:=by kernel_rfl
theorem dY:lO Tryz.prog 155 = some (9,154):=by kernel_rfl
theorem eL:dL Tryz.prog 154 = some 2:=by kernel_rfl
theorem ng:dL Tryz.prog 155 = some 18:=by kernel_rfl
theorem vi:jl Tryz.prog 155 = some true:=by kernel_rfl
theorem tQ:cg Tryz.prog 100 = true:=by kernel_rfl
theorem qe:go Tryz.prog 157 = some [(Value.int .i64 0),(Value.int .i64 0),(Value.int .i64 0),(Value.int .i64 0),(Value.int .i64 0),(Value.int .i64 0),(Value.int .i64 0),(Value.int .i64 0),(Value.int .i64 0)]:=by kernel_rfl
theorem gQ:lO Tryz.prog 157 = some (9,2):=by kernel_rfl
theorem pK:dL Tryz.prog 157 = some 9:=by kernel_rfl
theorem vh:jl Tryz.prog 157 = some true:=by kernel_rfl
theorem ud:cg Tryz.prog 101 = true:=by kernel_rfl
theorem gq:dC Tryz.prog 154 0 = some (0,2):=by kernel_rfl
theorem gt:dC Tryz.prog 154 1 = some (1,2):=by kernel_rfl
theorem wv:cg Tryz.prog 73 = true:=by kernel_rfl
theorem qv:go Tryz.prog 159 = some [(Value.int .i64 0),(Value.int .i64 0),(Value.int .i64 0),(Value.int .i64 0)]:=by kernel_rfl
theorem pb:lO Tryz.prog 159 = some (4,2):=by kernel_rfl
theorem tS:dL Tryz.prog 159 = some 4:=by kernel_rfl
theorem vZ:cg Tryz.prog 74 = true:=by kernel_rfl
theorem oB:cg Tryz.prog 43 = true:=by kernel_rfl
theorem oI:cg Tryz.prog 19 = true:=by kernel_rfl
theorem ru:cg Tryz.prog 10 = true:=by kernel_rfl
theorem qt:cg Tryz.prog 8 = true:=by kernel_rfl
theorem mN:cg Tryz.prog 63 = true:=by kernel_rfl
theorem vD:cg Tryz.prog 94 = true:=by kernel_rfl
theorem rE:cg Tryz.prog 93 = true:=by kernel_rfl
theorem rM:cg Tryz.prog 62 = true:=by kernel_rfl
theorem qR:jl Tryz.prog 136 = some false:=by kernel_rfl
theorem nX:dC Tryz.prog 30 5 = some (13,4):=by kernel_rfl
theorem oR:cg Tryz.prog 31 = true:=by kernel_rfl
theorem rO:go Tryz.prog 72 = some [(Value.map none)]:=by kernel_rfl
theorem rf:cg Tryz.prog 33 = true:=by kernel_rfl
theorem kV:dC Tryz.prog 77 0 = some (0,3):=by kernel_rfl
theorem rm:cg Tryz.prog 68 = true:=by kernel_rfl
theorem vJ:cg Tryz.prog 36 = true:=by kernel_rfl
theorem lK:jl Tryz.prog 77 = some true:=by kernel_rfl
theorem gF:dL Tryz.prog 77 = some 3:=by kernel_rfl
theorem tW (w:World):(zeroValue 2).run Tryz.prog w = .ok ((Value.int .i64) 0) w:=by kernel_rfl
theorem qX:cg Tryz.prog 69 = true:=by kernel_rfl
theorem vC:cg Tryz.prog 37 = true:=by kernel_rfl
theorem mE:gh Tryz.prog 123 = some 3:=by kernel_rfl
theorem xW:go Tryz.prog 3 = some [(Value.int .i64 0)]:=by kernel_rfl
theorem uU:cg Tryz.prog 35 = true:=by kernel_rfl
theorem rA:cg Tryz.prog 32 = true:=by kernel_rfl
theorem kq:gh Tryz.prog 74 = some 77:=by kernel_rfl
theorem ob:dC Tryz.prog 77 1 = some (1,36):=by kernel_rfl
theorem kA:go Tryz.prog 51 = some [(Value.int .i64 0),(Value.int .i64 0),(Value.int .i64 0),(Value.int .i64 0),(Value.int .i64 0)]:=by kernel_rfl
theorem ms:iU Tryz.prog 51 = some [(0,1),(1,2),(3,1),(4,1)]:=by kernel_rfl
theorem fN:gh Tryz.prog 44 = some 51:=by kernel_rfl
theorem gA:dL Tryz.prog 51 = some 5:=by kernel_rfl
theorem qG:kN Tryz.prog 51 = some 40:=by kernel_rfl
theorem rJ:cg Tryz.prog 13 = true:=by kernel_rfl
theorem lU:dC Tryz.prog 51 0 = some (0,3):=by kernel_rfl
theorem kX:dC Tryz.prog 31 0 = some (0,22):=by kernel_rfl
theorem kb:dC Tryz.prog 51 1 = some (1,36):=by kernel_rfl
theorem rH:cg Tryz.prog 42 = true:=by kernel_rfl
theorem oK:cg Tryz.prog 17 = true:=by kernel_rfl
theorem vG:cg Tryz.prog 18 = true:=by kernel_rfl
theorem vH:cg Tryz.prog 15 = true:=by kernel_rfl
theorem rg:go Tryz.prog 25 = some [(Value.int .i64 0),(Value.int .i64 0),(Value.int .i64 0),(Value.int .i64 0),(Value.int .i64 0),(Value.int .i64 0),(Value.int .i64 0),(Value.int .i64 0),(Value.int .i64 0)]:=by kernel_rfl
theorem sJ:iU Tryz.prog 25 = some [(0,1),(1,1),(2,1),(3,1),(4,1),(5,1),(6,1),(7,1),(8,1)]:=by kernel_rfl
theorem vV:cg Tryz.prog 25 = true:=by kernel_rfl
theorem xu:jl Tryz.prog 51 = some true:=by kernel_rfl
theorem tG:Tryz.prog.eqGuardType Tryz.prog.depth 51 = false:=by kernel_rfl
theorem yg {x y:Operand} (x0:Int) (x1:Int) (x2:Int) (x3:Int) (x4:Int) (y0:Int) (y1:Int) (y2:Int) (y3:Int) (y4:Int) (w:World):(do eqGuard .eql 51 x y (.agg #[(Value.int .i64 x0),(Value.int .i64 x1),(Value.int .i64 x2),(Value.int .i64 x3),(Value.int .i64 x4)]) (.agg #[(Value.int .i64 y0),(Value.int .i64 y1),(Value.int .i64 y2),(Value.int .i64 y3),(Value.int .i64 y4)]); binOp .eql 51 (.agg #[(Value.int .i64 x0),(Value.int .i64 x1),(Value.int .i64 x2),(Value.int .i64 x3),(Value.int .i64 x4)]) (.agg #[(Value.int .i64 y0),(Value.int .i64 y1),(Value.int .i64 y2),(Value.int .i64 y3),(Value.int .i64 y4)])).run Tryz.prog w = .ok (.bool ((x0 == y0) && (((x1 == y1) && ((x2 == y2) && true)) && ((x3 == y3) && ((x4 == y4) && true))))) w :=
  qU tG (lL Tryz.underlying51 (by kernel_rfl) (ja rfl (eW cE rfl) (eW cE rfl) (ly Tryz.underlying3 _ _) (ja rfl (nD br aQ) (nD br aQ) (lL Tryz.underlying36 (by kernel_rfl) (ja rfl (eW cE rfl) (eW cE rfl) (ly Tryz.underlying3 _ _) (ja rfl (eW ba rfl) (eW ba rfl) (ly Tryz.underlying2 _ _) nW))) (ja rfl (eW cE rfl) (eW cE rfl) (ly Tryz.underlying3 _ _) (ja rfl (eW ba rfl) (eW ba rfl) (ly Tryz.underlying2 _ _) nW))))) w
theorem ti:cg Tryz.prog 7 = true:=by kernel_rfl
theorem uf:kN Tryz.prog 77 = some 24:=by kernel_rfl
theorem sB:jl Tryz.prog 74 = some false:=by kernel_rfl
theorem wr:dL Tryz.prog 74 = some 1:=by kernel_rfl
theorem wk:cg Tryz.prog 95 = true:=by kernel_rfl
theorem ws:cg Tryz.prog 65 = true:=by kernel_rfl
theorem vl:cg Tryz.prog 66 = true:=by kernel_rfl
theorem bT.spec (a0 a1 a2:Int) (r:Bool) (H:bT a0 a1 a2 = r):bn Tryz.prog 45 [I a0,I a1,I a2] [] (fun v M=>v = (bool r) ∧ M = []):=by
 unfold bT at H
 refine bk Tryz.func45 rfl 15 rfl (Nat.le_of_ble_eq_true rfl) fun F w0=>?_
 show ck (St 15 w0 F [(0,I a0),(1,I a1),(2,I a2)] []) _
 refine an (ah (aa (ak rfl) rfl rfl rfl (aq (an (ah (aa (al rfl) rfl rfl rfl (aa (al rfl) rfl rfl rfl (aa (aF rfl rfl (jI _ _ _)) rfl rfl rfl (aa (al rfl) rfl rfl rfl ?_)))))))))
 refine hQ H (fun c2 H=>?_) fun c2 H=>?_
 ·refine aw rfl rfl rfl (decide_eq_false c2) rfl rfl ?_
  refine aw rfl rfl rfl (decide_eq_false c2) rfl rfl ?_
  refine aw rfl rfl rfl (decide_eq_false c2) rfl rfl ?_
  refine aa (aJ rfl rfl rfl (bG (decide_eq_false c2))) rfl rfl rfl (aa (ak rfl) rfl rfl rfl (aq (aE ?_)))
  cases H
  refine aB [] (by decide) rfl ?_
  exact aS rfl rfl ⟨rfl,rfl⟩
 refine au (al rfl) rfl rfl rfl (decide_eq_true c2) rfl rfl ?_
 refine au (al rfl) rfl rfl rfl (decide_eq_true c2) rfl rfl ?_
 refine au (aF rfl rfl (pi _ _ _)) rfl rfl rfl (decide_eq_true c2) rfl rfl ?_
 refine aa (aJ rfl rfl rfl (bC (decide_eq_true c2))) rfl rfl rfl (aa (ak rfl) rfl rfl rfl (aq (aE ?_)))
 cases H
 refine aB [] (by decide) rfl ?_
 exact aS rfl rfl ⟨rfl,rfl⟩
theorem cc.spec (a0_0 a0_1:Int) (a0_2 a0_3:Int) (a0_4 a0_5:Int) (a0_6 a0_7:Int) (a0_8 r:Int) (H:cc a0_0 a0_1 a0_2 a0_3 a0_4 a0_5 a0_6 a0_7 a0_8 = r):bn Tryz.prog 21 [agg #[I a0_0,I a0_1,I a0_2,I a0_3,I a0_4,I a0_5,I a0_6,I a0_7,I a0_8]] [] (fun v M=>v = (I r) ∧ M = []):=by
 unfold cc at H
 refine bk Tryz.func21 rfl 53 rfl (Nat.le_of_ble_eq_true rfl) fun F w0=>?_
 show ck (St 53 w0 F [(0,agg #[I a0_0,I a0_1,I a0_2,I a0_3,I a0_4,I a0_5,I a0_6,I a0_7,I a0_8])] []) _
 refine an (ah ?_)
 refine aH (cl (cs:=[I a0_0,I a0_1,I a0_2,I a0_3,I a0_4,I a0_5,I a0_6,I a0_7,I a0_8]) rfl rfl) rfl rfl rfl ?_
 rintro _ _ ⟨b2,rfl,rfl⟩
 refine aa (ak rfl) rfl rfl rfl (aq (an (an (ah (aa (av (sz:=0) (o:=0) rfl nR aY) rfl rfl rfl (aa (aG (v:=(I a0_0)) rfl ba (aA (i:=0) rfl rfl)) rfl rfl rfl ?_))))))
 obtain ⟨x24,h24,H⟩:=bc H
 refine aH (bi (first:=[]) (cap:=[]) (xs:=[.tmp 4,.const (I 1),.const (I 1048576)]) rfl rfl jw rfl (bT.spec a0_0 1 1048576 _ h24)) rfl rfl rfl ?_
 rintro _ _ ⟨rfl,rfl⟩
 refine aa (eu rfl (er _)) rfl rfl rfl (aa (al rfl) rfl rfl rfl ?_)
 refine fE H (fun c24 H=>?_) fun c24 H=>?_
 ·refine aw rfl rfl rfl c24 rfl rfl ?_
  refine aw rfl rfl rfl c24 rfl rfl ?_
  refine aw rfl rfl rfl c24 rfl rfl ?_
  refine aw rfl rfl rfl c24 rfl rfl ?_
  refine aa (aJ rfl rfl rfl (bC c24)) rfl rfl rfl (aa (al rfl) rfl rfl rfl ?_)
  refine aw rfl rfl rfl rfl rfl rfl ?_
  refine aw rfl rfl rfl rfl rfl rfl ?_
  refine aw rfl rfl rfl rfl rfl rfl ?_
  refine aw rfl rfl rfl rfl rfl rfl ?_
  refine aa (aJ rfl rfl rfl rfl) rfl rfl rfl (aa (al rfl) rfl rfl rfl ?_)
  refine aw rfl rfl rfl rfl rfl rfl ?_
  refine aw rfl rfl rfl rfl rfl rfl ?_
  refine aw rfl rfl rfl rfl rfl rfl ?_
  refine aw rfl rfl rfl rfl rfl rfl ?_
  refine aa (aJ rfl rfl rfl rfl) rfl rfl rfl (aa (al rfl) rfl rfl rfl ?_)
  refine aw rfl rfl rfl rfl rfl rfl ?_
  refine aw rfl rfl rfl rfl rfl rfl ?_
  refine aw rfl rfl rfl rfl rfl rfl ?_
  refine aw rfl rfl rfl rfl rfl rfl ?_
  refine aa (aJ rfl rfl rfl rfl) rfl rfl rfl (aq (az rfl rfl (an (ah (aa (ak rfl) rfl rfl rfl (aq (aE ?_)))))))
  cases H
  refine aB [] (by decide) rfl ?_
  exact aS rfl rfl ⟨rfl,rfl⟩
 refine au (av (sz:=0) (o:=0) rfl lW aY) rfl rfl rfl (Bool.eq_false_iff.2 c24) rfl rfl ?_
 refine au (aG (v:=(I a0_1)) rfl ba (aA (i:=0) rfl rfl)) rfl rfl rfl (Bool.eq_false_iff.2 c24) rfl rfl ?_
 obtain ⟨x25,h25,H⟩:=bc H
 refine dn (bi (first:=[]) (cap:=[]) (xs:=[.tmp 9,.const (I 0),.const (I 1048576)]) rfl rfl jw rfl (bT.spec a0_1 0 1048576 _ h25)) rfl rfl rfl (Bool.eq_false_iff.2 c24) rfl rfl ?_
 rintro _ _ ⟨rfl,rfl⟩
 refine au (eu rfl (er _)) rfl rfl rfl (Bool.eq_false_iff.2 c24) rfl rfl ?_
 refine aa (aJ rfl rfl rfl (bG (Bool.eq_false_iff.2 c24))) rfl rfl rfl (aa (al rfl) rfl rfl rfl ?_)
 refine fE H (fun c25 H=>?_) fun c25 H=>?_
 ·refine aw rfl rfl rfl c25 rfl rfl ?_
  refine aw rfl rfl rfl c25 rfl rfl ?_
  refine aw rfl rfl rfl c25 rfl rfl ?_
  refine aw rfl rfl rfl c25 rfl rfl ?_
  refine aa (aJ rfl rfl rfl (bC c25)) rfl rfl rfl (aa (al rfl) rfl rfl rfl ?_)
  refine aw rfl rfl rfl rfl rfl rfl ?_
  refine aw rfl rfl rfl rfl rfl rfl ?_
  refine aw rfl rfl rfl rfl rfl rfl ?_
  refine aw rfl rfl rfl rfl rfl rfl ?_
  refine aa (aJ rfl rfl rfl rfl) rfl rfl rfl (aa (al rfl) rfl rfl rfl ?_)
  refine aw rfl rfl rfl rfl rfl rfl ?_
  refine aw rfl rfl rfl rfl rfl rfl ?_
  refine aw rfl rfl rfl rfl rfl rfl ?_
  refine aw rfl rfl rfl rfl rfl rfl ?_
  refine aa (aJ rfl rfl rfl rfl) rfl rfl rfl (aq (az rfl rfl (an (ah (aa (ak rfl) rfl rfl rfl (aq (aE ?_)))))))
  cases H
  refine aB [] (by decide) rfl ?_
  exact aS rfl rfl ⟨rfl,rfl⟩
 refine au (av (sz:=0) (o:=0) rfl lZ aY) rfl rfl rfl (Bool.eq_false_iff.2 c25) rfl rfl ?_
 refine au (aG (v:=(I a0_2)) rfl ba (aA (i:=0) rfl rfl)) rfl rfl rfl (Bool.eq_false_iff.2 c25) rfl rfl ?_
 obtain ⟨x26,h26,H⟩:=bc H
 refine dn (bi (first:=[]) (cap:=[]) (xs:=[.tmp 15,.const (I 0),.const (I 1048576)]) rfl rfl jw rfl (bT.spec a0_2 0 1048576 _ h26)) rfl rfl rfl (Bool.eq_false_iff.2 c25) rfl rfl ?_
 rintro _ _ ⟨rfl,rfl⟩
 refine au (eu rfl (er _)) rfl rfl rfl (Bool.eq_false_iff.2 c25) rfl rfl ?_
 refine aa (aJ rfl rfl rfl (bG (Bool.eq_false_iff.2 c25))) rfl rfl rfl (aa (al rfl) rfl rfl rfl ?_)
 refine fE H (fun c26 H=>?_) fun c26 H=>?_
 ·refine aw rfl rfl rfl c26 rfl rfl ?_
  refine aw rfl rfl rfl c26 rfl rfl ?_
  refine aw rfl rfl rfl c26 rfl rfl ?_
  refine aw rfl rfl rfl c26 rfl rfl ?_
  refine aa (aJ rfl rfl rfl (bC c26)) rfl rfl rfl (aa (al rfl) rfl rfl rfl ?_)
  refine aw rfl rfl rfl rfl rfl rfl ?_
  refine aw rfl rfl rfl rfl rfl rfl ?_
  refine aw rfl rfl rfl rfl rfl rfl ?_
  refine aw rfl rfl rfl rfl rfl rfl ?_
  refine aa (aJ rfl rfl rfl rfl) rfl rfl rfl (aq (az rfl rfl (an (ah (aa (ak rfl) rfl rfl rfl (aq (aE ?_)))))))
  cases H
  refine aB [] (by decide) rfl ?_
  exact aS rfl rfl ⟨rfl,rfl⟩
 refine au (av (sz:=0) (o:=0) rfl ma aY) rfl rfl rfl (Bool.eq_false_iff.2 c26) rfl rfl ?_
 refine au (aG (v:=(I a0_3)) rfl ba (aA (i:=0) rfl rfl)) rfl rfl rfl (Bool.eq_false_iff.2 c26) rfl rfl ?_
 obtain ⟨x27,h27,H⟩:=bc H
 refine dn (bi (first:=[]) (cap:=[]) (xs:=[.tmp 21,.const (I 0),.const (I 1048576)]) rfl rfl jw rfl (bT.spec a0_3 0 1048576 _ h27)) rfl rfl rfl (Bool.eq_false_iff.2 c26) rfl rfl ?_
 rintro _ _ ⟨rfl,rfl⟩
 refine au (eu rfl (er _)) rfl rfl rfl (Bool.eq_false_iff.2 c26) rfl rfl ?_
 refine aa (aJ rfl rfl rfl (bG (Bool.eq_false_iff.2 c26))) rfl rfl rfl (aa (al rfl) rfl rfl rfl ?_)
 refine fE H (fun c27 H=>?_) fun c27 H=>?_
 ·refine aw rfl rfl rfl c27 rfl rfl ?_
  refine aw rfl rfl rfl c27 rfl rfl ?_
  refine aw rfl rfl rfl c27 rfl rfl ?_
  refine aw rfl rfl rfl c27 rfl rfl ?_
  refine aa (aJ rfl rfl rfl (bC c27)) rfl rfl rfl (aq (az rfl rfl (an (ah (aa (ak rfl) rfl rfl rfl (aq (aE ?_)))))))
  cases H
  refine aB [] (by decide) rfl ?_
  exact aS rfl rfl ⟨rfl,rfl⟩
 refine au (av (sz:=0) (o:=0) rfl jz aY) rfl rfl rfl (Bool.eq_false_iff.2 c27) rfl rfl ?_
 refine au (aG (v:=(I a0_4)) rfl ba (aA (i:=0) rfl rfl)) rfl rfl rfl (Bool.eq_false_iff.2 c27) rfl rfl ?_
 obtain ⟨x28,h28,H⟩:=bc H
 refine dn (bi (first:=[]) (cap:=[]) (xs:=[.tmp 27,.const (I 0),.const (I 1048576)]) rfl rfl jw rfl (bT.spec a0_4 0 1048576 _ h28)) rfl rfl rfl (Bool.eq_false_iff.2 c27) rfl rfl ?_
 rintro _ _ ⟨rfl,rfl⟩
 refine au (eu rfl (er _)) rfl rfl rfl (Bool.eq_false_iff.2 c27) rfl rfl ?_
 refine aa (aJ rfl rfl rfl (bG (Bool.eq_false_iff.2 c27))) rfl rfl rfl (aq ?_)
 refine fE H (fun c28 H=>?_) fun c28 H=>?_
 ·refine az rfl c28 (an (ah (aa (ak rfl) rfl rfl rfl (aq (aE ?_)))))
  cases H
  refine aB [] (by decide) rfl ?_
  exact aS rfl rfl ⟨rfl,rfl⟩
 refine ay rfl (Bool.eq_false_iff.2 c28) (aN (an (an (ah (aa (av (sz:=0) (o:=0) rfl nM aY) rfl rfl rfl (aa (aG (v:=(I a0_5)) rfl ba (aA (i:=0) rfl rfl)) rfl rfl rfl ?_))))))
 obtain ⟨x33,h33,H⟩:=bc H
 refine aH (bi (first:=[]) (cap:=[]) (xs:=[.tmp 32,.const (I 1),.const (I 1048576)]) rfl rfl jw rfl (bT.spec a0_5 1 1048576 _ h33)) rfl rfl rfl ?_
 rintro _ _ ⟨rfl,rfl⟩
 refine aa (eu rfl (er _)) rfl rfl rfl (aa (al rfl) rfl rfl rfl ?_)
 refine fE H (fun c33 H=>?_) fun c33 H=>?_
 ·refine aw rfl rfl rfl c33 rfl rfl ?_
  refine aw rfl rfl rfl c33 rfl rfl ?_
  refine aw rfl rfl rfl c33 rfl rfl ?_
  refine aw rfl rfl rfl c33 rfl rfl ?_
  refine aa (aJ rfl rfl rfl (bC c33)) rfl rfl rfl (aa (al rfl) rfl rfl rfl ?_)
  refine aw rfl rfl rfl rfl rfl rfl ?_
  refine aw rfl rfl rfl rfl rfl rfl ?_
  refine aw rfl rfl rfl rfl rfl rfl ?_
  refine aw rfl rfl rfl rfl rfl rfl ?_
  refine aa (aJ rfl rfl rfl rfl) rfl rfl rfl (aa (al rfl) rfl rfl rfl ?_)
  refine aw rfl rfl rfl rfl rfl rfl ?_
  refine aw rfl rfl rfl rfl rfl rfl ?_
  refine aw rfl rfl rfl rfl rfl rfl ?_
  refine aw rfl rfl rfl rfl rfl rfl ?_
  refine aa (aJ rfl rfl rfl rfl) rfl rfl rfl (aq (az rfl rfl (an (ah (aa (ak rfl) rfl rfl rfl (aq (aE ?_)))))))
  cases H
  refine aB [] (by decide) rfl ?_
  exact aS rfl rfl ⟨rfl,rfl⟩
 refine au (av (sz:=0) (o:=0) rfl nV aY) rfl rfl rfl (Bool.eq_false_iff.2 c33) rfl rfl ?_
 refine au (aG (v:=(I a0_6)) rfl ba (aA (i:=0) rfl rfl)) rfl rfl rfl (Bool.eq_false_iff.2 c33) rfl rfl ?_
 obtain ⟨x34,h34,H⟩:=bc H
 refine dn (bi (first:=[]) (cap:=[]) (xs:=[.tmp 37,.const (I 1),.const (I 1048576)]) rfl rfl jw rfl (bT.spec a0_6 1 1048576 _ h34)) rfl rfl rfl (Bool.eq_false_iff.2 c33) rfl rfl ?_
 rintro _ _ ⟨rfl,rfl⟩
 refine au (eu rfl (er _)) rfl rfl rfl (Bool.eq_false_iff.2 c33) rfl rfl ?_
 refine aa (aJ rfl rfl rfl (bG (Bool.eq_false_iff.2 c33))) rfl rfl rfl (aa (al rfl) rfl rfl rfl ?_)
 refine fE H (fun c34 H=>?_) fun c34 H=>?_
 ·refine aw rfl rfl rfl c34 rfl rfl ?_
  refine aw rfl rfl rfl c34 rfl rfl ?_
  refine aw rfl rfl rfl c34 rfl rfl ?_
  refine aw rfl rfl rfl c34 rfl rfl ?_
  refine aa (aJ rfl rfl rfl (bC c34)) rfl rfl rfl (aa (al rfl) rfl rfl rfl ?_)
  refine aw rfl rfl rfl rfl rfl rfl ?_
  refine aw rfl rfl rfl rfl rfl rfl ?_
  refine aw rfl rfl rfl rfl rfl rfl ?_
  refine aw rfl rfl rfl rfl rfl rfl ?_
  refine aa (aJ rfl rfl rfl rfl) rfl rfl rfl (aq (az rfl rfl (an (ah (aa (ak rfl) rfl rfl rfl (aq (aE ?_)))))))
  cases H
  refine aB [] (by decide) rfl ?_
  exact aS rfl rfl ⟨rfl,rfl⟩
 refine au (av (sz:=0) (o:=0) rfl nO cL) rfl rfl rfl (Bool.eq_false_iff.2 c34) rfl rfl ?_
 refine au (aG (v:=(I a0_7)) rfl cE (aA (i:=0) rfl rfl)) rfl rfl rfl (Bool.eq_false_iff.2 c34) rfl rfl ?_
 obtain ⟨x35,h35,H⟩:=bc H
 refine dn (bi (first:=[]) (cap:=[]) (xs:=[.tmp 43,.const (I 1),.const (I 64)]) rfl rfl jw rfl (bT.spec a0_7 1 64 _ h35)) rfl rfl rfl (Bool.eq_false_iff.2 c34) rfl rfl ?_
 rintro _ _ ⟨rfl,rfl⟩
 refine au (eu rfl (er _)) rfl rfl rfl (Bool.eq_false_iff.2 c34) rfl rfl ?_
 refine aa (aJ rfl rfl rfl (bG (Bool.eq_false_iff.2 c34))) rfl rfl rfl (aa (al rfl) rfl rfl rfl ?_)
 refine fE H (fun c35 H=>?_) fun c35 H=>?_
 ·refine aw rfl rfl rfl c35 rfl rfl ?_
  refine aw rfl rfl rfl c35 rfl rfl ?_
  refine aw rfl rfl rfl c35 rfl rfl ?_
  refine aw rfl rfl rfl c35 rfl rfl ?_
  refine aa (aJ rfl rfl rfl (bC c35)) rfl rfl rfl (aq (az rfl rfl (an (ah (aa (ak rfl) rfl rfl rfl (aq (aE ?_)))))))
  cases H
  refine aB [] (by decide) rfl ?_
  exact aS rfl rfl ⟨rfl,rfl⟩
 refine au (av (sz:=0) (o:=0) rfl od aY) rfl rfl rfl (Bool.eq_false_iff.2 c35) rfl rfl ?_
 refine au (aG (v:=(I a0_8)) rfl ba (aA (i:=0) rfl rfl)) rfl rfl rfl (Bool.eq_false_iff.2 c35) rfl rfl ?_
 obtain ⟨x36,h36,H⟩:=bc H
 refine dn (bi (first:=[]) (cap:=[]) (xs:=[.tmp 49,.const (I 100),.const (I 1048576)]) rfl rfl jw rfl (bT.spec a0_8 100 1048576 _ h36)) rfl rfl rfl (Bool.eq_false_iff.2 c35) rfl rfl ?_
 rintro _ _ ⟨rfl,rfl⟩
 refine au (eu rfl (er _)) rfl rfl rfl (Bool.eq_false_iff.2 c35) rfl rfl ?_
 refine aa (aJ rfl rfl rfl (bG (Bool.eq_false_iff.2 c35))) rfl rfl rfl (aq ?_)
 refine fE H (fun c36 H=>?_) fun c36 H=>?_
 ·refine az rfl c36 (an (ah (aa (ak rfl) rfl rfl rfl (aq (aE ?_)))))
  cases H
  refine aB [] (by decide) rfl ?_
  exact aS rfl rfl ⟨rfl,rfl⟩
 refine ay rfl (Bool.eq_false_iff.2 c36) (aN (an (ah (aa (ak rfl) rfl rfl rfl (aq (aE ?_))))))
 cases H
 refine aB [] (by decide) rfl ?_
 exact aS rfl rfl ⟨rfl,rfl⟩
theorem dB.spec (r:Unit) (H:dB = r):bn Tryz.prog 46 [] [] (fun v M=>∃ b2:Nat,v = (pt b2 0) ∧ M = [box b2 130 [L0]]):=by
 unfold dB at H
 refine bk Tryz.func46 rfl 3 rfl (Nat.le_of_ble_eq_true rfl) fun F w0=>?_
 show ck (St 3 w0 F [] []) _
 refine an (ah (aa (ak rfl) rfl rfl rfl (aq (an (ah (aa (bK (is:=[]) (xs:=[]) (vs:=[]) rfl rfl (bo (cs:=[L0]) un sp rfl)) rfl rfl rfl ?_))))))
 refine aH (cl (cs:=[L0]) rfl rfl) rfl rfl rfl ?_
 rintro _ _ ⟨b3,rfl,rfl⟩
 refine aa (ak rfl) rfl rfl rfl (aq (aE ?_))
 cases H
 refine aB [0] (by decide) rfl ?_
 exact aS rfl rfl ⟨_,rfl,rfl⟩
theorem jt.spec (r:Unit) (H:jt = r):bn Tryz.prog 22 [] [] (fun v M=>∃ b3:Nat,∃ b4:Nat,v = (pt b3 0) ∧ M = [box b3 99 [pt b4 0],box b4 130 [L0]]):=by
 unfold jt at H
 refine bk Tryz.func22 rfl 4 rfl (Nat.le_of_ble_eq_true rfl) fun F w0=>?_
 show ck (St 4 w0 F [] []) _
 refine an (ah (aa (ak rfl) rfl rfl rfl (aq (an (ah ?_)))))
 obtain ⟨u2,h2,H⟩:=bc H
 refine aH (bX (Lr:=[]) (first:=[]) (cap:=[]) (xs:=[]) rfl rfl rI rfl (dB.spec _ h2) rfl) rfl rfl rfl ?_
 rintro _ _ ⟨_,⟨b5,rfl,rfl⟩,rfl⟩
 refine aa (bK (is:=[0]) (xs:=[.tmp 1]) (vs:=[pt b5 0]) rfl rfl (bo (cs:=[pt b5 0]) rB ph rfl)) rfl rfl rfl ?_
 refine aH (cl (cs:=[pt b5 0]) rfl rfl) rfl rfl rfl ?_
 rintro _ _ ⟨b6,rfl,rfl⟩
 refine aa (ak rfl) rfl rfl rfl (aq (aE ?_))
 cases H
 refine aB [0,1] (by decide) rfl ?_
 exact aS rfl rfl ⟨_,_,rfl,rfl⟩
theorem de.spec (r:Unit) (H:de = r):bn Tryz.prog 112 [L0] [] (fun v M=>∃ b2:Nat,v = (Value.func (.func 126) #[] #[pt b2 0]) ∧ M = [box b2 128 [L0]]):=by
 unfold de at H
 refine bk Tryz.func112 rfl 4 rfl (Nat.le_of_ble_eq_true rfl) fun F w0=>?_
 show ck (St 4 w0 F [(0,L0)] []) _
 refine an (ah ?_)
 refine aH (cl (cs:=[L0]) rfl rfl) rfl rfl rfl ?_
 rintro _ _ ⟨b3,rfl,rfl⟩
 refine aa (ak rfl) rfl rfl rfl (aq (an (ah (aa (fm (first:=[]) (cap:=[.tmp 1]) rfl rfl) rfl rfl rfl (aa (ak rfl) rfl rfl rfl (aq (aE ?_)))))))
 cases H
 refine aB [0] (by decide) rfl ?_
 exact aS rfl rfl ⟨_,rfl,rfl⟩
theorem dR.spec (K yl0 p0:Nat) (Gm0:Type) (y0:Int → ax → Gm0 → Option (Gm0 × Bool)) (x0y:Gm0) (Y0:Gm0 → HP) (hY0:∀ (t0_:Int) (t1_:ax) (z_:Gm0) (r_:Gm0 × Bool),y0 t0_ t1_ z_ = some r_ → lx Tryz.prog yl0 [I t0_,agg #[I t1_.Part.Tier,I t1_.Part.Index,I t1_.Seg,I t1_.Mark,I t1_.Rows,bool t1_.Cold]] [Y0 z_] (fun v N=>v = .bool r_.2 ∧ N = [Y0 r_.1])) (r:Unit) (H:dR K Gm0 y0 x0y = some r):bn Tryz.prog 126 [(Value.func (.yield yl0) #[] #[]),pt p0 0] [(Y0 x0y),box p0 128 [L0]] (fun v M=>v = (tU #[]) ∧ M = [(Y0 x0y),box p0 128 [L0]]):=by
 unfold dR at H
 refine bk Tryz.func126 rfl 19 rfl (Nat.le_of_ble_eq_true rfl) fun F w0=>?_
 show ck (St 19 w0 F [(0,(Value.func (.yield yl0) #[] #[])),(1,pt p0 0)] [(Y0 x0y),box p0 128 [L0]]) _
 refine an (ah (aa (aG (v:=L0) rfl dK (aA (i:=1) rfl rfl)) rfl rfl rfl (aa (nK rfl bu) rfl rfl rfl (aa (al rfl) rfl rfl rfl (aq (bf ?_))))))
 refine dy (fun k a w=>eE K k = some r ∧ St 19 w0 F [(0,(Value.func (.yield yl0) #[] #[])),(5,L0),(6,I 0),(7,I 0)] [(Y0 x0y),box p0 128 [L0]] a w) K ?_ ?_
 ·exact bd [0,1] (by decide) rfl (af (t:=0) rfl (af (t:=5) rfl (af (t:=6) rfl (af (t:=7) rfl (aR _))))) fun a w h=>⟨H,h⟩
 ·refine fun k=>cD fun H2=>?_
  cases k with
  | zero=>exact absurd H2 (by simp [eE])
  | succ k =>
   rw [eE] at H2
   refine an (ah (aa (aF rfl rfl (cK _ _ _)) rfl rfl rfl (aq (an (ay rfl rfl (bW ?_))))))
   cases H2
   refine du ?_
   refine aB [0,1] (by decide) rfl ?_
   exact dV rfl ⟨rfl,rfl⟩
theorem il.spec (a0 r:Int) (H:il a0 = r):bn Tryz.prog 53 [I a0] [] (fun v M=>v = (I r) ∧ M = []):=by
 unfold il at H
 refine bk Tryz.func53 rfl 5 rfl (Nat.le_of_ble_eq_true rfl) fun F w0=>?_
 show ck (St 5 w0 F [(0,I a0)] []) _
 refine an (ah (aa (ak rfl) rfl rfl rfl (aq (an (ah (aa (al rfl) rfl rfl rfl ?_))))))
 refine aa (aF rfl rfl fun w=>kQ _ _ _ w (by decide)) rfl rfl rfl ?_
 refine aa (ak rfl) rfl rfl rfl (aq (aE ?_))
 cases H
 refine aB [] (by decide) rfl ?_
 exact aS rfl rfl ⟨rfl,rfl⟩
theorem kz.spec (a0:Int) (r:(Int × Int × Int)) (H:kz a0 = r):bn Tryz.prog 85 [I a0] [] (fun v M=>v = (tU #[I r.1,I r.2.1,I r.2.2]) ∧ M = []):=by
 unfold kz at H
 refine bk Tryz.func85 rfl 62 rfl (Nat.le_of_ble_eq_true rfl) fun F w0=>?_
 show ck (St 62 w0 F [(0,I a0)] []) _
 refine an (ah (aa (ak rfl) rfl rfl rfl (aa (ak rfl) rfl rfl rfl (aa (ak rfl) rfl rfl rfl (aq (an (ah (aa (al rfl) rfl rfl rfl (aa (aF rfl rfl (cr _ _ _) ) rfl rfl rfl (aa (ak rfl) rfl rfl rfl (aq ?_)))))))))))
 refine an (ah (aa (al rfl) rfl rfl rfl ?_))
 refine aa (aF rfl rfl fun w=>pF _ _ _ w (by decide)) rfl rfl rfl ?_
 refine aa (ak rfl) rfl rfl rfl (aq (an (ah (aa (al rfl) rfl rfl rfl (aa (al rfl) rfl rfl rfl ?_)))))
 refine aa (aF rfl rfl fun w=>kQ _ _ _ w (by decide)) rfl rfl rfl ?_
 refine aa (aF rfl rfl (iF _ _ _) ) rfl rfl rfl (aa (al rfl) rfl rfl rfl ?_)
 refine aa (aF rfl rfl fun w=>kQ _ _ _ w (by decide)) rfl rfl rfl ?_
 refine aa (aF rfl rfl (cr _ _ _) ) rfl rfl rfl (aa (al rfl) rfl rfl rfl ?_)
 refine aa (aF rfl rfl fun w=>kQ _ _ _ w (by decide)) rfl rfl rfl ?_
 refine aa (aF rfl rfl (iF _ _ _) ) rfl rfl rfl ?_
 refine aa (aF rfl rfl fun w=>kQ _ _ _ w (by decide)) rfl rfl rfl ?_
 refine aa (ak rfl) rfl rfl rfl (aq (an (ah (aa (al rfl) rfl rfl rfl (aa (al rfl) rfl rfl rfl (aa (aF rfl rfl (lp _ _ _) ) rfl rfl rfl (aa (al rfl) rfl rfl rfl ?_)))))))
 refine aa (aF rfl rfl fun w=>kQ _ _ _ w (by decide)) rfl rfl rfl ?_
 refine aa (aF rfl rfl (cr _ _ _) ) rfl rfl rfl (aa (al rfl) rfl rfl rfl ?_)
 refine aa (aF rfl rfl fun w=>kQ _ _ _ w (by decide)) rfl rfl rfl ?_
 refine aa (aF rfl rfl (iF _ _ _) ) rfl rfl rfl (aa (aF rfl rfl (iF _ _ _) ) rfl rfl rfl (aa (ak rfl) rfl rfl rfl (aq (an (ah (aa (al rfl) rfl rfl rfl (aa (aF rfl rfl (lp _ _ _) ) rfl rfl rfl (aa (aF rfl rfl (cr _ _ _) ) rfl rfl rfl ?_))))))))
 refine aa (aF rfl rfl fun w=>kQ _ _ _ w (by decide)) rfl rfl rfl ?_
 refine aa (ak rfl) rfl rfl rfl (aq (an (ah (aa (al rfl) rfl rfl rfl (aa (al rfl) rfl rfl rfl (aa (aF rfl rfl (lp _ _ _) ) rfl rfl rfl (aa (aF rfl rfl (cr _ _ _) ) rfl rfl rfl ?_)))))))
 refine aa (aF rfl rfl fun w=>kQ _ _ _ w (by decide)) rfl rfl rfl ?_
 refine aa (aF rfl rfl (iF _ _ _) ) rfl rfl rfl (aa (aF rfl rfl (cr _ _ _) ) rfl rfl rfl (aa (ak rfl) rfl rfl rfl (aq (an (ah (aa (al rfl) rfl rfl rfl ?_))))))
 refine aa (aF rfl rfl fun w=>kQ _ _ _ w (by decide)) rfl rfl rfl ?_
 refine aa (aF rfl rfl (lp _ _ _) ) rfl rfl rfl (aa (al rfl) rfl rfl rfl (aa (aF rfl rfl (cr _ _ _) ) rfl rfl rfl (aa (ak rfl) rfl rfl rfl (aq (an (an (ah (aa (al rfl) rfl rfl rfl (aa (aF rfl rfl (cK _ _ _)) rfl rfl rfl (aq ?_))))))))))
 refine fE H (fun c4 H=>?_) fun c4 H=>?_
 ·refine az rfl (decide_eq_true c4) (an (ah (aa (al rfl) rfl rfl rfl (aa (al rfl) rfl rfl rfl (aa (aF rfl rfl (cr _ _ _) ) rfl rfl rfl (aa (al rfl) rfl rfl rfl (aa (ak rfl) rfl rfl rfl (aa (ak rfl) rfl rfl rfl (aa (ak rfl) rfl rfl rfl (aq (aE ?_)))))))))))
  cases H
  refine aB [] (by decide) rfl ?_
  exact ey (vs:=[I (aW ((aW ((aW (Int.tdiv (aW (a0 + 719468)) 146097)) * 400)) + (aW (Int.tdiv (aW ((aW ((aW ((Int.tmod (aW (a0 + 719468)) 146097) - (aW (Int.tdiv (Int.tmod (aW (a0 + 719468)) 146097) 1460)))) + (aW (Int.tdiv (Int.tmod (aW (a0 + 719468)) 146097) 36524)))) - (aW (Int.tdiv (Int.tmod (aW (a0 + 719468)) 146097) 146096)))) 365)))),I (aW ((aW (Int.tdiv (aW ((aW (5 * (aW ((Int.tmod (aW (a0 + 719468)) 146097) - (aW ((aW ((aW (365 * (aW (Int.tdiv (aW ((aW ((aW ((Int.tmod (aW (a0 + 719468)) 146097) - (aW (Int.tdiv (Int.tmod (aW (a0 + 719468)) 146097) 1460)))) + (aW (Int.tdiv (Int.tmod (aW (a0 + 719468)) 146097) 36524)))) - (aW (Int.tdiv (Int.tmod (aW (a0 + 719468)) 146097) 146096)))) 365)))) + (aW (Int.tdiv (aW (Int.tdiv (aW ((aW ((aW ((Int.tmod (aW (a0 + 719468)) 146097) - (aW (Int.tdiv (Int.tmod (aW (a0 + 719468)) 146097) 1460)))) + (aW (Int.tdiv (Int.tmod (aW (a0 + 719468)) 146097) 36524)))) - (aW (Int.tdiv (Int.tmod (aW (a0 + 719468)) 146097) 146096)))) 365)) 4)))) - (aW (Int.tdiv (aW (Int.tdiv (aW ((aW ((aW ((Int.tmod (aW (a0 + 719468)) 146097) - (aW (Int.tdiv (Int.tmod (aW (a0 + 719468)) 146097) 1460)))) + (aW (Int.tdiv (Int.tmod (aW (a0 + 719468)) 146097) 36524)))) - (aW (Int.tdiv (Int.tmod (aW (a0 + 719468)) 146097) 146096)))) 365)) 100)))))))) + 2)) 153)) + 3)),I (aW ((aW ((aW ((Int.tmod (aW (a0 + 719468)) 146097) - (aW ((aW ((aW (365 * (aW (Int.tdiv (aW ((aW ((aW ((Int.tmod (aW (a0 + 719468)) 146097) - (aW (Int.tdiv (Int.tmod (aW (a0 + 719468)) 146097) 1460)))) + (aW (Int.tdiv (Int.tmod (aW (a0 + 719468)) 146097) 36524)))) - (aW (Int.tdiv (Int.tmod (aW (a0 + 719468)) 146097) 146096)))) 365)))) + (aW (Int.tdiv (aW (Int.tdiv (aW ((aW ((aW ((Int.tmod (aW (a0 + 719468)) 146097) - (aW (Int.tdiv (Int.tmod (aW (a0 + 719468)) 146097) 1460)))) + (aW (Int.tdiv (Int.tmod (aW (a0 + 719468)) 146097) 36524)))) - (aW (Int.tdiv (Int.tmod (aW (a0 + 719468)) 146097) 146096)))) 365)) 4)))) - (aW (Int.tdiv (aW (Int.tdiv (aW ((aW ((aW ((Int.tmod (aW (a0 + 719468)) 146097) - (aW (Int.tdiv (Int.tmod (aW (a0 + 719468)) 146097) 1460)))) + (aW (Int.tdiv (Int.tmod (aW (a0 + 719468)) 146097) 36524)))) - (aW (Int.tdiv (Int.tmod (aW (a0 + 719468)) 146097) 146096)))) 365)) 100)))))) - (aW (Int.tdiv (aW ((aW (153 * (aW (Int.tdiv (aW ((aW (5 * (aW ((Int.tmod (aW (a0 + 719468)) 146097) - (aW ((aW ((aW (365 * (aW (Int.tdiv (aW ((aW ((aW ((Int.tmod (aW (a0 + 719468)) 146097) - (aW (Int.tdiv (Int.tmod (aW (a0 + 719468)) 146097) 1460)))) + (aW (Int.tdiv (Int.tmod (aW (a0 + 719468)) 146097) 36524)))) - (aW (Int.tdiv (Int.tmod (aW (a0 + 719468)) 146097) 146096)))) 365)))) + (aW (Int.tdiv (aW (Int.tdiv (aW ((aW ((aW ((Int.tmod (aW (a0 + 719468)) 146097) - (aW (Int.tdiv (Int.tmod (aW (a0 + 719468)) 146097) 1460)))) + (aW (Int.tdiv (Int.tmod (aW (a0 + 719468)) 146097) 36524)))) - (aW (Int.tdiv (Int.tmod (aW (a0 + 719468)) 146097) 146096)))) 365)) 4)))) - (aW (Int.tdiv (aW (Int.tdiv (aW ((aW ((aW ((Int.tmod (aW (a0 + 719468)) 146097) - (aW (Int.tdiv (Int.tmod (aW (a0 + 719468)) 146097) 1460)))) + (aW (Int.tdiv (Int.tmod (aW (a0 + 719468)) 146097) 36524)))) - (aW (Int.tdiv (Int.tmod (aW (a0 + 719468)) 146097) 146096)))) 365)) 100)))))))) + 2)) 153)))) + 2)) 5)))) + 1))]) rfl ⟨rfl,⟨rfl,⟨rfl,trivial⟩⟩⟩ _ rfl ⟨rfl,rfl⟩
 refine ay rfl (decide_eq_false c4) (aN (an (ah (aa (al rfl) rfl rfl rfl (aa (aF rfl rfl (cr _ _ _) ) rfl rfl rfl (aa (al rfl) rfl rfl rfl (aa (aF rfl rfl (iF _ _ _) ) rfl rfl rfl (aa (al rfl) rfl rfl rfl (aa (ak rfl) rfl rfl rfl (aa (ak rfl) rfl rfl rfl (aa (ak rfl) rfl rfl rfl ?_)))))))))))
 refine aq (aE ?_)
 cases H
 refine aB [] (by decide) rfl ?_
 exact ey (vs:=[I (aW ((aW ((aW ((aW (Int.tdiv (aW (a0 + 719468)) 146097)) * 400)) + (aW (Int.tdiv (aW ((aW ((aW ((Int.tmod (aW (a0 + 719468)) 146097) - (aW (Int.tdiv (Int.tmod (aW (a0 + 719468)) 146097) 1460)))) + (aW (Int.tdiv (Int.tmod (aW (a0 + 719468)) 146097) 36524)))) - (aW (Int.tdiv (Int.tmod (aW (a0 + 719468)) 146097) 146096)))) 365)))) + 1)),I (aW ((aW (Int.tdiv (aW ((aW (5 * (aW ((Int.tmod (aW (a0 + 719468)) 146097) - (aW ((aW ((aW (365 * (aW (Int.tdiv (aW ((aW ((aW ((Int.tmod (aW (a0 + 719468)) 146097) - (aW (Int.tdiv (Int.tmod (aW (a0 + 719468)) 146097) 1460)))) + (aW (Int.tdiv (Int.tmod (aW (a0 + 719468)) 146097) 36524)))) - (aW (Int.tdiv (Int.tmod (aW (a0 + 719468)) 146097) 146096)))) 365)))) + (aW (Int.tdiv (aW (Int.tdiv (aW ((aW ((aW ((Int.tmod (aW (a0 + 719468)) 146097) - (aW (Int.tdiv (Int.tmod (aW (a0 + 719468)) 146097) 1460)))) + (aW (Int.tdiv (Int.tmod (aW (a0 + 719468)) 146097) 36524)))) - (aW (Int.tdiv (Int.tmod (aW (a0 + 719468)) 146097) 146096)))) 365)) 4)))) - (aW (Int.tdiv (aW (Int.tdiv (aW ((aW ((aW ((Int.tmod (aW (a0 + 719468)) 146097) - (aW (Int.tdiv (Int.tmod (aW (a0 + 719468)) 146097) 1460)))) + (aW (Int.tdiv (Int.tmod (aW (a0 + 719468)) 146097) 36524)))) - (aW (Int.tdiv (Int.tmod (aW (a0 + 719468)) 146097) 146096)))) 365)) 100)))))))) + 2)) 153)) - 9)),I (aW ((aW ((aW ((Int.tmod (aW (a0 + 719468)) 146097) - (aW ((aW ((aW (365 * (aW (Int.tdiv (aW ((aW ((aW ((Int.tmod (aW (a0 + 719468)) 146097) - (aW (Int.tdiv (Int.tmod (aW (a0 + 719468)) 146097) 1460)))) + (aW (Int.tdiv (Int.tmod (aW (a0 + 719468)) 146097) 36524)))) - (aW (Int.tdiv (Int.tmod (aW (a0 + 719468)) 146097) 146096)))) 365)))) + (aW (Int.tdiv (aW (Int.tdiv (aW ((aW ((aW ((Int.tmod (aW (a0 + 719468)) 146097) - (aW (Int.tdiv (Int.tmod (aW (a0 + 719468)) 146097) 1460)))) + (aW (Int.tdiv (Int.tmod (aW (a0 + 719468)) 146097) 36524)))) - (aW (Int.tdiv (Int.tmod (aW (a0 + 719468)) 146097) 146096)))) 365)) 4)))) - (aW (Int.tdiv (aW (Int.tdiv (aW ((aW ((aW ((Int.tmod (aW (a0 + 719468)) 146097) - (aW (Int.tdiv (Int.tmod (aW (a0 + 719468)) 146097) 1460)))) + (aW (Int.tdiv (Int.tmod (aW (a0 + 719468)) 146097) 36524)))) - (aW (Int.tdiv (Int.tmod (aW (a0 + 719468)) 146097) 146096)))) 365)) 100)))))) - (aW (Int.tdiv (aW ((aW (153 * (aW (Int.tdiv (aW ((aW (5 * (aW ((Int.tmod (aW (a0 + 719468)) 146097) - (aW ((aW ((aW (365 * (aW (Int.tdiv (aW ((aW ((aW ((Int.tmod (aW (a0 + 719468)) 146097) - (aW (Int.tdiv (Int.tmod (aW (a0 + 719468)) 146097) 1460)))) + (aW (Int.tdiv (Int.tmod (aW (a0 + 719468)) 146097) 36524)))) - (aW (Int.tdiv (Int.tmod (aW (a0 + 719468)) 146097) 146096)))) 365)))) + (aW (Int.tdiv (aW (Int.tdiv (aW ((aW ((aW ((Int.tmod (aW (a0 + 719468)) 146097) - (aW (Int.tdiv (Int.tmod (aW (a0 + 719468)) 146097) 1460)))) + (aW (Int.tdiv (Int.tmod (aW (a0 + 719468)) 146097) 36524)))) - (aW (Int.tdiv (Int.tmod (aW (a0 + 719468)) 146097) 146096)))) 365)) 4)))) - (aW (Int.tdiv (aW (Int.tdiv (aW ((aW ((aW ((Int.tmod (aW (a0 + 719468)) 146097) - (aW (Int.tdiv (Int.tmod (aW (a0 + 719468)) 146097) 1460)))) + (aW (Int.tdiv (Int.tmod (aW (a0 + 719468)) 146097) 36524)))) - (aW (Int.tdiv (Int.tmod (aW (a0 + 719468)) 146097) 146096)))) 365)) 100)))))))) + 2)) 153)))) + 2)) 5)))) + 1))]) rfl ⟨rfl,⟨rfl,⟨rfl,trivial⟩⟩⟩ _ rfl ⟨rfl,rfl⟩
theorem cy.spec (a0 r:Int) (H:cy a0 = r):bn Tryz.prog 54 [I a0] [] (fun v M=>v = (I r) ∧ M = []):=by
 unfold cy at H
 refine bk Tryz.func54 rfl 18 rfl (Nat.le_of_ble_eq_true rfl) fun F w0=>?_
 show ck (St 18 w0 F [(0,I a0)] []) _
 refine an (ah (aa (ak rfl) rfl rfl rfl (aq (an (ah (aa (al rfl) rfl rfl rfl ?_))))))
 obtain ⟨x2,h2,H⟩:=bc H
 refine aH (bi (first:=[]) (cap:=[]) (xs:=[.tmp 7]) rfl rfl vp rfl (kz.spec a0 _ h2)) rfl rfl rfl ?_
 rintro _ _ ⟨rfl,rfl⟩
 refine aa (al rfl) rfl rfl rfl (aa (aT rfl rfl) rfl rfl rfl (aa (aT rfl rfl) rfl rfl rfl (aa (aT rfl rfl) rfl rfl rfl (aa (ak rfl) rfl rfl rfl (aa (ak rfl) rfl rfl rfl (aa (ak rfl) rfl rfl rfl (aq (an (ah (aa (al rfl) rfl rfl rfl (aa (aF rfl rfl (iF _ _ _) ) rfl rfl rfl ?_)))))))))))
 refine aa (aF rfl rfl (lp _ _ _) ) rfl rfl rfl (aa (al rfl) rfl rfl rfl (aa (aF rfl rfl (iF _ _ _) ) rfl rfl rfl (aa (aF rfl rfl (cr _ _ _) ) rfl rfl rfl (aa (ak rfl) rfl rfl rfl (aq (aE ?_))))))
 cases H
 refine aB [] (by decide) rfl ?_
 exact aS rfl rfl ⟨rfl,rfl⟩
theorem fX.spec (a0 a1:Int) (r:(Int × Int × Bool)) (H:fX a0 a1 = r):bn Tryz.prog 26 [I a0,I a1] [] (fun v M=>v = (tU #[agg #[I r.1,I r.2.1],bool r.2.2]) ∧ M = []):=by
 unfold fX at H
 refine bk Tryz.func26 rfl 33 rfl (Nat.le_of_ble_eq_true rfl) fun F w0=>?_
 show ck (St 33 w0 F [(0,I a0),(1,I a1)] []) _
 refine an (ah ?_)
 refine aH (bJ fq) rfl rfl rfl ?_
 rintro _ _ ⟨b2,rfl,rfl⟩
 refine aa (ak rfl) rfl rfl rfl (aq (an (an (ah (aa (al rfl) rfl rfl rfl (aa (aF rfl rfl (cK _ _ _)) rfl rfl rfl (aa (al rfl) rfl rfl rfl ?_)))))))
 refine fE H (fun c13 H=>?_) fun c13 H=>?_
 ·refine aw rfl rfl rfl (decide_eq_true c13) rfl rfl ?_
  refine aw rfl rfl rfl (decide_eq_true c13) rfl rfl ?_
  refine aa (aJ rfl rfl rfl (bC (decide_eq_true c13))) rfl rfl rfl (aq (az rfl rfl (an (ah (aa (aK (vs:=[I 0,I 0]) rfl br aQ (aP (i:=0) rfl)) rfl rfl rfl ?_)))))
  refine bs (bj (cs:=[I 0,I 0]) (cs':=[I 0,I 0]) (us:=[I 0,I 0]) (L':=[box b2 36 [I 0,I 0]]) 0 rfl rfl rfl (bx rfl) aQ rfl rfl (by simp) rfl) rfl rfl ?_
  rintro _ _ rfl
  refine aa (ak rfl) rfl rfl rfl (aq (aE ?_))
  subst H
  exact cW [] (by decide) rfl (vs:=[agg #[I 0,I 0],B0]) rfl ⟨⟨_,[I 0,I 0],rfl,aP (i:=0) rfl,.inl ⟨br,aQ,rfl⟩⟩,⟨rfl,trivial⟩⟩ _ rfl ⟨rfl,rfl⟩
 refine au (al rfl) rfl rfl rfl (decide_eq_false c13) rfl rfl ?_
 refine au (aF rfl rfl (ip _ _ _)) rfl rfl rfl (decide_eq_false c13) rfl rfl ?_
 refine aa (aJ rfl rfl rfl (bG (decide_eq_false c13))) rfl rfl rfl (aq ?_)
 refine fE H (fun c14 H=>?_) fun c14 H=>?_
 ·refine az rfl (decide_eq_true c14) (an (ah (aa (aK (vs:=[I 0,I 0]) rfl br aQ (aP (i:=0) rfl)) rfl rfl rfl ?_)))
  refine bs (bj (cs:=[I 0,I 0]) (cs':=[I 0,I 0]) (us:=[I 0,I 0]) (L':=[box b2 36 [I 0,I 0]]) 0 rfl rfl rfl (bx rfl) aQ rfl rfl (by simp) rfl) rfl rfl ?_
  rintro _ _ rfl
  refine aa (ak rfl) rfl rfl rfl (aq (aE ?_))
  subst H
  exact cW [] (by decide) rfl (vs:=[agg #[I 0,I 0],B0]) rfl ⟨⟨_,[I 0,I 0],rfl,aP (i:=0) rfl,.inl ⟨br,aQ,rfl⟩⟩,⟨rfl,trivial⟩⟩ _ rfl ⟨rfl,rfl⟩
 refine ay rfl (decide_eq_false c14) (aN (an (an (ah (aa (al rfl) rfl rfl rfl (aq (bf (an (ah (aa (aF rfl rfl (fc _ _ _)) rfl rfl rfl (aa (ak rfl) rfl rfl rfl ?_)))))))))))
 refine aq ?_
 refine fE H (fun c18 H=>?_) fun c18 H=>?_
 ·refine az rfl (dW c18) (an (ah (aa (al rfl) rfl rfl rfl (aa (al rfl) rfl rfl rfl (aa (bK (is:=[0,1]) (xs:=[.tmp 16,.tmp 17]) (vs:=[I a0,I a1]) rfl rfl (bo (cs:=[I a0,I a1]) fq iN rfl)) rfl rfl rfl ?_)))))
  refine bs (bj (cs:=[I 0,I 0]) (cs':=[I a0,I a1]) (us:=[I a0,I a1]) (L':=[box b2 36 [I a0,I a1]]) 0 rfl rfl rfl (bx rfl) aQ rfl rfl (by simp) rfl) rfl rfl ?_
  rintro _ _ rfl
  refine aa (ak rfl) rfl rfl rfl (aq (aE ?_))
  subst H
  exact cW [] (by decide) rfl (vs:=[agg #[I a0,I a1],bool true]) rfl ⟨⟨_,[I a0,I a1],rfl,aP (i:=0) rfl,.inl ⟨br,aQ,rfl⟩⟩,⟨rfl,trivial⟩⟩ _ rfl ⟨rfl,rfl⟩
 refine ay rfl (fj c18) (an (ah (aa (aF rfl rfl (fc _ _ _)) rfl rfl rfl (aa (ak rfl) rfl rfl rfl (aq ?_)))))
 refine fE H (fun c19 H=>?_) fun c19 H=>?_
 ·refine az rfl (dW c19) (an (ah (aa (al rfl) rfl rfl rfl (aa (al rfl) rfl rfl rfl ?_))))
  obtain ⟨x10,h10,H⟩:=bc H
  refine aH (bi (first:=[]) (cap:=[]) (xs:=[.tmp 22]) rfl rfl ri rfl (il.spec a1 _ h10)) rfl rfl rfl ?_
  rintro _ _ ⟨rfl,rfl⟩
  refine aa (bK (is:=[0,1]) (xs:=[.tmp 21,.tmp 23]) (vs:=[I a0,I x10]) rfl rfl (bo (cs:=[I a0,I x10]) fq iN rfl)) rfl rfl rfl ?_
  refine bs (bj (cs:=[I 0,I 0]) (cs':=[I a0,I x10]) (us:=[I a0,I x10]) (L':=[box b2 36 [I a0,I x10]]) 0 rfl rfl rfl (bx rfl) aQ rfl rfl (by simp) rfl) rfl rfl ?_
  rintro _ _ rfl
  refine aa (ak rfl) rfl rfl rfl (aq (aE ?_))
  subst H
  exact cW [] (by decide) rfl (vs:=[agg #[I a0,I x10],bool true]) rfl ⟨⟨_,[I a0,I x10],rfl,aP (i:=0) rfl,.inl ⟨br,aQ,rfl⟩⟩,⟨rfl,trivial⟩⟩ _ rfl ⟨rfl,rfl⟩
 refine ay rfl (fj c19) (an (ah (aa (aF rfl rfl (fc _ _ _)) rfl rfl rfl (aa (ak rfl) rfl rfl rfl (aq ?_)))))
 refine hQ H (fun c20 H=>?_) fun c20 H=>?_
 ·refine ay rfl (fj c20) (aN (an (ah (aa (aK (vs:=[I 0,I 0]) rfl br aQ (aP (i:=0) rfl)) rfl rfl rfl ?_))))
  refine bs (bj (cs:=[I 0,I 0]) (cs':=[I 0,I 0]) (us:=[I 0,I 0]) (L':=[box b2 36 [I 0,I 0]]) 0 rfl rfl rfl (bx rfl) aQ rfl rfl (by simp) rfl) rfl rfl ?_
  rintro _ _ rfl
  refine aa (ak rfl) rfl rfl rfl (aq (aE ?_))
  subst H
  exact cW [] (by decide) rfl (vs:=[agg #[I 0,I 0],B0]) rfl ⟨⟨_,[I 0,I 0],rfl,aP (i:=0) rfl,.inl ⟨br,aQ,rfl⟩⟩,⟨rfl,trivial⟩⟩ _ rfl ⟨rfl,rfl⟩
 refine az rfl (dW c20) (an (ah (aa (al rfl) rfl rfl rfl (aa (al rfl) rfl rfl rfl ?_))))
 obtain ⟨x11,h11,H⟩:=bc H
 refine aH (bi (first:=[]) (cap:=[]) (xs:=[.tmp 28]) rfl rfl ri rfl (il.spec a1 _ h11)) rfl rfl rfl ?_
 rintro _ _ ⟨rfl,rfl⟩
 obtain ⟨x12,h12,H⟩:=bc H
 refine aH (bi (first:=[]) (cap:=[]) (xs:=[.tmp 29]) rfl rfl vz rfl (cy.spec x11 _ h12)) rfl rfl rfl ?_
 rintro _ _ ⟨rfl,rfl⟩
 refine aa (bK (is:=[0,1]) (xs:=[.tmp 27,.tmp 30]) (vs:=[I a0,I x12]) rfl rfl (bo (cs:=[I a0,I x12]) fq iN rfl)) rfl rfl rfl ?_
 refine bs (bj (cs:=[I 0,I 0]) (cs':=[I a0,I x12]) (us:=[I a0,I x12]) (L':=[box b2 36 [I a0,I x12]]) 0 rfl rfl rfl (bx rfl) aQ rfl rfl (by simp) rfl) rfl rfl ?_
 rintro _ _ rfl
 refine aa (ak rfl) rfl rfl rfl (aq (aE ?_))
 subst H
 exact cW [] (by decide) rfl (vs:=[agg #[I a0,I x12],bool true]) rfl ⟨⟨_,[I a0,I x12],rfl,aP (i:=0) rfl,.inl ⟨br,aQ,rfl⟩⟩,⟨rfl,trivial⟩⟩ _ rfl ⟨rfl,rfl⟩
theorem gH.spec (a0_0 a0_1:Int) (r:Bool) (H:gH a0_0 a0_1 = r):bn Tryz.prog 72 [agg #[I a0_0,I a0_1]] [] (fun v M=>v = (bool r) ∧ M = []):=by
 unfold gH at H
 refine bk Tryz.func72 rfl 24 rfl (Nat.le_of_ble_eq_true rfl) fun F w0=>?_
 show ck (St 24 w0 F [(0,agg #[I a0_0,I a0_1])] []) _
 refine an (ah ?_)
 refine aH (cl (cs:=[I a0_0,I a0_1]) rfl rfl) rfl rfl rfl ?_
 rintro _ _ ⟨b3,rfl,rfl⟩
 refine aa (ak rfl) rfl rfl rfl (aq (an (ah (aa (av (sz:=0) (o:=0) rfl cF cL) rfl rfl rfl (aa (aG (v:=(I a0_0)) rfl cE (aA (i:=0) rfl rfl)) rfl rfl rfl ?_)))))
 obtain ⟨x2,h2,H⟩:=bc H
 refine aH (bi (first:=[]) (cap:=[]) (xs:=[.tmp 7,.const (I 16777216)]) rfl rfl ko rfl (fX.spec a0_0 16777216 _ h2)) rfl rfl rfl ?_
 rintro _ _ ⟨rfl,rfl⟩
 refine aa (al rfl) rfl rfl rfl (aa (aT rfl rfl) rfl rfl rfl (aa (aT rfl rfl) rfl rfl rfl ?_))
 refine aH (bJ fq) rfl rfl rfl ?_
 rintro _ _ ⟨b4,rfl,rfl⟩
 refine bs (bj (cs:=[I 0,I 0]) (cs':=[I x2.1,I x2.2.1]) (us:=[I x2.1,I x2.2.1]) (L':=[box b4 36 [I x2.1,I x2.2.1],box b3 36 [I a0_0,I a0_1]]) 0 rfl rfl rfl (bx rfl) aQ rfl rfl (by simp) rfl) rfl rfl ?_
 rintro _ _ rfl
 refine aa (ak rfl) rfl rfl rfl (aq (an (ah (aa (al rfl) rfl rfl rfl (aa (al rfl) rfl rfl rfl ?_)))))
 refine hQ H (fun c3 H=>?_) fun c3 H=>?_
 ·refine aw rfl rfl rfl (Bool.eq_false_iff.2 c3) rfl rfl ?_
  refine aw rfl rfl rfl (Bool.eq_false_iff.2 c3) rfl rfl ?_
  refine aw rfl rfl rfl (Bool.eq_false_iff.2 c3) rfl rfl ?_
  refine aa (aJ rfl rfl rfl (bG (Bool.eq_false_iff.2 c3))) rfl rfl rfl (aa (al rfl) rfl rfl rfl ?_)
  refine aw rfl rfl rfl rfl rfl rfl ?_
  refine aw rfl rfl rfl rfl rfl rfl ?_
  refine aw rfl rfl rfl rfl rfl rfl ?_
  refine aw rfl rfl rfl rfl rfl rfl ?_
  refine aw rfl rfl rfl rfl rfl rfl ?_
  refine aa (aJ rfl rfl rfl rfl) rfl rfl rfl (aa (ak rfl) rfl rfl rfl (aq (aE ?_)))
  cases H
  refine aB [] (by decide) rfl ?_
  exact aS rfl rfl ⟨rfl,rfl⟩
 refine au (av (sz:=0) (o:=0) rfl eZ aY) rfl rfl rfl c3 rfl rfl ?_
 refine au (aG (v:=(I a0_1)) rfl ba (aA (i:=1) rfl rfl)) rfl rfl rfl c3 rfl rfl ?_
 refine au (aF rfl rfl (jI _ _ _)) rfl rfl rfl c3 rfl rfl ?_
 refine aa (aJ rfl rfl rfl (bC c3)) rfl rfl rfl (aa (al rfl) rfl rfl rfl ?_)
 refine hQ H (fun c4 H=>?_) fun c4 H=>?_
 ·refine aw rfl rfl rfl (decide_eq_false c4) rfl rfl ?_
  refine aw rfl rfl rfl (decide_eq_false c4) rfl rfl ?_
  refine aw rfl rfl rfl (decide_eq_false c4) rfl rfl ?_
  refine aw rfl rfl rfl (decide_eq_false c4) rfl rfl ?_
  refine aw rfl rfl rfl (decide_eq_false c4) rfl rfl ?_
  refine aa (aJ rfl rfl rfl (bG (decide_eq_false c4))) rfl rfl rfl (aa (ak rfl) rfl rfl rfl (aq (aE ?_)))
  cases H
  refine aB [] (by decide) rfl ?_
  exact aS rfl rfl ⟨rfl,rfl⟩
 refine au (av (sz:=0) (o:=0) rfl eZ aY) rfl rfl rfl (decide_eq_true c4) rfl rfl ?_
 refine au (aG (v:=(I a0_1)) rfl ba (aA (i:=1) rfl rfl)) rfl rfl rfl (decide_eq_true c4) rfl rfl ?_
 refine au (av (sz:=0) (o:=0) rfl eZ aY) rfl rfl rfl (decide_eq_true c4) rfl rfl ?_
 refine au (aG (v:=(I x2.2.1)) rfl ba (aA (i:=0) rfl rfl)) rfl rfl rfl (decide_eq_true c4) rfl rfl ?_
 refine au (aF rfl rfl (pi _ _ _)) rfl rfl rfl (decide_eq_true c4) rfl rfl ?_
 refine aa (aJ rfl rfl rfl (bC (decide_eq_true c4))) rfl rfl rfl (aa (ak rfl) rfl rfl rfl (aq (aE ?_)))
 cases H
 refine aB [] (by decide) rfl ?_
 exact aS rfl rfl ⟨rfl,rfl⟩
theorem eU.spec (a0 a1:Int) (r:Bool) (H:eU a0 a1 = r):bn Tryz.prog 106 [I a0,I a1] [] (fun v M=>v = (bool r) ∧ M = []):=by
 unfold eU at H
 refine bk Tryz.func106 rfl 12 rfl (Nat.le_of_ble_eq_true rfl) fun F w0=>?_
 show ck (St 12 w0 F [(0,I a0),(1,I a1)] []) _
 refine an (ah (aa (ak rfl) rfl rfl rfl (aq (an (ah (aa (al rfl) rfl rfl rfl (aa (al rfl) rfl rfl rfl (aa (aF rfl rfl (jI _ _ _)) rfl rfl rfl (aa (al rfl) rfl rfl rfl ?_)))))))))
 refine hQ H (fun c2 H=>?_) fun c2 H=>?_
 ·refine aw rfl rfl rfl (decide_eq_false c2) rfl rfl ?_
  refine aw rfl rfl rfl (decide_eq_false c2) rfl rfl ?_
  refine aa (aJ rfl rfl rfl (bG (decide_eq_false c2))) rfl rfl rfl (aa (ak rfl) rfl rfl rfl (aq (aE ?_)))
  cases H
  refine aB [] (by decide) rfl ?_
  exact aS rfl rfl ⟨rfl,rfl⟩
 refine au (al rfl) rfl rfl rfl (decide_eq_true c2) rfl rfl ?_
 refine au (aF rfl rfl (pi _ _ _)) rfl rfl rfl (decide_eq_true c2) rfl rfl ?_
 refine aa (aJ rfl rfl rfl (bC (decide_eq_true c2))) rfl rfl rfl (aa (ak rfl) rfl rfl rfl (aq (aE ?_)))
 cases H
 refine aB [] (by decide) rfl ?_
 exact aS rfl rfl ⟨rfl,rfl⟩
theorem ir.spec (a0_0 a0_1:Int) (a0_2 a0_3 a0_4:Int) (a0_5 r:Bool) (H:ir a0_0 a0_1 a0_2 a0_3 a0_4 a0_5 = r):bn Tryz.prog 79 [agg #[I a0_0,I a0_1,I a0_2,I a0_3,I a0_4,bool a0_5]] [] (fun v M=>v = (bool r) ∧ M = []):=by
 unfold ir at H
 refine bk Tryz.func79 rfl 36 rfl (Nat.le_of_ble_eq_true rfl) fun F w0=>?_
 show ck (St 36 w0 F [(0,agg #[I a0_0,I a0_1,I a0_2,I a0_3,I a0_4,bool a0_5])] []) _
 refine an (ah ?_)
 refine aH (cl (cs:=[I a0_0,I a0_1,I a0_2,I a0_3,I a0_4,bool a0_5]) rfl rfl) rfl rfl rfl ?_
 rintro _ _ ⟨b2,rfl,rfl⟩
 refine aa (ak rfl) rfl rfl rfl (aq (an (ah (aa (ak rfl) rfl rfl rfl (aq (an (ah (aa (av (sz:=1) (o:=0) rfl bQ aQ) rfl rfl rfl (aa (aK (vs:=[I a0_0,I a0_1]) rfl br aQ (cR (i:=0) rfl rfl)) rfl rfl rfl ?_)))))))))
 obtain ⟨x5,h5,H⟩:=bc H
 refine aH (bi (first:=[]) (cap:=[]) (xs:=[.tmp 5]) rfl rfl oy rfl (gH.spec a0_0 a0_1 _ h5)) rfl rfl rfl ?_
 rintro _ _ ⟨rfl,rfl⟩
 refine aa (al rfl) rfl rfl rfl ?_
 refine hQ H (fun c6 H=>?_) fun c6 H=>?_
 ·refine aw rfl rfl rfl (Bool.eq_false_iff.2 c6) rfl rfl ?_
  refine aw rfl rfl rfl (Bool.eq_false_iff.2 c6) rfl rfl ?_
  refine aw rfl rfl rfl (Bool.eq_false_iff.2 c6) rfl rfl ?_
  refine aw rfl rfl rfl (Bool.eq_false_iff.2 c6) rfl rfl ?_
  refine aa (aJ rfl rfl rfl (bG (Bool.eq_false_iff.2 c6))) rfl rfl rfl (aa (al rfl) rfl rfl rfl ?_)
  refine aw rfl rfl rfl rfl rfl rfl ?_
  refine aw rfl rfl rfl rfl rfl rfl ?_
  refine aw rfl rfl rfl rfl rfl rfl ?_
  refine aw rfl rfl rfl rfl rfl rfl ?_
  refine aa (aJ rfl rfl rfl rfl) rfl rfl rfl (aa (al rfl) rfl rfl rfl ?_)
  refine aw rfl rfl rfl rfl rfl rfl ?_
  refine aw rfl rfl rfl rfl rfl rfl ?_
  refine aw rfl rfl rfl rfl rfl rfl ?_
  refine aw rfl rfl rfl rfl rfl rfl ?_
  refine aa (aJ rfl rfl rfl rfl) rfl rfl rfl (aa (al rfl) rfl rfl rfl ?_)
  refine aw rfl rfl rfl rfl rfl rfl ?_
  refine aw rfl rfl rfl rfl rfl rfl ?_
  refine aw rfl rfl rfl rfl rfl rfl ?_
  refine aw rfl rfl rfl rfl rfl rfl ?_
  refine aw rfl rfl rfl rfl rfl rfl ?_
  refine bP rfl rfl rfl rfl rfl ?_
  refine bP rfl rfl rfl rfl rfl ?_
  refine bP rfl rfl rfl rfl rfl ?_
  refine aw rfl rfl rfl rfl rfl rfl ?_
  refine aa (aJ rfl rfl rfl rfl) rfl rfl rfl (aa (ak rfl) rfl rfl rfl (aq (aE ?_)))
  cases H
  refine aB [] (by decide) rfl ?_
  exact aS rfl rfl ⟨rfl,rfl⟩
 refine au (al rfl) rfl rfl rfl c6 rfl rfl ?_
 refine au (av (sz:=0) (o:=0) rfl og aY) rfl rfl rfl c6 rfl rfl ?_
 refine au (aG (v:=(I a0_2)) rfl ba (aA (i:=0) rfl rfl)) rfl rfl rfl c6 rfl rfl ?_
 obtain ⟨x6,h6,H⟩:=bc H
 refine dn (bi (first:=[]) (cap:=[]) (xs:=[.tmp 10,.const (I 1)]) rfl rfl nr rfl (eU.spec a0_2 1 _ h6)) rfl rfl rfl c6 rfl rfl ?_
 rintro _ _ ⟨rfl,rfl⟩
 refine aa (aJ rfl rfl rfl (bC c6)) rfl rfl rfl (aa (al rfl) rfl rfl rfl ?_)
 refine hQ H (fun c7 H=>?_) fun c7 H=>?_
 ·refine aw rfl rfl rfl (Bool.eq_false_iff.2 c7) rfl rfl ?_
  refine aw rfl rfl rfl (Bool.eq_false_iff.2 c7) rfl rfl ?_
  refine aw rfl rfl rfl (Bool.eq_false_iff.2 c7) rfl rfl ?_
  refine aw rfl rfl rfl (Bool.eq_false_iff.2 c7) rfl rfl ?_
  refine aa (aJ rfl rfl rfl (bG (Bool.eq_false_iff.2 c7))) rfl rfl rfl (aa (al rfl) rfl rfl rfl ?_)
  refine aw rfl rfl rfl rfl rfl rfl ?_
  refine aw rfl rfl rfl rfl rfl rfl ?_
  refine aw rfl rfl rfl rfl rfl rfl ?_
  refine aw rfl rfl rfl rfl rfl rfl ?_
  refine aa (aJ rfl rfl rfl rfl) rfl rfl rfl (aa (al rfl) rfl rfl rfl ?_)
  refine aw rfl rfl rfl rfl rfl rfl ?_
  refine aw rfl rfl rfl rfl rfl rfl ?_
  refine aw rfl rfl rfl rfl rfl rfl ?_
  refine aw rfl rfl rfl rfl rfl rfl ?_
  refine aw rfl rfl rfl rfl rfl rfl ?_
  refine bP rfl rfl rfl rfl rfl ?_
  refine bP rfl rfl rfl rfl rfl ?_
  refine bP rfl rfl rfl rfl rfl ?_
  refine aw rfl rfl rfl rfl rfl rfl ?_
  refine aa (aJ rfl rfl rfl rfl) rfl rfl rfl (aa (ak rfl) rfl rfl rfl (aq (aE ?_)))
  cases H
  refine aB [] (by decide) rfl ?_
  exact aS rfl rfl ⟨rfl,rfl⟩
 refine au (al rfl) rfl rfl rfl c7 rfl rfl ?_
 refine au (av (sz:=0) (o:=0) rfl nL aY) rfl rfl rfl c7 rfl rfl ?_
 refine au (aG (v:=(I a0_4)) rfl ba (aA (i:=0) rfl rfl)) rfl rfl rfl c7 rfl rfl ?_
 obtain ⟨x7,h7,H⟩:=bc H
 refine dn (bi (first:=[]) (cap:=[]) (xs:=[.tmp 16,.const (I 1)]) rfl rfl nr rfl (eU.spec a0_4 1 _ h7)) rfl rfl rfl c7 rfl rfl ?_
 rintro _ _ ⟨rfl,rfl⟩
 refine aa (aJ rfl rfl rfl (bC c7)) rfl rfl rfl (aa (al rfl) rfl rfl rfl ?_)
 refine hQ H (fun c8 H=>?_) fun c8 H=>?_
 ·refine aw rfl rfl rfl (Bool.eq_false_iff.2 c8) rfl rfl ?_
  refine aw rfl rfl rfl (Bool.eq_false_iff.2 c8) rfl rfl ?_
  refine aw rfl rfl rfl (Bool.eq_false_iff.2 c8) rfl rfl ?_
  refine aw rfl rfl rfl (Bool.eq_false_iff.2 c8) rfl rfl ?_
  refine aa (aJ rfl rfl rfl (bG (Bool.eq_false_iff.2 c8))) rfl rfl rfl (aa (al rfl) rfl rfl rfl ?_)
  refine aw rfl rfl rfl rfl rfl rfl ?_
  refine aw rfl rfl rfl rfl rfl rfl ?_
  refine aw rfl rfl rfl rfl rfl rfl ?_
  refine aw rfl rfl rfl rfl rfl rfl ?_
  refine aw rfl rfl rfl rfl rfl rfl ?_
  refine bP rfl rfl rfl rfl rfl ?_
  refine bP rfl rfl rfl rfl rfl ?_
  refine bP rfl rfl rfl rfl rfl ?_
  refine aw rfl rfl rfl rfl rfl rfl ?_
  refine aa (aJ rfl rfl rfl rfl) rfl rfl rfl (aa (ak rfl) rfl rfl rfl (aq (aE ?_)))
  cases H
  refine aB [] (by decide) rfl ?_
  exact aS rfl rfl ⟨rfl,rfl⟩
 refine au (al rfl) rfl rfl rfl c8 rfl rfl ?_
 refine au (av (sz:=0) (o:=0) rfl nQ aY) rfl rfl rfl c8 rfl rfl ?_
 refine au (aG (v:=(I a0_3)) rfl ba (aA (i:=0) rfl rfl)) rfl rfl rfl c8 rfl rfl ?_
 obtain ⟨x8,h8,H⟩:=bc H
 refine dn (bi (first:=[]) (cap:=[]) (xs:=[.tmp 22,.const (I 0)]) rfl rfl nr rfl (eU.spec a0_3 0 _ h8)) rfl rfl rfl c8 rfl rfl ?_
 rintro _ _ ⟨rfl,rfl⟩
 refine aa (aJ rfl rfl rfl (bC c8)) rfl rfl rfl (aa (al rfl) rfl rfl rfl ?_)
 refine hQ H (fun c9 H=>?_) fun c9 H=>?_
 ·refine aw rfl rfl rfl (Bool.eq_false_iff.2 c9) rfl rfl ?_
  refine aw rfl rfl rfl (Bool.eq_false_iff.2 c9) rfl rfl ?_
  refine aw rfl rfl rfl (Bool.eq_false_iff.2 c9) rfl rfl ?_
  refine aw rfl rfl rfl (Bool.eq_false_iff.2 c9) rfl rfl ?_
  refine aw rfl rfl rfl (Bool.eq_false_iff.2 c9) rfl rfl ?_
  refine bP rfl rfl rfl rfl rfl ?_
  refine bP rfl rfl rfl rfl rfl ?_
  refine bP rfl rfl rfl rfl rfl ?_
  refine aw rfl rfl rfl (Bool.eq_false_iff.2 c9) rfl rfl ?_
  refine aa (aJ rfl rfl rfl (bG (Bool.eq_false_iff.2 c9))) rfl rfl rfl (aa (ak rfl) rfl rfl rfl (aq (aE ?_)))
  cases H
  refine aB [] (by decide) rfl ?_
  exact aS rfl rfl ⟨rfl,rfl⟩
 refine au (av (sz:=1) (o:=0) rfl bQ aQ) rfl rfl rfl c9 rfl rfl ?_
 refine au (av (sz:=0) (o:=0) rfl cF cL) rfl rfl rfl c9 rfl rfl ?_
 refine au (aG (v:=(I a0_0)) rfl cE (aA (i:=0) rfl rfl)) rfl rfl rfl c9 rfl rfl ?_
 refine au (aF rfl rfl (fc _ _ _)) rfl rfl rfl c9 rfl rfl ?_
 refine au (al rfl) rfl rfl rfl c9 rfl rfl ?_
 refine fE H (fun c10 H=>?_) fun c10 H=>?_
 ·refine aw rfl rfl rfl (dW c10) rfl rfl ?_
  refine aw rfl rfl rfl (dW c10) rfl rfl ?_
  refine aw rfl rfl rfl (dW c10) rfl rfl ?_
  refine au (aJ rfl rfl rfl (bC (dW c10))) rfl rfl rfl c9 rfl rfl ?_
  refine aa (aJ rfl rfl rfl (bC c9)) rfl rfl rfl (aa (ak rfl) rfl rfl rfl (aq (aE ?_)))
  cases H
  refine aB [] (by decide) rfl ?_
  exact aS rfl rfl ⟨rfl,rfl⟩
 refine au (av (sz:=0) (o:=0) rfl ik iZ) rfl rfl rfl (fj c10) rfl rfl ?_
 refine au (aG (v:=(bool a0_5)) rfl jN (aA (i:=0) rfl rfl)) rfl rfl rfl (fj c10) rfl rfl ?_
 refine au (eu rfl (er _)) rfl rfl rfl (fj c10) rfl rfl ?_
 refine au (aJ rfl rfl rfl (bG (fj c10))) rfl rfl rfl c9 rfl rfl ?_
 refine aa (aJ rfl rfl rfl (bC c9)) rfl rfl rfl (aa (ak rfl) rfl rfl rfl (aq (aE ?_)))
 cases H
 refine aB [] (by decide) rfl ?_
 exact aS rfl rfl ⟨rfl,rfl⟩
theorem iS.spec (a0 a1:Int) (a2 r:Int) (H:iS a0 a1 a2 = r):bn Tryz.prog 103 [I a0,I a1,I a2] [] (fun v M=>v = (I r) ∧ M = []):=by
 unfold iS at H
 refine bk Tryz.func103 rfl 42 rfl (Nat.le_of_ble_eq_true rfl) fun F w0=>?_
 show ck (St 42 w0 F [(0,I a0),(1,I a1),(2,I a2)] []) _
 refine an (ah (aa (ak rfl) rfl rfl rfl (aq (an (ah (aa (al rfl) rfl rfl rfl (aa (aF rfl rfl (iF _ _ _) ) rfl rfl rfl (aa (ak rfl) rfl rfl rfl (aq ?_)))))))))
 obtain ⟨x2,H2,H⟩:=bc H
 refine cq (fun a w=>St 42 w0 F [(0,I x2.1),(2,I a2),(7,I x2.2)] [] a w) ?_ ?_
 ·refine an (ah (aa (al rfl) rfl rfl rfl (aa (aF rfl rfl (cK _ _ _)) rfl rfl rfl (aq ?_))))
  refine hQ H2 (fun c4 H2=>?_) fun c4 H2=>?_
  ·refine ay rfl (decide_eq_false c4) (aN ?_)
   cases H2
   exact bd [] (by decide) rfl (af (t:=0) rfl (af (t:=2) rfl (af (t:=7) rfl (aR _)))) fun a w h=>h
  refine az rfl (decide_eq_true c4) (an (ah (aa (al rfl) rfl rfl rfl (aa (aF rfl rfl (cr _ _ _) ) rfl rfl rfl (aa (ak rfl) rfl rfl rfl (aq (ah (aa (al rfl) rfl rfl rfl (aa (aF rfl rfl (iF _ _ _) ) rfl rfl rfl (aa (ak rfl) rfl rfl rfl (aq ?_)))))))))))
  cases H2
  exact bd [] (by decide) rfl (af (t:=0) rfl (af (t:=2) rfl (af (t:=7) rfl (aR _)))) fun a w h=>h
 ·refine an (ah (aa (al rfl) rfl rfl rfl ?_))
  refine aa (aF rfl rfl fun w=>pF _ _ _ w (by decide)) rfl rfl rfl ?_
  refine aa (ak rfl) rfl rfl rfl (aq (an (ah (aa (al rfl) rfl rfl rfl (aa (aF rfl rfl (lp _ _ _) ) rfl rfl rfl (aa (al rfl) rfl rfl rfl ?_))))))
  refine aa (aF rfl rfl fun w=>kQ _ _ _ w (by decide)) rfl rfl rfl ?_
  refine aa (aF rfl rfl (cr _ _ _) ) rfl rfl rfl (aa (al rfl) rfl rfl rfl ?_)
  refine aa (aF rfl rfl fun w=>kQ _ _ _ w (by decide)) rfl rfl rfl ?_
  refine aa (aF rfl rfl (iF _ _ _) ) rfl rfl rfl (aa (al rfl) rfl rfl rfl (aa (aF rfl rfl (lp _ _ _) ) rfl rfl rfl (aa (aF rfl rfl (cr _ _ _) ) rfl rfl rfl ?_)))
  refine aa (aF rfl rfl fun w=>kQ _ _ _ w (by decide)) rfl rfl rfl ?_
  refine aa (aF rfl rfl (cr _ _ _) ) rfl rfl rfl (aa (al rfl) rfl rfl rfl (aa (aF rfl rfl (cr _ _ _) ) rfl rfl rfl (aa (aF rfl rfl (iF _ _ _) ) rfl rfl rfl (aa (ak rfl) rfl rfl rfl (aq (an (ah (aa (al rfl) rfl rfl rfl ?_))))))))
  refine aa (aF rfl rfl fun w=>kQ _ _ _ w (by decide)) rfl rfl rfl ?_
  refine aa (aF rfl rfl (lp _ _ _) ) rfl rfl rfl (aa (al rfl) rfl rfl rfl (aa (aF rfl rfl (cr _ _ _) ) rfl rfl rfl (aa (aF rfl rfl (iF _ _ _) ) rfl rfl rfl (aa (ak rfl) rfl rfl rfl (aq (aE ?_))))))
  cases H
  refine aB [] (by decide) rfl ?_
  exact aS rfl rfl ⟨rfl,rfl⟩
theorem gN.spec (a0 r:Int) (H:gN a0 = r):bn Tryz.prog 102 [I a0] [] (fun v M=>v = (I r) ∧ M = []):=by
 unfold gN at H
 refine bk Tryz.func102 rfl 10 rfl (Nat.le_of_ble_eq_true rfl) fun F w0=>?_
 show ck (St 10 w0 F [(0,I a0)] []) _
 refine an (ah (aa (ak rfl) rfl rfl rfl (aq (an (ah (aa (al rfl) rfl rfl rfl ?_))))))
 refine aa (aF rfl rfl fun w=>kQ _ _ _ w (by decide)) rfl rfl rfl ?_
 refine aa (aF rfl rfl (cr _ _ _) ) rfl rfl rfl (aa (al rfl) rfl rfl rfl ?_)
 refine aa (aF rfl rfl fun w=>pF _ _ _ w (by decide)) rfl rfl rfl ?_
 refine aa (aF rfl rfl (cr _ _ _) ) rfl rfl rfl ?_
 obtain ⟨x2,h2,H⟩:=bc H
 refine aH (bi (first:=[]) (cap:=[]) (xs:=[.tmp 5,.tmp 8,.const (I 1)]) rfl rfl tX rfl (iS.spec (aW (1970 + (aW (Int.tdiv a0 12)))) (aW ((Int.tmod a0 12) + 1)) 1 _ h2)) rfl rfl rfl ?_
 rintro _ _ ⟨rfl,rfl⟩
 refine aa (ak rfl) rfl rfl rfl (aq (aE ?_))
 cases H
 refine aB [] (by decide) rfl ?_
 exact aS rfl rfl ⟨rfl,rfl⟩
theorem jS.spec (a0:Int) (r:(Int × Int)) (H:jS a0 = r):bn Tryz.prog 75 [I a0] [] (fun v M=>v = (tU #[I r.1,I r.2]) ∧ M = []):=by
 unfold jS at H
 refine bk Tryz.func75 rfl 12 rfl (Nat.le_of_ble_eq_true rfl) fun F w0=>?_
 show ck (St 12 w0 F [(0,I a0)] []) _
 refine an (ah (aa (ak rfl) rfl rfl rfl (aa (ak rfl) rfl rfl rfl (aq (an (ah (aa (ak rfl) rfl rfl rfl (aq (an (ah (aa (al rfl) rfl rfl rfl ?_)))))))))))
 refine aa (al rfl) rfl rfl rfl ?_
 obtain ⟨x3,h3,H⟩:=bc H
 refine aH (bi (first:=[]) (cap:=[]) (xs:=[.tmp 6]) rfl rfl qa rfl (gN.spec a0 _ h3)) rfl rfl rfl ?_
 rintro _ _ ⟨rfl,rfl⟩
 refine aa (al rfl) rfl rfl rfl (aa (al rfl) rfl rfl rfl (aa (aF rfl rfl (cr _ _ _) ) rfl rfl rfl ?_))
 obtain ⟨x4,h4,H⟩:=bc H
 refine aH (bi (first:=[]) (cap:=[]) (xs:=[.tmp 10]) rfl rfl qa rfl (gN.spec (aW (a0 + 1)) _ h4)) rfl rfl rfl ?_
 rintro _ _ ⟨rfl,rfl⟩
 refine aa (ak rfl) rfl rfl rfl (aa (ak rfl) rfl rfl rfl (aq (aE ?_)))
 cases H
 refine aB [] (by decide) rfl ?_
 exact ey (vs:=[I x3,I x4]) rfl ⟨rfl,⟨rfl,trivial⟩⟩ _ rfl ⟨rfl,rfl⟩
theorem dJ.spec (a0_0 a0_1:Int) (r:(Int × Int)) (H:dJ a0_0 a0_1 = r):bn Tryz.prog 44 [agg #[I a0_0,I a0_1]] [] (fun v M=>v = (tU #[I r.1,I r.2]) ∧ M = []):=by
 unfold dJ at H
 refine bk Tryz.func44 rfl 30 rfl (Nat.le_of_ble_eq_true rfl) fun F w0=>?_
 show ck (St 30 w0 F [(0,agg #[I a0_0,I a0_1])] []) _
 refine an (ah ?_)
 refine aH (cl (cs:=[I a0_0,I a0_1]) rfl rfl) rfl rfl rfl ?_
 rintro _ _ ⟨b2,rfl,rfl⟩
 refine aa (ak rfl) rfl rfl rfl (aa (ak rfl) rfl rfl rfl (aq (an (an (ah (aa (aK (vs:=[I a0_0,I a0_1]) rfl br aQ (aP (i:=0) rfl)) rfl rfl rfl ?_))))))
 obtain ⟨x10,h8,H⟩:=bc H
 refine aH (bi (first:=[]) (cap:=[]) (xs:=[.tmp 4]) rfl rfl oy rfl (gH.spec a0_0 a0_1 _ h8)) rfl rfl rfl ?_
 rintro _ _ ⟨rfl,rfl⟩
 refine aa (eu rfl (er _)) rfl rfl rfl (aq ?_)
 refine fE H (fun c52 H=>?_) fun c52 H=>?_
 ·refine az rfl c52 (an (ah (aa (ak rfl) rfl rfl rfl (aa (ak rfl) rfl rfl rfl (aq (aE ?_))))))
  cases H
  refine aB [] (by decide) rfl ?_
  exact ey (vs:=[I 0,I 0]) rfl ⟨rfl,⟨rfl,trivial⟩⟩ _ rfl ⟨rfl,rfl⟩
 refine ay rfl (Bool.eq_false_iff.2 c52) (aN (an ?_))
 refine bR 7 rfl (fun D a w=>jE 30 w0 F [(0,agg #[I a0_0,I a0_1]),(1,pt b2 0),(4,agg #[I a0_0,I a0_1]),(5,bool x10),(6,bool (!x10))] [(0,7,pt b2 1),(1,8,I a0_1),(2,9,pt b2 1),(3,10,I a0_1),(4,11,I (aW (a0_1 + 1))),(5,2,I a0_1),(6,3,I (aW (a0_1 + 1)))] D [box b2 36 [I a0_0,I a0_1]] a w) (by kernel_rfl) (by kernel_rfl) (bF (af (t:=0) rfl (af (t:=1) rfl (af (t:=4) rfl (af (t:=5) rfl (af (t:=6) rfl (aR _)))))) rfl) ?_ ?_
 ·refine ⟨?_,?_,?_,?_,?_,?_,?_,trivial⟩
  ·exact fun D hi hc U=>am (i:=0) (t:=7) (v:=(pt b2 1)) rfl rfl (ao rfl) (fun a=>aj) (av (sz:=0) (o:=0) rfl eZ aY) rfl rfl (ai (k0:=0) rfl rfl rfl)
  ·exact fun D hi hc U=>am (i:=1) (t:=8) (v:=(I a0_1)) rfl rfl (ao rfl) (fun a=>(ae (k:=0) rfl (ar (j:=0) U rfl (by decide) rfl) aj)) (aG (v:=(I a0_1)) rfl ba (aA (i:=0) rfl rfl)) rfl rfl (ai (k0:=1) rfl rfl rfl)
  ·exact fun D hi hc U=>am (i:=2) (t:=9) (v:=(pt b2 1)) rfl rfl (ao rfl) (fun a=>aj) (av (sz:=0) (o:=0) rfl eZ aY) rfl rfl (ai (k0:=2) rfl rfl rfl)
  ·exact fun D hi hc U=>am (i:=3) (t:=10) (v:=(I a0_1)) rfl rfl (ao rfl) (fun a=>(ae (k:=2) rfl (ar (j:=2) U rfl (by decide) rfl) aj)) (aG (v:=(I a0_1)) rfl ba (aA (i:=0) rfl rfl)) rfl rfl (ai (k0:=3) rfl rfl rfl)
  ·exact fun D hi hc U=>am (i:=4) (t:=11) (v:=(I (aW (a0_1 + 1)))) rfl rfl (ao rfl) (fun a=>(ae (k:=3) rfl (ar (j:=3) U rfl (by decide) rfl) aj)) (aF rfl rfl (cr _ _ _) ) rfl rfl (ai (k0:=4) rfl rfl rfl)
  ·exact fun D hi hc U=>am (i:=5) (t:=2) (v:=(I a0_1)) rfl rfl (ao rfl) (fun a=>(ae (k:=1) rfl (ar (j:=1) U rfl (by decide) rfl) aj)) (ak rfl) rfl rfl (ai (k0:=5) rfl rfl rfl)
  ·exact fun D hi hc U=>am (i:=6) (t:=3) (v:=(I (aW (a0_1 + 1)))) rfl rfl (ao rfl) (fun a=>(ae (k:=4) rfl (ar (j:=4) U rfl (by decide) rfl) aj)) (ak rfl) rfl rfl (ai (k0:=6) rfl rfl rfl)
 ·intro D hall
  refine bS [box b2 36 [I a0_0,I a0_1]] rfl (fun a=>(ae (k:=5) rfl (hall 5 (by decide)) (ae (k:=6) rfl (hall 6 (by decide)) (ae (k:=0) rfl (hall 0 (by decide)) (ae (k:=1) rfl (hall 1 (by decide)) (ae (k:=2) rfl (hall 2 (by decide)) (ae (k:=3) rfl (hall 3 (by decide)) (ae (k:=4) rfl (hall 4 (by decide)) aj)))))))) ?_
  refine an (an (ah (aa (av (sz:=0) (o:=0) rfl cF cL) rfl rfl rfl (aa (aG (v:=(I a0_0)) rfl cE (aA (i:=0) rfl rfl)) rfl rfl rfl (aq (bf ?_))))))
  obtain ⟨x15,H7,H⟩:=bc H
  refine cq (fun a w=>∃ v4,x15 = Sum.inl v4 ∧ St 30 w0 F [(2,I v4.1),(3,I v4.2)] [] a w) ?_ ?_
  ·refine bf (an (bf (an (an (an (ah (aa (aF rfl rfl (fc _ _ _)) rfl rfl rfl (aa (ak rfl) rfl rfl rfl (aq ?_)))))))))
   refine fE H7 (fun c99 H7=>?_) fun c99 H7=>?_
   ·refine az rfl (dW c99) (bW (ah (aa (av (sz:=0) (o:=0) rfl eZ aY) rfl rfl rfl (aa (aG (v:=(I a0_1)) rfl ba (aA (i:=0) rfl rfl)) rfl rfl rfl ?_))))
    obtain ⟨x16,h12,H7⟩:=bc H7
    refine aH (bi (first:=[]) (cap:=[]) (xs:=[.tmp 20]) rfl rfl uT rfl (jS.spec a0_1 _ h12)) rfl rfl rfl ?_
    rintro _ _ ⟨rfl,rfl⟩
    refine aa (al rfl) rfl rfl rfl (aa (aT rfl rfl) rfl rfl rfl (aa (aT rfl rfl) rfl rfl rfl (aa (ak rfl) rfl rfl rfl (aa (ak rfl) rfl rfl rfl (aq ?_)))))
    cases H7
    exact bd [] (by decide) rfl (af (t:=2) rfl (af (t:=3) rfl (aR _))) fun a w h=>⟨_,rfl,h⟩
   refine ay rfl (fj c99) (aN (an (ah (aa (aF rfl rfl (fc _ _ _)) rfl rfl rfl (aa (ak rfl) rfl rfl rfl (aq ?_))))))
   refine fE H7 (fun c100 H7=>?_) fun c100 H7=>?_
   ·refine az rfl (dW c100) (bW ?_)
    cases H7
    exact bd [] (by decide) rfl (af (t:=2) rfl (af (t:=3) rfl (aR _))) fun a w h=>⟨_,rfl,h⟩
   refine ay rfl (fj c100) (aN (bW ?_))
   subst H7
   have H8:=show _ = _ from H
   refine an (ah (aa (al rfl) rfl rfl rfl (aa (al rfl) rfl rfl rfl (aa (ak rfl) rfl rfl rfl (aa (ak rfl) rfl rfl rfl (aq (aE ?_)))))))
   cases H8
   refine aB [] (by decide) rfl ?_
   exact ey (vs:=[I a0_1,I (aW (a0_1 + 1))]) rfl ⟨rfl,⟨rfl,trivial⟩⟩ _ rfl ⟨rfl,rfl⟩
  ·refine bh fun v4=>cD fun e_=>?_
   subst e_
   rw [ke] at H
   refine an (ah (aa (al rfl) rfl rfl rfl (aa (aF rfl rfl (lp _ _ _) ) rfl rfl rfl (aa (al rfl) rfl rfl rfl (aa (aF rfl rfl (lp _ _ _) ) rfl rfl rfl (aa (ak rfl) rfl rfl rfl (aa (ak rfl) rfl rfl rfl (aq (bW (an (ah ?_)))))))))))
   refine aa (al rfl) rfl rfl rfl (aa (al rfl) rfl rfl rfl (aa (ak rfl) rfl rfl rfl (aa (ak rfl) rfl rfl rfl (aq (aE ?_)))))
   cases H
   refine aB [] (by decide) rfl ?_
   exact ey (vs:=[I (aW (v4.1 * 24)),I (aW (v4.2 * 24))]) rfl ⟨rfl,⟨rfl,trivial⟩⟩ _ rfl ⟨rfl,rfl⟩
theorem cM.spec (p0 p1:Nat) (sv0:Value) (p2:Nat) (a0:Int) (l0:List ag) (p2_0:Int) (r:Bool) (H:cM a0 l0 p2_0 = some r):bn Tryz.prog 105 [I a0,pt p0 0,pt p2 0] [box p0 96 [pt p1 0],box p1 130 [sv0],own sv0 135 7 l0.length (fl ac l0),box p2 2 [I p2_0]] (fun v M=>v = (bool r) ∧ M = [box p0 96 [pt p1 0],box p1 130 [sv0],own sv0 135 7 l0.length (fl ac l0),box p2 2 [I p2_0]]):=by
 unfold cM at H
 refine bk Tryz.func105 rfl 15 rfl (Nat.le_of_ble_eq_true rfl) fun F w0=>?_
 let C0_:List HP:=[box p0 96 [pt p1 0],box p1 130 [sv0],own sv0 135 7 l0.length (fl ac l0),box p2 2 [I p2_0]]
 show ck (St 15 w0 F [(0,I a0),(1,pt p0 0),(2,pt p2 0)] C0_) _
 refine an (ah (aa (ak rfl) rfl rfl rfl (aq (an ?_))))
 obtain ⟨c3,H⟩:=ji H
 obtain ⟨c4,H⟩:=ji H
 refine bR 11 rfl (fun D a w=>jE 15 w0 F [(0,I a0),(1,pt p0 0),(2,pt p2 0)] [(0,5,pt p1 0),(1,6,pt p1 0),(2,7,pt p1 0),(3,8,sv0),(4,9,I a0),(5,10,(dA sv0 (a0.toNat * 7))),(6,11,(dA sv0 (a0.toNat * 7 + 0))),(7,12,I ((l0.getD a0.toNat ap).k)),(8,13,I p2_0),(9,14,bool (decide (p2_0 ≤ ((l0.getD a0.toNat ap).k)))),(10,4,bool (decide (p2_0 ≤ ((l0.getD a0.toNat ap).k))))] D C0_ a w) (by kernel_rfl) (by kernel_rfl) (bF (af (t:=0) rfl (af (t:=1) rfl (af (t:=2) rfl (aR _)))) rfl) ?_ ?_
 ·refine ⟨?_,?_,?_,?_,?_,?_,?_,?_,?_,?_,?_,trivial⟩
  ·exact fun D hi hc U=>am (i:=0) (t:=5) (v:=(pt p1 0)) rfl rfl (ao rfl) (fun a=>aj) (aG (v:=(pt p1 0)) rfl eC (aA (i:=0) rfl rfl)) rfl rfl (ai (k0:=0) rfl rfl rfl)
  ·exact fun D hi hc U=>am (i:=1) (t:=6) (v:=(pt p1 0)) rfl rfl (ao rfl) (fun a=>(ae (k:=0) rfl (ar (j:=0) U rfl (by decide) rfl) aj)) (bq rfl) rfl rfl (ai (k0:=1) rfl rfl rfl)
  ·exact fun D hi hc U=>am (i:=2) (t:=7) (v:=(pt p1 0)) rfl rfl (ao rfl) (fun a=>(ae (k:=1) rfl (ar (j:=1) U rfl (by decide) rfl) aj)) (av (sz:=0) (o:=0) rfl ce cX) rfl rfl (ai (k0:=2) rfl rfl rfl)
  ·exact fun D hi hc U=>am (i:=3) (t:=8) (v:=sv0) rfl rfl (ao rfl) (fun a=>(ae (k:=2) rfl (ar (j:=2) U rfl (by decide) rfl) aj)) (aG (v:=sv0) rfl dK (aA (i:=1) rfl rfl)) rfl rfl (ai (k0:=3) rfl rfl rfl)
  ·exact fun D hi hc U=>am (i:=4) (t:=9) (v:=(I a0)) rfl rfl (ao rfl) (fun a=>aj) (al rfl) rfl rfl (ai (k0:=4) rfl rfl rfl)
  ·exact fun D hi hc U=>am (i:=5) (t:=10) (v:=(dA sv0 (a0.toNat * 7))) rfl rfl (ao rfl) (fun a=>(ae (k:=4) rfl (ar (j:=4) U rfl (by decide) rfl) (ae (k:=3) rfl (ar (j:=3) U rfl (by decide) rfl) aj))) (bw (sz:=6) 2 rfl rfl bu bY rfl (bb 135) c3 c4) rfl rfl (ai (k0:=5) rfl rfl rfl)
  ·exact fun D hi hc U=>am (i:=6) (t:=11) (v:=(dA sv0 (a0.toNat * 7 + 0))) rfl rfl (ao rfl) (fun a=>(ae (k:=5) rfl (ar (j:=5) U rfl (by decide) rfl) aj)) (cx (sz:=0) (k0:=a0.toNat * 7) (off:=0) 2 rfl gR aY rfl (bb 135) (hE aM (dF c3 c4))) rfl rfl (ai (k0:=6) rfl rfl rfl)
  ·exact fun D hi hc U=>am (i:=7) (t:=12) (v:=(I ((l0.getD a0.toNat ap).k))) rfl rfl (ao rfl) (fun a=>(ae (k:=6) rfl (ar (j:=6) U rfl (by decide) rfl) aj)) (aG (v:=(I ((l0.getD a0.toNat ap).k))) rfl ba (cU (i:=2) rfl (bb 135) (by simp [C0_]) (gi (off:=0) aM (dF c3 c4) rfl))) rfl rfl (ai (k0:=7) rfl rfl rfl)
  ·exact fun D hi hc U=>am (i:=8) (t:=13) (v:=(I p2_0)) rfl rfl (ao rfl) (fun a=>aj) (aG (v:=(I p2_0)) rfl ba (aA (i:=3) rfl rfl)) rfl rfl (ai (k0:=8) rfl rfl rfl)
  ·exact fun D hi hc U=>am (i:=9) (t:=14) (v:=(bool (decide (p2_0 ≤ ((l0.getD a0.toNat ap).k))))) rfl rfl (ao rfl) (fun a=>(ae (k:=8) rfl (ar (j:=8) U rfl (by decide) rfl) (ae (k:=7) rfl (ar (j:=7) U rfl (by decide) rfl) aj))) (aF rfl rfl (jI _ _ _)) rfl rfl (ai (k0:=9) rfl rfl rfl)
  ·exact fun D hi hc U=>am (i:=10) (t:=4) (v:=(bool (decide (p2_0 ≤ ((l0.getD a0.toNat ap).k))))) rfl rfl (ao rfl) (fun a=>(ae (k:=9) rfl (ar (j:=9) U rfl (by decide) rfl) aj)) (ak rfl) rfl rfl (ai (k0:=10) rfl rfl rfl)
 ·intro D hall
  refine bS C0_ rfl (fun a=>(ae (k:=10) rfl (hall 10 (by decide)) (ae (k:=0) rfl (hall 0 (by decide)) (ae (k:=1) rfl (hall 1 (by decide)) (ae (k:=2) rfl (hall 2 (by decide)) (ae (k:=3) rfl (hall 3 (by decide)) (ae (k:=4) rfl (hall 4 (by decide)) (ae (k:=5) rfl (hall 5 (by decide)) (ae (k:=6) rfl (hall 6 (by decide)) (ae (k:=7) rfl (hall 7 (by decide)) (ae (k:=8) rfl (hall 8 (by decide)) (ae (k:=9) rfl (hall 9 (by decide)) aj)))))))))))) ?_
  refine aE ?_
  cases H
  refine aB [0,1,2,3] (by decide) rfl ?_
  exact aS rfl rfl ⟨rfl,rfl⟩
theorem jf.spec (K p0 p1:Nat) (sv0:Value) (p2:Nat) (a0:Int) (l0:List ag) (p2_0 r:Int) (H:jf K a0 l0 p2_0 = some r):bn Tryz.prog 104 [I a0,(Value.func (.func 105) #[] #[pt p0 0,pt p2 0])] [box p0 96 [pt p1 0],box p1 130 [sv0],own sv0 135 7 l0.length (fl ac l0),box p2 2 [I p2_0]] (fun v M=>v = (I r) ∧ M = [box p0 96 [pt p1 0],box p1 130 [sv0],own sv0 135 7 l0.length (fl ac l0),box p2 2 [I p2_0]]):=by
 unfold jf at H
 refine bk Tryz.func104 rfl 26 rfl (Nat.le_of_ble_eq_true rfl) fun F w0=>?_
 let C0_:List HP:=[box p0 96 [pt p1 0],box p1 130 [sv0],own sv0 135 7 l0.length (fl ac l0),box p2 2 [I p2_0]]
 show ck (St 26 w0 F [(0,I a0),(1,(Value.func (.func 105) #[] #[pt p0 0,pt p2 0]))] C0_) _
 refine an (ah (aa (ak rfl) rfl rfl rfl (aq (an (ah (aa (al rfl) rfl rfl rfl (aa (ak rfl) rfl rfl rfl (aa (ak rfl) rfl rfl rfl (aq (an (bf ?_)))))))))))
 refine dy (fun k a w=>∃ i7,∃ i9,fR K l0 p2_0 k i7 i9 = some r ∧ St 26 w0 F [(1,(Value.func (.func 105) #[] #[pt p0 0,pt p2 0])),(5,I i7),(6,I i9)] C0_ a w) K ?_ ?_
 ·exact bd [0,1,2,3] (by decide) rfl (af (t:=1) rfl (af (t:=5) rfl (af (t:=6) rfl (aR _)))) fun a w h=>⟨_,_,H,h⟩
 ·refine fun k=>bh fun i7=>bh fun i9=>cD fun H4=>?_
  cases k with
  | zero=>exact absurd H4 (by simp [C0_,fR])
  | succ k =>
   rw [fR] at H4
   refine an (an (ah (aa (al rfl) rfl rfl rfl (aa (al rfl) rfl rfl rfl (aa (aF rfl rfl (cK _ _ _)) rfl rfl rfl (aq ?_))))))
   refine hQ H4 (fun c35 H4=>?_) fun c35 H4=>?_
   ·refine ay rfl (decide_eq_false c35) (bW (an (ah (aa (al rfl) rfl rfl rfl (aa (ak rfl) rfl rfl rfl (aq (aE ?_)))))))
    cases H4
    refine aB [0,1,2,3] (by decide) rfl ?_
    exact aS rfl rfl ⟨rfl,rfl⟩
   refine az rfl (decide_eq_true c35) (aN (bf (an (ah (aa (al rfl) rfl rfl rfl (aa (al rfl) rfl rfl rfl (aa (aF rfl rfl (cr _ _ _) ) rfl rfl rfl (aa (kv rfl (rz Tryz.underlying3 Tryz.underlying150)) rfl rfl rfl ?_))))))))
   refine aa (aF rfl rfl fun w=>xn _ _ _ _ w (by decide)) rfl rfl rfl ?_
   refine aa (kv rfl (rz Tryz.underlying150 Tryz.underlying3)) rfl rfl rfl (aa (ak rfl) rfl rfl rfl (aq (an (ah (aa (al rfl) rfl rfl rfl (aa (al rfl) rfl rfl rfl ?_))))))
   obtain ⟨x12,h12,H4⟩:=Option.bind_eq_some_iff.1 H4
   refine aH (bH (Lr:=[]) [0,1,2,3] [0,1,2,3] (first:=[]) (cap:=[pt p0 0,pt p2 0]) (xs:=[.tmp 19]) rfl rfl qc rfl (cM.spec p0 p1 sv0 p2 (aW (oM .u64 (pp (aW (i7 + i9))) 1)) l0 p2_0 _ h12) (by decide) rfl (by decide) rfl) rfl rfl rfl ?_
   rintro _ _ ⟨rfl,rfl⟩
   refine aa (eu rfl (er _)) rfl rfl rfl (aq ?_)
   refine hQ H4 (fun c36 H4=>?_) fun c36 H4=>?_
   ·refine ay rfl (Bool.eq_false_iff.2 c36) (ah (aa (al rfl) rfl rfl rfl (aa (ak rfl) rfl rfl rfl (aq ?_))))
    exact bd [0,1,2,3] (by decide) rfl (af (t:=1) rfl (af (t:=5) rfl (af (t:=6) rfl (aR _)))) fun a w h=>⟨k,Nat.lt_succ_self k,_,_,H4,h⟩
   refine az rfl c36 (ah (aa (al rfl) rfl rfl rfl (aa (aF rfl rfl (cr _ _ _) ) rfl rfl rfl (aa (ak rfl) rfl rfl rfl (aq ?_)))))
   exact bd [0,1,2,3] (by decide) rfl (af (t:=1) rfl (af (t:=5) rfl (af (t:=6) rfl (aR _)))) fun a w h=>⟨k,Nat.lt_succ_self k,_,_,H4,h⟩
theorem bt.spec (K p0:Nat) (sv0:Value) (l0:List ag) (a1:Int) (r:(Bool × Int)) (H:bt K l0 a1 = some r):bn Tryz.prog 77 [pt p0 0,I a1] [box p0 130 [sv0],own sv0 135 7 l0.length (fl ac l0)] (fun v M=>v = (tU #[I r.2,bool r.1]) ∧ M = [box p0 130 [sv0],own sv0 135 7 l0.length (fl ac l0)]):=by
 unfold bt at H
 refine bk Tryz.func77 rfl 36 rfl (Nat.le_of_ble_eq_true rfl) fun F w0=>?_
 show ck (St 36 w0 F [(0,pt p0 0),(1,I a1)] [box p0 130 [sv0],own sv0 135 7 l0.length (fl ac l0)]) _
 refine an (ah ?_)
 refine aH (cl (cs:=[pt p0 0]) rfl rfl) rfl rfl rfl ?_
 rintro _ _ ⟨b3,rfl,rfl⟩
 refine aH (cl (cs:=[I a1]) rfl rfl) rfl rfl rfl ?_
 rintro _ _ ⟨b4,rfl,rfl⟩
 let C0_:List HP:=[box b4 2 [I a1],box b3 96 [pt p0 0],box p0 130 [sv0],own sv0 135 7 l0.length (fl ac l0)]
 refine aa (ak rfl) rfl rfl rfl (aa (ak rfl) rfl rfl rfl (aq (an (an (ah (aa (aG (v:=(pt p0 0)) rfl eC (aA (i:=1) rfl rfl)) rfl rfl rfl ?_))))))
 refine aa (aF rfl rfl (fx (fun w=>rfl) rfl (kj Tryz.underlying96 _ _))) rfl rfl rfl ?_
 refine aq (ay rfl rfl (aN (an (ah (aa (aG (v:=(pt p0 0)) rfl eC (aA (i:=1) rfl rfl)) rfl rfl rfl (aa (bq rfl) rfl rfl rfl (aa (av (sz:=0) (o:=0) rfl ce cX) rfl rfl rfl (aa (aG (v:=sv0) rfl dK (aA (i:=2) rfl rfl)) rfl rfl rfl (aa (fz 3 rfl bu rfl (bb 135)) rfl rfl rfl (aa (fm (first:=[]) (cap:=[.tmp 2,.tmp 3]) rfl rfl) rfl rfl rfl ?_))))))))))
 obtain ⟨x2,h2,H⟩:=Option.bind_eq_some_iff.1 H
 refine aH (bH (Lr:=[]) [1,2,3,0] [3,0,1,2] (first:=[]) (cap:=[]) (xs:=[.tmp 13,.tmp 14]) rfl rfl nw rfl (jf.spec K b3 p0 sv0 b4 (l0.length:Int) l0 a1 _ h2) (by decide) rfl (by decide) rfl) rfl rfl rfl ?_
 rintro _ _ ⟨rfl,rfl⟩
 refine aa (ak rfl) rfl rfl rfl (aq (an ?_))
 refine hQ H (fun c3 H=>?_) fun c3 H=>?_
 ·refine bR 22 rfl (fun D a w=>jE 36 w0 F [(0,pt p0 0),(1,I a1),(2,pt b3 0),(3,pt b4 0),(6,I x2),(7,pt p0 0),(8,B0),(9,pt p0 0),(10,pt p0 0),(11,pt p0 0),(12,sv0),(13,I (l0.length:Int)),(14,(Value.func (.func 105) #[] #[pt b3 0,pt b4 0])),(15,I x2)] [(0,16,I x2),(1,17,I x2),(2,18,pt p0 0),(3,19,pt p0 0),(4,20,pt p0 0),(5,21,sv0),(6,22,I (l0.length:Int)),(7,23,bool (decide (x2 < (l0.length:Int)))),(8,24,bool (decide (x2 < (l0.length:Int)))),(9,25,undef),(10,26,undef),(11,27,undef),(12,28,undef),(13,29,undef),(14,30,undef),(15,31,undef),(16,32,undef),(17,33,undef),(18,34,undef),(19,35,B0),(20,4,I x2),(21,5,B0)] D C0_ a w) (by kernel_rfl) (by kernel_rfl) (bF (af (t:=0) rfl (af (t:=1) rfl (af (t:=2) rfl (af (t:=3) rfl (af (t:=6) rfl (af (t:=7) rfl (af (t:=8) rfl (af (t:=9) rfl (af (t:=10) rfl (af (t:=11) rfl (af (t:=12) rfl (af (t:=13) rfl (af (t:=14) rfl (af (t:=15) rfl (aR _))))))))))))))) rfl) ?_ ?_
  ·refine ⟨?_,?_,?_,?_,?_,?_,?_,?_,?_,?_,?_,?_,?_,?_,?_,?_,?_,?_,?_,?_,?_,?_,trivial⟩
   ·exact fun D hi hc U=>am (i:=0) (t:=16) (v:=(I x2)) rfl rfl (ao rfl) (fun a=>aj) (al rfl) rfl rfl (ai (k0:=0) rfl rfl rfl)
   ·exact fun D hi hc U=>am (i:=1) (t:=17) (v:=(I x2)) rfl rfl (ao rfl) (fun a=>aj) (al rfl) rfl rfl (ai (k0:=1) rfl rfl rfl)
   ·exact fun D hi hc U=>am (i:=2) (t:=18) (v:=(pt p0 0)) rfl rfl (ao rfl) (fun a=>aj) (aG (v:=(pt p0 0)) rfl eC (aA (i:=1) rfl rfl)) rfl rfl (ai (k0:=2) rfl rfl rfl)
   ·exact fun D hi hc U=>am (i:=3) (t:=19) (v:=(pt p0 0)) rfl rfl (ao rfl) (fun a=>(ae (k:=2) rfl (ar (j:=2) U rfl (by decide) rfl) aj)) (bq rfl) rfl rfl (ai (k0:=3) rfl rfl rfl)
   ·exact fun D hi hc U=>am (i:=4) (t:=20) (v:=(pt p0 0)) rfl rfl (ao rfl) (fun a=>(ae (k:=3) rfl (ar (j:=3) U rfl (by decide) rfl) aj)) (av (sz:=0) (o:=0) rfl ce cX) rfl rfl (ai (k0:=4) rfl rfl rfl)
   ·exact fun D hi hc U=>am (i:=5) (t:=21) (v:=sv0) rfl rfl (ao rfl) (fun a=>(ae (k:=4) rfl (ar (j:=4) U rfl (by decide) rfl) aj)) (aG (v:=sv0) rfl dK (aA (i:=2) rfl rfl)) rfl rfl (ai (k0:=5) rfl rfl rfl)
   ·exact fun D hi hc U=>am (i:=6) (t:=22) (v:=(I (l0.length:Int))) rfl rfl (ao rfl) (fun a=>(ae (k:=5) rfl (ar (j:=5) U rfl (by decide) rfl) aj)) (fz 3 rfl bu rfl (bb 135)) rfl rfl (ai (k0:=6) rfl rfl rfl)
   ·exact fun D hi hc U=>am (i:=7) (t:=23) (v:=(bool (decide (x2 < (l0.length:Int))))) rfl rfl (ao rfl) (fun a=>(ae (k:=6) rfl (ar (j:=6) U rfl (by decide) rfl) (ae (k:=1) rfl (ar (j:=1) U rfl (by decide) rfl) aj))) (aF rfl rfl (cK _ _ _)) rfl rfl (ai (k0:=7) rfl rfl rfl)
   ·exact fun D hi hc U=>am (i:=8) (t:=24) (v:=(bool (decide (x2 < (l0.length:Int))))) rfl rfl (ao rfl) (fun a=>(ae (k:=7) rfl (ar (j:=7) U rfl (by decide) rfl) aj)) (al rfl) rfl rfl (ai (k0:=8) rfl rfl rfl)
   ·exact fun D hi hc U=>aX (i:=9) (t:=25) rfl rfl (aL rfl rfl rfl (decide_eq_false c3)) (fun a=>(ae (k:=8) rfl (ar (j:=8) U rfl (by decide) rfl) aj)) rfl rfl (ai (k0:=9) rfl rfl rfl)
   ·exact fun D hi hc U=>aX (i:=10) (t:=26) rfl rfl (aL rfl rfl rfl (decide_eq_false c3)) (fun a=>(ae (k:=8) rfl (ar (j:=8) U rfl (by decide) rfl) aj)) rfl rfl (ai (k0:=10) rfl rfl rfl)
   ·exact fun D hi hc U=>aX (i:=11) (t:=27) rfl rfl (aL rfl rfl rfl (decide_eq_false c3)) (fun a=>(ae (k:=8) rfl (ar (j:=8) U rfl (by decide) rfl) aj)) rfl rfl (ai (k0:=11) rfl rfl rfl)
   ·exact fun D hi hc U=>aX (i:=12) (t:=28) rfl rfl (aL rfl rfl rfl (decide_eq_false c3)) (fun a=>(ae (k:=8) rfl (ar (j:=8) U rfl (by decide) rfl) aj)) rfl rfl (ai (k0:=12) rfl rfl rfl)
   ·exact fun D hi hc U=>aX (i:=13) (t:=29) rfl rfl (aL rfl rfl rfl (decide_eq_false c3)) (fun a=>(ae (k:=8) rfl (ar (j:=8) U rfl (by decide) rfl) aj)) rfl rfl (ai (k0:=13) rfl rfl rfl)
   ·exact fun D hi hc U=>aX (i:=14) (t:=30) rfl rfl (aL rfl rfl rfl (decide_eq_false c3)) (fun a=>(ae (k:=8) rfl (ar (j:=8) U rfl (by decide) rfl) aj)) rfl rfl (ai (k0:=14) rfl rfl rfl)
   ·exact fun D hi hc U=>aX (i:=15) (t:=31) rfl rfl (aL rfl rfl rfl (decide_eq_false c3)) (fun a=>(ae (k:=8) rfl (ar (j:=8) U rfl (by decide) rfl) aj)) rfl rfl (ai (k0:=15) rfl rfl rfl)
   ·exact fun D hi hc U=>aX (i:=16) (t:=32) rfl rfl (aL rfl rfl rfl (decide_eq_false c3)) (fun a=>(ae (k:=8) rfl (ar (j:=8) U rfl (by decide) rfl) aj)) rfl rfl (ai (k0:=16) rfl rfl rfl)
   ·exact fun D hi hc U=>aX (i:=17) (t:=33) rfl rfl (aL rfl rfl rfl (decide_eq_false c3)) (fun a=>(ae (k:=8) rfl (ar (j:=8) U rfl (by decide) rfl) aj)) rfl rfl (ai (k0:=17) rfl rfl rfl)
   ·exact fun D hi hc U=>aX (i:=18) (t:=34) rfl rfl (aL rfl rfl rfl (decide_eq_false c3)) (fun a=>(ae (k:=8) rfl (ar (j:=8) U rfl (by decide) rfl) aj)) rfl rfl (ai (k0:=18) rfl rfl rfl)
   ·exact fun D hi hc U=>am (i:=19) (t:=35) (v:=B0) rfl rfl (ao rfl) (fun a=>(ae (k:=18) rfl (ar (j:=18) U rfl (by decide) rfl) (ae (k:=8) rfl (ar (j:=8) U rfl (by decide) rfl) aj))) (aJ rfl rfl rfl (bG (decide_eq_false c3))) rfl rfl (ai (k0:=19) rfl rfl rfl)
   ·exact fun D hi hc U=>am (i:=20) (t:=4) (v:=(I x2)) rfl rfl (ao rfl) (fun a=>(ae (k:=0) rfl (ar (j:=0) U rfl (by decide) rfl) aj)) (ak rfl) rfl rfl (ai (k0:=20) rfl rfl rfl)
   ·exact fun D hi hc U=>am (i:=21) (t:=5) (v:=B0) rfl rfl (ao rfl) (fun a=>(ae (k:=19) rfl (ar (j:=19) U rfl (by decide) rfl) aj)) (ak rfl) rfl rfl (ai (k0:=21) rfl rfl rfl)
  ·intro D hall
   refine bS C0_ rfl (fun a=>(ae (k:=20) rfl (hall 20 (by decide)) (ae (k:=21) rfl (hall 21 (by decide)) (ae (k:=0) rfl (hall 0 (by decide)) (ae (k:=1) rfl (hall 1 (by decide)) (ae (k:=2) rfl (hall 2 (by decide)) (ae (k:=3) rfl (hall 3 (by decide)) (ae (k:=4) rfl (hall 4 (by decide)) (ae (k:=5) rfl (hall 5 (by decide)) (ae (k:=6) rfl (hall 6 (by decide)) (ae (k:=7) rfl (hall 7 (by decide)) (ae (k:=8) rfl (hall 8 (by decide)) (ae (k:=9) rfl (hall 9 (by decide)) (ae (k:=10) rfl (hall 10 (by decide)) (ae (k:=11) rfl (hall 11 (by decide)) (ae (k:=12) rfl (hall 12 (by decide)) (ae (k:=13) rfl (hall 13 (by decide)) (ae (k:=14) rfl (hall 14 (by decide)) (ae (k:=15) rfl (hall 15 (by decide)) (ae (k:=16) rfl (hall 16 (by decide)) (ae (k:=17) rfl (hall 17 (by decide)) (ae (k:=18) rfl (hall 18 (by decide)) (ae (k:=19) rfl (hall 19 (by decide)) aj))))))))))))))))))))))) ?_
   refine aE ?_
   cases H
   refine aB [2,3] (by decide) rfl ?_
   exact ey (vs:=[I x2,B0]) rfl ⟨rfl,⟨rfl,trivial⟩⟩ _ rfl ⟨rfl,rfl⟩
 obtain ⟨c4,H⟩:=ji H
 refine bR 22 rfl (fun D a w=>jE 36 w0 F [(0,pt p0 0),(1,I a1),(2,pt b3 0),(3,pt b4 0),(6,I x2),(7,pt p0 0),(8,B0),(9,pt p0 0),(10,pt p0 0),(11,pt p0 0),(12,sv0),(13,I (l0.length:Int)),(14,(Value.func (.func 105) #[] #[pt b3 0,pt b4 0])),(15,I x2)] [(0,16,I x2),(1,17,I x2),(2,18,pt p0 0),(3,19,pt p0 0),(4,20,pt p0 0),(5,21,sv0),(6,22,I (l0.length:Int)),(7,23,bool (decide (x2 < (l0.length:Int)))),(8,24,bool (decide (x2 < (l0.length:Int)))),(9,25,pt p0 0),(10,26,pt p0 0),(11,27,pt p0 0),(12,28,sv0),(13,29,I x2),(14,30,(dA sv0 (x2.toNat * 7))),(15,31,(dA sv0 (x2.toNat * 7 + 0))),(16,32,I ((l0.getD x2.toNat ap).k)),(17,33,I a1),(18,34,bool (((l0.getD x2.toNat ap).k) == a1)),(19,35,bool (((l0.getD x2.toNat ap).k) == a1)),(20,4,I x2),(21,5,bool (((l0.getD x2.toNat ap).k) == a1))] D C0_ a w) (by kernel_rfl) (by kernel_rfl) (bF (af (t:=0) rfl (af (t:=1) rfl (af (t:=2) rfl (af (t:=3) rfl (af (t:=6) rfl (af (t:=7) rfl (af (t:=8) rfl (af (t:=9) rfl (af (t:=10) rfl (af (t:=11) rfl (af (t:=12) rfl (af (t:=13) rfl (af (t:=14) rfl (af (t:=15) rfl (aR _))))))))))))))) rfl) ?_ ?_
 ·refine ⟨?_,?_,?_,?_,?_,?_,?_,?_,?_,?_,?_,?_,?_,?_,?_,?_,?_,?_,?_,?_,?_,?_,trivial⟩
  ·exact fun D hi hc U=>am (i:=0) (t:=16) (v:=(I x2)) rfl rfl (ao rfl) (fun a=>aj) (al rfl) rfl rfl (ai (k0:=0) rfl rfl rfl)
  ·exact fun D hi hc U=>am (i:=1) (t:=17) (v:=(I x2)) rfl rfl (ao rfl) (fun a=>aj) (al rfl) rfl rfl (ai (k0:=1) rfl rfl rfl)
  ·exact fun D hi hc U=>am (i:=2) (t:=18) (v:=(pt p0 0)) rfl rfl (ao rfl) (fun a=>aj) (aG (v:=(pt p0 0)) rfl eC (aA (i:=1) rfl rfl)) rfl rfl (ai (k0:=2) rfl rfl rfl)
  ·exact fun D hi hc U=>am (i:=3) (t:=19) (v:=(pt p0 0)) rfl rfl (ao rfl) (fun a=>(ae (k:=2) rfl (ar (j:=2) U rfl (by decide) rfl) aj)) (bq rfl) rfl rfl (ai (k0:=3) rfl rfl rfl)
  ·exact fun D hi hc U=>am (i:=4) (t:=20) (v:=(pt p0 0)) rfl rfl (ao rfl) (fun a=>(ae (k:=3) rfl (ar (j:=3) U rfl (by decide) rfl) aj)) (av (sz:=0) (o:=0) rfl ce cX) rfl rfl (ai (k0:=4) rfl rfl rfl)
  ·exact fun D hi hc U=>am (i:=5) (t:=21) (v:=sv0) rfl rfl (ao rfl) (fun a=>(ae (k:=4) rfl (ar (j:=4) U rfl (by decide) rfl) aj)) (aG (v:=sv0) rfl dK (aA (i:=2) rfl rfl)) rfl rfl (ai (k0:=5) rfl rfl rfl)
  ·exact fun D hi hc U=>am (i:=6) (t:=22) (v:=(I (l0.length:Int))) rfl rfl (ao rfl) (fun a=>(ae (k:=5) rfl (ar (j:=5) U rfl (by decide) rfl) aj)) (fz 3 rfl bu rfl (bb 135)) rfl rfl (ai (k0:=6) rfl rfl rfl)
  ·exact fun D hi hc U=>am (i:=7) (t:=23) (v:=(bool (decide (x2 < (l0.length:Int))))) rfl rfl (ao rfl) (fun a=>(ae (k:=6) rfl (ar (j:=6) U rfl (by decide) rfl) (ae (k:=1) rfl (ar (j:=1) U rfl (by decide) rfl) aj))) (aF rfl rfl (cK _ _ _)) rfl rfl (ai (k0:=7) rfl rfl rfl)
  ·exact fun D hi hc U=>am (i:=8) (t:=24) (v:=(bool (decide (x2 < (l0.length:Int))))) rfl rfl (ao rfl) (fun a=>(ae (k:=7) rfl (ar (j:=7) U rfl (by decide) rfl) aj)) (al rfl) rfl rfl (ai (k0:=8) rfl rfl rfl)
  ·exact fun D hi hc U=>am (i:=9) (t:=25) (v:=(pt p0 0)) rfl rfl (aU rfl rfl rfl (decide_eq_true c3)) (fun a=>(ae (k:=8) rfl (ar (j:=8) U rfl (by decide) rfl) aj)) (aG (v:=(pt p0 0)) rfl eC (aA (i:=1) rfl rfl)) rfl rfl (ai (k0:=9) rfl rfl rfl)
  ·exact fun D hi hc U=>am (i:=10) (t:=26) (v:=(pt p0 0)) rfl rfl (aU rfl rfl rfl (decide_eq_true c3)) (fun a=>(ae (k:=8) rfl (ar (j:=8) U rfl (by decide) rfl) (ae (k:=9) rfl (ar (j:=9) U rfl (by decide) rfl) aj))) (bq rfl) rfl rfl (ai (k0:=10) rfl rfl rfl)
  ·exact fun D hi hc U=>am (i:=11) (t:=27) (v:=(pt p0 0)) rfl rfl (aU rfl rfl rfl (decide_eq_true c3)) (fun a=>(ae (k:=8) rfl (ar (j:=8) U rfl (by decide) rfl) (ae (k:=10) rfl (ar (j:=10) U rfl (by decide) rfl) aj))) (av (sz:=0) (o:=0) rfl ce cX) rfl rfl (ai (k0:=11) rfl rfl rfl)
  ·exact fun D hi hc U=>am (i:=12) (t:=28) (v:=sv0) rfl rfl (aU rfl rfl rfl (decide_eq_true c3)) (fun a=>(ae (k:=8) rfl (ar (j:=8) U rfl (by decide) rfl) (ae (k:=11) rfl (ar (j:=11) U rfl (by decide) rfl) aj))) (aG (v:=sv0) rfl dK (aA (i:=2) rfl rfl)) rfl rfl (ai (k0:=12) rfl rfl rfl)
  ·exact fun D hi hc U=>am (i:=13) (t:=29) (v:=(I x2)) rfl rfl (aU rfl rfl rfl (decide_eq_true c3)) (fun a=>(ae (k:=8) rfl (ar (j:=8) U rfl (by decide) rfl) aj)) (al rfl) rfl rfl (ai (k0:=13) rfl rfl rfl)
  ·exact fun D hi hc U=>am (i:=14) (t:=30) (v:=(dA sv0 (x2.toNat * 7))) rfl rfl (aU rfl rfl rfl (decide_eq_true c3)) (fun a=>(ae (k:=8) rfl (ar (j:=8) U rfl (by decide) rfl) (ae (k:=13) rfl (ar (j:=13) U rfl (by decide) rfl) (ae (k:=12) rfl (ar (j:=12) U rfl (by decide) rfl) aj)))) (bw (sz:=6) 3 rfl rfl bu bY rfl (bb 135) c4 c3) rfl rfl (ai (k0:=14) rfl rfl rfl)
  ·exact fun D hi hc U=>am (i:=15) (t:=31) (v:=(dA sv0 (x2.toNat * 7 + 0))) rfl rfl (aU rfl rfl rfl (decide_eq_true c3)) (fun a=>(ae (k:=8) rfl (ar (j:=8) U rfl (by decide) rfl) (ae (k:=14) rfl (ar (j:=14) U rfl (by decide) rfl) aj))) (cx (sz:=0) (k0:=x2.toNat * 7) (off:=0) 3 rfl gR aY rfl (bb 135) (hE aM (dF c4 c3))) rfl rfl (ai (k0:=15) rfl rfl rfl)
  ·exact fun D hi hc U=>am (i:=16) (t:=32) (v:=(I ((l0.getD x2.toNat ap).k))) rfl rfl (aU rfl rfl rfl (decide_eq_true c3)) (fun a=>(ae (k:=8) rfl (ar (j:=8) U rfl (by decide) rfl) (ae (k:=15) rfl (ar (j:=15) U rfl (by decide) rfl) aj))) (aG (v:=(I ((l0.getD x2.toNat ap).k))) rfl ba (cU (i:=3) rfl (bb 135) (by simp [C0_]) (gi (off:=0) aM (dF c4 c3) rfl))) rfl rfl (ai (k0:=16) rfl rfl rfl)
  ·exact fun D hi hc U=>am (i:=17) (t:=33) (v:=(I a1)) rfl rfl (aU rfl rfl rfl (decide_eq_true c3)) (fun a=>(ae (k:=8) rfl (ar (j:=8) U rfl (by decide) rfl) aj)) (aG (v:=(I a1)) rfl ba (aA (i:=0) rfl rfl)) rfl rfl (ai (k0:=17) rfl rfl rfl)
  ·exact fun D hi hc U=>am (i:=18) (t:=34) (v:=(bool (((l0.getD x2.toNat ap).k) == a1))) rfl rfl (aU rfl rfl rfl (decide_eq_true c3)) (fun a=>(ae (k:=8) rfl (ar (j:=8) U rfl (by decide) rfl) (ae (k:=17) rfl (ar (j:=17) U rfl (by decide) rfl) (ae (k:=16) rfl (ar (j:=16) U rfl (by decide) rfl) aj)))) (aF rfl rfl (fc _ _ _)) rfl rfl (ai (k0:=18) rfl rfl rfl)
  ·exact fun D hi hc U=>am (i:=19) (t:=35) (v:=(bool (((l0.getD x2.toNat ap).k) == a1))) rfl rfl (ao rfl) (fun a=>(ae (k:=18) rfl (ar (j:=18) U rfl (by decide) rfl) (ae (k:=8) rfl (ar (j:=8) U rfl (by decide) rfl) aj))) (aJ rfl rfl rfl (bC (decide_eq_true c3))) rfl rfl (ai (k0:=19) rfl rfl rfl)
  ·exact fun D hi hc U=>am (i:=20) (t:=4) (v:=(I x2)) rfl rfl (ao rfl) (fun a=>(ae (k:=0) rfl (ar (j:=0) U rfl (by decide) rfl) aj)) (ak rfl) rfl rfl (ai (k0:=20) rfl rfl rfl)
  ·exact fun D hi hc U=>am (i:=21) (t:=5) (v:=(bool (((l0.getD x2.toNat ap).k) == a1))) rfl rfl (ao rfl) (fun a=>(ae (k:=19) rfl (ar (j:=19) U rfl (by decide) rfl) aj)) (ak rfl) rfl rfl (ai (k0:=21) rfl rfl rfl)
 ·intro D hall
  refine bS C0_ rfl (fun a=>(ae (k:=20) rfl (hall 20 (by decide)) (ae (k:=21) rfl (hall 21 (by decide)) (ae (k:=0) rfl (hall 0 (by decide)) (ae (k:=1) rfl (hall 1 (by decide)) (ae (k:=2) rfl (hall 2 (by decide)) (ae (k:=3) rfl (hall 3 (by decide)) (ae (k:=4) rfl (hall 4 (by decide)) (ae (k:=5) rfl (hall 5 (by decide)) (ae (k:=6) rfl (hall 6 (by decide)) (ae (k:=7) rfl (hall 7 (by decide)) (ae (k:=8) rfl (hall 8 (by decide)) (ae (k:=9) rfl (hall 9 (by decide)) (ae (k:=10) rfl (hall 10 (by decide)) (ae (k:=11) rfl (hall 11 (by decide)) (ae (k:=12) rfl (hall 12 (by decide)) (ae (k:=13) rfl (hall 13 (by decide)) (ae (k:=14) rfl (hall 14 (by decide)) (ae (k:=15) rfl (hall 15 (by decide)) (ae (k:=16) rfl (hall 16 (by decide)) (ae (k:=17) rfl (hall 17 (by decide)) (ae (k:=18) rfl (hall 18 (by decide)) (ae (k:=19) rfl (hall 19 (by decide)) aj))))))))))))))))))))))) ?_
  refine aE ?_
  cases H
  refine aB [2,3] (by decide) rfl ?_
  exact ey (vs:=[I x2,bool (((l0.getD x2.toNat ap).k) == a1)]) rfl ⟨rfl,⟨rfl,trivial⟩⟩ _ rfl ⟨rfl,rfl⟩
theorem da.spec (K p0:Nat) (sv0:Value) (l0:List ag) (a1:Int) (r:(Int × Int × Int × Int × Int × Int × Bool × Bool)) (H:da K l0 a1 = some r):bn Tryz.prog 58 [pt p0 0,I a1] [box p0 130 [sv0],own sv0 135 7 l0.length (fl ac l0)] (fun v M=>v = (tU #[I r.1,agg #[I r.2.1,I r.2.2.1,I r.2.2.2.1,I r.2.2.2.2.1,I r.2.2.2.2.2.1,bool r.2.2.2.2.2.2.1],bool r.2.2.2.2.2.2.2]) ∧ M = [box p0 130 [sv0],own sv0 135 7 l0.length (fl ac l0)]):=by
 unfold da at H
 refine bk Tryz.func58 rfl 42 rfl (Nat.le_of_ble_eq_true rfl) fun F w0=>?_
 show ck (St 42 w0 F [(0,pt p0 0),(1,I a1)] [box p0 130 [sv0],own sv0 135 7 l0.length (fl ac l0)]) _
 refine an (ah (aa (ak rfl) rfl rfl rfl ?_))
 refine aH (bJ cZ) rfl rfl rfl ?_
 rintro _ _ ⟨b3,rfl,rfl⟩
 refine aa (ak rfl) rfl rfl rfl (aq (an (ah (aa (al rfl) rfl rfl rfl (aa (al rfl) rfl rfl rfl ?_)))))
 obtain ⟨x3,h2,H⟩:=Option.bind_eq_some_iff.1 H
 refine aH (bH (Lr:=[box b3 54 [I 0,I 0,I 0,I 0,I 0,B0]]) [1,2,0] [2,0,1] (first:=[]) (cap:=[]) (xs:=[.tmp 9,.tmp 10]) rfl rfl lc rfl (bt.spec K p0 sv0 l0 a1 _ h2) (by decide) rfl (by decide) rfl) rfl rfl rfl ?_
 rintro _ _ ⟨rfl,rfl⟩
 refine aa (al rfl) rfl rfl rfl (aa (aT rfl rfl) rfl rfl rfl (aa (aT rfl rfl) rfl rfl rfl (aa (ak rfl) rfl rfl rfl (aa (ak rfl) rfl rfl rfl (aq ?_)))))
 obtain ⟨x4,H2,H⟩:=bc H
 let C1_:Value:=agg #[I ((((l0.getD x4.toNat ap).v).Part).Tier),I ((((l0.getD x4.toNat ap).v).Part).Index),I (((l0.getD x4.toNat ap).v).Seg),I (((l0.getD x4.toNat ap).v).Mark),I (((l0.getD x4.toNat ap).v).Rows),bool (((l0.getD x4.toNat ap).v).Cold)]
 let C0_:List Value:=[I ((((l0.getD x4.toNat ap).v).Part).Tier),I ((((l0.getD x4.toNat ap).v).Part).Index),I (((l0.getD x4.toNat ap).v).Seg),I (((l0.getD x4.toNat ap).v).Mark),I (((l0.getD x4.toNat ap).v).Rows),bool (((l0.getD x4.toNat ap).v).Cold)]
 refine cq (fun a w=>∃ b4:Nat,St 42 w0 F [(0,pt p0 0),(4,I 0),(5,pt b4 0),(7,I x4)] [box p0 130 [sv0],own sv0 135 7 l0.length (fl ac l0),box b4 54 [I 0,I 0,I 0,I 0,I 0,B0]] a w) ?_ ?_
 ·refine an (ah (aa (al rfl) rfl rfl rfl (aa (eu rfl (er _)) rfl rfl rfl (aq ?_))))
  refine hQ H2 (fun c8 H2=>?_) fun c8 H2=>?_
  ·refine ay rfl (Bool.eq_false_iff.2 c8) (aN ?_)
   cases H2
   exact bd [1,2,0] (by decide) rfl (af (t:=0) rfl (af (t:=4) rfl (af (t:=5) rfl (af (t:=7) rfl (aR _))))) fun a w h=>⟨_,h⟩
  refine az rfl c8 (ah (aa (al rfl) rfl rfl rfl (aa (aF rfl rfl (iF _ _ _) ) rfl rfl rfl (aa (ak rfl) rfl rfl rfl (aq ?_)))))
  cases H2
  exact bd [1,2,0] (by decide) rfl (af (t:=0) rfl (af (t:=4) rfl (af (t:=5) rfl (af (t:=7) rfl (aR _))))) fun a w h=>⟨_,h⟩
 ·refine bh fun b4=>?_
  let C3_:List HP:=[box p0 130 [sv0],own sv0 135 7 l0.length (fl ac l0),box b4 54 C0_]
  let C2_:List HP:=[box p0 130 [sv0],own sv0 135 7 l0.length (fl ac l0),box b4 54 [I 0,I 0,I 0,I 0,I 0,B0]]
  refine an (an (ah (aa (al rfl) rfl rfl rfl ?_)))
  refine aa (aF rfl rfl (fx (fun w=>rfl) rfl (kj Tryz.underlying96 _ _))) rfl rfl rfl ?_
  refine aa (al rfl) rfl rfl rfl ?_
  refine au (al rfl) rfl rfl rfl rfl rfl rfl ?_
  refine au (aF rfl rfl (cK _ _ _)) rfl rfl rfl rfl rfl rfl ?_
  refine aa (aJ rfl rfl rfl rfl) rfl rfl rfl (aq ?_)
  refine fE H (fun c10 H=>?_) fun c10 H=>?_
  ·refine az rfl (decide_eq_true c10) (an ?_)
   refine bR 5 rfl (fun D a w=>jE 42 w0 F [(0,pt p0 0),(4,(rX (D 2) (I 0) (I 0))),(5,pt b4 0),(7,I x4),(18,pt p0 0),(19,B0),(20,B0),(21,I x4),(22,bool (decide (x4 < 0))),(23,bool (decide (x4 < 0)))] [(0,24,I 0),(1,25,agg #[I 0,I 0,I 0,I 0,I 0,B0]),(4,6,B0)] D C2_ a w) (by kernel_rfl) (by kernel_rfl) (bF (af (t:=0) rfl (af (t:=4) rfl (af (t:=5) rfl (af (t:=7) rfl (af (t:=18) rfl (af (t:=19) rfl (af (t:=20) rfl (af (t:=21) rfl (af (t:=22) rfl (af (t:=23) rfl (aR _))))))))))) rfl) ?_ ?_
   ·refine ⟨?_,?_,?_,?_,?_,trivial⟩
    ·intro D hi hc U
     have n2:D 2 = false:=bl (m:=2) hc hi rfl rfl
     exact am (i:=0) (t:=24) (v:=(I 0)) rfl rfl (ao rfl) (fun a=>(mR (ρ':=[(0,pt p0 0),(4,I 0),(5,pt b4 0),(7,I x4),(18,pt p0 0),(19,B0),(20,B0),(21,I x4),(22,bool (decide (x4 < 0))),(23,bool (decide (x4 < 0)))]) (by simp only [C1_,C0_,C3_,C2_,n2,rX]))) (al rfl) rfl rfl (ai (k0:=0) rfl rfl rfl)
    ·exact fun D hi hc U=>am (i:=1) (t:=25) (v:=(agg #[I 0,I 0,I 0,I 0,I 0,B0])) rfl rfl (ao rfl) (fun a=>aj) (aK (vs:=[I 0,I 0,I 0,I 0,I 0,B0]) rfl cH be (aP (i:=2) rfl)) rfl rfl (ai (k0:=1) rfl rfl rfl)
    ·exact fun D hi hc U=>ou (i:=2) (t:=4) (v:=(I 0)) rfl rfl (ao rfl) (fun a=>(ae (k:=0) rfl (ar (j:=0) U rfl (by decide) rfl) aj)) (ak rfl) rfl rfl rfl
    ·exact fun D hi hc U=>gJ (i:=3) (L2:=C2_) (L3:=C2_) rfl rfl (ao rfl) (fun a=>(ae (k:=1) rfl (ar (j:=1) U rfl (by decide) rfl) aj)) rfl (by simp [C1_,C0_,C3_,C2_,up,eR]) (bj (cs:=[I 0,I 0,I 0,I 0,I 0,B0]) (cs':=[I 0,I 0,I 0,I 0,I 0,B0]) (us:=[I 0,I 0,I 0,I 0,I 0,B0]) (L':=C2_) 2 rfl rfl rfl (bx rfl) be rfl rfl (by simp [C1_,C0_,C3_,C2_]) rfl) (hG rfl)
    ·exact fun D hi hc U=>am (i:=4) (t:=6) (v:=B0) rfl rfl (ao rfl) (fun a=>aj) (ak rfl) rfl rfl (ai (k0:=2) rfl rfl rfl)
   ·intro D hall
    refine bS C2_ rfl (fun a=>(ae (k:=2) rfl (hall 4 (by decide)) (ae (k:=0) rfl (hall 0 (by decide)) (ae (k:=1) rfl (hall 1 (by decide)) (mR (ρ':=[(0,pt p0 0),(4,I 0),(5,pt b4 0),(7,I x4),(18,pt p0 0),(19,B0),(20,B0),(21,I x4),(22,bool (decide (x4 < 0))),(23,bool (decide (x4 < 0)))]) (by simp only [C1_,C0_,C3_,C2_,hall 2 (by decide),rX])))))) ?_
    refine aE ?_
    first | (have e_:=Option.some.inj (show some _ = some _ from H); subst e_) | subst H
    exact cW [0,1] (by decide) rfl (vs:=[I 0,agg #[I 0,I 0,I 0,I 0,I 0,B0],B0]) rfl ⟨rfl,⟨⟨_,[I 0,I 0,I 0,I 0,I 0,B0],rfl,aP (i:=2) rfl,.inl ⟨cH,be,rfl⟩⟩,⟨rfl,trivial⟩⟩⟩ _ rfl ⟨rfl,rfl⟩
  refine ay rfl (decide_eq_false c10) (aN (an ?_))
  obtain ⟨c11,H⟩:=ji H
  obtain ⟨c12,H⟩:=ji H
  refine bR 19 rfl (fun D a w=>jE 42 w0 F [(0,pt p0 0),(5,pt b4 0),(7,I x4),(18,pt p0 0),(19,B0),(20,B0),(21,I x4),(22,bool (decide (x4 < 0))),(23,bool (decide (x4 < 0)))] [(0,26,pt p0 0),(1,27,pt p0 0),(2,28,pt p0 0),(3,29,sv0),(4,30,I x4),(5,31,(dA sv0 (x4.toNat * 7))),(6,32,(dA sv0 (x4.toNat * 7 + 0))),(7,33,I ((l0.getD x4.toNat ap).k)),(8,34,pt p0 0),(9,35,pt p0 0),(10,36,pt p0 0),(11,37,sv0),(12,38,I x4),(13,39,(dA sv0 (x4.toNat * 7))),(14,40,(dA sv0 (x4.toNat * 7 + 1))),(15,41,C1_),(16,4,I ((l0.getD x4.toNat ap).k)),(18,6,bool true)] D [box p0 130 [sv0],own sv0 135 7 l0.length (fl ac l0),eR (D 17) (box b4 54 C0_) (box b4 54 [I 0,I 0,I 0,I 0,I 0,B0])] a w) (by kernel_rfl) (by kernel_rfl) (bF (af (t:=0) rfl (af (t:=5) rfl (af (t:=7) rfl (af (t:=18) rfl (af (t:=19) rfl (af (t:=20) rfl (af (t:=21) rfl (af (t:=22) rfl (af (t:=23) rfl (aR _)))))))))) (by simp only [C1_,C0_,C3_,C2_,eR])) ?_ ?_
  ·refine ⟨?_,?_,?_,?_,?_,?_,?_,?_,?_,?_,?_,?_,?_,?_,?_,?_,?_,?_,?_,trivial⟩
   ·exact fun D hi hc U=>am (i:=0) (t:=26) (v:=(pt p0 0)) rfl rfl (ao rfl) (fun a=>aj) (al rfl) rfl rfl (ai (k0:=0) rfl rfl rfl)
   ·exact fun D hi hc U=>am (i:=1) (t:=27) (v:=(pt p0 0)) rfl rfl (ao rfl) (fun a=>(ae (k:=0) rfl (ar (j:=0) U rfl (by decide) rfl) aj)) (bq rfl) rfl rfl (ai (k0:=1) rfl rfl rfl)
   ·exact fun D hi hc U=>am (i:=2) (t:=28) (v:=(pt p0 0)) rfl rfl (ao rfl) (fun a=>(ae (k:=1) rfl (ar (j:=1) U rfl (by decide) rfl) aj)) (av (sz:=0) (o:=0) rfl ce cX) rfl rfl (ai (k0:=2) rfl rfl rfl)
   ·exact fun D hi hc U=>am (i:=3) (t:=29) (v:=sv0) rfl rfl (ao rfl) (fun a=>(ae (k:=2) rfl (ar (j:=2) U rfl (by decide) rfl) aj)) (aG (v:=sv0) rfl dK (aA (i:=0) rfl rfl)) rfl rfl (ai (k0:=3) rfl rfl rfl)
   ·exact fun D hi hc U=>am (i:=4) (t:=30) (v:=(I x4)) rfl rfl (ao rfl) (fun a=>aj) (al rfl) rfl rfl (ai (k0:=4) rfl rfl rfl)
   ·exact fun D hi hc U=>am (i:=5) (t:=31) (v:=(dA sv0 (x4.toNat * 7))) rfl rfl (ao rfl) (fun a=>(ae (k:=4) rfl (ar (j:=4) U rfl (by decide) rfl) (ae (k:=3) rfl (ar (j:=3) U rfl (by decide) rfl) aj))) (bw (sz:=6) 1 rfl rfl bu bY rfl (bb 135) c11 c12) rfl rfl (ai (k0:=5) rfl rfl rfl)
   ·exact fun D hi hc U=>am (i:=6) (t:=32) (v:=(dA sv0 (x4.toNat * 7 + 0))) rfl rfl (ao rfl) (fun a=>(ae (k:=5) rfl (ar (j:=5) U rfl (by decide) rfl) aj)) (cx (sz:=0) (k0:=x4.toNat * 7) (off:=0) 1 rfl gR aY rfl (bb 135) (hE aM (dF c11 c12))) rfl rfl (ai (k0:=6) rfl rfl rfl)
   ·exact fun D hi hc U=>am (i:=7) (t:=33) (v:=(I ((l0.getD x4.toNat ap).k))) rfl rfl (ao rfl) (fun a=>(ae (k:=6) rfl (ar (j:=6) U rfl (by decide) rfl) aj)) (aG (v:=(I ((l0.getD x4.toNat ap).k))) rfl ba (cU (i:=1) rfl (bb 135) (by simp [C1_,C0_,C3_,C2_]) (gi (off:=0) aM (dF c11 c12) rfl))) rfl rfl (ai (k0:=7) rfl rfl rfl)
   ·exact fun D hi hc U=>am (i:=8) (t:=34) (v:=(pt p0 0)) rfl rfl (ao rfl) (fun a=>aj) (al rfl) rfl rfl (ai (k0:=8) rfl rfl rfl)
   ·exact fun D hi hc U=>am (i:=9) (t:=35) (v:=(pt p0 0)) rfl rfl (ao rfl) (fun a=>(ae (k:=8) rfl (ar (j:=8) U rfl (by decide) rfl) aj)) (bq rfl) rfl rfl (ai (k0:=9) rfl rfl rfl)
   ·exact fun D hi hc U=>am (i:=10) (t:=36) (v:=(pt p0 0)) rfl rfl (ao rfl) (fun a=>(ae (k:=9) rfl (ar (j:=9) U rfl (by decide) rfl) aj)) (av (sz:=0) (o:=0) rfl ce cX) rfl rfl (ai (k0:=10) rfl rfl rfl)
   ·exact fun D hi hc U=>am (i:=11) (t:=37) (v:=sv0) rfl rfl (ao rfl) (fun a=>(ae (k:=10) rfl (ar (j:=10) U rfl (by decide) rfl) aj)) (aG (v:=sv0) rfl dK (aA (i:=0) rfl rfl)) rfl rfl (ai (k0:=11) rfl rfl rfl)
   ·exact fun D hi hc U=>am (i:=12) (t:=38) (v:=(I x4)) rfl rfl (ao rfl) (fun a=>aj) (al rfl) rfl rfl (ai (k0:=12) rfl rfl rfl)
   ·exact fun D hi hc U=>am (i:=13) (t:=39) (v:=(dA sv0 (x4.toNat * 7))) rfl rfl (ao rfl) (fun a=>(ae (k:=12) rfl (ar (j:=12) U rfl (by decide) rfl) (ae (k:=11) rfl (ar (j:=11) U rfl (by decide) rfl) aj))) (bw (sz:=6) 1 rfl rfl bu bY rfl (bb 135) c11 c12) rfl rfl (ai (k0:=13) rfl rfl rfl)
   ·exact fun D hi hc U=>am (i:=14) (t:=40) (v:=(dA sv0 (x4.toNat * 7 + 1))) rfl rfl (ao rfl) (fun a=>(ae (k:=13) rfl (ar (j:=13) U rfl (by decide) rfl) aj)) (cx (sz:=5) (k0:=x4.toNat * 7) (off:=1) 1 rfl jJ be rfl (bb 135) (hE aM (dF c11 c12))) rfl rfl (ai (k0:=14) rfl rfl rfl)
   ·exact fun D hi hc U=>am (i:=15) (t:=41) (v:=(C1_)) rfl rfl (ao rfl) (fun a=>(ae (k:=14) rfl (ar (j:=14) U rfl (by decide) rfl) aj)) (aK (vs:=C0_) rfl cH be (cU (i:=1) rfl (bb 135) (by simp [C1_,C0_,C3_,C2_]) (gi (off:=1) aM (dF c11 c12) rfl))) rfl rfl (ai (k0:=15) rfl rfl rfl)
   ·exact fun D hi hc U=>am (i:=16) (t:=4) (v:=(I ((l0.getD x4.toNat ap).k))) rfl rfl (ao rfl) (fun a=>(ae (k:=7) rfl (ar (j:=7) U rfl (by decide) rfl) aj)) (ak rfl) rfl rfl (ai (k0:=16) rfl rfl rfl)
   ·exact fun D hi hc U=>gJ (i:=17) (L2:=C2_) (L3:=C3_) rfl rfl (ao rfl) (fun a=>(ae (k:=15) rfl (ar (j:=15) U rfl (by decide) rfl) aj)) (by simp only [C1_,C0_,C3_,C2_,hi,eR]) (by simp [C1_,C0_,C3_,C2_,up,eR]) (bj (cs:=[I 0,I 0,I 0,I 0,I 0,B0]) (cs':=C0_) (us:=C0_) (L':=C3_) 2 rfl rfl rfl (bx rfl) be rfl rfl (by simp [C1_,C0_,C3_,C2_]) rfl) (hG rfl)
   ·exact fun D hi hc U=>am (i:=18) (t:=6) (v:=(bool true)) rfl rfl (ao rfl) (fun a=>aj) (ak rfl) rfl rfl (ai (k0:=17) rfl rfl rfl)
  ·intro D hall
   refine bS C3_ (by simp only [C1_,C0_,C3_,C2_,hall 17 (by decide),eR]) (fun a=>(ae (k:=16) rfl (hall 16 (by decide)) (ae (k:=17) rfl (hall 18 (by decide)) (ae (k:=0) rfl (hall 0 (by decide)) (ae (k:=1) rfl (hall 1 (by decide)) (ae (k:=2) rfl (hall 2 (by decide)) (ae (k:=3) rfl (hall 3 (by decide)) (ae (k:=4) rfl (hall 4 (by decide)) (ae (k:=5) rfl (hall 5 (by decide)) (ae (k:=6) rfl (hall 6 (by decide)) (ae (k:=7) rfl (hall 7 (by decide)) (ae (k:=8) rfl (hall 8 (by decide)) (ae (k:=9) rfl (hall 9 (by decide)) (ae (k:=10) rfl (hall 10 (by decide)) (ae (k:=11) rfl (hall 11 (by decide)) (ae (k:=12) rfl (hall 12 (by decide)) (ae (k:=13) rfl (hall 13 (by decide)) (ae (k:=14) rfl (hall 14 (by decide)) (ae (k:=15) rfl (hall 15 (by decide)) aj))))))))))))))))))) ?_
   refine aE ?_
   first | (have e_:=Option.some.inj (show some _ = some _ from H); subst e_) | subst H
   exact cW [0,1] (by decide) rfl (vs:=[I ((l0.getD x4.toNat ap).k),C1_,bool true]) rfl ⟨rfl,⟨⟨_,C0_,rfl,aP (i:=2) rfl,.inl ⟨cH,be,rfl⟩⟩,⟨rfl,trivial⟩⟩⟩ _ rfl ⟨rfl,rfl⟩
theorem gL.spec (a0_0 a0_1 a1:Int) (r:Bool) (H:gL a0_0 a0_1 a1 = r):bn Tryz.prog 20 [agg #[I a0_0,I a0_1],I a1] [] (fun v M=>v = (bool r) ∧ M = []):=by
 unfold gL at H
 refine bk Tryz.func20 rfl 34 rfl (Nat.le_of_ble_eq_true rfl) fun F w0=>?_
 show ck (St 34 w0 F [(0,agg #[I a0_0,I a0_1]),(1,I a1)] []) _
 refine an (ah ?_)
 refine aH (cl (cs:=[I a0_0,I a0_1]) rfl rfl) rfl rfl rfl ?_
 rintro _ _ ⟨b3,rfl,rfl⟩
 refine aa (ak rfl) rfl rfl rfl (aq (an (ah (aa (av (sz:=0) (o:=0) rfl cF cL) rfl rfl rfl (aa (aG (v:=(I a0_0)) rfl cE (aA (i:=0) rfl rfl)) rfl rfl rfl (aa (al rfl) rfl rfl rfl ?_))))))
 obtain ⟨x4,h4,H⟩:=bc H
 refine aH (bi (first:=[]) (cap:=[]) (xs:=[.tmp 11,.tmp 12]) rfl rfl ko rfl (fX.spec a0_0 a1 _ h4)) rfl rfl rfl ?_
 rintro _ _ ⟨rfl,rfl⟩
 refine aa (al rfl) rfl rfl rfl (aa (aT rfl rfl) rfl rfl rfl (aa (aT rfl rfl) rfl rfl rfl ?_))
 refine aH (bJ fq) rfl rfl rfl ?_
 rintro _ _ ⟨b4,rfl,rfl⟩
 refine bs (bj (cs:=[I 0,I 0]) (cs':=[I x4.1,I x4.2.1]) (us:=[I x4.1,I x4.2.1]) (L':=[box b4 36 [I x4.1,I x4.2.1],box b3 36 [I a0_0,I a0_1]]) 0 rfl rfl rfl (bx rfl) aQ rfl rfl (by simp) rfl) rfl rfl ?_
 rintro _ _ rfl
 refine aa (ak rfl) rfl rfl rfl (aq (an (an (ah (aa (al rfl) rfl rfl rfl (aa (eu rfl (er _)) rfl rfl rfl (aq ?_)))))))
 refine hQ H (fun c7 H=>?_) fun c7 H=>?_
 ·refine ay rfl (Bool.eq_false_iff.2 c7) (aN (an (ah (aa (aK (vs:=[I x4.1,I x4.2.1]) rfl br aQ (aP (i:=0) rfl)) rfl rfl rfl (aa (aK (vs:=[I a0_0,I a0_1]) rfl br aQ (aP (i:=1) rfl)) rfl rfl rfl (aa (aF rfl rfl (yP _ _ _ _)) rfl rfl rfl (aa (ak rfl) rfl rfl rfl (aq (aE ?_)))))))))
  cases H
  refine aB [] (by decide) rfl ?_
  exact aS rfl rfl ⟨rfl,rfl⟩
 refine az rfl c7 (an (ah (aa (aK (vs:=[I a0_0,I a0_1]) rfl br aQ (aP (i:=1) rfl)) rfl rfl rfl ?_)))
 obtain ⟨x6,h6,H⟩:=bc H
 refine aH (bi (first:=[]) (cap:=[]) (xs:=[.tmp 19]) rfl rfl jy rfl (dJ.spec a0_0 a0_1 _ h6)) rfl rfl rfl ?_
 rintro _ _ ⟨rfl,rfl⟩
 refine aa (al rfl) rfl rfl rfl (aa (aT rfl rfl) rfl rfl rfl (aa (aT rfl rfl) rfl rfl rfl (aa (ak rfl) rfl rfl rfl (aa (ak rfl) rfl rfl rfl (aq (an (ah (aa (al rfl) rfl rfl rfl (aa (al rfl) rfl rfl rfl (aa (aF rfl rfl (jI _ _ _)) rfl rfl rfl (aa (al rfl) rfl rfl rfl ?_)))))))))))
 refine hQ H (fun c8 H=>?_) fun c8 H=>?_
 ·refine aw rfl rfl rfl (decide_eq_false c8) rfl rfl ?_
  refine aw rfl rfl rfl (decide_eq_false c8) rfl rfl ?_
  refine aw rfl rfl rfl (decide_eq_false c8) rfl rfl ?_
  refine aa (aJ rfl rfl rfl (bG (decide_eq_false c8))) rfl rfl rfl (aa (ak rfl) rfl rfl rfl (aq (aE ?_)))
  cases H
  refine aB [] (by decide) rfl ?_
  exact aS rfl rfl ⟨rfl,rfl⟩
 refine au (al rfl) rfl rfl rfl (decide_eq_true c8) rfl rfl ?_
 refine au (al rfl) rfl rfl rfl (decide_eq_true c8) rfl rfl ?_
 refine au (aF rfl rfl (cK _ _ _)) rfl rfl rfl (decide_eq_true c8) rfl rfl ?_
 refine aa (aJ rfl rfl rfl (bC (decide_eq_true c8))) rfl rfl rfl (aa (ak rfl) rfl rfl rfl (aq (aE ?_)))
 cases H
 refine aB [] (by decide) rfl ?_
 exact aS rfl rfl ⟨rfl,rfl⟩
theorem fo.spec (K p0 p1:Nat) (sv0:Value) (l0:List ag) (a1:Int) (r:(Int × Int × Int × Int × Int × Bool × Bool)) (H:fo K l0 a1 = some r):bn Tryz.prog 29 [pt p0 0,I a1] [box p0 99 [pt p1 0],box p1 130 [sv0],own sv0 135 7 l0.length (fl ac l0)] (fun v M=>v = (tU #[agg #[I r.1,I r.2.1,I r.2.2.1,I r.2.2.2.1,I r.2.2.2.2.1,bool r.2.2.2.2.2.1],bool r.2.2.2.2.2.2]) ∧ M = [box p0 99 [pt p1 0],box p1 130 [sv0],own sv0 135 7 l0.length (fl ac l0)]):=by
 unfold fo at H
 refine bk Tryz.func29 rfl 30 rfl (Nat.le_of_ble_eq_true rfl) fun F w0=>?_
 show ck (St 30 w0 F [(0,pt p0 0),(1,I a1)] [box p0 99 [pt p1 0],box p1 130 [sv0],own sv0 135 7 l0.length (fl ac l0)]) _
 refine an (ah ?_)
 refine aH (bJ cZ) rfl rfl rfl ?_
 rintro _ _ ⟨b2,rfl,rfl⟩
 let C1_:List HP:=[box b2 54 [I 0,I 0,I 0,I 0,I 0,B0],box p0 99 [pt p1 0],box p1 130 [sv0],own sv0 135 7 l0.length (fl ac l0)]
 refine aa (ak rfl) rfl rfl rfl (aq (an (an (ah (aa (al rfl) rfl rfl rfl ?_)))))
 refine aa (aF rfl rfl (fx (fun w=>rfl) rfl (kj Tryz.underlying28 _ _))) rfl rfl rfl ?_
 refine aq (ay rfl rfl (aN (an (ah (aa (al rfl) rfl rfl rfl (aa (bq rfl) rfl rfl rfl (aa (av (sz:=0) (o:=0) rfl gr ie) rfl rfl rfl (aa (aG (v:=(pt p1 0)) rfl eC (aA (i:=1) rfl rfl)) rfl rfl rfl (aa (al rfl) rfl rfl rfl ?_)))))))))
 obtain ⟨x4,h4,H⟩:=Option.bind_eq_some_iff.1 H
 let C0_:List Value:=[I x4.2.1,I x4.2.2.1,I x4.2.2.2.1,I x4.2.2.2.2.1,I x4.2.2.2.2.2.1,bool x4.2.2.2.2.2.2.1]
 let C2_:List HP:=[box b2 54 C0_,box p0 99 [pt p1 0],box p1 130 [sv0],own sv0 135 7 l0.length (fl ac l0)]
 refine aH (bH (Lr:=[box b2 54 [I 0,I 0,I 0,I 0,I 0,B0],box p0 99 [pt p1 0]]) [2,3,0,1] [2,3,0,1] (first:=[]) (cap:=[]) (xs:=[.tmp 13,.tmp 14]) rfl rfl ox rfl (da.spec K p1 sv0 l0 a1 _ h4) (by decide) rfl (by decide) rfl) rfl rfl rfl ?_
 rintro _ _ ⟨rfl,rfl⟩
 refine aa (al rfl) rfl rfl rfl (aa (aT rfl rfl) rfl rfl rfl (aa (aT rfl rfl) rfl rfl rfl (aa (aT rfl rfl) rfl rfl rfl ?_)))
 refine bs (bj (cs:=[I 0,I 0,I 0,I 0,I 0,B0]) (cs':=C0_) (us:=C0_) (L':=C2_) 0 rfl rfl rfl (bx rfl) be rfl rfl (by simp [C1_,C0_,C2_]) rfl) rfl rfl ?_
 rintro _ _ rfl
 refine aa (ak rfl) rfl rfl rfl (aq (an (an (ah (aa (al rfl) rfl rfl rfl (aa (eu rfl (er _)) rfl rfl rfl (aa (al rfl) rfl rfl rfl ?_)))))))
 refine fE H (fun c7 H=>?_) fun c7 H=>?_
 ·refine aw rfl rfl rfl c7 rfl rfl ?_
  refine aw rfl rfl rfl c7 rfl rfl ?_
  refine aw rfl rfl rfl c7 rfl rfl ?_
  refine aw rfl rfl rfl c7 rfl rfl ?_
  refine aw rfl rfl rfl c7 rfl rfl ?_
  refine aa (aJ rfl rfl rfl (bC c7)) rfl rfl rfl (aq (az rfl rfl (an (ah (aa (bK (is:=[]) (xs:=[]) (vs:=[]) rfl rfl (bo (cs:=[I 0,I 0,I 0,I 0,I 0,B0]) cZ jY rfl)) rfl rfl rfl ?_)))))
  refine bs (bj (cs:=C0_) (cs':=[I 0,I 0,I 0,I 0,I 0,B0]) (us:=[I 0,I 0,I 0,I 0,I 0,B0]) (L':=C1_) 0 rfl rfl rfl (bx rfl) be rfl rfl (by simp [C1_,C0_,C2_]) rfl) rfl rfl ?_
  rintro _ _ rfl
  refine aa (ak rfl) rfl rfl rfl (aq (aE ?_))
  first | (have e_:=Option.some.inj (show some _ = some _ from H); subst e_) | subst H
  exact cW [1,2,3] (by decide) rfl (vs:=[agg #[I 0,I 0,I 0,I 0,I 0,B0],B0]) rfl ⟨⟨_,[I 0,I 0,I 0,I 0,I 0,B0],rfl,aP (i:=0) rfl,.inl ⟨cH,be,rfl⟩⟩,⟨rfl,trivial⟩⟩ _ rfl ⟨rfl,rfl⟩
 refine au (av (sz:=1) (o:=0) rfl bQ aQ) rfl rfl rfl (Bool.eq_false_iff.2 c7) rfl rfl ?_
 refine au (aK (vs:=[I x4.2.1,I x4.2.2.1]) rfl br aQ (cR (i:=0) rfl rfl)) rfl rfl rfl (Bool.eq_false_iff.2 c7) rfl rfl ?_
 refine au (al rfl) rfl rfl rfl (Bool.eq_false_iff.2 c7) rfl rfl ?_
 obtain ⟨x6,h6,H⟩:=bc H
 refine dn (bi (first:=[]) (cap:=[]) (xs:=[.tmp 23,.tmp 24]) rfl rfl mV rfl (gL.spec x4.2.1 x4.2.2.1 a1 _ h6)) rfl rfl rfl (Bool.eq_false_iff.2 c7) rfl rfl ?_
 rintro _ _ ⟨rfl,rfl⟩
 refine au (eu rfl (er _)) rfl rfl rfl (Bool.eq_false_iff.2 c7) rfl rfl ?_
 refine aa (aJ rfl rfl rfl (bG (Bool.eq_false_iff.2 c7))) rfl rfl rfl (aq ?_)
 refine fE H (fun c8 H=>?_) fun c8 H=>?_
 ·refine az rfl c8 (an (ah (aa (bK (is:=[]) (xs:=[]) (vs:=[]) rfl rfl (bo (cs:=[I 0,I 0,I 0,I 0,I 0,B0]) cZ jY rfl)) rfl rfl rfl ?_)))
  refine bs (bj (cs:=C0_) (cs':=[I 0,I 0,I 0,I 0,I 0,B0]) (us:=[I 0,I 0,I 0,I 0,I 0,B0]) (L':=C1_) 0 rfl rfl rfl (bx rfl) be rfl rfl (by simp [C1_,C0_,C2_]) rfl) rfl rfl ?_
  rintro _ _ rfl
  refine aa (ak rfl) rfl rfl rfl (aq (aE ?_))
  first | (have e_:=Option.some.inj (show some _ = some _ from H); subst e_) | subst H
  exact cW [1,2,3] (by decide) rfl (vs:=[agg #[I 0,I 0,I 0,I 0,I 0,B0],B0]) rfl ⟨⟨_,[I 0,I 0,I 0,I 0,I 0,B0],rfl,aP (i:=0) rfl,.inl ⟨cH,be,rfl⟩⟩,⟨rfl,trivial⟩⟩ _ rfl ⟨rfl,rfl⟩
 refine ay rfl (Bool.eq_false_iff.2 c8) (aN (an (ah (aa (aK (vs:=C0_) rfl cH be (aP (i:=0) rfl)) rfl rfl rfl ?_))))
 refine bs (bj (cs:=C0_) (cs':=C0_) (us:=C0_) (L':=C2_) 0 rfl rfl rfl (bx rfl) be rfl rfl (by simp [C1_,C0_,C2_]) rfl) rfl rfl ?_
 rintro _ _ rfl
 refine aa (ak rfl) rfl rfl rfl (aq (aE ?_))
 first | (have e_:=Option.some.inj (show some _ = some _ from H); subst e_) | subst H
 exact cW [1,2,3] (by decide) rfl (vs:=[agg #[I x4.2.1,I x4.2.2.1,I x4.2.2.2.1,I x4.2.2.2.2.1,I x4.2.2.2.2.2.1,bool x4.2.2.2.2.2.2.1],bool true]) rfl ⟨⟨_,C0_,rfl,aP (i:=0) rfl,.inl ⟨cH,be,rfl⟩⟩,⟨rfl,trivial⟩⟩ _ rfl ⟨rfl,rfl⟩
theorem df.spec (sv0:Value) (A0:HP) (l0:List ag) (hA0:eD A0 sv0 l0.length 7 (fl ac l0)) (r:Unit) (H:df l0 = r):bn Tryz.prog 112 [sv0] [A0] (fun v M=>∃ b2:Nat,v = (Value.func (.func 126) #[] #[pt b2 0]) ∧ M = [A0,box b2 128 [sv0]]):=by
 unfold df at H
 refine bk Tryz.func112 rfl 4 rfl (Nat.le_of_ble_eq_true rfl) fun F w0=>?_
 show ck (St 4 w0 F [(0,sv0)] [A0]) _
 refine an (ah ?_)
 refine aH (uI 0 rfl rfl hA0) rfl rfl rfl ?_
 rintro _ _ ⟨b3,rfl,rfl⟩
 refine aa (ak rfl) rfl rfl rfl (aq (an (ah (aa (fm (first:=[]) (cap:=[.tmp 1]) rfl rfl) rfl rfl rfl (aa (ak rfl) rfl rfl rfl (aq (aE ?_)))))))
 cases H
 refine aB [1,0] (by decide) rfl ?_
 exact aS rfl rfl ⟨_,rfl,rfl⟩
theorem cv.spec (K p0:Nat) (sv0:Value) (l0:List ag) (a1 a2:Int) (r:List ag) (H:cv K l0 a1 a2 = some r):bn Tryz.prog 107 [pt p0 0,I a1,I a2] [box p0 130 [sv0],own sv0 135 7 l0.length (fl ac l0)] (fun v M=>∃ b4:Nat,∃ sv1:Value,eD (own sv0 135 7 l0.length (fl ac l0)) sv1 r.length 7 (fl ac r) ∧ v = (Value.func (.func 126) #[] #[pt b4 0]) ∧ M = [box p0 130 [sv0],own sv0 135 7 l0.length (fl ac l0),box b4 128 [sv1]]):=by
 unfold cv at H
 refine bk Tryz.func107 rfl 35 rfl (Nat.le_of_ble_eq_true rfl) fun F w0=>?_
 let C0_:List HP:=[box p0 130 [sv0],own sv0 135 7 l0.length (fl ac l0)]
 show ck (St 35 w0 F [(0,pt p0 0),(1,I a1),(2,I a2)] C0_) _
 refine an (ah (aa (ak rfl) rfl rfl rfl (aq (an (ah (aa (al rfl) rfl rfl rfl (aa (al rfl) rfl rfl rfl ?_)))))))
 obtain ⟨x3,h6,H⟩:=Option.bind_eq_some_iff.1 H
 refine aH (bH (Lr:=[]) [0,1] [0,1] (first:=[]) (cap:=[]) (xs:=[.tmp 12,.tmp 13]) rfl rfl lc rfl (bt.spec K p0 sv0 l0 a1 _ h6) (by decide) rfl (by decide) rfl) rfl rfl rfl ?_
 rintro _ _ ⟨rfl,rfl⟩
 refine aa (al rfl) rfl rfl rfl (aa (aT rfl rfl) rfl rfl rfl (aa (aT rfl rfl) rfl rfl rfl (aa (ak rfl) rfl rfl rfl (aa (ak rfl) rfl rfl rfl (aq (an (ah (aa (al rfl) rfl rfl rfl (aa (al rfl) rfl rfl rfl ?_)))))))))
 obtain ⟨x4,h7,H⟩:=Option.bind_eq_some_iff.1 H
 refine aH (bH (Lr:=[]) [0,1] [0,1] (first:=[]) (cap:=[]) (xs:=[.tmp 18,.tmp 19]) rfl rfl lc rfl (bt.spec K p0 sv0 l0 a2 _ h7) (by decide) rfl (by decide) rfl) rfl rfl rfl ?_
 rintro _ _ ⟨rfl,rfl⟩
 refine aa (al rfl) rfl rfl rfl (aa (aT rfl rfl) rfl rfl rfl (aa (aT rfl rfl) rfl rfl rfl (aa (ak rfl) rfl rfl rfl (aa (ak rfl) rfl rfl rfl (aq (an (an (ah (aa (al rfl) rfl rfl rfl (aa (al rfl) rfl rfl rfl (aa (aF rfl rfl (jI _ _ _)) rfl rfl rfl ?_)))))))))))
 refine aq ?_
 refine fE H (fun c7 H=>?_) fun c7 H=>?_
 ·refine az rfl (decide_eq_true c7) (an (ah ?_))
  obtain ⟨u5,h9,H⟩:=bc H
  refine aH (bX (Lr:=C0_) (first:=[]) (cap:=[]) (xs:=[.const L0]) rfl rfl lk rfl (de.spec _ h9) rfl) rfl rfl rfl ?_
  rintro _ _ ⟨_,⟨b6,rfl,rfl⟩,rfl⟩
  refine aa (ak rfl) rfl rfl rfl (aq (aE ?_))
  cases H
  refine aB [1,2,0] (by decide) rfl ?_
  exact aS rfl rfl ⟨_,_,(rL _ _),rfl,rfl⟩
 refine ay rfl (decide_eq_false c7) (aN (an (ah (aa (al rfl) rfl rfl rfl (aa (bq rfl) rfl rfl rfl (aa (av (sz:=0) (o:=0) rfl ce cX) rfl rfl rfl (aa (aG (v:=sv0) rfl dK (aA (i:=0) rfl rfl)) rfl rfl rfl (aa (al rfl) rfl rfl rfl (aa (al rfl) rfl rfl rfl ?_)))))))))
 obtain ⟨c8,H⟩:=ji H
 obtain ⟨c9,H⟩:=ji H
 obtain ⟨c10,H⟩:=ji H
 refine aa (lA 1 rfl rfl rfl bu bY rfl (bb 135) c8 c9 c10) rfl rfl rfl ?_
 obtain ⟨u6,h10,H⟩:=bc H
 refine aB [1,0] (by decide) rfl ?_
 refine aH (bX (Lr:=[box p0 130 [sv0]]) (first:=[]) (cap:=[]) (xs:=[.tmp 33]) rfl rfl lk rfl (df.spec (jn sv0 x3.2.toNat x4.2.toNat 7) (own sv0 135 7 l0.length (fl ac l0)) ((l0.drop x3.2.toNat).take (x4.2.toNat - x3.2.toNat)) (ku aM (bb 135) (mM c8 c9) (km (Int.le_trans c8 c9) c10)) _ h10) rfl) rfl rfl rfl ?_
 rintro _ _ ⟨_,⟨b7,rfl,rfl⟩,rfl⟩
 refine aa (ak rfl) rfl rfl rfl (aq (aE ?_))
 cases H
 refine aB [2,0,1] (by decide) rfl ?_
 exact aS rfl rfl ⟨_,_,(ku aM (bb 135) (mM c8 c9) (km (Int.le_trans c8 c9) c10)),rfl,rfl⟩
theorem bV.spec (K yl0 p0:Nat) (sv0:Value) (A0:HP) (Gm0:Type) (y0:Int → ax → Gm0 → Option (Gm0 × Bool)) (x0y:Gm0) (l0:List ag) (Y0:Gm0 → HP) (hY0:∀ (t0_:Int) (t1_:ax) (z_:Gm0) (r_:Gm0 × Bool),y0 t0_ t1_ z_ = some r_ → lx Tryz.prog yl0 [I t0_,agg #[I t1_.Part.Tier,I t1_.Part.Index,I t1_.Seg,I t1_.Mark,I t1_.Rows,bool t1_.Cold]] [Y0 z_] (fun v N=>v = .bool r_.2 ∧ N = [Y0 r_.1])) (hA0:eD A0 sv0 l0.length 7 (fl ac l0)) (r:Gm0) (H:bV K Gm0 y0 x0y l0 = some r):bn Tryz.prog 126 [(Value.func (.yield yl0) #[] #[]),pt p0 0] [(Y0 x0y),box p0 128 [sv0],A0] (fun v M=>v = (tU #[]) ∧ M = [(Y0 r),box p0 128 [sv0],A0]):=by
 unfold bV at H
 refine bk Tryz.func126 rfl 19 rfl (Nat.le_of_ble_eq_true rfl) fun F w0=>?_
 show ck (St 19 w0 F [(0,(Value.func (.yield yl0) #[] #[])),(1,pt p0 0)] [(Y0 x0y),box p0 128 [sv0],A0]) _
 refine an (ah (aa (aG (v:=sv0) rfl dK (aA (i:=1) rfl rfl)) rfl rfl rfl (aa (fz 2 rfl bu rfl hA0) rfl rfl rfl (aa (al rfl) rfl rfl rfl (aq (bf ?_))))))
 refine dy (fun k a w=>∃ i2,∃ l3,cu K Gm0 y0 l0 k i2 l3 = some r ∧ St 19 w0 F [(0,(Value.func (.yield yl0) #[] #[])),(5,sv0),(6,I (l0.length:Int)),(7,I i2)] [(Y0 l3),box p0 128 [sv0],A0] a w) K ?_ ?_
 ·exact bd [0,1,2] (by decide) rfl (af (t:=0) rfl (af (t:=5) rfl (af (t:=6) rfl (af (t:=7) rfl (aR _))))) fun a w h=>⟨_,_,H,h⟩
 ·refine fun k=>bh fun i2=>bh fun l3=>cD fun H2=>?_
  let C0_:List Value:=[I ((l0.getD i2.toNat ap).k),I ((((l0.getD i2.toNat ap).v).Part).Tier),I ((((l0.getD i2.toNat ap).v).Part).Index),I (((l0.getD i2.toNat ap).v).Seg),I (((l0.getD i2.toNat ap).v).Mark),I (((l0.getD i2.toNat ap).v).Rows),bool (((l0.getD i2.toNat ap).v).Cold)]
  cases k with
  | zero=>exact absurd H2 (by simp [C0_,cu])
  | succ k =>
   rw [cu] at H2
   refine an (ah (aa (aF rfl rfl (cK _ _ _)) rfl rfl rfl (aq (an ?_))))
   refine hQ H2 (fun c28 H2=>?_) fun c28 H2=>?_
   ·refine ay rfl (decide_eq_false c28) (bW ?_)
    cases H2
    refine du ?_
    refine aB [0,1,2] (by decide) rfl ?_
    exact dV rfl ⟨rfl,rfl⟩
   refine az rfl (decide_eq_true c28) (aN (an (bf (an (ah ?_)))))
   obtain ⟨c31,H2⟩:=ji H2
   refine aa (bw (sz:=6) 2 rfl rfl bu bY rfl hA0 c31 c28) rfl rfl rfl ?_
   refine aa (aK (vs:=C0_) rfl rp bY (cU (i:=2) rfl hA0 (by simp [C0_]) (gu aM (dF c31 c28) rfl))) rfl rfl rfl ?_
   refine aH (bJ iX) rfl rfl rfl ?_
   rintro _ _ ⟨b12,rfl,rfl⟩
   refine bs (bj (cs:=[I 0,I 0,I 0,I 0,I 0,I 0,B0]) (cs':=C0_) (us:=C0_) (L':=[box b12 135 C0_,(Y0 l3),box p0 128 [sv0],A0]) 0 rfl rfl rfl (bx rfl) bY rfl rfl (by simp [C0_]) rfl) rfl rfl ?_
   rintro _ _ rfl
   refine aq (an (ah (aa (al rfl) rfl rfl rfl (aa (av (sz:=0) (o:=0) rfl gR aY) rfl rfl rfl (aa (aG (v:=(I ((l0.getD i2.toNat ap).k))) rfl ba (aA (i:=0) rfl rfl)) rfl rfl rfl (aa (av (sz:=5) (o:=0) rfl jJ be) rfl rfl rfl (aa (aK (vs:=[I ((((l0.getD i2.toNat ap).v).Part).Tier),I ((((l0.getD i2.toNat ap).v).Part).Index),I (((l0.getD i2.toNat ap).v).Seg),I (((l0.getD i2.toNat ap).v).Mark),I (((l0.getD i2.toNat ap).v).Rows),bool (((l0.getD i2.toNat ap).v).Cold)]) rfl cH be (cR (i:=0) rfl rfl)) rfl rfl rfl ?_)))))))
   obtain ⟨x12,h12,H2⟩:=Option.bind_eq_some_iff.1 H2
   refine aB [1,0,2,3] (by decide) rfl ?_
   refine nZ (mw (vs:=[I ((l0.getD i2.toNat ap).k),agg #[I ((((l0.getD i2.toNat ap).v).Part).Tier),I ((((l0.getD i2.toNat ap).v).Part).Index),I (((l0.getD i2.toNat ap).v).Seg),I (((l0.getD i2.toNat ap).v).Mark),I (((l0.getD i2.toNat ap).v).Rows),bool (((l0.getD i2.toNat ap).v).Cold)]]) (Lp:=[(Y0 l3)]) (Lr:=[box b12 135 C0_,box p0 128 [sv0],A0]) rfl rfl (hY0 _ _ _ _ h12) rfl) rfl rfl rfl ?_
   rintro _ _ ⟨_,⟨rfl,rfl⟩,rfl⟩
   refine aa (eu rfl (er _)) rfl rfl rfl (aq ?_)
   refine fE H2 (fun c32 H2=>?_) fun c32 H2=>?_
   ·refine az rfl c32 (aE ?_)
    cases H2
    refine aB [0,2,3] (by decide) rfl ?_
    exact dV rfl ⟨rfl,rfl⟩
   refine ay rfl (Bool.eq_false_iff.2 c32) (aN (ah (aa (aF rfl rfl (cr _ _ _) ) rfl rfl rfl (aa (al rfl) rfl rfl rfl (aq ?_)))))
   exact bd [0,2,3] (by decide) rfl (af (t:=0) rfl (af (t:=5) rfl (af (t:=6) rfl (af (t:=7) rfl (aR _))))) fun a w h=>⟨k,Nat.lt_succ_self k,_,_,H2,h⟩
theorem eH.spec (K p0 p1:Nat) (sv0:Value) (l0:List ag) (a1 a2:Int) (r:List ax) (H:eH K l0 a1 a2 = some r):bn Tryz.prog 80 [pt p0 0,I a1,I a2] [box p0 99 [pt p1 0],box p1 130 [sv0],own sv0 135 7 l0.length (fl ac l0)] (fun v M=>∃ sv23:Value,v = sv23 ∧ M = [box p0 99 [pt p1 0],box p1 130 [sv0],own sv0 135 7 l0.length (fl ac l0),own sv23 54 6 r.length (fl aV r)]):=by
 unfold eH at H
 refine bk Tryz.func80 rfl 46 rfl (Nat.le_of_ble_eq_true rfl) fun F w0=>?_
 show ck (St 46 w0 F [(0,pt p0 0),(1,I a1),(2,I a2)] [box p0 99 [pt p1 0],box p1 130 [sv0],own sv0 135 7 l0.length (fl ac l0)]) _
 refine an (ah ?_)
 refine aH (cl (cs:=[I a1]) rfl rfl) rfl rfl rfl ?_
 rintro _ _ ⟨b20,rfl,rfl⟩
 refine aH (bJ vT) rfl rfl rfl ?_
 rintro _ _ ⟨b21,rfl,rfl⟩
 refine aq (qQ (an (an (ah (aa (al rfl) rfl rfl rfl ?_)))))
 refine aa (aF rfl rfl (fx (fun w=>rfl) rfl (kj Tryz.underlying28 _ _))) rfl rfl rfl ?_
 refine aa (al rfl) rfl rfl rfl ?_
 refine au (aG (v:=(I a1)) rfl ba (aA (i:=1) rfl rfl)) rfl rfl rfl rfl rfl rfl ?_
 refine au (al rfl) rfl rfl rfl rfl rfl rfl ?_
 refine au (aF rfl rfl (jI _ _ _)) rfl rfl rfl rfl rfl rfl ?_
 refine aa (aJ rfl rfl rfl rfl) rfl rfl rfl (aq ?_)
 refine fE H (fun c26 H=>?_) fun c26 H=>?_
 ·refine az rfl (decide_eq_true c26) (an (ah ?_))
  refine bs (bj (cs:=[L0]) (cs':=[L0]) (us:=[L0]) (L':=[box b21 22 [L0],box b20 2 [I a1],box p0 99 [pt p1 0],box p1 130 [sv0],own sv0 135 7 l0.length (fl ac l0)]) 0 rfl rfl rfl (bx rfl) gG rfl rfl (by simp) rfl) rfl rfl ?_
  rintro _ _ rfl
  refine aq (aE ?_)
  first | (have e_:=Option.some.inj (show some _ = some _ from H); subst e_) | subst H
  refine gI 54 6 ?_
  exact cW [3,4,5,0] (by decide) rfl (vs:=[L0]) rfl ⟨⟨_,[L0],rfl,aA (i:=1) rfl rfl,.inr ⟨gU,rfl⟩⟩,trivial⟩ _ rfl ⟨_,rfl,rfl⟩
 refine ay rfl (decide_eq_false c26) (aN ?_)
 obtain ⟨x10,H2,H⟩:=Option.bind_eq_some_iff.1 H
 refine cq (fun a w=>∃ sv26:Value,∃ b23:Nat,∃ b24:Nat,St 46 w0 F [(0,pt p0 0),(2,I a2),(4,pt b23 0),(6,pt b24 0)] [box p0 99 [pt p1 0],box p1 130 [sv0],own sv0 135 7 l0.length (fl ac l0),box b23 2 [I a1],box b24 22 [sv26],own sv26 54 6 x10.length (fl aV x10)] a w) ?_ ?_
 ·refine an (ah (aa (al rfl) rfl rfl rfl (aa (aG (v:=(I a1)) rfl ba (aA (i:=1) rfl rfl)) rfl rfl rfl ?_)))
  obtain ⟨x11,h9,H2⟩:=Option.bind_eq_some_iff.1 H2
  let C1_:List Value:=[I x11.1,I x11.2.1,I x11.2.2.1,I x11.2.2.2.1,I x11.2.2.2.2.1,bool x11.2.2.2.2.2.1]
  refine aH (bH (Lr:=[box b21 22 [L0],box b20 2 [I a1]]) [2,3,4,0,1] [3,4,0,1,2] (first:=[]) (cap:=[]) (xs:=[.tmp 19,.tmp 20]) rfl rfl oF rfl (fo.spec K p0 p1 sv0 l0 a1 _ h9) (by decide) rfl (by decide) rfl) rfl rfl rfl ?_
  rintro _ _ ⟨rfl,rfl⟩
  refine aa (al rfl) rfl rfl rfl (aa (aT rfl rfl) rfl rfl rfl (aa (aT rfl rfl) rfl rfl rfl ?_))
  refine aH (bJ cZ) rfl rfl rfl ?_
  rintro _ _ ⟨b25,rfl,rfl⟩
  refine bs (bj (cs:=[I 0,I 0,I 0,I 0,I 0,B0]) (cs':=C1_) (us:=C1_) (L':=[box b25 54 C1_,box b21 22 [L0],box b20 2 [I a1],box p0 99 [pt p1 0],box p1 130 [sv0],own sv0 135 7 l0.length (fl ac l0)]) 0 rfl rfl rfl (bx rfl) be rfl rfl (by simp [C1_]) rfl) rfl rfl ?_
  rintro _ _ rfl
  refine aa (ak rfl) rfl rfl rfl (aq (an (ah (aa (al rfl) rfl rfl rfl (aq ?_)))))
  refine hQ H2 (fun c29 H2=>?_) fun c29 H2=>?_
  ·refine ay rfl (Bool.eq_false_iff.2 c29) (aN ?_)
   cases H2
   refine gI 54 6 ?_
   exact bd [4,5,6,3,2,0] (by decide) rfl (af (t:=0) rfl (af (t:=2) rfl (af (t:=4) rfl (af (t:=6) rfl (aR _))))) fun a w h=>⟨_,_,_,h⟩
  refine az rfl c29 (ah (aa (aG (v:=L0) rfl gU (aA (i:=1) rfl rfl)) rfl rfl rfl (aa (aK (vs:=C1_) rfl cH be (aP (i:=0) rfl)) rfl rfl rfl ?_)))
  refine aH (eV (sz:=5) (xs:=[.tmp 26]) (cs:=fl aV [(⟨(⟨x11.1,x11.2.1⟩:aD),x11.2.2.1,x11.2.2.2.1,x11.2.2.2.2.1,x11.2.2.2.2.2.1⟩:ax)]) rfl rfl cQ be cZ rfl rfl (iK rfl) rfl (by decide)) rfl rfl rfl ?_
  rintro sv27 _ rfl
  refine gI 54 6 ?_
  obtain ⟨c30,H2⟩:=ji H2
  refine aH (gK (sz:=5) (xs:=([]:List ax)) (ys:=[(⟨(⟨x11.1,x11.2.1⟩:aD),x11.2.2.1,x11.2.2.2.1,x11.2.2.2.2.1,x11.2.2.2.2.2.1⟩:ax)]) 0 1 rfl rfl cQ be cZ rfl ll rfl rfl rfl (bb 54) rfl iq c30) rfl rfl rfl ?_
  rintro sv28 _ rfl
  refine mC [own sv28 54 6 (([]:List ax) ++ [(⟨(⟨x11.1,x11.2.1⟩:aD),x11.2.2.1,x11.2.2.2.1,x11.2.2.2.2.1,x11.2.2.2.2.2.1⟩:ax)]).length (fl aV (([]:List ax) ++ [(⟨(⟨x11.1,x11.2.1⟩:aD),x11.2.2.1,x11.2.2.2.1,x11.2.2.2.2.1,x11.2.2.2.2.2.1⟩:ax)])),own sv27 54 6 [(⟨(⟨x11.1,x11.2.1⟩:aD),x11.2.2.1,x11.2.2.2.1,x11.2.2.2.2.1,x11.2.2.2.2.2.1⟩:ax)].length (fl aV [(⟨(⟨x11.1,x11.2.1⟩:aD),x11.2.2.1,x11.2.2.2.1,x11.2.2.2.2.1,x11.2.2.2.2.2.1⟩:ax)]),box b25 54 C1_,box b21 22 [L0],box b20 2 [I a1],box p0 99 [pt p1 0],box p1 130 [sv0],own sv0 135 7 l0.length (fl ac l0)] rfl ?_
  refine bs (jX (cs:=[L0]) (cs':=[sv28]) (sv:=sv28) (L':=[own sv28 54 6 (([]:List ax) ++ [(⟨(⟨x11.1,x11.2.1⟩:aD),x11.2.2.1,x11.2.2.2.1,x11.2.2.2.2.1,x11.2.2.2.2.2.1⟩:ax)]).length (fl aV (([]:List ax) ++ [(⟨(⟨x11.1,x11.2.1⟩:aD),x11.2.2.1,x11.2.2.2.1,x11.2.2.2.2.1,x11.2.2.2.2.2.1⟩:ax)])),own sv27 54 6 [(⟨(⟨x11.1,x11.2.1⟩:aD),x11.2.2.1,x11.2.2.2.1,x11.2.2.2.2.1,x11.2.2.2.2.2.1⟩:ax)].length (fl aV [(⟨(⟨x11.1,x11.2.1⟩:aD),x11.2.2.1,x11.2.2.2.1,x11.2.2.2.2.1,x11.2.2.2.2.2.1⟩:ax)]),box b25 54 C1_,box b21 22 [sv28],box b20 2 [I a1],box p0 99 [pt p1 0],box p1 130 [sv0],own sv0 135 7 l0.length (fl ac l0)]) 3 0 rfl rfl gG rfl rfl (bb 54) rfl (by simp [C1_]) rfl) rfl rfl ?_
  rintro _ _ rfl
  refine aq ?_
  cases H2
  exact bd [5,6,7,4,3,0] (by decide) rfl (af (t:=0) rfl (af (t:=2) rfl (af (t:=4) rfl (af (t:=6) rfl (aR _))))) fun a w h=>⟨_,_,_,h⟩
 ·refine bh fun sv26=>bh fun b23=>bh fun b24=>?_
  let C2_:List HP:=[box p0 99 [pt p1 0],box p1 130 [sv0],own sv0 135 7 l0.length (fl ac l0),box b23 2 [I a1],box b24 22 [sv26],own sv26 54 6 x10.length (fl aV x10)]
  refine an (rD (an (an ?_)))
  obtain ⟨x14,h12,H⟩:=Option.bind_eq_some_iff.1 H
  let Z4_A:(Nat → Bool) → Act → World → Prop:=(fun D a w=>jE 46 w0 F [(0,pt p0 0),(2,I a2),(4,pt b23 0),(6,pt b24 0)] [(0,29,pt p0 0),(1,30,pt p0 0),(2,31,pt p0 0),(3,32,pt p1 0),(4,33,I a1),(5,34,I a2)] D C2_ a w)
  let Z4_B:Act → World → Prop:=(fun a w=>∃ b32:Nat,∃ sv37:Value,eD (own sv0 135 7 l0.length (fl ac l0)) sv37 x14.length 7 (fl ac x14) ∧ St 46 w0 F [(0,pt p0 0),(2,I a2),(4,pt b23 0),(6,pt b24 0),(29,pt p0 0),(30,pt p0 0),(31,pt p0 0),(32,pt p1 0),(33,I a1),(34,I a2),(35,(Value.func (.func 126) #[] #[pt b32 0]))] [box p1 130 [sv0],own sv0 135 7 l0.length (fl ac l0),box b32 128 [sv37],box p0 99 [pt p1 0],box b23 2 [I a1],box b24 22 [sv26],own sv26 54 6 x10.length (fl aV x10)] a w)
  refine bR 7 rfl (rV 6 Z4_A Z4_B) (by kernel_rfl) (by kernel_rfl) (om (bF (af (t:=0) rfl (af (t:=2) rfl (af (t:=4) rfl (af (t:=6) rfl (aR _))))) rfl)) ?_ ?_
  ·refine ⟨?_,?_,?_,?_,?_,?_,?_,trivial⟩
   ·intro D hi hc U
    have n1:D 1 = false:=bl (m:=1) hc hi rfl rfl
    have n2:D 2 = false:=bl (m:=2) hc n1 rfl rfl
    have n3:D 3 = false:=bl (m:=3) hc n2 rfl rfl
    have n6:D 6 = false:=bl (m:=6) hc n3 rfl rfl
    refine fv (m:=6) (A:=Z4_A) n6 rfl ?_
    exact am (i:=0) (t:=29) (v:=(pt p0 0)) rfl rfl (ao rfl) (fun a=>aj) (al rfl) rfl rfl (ai (k0:=0) rfl rfl rfl)
   ·intro D hi hc U
    have n2:D 2 = false:=bl (m:=2) hc hi rfl rfl
    have n3:D 3 = false:=bl (m:=3) hc n2 rfl rfl
    have n6:D 6 = false:=bl (m:=6) hc n3 rfl rfl
    refine fv (m:=6) (A:=Z4_A) n6 rfl ?_
    have d0:D 0 = true:=ar (j:=0) U rfl (by decide) rfl
    exact am (i:=1) (t:=30) (v:=(pt p0 0)) rfl rfl (ao rfl) (fun a=>(ae (k:=0) rfl d0 aj)) (bq rfl) rfl rfl (ai (k0:=1) rfl rfl rfl)
   ·intro D hi hc U
    have n3:D 3 = false:=bl (m:=3) hc hi rfl rfl
    have n6:D 6 = false:=bl (m:=6) hc n3 rfl rfl
    refine fv (m:=6) (A:=Z4_A) n6 rfl ?_
    have d1:D 1 = true:=ar (j:=1) U rfl (by decide) rfl
    exact am (i:=2) (t:=31) (v:=(pt p0 0)) rfl rfl (ao rfl) (fun a=>(ae (k:=1) rfl d1 aj)) (av (sz:=0) (o:=0) rfl gr ie) rfl rfl (ai (k0:=2) rfl rfl rfl)
   ·intro D hi hc U
    have n6:D 6 = false:=bl (m:=6) hc hi rfl rfl
    refine fv (m:=6) (A:=Z4_A) n6 rfl ?_
    have d2:D 2 = true:=ar (j:=2) U rfl (by decide) rfl
    exact am (i:=3) (t:=32) (v:=(pt p1 0)) rfl rfl (ao rfl) (fun a=>(ae (k:=2) rfl d2 aj)) (aG (v:=(pt p1 0)) rfl eC (aA (i:=0) rfl rfl)) rfl rfl (ai (k0:=3) rfl rfl rfl)
   ·intro D hi hc U
    have n6:D 6 = false:=bl (m:=6) hc hi rfl rfl
    refine fv (m:=6) (A:=Z4_A) n6 rfl ?_
    exact am (i:=4) (t:=33) (v:=(I a1)) rfl rfl (ao rfl) (fun a=>aj) (aG (v:=(I a1)) rfl ba (aA (i:=3) rfl rfl)) rfl rfl (ai (k0:=4) rfl rfl rfl)
   ·intro D hi hc U
    have n6:D 6 = false:=bl (m:=6) hc hi rfl rfl
    refine fv (m:=6) (A:=Z4_A) n6 rfl ?_
    exact am (i:=5) (t:=34) (v:=(I a2)) rfl rfl (ao rfl) (fun a=>aj) (al rfl) rfl rfl (ai (k0:=5) rfl rfl rfl)
   ·intro D hi hc U
    refine qH (m:=6) (A:=Z4_A) (B:=Z4_B) hi ?_
    have d3:D 3 = true:=ar (j:=3) U rfl (by decide) rfl
    have d4:D 4 = true:=ar (j:=4) U rfl (by decide) rfl
    have d5:D 5 = true:=ar (j:=5) U rfl (by decide) rfl
    have d2:D 2 = true:=fD (i:=3) (j:=2) hc d3 rfl rfl
    have d1:D 1 = true:=fD (i:=2) (j:=1) hc d2 rfl rfl
    have d0:D 0 = true:=fD (i:=1) (j:=0) hc d1 rfl rfl
    refine bS C2_ rfl (fun a=>(ae (k:=0) rfl d0 (ae (k:=1) rfl d1 (ae (k:=2) rfl d2 (ae (k:=3) rfl d3 (ae (k:=4) rfl d4 (ae (k:=5) rfl d5 aj))))))) ?_
    refine aB [1,2,0,3,4,5] (by decide) rfl ?_
    refine rY rfl rfl rfl rfl (bX (Lr:=[box p0 99 [pt p1 0],box b23 2 [I a1],box b24 22 [sv26],own sv26 54 6 x10.length (fl aV x10)]) (first:=[]) (cap:=[]) (xs:=[.tmp 32,.tmp 33,.tmp 34]) rfl rfl uh rfl (cv.spec K p1 sv0 l0 a1 a2 _ h12) rfl) ?_
    rintro _ _ ⟨_,⟨b32,sv37,hr5,rfl,rfl⟩,rfl⟩
    exact bd [0,1,2,3,4,5,6] (by decide) rfl (af (t:=0) rfl (af (t:=2) rfl (af (t:=4) rfl (af (t:=6) rfl (af (t:=29) rfl (af (t:=30) rfl (af (t:=31) rfl (af (t:=32) rfl (af (t:=33) rfl (af (t:=34) rfl (af (t:=35) rfl (aR _)))))))))))) fun a w h=>⟨_,_,hr5,h⟩
  ·intro D hall
   refine sj (A:=Z4_A) (B:=Z4_B) (hall 6 (by decide)) ?_
   refine bh fun b32=>bh fun sv37=>cD fun hr5=>?_
   refine bf ?_
   obtain ⟨x15,h13,H⟩:=Option.bind_eq_some_iff.1 H
   refine lT (γ:=List ax) (cap:=[pt b32 0]) (Lg:=[box b32 128 [sv37],own sv0 135 7 l0.length (fl ac l0)]) (M0:=[box p0 99 [pt p1 0],box b23 2 [I a1],box b24 22 [sv26],own sv26 54 6 x10.length (fl aV x10),box p1 130 [sv0]]) (x0:=x10) (x1:=x15) (fun (z4:List ax) M=>∃ sv40:Value,M = [box p0 99 [pt p1 0],box b23 2 [I a1],box b24 22 [sv40],own sv40 54 6 z4.length (fl aV z4),box p1 130 [sv0]]) (fun vs z_ r_=>∃ t0_:Int,∃ t1_:ax,vs = [I t0_,agg #[I t1_.Part.Tier,I t1_.Part.Index,I t1_.Seg,I t1_.Mark,I t1_.Rows,bool t1_.Cold]] ∧ eG K a1 t0_ t1_ z_ = some r_) [2,1,3,4,5,6,0] rfl rfl (by decide) rfl (by decide) ⟨_,rfl⟩ ?_ ?_ ?_
   ·rintro l _ z4 r _ ⟨t0_,t1_,rfl,Hl⟩ ⟨sv40,rfl⟩
    let C3_:Value:=agg #[I t1_.Part.Tier,I t1_.Part.Index,I t1_.Seg,I t1_.Mark,I t1_.Rows,bool t1_.Cold]
    let C0_:List Value:=[I t1_.Part.Tier,I t1_.Part.Index,I t1_.Seg,I t1_.Mark,I t1_.Rows,bool t1_.Cold]
    unfold eG at Hl
    refine ⟨rfl,Nat,fun g_=>[(4,pt b23 0),(6,pt b24 0),(9,I t0_),(10,pt g_ 0),(36,I t0_),(37,C3_)],fun g_=>[box g_ 54 C0_,box p0 99 [pt p1 0],box b23 2 [I a1],box b24 22 [sv40],own sv40 54 6 z4.length (fl aV z4),box p1 130 [sv0]],fun F w0=>?_,?_⟩
    ·refine an (ah (aa (ak rfl) rfl rfl rfl (aq (ah ?_))))
     refine aH (bJ cZ) rfl rfl rfl ?_
     rintro _ _ ⟨b37,rfl,rfl⟩
     refine bs (bj (cs:=[I 0,I 0,I 0,I 0,I 0,B0]) (cs':=C0_) (us:=C0_) (L':=[box b37 54 C0_,box p0 99 [pt p1 0],box b23 2 [I a1],box b24 22 [sv40],own sv40 54 6 z4.length (fl aV z4),box p1 130 [sv0]]) 0 rfl rfl rfl (bx rfl) be rfl rfl (by simp [C2_,C3_,C0_]) rfl) rfl rfl ?_
     rintro _ _ rfl
     refine aq ?_
     exact bd [0,1,2,3,4,5] (by decide) rfl (af (t:=4) rfl (af (t:=6) rfl (af (t:=9) rfl (af (t:=10) rfl (af (t:=36) rfl (af (t:=37) rfl (aR _))))))) fun a w h=>⟨b37,h⟩
    ·rintro b37 F w0
     show ck (St 46 w0 F [(4,pt b23 0),(6,pt b24 0),(9,I t0_),(10,pt b37 0),(36,I t0_),(37,C3_)] [box b37 54 C0_,box p0 99 [pt p1 0],box b23 2 [I a1],box b24 22 [sv40],own sv40 54 6 z4.length (fl aV z4),box p1 130 [sv0]]) _
     refine bf (an (an (ah (aa (al rfl) rfl rfl rfl (aa (aG (v:=(I a1)) rfl ba (aA (i:=2) rfl rfl)) rfl rfl rfl (aa (aF rfl rfl (fc _ _ _)) rfl rfl rfl (aq ?_)))))))
     refine fE Hl (fun c47 Hl=>?_) fun c47 Hl=>?_
     ·refine az rfl (dW c47) (bW ?_)
      cases Hl
      refine aB [1,2,3,4,5] (by decide) rfl ?_
      refine jq ?_
      exact ⟨rfl,rfl,_,rfl⟩
     refine ay rfl (fj c47) (aN (ah (aa (aG (v:=sv40) rfl gU (aA (i:=3) rfl rfl)) rfl rfl rfl (aa (aK (vs:=C0_) rfl cH be (aP (i:=0) rfl)) rfl rfl rfl ?_))))
     refine aH (eV (sz:=5) (xs:=[.tmp 42]) (cs:=fl aV [(⟨(⟨t1_.Part.Tier,t1_.Part.Index⟩:aD),t1_.Seg,t1_.Mark,t1_.Rows,t1_.Cold⟩:ax)]) rfl rfl cQ be cZ rfl rfl (iK rfl) rfl (by decide)) rfl rfl rfl ?_
     rintro sv43 _ rfl
     obtain ⟨c48,Hl⟩:=ji Hl
     refine aH (gK (sz:=5) (xs:=z4) (ys:=[(⟨(⟨t1_.Part.Tier,t1_.Part.Index⟩:aD),t1_.Seg,t1_.Mark,t1_.Rows,t1_.Cold⟩:ax)]) 5 0 rfl rfl cQ be cZ rfl ll rfl rfl rfl (bb 54) rfl iq c48) rfl rfl rfl ?_
     rintro sv44 _ rfl
     refine mC [own sv43 54 6 [(⟨(⟨t1_.Part.Tier,t1_.Part.Index⟩:aD),t1_.Seg,t1_.Mark,t1_.Rows,t1_.Cold⟩:ax)].length (fl aV [(⟨(⟨t1_.Part.Tier,t1_.Part.Index⟩:aD),t1_.Seg,t1_.Mark,t1_.Rows,t1_.Cold⟩:ax)]),box b37 54 C0_,box p0 99 [pt p1 0],box b23 2 [I a1],box b24 22 [sv40],own sv44 54 6 (z4 ++ [(⟨(⟨t1_.Part.Tier,t1_.Part.Index⟩:aD),t1_.Seg,t1_.Mark,t1_.Rows,t1_.Cold⟩:ax)]).length (fl aV (z4 ++ [(⟨(⟨t1_.Part.Tier,t1_.Part.Index⟩:aD),t1_.Seg,t1_.Mark,t1_.Rows,t1_.Cold⟩:ax)])),box p1 130 [sv0]] rfl ?_
     refine bs (jX (cs:=[sv40]) (cs':=[sv44]) (sv:=sv44) (L':=[own sv43 54 6 [(⟨(⟨t1_.Part.Tier,t1_.Part.Index⟩:aD),t1_.Seg,t1_.Mark,t1_.Rows,t1_.Cold⟩:ax)].length (fl aV [(⟨(⟨t1_.Part.Tier,t1_.Part.Index⟩:aD),t1_.Seg,t1_.Mark,t1_.Rows,t1_.Cold⟩:ax)]),box b37 54 C0_,box p0 99 [pt p1 0],box b23 2 [I a1],box b24 22 [sv44],own sv44 54 6 (z4 ++ [(⟨(⟨t1_.Part.Tier,t1_.Part.Index⟩:aD),t1_.Seg,t1_.Mark,t1_.Rows,t1_.Cold⟩:ax)]).length (fl aV (z4 ++ [(⟨(⟨t1_.Part.Tier,t1_.Part.Index⟩:aD),t1_.Seg,t1_.Mark,t1_.Rows,t1_.Cold⟩:ax)])),box p1 130 [sv0]]) 4 5 rfl rfl gG rfl rfl (bb 54) rfl (by simp [C2_,C3_,C0_]) rfl) rfl rfl ?_
     rintro _ _ rfl
     refine aq ?_
     cases Hl
     refine aB [2,3,4,5,6] (by decide) rfl ?_
     refine jq ?_
     exact ⟨rfl,rfl,_,rfl⟩
   ·intro Y l hY
    exact (bV.spec K l b32 sv37 (own sv0 135 7 l0.length (fl ac l0)) (List ax) (eG K a1) x10 x14 Y (fun t0_ t1_ z_ r_ h_=>hY _ z_ r_ ⟨t0_,t1_,rfl,h_⟩) hr5 _ h13).mono fun _ _ h_=>h_.2
   ·rintro _ ⟨sv40,rfl⟩
    refine kS [(4,pt b23 0),(6,pt b24 0)] (af (t:=4) rfl (af (t:=6) rfl (aR _))) ?_
    refine an (ah (aa (aG (v:=sv40) rfl gU (aA (i:=4) rfl rfl)) rfl rfl rfl ?_))
    refine bs (jX (cs:=[sv40]) (cs':=[sv40]) (sv:=sv40) (L':=[box b32 128 [sv37],own sv0 135 7 l0.length (fl ac l0),box p0 99 [pt p1 0],box b23 2 [I a1],box b24 22 [sv40],own sv40 54 6 x15.length (fl aV x15),box p1 130 [sv0]]) 4 5 rfl rfl gG rfl rfl (bb 54) rfl (by simp [C2_]) rfl) rfl rfl ?_
    rintro _ _ rfl
    refine aq (aE ?_)
    first | (have e_:=Option.some.inj (show some _ = some _ from H); subst e_) | subst H
    exact cW [2,6,1,5] (by decide) rfl (vs:=[sv40]) rfl ⟨⟨_,[sv40],rfl,aA (i:=4) rfl rfl,.inr ⟨gU,rfl⟩⟩,trivial⟩ _ rfl ⟨_,rfl,rfl⟩
theorem bm.spec (sv0 sv1:Value) (l0:List ag) (a1:Int) (l1:List ag) (r:List ag) (H:bm l0 a1 l1 = some r):bn Tryz.prog 108 [sv0,I a1,sv1] [own sv0 135 7 l0.length (fl ac l0),own sv1 135 7 l1.length (fl ac l1)] (fun v M=>∃ sv2:Value,v = sv2 ∧ M = [own sv2 135 7 r.length (fl ac r),own sv1 135 7 l1.length (fl ac l1)]):=by
 obtain ⟨i,y,rfl,rfl,hin,hroom,rfl⟩:=xU H
 have hbig:l0.length + 1 ≤ 140737488355328:=by omega
 have hml:maxLen = 9223372036854775807:=rfl
 have hfy:(fl ac [y]).length = 7:=by rw [gb aM]; simp
 have hfd:(fl ac (l0.drop i)).length = (l0.length - i) * 7:=by rw [gb aM]; simp
 refine bk Tryz.func108 rfl 95 rfl (Nat.le_of_ble_eq_true rfl) fun F w0=>?_
 show ck (St 95 w0 F [(0,sv0),(1,I (i:Int)),(2,sv1)] [own sv0 135 7 l0.length (fl ac l0),own sv1 135 7 ([y]:List ag).length (fl ac [y])]) _
 refine an (ah (aa (ak rfl) rfl rfl rfl (aq (an (ah (aa (al rfl) rfl rfl rfl (aa (al rfl) rfl rfl rfl ?_)))))))
 by_cases c1:0 ≤ (((i):Nat):Int)
 ·by_cases c2:(((i):Nat):Int) ≤ (l0.length:Int)
  ·refine aa (ls 0 rfl rfl bu bY rfl (bb 135) c1 c2) rfl rfl rfl (aq (an (ah (aa (al rfl) rfl rfl rfl (aa (fz (m:=1) 1 rfl bu rfl (bb 135)) rfl rfl rfl (aa (ak rfl) rfl rfl rfl (aq (an (an (ah (aa (al rfl) rfl rfl rfl ?_)))))))))))
   refine aa (aF rfl rfl (fc _ _ _)) rfl rfl rfl (aq (ay rfl rfl (aN (an (ah (aa (al rfl) rfl rfl rfl (aa (fz 0 rfl bu rfl (bb 135)) rfl rfl rfl (aa (ak rfl) rfl rfl rfl (aq (an (an ?_)))))))))))
   refine ah (aa (al rfl) rfl rfl rfl (aa (al rfl) rfl rfl rfl (aa (aF rfl rfl (fc _ _ _)) rfl rfl rfl (aq ?_))))
   by_cases c3:(((i):Nat):Int) = (l0.length:Int)
   ·refine az rfl (dW c3) (an (ah (aa (al rfl) rfl rfl rfl (aa (al rfl) rfl rfl rfl ?_))))
    by_cases c4:(l0.length + [y].length) * 56 ≤ 140737488355328
    ·refine aH (gK (sz:=6) (xs:=l0) (ys:=[y]) 0 1 rfl rfl bu bY iX rfl mu rfl rfl rfl (bb 135) rfl cT c4) rfl rfl rfl ?_
     rintro sv2 _ rfl
     refine mC [own sv2 135 7 (l0 ++ [y]).length (fl ac (l0 ++ [y])),own sv1 135 7 [y].length (fl ac [y])] rfl ?_
     refine aa (ak rfl) rfl rfl rfl (aq (aE ?_))
     have e_:l0.insertIdx i y = l0 ++ [y]:=by
      have e2_:i = l0.length:=by omega
      rw [e2_]; exact yG l0 y
     rw [e_]
     refine aB [0,1] (by decide) rfl ?_
     exact aS rfl rfl ⟨_,rfl,rfl⟩
    ·first | omega | (simp only [List.length_cons,List.length_nil] at *; omega)
   ·refine ay rfl (fj c3) (aN (an (an (ah (aa (al rfl) rfl rfl rfl (aa (al rfl) rfl rfl rfl (aa (iA (m':=(((l0.length + 1):Nat):Int)) rfl rfl (cr _ _ _) (by rewrite [IntKind.wrap_i64]; omega)) rfl rfl rfl (aa (al rfl) rfl rfl rfl ?_))))))))
    refine tC 0 rfl (by omega) ?_
    rintro b1 cap1 cur1 rfl hx1 hx2 hx3 hx4
    refine tC 1 rfl (Nat.zero_lt_one) ?_
    rintro b2 cap2 cur2 rfl hx5 hx6 hx7 hx8
    let C2_:List HP:=[box b1 135 (cur1.take (0 + (i + 1) * 7) ++ (fl ac (l0.drop i)) ++ cur1.drop (0 + (i + 1) * 7 + (fl ac (l0.drop i)).length)),box b2 135 cur2]
    refine mC [box b1 135 cur1,box b2 135 cur2] rfl ?_
    refine aa (zw rfl bu) rfl rfl rfl (aa (aF rfl rfl (ip _ _ _)) rfl rfl rfl (aq ?_))
    by_cases c5:(((cap1):Nat):Int) < (((l0.length + 1):Nat):Int)
    ·refine az rfl (decide_eq_true c5) (an (ah (aa (al rfl) rfl rfl rfl (aa (al rfl) rfl rfl rfl (aa (qj (h:=i) rfl rfl (by omega) bu bY (by omega)) rfl rfl rfl (aa (al rfl) rfl rfl rfl (aa (al rfl) rfl rfl rfl (aa (iA (m':=(((l0.length + 1):Nat):Int)) rfl rfl (cr _ _ _) (by rewrite [IntKind.wrap_i64]; omega)) rfl rfl rfl (aa (al rfl) rfl rfl rfl (aa (iA (m':=(((l0.length + 1 - i):Nat):Int)) rfl rfl (iF _ _ _) (by rewrite [IntKind.wrap_i64]; omega)) rfl rfl rfl ?_))))))))))
     refine aH (qN (m:=l0.length + 1) 0 rfl rfl (j:=(((l0.length + 1 - i):Nat):Int)) (k:=l0.length + 1 - i) rfl bu Tryz.underlying3 bY iX rfl mu rfl rfl hx3 (by omega) (by omega) (by omega) (by omega) hroom) rfl rfl rfl ?_
     rintro _ _ ⟨b3,cap3,row1,rfl,rfl,hx9,hx10,hx11,hx12⟩
     let C1_:List HP:=[box b3 135 (row1.take (0 + (i) * 7) ++ (fl ac [y]) ++ row1.drop (0 + (i) * 7 + (fl ac [y]).length)),box b1 135 cur1,box b2 135 cur2]
     let C0_:List HP:=[box b3 135 ((row1.take (0 + (i) * 7) ++ (fl ac [y]) ++ row1.drop (0 + (i) * 7 + (fl ac [y]).length)).take (0 + (i + 1) * 7) ++ (fl ac (l0.drop i)) ++ (row1.take (0 + (i) * 7) ++ (fl ac [y]) ++ row1.drop (0 + (i) * 7 + (fl ac [y]).length)).drop (0 + (i + 1) * 7 + (fl ac (l0.drop i)).length)),box b1 135 cur1,box b2 135 cur2]
     refine aa (ak rfl) rfl rfl rfl (aq (an (ah (aa (al rfl) rfl rfl rfl (aa (al rfl) rfl rfl rfl (aa (jP (l:=i) rfl rfl (by omega) bu bY (by omega) (by omega) (by omega)) rfl rfl rfl (aa (al rfl) rfl rfl rfl ?_)))))))
     refine aH (pz (L':=C1_) (cs:=(fl ac [y])) 0 2 rfl rfl bu bY rfl rfl (uR aM hx8) (pw (k:=1) (Nat.le_refl 1) (by omega) (.inl rfl) (by omega)) (by simp only [C2_,C1_,C0_,List.length_append,List.length_take,List.length_drop,hfy,hfd]; omega) (pY cT _) rfl) rfl rfl rfl ?_
     rintro _ _ ⟨rfl,rfl⟩
     refine aq (an ?_)
     let Z1_A:(Nat → Bool) → Act → World → Prop:=(fun D a w=>jE 95 w0 F [(0,slice (some ⟨b1,0,none⟩) (l0.length) (cap1)),(1,I (((i):Nat):Int)),(2,slice (some ⟨b2,0,none⟩) (1) (cap2)),(6,L0),(7,I 1),(8,I (l0.length:Int)),(9,slice (some ⟨b3,0,none⟩) (l0.length + 1) (cap3)),(10,slice (some ⟨b1,0,none⟩) (l0.length) (cap1)),(11,I (((i):Nat):Int)),(12,(jn (slice (some ⟨b1,0,none⟩) (l0.length) (cap1)) (((i):Nat):Int).toNat l0.length 7)),(13,slice (some ⟨b2,0,none⟩) (1) (cap2)),(14,I 1),(15,I 1),(16,B0),(18,slice (some ⟨b1,0,none⟩) (l0.length) (cap1)),(19,I (l0.length:Int)),(20,I (((i):Nat):Int)),(21,I (l0.length:Int)),(22,bool ((((i):Nat):Int) == (l0.length:Int))),(26,I (l0.length:Int)),(27,I 1),(28,I (((l0.length + 1):Nat):Int)),(29,slice (some ⟨b1,0,none⟩) (l0.length) (cap1)),(30,I (((cap1):Nat):Int)),(31,bool (decide ((((cap1):Nat):Int) < (((l0.length + 1):Nat):Int)))),(32,slice (some ⟨b1,0,none⟩) (l0.length) (cap1)),(33,I (((i):Nat):Int)),(34,slice (some ⟨b1,0,none⟩) (i) (cap1)),(35,I (l0.length:Int)),(36,I 1),(37,I (((l0.length + 1):Nat):Int)),(38,I (((i):Nat):Int)),(39,I (((l0.length + 1 - i):Nat):Int)),(40,slice (some ⟨b3,0,none⟩) (l0.length + 1) (cap3)),(41,slice (some ⟨b3,0,none⟩) (l0.length + 1) (cap3)),(42,I (((i):Nat):Int)),(43,slice (some ⟨b3,0 + (i) * 7,none⟩) (l0.length + 1 - (i)) (cap3 - (i))),(44,slice (some ⟨b2,0,none⟩) (1) (cap2)),(45,(goInt (Nat.min (1) (l0.length + 1 - (i)))))] [(0,46,slice (some ⟨b3,0,none⟩) (l0.length + 1) (cap3)),(1,47,I (((i):Nat):Int)),(2,48,I 1),(3,49,I (((i + 1):Nat):Int)),(4,50,slice (some ⟨b3,0 + (i + 1) * 7,none⟩) (l0.length + 1 - (i + 1)) (cap3 - (i + 1))),(5,51,slice (some ⟨b1,0,none⟩) (l0.length) (cap1)),(6,52,I (((i):Nat):Int)),(7,53,slice (some ⟨b1,0 + (i) * 7,none⟩) (l0.length - (i)) (cap1 - (i)))] D C1_ a w)
     let Z1_B:Act → World → Prop:=(fun a w=>St 95 w0 F [(0,slice (some ⟨b1,0,none⟩) (l0.length) (cap1)),(1,I (((i):Nat):Int)),(2,slice (some ⟨b2,0,none⟩) (1) (cap2)),(6,L0),(7,I 1),(8,I (l0.length:Int)),(9,slice (some ⟨b3,0,none⟩) (l0.length + 1) (cap3)),(10,slice (some ⟨b1,0,none⟩) (l0.length) (cap1)),(11,I (((i):Nat):Int)),(12,(jn (slice (some ⟨b1,0,none⟩) (l0.length) (cap1)) (((i):Nat):Int).toNat l0.length 7)),(13,slice (some ⟨b2,0,none⟩) (1) (cap2)),(14,I 1),(15,I 1),(16,B0),(18,slice (some ⟨b1,0,none⟩) (l0.length) (cap1)),(19,I (l0.length:Int)),(20,I (((i):Nat):Int)),(21,I (l0.length:Int)),(22,bool ((((i):Nat):Int) == (l0.length:Int))),(26,I (l0.length:Int)),(27,I 1),(28,I (((l0.length + 1):Nat):Int)),(29,slice (some ⟨b1,0,none⟩) (l0.length) (cap1)),(30,I (((cap1):Nat):Int)),(31,bool (decide ((((cap1):Nat):Int) < (((l0.length + 1):Nat):Int)))),(32,slice (some ⟨b1,0,none⟩) (l0.length) (cap1)),(33,I (((i):Nat):Int)),(34,slice (some ⟨b1,0,none⟩) (i) (cap1)),(35,I (l0.length:Int)),(36,I 1),(37,I (((l0.length + 1):Nat):Int)),(38,I (((i):Nat):Int)),(39,I (((l0.length + 1 - i):Nat):Int)),(40,slice (some ⟨b3,0,none⟩) (l0.length + 1) (cap3)),(41,slice (some ⟨b3,0,none⟩) (l0.length + 1) (cap3)),(42,I (((i):Nat):Int)),(43,slice (some ⟨b3,0 + (i) * 7,none⟩) (l0.length + 1 - (i)) (cap3 - (i))),(44,slice (some ⟨b2,0,none⟩) (1) (cap2)),(45,(goInt (Nat.min (1) (l0.length + 1 - (i))))),(46,slice (some ⟨b3,0,none⟩) (l0.length + 1) (cap3)),(47,I (((i):Nat):Int)),(48,I 1),(49,I (((i + 1):Nat):Int)),(50,slice (some ⟨b3,0 + (i + 1) * 7,none⟩) (l0.length + 1 - (i + 1)) (cap3 - (i + 1))),(51,slice (some ⟨b1,0,none⟩) (l0.length) (cap1)),(52,I (((i):Nat):Int)),(53,slice (some ⟨b1,0 + (i) * 7,none⟩) (l0.length - (i)) (cap1 - (i))),(54,(goInt (Nat.min (l0.length - (i)) (l0.length + 1 - (i + 1)))))] C0_ a w)
     refine bR 9 rfl (rV 8 Z1_A Z1_B) (by kernel_rfl) (by kernel_rfl) (om (bF (af (t:=0) rfl (af (t:=1) rfl (af (t:=2) rfl (af (t:=6) rfl (af (t:=7) rfl (af (t:=8) rfl (af (t:=9) rfl (af (t:=10) rfl (af (t:=11) rfl (af (t:=12) rfl (af (t:=13) rfl (af (t:=14) rfl (af (t:=15) rfl (af (t:=16) rfl (af (t:=18) rfl (af (t:=19) rfl (af (t:=20) rfl (af (t:=21) rfl (af (t:=22) rfl (af (t:=26) rfl (af (t:=27) rfl (af (t:=28) rfl (af (t:=29) rfl (af (t:=30) rfl (af (t:=31) rfl (af (t:=32) rfl (af (t:=33) rfl (af (t:=34) rfl (af (t:=35) rfl (af (t:=36) rfl (af (t:=37) rfl (af (t:=38) rfl (af (t:=39) rfl (af (t:=40) rfl (af (t:=41) rfl (af (t:=42) rfl (af (t:=43) rfl (af (t:=44) rfl (af (t:=45) rfl (aR _)))))))))))))))))))))))))))))))))))))))) rfl)) ?_ ?_
     ·refine ⟨?_,?_,?_,?_,?_,?_,?_,?_,?_,trivial⟩
      ·intro D hi hc U
       have n4:D 4 = false:=bl (m:=4) hc hi rfl rfl
       have n8:D 8 = false:=bl (m:=8) hc n4 rfl rfl
       refine fv (m:=8) (A:=Z1_A) n8 rfl ?_
       exact am (i:=0) (t:=46) (v:=(slice (some ⟨b3,0,none⟩) (l0.length + 1) (cap3))) rfl rfl (ao rfl) (fun a=>aj) (al rfl) rfl rfl (ai (k0:=0) rfl rfl rfl)
      ·intro D hi hc U
       have n3:D 3 = false:=bl (m:=3) hc hi rfl rfl
       have n4:D 4 = false:=bl (m:=4) hc n3 rfl rfl
       have n8:D 8 = false:=bl (m:=8) hc n4 rfl rfl
       refine fv (m:=8) (A:=Z1_A) n8 rfl ?_
       exact am (i:=1) (t:=47) (v:=(I (((i):Nat):Int))) rfl rfl (ao rfl) (fun a=>aj) (al rfl) rfl rfl (ai (k0:=1) rfl rfl rfl)
      ·intro D hi hc U
       have n3:D 3 = false:=bl (m:=3) hc hi rfl rfl
       have n4:D 4 = false:=bl (m:=4) hc n3 rfl rfl
       have n8:D 8 = false:=bl (m:=8) hc n4 rfl rfl
       refine fv (m:=8) (A:=Z1_A) n8 rfl ?_
       exact am (i:=2) (t:=48) (v:=(I 1)) rfl rfl (ao rfl) (fun a=>aj) (al rfl) rfl rfl (ai (k0:=2) rfl rfl rfl)
      ·intro D hi hc U
       have n4:D 4 = false:=bl (m:=4) hc hi rfl rfl
       have n8:D 8 = false:=bl (m:=8) hc n4 rfl rfl
       refine fv (m:=8) (A:=Z1_A) n8 rfl ?_
       have d1:D 1 = true:=ar (j:=1) U rfl (by decide) rfl
       have d2:D 2 = true:=ar (j:=2) U rfl (by decide) rfl
       exact am (i:=3) (t:=49) (v:=(I (((i + 1):Nat):Int))) rfl rfl (ao rfl) (fun a=>(ae (k:=2) rfl d2 (ae (k:=1) rfl d1 aj))) (iA (m':=(((i + 1):Nat):Int)) rfl rfl (cr _ _ _) (by rewrite [IntKind.wrap_i64]; omega)) rfl rfl (ai (k0:=3) rfl rfl rfl)
      ·intro D hi hc U
       have n8:D 8 = false:=bl (m:=8) hc hi rfl rfl
       refine fv (m:=8) (A:=Z1_A) n8 rfl ?_
       have d0:D 0 = true:=ar (j:=0) U rfl (by decide) rfl
       have d3:D 3 = true:=ar (j:=3) U rfl (by decide) rfl
       exact am (i:=4) (t:=50) (v:=(slice (some ⟨b3,0 + (i + 1) * 7,none⟩) (l0.length + 1 - (i + 1)) (cap3 - (i + 1)))) rfl rfl (ao rfl) (fun a=>(ae (k:=3) rfl d3 (ae (k:=0) rfl d0 aj))) (jP (l:=i + 1) rfl rfl (by omega) bu bY (by omega) (by omega) (by omega)) rfl rfl (ai (k0:=4) rfl rfl rfl)
      ·intro D hi hc U
       have n7:D 7 = false:=bl (m:=7) hc hi rfl rfl
       have n8:D 8 = false:=bl (m:=8) hc n7 rfl rfl
       refine fv (m:=8) (A:=Z1_A) n8 rfl ?_
       exact am (i:=5) (t:=51) (v:=(slice (some ⟨b1,0,none⟩) (l0.length) (cap1))) rfl rfl (ao rfl) (fun a=>aj) (al rfl) rfl rfl (ai (k0:=5) rfl rfl rfl)
      ·intro D hi hc U
       have n7:D 7 = false:=bl (m:=7) hc hi rfl rfl
       have n8:D 8 = false:=bl (m:=8) hc n7 rfl rfl
       refine fv (m:=8) (A:=Z1_A) n8 rfl ?_
       exact am (i:=6) (t:=52) (v:=(I (((i):Nat):Int))) rfl rfl (ao rfl) (fun a=>aj) (al rfl) rfl rfl (ai (k0:=6) rfl rfl rfl)
      ·intro D hi hc U
       have n8:D 8 = false:=bl (m:=8) hc hi rfl rfl
       refine fv (m:=8) (A:=Z1_A) n8 rfl ?_
       have d5:D 5 = true:=ar (j:=5) U rfl (by decide) rfl
       have d6:D 6 = true:=ar (j:=6) U rfl (by decide) rfl
       exact am (i:=7) (t:=53) (v:=(slice (some ⟨b1,0 + (i) * 7,none⟩) (l0.length - (i)) (cap1 - (i)))) rfl rfl (ao rfl) (fun a=>(ae (k:=6) rfl d6 (ae (k:=5) rfl d5 aj))) (jP (l:=i) rfl rfl (by omega) bu bY (by omega) (by omega) (by omega)) rfl rfl (ai (k0:=7) rfl rfl rfl)
      ·intro D hi hc U
       refine qH (m:=8) (A:=Z1_A) (B:=Z1_B) hi ?_
       have d4:D 4 = true:=ar (j:=4) U rfl (by decide) rfl
       have d7:D 7 = true:=ar (j:=7) U rfl (by decide) rfl
       have d6:D 6 = true:=fD (i:=7) (j:=6) hc d7 rfl rfl
       have d5:D 5 = true:=fD (i:=7) (j:=5) hc d7 rfl rfl
       have d3:D 3 = true:=fD (i:=4) (j:=3) hc d4 rfl rfl
       have d2:D 2 = true:=fD (i:=3) (j:=2) hc d3 rfl rfl
       have d1:D 1 = true:=fD (i:=3) (j:=1) hc d3 rfl rfl
       have d0:D 0 = true:=fD (i:=4) (j:=0) hc d4 rfl rfl
       refine bS C1_ rfl (fun a=>(ae (k:=0) rfl d0 (ae (k:=1) rfl d1 (ae (k:=2) rfl d2 (ae (k:=3) rfl d3 (ae (k:=4) rfl d4 (ae (k:=5) rfl d5 (ae (k:=6) rfl d6 (ae (k:=7) rfl d7 aj))))))))) ?_
       refine rY rfl rfl rfl rfl (pz (L':=C0_) (cs:=(fl ac (l0.drop i))) 0 1 rfl rfl bu bY rfl rfl (sr aM (by omega) hx4 (by omega)) (pw (k:=l0.length - i) (by omega) (by omega) (by omega) hfd) (by simp only [C2_,C1_,C0_,List.length_append,List.length_take,List.length_drop,hfy,hfd]; omega) (pY cT _) rfl) ?_
       rintro _ _ ⟨rfl,rfl⟩
       exact bd [0,1,2] (by decide) rfl (af (t:=0) rfl (af (t:=1) rfl (af (t:=2) rfl (af (t:=6) rfl (af (t:=7) rfl (af (t:=8) rfl (af (t:=9) rfl (af (t:=10) rfl (af (t:=11) rfl (af (t:=12) rfl (af (t:=13) rfl (af (t:=14) rfl (af (t:=15) rfl (af (t:=16) rfl (af (t:=18) rfl (af (t:=19) rfl (af (t:=20) rfl (af (t:=21) rfl (af (t:=22) rfl (af (t:=26) rfl (af (t:=27) rfl (af (t:=28) rfl (af (t:=29) rfl (af (t:=30) rfl (af (t:=31) rfl (af (t:=32) rfl (af (t:=33) rfl (af (t:=34) rfl (af (t:=35) rfl (af (t:=36) rfl (af (t:=37) rfl (af (t:=38) rfl (af (t:=39) rfl (af (t:=40) rfl (af (t:=41) rfl (af (t:=42) rfl (af (t:=43) rfl (af (t:=44) rfl (af (t:=45) rfl (af (t:=46) rfl (af (t:=47) rfl (af (t:=48) rfl (af (t:=49) rfl (af (t:=50) rfl (af (t:=51) rfl (af (t:=52) rfl (af (t:=53) rfl (af (t:=54) rfl (aR _))))))))))))))))))))))))))))))))))))))))))))))))) fun a w h=>h
     ·intro D hall
      refine sj (A:=Z1_A) (B:=Z1_B) (hall 8 (by decide)) ?_
      refine an (ah (aa (al rfl) rfl rfl rfl (aa (ak rfl) rfl rfl rfl (aq (aE ?_)))))
      have hpre:cur1.take (i * 7) = (fl ac l0).take (i * 7):=by
       rw [← hx4,List.take_take,Nat.min_eq_left (by omega)]
      refine aB [0,2] (by decide) rfl ?_
      refine mo 0 _ (own (slice (some ⟨b3,0,none⟩) (l0.length + 1) (cap3)) 135 7 (l0.insertIdx i y).length (fl ac (l0.insertIdx i y))) rfl (tY aM (row:=row1) (i:=i) (v:=y) (by omega) hx9 hx10 hx11 (hx12.trans hpre) (by omega) (by omega) rfl) rfl ?_
      refine mo 1 _ (own (slice (some ⟨b2,0,none⟩) ([y]:List _).length (cap2)) 135 7 ([y]:List _).length (fl ac [y])) rfl (fun o s h=>mQ h hx5 hx6 hx7 hx8) rfl ?_
      exact aS rfl rfl ⟨_,rfl,rfl⟩
    ·refine ay rfl (decide_eq_false c5) (aN (an (ah (aa (al rfl) rfl rfl rfl (aa (al rfl) rfl rfl rfl (aa (al rfl) rfl rfl rfl (aa (iA (m':=(((l0.length + 1):Nat):Int)) rfl rfl (cr _ _ _) (by rewrite [IntKind.wrap_i64]; omega)) rfl rfl rfl (aa (qj (h:=l0.length + 1) rfl rfl (by omega) bu bY (by omega)) rfl rfl rfl (aa (ak rfl) rfl rfl rfl (aq (an ?_)))))))))))
     refine an (ah (aa (al rfl) rfl rfl rfl (aa (al rfl) rfl rfl rfl (aa (al rfl) rfl rfl rfl (aa (al rfl) rfl rfl rfl (aa (iA (m':=(((i + 1):Nat):Int)) rfl rfl (cr _ _ _) (by rewrite [IntKind.wrap_i64]; omega)) rfl rfl rfl (aa (jP (l:=i + 1) rfl rfl (by omega) bu bY (by omega) (by omega) (by omega)) rfl rfl rfl ?_)))))))
     refine aH (sW (tr:=4) 0 1 rfl rfl (show Tryz.prog.funcs[124]? = some Tryz.f124 from Tryz.func124) (by kernel_rfl) (by kernel_rfl) (by kernel_rfl) (by kernel_rfl) bu bY rfl rfl rfl (by omega)) rfl rfl rfl ?_
     rintro _ _ ⟨rfl,rfl⟩
     refine aa (eu rfl (er _)) rfl rfl rfl (aq (az rfl rfl (an ?_)))
     let Z2_A:(Nat → Bool) → Act → World → Prop:=(fun D a w=>jE 95 w0 F [(0,slice (some ⟨b1,0,none⟩) (l0.length + 1) (cap1)),(1,I (((i):Nat):Int)),(2,slice (some ⟨b2,0,none⟩) (1) (cap2)),(6,L0),(7,I 1),(8,I (l0.length:Int)),(10,slice (some ⟨b1,0,none⟩) (l0.length) (cap1)),(11,I (((i):Nat):Int)),(12,(jn (slice (some ⟨b1,0,none⟩) (l0.length) (cap1)) (((i):Nat):Int).toNat l0.length 7)),(13,slice (some ⟨b2,0,none⟩) (1) (cap2)),(14,I 1),(15,I 1),(16,B0),(18,slice (some ⟨b1,0,none⟩) (l0.length) (cap1)),(19,I (l0.length:Int)),(20,I (((i):Nat):Int)),(21,I (l0.length:Int)),(22,bool ((((i):Nat):Int) == (l0.length:Int))),(26,I (l0.length:Int)),(27,I 1),(28,I (((l0.length + 1):Nat):Int)),(29,slice (some ⟨b1,0,none⟩) (l0.length) (cap1)),(30,I (((cap1):Nat):Int)),(31,bool (decide ((((cap1):Nat):Int) < (((l0.length + 1):Nat):Int)))),(56,slice (some ⟨b1,0,none⟩) (l0.length) (cap1)),(57,I (l0.length:Int)),(58,I 1),(59,I (((l0.length + 1):Nat):Int)),(60,slice (some ⟨b1,0,none⟩) (l0.length + 1) (cap1)),(61,slice (some ⟨b2,0,none⟩) (1) (cap2)),(62,slice (some ⟨b1,0,none⟩) (l0.length + 1) (cap1)),(63,I (((i):Nat):Int)),(64,I 1),(65,I (((i + 1):Nat):Int)),(66,slice (some ⟨b1,0 + (i + 1) * 7,none⟩) (l0.length + 1 - (i + 1)) (cap1 - (i + 1))),(67,B0),(68,bool true)] [(0,69,slice (some ⟨b1,0,none⟩) (l0.length + 1) (cap1)),(1,70,I (((i):Nat):Int)),(2,71,I 1),(3,72,I (((i + 1):Nat):Int)),(4,73,slice (some ⟨b1,0 + (i + 1) * 7,none⟩) (l0.length + 1 - (i + 1)) (cap1 - (i + 1))),(5,74,slice (some ⟨b1,0,none⟩) (l0.length + 1) (cap1)),(6,75,I (((i):Nat):Int)),(7,76,slice (some ⟨b1,0 + (i) * 7,none⟩) (l0.length + 1 - (i)) (cap1 - (i)))] D [box b1 135 cur1,box b2 135 cur2] a w)
     let Z2_B:Act → World → Prop:=(fun a w=>St 95 w0 F [(0,slice (some ⟨b1,0,none⟩) (l0.length + 1) (cap1)),(1,I (((i):Nat):Int)),(2,slice (some ⟨b2,0,none⟩) (1) (cap2)),(6,L0),(7,I 1),(8,I (l0.length:Int)),(10,slice (some ⟨b1,0,none⟩) (l0.length) (cap1)),(11,I (((i):Nat):Int)),(12,(jn (slice (some ⟨b1,0,none⟩) (l0.length) (cap1)) (((i):Nat):Int).toNat l0.length 7)),(13,slice (some ⟨b2,0,none⟩) (1) (cap2)),(14,I 1),(15,I 1),(16,B0),(18,slice (some ⟨b1,0,none⟩) (l0.length) (cap1)),(19,I (l0.length:Int)),(20,I (((i):Nat):Int)),(21,I (l0.length:Int)),(22,bool ((((i):Nat):Int) == (l0.length:Int))),(26,I (l0.length:Int)),(27,I 1),(28,I (((l0.length + 1):Nat):Int)),(29,slice (some ⟨b1,0,none⟩) (l0.length) (cap1)),(30,I (((cap1):Nat):Int)),(31,bool (decide ((((cap1):Nat):Int) < (((l0.length + 1):Nat):Int)))),(56,slice (some ⟨b1,0,none⟩) (l0.length) (cap1)),(57,I (l0.length:Int)),(58,I 1),(59,I (((l0.length + 1):Nat):Int)),(60,slice (some ⟨b1,0,none⟩) (l0.length + 1) (cap1)),(61,slice (some ⟨b2,0,none⟩) (1) (cap2)),(62,slice (some ⟨b1,0,none⟩) (l0.length + 1) (cap1)),(63,I (((i):Nat):Int)),(64,I 1),(65,I (((i + 1):Nat):Int)),(66,slice (some ⟨b1,0 + (i + 1) * 7,none⟩) (l0.length + 1 - (i + 1)) (cap1 - (i + 1))),(67,B0),(68,bool true),(69,slice (some ⟨b1,0,none⟩) (l0.length + 1) (cap1)),(70,I (((i):Nat):Int)),(71,I 1),(72,I (((i + 1):Nat):Int)),(73,slice (some ⟨b1,0 + (i + 1) * 7,none⟩) (l0.length + 1 - (i + 1)) (cap1 - (i + 1))),(74,slice (some ⟨b1,0,none⟩) (l0.length + 1) (cap1)),(75,I (((i):Nat):Int)),(76,slice (some ⟨b1,0 + (i) * 7,none⟩) (l0.length + 1 - (i)) (cap1 - (i))),(77,(goInt (Nat.min (l0.length + 1 - (i)) (l0.length + 1 - (i + 1)))))] C2_ a w)
     refine bR 9 rfl (rV 8 Z2_A Z2_B) (by kernel_rfl) (by kernel_rfl) (om (bF (af (t:=0) rfl (af (t:=1) rfl (af (t:=2) rfl (af (t:=6) rfl (af (t:=7) rfl (af (t:=8) rfl (af (t:=10) rfl (af (t:=11) rfl (af (t:=12) rfl (af (t:=13) rfl (af (t:=14) rfl (af (t:=15) rfl (af (t:=16) rfl (af (t:=18) rfl (af (t:=19) rfl (af (t:=20) rfl (af (t:=21) rfl (af (t:=22) rfl (af (t:=26) rfl (af (t:=27) rfl (af (t:=28) rfl (af (t:=29) rfl (af (t:=30) rfl (af (t:=31) rfl (af (t:=56) rfl (af (t:=57) rfl (af (t:=58) rfl (af (t:=59) rfl (af (t:=60) rfl (af (t:=61) rfl (af (t:=62) rfl (af (t:=63) rfl (af (t:=64) rfl (af (t:=65) rfl (af (t:=66) rfl (af (t:=67) rfl (af (t:=68) rfl (aR _)))))))))))))))))))))))))))))))))))))) rfl)) ?_ ?_
     ·refine ⟨?_,?_,?_,?_,?_,?_,?_,?_,?_,trivial⟩
      ·intro D hi hc U
       have n4:D 4 = false:=bl (m:=4) hc hi rfl rfl
       have n8:D 8 = false:=bl (m:=8) hc n4 rfl rfl
       refine fv (m:=8) (A:=Z2_A) n8 rfl ?_
       exact am (i:=0) (t:=69) (v:=(slice (some ⟨b1,0,none⟩) (l0.length + 1) (cap1))) rfl rfl (ao rfl) (fun a=>aj) (al rfl) rfl rfl (ai (k0:=0) rfl rfl rfl)
      ·intro D hi hc U
       have n3:D 3 = false:=bl (m:=3) hc hi rfl rfl
       have n4:D 4 = false:=bl (m:=4) hc n3 rfl rfl
       have n8:D 8 = false:=bl (m:=8) hc n4 rfl rfl
       refine fv (m:=8) (A:=Z2_A) n8 rfl ?_
       exact am (i:=1) (t:=70) (v:=(I (((i):Nat):Int))) rfl rfl (ao rfl) (fun a=>aj) (al rfl) rfl rfl (ai (k0:=1) rfl rfl rfl)
      ·intro D hi hc U
       have n3:D 3 = false:=bl (m:=3) hc hi rfl rfl
       have n4:D 4 = false:=bl (m:=4) hc n3 rfl rfl
       have n8:D 8 = false:=bl (m:=8) hc n4 rfl rfl
       refine fv (m:=8) (A:=Z2_A) n8 rfl ?_
       exact am (i:=2) (t:=71) (v:=(I 1)) rfl rfl (ao rfl) (fun a=>aj) (al rfl) rfl rfl (ai (k0:=2) rfl rfl rfl)
      ·intro D hi hc U
       have n4:D 4 = false:=bl (m:=4) hc hi rfl rfl
       have n8:D 8 = false:=bl (m:=8) hc n4 rfl rfl
       refine fv (m:=8) (A:=Z2_A) n8 rfl ?_
       have d1:D 1 = true:=ar (j:=1) U rfl (by decide) rfl
       have d2:D 2 = true:=ar (j:=2) U rfl (by decide) rfl
       exact am (i:=3) (t:=72) (v:=(I (((i + 1):Nat):Int))) rfl rfl (ao rfl) (fun a=>(ae (k:=2) rfl d2 (ae (k:=1) rfl d1 aj))) (iA (m':=(((i + 1):Nat):Int)) rfl rfl (cr _ _ _) (by rewrite [IntKind.wrap_i64]; omega)) rfl rfl (ai (k0:=3) rfl rfl rfl)
      ·intro D hi hc U
       have n8:D 8 = false:=bl (m:=8) hc hi rfl rfl
       refine fv (m:=8) (A:=Z2_A) n8 rfl ?_
       have d0:D 0 = true:=ar (j:=0) U rfl (by decide) rfl
       have d3:D 3 = true:=ar (j:=3) U rfl (by decide) rfl
       exact am (i:=4) (t:=73) (v:=(slice (some ⟨b1,0 + (i + 1) * 7,none⟩) (l0.length + 1 - (i + 1)) (cap1 - (i + 1)))) rfl rfl (ao rfl) (fun a=>(ae (k:=3) rfl d3 (ae (k:=0) rfl d0 aj))) (jP (l:=i + 1) rfl rfl (by omega) bu bY (by omega) (by omega) (by omega)) rfl rfl (ai (k0:=4) rfl rfl rfl)
      ·intro D hi hc U
       have n7:D 7 = false:=bl (m:=7) hc hi rfl rfl
       have n8:D 8 = false:=bl (m:=8) hc n7 rfl rfl
       refine fv (m:=8) (A:=Z2_A) n8 rfl ?_
       exact am (i:=5) (t:=74) (v:=(slice (some ⟨b1,0,none⟩) (l0.length + 1) (cap1))) rfl rfl (ao rfl) (fun a=>aj) (al rfl) rfl rfl (ai (k0:=5) rfl rfl rfl)
      ·intro D hi hc U
       have n7:D 7 = false:=bl (m:=7) hc hi rfl rfl
       have n8:D 8 = false:=bl (m:=8) hc n7 rfl rfl
       refine fv (m:=8) (A:=Z2_A) n8 rfl ?_
       exact am (i:=6) (t:=75) (v:=(I (((i):Nat):Int))) rfl rfl (ao rfl) (fun a=>aj) (al rfl) rfl rfl (ai (k0:=6) rfl rfl rfl)
      ·intro D hi hc U
       have n8:D 8 = false:=bl (m:=8) hc hi rfl rfl
       refine fv (m:=8) (A:=Z2_A) n8 rfl ?_
       have d5:D 5 = true:=ar (j:=5) U rfl (by decide) rfl
       have d6:D 6 = true:=ar (j:=6) U rfl (by decide) rfl
       exact am (i:=7) (t:=76) (v:=(slice (some ⟨b1,0 + (i) * 7,none⟩) (l0.length + 1 - (i)) (cap1 - (i)))) rfl rfl (ao rfl) (fun a=>(ae (k:=6) rfl d6 (ae (k:=5) rfl d5 aj))) (jP (l:=i) rfl rfl (by omega) bu bY (by omega) (by omega) (by omega)) rfl rfl (ai (k0:=7) rfl rfl rfl)
      ·intro D hi hc U
       refine qH (m:=8) (A:=Z2_A) (B:=Z2_B) hi ?_
       have d4:D 4 = true:=ar (j:=4) U rfl (by decide) rfl
       have d7:D 7 = true:=ar (j:=7) U rfl (by decide) rfl
       have d6:D 6 = true:=fD (i:=7) (j:=6) hc d7 rfl rfl
       have d5:D 5 = true:=fD (i:=7) (j:=5) hc d7 rfl rfl
       have d3:D 3 = true:=fD (i:=4) (j:=3) hc d4 rfl rfl
       have d2:D 2 = true:=fD (i:=3) (j:=2) hc d3 rfl rfl
       have d1:D 1 = true:=fD (i:=3) (j:=1) hc d3 rfl rfl
       have d0:D 0 = true:=fD (i:=4) (j:=0) hc d4 rfl rfl
       refine bS [box b1 135 cur1,box b2 135 cur2] rfl (fun a=>(ae (k:=0) rfl d0 (ae (k:=1) rfl d1 (ae (k:=2) rfl d2 (ae (k:=3) rfl d3 (ae (k:=4) rfl d4 (ae (k:=5) rfl d5 (ae (k:=6) rfl d6 (ae (k:=7) rfl d7 aj))))))))) ?_
       refine rY rfl rfl rfl rfl (pz (L':=C2_) (cs:=(fl ac (l0.drop i))) 0 0 rfl rfl bu bY rfl rfl (sr aM (by omega) hx4 (by omega)) (pw (k:=l0.length - i) (by omega) (by omega) (by omega) hfd) (by simp only [C2_,List.length_append,List.length_take,List.length_drop,hfy,hfd]; omega) (pY cT _) rfl) ?_
       rintro _ _ ⟨rfl,rfl⟩
       exact bd [0,1] (by decide) rfl (af (t:=0) rfl (af (t:=1) rfl (af (t:=2) rfl (af (t:=6) rfl (af (t:=7) rfl (af (t:=8) rfl (af (t:=10) rfl (af (t:=11) rfl (af (t:=12) rfl (af (t:=13) rfl (af (t:=14) rfl (af (t:=15) rfl (af (t:=16) rfl (af (t:=18) rfl (af (t:=19) rfl (af (t:=20) rfl (af (t:=21) rfl (af (t:=22) rfl (af (t:=26) rfl (af (t:=27) rfl (af (t:=28) rfl (af (t:=29) rfl (af (t:=30) rfl (af (t:=31) rfl (af (t:=56) rfl (af (t:=57) rfl (af (t:=58) rfl (af (t:=59) rfl (af (t:=60) rfl (af (t:=61) rfl (af (t:=62) rfl (af (t:=63) rfl (af (t:=64) rfl (af (t:=65) rfl (af (t:=66) rfl (af (t:=67) rfl (af (t:=68) rfl (af (t:=69) rfl (af (t:=70) rfl (af (t:=71) rfl (af (t:=72) rfl (af (t:=73) rfl (af (t:=74) rfl (af (t:=75) rfl (af (t:=76) rfl (af (t:=77) rfl (aR _))))))))))))))))))))))))))))))))))))))))))))))) fun a w h=>h
     ·intro D hall
      refine sj (A:=Z2_A) (B:=Z2_B) (hall 8 (by decide)) ?_
      refine an (ah (aa (al rfl) rfl rfl rfl (aa (al rfl) rfl rfl rfl (aa (jP (l:=i) rfl rfl (by omega) bu bY (by omega) (by omega) (by omega)) rfl rfl rfl (aa (al rfl) rfl rfl rfl ?_)))))
      refine aH (pz (L':=[box b1 135 ((cur1.take (0 + (i + 1) * 7) ++ (fl ac (l0.drop i)) ++ cur1.drop (0 + (i + 1) * 7 + (fl ac (l0.drop i)).length)).take (0 + (i) * 7) ++ (fl ac [y]) ++ (cur1.take (0 + (i + 1) * 7) ++ (fl ac (l0.drop i)) ++ cur1.drop (0 + (i + 1) * 7 + (fl ac (l0.drop i)).length)).drop (0 + (i) * 7 + (fl ac [y]).length)),box b2 135 cur2]) (cs:=(fl ac [y])) 0 1 rfl rfl bu bY rfl rfl (uR aM hx8) (pw (k:=1) (Nat.le_refl 1) (by omega) (.inl rfl) (by omega)) (by simp only [C2_,List.length_append,List.length_take,List.length_drop,hfy,hfd]; omega) (pY cT _) rfl) rfl rfl rfl ?_
      rintro _ _ ⟨rfl,rfl⟩
      refine aq (an (ah (aa (al rfl) rfl rfl rfl (aa (ak rfl) rfl rfl rfl (aq (aE ?_))))))
      refine aB [0,1] (by decide) rfl ?_
      refine mo 0 _ (own (slice (some ⟨b1,0,none⟩) (l0.length + 1) (cap1)) 135 7 (l0.insertIdx i y).length (fl ac (l0.insertIdx i y))) rfl (tV aM (row:=cur1) (i:=i) (v:=y) (by omega) (by omega) hx2 hx3 hx4 (by omega) (by omega) rfl) rfl ?_
      refine mo 1 _ (own (slice (some ⟨b2,0,none⟩) ([y]:List _).length (cap2)) 135 7 ([y]:List _).length (fl ac [y])) rfl (fun o s h=>mQ h hx5 hx6 hx7 hx8) rfl ?_
      exact aS rfl rfl ⟨_,rfl,rfl⟩
  ·first | omega | (simp only [List.length_cons,List.length_nil] at *; omega)
 ·first | omega | (simp only [List.length_cons,List.length_nil] at *; omega)
end Go.Proofs.YtnjfjmbanmaciaaGreat.DueParts
end
