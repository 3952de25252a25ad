/- buildMerges_holds: a part of what its proof rests on. -/
import Derived.Test.YtebncbheepjjdaaP0
set_option linter.unusedVariables false
set_option linter.unusedSimpArgs false
section
set_option linter.unusedVariables false
namespace Go.Proofs.Ytebncbheepjjdaa.BuildMerges
open Go E
structure aj where
  Hour:Int
  Dims_0:List UInt8
  Dims_1:List UInt8
  Dims_2:List UInt8
  Dims_3:List UInt8
  deriving DecidableEq
def aa:aj:=⟨0,[],[],[],[]⟩
def mS (x:aj):Prop:=tl .i64 x.Hour ∧ x.Dims_0.length ≤ 140737488351232 ∧ x.Dims_1.length ≤ 140737488351232 ∧ x.Dims_2.length ≤ 140737488351232 ∧ x.Dims_3.length ≤ 140737488351232
structure aC where
  Count:Int
  Sum:Int
  Min:Int
  Max:Int
  deriving DecidableEq
def ai:aC:=⟨0,0,0,0⟩
def oX (x:aC):Prop:=tl .i64 x.Count ∧ tl .i64 x.Sum ∧ tl .i64 x.Min ∧ tl .i64 x.Max
structure am where
  Key:aj
  Cell:aC
  deriving DecidableEq
def af:am:=⟨aa,ai⟩
def ic (x:am):Prop:=mS x.Key ∧ oX x.Cell
structure bR where
  Key:aj
  Value:Int
  deriving DecidableEq
def an:bR:=⟨aa,0⟩
def ka (x:bR):Prop:=mS x.Key ∧ tl .i64 x.Value
structure aO where
  Tier:Int
  Index:Int
  deriving DecidableEq
def pW:aO:=⟨0,0⟩
structure aA where
  Part:aO
  Seg:Int
  Mark:Int
  Rows:Int
  Cold:Bool
  deriving DecidableEq
def db:aA:=⟨pW,0,0,0,false⟩
structure ah where
  k:Int
  v:aA
  deriving DecidableEq
def ao:ah:=⟨0,db⟩
def cI:Unit:=(())
def iL:Unit:=(gP (cI) fun u2=>(()))
def co:Unit:=(())
def cW:Unit:=(gP (co) fun u2=>(()))
def dt (K:Nat):Nat → Option Unit
  | 0=>none
  | k + 1=>(some (()))
def cZ (K:Nat) (Gm0:Type) (y0:Int → aA → Gm0 → Option (Gm0 × Bool)) (x0y:Gm0):Option Unit:=(dt K K)
def dj (K:Nat) (t0_:Int) (t1_:aA) (z4:List ah):Option ((List ah) × Bool):=(if (z4.length + [(⟨t0_,(⟨(⟨t1_.Part.Tier,t1_.Part.Index⟩:aO),t1_.Seg,t1_.Mark,t1_.Rows,t1_.Cold⟩:aA)⟩:ah)].length) * 56 ≤ 140737488355328 then (some (((z4 ++ [(⟨t0_,(⟨(⟨t1_.Part.Tier,t1_.Part.Index⟩:aO),t1_.Seg,t1_.Mark,t1_.Rows,t1_.Cold⟩:aA)⟩:ah)]),true))) else none)
def cQ (K:Nat):Option (List ah):=(gP (cI) fun u4=>(gP (cW) fun u6=>((cZ K (List ah) (dj K) ([]:List ah)).bind fun x4=>(some (([]:List ah))))))
def eH (K:Nat):Option (List ah):=((cQ K).bind fun x2=>(some (x2)))
def gD (a0:Int):Int:=(aJ (Int.tdiv a0 24))
def jl (a0:Int):(Int × Int × Int):=(if (aJ (Int.tdiv (aJ ((aJ (5 * (aJ ((Int.tmod (aJ (a0 + 719468)) 146097) - (aJ ((aJ ((aJ (365 * (aJ (Int.tdiv (aJ ((aJ ((aJ ((Int.tmod (aJ (a0 + 719468)) 146097) - (aJ (Int.tdiv (Int.tmod (aJ (a0 + 719468)) 146097) 1460)))) + (aJ (Int.tdiv (Int.tmod (aJ (a0 + 719468)) 146097) 36524)))) - (aJ (Int.tdiv (Int.tmod (aJ (a0 + 719468)) 146097) 146096)))) 365)))) + (aJ (Int.tdiv (aJ (Int.tdiv (aJ ((aJ ((aJ ((Int.tmod (aJ (a0 + 719468)) 146097) - (aJ (Int.tdiv (Int.tmod (aJ (a0 + 719468)) 146097) 1460)))) + (aJ (Int.tdiv (Int.tmod (aJ (a0 + 719468)) 146097) 36524)))) - (aJ (Int.tdiv (Int.tmod (aJ (a0 + 719468)) 146097) 146096)))) 365)) 4)))) - (aJ (Int.tdiv (aJ (Int.tdiv (aJ ((aJ ((aJ ((Int.tmod (aJ (a0 + 719468)) 146097) - (aJ (Int.tdiv (Int.tmod (aJ (a0 + 719468)) 146097) 1460)))) + (aJ (Int.tdiv (Int.tmod (aJ (a0 + 719468)) 146097) 36524)))) - (aJ (Int.tdiv (Int.tmod (aJ (a0 + 719468)) 146097) 146096)))) 365)) 100)))))))) + 2)) 153)) < 10 then ((aJ ((aJ ((aJ (Int.tdiv (aJ (a0 + 719468)) 146097)) * 400)) + (aJ (Int.tdiv (aJ ((aJ ((aJ ((Int.tmod (aJ (a0 + 719468)) 146097) - (aJ (Int.tdiv (Int.tmod (aJ (a0 + 719468)) 146097) 1460)))) + (aJ (Int.tdiv (Int.tmod (aJ (a0 + 719468)) 146097) 36524)))) - (aJ (Int.tdiv (Int.tmod (aJ (a0 + 719468)) 146097) 146096)))) 365))),aJ ((aJ (Int.tdiv (aJ ((aJ (5 * (aJ ((Int.tmod (aJ (a0 + 719468)) 146097) - (aJ ((aJ ((aJ (365 * (aJ (Int.tdiv (aJ ((aJ ((aJ ((Int.tmod (aJ (a0 + 719468)) 146097) - (aJ (Int.tdiv (Int.tmod (aJ (a0 + 719468)) 146097) 1460)))) + (aJ (Int.tdiv (Int.tmod (aJ (a0 + 719468)) 146097) 36524)))) - (aJ (Int.tdiv (Int.tmod (aJ (a0 + 719468)) 146097) 146096)))) 365)))) + (aJ (Int.tdiv (aJ (Int.tdiv (aJ ((aJ ((aJ ((Int.tmod (aJ (a0 + 719468)) 146097) - (aJ (Int.tdiv (Int.tmod (aJ (a0 + 719468)) 146097) 1460)))) + (aJ (Int.tdiv (Int.tmod (aJ (a0 + 719468)) 146097) 36524)))) - (aJ (Int.tdiv (Int.tmod (aJ (a0 + 719468)) 146097) 146096)))) 365)) 4)))) - (aJ (Int.tdiv (aJ (Int.tdiv (aJ ((aJ ((aJ ((Int.tmod (aJ (a0 + 719468)) 146097) - (aJ (Int.tdiv (Int.tmod (aJ (a0 + 719468)) 146097) 1460)))) + (aJ (Int.tdiv (Int.tmod (aJ (a0 + 719468)) 146097) 36524)))) - (aJ (Int.tdiv (Int.tmod (aJ (a0 + 719468)) 146097) 146096)))) 365)) 100)))))))) + 2)) 153)) + 3),aJ ((aJ ((aJ ((Int.tmod (aJ (a0 + 719468)) 146097) - (aJ ((aJ ((aJ (365 * (aJ (Int.tdiv (aJ ((aJ ((aJ ((Int.tmod (aJ (a0 + 719468)) 146097) - (aJ (Int.tdiv (Int.tmod (aJ (a0 + 719468)) 146097) 1460)))) + (aJ (Int.tdiv (Int.tmod (aJ (a0 + 719468)) 146097) 36524)))) - (aJ (Int.tdiv (Int.tmod (aJ (a0 + 719468)) 146097) 146096)))) 365)))) + (aJ (Int.tdiv (aJ (Int.tdiv (aJ ((aJ ((aJ ((Int.tmod (aJ (a0 + 719468)) 146097) - (aJ (Int.tdiv (Int.tmod (aJ (a0 + 719468)) 146097) 1460)))) + (aJ (Int.tdiv (Int.tmod (aJ (a0 + 719468)) 146097) 36524)))) - (aJ (Int.tdiv (Int.tmod (aJ (a0 + 719468)) 146097) 146096)))) 365)) 4)))) - (aJ (Int.tdiv (aJ (Int.tdiv (aJ ((aJ ((aJ ((Int.tmod (aJ (a0 + 719468)) 146097) - (aJ (Int.tdiv (Int.tmod (aJ (a0 + 719468)) 146097) 1460)))) + (aJ (Int.tdiv (Int.tmod (aJ (a0 + 719468)) 146097) 36524)))) - (aJ (Int.tdiv (Int.tmod (aJ (a0 + 719468)) 146097) 146096)))) 365)) 100)))))) - (aJ (Int.tdiv (aJ ((aJ (153 * (aJ (Int.tdiv (aJ ((aJ (5 * (aJ ((Int.tmod (aJ (a0 + 719468)) 146097) - (aJ ((aJ ((aJ (365 * (aJ (Int.tdiv (aJ ((aJ ((aJ ((Int.tmod (aJ (a0 + 719468)) 146097) - (aJ (Int.tdiv (Int.tmod (aJ (a0 + 719468)) 146097) 1460)))) + (aJ (Int.tdiv (Int.tmod (aJ (a0 + 719468)) 146097) 36524)))) - (aJ (Int.tdiv (Int.tmod (aJ (a0 + 719468)) 146097) 146096)))) 365)))) + (aJ (Int.tdiv (aJ (Int.tdiv (aJ ((aJ ((aJ ((Int.tmod (aJ (a0 + 719468)) 146097) - (aJ (Int.tdiv (Int.tmod (aJ (a0 + 719468)) 146097) 1460)))) + (aJ (Int.tdiv (Int.tmod (aJ (a0 + 719468)) 146097) 36524)))) - (aJ (Int.tdiv (Int.tmod (aJ (a0 + 719468)) 146097) 146096)))) 365)) 4)))) - (aJ (Int.tdiv (aJ (Int.tdiv (aJ ((aJ ((aJ ((Int.tmod (aJ (a0 + 719468)) 146097) - (aJ (Int.tdiv (Int.tmod (aJ (a0 + 719468)) 146097) 1460)))) + (aJ (Int.tdiv (Int.tmod (aJ (a0 + 719468)) 146097) 36524)))) - (aJ (Int.tdiv (Int.tmod (aJ (a0 + 719468)) 146097) 146096)))) 365)) 100)))))))) + 2)) 153)))) + 2)) 5)))) + 1))) else ((aJ ((aJ ((aJ ((aJ (Int.tdiv (aJ (a0 + 719468)) 146097)) * 400)) + (aJ (Int.tdiv (aJ ((aJ ((aJ ((Int.tmod (aJ (a0 + 719468)) 146097) - (aJ (Int.tdiv (Int.tmod (aJ (a0 + 719468)) 146097) 1460)))) + (aJ (Int.tdiv (Int.tmod (aJ (a0 + 719468)) 146097) 36524)))) - (aJ (Int.tdiv (Int.tmod (aJ (a0 + 719468)) 146097) 146096)))) 365)))) + 1),aJ ((aJ (Int.tdiv (aJ ((aJ (5 * (aJ ((Int.tmod (aJ (a0 + 719468)) 146097) - (aJ ((aJ ((aJ (365 * (aJ (Int.tdiv (aJ ((aJ ((aJ ((Int.tmod (aJ (a0 + 719468)) 146097) - (aJ (Int.tdiv (Int.tmod (aJ (a0 + 719468)) 146097) 1460)))) + (aJ (Int.tdiv (Int.tmod (aJ (a0 + 719468)) 146097) 36524)))) - (aJ (Int.tdiv (Int.tmod (aJ (a0 + 719468)) 146097) 146096)))) 365)))) + (aJ (Int.tdiv (aJ (Int.tdiv (aJ ((aJ ((aJ ((Int.tmod (aJ (a0 + 719468)) 146097) - (aJ (Int.tdiv (Int.tmod (aJ (a0 + 719468)) 146097) 1460)))) + (aJ (Int.tdiv (Int.tmod (aJ (a0 + 719468)) 146097) 36524)))) - (aJ (Int.tdiv (Int.tmod (aJ (a0 + 719468)) 146097) 146096)))) 365)) 4)))) - (aJ (Int.tdiv (aJ (Int.tdiv (aJ ((aJ ((aJ ((Int.tmod (aJ (a0 + 719468)) 146097) - (aJ (Int.tdiv (Int.tmod (aJ (a0 + 719468)) 146097) 1460)))) + (aJ (Int.tdiv (Int.tmod (aJ (a0 + 719468)) 146097) 36524)))) - (aJ (Int.tdiv (Int.tmod (aJ (a0 + 719468)) 146097) 146096)))) 365)) 100)))))))) + 2)) 153)) - 9),aJ ((aJ ((aJ ((Int.tmod (aJ (a0 + 719468)) 146097) - (aJ ((aJ ((aJ (365 * (aJ (Int.tdiv (aJ ((aJ ((aJ ((Int.tmod (aJ (a0 + 719468)) 146097) - (aJ (Int.tdiv (Int.tmod (aJ (a0 + 719468)) 146097) 1460)))) + (aJ (Int.tdiv (Int.tmod (aJ (a0 + 719468)) 146097) 36524)))) - (aJ (Int.tdiv (Int.tmod (aJ (a0 + 719468)) 146097) 146096)))) 365)))) + (aJ (Int.tdiv (aJ (Int.tdiv (aJ ((aJ ((aJ ((Int.tmod (aJ (a0 + 719468)) 146097) - (aJ (Int.tdiv (Int.tmod (aJ (a0 + 719468)) 146097) 1460)))) + (aJ (Int.tdiv (Int.tmod (aJ (a0 + 719468)) 146097) 36524)))) - (aJ (Int.tdiv (Int.tmod (aJ (a0 + 719468)) 146097) 146096)))) 365)) 4)))) - (aJ (Int.tdiv (aJ (Int.tdiv (aJ ((aJ ((aJ ((Int.tmod (aJ (a0 + 719468)) 146097) - (aJ (Int.tdiv (Int.tmod (aJ (a0 + 719468)) 146097) 1460)))) + (aJ (Int.tdiv (Int.tmod (aJ (a0 + 719468)) 146097) 36524)))) - (aJ (Int.tdiv (Int.tmod (aJ (a0 + 719468)) 146097) 146096)))) 365)) 100)))))) - (aJ (Int.tdiv (aJ ((aJ (153 * (aJ (Int.tdiv (aJ ((aJ (5 * (aJ ((Int.tmod (aJ (a0 + 719468)) 146097) - (aJ ((aJ ((aJ (365 * (aJ (Int.tdiv (aJ ((aJ ((aJ ((Int.tmod (aJ (a0 + 719468)) 146097) - (aJ (Int.tdiv (Int.tmod (aJ (a0 + 719468)) 146097) 1460)))) + (aJ (Int.tdiv (Int.tmod (aJ (a0 + 719468)) 146097) 36524)))) - (aJ (Int.tdiv (Int.tmod (aJ (a0 + 719468)) 146097) 146096)))) 365)))) + (aJ (Int.tdiv (aJ (Int.tdiv (aJ ((aJ ((aJ ((Int.tmod (aJ (a0 + 719468)) 146097) - (aJ (Int.tdiv (Int.tmod (aJ (a0 + 719468)) 146097) 1460)))) + (aJ (Int.tdiv (Int.tmod (aJ (a0 + 719468)) 146097) 36524)))) - (aJ (Int.tdiv (Int.tmod (aJ (a0 + 719468)) 146097) 146096)))) 365)) 4)))) - (aJ (Int.tdiv (aJ (Int.tdiv (aJ ((aJ ((aJ ((Int.tmod (aJ (a0 + 719468)) 146097) - (aJ (Int.tdiv (Int.tmod (aJ (a0 + 719468)) 146097) 1460)))) + (aJ (Int.tdiv (Int.tmod (aJ (a0 + 719468)) 146097) 36524)))) - (aJ (Int.tdiv (Int.tmod (aJ (a0 + 719468)) 146097) 146096)))) 365)) 100)))))))) + 2)) 153)))) + 2)) 5)))) + 1))))
def gV (a0:Int):Int:=(gP (jl a0) fun x2=>(aJ ((aJ ((aJ (x2.1 - 1970)) * 12)) + (aJ (x2.2.1 - 1)))))
def jJ (a0:Int) (a1:Int):(Int × Int × Bool):=(if a1 < 0 then ((0,0,false)) else (if 16777216 < a1 then ((0,0,false)) else (if a0 = 1 then ((a0,a1,true)) else (if a0 = 2 then (gP (gD a1) fun x10=>((a0,x10,true))) else (if a0 = 3 then (gP (gD a1) fun x11=>(gP (gV x11) fun x12=>((a0,x12,true)))) else ((0,0,false)))))))
def ib (a0_0:Int) (a0_1:Int):Bool:=(gP (jJ a0_0 16777216) fun x2=>(if x2.2.2 = true then (if 0 ≤ a0_1 then (decide (a0_1 ≤ x2.2.1)) else (false)) else (false)))
def er (a0:Int) (a1:Int):Bool:=(if a1 ≤ a0 then (decide (a0 ≤ 4611686018427387904)) else (false))
def gY (a0_0:Int) (a0_1:Int) (a0_2:Int) (a0_3:Int) (a0_4:Int) (a0_5:Bool):Bool:=(gP (ib a0_0 a0_1) fun x5=>(if x5 = true then (gP (er a0_2 1) fun x6=>(if x6 = true then (gP (er a0_4 1) fun x7=>(if x7 = true then (gP (er a0_3 0) fun x8=>(if x8 = true then (if a0_0 = 3 then (true) else ((!a0_5))) else (false))) else (false))) else (false))) else (false)))
def il (a0:Int) (a1:Int) (a2:Int):Int:=(gP (if (aJ (a1 - 3)) < 0 then ((aJ (a0 - 1),aJ ((aJ (a1 - 3)) + 12))) else ((a0,aJ (a1 - 3)))) fun x2=>(aJ ((aJ ((aJ ((aJ (Int.tdiv x2.1 400)) * 146097)) + (aJ ((aJ ((aJ ((aJ ((aJ ((aJ (365 * (Int.tmod x2.1 400))) + (aJ (Int.tdiv (Int.tmod x2.1 400) 4)))) - (aJ (Int.tdiv (Int.tmod x2.1 400) 100)))) + (aJ (Int.tdiv (aJ ((aJ (153 * x2.2)) + 2)) 5)))) + a2)) - 1)))) - 719468)))
def gl (a0:Int):Int:=(gP (il (aJ (1970 + (aJ (Int.tdiv a0 12)))) (aJ ((Int.tmod a0 12) + 1)) 1) fun x2=>(x2))
def jh (a0:Int):(Int × Int):=(gP (gl a0) fun x3=>(gP (gl (aJ (a0 + 1))) fun x4=>((x3,x4))))
def gO (a0_0:Int) (a0_1:Int):(Int × Int):=(gP (ib a0_0 a0_1) fun x10=>(if (!x10) = true then ((0,0)) else (gP (if a0_0 = 3 then (gP (jh a0_1) fun x16=>(Sum.inl (x16.1,x16.2))) else (if a0_0 = 2 then (Sum.inl (a0_1,aJ (a0_1 + 1))) else (Sum.inr ((a0_1,aJ (a0_1 + 1)))))) fun z=>(lK z (fun v4=>((aJ (v4.1 * 24),aJ (v4.2 * 24)))) (fun t_=>(t_))))))
def cv (a0:Int) (l0:List ah) (p2_0:Int):Option Bool:=(if 0 ≤ a0 then (if a0 < (l0.length:Int) then (some (decide (p2_0 ≤ ((l0.getD a0.toNat ao).k)))) else none) else none)
def fq (K:Nat) (l0:List ah) (p2_0:Int):Nat → Int → Int → Option Int
  | 0,_,_=>none
  | k + 1,i7,i9=>(if i7 < i9 then ((cv (aJ (mH .u64 (tO (aJ (i7 + i9))) 1)) l0 p2_0).bind fun x12=>(if (!x12) = true then (fq K l0 p2_0 k (aJ ((aJ (mH .u64 (tO (aJ (i7 + i9))) 1)) + 1)) i9) else (fq K l0 p2_0 k i7 (aJ (mH .u64 (tO (aJ (i7 + i9))) 1))))) else (some (i7)))
def gW (K:Nat) (a0:Int) (l0:List ah) (p2_0:Int):Option Int:=(fq K l0 p2_0 K 0 a0)
def br (K:Nat) (l0:List ah) (a1:Int):Option (Bool × Int):=((gW K (l0.length:Int) l0 a1).bind fun x2=>(if x2 < (l0.length:Int) then (if 0 ≤ x2 then (some (((((l0.getD x2.toNat ao).k) == a1),x2))) else none) else (some ((false,x2)))))
def cG (K:Nat) (l0:List ah) (a1:Int):Option (Int × Int × Int × Int × Int × Int × Bool × Bool):=((br K l0 a1).bind fun x3=>(gP (if (!x3.1) = true then (aJ (x3.2 - 1)) else (x3.2)) fun x4=>(if x4 < 0 then (some ((0,0,0,0,0,0,false,false))) else (if 0 ≤ x4 then (if x4 < (l0.length:Int) then (some (((l0.getD x4.toNat ao).k,(((l0.getD x4.toNat ao).v).Part).Tier,(((l0.getD x4.toNat ao).v).Part).Index,((l0.getD x4.toNat ao).v).Seg,((l0.getD x4.toNat ao).v).Mark,((l0.getD x4.toNat ao).v).Rows,((l0.getD x4.toNat ao).v).Cold,true))) else none) else none))))
def jU (a0_0:Int) (a0_1:Int) (a1:Int):Bool:=(gP (jJ a0_0 a1) fun x4=>(if (!x4.2.2) = true then (gP (gO a0_0 a0_1) fun x6=>(if x6.1 ≤ a1 then (decide (a1 < x6.2)) else (false))) else (((x4.1 == a0_0) && ((x4.2.1 == a0_1) && true)))))
def eZ (K:Nat) (l0:List ah) (a1:Int):Option (Int × Int × Int × Int × Int × Bool × Bool):=((cG K l0 a1).bind fun x4=>(if (!x4.2.2.2.2.2.2.2) = true then (some ((0,0,0,0,0,false,false))) else (gP (jU x4.2.1 x4.2.2.1 a1) fun x6=>(if (!x6) = true then (some ((0,0,0,0,0,false,false))) else (some ((x4.2.1,x4.2.2.1,x4.2.2.2.1,x4.2.2.2.2.1,x4.2.2.2.2.2.1,x4.2.2.2.2.2.2.1,true)))))))
def du (l0:List ah):Unit:=(())
def cJ (K:Nat) (l0:List ah) (a1:Int) (a2:Int):Option (List ah):=((br K l0 a1).bind fun x3=>((br K l0 a2).bind fun x4=>(if x4.2 ≤ x3.2 then (gP (co) fun u5=>(some (([]:List ah)))) else (if 0 ≤ x3.2 then (if x3.2 ≤ x4.2 then (if x4.2 ≤ (l0.length:Int) then (gP (du ((l0.drop x3.2.toNat).take (x4.2.toNat - x3.2.toNat))) fun u6=>(some (((l0.drop x3.2.toNat).take (x4.2.toNat - x3.2.toNat))))) else none) else none) else none))))
def cB (K:Nat) (Gm0:Type) (y0:Int → aA → Gm0 → Option (Gm0 × Bool)) (l0:List ah):Nat → Int → Gm0 → Option Gm0
  | 0,_,_=>none
  | k + 1,i2,l3=>(if i2 < (l0.length:Int) then (if 0 ≤ i2 then ((y0 ((l0.getD i2.toNat ao).k) (⟨(⟨(((l0.getD i2.toNat ao).v).Part).Tier,(((l0.getD i2.toNat ao).v).Part).Index⟩:aO),((l0.getD i2.toNat ao).v).Seg,((l0.getD i2.toNat ao).v).Mark,((l0.getD i2.toNat ao).v).Rows,((l0.getD i2.toNat ao).v).Cold⟩:aA) l3).bind fun x12=>(if (!x12.2) = true then (some (x12.1)) else (cB K Gm0 y0 l0 k (aJ (i2 + 1)) x12.1))) else none) else (some (l3)))
def da (K:Nat) (Gm0:Type) (y0:Int → aA → Gm0 → Option (Gm0 × Bool)) (x0y:Gm0) (l0:List ah):Option Gm0:=(cB K Gm0 y0 l0 K 0 x0y)
def eQ (K:Nat) (a1:Int) (t0_:Int) (t1_:aA) (z4:List aA):Option ((List aA) × Bool):=(if t0_ = a1 then (some ((z4,true))) else (if (z4.length + [(⟨(⟨t1_.Part.Tier,t1_.Part.Index⟩:aO),t1_.Seg,t1_.Mark,t1_.Rows,t1_.Cold⟩:aA)].length) * 48 ≤ 140737488355328 then (some (((z4 ++ [(⟨(⟨t1_.Part.Tier,t1_.Part.Index⟩:aO),t1_.Seg,t1_.Mark,t1_.Rows,t1_.Cold⟩:aA)]),true))) else none))
def dz (K:Nat) (l0:List ah) (a1:Int) (a2:Int):Option (List aA):=(if a2 ≤ a1 then (some (([]:List aA))) else (Option.bind ((eZ K l0 a1).bind fun x11=>(if x11.2.2.2.2.2.2 = true then (if (([]:List aA).length + [(⟨(⟨x11.1,x11.2.1⟩:aO),x11.2.2.1,x11.2.2.2.1,x11.2.2.2.2.1,x11.2.2.2.2.2.1⟩:aA)].length) * 48 ≤ 140737488355328 then (some ((([]:List aA) ++ [(⟨(⟨x11.1,x11.2.1⟩:aO),x11.2.2.1,x11.2.2.2.1,x11.2.2.2.2.1,x11.2.2.2.2.2.1⟩:aA)]))) else none) else (some (([]:List aA))))) fun x10=>((cJ K l0 a1 a2).bind fun x14=>((da K (List aA) (eQ K a1) x10 x14).bind fun x15=>(some (x15))))))
def bw (l0:List ah) (a1:Int) (l1:List ah):Option (List ah):=uR 56 l0 a1 l1
def cY (K:Nat) (l0:List ah) (a1:Int) (a2_0:Int) (a2_1:Int) (a2_2:Int) (a2_3:Int) (a2_4:Int) (a2_5:Bool):Option (Bool × (List ah)):=((br K l0 a1).bind fun x3=>(if x3.1 = true then (if 0 ≤ x3.2 then (if x3.2 < (l0.length:Int) then (some ((false,(l0.set x3.2.toNat (⟨(l0.getD x3.2.toNat ao).k,(⟨(⟨a2_0,a2_1⟩:aO),a2_2,a2_3,a2_4,a2_5⟩:aA)⟩:ah))))) else none) else none) else ((bw l0 x3.2 [(⟨a1,(⟨(⟨a2_0,a2_1⟩:aO),a2_2,a2_3,a2_4,a2_5⟩:aA)⟩:ah)]).bind fun x4=>(some ((true,x4))))))
def eT (K:Nat) (l0:List ah) (a1_0:Int) (a1_1:Int) (a1_2:Int) (a1_3:Int) (a1_4:Int) (a1_5:Bool):Option (Int × (List ah)):=(gP (gY a1_0 a1_1 a1_2 a1_3 a1_4 a1_5) fun x9=>(if (!x9) = true then (some ((4,l0))) else (gP (gO a1_0 a1_1) fun x10=>((dz K l0 x10.1 x10.2).bind fun x12=>(if 0 < (x12.length:Int) then (some ((12,l0))) else ((cY K l0 x10.1 a1_0 a1_1 a1_2 a1_3 a1_4 a1_5).bind fun x13=>(some ((0,x13.2)))))))))
def ep (K:Nat):Nat → Option Unit
  | 0=>none
  | k + 1=>(some (()))
def dH (K:Nat) (l0:List aA):Nat → Int → (List ah) → Option (Sum (List ah) (Int × (List ah)))
  | 0,_,_=>none
  | k + 1,i9,l11=>(if i9 < (l0.length:Int) then (if 0 ≤ i9 then ((eT K l11 (((l0.getD i9.toNat db).Part).Tier) (((l0.getD i9.toNat db).Part).Index) ((l0.getD i9.toNat db).Seg) ((l0.getD i9.toNat db).Mark) ((l0.getD i9.toNat db).Rows) ((l0.getD i9.toNat db).Cold)).bind fun x45=>(if ¬ (x45.1 = 0) then (some (Sum.inr ((x45.1,([]:List ah))))) else (dH K l0 k (aJ (i9 + 1)) x45.2))) else none) else (some (Sum.inl l11)))
def ea (K:Nat) (l0:List aA):Option (Int × (List ah)):=((eH K).bind fun x31=>(Option.bind (ep K K) fun x32=>(Option.bind (dH K l0 K 0 x31) fun z=>(lK z (fun v3=>(some ((0,v3)))) (fun t_=>(some (t_)))))))
def gp (K:Nat) (l0:List ah) (a1_0:Int) (a1_1:Int):Option (List aA):=(gP (gO a1_0 a1_1) fun x3=>((dz K l0 x3.1 x3.2).bind fun x4=>(some (x4))))
def bE (K:Nat):Option Bool:=(gP (iL) fun u2=>((ea K [(⟨(⟨1,24⟩:aO),1,0,1,false⟩:aA),(⟨(⟨1,30⟩:aO),2,0,1,false⟩:aA)]).bind fun x3=>(if x3.1 = 0 then ((gp K x3.2 2 1).bind fun x4=>(some (((x4.length:Int) == 2)))) else (some (false)))))
def dq (K:Nat) (l0:List bR) (i26:Int):Nat → Int → Option (Sum Unit Bool)
  | 0,_=>none
  | k + 1,i30=>(if i30 < 4 then (if 0 ≤ i26 then (if 0 ≤ i30 then (if i30 < (4:Int) then (if 40 < (([((l0.getD i26.toNat an).Key).Dims_0,((l0.getD i26.toNat an).Key).Dims_1,((l0.getD i26.toNat an).Key).Dims_2,((l0.getD i26.toNat an).Key).Dims_3].getD i30.toNat []).length:Int) then (some (Sum.inr (false))) else (dq K l0 i26 k (aJ (i30 + 1)))) else none) else none) else none) else (some (Sum.inl ())))
def dm (K:Nat) (l0:List bR):Nat → Int → Option Bool
  | 0,_=>none
  | k + 1,i26=>(if i26 < (l0.length:Int) then (Option.bind (dq K l0 i26 K 0) fun z=>(lK z (fun v12=>(dm K l0 k (aJ (i26 + 1)))) (fun t_=>(some (t_))))) else (some (true)))
def dP (K:Nat) (l0:List bR):Option Bool:=(if 100 < (l0.length:Int) then (some (false)) else (dm K l0 K 0))
def cH (a0_0:Int) (a0_1:Int) (a0_2:Int) (a0_3:Int):Bool:=(if a0_0 = 0 then (((a0_0 == 0) && ((a0_1 == 0) && ((a0_2 == 0) && ((a0_3 == 0) && true))))) else (if 0 < a0_0 then (if a0_2 ≤ a0_3 then (if 1 < a0_0 then (true) else (if a0_1 = a0_2 then ((a0_1 == a0_3)) else (false))) else (false)) else (false)))
def bU (K:Nat) (a0_1:List UInt8) (a0_2:List UInt8) (a0_3:List UInt8) (a0_4:List UInt8) (a1_1:List UInt8) (a1_2:List UInt8) (a1_3:List UInt8) (a1_4:List UInt8):Nat → Int → Option Int
  | 0,_=>none
  | k + 1,i5=>(if i5 < 4 then (if 0 ≤ i5 then (if i5 < (4:Int) then (if ([a0_1,a0_2,a0_3,a0_4].getD i5.toNat []) < ([a1_1,a1_2,a1_3,a1_4].getD i5.toNat []) then (some ((-1))) else (if ([a1_1,a1_2,a1_3,a1_4].getD i5.toNat []) < ([a0_1,a0_2,a0_3,a0_4].getD i5.toNat []) then (some (1)) else (bU K a0_1 a0_2 a0_3 a0_4 a1_1 a1_2 a1_3 a1_4 k (aJ (i5 + 1))))) else none) else none) else (some (0)))
def cb (K:Nat) (a0_0:Int) (a0_1:List UInt8) (a0_2:List UInt8) (a0_3:List UInt8) (a0_4:List UInt8) (a1_0:Int) (a1_1:List UInt8) (a1_2:List UInt8) (a1_3:List UInt8) (a1_4:List UInt8):Option Int:=(if ¬ (a0_0 = a1_0) then (if a0_0 < a1_0 then (some ((-1))) else (some (1))) else (bU K a0_1 a0_2 a0_3 a0_4 a1_1 a1_2 a1_3 a1_4 K 0))
def cN (K:Nat) (l0:List am):Nat → Int → Option Bool
  | 0,_=>none
  | k + 1,i4=>(if i4 < (l0.length:Int) then (if 0 < i4 then (if 0 ≤ (aJ (i4 - 1)) then (if (aJ (i4 - 1)) < (l0.length:Int) then (if 0 ≤ i4 then ((cb K (((l0.getD ((aJ (i4 - 1)).toNat) af).Key).Hour) (((l0.getD ((aJ (i4 - 1)).toNat) af).Key).Dims_0) (((l0.getD ((aJ (i4 - 1)).toNat) af).Key).Dims_1) (((l0.getD ((aJ (i4 - 1)).toNat) af).Key).Dims_2) (((l0.getD ((aJ (i4 - 1)).toNat) af).Key).Dims_3) (((l0.getD i4.toNat af).Key).Hour) (((l0.getD i4.toNat af).Key).Dims_0) (((l0.getD i4.toNat af).Key).Dims_1) (((l0.getD i4.toNat af).Key).Dims_2) (((l0.getD i4.toNat af).Key).Dims_3)).bind fun x54=>(if 0 ≤ x54 then (some (false)) else (if (((l0.getD i4.toNat af).Cell).Count) < 1 then (some (false)) else (gP (cH (((l0.getD i4.toNat af).Cell).Count) (((l0.getD i4.toNat af).Cell).Sum) (((l0.getD i4.toNat af).Cell).Min) (((l0.getD i4.toNat af).Cell).Max)) fun x55=>(if (!x55) = true then (some (false)) else (cN K l0 k (aJ (i4 + 1)))))))) else none) else none) else none) else (if 0 ≤ i4 then (if (((l0.getD i4.toNat af).Cell).Count) < 1 then (some (false)) else (gP (cH (((l0.getD i4.toNat af).Cell).Count) (((l0.getD i4.toNat af).Cell).Sum) (((l0.getD i4.toNat af).Cell).Min) (((l0.getD i4.toNat af).Cell).Max)) fun x56=>(if (!x56) = true then (some (false)) else (cN K l0 k (aJ (i4 + 1)))))) else none)) else (some (true)))
def dx (K:Nat) (l0:List am):Option Bool:=(cN K l0 K 0)
def hG (a0:Int):(Int × Int × Int × Int):=((1,a0,a0,a0))
def ga (a0_0:Int) (a0_1:Int) (a0_2:Int) (a0_3:Int):Bool:=(if a0_0 = 0 then (((a0_0 == 0) && ((a0_1 == 0) && ((a0_2 == 0) && ((a0_3 == 0) && true))))) else (if a0_0 = 1 then (gP (hG a0_1) fun x4=>(((a0_0 == x4.1) && ((a0_1 == x4.2.1) && ((a0_2 == x4.2.2.1) && ((a0_3 == x4.2.2.2) && true)))))) else (if 0 < a0_0 then (decide (a0_2 ≤ a0_3)) else (false))))
def eE (a0:Int):Bool:=((a0 != a0))
def eA (a0:Int) (a1:Int):Int:=(gP (eE a0) fun x3=>(gP (eE a1) fun x4=>(if x3 = true then (if x4 = true then (0) else ((-1))) else (if x4 = true then (1) else (if a0 < a1 then ((-1)) else (if a1 < a0 then (1) else (0)))))))
def eh (a0:List UInt8):Bool:=((!(a0 == a0)))
def ee (a0:List UInt8) (a1:List UInt8):Int:=(gP (eh a0) fun x3=>(gP (eh a1) fun x4=>(if x3 = true then (if x4 = true then (0) else ((-1))) else (if x4 = true then (1) else (if a0 < a1 then ((-1)) else (if a1 < a0 then (1) else (0)))))))
def bc (K:Nat) (l0:List (List UInt8)) (l1:List (List UInt8)):Nat → Int → Option (Sum Unit Int)
  | 0,_=>none
  | k + 1,i5=>(if i5 < (l0.length:Int) then (if 0 ≤ i5 then (if (l1.length:Int) ≤ i5 then (some (Sum.inr (1))) else (if i5 < (l1.length:Int) then (gP (ee (l0.getD i5.toNat []) (l1.getD i5.toNat [])) fun x26=>(if ¬ (x26 = 0) then (some (Sum.inr (x26))) else (bc K l0 l1 k (aJ (i5 + 1))))) else none)) else none) else (some (Sum.inl ())))
def bL (K:Nat) (l0:List (List UInt8)) (l1:List (List UInt8)):Option Int:=(Option.bind (bc K l0 l1 K 0) fun z=>(lK z (fun v2=>(if (l0.length:Int) < (l1.length:Int) then (some ((-1))) else (some (0)))) (fun t_=>(some (t_)))))
def ck (K:Nat) (l0:List Int):Nat → Int → Option Int
  | 0,_=>none
  | k + 1,i5=>(if i5 < (l0.length:Int) then (if 0 ≤ i5 then (if ¬ ((l0.getD i5.toNat 0) = 0) then (some ((l0.getD i5.toNat 0))) else (ck K l0 k (aJ (i5 + 1)))) else none) else (some (0)))
def fR (K:Nat) (l0:List Int):Option Int:=(ck K l0 K 0)
def dC (K:Nat) (a0_0:Int) (a0_1:List UInt8) (a0_2:List UInt8) (a0_3:List UInt8) (a0_4:List UInt8) (a1_0:Int) (a1_1:List UInt8) (a1_2:List UInt8) (a1_3:List UInt8) (a1_4:List UInt8):Option Int:=(gP (eA a0_0 a1_0) fun x4=>((bL K ([a0_1,a0_2,a0_3,a0_4].take 4) ([a1_1,a1_2,a1_3,a1_4].take 4)).bind fun x5=>((fR K [x4,x5]).bind fun x6=>(some (x6)))))
def bQ (l0:List am):Option (List am):=(if 0 < l0.length then (if (([]:List am).length + l0.length) * 104 ≤ 140737488355328 then (some ((([]:List am) ++ l0))) else none) else (if (([]:List am).length + ([]:List am).length) * 104 ≤ 140737488355328 then (some ((([]:List am) ++ ([]:List am)))) else none))
def fm (K:Nat) (l0:List am):Nat → Int → Option (Sum Unit (List am))
  | 0,_=>none
  | k + 1,i4=>(if i4 < (l0.length:Int) then (if 0 ≤ i4 then (if 0 < i4 then (if 0 ≤ (aJ (i4 - 1)) then (if (aJ (i4 - 1)) < (l0.length:Int) then ((dC K (((l0.getD ((aJ (i4 - 1)).toNat) af).Key).Hour) (((l0.getD ((aJ (i4 - 1)).toNat) af).Key).Dims_0) (((l0.getD ((aJ (i4 - 1)).toNat) af).Key).Dims_1) (((l0.getD ((aJ (i4 - 1)).toNat) af).Key).Dims_2) (((l0.getD ((aJ (i4 - 1)).toNat) af).Key).Dims_3) (((l0.getD i4.toNat af).Key).Hour) (((l0.getD i4.toNat af).Key).Dims_0) (((l0.getD i4.toNat af).Key).Dims_1) (((l0.getD i4.toNat af).Key).Dims_2) (((l0.getD i4.toNat af).Key).Dims_3)).bind fun x57=>(if 0 ≤ x57 then (Option.map Sum.inr none) else (if (((l0.getD i4.toNat af).Cell).Count) < 1 then (Option.map Sum.inr none) else (gP (ga (((l0.getD i4.toNat af).Cell).Count) (((l0.getD i4.toNat af).Cell).Sum) (((l0.getD i4.toNat af).Cell).Min) (((l0.getD i4.toNat af).Cell).Max)) fun x58=>(if (!x58) = true then (Option.map Sum.inr none) else (fm K l0 k (aJ (i4 + 1)))))))) else none) else none) else (if (((l0.getD i4.toNat af).Cell).Count) < 1 then (Option.map Sum.inr none) else (gP (ga (((l0.getD i4.toNat af).Cell).Count) (((l0.getD i4.toNat af).Cell).Sum) (((l0.getD i4.toNat af).Cell).Min) (((l0.getD i4.toNat af).Cell).Max)) fun x59=>(if (!x59) = true then (Option.map Sum.inr none) else (fm K l0 k (aJ (i4 + 1))))))) else none) else (some (Sum.inl ())))
def gb (K:Nat) (l0:List am):Option (List am):=(Option.bind (fm K l0 K 0) fun z=>(lK z (fun v2=>((bQ l0).bind fun x60=>(some (x60)))) (fun t_=>(some (t_)))))
def gL (a0:Int) (a1:Int):(Int × Bool):=((aJ (a0 + a1),((mH .i64 (oN .i64 (ma .i64 a0 (aJ (a0 + a1))) (ma .i64 a1 (aJ (a0 + a1)))) 63) == 0)))
def cy (a0_0:Int) (a0_1:Int) (a0_2:Int) (a0_3:Int) (a1_0:Int) (a1_1:Int) (a1_2:Int) (a1_3:Int):(Int × Int × Int × Int × Bool):=(if a0_0 = 0 then ((a1_0,a1_1,a1_2,a1_3,true)) else (if a1_0 = 0 then ((a0_0,a0_1,a0_2,a0_3,true)) else (gP (gL a0_0 a1_0) fun x3=>(gP (gL a0_1 a1_1) fun x4=>(if (!x3.2) = true then ((0,0,0,0,false)) else (if (!x4.2) = true then ((0,0,0,0,false)) else ((x3.1,x4.1,mn a0_2 a1_2,mx a0_3 a1_3,true))))))))
def bA (l0:List (aj × aC)):Unit:=(())
def dU (K:Nat) (x y:aj):Int:=(dC K x.Hour x.Dims_0 x.Dims_1 x.Dims_2 x.Dims_3 y.Hour y.Dims_0 y.Dims_1 y.Dims_2 y.Dims_3).getD 0
def bX (K:Nat) (l0:List (aj × aC)):Option (List aj):=if 100 ≤ K ∧ l0.length * 72 ≤ 140737488355328 then nU (dU K) (l0.map (·.1)) else none
def fa (K:Nat) (l0:List bR):Nat → Int → (List (aj × aC)) → Option (Sum (List (aj × aC)) (List am))
  | 0,_,_=>none
  | k + 1,i6,l9=>(if i6 < (l0.length:Int) then (if 0 ≤ i6 then (gP (hG ((l0.getD i6.toNat an).Value)) fun x51=>(gP (cy (((aD l9 (⟨((l0.getD i6.toNat an).Key).Hour,((l0.getD i6.toNat an).Key).Dims_0,((l0.getD i6.toNat an).Key).Dims_1,((l0.getD i6.toNat an).Key).Dims_2,((l0.getD i6.toNat an).Key).Dims_3⟩:aj)).getD ai).Count) (((aD l9 (⟨((l0.getD i6.toNat an).Key).Hour,((l0.getD i6.toNat an).Key).Dims_0,((l0.getD i6.toNat an).Key).Dims_1,((l0.getD i6.toNat an).Key).Dims_2,((l0.getD i6.toNat an).Key).Dims_3⟩:aj)).getD ai).Sum) (((aD l9 (⟨((l0.getD i6.toNat an).Key).Hour,((l0.getD i6.toNat an).Key).Dims_0,((l0.getD i6.toNat an).Key).Dims_1,((l0.getD i6.toNat an).Key).Dims_2,((l0.getD i6.toNat an).Key).Dims_3⟩:aj)).getD ai).Min) (((aD l9 (⟨((l0.getD i6.toNat an).Key).Hour,((l0.getD i6.toNat an).Key).Dims_0,((l0.getD i6.toNat an).Key).Dims_1,((l0.getD i6.toNat an).Key).Dims_2,((l0.getD i6.toNat an).Key).Dims_3⟩:aj)).getD ai).Max) x51.1 x51.2.1 x51.2.2.1 x51.2.2.2) fun x52=>(if (!x52.2.2.2.2) = true then (Option.map Sum.inr none) else (fa K l0 k (aJ (i6 + 1)) (js l9 (⟨((l0.getD i6.toNat an).Key).Hour,((l0.getD i6.toNat an).Key).Dims_0,((l0.getD i6.toNat an).Key).Dims_1,((l0.getD i6.toNat an).Key).Dims_2,((l0.getD i6.toNat an).Key).Dims_3⟩:aj) (⟨x52.1,x52.2.1,x52.2.2.1,x52.2.2.2.1⟩:aC)))))) else none) else (some (Sum.inl l9)))
def gy (K:Nat) (v2:List (aj × aC)) (x54:List aj):Nat → Int → (List am) → Option (List am)
  | 0,_,_=>none
  | k + 1,i9,l11=>(if i9 < (x54.length:Int) then (if 0 ≤ i9 then (if (l11.length + [(⟨(⟨(x54.getD i9.toNat aa).Hour,(x54.getD i9.toNat aa).Dims_0,(x54.getD i9.toNat aa).Dims_1,(x54.getD i9.toNat aa).Dims_2,(x54.getD i9.toNat aa).Dims_3⟩:aj),(⟨((aD v2 (⟨(x54.getD i9.toNat aa).Hour,(x54.getD i9.toNat aa).Dims_0,(x54.getD i9.toNat aa).Dims_1,(x54.getD i9.toNat aa).Dims_2,(x54.getD i9.toNat aa).Dims_3⟩:aj)).getD ai).Count,((aD v2 (⟨(x54.getD i9.toNat aa).Hour,(x54.getD i9.toNat aa).Dims_0,(x54.getD i9.toNat aa).Dims_1,(x54.getD i9.toNat aa).Dims_2,(x54.getD i9.toNat aa).Dims_3⟩:aj)).getD ai).Sum,((aD v2 (⟨(x54.getD i9.toNat aa).Hour,(x54.getD i9.toNat aa).Dims_0,(x54.getD i9.toNat aa).Dims_1,(x54.getD i9.toNat aa).Dims_2,(x54.getD i9.toNat aa).Dims_3⟩:aj)).getD ai).Min,((aD v2 (⟨(x54.getD i9.toNat aa).Hour,(x54.getD i9.toNat aa).Dims_0,(x54.getD i9.toNat aa).Dims_1,(x54.getD i9.toNat aa).Dims_2,(x54.getD i9.toNat aa).Dims_3⟩:aj)).getD ai).Max⟩:aC)⟩:am)].length) * 104 ≤ 140737488355328 then (gy K v2 x54 k (aJ (i9 + 1)) (l11 ++ [(⟨(⟨(x54.getD i9.toNat aa).Hour,(x54.getD i9.toNat aa).Dims_0,(x54.getD i9.toNat aa).Dims_1,(x54.getD i9.toNat aa).Dims_2,(x54.getD i9.toNat aa).Dims_3⟩:aj),(⟨((aD v2 (⟨(x54.getD i9.toNat aa).Hour,(x54.getD i9.toNat aa).Dims_0,(x54.getD i9.toNat aa).Dims_1,(x54.getD i9.toNat aa).Dims_2,(x54.getD i9.toNat aa).Dims_3⟩:aj)).getD ai).Count,((aD v2 (⟨(x54.getD i9.toNat aa).Hour,(x54.getD i9.toNat aa).Dims_0,(x54.getD i9.toNat aa).Dims_1,(x54.getD i9.toNat aa).Dims_2,(x54.getD i9.toNat aa).Dims_3⟩:aj)).getD ai).Sum,((aD v2 (⟨(x54.getD i9.toNat aa).Hour,(x54.getD i9.toNat aa).Dims_0,(x54.getD i9.toNat aa).Dims_1,(x54.getD i9.toNat aa).Dims_2,(x54.getD i9.toNat aa).Dims_3⟩:aj)).getD ai).Min,((aD v2 (⟨(x54.getD i9.toNat aa).Hour,(x54.getD i9.toNat aa).Dims_0,(x54.getD i9.toNat aa).Dims_1,(x54.getD i9.toNat aa).Dims_2,(x54.getD i9.toNat aa).Dims_3⟩:aj)).getD ai).Max⟩:aC)⟩:am)])) else none) else none) else (some (l11)))
def gx (K:Nat) (l0:List bR):Option (List am):=(Option.bind (fa K l0 K 0 ([]:List (aj × aC))) fun z=>(lK z (fun v2=>(gP (bA v2) fun u4=>((bX K v2).bind fun x54=>(gy K v2 x54 K 0 ([]:List am))))) (fun t_=>(some (t_)))))
def bP (l0:List am) (l1:List am):Unit:=(())
def fU (K:Nat) (l0:List am):Nat → Option ((List am) × Bool)
  | 0=>none
  | k + 1=>(if (([]:List am).length + l0.length) * 104 ≤ 140737488355328 then (some (((([]:List am) ++ l0),true))) else none)
def fI (K:Nat) (l0:List am):Option ((List am) × Bool):=(if 0 ≤ (aJ (0 + (l0.length:Int))) then (if ((104:Nat):Int) * (aJ (0 + (l0.length:Int))) ≤ 281474976710656 then (fU K l0 K) else none) else none)
def eG (K:Nat):Nat → (List am) → (List am) → (List am) → Option ((List am) × Bool)
  | 0,_,_,_=>none
  | k + 1,l32,l33,l34=>(if (l32.length:Int) = 0 then (if (l34.length + l33.length) * 104 ≤ 140737488355328 then (some (((l34 ++ l33),true))) else none) else (if (l33.length:Int) = 0 then (if (l34.length + l32.length) * 104 ≤ 140737488355328 then (some (((l34 ++ l32),true))) else none) else (if 0 < (l32.length:Int) then (Option.bind (if 0 < (l33.length:Int) then ((dC K (((l32.getD ((0:Int).toNat) af).Key).Hour) (((l32.getD ((0:Int).toNat) af).Key).Dims_0) (((l32.getD ((0:Int).toNat) af).Key).Dims_1) (((l32.getD ((0:Int).toNat) af).Key).Dims_2) (((l32.getD ((0:Int).toNat) af).Key).Dims_3) (((l33.getD ((0:Int).toNat) af).Key).Hour) (((l33.getD ((0:Int).toNat) af).Key).Dims_0) (((l33.getD ((0:Int).toNat) af).Key).Dims_1) (((l33.getD ((0:Int).toNat) af).Key).Dims_2) (((l33.getD ((0:Int).toNat) af).Key).Dims_3)).bind fun x59=>(if 0 < x59 then (if 1 ≤ (l33.length:Int) then (some (Sum.inl (l32,((l33.getD ((0:Int).toNat) af).Key).Hour,((l33.getD ((0:Int).toNat) af).Key).Dims_0,((l33.getD ((0:Int).toNat) af).Key).Dims_1,((l33.getD ((0:Int).toNat) af).Key).Dims_2,((l33.getD ((0:Int).toNat) af).Key).Dims_3,((l33.getD ((0:Int).toNat) af).Cell).Count,((l33.getD ((0:Int).toNat) af).Cell).Sum,((l33.getD ((0:Int).toNat) af).Cell).Min,((l33.getD ((0:Int).toNat) af).Cell).Max,(l33.drop (1:Int).toNat)))) else none) else (if x59 = 0 then (gP (cy (((l32.getD ((0:Int).toNat) af).Cell).Count) (((l32.getD ((0:Int).toNat) af).Cell).Sum) (((l32.getD ((0:Int).toNat) af).Cell).Min) (((l32.getD ((0:Int).toNat) af).Cell).Max) (((l33.getD ((0:Int).toNat) af).Cell).Count) (((l33.getD ((0:Int).toNat) af).Cell).Sum) (((l33.getD ((0:Int).toNat) af).Cell).Min) (((l33.getD ((0:Int).toNat) af).Cell).Max)) fun x60=>(if (!x60.2.2.2.2) = true then (some (Sum.inr ((([]:List am),false)))) else (if 1 ≤ (l32.length:Int) then (if 1 ≤ (l33.length:Int) then (some (Sum.inl ((l32.drop (1:Int).toNat),((l32.getD ((0:Int).toNat) af).Key).Hour,((l32.getD ((0:Int).toNat) af).Key).Dims_0,((l32.getD ((0:Int).toNat) af).Key).Dims_1,((l32.getD ((0:Int).toNat) af).Key).Dims_2,((l32.getD ((0:Int).toNat) af).Key).Dims_3,x60.1,x60.2.1,x60.2.2.1,x60.2.2.2.1,(l33.drop (1:Int).toNat)))) else none) else none))) else (if 1 ≤ (l32.length:Int) then (some (Sum.inl ((l32.drop (1:Int).toNat),((l32.getD ((0:Int).toNat) af).Key).Hour,((l32.getD ((0:Int).toNat) af).Key).Dims_0,((l32.getD ((0:Int).toNat) af).Key).Dims_1,((l32.getD ((0:Int).toNat) af).Key).Dims_2,((l32.getD ((0:Int).toNat) af).Key).Dims_3,((l32.getD ((0:Int).toNat) af).Cell).Count,((l32.getD ((0:Int).toNat) af).Cell).Sum,((l32.getD ((0:Int).toNat) af).Cell).Min,((l32.getD ((0:Int).toNat) af).Cell).Max,l33))) else none)))) else none) fun z=>(lK z (fun v12=>(if (l34.length + [(⟨(⟨v12.2.1,v12.2.2.1,v12.2.2.2.1,v12.2.2.2.2.1,v12.2.2.2.2.2.1⟩:aj),(⟨v12.2.2.2.2.2.2.1,v12.2.2.2.2.2.2.2.1,v12.2.2.2.2.2.2.2.2.1,v12.2.2.2.2.2.2.2.2.2.1⟩:aC)⟩:am)].length) * 104 ≤ 140737488355328 then (eG K k v12.1 v12.2.2.2.2.2.2.2.2.2.2 (l34 ++ [(⟨(⟨v12.2.1,v12.2.2.1,v12.2.2.2.1,v12.2.2.2.2.1,v12.2.2.2.2.2.1⟩:aj),(⟨v12.2.2.2.2.2.2.1,v12.2.2.2.2.2.2.2.1,v12.2.2.2.2.2.2.2.2.1,v12.2.2.2.2.2.2.2.2.2.1⟩:aC)⟩:am)])) else none)) (fun t_=>(some (t_))))) else none)))
def eC (K:Nat) (l0:List am) (l1:List am):Option ((List am) × Bool):=(if 0 ≤ (aJ ((l0.length:Int) + (l1.length:Int))) then (if ((104:Nat):Int) * (aJ ((l0.length:Int) + (l1.length:Int))) ≤ 281474976710656 then (eG K K l0 l1 ([]:List am)) else none) else none)
def el (K:Nat) (l0:List am) (l1:List am) (l2:List am):Option (List am):=((fI K l0).bind fun x29=>(if (!x29.2) = true then none else ((eC K x29.1 l1).bind fun x31=>(if (!x31.2) = true then none else ((eC K x31.1 l2).bind fun x33=>(if (!x33.2) = true then none else (some (x33.1))))))))
def et (K:Nat) (l0:List am) (l1:List am) (l2:List am):Option Unit:=((fI K l0).bind fun x29=>(if (!x29.2) = true then (some (())) else ((eC K x29.1 l1).bind fun x31=>(if (!x31.2) = true then (some (())) else ((eC K x31.1 l2).bind fun x33=>(if (!x33.2) = true then (some (())) else none))))))
def eo (K:Nat) (l0:List bR):Nat → Int → (List (aj × aC)) → Option (Sum (List (aj × aC)) Unit)
  | 0,_,_=>none
  | k + 1,i6,l8=>(if i6 < (l0.length:Int) then (if 0 ≤ i6 then (gP (hG ((l0.getD i6.toNat an).Value)) fun x51=>(gP (cy (((aD l8 (⟨((l0.getD i6.toNat an).Key).Hour,((l0.getD i6.toNat an).Key).Dims_0,((l0.getD i6.toNat an).Key).Dims_1,((l0.getD i6.toNat an).Key).Dims_2,((l0.getD i6.toNat an).Key).Dims_3⟩:aj)).getD ai).Count) (((aD l8 (⟨((l0.getD i6.toNat an).Key).Hour,((l0.getD i6.toNat an).Key).Dims_0,((l0.getD i6.toNat an).Key).Dims_1,((l0.getD i6.toNat an).Key).Dims_2,((l0.getD i6.toNat an).Key).Dims_3⟩:aj)).getD ai).Sum) (((aD l8 (⟨((l0.getD i6.toNat an).Key).Hour,((l0.getD i6.toNat an).Key).Dims_0,((l0.getD i6.toNat an).Key).Dims_1,((l0.getD i6.toNat an).Key).Dims_2,((l0.getD i6.toNat an).Key).Dims_3⟩:aj)).getD ai).Min) (((aD l8 (⟨((l0.getD i6.toNat an).Key).Hour,((l0.getD i6.toNat an).Key).Dims_0,((l0.getD i6.toNat an).Key).Dims_1,((l0.getD i6.toNat an).Key).Dims_2,((l0.getD i6.toNat an).Key).Dims_3⟩:aj)).getD ai).Max) x51.1 x51.2.1 x51.2.2.1 x51.2.2.2) fun x52=>(if (!x52.2.2.2.2) = true then (some (Sum.inr (()))) else (eo K l0 k (aJ (i6 + 1)) (js l8 (⟨((l0.getD i6.toNat an).Key).Hour,((l0.getD i6.toNat an).Key).Dims_0,((l0.getD i6.toNat an).Key).Dims_1,((l0.getD i6.toNat an).Key).Dims_2,((l0.getD i6.toNat an).Key).Dims_3⟩:aj) (⟨x52.1,x52.2.1,x52.2.2.1,x52.2.2.2.1⟩:aC)))))) else none) else (some (Sum.inl l8)))
def gT (K:Nat) (v2:List (aj × aC)) (x54:List aj):Nat → Int → (List am) → Option Unit
  | 0,_,_=>none
  | k + 1,i9,l10=>(if i9 < (x54.length:Int) then (if 0 ≤ i9 then (if (l10.length + [(⟨(⟨(x54.getD i9.toNat aa).Hour,(x54.getD i9.toNat aa).Dims_0,(x54.getD i9.toNat aa).Dims_1,(x54.getD i9.toNat aa).Dims_2,(x54.getD i9.toNat aa).Dims_3⟩:aj),(⟨((aD v2 (⟨(x54.getD i9.toNat aa).Hour,(x54.getD i9.toNat aa).Dims_0,(x54.getD i9.toNat aa).Dims_1,(x54.getD i9.toNat aa).Dims_2,(x54.getD i9.toNat aa).Dims_3⟩:aj)).getD ai).Count,((aD v2 (⟨(x54.getD i9.toNat aa).Hour,(x54.getD i9.toNat aa).Dims_0,(x54.getD i9.toNat aa).Dims_1,(x54.getD i9.toNat aa).Dims_2,(x54.getD i9.toNat aa).Dims_3⟩:aj)).getD ai).Sum,((aD v2 (⟨(x54.getD i9.toNat aa).Hour,(x54.getD i9.toNat aa).Dims_0,(x54.getD i9.toNat aa).Dims_1,(x54.getD i9.toNat aa).Dims_2,(x54.getD i9.toNat aa).Dims_3⟩:aj)).getD ai).Min,((aD v2 (⟨(x54.getD i9.toNat aa).Hour,(x54.getD i9.toNat aa).Dims_0,(x54.getD i9.toNat aa).Dims_1,(x54.getD i9.toNat aa).Dims_2,(x54.getD i9.toNat aa).Dims_3⟩:aj)).getD ai).Max⟩:aC)⟩:am)].length) * 104 ≤ 140737488355328 then (gT K v2 x54 k (aJ (i9 + 1)) (l10 ++ [(⟨(⟨(x54.getD i9.toNat aa).Hour,(x54.getD i9.toNat aa).Dims_0,(x54.getD i9.toNat aa).Dims_1,(x54.getD i9.toNat aa).Dims_2,(x54.getD i9.toNat aa).Dims_3⟩:aj),(⟨((aD v2 (⟨(x54.getD i9.toNat aa).Hour,(x54.getD i9.toNat aa).Dims_0,(x54.getD i9.toNat aa).Dims_1,(x54.getD i9.toNat aa).Dims_2,(x54.getD i9.toNat aa).Dims_3⟩:aj)).getD ai).Count,((aD v2 (⟨(x54.getD i9.toNat aa).Hour,(x54.getD i9.toNat aa).Dims_0,(x54.getD i9.toNat aa).Dims_1,(x54.getD i9.toNat aa).Dims_2,(x54.getD i9.toNat aa).Dims_3⟩:aj)).getD ai).Sum,((aD v2 (⟨(x54.getD i9.toNat aa).Hour,(x54.getD i9.toNat aa).Dims_0,(x54.getD i9.toNat aa).Dims_1,(x54.getD i9.toNat aa).Dims_2,(x54.getD i9.toNat aa).Dims_3⟩:aj)).getD ai).Min,((aD v2 (⟨(x54.getD i9.toNat aa).Hour,(x54.getD i9.toNat aa).Dims_0,(x54.getD i9.toNat aa).Dims_1,(x54.getD i9.toNat aa).Dims_2,(x54.getD i9.toNat aa).Dims_3⟩:aj)).getD ai).Max⟩:aC)⟩:am)])) else none) else none) else none)
def ge (K:Nat) (l0:List bR):Option Unit:=(Option.bind (eo K l0 K 0 ([]:List (aj × aC))) fun z=>(lK z (fun v2=>(gP (bA v2) fun u4=>((bX K v2).bind fun x54=>(gT K v2 x54 K 0 ([]:List am))))) (fun t_=>(some (t_)))))
def eN (K:Nat) (l0:List am) (l1:List am) (l2:List bR):Option (List am):=(uv (gx K l2) (fun x3=>(gP (bP l0 l1) fun u4=>(uv (el K l0 l1 x3) (fun x4=>(some (x4))) ((et K l0 l1 x3).bind fun u5=>none)))) ((ge K l2).bind fun u6=>none))
def fG (a0:Int):(Int × Int × Int × Int):=((1,a0,a0,a0))
def dX (a0:Int) (a1:Int):(Int × Bool):=(gP (if 0 ≤ a1 then (if (aJ (9223372036854775807 - a1)) < a0 then (Sum.inr ((0,false))) else (if a1 < 0 then (if a0 < (aJ ((-9223372036854775808) - a1)) then (Sum.inr ((0,false))) else (Sum.inl ())) else (Sum.inl ()))) else (if a1 < 0 then (if a0 < (aJ ((-9223372036854775808) - a1)) then (Sum.inr ((0,false))) else (Sum.inl ())) else (Sum.inl ()))) fun z=>(lK z (fun v2=>((aJ (a0 + a1),true))) (fun t_=>(t_))))
def dR (a0_0:Int) (a0_1:Int) (a0_2:Int) (a0_3:Int) (a1_0:Int) (a1_1:Int) (a1_2:Int) (a1_3:Int):(Int × Int × Int × Int × Bool):=(if a0_0 = 0 then ((a1_0,a1_1,a1_2,a1_3,true)) else (if a1_0 = 0 then ((a0_0,a0_1,a0_2,a0_3,true)) else (gP (dX a0_0 a1_0) fun x3=>(gP (dX a0_1 a1_1) fun x4=>(if (!x3.2) = true then ((0,0,0,0,false)) else (if (!x4.2) = true then ((0,0,0,0,false)) else ((x3.1,x4.1,mn a0_2 a1_2,mx a0_3 a1_3,true))))))))
def dL (K:Nat) (l0:List am) (a1_0:Int) (a1_1:List UInt8) (a1_2:List UInt8) (a1_3:List UInt8) (a1_4:List UInt8):Nat → Int → Option Int
  | 0,_=>none
  | k + 1,i12=>(if i12 < (l0.length:Int) then (if 0 ≤ i12 then ((cb K (((l0.getD i12.toNat af).Key).Hour) (((l0.getD i12.toNat af).Key).Dims_0) (((l0.getD i12.toNat af).Key).Dims_1) (((l0.getD i12.toNat af).Key).Dims_2) (((l0.getD i12.toNat af).Key).Dims_3) a1_0 a1_1 a1_2 a1_3 a1_4).bind fun x33=>(if x33 < 0 then (dL K l0 a1_0 a1_1 a1_2 a1_3 a1_4 k (aJ (i12 + 1))) else (some (i12)))) else none) else (some (i12)))
def cl (K:Nat) (l0:List am) (a1_0:Int) (a1_1:List UInt8) (a1_2:List UInt8) (a1_3:List UInt8) (a1_4:List UInt8) (a1_5:Int) (a1_6:Int) (a1_7:Int) (a1_8:Int):Option (Int × (List am)):=(Option.bind (dL K l0 a1_0 a1_1 a1_2 a1_3 a1_4 K 0) fun x26=>(if 0 ≤ x26 then (if x26 ≤ (l0.length:Int) then (if (([]:List am).length + (l0.take x26.toNat).length) * 104 ≤ 140737488355328 then (Option.bind (if 0 < ((l0.drop x26.toNat).length:Int) then (if ((((((l0.drop x26.toNat).getD ((0:Int).toNat) af).Key).Hour) == a1_0) && (((((((l0.drop x26.toNat).getD ((0:Int).toNat) af).Key).Dims_0) == a1_1) && ((((((l0.drop x26.toNat).getD ((0:Int).toNat) af).Key).Dims_1) == a1_2) && ((((((l0.drop x26.toNat).getD ((0:Int).toNat) af).Key).Dims_2) == a1_3) && ((((((l0.drop x26.toNat).getD ((0:Int).toNat) af).Key).Dims_3) == a1_4) && true)))) && true)) = true then (gP (dR ((((l0.drop x26.toNat).getD ((0:Int).toNat) af).Cell).Count) ((((l0.drop x26.toNat).getD ((0:Int).toNat) af).Cell).Sum) ((((l0.drop x26.toNat).getD ((0:Int).toNat) af).Cell).Min) ((((l0.drop x26.toNat).getD ((0:Int).toNat) af).Cell).Max) a1_5 a1_6 a1_7 a1_8) fun x36=>(if (!x36.2.2.2.2) = true then (some (Sum.inr ((6,([]:List am))))) else (if 1 ≤ ((l0.drop x26.toNat).length:Int) then (some (Sum.inl (x36.1,x36.2.1,x36.2.2.1,x36.2.2.2.1,((l0.drop x26.toNat).drop (1:Int).toNat)))) else none))) else (some (Sum.inl (a1_5,a1_6,a1_7,a1_8,(l0.drop x26.toNat))))) else (some (Sum.inl (a1_5,a1_6,a1_7,a1_8,(l0.drop x26.toNat))))) fun z=>(lK z (fun v2=>(if ((([]:List am) ++ (l0.take x26.toNat)).length + [(⟨(⟨a1_0,a1_1,a1_2,a1_3,a1_4⟩:aj),(⟨v2.1,v2.2.1,v2.2.2.1,v2.2.2.2.1⟩:aC)⟩:am)].length) * 104 ≤ 140737488355328 then (if (((([]:List am) ++ (l0.take x26.toNat)) ++ [(⟨(⟨a1_0,a1_1,a1_2,a1_3,a1_4⟩:aj),(⟨v2.1,v2.2.1,v2.2.2.1,v2.2.2.2.1⟩:aC)⟩:am)]).length + v2.2.2.2.2.length) * 104 ≤ 140737488355328 then (some ((0,(((([]:List am) ++ (l0.take x26.toNat)) ++ [(⟨(⟨a1_0,a1_1,a1_2,a1_3,a1_4⟩:aj),(⟨v2.1,v2.2.1,v2.2.2.1,v2.2.2.2.1⟩:aC)⟩:am)]) ++ v2.2.2.2.2)))) else none) else none)) (fun t_=>(some (t_))))) else none) else none) else none))
def dS (K:Nat) (l0:List bR):Nat → Int → (List am) → Option (Int × (List am))
  | 0,_,_=>none
  | k + 1,i5,l5=>(if i5 < (l0.length:Int) then (if 0 ≤ i5 then (gP (fG ((l0.getD i5.toNat an).Value)) fun x49=>((cl K l5 (((l0.getD i5.toNat an).Key).Hour) (((l0.getD i5.toNat an).Key).Dims_0) (((l0.getD i5.toNat an).Key).Dims_1) (((l0.getD i5.toNat an).Key).Dims_2) (((l0.getD i5.toNat an).Key).Dims_3) x49.1 x49.2.1 x49.2.2.1 x49.2.2.2).bind fun x50=>(if ¬ (x50.1 = 0) then (some ((x50.1,([]:List am)))) else (dS K l0 k (aJ (i5 + 1)) x50.2)))) else none) else (some ((0,l5))))
def ff (K:Nat) (l0:List bR):Option (Int × (List am)):=(dS K l0 K 0 ([]:List am))
def cT (K:Nat) (l1:List am):Nat → Int → (List am) → Option (Sum (List am) (Int × (List am)))
  | 0,_,_=>none
  | k + 1,i38,l48=>(if i38 < (l1.length:Int) then (if 0 ≤ i38 then ((cl K l48 (((l1.getD i38.toNat af).Key).Hour) (((l1.getD i38.toNat af).Key).Dims_0) (((l1.getD i38.toNat af).Key).Dims_1) (((l1.getD i38.toNat af).Key).Dims_2) (((l1.getD i38.toNat af).Key).Dims_3) (((l1.getD i38.toNat af).Cell).Count) (((l1.getD i38.toNat af).Cell).Sum) (((l1.getD i38.toNat af).Cell).Min) (((l1.getD i38.toNat af).Cell).Max)).bind fun x191=>(if ¬ (x191.1 = 0) then (some (Sum.inr ((x191.1,([]:List am))))) else (cT K l1 k (aJ (i38 + 1)) x191.2))) else none) else (some (Sum.inl l48)))
def cU (K:Nat) (l2:List am):Nat → Int → (List am) → Option (Sum (List am) (Int × (List am)))
  | 0,_,_=>none
  | k + 1,i40,l51=>(if i40 < (l2.length:Int) then (if 0 ≤ i40 then ((cl K l51 (((l2.getD i40.toNat af).Key).Hour) (((l2.getD i40.toNat af).Key).Dims_0) (((l2.getD i40.toNat af).Key).Dims_1) (((l2.getD i40.toNat af).Key).Dims_2) (((l2.getD i40.toNat af).Key).Dims_3) (((l2.getD i40.toNat af).Cell).Count) (((l2.getD i40.toNat af).Cell).Sum) (((l2.getD i40.toNat af).Cell).Min) (((l2.getD i40.toNat af).Cell).Max)).bind fun x204=>(if ¬ (x204.1 = 0) then (some (Sum.inr ((x204.1,([]:List am))))) else (cU K l2 k (aJ (i40 + 1)) x204.2))) else none) else (some (Sum.inl l51)))
def cS (K:Nat) (l0:List am) (l1:List am) (l2:List am):Nat → Int → (List am) → Option (Int × (List am))
  | 0,_,_=>none
  | k + 1,i36,l45=>(if i36 < (l0.length:Int) then (if 0 ≤ i36 then ((cl K l45 (((l0.getD i36.toNat af).Key).Hour) (((l0.getD i36.toNat af).Key).Dims_0) (((l0.getD i36.toNat af).Key).Dims_1) (((l0.getD i36.toNat af).Key).Dims_2) (((l0.getD i36.toNat af).Key).Dims_3) (((l0.getD i36.toNat af).Cell).Count) (((l0.getD i36.toNat af).Cell).Sum) (((l0.getD i36.toNat af).Cell).Min) (((l0.getD i36.toNat af).Cell).Max)).bind fun x178=>(if ¬ (x178.1 = 0) then (some ((x178.1,([]:List am)))) else (cS K l0 l1 l2 k (aJ (i36 + 1)) x178.2))) else none) else (Option.bind (cT K l1 K 0 l45) fun z=>(lK z (fun v11=>(Option.bind (cU K l2 K 0 v11) fun z=>(lK z (fun v12=>(some ((0,v12)))) (fun t_=>(some (t_)))))) (fun t_=>(some (t_))))))
def dB (K:Nat) (l0:List am) (l1:List am) (l2:List am):Option (Int × (List am)):=(cS K l0 l1 l2 K 0 ([]:List am))
def cx (K:Nat) (l0:List am) (l1:List am) (l2:List bR):Option (Int × (List am)):=((ff K l2).bind fun x3=>(if ¬ (x3.1 = 0) then (some ((x3.1,([]:List am)))) else ((dB K l0 l1 x3.2).bind fun x4=>(some ((x4.1,x4.2))))))
def fx (l0:List am):Unit:=(())
def gq (l0:List am):Int:=(gP (fx l0) fun u2=>((l0.length:Int)))
def gH (l0:List am) (a1:Int):Option (Int × (List UInt8) × (List UInt8) × (List UInt8) × (List UInt8) × Int × Int × Int × Int × Bool):=(gP (fx l0) fun u2=>(if a1 < 0 then (some ((0,([]:List UInt8),([]:List UInt8),([]:List UInt8),([]:List UInt8),0,0,0,0,false))) else (if (l0.length:Int) ≤ a1 then (some ((0,([]:List UInt8),([]:List UInt8),([]:List UInt8),([]:List UInt8),0,0,0,0,false))) else (if 0 ≤ a1 then (if a1 < (l0.length:Int) then (some ((((l0.getD a1.toNat af).Key).Hour,((l0.getD a1.toNat af).Key).Dims_0,((l0.getD a1.toNat af).Key).Dims_1,((l0.getD a1.toNat af).Key).Dims_2,((l0.getD a1.toNat af).Key).Dims_3,((l0.getD a1.toNat af).Cell).Count,((l0.getD a1.toNat af).Cell).Sum,((l0.getD a1.toNat af).Cell).Min,((l0.getD a1.toNat af).Cell).Max,true))) else none) else none))))
def dy (K:Nat) (l0:List am):Nat → Int → (List am) → Option (List am)
  | 0,_,_=>none
  | k + 1,i4,l5=>(gP (gq l0) fun x50=>(if i4 < x50 then ((gH l0 i4).bind fun x52=>(if (l5.length + [(⟨(⟨x52.1,x52.2.1,x52.2.2.1,x52.2.2.2.1,x52.2.2.2.2.1⟩:aj),(⟨x52.2.2.2.2.2.1,x52.2.2.2.2.2.2.1,x52.2.2.2.2.2.2.2.1,x52.2.2.2.2.2.2.2.2.1⟩:aC)⟩:am)].length) * 104 ≤ 140737488355328 then (dy K l0 k (aJ (i4 + 1)) (l5 ++ [(⟨(⟨x52.1,x52.2.1,x52.2.2.1,x52.2.2.2.1,x52.2.2.2.2.1⟩:aj),(⟨x52.2.2.2.2.2.1,x52.2.2.2.2.2.2.1,x52.2.2.2.2.2.2.2.1,x52.2.2.2.2.2.2.2.2.1⟩:aC)⟩:am)])) else none)) else (some (l5))))
def eM (K:Nat) (l0:List am):Option (List am):=(dy K l0 K 0 ([]:List am))
def dn (K:Nat) (l0:List am) (l1:List am):Nat → Int → Option Bool
  | 0,_=>none
  | k + 1,i4=>(if i4 < (l0.length:Int) then (if 0 ≤ i4 then (if i4 < (l1.length:Int) then (if (!((((((l0.getD i4.toNat af).Key).Hour) == (((l1.getD i4.toNat af).Key).Hour)) && ((((((l0.getD i4.toNat af).Key).Dims_0) == (((l1.getD i4.toNat af).Key).Dims_0)) && (((((l0.getD i4.toNat af).Key).Dims_1) == (((l1.getD i4.toNat af).Key).Dims_1)) && (((((l0.getD i4.toNat af).Key).Dims_2) == (((l1.getD i4.toNat af).Key).Dims_2)) && (((((l0.getD i4.toNat af).Key).Dims_3) == (((l1.getD i4.toNat af).Key).Dims_3)) && true)))) && true)) && ((((((l0.getD i4.toNat af).Cell).Count) == (((l1.getD i4.toNat af).Cell).Count)) && (((((l0.getD i4.toNat af).Cell).Sum) == (((l1.getD i4.toNat af).Cell).Sum)) && (((((l0.getD i4.toNat af).Cell).Min) == (((l1.getD i4.toNat af).Cell).Min)) && (((((l0.getD i4.toNat af).Cell).Max) == (((l1.getD i4.toNat af).Cell).Max)) && true)))) && true))) = true then (some (false)) else (dn K l0 l1 k (aJ (i4 + 1)))) else none) else none) else (some (true)))
def de (K:Nat) (l0:List am) (l1:List am):Option Bool:=(if ¬ ((l0.length:Int) = (l1.length:Int)) then (some (false)) else (dn K l0 l1 K 0))
def eJ (K:Nat) (l0:List am) (l1:List am) (l2:List bR):Option Unit:=(uv (gx K l2) (fun x3=>(gP (bP l0 l1) fun u4=>(uv (el K l0 l1 x3) (fun x4=>none) ((et K l0 l1 x3).bind fun u5=>(some (())))))) ((ge K l2).bind fun u6=>(some (()))))
def fz:Unit:=(())
def gZ:Int:=(gP (fz) fun u2=>(0))
def im (a1:Int):Option (Int × (List UInt8) × (List UInt8) × (List UInt8) × (List UInt8) × Int × Int × Int × Int × Bool):=(gP (fz) fun u2=>(if a1 < 0 then (some ((0,([]:List UInt8),([]:List UInt8),([]:List UInt8),([]:List UInt8),0,0,0,0,false))) else (if 0 ≤ a1 then (some ((0,([]:List UInt8),([]:List UInt8),([]:List UInt8),([]:List UInt8),0,0,0,0,false))) else none)))
def dD (K:Nat):Nat → Int → (List am) → Option (List am)
  | 0,_,_=>none
  | k + 1,i4,l5=>(gP (gZ) fun x50=>(if i4 < x50 then ((im i4).bind fun x52=>(if (l5.length + [(⟨(⟨x52.1,x52.2.1,x52.2.2.1,x52.2.2.2.1,x52.2.2.2.2.1⟩:aj),(⟨x52.2.2.2.2.2.1,x52.2.2.2.2.2.2.1,x52.2.2.2.2.2.2.2.1,x52.2.2.2.2.2.2.2.2.1⟩:aC)⟩:am)].length) * 104 ≤ 140737488355328 then (dD K k (aJ (i4 + 1)) (l5 ++ [(⟨(⟨x52.1,x52.2.1,x52.2.2.1,x52.2.2.2.1,x52.2.2.2.2.1⟩:aj),(⟨x52.2.2.2.2.2.1,x52.2.2.2.2.2.2.1,x52.2.2.2.2.2.2.2.1,x52.2.2.2.2.2.2.2.2.1⟩:aC)⟩:am)])) else none)) else (some (l5))))
def eb (K:Nat):Option (List am):=(dD K K 0 ([]:List am))
def df (K:Nat) (l0:List am) (l1:List am) (l2:List bR):Option Bool:=(if 60 < (l0.length:Int) then ((bE K).bind fun x36=>(some (x36))) else (if 60 < (l1.length:Int) then ((bE K).bind fun x37=>(some (x37))) else ((dP K l2).bind fun x38=>(if (!x38) = true then ((bE K).bind fun x39=>(some (x39))) else ((dx K l0).bind fun x40=>(if (!x40) = true then ((bE K).bind fun x41=>(some (x41))) else ((dx K l1).bind fun x42=>(if (!x42) = true then ((bE K).bind fun x43=>(some (x43))) else ((gb K l0).bind fun x44=>((gb K l1).bind fun x45=>(uv (eN K x44 x45 l2) (fun x46=>((cx K l0 l1 l2).bind fun x47=>(if 0 = x47.1 then ((eM K x46).bind fun x48=>((de K x48 x47.2).bind fun x49=>(if x49 = true then ((bE K).bind fun x50=>(some (x50))) else (some (false))))) else (some (false))))) ((eJ K x44 x45 l2).bind fun u2=>((cx K l0 l1 l2).bind fun x51=>(if 6 = x51.1 then ((eb K).bind fun x52=>((de K x52 x51.2).bind fun x53=>(if x53 = true then ((bE K).bind fun x54=>(some (x54))) else (some (false))))) else (some (false))))))))))))))))
end Go.Proofs.Ytebncbheepjjdaa.BuildMerges
end
section
set_option linter.unusedVariables false
set_option linter.unusedSimpArgs false
namespace Go.Proofs.Ytebncbheepjjdaa.E
open Go
theorem iq {α β:Type} (x:α) (f:α → β):gP x f = f x:=rfl
theorem uH {x:Int} (h:tl .i64 x):-9223372036854775808 ≤ x ∧ x ≤ 9223372036854775807:=by
  simpa [tl,IntKind.min,IntKind.max,IntKind.signed,IntKind.bits] using h
theorem mh (n:Int):aJ n = if n % 18446744073709551616 ≥ 9223372036854775808 then n % 18446744073709551616 - 18446744073709551616 else n % 18446744073709551616:=by
  simp [aJ,IntKind.wrap,IntKind.signed,IntKind.bits]
theorem iv {n:Int} (h:-9223372036854775808 ≤ n ∧ n ≤ 9223372036854775807):aJ n = n:=by
  rw [mh]; split <;> omega
theorem uO (n:Int):-9223372036854775808 ≤ aJ n ∧ aJ n ≤ 9223372036854775807:=by
  rw [mh]; split <;> omega
theorem uV {r:Int} (h:-9223372036854775808 ≤ r ∧ r ≤ 9223372036854775807):mH .i64 r 63 = if r < 0 then -1 else 0:=by
  have e:(2:Int) ^ min (63:Int).toNat IntKind.i64.bits = 9223372036854775808:=by decide
  unfold mH
  rw [e,Int.fdiv_eq_ediv_of_nonneg _ (by decide)]
  split <;> omega
theorem og (x:BitVec 64):aJ (x.toNat:Int) = x.toInt:=by
  rw [BitVec.toInt_eq_toNat_cond,mh]
  have:=x.isLt
  split <;> split <;> omega
theorem kY {a:Int} (h:-9223372036854775808 ≤ a ∧ a ≤ 9223372036854775807):(BitVec.ofInt 64 a).toInt = a:=by
  rw [BitVec.toInt_ofInt,Int.bmod_def]
  have e:((2 ^ 64:Nat):Int) = 18446744073709551616:=by decide
  rw [e]
  split <;> omega
theorem kh (x:BitVec 64):x.toInt < 0 ↔ x.msb = true:=by
  rw [BitVec.msb_eq_toInt]; simp
theorem mK (a b:Int):ma .i64 a b = (BitVec.ofInt 64 a ^^^ BitVec.ofInt 64 b).toInt:=og _
theorem mO (a b:Int):oN .i64 a b = (BitVec.ofInt 64 a &&& BitVec.ofInt 64 b).toInt:=og _
theorem px (x:BitVec 64):-9223372036854775808 ≤ x.toInt ∧ x.toInt ≤ 9223372036854775807:=by
  have h1:=x.le_toInt
  have h2:=@BitVec.toInt_lt 64 x
  simp at h1 h2
  omega
theorem pD {a b:Int} (ha:-9223372036854775808 ≤ a ∧ a ≤ 9223372036854775807) (hb:-9223372036854775808 ≤ b ∧ b ≤ 9223372036854775807):ma .i64 a b < 0 ↔ ¬ (a < 0 ↔ b < 0):=by
  rw [mK,kh,BitVec.msb_xor]
  have h1:a < 0 ↔ (BitVec.ofInt 64 a).msb = true:=by rw [← kh,kY ha]
  have h2:b < 0 ↔ (BitVec.ofInt 64 b).msb = true:=by rw [← kh,kY hb]
  rw [h1,h2]
  cases (BitVec.ofInt 64 a).msb <;> cases (BitVec.ofInt 64 b).msb <;> simp
theorem qu (a b:Int):-9223372036854775808 ≤ ma .i64 a b ∧ ma .i64 a b ≤ 9223372036854775807:=by
  rw [mK]; exact px _
theorem tF (a b:Int):-9223372036854775808 ≤ oN .i64 a b ∧ oN .i64 a b ≤ 9223372036854775807:=by
  rw [mO]; exact px _
theorem so {a b:Int} (ha:-9223372036854775808 ≤ a ∧ a ≤ 9223372036854775807) (hb:-9223372036854775808 ≤ b ∧ b ≤ 9223372036854775807):oN .i64 a b < 0 ↔ a < 0 ∧ b < 0:=by
  rw [mO,kh,BitVec.msb_and]
  have h1:a < 0 ↔ (BitVec.ofInt 64 a).msb = true:=by rw [← kh,kY ha]
  have h2:b < 0 ↔ (BitVec.ofInt 64 b).msb = true:=by rw [← kh,kY hb]
  rw [h1,h2,Bool.and_eq_true]
theorem uN {a b:Int} (ha:-9223372036854775808 ≤ a ∧ a ≤ 9223372036854775807) (hb:-9223372036854775808 ≤ b ∧ b ≤ 9223372036854775807) :
    (mH .i64 (oN .i64 (ma .i64 a (aJ (a + b))) (ma .i64 b (aJ (a + b)))) 63 == 0) = decide (-9223372036854775808 ≤ a + b ∧ a + b ≤ 9223372036854775807):=by
  have hw:=uO (a + b)
  rw [uV (tF _ _),Bool.eq_iff_iff]
  simp only [decide_eq_true_eq,beq_iff_eq]
  have h:=so (qu a (aJ (a + b))) (qu b (aJ (a + b)))
  rw [pD ha hw,pD hb hw] at h
  have hd:=mh (a + b)
  split
  · rename_i hn
    have:=h.1 hn
    constructor
    · intro h; cases h
    · intro hr
      rw [iv hr] at this
      omega
  · rename_i hn
    have hn':=fun h'=>hn (h.2 h')
    constructor
    · intro _
      apply Classical.byContradiction
      intro hc
      apply hn'
      split at hd <;> omega
    · intro _; rfl
end Go.Proofs.Ytebncbheepjjdaa.E
end
section
set_option linter.unusedVariables false
set_option linter.unusedSimpArgs false
namespace Go.Proofs.Ytebncbheepjjdaa.BuildMerges
open Go E Go.Sort
def cs (a b:List UInt8):Int:=if a < b then -1 else if b < a then 1 else 0
def ci (a b:Int):Int:=if a < b then -1 else if b < a then 1 else 0
def kO (a b:Int):Int:=if a = 0 then b else a
theorem vn {a b:List UInt8} (h:a < b):¬ b < a:=List.not_lt.2 (List.le_of_lt h)
theorem uM (a b:List UInt8):ee a b = cs a b:=by
  simp [ee,eh,iq,cs]
theorem uF (a b:Int):eA a b = ci a b:=by
  simp [eA,eE,iq,ci]
theorem qw (K k i:Nat) (l m:List (List UInt8)) (hl:i < l.length) (hm:i < m.length) (h:l.length ≤ 100):bc K l m (k + 1) i =
    if cs (l.getD i []) (m.getD i []) = 0 then bc K l m k ((i + 1:Nat):Int) else some (Sum.inr (cs (l.getD i []) (m.getD i []))):=by
  have hn:aJ ((i:Int) + 1) = ((i + 1:Nat):Int):=by rw [iv (by omega)]; omega
  rw [bc,if_pos (by omega),if_pos (by omega),if_neg (by omega),if_pos (by omega),hn]
  simp only [iq,uM,Int.toNat_natCast]
  by_cases h0:cs (l.getD i []) (m.getD i []) = 0
  · rw [if_neg (by simpa using h0),if_pos h0]
  · rw [if_pos h0,if_neg h0]
theorem rk {K k:Nat} (hK:K = k + 5) (a1 a2 a3 a4 b1 b2 b3 b4:List UInt8):bL K ([a1,a2,a3,a4].take 4) ([b1,b2,b3,b4].take 4) = some (kO (cs a1 b1) (kO (cs a2 b2) (kO (cs a3 b3) (cs a4 b4)))):=by
  have t1:∀ x1 x2 x3 x4:List UInt8,[x1,x2,x3,x4].take 4 = [x1,x2,x3,x4]:=fun _ _ _ _=>rfl
  have s0:=qw K (k + 4) 0 [a1,a2,a3,a4] [b1,b2,b3,b4] (by simp) (by simp) (by simp)
  have s1:=qw K (k + 3) 1 [a1,a2,a3,a4] [b1,b2,b3,b4] (by simp) (by simp) (by simp)
  have s2:=qw K (k + 2) 2 [a1,a2,a3,a4] [b1,b2,b3,b4] (by simp) (by simp) (by simp)
  have s3:=qw K (k + 1) 3 [a1,a2,a3,a4] [b1,b2,b3,b4] (by simp) (by simp) (by simp)
  have s4:bc K [a1,a2,a3,a4] [b1,b2,b3,b4] (k + 1) ((3 + 1:Nat):Int) = some (Sum.inl ()):=by
    rw [bc,if_neg (by simp)]
  unfold bL
  rw [t1,t1]
  have s0':bc K [a1,a2,a3,a4] [b1,b2,b3,b4] (k + 5) 0 = if cs a1 b1 = 0 then (if cs a2 b2 = 0 then (if cs a3 b3 = 0 then (if cs a4 b4 = 0 then some (Sum.inl ()) else some (Sum.inr (cs a4 b4))) else some (Sum.inr (cs a3 b3))) else some (Sum.inr (cs a2 b2))) else some (Sum.inr (cs a1 b1)):=by
    refine s0.trans ?_
    rw [s1,s2,s3,s4]
    rfl
  have e:bc K [a1,a2,a3,a4] [b1,b2,b3,b4] K 0 = bc K [a1,a2,a3,a4] [b1,b2,b3,b4] (k + 5) 0:=by rw [← hK]
  rw [e,s0']
  unfold kO
  by_cases h1:cs a1 b1 = 0 <;> by_cases h2:cs a2 b2 = 0 <;> by_cases h3:cs a3 b3 = 0 <;> by_cases h4:cs a4 b4 = 0 <;> simp [h1,h2,h3,h4,lK]
theorem vh {K k:Nat} (hK:K = k + 3) (a b:Int):fR K [a,b] = some (kO a b):=by
  unfold fR
  have e0:ck K [a,b] (k + 3) 0 = if ¬ a = 0 then some a else ck K [a,b] (k + 2) 1:=by
    rw [ck,if_pos (by simp),if_pos (by simp)]; rfl
  have e1:ck K [a,b] (k + 2) 1 = if ¬ b = 0 then some b else ck K [a,b] (k + 1) 2:=by
    rw [ck,if_pos (by simp),if_pos (by simp)]; rfl
  have e2:ck K [a,b] (k + 1) 2 = some 0:=by
    rw [ck,if_neg (by simp)]
  have e:ck K [a,b] K 0 = ck K [a,b] (k + 3) 0:=by rw [← hK]
  rw [e,e0,e1,e2]
  unfold kO
  by_cases h1:a = 0 <;> by_cases h2:b = 0 <;> simp [h1,h2]
theorem qe {K:Nat} (hK:100 ≤ K) (a0:Int) (a1 a2 a3 a4:List UInt8) (b0:Int) (b1 b2 b3 b4:List UInt8):dC K a0 a1 a2 a3 a4 b0 b1 b2 b3 b4 = some (kO (ci a0 b0) (kO (cs a1 b1) (kO (cs a2 b2) (kO (cs a3 b3) (cs a4 b4))))):=by
  unfold dC
  rw [rk (k:=K - 5) (by omega)]
  simp only [iq,uF,Option.bind_some,vh (show K = (K - 3) + 3 by omega)]
def kc (x y:aj):Int:=kO (ci x.Hour y.Hour) (kO (cs x.Dims_0 y.Dims_0) (kO (cs x.Dims_1 y.Dims_1) (kO (cs x.Dims_2 y.Dims_2) (cs x.Dims_3 y.Dims_3))))
theorem oz {K:Nat} (hK:100 ≤ K) (x y:aj):dC K x.Hour x.Dims_0 x.Dims_1 x.Dims_2 x.Dims_3 y.Hour y.Dims_0 y.Dims_1 y.Dims_2 y.Dims_3 = some (kc x y):=qe hK ..
theorem oU {K:Nat} (hK:100 ≤ K):dU K = kc:=by
  funext x y
  unfold dU
  rw [oz hK]; rfl
theorem jT {K:Nat} (hK:100 ≤ K) (x y:aj):dC K x.Hour x.Dims_0 x.Dims_1 x.Dims_2 x.Dims_3 y.Hour y.Dims_0 y.Dims_1 y.Dims_2 y.Dims_3 = some (dU K x y):=by
  rw [oU hK,oz hK]
structure TO {α:Type} (c:α → α → Int):Prop where
  neg:∀ x y,c y x = -c x y
  eq:∀ x y,c x y = 0 ↔ x = y
  trans:∀ x y z,c x y < 0 → c y z < 0 → c x z < 0
theorem vc:TO ci where
  neg x y:=by unfold ci; split <;> split <;> (try split) <;> omega
  eq x y:=by
    unfold ci
    by_cases h1:x < y
    · rw [if_pos h1]; exact ⟨fun h=>by omega,fun h=>by omega⟩
    · rw [if_neg h1]
      by_cases h2:y < x
      · rw [if_pos h2]; exact ⟨fun h=>by omega,fun h=>by omega⟩
      · rw [if_neg h2]; exact ⟨fun _=>by omega,fun _=>rfl⟩
  trans x y z h1 h2:=by
    have key:∀ a b:Int,ci a b < 0 → a < b:=by
      intro a b h
      unfold ci at h
      by_cases q:a < b
      · exact q
      · rw [if_neg q] at h
        by_cases q2:b < a
        · rw [if_pos q2] at h; omega
        · rw [if_neg q2] at h; omega
    have g1:=key x y h1
    have g2:=key y z h2
    unfold ci
    have g3:x < z:=by omega
    rw [if_pos g3]; decide
theorem sU {a b:List UInt8}:cs a b < 0 ↔ a < b:=by
  unfold cs
  by_cases h:a < b
  · simp [h]
  · by_cases h':b < a <;> simp [h,h']
theorem qo:TO cs where
  neg a b:=by
    unfold cs
    by_cases h:a < b
    · simp [h,vn h]
    · by_cases h':b < a <;> simp [h,h']
  eq a b:=by
    constructor
    · intro h
      unfold cs at h
      by_cases h1:a < b
      · simp [h1] at h
      · by_cases h2:b < a
        · simp [h1,h2] at h
        · exact List.le_antisymm (List.not_lt.1 h2) (List.not_lt.1 h1)
    · intro h; subst h; unfold cs; simp [List.lt_irrefl]
  trans a b d h1 h2:=sU.2 (List.lt_trans (sU.1 h1) (sU.1 h2))
theorem me {α β:Type} {c:α → α → Int} {d:β → β → Int} (hc:TO c) (hd:TO d):TO (fun (p q:α × β)=>kO (c p.1 q.1) (d p.2 q.2)) where
  neg p q:=by
    have h1:=hc.neg p.1 q.1
    have h2:=hd.neg p.2 q.2
    show kO (c q.1 p.1) (d q.2 p.2) = -kO (c p.1 q.1) (d p.2 q.2)
    unfold kO; split <;> split <;> omega
  eq p q:=by
    have h1:=hc.eq p.1 q.1
    have h2:=hd.eq p.2 q.2
    show kO (c p.1 q.1) (d p.2 q.2) = 0 ↔ p = q
    unfold kO
    constructor
    · intro h
      by_cases h0:c p.1 q.1 = 0
      · rw [if_pos h0] at h
        exact Prod.ext (h1.1 h0) (h2.1 h)
      · rw [if_neg h0] at h; exact absurd h h0
    · intro h
      subst h
      rw [if_pos (h1.2 rfl)]; exact h2.2 rfl
  trans p q r h1 h2:=by
    show kO (c p.1 r.1) (d p.2 r.2) < 0
    have g1:kO (c p.1 q.1) (d p.2 q.2) < 0:=h1
    have g2:kO (c q.1 r.1) (d q.2 r.2) < 0:=h2
    unfold kO at g1 g2 ⊢
    by_cases e1:c p.1 q.1 = 0
    · rw [if_pos e1] at g1
      rw [(hc.eq _ _).1 e1]
      by_cases e2:c q.1 r.1 = 0
      · rw [if_pos e2] at g2
        rw [if_pos e2]
        exact hd.trans _ _ _ g1 g2
      · rw [if_neg e2] at g2
        rw [if_neg e2]; exact g2
    · rw [if_neg e1] at g1
      by_cases e2:c q.1 r.1 = 0
      · rw [← (hc.eq _ _).1 e2,if_neg e1]; exact g1
      · rw [if_neg e2] at g2
        have:=hc.trans _ _ _ g1 g2
        rw [if_neg (by omega)]; exact this
theorem uD {α γ:Type} {c:α → α → Int} (hc:TO c) (f:γ → α) (hf:∀ x y,f x = f y → x = y):TO (fun x y=>c (f x) (f y)) where
  neg x y:=hc.neg _ _
  eq x y:=(hc.eq _ _).trans ⟨fun h=>hf x y h,fun h=>by rw [h]⟩
  trans x y z h1 h2:=hc.trans _ _ _ h1 h2
theorem jv:TO kc :=
  uD (me vc (me qo (me qo (me qo qo)))) (fun x:aj=>(x.Hour,x.Dims_0,x.Dims_1,x.Dims_2,x.Dims_3)) (by
    rintro ⟨a0,a1,a2,a3,a4⟩ ⟨b0,b1,b2,b3,b4⟩ h
    simp only [Prod.mk.injEq] at h
    obtain ⟨rfl,rfl,rfl,rfl,rfl⟩:=h
    rfl)
theorem uB {α:Type} {c:α → α → Int} (h:TO c):SWO (ltOf c) where
  irrefl x:=by unfold ltOf; rw [(h.eq x x).2 rfl]; rfl
  trans x y z h1 h2:=by
    unfold ltOf at *
    simp only [decide_eq_true_eq] at *
    exact h.trans x y z h1 h2
  ntrans x y z h1 h2:=by
    unfold ltOf at *
    simp only [decide_eq_false_iff_not] at *
    intro h3
    by_cases e1:c x y = 0
    · have:=(h.eq _ _).1 e1; subst this; exact h2 h3
    · by_cases e2:c y z = 0
      · have:=(h.eq _ _).1 e2; subst this; exact h1 h3
      · have n1:=h.neg x y
        have n2:=h.neg y z
        have n3:=h.neg x z
        have:=h.trans z y x (by omega) (by omega)
        omega
theorem sp {α:Type} {c:α → α → Int} (h:TO c):∀ x y,(ltOf c) x y = false → (ltOf c) y x = false → x = y:=by
  intro x y h1 h2
  unfold ltOf at h1 h2
  simp only [decide_eq_false_iff_not] at h1 h2
  have:=h.neg x y
  exact (h.eq x y).1 (by omega)
theorem gQ {K:Nat} (hK:100 ≤ K):ut (dU K):=by rw [oU hK]; exact ⟨uB jv,jv.neg⟩
theorem jP {K:Nat} (hK:100 ≤ K):∀ x y,(ltOf (dU K)) x y = false → (ltOf (dU K)) y x = false → x = y:=by rw [oU hK]; exact sp jv
instance:Inhabited aj:=⟨aa⟩
end Go.Proofs.Ytebncbheepjjdaa.BuildMerges
end
section
set_option linter.unusedVariables false
namespace Go.Proofs.Ytebncbheepjjdaa.E
open Go Go.Proofs Go.RowKit Go.Sort
theorem tW {l:List Value} (h:l.all (·.oneCell') = true):∀ v ∈ l,v.oneCell' = true:=fun v hv=>List.all_eq_true.1 h v hv
def sH:Go.Shelf.Ren where
  f:=fun x=>match x with | 6=>58 | 15=>75 | 14=>74 | 28=>90 | 29=>91 | 20=>82 | 21=>83 | 22=>84 | 23=>85 | 24=>86 | 25=>87 | 26=>88 | 27=>89 | 46=>94 | 47=>95 | 48=>96 | 49=>97 | 50=>98 | 57=>100 | n=>n
  t:=fun x=>match x with | 22=>92 | 24=>41 | 25=>44 | 3=>3 | 39=>138 | 0=>0 | 53=>152 | 55=>154 | 4=>4 | 46=>146 | 45=>145 | 50=>107 | 5=>5 | 9=>9 | 66=>157 | 70=>161 | 76=>164 | 77=>165 | n=>n
  g:=fun x=>x
theorem pe:SlLaysF0.n6 Try.prog sH :=
  { mixed:=Eq.refl true,
    f6 := ⟨ "slices.SortFunc[[]ossuary/api.Key,ossuary/api.Key]", of_decide_eq_true (id (Eq.refl true)), Eq.trans Try.func58 (congrArg some rfl)⟩,
    f14 := ⟨ "slices.pdqsortCmpFunc[ossuary/api.Key]", of_decide_eq_true (id (Eq.refl true)), Eq.trans Try.func74 (congrArg some rfl)⟩,
    f15:=Eq.trans Try.func75 (congrArg some rfl),
    f20 := ⟨ "slices.insertionSortCmpFunc[ossuary/api.Key]", of_decide_eq_true (id (Eq.refl true)), Eq.trans Try.func82 (congrArg some rfl)⟩,
    f21 := ⟨ "slices.heapSortCmpFunc[ossuary/api.Key]", of_decide_eq_true (id (Eq.refl true)), Eq.trans Try.func83 (congrArg some rfl)⟩,
    f22 := ⟨ "slices.breakPatternsCmpFunc[ossuary/api.Key]", of_decide_eq_true (id (Eq.refl true)), Eq.trans Try.func84 (congrArg some rfl)⟩,
    f23 := ⟨ "slices.choosePivotCmpFunc[ossuary/api.Key]", of_decide_eq_true (id (Eq.refl true)), Eq.trans Try.func85 (congrArg some rfl)⟩,
    f24 := ⟨ "slices.reverseRangeCmpFunc[ossuary/api.Key]", of_decide_eq_true (id (Eq.refl true)), Eq.trans Try.func86 (congrArg some rfl)⟩,
    f25 := ⟨ "slices.partialInsertionSortCmpFunc[ossuary/api.Key]", of_decide_eq_true (id (Eq.refl true)), Eq.trans Try.func87 (congrArg some rfl)⟩,
    f26 := ⟨ "slices.partitionEqualCmpFunc[ossuary/api.Key]", of_decide_eq_true (id (Eq.refl true)), Eq.trans Try.func88 (congrArg some rfl)⟩,
    f27 := ⟨ "slices.partitionCmpFunc[ossuary/api.Key]", of_decide_eq_true (id (Eq.refl true)), Eq.trans Try.func89 (congrArg some rfl)⟩,
    f28:=Eq.trans Try.func90 (congrArg some rfl),
    f29:=Eq.trans Try.func91 (congrArg some rfl),
    f46 := ⟨ "slices.siftDownCmpFunc[ossuary/api.Key]", of_decide_eq_true (id (Eq.refl true)), Eq.trans Try.func94 (congrArg some rfl)⟩,
    f47:=Eq.trans Try.func95 (congrArg some rfl),
    f48:=Eq.trans Try.func96 (congrArg some rfl),
    f49 := ⟨ "slices.medianAdjacentCmpFunc[ossuary/api.Key]", of_decide_eq_true (id (Eq.refl true)), Eq.trans Try.func97 (congrArg some rfl)⟩,
    f50 := ⟨ "slices.medianCmpFunc[ossuary/api.Key]", of_decide_eq_true (id (Eq.refl true)), Eq.trans Try.func98 (congrArg some rfl)⟩,
    f57 := ⟨ "slices.order2CmpFunc[ossuary/api.Key]", of_decide_eq_true (id (Eq.refl true)), Eq.trans Try.func100 (congrArg some rfl)⟩,
    t0:=Try.underlying0,
    a0:=Try.isAgg0,
    z0:=Try.sizeOf0,
    v0:=Try.zeroValue0,
    t3:=Try.underlying3,
    a3:=Try.isAgg3,
    z3:=Try.sizeOf3,
    v3:=Try.zeroValue3,
    t4:=Try.underlying4,
    a4:=Try.isAgg4,
    z4:=Try.sizeOf4,
    v4:=Try.zeroValue4,
    t5:=Try.underlying5,
    a5:=Try.isAgg5,
    z5:=Try.sizeOf5,
    v5:=Try.zeroValue5,
    t9:=Try.underlying9,
    a9:=Try.isAgg9,
    z9:=Try.sizeOf9,
    v9:=Try.zeroValue9,
    t22:=Try.underlying92,
    a22:=Try.isAgg92,
    z22:=Try.sizeOf92,
    v22:=Try.zeroValue92,
    t25:=Try.underlying44,
    a25:=Try.isAgg44,
    z25:=Try.sizeOf44,
    v25:=Try.zeroValue44,
    t39:=Try.underlying138,
    a39:=Try.isAgg138,
    z39:=Try.sizeOf138,
    v39:=Try.zeroValue138,
    t45:=Try.underlying145,
    a45:=Try.isAgg145,
    z45:=Try.sizeOf145,
    v45:=Try.zeroValue145,
    t46:=Try.underlying146,
    a46:=Try.isAgg146,
    z46:=Try.sizeOf146,
    v46:=Try.zeroValue146,
    t50:=Try.underlying107,
    a50:=Try.isAgg107,
    z50:=Try.sizeOf107,
    v50:=Try.zeroValue107,
    t53:=Try.underlying152,
    a53:=Try.isAgg152,
    z53:=Try.sizeOf152,
    v53:=Try.zeroValue152,
    t55:=Try.underlying154,
    a55:=Try.isAgg154,
    z55:=Try.sizeOf154,
    v55:=Try.zeroValue154,
    t66:=Try.underlying157,
    a66:=Try.isAgg157,
    z66:=Try.sizeOf157,
    v66:=Try.zeroValue157,
    t70:=Try.underlying161,
    a70:=Try.isAgg161,
    z70:=Try.sizeOf161,
    v70:=Try.zeroValue161,
    t76:=Try.underlying164,
    a76:=Try.isAgg164,
    z76:=Try.sizeOf164,
    v76:=Try.zeroValue164,
    t77:=Try.underlying165,
    a77:=Try.isAgg165,
    z77:=Try.sizeOf165,
    v77:=Try.zeroValue165 }
theorem sr {α:Type} [Inhabited α] {enc:α → List Value} {k:Nat} {e:TypeId} (hk:∀ x,(enc x).length = k) (h1:∀ x,∀ v ∈ enc x,v.oneCell' = true) (cf:α → α → Int) (hO:SWO (ltOf cf)) (hT:∀ x y,(ltOf cf) x y = false → (ltOf cf) y x = false → x = y) {g:FuncId} (eg:∀ args w,(callFunc g args).run Try.prog w = .ok (.enter g args) w) (hsp:∀ x y:α,bk Try.prog g [.agg (enc x).toArray,.agg (enc y).toArray] [] (fun v M=>v = .int .i64 (cf x y) ∧ M = [])) (sv:Value) (l:List α) (hl:l.length < 4611686018427387904) (hz:cX Try.prog 41 = some k:=by kernel_rfl) :
    bk Try.prog 58 [sv,.func (.func g) #[] #[]] [own sv e k l.length (fl enc l)] (fun v M=>v = .tuple #[] ∧ M = [own sv e k (iQ cf l).length (fl enc (iQ cf l))]) :=
  pQ hk cf hsp (fun ik cap d w hC hH hb hs=>AnyQ.slices_SortFunc_total pe k Try.isAgg41 (fun w=>ej w hz) enc hk h1 cf hO g #[] ik 0 cap d w eg hC hH hb hs hT) (fun p cap w=>AnyF.slices_SortFunc_none pe p cap _ w) sv l hl
end Go.Proofs.Ytebncbheepjjdaa.E
end
section
set_option linter.unusedVariables false
namespace Go.Proofs.Ytebncbheepjjdaa.E
open Go
section
variable {r:Option Nat} {P:Program} {n:Nat} {w0:World} {F L L':List HP} {ρ ρ':fT} {Q:Exit → Act → World → Prop} {ops:Array Oper} {rest:List Oper} {d:Nat} {v:Value} {ty:TypeId} {pos:String} {after:Array Edge} {op:Op}
theorem vM {x:Operand} (hx:ev ρ x = some v) (hd:Nat.blt d n = true) (k:bW (St n w0 F ((d,v) :: ρ) L) (wpListIn (Wd r) 0 P ops Q rest)):bW (St n w0 F ρ L) (wpListIn (Wd r) 0 P ops Q (⟨some d,.move x,ty,pos,after,none⟩ :: rest)):=lI (aE hx) rfl rfl hd k
theorem vX {x:Operand} (hx:ev ρ x = some v) (hd:Nat.blt d n = true) (k:bW (St n w0 F ((d,v) :: ρ) L) (wpListIn (Wd r) 0 P ops Q rest)):bW (St n w0 F ρ L) (wpListIn (Wd r) 0 P ops Q (⟨some d,.assign x,ty,pos,after,none⟩ :: rest)):=lI (bT hx) rfl rfl hd k
theorem vV (h:OV P ⟨some d,op,ty,pos,after,none⟩ ρ L v) (hd:Nat.blt d n = true) (k:bW (St n w0 F ((d,v) :: ρ) L) (wpListIn (Wd r) 0 P ops Q rest)):bW (St n w0 F ρ L) (wpListIn (Wd r) 0 P ops Q (⟨some d,op,ty,pos,after,none⟩ :: rest)):=lI h rfl rfl hd k
def mq:List Nat → Bool
  | []=>true
  | x :: l=>l.all (fun y=>!Nat.beq x y) && mq l
theorem mN:∀ {l:List Nat},mq l = true → l.Nodup
  | [],_=>List.nodup_nil
  | x :: l,h=>by
    simp only [mq,Bool.and_eq_true,List.all_eq_true,Bool.not_eq_true'] at h
    rw [List.nodup_cons]
    refine ⟨fun hx=>?_,mN h.2⟩
    exact Nat.ne_of_beq_eq_false (h.1 x hx) rfl
theorem vF {X:Act → World → Prop} (σ:List Nat) (hn:mq σ = true) (hp:pick L σ = some L') (hs:sub ρ' ρ) (hx:∀ a w,St n w0 F ρ' L' a w → X a w):bW (St n w0 F ρ L) X:=tw σ (mN hn) hp hs hx
theorem vP {X:Act → World → Prop} (σ:List Nat) (hn:mq σ = true) (hp:pick L σ = some L') (k:bW (St n w0 F ρ L') X):bW (St n w0 F ρ L) X:=pI σ (mN hn) hp k
def uE (ρ:fT):List Nat → Option fT
  | []=>some []
  | t :: ts=>match fB ρ t,uE ρ ts with
    | some v,some e=>some ((t,v) :: e)
    | _,_=>none
theorem vS:∀ (ts:List Nat) {ρ':fT},uE ρ ts = some ρ' → sub ρ' ρ
  | [],ρ',h=>by cases h; exact tP _
  | t :: ts,ρ',h=>by
    simp only [uE] at h
    split at h
    · rename_i v e hv he
      cases h
      exact sw hv (vS ts he)
    · cases h
theorem dT {p:Prop} [Decidable p] (h:p):decide p = true:=decide_eq_true h
theorem dF {p:Prop} [Decidable p] (h:¬ p):decide p = false:=decide_eq_false h
theorem bF {b:Bool} (h:¬ b = true):b = false:=Bool.eq_false_iff.2 h
theorem oB {α β:Type} {o:Option α} {f:α → Option β} {b:β} (h:o.bind f = some b):∃ a,o = some a ∧ f a = some b:=Option.bind_eq_some_iff.1 h
theorem nL {a b:Nat} (h:Nat.ble a b = true):a ≤ b:=Nat.le_of_ble_eq_true h
end
section
variable {r:Option Nat} {P:Program} {n:Nat} {w0:World} {F L:List HP} {ρ ρ':fT} {Q:Exit → Act → World → Prop} {ops:Array Oper} {done:Nat → Bool} {T:List (Nat × Nat × Value)} {a:Act} {i j t:Nat} {v:Value} {o:Oper}
theorem hD (k:Nat) (hc:gw ops (up done i)) (hk:T[k]? = some (j,t,v)) (ho:ops[i]? = some o) (hne:Nat.beq j i = false) (he:(o.after.toList.any fun e=>Region.binds .any e && Nat.beq e.on j) = true) (h:jm a ρ T done → gU a ρ'):jm a ρ T done → gU a ((t,v) :: ρ'):=nW hk (qC hc ho (Nat.ne_of_beq_eq_false hne) he) h
theorem sk:∀ {T:List (Nat × Nat × Value)},(∀ e ∈ T,done e.1 = true) → mD a done T → gU a ρ → gU a (T.map (fun e=>(e.2.1,e.2.2)) ++ ρ)
  | [],_,_,h=>h
  | (i,t,v) :: T,hd,hA,h=>by
    intro s u hu
    simp only [List.map_cons,List.cons_append,fB] at hu
    split at hu
    · rename_i e
      subst e
      cases hu
      exact hA.1 (hd _ List.mem_cons_self)
    · exact sk (fun e he=>hd e (List.mem_cons_of_mem _ he)) hA.2 h s u hu
theorem hL {m:Nat} (hall:∀ i,i < m → done i = true) (hT:(T.all fun e=>Nat.blt e.1 m) = true) (a:Act):jm a ρ T done → gU a (T.map (fun e=>(e.2.1,e.2.2)) ++ ρ):=fun h =>
  sk (fun e he=>hall _ (by have:=List.all_eq_true.1 hT e he; simpa [Nat.blt_eq] using this)) h.2 h.1
theorem dV (k0:Nat) {ρi:fT} (hk:T[k0]? = some (i,t,v)) (ho:ops[i]? = some o) (hg:o.guard = none) (hdst:o.dst = some t) (hρ:∀ a,jm a ρ T done → gU a ρi) (hv:OV P o ρi L v) (ht:Nat.blt t n = true) (hn:fB ρ t = none) (h1:lQ i t T = true) (h2:lY T = true) :
    bW (gu n w0 F ρ T done L) fun a w=>wpOpIn (Wd r) 0 P ops Q i (gu n w0 F ρ T (up done i) L) a w:=mw ho hdst (bi hg) hρ hv ht hn (jI h1 hk h2)
theorem oT (k0:Nat) (h:lQ i t T = true) (h0:T[k0]? = some (i,t,v)) (hinc:lY T = true):∀ (k:Nat) (e:Nat × Nat × Value),T[k]? = some e → (e.1 = i ∧ e.2.1 = t ∧ e.2.2 = v) ∨ (e.1 ≠ i ∧ e.2.1 ≠ t):=jI h h0 hinc
end
section
variable {r:Option Nat} {P:Program} {Q:Exit → Act → World → Prop} {ops:Array Oper} {done:Nat → Bool} {A:(Nat → Bool) → Act → World → Prop}
def lS (ops:Array Oper) (m j:Nat):Bool :=
  match ops[m]? with
  | some o=>o.after.toList.any fun e=>Region.binds .any e && Nat.beq e.on j
  | none=>false
def qj (ops:Array Oper) (i:Nat):Nat → List Nat → Bool
  | m,[]=>lS ops m i
  | m,x :: l=>lS ops m x && qj ops i x l
theorem pm {m i:Nat} (hc:gw ops done) (hi:done i = false) (h:lS ops m i = true):done m = false:=by
  unfold lS at h
  split at h
  · rename_i o ho; exact pM hc hi ho h
  · cases h
theorem rZ {m i:Nat} (hc:gw ops done) (hm:done m = true) (h:lS ops m i = true):done i = true:=by
  unfold lS at h
  split at h
  · rename_i o ho; exact rp hc hm ho h
  · cases h
theorem nP {i:Nat}:∀ (m:Nat) (l:List Nat),gw ops done → done i = false → qj ops i m l = true → done m = false
  | _,[],hc,hi,h=>pm hc hi h
  | _,x :: l,hc,hi,h=>by
    simp only [qj,Bool.and_eq_true] at h
    exact pm hc (nP x l hc hi h.2) h.1
theorem nQ {B:Act → World → Prop} {i:Nat} (m:Nat) (l:List Nat) (hne:Nat.beq m i = false) (hp:qj ops i m l = true) (h:∀ done:Nat → Bool,done i = false → gw ops done → gw ops (up done i) → done m = false → bW (A done) fun a w=>wpOpIn (Wd r) 0 P ops Q i (A (up done i)) a w):qc r P ops Q (nG m A B) i:=fun done hi hc hu =>
  have hm:=nP m l hc hi hp
  sQ hm hne (h done hi hc hu hm)
theorem dO (j:Nat) {i:Nat} {o:Oper} (hc:gw ops (up done i)) (ho:ops[i]? = some o) (hne:Nat.beq j i = false) (he:(o.after.toList.any fun e=>Region.binds .any e && Nat.beq e.on j) = true):done j = true:=qC hc ho (Nat.ne_of_beq_eq_false hne) he
def sR (ops:Array Oper) (m:Nat):Nat → Bool
  | 0=>true
  | j + 1=>((List.range (m - j)).any fun k=>lS ops (j + 1 + k) j) && sR ops m j
theorem qr {m:Nat}:∀ {j:Nat},sR ops m j = true → ∀ x,x < j → ∃ k,k < m - x ∧ lS ops (x + 1 + k) x = true
  | 0,_,x,hx=>absurd hx (Nat.not_lt_zero x)
  | j + 1,h,x,hx=>by
    simp only [sR,Bool.and_eq_true,List.any_eq_true,List.mem_range] at h
    rcases Nat.lt_succ_iff_lt_or_eq.1 hx with hx | hx
    · exact qr h.2 x hx
    · subst hx; exact h.1
theorem uu {m:Nat} {D:Nat → Bool} (hc:gw ops D) (hm:D m = true) (h:sR ops m m = true):∀ (d x:Nat),m = x + d → D x = true:=by
  intro d
  induction d using Nat.strongRecOn with
  | _ d ih =>
    intro x hx
    cases d with
    | zero =>
      have:x = m:=by omega
      rw [this]; exact hm
    | succ d =>
      obtain ⟨k,hk,he⟩:=qr h x (by omega)
      exact rZ hc (ih (m - (x + 1 + k)) (by omega) (x + 1 + k) (by omega)) he
theorem dA (m:Nat) (hu:gw ops (up done m)) (h:sR ops m m = true):∀ x,x < m → done x = true:=fun x hx=>by
  have:=uu hu (by simp [up]) h (m - x) x (by omega)
  have hne:x ≠ m:=by omega
  simpa [up,hne] using this
theorem Z {α:Sort _} {a:α}:a = a:=rfl
end
section
variable {r:Option Nat} {P:Program} {n:Nat} {w0:World} {F L L':List HP} {ρ ρi:fT} {Q:Exit → Act → World → Prop} {ops:Array Oper} {done:Nat → Bool} {T:List (Nat × Nat × Value)} {a:Act} {i j t:Nat} {v:Value} {o:Oper}
theorem hC (k:Nat) {ρ':fT} (hk:T[k]? = some (i,t,v)) (hd:done i = true) (h:jm a ρ T done → gU a ρ'):jm a ρ T done → gU a ((t,v) :: ρ'):=nW hk hd h
theorem dG (k0:Nat) (hk:T[k0]? = some (i,t,v)) (ho:ops[i]? = some o) (hdst:o.dst = some t) (hw:∀ a,gU a ρi → Region.wanted o (yielded ops a.tmps) = true) (hρ:∀ a,jm a ρ T done → gU a ρi) (hv:OV P o ρi L v) (ht:Nat.blt t n = true) (hn:fB ρ t = none) (h1:lQ i t T = true) (h2:lY T = true) :
    bW (gu n w0 F ρ T done L) fun a w=>wpOpIn (Wd r) 0 P ops Q i (gu n w0 F ρ T (up done i) L) a w:=mw ho hdst hw hρ hv ht hn (jI h1 hk h2)
theorem na (k0:Nat) (hk:T[k0]? = some (i,t,v)) (ho:ops[i]? = some o) (hdst:o.dst = some t) (hw:∀ a,gU a ρi → Region.wanted o (yielded ops a.tmps) = true) (hρ:∀ a,jm a ρ T done → gU a ρi) (hv:OT P o ρi L (fun u M=>u = v ∧ M = L)) (ht:Nat.blt t n = true) (hn:fB ρ t = none) (h1:lQ i t T = true) (h2:lY T = true) :
    bW (gu n w0 F ρ T done L) fun a w=>wpOpIn (Wd r) 0 P ops Q i (gu n w0 F ρ T (up done i) L) a w:=rD ho hdst hw hρ hv ht hn (jI h1 hk h2)
end
section
variable {n:Nat} {w0:World} {F L:List HP} {ρ:fT}
theorem vl {id:Nat} {Φ:Option Code → List HP → Prop} (h:Φ none L):bW (St n w0 F ρ L) (Exit.inBlock id (kK w0 F Φ) .normal):=fun a w hs=>iG (Φ:=Φ) h a w hs
theorem vj {id id2:Nat} {Φ:Option Code → List HP → Prop} (h:Φ none L):bW (St n w0 F ρ L) (Exit.inBlock id (Exit.inBlock id2 (kK w0 F Φ)) .normal):=fun a w hs=>iG (Φ:=Φ) h a w hs
end
end Go.Proofs.Ytebncbheepjjdaa.E
end
section
set_option linter.unusedVariables false
set_option linter.unusedSimpArgs false
set_option maxHeartbeats 8000000
set_option maxRecDepth 100000
namespace Go.Proofs.Ytebncbheepjjdaa.BuildMerges
open Go Go.RowKit E
open Go.Value (int bool slice agg)
def ax (x:aj):List Value:=[(Value.int .i64 x.Hour),(bg x.Dims_0),(bg x.Dims_1),(bg x.Dims_2),(bg x.Dims_3)]
theorem lX (x:aj):(ax x).all (·.oneCell') = true:=rfl
theorem jM (x:aj):(ax x).length = 5:=rfl
def aP (x:aC):List Value:=[(Value.int .i64 x.Count),(Value.int .i64 x.Sum),(Value.int .i64 x.Min),(Value.int .i64 x.Max)]
def ag (x:am):List Value:=[(Value.int .i64 x.Key.Hour),(bg x.Key.Dims_0),(bg x.Key.Dims_1),(bg x.Key.Dims_2),(bg x.Key.Dims_3),(Value.int .i64 x.Cell.Count),(Value.int .i64 x.Cell.Sum),(Value.int .i64 x.Cell.Min),(Value.int .i64 x.Cell.Max)]
theorem cV (x:am):(ag x).all (·.oneCell') = true:=rfl
theorem aF (x:am):(ag x).length = 9:=rfl
def eX (x:bR):List Value:=[(Value.int .i64 x.Key.Hour),(bg x.Key.Dims_0),(bg x.Key.Dims_1),(bg x.Key.Dims_2),(bg x.Key.Dims_3),(Value.int .i64 x.Value)]
theorem dJ (x:bR):(eX x).length = 6:=rfl
def be (x:aA):List Value:=[(Value.int .i64 x.Part.Tier),(Value.int .i64 x.Part.Index),(Value.int .i64 x.Seg),(Value.int .i64 x.Mark),(Value.int .i64 x.Rows),(Value.bool x.Cold)]
theorem jo (x:aA):(be x).all (·.oneCell') = true:=rfl
theorem lc (x:aA):(be x).length = 6:=rfl
def ab (x:ah):List Value:=[(Value.int .i64 x.k),(Value.int .i64 x.v.Part.Tier),(Value.int .i64 x.v.Part.Index),(Value.int .i64 x.v.Seg),(Value.int .i64 x.v.Mark),(Value.int .i64 x.v.Rows),(Value.bool x.v.Cold)]
theorem cc (x:ah):(ab x).all (·.oneCell') = true:=rfl
theorem aR (x:ah):(ab x).length = 7:=rfl
theorem aS:dY Try.prog 22 = some 48:=by kernel_rfl
theorem pP:fD Try.prog 103 = some [(Value.slice none 0 0)]:=by kernel_rfl
theorem oE:ip Try.prog 103 = some [(0,1)]:=by kernel_rfl
theorem oi:bZ Try.prog 27 = true:=by kernel_rfl
theorem nE:fD Try.prog 76 = some [(Value.pointer none)]:=by kernel_rfl
theorem lR:ip Try.prog 76 = some [(0,1)]:=by kernel_rfl
theorem rG:bZ Try.prog 14 = true:=by kernel_rfl
theorem gE:fD Try.prog 54 = some [(Value.int .i64 0),(Value.int .i64 0)]:=by kernel_rfl
theorem ii:ip Try.prog 54 = some [(0,1),(1,1)]:=by kernel_rfl
theorem eW:fD Try.prog 56 = some [(Value.int .i64 0),(Value.int .i64 0),(Value.int .i64 0),(Value.int .i64 0),(Value.int .i64 0),(Value.bool false)]:=by kernel_rfl
theorem jr:ip Try.prog 56 = some [(0,2),(2,1),(3,1),(4,1),(5,1)]:=by kernel_rfl
theorem gd:dY Try.prog 57 = some 56:=by kernel_rfl
theorem bJ:cX Try.prog 56 = some 6:=by kernel_rfl
theorem qT:fD Try.prog 60 = some [(Value.slice none 0 0),(Value.slice none 0 0)]:=by kernel_rfl
theorem oY:ip Try.prog 60 = some [(0,1),(1,1)]:=by kernel_rfl
theorem gF:eP Try.prog 76 0 = some (0,73):=by kernel_rfl
theorem ie:cX Try.prog 73 = some 1:=by kernel_rfl
theorem fK:ij Try.prog 73 = some false:=by kernel_rfl
theorem rT:fD Try.prog 73 = some [(Value.pointer none)]:=by kernel_rfl
theorem dr:eP Try.prog 103 0 = some (0,101):=by kernel_rfl
theorem ef:cX Try.prog 101 = some 1:=by kernel_rfl
theorem fe:ij Try.prog 101 = some false:=by kernel_rfl
theorem lz:bZ Try.prog 71 = true:=by kernel_rfl
theorem qY:bZ Try.prog 61 = true:=by kernel_rfl
theorem eU:ij Try.prog 56 = some true:=by kernel_rfl
theorem gA:fD Try.prog 111 = some [(Value.int .i64 0),(Value.int .i64 0),(Value.int .i64 0),(Value.int .i64 0),(Value.int .i64 0),(Value.int .i64 0),(Value.bool false)]:=by kernel_rfl
theorem lh:ip Try.prog 111 = some [(0,1),(1,6)]:=by kernel_rfl
theorem bC:dY Try.prog 101 = some 111:=by kernel_rfl
theorem bY:cX Try.prog 111 = some 7:=by kernel_rfl
theorem jV:gR Try.prog 111 = some 56:=by kernel_rfl
theorem rj:bZ Try.prog 45 = true:=by kernel_rfl
theorem rC:bZ Try.prog 28 = true:=by kernel_rfl
theorem oO:eP Try.prog 60 0 = some (0,58):=by kernel_rfl
theorem rP:cX Try.prog 58 = some 1:=by kernel_rfl
theorem sx:ij Try.prog 58 = some false:=by kernel_rfl
theorem qf:dY Try.prog 58 = some 54:=by kernel_rfl
theorem oA:eP Try.prog 60 1 = some (1,57):=by kernel_rfl
theorem jw:cX Try.prog 57 = some 1:=by kernel_rfl
theorem jC:ij Try.prog 57 = some false:=by kernel_rfl
theorem iX:eP Try.prog 56 0 = some (0,54):=by kernel_rfl
theorem cp:cX Try.prog 54 = some 2:=by kernel_rfl
theorem fc:ij Try.prog 54 = some true:=by kernel_rfl
theorem iY:eP Try.prog 54 0 = some (0,3):=by kernel_rfl
theorem jy:cX Try.prog 3 = some 1:=by kernel_rfl
theorem jE:ij Try.prog 3 = some false:=by kernel_rfl
theorem nA:bZ Try.prog 77 = true:=by kernel_rfl
theorem qX:bZ Try.prog 92 = true:=by kernel_rfl
theorem qV:bZ Try.prog 78 = true:=by kernel_rfl
theorem oj:bZ Try.prog 64 = true:=by kernel_rfl
theorem gM:eP Try.prog 54 1 = some (1,2):=by kernel_rfl
theorem bm:cX Try.prog 2 = some 1:=by kernel_rfl
theorem bf:ij Try.prog 2 = some false:=by kernel_rfl
theorem nM:bZ Try.prog 47 = true:=by kernel_rfl
theorem ou:eP Try.prog 56 1 = some (2,2):=by kernel_rfl
theorem lG:bZ Try.prog 69 = true:=by kernel_rfl
theorem oL:eP Try.prog 56 3 = some (4,2):=by kernel_rfl
theorem oy:eP Try.prog 56 2 = some (3,2):=by kernel_rfl
theorem oI:eP Try.prog 56 4 = some (5,4):=by kernel_rfl
theorem ss:cX Try.prog 4 = some 1:=by kernel_rfl
theorem tC:ij Try.prog 4 = some false:=by kernel_rfl
theorem sg:bZ Try.prog 51 = true:=by kernel_rfl
theorem rr:bZ Try.prog 66 = true:=by kernel_rfl
theorem nu:bZ Try.prog 65 = true:=by kernel_rfl
theorem rR:bZ Try.prog 48 = true:=by kernel_rfl
theorem lr:bZ Try.prog 30 = true:=by kernel_rfl
theorem rg:fD Try.prog 57 = some [(Value.slice none 0 0)]:=by kernel_rfl
theorem iJ:eP Try.prog 111 0 = some (0,2):=by kernel_rfl
theorem qM:bZ Try.prog 68 = true:=by kernel_rfl
theorem qU:bZ Try.prog 67 = true:=by kernel_rfl
theorem kw:bZ Try.prog 49 = true:=by kernel_rfl
theorem jt:eP Try.prog 111 1 = some (1,56):=by kernel_rfl
theorem rq:bZ Try.prog 62 = true:=by kernel_rfl
theorem qg:Try.prog.eqGuardType Try.prog.depth 54 = false:=by kernel_rfl
theorem tE {x y:Operand} (x0:Int) (x1:Int) (y0:Int) (y1:Int) (w:World):(do eqGuard .eql 54 x y (.agg #[(Value.int .i64 x0),(Value.int .i64 x1)]) (.agg #[(Value.int .i64 y0),(Value.int .i64 y1)]); binOp .eql 54 (.agg #[(Value.int .i64 x0),(Value.int .i64 x1)]) (.agg #[(Value.int .i64 y0),(Value.int .i64 y1)])).run Try.prog w = .ok (.bool ((x0 == y0) && ((x1 == y1) && true))) w :=
  lu qg (iC Try.underlying54 (by kernel_rfl) (eR Z (bu jE Z) (bu jE Z) (iy Try.underlying3 _ _) (eR Z (bu bf Z) (bu bf Z) (iy Try.underlying2 _ _) jG))) w
theorem rf:bZ Try.prog 63 = true:=by kernel_rfl
theorem qR:bZ Try.prog 46 = true:=by kernel_rfl
theorem mV:gR Try.prog 56 = some 48:=by kernel_rfl
theorem rm:bZ Try.prog 53 = true:=by kernel_rfl
theorem rY:ij Try.prog 111 = some true:=by kernel_rfl
theorem nZ:bZ Try.prog 33 = true:=by kernel_rfl
theorem ru:bZ Try.prog 70 = true:=by kernel_rfl
theorem re:bZ Try.prog 52 = true:=by kernel_rfl
theorem rv:bZ Try.prog 32 = true:=by kernel_rfl
theorem rL:bZ Try.prog 15 = true:=by kernel_rfl
theorem qZ:bZ Try.prog 16 = true:=by kernel_rfl
theorem jj:bZ Try.prog 6 = true:=by kernel_rfl
theorem fN:dY Try.prog 23 = some 43:=by kernel_rfl
theorem gI:cX Try.prog 43 = some 6:=by kernel_rfl
theorem gK:eP Try.prog 43 0 = some (0,41):=by kernel_rfl
theorem bh:cX Try.prog 41 = some 5:=by kernel_rfl
theorem gm:eP Try.prog 41 1 = some (1,39):=by kernel_rfl
theorem fw:cX Try.prog 39 = some 4:=by kernel_rfl
theorem fO:ke Try.prog 39 = some (4,9):=by kernel_rfl
theorem go:cX Try.prog 9 = some 1:=by kernel_rfl
theorem dE:ij Try.prog 9 = some false:=by kernel_rfl
theorem sP:bZ Try.prog 4 = true:=by kernel_rfl
theorem aV:cX Try.prog 48 = some 9:=by kernel_rfl
theorem cL:eP Try.prog 48 1 = some (5,46):=by kernel_rfl
theorem bd:cX Try.prog 46 = some 4:=by kernel_rfl
theorem cg:eP Try.prog 46 0 = some (0,2):=by kernel_rfl
theorem cu:ij Try.prog 46 = some true:=by kernel_rfl
theorem ei:fD Try.prog 46 = some [(Value.int .i64 0),(Value.int .i64 0),(Value.int .i64 0),(Value.int .i64 0)]:=by kernel_rfl
theorem fo:ip Try.prog 46 = some [(0,1),(1,1),(2,1),(3,1)]:=by kernel_rfl
theorem pK:Try.prog.eqGuardType Try.prog.depth 46 = false:=by kernel_rfl
theorem om {x y:Operand} (x0:Int) (x1:Int) (x2:Int) (x3:Int) (y0:Int) (y1:Int) (y2:Int) (y3:Int) (w:World):(do eqGuard .eql 46 x y (.agg #[(Value.int .i64 x0),(Value.int .i64 x1),(Value.int .i64 x2),(Value.int .i64 x3)]) (.agg #[(Value.int .i64 y0),(Value.int .i64 y1),(Value.int .i64 y2),(Value.int .i64 y3)]); binOp .eql 46 (.agg #[(Value.int .i64 x0),(Value.int .i64 x1),(Value.int .i64 x2),(Value.int .i64 x3)]) (.agg #[(Value.int .i64 y0),(Value.int .i64 y1),(Value.int .i64 y2),(Value.int .i64 y3)])).run Try.prog w = .ok (.bool ((x0 == y0) && ((x1 == y1) && ((x2 == y2) && ((x3 == y3) && true))))) w :=
  lu pK (iC Try.underlying46 (by kernel_rfl) (eR Z (bu bf Z) (bu bf Z) (iy Try.underlying2 _ _) (eR Z (bu bf Z) (bu bf Z) (iy Try.underlying2 _ _) (eR Z (bu bf Z) (bu bf Z) (iy Try.underlying2 _ _) (eR Z (bu bf Z) (bu bf Z) (iy Try.underlying2 _ _) jG))))) w
theorem gk:eP Try.prog 46 2 = some (2,2):=by kernel_rfl
theorem gj:eP Try.prog 46 3 = some (3,2):=by kernel_rfl
theorem gc:eP Try.prog 46 1 = some (1,2):=by kernel_rfl
theorem oh:bZ Try.prog 13 = true:=by kernel_rfl
theorem cM:eP Try.prog 48 0 = some (0,41):=by kernel_rfl
theorem ct:ij Try.prog 41 = some true:=by kernel_rfl
theorem gG:eP Try.prog 41 0 = some (0,2):=by kernel_rfl
theorem kp:bZ Try.prog 12 = true:=by kernel_rfl
theorem pj:bZ Try.prog 5 = true:=by kernel_rfl
theorem eV:ij Try.prog 48 = some true:=by kernel_rfl
theorem bN:fD Try.prog 48 = some [(Value.int .i64 0),(bg ([]:List UInt8)),(bg ([]:List UInt8)),(bg ([]:List UInt8)),(bg ([]:List UInt8)),(Value.int .i64 0),(Value.int .i64 0),(Value.int .i64 0),(Value.int .i64 0)]:=by kernel_rfl
theorem ln:bZ Try.prog 37 = true:=by kernel_rfl
theorem ns:bZ Try.prog 18 = true:=by kernel_rfl
theorem nv:bZ Try.prog 54 = true:=by kernel_rfl
theorem rJ:bZ Try.prog 35 = true:=by kernel_rfl
theorem iD:dY Try.prog 87 = some 9:=by kernel_rfl
theorem nB:bZ Try.prog 72 = true:=by kernel_rfl
theorem rh:bZ Try.prog 55 = true:=by kernel_rfl
theorem rx:bZ Try.prog 36 = true:=by kernel_rfl
theorem jY:dY Try.prog 117 = some 3:=by kernel_rfl
theorem sC:fD Try.prog 3 = some [(Value.int .i64 0)]:=by kernel_rfl
theorem rt:bZ Try.prog 34 = true:=by kernel_rfl
theorem kv:bZ Try.prog 17 = true:=by kernel_rfl
theorem eu:gR Try.prog 48 = some 104:=by kernel_rfl
theorem rA:bZ Try.prog 19 = true:=by kernel_rfl
theorem ju:fD Try.prog 64 = some [(Value.slice none 0 0)]:=by kernel_rfl
theorem iR:ip Try.prog 64 = some [(0,1)]:=by kernel_rfl
theorem pA:bZ Try.prog 7 = true:=by kernel_rfl
theorem ez:dY Try.prog 32 = some 27:=by kernel_rfl
theorem fv:cX Try.prog 27 = some 1:=by kernel_rfl
theorem iz:fD Try.prog 27 = some [(Value.pointer none)]:=by kernel_rfl
theorem po:ij Try.prog 43 = some true:=by kernel_rfl
theorem nC:fD Try.prog 43 = some [(Value.int .i64 0),(bg ([]:List UInt8)),(bg ([]:List UInt8)),(bg ([]:List UInt8)),(bg ([]:List UInt8)),(Value.int .i64 0)]:=by kernel_rfl
theorem jf:rz Try.prog 89 = some (41,46):=by kernel_rfl
theorem jx:ij Try.prog 39 = some true:=by kernel_rfl
theorem pJ:Try.prog.eqGuardType Try.prog.depth 41 = false:=by kernel_rfl
theorem tt {x y:Operand} (x0:Int) (x1:List UInt8) (x2:List UInt8) (x3:List UInt8) (x4:List UInt8) (y0:Int) (y1:List UInt8) (y2:List UInt8) (y3:List UInt8) (y4:List UInt8) (w:World):(do eqGuard .eql 41 x y (.agg #[(Value.int .i64 x0),(bg x1),(bg x2),(bg x3),(bg x4)]) (.agg #[(Value.int .i64 y0),(bg y1),(bg y2),(bg y3),(bg y4)]); binOp .eql 41 (.agg #[(Value.int .i64 x0),(bg x1),(bg x2),(bg x3),(bg x4)]) (.agg #[(Value.int .i64 y0),(bg y1),(bg y2),(bg y3),(bg y4)])).run Try.prog w = .ok (.bool ((x0 == y0) && (((x1 == y1) && ((x2 == y2) && ((x3 == y3) && ((x4 == y4) && true)))) && true))) w :=
  lu pJ (iC Try.underlying41 (by kernel_rfl) (eR Z (bu bf Z) (bu bf Z) (iy Try.underlying2 _ _) (eR Z (gS jx fw) (gS jx fw) (ov fO go (bu dE Z) (bu dE Z) (bu dE Z) (bu dE Z) (bu dE Z) (bu dE Z) (bu dE Z) (bu dE Z) (iT Try.underlying9 _ _) (iT Try.underlying9 _ _) (iT Try.underlying9 _ _) (iT Try.underlying9 _ _)) jG))) w
theorem kq:sI Try.prog 41 (vA ax):=⟨fun x y=>by
    have h:ne Try.prog (9999 + 1) 41 (vA ax x) (vA ax y) _:=(iC Try.underlying41 (by kernel_rfl) (eR Z (bu bf Z) (bu bf Z) (iy Try.underlying2 _ _) (eR Z (gS jx fw) (gS jx fw) (ov fO go (bu dE Z) (bu dE Z) (bu dE Z) (bu dE Z) (bu dE Z) (bu dE Z) (bu dE Z) (bu dE Z) (iT Try.underlying9 _ _) (iT Try.underlying9 _ _) (iT Try.underlying9 _ _) (iT Try.underlying9 _ _)) jG)))
    refine uC h ?_
    obtain ⟨_,_,_,_,_⟩:=x
    obtain ⟨_,_,_,_,_⟩:=y
    rw [Bool.eq_iff_iff]
    simp [and_assoc],fun b x w=>by kernel_rfl,by kernel_rfl,fun x=>by
    show Instr.sameBits (9999 + 1) _ _ = true
    simp [vA,ax,Instr.sameBits,bg,tx]⟩
theorem mf (w:World):(zeroValue 46).run Try.prog w = .ok ((vA aP) ai) w:=by kernel_rfl
theorem jL:eP Try.prog 43 1 = some (5,2):=by kernel_rfl
theorem nX:bZ Try.prog 56 = true:=by kernel_rfl
theorem ly:bZ Try.prog 38 = true:=by kernel_rfl
theorem nt:bZ Try.prog 40 = true:=by kernel_rfl
theorem nT:bZ Try.prog 39 = true:=by kernel_rfl
theorem iu:dY Try.prog 92 = some 41:=by kernel_rfl
theorem jb:fD Try.prog 41 = some [(Value.int .i64 0),(bg ([]:List UInt8)),(bg ([]:List UInt8)),(bg ([]:List UInt8)),(bg ([]:List UInt8))]:=by kernel_rfl
theorem ce:eP Try.prog 64 0 = some (0,22):=by kernel_rfl
theorem bG:cX Try.prog 22 = some 1:=by kernel_rfl
theorem en:ij Try.prog 22 = some false:=by kernel_rfl
theorem gv:ip Try.prog 48 = some [(0,5),(5,4)]:=by kernel_rfl
theorem kx:bZ Try.prog 20 = true:=by kernel_rfl
theorem kM:gR Try.prog 27 = some 8:=by kernel_rfl
theorem nR:bZ Try.prog 22 = true:=by kernel_rfl
theorem jz:ij Try.prog 27 = some false:=by kernel_rfl
theorem ja:bZ Try.prog 41 = true:=by kernel_rfl
theorem kg:bZ Try.prog 21 = true:=by kernel_rfl
theorem pv:bZ Try.prog 8 = true:=by kernel_rfl
theorem ec:dY Try.prog 35 = some 22:=by kernel_rfl
theorem iZ:fD Try.prog 22 = some [(Value.slice none 0 0)]:=by kernel_rfl
theorem rF:bZ Try.prog 43 = true:=by kernel_rfl
theorem kf:bZ Try.prog 42 = true:=by kernel_rfl
theorem nq:bZ Try.prog 76 = true:=by kernel_rfl
theorem rB:bZ Try.prog 60 = true:=by kernel_rfl
theorem rU:bZ Try.prog 23 = true:=by kernel_rfl
theorem mT:gR Try.prog 22 = some 24:=by kernel_rfl
theorem sd:bZ Try.prog 24 = true:=by kernel_rfl
theorem pG:bZ Try.prog 9 = true:=by kernel_rfl
theorem ky:bZ Try.prog 44 = true:=by kernel_rfl
theorem oc:bZ Try.prog 25 = true:=by kernel_rfl
theorem nD:bZ Try.prog 26 = true:=by kernel_rfl
theorem nJ:bZ Try.prog 11 = true:=by kernel_rfl
theorem pZ:Try.prog.eqGuardType Try.prog.depth 48 = false:=by kernel_rfl
theorem ra {x y:Operand} (x0:Int) (x1:List UInt8) (x2:List UInt8) (x3:List UInt8) (x4:List UInt8) (x5:Int) (x6:Int) (x7:Int) (x8:Int) (y0:Int) (y1:List UInt8) (y2:List UInt8) (y3:List UInt8) (y4:List UInt8) (y5:Int) (y6:Int) (y7:Int) (y8:Int) (w:World):(do eqGuard .neq 48 x y (.agg #[(Value.int .i64 x0),(bg x1),(bg x2),(bg x3),(bg x4),(Value.int .i64 x5),(Value.int .i64 x6),(Value.int .i64 x7),(Value.int .i64 x8)]) (.agg #[(Value.int .i64 y0),(bg y1),(bg y2),(bg y3),(bg y4),(Value.int .i64 y5),(Value.int .i64 y6),(Value.int .i64 y7),(Value.int .i64 y8)]); binOp .neq 48 (.agg #[(Value.int .i64 x0),(bg x1),(bg x2),(bg x3),(bg x4),(Value.int .i64 x5),(Value.int .i64 x6),(Value.int .i64 x7),(Value.int .i64 x8)]) (.agg #[(Value.int .i64 y0),(bg y1),(bg y2),(bg y3),(bg y4),(Value.int .i64 y5),(Value.int .i64 y6),(Value.int .i64 y7),(Value.int .i64 y8)])).run Try.prog w = .ok (.bool (!(((x0 == y0) && (((x1 == y1) && ((x2 == y2) && ((x3 == y3) && ((x4 == y4) && true)))) && true)) && (((x5 == y5) && ((x6 == y6) && ((x7 == y7) && ((x8 == y8) && true)))) && true)))) w :=
  rb pZ (iC Try.underlying48 (by kernel_rfl) (eR Z (gS ct bh) (gS ct bh) (iC Try.underlying41 (by kernel_rfl) (eR Z (bu bf Z) (bu bf Z) (iy Try.underlying2 _ _) (eR Z (gS jx fw) (gS jx fw) (ov fO go (bu dE Z) (bu dE Z) (bu dE Z) (bu dE Z) (bu dE Z) (bu dE Z) (bu dE Z) (bu dE Z) (iT Try.underlying9 _ _) (iT Try.underlying9 _ _) (iT Try.underlying9 _ _) (iT Try.underlying9 _ _)) jG))) (eR Z (gS cu bd) (gS cu bd) (iC Try.underlying46 (by kernel_rfl) (eR Z (bu bf Z) (bu bf Z) (iy Try.underlying2 _ _) (eR Z (bu bf Z) (bu bf Z) (iy Try.underlying2 _ _) (eR Z (bu bf Z) (bu bf Z) (iy Try.underlying2 _ _) (eR Z (bu bf Z) (bu bf Z) (iy Try.underlying2 _ _) jG))))) jG))) w
theorem ol:bZ Try.prog 10 = true:=by kernel_rfl
theorem pL:gR Try.prog 41 = some 72:=by kernel_rfl
theorem sm:ij Try.prog 89 = some false:=by kernel_rfl
theorem oW:ij Try.prog 92 = some false:=by kernel_rfl
theorem rV:cX Try.prog 92 = some 1:=by kernel_rfl
theorem se:bZ Try.prog 73 = true:=by kernel_rfl
theorem rQ:bZ Try.prog 57 = true:=by kernel_rfl
theorem rW:bZ Try.prog 58 = true:=by kernel_rfl
theorem cI.spec (r:Unit) (H:cI = r):bk Try.prog 27 [] [] (fun v M=>∃ b2:Nat,v = (pt b2 0) ∧ M = [box b2 103 [L0]]):=by
 unfold cI at H
 refine bj Try.func27 Z 3 Z (nL Z) fun F w0=>?_
 show bW (St 3 w0 F [] []) _
 refine ak (ae (vX Z Z (al (ak (ae (vV (ca (is:=[]) (xs:=[]) (vs:=[]) Z Z (bo (cs:=[L0]) pP oE Z)) Z ?_))))))
 refine aM (dZ (cs:=[L0]) Z Z) Z Z Z ?_
 rintro _ _ ⟨b3,rfl,rfl⟩
 refine vX Z Z (al (ay ?_))
 cases H
 refine vP [0] Z Z ?_
 exact aZ Z Z ⟨_,rfl,rfl⟩
theorem iL.spec (r:Unit) (H:iL = r):bk Try.prog 14 [] [] (fun v M=>∃ b3:Nat,∃ b4:Nat,v = (pt b3 0) ∧ M = [box b3 76 [pt b4 0],box b4 103 [L0]]):=by
 unfold iL at H
 refine bj Try.func14 Z 4 Z (nL Z) fun F w0=>?_
 show bW (St 4 w0 F [] []) _
 refine ak (ae (vX Z Z (al (ak (ae ?_)))))
 obtain ⟨u2,h2,H⟩:=bq H
 refine aM (bO (Lr:=[]) (first:=[]) (cap:=[]) (xs:=[]) Z Z oi Z (cI.spec _ h2) Z) Z Z Z ?_
 rintro _ _ ⟨_,⟨b5,rfl,rfl⟩,rfl⟩
 refine vV (ca (is:=[0]) (xs:=[.tmp 1]) (vs:=[pt b5 0]) Z Z (bo (cs:=[pt b5 0]) nE lR Z)) Z ?_
 refine aM (dZ (cs:=[pt b5 0]) Z Z) Z Z Z ?_
 rintro _ _ ⟨b6,rfl,rfl⟩
 refine vX Z Z (al (ay ?_))
 cases H
 refine vP [0,1] Z Z ?_
 exact aZ Z Z ⟨_,_,rfl,rfl⟩
theorem co.spec (r:Unit) (H:co = r):bk Try.prog 71 [L0] [] (fun v M=>∃ b2:Nat,v = (Value.func (.func 81) #[] #[pt b2 0]) ∧ M = [box b2 101 [L0]]):=by
 unfold co at H
 refine bj Try.func71 Z 4 Z (nL Z) fun F w0=>?_
 show bW (St 4 w0 F [(0,L0)] []) _
 refine ak (ae ?_)
 refine aM (dZ (cs:=[L0]) Z Z) Z Z Z ?_
 rintro _ _ ⟨b3,rfl,rfl⟩
 refine vX Z Z (al (ak (ae (vV (jp (first:=[]) (cap:=[.tmp 1]) Z Z) Z (vX Z Z (al (ay ?_)))))))
 cases H
 refine vP [0] Z Z ?_
 exact aZ Z Z ⟨_,rfl,rfl⟩
theorem cW.spec (p0:Nat) (r:Unit) (H:cW = r):bk Try.prog 61 [pt p0 0] [box p0 103 [L0]] (fun v M=>∃ b2:Nat,v = (Value.func (.func 81) #[] #[pt b2 0]) ∧ M = [box p0 103 [L0],box b2 101 [L0]]):=by
 unfold cW at H
 refine bj Try.func61 Z 11 Z (nL Z) fun F w0=>?_
 show bW (St 11 w0 F [(0,pt p0 0)] [box p0 103 [L0]]) _
 refine ak (ae (vX Z Z (al (ak (ak (ae (vM Z Z ?_)))))))
 refine vV (az Z Z (eB (fun w=>rfl) Z (iU Try.underlying73 _ _))) Z ?_
 refine al (ap Z Z (aN (ak (ae (vM Z Z (vV (bp Z) Z (vV (ar (sz:=0) (o:=0) Z dr ef) Z (vV (aQ (v:=L0) Z fe (aG (i:=0) Z Z)) Z ?_))))))))
 obtain ⟨u2,h2,H⟩:=bq H
 refine aM (bO (Lr:=[box p0 103 [L0]]) (first:=[]) (cap:=[]) (xs:=[.tmp 9]) Z Z lz Z (co.spec _ h2) Z) Z Z Z ?_
 rintro _ _ ⟨_,⟨b3,rfl,rfl⟩,rfl⟩
 refine vX Z Z (al (ay ?_))
 cases H
 refine vP [1,0] Z Z ?_
 exact aZ Z Z ⟨_,rfl,rfl⟩
theorem cZ.spec (K yl0 p0:Nat) (Gm0:Type) (y0:Int → aA → Gm0 → Option (Gm0 × Bool)) (x0y:Gm0) (Y0:Gm0 → HP) (hY0:∀ (t0_:Int) (t1_:aA) (z_:Gm0) (r_:Gm0 × Bool),y0 t0_ t1_ z_ = some r_ → kS Try.prog yl0 [I t0_,agg #[I t1_.Part.Tier,I t1_.Part.Index,I t1_.Seg,I t1_.Mark,I t1_.Rows,bool t1_.Cold]] [Y0 z_] (fun v N=>v = .bool r_.2 ∧ N = [Y0 r_.1])) (r:Unit) (H:cZ K Gm0 y0 x0y = some r):bk Try.prog 81 [(Value.func (.yield yl0) #[] #[]),pt p0 0] [(Y0 x0y),box p0 101 [L0]] (fun v M=>v = (tU #[]) ∧ M = [(Y0 x0y),box p0 101 [L0]]):=by
 unfold cZ at H
 refine bj Try.func81 Z 19 Z (nL Z) fun F w0=>?_
 show bW (St 19 w0 F [(0,(Value.func (.yield yl0) #[] #[])),(1,pt p0 0)] [(Y0 x0y),box p0 101 [L0]]) _
 refine ak (ae (vV (aQ (v:=L0) Z fe (aG (i:=1) Z Z)) Z (vV (kr Z bC) Z (vM Z Z (al (ba ?_))))))
 refine dp (fun k a w=>dt K k = some r ∧ St 19 w0 F [(0,(Value.func (.yield yl0) #[] #[])),(5,L0),(6,I 0),(7,I 0)] [(Y0 x0y),box p0 101 [L0]] a w) K ?_ ?_
 ·exact vF [0,1] Z Z (vS [0,5,6,7] Z) fun a w h=>⟨H,h⟩
 ·refine fun k=>cd fun H2=>?_
  cases k with
  | zero=>exact absurd H2 (by simp [dt])
  | succ k =>
   rw [dt] at H2
   refine ak (ae (vV (az Z Z (cR _ _ _)) Z (al (ak (ap Z Z (cn ?_))))))
   cases H2
   refine kF ?_
   refine vP [0,1] Z Z ?_
   exact ld Z ⟨rfl,rfl⟩
theorem cQ.spec (K p0:Nat) (r:List ah) (H:cQ K = some r):bk Try.prog 45 [pt p0 0] [box p0 103 [L0]] (fun v M=>∃ b15:Nat,∃ sv10:Value,v = (pt b15 0) ∧ M = [box p0 103 [L0],box b15 103 [sv10],own sv10 111 7 r.length (fl ab r)]):=by
 unfold cQ at H
 refine bj Try.func45 Z 26 Z (nL Z) fun F w0=>?_
 show bW (St 26 w0 F [(0,pt p0 0)] [box p0 103 [L0]]) _
 refine ak (ae (vX Z Z (al (ak (ak (ae (vM Z Z ?_)))))))
 refine vV (az Z Z (eB (fun w=>rfl) Z (iU Try.underlying73 _ _))) Z ?_
 refine al (ap Z Z (aN (ak (ae ?_))))
 obtain ⟨u4,h6,H⟩:=bq H
 refine aM (bO (Lr:=[box p0 103 [L0]]) (first:=[]) (cap:=[]) (xs:=[]) Z Z oi Z (cI.spec _ h6) Z) Z Z Z ?_
 rintro _ _ ⟨_,⟨b16,rfl,rfl⟩,rfl⟩
 refine aM (cC rT) Z Z Z ?_
 rintro _ _ ⟨b17,rfl,rfl⟩
 refine bD (bl (cs:=[P0]) (cs':=[pt b16 0]) (us:=[pt b16 0]) (L':=[box b17 73 [pt b16 0],box b16 103 [L0],box p0 103 [L0]]) 0 Z Z Z (bB Z) ie Z Z (by simp) Z) Z Z ?_
 rintro _ _ rfl
 refine al (ak (ak (ae (vM Z Z ?_))))
 obtain ⟨u6,h9,H⟩:=bq H
 refine vP [2,0,1] Z Z ?_
 refine aM (bO (Lr:=[box b17 73 [pt b16 0],box b16 103 [L0]]) (first:=[]) (cap:=[]) (xs:=[.tmp 9]) Z Z qY Z (cW.spec p0 _ h9) Z) Z Z Z ?_
 rintro _ _ ⟨_,⟨b24,rfl,rfl⟩,rfl⟩
 refine al (ba ?_)
 obtain ⟨x4,h10,H⟩:=oB H
 refine cF 111 7 ?_
 refine mz (γ:=List ah) (cap:=[pt b24 0]) (Lg:=[box b24 101 [L0]]) (M0:=[box p0 103 [L0],box b17 73 [pt b16 0],box b16 103 [L0],own L0 111 7 0 []]) (x0:=([]:List ah)) (x1:=([]:List ah)) (fun (z4:List ah) M=>∃ sv16:Value,M = [box p0 103 [L0],box b17 73 [pt b16 0],box b16 103 [sv16],own sv16 111 7 z4.length (fl ab z4)]) (fun vs z_ r_=>∃ t0_:Int,∃ t1_:aA,vs = [I t0_,agg #[I t1_.Part.Tier,I t1_.Part.Index,I t1_.Seg,I t1_.Mark,I t1_.Rows,bool t1_.Cold]] ∧ dj K t0_ t1_ z_ = some r_) [2,1,3,4,0] Z Z (by decide) Z (by decide) ⟨_,rfl⟩ ?_ ?_ ?_
 ·rintro l _ z4 r _ ⟨t0_,t1_,rfl,Hl⟩ ⟨sv16,rfl⟩
  let C3_:Value:=agg #[I t0_,I t1_.Part.Tier,I t1_.Part.Index,I t1_.Seg,I t1_.Mark,I t1_.Rows,bool t1_.Cold]
  let C2_:Value:=agg #[I t1_.Part.Tier,I t1_.Part.Index,I t1_.Seg,I t1_.Mark,I t1_.Rows,bool t1_.Cold]
  let C0_:List Value:=[I t1_.Part.Tier,I t1_.Part.Index,I t1_.Seg,I t1_.Mark,I t1_.Rows,bool t1_.Cold]
  unfold dj at Hl
  refine ⟨rfl,Nat,fun g_=>[(3,pt b17 0),(4,I t0_),(5,pt g_ 0),(11,I t0_),(12,C2_)],fun g_=>[box g_ 56 C0_,box p0 103 [L0],box b17 73 [pt b16 0],box b16 103 [sv16],own sv16 111 7 z4.length (fl ab z4)],fun F w0=>?_,?_⟩
  ·refine ak (ae (vX Z Z (al (ae ?_))))
   refine aM (cC eW) Z Z Z ?_
   rintro _ _ ⟨b29,rfl,rfl⟩
   refine bD (bl (cs:=[I 0,I 0,I 0,I 0,I 0,B0]) (cs':=C0_) (us:=C0_) (L':=[box b29 56 C0_,box p0 103 [L0],box b17 73 [pt b16 0],box b16 103 [sv16],own sv16 111 7 z4.length (fl ab z4)]) 0 Z Z Z (bB Z) bJ Z Z (by simp [C3_,C2_,C0_]) Z) Z Z ?_
   rintro _ _ rfl
   refine al ?_
   exact vF [0,1,2,3,4] Z Z (vS [3,4,5,11,12] Z) fun a w h=>⟨b29,h⟩
  ·rintro b29 F w0
   show bW (St 26 w0 F [(3,pt b17 0),(4,I t0_),(5,pt b29 0),(11,I t0_),(12,C2_)] [box b29 56 C0_,box p0 103 [L0],box b17 73 [pt b16 0],box b16 103 [sv16],own sv16 111 7 z4.length (fl ab z4)]) _
   refine ba ?_
   obtain ⟨c12,Hl⟩:=gC Hl
   refine cF 111 7 ?_
   let Z12_T:DT:=fun ga13=>[(0,13,pt b16 0),(1,14,pt b16 0),(2,15,pt b16 0),(3,16,pt b16 0),(4,17,sv16),(5,18,I t0_),(6,19,C2_),(7,20,C3_),(8,21,(ga13 8)),(9,22,(ga13 9)),(10,23,pt b16 0),(11,24,pt b16 0)]
   let Z12_L:DL:=fun ga13 D=>[cj (D 8) (own (ga13 8) 111 7 [(⟨t0_,(⟨(⟨t1_.Part.Tier,t1_.Part.Index⟩:aO),t1_.Seg,t1_.Mark,t1_.Rows,t1_.Cold⟩:aA)⟩:ah)].length (fl ab [(⟨t0_,(⟨(⟨t1_.Part.Tier,t1_.Part.Index⟩:aO),t1_.Seg,t1_.Mark,t1_.Rows,t1_.Cold⟩:aA)⟩:ah)])) emp,own L0 111 7 ([]:List ah).length (fl ab ([]:List ah)),box b29 56 C0_,box p0 103 [L0],box b17 73 [pt b16 0],cj (D 12) (box b16 103 [(ga13 9)]) (box b16 103 [sv16]),cj (D 9) (own (ga13 9) 111 7 (z4 ++ [(⟨t0_,(⟨(⟨t1_.Part.Tier,t1_.Part.Index⟩:aO),t1_.Seg,t1_.Mark,t1_.Rows,t1_.Cold⟩:aA)⟩:ah)]).length (fl ab (z4 ++ [(⟨t0_,(⟨(⟨t1_.Part.Tier,t1_.Part.Index⟩:aO),t1_.Seg,t1_.Mark,t1_.Rows,t1_.Cold⟩:aA)⟩:ah)]))) (own sv16 111 7 z4.length (fl ab z4))]
   let Z12_I:DI:=fun ga13 D a w=>gu 26 w0 F [(3,pt b17 0),(4,I t0_),(5,pt b29 0),(11,I t0_),(12,C2_)] (Z12_T ga13) D (Z12_L ga13 D) a w
   refine bz 13 Z (fun D a w=>∃ ga13:Nat → Value,Z12_I ga13 D a w) (by kernel_rfl) (by kernel_rfl) (dw (T:=Z12_T) (L':=fun ga13:Nat → Value=>[cj false (own (ga13 8) 111 7 [(⟨t0_,(⟨(⟨t1_.Part.Tier,t1_.Part.Index⟩:aO),t1_.Seg,t1_.Mark,t1_.Rows,t1_.Cold⟩:aA)⟩:ah)].length (fl ab [(⟨t0_,(⟨(⟨t1_.Part.Tier,t1_.Part.Index⟩:aO),t1_.Seg,t1_.Mark,t1_.Rows,t1_.Cold⟩:aA)⟩:ah)])) emp,own L0 111 7 ([]:List ah).length (fl ab ([]:List ah)),box b29 56 C0_,box p0 103 [L0],box b17 73 [pt b16 0],cj false (box b16 103 [(ga13 9)]) (box b16 103 [sv16]),cj false (own (ga13 9) 111 7 (z4 ++ [(⟨t0_,(⟨(⟨t1_.Part.Tier,t1_.Part.Index⟩:aO),t1_.Seg,t1_.Mark,t1_.Rows,t1_.Cold⟩:aA)⟩:ah)]).length (fl ab (z4 ++ [(⟨t0_,(⟨(⟨t1_.Part.Tier,t1_.Part.Index⟩:aO),t1_.Seg,t1_.Mark,t1_.Rows,t1_.Cold⟩:aA)⟩:ah)]))) (own sv16 111 7 z4.length (fl ab z4))]) 1 (vS [3,4,5,11,12] Z) (fun _=>rfl)) ?_ ?_
   ·refine ⟨?_,?_,?_,?_,?_,?_,?_,?_,?_,?_,?_,?_,?_,trivial⟩
    ·exact fun D hi hc U=>au (I:=Z12_I) fun ga13=>dV 0 Z Z Z Z (fun a=>ac) (aQ (v:=(pt b16 0)) Z fK (aG (i:=4) Z Z)) Z Z Z Z
    ·exact fun D hi hc U=>au (I:=Z12_I) fun ga13=>dV 1 Z Z Z Z (fun a=>ac) (aQ (v:=(pt b16 0)) Z fK (aG (i:=4) Z Z)) Z Z Z Z
    ·intro D hi hc U
     have n12:=nP 12 [] hc hi Z
     refine au (I:=Z12_I) fun ga13=>?_
     exact dV 2 Z Z Z Z (fun a=>(hD 1 U Z Z Z Z ac)) (jn (L2:=[cj (D 8) (own (ga13 8) 111 7 [(⟨t0_,(⟨(⟨t1_.Part.Tier,t1_.Part.Index⟩:aO),t1_.Seg,t1_.Mark,t1_.Rows,t1_.Cold⟩:aA)⟩:ah)].length (fl ab [(⟨t0_,(⟨(⟨t1_.Part.Tier,t1_.Part.Index⟩:aO),t1_.Seg,t1_.Mark,t1_.Rows,t1_.Cold⟩:aA)⟩:ah)])) emp,own L0 111 7 ([]:List ah).length (fl ab ([]:List ah)),box b29 56 C0_,box p0 103 [L0],box b17 73 [pt b16 0],box b16 103 [sv16],cj (D 9) (own (ga13 9) 111 7 (z4 ++ [(⟨t0_,(⟨(⟨t1_.Part.Tier,t1_.Part.Index⟩:aO),t1_.Seg,t1_.Mark,t1_.Rows,t1_.Cold⟩:aA)⟩:ah)]).length (fl ab (z4 ++ [(⟨t0_,(⟨(⟨t1_.Part.Tier,t1_.Part.Index⟩:aO),t1_.Seg,t1_.Mark,t1_.Rows,t1_.Cold⟩:aA)⟩:ah)]))) (own sv16 111 7 z4.length (fl ab z4))]) (by simp only [C3_,C2_,C0_,Z12_T,Z12_L,n12,cj]) (bp Z)) Z Z Z Z
    ·intro D hi hc U
     have n12:=nP 12 [] hc hi Z
     refine au (I:=Z12_I) fun ga13=>?_
     exact dV 3 Z Z Z Z (fun a=>(hD 2 U Z Z Z Z ac)) (jn (L2:=[cj (D 8) (own (ga13 8) 111 7 [(⟨t0_,(⟨(⟨t1_.Part.Tier,t1_.Part.Index⟩:aO),t1_.Seg,t1_.Mark,t1_.Rows,t1_.Cold⟩:aA)⟩:ah)].length (fl ab [(⟨t0_,(⟨(⟨t1_.Part.Tier,t1_.Part.Index⟩:aO),t1_.Seg,t1_.Mark,t1_.Rows,t1_.Cold⟩:aA)⟩:ah)])) emp,own L0 111 7 ([]:List ah).length (fl ab ([]:List ah)),box b29 56 C0_,box p0 103 [L0],box b17 73 [pt b16 0],box b16 103 [sv16],cj (D 9) (own (ga13 9) 111 7 (z4 ++ [(⟨t0_,(⟨(⟨t1_.Part.Tier,t1_.Part.Index⟩:aO),t1_.Seg,t1_.Mark,t1_.Rows,t1_.Cold⟩:aA)⟩:ah)]).length (fl ab (z4 ++ [(⟨t0_,(⟨(⟨t1_.Part.Tier,t1_.Part.Index⟩:aO),t1_.Seg,t1_.Mark,t1_.Rows,t1_.Cold⟩:aA)⟩:ah)]))) (own sv16 111 7 z4.length (fl ab z4))]) (by simp only [C3_,C2_,C0_,Z12_T,Z12_L,n12,cj]) (ar (sz:=0) (o:=0) Z dr ef)) Z Z Z Z
    ·intro D hi hc U
     have n12:=nP 12 [] hc hi Z
     refine au (I:=Z12_I) fun ga13=>?_
     exact dV 4 Z Z Z Z (fun a=>(hD 3 U Z Z Z Z ac)) (jn (L2:=[cj (D 8) (own (ga13 8) 111 7 [(⟨t0_,(⟨(⟨t1_.Part.Tier,t1_.Part.Index⟩:aO),t1_.Seg,t1_.Mark,t1_.Rows,t1_.Cold⟩:aA)⟩:ah)].length (fl ab [(⟨t0_,(⟨(⟨t1_.Part.Tier,t1_.Part.Index⟩:aO),t1_.Seg,t1_.Mark,t1_.Rows,t1_.Cold⟩:aA)⟩:ah)])) emp,own L0 111 7 ([]:List ah).length (fl ab ([]:List ah)),box b29 56 C0_,box p0 103 [L0],box b17 73 [pt b16 0],box b16 103 [sv16],cj (D 9) (own (ga13 9) 111 7 (z4 ++ [(⟨t0_,(⟨(⟨t1_.Part.Tier,t1_.Part.Index⟩:aO),t1_.Seg,t1_.Mark,t1_.Rows,t1_.Cold⟩:aA)⟩:ah)]).length (fl ab (z4 ++ [(⟨t0_,(⟨(⟨t1_.Part.Tier,t1_.Part.Index⟩:aO),t1_.Seg,t1_.Mark,t1_.Rows,t1_.Cold⟩:aA)⟩:ah)]))) (own sv16 111 7 z4.length (fl ab z4))]) (by simp only [C3_,C2_,C0_,Z12_T,Z12_L,n12,cj]) (aQ (v:=sv16) Z fe (aG (i:=5) Z Z))) Z Z Z Z
    ·exact fun D hi hc U=>au (I:=Z12_I) fun ga13=>dV 5 Z Z Z Z (fun a=>ac) (aE Z) Z Z Z Z
    ·exact fun D hi hc U=>au (I:=Z12_I) fun ga13=>dV 6 Z Z Z Z (fun a=>ac) (aL (vs:=C0_) Z eU bJ (bb (i:=2) Z)) Z Z Z Z
    ·exact fun D hi hc U=>au (I:=Z12_I) fun ga13=>dV 7 Z Z Z Z (fun a=>(hD 6 U Z Z Z Z (hD 5 U Z Z Z Z ac))) (ca (is:=[0,1]) (xs:=[.tmp 18,.tmp 19]) (vs:=[I t0_,C2_]) Z Z (bo (cs:=[I t0_,I t1_.Part.Tier,I t1_.Part.Index,I t1_.Seg,I t1_.Mark,I t1_.Rows,bool t1_.Cold]) gA lh (by simp [C3_,C2_,C0_,Z12_T,Z12_L,Instr.fill,iF,hZ,iB,ia,gB,iw,fP,iE,]))) Z Z Z Z
    ·refine fun D hi hc U=>aY (S:=fun ga13=>Z12_I ga13 D) fun ga13=>gJ (i:=8) (t:=21) (x:=ga13) (L:=Z12_L) (T:=Z12_T) (L2:=[emp,own L0 111 7 ([]:List ah).length (fl ab ([]:List ah)),box b29 56 C0_,box p0 103 [L0],box b17 73 [pt b16 0],cj (D 12) (box b16 103 [(ga13 9)]) (box b16 103 [sv16]),cj (D 9) (own (ga13 9) 111 7 (z4 ++ [(⟨t0_,(⟨(⟨t1_.Part.Tier,t1_.Part.Index⟩:aO),t1_.Seg,t1_.Mark,t1_.Rows,t1_.Cold⟩:aA)⟩:ah)]).length (fl ab (z4 ++ [(⟨t0_,(⟨(⟨t1_.Part.Tier,t1_.Part.Index⟩:aO),t1_.Seg,t1_.Mark,t1_.Rows,t1_.Cold⟩:aA)⟩:ah)]))) (own sv16 111 7 z4.length (fl ab z4))]) (B:=fun v_=>(own v_ 111 7 [(⟨t0_,(⟨(⟨t1_.Part.Tier,t1_.Part.Index⟩:aO),t1_.Seg,t1_.Mark,t1_.Rows,t1_.Cold⟩:aA)⟩:ah)].length (fl ab [(⟨t0_,(⟨(⟨t1_.Part.Tier,t1_.Part.Index⟩:aO),t1_.Seg,t1_.Mark,t1_.Rows,t1_.Cold⟩:aA)⟩:ah)]))) 0 Z Z (bi Z) (fun a=>(hD 7 U Z Z Z Z ac)) (by simp only [C3_,C2_,C0_,Z12_T,Z12_L,hi,cj]) (cA (sz:=6) (xs:=[.tmp 20]) (cs:=fl ab [(⟨t0_,(⟨(⟨t1_.Part.Tier,t1_.Part.Index⟩:aO),t1_.Seg,t1_.Mark,t1_.Rows,t1_.Cold⟩:aA)⟩:ah)]) Z Z bC bY gA Z Z (fi Z) Z (by decide)) ?_ Z (fun v_=>?_) Z Z ?_
     ·rintro _ _ rfl; rfl
     ·simp [C3_,C2_,C0_,Z12_T,Z12_L,up,jQ,cj,hi]
     ·rintro _ _ rfl
      exact (aw Z Z (aw Z Z (aw Z Z (aw Z Z (aw Z Z (aw Z Z (aw Z Z (aw Z Z (eY (aw Z Z (aw Z Z (aw Z Z fQ))))))))))))
    ·intro D hi hc U
     have n12:=nP 12 [] hc hi Z
     refine aY (S:=fun ga13=>Z12_I ga13 D) fun ga13=>?_
     have d8:=dO 8 U Z Z Z
     exact kH (i:=9) (t:=22) (x:=ga13) (L:=Z12_L) (T:=Z12_T) (L2:=[own (ga13 8) 111 7 [(⟨t0_,(⟨(⟨t1_.Part.Tier,t1_.Part.Index⟩:aO),t1_.Seg,t1_.Mark,t1_.Rows,t1_.Cold⟩:aA)⟩:ah)].length (fl ab [(⟨t0_,(⟨(⟨t1_.Part.Tier,t1_.Part.Index⟩:aO),t1_.Seg,t1_.Mark,t1_.Rows,t1_.Cold⟩:aA)⟩:ah)]),own L0 111 7 ([]:List ah).length (fl ab ([]:List ah)),box b29 56 C0_,box p0 103 [L0],box b17 73 [pt b16 0],box b16 103 [sv16],own sv16 111 7 z4.length (fl ab z4)]) Z Z (bi Z) (fun a=>(hC 8 Z d8 (hD 4 U Z Z Z Z ac))) (by simp only [C3_,C2_,C0_,Z12_T,Z12_L,d8,n12,hi,cj]) (dK (sz:=6) (xs:=z4) (ys:=[(⟨t0_,(⟨(⟨t1_.Part.Tier,t1_.Part.Index⟩:aO),t1_.Seg,t1_.Mark,t1_.Rows,t1_.Cold⟩:aA)⟩:ah)]) 6 0 Z Z bC bY gA Z jV Z Z Z (aW 111) Z cc c12) Z Z fun v_ M_ hM_=>⟨jQ ga13 9 v_,hM_.trans (show [own (ga13 8) 111 7 [(⟨t0_,(⟨(⟨t1_.Part.Tier,t1_.Part.Index⟩:aO),t1_.Seg,t1_.Mark,t1_.Rows,t1_.Cold⟩:aA)⟩:ah)].length (fl ab [(⟨t0_,(⟨(⟨t1_.Part.Tier,t1_.Part.Index⟩:aO),t1_.Seg,t1_.Mark,t1_.Rows,t1_.Cold⟩:aA)⟩:ah)]),own L0 111 7 ([]:List ah).length (fl ab ([]:List ah)),box b29 56 C0_,box p0 103 [L0],box b17 73 [pt b16 0],box b16 103 [sv16],own v_ 111 7 (z4 ++ [(⟨t0_,(⟨(⟨t1_.Part.Tier,t1_.Part.Index⟩:aO),t1_.Seg,t1_.Mark,t1_.Rows,t1_.Cold⟩:aA)⟩:ah)]).length (fl ab (z4 ++ [(⟨t0_,(⟨(⟨t1_.Part.Tier,t1_.Part.Index⟩:aO),t1_.Seg,t1_.Mark,t1_.Rows,t1_.Cold⟩:aA)⟩:ah)]))] = _ by simp [C3_,C2_,C0_,Z12_T,Z12_L,up,jQ,cj,d8,n12,n12,hi]),(aw Z Z (aw Z Z (aw Z Z (aw Z Z (aw Z Z (aw Z Z (aw Z Z (aw Z Z (aw Z Z (eY (aw Z Z (aw Z Z fQ))))))))))))⟩
    ·intro D hi hc U
     have n12:=nP 12 [11] hc hi Z
     refine au (I:=Z12_I) fun ga13=>?_
     exact dV 10 Z Z Z Z (fun a=>(hD 0 U Z Z Z Z ac)) (jn (L2:=[cj (D 8) (own (ga13 8) 111 7 [(⟨t0_,(⟨(⟨t1_.Part.Tier,t1_.Part.Index⟩:aO),t1_.Seg,t1_.Mark,t1_.Rows,t1_.Cold⟩:aA)⟩:ah)].length (fl ab [(⟨t0_,(⟨(⟨t1_.Part.Tier,t1_.Part.Index⟩:aO),t1_.Seg,t1_.Mark,t1_.Rows,t1_.Cold⟩:aA)⟩:ah)])) emp,own L0 111 7 ([]:List ah).length (fl ab ([]:List ah)),box b29 56 C0_,box p0 103 [L0],box b17 73 [pt b16 0],box b16 103 [sv16],cj (D 9) (own (ga13 9) 111 7 (z4 ++ [(⟨t0_,(⟨(⟨t1_.Part.Tier,t1_.Part.Index⟩:aO),t1_.Seg,t1_.Mark,t1_.Rows,t1_.Cold⟩:aA)⟩:ah)]).length (fl ab (z4 ++ [(⟨t0_,(⟨(⟨t1_.Part.Tier,t1_.Part.Index⟩:aO),t1_.Seg,t1_.Mark,t1_.Rows,t1_.Cold⟩:aA)⟩:ah)]))) (own sv16 111 7 z4.length (fl ab z4))]) (by simp only [C3_,C2_,C0_,Z12_T,Z12_L,n12,cj]) (bp Z)) Z Z Z Z
    ·intro D hi hc U
     have n12:=nP 12 [] hc hi Z
     refine au (I:=Z12_I) fun ga13=>?_
     exact dV 11 Z Z Z Z (fun a=>(hD 10 U Z Z Z Z ac)) (jn (L2:=[cj (D 8) (own (ga13 8) 111 7 [(⟨t0_,(⟨(⟨t1_.Part.Tier,t1_.Part.Index⟩:aO),t1_.Seg,t1_.Mark,t1_.Rows,t1_.Cold⟩:aA)⟩:ah)].length (fl ab [(⟨t0_,(⟨(⟨t1_.Part.Tier,t1_.Part.Index⟩:aO),t1_.Seg,t1_.Mark,t1_.Rows,t1_.Cold⟩:aA)⟩:ah)])) emp,own L0 111 7 ([]:List ah).length (fl ab ([]:List ah)),box b29 56 C0_,box p0 103 [L0],box b17 73 [pt b16 0],box b16 103 [sv16],cj (D 9) (own (ga13 9) 111 7 (z4 ++ [(⟨t0_,(⟨(⟨t1_.Part.Tier,t1_.Part.Index⟩:aO),t1_.Seg,t1_.Mark,t1_.Rows,t1_.Cold⟩:aA)⟩:ah)]).length (fl ab (z4 ++ [(⟨t0_,(⟨(⟨t1_.Part.Tier,t1_.Part.Index⟩:aO),t1_.Seg,t1_.Mark,t1_.Rows,t1_.Cold⟩:aA)⟩:ah)]))) (own sv16 111 7 z4.length (fl ab z4))]) (by simp only [C3_,C2_,C0_,Z12_T,Z12_L,n12,cj]) (ar (sz:=0) (o:=0) Z dr ef)) Z Z Z Z
    ·intro D hi hc U
     refine au (I:=Z12_I) fun ga13=>?_
     let C1_:List HP:=[cj (D 8) (own (ga13 8) 111 7 [(⟨t0_,(⟨(⟨t1_.Part.Tier,t1_.Part.Index⟩:aO),t1_.Seg,t1_.Mark,t1_.Rows,t1_.Cold⟩:aA)⟩:ah)].length (fl ab [(⟨t0_,(⟨(⟨t1_.Part.Tier,t1_.Part.Index⟩:aO),t1_.Seg,t1_.Mark,t1_.Rows,t1_.Cold⟩:aA)⟩:ah)])) emp,own L0 111 7 ([]:List ah).length (fl ab ([]:List ah)),box b29 56 C0_,box p0 103 [L0],box b17 73 [pt b16 0],box b16 103 [(ga13 9)],own (ga13 9) 111 7 (z4 ++ [(⟨t0_,(⟨(⟨t1_.Part.Tier,t1_.Part.Index⟩:aO),t1_.Seg,t1_.Mark,t1_.Rows,t1_.Cold⟩:aA)⟩:ah)]).length (fl ab (z4 ++ [(⟨t0_,(⟨(⟨t1_.Part.Tier,t1_.Part.Index⟩:aO),t1_.Seg,t1_.Mark,t1_.Rows,t1_.Cold⟩:aA)⟩:ah)]))]
     have d9:=dO 9 U Z Z Z
     exact fA (i:=12) (L2:=[cj (D 8) (own (ga13 8) 111 7 [(⟨t0_,(⟨(⟨t1_.Part.Tier,t1_.Part.Index⟩:aO),t1_.Seg,t1_.Mark,t1_.Rows,t1_.Cold⟩:aA)⟩:ah)].length (fl ab [(⟨t0_,(⟨(⟨t1_.Part.Tier,t1_.Part.Index⟩:aO),t1_.Seg,t1_.Mark,t1_.Rows,t1_.Cold⟩:aA)⟩:ah)])) emp,own L0 111 7 ([]:List ah).length (fl ab ([]:List ah)),box b29 56 C0_,box p0 103 [L0],box b17 73 [pt b16 0],box b16 103 [sv16],own (ga13 9) 111 7 (z4 ++ [(⟨t0_,(⟨(⟨t1_.Part.Tier,t1_.Part.Index⟩:aO),t1_.Seg,t1_.Mark,t1_.Rows,t1_.Cold⟩:aA)⟩:ah)]).length (fl ab (z4 ++ [(⟨t0_,(⟨(⟨t1_.Part.Tier,t1_.Part.Index⟩:aO),t1_.Seg,t1_.Mark,t1_.Rows,t1_.Cold⟩:aA)⟩:ah)]))]) (L3:=C1_) Z Z (bi Z) (fun a=>(hC 9 Z d9 (hD 11 U Z Z Z Z ac))) (by simp only [C3_,C2_,C0_,Z12_T,Z12_L,C1_,d9,hi,cj]) (by simp [C3_,C2_,C0_,Z12_T,Z12_L,C1_,up,d9,cj]) (fu (cs:=[sv16]) (cs':=[(ga13 9)]) (sv:=(ga13 9)) (L':=C1_) 5 6 Z Z ef Z Z (aW 111) Z (by simp [C3_,C2_,C0_,Z12_T,Z12_L,C1_]) Z) (fX Z)
   ·intro D hall
    refine aY (S:=fun ga13=>Z12_I ga13 D) fun ga13=>?_
    refine bx [own (ga13 8) 111 7 [(⟨t0_,(⟨(⟨t1_.Part.Tier,t1_.Part.Index⟩:aO),t1_.Seg,t1_.Mark,t1_.Rows,t1_.Cold⟩:aA)⟩:ah)].length (fl ab [(⟨t0_,(⟨(⟨t1_.Part.Tier,t1_.Part.Index⟩:aO),t1_.Seg,t1_.Mark,t1_.Rows,t1_.Cold⟩:aA)⟩:ah)]),own L0 111 7 ([]:List ah).length (fl ab ([]:List ah)),box b29 56 C0_,box p0 103 [L0],box b17 73 [pt b16 0],box b16 103 [(ga13 9)],own (ga13 9) 111 7 (z4 ++ [(⟨t0_,(⟨(⟨t1_.Part.Tier,t1_.Part.Index⟩:aO),t1_.Seg,t1_.Mark,t1_.Rows,t1_.Cold⟩:aA)⟩:ah)]).length (fl ab (z4 ++ [(⟨t0_,(⟨(⟨t1_.Part.Tier,t1_.Part.Index⟩:aO),t1_.Seg,t1_.Mark,t1_.Rows,t1_.Cold⟩:aA)⟩:ah)]))] (by simp only [C3_,C2_,C0_,Z12_T,Z12_L,hall 8 (by decide),hall 9 (by decide),hall 12 (by decide),cj]) (hL hall Z) ?_
    cases Hl
    refine vP [3,4,5,6] Z Z ?_
    first|refine iG ?_|refine vl ?_|refine vj ?_
    exact ⟨rfl,rfl,_,rfl⟩
 ·intro Y l hY
  exact (cZ.spec K l b24 (List ah) (dj K) ([]:List ah) Y (fun t0_ t1_ z_ r_ h_=>hY _ z_ r_ ⟨t0_,t1_,rfl,h_⟩) _ h10).mono fun _ _ h_=>h_.2
 ·rintro _ ⟨sv16,rfl⟩
  refine mc [(3,pt b17 0)] (vS [3] Z) ?_
  refine ak (ae (vV (aQ (v:=(pt b16 0)) Z fK (aG (i:=2) Z Z)) Z (vX Z Z (al (ay ?_)))))
  cases H
  refine vP [1,3,4] Z Z ?_
  exact aZ Z Z ⟨_,_,rfl,rfl⟩
theorem eH.spec (K p0 p1:Nat) (r:List ah) (H:eH K = some r):bk Try.prog 28 [pt p0 0] [box p0 76 [pt p1 0],box p1 103 [L0]] (fun v M=>∃ b3:Nat,∃ b4:Nat,∃ sv2:Value,v = (pt b3 0) ∧ M = [box p0 76 [pt p1 0],box p1 103 [L0],box b3 76 [pt b4 0],box b4 103 [sv2],own sv2 111 7 r.length (fl ab r)]):=by
 unfold eH at H
 refine bj Try.func28 Z 12 Z (nL Z) fun F w0=>?_
 show bW (St 12 w0 F [(0,pt p0 0)] [box p0 76 [pt p1 0],box p1 103 [L0]]) _
 refine ak (ae (vX Z Z (al (ak (ak (ae (vM Z Z ?_)))))))
 refine vV (az Z Z (eB (fun w=>rfl) Z (iU Try.underlying50 _ _))) Z ?_
 refine al (ap Z Z (aN (ak (ae (vM Z Z (vV (bp Z) Z (vV (ar (sz:=0) (o:=0) Z gF ie) Z (vV (aQ (v:=(pt p1 0)) Z fK (aG (i:=0) Z Z)) Z ?_))))))))
 obtain ⟨x2,h2,H⟩:=oB H
 refine vP [1,0] Z Z ?_
 refine aM (bO (Lr:=[box p0 76 [pt p1 0]]) (first:=[]) (cap:=[]) (xs:=[.tmp 8]) Z Z rj Z (cQ.spec K p1 _ h2) Z) Z Z Z ?_
 rintro _ _ ⟨_,⟨b5,sv3,rfl,rfl⟩,rfl⟩
 refine vV (ca (is:=[0]) (xs:=[.tmp 9]) (vs:=[pt b5 0]) Z Z (bo (cs:=[pt b5 0]) nE lR Z)) Z ?_
 refine aM (dZ (cs:=[pt b5 0]) Z Z) Z Z Z ?_
 rintro _ _ ⟨b6,rfl,rfl⟩
 refine vX Z Z (al (ay ?_))
 cases H
 refine vP [4,1,0,2,3] Z Z ?_
 exact aZ Z Z ⟨_,_,_,rfl,rfl⟩
theorem gD.spec (a0 r:Int) (H:gD a0 = r):bk Try.prog 77 [I a0] [] (fun v M=>v = (I r) ∧ M = []):=by
 unfold gD at H
 refine bj Try.func77 Z 5 Z (nL Z) fun F w0=>?_
 show bW (St 5 w0 F [(0,I a0)] []) _
 refine ak (ae (vX Z Z (al (ak (ae (vM Z Z ?_))))))
 refine vV (az Z Z fun w=>jg _ _ _ w (by decide)) Z ?_
 refine vX Z Z (al (ay ?_))
 cases H
 refine vP [] Z Z ?_
 exact aZ Z Z ⟨rfl,rfl⟩
theorem jl.spec (a0:Int) (r:(Int × Int × Int)) (H:jl a0 = r):bk Try.prog 92 [I a0] [] (fun v M=>v = (tU #[I r.1,I r.2.1,I r.2.2]) ∧ M = []):=by
 unfold jl at H
 refine bj Try.func92 Z 62 Z (nL Z) fun F w0=>?_
 show bW (St 62 w0 F [(0,I a0)] []) _
 refine ak (ae (vX Z Z (vX Z Z (vX Z Z (al (ak (ae (vM Z Z (vV (az Z Z (cK _ _ _) ) Z (vX Z Z (al ?_)))))))))))
 refine ak (ae (vM Z Z ?_))
 refine vV (az Z Z fun w=>sL _ _ _ w (by decide)) Z ?_
 refine vX Z Z (al (ak (ae (vM Z Z (vM Z Z ?_)))))
 refine vV (az Z Z fun w=>jg _ _ _ w (by decide)) Z ?_
 refine vV (az Z Z (gt _ _ _) ) Z (vM Z Z ?_)
 refine vV (az Z Z fun w=>jg _ _ _ w (by decide)) Z ?_
 refine vV (az Z Z (cK _ _ _) ) Z (vM Z Z ?_)
 refine vV (az Z Z fun w=>jg _ _ _ w (by decide)) Z ?_
 refine vV (az Z Z (gt _ _ _) ) Z ?_
 refine vV (az Z Z fun w=>jg _ _ _ w (by decide)) Z ?_
 refine vX Z Z (al (ak (ae (vM Z Z (vM Z Z (vV (az Z Z (kC _ _ _) ) Z (vM Z Z ?_)))))))
 refine vV (az Z Z fun w=>jg _ _ _ w (by decide)) Z ?_
 refine vV (az Z Z (cK _ _ _) ) Z (vM Z Z ?_)
 refine vV (az Z Z fun w=>jg _ _ _ w (by decide)) Z ?_
 refine vV (az Z Z (gt _ _ _) ) Z (vV (az Z Z (gt _ _ _) ) Z (vX Z Z (al (ak (ae (vM Z Z (vV (az Z Z (kC _ _ _) ) Z (vV (az Z Z (cK _ _ _) ) Z ?_))))))))
 refine vV (az Z Z fun w=>jg _ _ _ w (by decide)) Z ?_
 refine vX Z Z (al (ak (ae (vM Z Z (vM Z Z (vV (az Z Z (kC _ _ _) ) Z (vV (az Z Z (cK _ _ _) ) Z ?_)))))))
 refine vV (az Z Z fun w=>jg _ _ _ w (by decide)) Z ?_
 refine vV (az Z Z (gt _ _ _) ) Z (vV (az Z Z (cK _ _ _) ) Z (vX Z Z (al (ak (ae (vM Z Z ?_))))))
 refine vV (az Z Z fun w=>jg _ _ _ w (by decide)) Z ?_
 refine vV (az Z Z (kC _ _ _) ) Z (vM Z Z (vV (az Z Z (cK _ _ _) ) Z (vX Z Z (al (ak (ak (ae (vM Z Z (vV (az Z Z (cR _ _ _)) Z (al ?_))))))))))
 refine fM H (fun c4 H=>?_) fun c4 H=>?_
 ·refine aq Z (dT c4) (ak (ae (vM Z Z (vM Z Z (vV (az Z Z (cK _ _ _) ) Z (vM Z Z (vX Z Z (vX Z Z (vX Z Z (al (ay ?_)))))))))))
  cases H
  refine vP [] Z Z ?_
  exact cE (vs:=[I (aJ ((aJ ((aJ (Int.tdiv (aJ (a0 + 719468)) 146097)) * 400)) + (aJ (Int.tdiv (aJ ((aJ ((aJ ((Int.tmod (aJ (a0 + 719468)) 146097) - (aJ (Int.tdiv (Int.tmod (aJ (a0 + 719468)) 146097) 1460)))) + (aJ (Int.tdiv (Int.tmod (aJ (a0 + 719468)) 146097) 36524)))) - (aJ (Int.tdiv (Int.tmod (aJ (a0 + 719468)) 146097) 146096)))) 365)))),I (aJ ((aJ (Int.tdiv (aJ ((aJ (5 * (aJ ((Int.tmod (aJ (a0 + 719468)) 146097) - (aJ ((aJ ((aJ (365 * (aJ (Int.tdiv (aJ ((aJ ((aJ ((Int.tmod (aJ (a0 + 719468)) 146097) - (aJ (Int.tdiv (Int.tmod (aJ (a0 + 719468)) 146097) 1460)))) + (aJ (Int.tdiv (Int.tmod (aJ (a0 + 719468)) 146097) 36524)))) - (aJ (Int.tdiv (Int.tmod (aJ (a0 + 719468)) 146097) 146096)))) 365)))) + (aJ (Int.tdiv (aJ (Int.tdiv (aJ ((aJ ((aJ ((Int.tmod (aJ (a0 + 719468)) 146097) - (aJ (Int.tdiv (Int.tmod (aJ (a0 + 719468)) 146097) 1460)))) + (aJ (Int.tdiv (Int.tmod (aJ (a0 + 719468)) 146097) 36524)))) - (aJ (Int.tdiv (Int.tmod (aJ (a0 + 719468)) 146097) 146096)))) 365)) 4)))) - (aJ (Int.tdiv (aJ (Int.tdiv (aJ ((aJ ((aJ ((Int.tmod (aJ (a0 + 719468)) 146097) - (aJ (Int.tdiv (Int.tmod (aJ (a0 + 719468)) 146097) 1460)))) + (aJ (Int.tdiv (Int.tmod (aJ (a0 + 719468)) 146097) 36524)))) - (aJ (Int.tdiv (Int.tmod (aJ (a0 + 719468)) 146097) 146096)))) 365)) 100)))))))) + 2)) 153)) + 3)),I (aJ ((aJ ((aJ ((Int.tmod (aJ (a0 + 719468)) 146097) - (aJ ((aJ ((aJ (365 * (aJ (Int.tdiv (aJ ((aJ ((aJ ((Int.tmod (aJ (a0 + 719468)) 146097) - (aJ (Int.tdiv (Int.tmod (aJ (a0 + 719468)) 146097) 1460)))) + (aJ (Int.tdiv (Int.tmod (aJ (a0 + 719468)) 146097) 36524)))) - (aJ (Int.tdiv (Int.tmod (aJ (a0 + 719468)) 146097) 146096)))) 365)))) + (aJ (Int.tdiv (aJ (Int.tdiv (aJ ((aJ ((aJ ((Int.tmod (aJ (a0 + 719468)) 146097) - (aJ (Int.tdiv (Int.tmod (aJ (a0 + 719468)) 146097) 1460)))) + (aJ (Int.tdiv (Int.tmod (aJ (a0 + 719468)) 146097) 36524)))) - (aJ (Int.tdiv (Int.tmod (aJ (a0 + 719468)) 146097) 146096)))) 365)) 4)))) - (aJ (Int.tdiv (aJ (Int.tdiv (aJ ((aJ ((aJ ((Int.tmod (aJ (a0 + 719468)) 146097) - (aJ (Int.tdiv (Int.tmod (aJ (a0 + 719468)) 146097) 1460)))) + (aJ (Int.tdiv (Int.tmod (aJ (a0 + 719468)) 146097) 36524)))) - (aJ (Int.tdiv (Int.tmod (aJ (a0 + 719468)) 146097) 146096)))) 365)) 100)))))) - (aJ (Int.tdiv (aJ ((aJ (153 * (aJ (Int.tdiv (aJ ((aJ (5 * (aJ ((Int.tmod (aJ (a0 + 719468)) 146097) - (aJ ((aJ ((aJ (365 * (aJ (Int.tdiv (aJ ((aJ ((aJ ((Int.tmod (aJ (a0 + 719468)) 146097) - (aJ (Int.tdiv (Int.tmod (aJ (a0 + 719468)) 146097) 1460)))) + (aJ (Int.tdiv (Int.tmod (aJ (a0 + 719468)) 146097) 36524)))) - (aJ (Int.tdiv (Int.tmod (aJ (a0 + 719468)) 146097) 146096)))) 365)))) + (aJ (Int.tdiv (aJ (Int.tdiv (aJ ((aJ ((aJ ((Int.tmod (aJ (a0 + 719468)) 146097) - (aJ (Int.tdiv (Int.tmod (aJ (a0 + 719468)) 146097) 1460)))) + (aJ (Int.tdiv (Int.tmod (aJ (a0 + 719468)) 146097) 36524)))) - (aJ (Int.tdiv (Int.tmod (aJ (a0 + 719468)) 146097) 146096)))) 365)) 4)))) - (aJ (Int.tdiv (aJ (Int.tdiv (aJ ((aJ ((aJ ((Int.tmod (aJ (a0 + 719468)) 146097) - (aJ (Int.tdiv (Int.tmod (aJ (a0 + 719468)) 146097) 1460)))) + (aJ (Int.tdiv (Int.tmod (aJ (a0 + 719468)) 146097) 36524)))) - (aJ (Int.tdiv (Int.tmod (aJ (a0 + 719468)) 146097) 146096)))) 365)) 100)))))))) + 2)) 153)))) + 2)) 5)))) + 1))]) Z ⟨rfl,⟨rfl,⟨rfl,trivial⟩⟩⟩ _ Z ⟨rfl,rfl⟩
 refine ap Z (dF c4) (aN (ak (ae (vM Z Z (vV (az Z Z (cK _ _ _) ) Z (vM Z Z (vV (az Z Z (gt _ _ _) ) Z (vM Z Z (vX Z Z (vX Z Z (vX Z Z ?_)))))))))))
 refine al (ay ?_)
 cases H
 refine vP [] Z Z ?_
 exact cE (vs:=[I (aJ ((aJ ((aJ ((aJ (Int.tdiv (aJ (a0 + 719468)) 146097)) * 400)) + (aJ (Int.tdiv (aJ ((aJ ((aJ ((Int.tmod (aJ (a0 + 719468)) 146097) - (aJ (Int.tdiv (Int.tmod (aJ (a0 + 719468)) 146097) 1460)))) + (aJ (Int.tdiv (Int.tmod (aJ (a0 + 719468)) 146097) 36524)))) - (aJ (Int.tdiv (Int.tmod (aJ (a0 + 719468)) 146097) 146096)))) 365)))) + 1)),I (aJ ((aJ (Int.tdiv (aJ ((aJ (5 * (aJ ((Int.tmod (aJ (a0 + 719468)) 146097) - (aJ ((aJ ((aJ (365 * (aJ (Int.tdiv (aJ ((aJ ((aJ ((Int.tmod (aJ (a0 + 719468)) 146097) - (aJ (Int.tdiv (Int.tmod (aJ (a0 + 719468)) 146097) 1460)))) + (aJ (Int.tdiv (Int.tmod (aJ (a0 + 719468)) 146097) 36524)))) - (aJ (Int.tdiv (Int.tmod (aJ (a0 + 719468)) 146097) 146096)))) 365)))) + (aJ (Int.tdiv (aJ (Int.tdiv (aJ ((aJ ((aJ ((Int.tmod (aJ (a0 + 719468)) 146097) - (aJ (Int.tdiv (Int.tmod (aJ (a0 + 719468)) 146097) 1460)))) + (aJ (Int.tdiv (Int.tmod (aJ (a0 + 719468)) 146097) 36524)))) - (aJ (Int.tdiv (Int.tmod (aJ (a0 + 719468)) 146097) 146096)))) 365)) 4)))) - (aJ (Int.tdiv (aJ (Int.tdiv (aJ ((aJ ((aJ ((Int.tmod (aJ (a0 + 719468)) 146097) - (aJ (Int.tdiv (Int.tmod (aJ (a0 + 719468)) 146097) 1460)))) + (aJ (Int.tdiv (Int.tmod (aJ (a0 + 719468)) 146097) 36524)))) - (aJ (Int.tdiv (Int.tmod (aJ (a0 + 719468)) 146097) 146096)))) 365)) 100)))))))) + 2)) 153)) - 9)),I (aJ ((aJ ((aJ ((Int.tmod (aJ (a0 + 719468)) 146097) - (aJ ((aJ ((aJ (365 * (aJ (Int.tdiv (aJ ((aJ ((aJ ((Int.tmod (aJ (a0 + 719468)) 146097) - (aJ (Int.tdiv (Int.tmod (aJ (a0 + 719468)) 146097) 1460)))) + (aJ (Int.tdiv (Int.tmod (aJ (a0 + 719468)) 146097) 36524)))) - (aJ (Int.tdiv (Int.tmod (aJ (a0 + 719468)) 146097) 146096)))) 365)))) + (aJ (Int.tdiv (aJ (Int.tdiv (aJ ((aJ ((aJ ((Int.tmod (aJ (a0 + 719468)) 146097) - (aJ (Int.tdiv (Int.tmod (aJ (a0 + 719468)) 146097) 1460)))) + (aJ (Int.tdiv (Int.tmod (aJ (a0 + 719468)) 146097) 36524)))) - (aJ (Int.tdiv (Int.tmod (aJ (a0 + 719468)) 146097) 146096)))) 365)) 4)))) - (aJ (Int.tdiv (aJ (Int.tdiv (aJ ((aJ ((aJ ((Int.tmod (aJ (a0 + 719468)) 146097) - (aJ (Int.tdiv (Int.tmod (aJ (a0 + 719468)) 146097) 1460)))) + (aJ (Int.tdiv (Int.tmod (aJ (a0 + 719468)) 146097) 36524)))) - (aJ (Int.tdiv (Int.tmod (aJ (a0 + 719468)) 146097) 146096)))) 365)) 100)))))) - (aJ (Int.tdiv (aJ ((aJ (153 * (aJ (Int.tdiv (aJ ((aJ (5 * (aJ ((Int.tmod (aJ (a0 + 719468)) 146097) - (aJ ((aJ ((aJ (365 * (aJ (Int.tdiv (aJ ((aJ ((aJ ((Int.tmod (aJ (a0 + 719468)) 146097) - (aJ (Int.tdiv (Int.tmod (aJ (a0 + 719468)) 146097) 1460)))) + (aJ (Int.tdiv (Int.tmod (aJ (a0 + 719468)) 146097) 36524)))) - (aJ (Int.tdiv (Int.tmod (aJ (a0 + 719468)) 146097) 146096)))) 365)))) + (aJ (Int.tdiv (aJ (Int.tdiv (aJ ((aJ ((aJ ((Int.tmod (aJ (a0 + 719468)) 146097) - (aJ (Int.tdiv (Int.tmod (aJ (a0 + 719468)) 146097) 1460)))) + (aJ (Int.tdiv (Int.tmod (aJ (a0 + 719468)) 146097) 36524)))) - (aJ (Int.tdiv (Int.tmod (aJ (a0 + 719468)) 146097) 146096)))) 365)) 4)))) - (aJ (Int.tdiv (aJ (Int.tdiv (aJ ((aJ ((aJ ((Int.tmod (aJ (a0 + 719468)) 146097) - (aJ (Int.tdiv (Int.tmod (aJ (a0 + 719468)) 146097) 1460)))) + (aJ (Int.tdiv (Int.tmod (aJ (a0 + 719468)) 146097) 36524)))) - (aJ (Int.tdiv (Int.tmod (aJ (a0 + 719468)) 146097) 146096)))) 365)) 100)))))))) + 2)) 153)))) + 2)) 5)))) + 1))]) Z ⟨rfl,⟨rfl,⟨rfl,trivial⟩⟩⟩ _ Z ⟨rfl,rfl⟩
theorem gV.spec (a0 r:Int) (H:gV a0 = r):bk Try.prog 78 [I a0] [] (fun v M=>v = (I r) ∧ M = []):=by
 unfold gV at H
 refine bj Try.func78 Z 18 Z (nL Z) fun F w0=>?_
 show bW (St 18 w0 F [(0,I a0)] []) _
 refine ak (ae (vX Z Z (al (ak (ae (vM Z Z ?_))))))
 obtain ⟨x2,h2,H⟩:=bq H
 refine aM (bs (first:=[]) (cap:=[]) (xs:=[.tmp 7]) Z Z qX Z (jl.spec a0 _ h2)) Z Z Z ?_
 rintro _ _ ⟨rfl,rfl⟩
 refine vM Z Z (vV (aK Z Z) Z (vV (aK Z Z) Z (vV (aK Z Z) Z (vX Z Z (vX Z Z (vX Z Z (al (ak (ae (vM Z Z (vV (az Z Z (gt _ _ _) ) Z ?_)))))))))))
 refine vV (az Z Z (kC _ _ _) ) Z (vM Z Z (vV (az Z Z (gt _ _ _) ) Z (vV (az Z Z (cK _ _ _) ) Z (vX Z Z (al (ay ?_))))))
 cases H
 refine vP [] Z Z ?_
 exact aZ Z Z ⟨rfl,rfl⟩
theorem jJ.spec (a0 a1:Int) (r:(Int × Int × Bool)) (H:jJ a0 a1 = r):bk Try.prog 64 [I a0,I a1] [] (fun v M=>v = (tU #[agg #[I r.1,I r.2.1],bool r.2.2]) ∧ M = []):=by
 unfold jJ at H
 refine bj Try.func64 Z 33 Z (nL Z) fun F w0=>?_
 show bW (St 33 w0 F [(0,I a0),(1,I a1)] []) _
 refine ak (ae ?_)
 refine aM (cC gE) Z Z Z ?_
 rintro _ _ ⟨b2,rfl,rfl⟩
 refine vX Z Z (al (ak (ak (ae (vM Z Z (vV (az Z Z (cR _ _ _)) Z (vM Z Z ?_)))))))
 refine fM H (fun c13 H=>?_) fun c13 H=>?_
 ·refine aI Z Z Z (dT c13) Z Z ?_
  refine aI Z Z Z (dT c13) Z Z ?_
  refine vV (aU Z Z Z (cq (dT c13))) Z (al (aq Z Z (ak (ae (vV (aL (vs:=[I 0,I 0]) Z fc cp (bb (i:=0) Z)) Z ?_)))))
  refine bD (bl (cs:=[I 0,I 0]) (cs':=[I 0,I 0]) (us:=[I 0,I 0]) (L':=[box b2 54 [I 0,I 0]]) 0 Z Z Z (bB Z) cp Z Z (by simp) Z) Z Z ?_
  rintro _ _ rfl
  refine vX Z Z (al (ay ?_))
  subst H
  exact cO [] (by decide) Z (vs:=[agg #[I 0,I 0],B0]) Z ⟨⟨_,[I 0,I 0],rfl,bb (i:=0) Z,.inl ⟨fc,cp,rfl⟩⟩,⟨rfl,trivial⟩⟩ _ Z ⟨rfl,rfl⟩
 refine av (aE Z) Z Z Z (dF c13) Z Z ?_
 refine av (az Z Z (gn _ _ _)) Z Z Z (dF c13) Z Z ?_
 refine vV (aU Z Z Z (cw (dF c13))) Z (al ?_)
 refine fM H (fun c14 H=>?_) fun c14 H=>?_
 ·refine aq Z (dT c14) (ak (ae (vV (aL (vs:=[I 0,I 0]) Z fc cp (bb (i:=0) Z)) Z ?_)))
  refine bD (bl (cs:=[I 0,I 0]) (cs':=[I 0,I 0]) (us:=[I 0,I 0]) (L':=[box b2 54 [I 0,I 0]]) 0 Z Z Z (bB Z) cp Z Z (by simp) Z) Z Z ?_
  rintro _ _ rfl
  refine vX Z Z (al (ay ?_))
  subst H
  exact cO [] (by decide) Z (vs:=[agg #[I 0,I 0],B0]) Z ⟨⟨_,[I 0,I 0],rfl,bb (i:=0) Z,.inl ⟨fc,cp,rfl⟩⟩,⟨rfl,trivial⟩⟩ _ Z ⟨rfl,rfl⟩
 refine ap Z (dF c14) (aN (ak (ak (ae (vM Z Z (al (ba (ak (ae (vV (az Z Z (fS _ _ _)) Z (vX Z Z ?_)))))))))))
 refine al ?_
 refine fM H (fun c18 H=>?_) fun c18 H=>?_
 ·refine aq Z (fJ c18) (ak (ae (vM Z Z (vM Z Z (vV (ca (is:=[0,1]) (xs:=[.tmp 16,.tmp 17]) (vs:=[I a0,I a1]) Z Z (bo (cs:=[I a0,I a1]) gE ii Z)) Z ?_)))))
  refine bD (bl (cs:=[I 0,I 0]) (cs':=[I a0,I a1]) (us:=[I a0,I a1]) (L':=[box b2 54 [I a0,I a1]]) 0 Z Z Z (bB Z) cp Z Z (by simp) Z) Z Z ?_
  rintro _ _ rfl
  refine vX Z Z (al (ay ?_))
  subst H
  exact cO [] (by decide) Z (vs:=[agg #[I a0,I a1],bool true]) Z ⟨⟨_,[I a0,I a1],rfl,bb (i:=0) Z,.inl ⟨fc,cp,rfl⟩⟩,⟨rfl,trivial⟩⟩ _ Z ⟨rfl,rfl⟩
 refine ap Z (fH c18) (ak (ae (vV (az Z Z (fS _ _ _)) Z (vX Z Z (al ?_)))))
 refine fM H (fun c19 H=>?_) fun c19 H=>?_
 ·refine aq Z (fJ c19) (ak (ae (vM Z Z (vM Z Z ?_))))
  obtain ⟨x10,h10,H⟩:=bq H
  refine aM (bs (first:=[]) (cap:=[]) (xs:=[.tmp 22]) Z Z nA Z (gD.spec a1 _ h10)) Z Z Z ?_
  rintro _ _ ⟨rfl,rfl⟩
  refine vV (ca (is:=[0,1]) (xs:=[.tmp 21,.tmp 23]) (vs:=[I a0,I x10]) Z Z (bo (cs:=[I a0,I x10]) gE ii Z)) Z ?_
  refine bD (bl (cs:=[I 0,I 0]) (cs':=[I a0,I x10]) (us:=[I a0,I x10]) (L':=[box b2 54 [I a0,I x10]]) 0 Z Z Z (bB Z) cp Z Z (by simp) Z) Z Z ?_
  rintro _ _ rfl
  refine vX Z Z (al (ay ?_))
  subst H
  exact cO [] (by decide) Z (vs:=[agg #[I a0,I x10],bool true]) Z ⟨⟨_,[I a0,I x10],rfl,bb (i:=0) Z,.inl ⟨fc,cp,rfl⟩⟩,⟨rfl,trivial⟩⟩ _ Z ⟨rfl,rfl⟩
 refine ap Z (fH c19) (ak (ae (vV (az Z Z (fS _ _ _)) Z (vX Z Z (al ?_)))))
 refine ir H (fun c20 H=>?_) fun c20 H=>?_
 ·refine ap Z (fH c20) (aN (ak (ae (vV (aL (vs:=[I 0,I 0]) Z fc cp (bb (i:=0) Z)) Z ?_))))
  refine bD (bl (cs:=[I 0,I 0]) (cs':=[I 0,I 0]) (us:=[I 0,I 0]) (L':=[box b2 54 [I 0,I 0]]) 0 Z Z Z (bB Z) cp Z Z (by simp) Z) Z Z ?_
  rintro _ _ rfl
  refine vX Z Z (al (ay ?_))
  subst H
  exact cO [] (by decide) Z (vs:=[agg #[I 0,I 0],B0]) Z ⟨⟨_,[I 0,I 0],rfl,bb (i:=0) Z,.inl ⟨fc,cp,rfl⟩⟩,⟨rfl,trivial⟩⟩ _ Z ⟨rfl,rfl⟩
 refine aq Z (fJ c20) (ak (ae (vM Z Z (vM Z Z ?_))))
 obtain ⟨x11,h11,H⟩:=bq H
 refine aM (bs (first:=[]) (cap:=[]) (xs:=[.tmp 28]) Z Z nA Z (gD.spec a1 _ h11)) Z Z Z ?_
 rintro _ _ ⟨rfl,rfl⟩
 obtain ⟨x12,h12,H⟩:=bq H
 refine aM (bs (first:=[]) (cap:=[]) (xs:=[.tmp 29]) Z Z qV Z (gV.spec x11 _ h12)) Z Z Z ?_
 rintro _ _ ⟨rfl,rfl⟩
 refine vV (ca (is:=[0,1]) (xs:=[.tmp 27,.tmp 30]) (vs:=[I a0,I x12]) Z Z (bo (cs:=[I a0,I x12]) gE ii Z)) Z ?_
 refine bD (bl (cs:=[I 0,I 0]) (cs':=[I a0,I x12]) (us:=[I a0,I x12]) (L':=[box b2 54 [I a0,I x12]]) 0 Z Z Z (bB Z) cp Z Z (by simp) Z) Z Z ?_
 rintro _ _ rfl
 refine vX Z Z (al (ay ?_))
 subst H
 exact cO [] (by decide) Z (vs:=[agg #[I a0,I x12],bool true]) Z ⟨⟨_,[I a0,I x12],rfl,bb (i:=0) Z,.inl ⟨fc,cp,rfl⟩⟩,⟨rfl,trivial⟩⟩ _ Z ⟨rfl,rfl⟩
theorem ib.spec (a0_0 a0_1:Int) (r:Bool) (H:ib a0_0 a0_1 = r):bk Try.prog 47 [agg #[I a0_0,I a0_1]] [] (fun v M=>v = (bool r) ∧ M = []):=by
 unfold ib at H
 refine bj Try.func47 Z 24 Z (nL Z) fun F w0=>?_
 show bW (St 24 w0 F [(0,agg #[I a0_0,I a0_1])] []) _
 refine ak (ae ?_)
 refine aM (dZ (cs:=[I a0_0,I a0_1]) Z Z) Z Z Z ?_
 rintro _ _ ⟨b3,rfl,rfl⟩
 refine vX Z Z (al (ak (ae (vV (ar (sz:=0) (o:=0) Z iY jy) Z (vV (aQ (v:=(I a0_0)) Z jE (aG (i:=0) Z Z)) Z ?_)))))
 obtain ⟨x2,h2,H⟩:=bq H
 refine aM (bs (first:=[]) (cap:=[]) (xs:=[.tmp 7,.const (I 16777216)]) Z Z oj Z (jJ.spec a0_0 16777216 _ h2)) Z Z Z ?_
 rintro _ _ ⟨rfl,rfl⟩
 refine vM Z Z (vV (aK Z Z) Z (vV (aK Z Z) Z ?_))
 refine aM (cC gE) Z Z Z ?_
 rintro _ _ ⟨b4,rfl,rfl⟩
 refine bD (bl (cs:=[I 0,I 0]) (cs':=[I x2.1,I x2.2.1]) (us:=[I x2.1,I x2.2.1]) (L':=[box b4 54 [I x2.1,I x2.2.1],box b3 54 [I a0_0,I a0_1]]) 0 Z Z Z (bB Z) cp Z Z (by simp) Z) Z Z ?_
 rintro _ _ rfl
 refine vX Z Z (al (ak (ae (vM Z Z (vM Z Z ?_)))))
 refine ir H (fun c3 H=>?_) fun c3 H=>?_
 ·refine aI Z Z Z (bF c3) Z Z ?_
  refine aI Z Z Z (bF c3) Z Z ?_
  refine aI Z Z Z (bF c3) Z Z ?_
  refine vV (aU Z Z Z (cw (bF c3))) Z (vM Z Z ?_)
  refine aI Z Z Z Z Z Z ?_
  refine aI Z Z Z Z Z Z ?_
  refine aI Z Z Z Z Z Z ?_
  refine aI Z Z Z Z Z Z ?_
  refine aI Z Z Z Z Z Z ?_
  refine vV (aU Z Z Z Z) Z (vX Z Z (al (ay ?_)))
  cases H
  refine vP [] Z Z ?_
  exact aZ Z Z ⟨rfl,rfl⟩
 refine av (ar (sz:=0) (o:=0) Z gM bm) Z Z Z c3 Z Z ?_
 refine av (aQ (v:=(I a0_1)) Z bf (aG (i:=1) Z Z)) Z Z Z c3 Z Z ?_
 refine av (az Z Z (iW _ _ _)) Z Z Z c3 Z Z ?_
 refine vV (aU Z Z Z (cq c3)) Z (vM Z Z ?_)
 refine ir H (fun c4 H=>?_) fun c4 H=>?_
 ·refine aI Z Z Z (dF c4) Z Z ?_
  refine aI Z Z Z (dF c4) Z Z ?_
  refine aI Z Z Z (dF c4) Z Z ?_
  refine aI Z Z Z (dF c4) Z Z ?_
  refine aI Z Z Z (dF c4) Z Z ?_
  refine vV (aU Z Z Z (cw (dF c4))) Z (vX Z Z (al (ay ?_)))
  cases H
  refine vP [] Z Z ?_
  exact aZ Z Z ⟨rfl,rfl⟩
 refine av (ar (sz:=0) (o:=0) Z gM bm) Z Z Z (dT c4) Z Z ?_
 refine av (aQ (v:=(I a0_1)) Z bf (aG (i:=1) Z Z)) Z Z Z (dT c4) Z Z ?_
 refine av (ar (sz:=0) (o:=0) Z gM bm) Z Z Z (dT c4) Z Z ?_
 refine av (aQ (v:=(I x2.2.1)) Z bf (aG (i:=0) Z Z)) Z Z Z (dT c4) Z Z ?_
 refine av (az Z Z (qt _ _ _)) Z Z Z (dT c4) Z Z ?_
 refine vV (aU Z Z Z (cq (dT c4))) Z (vX Z Z (al (ay ?_)))
 cases H
 refine vP [] Z Z ?_
 exact aZ Z Z ⟨rfl,rfl⟩
theorem er.spec (a0 a1:Int) (r:Bool) (H:er a0 a1 = r):bk Try.prog 69 [I a0,I a1] [] (fun v M=>v = (bool r) ∧ M = []):=by
 unfold er at H
 refine bj Try.func69 Z 12 Z (nL Z) fun F w0=>?_
 show bW (St 12 w0 F [(0,I a0),(1,I a1)] []) _
 refine ak (ae (vX Z Z (al (ak (ae (vM Z Z (vM Z Z (vV (az Z Z (iW _ _ _)) Z (vM Z Z ?_)))))))))
 refine ir H (fun c2 H=>?_) fun c2 H=>?_
 ·refine aI Z Z Z (dF c2) Z Z ?_
  refine aI Z Z Z (dF c2) Z Z ?_
  refine vV (aU Z Z Z (cw (dF c2))) Z (vX Z Z (al (ay ?_)))
  cases H
  refine vP [] Z Z ?_
  exact aZ Z Z ⟨rfl,rfl⟩
 refine av (aE Z) Z Z Z (dT c2) Z Z ?_
 refine av (az Z Z (qt _ _ _)) Z Z Z (dT c2) Z Z ?_
 refine vV (aU Z Z Z (cq (dT c2))) Z (vX Z Z (al (ay ?_)))
 cases H
 refine vP [] Z Z ?_
 exact aZ Z Z ⟨rfl,rfl⟩
theorem gY.spec (a0_0 a0_1:Int) (a0_2 a0_3 a0_4:Int) (a0_5 r:Bool) (H:gY a0_0 a0_1 a0_2 a0_3 a0_4 a0_5 = r):bk Try.prog 51 [agg #[I a0_0,I a0_1,I a0_2,I a0_3,I a0_4,bool a0_5]] [] (fun v M=>v = (bool r) ∧ M = []):=by
 unfold gY at H
 refine bj Try.func51 Z 36 Z (nL Z) fun F w0=>?_
 show bW (St 36 w0 F [(0,agg #[I a0_0,I a0_1,I a0_2,I a0_3,I a0_4,bool a0_5])] []) _
 refine ak (ae ?_)
 refine aM (dZ (cs:=[I a0_0,I a0_1,I a0_2,I a0_3,I a0_4,bool a0_5]) Z Z) Z Z Z ?_
 rintro _ _ ⟨b2,rfl,rfl⟩
 refine vX Z Z (al (ak (ae (vX Z Z (al (ak (ae (vV (ar (sz:=1) (o:=0) Z iX cp) Z (vV (aL (vs:=[I a0_0,I a0_1]) Z fc cp (dQ (i:=0) Z Z)) Z ?_)))))))))
 obtain ⟨x5,h5,H⟩:=bq H
 refine aM (bs (first:=[]) (cap:=[]) (xs:=[.tmp 5]) Z Z nM Z (ib.spec a0_0 a0_1 _ h5)) Z Z Z ?_
 rintro _ _ ⟨rfl,rfl⟩
 refine vM Z Z ?_
 refine ir H (fun c6 H=>?_) fun c6 H=>?_
 ·refine aI Z Z Z (bF c6) Z Z ?_
  refine aI Z Z Z (bF c6) Z Z ?_
  refine aI Z Z Z (bF c6) Z Z ?_
  refine aI Z Z Z (bF c6) Z Z ?_
  refine vV (aU Z Z Z (cw (bF c6))) Z (vM Z Z ?_)
  refine aI Z Z Z Z Z Z ?_
  refine aI Z Z Z Z Z Z ?_
  refine aI Z Z Z Z Z Z ?_
  refine aI Z Z Z Z Z Z ?_
  refine vV (aU Z Z Z Z) Z (vM Z Z ?_)
  refine aI Z Z Z Z Z Z ?_
  refine aI Z Z Z Z Z Z ?_
  refine aI Z Z Z Z Z Z ?_
  refine aI Z Z Z Z Z Z ?_
  refine vV (aU Z Z Z Z) Z (vM Z Z ?_)
  refine aI Z Z Z Z Z Z ?_
  refine aI Z Z Z Z Z Z ?_
  refine aI Z Z Z Z Z Z ?_
  refine aI Z Z Z Z Z Z ?_
  refine aI Z Z Z Z Z Z ?_
  refine bI Z Z Z Z Z ?_
  refine bI Z Z Z Z Z ?_
  refine bI Z Z Z Z Z ?_
  refine aI Z Z Z Z Z Z ?_
  refine vV (aU Z Z Z Z) Z (vX Z Z (al (ay ?_)))
  cases H
  refine vP [] Z Z ?_
  exact aZ Z Z ⟨rfl,rfl⟩
 refine av (aE Z) Z Z Z c6 Z Z ?_
 refine av (ar (sz:=0) (o:=0) Z ou bm) Z Z Z c6 Z Z ?_
 refine av (aQ (v:=(I a0_2)) Z bf (aG (i:=0) Z Z)) Z Z Z c6 Z Z ?_
 obtain ⟨x6,h6,H⟩:=bq H
 refine fh (bs (first:=[]) (cap:=[]) (xs:=[.tmp 10,.const (I 1)]) Z Z lG Z (er.spec a0_2 1 _ h6)) Z Z Z c6 Z Z ?_
 rintro _ _ ⟨rfl,rfl⟩
 refine vV (aU Z Z Z (cq c6)) Z (vM Z Z ?_)
 refine ir H (fun c7 H=>?_) fun c7 H=>?_
 ·refine aI Z Z Z (bF c7) Z Z ?_
  refine aI Z Z Z (bF c7) Z Z ?_
  refine aI Z Z Z (bF c7) Z Z ?_
  refine aI Z Z Z (bF c7) Z Z ?_
  refine vV (aU Z Z Z (cw (bF c7))) Z (vM Z Z ?_)
  refine aI Z Z Z Z Z Z ?_
  refine aI Z Z Z Z Z Z ?_
  refine aI Z Z Z Z Z Z ?_
  refine aI Z Z Z Z Z Z ?_
  refine vV (aU Z Z Z Z) Z (vM Z Z ?_)
  refine aI Z Z Z Z Z Z ?_
  refine aI Z Z Z Z Z Z ?_
  refine aI Z Z Z Z Z Z ?_
  refine aI Z Z Z Z Z Z ?_
  refine aI Z Z Z Z Z Z ?_
  refine bI Z Z Z Z Z ?_
  refine bI Z Z Z Z Z ?_
  refine bI Z Z Z Z Z ?_
  refine aI Z Z Z Z Z Z ?_
  refine vV (aU Z Z Z Z) Z (vX Z Z (al (ay ?_)))
  cases H
  refine vP [] Z Z ?_
  exact aZ Z Z ⟨rfl,rfl⟩
 refine av (aE Z) Z Z Z c7 Z Z ?_
 refine av (ar (sz:=0) (o:=0) Z oL bm) Z Z Z c7 Z Z ?_
 refine av (aQ (v:=(I a0_4)) Z bf (aG (i:=0) Z Z)) Z Z Z c7 Z Z ?_
 obtain ⟨x7,h7,H⟩:=bq H
 refine fh (bs (first:=[]) (cap:=[]) (xs:=[.tmp 16,.const (I 1)]) Z Z lG Z (er.spec a0_4 1 _ h7)) Z Z Z c7 Z Z ?_
 rintro _ _ ⟨rfl,rfl⟩
 refine vV (aU Z Z Z (cq c7)) Z (vM Z Z ?_)
 refine ir H (fun c8 H=>?_) fun c8 H=>?_
 ·refine aI Z Z Z (bF c8) Z Z ?_
  refine aI Z Z Z (bF c8) Z Z ?_
  refine aI Z Z Z (bF c8) Z Z ?_
  refine aI Z Z Z (bF c8) Z Z ?_
  refine vV (aU Z Z Z (cw (bF c8))) Z (vM Z Z ?_)
  refine aI Z Z Z Z Z Z ?_
  refine aI Z Z Z Z Z Z ?_
  refine aI Z Z Z Z Z Z ?_
  refine aI Z Z Z Z Z Z ?_
  refine aI Z Z Z Z Z Z ?_
  refine bI Z Z Z Z Z ?_
  refine bI Z Z Z Z Z ?_
  refine bI Z Z Z Z Z ?_
  refine aI Z Z Z Z Z Z ?_
  refine vV (aU Z Z Z Z) Z (vX Z Z (al (ay ?_)))
  cases H
  refine vP [] Z Z ?_
  exact aZ Z Z ⟨rfl,rfl⟩
 refine av (aE Z) Z Z Z c8 Z Z ?_
 refine av (ar (sz:=0) (o:=0) Z oy bm) Z Z Z c8 Z Z ?_
 refine av (aQ (v:=(I a0_3)) Z bf (aG (i:=0) Z Z)) Z Z Z c8 Z Z ?_
 obtain ⟨x8,h8,H⟩:=bq H
 refine fh (bs (first:=[]) (cap:=[]) (xs:=[.tmp 22,.const (I 0)]) Z Z lG Z (er.spec a0_3 0 _ h8)) Z Z Z c8 Z Z ?_
 rintro _ _ ⟨rfl,rfl⟩
 refine vV (aU Z Z Z (cq c8)) Z (vM Z Z ?_)
 refine ir H (fun c9 H=>?_) fun c9 H=>?_
 ·refine aI Z Z Z (bF c9) Z Z ?_
  refine aI Z Z Z (bF c9) Z Z ?_
  refine aI Z Z Z (bF c9) Z Z ?_
  refine aI Z Z Z (bF c9) Z Z ?_
  refine aI Z Z Z (bF c9) Z Z ?_
  refine bI Z Z Z Z Z ?_
  refine bI Z Z Z Z Z ?_
  refine bI Z Z Z Z Z ?_
  refine aI Z Z Z (bF c9) Z Z ?_
  refine vV (aU Z Z Z (cw (bF c9))) Z (vX Z Z (al (ay ?_)))
  cases H
  refine vP [] Z Z ?_
  exact aZ Z Z ⟨rfl,rfl⟩
 refine av (ar (sz:=1) (o:=0) Z iX cp) Z Z Z c9 Z Z ?_
 refine av (ar (sz:=0) (o:=0) Z iY jy) Z Z Z c9 Z Z ?_
 refine av (aQ (v:=(I a0_0)) Z jE (aG (i:=0) Z Z)) Z Z Z c9 Z Z ?_
 refine av (az Z Z (fS _ _ _)) Z Z Z c9 Z Z ?_
 refine av (aE Z) Z Z Z c9 Z Z ?_
 refine fM H (fun c10 H=>?_) fun c10 H=>?_
 ·refine aI Z Z Z (fJ c10) Z Z ?_
  refine aI Z Z Z (fJ c10) Z Z ?_
  refine aI Z Z Z (fJ c10) Z Z ?_
  refine av (aU Z Z Z (cq (fJ c10))) Z Z Z c9 Z Z ?_
  refine vV (aU Z Z Z (cq c9)) Z (vX Z Z (al (ay ?_)))
  cases H
  refine vP [] Z Z ?_
  exact aZ Z Z ⟨rfl,rfl⟩
 refine av (ar (sz:=0) (o:=0) Z oI ss) Z Z Z (fH c10) Z Z ?_
 refine av (aQ (v:=(bool a0_5)) Z tC (aG (i:=0) Z Z)) Z Z Z (fH c10) Z Z ?_
 refine av (fp Z (fk _)) Z Z Z (fH c10) Z Z ?_
 refine av (aU Z Z Z (cw (fH c10))) Z Z Z c9 Z Z ?_
 refine vV (aU Z Z Z (cq c9)) Z (vX Z Z (al (ay ?_)))
 cases H
 refine vP [] Z Z ?_
 exact aZ Z Z ⟨rfl,rfl⟩
theorem il.spec (a0 a1:Int) (a2 r:Int) (H:il a0 a1 a2 = r):bk Try.prog 66 [I a0,I a1,I a2] [] (fun v M=>v = (I r) ∧ M = []):=by
 unfold il at H
 refine bj Try.func66 Z 42 Z (nL Z) fun F w0=>?_
 show bW (St 42 w0 F [(0,I a0),(1,I a1),(2,I a2)] []) _
 refine ak (ae (vX Z Z (al (ak (ae (vM Z Z (vV (az Z Z (gt _ _ _) ) Z (vX Z Z (al ?_)))))))))
 obtain ⟨x2,H2,H⟩:=bq H
 refine dv (fun a w=>St 42 w0 F [(0,I x2.1),(2,I a2),(7,I x2.2)] [] a w) ?_ ?_
 ·refine ak (ae (vM Z Z (vV (az Z Z (cR _ _ _)) Z (al ?_))))
  refine ir H2 (fun c4 H2=>?_) fun c4 H2=>?_
  ·refine ap Z (dF c4) (aN ?_)
   cases H2
   exact vF [] Z Z (vS [0,2,7] Z) fun a w h=>h
  refine aq Z (dT c4) (ak (ae (vM Z Z (vV (az Z Z (cK _ _ _) ) Z (vX Z Z (al (ae (vM Z Z (vV (az Z Z (gt _ _ _) ) Z (vX Z Z (al ?_)))))))))))
  cases H2
  exact vF [] Z Z (vS [0,2,7] Z) fun a w h=>h
 ·refine ak (ae (vM Z Z ?_))
  refine vV (az Z Z fun w=>sL _ _ _ w (by decide)) Z ?_
  refine vX Z Z (al (ak (ae (vM Z Z (vV (az Z Z (kC _ _ _) ) Z (vM Z Z ?_))))))
  refine vV (az Z Z fun w=>jg _ _ _ w (by decide)) Z ?_
  refine vV (az Z Z (cK _ _ _) ) Z (vM Z Z ?_)
  refine vV (az Z Z fun w=>jg _ _ _ w (by decide)) Z ?_
  refine vV (az Z Z (gt _ _ _) ) Z (vM Z Z (vV (az Z Z (kC _ _ _) ) Z (vV (az Z Z (cK _ _ _) ) Z ?_)))
  refine vV (az Z Z fun w=>jg _ _ _ w (by decide)) Z ?_
  refine vV (az Z Z (cK _ _ _) ) Z (vM Z Z (vV (az Z Z (cK _ _ _) ) Z (vV (az Z Z (gt _ _ _) ) Z (vX Z Z (al (ak (ae (vM Z Z ?_))))))))
  refine vV (az Z Z fun w=>jg _ _ _ w (by decide)) Z ?_
  refine vV (az Z Z (kC _ _ _) ) Z (vM Z Z (vV (az Z Z (cK _ _ _) ) Z (vV (az Z Z (gt _ _ _) ) Z (vX Z Z (al (ay ?_))))))
  cases H
  refine vP [] Z Z ?_
  exact aZ Z Z ⟨rfl,rfl⟩
theorem gl.spec (a0 r:Int) (H:gl a0 = r):bk Try.prog 65 [I a0] [] (fun v M=>v = (I r) ∧ M = []):=by
 unfold gl at H
 refine bj Try.func65 Z 10 Z (nL Z) fun F w0=>?_
 show bW (St 10 w0 F [(0,I a0)] []) _
 refine ak (ae (vX Z Z (al (ak (ae (vM Z Z ?_))))))
 refine vV (az Z Z fun w=>jg _ _ _ w (by decide)) Z ?_
 refine vV (az Z Z (cK _ _ _) ) Z (vM Z Z ?_)
 refine vV (az Z Z fun w=>sL _ _ _ w (by decide)) Z ?_
 refine vV (az Z Z (cK _ _ _) ) Z ?_
 obtain ⟨x2,h2,H⟩:=bq H
 refine aM (bs (first:=[]) (cap:=[]) (xs:=[.tmp 5,.tmp 8,.const (I 1)]) Z Z rr Z (il.spec (aJ (1970 + (aJ (Int.tdiv a0 12)))) (aJ ((Int.tmod a0 12) + 1)) 1 _ h2)) Z Z Z ?_
 rintro _ _ ⟨rfl,rfl⟩
 refine vX Z Z (al (ay ?_))
 cases H
 refine vP [] Z Z ?_
 exact aZ Z Z ⟨rfl,rfl⟩
theorem jh.spec (a0:Int) (r:(Int × Int)) (H:jh a0 = r):bk Try.prog 48 [I a0] [] (fun v M=>v = (tU #[I r.1,I r.2]) ∧ M = []):=by
 unfold jh at H
 refine bj Try.func48 Z 12 Z (nL Z) fun F w0=>?_
 show bW (St 12 w0 F [(0,I a0)] []) _
 refine ak (ae (vX Z Z (vX Z Z (al (ak (ae (vX Z Z (al (ak (ae (vM Z Z ?_)))))))))))
 refine vM Z Z ?_
 obtain ⟨x3,h3,H⟩:=bq H
 refine aM (bs (first:=[]) (cap:=[]) (xs:=[.tmp 6]) Z Z nu Z (gl.spec a0 _ h3)) Z Z Z ?_
 rintro _ _ ⟨rfl,rfl⟩
 refine vM Z Z (vM Z Z (vV (az Z Z (cK _ _ _) ) Z ?_))
 obtain ⟨x4,h4,H⟩:=bq H
 refine aM (bs (first:=[]) (cap:=[]) (xs:=[.tmp 10]) Z Z nu Z (gl.spec (aJ (a0 + 1)) _ h4)) Z Z Z ?_
 rintro _ _ ⟨rfl,rfl⟩
 refine vX Z Z (vX Z Z (al (ay ?_)))
 cases H
 refine vP [] Z Z ?_
 exact cE (vs:=[I x3,I x4]) Z ⟨rfl,⟨rfl,trivial⟩⟩ _ Z ⟨rfl,rfl⟩
theorem gO.spec (a0_0 a0_1:Int) (r:(Int × Int)) (H:gO a0_0 a0_1 = r):bk Try.prog 30 [agg #[I a0_0,I a0_1]] [] (fun v M=>v = (tU #[I r.1,I r.2]) ∧ M = []):=by
 unfold gO at H
 refine bj Try.func30 Z 30 Z (nL Z) fun F w0=>?_
 show bW (St 30 w0 F [(0,agg #[I a0_0,I a0_1])] []) _
 refine ak (ae ?_)
 refine aM (dZ (cs:=[I a0_0,I a0_1]) Z Z) Z Z Z ?_
 rintro _ _ ⟨b2,rfl,rfl⟩
 refine vX Z Z (vX Z Z (al (ak (ak (ae (vV (aL (vs:=[I a0_0,I a0_1]) Z fc cp (bb (i:=0) Z)) Z ?_))))))
 obtain ⟨x10,h8,H⟩:=bq H
 refine aM (bs (first:=[]) (cap:=[]) (xs:=[.tmp 4]) Z Z nM Z (ib.spec a0_0 a0_1 _ h8)) Z Z Z ?_
 rintro _ _ ⟨rfl,rfl⟩
 refine vV (fp Z (fk _)) Z (al ?_)
 refine fM H (fun c52 H=>?_) fun c52 H=>?_
 ·refine aq Z c52 (ak (ae (vX Z Z (vX Z Z (al (ay ?_))))))
  cases H
  refine vP [] Z Z ?_
  exact cE (vs:=[I 0,I 0]) Z ⟨rfl,⟨rfl,trivial⟩⟩ _ Z ⟨rfl,rfl⟩
 refine ap Z (bF c52) (aN (ak ?_))
 refine bz 7 Z (fun D a w=>gu 30 w0 F [(0,agg #[I a0_0,I a0_1]),(1,pt b2 0),(4,agg #[I a0_0,I a0_1]),(5,bool x10),(6,bool (!x10))] [(0,7,pt b2 1),(1,8,I a0_1),(2,9,pt b2 1),(3,10,I a0_1),(4,11,I (aJ (a0_1 + 1))),(5,2,I a0_1),(6,3,I (aJ (a0_1 + 1)))] D [box b2 54 [I a0_0,I a0_1]] a w) (by kernel_rfl) (by kernel_rfl) (bH (vS [0,1,4,5,6] Z) Z) ?_ ?_
 ·refine ⟨?_,?_,?_,?_,?_,?_,?_,trivial⟩
  ·exact fun D hi hc U=>dV 0 Z Z Z Z (fun a=>ac) (ar (sz:=0) (o:=0) Z gM bm) Z Z Z Z
  ·exact fun D hi hc U=>dV 1 Z Z Z Z (fun a=>(hD 0 U Z Z Z Z ac)) (aQ (v:=(I a0_1)) Z bf (aG (i:=0) Z Z)) Z Z Z Z
  ·exact fun D hi hc U=>dV 2 Z Z Z Z (fun a=>ac) (ar (sz:=0) (o:=0) Z gM bm) Z Z Z Z
  ·exact fun D hi hc U=>dV 3 Z Z Z Z (fun a=>(hD 2 U Z Z Z Z ac)) (aQ (v:=(I a0_1)) Z bf (aG (i:=0) Z Z)) Z Z Z Z
  ·exact fun D hi hc U=>dV 4 Z Z Z Z (fun a=>(hD 3 U Z Z Z Z ac)) (az Z Z (cK _ _ _) ) Z Z Z Z
  ·exact fun D hi hc U=>dV 5 Z Z Z Z (fun a=>(hD 1 U Z Z Z Z ac)) (bT Z) Z Z Z Z
  ·exact fun D hi hc U=>dV 6 Z Z Z Z (fun a=>(hD 4 U Z Z Z Z ac)) (bT Z) Z Z Z Z
 ·intro D hall
  refine bx [box b2 54 [I a0_0,I a0_1]] Z (fun a=>(hC 5 Z (hall 5 (by decide)) (hC 6 Z (hall 6 (by decide)) (hC 0 Z (hall 0 (by decide)) (hC 1 Z (hall 1 (by decide)) (hC 2 Z (hall 2 (by decide)) (hC 3 Z (hall 3 (by decide)) (hC 4 Z (hall 4 (by decide)) ac)))))))) ?_
  refine ak (ak (ae (vV (ar (sz:=0) (o:=0) Z iY jy) Z (vV (aQ (v:=(I a0_0)) Z jE (aG (i:=0) Z Z)) Z (al (ba ?_))))))
  obtain ⟨x15,H7,H⟩:=bq H
  refine dv (fun a w=>∃ v4,x15 = Sum.inl v4 ∧ St 30 w0 F [(2,I v4.1),(3,I v4.2)] [] a w) ?_ ?_
  ·refine ba (ak (ba (ak (ak (ak (ae (vV (az Z Z (fS _ _ _)) Z (vX Z Z (al ?_)))))))))
   refine fM H7 (fun c99 H7=>?_) fun c99 H7=>?_
   ·refine aq Z (fJ c99) (cn (ae (vV (ar (sz:=0) (o:=0) Z gM bm) Z (vV (aQ (v:=(I a0_1)) Z bf (aG (i:=0) Z Z)) Z ?_))))
    obtain ⟨x16,h12,H7⟩:=bq H7
    refine aM (bs (first:=[]) (cap:=[]) (xs:=[.tmp 20]) Z Z rR Z (jh.spec a0_1 _ h12)) Z Z Z ?_
    rintro _ _ ⟨rfl,rfl⟩
    refine vM Z Z (vV (aK Z Z) Z (vV (aK Z Z) Z (vX Z Z (vX Z Z (al ?_)))))
    cases H7
    exact vF [] Z Z (vS [2,3] Z) fun a w h=>⟨_,rfl,h⟩
   refine ap Z (fH c99) (aN (ak (ae (vV (az Z Z (fS _ _ _)) Z (vX Z Z (al ?_))))))
   refine fM H7 (fun c100 H7=>?_) fun c100 H7=>?_
   ·refine aq Z (fJ c100) (cn ?_)
    cases H7
    exact vF [] Z Z (vS [2,3] Z) fun a w h=>⟨_,rfl,h⟩
   refine ap Z (fH c100) (aN (cn ?_))
   subst H7
   have H8:=show _ = _ from H
   refine ak (ae (vM Z Z (vM Z Z (vX Z Z (vX Z Z (al (ay ?_)))))))
   cases H8
   refine vP [] Z Z ?_
   exact cE (vs:=[I a0_1,I (aJ (a0_1 + 1))]) Z ⟨rfl,⟨rfl,trivial⟩⟩ _ Z ⟨rfl,rfl⟩
  ·refine aY fun v4=>cd fun e_=>?_
   subst e_
   rw [hJ] at H
   refine ak (ae (vM Z Z (vV (az Z Z (kC _ _ _) ) Z (vM Z Z (vV (az Z Z (kC _ _ _) ) Z (vX Z Z (vX Z Z (al (cn (ak (ae ?_)))))))))))
   refine vM Z Z (vM Z Z (vX Z Z (vX Z Z (al (ay ?_)))))
   cases H
   refine vP [] Z Z ?_
   exact cE (vs:=[I (aJ (v4.1 * 24)),I (aJ (v4.2 * 24))]) Z ⟨rfl,⟨rfl,trivial⟩⟩ _ Z ⟨rfl,rfl⟩
theorem cv.spec (p0 p1:Nat) (sv0:Value) (p2:Nat) (a0:Int) (l0:List ah) (p2_0:Int) (r:Bool) (H:cv a0 l0 p2_0 = some r):bk Try.prog 68 [I a0,pt p0 0,pt p2 0] [box p0 73 [pt p1 0],box p1 103 [sv0],own sv0 111 7 l0.length (fl ab l0),box p2 2 [I p2_0]] (fun v M=>v = (bool r) ∧ M = [box p0 73 [pt p1 0],box p1 103 [sv0],own sv0 111 7 l0.length (fl ab l0),box p2 2 [I p2_0]]):=by
 unfold cv at H
 refine bj Try.func68 Z 15 Z (nL Z) fun F w0=>?_
 let C0_:List HP:=[box p0 73 [pt p1 0],box p1 103 [sv0],own sv0 111 7 l0.length (fl ab l0),box p2 2 [I p2_0]]
 show bW (St 15 w0 F [(0,I a0),(1,pt p0 0),(2,pt p2 0)] C0_) _
 refine ak (ae (vX Z Z (al (ak ?_))))
 obtain ⟨c3,H⟩:=gC H
 obtain ⟨c4,H⟩:=gC H
 refine bz 11 Z (fun D a w=>gu 15 w0 F [(0,I a0),(1,pt p0 0),(2,pt p2 0)] [(0,5,pt p1 0),(1,6,pt p1 0),(2,7,pt p1 0),(3,8,sv0),(4,9,I a0),(5,10,(bK sv0 (a0.toNat * 7))),(6,11,(bK sv0 (a0.toNat * 7 + 0))),(7,12,I ((l0.getD a0.toNat ao).k)),(8,13,I p2_0),(9,14,bool (decide (p2_0 ≤ ((l0.getD a0.toNat ao).k)))),(10,4,bool (decide (p2_0 ≤ ((l0.getD a0.toNat ao).k))))] D C0_ a w) (by kernel_rfl) (by kernel_rfl) (bH (vS [0,1,2] Z) Z) ?_ ?_
 ·refine ⟨?_,?_,?_,?_,?_,?_,?_,?_,?_,?_,?_,trivial⟩
  ·exact fun D hi hc U=>dV 0 Z Z Z Z (fun a=>ac) (aQ (v:=(pt p1 0)) Z fK (aG (i:=0) Z Z)) Z Z Z Z
  ·exact fun D hi hc U=>dV 1 Z Z Z Z (fun a=>(hD 0 U Z Z Z Z ac)) (bp Z) Z Z Z Z
  ·exact fun D hi hc U=>dV 2 Z Z Z Z (fun a=>(hD 1 U Z Z Z Z ac)) (ar (sz:=0) (o:=0) Z dr ef) Z Z Z Z
  ·exact fun D hi hc U=>dV 3 Z Z Z Z (fun a=>(hD 2 U Z Z Z Z ac)) (aQ (v:=sv0) Z fe (aG (i:=1) Z Z)) Z Z Z Z
  ·exact fun D hi hc U=>dV 4 Z Z Z Z (fun a=>ac) (aE Z) Z Z Z Z
  ·exact fun D hi hc U=>dV 5 Z Z Z Z (fun a=>(hD 4 U Z Z Z Z (hD 3 U Z Z Z Z ac))) (aX (sz:=6) 2 Z Z bC bY Z (aW 111) c3 c4) Z Z Z Z
  ·exact fun D hi hc U=>dV 6 Z Z Z Z (fun a=>(hD 5 U Z Z Z Z ac)) (bn (sz:=0) (k0:=a0.toNat * 7) (off:=0) 2 Z iJ bm Z (aW 111) (dM aR (bM c3 c4))) Z Z Z Z
  ·exact fun D hi hc U=>dV 7 Z Z Z Z (fun a=>(hD 6 U Z Z Z Z ac)) (aQ (v:=(I ((l0.getD a0.toNat ao).k))) Z bf (bt (i:=2) Z (aW 111) (by simp [C0_]) (dI (off:=0) aR (bM c3 c4) Z))) Z Z Z Z
  ·exact fun D hi hc U=>dV 8 Z Z Z Z (fun a=>ac) (aQ (v:=(I p2_0)) Z bf (aG (i:=3) Z Z)) Z Z Z Z
  ·exact fun D hi hc U=>dV 9 Z Z Z Z (fun a=>(hD 8 U Z Z Z Z (hD 7 U Z Z Z Z ac))) (az Z Z (iW _ _ _)) Z Z Z Z
  ·exact fun D hi hc U=>dV 10 Z Z Z Z (fun a=>(hD 9 U Z Z Z Z ac)) (bT Z) Z Z Z Z
 ·intro D hall
  refine bx C0_ Z (fun a=>(hC 10 Z (hall 10 (by decide)) (hC 0 Z (hall 0 (by decide)) (hC 1 Z (hall 1 (by decide)) (hC 2 Z (hall 2 (by decide)) (hC 3 Z (hall 3 (by decide)) (hC 4 Z (hall 4 (by decide)) (hC 5 Z (hall 5 (by decide)) (hC 6 Z (hall 6 (by decide)) (hC 7 Z (hall 7 (by decide)) (hC 8 Z (hall 8 (by decide)) (hC 9 Z (hall 9 (by decide)) ac)))))))))))) ?_
  refine ay ?_
  cases H
  refine vP [0,1,2,3] Z Z ?_
  exact aZ Z Z ⟨rfl,rfl⟩
theorem gW.spec (K p0 p1:Nat) (sv0:Value) (p2:Nat) (a0:Int) (l0:List ah) (p2_0 r:Int) (H:gW K a0 l0 p2_0 = some r):bk Try.prog 67 [I a0,(Value.func (.func 68) #[] #[pt p0 0,pt p2 0])] [box p0 73 [pt p1 0],box p1 103 [sv0],own sv0 111 7 l0.length (fl ab l0),box p2 2 [I p2_0]] (fun v M=>v = (I r) ∧ M = [box p0 73 [pt p1 0],box p1 103 [sv0],own sv0 111 7 l0.length (fl ab l0),box p2 2 [I p2_0]]):=by
 unfold gW at H
 refine bj Try.func67 Z 26 Z (nL Z) fun F w0=>?_
 let C0_:List HP:=[box p0 73 [pt p1 0],box p1 103 [sv0],own sv0 111 7 l0.length (fl ab l0),box p2 2 [I p2_0]]
 show bW (St 26 w0 F [(0,I a0),(1,(Value.func (.func 68) #[] #[pt p0 0,pt p2 0]))] C0_) _
 refine ak (ae (vX Z Z (al (ak (ae (vM Z Z (vX Z Z (vX Z Z (al (ak (ba ?_)))))))))))
 refine dp (fun k a w=>∃ i7,∃ i9,fq K l0 p2_0 k i7 i9 = some r ∧ St 26 w0 F [(1,(Value.func (.func 68) #[] #[pt p0 0,pt p2 0])),(5,I i7),(6,I i9)] C0_ a w) K ?_ ?_
 ·exact vF [0,1,2,3] Z Z (vS [1,5,6] Z) fun a w h=>⟨_,_,H,h⟩
 ·refine fun k=>aY fun i7=>aY fun i9=>cd fun H4=>?_
  cases k with
  | zero=>exact absurd H4 (by simp [C0_,fq])
  | succ k =>
   rw [fq] at H4
   refine ak (ak (ae (vM Z Z (vM Z Z (vV (az Z Z (cR _ _ _)) Z (al ?_))))))
   refine ir H4 (fun c35 H4=>?_) fun c35 H4=>?_
   ·refine ap Z (dF c35) (cn (ak (ae (vM Z Z (vX Z Z (al (ay ?_)))))))
    cases H4
    refine vP [0,1,2,3] Z Z ?_
    exact aZ Z Z ⟨rfl,rfl⟩
   refine aq Z (dT c35) (aN (ba (ak (ae (vM Z Z (vM Z Z (vV (az Z Z (cK _ _ _) ) Z (vV (mZ Z (uj Try.underlying3 Try.underlying138)) Z ?_))))))))
   refine vV (az Z Z fun w=>uq _ _ _ _ w (by decide)) Z ?_
   refine vV (mZ Z (uj Try.underlying138 Try.underlying3)) Z (vX Z Z (al (ak (ae (vM Z Z (vM Z Z ?_))))))
   obtain ⟨x12,h12,H4⟩:=oB H4
   refine aM (bV (Lr:=[]) [0,1,2,3] [0,1,2,3] (first:=[]) (cap:=[pt p0 0,pt p2 0]) (xs:=[.tmp 19]) Z Z qM Z (cv.spec p0 p1 sv0 p2 (aJ (mH .u64 (tO (aJ (i7 + i9))) 1)) l0 p2_0 _ h12) (by decide) Z (by decide) Z) Z Z Z ?_
   rintro _ _ ⟨rfl,rfl⟩
   refine vV (fp Z (fk _)) Z (al ?_)
   refine ir H4 (fun c36 H4=>?_) fun c36 H4=>?_
   ·refine ap Z (bF c36) (ae (vM Z Z (vX Z Z (al ?_))))
    exact vF [0,1,2,3] Z Z (vS [1,5,6] Z) fun a w h=>⟨k,Nat.lt_succ_self k,_,_,H4,h⟩
   refine aq Z c36 (ae (vM Z Z (vV (az Z Z (cK _ _ _) ) Z (vX Z Z (al ?_)))))
   exact vF [0,1,2,3] Z Z (vS [1,5,6] Z) fun a w h=>⟨k,Nat.lt_succ_self k,_,_,H4,h⟩
theorem br.spec (K p0:Nat) (sv0:Value) (l0:List ah) (a1:Int) (r:(Bool × Int)) (H:br K l0 a1 = some r):bk Try.prog 49 [pt p0 0,I a1] [box p0 103 [sv0],own sv0 111 7 l0.length (fl ab l0)] (fun v M=>v = (tU #[I r.2,bool r.1]) ∧ M = [box p0 103 [sv0],own sv0 111 7 l0.length (fl ab l0)]):=by
 unfold br at H
 refine bj Try.func49 Z 36 Z (nL Z) fun F w0=>?_
 show bW (St 36 w0 F [(0,pt p0 0),(1,I a1)] [box p0 103 [sv0],own sv0 111 7 l0.length (fl ab l0)]) _
 refine ak (ae ?_)
 refine aM (dZ (cs:=[pt p0 0]) Z Z) Z Z Z ?_
 rintro _ _ ⟨b3,rfl,rfl⟩
 refine aM (dZ (cs:=[I a1]) Z Z) Z Z Z ?_
 rintro _ _ ⟨b4,rfl,rfl⟩
 let C0_:List HP:=[box b4 2 [I a1],box b3 73 [pt p0 0],box p0 103 [sv0],own sv0 111 7 l0.length (fl ab l0)]
 refine vX Z Z (vX Z Z (al (ak (ak (ae (vV (aQ (v:=(pt p0 0)) Z fK (aG (i:=1) Z Z)) Z ?_))))))
 refine vV (az Z Z (eB (fun w=>rfl) Z (iU Try.underlying73 _ _))) Z ?_
 refine al (ap Z Z (aN (ak (ae (vV (aQ (v:=(pt p0 0)) Z fK (aG (i:=1) Z Z)) Z (vV (bp Z) Z (vV (ar (sz:=0) (o:=0) Z dr ef) Z (vV (aQ (v:=sv0) Z fe (aG (i:=2) Z Z)) Z (vV (cD 3 Z bC Z (aW 111)) Z (vV (jp (first:=[]) (cap:=[.tmp 2,.tmp 3]) Z Z) Z ?_))))))))))
 obtain ⟨x2,h2,H⟩:=oB H
 refine aM (bV (Lr:=[]) [1,2,3,0] [3,0,1,2] (first:=[]) (cap:=[]) (xs:=[.tmp 13,.tmp 14]) Z Z qU Z (gW.spec K b3 p0 sv0 b4 (l0.length:Int) l0 a1 _ h2) (by decide) Z (by decide) Z) Z Z Z ?_
 rintro _ _ ⟨rfl,rfl⟩
 refine vX Z Z (al (ak ?_))
 refine ir H (fun c3 H=>?_) fun c3 H=>?_
 ·refine bz 22 Z (fun D a w=>gu 36 w0 F [(0,pt p0 0),(1,I a1),(2,pt b3 0),(3,pt b4 0),(6,I x2),(7,pt p0 0),(8,B0),(9,pt p0 0),(10,pt p0 0),(11,pt p0 0),(12,sv0),(13,I (l0.length:Int)),(14,(Value.func (.func 68) #[] #[pt b3 0,pt b4 0])),(15,I x2)] [(0,16,I x2),(1,17,I x2),(2,18,pt p0 0),(3,19,pt p0 0),(4,20,pt p0 0),(5,21,sv0),(6,22,I (l0.length:Int)),(7,23,bool (decide (x2 < (l0.length:Int)))),(8,24,bool (decide (x2 < (l0.length:Int)))),(9,25,undef),(10,26,undef),(11,27,undef),(12,28,undef),(13,29,undef),(14,30,undef),(15,31,undef),(16,32,undef),(17,33,undef),(18,34,undef),(19,35,B0),(20,4,I x2),(21,5,B0)] D C0_ a w) (by kernel_rfl) (by kernel_rfl) (bH (vS [0,1,2,3,6,7,8,9,10,11,12,13,14,15] Z) Z) ?_ ?_
  ·refine ⟨?_,?_,?_,?_,?_,?_,?_,?_,?_,?_,?_,?_,?_,?_,?_,?_,?_,?_,?_,?_,?_,?_,trivial⟩
   ·exact fun D hi hc U=>dV 0 Z Z Z Z (fun a=>ac) (aE Z) Z Z Z Z
   ·exact fun D hi hc U=>dV 1 Z Z Z Z (fun a=>ac) (aE Z) Z Z Z Z
   ·exact fun D hi hc U=>dV 2 Z Z Z Z (fun a=>ac) (aQ (v:=(pt p0 0)) Z fK (aG (i:=1) Z Z)) Z Z Z Z
   ·exact fun D hi hc U=>dV 3 Z Z Z Z (fun a=>(hD 2 U Z Z Z Z ac)) (bp Z) Z Z Z Z
   ·exact fun D hi hc U=>dV 4 Z Z Z Z (fun a=>(hD 3 U Z Z Z Z ac)) (ar (sz:=0) (o:=0) Z dr ef) Z Z Z Z
   ·exact fun D hi hc U=>dV 5 Z Z Z Z (fun a=>(hD 4 U Z Z Z Z ac)) (aQ (v:=sv0) Z fe (aG (i:=2) Z Z)) Z Z Z Z
   ·exact fun D hi hc U=>dV 6 Z Z Z Z (fun a=>(hD 5 U Z Z Z Z ac)) (cD 3 Z bC Z (aW 111)) Z Z Z Z
   ·exact fun D hi hc U=>dV 7 Z Z Z Z (fun a=>(hD 6 U Z Z Z Z (hD 1 U Z Z Z Z ac))) (az Z Z (cR _ _ _)) Z Z Z Z
   ·exact fun D hi hc U=>dV 8 Z Z Z Z (fun a=>(hD 7 U Z Z Z Z ac)) (aE Z) Z Z Z Z
   ·exact fun D hi hc U=>aT (i:=9) (t:=25) Z Z (aH Z Z Z (dF c3)) (fun a=>(hD 8 U Z Z Z Z ac)) Z Z (oT 9 Z Z Z)
   ·exact fun D hi hc U=>aT (i:=10) (t:=26) Z Z (aH Z Z Z (dF c3)) (fun a=>(hD 8 U Z Z Z Z ac)) Z Z (oT 10 Z Z Z)
   ·exact fun D hi hc U=>aT (i:=11) (t:=27) Z Z (aH Z Z Z (dF c3)) (fun a=>(hD 8 U Z Z Z Z ac)) Z Z (oT 11 Z Z Z)
   ·exact fun D hi hc U=>aT (i:=12) (t:=28) Z Z (aH Z Z Z (dF c3)) (fun a=>(hD 8 U Z Z Z Z ac)) Z Z (oT 12 Z Z Z)
   ·exact fun D hi hc U=>aT (i:=13) (t:=29) Z Z (aH Z Z Z (dF c3)) (fun a=>(hD 8 U Z Z Z Z ac)) Z Z (oT 13 Z Z Z)
   ·exact fun D hi hc U=>aT (i:=14) (t:=30) Z Z (aH Z Z Z (dF c3)) (fun a=>(hD 8 U Z Z Z Z ac)) Z Z (oT 14 Z Z Z)
   ·exact fun D hi hc U=>aT (i:=15) (t:=31) Z Z (aH Z Z Z (dF c3)) (fun a=>(hD 8 U Z Z Z Z ac)) Z Z (oT 15 Z Z Z)
   ·exact fun D hi hc U=>aT (i:=16) (t:=32) Z Z (aH Z Z Z (dF c3)) (fun a=>(hD 8 U Z Z Z Z ac)) Z Z (oT 16 Z Z Z)
   ·exact fun D hi hc U=>aT (i:=17) (t:=33) Z Z (aH Z Z Z (dF c3)) (fun a=>(hD 8 U Z Z Z Z ac)) Z Z (oT 17 Z Z Z)
   ·exact fun D hi hc U=>aT (i:=18) (t:=34) Z Z (aH Z Z Z (dF c3)) (fun a=>(hD 8 U Z Z Z Z ac)) Z Z (oT 18 Z Z Z)
   ·exact fun D hi hc U=>dV 19 Z Z Z Z (fun a=>(hD 18 U Z Z Z Z (hD 8 U Z Z Z Z ac))) (aU Z Z Z (cw (dF c3))) Z Z Z Z
   ·exact fun D hi hc U=>dV 20 Z Z Z Z (fun a=>(hD 0 U Z Z Z Z ac)) (bT Z) Z Z Z Z
   ·exact fun D hi hc U=>dV 21 Z Z Z Z (fun a=>(hD 19 U Z Z Z Z ac)) (bT Z) Z Z Z Z
  ·intro D hall
   refine bx C0_ Z (fun a=>(hC 20 Z (hall 20 (by decide)) (hC 21 Z (hall 21 (by decide)) (hC 0 Z (hall 0 (by decide)) (hC 1 Z (hall 1 (by decide)) (hC 2 Z (hall 2 (by decide)) (hC 3 Z (hall 3 (by decide)) (hC 4 Z (hall 4 (by decide)) (hC 5 Z (hall 5 (by decide)) (hC 6 Z (hall 6 (by decide)) (hC 7 Z (hall 7 (by decide)) (hC 8 Z (hall 8 (by decide)) (hC 9 Z (hall 9 (by decide)) (hC 10 Z (hall 10 (by decide)) (hC 11 Z (hall 11 (by decide)) (hC 12 Z (hall 12 (by decide)) (hC 13 Z (hall 13 (by decide)) (hC 14 Z (hall 14 (by decide)) (hC 15 Z (hall 15 (by decide)) (hC 16 Z (hall 16 (by decide)) (hC 17 Z (hall 17 (by decide)) (hC 18 Z (hall 18 (by decide)) (hC 19 Z (hall 19 (by decide)) ac))))))))))))))))))))))) ?_
   refine ay ?_
   cases H
   refine vP [2,3] Z Z ?_
   exact cE (vs:=[I x2,B0]) Z ⟨rfl,⟨rfl,trivial⟩⟩ _ Z ⟨rfl,rfl⟩
 obtain ⟨c4,H⟩:=gC H
 refine bz 22 Z (fun D a w=>gu 36 w0 F [(0,pt p0 0),(1,I a1),(2,pt b3 0),(3,pt b4 0),(6,I x2),(7,pt p0 0),(8,B0),(9,pt p0 0),(10,pt p0 0),(11,pt p0 0),(12,sv0),(13,I (l0.length:Int)),(14,(Value.func (.func 68) #[] #[pt b3 0,pt b4 0])),(15,I x2)] [(0,16,I x2),(1,17,I x2),(2,18,pt p0 0),(3,19,pt p0 0),(4,20,pt p0 0),(5,21,sv0),(6,22,I (l0.length:Int)),(7,23,bool (decide (x2 < (l0.length:Int)))),(8,24,bool (decide (x2 < (l0.length:Int)))),(9,25,pt p0 0),(10,26,pt p0 0),(11,27,pt p0 0),(12,28,sv0),(13,29,I x2),(14,30,(bK sv0 (x2.toNat * 7))),(15,31,(bK sv0 (x2.toNat * 7 + 0))),(16,32,I ((l0.getD x2.toNat ao).k)),(17,33,I a1),(18,34,bool (((l0.getD x2.toNat ao).k) == a1)),(19,35,bool (((l0.getD x2.toNat ao).k) == a1)),(20,4,I x2),(21,5,bool (((l0.getD x2.toNat ao).k) == a1))] D C0_ a w) (by kernel_rfl) (by kernel_rfl) (bH (vS [0,1,2,3,6,7,8,9,10,11,12,13,14,15] Z) Z) ?_ ?_
 ·refine ⟨?_,?_,?_,?_,?_,?_,?_,?_,?_,?_,?_,?_,?_,?_,?_,?_,?_,?_,?_,?_,?_,?_,trivial⟩
  ·exact fun D hi hc U=>dV 0 Z Z Z Z (fun a=>ac) (aE Z) Z Z Z Z
  ·exact fun D hi hc U=>dV 1 Z Z Z Z (fun a=>ac) (aE Z) Z Z Z Z
  ·exact fun D hi hc U=>dV 2 Z Z Z Z (fun a=>ac) (aQ (v:=(pt p0 0)) Z fK (aG (i:=1) Z Z)) Z Z Z Z
  ·exact fun D hi hc U=>dV 3 Z Z Z Z (fun a=>(hD 2 U Z Z Z Z ac)) (bp Z) Z Z Z Z
  ·exact fun D hi hc U=>dV 4 Z Z Z Z (fun a=>(hD 3 U Z Z Z Z ac)) (ar (sz:=0) (o:=0) Z dr ef) Z Z Z Z
  ·exact fun D hi hc U=>dV 5 Z Z Z Z (fun a=>(hD 4 U Z Z Z Z ac)) (aQ (v:=sv0) Z fe (aG (i:=2) Z Z)) Z Z Z Z
  ·exact fun D hi hc U=>dV 6 Z Z Z Z (fun a=>(hD 5 U Z Z Z Z ac)) (cD 3 Z bC Z (aW 111)) Z Z Z Z
  ·exact fun D hi hc U=>dV 7 Z Z Z Z (fun a=>(hD 6 U Z Z Z Z (hD 1 U Z Z Z Z ac))) (az Z Z (cR _ _ _)) Z Z Z Z
  ·exact fun D hi hc U=>dV 8 Z Z Z Z (fun a=>(hD 7 U Z Z Z Z ac)) (aE Z) Z Z Z Z
  ·exact fun D hi hc U=>dG 9 Z Z Z (aB Z Z Z (dT c3)) (fun a=>(hD 8 U Z Z Z Z ac)) (aQ (v:=(pt p0 0)) Z fK (aG (i:=1) Z Z)) Z Z Z Z
  ·exact fun D hi hc U=>dG 10 Z Z Z (aB Z Z Z (dT c3)) (fun a=>(hD 8 U Z Z Z Z (hD 9 U Z Z Z Z ac))) (bp Z) Z Z Z Z
  ·exact fun D hi hc U=>dG 11 Z Z Z (aB Z Z Z (dT c3)) (fun a=>(hD 8 U Z Z Z Z (hD 10 U Z Z Z Z ac))) (ar (sz:=0) (o:=0) Z dr ef) Z Z Z Z
  ·exact fun D hi hc U=>dG 12 Z Z Z (aB Z Z Z (dT c3)) (fun a=>(hD 8 U Z Z Z Z (hD 11 U Z Z Z Z ac))) (aQ (v:=sv0) Z fe (aG (i:=2) Z Z)) Z Z Z Z
  ·exact fun D hi hc U=>dG 13 Z Z Z (aB Z Z Z (dT c3)) (fun a=>(hD 8 U Z Z Z Z ac)) (aE Z) Z Z Z Z
  ·exact fun D hi hc U=>dG 14 Z Z Z (aB Z Z Z (dT c3)) (fun a=>(hD 8 U Z Z Z Z (hD 13 U Z Z Z Z (hD 12 U Z Z Z Z ac)))) (aX (sz:=6) 3 Z Z bC bY Z (aW 111) c4 c3) Z Z Z Z
  ·exact fun D hi hc U=>dG 15 Z Z Z (aB Z Z Z (dT c3)) (fun a=>(hD 8 U Z Z Z Z (hD 14 U Z Z Z Z ac))) (bn (sz:=0) (k0:=x2.toNat * 7) (off:=0) 3 Z iJ bm Z (aW 111) (dM aR (bM c4 c3))) Z Z Z Z
  ·exact fun D hi hc U=>dG 16 Z Z Z (aB Z Z Z (dT c3)) (fun a=>(hD 8 U Z Z Z Z (hD 15 U Z Z Z Z ac))) (aQ (v:=(I ((l0.getD x2.toNat ao).k))) Z bf (bt (i:=3) Z (aW 111) (by simp [C0_]) (dI (off:=0) aR (bM c4 c3) Z))) Z Z Z Z
  ·exact fun D hi hc U=>dG 17 Z Z Z (aB Z Z Z (dT c3)) (fun a=>(hD 8 U Z Z Z Z ac)) (aQ (v:=(I a1)) Z bf (aG (i:=0) Z Z)) Z Z Z Z
  ·exact fun D hi hc U=>dG 18 Z Z Z (aB Z Z Z (dT c3)) (fun a=>(hD 8 U Z Z Z Z (hD 17 U Z Z Z Z (hD 16 U Z Z Z Z ac)))) (az Z Z (fS _ _ _)) Z Z Z Z
  ·exact fun D hi hc U=>dV 19 Z Z Z Z (fun a=>(hD 18 U Z Z Z Z (hD 8 U Z Z Z Z ac))) (aU Z Z Z (cq (dT c3))) Z Z Z Z
  ·exact fun D hi hc U=>dV 20 Z Z Z Z (fun a=>(hD 0 U Z Z Z Z ac)) (bT Z) Z Z Z Z
  ·exact fun D hi hc U=>dV 21 Z Z Z Z (fun a=>(hD 19 U Z Z Z Z ac)) (bT Z) Z Z Z Z
 ·intro D hall
  refine bx C0_ Z (fun a=>(hC 20 Z (hall 20 (by decide)) (hC 21 Z (hall 21 (by decide)) (hC 0 Z (hall 0 (by decide)) (hC 1 Z (hall 1 (by decide)) (hC 2 Z (hall 2 (by decide)) (hC 3 Z (hall 3 (by decide)) (hC 4 Z (hall 4 (by decide)) (hC 5 Z (hall 5 (by decide)) (hC 6 Z (hall 6 (by decide)) (hC 7 Z (hall 7 (by decide)) (hC 8 Z (hall 8 (by decide)) (hC 9 Z (hall 9 (by decide)) (hC 10 Z (hall 10 (by decide)) (hC 11 Z (hall 11 (by decide)) (hC 12 Z (hall 12 (by decide)) (hC 13 Z (hall 13 (by decide)) (hC 14 Z (hall 14 (by decide)) (hC 15 Z (hall 15 (by decide)) (hC 16 Z (hall 16 (by decide)) (hC 17 Z (hall 17 (by decide)) (hC 18 Z (hall 18 (by decide)) (hC 19 Z (hall 19 (by decide)) ac))))))))))))))))))))))) ?_
  refine ay ?_
  cases H
  refine vP [2,3] Z Z ?_
  exact cE (vs:=[I x2,bool (((l0.getD x2.toNat ao).k) == a1)]) Z ⟨rfl,⟨rfl,trivial⟩⟩ _ Z ⟨rfl,rfl⟩
theorem cG.spec (K p0:Nat) (sv0:Value) (l0:List ah) (a1:Int) (r:(Int × Int × Int × Int × Int × Int × Bool × Bool)) (H:cG K l0 a1 = some r):bk Try.prog 62 [pt p0 0,I a1] [box p0 103 [sv0],own sv0 111 7 l0.length (fl ab l0)] (fun v M=>v = (tU #[I r.1,agg #[I r.2.1,I r.2.2.1,I r.2.2.2.1,I r.2.2.2.2.1,I r.2.2.2.2.2.1,bool r.2.2.2.2.2.2.1],bool r.2.2.2.2.2.2.2]) ∧ M = [box p0 103 [sv0],own sv0 111 7 l0.length (fl ab l0)]):=by
 unfold cG at H
 refine bj Try.func62 Z 42 Z (nL Z) fun F w0=>?_
 show bW (St 42 w0 F [(0,pt p0 0),(1,I a1)] [box p0 103 [sv0],own sv0 111 7 l0.length (fl ab l0)]) _
 refine ak (ae (vX Z Z ?_))
 refine aM (cC eW) Z Z Z ?_
 rintro _ _ ⟨b3,rfl,rfl⟩
 refine vX Z Z (al (ak (ae (vM Z Z (vM Z Z ?_)))))
 obtain ⟨x3,h2,H⟩:=oB H
 refine aM (bV (Lr:=[box b3 56 [I 0,I 0,I 0,I 0,I 0,B0]]) [1,2,0] [2,0,1] (first:=[]) (cap:=[]) (xs:=[.tmp 9,.tmp 10]) Z Z kw Z (br.spec K p0 sv0 l0 a1 _ h2) (by decide) Z (by decide) Z) Z Z Z ?_
 rintro _ _ ⟨rfl,rfl⟩
 refine vM Z Z (vV (aK Z Z) Z (vV (aK Z Z) Z (vX Z Z (vX Z Z (al ?_)))))
 obtain ⟨x4,H2,H⟩:=bq H
 let C1_:Value:=agg #[I ((((l0.getD x4.toNat ao).v).Part).Tier),I ((((l0.getD x4.toNat ao).v).Part).Index),I (((l0.getD x4.toNat ao).v).Seg),I (((l0.getD x4.toNat ao).v).Mark),I (((l0.getD x4.toNat ao).v).Rows),bool (((l0.getD x4.toNat ao).v).Cold)]
 let C0_:List Value:=[I ((((l0.getD x4.toNat ao).v).Part).Tier),I ((((l0.getD x4.toNat ao).v).Part).Index),I (((l0.getD x4.toNat ao).v).Seg),I (((l0.getD x4.toNat ao).v).Mark),I (((l0.getD x4.toNat ao).v).Rows),bool (((l0.getD x4.toNat ao).v).Cold)]
 refine dv (fun a w=>∃ b4:Nat,St 42 w0 F [(0,pt p0 0),(4,I 0),(5,pt b4 0),(7,I x4)] [box p0 103 [sv0],own sv0 111 7 l0.length (fl ab l0),box b4 56 [I 0,I 0,I 0,I 0,I 0,B0]] a w) ?_ ?_
 ·refine ak (ae (vM Z Z (vV (fp Z (fk _)) Z (al ?_))))
  refine ir H2 (fun c8 H2=>?_) fun c8 H2=>?_
  ·refine ap Z (bF c8) (aN ?_)
   cases H2
   exact vF [1,2,0] Z Z (vS [0,4,5,7] Z) fun a w h=>⟨_,h⟩
  refine aq Z c8 (ae (vM Z Z (vV (az Z Z (gt _ _ _) ) Z (vX Z Z (al ?_)))))
  cases H2
  exact vF [1,2,0] Z Z (vS [0,4,5,7] Z) fun a w h=>⟨_,h⟩
 ·refine aY fun b4=>?_
  let C3_:List HP:=[box p0 103 [sv0],own sv0 111 7 l0.length (fl ab l0),box b4 56 C0_]
  let C2_:List HP:=[box p0 103 [sv0],own sv0 111 7 l0.length (fl ab l0),box b4 56 [I 0,I 0,I 0,I 0,I 0,B0]]
  refine ak (ak (ae (vM Z Z ?_)))
  refine vV (az Z Z (eB (fun w=>rfl) Z (iU Try.underlying73 _ _))) Z ?_
  refine vM Z Z ?_
  refine av (aE Z) Z Z Z Z Z Z ?_
  refine av (az Z Z (cR _ _ _)) Z Z Z Z Z Z ?_
  refine vV (aU Z Z Z Z) Z (al ?_)
  refine fM H (fun c10 H=>?_) fun c10 H=>?_
  ·refine aq Z (dT c10) (ak ?_)
   refine bz 5 Z (fun D a w=>gu 42 w0 F [(0,pt p0 0),(4,(ni (D 2) (I 0) (I 0))),(5,pt b4 0),(7,I x4),(18,pt p0 0),(19,B0),(20,B0),(21,I x4),(22,bool (decide (x4 < 0))),(23,bool (decide (x4 < 0)))] [(0,24,I 0),(1,25,agg #[I 0,I 0,I 0,I 0,I 0,B0]),(4,6,B0)] D C2_ a w) (by kernel_rfl) (by kernel_rfl) (bH (vS [0,4,5,7,18,19,20,21,22,23] Z) Z) ?_ ?_
   ·refine ⟨?_,?_,?_,?_,?_,trivial⟩
    ·intro D hi hc U
     have n2:=nP 2 [] hc hi Z
     exact dV 0 Z Z Z Z (fun a=>(kQ (ρ':=[(0,pt p0 0),(4,I 0),(5,pt b4 0),(7,I x4),(18,pt p0 0),(19,B0),(20,B0),(21,I x4),(22,bool (decide (x4 < 0))),(23,bool (decide (x4 < 0)))]) (by simp only [C1_,C0_,C3_,C2_,n2,ni]))) (aE Z) Z Z Z Z
    ·exact fun D hi hc U=>dV 1 Z Z Z Z (fun a=>ac) (aL (vs:=[I 0,I 0,I 0,I 0,I 0,B0]) Z eU bJ (bb (i:=2) Z)) Z Z Z Z
    ·exact fun D hi hc U=>lF (i:=2) (t:=4) (v:=(I 0)) Z Z (bi Z) (fun a=>(hD 0 U Z Z Z Z ac)) (bT Z) Z Z Z
    ·exact fun D hi hc U=>fA (i:=3) (L2:=C2_) (L3:=C2_) Z Z (bi Z) (fun a=>(hD 1 U Z Z Z Z ac)) Z (by simp [C1_,C0_,C3_,C2_,up,cj]) (bl (cs:=[I 0,I 0,I 0,I 0,I 0,B0]) (cs':=[I 0,I 0,I 0,I 0,I 0,B0]) (us:=[I 0,I 0,I 0,I 0,I 0,B0]) (L':=C2_) 2 Z Z Z (bB Z) bJ Z Z (by simp [C1_,C0_,C3_,C2_]) Z) (fX Z)
    ·exact fun D hi hc U=>dV 2 Z Z Z Z (fun a=>ac) (bT Z) Z Z Z Z
   ·intro D hall
    refine bx C2_ Z (fun a=>(hC 2 Z (hall 4 (by decide)) (hC 0 Z (hall 0 (by decide)) (hC 1 Z (hall 1 (by decide)) (kQ (ρ':=[(0,pt p0 0),(4,I 0),(5,pt b4 0),(7,I x4),(18,pt p0 0),(19,B0),(20,B0),(21,I x4),(22,bool (decide (x4 < 0))),(23,bool (decide (x4 < 0)))]) (by simp only [C1_,C0_,C3_,C2_,hall 2 (by decide),ni])))))) ?_
    refine ay ?_
    first | (have e_:=Option.some.inj (show some _ = some _ from H); subst e_) | subst H
    exact cO [0,1] (by decide) Z (vs:=[I 0,agg #[I 0,I 0,I 0,I 0,I 0,B0],B0]) Z ⟨rfl,⟨⟨_,[I 0,I 0,I 0,I 0,I 0,B0],rfl,bb (i:=2) Z,.inl ⟨eU,bJ,rfl⟩⟩,⟨rfl,trivial⟩⟩⟩ _ Z ⟨rfl,rfl⟩
  refine ap Z (dF c10) (aN (ak ?_))
  obtain ⟨c11,H⟩:=gC H
  obtain ⟨c12,H⟩:=gC H
  refine bz 19 Z (fun D a w=>gu 42 w0 F [(0,pt p0 0),(5,pt b4 0),(7,I x4),(18,pt p0 0),(19,B0),(20,B0),(21,I x4),(22,bool (decide (x4 < 0))),(23,bool (decide (x4 < 0)))] [(0,26,pt p0 0),(1,27,pt p0 0),(2,28,pt p0 0),(3,29,sv0),(4,30,I x4),(5,31,(bK sv0 (x4.toNat * 7))),(6,32,(bK sv0 (x4.toNat * 7 + 0))),(7,33,I ((l0.getD x4.toNat ao).k)),(8,34,pt p0 0),(9,35,pt p0 0),(10,36,pt p0 0),(11,37,sv0),(12,38,I x4),(13,39,(bK sv0 (x4.toNat * 7))),(14,40,(bK sv0 (x4.toNat * 7 + 1))),(15,41,C1_),(16,4,I ((l0.getD x4.toNat ao).k)),(18,6,bool true)] D [box p0 103 [sv0],own sv0 111 7 l0.length (fl ab l0),cj (D 17) (box b4 56 C0_) (box b4 56 [I 0,I 0,I 0,I 0,I 0,B0])] a w) (by kernel_rfl) (by kernel_rfl) (bH (vS [0,5,7,18,19,20,21,22,23] Z) (by simp only [C1_,C0_,C3_,C2_,cj])) ?_ ?_
  ·refine ⟨?_,?_,?_,?_,?_,?_,?_,?_,?_,?_,?_,?_,?_,?_,?_,?_,?_,?_,?_,trivial⟩
   ·exact fun D hi hc U=>dV 0 Z Z Z Z (fun a=>ac) (aE Z) Z Z Z Z
   ·exact fun D hi hc U=>dV 1 Z Z Z Z (fun a=>(hD 0 U Z Z Z Z ac)) (bp Z) Z Z Z Z
   ·exact fun D hi hc U=>dV 2 Z Z Z Z (fun a=>(hD 1 U Z Z Z Z ac)) (ar (sz:=0) (o:=0) Z dr ef) Z Z Z Z
   ·exact fun D hi hc U=>dV 3 Z Z Z Z (fun a=>(hD 2 U Z Z Z Z ac)) (aQ (v:=sv0) Z fe (aG (i:=0) Z Z)) Z Z Z Z
   ·exact fun D hi hc U=>dV 4 Z Z Z Z (fun a=>ac) (aE Z) Z Z Z Z
   ·exact fun D hi hc U=>dV 5 Z Z Z Z (fun a=>(hD 4 U Z Z Z Z (hD 3 U Z Z Z Z ac))) (aX (sz:=6) 1 Z Z bC bY Z (aW 111) c11 c12) Z Z Z Z
   ·exact fun D hi hc U=>dV 6 Z Z Z Z (fun a=>(hD 5 U Z Z Z Z ac)) (bn (sz:=0) (k0:=x4.toNat * 7) (off:=0) 1 Z iJ bm Z (aW 111) (dM aR (bM c11 c12))) Z Z Z Z
   ·exact fun D hi hc U=>dV 7 Z Z Z Z (fun a=>(hD 6 U Z Z Z Z ac)) (aQ (v:=(I ((l0.getD x4.toNat ao).k))) Z bf (bt (i:=1) Z (aW 111) (by simp [C1_,C0_,C3_,C2_]) (dI (off:=0) aR (bM c11 c12) Z))) Z Z Z Z
   ·exact fun D hi hc U=>dV 8 Z Z Z Z (fun a=>ac) (aE Z) Z Z Z Z
   ·exact fun D hi hc U=>dV 9 Z Z Z Z (fun a=>(hD 8 U Z Z Z Z ac)) (bp Z) Z Z Z Z
   ·exact fun D hi hc U=>dV 10 Z Z Z Z (fun a=>(hD 9 U Z Z Z Z ac)) (ar (sz:=0) (o:=0) Z dr ef) Z Z Z Z
   ·exact fun D hi hc U=>dV 11 Z Z Z Z (fun a=>(hD 10 U Z Z Z Z ac)) (aQ (v:=sv0) Z fe (aG (i:=0) Z Z)) Z Z Z Z
   ·exact fun D hi hc U=>dV 12 Z Z Z Z (fun a=>ac) (aE Z) Z Z Z Z
   ·exact fun D hi hc U=>dV 13 Z Z Z Z (fun a=>(hD 12 U Z Z Z Z (hD 11 U Z Z Z Z ac))) (aX (sz:=6) 1 Z Z bC bY Z (aW 111) c11 c12) Z Z Z Z
   ·exact fun D hi hc U=>dV 14 Z Z Z Z (fun a=>(hD 13 U Z Z Z Z ac)) (bn (sz:=5) (k0:=x4.toNat * 7) (off:=1) 1 Z jt bJ Z (aW 111) (dM aR (bM c11 c12))) Z Z Z Z
   ·exact fun D hi hc U=>dV 15 Z Z Z Z (fun a=>(hD 14 U Z Z Z Z ac)) (aL (vs:=C0_) Z eU bJ (bt (i:=1) Z (aW 111) (by simp [C1_,C0_,C3_,C2_]) (dI (off:=1) aR (bM c11 c12) Z))) Z Z Z Z
   ·exact fun D hi hc U=>dV 16 Z Z Z Z (fun a=>(hD 7 U Z Z Z Z ac)) (bT Z) Z Z Z Z
   ·exact fun D hi hc U=>fA (i:=17) (L2:=C2_) (L3:=C3_) Z Z (bi Z) (fun a=>(hD 15 U Z Z Z Z ac)) (by simp only [C1_,C0_,C3_,C2_,hi,cj]) (by simp [C1_,C0_,C3_,C2_,up,cj]) (bl (cs:=[I 0,I 0,I 0,I 0,I 0,B0]) (cs':=C0_) (us:=C0_) (L':=C3_) 2 Z Z Z (bB Z) bJ Z Z (by simp [C1_,C0_,C3_,C2_]) Z) (fX Z)
   ·exact fun D hi hc U=>dV 17 Z Z Z Z (fun a=>ac) (bT Z) Z Z Z Z
  ·intro D hall
   refine bx C3_ (by simp only [C1_,C0_,C3_,C2_,hall 17 (by decide),cj]) (fun a=>(hC 16 Z (hall 16 (by decide)) (hC 17 Z (hall 18 (by decide)) (hC 0 Z (hall 0 (by decide)) (hC 1 Z (hall 1 (by decide)) (hC 2 Z (hall 2 (by decide)) (hC 3 Z (hall 3 (by decide)) (hC 4 Z (hall 4 (by decide)) (hC 5 Z (hall 5 (by decide)) (hC 6 Z (hall 6 (by decide)) (hC 7 Z (hall 7 (by decide)) (hC 8 Z (hall 8 (by decide)) (hC 9 Z (hall 9 (by decide)) (hC 10 Z (hall 10 (by decide)) (hC 11 Z (hall 11 (by decide)) (hC 12 Z (hall 12 (by decide)) (hC 13 Z (hall 13 (by decide)) (hC 14 Z (hall 14 (by decide)) (hC 15 Z (hall 15 (by decide)) ac))))))))))))))))))) ?_
   refine ay ?_
   first | (have e_:=Option.some.inj (show some _ = some _ from H); subst e_) | subst H
   exact cO [0,1] (by decide) Z (vs:=[I ((l0.getD x4.toNat ao).k),C1_,bool true]) Z ⟨rfl,⟨⟨_,C0_,rfl,bb (i:=2) Z,.inl ⟨eU,bJ,rfl⟩⟩,⟨rfl,trivial⟩⟩⟩ _ Z ⟨rfl,rfl⟩
theorem jU.spec (a0_0 a0_1 a1:Int) (r:Bool) (H:jU a0_0 a0_1 a1 = r):bk Try.prog 63 [agg #[I a0_0,I a0_1],I a1] [] (fun v M=>v = (bool r) ∧ M = []):=by
 unfold jU at H
 refine bj Try.func63 Z 34 Z (nL Z) fun F w0=>?_
 show bW (St 34 w0 F [(0,agg #[I a0_0,I a0_1]),(1,I a1)] []) _
 refine ak (ae ?_)
 refine aM (dZ (cs:=[I a0_0,I a0_1]) Z Z) Z Z Z ?_
 rintro _ _ ⟨b3,rfl,rfl⟩
 refine vX Z Z (al (ak (ae (vV (ar (sz:=0) (o:=0) Z iY jy) Z (vV (aQ (v:=(I a0_0)) Z jE (aG (i:=0) Z Z)) Z (vM Z Z ?_))))))
 obtain ⟨x4,h4,H⟩:=bq H
 refine aM (bs (first:=[]) (cap:=[]) (xs:=[.tmp 11,.tmp 12]) Z Z oj Z (jJ.spec a0_0 a1 _ h4)) Z Z Z ?_
 rintro _ _ ⟨rfl,rfl⟩
 refine vM Z Z (vV (aK Z Z) Z (vV (aK Z Z) Z ?_))
 refine aM (cC gE) Z Z Z ?_
 rintro _ _ ⟨b4,rfl,rfl⟩
 refine bD (bl (cs:=[I 0,I 0]) (cs':=[I x4.1,I x4.2.1]) (us:=[I x4.1,I x4.2.1]) (L':=[box b4 54 [I x4.1,I x4.2.1],box b3 54 [I a0_0,I a0_1]]) 0 Z Z Z (bB Z) cp Z Z (by simp) Z) Z Z ?_
 rintro _ _ rfl
 refine vX Z Z (al (ak (ak (ae (vM Z Z (vV (fp Z (fk _)) Z (al ?_)))))))
 refine ir H (fun c7 H=>?_) fun c7 H=>?_
 ·refine ap Z (bF c7) (aN (ak (ae (vV (aL (vs:=[I x4.1,I x4.2.1]) Z fc cp (bb (i:=0) Z)) Z (vV (aL (vs:=[I a0_0,I a0_1]) Z fc cp (bb (i:=1) Z)) Z (vV (az Z Z (tE _ _ _ _)) Z (vX Z Z (al (ay ?_)))))))))
  cases H
  refine vP [] Z Z ?_
  exact aZ Z Z ⟨rfl,rfl⟩
 refine aq Z c7 (ak (ae (vV (aL (vs:=[I a0_0,I a0_1]) Z fc cp (bb (i:=1) Z)) Z ?_)))
 obtain ⟨x6,h6,H⟩:=bq H
 refine aM (bs (first:=[]) (cap:=[]) (xs:=[.tmp 19]) Z Z lr Z (gO.spec a0_0 a0_1 _ h6)) Z Z Z ?_
 rintro _ _ ⟨rfl,rfl⟩
 refine vM Z Z (vV (aK Z Z) Z (vV (aK Z Z) Z (vX Z Z (vX Z Z (al (ak (ae (vM Z Z (vM Z Z (vV (az Z Z (iW _ _ _)) Z (vM Z Z ?_)))))))))))
 refine ir H (fun c8 H=>?_) fun c8 H=>?_
 ·refine aI Z Z Z (dF c8) Z Z ?_
  refine aI Z Z Z (dF c8) Z Z ?_
  refine aI Z Z Z (dF c8) Z Z ?_
  refine vV (aU Z Z Z (cw (dF c8))) Z (vX Z Z (al (ay ?_)))
  cases H
  refine vP [] Z Z ?_
  exact aZ Z Z ⟨rfl,rfl⟩
 refine av (aE Z) Z Z Z (dT c8) Z Z ?_
 refine av (aE Z) Z Z Z (dT c8) Z Z ?_
 refine av (az Z Z (cR _ _ _)) Z Z Z (dT c8) Z Z ?_
 refine vV (aU Z Z Z (cq (dT c8))) Z (vX Z Z (al (ay ?_)))
 cases H
 refine vP [] Z Z ?_
 exact aZ Z Z ⟨rfl,rfl⟩
theorem eZ.spec (K p0 p1:Nat) (sv0:Value) (l0:List ah) (a1:Int) (r:(Int × Int × Int × Int × Int × Bool × Bool)) (H:eZ K l0 a1 = some r):bk Try.prog 46 [pt p0 0,I a1] [box p0 76 [pt p1 0],box p1 103 [sv0],own sv0 111 7 l0.length (fl ab l0)] (fun v M=>v = (tU #[agg #[I r.1,I r.2.1,I r.2.2.1,I r.2.2.2.1,I r.2.2.2.2.1,bool r.2.2.2.2.2.1],bool r.2.2.2.2.2.2]) ∧ M = [box p0 76 [pt p1 0],box p1 103 [sv0],own sv0 111 7 l0.length (fl ab l0)]):=by
 unfold eZ at H
 refine bj Try.func46 Z 30 Z (nL Z) fun F w0=>?_
 show bW (St 30 w0 F [(0,pt p0 0),(1,I a1)] [box p0 76 [pt p1 0],box p1 103 [sv0],own sv0 111 7 l0.length (fl ab l0)]) _
 refine ak (ae ?_)
 refine aM (cC eW) Z Z Z ?_
 rintro _ _ ⟨b2,rfl,rfl⟩
 let C1_:List HP:=[box b2 56 [I 0,I 0,I 0,I 0,I 0,B0],box p0 76 [pt p1 0],box p1 103 [sv0],own sv0 111 7 l0.length (fl ab l0)]
 refine vX Z Z (al (ak (ak (ae (vM Z Z ?_)))))
 refine vV (az Z Z (eB (fun w=>rfl) Z (iU Try.underlying50 _ _))) Z ?_
 refine al (ap Z Z (aN (ak (ae (vM Z Z (vV (bp Z) Z (vV (ar (sz:=0) (o:=0) Z gF ie) Z (vV (aQ (v:=(pt p1 0)) Z fK (aG (i:=1) Z Z)) Z (vM Z Z ?_)))))))))
 obtain ⟨x4,h4,H⟩:=oB H
 let C0_:List Value:=[I x4.2.1,I x4.2.2.1,I x4.2.2.2.1,I x4.2.2.2.2.1,I x4.2.2.2.2.2.1,bool x4.2.2.2.2.2.2.1]
 let C2_:List HP:=[box b2 56 C0_,box p0 76 [pt p1 0],box p1 103 [sv0],own sv0 111 7 l0.length (fl ab l0)]
 refine aM (bV (Lr:=[box b2 56 [I 0,I 0,I 0,I 0,I 0,B0],box p0 76 [pt p1 0]]) [2,3,0,1] [2,3,0,1] (first:=[]) (cap:=[]) (xs:=[.tmp 13,.tmp 14]) Z Z rq Z (cG.spec K p1 sv0 l0 a1 _ h4) (by decide) Z (by decide) Z) Z Z Z ?_
 rintro _ _ ⟨rfl,rfl⟩
 refine vM Z Z (vV (aK Z Z) Z (vV (aK Z Z) Z (vV (aK Z Z) Z ?_)))
 refine bD (bl (cs:=[I 0,I 0,I 0,I 0,I 0,B0]) (cs':=C0_) (us:=C0_) (L':=C2_) 0 Z Z Z (bB Z) bJ Z Z (by simp [C1_,C0_,C2_]) Z) Z Z ?_
 rintro _ _ rfl
 refine vX Z Z (al (ak (ak (ae (vM Z Z (vV (fp Z (fk _)) Z (vM Z Z ?_)))))))
 refine fM H (fun c7 H=>?_) fun c7 H=>?_
 ·refine aI Z Z Z c7 Z Z ?_
  refine aI Z Z Z c7 Z Z ?_
  refine aI Z Z Z c7 Z Z ?_
  refine aI Z Z Z c7 Z Z ?_
  refine aI Z Z Z c7 Z Z ?_
  refine vV (aU Z Z Z (cq c7)) Z (al (aq Z Z (ak (ae (vV (ca (is:=[]) (xs:=[]) (vs:=[]) Z Z (bo (cs:=[I 0,I 0,I 0,I 0,I 0,B0]) eW jr Z)) Z ?_)))))
  refine bD (bl (cs:=C0_) (cs':=[I 0,I 0,I 0,I 0,I 0,B0]) (us:=[I 0,I 0,I 0,I 0,I 0,B0]) (L':=C1_) 0 Z Z Z (bB Z) bJ Z Z (by simp [C1_,C0_,C2_]) Z) Z Z ?_
  rintro _ _ rfl
  refine vX Z Z (al (ay ?_))
  first | (have e_:=Option.some.inj (show some _ = some _ from H); subst e_) | subst H
  exact cO [1,2,3] (by decide) Z (vs:=[agg #[I 0,I 0,I 0,I 0,I 0,B0],B0]) Z ⟨⟨_,[I 0,I 0,I 0,I 0,I 0,B0],rfl,bb (i:=0) Z,.inl ⟨eU,bJ,rfl⟩⟩,⟨rfl,trivial⟩⟩ _ Z ⟨rfl,rfl⟩
 refine av (ar (sz:=1) (o:=0) Z iX cp) Z Z Z (bF c7) Z Z ?_
 refine av (aL (vs:=[I x4.2.1,I x4.2.2.1]) Z fc cp (dQ (i:=0) Z Z)) Z Z Z (bF c7) Z Z ?_
 refine av (aE Z) Z Z Z (bF c7) Z Z ?_
 obtain ⟨x6,h6,H⟩:=bq H
 refine fh (bs (first:=[]) (cap:=[]) (xs:=[.tmp 23,.tmp 24]) Z Z rf Z (jU.spec x4.2.1 x4.2.2.1 a1 _ h6)) Z Z Z (bF c7) Z Z ?_
 rintro _ _ ⟨rfl,rfl⟩
 refine av (fp Z (fk _)) Z Z Z (bF c7) Z Z ?_
 refine vV (aU Z Z Z (cw (bF c7))) Z (al ?_)
 refine fM H (fun c8 H=>?_) fun c8 H=>?_
 ·refine aq Z c8 (ak (ae (vV (ca (is:=[]) (xs:=[]) (vs:=[]) Z Z (bo (cs:=[I 0,I 0,I 0,I 0,I 0,B0]) eW jr Z)) Z ?_)))
  refine bD (bl (cs:=C0_) (cs':=[I 0,I 0,I 0,I 0,I 0,B0]) (us:=[I 0,I 0,I 0,I 0,I 0,B0]) (L':=C1_) 0 Z Z Z (bB Z) bJ Z Z (by simp [C1_,C0_,C2_]) Z) Z Z ?_
  rintro _ _ rfl
  refine vX Z Z (al (ay ?_))
  first | (have e_:=Option.some.inj (show some _ = some _ from H); subst e_) | subst H
  exact cO [1,2,3] (by decide) Z (vs:=[agg #[I 0,I 0,I 0,I 0,I 0,B0],B0]) Z ⟨⟨_,[I 0,I 0,I 0,I 0,I 0,B0],rfl,bb (i:=0) Z,.inl ⟨eU,bJ,rfl⟩⟩,⟨rfl,trivial⟩⟩ _ Z ⟨rfl,rfl⟩
 refine ap Z (bF c8) (aN (ak (ae (vV (aL (vs:=C0_) Z eU bJ (bb (i:=0) Z)) Z ?_))))
 refine bD (bl (cs:=C0_) (cs':=C0_) (us:=C0_) (L':=C2_) 0 Z Z Z (bB Z) bJ Z Z (by simp [C1_,C0_,C2_]) Z) Z Z ?_
 rintro _ _ rfl
 refine vX Z Z (al (ay ?_))
 first | (have e_:=Option.some.inj (show some _ = some _ from H); subst e_) | subst H
 exact cO [1,2,3] (by decide) Z (vs:=[agg #[I x4.2.1,I x4.2.2.1,I x4.2.2.2.1,I x4.2.2.2.2.1,I x4.2.2.2.2.2.1,bool x4.2.2.2.2.2.2.1],bool true]) Z ⟨⟨_,C0_,rfl,bb (i:=0) Z,.inl ⟨eU,bJ,rfl⟩⟩,⟨rfl,trivial⟩⟩ _ Z ⟨rfl,rfl⟩
theorem du.spec (sv0:Value) (A0:HP) (l0:List ah) (hA0:dW A0 sv0 l0.length 7 (fl ab l0)) (r:Unit) (H:du l0 = r):bk Try.prog 71 [sv0] [A0] (fun v M=>∃ b2:Nat,v = (Value.func (.func 81) #[] #[pt b2 0]) ∧ M = [A0,box b2 101 [sv0]]):=by
 unfold du at H
 refine bj Try.func71 Z 4 Z (nL Z) fun F w0=>?_
 show bW (St 4 w0 F [(0,sv0)] [A0]) _
 refine ak (ae ?_)
 refine aM (tQ 0 Z Z hA0) Z Z Z ?_
 rintro _ _ ⟨b3,rfl,rfl⟩
 refine vX Z Z (al (ak (ae (vV (jp (first:=[]) (cap:=[.tmp 1]) Z Z) Z (vX Z Z (al (ay ?_)))))))
 cases H
 refine vP [1,0] Z Z ?_
 exact aZ Z Z ⟨_,rfl,rfl⟩
theorem cJ.spec (K p0:Nat) (sv0:Value) (l0:List ah) (a1 a2:Int) (r:List ah) (H:cJ K l0 a1 a2 = some r):bk Try.prog 53 [pt p0 0,I a1,I a2] [box p0 103 [sv0],own sv0 111 7 l0.length (fl ab l0)] (fun v M=>∃ b4:Nat,∃ sv1:Value,dW (own sv0 111 7 l0.length (fl ab l0)) sv1 r.length 7 (fl ab r) ∧ v = (Value.func (.func 81) #[] #[pt b4 0]) ∧ M = [box p0 103 [sv0],own sv0 111 7 l0.length (fl ab l0),box b4 101 [sv1]]):=by
 unfold cJ at H
 refine bj Try.func53 Z 35 Z (nL Z) fun F w0=>?_
 let C0_:List HP:=[box p0 103 [sv0],own sv0 111 7 l0.length (fl ab l0)]
 show bW (St 35 w0 F [(0,pt p0 0),(1,I a1),(2,I a2)] C0_) _
 refine ak (ae (vX Z Z (al (ak (ae (vM Z Z (vM Z Z ?_)))))))
 obtain ⟨x3,h6,H⟩:=oB H
 refine aM (bV (Lr:=[]) [0,1] [0,1] (first:=[]) (cap:=[]) (xs:=[.tmp 12,.tmp 13]) Z Z kw Z (br.spec K p0 sv0 l0 a1 _ h6) (by decide) Z (by decide) Z) Z Z Z ?_
 rintro _ _ ⟨rfl,rfl⟩
 refine vM Z Z (vV (aK Z Z) Z (vV (aK Z Z) Z (vX Z Z (vX Z Z (al (ak (ae (vM Z Z (vM Z Z ?_)))))))))
 obtain ⟨x4,h7,H⟩:=oB H
 refine aM (bV (Lr:=[]) [0,1] [0,1] (first:=[]) (cap:=[]) (xs:=[.tmp 18,.tmp 19]) Z Z kw Z (br.spec K p0 sv0 l0 a2 _ h7) (by decide) Z (by decide) Z) Z Z Z ?_
 rintro _ _ ⟨rfl,rfl⟩
 refine vM Z Z (vV (aK Z Z) Z (vV (aK Z Z) Z (vX Z Z (vX Z Z (al (ak (ak (ae (vM Z Z (vM Z Z (vV (az Z Z (iW _ _ _)) Z ?_)))))))))))
 refine al ?_
 refine fM H (fun c7 H=>?_) fun c7 H=>?_
 ·refine aq Z (dT c7) (ak (ae ?_))
  obtain ⟨u5,h9,H⟩:=bq H
  refine aM (bO (Lr:=C0_) (first:=[]) (cap:=[]) (xs:=[.const L0]) Z Z lz Z (co.spec _ h9) Z) Z Z Z ?_
  rintro _ _ ⟨_,⟨b6,rfl,rfl⟩,rfl⟩
  refine vX Z Z (al (ay ?_))
  cases H
  refine vP [1,2,0] Z Z ?_
  exact aZ Z Z ⟨_,_,(ri _ _),rfl,rfl⟩
 refine ap Z (dF c7) (aN (ak (ae (vM Z Z (vV (bp Z) Z (vV (ar (sz:=0) (o:=0) Z dr ef) Z (vV (aQ (v:=sv0) Z fe (aG (i:=0) Z Z)) Z (vM Z Z (vM Z Z ?_)))))))))
 obtain ⟨c8,H⟩:=gC H
 obtain ⟨c9,H⟩:=gC H
 obtain ⟨c10,H⟩:=gC H
 refine vV (no 1 Z Z Z bC bY Z (aW 111) c8 c9 c10) Z ?_
 obtain ⟨u6,h10,H⟩:=bq H
 refine vP [1,0] Z Z ?_
 refine aM (bO (Lr:=[box p0 103 [sv0]]) (first:=[]) (cap:=[]) (xs:=[.tmp 33]) Z Z lz Z (du.spec (eO sv0 x3.2.toNat x4.2.toNat 7) (own sv0 111 7 l0.length (fl ab l0)) ((l0.drop x3.2.toNat).take (x4.2.toNat - x3.2.toNat)) (ki aR (aW 111) (ox c8 c9) (fy (Int.le_trans c8 c9) c10)) _ h10) Z) Z Z Z ?_
 rintro _ _ ⟨_,⟨b7,rfl,rfl⟩,rfl⟩
 refine vX Z Z (al (ay ?_))
 cases H
 refine vP [2,0,1] Z Z ?_
 exact aZ Z Z ⟨_,_,(ki aR (aW 111) (ox c8 c9) (fy (Int.le_trans c8 c9) c10)),rfl,rfl⟩
theorem da.spec (K yl0 p0:Nat) (sv0:Value) (A0:HP) (Gm0:Type) (y0:Int → aA → Gm0 → Option (Gm0 × Bool)) (x0y:Gm0) (l0:List ah) (Y0:Gm0 → HP) (hY0:∀ (t0_:Int) (t1_:aA) (z_:Gm0) (r_:Gm0 × Bool),y0 t0_ t1_ z_ = some r_ → kS Try.prog yl0 [I t0_,agg #[I t1_.Part.Tier,I t1_.Part.Index,I t1_.Seg,I t1_.Mark,I t1_.Rows,bool t1_.Cold]] [Y0 z_] (fun v N=>v = .bool r_.2 ∧ N = [Y0 r_.1])) (hA0:dW A0 sv0 l0.length 7 (fl ab l0)) (r:Gm0) (H:da K Gm0 y0 x0y l0 = some r):bk Try.prog 81 [(Value.func (.yield yl0) #[] #[]),pt p0 0] [(Y0 x0y),box p0 101 [sv0],A0] (fun v M=>v = (tU #[]) ∧ M = [(Y0 r),box p0 101 [sv0],A0]):=by
 unfold da at H
 refine bj Try.func81 Z 19 Z (nL Z) fun F w0=>?_
 show bW (St 19 w0 F [(0,(Value.func (.yield yl0) #[] #[])),(1,pt p0 0)] [(Y0 x0y),box p0 101 [sv0],A0]) _
 refine ak (ae (vV (aQ (v:=sv0) Z fe (aG (i:=1) Z Z)) Z (vV (cD 2 Z bC Z hA0) Z (vM Z Z (al (ba ?_))))))
 refine dp (fun k a w=>∃ i2,∃ l3,cB K Gm0 y0 l0 k i2 l3 = some r ∧ St 19 w0 F [(0,(Value.func (.yield yl0) #[] #[])),(5,sv0),(6,I (l0.length:Int)),(7,I i2)] [(Y0 l3),box p0 101 [sv0],A0] a w) K ?_ ?_
 ·exact vF [0,1,2] Z Z (vS [0,5,6,7] Z) fun a w h=>⟨_,_,H,h⟩
 ·refine fun k=>aY fun i2=>aY fun l3=>cd fun H2=>?_
  let C0_:List Value:=[I ((l0.getD i2.toNat ao).k),I ((((l0.getD i2.toNat ao).v).Part).Tier),I ((((l0.getD i2.toNat ao).v).Part).Index),I (((l0.getD i2.toNat ao).v).Seg),I (((l0.getD i2.toNat ao).v).Mark),I (((l0.getD i2.toNat ao).v).Rows),bool (((l0.getD i2.toNat ao).v).Cold)]
  cases k with
  | zero=>exact absurd H2 (by simp [C0_,cB])
  | succ k =>
   rw [cB] at H2
   refine ak (ae (vV (az Z Z (cR _ _ _)) Z (al (ak ?_))))
   refine ir H2 (fun c28 H2=>?_) fun c28 H2=>?_
   ·refine ap Z (dF c28) (cn ?_)
    cases H2
    refine kF ?_
    refine vP [0,1,2] Z Z ?_
    exact ld Z ⟨rfl,rfl⟩
   refine aq Z (dT c28) (aN (ak (ba (ak (ae ?_)))))
   obtain ⟨c31,H2⟩:=gC H2
   refine vV (aX (sz:=6) 2 Z Z bC bY Z hA0 c31 c28) Z ?_
   refine vV (aL (vs:=C0_) Z rY bY (bt (i:=2) Z hA0 (by simp [C0_]) (eK aR (bM c31 c28) Z))) Z ?_
   refine aM (cC gA) Z Z Z ?_
   rintro _ _ ⟨b12,rfl,rfl⟩
   refine bD (bl (cs:=[I 0,I 0,I 0,I 0,I 0,I 0,B0]) (cs':=C0_) (us:=C0_) (L':=[box b12 111 C0_,(Y0 l3),box p0 101 [sv0],A0]) 0 Z Z Z (bB Z) bY Z Z (by simp [C0_]) Z) Z Z ?_
   rintro _ _ rfl
   refine al (ak (ae (vM Z Z (vV (ar (sz:=0) (o:=0) Z iJ bm) Z (vV (aQ (v:=(I ((l0.getD i2.toNat ao).k))) Z bf (aG (i:=0) Z Z)) Z (vV (ar (sz:=5) (o:=0) Z jt bJ) Z (vV (aL (vs:=[I ((((l0.getD i2.toNat ao).v).Part).Tier),I ((((l0.getD i2.toNat ao).v).Part).Index),I (((l0.getD i2.toNat ao).v).Seg),I (((l0.getD i2.toNat ao).v).Mark),I (((l0.getD i2.toNat ao).v).Rows),bool (((l0.getD i2.toNat ao).v).Cold)]) Z eU bJ (dQ (i:=0) Z Z)) Z ?_)))))))
   obtain ⟨x12,h12,H2⟩:=oB H2
   refine vP [1,0,2,3] Z Z ?_
   refine qA (oR (vs:=[I ((l0.getD i2.toNat ao).k),agg #[I ((((l0.getD i2.toNat ao).v).Part).Tier),I ((((l0.getD i2.toNat ao).v).Part).Index),I (((l0.getD i2.toNat ao).v).Seg),I (((l0.getD i2.toNat ao).v).Mark),I (((l0.getD i2.toNat ao).v).Rows),bool (((l0.getD i2.toNat ao).v).Cold)]]) (Lp:=[(Y0 l3)]) (Lr:=[box b12 111 C0_,box p0 101 [sv0],A0]) Z Z (hY0 _ _ _ _ h12) Z) Z Z Z ?_
   rintro _ _ ⟨_,⟨rfl,rfl⟩,rfl⟩
   refine vV (fp Z (fk _)) Z (al ?_)
   refine fM H2 (fun c32 H2=>?_) fun c32 H2=>?_
   ·refine aq Z c32 (ay ?_)
    cases H2
    refine vP [0,2,3] Z Z ?_
    exact ld Z ⟨rfl,rfl⟩
   refine ap Z (bF c32) (aN (ae (vV (az Z Z (cK _ _ _) ) Z (vM Z Z (al ?_)))))
   exact vF [0,2,3] Z Z (vS [0,5,6,7] Z) fun a w h=>⟨k,Nat.lt_succ_self k,_,_,H2,h⟩
theorem dz.spec (K p0 p1:Nat) (sv0:Value) (l0:List ah) (a1 a2:Int) (r:List aA) (H:dz K l0 a1 a2 = some r):bk Try.prog 33 [pt p0 0,I a1,I a2] [box p0 76 [pt p1 0],box p1 103 [sv0],own sv0 111 7 l0.length (fl ab l0)] (fun v M=>∃ sv23:Value,v = sv23 ∧ M = [box p0 76 [pt p1 0],box p1 103 [sv0],own sv0 111 7 l0.length (fl ab l0),own sv23 56 6 r.length (fl be r)]):=by
 unfold dz at H
 refine bj Try.func33 Z 46 Z (nL Z) fun F w0=>?_
 show bW (St 46 w0 F [(0,pt p0 0),(1,I a1),(2,I a2)] [box p0 76 [pt p1 0],box p1 103 [sv0],own sv0 111 7 l0.length (fl ab l0)]) _
 refine ak (ae ?_)
 refine aM (dZ (cs:=[I a1]) Z Z) Z Z Z ?_
 rintro _ _ ⟨b20,rfl,rfl⟩
 refine aM (cC rg) Z Z Z ?_
 rintro _ _ ⟨b21,rfl,rfl⟩
 refine al (lC (ak (ak (ae (vM Z Z ?_)))))
 refine vV (az Z Z (eB (fun w=>rfl) Z (iU Try.underlying50 _ _))) Z ?_
 refine vM Z Z ?_
 refine av (aQ (v:=(I a1)) Z bf (aG (i:=1) Z Z)) Z Z Z Z Z Z ?_
 refine av (aE Z) Z Z Z Z Z Z ?_
 refine av (az Z Z (iW _ _ _)) Z Z Z Z Z Z ?_
 refine vV (aU Z Z Z Z) Z (al ?_)
 refine fM H (fun c26 H=>?_) fun c26 H=>?_
 ·refine aq Z (dT c26) (ak (ae ?_))
  refine bD (bl (cs:=[L0]) (cs':=[L0]) (us:=[L0]) (L':=[box b21 57 [L0],box b20 2 [I a1],box p0 76 [pt p1 0],box p1 103 [sv0],own sv0 111 7 l0.length (fl ab l0)]) 0 Z Z Z (bB Z) jw Z Z (by simp) Z) Z Z ?_
  rintro _ _ rfl
  refine al (ay ?_)
  first | (have e_:=Option.some.inj (show some _ = some _ from H); subst e_) | subst H
  refine cF 56 6 ?_
  exact cO [3,4,5,0] (by decide) Z (vs:=[L0]) Z ⟨⟨_,[L0],rfl,aG (i:=1) Z Z,.inr ⟨jC,rfl⟩⟩,trivial⟩ _ Z ⟨_,rfl,rfl⟩
 refine ap Z (dF c26) (aN ?_)
 obtain ⟨x10,H2,H⟩:=oB H
 refine dv (fun a w=>∃ sv26:Value,∃ b23:Nat,∃ b24:Nat,St 46 w0 F [(0,pt p0 0),(2,I a2),(4,pt b23 0),(6,pt b24 0)] [box p0 76 [pt p1 0],box p1 103 [sv0],own sv0 111 7 l0.length (fl ab l0),box b23 2 [I a1],box b24 57 [sv26],own sv26 56 6 x10.length (fl be x10)] a w) ?_ ?_
 ·refine ak (ae (vM Z Z (vV (aQ (v:=(I a1)) Z bf (aG (i:=1) Z Z)) Z ?_)))
  obtain ⟨x11,h9,H2⟩:=oB H2
  let C1_:List Value:=[I x11.1,I x11.2.1,I x11.2.2.1,I x11.2.2.2.1,I x11.2.2.2.2.1,bool x11.2.2.2.2.2.1]
  refine aM (bV (Lr:=[box b21 57 [L0],box b20 2 [I a1]]) [2,3,4,0,1] [3,4,0,1,2] (first:=[]) (cap:=[]) (xs:=[.tmp 19,.tmp 20]) Z Z qR Z (eZ.spec K p0 p1 sv0 l0 a1 _ h9) (by decide) Z (by decide) Z) Z Z Z ?_
  rintro _ _ ⟨rfl,rfl⟩
  refine vM Z Z (vV (aK Z Z) Z (vV (aK Z Z) Z ?_))
  refine aM (cC eW) Z Z Z ?_
  rintro _ _ ⟨b25,rfl,rfl⟩
  refine bD (bl (cs:=[I 0,I 0,I 0,I 0,I 0,B0]) (cs':=C1_) (us:=C1_) (L':=[box b25 56 C1_,box b21 57 [L0],box b20 2 [I a1],box p0 76 [pt p1 0],box p1 103 [sv0],own sv0 111 7 l0.length (fl ab l0)]) 0 Z Z Z (bB Z) bJ Z Z (by simp [C1_]) Z) Z Z ?_
  rintro _ _ rfl
  refine vX Z Z (al (ak (ae (vM Z Z (al ?_)))))
  refine ir H2 (fun c29 H2=>?_) fun c29 H2=>?_
  ·refine ap Z (bF c29) (aN ?_)
   cases H2
   refine cF 56 6 ?_
   exact vF [4,5,6,3,2,0] Z Z (vS [0,2,4,6] Z) fun a w h=>⟨_,_,_,h⟩
  refine aq Z c29 (ae (vV (aQ (v:=L0) Z jC (aG (i:=1) Z Z)) Z (vV (aL (vs:=C1_) Z eU bJ (bb (i:=0) Z)) Z ?_)))
  refine aM (cA (sz:=5) (xs:=[.tmp 26]) (cs:=fl be [(⟨(⟨x11.1,x11.2.1⟩:aO),x11.2.2.1,x11.2.2.2.1,x11.2.2.2.2.1,x11.2.2.2.2.2.1⟩:aA)]) Z Z gd bJ eW Z Z (fi Z) Z (by decide)) Z Z Z ?_
  rintro sv27 _ rfl
  refine cF 56 6 ?_
  obtain ⟨c30,H2⟩:=gC H2
  refine aM (dK (sz:=5) (xs:=([]:List aA)) (ys:=[(⟨(⟨x11.1,x11.2.1⟩:aO),x11.2.2.1,x11.2.2.2.1,x11.2.2.2.2.1,x11.2.2.2.2.2.1⟩:aA)]) 0 1 Z Z gd bJ eW Z mV Z Z Z (aW 56) Z jo c30) Z Z Z ?_
  rintro sv28 _ rfl
  refine gX [own sv28 56 6 (([]:List aA) ++ [(⟨(⟨x11.1,x11.2.1⟩:aO),x11.2.2.1,x11.2.2.2.1,x11.2.2.2.2.1,x11.2.2.2.2.2.1⟩:aA)]).length (fl be (([]:List aA) ++ [(⟨(⟨x11.1,x11.2.1⟩:aO),x11.2.2.1,x11.2.2.2.1,x11.2.2.2.2.1,x11.2.2.2.2.2.1⟩:aA)])),own sv27 56 6 [(⟨(⟨x11.1,x11.2.1⟩:aO),x11.2.2.1,x11.2.2.2.1,x11.2.2.2.2.1,x11.2.2.2.2.2.1⟩:aA)].length (fl be [(⟨(⟨x11.1,x11.2.1⟩:aO),x11.2.2.1,x11.2.2.2.1,x11.2.2.2.2.1,x11.2.2.2.2.2.1⟩:aA)]),box b25 56 C1_,box b21 57 [L0],box b20 2 [I a1],box p0 76 [pt p1 0],box p1 103 [sv0],own sv0 111 7 l0.length (fl ab l0)] Z ?_
  refine bD (fu (cs:=[L0]) (cs':=[sv28]) (sv:=sv28) (L':=[own sv28 56 6 (([]:List aA) ++ [(⟨(⟨x11.1,x11.2.1⟩:aO),x11.2.2.1,x11.2.2.2.1,x11.2.2.2.2.1,x11.2.2.2.2.2.1⟩:aA)]).length (fl be (([]:List aA) ++ [(⟨(⟨x11.1,x11.2.1⟩:aO),x11.2.2.1,x11.2.2.2.1,x11.2.2.2.2.1,x11.2.2.2.2.2.1⟩:aA)])),own sv27 56 6 [(⟨(⟨x11.1,x11.2.1⟩:aO),x11.2.2.1,x11.2.2.2.1,x11.2.2.2.2.1,x11.2.2.2.2.2.1⟩:aA)].length (fl be [(⟨(⟨x11.1,x11.2.1⟩:aO),x11.2.2.1,x11.2.2.2.1,x11.2.2.2.2.1,x11.2.2.2.2.2.1⟩:aA)]),box b25 56 C1_,box b21 57 [sv28],box b20 2 [I a1],box p0 76 [pt p1 0],box p1 103 [sv0],own sv0 111 7 l0.length (fl ab l0)]) 3 0 Z Z jw Z Z (aW 56) Z (by simp [C1_]) Z) Z Z ?_
  rintro _ _ rfl
  refine al ?_
  cases H2
  exact vF [5,6,7,4,3,0] Z Z (vS [0,2,4,6] Z) fun a w h=>⟨_,_,_,h⟩
 ·refine aY fun sv26=>aY fun b23=>aY fun b24=>?_
  let C2_:List HP:=[box p0 76 [pt p1 0],box p1 103 [sv0],own sv0 111 7 l0.length (fl ab l0),box b23 2 [I a1],box b24 57 [sv26],own sv26 56 6 x10.length (fl be x10)]
  refine ak (lw (ak (ak ?_)))
  obtain ⟨x14,h12,H⟩:=oB H
  let Z4_A:(Nat → Bool) → Act → World → Prop:=(fun D a w=>gu 46 w0 F [(0,pt p0 0),(2,I a2),(4,pt b23 0),(6,pt b24 0)] [(0,29,pt p0 0),(1,30,pt p0 0),(2,31,pt p0 0),(3,32,pt p1 0),(4,33,I a1),(5,34,I a2)] D C2_ a w)
  let Z4_B:Act → World → Prop:=(fun a w=>∃ b32:Nat,∃ sv37:Value,dW (own sv0 111 7 l0.length (fl ab l0)) sv37 x14.length 7 (fl ab x14) ∧ St 46 w0 F [(0,pt p0 0),(2,I a2),(4,pt b23 0),(6,pt b24 0),(29,pt p0 0),(30,pt p0 0),(31,pt p0 0),(32,pt p1 0),(33,I a1),(34,I a2),(35,(Value.func (.func 81) #[] #[pt b32 0]))] [box p1 103 [sv0],own sv0 111 7 l0.length (fl ab l0),box b32 101 [sv37],box p0 76 [pt p1 0],box b23 2 [I a1],box b24 57 [sv26],own sv26 56 6 x10.length (fl be x10)] a w)
  refine bz 7 Z (nG 6 Z4_A Z4_B) (by kernel_rfl) (by kernel_rfl) (lD (bH (vS [0,2,4,6] Z) Z)) ?_ ?_
  ·refine ⟨?_,?_,?_,?_,?_,?_,?_,trivial⟩
   ·exact nQ 6 [3,2,1] Z Z fun D hi hc U _=>dV 0 Z Z Z Z (fun a=>ac) (aE Z) Z Z Z Z
   ·exact nQ 6 [3,2] Z Z fun D hi hc U _=>dV 1 Z Z Z Z (fun a=>(hD 0 U Z Z Z Z ac)) (bp Z) Z Z Z Z
   ·exact nQ 6 [3] Z Z fun D hi hc U _=>dV 2 Z Z Z Z (fun a=>(hD 1 U Z Z Z Z ac)) (ar (sz:=0) (o:=0) Z gF ie) Z Z Z Z
   ·exact nQ 6 [] Z Z fun D hi hc U _=>dV 3 Z Z Z Z (fun a=>(hD 2 U Z Z Z Z ac)) (aQ (v:=(pt p1 0)) Z fK (aG (i:=0) Z Z)) Z Z Z Z
   ·exact nQ 6 [] Z Z fun D hi hc U _=>dV 4 Z Z Z Z (fun a=>ac) (aQ (v:=(I a1)) Z bf (aG (i:=3) Z Z)) Z Z Z Z
   ·exact nQ 6 [] Z Z fun D hi hc U _=>dV 5 Z Z Z Z (fun a=>ac) (aE Z) Z Z Z Z
   ·intro D hi hc U
    refine mX (m:=6) (A:=Z4_A) (B:=Z4_B) hi ?_
    have hall:=dA 6 U Z
    refine bx C2_ Z (hL hall Z) ?_
    refine vP [1,2,0,3,4,5] Z Z ?_
    refine oJ Z Z Z Z (bO (Lr:=[box p0 76 [pt p1 0],box b23 2 [I a1],box b24 57 [sv26],own sv26 56 6 x10.length (fl be x10)]) (first:=[]) (cap:=[]) (xs:=[.tmp 32,.tmp 33,.tmp 34]) Z Z rm Z (cJ.spec K p1 sv0 l0 a1 a2 _ h12) Z) ?_
    rintro _ _ ⟨_,⟨b32,sv37,hr5,rfl,rfl⟩,rfl⟩
    exact vF [0,1,2,3,4,5,6] Z Z (vS [0,2,4,6,29,30,31,32,33,34,35] Z) fun a w h=>⟨_,_,hr5,h⟩
  ·intro D hall
   refine oo (A:=Z4_A) (B:=Z4_B) (hall 6 (by decide)) ?_
   refine aY fun b32=>aY fun sv37=>cd fun hr5=>?_
   refine ba ?_
   obtain ⟨x15,h13,H⟩:=oB H
   refine mz (γ:=List aA) (cap:=[pt b32 0]) (Lg:=[box b32 101 [sv37],own sv0 111 7 l0.length (fl ab l0)]) (M0:=[box p0 76 [pt p1 0],box b23 2 [I a1],box b24 57 [sv26],own sv26 56 6 x10.length (fl be x10),box p1 103 [sv0]]) (x0:=x10) (x1:=x15) (fun (z4:List aA) M=>∃ sv40:Value,M = [box p0 76 [pt p1 0],box b23 2 [I a1],box b24 57 [sv40],own sv40 56 6 z4.length (fl be z4),box p1 103 [sv0]]) (fun vs z_ r_=>∃ t0_:Int,∃ t1_:aA,vs = [I t0_,agg #[I t1_.Part.Tier,I t1_.Part.Index,I t1_.Seg,I t1_.Mark,I t1_.Rows,bool t1_.Cold]] ∧ eQ K a1 t0_ t1_ z_ = some r_) [2,1,3,4,5,6,0] Z Z (by decide) Z (by decide) ⟨_,rfl⟩ ?_ ?_ ?_
   ·rintro l _ z4 r _ ⟨t0_,t1_,rfl,Hl⟩ ⟨sv40,rfl⟩
    let C3_:Value:=agg #[I t1_.Part.Tier,I t1_.Part.Index,I t1_.Seg,I t1_.Mark,I t1_.Rows,bool t1_.Cold]
    let C0_:List Value:=[I t1_.Part.Tier,I t1_.Part.Index,I t1_.Seg,I t1_.Mark,I t1_.Rows,bool t1_.Cold]
    unfold eQ at Hl
    refine ⟨rfl,Nat,fun g_=>[(4,pt b23 0),(6,pt b24 0),(9,I t0_),(10,pt g_ 0),(36,I t0_),(37,C3_)],fun g_=>[box g_ 56 C0_,box p0 76 [pt p1 0],box b23 2 [I a1],box b24 57 [sv40],own sv40 56 6 z4.length (fl be z4),box p1 103 [sv0]],fun F w0=>?_,?_⟩
    ·refine ak (ae (vX Z Z (al (ae ?_))))
     refine aM (cC eW) Z Z Z ?_
     rintro _ _ ⟨b37,rfl,rfl⟩
     refine bD (bl (cs:=[I 0,I 0,I 0,I 0,I 0,B0]) (cs':=C0_) (us:=C0_) (L':=[box b37 56 C0_,box p0 76 [pt p1 0],box b23 2 [I a1],box b24 57 [sv40],own sv40 56 6 z4.length (fl be z4),box p1 103 [sv0]]) 0 Z Z Z (bB Z) bJ Z Z (by simp [C2_,C3_,C0_]) Z) Z Z ?_
     rintro _ _ rfl
     refine al ?_
     exact vF [0,1,2,3,4,5] Z Z (vS [4,6,9,10,36,37] Z) fun a w h=>⟨b37,h⟩
    ·rintro b37 F w0
     show bW (St 46 w0 F [(4,pt b23 0),(6,pt b24 0),(9,I t0_),(10,pt b37 0),(36,I t0_),(37,C3_)] [box b37 56 C0_,box p0 76 [pt p1 0],box b23 2 [I a1],box b24 57 [sv40],own sv40 56 6 z4.length (fl be z4),box p1 103 [sv0]]) _
     refine ba (ak (ak (ae (vM Z Z (vV (aQ (v:=(I a1)) Z bf (aG (i:=2) Z Z)) Z (vV (az Z Z (fS _ _ _)) Z (al ?_)))))))
     refine fM Hl (fun c47 Hl=>?_) fun c47 Hl=>?_
     ·refine aq Z (fJ c47) (cn ?_)
      cases Hl
      refine vP [1,2,3,4,5] Z Z ?_
      first|refine iG ?_|refine vl ?_|refine vj ?_
      exact ⟨rfl,rfl,_,rfl⟩
     refine ap Z (fH c47) (aN (ae (vV (aQ (v:=sv40) Z jC (aG (i:=3) Z Z)) Z (vV (aL (vs:=C0_) Z eU bJ (bb (i:=0) Z)) Z ?_))))
     refine aM (cA (sz:=5) (xs:=[.tmp 42]) (cs:=fl be [(⟨(⟨t1_.Part.Tier,t1_.Part.Index⟩:aO),t1_.Seg,t1_.Mark,t1_.Rows,t1_.Cold⟩:aA)]) Z Z gd bJ eW Z Z (fi Z) Z (by decide)) Z Z Z ?_
     rintro sv43 _ rfl
     obtain ⟨c48,Hl⟩:=gC Hl
     refine aM (dK (sz:=5) (xs:=z4) (ys:=[(⟨(⟨t1_.Part.Tier,t1_.Part.Index⟩:aO),t1_.Seg,t1_.Mark,t1_.Rows,t1_.Cold⟩:aA)]) 5 0 Z Z gd bJ eW Z mV Z Z Z (aW 56) Z jo c48) Z Z Z ?_
     rintro sv44 _ rfl
     refine gX [own sv43 56 6 [(⟨(⟨t1_.Part.Tier,t1_.Part.Index⟩:aO),t1_.Seg,t1_.Mark,t1_.Rows,t1_.Cold⟩:aA)].length (fl be [(⟨(⟨t1_.Part.Tier,t1_.Part.Index⟩:aO),t1_.Seg,t1_.Mark,t1_.Rows,t1_.Cold⟩:aA)]),box b37 56 C0_,box p0 76 [pt p1 0],box b23 2 [I a1],box b24 57 [sv40],own sv44 56 6 (z4 ++ [(⟨(⟨t1_.Part.Tier,t1_.Part.Index⟩:aO),t1_.Seg,t1_.Mark,t1_.Rows,t1_.Cold⟩:aA)]).length (fl be (z4 ++ [(⟨(⟨t1_.Part.Tier,t1_.Part.Index⟩:aO),t1_.Seg,t1_.Mark,t1_.Rows,t1_.Cold⟩:aA)])),box p1 103 [sv0]] Z ?_
     refine bD (fu (cs:=[sv40]) (cs':=[sv44]) (sv:=sv44) (L':=[own sv43 56 6 [(⟨(⟨t1_.Part.Tier,t1_.Part.Index⟩:aO),t1_.Seg,t1_.Mark,t1_.Rows,t1_.Cold⟩:aA)].length (fl be [(⟨(⟨t1_.Part.Tier,t1_.Part.Index⟩:aO),t1_.Seg,t1_.Mark,t1_.Rows,t1_.Cold⟩:aA)]),box b37 56 C0_,box p0 76 [pt p1 0],box b23 2 [I a1],box b24 57 [sv44],own sv44 56 6 (z4 ++ [(⟨(⟨t1_.Part.Tier,t1_.Part.Index⟩:aO),t1_.Seg,t1_.Mark,t1_.Rows,t1_.Cold⟩:aA)]).length (fl be (z4 ++ [(⟨(⟨t1_.Part.Tier,t1_.Part.Index⟩:aO),t1_.Seg,t1_.Mark,t1_.Rows,t1_.Cold⟩:aA)])),box p1 103 [sv0]]) 4 5 Z Z jw Z Z (aW 56) Z (by simp [C2_,C3_,C0_]) Z) Z Z ?_
     rintro _ _ rfl
     refine al ?_
     cases Hl
     refine vP [2,3,4,5,6] Z Z ?_
     first|refine iG ?_|refine vl ?_|refine vj ?_
     exact ⟨rfl,rfl,_,rfl⟩
   ·intro Y l hY
    exact (da.spec K l b32 sv37 (own sv0 111 7 l0.length (fl ab l0)) (List aA) (eQ K a1) x10 x14 Y (fun t0_ t1_ z_ r_ h_=>hY _ z_ r_ ⟨t0_,t1_,rfl,h_⟩) hr5 _ h13).mono fun _ _ h_=>h_.2
   ·rintro _ ⟨sv40,rfl⟩
    refine mc [(4,pt b23 0),(6,pt b24 0)] (vS [4,6] Z) ?_
    refine ak (ae (vV (aQ (v:=sv40) Z jC (aG (i:=4) Z Z)) Z ?_))
    refine bD (fu (cs:=[sv40]) (cs':=[sv40]) (sv:=sv40) (L':=[box b32 101 [sv37],own sv0 111 7 l0.length (fl ab l0),box p0 76 [pt p1 0],box b23 2 [I a1],box b24 57 [sv40],own sv40 56 6 x15.length (fl be x15),box p1 103 [sv0]]) 4 5 Z Z jw Z Z (aW 56) Z (by simp [C2_]) Z) Z Z ?_
    rintro _ _ rfl
    refine al (ay ?_)
    first | (have e_:=Option.some.inj (show some _ = some _ from H); subst e_) | subst H
    exact cO [2,6,1,5] (by decide) Z (vs:=[sv40]) Z ⟨⟨_,[sv40],rfl,aG (i:=4) Z Z,.inr ⟨jC,rfl⟩⟩,trivial⟩ _ Z ⟨_,rfl,rfl⟩
end Go.Proofs.Ytebncbheepjjdaa.BuildMerges
end
