/- Printed by gen.py: the plain functions that CatalogEach comes to. -/
import Derived.Test.YthdggcleffadeaaEArith
set_option linter.unusedVariables false
namespace Go.Proofs.Ythdggcleffadeaa.CatalogEach
open Go E

structure Api_Part where
  Tier : Int
  Index : Int
  deriving DecidableEq
def z_Api_Part : Api_Part := ⟨0, 0⟩
/-- What an input of this kind keeps to. -/
def ok_Api_Part (x : Api_Part) : Prop := inI .i64 x.Tier ∧ inI .i64 x.Index
structure Api_Entry where
  Part : Api_Part
  Seg : Int
  Mark : Int
  Rows : Int
  Cold : Bool
  deriving DecidableEq
def z_Api_Entry : Api_Entry := ⟨z_Api_Part, 0, 0, 0, false⟩
/-- What an input of this kind keeps to. -/
def ok_Api_Entry (x : Api_Entry) : Prop := ok_Api_Part x.Part ∧ inI .i64 x.Seg ∧ inI .i64 x.Mark ∧ inI .i64 x.Rows
structure Ossuarylaw20_Act where
  Drop : Sl Api_Part
  Put : Sl Api_Entry
def z_Ossuarylaw20_Act : Ossuarylaw20_Act := ⟨⟨Value.slice none 0 0, []⟩, ⟨Value.slice none 0 0, []⟩⟩
structure Omap_pair__int64__api_Entry where
  k : Int
  v : Api_Entry
  deriving DecidableEq
def z_Omap_pair__int64__api_Entry : Omap_pair__int64__api_Entry := ⟨0, z_Api_Entry⟩
/-- What an input of this kind keeps to. -/
def ok_Omap_pair__int64__api_Entry (x : Omap_pair__int64__api_Entry) : Prop := inI .i64 x.k ∧ ok_Api_Entry x.v
def omap_New__int64__api_Entry : Unit := (())

def catalog_New : Unit := (thn (omap_New__int64__api_Entry) fun u2 => (()))

def ossuarylaw20_entry (a0 : Int) (a1 : Int) : (Int × Int × Int × Int × Int × Bool) := ((a0, a1, 1, 0, 1, false))

def omap_each__int64__api_Entry_N : Unit := (())

def omap_Map__int64__api_Entry_All_N : Unit := (thn (omap_each__int64__api_Entry_N) fun u2 => (()))

def omap_each__int64__api_Entry_1_YN_l0 (K : Nat) : Nat → Option Unit
  | 0 => none
  | k + 1 => (some (()))
def omap_each__int64__api_Entry_1_YN (K : Nat) (Gm0 : Type) (y0 : Int → Api_Entry → Gm0 → Option (Gm0 × Bool)) (x0y : Gm0) : Option Unit := (omap_each__int64__api_Entry_1_YN_l0 K K)

def omap_Map__int64__api_Entry_Copy_N_r0 (K : Nat) (t0_ : Int) (t1_ : Api_Entry) (z4 : List Omap_pair__int64__api_Entry) : Option ((List Omap_pair__int64__api_Entry) × Bool) := (if (z4.length + [(⟨t0_, (⟨(⟨t1_.Part.Tier, t1_.Part.Index⟩ : Api_Part), t1_.Seg, t1_.Mark, t1_.Rows, t1_.Cold⟩ : Api_Entry)⟩ : Omap_pair__int64__api_Entry)].length) * 56 ≤ 140737488355328 then (some (((z4 ++ [(⟨t0_, (⟨(⟨t1_.Part.Tier, t1_.Part.Index⟩ : Api_Part), t1_.Seg, t1_.Mark, t1_.Rows, t1_.Cold⟩ : Api_Entry)⟩ : Omap_pair__int64__api_Entry)]), true))) else none)
def omap_Map__int64__api_Entry_Copy_N (K : Nat) : Option (List Omap_pair__int64__api_Entry) := (thn (omap_New__int64__api_Entry) fun u4 => (thn (omap_Map__int64__api_Entry_All_N) fun u6 => ((omap_each__int64__api_Entry_1_YN K (List Omap_pair__int64__api_Entry) (omap_Map__int64__api_Entry_Copy_N_r0 K) ([] : List Omap_pair__int64__api_Entry)).bind fun x4 => (some (([] : List Omap_pair__int64__api_Entry))))))

def catalog_Catalog_Copy_N (K : Nat) : Option (List Omap_pair__int64__api_Entry) := ((omap_Map__int64__api_Entry_Copy_N K).bind fun x2 => (some (x2)))

def civil_DayOf (a0 : Int) : Int := (w64 (Int.tdiv a0 24))

def civil_Date (a0 : Int) : (Int × Int × Int) := (if (w64 (Int.tdiv (w64 ((w64 (5 * (w64 ((Int.tmod (w64 (a0 + 719468)) 146097) - (w64 ((w64 ((w64 (365 * (w64 (Int.tdiv (w64 ((w64 ((w64 ((Int.tmod (w64 (a0 + 719468)) 146097) - (w64 (Int.tdiv (Int.tmod (w64 (a0 + 719468)) 146097) 1460)))) + (w64 (Int.tdiv (Int.tmod (w64 (a0 + 719468)) 146097) 36524)))) - (w64 (Int.tdiv (Int.tmod (w64 (a0 + 719468)) 146097) 146096)))) 365)))) + (w64 (Int.tdiv (w64 (Int.tdiv (w64 ((w64 ((w64 ((Int.tmod (w64 (a0 + 719468)) 146097) - (w64 (Int.tdiv (Int.tmod (w64 (a0 + 719468)) 146097) 1460)))) + (w64 (Int.tdiv (Int.tmod (w64 (a0 + 719468)) 146097) 36524)))) - (w64 (Int.tdiv (Int.tmod (w64 (a0 + 719468)) 146097) 146096)))) 365)) 4)))) - (w64 (Int.tdiv (w64 (Int.tdiv (w64 ((w64 ((w64 ((Int.tmod (w64 (a0 + 719468)) 146097) - (w64 (Int.tdiv (Int.tmod (w64 (a0 + 719468)) 146097) 1460)))) + (w64 (Int.tdiv (Int.tmod (w64 (a0 + 719468)) 146097) 36524)))) - (w64 (Int.tdiv (Int.tmod (w64 (a0 + 719468)) 146097) 146096)))) 365)) 100)))))))) + 2)) 153)) < 10 then ((w64 ((w64 ((w64 (Int.tdiv (w64 (a0 + 719468)) 146097)) * 400)) + (w64 (Int.tdiv (w64 ((w64 ((w64 ((Int.tmod (w64 (a0 + 719468)) 146097) - (w64 (Int.tdiv (Int.tmod (w64 (a0 + 719468)) 146097) 1460)))) + (w64 (Int.tdiv (Int.tmod (w64 (a0 + 719468)) 146097) 36524)))) - (w64 (Int.tdiv (Int.tmod (w64 (a0 + 719468)) 146097) 146096)))) 365))), w64 ((w64 (Int.tdiv (w64 ((w64 (5 * (w64 ((Int.tmod (w64 (a0 + 719468)) 146097) - (w64 ((w64 ((w64 (365 * (w64 (Int.tdiv (w64 ((w64 ((w64 ((Int.tmod (w64 (a0 + 719468)) 146097) - (w64 (Int.tdiv (Int.tmod (w64 (a0 + 719468)) 146097) 1460)))) + (w64 (Int.tdiv (Int.tmod (w64 (a0 + 719468)) 146097) 36524)))) - (w64 (Int.tdiv (Int.tmod (w64 (a0 + 719468)) 146097) 146096)))) 365)))) + (w64 (Int.tdiv (w64 (Int.tdiv (w64 ((w64 ((w64 ((Int.tmod (w64 (a0 + 719468)) 146097) - (w64 (Int.tdiv (Int.tmod (w64 (a0 + 719468)) 146097) 1460)))) + (w64 (Int.tdiv (Int.tmod (w64 (a0 + 719468)) 146097) 36524)))) - (w64 (Int.tdiv (Int.tmod (w64 (a0 + 719468)) 146097) 146096)))) 365)) 4)))) - (w64 (Int.tdiv (w64 (Int.tdiv (w64 ((w64 ((w64 ((Int.tmod (w64 (a0 + 719468)) 146097) - (w64 (Int.tdiv (Int.tmod (w64 (a0 + 719468)) 146097) 1460)))) + (w64 (Int.tdiv (Int.tmod (w64 (a0 + 719468)) 146097) 36524)))) - (w64 (Int.tdiv (Int.tmod (w64 (a0 + 719468)) 146097) 146096)))) 365)) 100)))))))) + 2)) 153)) + 3), w64 ((w64 ((w64 ((Int.tmod (w64 (a0 + 719468)) 146097) - (w64 ((w64 ((w64 (365 * (w64 (Int.tdiv (w64 ((w64 ((w64 ((Int.tmod (w64 (a0 + 719468)) 146097) - (w64 (Int.tdiv (Int.tmod (w64 (a0 + 719468)) 146097) 1460)))) + (w64 (Int.tdiv (Int.tmod (w64 (a0 + 719468)) 146097) 36524)))) - (w64 (Int.tdiv (Int.tmod (w64 (a0 + 719468)) 146097) 146096)))) 365)))) + (w64 (Int.tdiv (w64 (Int.tdiv (w64 ((w64 ((w64 ((Int.tmod (w64 (a0 + 719468)) 146097) - (w64 (Int.tdiv (Int.tmod (w64 (a0 + 719468)) 146097) 1460)))) + (w64 (Int.tdiv (Int.tmod (w64 (a0 + 719468)) 146097) 36524)))) - (w64 (Int.tdiv (Int.tmod (w64 (a0 + 719468)) 146097) 146096)))) 365)) 4)))) - (w64 (Int.tdiv (w64 (Int.tdiv (w64 ((w64 ((w64 ((Int.tmod (w64 (a0 + 719468)) 146097) - (w64 (Int.tdiv (Int.tmod (w64 (a0 + 719468)) 146097) 1460)))) + (w64 (Int.tdiv (Int.tmod (w64 (a0 + 719468)) 146097) 36524)))) - (w64 (Int.tdiv (Int.tmod (w64 (a0 + 719468)) 146097) 146096)))) 365)) 100)))))) - (w64 (Int.tdiv (w64 ((w64 (153 * (w64 (Int.tdiv (w64 ((w64 (5 * (w64 ((Int.tmod (w64 (a0 + 719468)) 146097) - (w64 ((w64 ((w64 (365 * (w64 (Int.tdiv (w64 ((w64 ((w64 ((Int.tmod (w64 (a0 + 719468)) 146097) - (w64 (Int.tdiv (Int.tmod (w64 (a0 + 719468)) 146097) 1460)))) + (w64 (Int.tdiv (Int.tmod (w64 (a0 + 719468)) 146097) 36524)))) - (w64 (Int.tdiv (Int.tmod (w64 (a0 + 719468)) 146097) 146096)))) 365)))) + (w64 (Int.tdiv (w64 (Int.tdiv (w64 ((w64 ((w64 ((Int.tmod (w64 (a0 + 719468)) 146097) - (w64 (Int.tdiv (Int.tmod (w64 (a0 + 719468)) 146097) 1460)))) + (w64 (Int.tdiv (Int.tmod (w64 (a0 + 719468)) 146097) 36524)))) - (w64 (Int.tdiv (Int.tmod (w64 (a0 + 719468)) 146097) 146096)))) 365)) 4)))) - (w64 (Int.tdiv (w64 (Int.tdiv (w64 ((w64 ((w64 ((Int.tmod (w64 (a0 + 719468)) 146097) - (w64 (Int.tdiv (Int.tmod (w64 (a0 + 719468)) 146097) 1460)))) + (w64 (Int.tdiv (Int.tmod (w64 (a0 + 719468)) 146097) 36524)))) - (w64 (Int.tdiv (Int.tmod (w64 (a0 + 719468)) 146097) 146096)))) 365)) 100)))))))) + 2)) 153)))) + 2)) 5)))) + 1))) else ((w64 ((w64 ((w64 ((w64 (Int.tdiv (w64 (a0 + 719468)) 146097)) * 400)) + (w64 (Int.tdiv (w64 ((w64 ((w64 ((Int.tmod (w64 (a0 + 719468)) 146097) - (w64 (Int.tdiv (Int.tmod (w64 (a0 + 719468)) 146097) 1460)))) + (w64 (Int.tdiv (Int.tmod (w64 (a0 + 719468)) 146097) 36524)))) - (w64 (Int.tdiv (Int.tmod (w64 (a0 + 719468)) 146097) 146096)))) 365)))) + 1), w64 ((w64 (Int.tdiv (w64 ((w64 (5 * (w64 ((Int.tmod (w64 (a0 + 719468)) 146097) - (w64 ((w64 ((w64 (365 * (w64 (Int.tdiv (w64 ((w64 ((w64 ((Int.tmod (w64 (a0 + 719468)) 146097) - (w64 (Int.tdiv (Int.tmod (w64 (a0 + 719468)) 146097) 1460)))) + (w64 (Int.tdiv (Int.tmod (w64 (a0 + 719468)) 146097) 36524)))) - (w64 (Int.tdiv (Int.tmod (w64 (a0 + 719468)) 146097) 146096)))) 365)))) + (w64 (Int.tdiv (w64 (Int.tdiv (w64 ((w64 ((w64 ((Int.tmod (w64 (a0 + 719468)) 146097) - (w64 (Int.tdiv (Int.tmod (w64 (a0 + 719468)) 146097) 1460)))) + (w64 (Int.tdiv (Int.tmod (w64 (a0 + 719468)) 146097) 36524)))) - (w64 (Int.tdiv (Int.tmod (w64 (a0 + 719468)) 146097) 146096)))) 365)) 4)))) - (w64 (Int.tdiv (w64 (Int.tdiv (w64 ((w64 ((w64 ((Int.tmod (w64 (a0 + 719468)) 146097) - (w64 (Int.tdiv (Int.tmod (w64 (a0 + 719468)) 146097) 1460)))) + (w64 (Int.tdiv (Int.tmod (w64 (a0 + 719468)) 146097) 36524)))) - (w64 (Int.tdiv (Int.tmod (w64 (a0 + 719468)) 146097) 146096)))) 365)) 100)))))))) + 2)) 153)) - 9), w64 ((w64 ((w64 ((Int.tmod (w64 (a0 + 719468)) 146097) - (w64 ((w64 ((w64 (365 * (w64 (Int.tdiv (w64 ((w64 ((w64 ((Int.tmod (w64 (a0 + 719468)) 146097) - (w64 (Int.tdiv (Int.tmod (w64 (a0 + 719468)) 146097) 1460)))) + (w64 (Int.tdiv (Int.tmod (w64 (a0 + 719468)) 146097) 36524)))) - (w64 (Int.tdiv (Int.tmod (w64 (a0 + 719468)) 146097) 146096)))) 365)))) + (w64 (Int.tdiv (w64 (Int.tdiv (w64 ((w64 ((w64 ((Int.tmod (w64 (a0 + 719468)) 146097) - (w64 (Int.tdiv (Int.tmod (w64 (a0 + 719468)) 146097) 1460)))) + (w64 (Int.tdiv (Int.tmod (w64 (a0 + 719468)) 146097) 36524)))) - (w64 (Int.tdiv (Int.tmod (w64 (a0 + 719468)) 146097) 146096)))) 365)) 4)))) - (w64 (Int.tdiv (w64 (Int.tdiv (w64 ((w64 ((w64 ((Int.tmod (w64 (a0 + 719468)) 146097) - (w64 (Int.tdiv (Int.tmod (w64 (a0 + 719468)) 146097) 1460)))) + (w64 (Int.tdiv (Int.tmod (w64 (a0 + 719468)) 146097) 36524)))) - (w64 (Int.tdiv (Int.tmod (w64 (a0 + 719468)) 146097) 146096)))) 365)) 100)))))) - (w64 (Int.tdiv (w64 ((w64 (153 * (w64 (Int.tdiv (w64 ((w64 (5 * (w64 ((Int.tmod (w64 (a0 + 719468)) 146097) - (w64 ((w64 ((w64 (365 * (w64 (Int.tdiv (w64 ((w64 ((w64 ((Int.tmod (w64 (a0 + 719468)) 146097) - (w64 (Int.tdiv (Int.tmod (w64 (a0 + 719468)) 146097) 1460)))) + (w64 (Int.tdiv (Int.tmod (w64 (a0 + 719468)) 146097) 36524)))) - (w64 (Int.tdiv (Int.tmod (w64 (a0 + 719468)) 146097) 146096)))) 365)))) + (w64 (Int.tdiv (w64 (Int.tdiv (w64 ((w64 ((w64 ((Int.tmod (w64 (a0 + 719468)) 146097) - (w64 (Int.tdiv (Int.tmod (w64 (a0 + 719468)) 146097) 1460)))) + (w64 (Int.tdiv (Int.tmod (w64 (a0 + 719468)) 146097) 36524)))) - (w64 (Int.tdiv (Int.tmod (w64 (a0 + 719468)) 146097) 146096)))) 365)) 4)))) - (w64 (Int.tdiv (w64 (Int.tdiv (w64 ((w64 ((w64 ((Int.tmod (w64 (a0 + 719468)) 146097) - (w64 (Int.tdiv (Int.tmod (w64 (a0 + 719468)) 146097) 1460)))) + (w64 (Int.tdiv (Int.tmod (w64 (a0 + 719468)) 146097) 36524)))) - (w64 (Int.tdiv (Int.tmod (w64 (a0 + 719468)) 146097) 146096)))) 365)) 100)))))))) + 2)) 153)))) + 2)) 5)))) + 1))))

def civil_MonthOf (a0 : Int) : Int := (thn (civil_Date a0) fun x2 => (w64 ((w64 ((w64 (x2.1 - 1970)) * 12)) + (w64 (x2.2.1 - 1)))))

def part_Of (a0 : Int) (a1 : Int) : (Int × Int × Bool) := (if a1 < 0 then ((0, 0, false)) else (if 16777216 < a1 then ((0, 0, false)) else (if a0 = 1 then ((a0, a1, true)) else (if a0 = 2 then (thn (civil_DayOf a1) fun x10 => ((a0, x10, true))) else (if a0 = 3 then (thn (civil_DayOf a1) fun x11 => (thn (civil_MonthOf x11) fun x12 => ((a0, x12, true)))) else ((0, 0, false)))))))

def part_Right (a0_0 : Int) (a0_1 : Int) : Bool := (thn (part_Of a0_0 16777216) fun x2 => (if x2.2.2 = true then (if 0 ≤ a0_1 then (decide (a0_1 ≤ x2.2.1)) else (false)) else (false)))

def catalog_Right_1 (a0 : Int) (a1 : Int) : Bool := (if a1 ≤ a0 then (decide (a0 ≤ 4611686018427387904)) else (false))

def catalog_Right (a0_0 : Int) (a0_1 : Int) (a0_2 : Int) (a0_3 : Int) (a0_4 : Int) (a0_5 : Bool) : Bool := (thn (part_Right a0_0 a0_1) fun x5 => (if x5 = true then (thn (catalog_Right_1 a0_2 1) fun x6 => (if x6 = true then (thn (catalog_Right_1 a0_4 1) fun x7 => (if x7 = true then (thn (catalog_Right_1 a0_3 0) fun x8 => (if x8 = true then (if a0_0 = 3 then (true) else ((!a0_5))) else (false))) else (false))) else (false))) else (false)))

def civil_number (a0 : Int) (a1 : Int) (a2 : Int) : Int := (thn (if (w64 (a1 - 3)) < 0 then ((w64 (a0 - 1), w64 ((w64 (a1 - 3)) + 12))) else ((a0, w64 (a1 - 3)))) fun x2 => (w64 ((w64 ((w64 ((w64 (Int.tdiv x2.1 400)) * 146097)) + (w64 ((w64 ((w64 ((w64 ((w64 ((w64 (365 * (Int.tmod x2.1 400))) + (w64 (Int.tdiv (Int.tmod x2.1 400) 4)))) - (w64 (Int.tdiv (Int.tmod x2.1 400) 100)))) + (w64 (Int.tdiv (w64 ((w64 (153 * x2.2)) + 2)) 5)))) + a2)) - 1)))) - 719468)))

def civil_Span_1 (a0 : Int) : Int := (thn (civil_number (w64 (1970 + (w64 (Int.tdiv a0 12)))) (w64 ((Int.tmod a0 12) + 1)) 1) fun x2 => (x2))

def civil_Span (a0 : Int) : (Int × Int) := (thn (civil_Span_1 a0) fun x3 => (thn (civil_Span_1 (w64 (a0 + 1))) fun x4 => ((x3, x4))))

def part_Span (a0_0 : Int) (a0_1 : Int) : (Int × Int) := (thn (part_Right a0_0 a0_1) fun x10 => (if (!x10) = true then ((0, 0)) else (thn (if a0_0 = 3 then (thn (civil_Span a0_1) fun x16 => (Sum.inl (x16.1, x16.2))) else (if a0_0 = 2 then (Sum.inl (a0_1, w64 (a0_1 + 1))) else (Sum.inr ((a0_1, w64 (a0_1 + 1)))))) fun z => (cas z (fun v4 => ((w64 (v4.1 * 24), w64 (v4.2 * 24)))) (fun t_ => (t_))))))

def omap_Map__int64__api_Entry_place_1_O (a0 : Int) (l0 : List Omap_pair__int64__api_Entry) (p2_0 : Int) : Option Bool := (if 0 ≤ a0 then (if a0 < (l0.length : Int) then (some (decide (p2_0 ≤ ((l0.getD a0.toNat z_Omap_pair__int64__api_Entry).k)))) else none) else none)

def sort_Search_O_l0 (K : Nat) (l0 : List Omap_pair__int64__api_Entry) (p2_0 : Int) : Nat → Int → Int → Option Int
  | 0, _, _ => none
  | k + 1, i7, i8 => (if i7 < i8 then ((omap_Map__int64__api_Entry_place_1_O (w64 (bShr .u64 (wu64 (w64 (i7 + i8))) 1)) l0 p2_0).bind fun x12 => (if (!x12) = true then (sort_Search_O_l0 K l0 p2_0 k (w64 ((w64 (bShr .u64 (wu64 (w64 (i7 + i8))) 1)) + 1)) i8) else (sort_Search_O_l0 K l0 p2_0 k i7 (w64 (bShr .u64 (wu64 (w64 (i7 + i8))) 1))))) else (some (i7)))
def sort_Search_O (K : Nat) (a0 : Int) (l0 : List Omap_pair__int64__api_Entry) (p2_0 : Int) : Option Int := (sort_Search_O_l0 K l0 p2_0 K 0 a0)

def omap_Map__int64__api_Entry_place_O (K : Nat) (l0 : List Omap_pair__int64__api_Entry) (a1 : Int) : Option (Bool × Int) := ((sort_Search_O K (l0.length : Int) l0 a1).bind fun x2 => (if x2 < (l0.length : Int) then (if 0 ≤ x2 then (some (((((l0.getD x2.toNat z_Omap_pair__int64__api_Entry).k) == a1), x2))) else none) else (some ((false, x2)))))

def omap_Map__int64__api_Entry_Floor_O (K : Nat) (l0 : List Omap_pair__int64__api_Entry) (a1 : Int) : Option (Int × Int × Int × Int × Int × Int × Bool × Bool) := ((omap_Map__int64__api_Entry_place_O K l0 a1).bind fun x3 => (thn (if (!x3.1) = true then (w64 (x3.2 - 1)) else (x3.2)) fun x4 => (if x4 < 0 then (some ((0, 0, 0, 0, 0, 0, false, false))) else (if 0 ≤ x4 then (if x4 < (l0.length : Int) then (some (((l0.getD x4.toNat z_Omap_pair__int64__api_Entry).k, (((l0.getD x4.toNat z_Omap_pair__int64__api_Entry).v).Part).Tier, (((l0.getD x4.toNat z_Omap_pair__int64__api_Entry).v).Part).Index, ((l0.getD x4.toNat z_Omap_pair__int64__api_Entry).v).Seg, ((l0.getD x4.toNat z_Omap_pair__int64__api_Entry).v).Mark, ((l0.getD x4.toNat z_Omap_pair__int64__api_Entry).v).Rows, ((l0.getD x4.toNat z_Omap_pair__int64__api_Entry).v).Cold, true))) else none) else none))))

def part_Has (a0_0 : Int) (a0_1 : Int) (a1 : Int) : Bool := (thn (part_Of a0_0 a1) fun x4 => (if (!x4.2.2) = true then (thn (part_Span a0_0 a0_1) fun x6 => (if x6.1 ≤ a1 then (decide (a1 < x6.2)) else (false))) else (((x4.1 == a0_0) && ((x4.2.1 == a0_1) && true)))))

def catalog_Catalog_At_O (K : Nat) (l0 : List Omap_pair__int64__api_Entry) (a1 : Int) : Option (Int × Int × Int × Int × Int × Bool × Bool) := ((omap_Map__int64__api_Entry_Floor_O K l0 a1).bind fun x4 => (if (!x4.2.2.2.2.2.2.2) = true then (some ((0, 0, 0, 0, 0, false, false))) else (thn (part_Has x4.2.1 x4.2.2.1 a1) fun x6 => (if (!x6) = true then (some ((0, 0, 0, 0, 0, false, false))) else (some ((x4.2.1, x4.2.2.1, x4.2.2.2.1, x4.2.2.2.2.1, x4.2.2.2.2.2.1, x4.2.2.2.2.2.2.1, true)))))))

def omap_each__int64__api_Entry_R (l0 : List Omap_pair__int64__api_Entry) : Unit := (())

def omap_Map__int64__api_Entry_Range_O (K : Nat) (l0 : List Omap_pair__int64__api_Entry) (a1 : Int) (a2 : Int) : Option (List Omap_pair__int64__api_Entry) := ((omap_Map__int64__api_Entry_place_O K l0 a1).bind fun x3 => ((omap_Map__int64__api_Entry_place_O K l0 a2).bind fun x4 => (if x4.2 ≤ x3.2 then (thn (omap_each__int64__api_Entry_N) fun u5 => (some (([] : List Omap_pair__int64__api_Entry)))) else (if 0 ≤ x3.2 then (if x3.2 ≤ x4.2 then (if x4.2 ≤ (l0.length : Int) then (thn (omap_each__int64__api_Entry_R ((l0.drop x3.2.toNat).take (x4.2.toNat - x3.2.toNat))) fun u6 => (some (((l0.drop x3.2.toNat).take (x4.2.toNat - x3.2.toNat))))) else none) else none) else none))))

def omap_each__int64__api_Entry_1_YR_l0 (K : Nat) (Gm0 : Type) (y0 : Int → Api_Entry → Gm0 → Option (Gm0 × Bool)) (l0 : List Omap_pair__int64__api_Entry) : Nat → Int → Gm0 → Option Gm0
  | 0, _, _ => none
  | k + 1, i2, l3 => (if i2 < (l0.length : Int) then (if 0 ≤ i2 then ((y0 ((l0.getD i2.toNat z_Omap_pair__int64__api_Entry).k) (⟨(⟨(((l0.getD i2.toNat z_Omap_pair__int64__api_Entry).v).Part).Tier, (((l0.getD i2.toNat z_Omap_pair__int64__api_Entry).v).Part).Index⟩ : Api_Part), ((l0.getD i2.toNat z_Omap_pair__int64__api_Entry).v).Seg, ((l0.getD i2.toNat z_Omap_pair__int64__api_Entry).v).Mark, ((l0.getD i2.toNat z_Omap_pair__int64__api_Entry).v).Rows, ((l0.getD i2.toNat z_Omap_pair__int64__api_Entry).v).Cold⟩ : Api_Entry) l3).bind fun x12 => (if (!x12.2) = true then (some (x12.1)) else (omap_each__int64__api_Entry_1_YR_l0 K Gm0 y0 l0 k (w64 (i2 + 1)) x12.1))) else none) else (some (l3)))
def omap_each__int64__api_Entry_1_YR (K : Nat) (Gm0 : Type) (y0 : Int → Api_Entry → Gm0 → Option (Gm0 × Bool)) (x0y : Gm0) (l0 : List Omap_pair__int64__api_Entry) : Option Gm0 := (omap_each__int64__api_Entry_1_YR_l0 K Gm0 y0 l0 K 0 x0y)

def catalog_Catalog_Over_O_r0 (K : Nat) (a1 : Int) (t0_ : Int) (t1_ : Api_Entry) (z4 : List Api_Entry) : Option ((List Api_Entry) × Bool) := (if t0_ = a1 then (some ((z4, true))) else (if (z4.length + [(⟨(⟨t1_.Part.Tier, t1_.Part.Index⟩ : Api_Part), t1_.Seg, t1_.Mark, t1_.Rows, t1_.Cold⟩ : Api_Entry)].length) * 48 ≤ 140737488355328 then (some (((z4 ++ [(⟨(⟨t1_.Part.Tier, t1_.Part.Index⟩ : Api_Part), t1_.Seg, t1_.Mark, t1_.Rows, t1_.Cold⟩ : Api_Entry)]), true))) else none))
def catalog_Catalog_Over_O (K : Nat) (l0 : List Omap_pair__int64__api_Entry) (a1 : Int) (a2 : Int) : Option (List Api_Entry) := (if a2 ≤ a1 then (some (([] : List Api_Entry))) else (Option.bind ((catalog_Catalog_At_O K l0 a1).bind fun x11 => (if x11.2.2.2.2.2.2 = true then (if (([] : List Api_Entry).length + [(⟨(⟨x11.1, x11.2.1⟩ : Api_Part), x11.2.2.1, x11.2.2.2.1, x11.2.2.2.2.1, x11.2.2.2.2.2.1⟩ : Api_Entry)].length) * 48 ≤ 140737488355328 then (some ((([] : List Api_Entry) ++ [(⟨(⟨x11.1, x11.2.1⟩ : Api_Part), x11.2.2.1, x11.2.2.2.1, x11.2.2.2.2.1, x11.2.2.2.2.2.1⟩ : Api_Entry)]))) else none) else (some (([] : List Api_Entry))))) fun x10 => ((omap_Map__int64__api_Entry_Range_O K l0 a1 a2).bind fun x14 => ((omap_each__int64__api_Entry_1_YR K (List Api_Entry) (catalog_Catalog_Over_O_r0 K a1) x10 x14).bind fun x15 => (some (x15))))))

def slices_Insert____omap_pair__int64__api_Entry__omap_pair__int64__api_Entry (l0 : List Omap_pair__int64__api_Entry) (a1 : Int) (l1 : List Omap_pair__int64__api_Entry) : Option (List Omap_pair__int64__api_Entry) := insL 56 l0 a1 l1

def omap_Map__int64__api_Entry_Put_O (K : Nat) (l0 : List Omap_pair__int64__api_Entry) (a1 : Int) (a2_0 : Int) (a2_1 : Int) (a2_2 : Int) (a2_3 : Int) (a2_4 : Int) (a2_5 : Bool) : Option (Bool × (List Omap_pair__int64__api_Entry)) := ((omap_Map__int64__api_Entry_place_O K l0 a1).bind fun x3 => (if x3.1 = true then (if 0 ≤ x3.2 then (if x3.2 < (l0.length : Int) then (some ((false, (l0.set x3.2.toNat (⟨(l0.getD x3.2.toNat z_Omap_pair__int64__api_Entry).k, (⟨(⟨a2_0, a2_1⟩ : Api_Part), a2_2, a2_3, a2_4, a2_5⟩ : Api_Entry)⟩ : Omap_pair__int64__api_Entry))))) else none) else none) else ((slices_Insert____omap_pair__int64__api_Entry__omap_pair__int64__api_Entry l0 x3.2 [(⟨a1, (⟨(⟨a2_0, a2_1⟩ : Api_Part), a2_2, a2_3, a2_4, a2_5⟩ : Api_Entry)⟩ : Omap_pair__int64__api_Entry)]).bind fun x4 => (some ((true, x4))))))

def catalog_Catalog_put_O (K : Nat) (l0 : List Omap_pair__int64__api_Entry) (a1_0 : Int) (a1_1 : Int) (a1_2 : Int) (a1_3 : Int) (a1_4 : Int) (a1_5 : Bool) : Option (Int × (List Omap_pair__int64__api_Entry)) := (thn (catalog_Right a1_0 a1_1 a1_2 a1_3 a1_4 a1_5) fun x9 => (if (!x9) = true then (some ((4, l0))) else (thn (part_Span a1_0 a1_1) fun x10 => ((catalog_Catalog_Over_O K l0 x10.1 x10.2).bind fun x12 => (if 0 < (x12.length : Int) then (some ((12, l0))) else ((omap_Map__int64__api_Entry_Put_O K l0 x10.1 a1_0 a1_1 a1_2 a1_3 a1_4 a1_5).bind fun x13 => (some ((0, x13.2)))))))))

def catalog_Catalog_Apply_NNO_l0 (K : Nat) : Nat → Option Unit
  | 0 => none
  | k + 1 => (some (()))
def catalog_Catalog_Apply_NNO_l1 (K : Nat) (l0 : List Api_Entry) : Nat → Int → (List Omap_pair__int64__api_Entry) → Option (Sum (List Omap_pair__int64__api_Entry) (Int × (List Omap_pair__int64__api_Entry)))
  | 0, _, _ => none
  | k + 1, i8, l11 => (if i8 < (l0.length : Int) then (if 0 ≤ i8 then ((catalog_Catalog_put_O K l11 (((l0.getD i8.toNat z_Api_Entry).Part).Tier) (((l0.getD i8.toNat z_Api_Entry).Part).Index) ((l0.getD i8.toNat z_Api_Entry).Seg) ((l0.getD i8.toNat z_Api_Entry).Mark) ((l0.getD i8.toNat z_Api_Entry).Rows) ((l0.getD i8.toNat z_Api_Entry).Cold)).bind fun x45 => (if ¬ (x45.1 = 0) then (some (Sum.inr ((x45.1, ([] : List Omap_pair__int64__api_Entry))))) else (catalog_Catalog_Apply_NNO_l1 K l0 k (w64 (i8 + 1)) x45.2))) else none) else (some (Sum.inl l11)))
def catalog_Catalog_Apply_NNO (K : Nat) (l0 : List Api_Entry) : Option (Int × (List Omap_pair__int64__api_Entry)) := ((catalog_Catalog_Copy_N K).bind fun x31 => (Option.bind (catalog_Catalog_Apply_NNO_l0 K K) fun x32 => (Option.bind (catalog_Catalog_Apply_NNO_l1 K l0 K 0 x31) fun z => (cas z (fun v3 => (some ((0, v3)))) (fun t_ => (some (t_)))))))

def omap_Map__int64__api_Entry_All_O (l0 : List Omap_pair__int64__api_Entry) : Unit := (thn (omap_each__int64__api_Entry_R l0) fun u2 => (()))

def omap_Map__int64__api_Entry_Copy_O_r0 (K : Nat) (t0_ : Int) (t1_ : Api_Entry) (z4 : List Omap_pair__int64__api_Entry) : Option ((List Omap_pair__int64__api_Entry) × Bool) := (if (z4.length + [(⟨t0_, (⟨(⟨t1_.Part.Tier, t1_.Part.Index⟩ : Api_Part), t1_.Seg, t1_.Mark, t1_.Rows, t1_.Cold⟩ : Api_Entry)⟩ : Omap_pair__int64__api_Entry)].length) * 56 ≤ 140737488355328 then (some (((z4 ++ [(⟨t0_, (⟨(⟨t1_.Part.Tier, t1_.Part.Index⟩ : Api_Part), t1_.Seg, t1_.Mark, t1_.Rows, t1_.Cold⟩ : Api_Entry)⟩ : Omap_pair__int64__api_Entry)]), true))) else none)
def omap_Map__int64__api_Entry_Copy_O (K : Nat) (l0 : List Omap_pair__int64__api_Entry) : Option (List Omap_pair__int64__api_Entry) := (thn (omap_New__int64__api_Entry) fun u4 => (thn (omap_Map__int64__api_Entry_All_O l0) fun u6 => ((omap_each__int64__api_Entry_1_YR K (List Omap_pair__int64__api_Entry) (omap_Map__int64__api_Entry_Copy_O_r0 K) ([] : List Omap_pair__int64__api_Entry) l0).bind fun x4 => (some (x4)))))

def catalog_Catalog_Copy_O (K : Nat) (l0 : List Omap_pair__int64__api_Entry) : Option (List Omap_pair__int64__api_Entry) := ((omap_Map__int64__api_Entry_Copy_O K l0).bind fun x2 => (some (x2)))

def catalog_Catalog_Apply_ONO_l0 (K : Nat) : Nat → Option Unit
  | 0 => none
  | k + 1 => (some (()))
def catalog_Catalog_Apply_ONO_l1 (K : Nat) (l0 : List Omap_pair__int64__api_Entry) (l1 : List Api_Entry) : Nat → Int → (List Omap_pair__int64__api_Entry) → Option (Sum (List Omap_pair__int64__api_Entry) (Int × (List Omap_pair__int64__api_Entry)))
  | 0, _, _ => none
  | k + 1, i8, l12 => (if i8 < (l1.length : Int) then (if 0 ≤ i8 then ((catalog_Catalog_put_O K l12 (((l1.getD i8.toNat z_Api_Entry).Part).Tier) (((l1.getD i8.toNat z_Api_Entry).Part).Index) ((l1.getD i8.toNat z_Api_Entry).Seg) ((l1.getD i8.toNat z_Api_Entry).Mark) ((l1.getD i8.toNat z_Api_Entry).Rows) ((l1.getD i8.toNat z_Api_Entry).Cold)).bind fun x45 => (if ¬ (x45.1 = 0) then (some (Sum.inr ((x45.1, l0)))) else (catalog_Catalog_Apply_ONO_l1 K l0 l1 k (w64 (i8 + 1)) x45.2))) else none) else (some (Sum.inl l12)))
def catalog_Catalog_Apply_ONO (K : Nat) (l0 : List Omap_pair__int64__api_Entry) (l1 : List Api_Entry) : Option (Int × (List Omap_pair__int64__api_Entry)) := ((catalog_Catalog_Copy_O K l0).bind fun x31 => (Option.bind (catalog_Catalog_Apply_ONO_l0 K K) fun x32 => (Option.bind (catalog_Catalog_Apply_ONO_l1 K l0 l1 K 0 x31) fun z => (cas z (fun v3 => (some ((0, v3)))) (fun t_ => (some (t_)))))))

def catalog_Catalog_Get_O (K : Nat) (l0 : List Omap_pair__int64__api_Entry) (a1_0 : Int) (a1_1 : Int) : Option (Int × Int × Int × Int × Int × Bool × Bool) := (thn (part_Span a1_0 a1_1) fun x3 => ((catalog_Catalog_At_O K l0 x3.1).bind fun x4 => (if (!x4.2.2.2.2.2.2) = true then (some ((0, 0, 0, 0, 0, false, false))) else (if (!((x4.1 == a1_0) && ((x4.2.1 == a1_1) && true))) = true then (some ((0, 0, 0, 0, 0, false, false))) else (some ((x4.1, x4.2.1, x4.2.2.1, x4.2.2.2.1, x4.2.2.2.2.1, x4.2.2.2.2.2.1, true)))))))

def slices_Delete____omap_pair__int64__api_Entry__omap_pair__int64__api_Entry (l0 : List Omap_pair__int64__api_Entry) (a1 a2 : Int) : Option (List Omap_pair__int64__api_Entry) := delL l0 a1 a2

def omap_Map__int64__api_Entry_Drop_O (K : Nat) (l0 : List Omap_pair__int64__api_Entry) (a1 : Int) : Option ((List Omap_pair__int64__api_Entry) × Bool) := ((omap_Map__int64__api_Entry_place_O K l0 a1).bind fun x4 => (if x4.1 = true then ((slices_Delete____omap_pair__int64__api_Entry__omap_pair__int64__api_Entry l0 x4.2 (w64 (x4.2 + 1))).bind fun x6 => (some ((x6, x4.1)))) else (some ((l0, x4.1)))))

def catalog_Catalog_Apply_OOO_l0 (K : Nat) (l0 : List Omap_pair__int64__api_Entry) (l1 : List Api_Part) : Nat → Int → (List Omap_pair__int64__api_Entry) → Option (Sum (List Omap_pair__int64__api_Entry) (Int × (List Omap_pair__int64__api_Entry)))
  | 0, _, _ => none
  | k + 1, i12, l19 => (if i12 < (l1.length : Int) then (if 0 ≤ i12 then ((catalog_Catalog_Get_O K l19 ((l1.getD i12.toNat z_Api_Part).Tier) ((l1.getD i12.toNat z_Api_Part).Index)).bind fun x174 => (if (!x174.2.2.2.2.2.2) = true then (some (Sum.inr ((11, l0)))) else (thn (part_Span ((l1.getD i12.toNat z_Api_Part).Tier) ((l1.getD i12.toNat z_Api_Part).Index)) fun x175 => ((omap_Map__int64__api_Entry_Drop_O K l19 x175.1).bind fun x176 => (catalog_Catalog_Apply_OOO_l0 K l0 l1 k (w64 (i12 + 1)) x176.1))))) else none) else (some (Sum.inl l19)))
def catalog_Catalog_Apply_OOO_l1 (K : Nat) (l0 : List Omap_pair__int64__api_Entry) (l2 : List Api_Entry) : Nat → Int → (List Omap_pair__int64__api_Entry) → Option (Sum (List Omap_pair__int64__api_Entry) (Int × (List Omap_pair__int64__api_Entry)))
  | 0, _, _ => none
  | k + 1, i14, l22 => (if i14 < (l2.length : Int) then (if 0 ≤ i14 then ((catalog_Catalog_put_O K l22 (((l2.getD i14.toNat z_Api_Entry).Part).Tier) (((l2.getD i14.toNat z_Api_Entry).Part).Index) ((l2.getD i14.toNat z_Api_Entry).Seg) ((l2.getD i14.toNat z_Api_Entry).Mark) ((l2.getD i14.toNat z_Api_Entry).Rows) ((l2.getD i14.toNat z_Api_Entry).Cold)).bind fun x189 => (if ¬ (x189.1 = 0) then (some (Sum.inr ((x189.1, l0)))) else (catalog_Catalog_Apply_OOO_l1 K l0 l2 k (w64 (i14 + 1)) x189.2))) else none) else (some (Sum.inl l22)))
def catalog_Catalog_Apply_OOO (K : Nat) (l0 : List Omap_pair__int64__api_Entry) (l1 : List Api_Part) (l2 : List Api_Entry) : Option (Int × (List Omap_pair__int64__api_Entry)) := ((catalog_Catalog_Copy_O K l0).bind fun x127 => (Option.bind (catalog_Catalog_Apply_OOO_l0 K l0 l1 K 0 x127) fun z => (cas z (fun v5 => (Option.bind (catalog_Catalog_Apply_OOO_l1 K l0 l2 K 0 v5) fun z => (cas z (fun v6 => (some ((0, v6)))) (fun t_ => (some (t_)))))) (fun t_ => (some (t_))))))

def omap_Map__int64__api_Entry_Len_O (l0 : List Omap_pair__int64__api_Entry) : Int := ((l0.length : Int))

def catalog_Catalog_Len_O (l0 : List Omap_pair__int64__api_Entry) : Int := (thn (omap_Map__int64__api_Entry_Len_O l0) fun x2 => (x2))

def ossuarylaw20_alive (K : Nat) : Option Bool := (thn (catalog_New) fun u2 => (thn (ossuarylaw20_entry 1 5) fun x8 => (thn (ossuarylaw20_entry 2 0) fun x9 => ((catalog_Catalog_Apply_NNO K [(⟨(⟨x8.1, x8.2.1⟩ : Api_Part), x8.2.2.1, x8.2.2.2.1, x8.2.2.2.2.1, x8.2.2.2.2.2⟩ : Api_Entry)]).bind fun x10 => ((catalog_Catalog_Apply_ONO K x10.2 [(⟨(⟨x9.1, x9.2.1⟩ : Api_Part), x9.2.2.1, x9.2.2.2.1, x9.2.2.2.2.1, x9.2.2.2.2.2⟩ : Api_Entry)]).bind fun x11 => ((catalog_Catalog_Apply_OOO K x11.2 [(⟨x8.1, x8.2.1⟩ : Api_Part)] [(⟨(⟨x9.1, x9.2.1⟩ : Api_Part), x9.2.2.1, x9.2.2.2.1, x9.2.2.2.2.1, x9.2.2.2.2.2⟩ : Api_Entry)]).bind fun x12 => ((catalog_Catalog_At_O K x12.2 7).bind fun x13 => (if x10.1 = 0 then (if x11.1 = 12 then (if x12.1 = 0 then (if x13.2.2.2.2.2.2 = true then (if (((x13.1 == x9.1) && ((x13.2.1 == x9.2.1) && true)) && ((x13.2.2.1 == x9.2.2.1) && ((x13.2.2.2.1 == x9.2.2.2.1) && ((x13.2.2.2.2.1 == x9.2.2.2.2.1) && ((x13.2.2.2.2.2.1 == x9.2.2.2.2.2) && true))))) = true then (thn (catalog_Catalog_Len_O x12.2) fun x14 => (some ((x14 == 1)))) else (some (false))) else (some (false))) else (some (false))) else (some (false))) else (some (false))))))))))

def ossuarylaw20_light_R_l0 (K : Nat) (l0 : List Ossuarylaw20_Act) : Nat → Int → Option Bool
  | 0, _ => none
  | k + 1, i4 => (if i4 < (l0.length : Int) then (if 0 ≤ i4 then (if 30 < ((((l0.getD i4.toNat z_Ossuarylaw20_Act).Drop).xs).length : Int) then (some (false)) else (if 30 < ((((l0.getD i4.toNat z_Ossuarylaw20_Act).Put).xs).length : Int) then (some (false)) else (ossuarylaw20_light_R_l0 K l0 k (w64 (i4 + 1))))) else none) else (some (true)))
def ossuarylaw20_light_R (K : Nat) (l0 : List Ossuarylaw20_Act) : Option Bool := (if 40 < (l0.length : Int) then (some (false)) else (ossuarylaw20_light_R_l0 K l0 K 0))

def ossuarylaw20_light_R_2_l0 (K : Nat) (l0 : List Ossuarylaw20_Act) : Nat → Int → Option Bool
  | 0, _ => none
  | k + 1, i4 => (if i4 < (l0.length : Int) then (if 0 ≤ i4 then (if 30 < ((((l0.getD i4.toNat z_Ossuarylaw20_Act).Drop).xs).length : Int) then (some (false)) else (if 30 < ((((l0.getD i4.toNat z_Ossuarylaw20_Act).Put).xs).length : Int) then (some (false)) else (ossuarylaw20_light_R_2_l0 K l0 k (w64 (i4 + 1))))) else none) else (some (true)))
def ossuarylaw20_light_R_2 (K : Nat) (l0 : List Ossuarylaw20_Act) : Option Bool := (if 40 < (l0.length : Int) then (some (false)) else (ossuarylaw20_light_R_2_l0 K l0 K 0))

def ossuaryref04_Leap (a0 : Int) : Bool := (if (Int.tmod a0 4) = 0 then (if ¬ ((Int.tmod a0 100) = 0) then (true) else (((Int.tmod a0 400) == 0))) else (false))

def ossuaryref04_days (a0 : Int) : Int := (thn (ossuaryref04_Leap a0) fun x4 => (if x4 = true then (366) else (365)))

def ossuaryref04_Length (a0 : Int) (a1 : Int) : Int := (if a1 = 2 then (thn (ossuaryref04_Leap a0) fun x14 => (if x14 = true then (29) else (28))) else (thn (if a1 = 4 then ((a1 == 4)) else (if a1 = 6 then ((a1 == 6)) else (if a1 = 9 then ((a1 == 9)) else ((a1 == 11))))) fun x15 => (if x15 = true then (30) else (thn (if a1 = 1 then ((a1 == 1)) else (if a1 = 3 then ((a1 == 3)) else (if a1 = 5 then ((a1 == 5)) else (if a1 = 7 then ((a1 == 7)) else (if a1 = 8 then ((a1 == 8)) else (if a1 = 10 then ((a1 == 10)) else ((a1 == 12)))))))) fun x16 => (if x16 = true then (31) else (0))))))

def ossuaryref04_Date_l0 (K : Nat) : Nat → Int → Int → Option (Int × Int)
  | 0, _, _ => none
  | k + 1, i17, i18 => (thn (ossuaryref04_days i18) fun x56 => (if x56 ≤ i17 then (if i18 < 5000 then (thn (ossuaryref04_days i18) fun x57 => (ossuaryref04_Date_l0 K k (w64 (i17 - x57)) (w64 (i18 + 1)))) else (some ((i17, i18)))) else (some ((i17, i18)))))
def ossuaryref04_Date_l1 (K : Nat) (x48 : (Int × Int)) : Nat → Int → Int → Option (Int × Int)
  | 0, _, _ => none
  | k + 1, i23, i24 => (if i24 < 12 then (thn (ossuaryref04_Length x48.2 i24) fun x75 => (if x75 ≤ i23 then (thn (ossuaryref04_Length x48.2 i24) fun x76 => (ossuaryref04_Date_l1 K x48 k (w64 (i23 - x76)) (w64 (i24 + 1)))) else (some ((i23, i24))))) else (some ((i23, i24))))
def ossuaryref04_Date (K : Nat) (a0 : Int) : Option (Int × Int × Int) := (Option.bind (ossuaryref04_Date_l0 K K a0 1970) fun x48 => (Option.bind (ossuaryref04_Date_l1 K x48 K x48.1 1) fun x67 => (some ((x48.2, x67.2, w64 (x67.1 + 1))))))

def ossuaryref04_MonthOf (K : Nat) (a0 : Int) : Option Int := ((ossuaryref04_Date K a0).bind fun x2 => (some (w64 ((w64 ((w64 ((w64 (x2.1 - 1970)) * 12)) + x2.2.1)) - 1))))

def ossuaryref19_most (K : Nat) (a0 : Int) : Option Int := (if a0 = 1 then (some (16777216)) else (if a0 = 2 then (some (699050)) else (if a0 = 3 then ((ossuaryref04_MonthOf K 699050).bind fun x4 => (some (x4))) else (some ((-1))))))

def ossuaryref19_Right (K : Nat) (a0_0 : Int) (a0_1 : Int) : Option Bool := (if 0 ≤ a0_1 then ((ossuaryref19_most K a0_0).bind fun x2 => (some (decide (a0_1 ≤ x2)))) else (some (false)))

def ossuaryref20_in (a0 : Int) (a1 : Int) (a2 : Int) : Bool := (if a1 ≤ a0 then (decide (a0 ≤ a2)) else (false))

def ossuaryref20_Right (K : Nat) (a0_0 : Int) (a0_1 : Int) (a0_2 : Int) (a0_3 : Int) (a0_4 : Int) (a0_5 : Bool) : Option Bool := ((ossuaryref19_Right K a0_0 a0_1).bind fun x5 => (if x5 = true then (thn (ossuaryref20_in a0_2 1 4611686018427387904) fun x6 => (if x6 = true then (thn (ossuaryref20_in a0_4 1 4611686018427387904) fun x7 => (if x7 = true then (thn (ossuaryref20_in a0_3 0 4611686018427387904) fun x8 => (if x8 = true then (if (!a0_5) = true then (some (true)) else (some ((a0_0 == 3)))) else (some (false)))) else (some (false)))) else (some (false)))) else (some (false))))

def ossuaryref04_Number_l0 (K : Nat) (a0 : Int) : Nat → Int → Int → Option Int
  | 0, _, _ => none
  | k + 1, i15, i16 => (if i16 < a0 then (thn (ossuaryref04_days i16) fun x43 => (ossuaryref04_Number_l0 K a0 k (w64 (i15 + x43)) (w64 (i16 + 1)))) else (some (i15)))
def ossuaryref04_Number_l1 (K : Nat) (a0 : Int) (a1 : Int) : Nat → Int → Int → Option Int
  | 0, _, _ => none
  | k + 1, i20, i21 => (if i21 < a1 then (thn (ossuaryref04_Length a0 i21) fun x56 => (ossuaryref04_Number_l1 K a0 a1 k (w64 (i20 + x56)) (w64 (i21 + 1)))) else (some (i20)))
def ossuaryref04_Number (K : Nat) (a0 : Int) (a1 : Int) (a2 : Int) : Option (Int × Bool) := (if a0 < 1970 then (some ((0, false))) else (if 4900 < a0 then (some ((0, false))) else (if a2 < 1 then (some ((0, false))) else (thn (ossuaryref04_Length a0 a1) fun x30 => (if x30 < a2 then (some ((0, false))) else (Option.bind (ossuaryref04_Number_l0 K a0 K 0 1970) fun x37 => (Option.bind (ossuaryref04_Number_l1 K a0 a1 K x37 1) fun x50 => (some ((w64 ((w64 (x50 + a2)) - 1), true))))))))))

def ossuaryref04_Span (K : Nat) (a0 : Int) : Option (Int × Int) := ((ossuaryref04_Number K (w64 (1970 + (w64 (Int.tdiv a0 12)))) (w64 ((Int.tmod a0 12) + 1)) 1).bind fun x3 => (thn (ossuaryref04_Length (w64 (1970 + (w64 (Int.tdiv a0 12)))) (w64 ((Int.tmod a0 12) + 1))) fun x4 => (some ((x3.1, w64 (x3.1 + x4))))))

def ossuaryref19_Span (K : Nat) (a0_0 : Int) (a0_1 : Int) : Option (Int × Int) := ((ossuaryref19_Right K a0_0 a0_1).bind fun x5 => (if (!x5) = true then (some ((0, 0))) else (if a0_0 = 1 then (some ((a0_1, w64 (a0_1 + 1)))) else (if a0_0 = 2 then (some ((w64 (24 * a0_1), w64 (24 * (w64 (a0_1 + 1)))))) else ((ossuaryref04_Span K a0_1).bind fun x6 => (some ((w64 (24 * x6.1), w64 (24 * x6.2)))))))))

def ossuaryref19_Meets (K : Nat) (a0_0 : Int) (a0_1 : Int) (a1_0 : Int) (a1_1 : Int) : Option Bool := ((ossuaryref19_Span K a0_0 a0_1).bind fun x5 => ((ossuaryref19_Span K a1_0 a1_1).bind fun x6 => ((ossuaryref19_Right K a0_0 a0_1).bind fun x7 => (if x7 = true then ((ossuaryref19_Right K a1_0 a1_1).bind fun x8 => (if x8 = true then (if x5.1 < x6.2 then (some (decide (x6.1 < x5.2))) else (some (false))) else (some (false)))) else (some (false))))))

def ossuaryref19_Less (K : Nat) (a0_0 : Int) (a0_1 : Int) (a1_0 : Int) (a1_1 : Int) : Option Bool := ((ossuaryref19_Span K a0_0 a0_1).bind fun x5 => ((ossuaryref19_Span K a1_0 a1_1).bind fun x6 => ((ossuaryref19_Right K a0_0 a0_1).bind fun x7 => (if x7 = true then ((ossuaryref19_Right K a1_0 a1_1).bind fun x8 => (if x8 = true then (if x5.1 < x6.1 then (some (true)) else (if x5.1 = x6.1 then (some (decide (a0_0 < a1_0))) else (some (false)))) else (some (false)))) else (some (false))))))

def ossuaryref20_put_R_l0 (K : Nat) (l0 : List Api_Entry) (a1_0 : Int) (a1_1 : Int) : Nat → Int → Int → Option (Sum Int (Int × (List Api_Entry)))
  | 0, _, _ => none
  | k + 1, i10, i11 => (if i11 < (l0.length : Int) then (if 0 ≤ i11 then ((ossuaryref19_Meets K (((l0.getD i11.toNat z_Api_Entry).Part).Tier) (((l0.getD i11.toNat z_Api_Entry).Part).Index) a1_0 a1_1).bind fun x77 => (if x77 = true then (some (Sum.inr ((12, ([] : List Api_Entry))))) else ((ossuaryref19_Less K (((l0.getD i11.toNat z_Api_Entry).Part).Tier) (((l0.getD i11.toNat z_Api_Entry).Part).Index) a1_0 a1_1).bind fun x78 => (if x78 = true then (ossuaryref20_put_R_l0 K l0 a1_0 a1_1 k (w64 (i11 + 1)) (w64 (i11 + 1))) else (ossuaryref20_put_R_l0 K l0 a1_0 a1_1 k i10 (w64 (i11 + 1))))))) else none) else (some (Sum.inl i10)))
def ossuaryref20_put_R (K : Nat) (l0 : List Api_Entry) (a1_0 : Int) (a1_1 : Int) (a1_2 : Int) (a1_3 : Int) (a1_4 : Int) (a1_5 : Bool) : Option (Int × (List Api_Entry)) := ((ossuaryref20_Right K a1_0 a1_1 a1_2 a1_3 a1_4 a1_5).bind fun x41 => (if (!x41) = true then (some ((4, ([] : List Api_Entry)))) else (Option.bind (ossuaryref20_put_R_l0 K l0 a1_0 a1_1 K 0 0) fun z => (cas z (fun v2 => (if 0 ≤ v2 then (if v2 ≤ (l0.length : Int) then (if (([] : List Api_Entry).length + (l0.take v2.toNat).length) * 48 ≤ 140737488355328 then (if ((([] : List Api_Entry) ++ (l0.take v2.toNat)).length + [(⟨(⟨a1_0, a1_1⟩ : Api_Part), a1_2, a1_3, a1_4, a1_5⟩ : Api_Entry)].length) * 48 ≤ 140737488355328 then (if (((([] : List Api_Entry) ++ (l0.take v2.toNat)) ++ [(⟨(⟨a1_0, a1_1⟩ : Api_Part), a1_2, a1_3, a1_4, a1_5⟩ : Api_Entry)]).length + (l0.drop v2.toNat).length) * 48 ≤ 140737488355328 then (some ((0, (((([] : List Api_Entry) ++ (l0.take v2.toNat)) ++ [(⟨(⟨a1_0, a1_1⟩ : Api_Part), a1_2, a1_3, a1_4, a1_5⟩ : Api_Entry)]) ++ (l0.drop v2.toNat))))) else none) else none) else none) else none) else none)) (fun t_ => (some (t_)))))))

def catalog_Catalog_Apply_ORR_l0 (K : Nat) (l0 : List Omap_pair__int64__api_Entry) (l1 : List Api_Part) : Nat → Int → (List Omap_pair__int64__api_Entry) → Option (Sum (List Omap_pair__int64__api_Entry) (Int × (List Omap_pair__int64__api_Entry)))
  | 0, _, _ => none
  | k + 1, i12, l19 => (if i12 < (l1.length : Int) then (if 0 ≤ i12 then ((catalog_Catalog_Get_O K l19 ((l1.getD i12.toNat z_Api_Part).Tier) ((l1.getD i12.toNat z_Api_Part).Index)).bind fun x174 => (if (!x174.2.2.2.2.2.2) = true then (some (Sum.inr ((11, l0)))) else (thn (part_Span ((l1.getD i12.toNat z_Api_Part).Tier) ((l1.getD i12.toNat z_Api_Part).Index)) fun x175 => ((omap_Map__int64__api_Entry_Drop_O K l19 x175.1).bind fun x176 => (catalog_Catalog_Apply_ORR_l0 K l0 l1 k (w64 (i12 + 1)) x176.1))))) else none) else (some (Sum.inl l19)))
def catalog_Catalog_Apply_ORR_l1 (K : Nat) (l0 : List Omap_pair__int64__api_Entry) (l2 : List Api_Entry) : Nat → Int → (List Omap_pair__int64__api_Entry) → Option (Sum (List Omap_pair__int64__api_Entry) (Int × (List Omap_pair__int64__api_Entry)))
  | 0, _, _ => none
  | k + 1, i14, l22 => (if i14 < (l2.length : Int) then (if 0 ≤ i14 then ((catalog_Catalog_put_O K l22 (((l2.getD i14.toNat z_Api_Entry).Part).Tier) (((l2.getD i14.toNat z_Api_Entry).Part).Index) ((l2.getD i14.toNat z_Api_Entry).Seg) ((l2.getD i14.toNat z_Api_Entry).Mark) ((l2.getD i14.toNat z_Api_Entry).Rows) ((l2.getD i14.toNat z_Api_Entry).Cold)).bind fun x189 => (if ¬ (x189.1 = 0) then (some (Sum.inr ((x189.1, l0)))) else (catalog_Catalog_Apply_ORR_l1 K l0 l2 k (w64 (i14 + 1)) x189.2))) else none) else (some (Sum.inl l22)))
def catalog_Catalog_Apply_ORR (K : Nat) (l0 : List Omap_pair__int64__api_Entry) (l1 : List Api_Part) (l2 : List Api_Entry) : Option (Int × (List Omap_pair__int64__api_Entry)) := ((catalog_Catalog_Copy_O K l0).bind fun x127 => (Option.bind (catalog_Catalog_Apply_ORR_l0 K l0 l1 K 0 x127) fun z => (cas z (fun v5 => (Option.bind (catalog_Catalog_Apply_ORR_l1 K l0 l2 K 0 v5) fun z => (cas z (fun v6 => (some ((0, v6)))) (fun t_ => (some (t_)))))) (fun t_ => (some (t_))))))

def ossuaryref20_drop_R_l0 (K : Nat) (l0 : List Api_Entry) (a1_0 : Int) (a1_1 : Int) : Nat → Bool → Int → (List Api_Entry) → Option ((List Api_Entry) × Bool)
  | 0, _, _, _ => none
  | k + 1, q4, i4, l5 => (if i4 < (l0.length : Int) then (if 0 ≤ i4 then (if (((((l0.getD i4.toNat z_Api_Entry).Part).Tier) == a1_0) && (((((l0.getD i4.toNat z_Api_Entry).Part).Index) == a1_1) && true)) = true then (ossuaryref20_drop_R_l0 K l0 a1_0 a1_1 k true (w64 (i4 + 1)) l5) else (if (l5.length + [(⟨(⟨((l0.getD i4.toNat z_Api_Entry).Part).Tier, ((l0.getD i4.toNat z_Api_Entry).Part).Index⟩ : Api_Part), (l0.getD i4.toNat z_Api_Entry).Seg, (l0.getD i4.toNat z_Api_Entry).Mark, (l0.getD i4.toNat z_Api_Entry).Rows, (l0.getD i4.toNat z_Api_Entry).Cold⟩ : Api_Entry)].length) * 48 ≤ 140737488355328 then (ossuaryref20_drop_R_l0 K l0 a1_0 a1_1 k q4 (w64 (i4 + 1)) (l5 ++ [(⟨(⟨((l0.getD i4.toNat z_Api_Entry).Part).Tier, ((l0.getD i4.toNat z_Api_Entry).Part).Index⟩ : Api_Part), (l0.getD i4.toNat z_Api_Entry).Seg, (l0.getD i4.toNat z_Api_Entry).Mark, (l0.getD i4.toNat z_Api_Entry).Rows, (l0.getD i4.toNat z_Api_Entry).Cold⟩ : Api_Entry)])) else none)) else none) else (some ((l5, q4))))
def ossuaryref20_drop_R (K : Nat) (l0 : List Api_Entry) (a1_0 : Int) (a1_1 : Int) : Option ((List Api_Entry) × Bool) := (ossuaryref20_drop_R_l0 K l0 a1_0 a1_1 K false 0 ([] : List Api_Entry))

def ossuaryref20_Apply_RRR_l0 (K : Nat) (l1 : List Api_Part) : Nat → Int → (List Api_Entry) → (List Api_Entry) → Option (Sum ((List Api_Entry) × (List Api_Entry)) (Int × (List Api_Entry)))
  | 0, _, _, _ => none
  | k + 1, i13, l18, l19 => (if i13 < (l1.length : Int) then (if 0 ≤ i13 then ((ossuaryref20_drop_R K l19 ((l1.getD i13.toNat z_Api_Part).Tier) ((l1.getD i13.toNat z_Api_Part).Index)).bind fun x38 => (if (!x38.2) = true then (some (Sum.inr ((11, l18)))) else (ossuaryref20_Apply_RRR_l0 K l1 k (w64 (i13 + 1)) l18 x38.1))) else none) else (some (Sum.inl (l18, l19))))
def ossuaryref20_Apply_RRR_l1 (K : Nat) (l2 : List Api_Entry) : Nat → Int → (List Api_Entry) → (List Api_Entry) → Option (Int × (List Api_Entry))
  | 0, _, _, _ => none
  | k + 1, i17, l22, l23 => (if i17 < (l2.length : Int) then (if 0 ≤ i17 then ((ossuaryref20_put_R K l23 (((l2.getD i17.toNat z_Api_Entry).Part).Tier) (((l2.getD i17.toNat z_Api_Entry).Part).Index) ((l2.getD i17.toNat z_Api_Entry).Seg) ((l2.getD i17.toNat z_Api_Entry).Mark) ((l2.getD i17.toNat z_Api_Entry).Rows) ((l2.getD i17.toNat z_Api_Entry).Cold)).bind fun x50 => (if ¬ (x50.1 = 0) then (some ((x50.1, l22))) else (ossuaryref20_Apply_RRR_l1 K l2 k (w64 (i17 + 1)) l22 x50.2))) else none) else (some ((0, l23))))
def ossuaryref20_Apply_RRR (K : Nat) (l0 : List Api_Entry) (l1 : List Api_Part) (l2 : List Api_Entry) : Option (Int × (List Api_Entry)) := (Option.bind (ossuaryref20_Apply_RRR_l0 K l1 K 0 l0 l0) fun z => (cas z (fun v2 => (ossuaryref20_Apply_RRR_l1 K l2 K 0 v2.1 v2.2)) (fun t_ => (some (t_)))))

def ossuarylaw20_made_R_l0 (K : Nat) (l0 : List Ossuarylaw20_Act) : Nat → Int → (List Omap_pair__int64__api_Entry) → (List Api_Entry) → Option ((List Omap_pair__int64__api_Entry) × (List Api_Entry))
  | 0, _, _, _ => none
  | k + 1, i4, l12, l14 => (if i4 < (l0.length : Int) then (if 0 ≤ i4 then ((catalog_Catalog_Apply_ORR K l12 (((l0.getD i4.toNat z_Ossuarylaw20_Act).Drop).xs) (((l0.getD i4.toNat z_Ossuarylaw20_Act).Put).xs)).bind fun x73 => ((ossuaryref20_Apply_RRR K l14 (((l0.getD i4.toNat z_Ossuarylaw20_Act).Drop).xs) (((l0.getD i4.toNat z_Ossuarylaw20_Act).Put).xs)).bind fun x74 => (ossuarylaw20_made_R_l0 K l0 k (w64 (i4 + 1)) x73.2 x74.2))) else none) else (some ((l12, l14))))
def ossuarylaw20_made_R (K : Nat) (l0 : List Ossuarylaw20_Act) : Option ((List Omap_pair__int64__api_Entry) × (List Api_Entry)) := (thn (catalog_New) fun u2 => (ossuarylaw20_made_R_l0 K l0 K 0 ([] : List Omap_pair__int64__api_Entry) ([] : List Api_Entry)))

def ossuarylaw20_Back_O (K : Nat) (l0 : List Omap_pair__int64__api_Entry) : Option (List Api_Entry) := ((catalog_Catalog_Over_O K l0 (-4611686018427387904) 4611686018427387904).bind fun x2 => (some (x2)))

def ossuaryref20_Same_RR_l0 (K : Nat) (l0 : List Api_Entry) (l1 : List Api_Entry) : Nat → Int → Option Bool
  | 0, _ => none
  | k + 1, i4 => (if i4 < (l0.length : Int) then (if 0 ≤ i4 then (if i4 < (l1.length : Int) then (if (!((((((l0.getD i4.toNat z_Api_Entry).Part).Tier) == (((l1.getD i4.toNat z_Api_Entry).Part).Tier)) && (((((l0.getD i4.toNat z_Api_Entry).Part).Index) == (((l1.getD i4.toNat z_Api_Entry).Part).Index)) && true)) && ((((l0.getD i4.toNat z_Api_Entry).Seg) == ((l1.getD i4.toNat z_Api_Entry).Seg)) && ((((l0.getD i4.toNat z_Api_Entry).Mark) == ((l1.getD i4.toNat z_Api_Entry).Mark)) && ((((l0.getD i4.toNat z_Api_Entry).Rows) == ((l1.getD i4.toNat z_Api_Entry).Rows)) && ((((l0.getD i4.toNat z_Api_Entry).Cold) == ((l1.getD i4.toNat z_Api_Entry).Cold)) && true)))))) = true then (some (false)) else (ossuaryref20_Same_RR_l0 K l0 l1 k (w64 (i4 + 1)))) else none) else none) else (some (true)))
def ossuaryref20_Same_RR (K : Nat) (l0 : List Api_Entry) (l1 : List Api_Entry) : Option Bool := (if ¬ ((l0.length : Int) = (l1.length : Int)) then (some (false)) else (ossuaryref20_Same_RR_l0 K l0 l1 K 0))

def catalog_Catalog_All_O (l0 : List Omap_pair__int64__api_Entry) : Unit := (())

def catalog_Catalog_All_1_YO_r0 (K : Nat) (Gm0 : Type) (y0 : Api_Entry → Gm0 → Option (Gm0 × Bool)) (t0_ : Int) (t1_ : Api_Entry) (zz_ : Sum Gm0 Gm0) : Option ((Sum Gm0 Gm0) × Bool) := (cas zz_ (fun z2 => ((y0 (⟨(⟨t1_.Part.Tier, t1_.Part.Index⟩ : Api_Part), t1_.Seg, t1_.Mark, t1_.Rows, t1_.Cold⟩ : Api_Entry) z2).bind fun x7 => (if (!x7.2) = true then (some ((Sum.inr x7.1, false))) else (some ((Sum.inl x7.1, true)))))) (fun _ => none))
def catalog_Catalog_All_1_YO (K : Nat) (Gm0 : Type) (y0 : Api_Entry → Gm0 → Option (Gm0 × Bool)) (x0y : Gm0) (l0 : List Omap_pair__int64__api_Entry) : Option Gm0 := (thn (omap_Map__int64__api_Entry_All_O l0) fun u2 => ((omap_each__int64__api_Entry_1_YR K (Sum Gm0 Gm0) (catalog_Catalog_All_1_YO_r0 K Gm0 y0) (Sum.inl x0y) l0).bind fun x8 => (cas x8 (fun y2 => (some (y2))) (fun d_ => (thn d_ fun d2 => (some (d2)))))))

def ossuarylaw20_CatalogEach_r0 (K : Nat) (a2 : Int) (x24 : ((List Omap_pair__int64__api_Entry) × (List Api_Entry))) (t0_ : Api_Entry) (zz_ : Sum Int (Sum Unit ((List Api_Entry) × Int))) : Option ((Sum Int (Sum Unit ((List Api_Entry) × Int))) × Bool) := (cas zz_ (fun z4 => (if (x24.2.length : Int) ≤ z4 then (some ((Sum.inr (Sum.inl ()), false))) else (if 0 ≤ z4 then (if z4 < (x24.2.length : Int) then (if (!(((t0_.Part.Tier == (((x24.2.getD z4.toNat z_Api_Entry).Part).Tier)) && ((t0_.Part.Index == (((x24.2.getD z4.toNat z_Api_Entry).Part).Index)) && true)) && ((t0_.Seg == ((x24.2.getD z4.toNat z_Api_Entry).Seg)) && ((t0_.Mark == ((x24.2.getD z4.toNat z_Api_Entry).Mark)) && ((t0_.Rows == ((x24.2.getD z4.toNat z_Api_Entry).Rows)) && ((t0_.Cold == ((x24.2.getD z4.toNat z_Api_Entry).Cold)) && true)))))) = true then (some ((Sum.inr (Sum.inl ()), false))) else (if (w64 (z4 + 1)) = a2 then (some ((Sum.inr (Sum.inr (x24.2, w64 (z4 + 1))), false))) else (some ((Sum.inl (w64 (z4 + 1)), true))))) else none) else none))) (fun _ => none))
def ossuarylaw20_CatalogEach (K : Nat) (l0 : List Ossuarylaw20_Act) (s1_0 : Value) (l1_0 : List Api_Part) (s1_1 : Value) (l1_1 : List Api_Entry) (a2 : Int) : Option Bool := ((ossuarylaw20_alive K).bind fun x19 => (if (!x19) = true then (some (false)) else ((ossuarylaw20_light_R K l0).bind fun x22 => (if (!x22) = true then (some (true)) else ((ossuarylaw20_light_R_2 K [(⟨(⟨s1_0, l1_0⟩ : Sl Api_Part), (⟨s1_1, l1_1⟩ : Sl Api_Entry)⟩ : Ossuarylaw20_Act)]).bind fun x23 => (if (!x23) = true then (some (true)) else ((ossuarylaw20_made_R K l0).bind fun x24 => ((catalog_Catalog_Copy_O K x24.1).bind fun x25 => ((catalog_Catalog_Apply_ORR K x24.1 l1_0 l1_1).bind fun x26 => ((ossuarylaw20_Back_O K x25).bind fun x29 => ((ossuaryref20_Same_RR K x29 x24.2).bind fun x30 => (if (!x30) = true then (some (false)) else (Option.bind (thn (catalog_Catalog_All_O x25) fun u4 => ((catalog_Catalog_All_1_YO K (Sum Int (Sum Unit ((List Api_Entry) × Int))) (ossuarylaw20_CatalogEach_r0 K a2 x24) (Sum.inl 0) x25).bind fun x33 => (cas x33 (fun y4 => (some (Sum.inl (x24.2, y4)))) (fun d_ => (cas d_ (fun d7 => (some (Sum.inr (false)))) (fun d_' => (thn d_' fun d8 => (some (Sum.inl (d8.1, d8.2)))))))))) fun z => (cas z (fun v2 => (if 0 < a2 then (if a2 < (v2.1.length : Int) then (some ((v2.2 == a2))) else (some ((v2.2 == (v2.1.length : Int))))) else (some ((v2.2 == (v2.1.length : Int)))))) (fun t_ => (some (t_)))))))))))))))))

end Go.Proofs.Ythdggcleffadeaa.CatalogEach
