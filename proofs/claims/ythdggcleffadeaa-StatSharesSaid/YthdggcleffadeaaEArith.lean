/- Plain arithmetic of the kinds of whole numbers, and small words of the plain functions: no machine in it. -/
import GoSem.Core.View
namespace Go.Proofs.Ythdggcleffadeaa.E
open Go
abbrev w64 (n : Int) : Int := IntKind.i64.wrap n
abbrev w32 (n : Int) : Int := IntKind.i32.wrap n
abbrev w16 (n : Int) : Int := IntKind.i16.wrap n
abbrev wi8 (n : Int) : Int := IntKind.i8.wrap n
abbrev wi16 (n : Int) : Int := IntKind.i16.wrap n
abbrev wu64 (n : Int) : Int := IntKind.u64.wrap n
abbrev wu32 (n : Int) : Int := IntKind.u32.wrap n
abbrev wu16 (n : Int) : Int := IntKind.u16.wrap n
abbrev wu8 (n : Int) : Int := IntKind.u8.wrap n
/-- What a cell of this kind may hold. -/
def inI (k : IntKind) (x : Int) : Prop := k.min ≤ x ∧ x ≤ k.max
def bAnd (k : IntKind) (a b : Int) : Int := k.wrap (BitVec.ofInt k.bits a &&& BitVec.ofInt k.bits b).toNat
def bOr (k : IntKind) (a b : Int) : Int := k.wrap (BitVec.ofInt k.bits a ||| BitVec.ofInt k.bits b).toNat
def bXor (k : IntKind) (a b : Int) : Int := k.wrap (BitVec.ofInt k.bits a ^^^ BitVec.ofInt k.bits b).toNat
def bAndNot (k : IntKind) (a b : Int) : Int := k.wrap (BitVec.ofInt k.bits a &&& ~~~ BitVec.ofInt k.bits b).toNat
def bShl (k : IntKind) (a b : Int) : Int := k.wrap (a * 2 ^ min b.toNat k.bits)
def bShr (k : IntKind) (a b : Int) : Int := a.fdiv (2 ^ min b.toNat k.bits)
def mn (a b : Int) : Int := if b < a then b else a
def mx (a b : Int) : Int := if a < b then b else a
/-- A string's bytes as numbers; and a string out of numbers. -/
def byts (s : List UInt8) : List Int := s.map fun b => (b.toNat : Int)
def strs (l : List Int) : List UInt8 := l.map fun n => UInt8.ofNat n.toNat
/-- An array as a function of the place: another thing at one place; are two the same? -/
def updF {α : Type} (f : Nat → α) (i : Nat) (y : α) : Nat → α := fun j => if j = i then y else f j
def eqF {α : Type} [DecidableEq α] (n : Nat) (f g : Nat → α) : Bool := (List.range n).all fun i => decide (f i = g i)
/-- x, then f of it. -/
def thn {α β : Type} (x : α) (f : α → β) : β := f x
theorem thn_elim {α β : Type} {x : α} {f : α → β} {r : β} (h : thn x f = r) : ∃ y, x = y ∧ f y = r := ⟨x, rfl, h⟩
/-- One or the other. -/
def cas {α β γ : Type} (x : α ⊕ β) (f : α → γ) (g : β → γ) : γ := match x with | .inl a => f a | .inr b => g b
theorem cas_inl {α β γ : Type} (a : α) (f : α → γ) (g : β → γ) : cas (.inl a) f g = f a := rfl
theorem cas_inr {α β γ : Type} (b : β) (f : α → γ) (g : β → γ) : cas (.inr b) f g = g b := rfl
end Go.Proofs.Ythdggcleffadeaa.E
