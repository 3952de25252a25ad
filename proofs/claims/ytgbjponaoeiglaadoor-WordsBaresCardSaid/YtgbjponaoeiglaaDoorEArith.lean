/- Plain arithmetic of the kinds of whole numbers, and small words of the plain functions: no machine in it. -/
import GoSem.Core.View
namespace Go.Proofs.YtgbjponaoeiglaaDoor.E
open Go
abbrev w64 (n : Int) : Int := IntKind.i64.wrap n
abbrev w32 (n : Int) : Int := IntKind.i32.wrap n
abbrev w16 (n : Int) : Int := IntKind.i16.wrap n
abbrev wi8 (n : Int) : Int := IntKind.i8.wrap n
abbrev wi16 (n : Int) : Int := IntKind.i16.wrap n
abbrev wu64 (n : Int) : Int := IntKind.u64.wrap n
abbrev wu32 (n : Int) : Int := IntKind.u32.wrap n
abbrev wu16 (n : Int) : Int := IntKind.u16.wrap n
abbrev wu8 (n : Int) : Int := IntKind.u8.wrap n
/-- What a cell of this kind may hold. -/
def inI (k : IntKind) (x : Int) : Prop := k.min ≤ x ∧ x ≤ k.max
def bAnd (k : IntKind) (a b : Int) : Int := k.wrap (BitVec.ofInt k.bits a &&& BitVec.ofInt k.bits b).toNat
def bOr (k : IntKind) (a b : Int) : Int := k.wrap (BitVec.ofInt k.bits a ||| BitVec.ofInt k.bits b).toNat
def bXor (k : IntKind) (a b : Int) : Int := k.wrap (BitVec.ofInt k.bits a ^^^ BitVec.ofInt k.bits b).toNat
def bAndNot (k : IntKind) (a b : Int) : Int := k.wrap (BitVec.ofInt k.bits a &&& ~~~ BitVec.ofInt k.bits b).toNat
def bShl (k : IntKind) (a b : Int) : Int := k.wrap (a * 2 ^ min b.toNat k.bits)
def bShr (k : IntKind) (a b : Int) : Int := a.fdiv (2 ^ min b.toNat k.bits)
def mn (a b : Int) : Int := if b < a then b else a
def mx (a b : Int) : Int := if a < b then b else a
/-- A string's bytes as numbers; and a string out of numbers. -/
def byts (s : List UInt8) : List Int := s.map fun b => (b.toNat : Int)
def strs (l : List Int) : List UInt8 := l.map fun n => UInt8.ofNat n.toNat
/-- An array as a function of the place: another thing at one place; are two the same? -/
def updF {α : Type} (f : Nat → α) (i : Nat) (y : α) : Nat → α := fun j => if j = i then y else f j
def eqF {α : Type} [DecidableEq α] (n : Nat) (f g : Nat → α) : Bool := (List.range n).all fun i => decide (f i = g i)
/-- x, then f of it. -/
def thn {α β : Type} (x : α) (f : α → β) : β := f x
theorem thn_elim {α β : Type} {x : α} {f : α → β} {r : β} (h : thn x f = r) : ∃ y, x = y ∧ f y = r := ⟨x, rfl, h⟩
/-- One or the other. -/
def cas {α β γ : Type} (x : α ⊕ β) (f : α → γ) (g : β → γ) : γ := match x with | .inl a => f a | .inr b => g b
theorem cas_inl {α β γ : Type} (a : α) (f : α → γ) (g : β → γ) : cas (.inl a) f g = f a := rfl
theorem cas_inr {α β γ : Type} (b : β) (f : α → γ) (g : β → γ) : cas (.inr b) f g = g b := rfl
/-- A slice in an element: its value, and what it has. -/
structure Sl (α : Type) where
  v : Value
  xs : List α
theorem jag_nil {α : Type} {R : α → Prop} : ∀ x ∈ ([] : List α), R x := fun _ hx => nomatch hx
theorem jag_cons {α : Type} {R : α → Prop} {y : α} {l : List α} (h : R y) (hl : ∀ x ∈ l, R x) : ∀ x ∈ y :: l, R x := fun x hx => by
  cases hx with
  | head => exact h
  | tail _ hx => exact hl x hx
theorem getD_mem_ {α : Type} {l : List α} {i : Nat} (z : α) (h : i < l.length) : l.getD i z ∈ l := by
  have e : l.getD i z = l[i] := by simp [List.getD_eq_getElem?_getD, List.getElem?_eq_getElem h]
  rw [e]; exact List.getElem_mem h
/-- A pointer to the block b's beginning, or nil. -/
def selfp (q : Bool) (b : Nat) : Value := match q with | true => .pointer (some ⟨b, 0, none⟩) | false => .pointer none
/-- The pieces of a string between the bytes c. -/
def splitOn (c : UInt8) : List UInt8 → List (List UInt8)
  | [] => [[]]
  | b :: l => if b = c then [] :: splitOn c l else match splitOn c l with
    | [] => [[b]]
    | p :: ps => (b :: p) :: ps
/-- Where a byte is first; -1: nowhere. -/
def idxB : List UInt8 → UInt8 → Int
  | [], _ => -1
  | b :: l, c => if b = c then 0 else if idxB l c = -1 then -1 else idxB l c + 1
/-- slices.Insert of one value: where it may be. -/
def insL {α : Type} (bytes : Nat) (xs : List α) (i : Int) : List α → Option (List α)
  | [y] => if 0 ≤ i ∧ i ≤ xs.length ∧ (xs.length + 1) * bytes ≤ 140737488355328 then some (xs.insertIdx i.toNat y) else none
  | _ => none
theorem insL_inv {α : Type} {bytes : Nat} {xs ys r : List α} {i : Int} (h : insL bytes xs i ys = some r) : ∃ (k : Nat) (y : α), i = (k : Int) ∧ ys = [y] ∧ k ≤ xs.length ∧ (xs.length + 1) * bytes ≤ 140737488355328 ∧ r = xs.insertIdx k y := by
  unfold insL at h
  split at h
  · rename_i y
    split at h
    · rename_i hc
      exact ⟨i.toNat, y, by omega, rfl, by omega, hc.2.2, (Option.some.inj h).symm⟩
    · cases h
  · cases h
/-- slices.Sort of whole numbers. -/
def insI (x : Int) : List Int → List Int
  | [] => [x]
  | y :: l => if x ≤ y then x :: y :: l else y :: insI x l
def sortI : List Int → List Int
  | [] => []
  | x :: l => insI x (sortI l)
/-- slices.Delete of what lies from i to before j. -/
def delL {α : Type} (xs : List α) (i j : Int) : Option (List α) := if 0 ≤ i ∧ i ≤ j ∧ j ≤ xs.length then some (xs.take i.toNat ++ xs.drop j.toNat) else none
theorem delL_inv {α : Type} {xs r : List α} {i j : Int} (h : delL xs i j = some r) : ∃ k m : Nat, i = (k : Int) ∧ j = (m : Int) ∧ k ≤ m ∧ m ≤ xs.length ∧ r = xs.take k ++ xs.drop m := by
  unfold delL at h
  split at h
  · exact ⟨i.toNat, j.toNat, by omega, by omega, by omega, by omega, (Option.some.inj h).symm⟩
  · cases h
/-- In order by what a comparison says. -/
def sortF {α : Type} (cf : α → α → Int) (l : List α) : List α := l.mergeSort fun x y => !decide (cf y x < 0)
/-- Without what is like the one ahead. -/
def compactI (l : List Int) : List Int := ((List.range l.length).filter (fun j => decide (j = 0 ∨ l.toArray[j]! ≠ l.toArray[j - 1]!))).map (l.toArray[·]!)
end Go.Proofs.YtgbjponaoeiglaaDoor.E
