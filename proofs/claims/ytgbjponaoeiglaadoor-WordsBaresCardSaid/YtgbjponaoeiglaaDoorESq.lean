/- Short names, and steps, for walks that are printed tightly. -/
import Derived.Test.YtgbjponaoeiglaaDoorEGhost
namespace Go.Proofs.YtgbjponaoeiglaaDoor.E
open Go
abbrev I (x : Int) : Value := .int .i64 x
abbrev S0 : Value := str ([] : List UInt8)
abbrev L0 : Value := .slice none 0 0
abbrev B0 : Value := .bool false
abbrev nB : List UInt8 := []
abbrev P0 : Value := .pointer none
abbrev tU (x : Array Value) : Value := .tuple x
abbrev DI : Type := (Nat → Value) → (Nat → Bool) → Act → World → Prop
abbrev DT : Type := (Nat → Value) → List (Nat × Nat × Value)
abbrev DL : Type := (Nat → Value) → (Nat → Bool) → List HP
theorem gdT {α : Type} {c : Prop} [Decidable c] {A : Option α} {r : α} (h : (if c then A else none) = some r) : c ∧ A = some r := by
  by_cases q : c
  · rw [if_pos q] at h; exact ⟨q, h⟩
  · rw [if_neg q] at h; cases h
theorem gdF {α : Type} {c : Prop} [Decidable c] {A : Option α} {r : α} (h : (if c then none else A) = some r) : ¬ c ∧ A = some r := by
  by_cases q : c
  · rw [if_pos q] at h; cases h
  · rw [if_neg q] at h; exact ⟨q, h⟩
theorem htT {α : Type} {c : Prop} [Decidable c] {A B : α} {r : α} {G : Prop} (h : (if c then A else B) = r) (h1 : c → A = r → G) (h2 : ¬ c → B = r → G) : G := by
  by_cases q : c
  · rw [if_pos q] at h; exact h1 q h
  · rw [if_neg q] at h; exact h2 q h
theorem htF {α : Type} {c : Prop} [Decidable c] {A B : α} {r : α} {G : Prop} (h : (if c then A else B) = r) (h2 : ¬ c → B = r → G) (h1 : c → A = r → G) : G := by
  by_cases q : c
  · rw [if_pos q] at h; exact h1 q h
  · rw [if_neg q] at h; exact h2 q h
end Go.Proofs.YtgbjponaoeiglaaDoor.E
