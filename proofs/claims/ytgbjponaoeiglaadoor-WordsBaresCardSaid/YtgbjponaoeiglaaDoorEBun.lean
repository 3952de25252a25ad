/- The engine's text on several atoms as one, and effects in regions that draw. -/
import Derived.Test.YtgbjponaoeiglaaDoorEConv
set_option linter.unusedVariables false
set_option linter.unusedSimpArgs false
namespace Go.Proofs.YtgbjponaoeiglaaDoor.E
open Go Go.RowKit

/-! ### Orders of atoms -/
theorem Sat.swap {w : World} {K L : List HP} {A B : HP} (h : Sat w (K ++ A :: B :: L)) : Sat w (K ++ B :: A :: L) := by
  obtain ⟨own, S, hd, hs, hl, hsl, hat⟩ := h
  let f : Nat → Nat := fun j => if j = K.length then K.length + 1 else if j = K.length + 1 then K.length else j
  refine ⟨fun j => own (f j), S, fun i j b hi hj => ?_, fun i b => hs _ b, fun i b => hl _ b, hsl, fun j C hC => ?_⟩
  · have := hd _ _ b hi hj
    simp only [f] at this
    split at this <;> split at this <;> (try split at this) <;> (try split at this) <;> omega
  · refine hat (f j) C ?_
    simp only [f]
    by_cases h1 : j = K.length
    · subst h1
      simp at hC ⊢
      exact hC
    · by_cases h2 : j = K.length + 1
      · subst h2
        simp at hC ⊢
        exact hC
      · simp only [h1, h2, if_false]
        by_cases h3 : j < K.length
        · rw [List.getElem?_append_left h3] at hC ⊢; exact hC
        · rw [List.getElem?_append_right (by omega)] at hC ⊢
          obtain ⟨m, hm⟩ : ∃ m, j - K.length = m + 2 := ⟨j - K.length - 2, by omega⟩
          rw [hm] at hC ⊢
          simpa using hC
theorem Sat.perm' {w : World} {L M : List HP} (p : L.Perm M) : ∀ K, Sat w (K ++ L) → Sat w (K ++ M) := by
  induction p with
  | nil => exact fun K h => h
  | cons x _ ih => intro K h; have := ih (K ++ [x]) (by simpa using h); simpa using this
  | swap x y l => intro K h; exact h.swap
  | trans _ _ ih1 ih2 => exact fun K h => ih2 K (ih1 K h)
theorem Sat.perm {w : World} {L M : List HP} (h : Sat w L) (p : L.Perm M) : Sat w M := Sat.perm' p [] h
theorem Sat.pre {w : World} {L M : List HP} (h : Sat w (L ++ M)) : Sat w L := by
  obtain ⟨own, S, hd, hs, hl, hsl, hat⟩ := h
  exact ⟨own, S, hd, hs, hl, hsl, fun i A hA => hat i A (by rw [List.getElem?_append_left (List.getElem?_eq_some_iff.1 hA).1]; exact hA)⟩

/-! ### Several atoms as one -/
def bun (M : List HP) : HP where
  p o s := ∃ own : Nat → Nat → Prop, (∀ i j b, own i b → own j b → i = j) ∧ ∀ (i : Nat) (A : HP), M[i]? = some A → A.p (fun b x => own i b ∧ o b x) s
  mono := fun ⟨own, hd, ha⟩ ho hs => ⟨own, hd, fun i A hi => A.mono (ha i A hi) (fun b x h => ⟨h.1, ho b x h.2⟩) hs⟩
theorem Sat.bun1 {w : World} {M F : List HP} (h : Sat w (M ++ F)) : Sat w (bun M :: F) := by
  obtain ⟨own, S, hd, hs, hl, hsl, hat⟩ := h
  refine ⟨fun j => match j with | 0 => fun b => ∃ i, i < M.length ∧ own i b | j + 1 => own (M.length + j), S, ?_, ?_, ?_, hsl, ?_⟩
  · intro i j b hi hj
    cases i <;> cases j <;> simp only at hi hj
    · rfl
    · obtain ⟨k, hk, hi⟩ := hi; have := hd _ _ b hi hj; omega
    · obtain ⟨k, hk, hj⟩ := hj; have := hd _ _ b hi hj; omega
    · have := hd _ _ b hi hj; omega
  · intro i b hi
    cases i <;> simp only at hi
    · obtain ⟨k, hk, hi⟩ := hi; exact hs k b hi
    · exact hs _ b hi
  · intro i b hi
    cases i <;> simp only at hi
    · obtain ⟨k, hk, hi⟩ := hi; exact hl k b hi
    · exact hl _ b hi
  · intro i A hA
    cases i with
    | zero =>
      simp at hA; subst hA
      refine ⟨fun i b => i < M.length ∧ own i b, fun i j b hi hj => hd _ _ b hi.2 hj.2, fun i A hi => ?_⟩
      have hlt := (List.getElem?_eq_some_iff.1 hi).1
      exact A.mono (hat i A (by rw [List.getElem?_append_left hlt]; exact hi)) (fun b x hx => ⟨⟨hlt, hx.1⟩, ⟨i, hlt, hx.1⟩, hx.2⟩) (fun _ _ hx => hx)
    | succ i =>
      refine hat (M.length + i) A ?_
      rw [List.getElem?_append_right (by omega), Nat.add_sub_cancel_left]
      simpa using hA
theorem Sat.unbun1 {w : World} {M F : List HP} (h : Sat w (bun M :: F)) : Sat w (M ++ F) := by
  obtain ⟨own, S, hd, hs, hl, hsl, hat⟩ := h
  obtain ⟨ow, hwd, hwa⟩ := hat 0 (bun M) rfl
  refine ⟨fun j => if j < M.length then fun b => ow j b ∧ own 0 b else own (j - M.length + 1), S, ?_, ?_, ?_, hsl, ?_⟩
  · intro i j b hi hj
    by_cases h1 : i < M.length <;> by_cases h2 : j < M.length <;> simp only [h1, h2, if_true, if_false] at hi hj
    · exact hwd _ _ b hi.1 hj.1
    · have := hd _ _ b hi.2 hj; omega
    · have := hd _ _ b hi hj.2; omega
    · have := hd _ _ b hi hj; omega
  · intro i b hi
    by_cases h1 : i < M.length <;> simp only [h1, if_true, if_false] at hi
    · exact hs _ b hi.2
    · exact hs _ b hi
  · intro i b hi
    by_cases h1 : i < M.length <;> simp only [h1, if_true, if_false] at hi
    · exact hl _ b hi.2
    · exact hl _ b hi
  · intro j A hA
    by_cases h1 : j < M.length <;> simp only [h1, if_true, if_false]
    · rw [List.getElem?_append_left h1] at hA
      exact A.mono (hwa j A hA) (fun b x hx => ⟨⟨hx.1, hx.2.1⟩, hx.2.2⟩) (fun _ _ hx => hx)
    · rw [List.getElem?_append_right (by omega)] at hA
      exact hat (j - M.length + 1) A (by simpa using hA)
theorem Sat.bun {w : World} {K M F : List HP} (h : Sat w (K ++ (M ++ F))) : Sat w (K ++ E.bun M :: F) := by
  have h1 : Sat w (M ++ (K ++ F)) := h.perm (by rw [← List.append_assoc, ← List.append_assoc]; exact List.Perm.append List.perm_append_comm (List.Perm.refl _))
  exact h1.bun1.perm List.perm_middle.symm
theorem Sat.unbun {w : World} {K M F : List HP} (h : Sat w (K ++ E.bun M :: F)) : Sat w (K ++ (M ++ F)) := by
  have h1 : Sat w (E.bun M :: (K ++ F)) := h.perm List.perm_middle
  exact h1.unbun1.perm (by rw [← List.append_assoc, ← List.append_assoc]; exact List.Perm.append List.perm_append_comm (List.Perm.refl _))

/-! ### The record of a loop -/
section
variable {P : Program} {n : Nat} {w0 : World} {F L L' : List HP} {ρ ρ' : Env} {d ty : Nat} {dd : Option Nat} {gg : Option (Nat × Bool)} {pos : String} {after : Array Edge}
theorem isRd_bun {M : List HP} {A : HP} {sv : Value} {m sz : Nat} {cs : List Value} (i : Nat) (hi : M[i]? = some A) (h : IsRd A sv m sz cs) : IsRd (bun M) sv m sz cs := by
  rintro o s ⟨own, hd, ha⟩
  exact rdp_mono (h _ _ (ha i A hi)) (fun b x hx => hx.2) (fun _ _ hx => hx)
theorem ent_bunI {M R : List HP} {X : Act → World → Prop} (σ : List Nat) (hn : σ.Nodup) (hp : pick L σ = some (M ++ R)) (k : Ent (St n w0 F ρ (bun M :: R)) X) : Ent (St n w0 F ρ L) X := by
  intro a w h
  have h1 := h.sat.pick σ hn hp
  rw [List.append_assoc] at h1
  exact k a w ⟨h.defers, h.size, h.has, h1.bun1, h.keeps⟩
section
variable {r : Option Nat} {ops : Array Oper} {done : Nat → Bool} {T : List (Nat × Nat × Value)} {Q : Exit → Act → World → Prop}
/-- An operation in a region that draws, that turns atoms, and whose value is known ahead. -/
theorem draw_eff {i t : Nat} {o : Oper} {v : Value} {ρi : Env} {L2 L3 : List HP} (ho : ops[i]? = some o) (hdst : o.dst = some t) (hw : ∀ a, Has a ρi → Region.wanted o (yielded ops a.tmps) = true) (hρ : ∀ a, HasA a ρ T done → Has a ρi) (h2 : L = L2) (h3 : L3 = L') (hot : OT P o ρi L2 (fun u M => u = v ∧ M = L3)) (ht : Nat.blt t n = true) (hn : look ρ t = none)
    (hT : ∀ (k : Nat) (e : Nat × Nat × Value), T[k]? = some e → (e.1 = i ∧ e.2.1 = t ∧ e.2.2 = v) ∨ (e.1 ≠ i ∧ e.2.1 ≠ t)) : Ent (StD n w0 F ρ T done L) fun a w => wpOpIn (Wd r) 0 P ops Q i (StD n w0 F ρ T (up done i) L') a w := by
  subst h2; subst h3
  intro a w h
  have hρi := hρ a ⟨h.has, h.all⟩
  simp only [wpOpIn, ho, hw a hρi, if_true]
  refine op_ot hot hρi h.sat (fun u M w' hΦ hs hk => ?_)
  obtain ⟨rfl, rfl⟩ := hΦ
  rw [hdst]
  have hlt : t < a.tmps.size := by rw [h.size]; simpa [Nat.blt_eq] using ht
  exact ⟨by rw [put_defers']; exact h.defers, by rw [put_size]; exact h.size, has_put_other h.has hn, allT_put hlt h.all rfl fun k e he => (hT k e he).imp id fun ⟨h1, h2⟩ => ⟨h1, h2, fun _ => he⟩, (by rw [fr_put]; exact hs), h.keeps.trans hk⟩
end
end
end Go.Proofs.YtgbjponaoeiglaaDoor.E
