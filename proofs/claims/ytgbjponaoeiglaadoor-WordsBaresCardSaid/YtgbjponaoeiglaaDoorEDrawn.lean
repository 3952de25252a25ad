/- No step of the model's own monad takes back a draw. -/
import Derived.Test.YtgbjponaoeiglaaDoorEBase
set_option linter.unusedVariables false
set_option linter.unusedSimpArgs false
namespace Go.Proofs.YtgbjponaoeiglaaDoor.E
open Go Go.RowKit
theorem viewStore_drawn {p : Program} {w w' : World} {at_ : Addr} {u : TypeId} {k : Addr} {v : Value} {b : Bool} {l : List Addr} (h : w.viewStore p at_ u k v b = .ok (w', l)) : w'.drawn = w.drawn := by
  simp only [World.viewStore, bind, Except.bind, pure, Except.pure] at h
  repeat' (split at h)
  all_goals first | cases h; rfl | cases h | skip
theorem farStore_drawn {p : Program} {w w' : World} {a : Addr} {v : Value} {b : Bool} {l : List Addr} (h : w.farStore p a v b = .ok (w', l)) : w'.drawn = w.drawn := by
  unfold World.farStore at h
  split at h
  · split at h
    · rename_i hq
      cases h
      exact viewStore_drawn hq
    · cases h
  · cases h
theorem ask_drawn {α : Type} : ∀ (x : Ask α) (w : World), w.drawn ≤ (w.ask x).2.drawn
  | .done a, w => Nat.le_refl _
  | .ask what range k, w => by
    unfold World.ask
    simp only
    split
    · exact ask_drawn (k 0) w
    · exact Nat.le_trans (Nat.le_succ _) (ask_drawn (k _) { w with drawn := w.drawn + 1 })
theorem sys_drawn (w : World) (c : Sys) : w.drawn ≤ (w.sys c).2.drawn := by
  unfold World.sys
  have h := ask_drawn (Kernel.perform c w.os) w
  split
  · exact Nat.le_refl _
  · rename_i hq
    rw [hq] at h
    exact h
theorem run_drawn {α : Type} {P : Program} : ∀ (m : Sem α) (w : World) (v : α) (w' : World), m.run P w = .ok v w' → w.drawn ≤ w'.drawn
  | .pure a, w, v, w', h => by simp only [Sem.run] at h; cases h; exact Nat.le_refl _
  | .load m a k, w, v, w', h => by
    simp only [Sem.run] at h
    split at h
    · exact run_drawn (k _) w v w' h
    · split at h
      · exact run_drawn (k _) w v w' h
      · cases h
  | .store m a x k, w, v, w', h => by
    cases x with
    | agg c => simp only [Sem.run] at h; cases h
    | tuple c => simp only [Sem.run] at h; cases h
    | _ =>
      simp only [Sem.run] at h
      split at h
      · split at h
        · cases h
        · exact run_drawn k (w.setCell a _) v w' h
      · split at h
        · rename_i hq
          have := run_drawn k _ v w' h
          rw [farStore_drawn hq] at this
          exact this
        · cases h
  | .new o k, w, v, w', h => by simp only [Sem.run] at h; exact run_drawn (k _) { w with heap := w.heap.push o } v w' h
  | .shape r k, w, v, w', h => by simp only [Sem.run] at h; exact run_drawn (k _) w v w' h
  | .freeze a n k, w, v, w', h => by
    simp only [Sem.run] at h
    have e : (w.freeze a n).drawn = w.drawn := by unfold World.freeze; split <;> rfl
    rw [← e]
    exact run_drawn k _ v w' h
  | .frozen a k, w, v, w', h => by simp only [Sem.run] at h; exact run_drawn (k _) w v w' h
  | .getObj r k, w, v, w', h => by
    simp only [Sem.run] at h
    split at h
    · cases h
    · exact run_drawn (k _) w v w' h
    · cases h
  | .setObj r o k, w, v, w', h => by
    simp only [Sem.run] at h
    split at h
    · cases h
    · exact run_drawn k { w with heap := w.heap.setIfInBounds r o } v w' h
    · cases h
  | .choose q k, w, v, w', h => by
    simp only [Sem.run] at h
    split at h
    · exact run_drawn (k 0) w v w' h
    · exact Nat.le_trans (Nat.le_succ _) (run_drawn (k _) { w with drawn := w.drawn + 1 } v w' h)
  | .sys c k, w, v, w', h => by
    simp only [Sem.run] at h
    exact Nat.le_trans (sys_drawn w c) (run_drawn (k _) _ v w' h)
  | .program k, w, v, w', h => by simp only [Sem.run] at h; exact run_drawn (k P) w v w' h
  | .mark m k, w, v, w', h => by simp only [Sem.run] at h; exact run_drawn k w v w' h
  | .halt x, w, v, w', h => by simp only [Sem.run] at h; cases h
end Go.Proofs.YtgbjponaoeiglaaDoor.E
