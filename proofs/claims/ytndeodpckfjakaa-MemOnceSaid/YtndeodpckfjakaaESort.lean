/- The engine's text on slices.Sort of whole numbers of 64 bits: the library's contract, told by atoms. -/
import Derived.Test.YtndeodpckfjakaaEInsert
import Derived.Test.YtndeodpckfjakaaESortL
import Derived.Shelf.SortG.Plain
import Derived.Shelf.SortG.SortNone
set_option linter.unusedVariables false
set_option linter.unusedSimpArgs false
namespace Go.Proofs.Ytndeodpckfjakaa.E
open Go Go.RowKit Go.Sort

theorem fl_getI (k : IntKind) : ∀ (l : List Int) (j : Nat), (fl (eI k) l)[j]? = (l[j]?).map (Value.int k)
  | [], j => by simp [fl]
  | x :: l, 0 => by simp [fl, eI]
  | x :: l, j + 1 => by
    have := fl_getI k l j
    simpa [fl, eI] using this
theorem fl_lenI (k : IntKind) (l : List Int) : (fl (eI k) l).length = l.length := by
  induction l with
  | nil => rfl
  | cons x l ih => simpa [fl, eI] using ih
theorem spec_sortI {P : Program} {f : FuncId} {e : TypeId}
    (hc : ∀ (blk cap : Nat) (zs : List Int) (w : World), Holds (Value.int .i64) w blk 0 zs.toArray → blk < w.heap.size → zs.length < 4611686018427387904 →
      Calls P f #[.slice (some ⟨blk, 0, none⟩) zs.length cap] w fun e w' => e = .returned (.tuple #[]) ∧ ∃ n os, w' = grow (putRow (Value.int .i64) (Sort.ahead w n) blk 0 (zs.mergeSort fun x y => decide (x ≤ y)).toArray) os)
    (hn : ∀ (p : Option Addr) (cap : Nat) (w : World), Calls P f #[.slice p 0 cap] w fun e w' => e = .returned (.tuple #[]) ∧ w' = w) (sv : Value) (l : List Int) (hl : l.length < 4611686018427387904) :
    FnSpec P f [sv] [own sv e 1 l.length (fl (eI .i64) l)] (fun v M => v = .tuple #[] ∧ M = [own sv e 1 (sortI l).length (fl (eI .i64) (sortI l))]) := by
  intro F w hs
  have hlen : (sortI l).length = l.length := sortI_length l
  by_cases h0 : l.length = 0
  · have hl0 : l = [] := List.eq_nil_of_length_eq_zero h0
    subst hl0
    have hform : ∃ p cap, sv = .slice p 0 cap := hs.says (φ := ∃ p cap, sv = .slice p 0 cap) 0 _ rfl fun U S hp => by
      rcases hp.2 with ⟨h1, _⟩ | ⟨g, cap, cur, h1, _⟩
      · exact ⟨_, _, h1⟩
      · exact ⟨_, _, h1⟩
    obtain ⟨p, cap, rfl⟩ := hform
    refine (hn p cap w).mono ?_
    rintro e' w' ⟨rfl, rfl⟩
    exact ⟨_, _, rfl, ⟨rfl, rfl⟩, hs, Keeps.refl _⟩
  · have hform : ∃ g cap cur, sv = .slice (some ⟨g, 0, none⟩) l.length cap ∧ w.heap[g]? = some (.cells cur e (0, 0)) ∧ l.length ≤ cap ∧ cap ≤ maxLen ∧ cur.size = cap * 1 ∧ cur.toList.take (l.length * 1) = fl (eI .i64) l :=
      hs.says (φ := ∃ g cap cur, sv = .slice (some ⟨g, 0, none⟩) l.length cap ∧ w.heap[g]? = some (.cells cur e (0, 0)) ∧ l.length ≤ cap ∧ cap ≤ maxLen ∧ cur.size = cap * 1 ∧ cur.toList.take (l.length * 1) = fl (eI .i64) l) 0 _ rfl fun U S hp => by
        rcases hp.2 with ⟨h1, h2⟩ | ⟨g, cap, cur, h1, h2, h3, h4, h5, h6⟩
        · exact absurd h2 h0
        · exact ⟨g, cap, cur, h1, h2.2, h3, h4, h5, h6⟩
    obtain ⟨g, cap, cur, rfl, hg, h3, h4, h5, h6⟩ := hform
    have hgl : g < w.heap.size := (Array.getElem?_eq_some_iff.1 hg).1
    have hget : ∀ j, j < l.length → cur[j]? = some (Value.int .i64 l.toArray[j]!) := by
      intro j hj
      have h7 : (cur.toList.take (l.length * 1))[j]? = (fl (eI .i64) l)[j]? := by rw [h6]
      rw [fl_getI, List.getElem?_take, if_pos (by omega), Array.getElem?_toList] at h7
      rw [h7]
      simp [List.getElem?_eq_getElem hj]
    have hH : Holds (Value.int .i64) w g 0 l.toArray := by
      intro j hj
      have hj' : j < l.length := by simpa using hj
      refine ⟨?_, by simp [World.frozen?, hg]⟩
      have := hget j hj'
      simp [World.cell?, hg, this]
    refine (hc g cap l w hH hgl hl).mono ?_
    rintro e' w' ⟨rfl, n, os, rfl⟩
    have hms : (l.mergeSort fun x y => decide (x ≤ y)) = sortI l := mergeSort_sortI l
    rw [hms]
    refine ⟨_, _, rfl, ⟨rfl, rfl⟩, ?_, ⟨rfl, rfl, rfl, by simp [putRow, mapBlock, Sort.ahead], Nat.le_add_right _ _⟩⟩
    have hnew : (grow (putRow (Value.int .i64) (Sort.ahead w n) g 0 (sortI l).toArray) os).heap[g]? = some (.cells (putCells (Value.int .i64) 0 (sortI l).toArray cur) e (0, 0)) := by
      rw [heap_grow_old _ _ (by simpa [putRow, mapBlock, Sort.ahead] using hgl)]
      simp [putRow, mapBlock, Sort.ahead, Array.getElem?_modify, hg, onCells]
    have hold : ∀ c, c < w.heap.size → c ≠ g → (grow (putRow (Value.int .i64) (Sort.ahead w n) g 0 (sortI l).toArray) os).heap[c]? = w.heap[c]? := by
      intro c hc' hne
      rw [heap_grow_old _ _ (by simpa [putRow, mapBlock, Sort.ahead] using hc')]
      simp [putRow, mapBlock, Sort.ahead, Array.getElem?_modify, Ne.symm hne]
    have key := hs.upd (w' := grow (putRow (Value.int .i64) (Sort.ahead w n) g 0 (sortI l).toArray) os) 0 _ (own (.slice (some ⟨g, 0, none⟩) l.length cap) e 1 (sortI l).length (fl (eI .i64) (sortI l))) rfl (by simp [putRow, mapBlock, Sort.ahead]) fun U S hp hU hS hUS => by
      have hUg : U g := by
        rcases hp.2 with ⟨h1, _⟩ | ⟨g', cap', cur', h1, h2, _⟩
        · cases h1
        · cases h1; exact h2.1
      refine ⟨U, fun _ hb => .inl hb, fun c hc' hnu => hold c hc' (fun e0 => hnu (e0 ▸ hUg)), ?_, .inr ⟨g, cap, _, by rw [hlen], ⟨hUg, hnew⟩, by rw [hlen]; exact h3, h4, by simpa [putCells] using h5, ?_⟩⟩
      · rw [fl_lenI]; omega
      · apply List.ext_getElem?
        intro j
        rw [fl_getI, List.getElem?_take]
        by_cases hj : j < l.length
        · rw [if_pos (by rw [hlen]; omega), Array.getElem?_toList]
          have h9 : j < cur.size := by rw [h5]; omega
          have h10 : j < (sortI l).length := by rw [hlen]; exact hj
          simp [putCells, Array.getElem?_mapIdx, Array.getElem?_eq_getElem h9, h10, List.getElem?_eq_getElem h10]
        · rw [if_neg (by rw [hlen]; omega), List.getElem?_eq_none (by rw [hlen]; omega)]
          rfl
    exact key
end Go.Proofs.Ytndeodpckfjakaa.E
