/- The engine's text on slices.SortFunc of structs, slices.Clone of structs, and slices.Compact of whole numbers: the library's contracts, told by atoms. -/
import Derived.Test.YtndeodpckfjakaaEInsert
import Derived.Shelf.SlSortCmp.NoneTotal
import Derived.Shelf.SlicesE.Clone
import Derived.Shelf.SlicesG.CompactI
set_option linter.unusedVariables false
set_option linter.unusedSimpArgs false
namespace Go.Proofs.Ytndeodpckfjakaa.E
open Go Go.RowKit Go.Sort
/-- All that memory holds, as it is. -/
def allH (W : World) : HP := ⟨fun o _ => ∀ b obj, W.heap[b]? = some obj → o b obj, fun h ho _ b obj hb => ho _ _ (h b obj hb)⟩
theorem sat_all (W : World) : Sat W ([] ++ [allH W]) := by
  refine ⟨fun i b => i = 0 ∧ b < W.heap.size, fun _ => False, fun i j b h1 h2 => h1.1.trans h2.1.symm, fun _ _ _ h => h, fun _ _ h => h.2, fun _ h => h.elim, fun i A hA => ?_⟩
  cases i with
  | zero =>
    simp only [List.nil_append, List.getElem?_cons_zero, Option.some.injEq] at hA
    subst hA
    exact fun b obj hb => ⟨⟨rfl, (Array.getElem?_eq_some_iff.1 hb).1⟩, hb⟩
  | succ i => simp at hA
theorem grown_of {W w' : World} (hs : Sat w' ([] ++ [allH W])) (hk : Keeps W w') : ∃ q os, w' = grow (W.drewN q) os := by
  obtain ⟨own, S, hw⟩ := hs
  have h0 := hw.at_ 0 (allH W) rfl
  refine ⟨w'.drawn - W.drawn, w'.heap.extract W.heap.size w'.heap.size, ?_⟩
  have hh : w'.heap = W.heap ++ w'.heap.extract W.heap.size w'.heap.size := by
    apply Array.ext_getElem?
    intro i
    rw [Array.getElem?_append]
    by_cases hi : i < W.heap.size
    · rw [if_pos hi]
      have := (h0 i W.heap[i] (Array.getElem?_eq_getElem hi)).2
      rw [this, Array.getElem?_eq_getElem hi]
    · rw [if_neg hi, Array.getElem?_extract]
      have e : W.heap.size + (i - W.heap.size) = i := by omega
      rw [e]
      by_cases h2 : i < w'.heap.size
      · rw [if_pos (by omega)]
      · rw [if_neg (by omega), Array.getElem?_eq_none (by omega)]
  have hd : W.drawn + (w'.drawn - W.drawn) = w'.drawn := by have := hk.drawn; omega
  obtain ⟨heap', tape', drawn', os', output'⟩ := w'
  have k1 := hk.os; have k2 := hk.tape; have k3 := hk.output
  simp only at k1 k2 k3 hd hh
  unfold grow World.drewN
  simp only [hd, ← hh, k1, k2, k3]
theorem cmp_of_spec {α : Type} [Inhabited α] {P : Program} {g : FuncId} {enc : α → List Value} {k : Nat} {cf : α → α → Int} (hsp : ∀ x y : α, FnSpec P g [.agg (enc x).toArray, .agg (enc y).toArray] [] (fun v M => v = .int .i64 (cf x y) ∧ M = [])) (blk off size : Nat) (w : World) : CmpLays P g #[] enc k cf blk off size w := by
  intro m os dk _ x y
  refine (hsp x y [allH _] _ (sat_all _)).mono ?_
  rintro e w' ⟨v, L', rfl, ⟨rfl, rfl⟩, hs, hk⟩
  exact ⟨rfl, grown_of hs hk⟩
theorem flatK_fl {α : Type} [Inhabited α] {enc : α → List Value} {k : Nat} (hk : ∀ x, (enc x).length = k) (l : List α) : flatK enc k l.toArray = (fl enc l).toArray := by
  apply Array.ext
  · simp [fl_length hk]
  · intro t h1 h2
    have ht : t < l.length * k := by simpa using h1
    have hk0 : 0 < k := by
      rcases Nat.eq_zero_or_pos k with h | h
      · subst h; simp at ht
      · exact h
    have hi : t / k < l.length := by rw [Nat.div_lt_iff_lt_mul hk0]; exact ht
    have hg := get_flatK enc k l.toArray t (by simpa using ht)
    have e1 : (flatK enc k l.toArray)[t] = (flatK enc k l.toArray)[t]! := (getElem!_pos _ t h1).symm
    rw [e1, hg]
    have e2 : l.toArray[t / k]! = l[t / k] := by rw [getElem!_pos l.toArray (t / k) (by simpa using hi)]; simp
    rw [e2]
    have hm : t % k < (enc l[t / k]).length := by rw [hk]; exact Nat.mod_lt _ hk0
    have hd := fl_drop hk (t / k) l
    have e3 : (fl enc l)[t]? = (fl enc (l.drop (t / k)))[t % k]? := by
      rw [← hd, List.getElem?_drop]
      congr 1
      have := Nat.div_add_mod t k
      rw [Nat.mul_comm] at this
      omega
    rw [List.drop_eq_getElem_cons hi] at e3
    have e4 : fl enc (l[t / k] :: l.drop (t / k + 1)) = enc l[t / k] ++ fl enc (l.drop (t / k + 1)) := by unfold fl; rw [List.flatMap_cons]
    rw [e4, List.getElem?_append_left hm, List.getElem?_eq_getElem hm] at e3
    have h3 : t < (fl enc l).length := by simpa using h2
    rw [List.getElem?_eq_getElem h3] at e3
    rw [getElem!_pos (enc l[t / k]) (t % k) hm]
    simpa using (Option.some.inj e3).symm
/-- What is put upon a row of one's own. -/
theorem put_own {P : Program} {w : World} {F : List HP} {sv : Value} {e sz n n' : Nat} {cs cs2 zs : List Value} (hs : Sat w ([own sv e sz n cs] ++ F)) {g cap : Nat} {cur : Array Value} (hsv : sv = .slice (some ⟨g, 0, none⟩) n cap) (hg : w.heap[g]? = some (.cells cur e (0, 0))) (h3 : n ≤ cap) (h4 : cap ≤ maxLen) (h5 : cur.size = cap * sz) (hz : cs2.length = n' * sz) (hn : n' ≤ n) (hlen : (cs2 ++ zs).length = n * sz) (q : Nat) (os : Array Obj) :
    Sat (grow (putRow id (Sort.ahead w q) g 0 (cs2 ++ zs).toArray) os) ([own (.slice (some ⟨g, 0, none⟩) n' cap) e sz n' cs2] ++ F) := by
  have hgl : g < w.heap.size := (Array.getElem?_eq_some_iff.1 hg).1
  have hnew : (grow (putRow id (Sort.ahead w q) g 0 (cs2 ++ zs).toArray) os).heap[g]? = some (.cells (putCells id 0 (cs2 ++ zs).toArray cur) e (0, 0)) := by
    rw [heap_grow_old _ _ (by simpa [putRow, mapBlock, Sort.ahead] using hgl)]
    simp [putRow, mapBlock, Sort.ahead, Array.getElem?_modify, hg, onCells]
  have hold : ∀ c, c < w.heap.size → c ≠ g → (grow (putRow id (Sort.ahead w q) g 0 (cs2 ++ zs).toArray) os).heap[c]? = w.heap[c]? := by
    intro c hc' hne
    rw [heap_grow_old _ _ (by simpa [putRow, mapBlock, Sort.ahead] using hc')]
    simp [putRow, mapBlock, Sort.ahead, Array.getElem?_modify, Ne.symm hne]
  have key := hs.upd (w' := grow (putRow id (Sort.ahead w q) g 0 (cs2 ++ zs).toArray) os) 0 _ (own (.slice (some ⟨g, 0, none⟩) n' cap) e sz n' cs2) rfl (by simp [putRow, mapBlock, Sort.ahead]) fun U S hp hU hS hUS => by
    have hUg : U g := by
      subst hsv
      rcases hp.2 with ⟨h1, _⟩ | ⟨g', cap', cur', h1, h2, _⟩
      · cases h1
      · cases h1; exact h2.1
    refine ⟨U, fun _ hb => .inl hb, fun c hc' hnu => hold c hc' (fun e0 => hnu (e0 ▸ hUg)), hz, .inr ⟨g, cap, _, rfl, ⟨hUg, hnew⟩, Nat.le_trans hn h3, h4, by simpa [putCells] using h5, ?_⟩⟩
    apply List.ext_getElem?
    intro j
    rw [List.getElem?_take]
    by_cases hj : j < n' * sz
    · have hjl : j < cs2.length := by omega
      have hle : n * sz ≤ cap * sz := Nat.mul_le_mul_right sz h3
      have hle2 : n' * sz ≤ n * sz := Nat.mul_le_mul_right sz hn
      have h9 : j < cur.size := by rw [h5]; omega
      have h10 : j < (cs2 ++ zs).length := by rw [hlen]; omega
      have h11 : j < cs2.length + zs.length := by simpa using h10
      rw [if_pos hj, Array.getElem?_toList]
      simp [putCells, Array.getElem?_mapIdx, Array.getElem?_eq_getElem h9, h11, List.getElem?_append_left hjl, List.getElem?_eq_getElem hjl]
      exact List.getElem_append_left hjl
    · rw [if_neg hj, List.getElem?_eq_none (by omega)]
  exact key
theorem own_form {w : World} {F : List HP} {sv : Value} {e sz n : Nat} {cs : List Value} (hs : Sat w ([own sv e sz n cs] ++ F)) : cs.length = n * sz ∧ ((sv = .slice none 0 0 ∧ n = 0) ∨ ∃ g cap cur, sv = .slice (some ⟨g, 0, none⟩) n cap ∧ w.heap[g]? = some (.cells cur e (0, 0)) ∧ n ≤ cap ∧ cap ≤ maxLen ∧ cur.size = cap * sz ∧ cur.toList.take (n * sz) = cs) :=
  hs.says (φ := cs.length = n * sz ∧ ((sv = .slice none 0 0 ∧ n = 0) ∨ ∃ g cap cur, sv = .slice (some ⟨g, 0, none⟩) n cap ∧ w.heap[g]? = some (.cells cur e (0, 0)) ∧ n ≤ cap ∧ cap ≤ maxLen ∧ cur.size = cap * sz ∧ cur.toList.take (n * sz) = cs)) 0 _ rfl fun U S hp => by
    refine ⟨hp.1, hp.2.imp id fun ⟨g, cap, cur, h1, h2, h3, h4, h5, h6⟩ => ⟨g, cap, cur, h1, h2.2, h3, h4, h5, h6⟩⟩
theorem holds_own {w : World} {g cap e : Nat} {cur : Array Value} {cs : List Value} (hg : w.heap[g]? = some (.cells cur e (0, 0))) (ht : cur.toList.take cs.length = cs) : Holds id w g 0 cs.toArray := by
  intro j hj
  have hj' : j < cs.length := by simpa using hj
  refine ⟨?_, by simp [World.frozen?, hg]⟩
  have h7 : (cur.toList.take cs.length)[j]? = cs[j]? := by rw [ht]
  rw [List.getElem?_take, if_pos hj', Array.getElem?_toList] at h7
  simp [World.cell?, hg, h7, List.getElem?_eq_getElem hj']
theorem sortF_length {α : Type} (cf : α → α → Int) (l : List α) : (sortF cf l).length = l.length := List.length_mergeSort ..
theorem spec_sortF {α : Type} [Inhabited α] {P : Program} {f g : FuncId} {e k : Nat} {enc : α → List Value} (hk : ∀ x, (enc x).length = k) (cf : α → α → Int) (hsp : ∀ x y : α, FnSpec P g [.agg (enc x).toArray, .agg (enc y).toArray] [] (fun v M => v = .int .i64 (cf x y) ∧ M = []))
    (hc : ∀ (blk cap : Nat) (d : Array α) (w : World), CmpLays P g #[] enc k cf blk 0 d.size w → HoldsK enc k w blk 0 d → blk < w.heap.size → d.size < 4611686018427387904 →
      Calls P f #[.slice (some ⟨blk, 0, none⟩) d.size cap, .func (.func g) #[] #[]] w fun e w' => e = .returned (.tuple #[]) ∧ ∃ n os, w' = sortWorldK enc k w blk 0 n (d.toList.mergeSort fun x y => !(ltOf cf) y x).toArray os)
    (hn : ∀ (p : Option Addr) (cap : Nat) (w : World), Calls P f #[.slice p 0 cap, .func (.func g) #[] #[]] w fun e w' => e = .returned (.tuple #[]) ∧ w' = w) (sv : Value) (l : List α) (hl : l.length < 4611686018427387904) :
    FnSpec P f [sv, .func (.func g) #[] #[]] [own sv e k l.length (fl enc l)] (fun v M => v = .tuple #[] ∧ M = [own sv e k (sortF cf l).length (fl enc (sortF cf l))]) := by
  intro F w hs
  have hlen : (sortF cf l).length = l.length := sortF_length cf l
  obtain ⟨hcl, hform⟩ := own_form hs
  have nilcase : l.length = 0 → ∀ p cap, sv = .slice p 0 cap → Calls P f [sv, .func (.func g) #[] #[]].toArray w fun e' w' => ∃ v L', e' = .returned v ∧ (v = .tuple #[] ∧ L' = [own sv e k (sortF cf l).length (fl enc (sortF cf l))]) ∧ Sat w' (L' ++ F) ∧ Keeps w w' := by
    intro h0 p cap hsv
    have hl0 : l = [] := List.eq_nil_of_length_eq_zero h0
    subst hl0
    subst hsv
    refine (hn p cap w).mono ?_
    rintro e' w' ⟨rfl, rfl⟩
    have e0 : sortF cf ([] : List α) = [] := by simp [sortF]
    rw [e0]
    exact ⟨_, _, rfl, ⟨rfl, rfl⟩, hs, Keeps.refl _⟩
  rcases hform with ⟨h1, h2⟩ | ⟨b, cap, cur, h1, h2, h3, h4, h5, h6⟩
  · exact nilcase h2 none 0 h1
  · by_cases h0 : l.length = 0
    · exact nilcase h0 _ cap (by rw [h1, h0])
    · have hgl : b < w.heap.size := (Array.getElem?_eq_some_iff.1 h2).1
      have hH : HoldsK enc k w b 0 l.toArray := by
        unfold HoldsK
        rw [flatK_fl hk]
        exact holds_own (cap := cap) h2 (by rw [hcl]; exact h6)
      have hcall := hc b cap l.toArray w (cmp_of_spec hsp b 0 _ w) hH hgl (by simpa using hl)
      have hsz : l.toArray.size = l.length := by simp
      rw [hsz] at hcall
      subst h1
      refine hcall.mono ?_
      rintro e' w' ⟨rfl, n, os, rfl⟩
      have hms : (l.toArray.toList.mergeSort fun x y => !(ltOf cf) y x) = sortF cf l := rfl
      rw [hms]
      have hrow : sortWorldK enc k w b 0 n (sortF cf l).toArray os = grow (putRow id (Sort.ahead w n) b 0 ((fl enc (sortF cf l)) ++ []).toArray) os := by
        unfold sortWorldK putRowK
        rw [flatK_fl hk, List.append_nil]
      have hfl : (fl enc (sortF cf l)).length = (sortF cf l).length * k := fl_length hk _
      rw [hrow]
      have hput := put_own (P := P) hs rfl h2 h3 h4 h5 (cs2 := fl enc (sortF cf l)) (zs := []) (n' := l.length) (by rw [hfl, hlen]) (Nat.le_refl _) (by rw [List.append_nil, hfl, hlen]) n os
      refine ⟨_, _, rfl, ⟨rfl, rfl⟩, ?_, ⟨rfl, rfl, rfl, by simp [putRow, mapBlock, Sort.ahead], ?_⟩⟩
      · rw [hlen]; exact hput
      · show w.drawn ≤ w.drawn + n
        omega
theorem compact_eq (l : List Int) : Lib.compact l = compactI l := rfl
theorem compactI_len (l : List Int) : (compactI l).length ≤ l.length := by
  unfold compactI
  rw [List.length_map]
  exact Nat.le_trans (List.length_filter_le _ _) (by simp)
theorem fl_eq (k : IntKind) (l : List Int) : fl (eI k) l = l.map (Value.int k) := by
  induction l with
  | nil => rfl
  | cons x l ih => simpa [fl, eI] using ih
theorem putRow_map (l : List Int) (w : World) (b : Nat) : putRow (Value.int .i64) w b 0 l.toArray = putRow id w b 0 (l.map (Value.int .i64)).toArray := by
  unfold putRow putCells
  congr 1
  funext o
  congr 1
  funext c
  funext x
  by_cases h : c < l.length
  · simp [h]
  · simp [h]
theorem spec_compactI {P : Program} {f : FuncId} {e : TypeId}
    (hc : ∀ (blk cap : Nat) (zs : List Int) (w : World), Holds (Value.int .i64) w blk 0 zs.toArray → zs.length ≤ 9223372036854775807 → zs.length ≤ cap →
      Calls P f #[.slice (some ⟨blk, 0, none⟩) zs.length cap] w fun e w' => e = .returned (.slice (some ⟨blk, 0, none⟩) (Lib.compact zs).length cap) ∧ ∃ q, w' = putRow (Value.int .i64) (Sort.ahead w q) blk 0 (Lib.compact zs ++ List.replicate (zs.length - (Lib.compact zs).length) 0).toArray)
    (hn : ∀ (p : Option Addr) (cap : Nat) (w : World), Calls P f #[.slice p 0 cap] w fun e w' => e = .returned (.slice p 0 cap) ∧ w' = w) (sv : Value) (l : List Int) (hl : l.length ≤ 9223372036854775807) :
    FnSpec P f [sv] [own sv e 1 l.length (fl (eI .i64) l)] (fun v M => ∃ sv2 : Value, v = sv2 ∧ M = [own sv2 e 1 (compactI l).length (fl (eI .i64) (compactI l))]) := by
  intro F w hs
  obtain ⟨hcl, hform⟩ := own_form hs
  have nilcase : l.length = 0 → ∀ p cap, sv = .slice p 0 cap → Calls P f [sv].toArray w fun e' w' => ∃ v L', e' = .returned v ∧ (∃ sv2 : Value, v = sv2 ∧ L' = [own sv2 e 1 (compactI l).length (fl (eI .i64) (compactI l))]) ∧ Sat w' (L' ++ F) ∧ Keeps w w' := by
    intro h0 p cap hsv
    have hl0 : l = [] := List.eq_nil_of_length_eq_zero h0
    subst hl0
    subst hsv
    refine (hn p cap w).mono ?_
    rintro e' w' ⟨rfl, rfl⟩
    exact ⟨_, _, rfl, ⟨_, rfl, rfl⟩, hs, Keeps.refl _⟩
  rcases hform with ⟨h1, h2⟩ | ⟨b, cap, cur, h1, h2, h3, h4, h5, h6⟩
  · exact nilcase h2 none 0 h1
  · by_cases h0 : l.length = 0
    · exact nilcase h0 _ cap (by rw [h1, h0])
    · subst h1
      have hH : Holds (Value.int .i64) w b 0 l.toArray := by
        have hid := holds_own (cap := cap) h2 (by rw [hcl]; exact h6)
        intro j hj
        have hj' : j < l.length := by simpa using hj
        have hj2 : j < (fl (eI .i64) l).toArray.size := by rw [fl_eq]; simpa using hj'
        obtain ⟨q1, q2⟩ := hid j hj2
        refine ⟨?_, q2⟩
        rw [q1]
        simp [fl_eq, hj']
      refine (hc b cap l w hH hl h3).mono ?_
      rintro e' w' ⟨rfl, q, rfl⟩
      have hle := compactI_len l
      have hrow : putRow (Value.int .i64) (Sort.ahead w q) b 0 (Lib.compact l ++ List.replicate (l.length - (Lib.compact l).length) 0).toArray = grow (putRow id (Sort.ahead w q) b 0 (fl (eI .i64) (compactI l) ++ List.replicate (l.length - (compactI l).length) (Value.int .i64 0)).toArray) #[] := by
        rw [grow_empty, putRow_map, compact_eq, fl_eq]
        simp
      rw [hrow]
      have hput := put_own (P := P) hs rfl h2 h3 h4 h5 (cs2 := fl (eI .i64) (compactI l)) (zs := List.replicate (l.length - (compactI l).length) (Value.int .i64 0)) (n' := (compactI l).length) (by rw [fl_eq]; simp) hle (by rw [fl_eq]; simp; omega) q #[]
      refine ⟨_, _, rfl, ⟨_, rfl, rfl⟩, ?_, ⟨rfl, rfl, rfl, by simp [putRow, mapBlock, Sort.ahead], ?_⟩⟩
      · rw [compact_eq]; exact hput
      · show w.drawn ≤ w.drawn + q
        omega
end Go.Proofs.Ytndeodpckfjakaa.E
