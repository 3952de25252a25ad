/- memPlays_holds: a part of what its proof rests on. -/
import Derived.Test.YtmgpegiekankmaaGreatZP0
set_option linter.unusedVariables false
set_option linter.unusedSimpArgs false
section
set_option linter.unusedVariables false
set_option linter.unusedSimpArgs false
namespace Go.Proofs.YtmgpegiekankmaaGreat.E
open Go Go.RowKit Go.Sort
theorem A4 {P : Program} {w : World} {F : List HP} {sv : Value} {e sz n n' : Nat} {cs cs2 zs : List Value} (hs : eP w ([own sv e sz n cs] ++ F)) {g cap : Nat} {cur : Array Value} (hsv : sv = .slice (some ⟨g, 0, none⟩) n cap) (hg : w.heap[g]? = some (.cells cur e (0, 0))) (h3 : n ≤ cap) (h4 : cap ≤ maxLen) (h5 : cur.size = cap * sz) (hz : cs2.length = n' * sz) (hn : n' ≤ n) (hlen : (cs2 ++ zs).length = n * sz) (q : Nat) (os : Array Obj) :
    eP (grow (putRow id (Sort.ahead w q) g 0 (cs2 ++ zs).toArray) os) ([own (.slice (some ⟨g, 0, none⟩) n' cap) e sz n' cs2] ++ F) := by
  have hgl : g < w.heap.size := (Array.getElem?_eq_some_iff.1 hg).1
  have hnew : (grow (putRow id (Sort.ahead w q) g 0 (cs2 ++ zs).toArray) os).heap[g]? = some (.cells (putCells id 0 (cs2 ++ zs).toArray cur) e (0, 0)) := by
    rw [heap_grow_old _ _ (by simpa [putRow, mapBlock, Sort.ahead] using hgl)]
    simp [putRow, mapBlock, Sort.ahead, Array.getElem?_modify, hg, onCells]
  have hold : ∀ c, c < w.heap.size → c ≠ g → (grow (putRow id (Sort.ahead w q) g 0 (cs2 ++ zs).toArray) os).heap[c]? = w.heap[c]? := by
    intro c hc' hne
    rw [heap_grow_old _ _ (by simpa [putRow, mapBlock, Sort.ahead] using hc')]
    simp [putRow, mapBlock, Sort.ahead, Array.getElem?_modify, Ne.symm hne]
  have key := hs.upd (w' := grow (putRow id (Sort.ahead w q) g 0 (cs2 ++ zs).toArray) os) 0 _ (own (.slice (some ⟨g, 0, none⟩) n' cap) e sz n' cs2) rfl (by simp [putRow, mapBlock, Sort.ahead]) fun U S hp hU hS hUS => by
    have hUg : U g := by
      subst hsv
      rcases hp.2 with ⟨h1, _⟩ | ⟨g', cap', cur', h1, h2, _⟩
      · cases h1
      · cases h1; exact h2.1
    refine ⟨U, fun _ hb => .inl hb, fun c hc' hnu => hold c hc' (fun e0 => hnu (e0 ▸ hUg)), hz, .inr ⟨g, cap, _, rfl, ⟨hUg, hnew⟩, Nat.le_trans hn h3, h4, by simpa [putCells] using h5, ?_⟩⟩
    apply List.ext_getElem?
    intro j
    rw [List.getElem?_take]
    by_cases hj : j < n' * sz
    · have hjl : j < cs2.length := by omega
      have hle : n * sz ≤ cap * sz := Nat.mul_le_mul_right sz h3
      have hle2 : n' * sz ≤ n * sz := Nat.mul_le_mul_right sz hn
      have h9 : j < cur.size := by rw [h5]; omega
      have h10 : j < (cs2 ++ zs).length := by rw [hlen]; omega
      have h11 : j < cs2.length + zs.length := by simpa using h10
      rw [if_pos hj, Array.getElem?_toList]
      simp [putCells, Array.getElem?_mapIdx, Array.getElem?_eq_getElem h9, h11, List.getElem?_append_left hjl, List.getElem?_eq_getElem hjl]
      exact List.getElem_append_left hjl
    · rw [if_neg hj, List.getElem?_eq_none (by omega)]
  exact key
theorem zn {w : World} {F : List HP} {sv : Value} {e sz n : Nat} {cs : List Value} (hs : eP w ([own sv e sz n cs] ++ F)) : cs.length = n * sz ∧ ((sv = .slice none 0 0 ∧ n = 0) ∨ ∃ g cap cur, sv = .slice (some ⟨g, 0, none⟩) n cap ∧ w.heap[g]? = some (.cells cur e (0, 0)) ∧ n ≤ cap ∧ cap ≤ maxLen ∧ cur.size = cap * sz ∧ cur.toList.take (n * sz) = cs) :=
  hs.says (φ := cs.length = n * sz ∧ ((sv = .slice none 0 0 ∧ n = 0) ∨ ∃ g cap cur, sv = .slice (some ⟨g, 0, none⟩) n cap ∧ w.heap[g]? = some (.cells cur e (0, 0)) ∧ n ≤ cap ∧ cap ≤ maxLen ∧ cur.size = cap * sz ∧ cur.toList.take (n * sz) = cs)) 0 _ rfl fun U S hp => by
    refine ⟨hp.1, hp.2.imp id fun ⟨g, cap, cur, h1, h2, h3, h4, h5, h6⟩ => ⟨g, cap, cur, h1, h2.2, h3, h4, h5, h6⟩⟩
theorem yJ {w : World} {g cap e : Nat} {cur : Array Value} {cs : List Value} (hg : w.heap[g]? = some (.cells cur e (0, 0))) (ht : cur.toList.take cs.length = cs) : Holds id w g 0 cs.toArray := by
  intro j hj
  have hj' : j < cs.length := by simpa using hj
  refine ⟨?_, by simp [World.frozen?, hg]⟩
  have h7 : (cur.toList.take cs.length)[j]? = cs[j]? := by rw [ht]
  rw [List.getElem?_take, if_pos hj', Array.getElem?_toList] at h7
  simp [World.cell?, hg, h7, List.getElem?_eq_getElem hj']
theorem qY (l : List Int) : Lib.compact l = fU l := rfl
theorem tH (l : List Int) : (fU l).length ≤ l.length := by
  unfold fU
  rw [List.length_map]
  exact Nat.le_trans (List.length_filter_le _ _) (by simp)
theorem ui (k : IntKind) (l : List Int) : fl (eI k) l = l.map (Value.int k) := by
  induction l with
  | nil => rfl
  | cons x l ih => simpa [fl, eI] using ih
theorem vI (l : List Int) (w : World) (b : Nat) : putRow (Value.int .i64) w b 0 l.toArray = putRow id w b 0 (l.map (Value.int .i64)).toArray := by
  unfold putRow putCells
  congr 1
  funext o
  congr 1
  funext c
  funext x
  by_cases h : c < l.length
  · simp [h]
  · simp [h]
theorem rZ {P : Program} {f : FuncId} {e : TypeId}
    (hc : ∀ (xC cap : Nat) (zs : List Int) (w : World), Holds (Value.int .i64) w xC 0 zs.toArray → zs.length ≤ 9223372036854775807 → zs.length ≤ cap →
      Calls P f #[.slice (some ⟨xC, 0, none⟩) zs.length cap] w fun e w' => e = .returned (.slice (some ⟨xC, 0, none⟩) (Lib.compact zs).length cap) ∧ ∃ q, w' = putRow (Value.int .i64) (Sort.ahead w q) xC 0 (Lib.compact zs ++ List.replicate (zs.length - (Lib.compact zs).length) 0).toArray)
    (hn : ∀ (p : Option Addr) (cap : Nat) (w : World), Calls P f #[.slice p 0 cap] w fun e w' => e = .returned (.slice p 0 cap) ∧ w' = w) (sv : Value) (l : List Int) (hl : l.length ≤ 9223372036854775807) :
    bp P f [sv] [own sv e 1 l.length (fl (eI .i64) l)] (fun v M => ∃ sv2 : Value, v = sv2 ∧ M = [own sv2 e 1 (fU l).length (fl (eI .i64) (fU l))]) := by
  intro F w hs
  obtain ⟨hcl, hform⟩ := zn hs
  have nilcase : l.length = 0 → ∀ p cap, sv = .slice p 0 cap → Calls P f [sv].toArray w fun e' w' => ∃ v L', e' = .returned v ∧ (∃ sv2 : Value, v = sv2 ∧ L' = [own sv2 e 1 (fU l).length (fl (eI .i64) (fU l))]) ∧ eP w' (L' ++ F) ∧ fO w w' := by
    intro h0 p cap hsv
    have hl0 : l = [] := List.eq_nil_of_length_eq_zero h0
    subst hl0
    subst hsv
    refine (hn p cap w).mono ?_
    rintro e' w' ⟨rfl, rfl⟩
    exact ⟨_, _, rfl, ⟨_, rfl, rfl⟩, hs, fO.refl _⟩
  rcases hform with ⟨h1, h2⟩ | ⟨b, cap, cur, h1, h2, h3, h4, h5, h6⟩
  · exact nilcase h2 none 0 h1
  · by_cases h0 : l.length = 0
    · exact nilcase h0 _ cap (by rw [h1, h0])
    · subst h1
      have hH : Holds (Value.int .i64) w b 0 l.toArray := by
        have hid := yJ (cap := cap) h2 (by rw [hcl]; exact h6)
        intro j hj
        have hj' : j < l.length := by simpa using hj
        have hj2 : j < (fl (eI .i64) l).toArray.size := by rw [ui]; simpa using hj'
        obtain ⟨q1, q2⟩ := hid j hj2
        refine ⟨?_, q2⟩
        rw [q1]
        simp [ui, hj']
      refine (hc b cap l w hH hl h3).mono ?_
      rintro e' w' ⟨rfl, q, rfl⟩
      have hle := tH l
      have hrow : putRow (Value.int .i64) (Sort.ahead w q) b 0 (Lib.compact l ++ List.replicate (l.length - (Lib.compact l).length) 0).toArray = grow (putRow id (Sort.ahead w q) b 0 (fl (eI .i64) (fU l) ++ List.replicate (l.length - (fU l).length) (Value.int .i64 0)).toArray) #[] := by
        rw [grow_empty, vI, qY, ui]
        simp
      rw [hrow]
      have hput := A4 (P := P) hs rfl h2 h3 h4 h5 (cs2 := fl (eI .i64) (fU l)) (zs := List.replicate (l.length - (fU l).length) (Value.int .i64 0)) (n' := (fU l).length) (by rw [ui]; simp) hle (by rw [ui]; simp; omega) q #[]
      refine ⟨_, _, rfl, ⟨_, rfl, rfl⟩, ?_, ⟨rfl, rfl, rfl, by simp [putRow, mapBlock, Sort.ahead], ?_⟩⟩
      · rw [qY]; exact hput
      · show w.drawn ≤ w.drawn + q
        omega
end Go.Proofs.YtmgpegiekankmaaGreat.E
end
section
set_option linter.unusedVariables false
namespace Go.Proofs.YtmgpegiekankmaaGreat.E
open Go Go.Proofs Go.RowKit Go.Sort
def A6 : Go.Shelf.Ren where
  f := fun x => match x with | 43 => 123 | n => n
  t := fun x => match x with | 22 => 44 | 23 => 2 | 3 => 3 | 4 => 4 | 0 => 0 | n => n
  g := fun x => x
theorem xf : SlLaysN.n43 Tryz.prog A6 :=
  { mixed := Eq.refl true,
    f43 := ⟨ "slices.Compact[[]int64,int64]", of_decide_eq_true (id (Eq.refl true)), Eq.trans Tryz.func123 (congrArg some rfl)⟩,
    t0 := Tryz.underlying0,
    a0 := Tryz.isAgg0,
    z0 := Tryz.sizeOf0,
    v0 := Tryz.zeroValue0,
    t3 := Tryz.underlying3,
    a3 := Tryz.isAgg3,
    z3 := Tryz.sizeOf3,
    v3 := Tryz.zeroValue3,
    t4 := Tryz.underlying4,
    a4 := Tryz.isAgg4,
    z4 := Tryz.sizeOf4,
    v4 := Tryz.zeroValue4,
    t22 := Tryz.underlying44,
    a22 := Tryz.isAgg44,
    z22 := Tryz.sizeOf44,
    v22 := Tryz.zeroValue44,
    t23 := Tryz.underlying2,
    a23 := Tryz.isAgg2,
    z23 := Tryz.sizeOf2,
    v23 := Tryz.zeroValue2,
    i23 := by kernel_rfl }
theorem wY {e : TypeId} (sv : Value) (l : List Int) (hl : l.length ≤ 9223372036854775807) : bp Tryz.prog 123 [sv] [own sv e 1 l.length (fl (eI .i64) l)] (fun v M => ∃ sv2 : Value, v = sv2 ∧ M = [own sv2 e 1 (fU l).length (fl (eI .i64) (fU l))]) :=
  rZ (fun xC cap zs w h1 h2 h3 => AnyG.slices_Compact_int xf xC 0 cap zs w h1 h2 h3) (fun p cap w => AnyG.slices_Compact_int_empty xf p cap w) sv l hl
end Go.Proofs.YtmgpegiekankmaaGreat.E
end
section
set_option linter.unusedVariables false
namespace Go.Proofs.YtmgpegiekankmaaGreat.E
theorem pM (x : Int) : ∀ l : List Int, (vt x l).Perm (x :: l)
  | [] => List.Perm.refl _
  | y :: l => by
    unfold vt
    split
    · exact List.Perm.refl _
    · exact ((pM x l).cons y).trans (List.Perm.swap x y l)
theorem nn : ∀ l : List Int, (ku l).Perm l
  | [] => List.Perm.refl _
  | x :: l => (pM x (ku l)).trans ((nn l).cons x)
theorem pJ (l : List Int) : (ku l).length = l.length := (nn l).length_eq
theorem qB (x : Int) : ∀ l : List Int, l.Pairwise (· ≤ ·) → (vt x l).Pairwise (· ≤ ·)
  | [], _ => by simp [vt]
  | y :: l, h => by
    obtain ⟨h1, h2⟩ := List.pairwise_cons.1 h
    unfold vt
    split
    · rename_i hx
      refine List.pairwise_cons.2 ⟨fun z hz => ?_, h⟩
      rcases List.mem_cons.1 hz with rfl | hz
      · exact hx
      · have := h1 z hz; omega
    · rename_i hx
      refine List.pairwise_cons.2 ⟨fun z hz => ?_, qB x l h2⟩
      rcases List.mem_cons.1 ((pM x l).mem_iff.1 hz) with rfl | hz
      · omega
      · exact h1 z hz
theorem ny : ∀ l : List Int, (ku l).Pairwise (· ≤ ·)
  | [] => List.Pairwise.nil
  | x :: l => qB x _ (ny l)
theorem rO : ∀ {l m : List Int}, l.Perm m → l.Pairwise (· ≤ ·) → m.Pairwise (· ≤ ·) → l = m
  | [], m, hp, _, _ => by have := hp.length_eq; exact (List.eq_nil_of_length_eq_zero this.symm).symm
  | x :: l, [], hp, _, _ => by have := hp.length_eq; simp at this
  | x :: l, y :: m, hp, hl, hm => by
    obtain ⟨l1, l2⟩ := List.pairwise_cons.1 hl
    obtain ⟨m1, m2⟩ := List.pairwise_cons.1 hm
    have hx : x ∈ y :: m := hp.mem_iff.1 (by simp)
    have hy : y ∈ x :: l := hp.mem_iff.2 (by simp)
    have e : x = y := by
      rcases List.mem_cons.1 hx with h | h
      · exact h
      · rcases List.mem_cons.1 hy with h' | h'
        · exact h'.symm
        · have a := m1 x h; have b := l1 y h'; omega
    subst e
    rw [rO (List.Perm.cons_inv hp) l2 m2]
theorem qF (l : List Int) : (l.mergeSort fun x y => decide (x ≤ y)) = ku l := by
  refine rO ((List.mergeSort_perm l _).trans (nn l).symm) ?_ (ny l)
  have := List.pairwise_mergeSort (le := fun x y : Int => decide (x ≤ y)) (fun a b c h1 h2 => by simp at *; omega) (fun a b => by simp; omega) l
  exact this.imp (fun h => by simpa using h)
end Go.Proofs.YtmgpegiekankmaaGreat.E
end
section
set_option linter.unusedVariables false
set_option linter.unusedSimpArgs false
namespace Go.Proofs.YtmgpegiekankmaaGreat.E
open Go Go.RowKit Go.Sort
theorem tQ (k : IntKind) : ∀ (l : List Int) (j : Nat), (fl (eI k) l)[j]? = (l[j]?).map (Value.int k)
  | [], j => by simp [fl]
  | x :: l, 0 => by simp [fl, eI]
  | x :: l, j + 1 => by
    have := tQ k l j
    simpa [fl, eI] using this
theorem AS (k : IntKind) (l : List Int) : (fl (eI k) l).length = l.length := by
  induction l with
  | nil => rfl
  | cons x l ih => simpa [fl, eI] using ih
theorem wz {P : Program} {f : FuncId} {e : TypeId}
    (hc : ∀ (xC cap : Nat) (zs : List Int) (w : World), Holds (Value.int .i64) w xC 0 zs.toArray → xC < w.heap.size → zs.length < 4611686018427387904 →
      Calls P f #[.slice (some ⟨xC, 0, none⟩) zs.length cap] w fun e w' => e = .returned (.tuple #[]) ∧ ∃ n os, w' = grow (putRow (Value.int .i64) (Sort.ahead w n) xC 0 (zs.mergeSort fun x y => decide (x ≤ y)).toArray) os)
    (hn : ∀ (p : Option Addr) (cap : Nat) (w : World), Calls P f #[.slice p 0 cap] w fun e w' => e = .returned (.tuple #[]) ∧ w' = w) (sv : Value) (l : List Int) (hl : l.length < 4611686018427387904) :
    bp P f [sv] [own sv e 1 l.length (fl (eI .i64) l)] (fun v M => v = .tuple #[] ∧ M = [own sv e 1 (ku l).length (fl (eI .i64) (ku l))]) := by
  intro F w hs
  have hlen : (ku l).length = l.length := pJ l
  by_cases h0 : l.length = 0
  · have hl0 : l = [] := List.eq_nil_of_length_eq_zero h0
    subst hl0
    have hform : ∃ p cap, sv = .slice p 0 cap := hs.says (φ := ∃ p cap, sv = .slice p 0 cap) 0 _ rfl fun U S hp => by
      rcases hp.2 with ⟨h1, _⟩ | ⟨g, cap, cur, h1, _⟩
      · exact ⟨_, _, h1⟩
      · exact ⟨_, _, h1⟩
    obtain ⟨p, cap, rfl⟩ := hform
    refine (hn p cap w).mono ?_
    rintro e' w' ⟨rfl, rfl⟩
    exact ⟨_, _, rfl, ⟨rfl, rfl⟩, hs, fO.refl _⟩
  · have hform : ∃ g cap cur, sv = .slice (some ⟨g, 0, none⟩) l.length cap ∧ w.heap[g]? = some (.cells cur e (0, 0)) ∧ l.length ≤ cap ∧ cap ≤ maxLen ∧ cur.size = cap * 1 ∧ cur.toList.take (l.length * 1) = fl (eI .i64) l :=
      hs.says (φ := ∃ g cap cur, sv = .slice (some ⟨g, 0, none⟩) l.length cap ∧ w.heap[g]? = some (.cells cur e (0, 0)) ∧ l.length ≤ cap ∧ cap ≤ maxLen ∧ cur.size = cap * 1 ∧ cur.toList.take (l.length * 1) = fl (eI .i64) l) 0 _ rfl fun U S hp => by
        rcases hp.2 with ⟨h1, h2⟩ | ⟨g, cap, cur, h1, h2, h3, h4, h5, h6⟩
        · exact absurd h2 h0
        · exact ⟨g, cap, cur, h1, h2.2, h3, h4, h5, h6⟩
    obtain ⟨g, cap, cur, rfl, hg, h3, h4, h5, h6⟩ := hform
    have hgl : g < w.heap.size := (Array.getElem?_eq_some_iff.1 hg).1
    have hget : ∀ j, j < l.length → cur[j]? = some (Value.int .i64 l.toArray[j]!) := by
      intro j hj
      have h7 : (cur.toList.take (l.length * 1))[j]? = (fl (eI .i64) l)[j]? := by rw [h6]
      rw [tQ, List.getElem?_take, if_pos (by omega), Array.getElem?_toList] at h7
      rw [h7]
      simp [List.getElem?_eq_getElem hj]
    have hH : Holds (Value.int .i64) w g 0 l.toArray := by
      intro j hj
      have hj' : j < l.length := by simpa using hj
      refine ⟨?_, by simp [World.frozen?, hg]⟩
      have := hget j hj'
      simp [World.cell?, hg, this]
    refine (hc g cap l w hH hgl hl).mono ?_
    rintro e' w' ⟨rfl, n, os, rfl⟩
    have hms : (l.mergeSort fun x y => decide (x ≤ y)) = ku l := qF l
    rw [hms]
    refine ⟨_, _, rfl, ⟨rfl, rfl⟩, ?_, ⟨rfl, rfl, rfl, by simp [putRow, mapBlock, Sort.ahead], Nat.le_add_right _ _⟩⟩
    have hnew : (grow (putRow (Value.int .i64) (Sort.ahead w n) g 0 (ku l).toArray) os).heap[g]? = some (.cells (putCells (Value.int .i64) 0 (ku l).toArray cur) e (0, 0)) := by
      rw [heap_grow_old _ _ (by simpa [putRow, mapBlock, Sort.ahead] using hgl)]
      simp [putRow, mapBlock, Sort.ahead, Array.getElem?_modify, hg, onCells]
    have hold : ∀ c, c < w.heap.size → c ≠ g → (grow (putRow (Value.int .i64) (Sort.ahead w n) g 0 (ku l).toArray) os).heap[c]? = w.heap[c]? := by
      intro c hc' hne
      rw [heap_grow_old _ _ (by simpa [putRow, mapBlock, Sort.ahead] using hc')]
      simp [putRow, mapBlock, Sort.ahead, Array.getElem?_modify, Ne.symm hne]
    have key := hs.upd (w' := grow (putRow (Value.int .i64) (Sort.ahead w n) g 0 (ku l).toArray) os) 0 _ (own (.slice (some ⟨g, 0, none⟩) l.length cap) e 1 (ku l).length (fl (eI .i64) (ku l))) rfl (by simp [putRow, mapBlock, Sort.ahead]) fun U S hp hU hS hUS => by
      have hUg : U g := by
        rcases hp.2 with ⟨h1, _⟩ | ⟨g', cap', cur', h1, h2, _⟩
        · cases h1
        · cases h1; exact h2.1
      refine ⟨U, fun _ hb => .inl hb, fun c hc' hnu => hold c hc' (fun e0 => hnu (e0 ▸ hUg)), ?_, .inr ⟨g, cap, _, by rw [hlen], ⟨hUg, hnew⟩, by rw [hlen]; exact h3, h4, by simpa [putCells] using h5, ?_⟩⟩
      · rw [AS]; omega
      · apply List.ext_getElem?
        intro j
        rw [tQ, List.getElem?_take]
        by_cases hj : j < l.length
        · rw [if_pos (by rw [hlen]; omega), Array.getElem?_toList]
          have h9 : j < cur.size := by rw [h5]; omega
          have h10 : j < (ku l).length := by rw [hlen]; exact hj
          simp [putCells, Array.getElem?_mapIdx, Array.getElem?_eq_getElem h9, h10, List.getElem?_eq_getElem h10]
        · rw [if_neg (by rw [hlen]; omega), List.getElem?_eq_none (by rw [hlen]; omega)]
          rfl
    exact key
end Go.Proofs.YtmgpegiekankmaaGreat.E
end
section
set_option linter.unusedVariables false
namespace Go.Proofs.YtmgpegiekankmaaGreat.E
open Go Go.Proofs Go.RowKit
def AH : Go.Shelf.Ren where
  f := fun x => match x with | 53 => 122 | 64 => 151 | 63 => 160 | 78 => 186 | 79 => 187 | 70 => 189 | 71 => 190 | 72 => 191 | 73 => 192 | 74 => 193 | 75 => 194 | 59 => 195 | 76 => 196 | 77 => 197 | 88 => 213 | 89 => 209 | 90 => 210 | 91 => 214 | 92 => 215 | 68 => 113 | 96 => 223 | n => n
  t := fun x => match x with | 22 => 44 | 23 => 2 | 3 => 3 | 51 => 220 | 0 => 0 | 67 => 255 | 69 => 192 | 4 => 4 | 61 => 249 | 60 => 248 | 44 => 200 | 5 => 5 | 9 => 9 | 75 => 268 | 79 => 272 | 83 => 280 | 84 => 281 | n => n
  g := fun x => x
theorem xF : SlLaysN.n53 Tryz.prog AH :=
  { mixed := Eq.refl true,
    f53 := ⟨ "slices.Sort[[]int64,int64]", of_decide_eq_true (id (Eq.refl true)), Eq.trans Tryz.func122 (congrArg some rfl)⟩,
    f59 := ⟨ "cmp.Less[int64]", of_decide_eq_true (id (Eq.refl true)), Eq.trans Tryz.func195 (congrArg some rfl)⟩,
    f63 := ⟨ "slices.pdqsortOrdered[int64]", of_decide_eq_true (id (Eq.refl true)), Eq.trans Tryz.func160 (congrArg some rfl)⟩,
    f64 := Eq.trans Tryz.func151 (congrArg some rfl),
    f68 := ⟨ "cmp.isNaN[int64]", of_decide_eq_true (id (Eq.refl true)), Eq.trans Tryz.func113 (congrArg some rfl)⟩,
    f70 := ⟨ "slices.insertionSortOrdered[int64]", of_decide_eq_true (id (Eq.refl true)), Eq.trans Tryz.func189 (congrArg some rfl)⟩,
    f71 := ⟨ "slices.heapSortOrdered[int64]", of_decide_eq_true (id (Eq.refl true)), Eq.trans Tryz.func190 (congrArg some rfl)⟩,
    f72 := ⟨ "slices.breakPatternsOrdered[int64]", of_decide_eq_true (id (Eq.refl true)), Eq.trans Tryz.func191 (congrArg some rfl)⟩,
    f73 := ⟨ "slices.choosePivotOrdered[int64]", of_decide_eq_true (id (Eq.refl true)), Eq.trans Tryz.func192 (congrArg some rfl)⟩,
    f74 := ⟨ "slices.reverseRangeOrdered[int64]", of_decide_eq_true (id (Eq.refl true)), Eq.trans Tryz.func193 (congrArg some rfl)⟩,
    f75 := ⟨ "slices.partialInsertionSortOrdered[int64]", of_decide_eq_true (id (Eq.refl true)), Eq.trans Tryz.func194 (congrArg some rfl)⟩,
    f76 := ⟨ "slices.partitionEqualOrdered[int64]", of_decide_eq_true (id (Eq.refl true)), Eq.trans Tryz.func196 (congrArg some rfl)⟩,
    f77 := ⟨ "slices.partitionOrdered[int64]", of_decide_eq_true (id (Eq.refl true)), Eq.trans Tryz.func197 (congrArg some rfl)⟩,
    f78 := Eq.trans Tryz.func186 (congrArg some rfl),
    f79 := Eq.trans Tryz.func187 (congrArg some rfl),
    f88 := ⟨ "slices.siftDownOrdered[int64]", of_decide_eq_true (id (Eq.refl true)), Eq.trans Tryz.func213 (congrArg some rfl)⟩,
    f89 := Eq.trans Tryz.func209 (congrArg some rfl),
    f90 := Eq.trans Tryz.func210 (congrArg some rfl),
    f91 := ⟨ "slices.medianAdjacentOrdered[int64]", of_decide_eq_true (id (Eq.refl true)), Eq.trans Tryz.func214 (congrArg some rfl)⟩,
    f92 := ⟨ "slices.medianOrdered[int64]", of_decide_eq_true (id (Eq.refl true)), Eq.trans Tryz.func215 (congrArg some rfl)⟩,
    f96 := ⟨ "slices.order2Ordered[int64]", of_decide_eq_true (id (Eq.refl true)), Eq.trans Tryz.func223 (congrArg some rfl)⟩,
    t0 := Tryz.underlying0,
    a0 := Tryz.isAgg0,
    z0 := Tryz.sizeOf0,
    v0 := Tryz.zeroValue0,
    t3 := Tryz.underlying3,
    a3 := Tryz.isAgg3,
    z3 := Tryz.sizeOf3,
    v3 := Tryz.zeroValue3,
    t4 := Tryz.underlying4,
    a4 := Tryz.isAgg4,
    z4 := Tryz.sizeOf4,
    v4 := Tryz.zeroValue4,
    t5 := Tryz.underlying5,
    a5 := Tryz.isAgg5,
    z5 := Tryz.sizeOf5,
    v5 := Tryz.zeroValue5,
    t9 := Tryz.underlying9,
    a9 := Tryz.isAgg9,
    z9 := Tryz.sizeOf9,
    v9 := Tryz.zeroValue9,
    t22 := Tryz.underlying44,
    a22 := Tryz.isAgg44,
    z22 := Tryz.sizeOf44,
    v22 := Tryz.zeroValue44,
    t23 := Tryz.underlying2,
    a23 := Tryz.isAgg2,
    z23 := Tryz.sizeOf2,
    v23 := Tryz.zeroValue2,
    t44 := Tryz.underlying200,
    a44 := Tryz.isAgg200,
    z44 := Tryz.sizeOf200,
    v44 := Tryz.zeroValue200,
    t51 := Tryz.underlying220,
    a51 := Tryz.isAgg220,
    z51 := Tryz.sizeOf220,
    v51 := Tryz.zeroValue220,
    t60 := Tryz.underlying248,
    a60 := Tryz.isAgg248,
    z60 := Tryz.sizeOf248,
    v60 := Tryz.zeroValue248,
    t61 := Tryz.underlying249,
    a61 := Tryz.isAgg249,
    z61 := Tryz.sizeOf249,
    v61 := Tryz.zeroValue249,
    t67 := Tryz.underlying255,
    a67 := Tryz.isAgg255,
    z67 := Tryz.sizeOf255,
    v67 := Tryz.zeroValue255,
    t69 := Tryz.underlying192,
    a69 := Tryz.isAgg192,
    z69 := Tryz.sizeOf192,
    v69 := Tryz.zeroValue192,
    t75 := Tryz.underlying268,
    a75 := Tryz.isAgg268,
    z75 := Tryz.sizeOf268,
    v75 := Tryz.zeroValue268,
    t79 := Tryz.underlying272,
    a79 := Tryz.isAgg272,
    z79 := Tryz.sizeOf272,
    v79 := Tryz.zeroValue272,
    t83 := Tryz.underlying280,
    a83 := Tryz.isAgg280,
    z83 := Tryz.sizeOf280,
    v83 := Tryz.zeroValue280,
    t84 := Tryz.underlying281,
    a84 := Tryz.isAgg281,
    z84 := Tryz.sizeOf281,
    v84 := Tryz.zeroValue281 }
theorem A7 {e : TypeId} (sv : Value) (l : List Int) (hl : l.length < 4611686018427387904) : bp Tryz.prog 122 [sv] [own sv e 1 l.length (fl (eI .i64) l)] (fun v M => v = .tuple #[] ∧ M = [own sv e 1 (ku l).length (fl (eI .i64) (ku l))]) :=
  wz (fun xC cap zs w h1 h2 h3 => AnyG.slices_Sort_int xF xC 0 cap zs w h1 h2 h3) (fun p cap w => AnyG.slices_Sort_int_none xF p cap w) sv l hl
end Go.Proofs.YtmgpegiekankmaaGreat.E
end
section
set_option linter.unusedVariables false
namespace Go.Proofs.YtmgpegiekankmaaGreat.MemPlays
open Go E
structure bc where
  Hour : Int
  Dims_0 : List UInt8
  Dims_1 : List UInt8
  Dims_2 : List UInt8
  Dims_3 : List UInt8
  deriving DecidableEq
def yy : bc := ⟨0, [], [], [], []⟩
def wN (x : bc) : Prop := nU .i64 x.Hour ∧ x.Dims_0.length ≤ 140737488351232 ∧ x.Dims_1.length ≤ 140737488351232 ∧ x.Dims_2.length ≤ 140737488351232 ∧ x.Dims_3.length ≤ 140737488351232
structure aB where
  Key : bc
  Value : Int
  deriving DecidableEq
def ab : aB := ⟨yy, 0⟩
def lC (x : aB) : Prop := wN x.Key ∧ nU .i64 x.Value
structure cM where
  Seq : Int
  Tick : Int
  Budget : Int
  Facts : Sl aB
def gh : cM := ⟨0, 0, 0, ⟨Value.slice none 0 0, []⟩⟩
structure aW where
  Tier : Int
  Index : Int
  deriving DecidableEq
def vr : aW := ⟨0, 0⟩
def ux (x : aW) : Prop := nU .i64 x.Tier ∧ nU .i64 x.Index
structure aE where
  Part : aW
  Seg : Int
  Mark : Int
  Rows : Int
  Cold : Bool
  deriving DecidableEq
def bn : aE := ⟨vr, 0, 0, 0, false⟩
def tA (x : aE) : Prop := ux x.Part ∧ nU .i64 x.Seg ∧ nU .i64 x.Mark ∧ nU .i64 x.Rows
structure fb where
  Kind : Int
  B : cM
  From : Int
  To : Int
  Put : Sl aE
def bb : fb := ⟨0, gh, 0, 0, ⟨Value.slice none 0 0, []⟩⟩
structure aI where
  Seq : Int
  Tick : Int
  Budget : Int
  Facts : List aB
  deriving DecidableEq
def am : aI := ⟨0, 0, 0, []⟩
structure aF where
  Seq : Int
  Tick : Int
  Budget : Int
  F : aB
  deriving DecidableEq
def aa : aF := ⟨0, 0, 0, ab⟩
structure ah where
  k : Int
  v : aE
  deriving DecidableEq
def aD : ah := ⟨0, bn⟩
structure aK where
  Seq : Int
  Tick : Int
  Budget : Int
  Facts : List aB
  deriving DecidableEq
def aj : aK := ⟨0, 0, 0, []⟩
def eZ (K : Nat) (l0 : List aB) (i26 : Int) : Nat → Int → Option (Sum Unit Bool)
  | 0, _ => none
  | k + 1, i30 => (if i30 < 4 then (if 0 ≤ i26 then (if 0 ≤ i30 then (if i30 < (4 : Int) then (if 40 < (([((l0.getD i26.toNat ab).Key).Dims_0, ((l0.getD i26.toNat ab).Key).Dims_1, ((l0.getD i26.toNat ab).Key).Dims_2, ((l0.getD i26.toNat ab).Key).Dims_3].getD i30.toNat []).length : Int) then (some (Sum.inr (false))) else (eZ K l0 i26 k (ba (i30 + 1)))) else none) else none) else none) else (some (Sum.inl ())))
def eV (K : Nat) (l0 : List aB) : Nat → Int → Option Bool
  | 0, _ => none
  | k + 1, i26 => (if i26 < (l0.length : Int) then (Option.bind (eZ K l0 i26 K 0) fun z => (zb z (fun v12 => (eV K l0 k (ba (i26 + 1)))) (fun t_ => (some (t_))))) else (some (true)))
def go (K : Nat) (l0 : List aB) : Option Bool := (if 100 < (l0.length : Int) then (some (false)) else (eV K l0 K 0))
def ee (K : Nat) (l0 : List cM) : Nat → Int → Option Bool
  | 0, _ => none
  | k + 1, i4 => (if i4 < (l0.length : Int) then (if 0 ≤ i4 then ((go K (((l0.getD i4.toNat gh).Facts).xs)).bind fun x24 => (if (!x24) = true then (some (false)) else (ee K l0 k (ba (i4 + 1))))) else none) else (some (true)))
def fu (K : Nat) (l0 : List cM) : Option Bool := (if 30 < (l0.length : Int) then (some (false)) else (ee K l0 K 0))
def fc (K : Nat) (l0 : List fb) : Nat → Int → Option Bool
  | 0, _ => none
  | k + 1, i4 => (if i4 < (l0.length : Int) then (if 0 ≤ i4 then ((fu K [(⟨((l0.getD i4.toNat bb).B).Seq, ((l0.getD i4.toNat bb).B).Tick, ((l0.getD i4.toNat bb).B).Budget, (((l0.getD i4.toNat bb).B).Facts)⟩ : cM)]).bind fun x24 => (if (!x24) = true then (some (false)) else (if 20 < ((((l0.getD i4.toNat bb).Put).xs).length : Int) then (some (false)) else (fc K l0 k (ba (i4 + 1)))))) else none) else (some (true)))
def gn (K : Nat) (l0 : List fb) : Option Bool := (if 40 < (l0.length : Int) then (some (false)) else (fc K l0 K 0))
def pz : (Int × Int × Int) := ((1, 0, 0))
def jt (a0_0 : Int) (a0_1 : Int) (a0_2 : Int) (l0 : List aB) : (Int × Int × Int) := ((a0_0, a0_1, a0_2))
def kT (a0 : Int) : Bool := (if 1 ≤ a0 then (decide (a0 ≤ 4)) else (false))
def jl (K : Nat) (a0_1 : List UInt8) (a0_2 : List UInt8) (a0_3 : List UInt8) (a0_4 : List UInt8) (a1 : Int) : Nat → Int → Option Int
  | 0, _ => none
  | k + 1, i5 => (if i5 < 4 then (if 0 ≤ i5 then (if i5 < (4 : Int) then (if 16 < (([a0_1, a0_2, a0_3, a0_4].getD i5.toNat []).length : Int) then (some (4)) else (if a1 ≤ i5 then (if ¬ (([a0_1, a0_2, a0_3, a0_4].getD i5.toNat []) = ([] : List UInt8)) then (some (4)) else (jl K a0_1 a0_2 a0_3 a0_4 a1 k (ba (i5 + 1)))) else (jl K a0_1 a0_2 a0_3 a0_4 a1 k (ba (i5 + 1))))) else none) else none) else (some (0)))
def lg (K : Nat) (a0_0 : Int) (a0_1 : List UInt8) (a0_2 : List UInt8) (a0_3 : List UInt8) (a0_4 : List UInt8) (a0_5 : Int) (a1 : Int) : Option Int := (kJ (kT a1) fun x4 => (if (!x4) = true then (some (1)) else (if a0_0 < 0 then (some (2)) else (if 16777216 < a0_0 then (some (2)) else (if 1152921504606846976 < a0_5 then (some (2)) else (if a0_5 < (-1152921504606846976) then (some (2)) else (jl K a0_1 a0_2 a0_3 a0_4 a1 K 0)))))))
def jo (K : Nat) (l0 : List aB) (a1 : Int) : Nat → Int → Option (Int × Int)
  | 0, _ => none
  | k + 1, i6 => (if i6 < (l0.length : Int) then (if 0 ≤ i6 then ((lg K (((l0.getD i6.toNat ab).Key).Hour) (((l0.getD i6.toNat ab).Key).Dims_0) (((l0.getD i6.toNat ab).Key).Dims_1) (((l0.getD i6.toNat ab).Key).Dims_2) (((l0.getD i6.toNat ab).Key).Dims_3) ((l0.getD i6.toNat ab).Value) a1).bind fun x28 => (if ¬ (x28 = 0) then (some ((x28, i6))) else (jo K l0 a1 k (ba (i6 + 1))))) else none) else (some ((0, 0))))
def iZ (K : Nat) (l0 : List aB) (a1 : Int) : Option (Int × Int) := (kJ (kT a1) fun x16 => (if (!x16) = true then (some ((1, 0))) else (if (l0.length : Int) = 0 then (some ((1, 0))) else (if 50 < (l0.length : Int) then (some ((1, 0))) else (jo K l0 a1 K 0)))))
def jJ (a0 : Int) (a1 : Int) (a2 : Int) : Bool := (if 1 ≤ a0 then (if a0 ≤ 4611686018427387904 then (if a1 ≤ 1006633020 then (decide (a2 ≤ 4611686018427387904)) else (false)) else (false)) else (false))
def mf (K : Nat) (a0_0 : Int) (a0_1 : Int) (a0_2 : Int) (l0 : List aB) (a1 : Int) : Option Bool := ((iZ K l0 a1).bind fun x3 => (if x3.1 = 0 then (kJ (jJ (dW a0_0) (dW a0_1) (dW a0_2)) fun x4 => (some (x4))) else (some (false))))
def bz (l0 : List aB) : Option (List aB) := (if 0 < l0.length then (if (([] : List aB).length + l0.length) * 80 ≤ 140737488355328 then (some ((([] : List aB) ++ l0))) else none) else (if (([] : List aB).length + ([] : List aB).length) * 80 ≤ 140737488355328 then (some ((([] : List aB) ++ ([] : List aB)))) else none))
def kP (K : Nat) (p0_0 : Int) (p0_2 : Int) (a1_0 : Int) (a1_1 : Int) (a1_2 : Int) (l0 : List aB) : Option (Int × (List aI) × Int) := ((mf K a1_0 a1_1 a1_2 l0 p0_0).bind fun x5 => (if (!x5) = true then (some ((1, ([] : List aI), p0_2))) else (if a1_0 ≤ p0_2 then (some ((12, ([] : List aI), p0_2))) else ((bz l0).bind fun x6 => (if (([] : List aI).length + 1) * 48 ≤ 140737488355328 then (some ((0, (([] : List aI) ++ [(⟨a1_0, a1_1, a1_2, x6⟩ : aI)]), a1_0))) else none)))))
def eG (p0_0 : Int) (l0 : List aI) (p0_2 : Int) : Unit := (())
def io (K : Nat) (l0 : List aI) (a1 : Int) (a2 : Int) (i26 : Int) : Nat → Int → (List aB) → Option (List aB)
  | 0, _, _ => none
  | k + 1, i30, l41 => (if i30 < (((l0.getD i26.toNat am).Facts).length : Int) then (if 0 ≤ i30 then (if a1 ≤ (((((l0.getD i26.toNat am).Facts).getD i30.toNat ab).Key).Hour) then (if (((((l0.getD i26.toNat am).Facts).getD i30.toNat ab).Key).Hour) < a2 then (if (l41.length + [(⟨(⟨((((l0.getD i26.toNat am).Facts).getD i30.toNat ab).Key).Hour, ((((l0.getD i26.toNat am).Facts).getD i30.toNat ab).Key).Dims_0, ((((l0.getD i26.toNat am).Facts).getD i30.toNat ab).Key).Dims_1, ((((l0.getD i26.toNat am).Facts).getD i30.toNat ab).Key).Dims_2, ((((l0.getD i26.toNat am).Facts).getD i30.toNat ab).Key).Dims_3⟩ : bc), (((l0.getD i26.toNat am).Facts).getD i30.toNat ab).Value⟩ : aB)].length) * 80 ≤ 140737488355328 then (io K l0 a1 a2 i26 k (ba (i30 + 1)) (l41 ++ [(⟨(⟨((((l0.getD i26.toNat am).Facts).getD i30.toNat ab).Key).Hour, ((((l0.getD i26.toNat am).Facts).getD i30.toNat ab).Key).Dims_0, ((((l0.getD i26.toNat am).Facts).getD i30.toNat ab).Key).Dims_1, ((((l0.getD i26.toNat am).Facts).getD i30.toNat ab).Key).Dims_2, ((((l0.getD i26.toNat am).Facts).getD i30.toNat ab).Key).Dims_3⟩ : bc), (((l0.getD i26.toNat am).Facts).getD i30.toNat ab).Value⟩ : aB)])) else none) else (io K l0 a1 a2 i26 k (ba (i30 + 1)) l41)) else (io K l0 a1 a2 i26 k (ba (i30 + 1)) l41)) else none) else (some (l41)))
def jv (K : Nat) (l0 : List aI) (a1 : Int) (a2 : Int) : Nat → Int → (List aB) → Option (List aB)
  | 0, _, _ => none
  | k + 1, i26, l35 => (if i26 < (l0.length : Int) then (Option.bind (if 0 ≤ i26 then (io K l0 a1 a2 i26 K 0 l35) else none) fun x12 => (jv K l0 a1 a2 k (ba (i26 + 1)) x12)) else (some (l35)))
def lq (K : Nat) (l0 : List aI) (a1 : Int) (a2 : Int) : Option (List aB) := (jv K l0 a1 a2 K 0 ([] : List aB))
def fE (K : Nat) (p0_0 : Int) (l0 : List aI) (p0_2 : Int) (a1 : Int) (a2 : Int) : Option (List aB) := (kJ (eG p0_0 l0 p0_2) fun u2 => ((lq K l0 a1 a2).bind fun x2 => (some (x2))))
def eu (l0 : List Int) : Option (List Int) := if l0.length ≤ 17592186044416 then some (ku l0) else none
def dN (l0 : List Int) : Option (List Int) := if l0.length ≤ 17592186044416 then some (fU l0) else none
def ja (K : Nat) (l0 : List aB) : Nat → Int → (List Int) → Option (List Int)
  | 0, _, _ => none
  | k + 1, i4, l7 => (if i4 < (l0.length : Int) then (if 0 ≤ i4 then (if (l7.length + [((l0.getD i4.toNat ab).Key).Hour].length) * 8 ≤ 140737488355328 then (ja K l0 k (ba (i4 + 1)) (l7 ++ [((l0.getD i4.toNat ab).Key).Hour])) else none) else none) else (some (l7)))
def ko (K : Nat) (l0 : List aB) : Option (List Int) := (Option.bind (ja K l0 K 0 ([] : List Int)) fun x4 => ((eu x4).bind fun x5 => ((dN x5).bind fun x6 => (some (x6)))))
def iB (K : Nat) (p0_0 : Int) (l0 : List aI) (p0_2 : Int) : Option (List Int) := ((fE K p0_0 l0 p0_2 0 4611686018427387904).bind fun x3 => ((ko K x3).bind fun x4 => (some (x4))))
def ka (a0 : Int) (a1_0 : Int) (a1_1 : List UInt8) (a1_2 : List UInt8) (a1_3 : List UInt8) (a1_4 : List UInt8) (a1_5 : Int) (p0_0 : Int) (p1_0 : Int) : Bool := (if p0_0 ≤ a1_0 then (decide (a1_0 < p1_0)) else (false))
def gO (a0_0 : Int) (a0_1 : List UInt8) (a0_2 : List UInt8) (a0_3 : List UInt8) (a0_4 : List UInt8) (a0_5 : Int) (p1_0 : Int) (p2_0 : Int) (p3_0 : Int) (p3_1 : Int) (p3_2 : Int) (l0 : List aB) : Bool := (kJ (ka p3_0 a0_0 a0_1 a0_2 a0_3 a0_4 a0_5 p1_0 p2_0) fun x2 => (x2))
def cl (K : Nat) (l0 : List aB) (p1_0 : Int) (p2_0 : Int) (p3_0 : Int) (p3_1 : Int) (p3_2 : Int) (l1 : List aB) : Nat → Int → Option Int
  | 0, _ => none
  | k + 1, i5 => (if i5 < (l0.length : Int) then (if 0 ≤ i5 then (kJ (gO (((l0.getD i5.toNat ab).Key).Hour) (((l0.getD i5.toNat ab).Key).Dims_0) (((l0.getD i5.toNat ab).Key).Dims_1) (((l0.getD i5.toNat ab).Key).Dims_2) (((l0.getD i5.toNat ab).Key).Dims_3) ((l0.getD i5.toNat ab).Value) p1_0 p2_0 p3_0 p3_1 p3_2 l1) fun x24 => (if x24 = true then (some (i5)) else (cl K l0 p1_0 p2_0 p3_0 p3_1 p3_2 l1 k (ba (i5 + 1))))) else none) else (some ((-1))))
def cK (K : Nat) (l0 : List aB) (p1_0 : Int) (p2_0 : Int) (p3_0 : Int) (p3_1 : Int) (p3_2 : Int) (l1 : List aB) : Option Int := (cl K l0 p1_0 p2_0 p3_0 p3_1 p3_2 l1 K 0)
def ca (K : Nat) (p1_0 : Int) (p2_0 : Int) (p3_0 : Int) (p3_1 : Int) (p3_2 : Int) (l1 : List aB) : Nat → Int → Int → (List aB) → Option ((List aB) × Int)
  | 0, _, _, _ => none
  | k + 1, i10, i11, l8 => (if i11 < (l8.length : Int) then (if 0 ≤ i11 then (kJ (gO (((l8.getD i11.toNat ab).Key).Hour) (((l8.getD i11.toNat ab).Key).Dims_0) (((l8.getD i11.toNat ab).Key).Dims_1) (((l8.getD i11.toNat ab).Key).Dims_2) (((l8.getD i11.toNat ab).Key).Dims_3) ((l8.getD i11.toNat ab).Value) p1_0 p2_0 p3_0 p3_1 p3_2 l1) fun x28 => (if (!x28) = true then (if 0 ≤ i10 then (if i10 < (l8.length : Int) then (ca K p1_0 p2_0 p3_0 p3_1 p3_2 l1 k (ba (i10 + 1)) (ba (i11 + 1)) (l8.set i10.toNat (⟨(⟨((l8.getD i11.toNat ab).Key).Hour, ((l8.getD i11.toNat ab).Key).Dims_0, ((l8.getD i11.toNat ab).Key).Dims_1, ((l8.getD i11.toNat ab).Key).Dims_2, ((l8.getD i11.toNat ab).Key).Dims_3⟩ : bc), (l8.getD i11.toNat ab).Value⟩ : aB))) else none) else none) else (ca K p1_0 p2_0 p3_0 p3_1 p3_2 l1 k i10 (ba (i11 + 1)) l8))) else none) else (some ((l8, i10))))
def ct (K : Nat) (l0 : List aB) (p1_0 : Int) (p2_0 : Int) (p3_0 : Int) (p3_1 : Int) (p3_2 : Int) (l1 : List aB) : Option (List aB) := ((cK K l0 p1_0 p2_0 p3_0 p3_1 p3_2 l1).bind fun x15 => (if x15 = (-1) then (some (l0)) else (Option.bind (ca K p1_0 p2_0 p3_0 p3_1 p3_2 l1 K x15 (ba (x15 + 1)) l0) fun x22 => (if 0 ≤ x22.2 then (if x22.2 ≤ (x22.1.length : Int) then (if x22.2 ≤ ((x22.1.take x22.2.toNat ++ List.replicate (x22.1.length - x22.2.toNat) ab).length : Int) then (some (((x22.1.take x22.2.toNat ++ List.replicate (x22.1.length - x22.2.toNat) ab).take x22.2.toNat))) else none) else none) else none))))
def gW (K : Nat) (l0 : List aI) (p1_0 : Int) (p2_0 : Int) : Nat → Int → Int → (List aI) → Option ((List aI) × Int)
  | 0, _, _, _ => none
  | k + 1, i10, i11, l7 => (if i11 < (l0.length : Int) then (if 0 ≤ i11 then ((bz ((l0.getD i11.toNat am).Facts)).bind fun x49 => ((ct K x49 p1_0 p2_0 ((l0.getD i11.toNat am).Seq) ((l0.getD i11.toNat am).Tick) ((l0.getD i11.toNat am).Budget) ((l0.getD i11.toNat am).Facts)).bind fun x50 => (if 0 < (x50.length : Int) then (if (l7.length + 1) * 48 ≤ 140737488355328 then (gW K l0 p1_0 p2_0 k (ba (i10 + (ba ((((l0.getD i11.toNat am).Facts).length : Int) - (x50.length : Int))))) (ba (i11 + 1)) (l7 ++ [(⟨(l0.getD i11.toNat am).Seq, (l0.getD i11.toNat am).Tick, (l0.getD i11.toNat am).Budget, x50⟩ : aI)])) else none) else (gW K l0 p1_0 p2_0 k (ba (i10 + (ba ((((l0.getD i11.toNat am).Facts).length : Int) - (x50.length : Int))))) (ba (i11 + 1)) l7)))) else none) else (some ((l7, i10))))
def kx (K : Nat) (p0_0 : Int) (l0 : List aI) (p0_2 : Int) (p1_0 : Int) (p2_0 : Int) : Option ((List aI) × Int) := (Option.bind (kJ (eG p0_0 l0 p0_2) fun u4 => (gW K l0 p1_0 p2_0 K 0 0 ([] : List aI))) fun x38 => (some ((x38.1, x38.2))))
def fC (K : Nat) (p0_0 : Int) (l0 : List aI) (p0_2 : Int) (a1 : Int) (a2 : Int) : Option ((List aI) × Int) := ((kx K p0_0 l0 p0_2 a1 a2).bind fun x2 => (some ((x2.1, x2.2))))
def hG (K : Nat) (p0_0 : Int) (l0 : List aI) (p0_2 : Int) (a1 : Int) (a2 : Int) : Option Bool := ((fE K p0_0 l0 p0_2 a1 a2).bind fun x2 => (some (decide (0 < (x2.length : Int)))))
def dI (K : Nat) : Option Bool := (kJ (pz) fun x8 => (kJ (jt 1 0 0 [(⟨(⟨3, ([] : List UInt8), ([] : List UInt8), ([] : List UInt8), ([] : List UInt8)⟩ : bc), 0⟩ : aB), (⟨(⟨5, ([] : List UInt8), ([] : List UInt8), ([] : List UInt8), ([] : List UInt8)⟩ : bc), 0⟩ : aB)]) fun x9 => ((kP K x8.1 x8.2.1 x9.1 x9.2.1 x9.2.2 [(⟨(⟨3, ([] : List UInt8), ([] : List UInt8), ([] : List UInt8), ([] : List UInt8)⟩ : bc), 0⟩ : aB), (⟨(⟨5, ([] : List UInt8), ([] : List UInt8), ([] : List UInt8), ([] : List UInt8)⟩ : bc), 0⟩ : aB)]).bind fun x10 => ((iB K x8.1 x10.2.1 x10.2.2).bind fun x11 => ((fC K x8.1 x10.2.1 x10.2.2 0 4).bind fun x12 => (if x8.2.2 = 0 then (if x10.1 = 0 then (if (x11.length : Int) = 2 then (if 0 < (x11.length : Int) then (if (x11.getD ((0 : Int).toNat) 0) = 3 then (if 1 < (x11.length : Int) then (if (x11.getD ((1 : Int).toNat) 0) = 5 then (if x12.2 = 1 then ((hG K x8.1 x12.1 x10.2.2 5 6).bind fun x13 => (if x13 = true then ((hG K x8.1 x12.1 x10.2.2 3 4).bind fun x14 => (some ((!x14)))) else (some (false)))) else (some (false))) else (some (false))) else none) else (some (false))) else none) else (some (false))) else (some (false))) else (some (false))))))))
def mS (a0 : Int) : Unit := (())
def jX (a0 : Int) : Unit := (())
def mY (a0 : Int) : Unit := (())
def jy (a0 : Int) : Unit := (())
def mt (a0 : Int) : Int := (a0)
def iI (a0 : Int) : Int := (a0)
def iH (a0_0 : Int) (a0_1 : Int) (a0_2 : Int) (l0 : List aB) : (Int × Int × Int) := ((a0_0, a0_1, a0_2))
def jI (K : Nat) (a0_0 : Int) (a0_1 : Int) (a0_2 : Int) (l0 : List aB) (a1 : Int) : Option Bool := ((iZ K l0 a1).bind fun x3 => (if x3.1 = 0 then (kJ (jJ (dW a0_0) (dW a0_1) (dW a0_2)) fun x4 => (some (x4))) else (some (false))))
def cF (K : Nat) (a0_1 : List UInt8) (a0_2 : List UInt8) (a0_3 : List UInt8) (a0_4 : List UInt8) (a1 : Int) : Nat → Int → Option Int
  | 0, _ => none
  | k + 1, i5 => (if i5 < 4 then (if 0 ≤ i5 then (if i5 < (4 : Int) then (if 16 < (([a0_1, a0_2, a0_3, a0_4].getD i5.toNat []).length : Int) then (some (4)) else (if a1 ≤ i5 then (if ¬ (([a0_1, a0_2, a0_3, a0_4].getD i5.toNat []) = ([] : List UInt8)) then (some (4)) else (cF K a0_1 a0_2 a0_3 a0_4 a1 k (ba (i5 + 1)))) else (cF K a0_1 a0_2 a0_3 a0_4 a1 k (ba (i5 + 1))))) else none) else none) else (some (0)))
def dY (K : Nat) (a0_0 : Int) (a0_1 : List UInt8) (a0_2 : List UInt8) (a0_3 : List UInt8) (a0_4 : List UInt8) (a0_5 : Int) (a1 : Int) : Option Int := (if a1 < 1 then (some (1)) else (if 4 < a1 then (some (1)) else (if a0_0 < 0 then (some (2)) else (if 16777216 < a0_0 then (some (2)) else (if 1152921504606846976 < a0_5 then (some (2)) else (if a0_5 < (-1152921504606846976) then (some (2)) else (cF K a0_1 a0_2 a0_3 a0_4 a1 K 0)))))))
def cX (K : Nat) (l0 : List aB) (a1 : Int) : Nat → Int → Option (Int × Int)
  | 0, _ => none
  | k + 1, i6 => (if i6 < (l0.length : Int) then (if 0 ≤ i6 then ((dY K (((l0.getD i6.toNat ab).Key).Hour) (((l0.getD i6.toNat ab).Key).Dims_0) (((l0.getD i6.toNat ab).Key).Dims_1) (((l0.getD i6.toNat ab).Key).Dims_2) (((l0.getD i6.toNat ab).Key).Dims_3) ((l0.getD i6.toNat ab).Value) a1).bind fun x24 => (if ¬ (x24 = 0) then (some ((x24, i6))) else (cX K l0 a1 k (ba (i6 + 1))))) else none) else (some ((0, 0))))
def cS (K : Nat) (l0 : List aB) (a1 : Int) : Option (Int × Int) := (if a1 < 1 then (some ((1, 0))) else (if 4 < a1 then (some ((1, 0))) else (if (l0.length : Int) < 1 then (some ((1, 0))) else (if 50 < (l0.length : Int) then (some ((1, 0))) else (cX K l0 a1 K 0)))))
def fF (a0 : Int) (a1 : Int) (a2 : Int) : Bool := (if a1 ≤ a0 then (decide (a0 ≤ a2)) else (false))
def eC (K : Nat) (a0_0 : Int) (a0_1 : Int) (a0_2 : Int) (l0 : List aB) (a1 : Int) : Option Bool := ((cS K l0 a1).bind fun x5 => (if x5.1 = 0 then (kJ (fF a0_0 1 4611686018427387904) fun x6 => (if x6 = true then (kJ (fF a0_1 0 1006633020) fun x7 => (if x7 = true then (kJ (fF a0_2 0 4611686018427387904) fun x8 => (some (x8))) else (some (false)))) else (some (false)))) else (some (false))))
def dZ : Unit := (())
def mc : Unit := (kJ (dZ) fun u2 => (()))
def dw : Unit := (())
def eD : Unit := (kJ (dw) fun u2 => (()))
def fj (K : Nat) : Nat → Option Unit
  | 0 => none
  | k + 1 => (some (()))
def eJ (K : Nat) (Gm0 : Type) (y0 : Int → aE → Gm0 → Option (Gm0 × Bool)) (x0y : Gm0) : Option Unit := (fj K K)
def eT (K : Nat) (t0_ : Int) (t1_ : aE) (z4 : List ah) : Option ((List ah) × Bool) := (if (z4.length + [(⟨t0_, (⟨(⟨t1_.Part.Tier, t1_.Part.Index⟩ : aW), t1_.Seg, t1_.Mark, t1_.Rows, t1_.Cold⟩ : aE)⟩ : ah)].length) * 56 ≤ 140737488355328 then (some (((z4 ++ [(⟨t0_, (⟨(⟨t1_.Part.Tier, t1_.Part.Index⟩ : aW), t1_.Seg, t1_.Mark, t1_.Rows, t1_.Cold⟩ : aE)⟩ : ah)]), true))) else none)
def eh (K : Nat) : Option (List ah) := (kJ (dZ) fun u4 => (kJ (eD) fun u6 => ((eJ K (List ah) (eT K) ([] : List ah)).bind fun x4 => (some (([] : List ah))))))
def gr (K : Nat) : Option (List ah) := ((eh K).bind fun x2 => (some (x2)))
def jF (a0 : Int) : Int := (ba (Int.tdiv a0 24))
def lN (a0 : Int) : (Int × Int × Int) := (if (ba (Int.tdiv (ba ((ba (5 * (ba ((Int.tmod (ba (a0 + 719468)) 146097) - (ba ((ba ((ba (365 * (ba (Int.tdiv (ba ((ba ((ba ((Int.tmod (ba (a0 + 719468)) 146097) - (ba (Int.tdiv (Int.tmod (ba (a0 + 719468)) 146097) 1460)))) + (ba (Int.tdiv (Int.tmod (ba (a0 + 719468)) 146097) 36524)))) - (ba (Int.tdiv (Int.tmod (ba (a0 + 719468)) 146097) 146096)))) 365)))) + (ba (Int.tdiv (ba (Int.tdiv (ba ((ba ((ba ((Int.tmod (ba (a0 + 719468)) 146097) - (ba (Int.tdiv (Int.tmod (ba (a0 + 719468)) 146097) 1460)))) + (ba (Int.tdiv (Int.tmod (ba (a0 + 719468)) 146097) 36524)))) - (ba (Int.tdiv (Int.tmod (ba (a0 + 719468)) 146097) 146096)))) 365)) 4)))) - (ba (Int.tdiv (ba (Int.tdiv (ba ((ba ((ba ((Int.tmod (ba (a0 + 719468)) 146097) - (ba (Int.tdiv (Int.tmod (ba (a0 + 719468)) 146097) 1460)))) + (ba (Int.tdiv (Int.tmod (ba (a0 + 719468)) 146097) 36524)))) - (ba (Int.tdiv (Int.tmod (ba (a0 + 719468)) 146097) 146096)))) 365)) 100)))))))) + 2)) 153)) < 10 then ((ba ((ba ((ba (Int.tdiv (ba (a0 + 719468)) 146097)) * 400)) + (ba (Int.tdiv (ba ((ba ((ba ((Int.tmod (ba (a0 + 719468)) 146097) - (ba (Int.tdiv (Int.tmod (ba (a0 + 719468)) 146097) 1460)))) + (ba (Int.tdiv (Int.tmod (ba (a0 + 719468)) 146097) 36524)))) - (ba (Int.tdiv (Int.tmod (ba (a0 + 719468)) 146097) 146096)))) 365))), ba ((ba (Int.tdiv (ba ((ba (5 * (ba ((Int.tmod (ba (a0 + 719468)) 146097) - (ba ((ba ((ba (365 * (ba (Int.tdiv (ba ((ba ((ba ((Int.tmod (ba (a0 + 719468)) 146097) - (ba (Int.tdiv (Int.tmod (ba (a0 + 719468)) 146097) 1460)))) + (ba (Int.tdiv (Int.tmod (ba (a0 + 719468)) 146097) 36524)))) - (ba (Int.tdiv (Int.tmod (ba (a0 + 719468)) 146097) 146096)))) 365)))) + (ba (Int.tdiv (ba (Int.tdiv (ba ((ba ((ba ((Int.tmod (ba (a0 + 719468)) 146097) - (ba (Int.tdiv (Int.tmod (ba (a0 + 719468)) 146097) 1460)))) + (ba (Int.tdiv (Int.tmod (ba (a0 + 719468)) 146097) 36524)))) - (ba (Int.tdiv (Int.tmod (ba (a0 + 719468)) 146097) 146096)))) 365)) 4)))) - (ba (Int.tdiv (ba (Int.tdiv (ba ((ba ((ba ((Int.tmod (ba (a0 + 719468)) 146097) - (ba (Int.tdiv (Int.tmod (ba (a0 + 719468)) 146097) 1460)))) + (ba (Int.tdiv (Int.tmod (ba (a0 + 719468)) 146097) 36524)))) - (ba (Int.tdiv (Int.tmod (ba (a0 + 719468)) 146097) 146096)))) 365)) 100)))))))) + 2)) 153)) + 3), ba ((ba ((ba ((Int.tmod (ba (a0 + 719468)) 146097) - (ba ((ba ((ba (365 * (ba (Int.tdiv (ba ((ba ((ba ((Int.tmod (ba (a0 + 719468)) 146097) - (ba (Int.tdiv (Int.tmod (ba (a0 + 719468)) 146097) 1460)))) + (ba (Int.tdiv (Int.tmod (ba (a0 + 719468)) 146097) 36524)))) - (ba (Int.tdiv (Int.tmod (ba (a0 + 719468)) 146097) 146096)))) 365)))) + (ba (Int.tdiv (ba (Int.tdiv (ba ((ba ((ba ((Int.tmod (ba (a0 + 719468)) 146097) - (ba (Int.tdiv (Int.tmod (ba (a0 + 719468)) 146097) 1460)))) + (ba (Int.tdiv (Int.tmod (ba (a0 + 719468)) 146097) 36524)))) - (ba (Int.tdiv (Int.tmod (ba (a0 + 719468)) 146097) 146096)))) 365)) 4)))) - (ba (Int.tdiv (ba (Int.tdiv (ba ((ba ((ba ((Int.tmod (ba (a0 + 719468)) 146097) - (ba (Int.tdiv (Int.tmod (ba (a0 + 719468)) 146097) 1460)))) + (ba (Int.tdiv (Int.tmod (ba (a0 + 719468)) 146097) 36524)))) - (ba (Int.tdiv (Int.tmod (ba (a0 + 719468)) 146097) 146096)))) 365)) 100)))))) - (ba (Int.tdiv (ba ((ba (153 * (ba (Int.tdiv (ba ((ba (5 * (ba ((Int.tmod (ba (a0 + 719468)) 146097) - (ba ((ba ((ba (365 * (ba (Int.tdiv (ba ((ba ((ba ((Int.tmod (ba (a0 + 719468)) 146097) - (ba (Int.tdiv (Int.tmod (ba (a0 + 719468)) 146097) 1460)))) + (ba (Int.tdiv (Int.tmod (ba (a0 + 719468)) 146097) 36524)))) - (ba (Int.tdiv (Int.tmod (ba (a0 + 719468)) 146097) 146096)))) 365)))) + (ba (Int.tdiv (ba (Int.tdiv (ba ((ba ((ba ((Int.tmod (ba (a0 + 719468)) 146097) - (ba (Int.tdiv (Int.tmod (ba (a0 + 719468)) 146097) 1460)))) + (ba (Int.tdiv (Int.tmod (ba (a0 + 719468)) 146097) 36524)))) - (ba (Int.tdiv (Int.tmod (ba (a0 + 719468)) 146097) 146096)))) 365)) 4)))) - (ba (Int.tdiv (ba (Int.tdiv (ba ((ba ((ba ((Int.tmod (ba (a0 + 719468)) 146097) - (ba (Int.tdiv (Int.tmod (ba (a0 + 719468)) 146097) 1460)))) + (ba (Int.tdiv (Int.tmod (ba (a0 + 719468)) 146097) 36524)))) - (ba (Int.tdiv (Int.tmod (ba (a0 + 719468)) 146097) 146096)))) 365)) 100)))))))) + 2)) 153)))) + 2)) 5)))) + 1))) else ((ba ((ba ((ba ((ba (Int.tdiv (ba (a0 + 719468)) 146097)) * 400)) + (ba (Int.tdiv (ba ((ba ((ba ((Int.tmod (ba (a0 + 719468)) 146097) - (ba (Int.tdiv (Int.tmod (ba (a0 + 719468)) 146097) 1460)))) + (ba (Int.tdiv (Int.tmod (ba (a0 + 719468)) 146097) 36524)))) - (ba (Int.tdiv (Int.tmod (ba (a0 + 719468)) 146097) 146096)))) 365)))) + 1), ba ((ba (Int.tdiv (ba ((ba (5 * (ba ((Int.tmod (ba (a0 + 719468)) 146097) - (ba ((ba ((ba (365 * (ba (Int.tdiv (ba ((ba ((ba ((Int.tmod (ba (a0 + 719468)) 146097) - (ba (Int.tdiv (Int.tmod (ba (a0 + 719468)) 146097) 1460)))) + (ba (Int.tdiv (Int.tmod (ba (a0 + 719468)) 146097) 36524)))) - (ba (Int.tdiv (Int.tmod (ba (a0 + 719468)) 146097) 146096)))) 365)))) + (ba (Int.tdiv (ba (Int.tdiv (ba ((ba ((ba ((Int.tmod (ba (a0 + 719468)) 146097) - (ba (Int.tdiv (Int.tmod (ba (a0 + 719468)) 146097) 1460)))) + (ba (Int.tdiv (Int.tmod (ba (a0 + 719468)) 146097) 36524)))) - (ba (Int.tdiv (Int.tmod (ba (a0 + 719468)) 146097) 146096)))) 365)) 4)))) - (ba (Int.tdiv (ba (Int.tdiv (ba ((ba ((ba ((Int.tmod (ba (a0 + 719468)) 146097) - (ba (Int.tdiv (Int.tmod (ba (a0 + 719468)) 146097) 1460)))) + (ba (Int.tdiv (Int.tmod (ba (a0 + 719468)) 146097) 36524)))) - (ba (Int.tdiv (Int.tmod (ba (a0 + 719468)) 146097) 146096)))) 365)) 100)))))))) + 2)) 153)) - 9), ba ((ba ((ba ((Int.tmod (ba (a0 + 719468)) 146097) - (ba ((ba ((ba (365 * (ba (Int.tdiv (ba ((ba ((ba ((Int.tmod (ba (a0 + 719468)) 146097) - (ba (Int.tdiv (Int.tmod (ba (a0 + 719468)) 146097) 1460)))) + (ba (Int.tdiv (Int.tmod (ba (a0 + 719468)) 146097) 36524)))) - (ba (Int.tdiv (Int.tmod (ba (a0 + 719468)) 146097) 146096)))) 365)))) + (ba (Int.tdiv (ba (Int.tdiv (ba ((ba ((ba ((Int.tmod (ba (a0 + 719468)) 146097) - (ba (Int.tdiv (Int.tmod (ba (a0 + 719468)) 146097) 1460)))) + (ba (Int.tdiv (Int.tmod (ba (a0 + 719468)) 146097) 36524)))) - (ba (Int.tdiv (Int.tmod (ba (a0 + 719468)) 146097) 146096)))) 365)) 4)))) - (ba (Int.tdiv (ba (Int.tdiv (ba ((ba ((ba ((Int.tmod (ba (a0 + 719468)) 146097) - (ba (Int.tdiv (Int.tmod (ba (a0 + 719468)) 146097) 1460)))) + (ba (Int.tdiv (Int.tmod (ba (a0 + 719468)) 146097) 36524)))) - (ba (Int.tdiv (Int.tmod (ba (a0 + 719468)) 146097) 146096)))) 365)) 100)))))) - (ba (Int.tdiv (ba ((ba (153 * (ba (Int.tdiv (ba ((ba (5 * (ba ((Int.tmod (ba (a0 + 719468)) 146097) - (ba ((ba ((ba (365 * (ba (Int.tdiv (ba ((ba ((ba ((Int.tmod (ba (a0 + 719468)) 146097) - (ba (Int.tdiv (Int.tmod (ba (a0 + 719468)) 146097) 1460)))) + (ba (Int.tdiv (Int.tmod (ba (a0 + 719468)) 146097) 36524)))) - (ba (Int.tdiv (Int.tmod (ba (a0 + 719468)) 146097) 146096)))) 365)))) + (ba (Int.tdiv (ba (Int.tdiv (ba ((ba ((ba ((Int.tmod (ba (a0 + 719468)) 146097) - (ba (Int.tdiv (Int.tmod (ba (a0 + 719468)) 146097) 1460)))) + (ba (Int.tdiv (Int.tmod (ba (a0 + 719468)) 146097) 36524)))) - (ba (Int.tdiv (Int.tmod (ba (a0 + 719468)) 146097) 146096)))) 365)) 4)))) - (ba (Int.tdiv (ba (Int.tdiv (ba ((ba ((ba ((Int.tmod (ba (a0 + 719468)) 146097) - (ba (Int.tdiv (Int.tmod (ba (a0 + 719468)) 146097) 1460)))) + (ba (Int.tdiv (Int.tmod (ba (a0 + 719468)) 146097) 36524)))) - (ba (Int.tdiv (Int.tmod (ba (a0 + 719468)) 146097) 146096)))) 365)) 100)))))))) + 2)) 153)))) + 2)) 5)))) + 1))))
def fL (a0 : Int) : Int := (kJ (lN a0) fun x2 => (ba ((ba ((ba (x2.1 - 1970)) * 12)) + (ba (x2.2.1 - 1)))))
def mo (a0 : Int) (a1 : Int) : (Int × Int × Bool) := (if a1 < 0 then ((0, 0, false)) else (if 16777216 < a1 then ((0, 0, false)) else (if a0 = 1 then ((a0, a1, true)) else (if a0 = 2 then (kJ (jF a1) fun x10 => ((a0, x10, true))) else (if a0 = 3 then (kJ (jF a1) fun x11 => (kJ (fL x11) fun x12 => ((a0, x12, true)))) else ((0, 0, false)))))))
def kq (a0_0 : Int) (a0_1 : Int) : Bool := (kJ (mo a0_0 16777216) fun x2 => (if x2.2.2 = true then (if 0 ≤ a0_1 then (decide (a0_1 ≤ x2.2.1)) else (false)) else (false)))
def fD (a0 : Int) (a1 : Int) : Bool := (if a1 ≤ a0 then (decide (a0 ≤ 4611686018427387904)) else (false))
def jO (a0_0 : Int) (a0_1 : Int) (a0_2 : Int) (a0_3 : Int) (a0_4 : Int) (a0_5 : Bool) : Bool := (kJ (kq a0_0 a0_1) fun x5 => (if x5 = true then (kJ (fD a0_2 1) fun x6 => (if x6 = true then (kJ (fD a0_4 1) fun x7 => (if x7 = true then (kJ (fD a0_3 0) fun x8 => (if x8 = true then (if a0_0 = 3 then (true) else ((!a0_5))) else (false))) else (false))) else (false))) else (false)))
def kr (a0 : Int) (a1 : Int) (a2 : Int) : Int := (kJ (if (ba (a1 - 3)) < 0 then ((ba (a0 - 1), ba ((ba (a1 - 3)) + 12))) else ((a0, ba (a1 - 3)))) fun x2 => (ba ((ba ((ba ((ba (Int.tdiv x2.1 400)) * 146097)) + (ba ((ba ((ba ((ba ((ba ((ba (365 * (Int.tmod x2.1 400))) + (ba (Int.tdiv (Int.tmod x2.1 400) 4)))) - (ba (Int.tdiv (Int.tmod x2.1 400) 100)))) + (ba (Int.tdiv (ba ((ba (153 * x2.2)) + 2)) 5)))) + a2)) - 1)))) - 719468)))
def jf (a0 : Int) : Int := (kJ (kr (ba (1970 + (ba (Int.tdiv a0 12)))) (ba ((Int.tmod a0 12) + 1)) 1) fun x2 => (x2))
def li (a0 : Int) : (Int × Int) := (kJ (jf a0) fun x3 => (kJ (jf (ba (a0 + 1))) fun x4 => ((x3, x4))))
def kW (a0_0 : Int) (a0_1 : Int) : (Int × Int) := (kJ (kq a0_0 a0_1) fun x10 => (if (!x10) = true then ((0, 0)) else (kJ (if a0_0 = 3 then (kJ (li a0_1) fun x16 => (Sum.inl (x16.1, x16.2))) else (if a0_0 = 2 then (Sum.inl (a0_1, ba (a0_1 + 1))) else (Sum.inr ((a0_1, ba (a0_1 + 1)))))) fun z => (zb z (fun v4 => ((ba (v4.1 * 24), ba (v4.2 * 24)))) (fun t_ => (t_))))))
def dh (a0 : Int) (l0 : List ah) (p2_0 : Int) : Option Bool := (if 0 ≤ a0 then (if a0 < (l0.length : Int) then (some (decide (p2_0 ≤ ((l0.getD a0.toNat aD).k)))) else none) else none)
def gV (K : Nat) (l0 : List ah) (p2_0 : Int) : Nat → Int → Int → Option Int
  | 0, _, _ => none
  | k + 1, i7, i9 => (if i7 < i9 then ((dh (ba (lh .u64 (dW (ba (i7 + i9))) 1)) l0 p2_0).bind fun x12 => (if (!x12) = true then (gV K l0 p2_0 k (ba ((ba (lh .u64 (dW (ba (i7 + i9))) 1)) + 1)) i9) else (gV K l0 p2_0 k i7 (ba (lh .u64 (dW (ba (i7 + i9))) 1))))) else (some (i7)))
def kC (K : Nat) (a0 : Int) (l0 : List ah) (p2_0 : Int) : Option Int := (gV K l0 p2_0 K 0 a0)
def bN (K : Nat) (l0 : List ah) (a1 : Int) : Option (Bool × Int) := ((kC K (l0.length : Int) l0 a1).bind fun x2 => (if x2 < (l0.length : Int) then (if 0 ≤ x2 then (some (((((l0.getD x2.toNat aD).k) == a1), x2))) else none) else (some ((false, x2)))))
def dq (K : Nat) (l0 : List ah) (a1 : Int) : Option (Int × Int × Int × Int × Int × Int × Bool × Bool) := ((bN K l0 a1).bind fun x3 => (kJ (if (!x3.1) = true then (ba (x3.2 - 1)) else (x3.2)) fun x4 => (if x4 < 0 then (some ((0, 0, 0, 0, 0, 0, false, false))) else (if 0 ≤ x4 then (if x4 < (l0.length : Int) then (some (((l0.getD x4.toNat aD).k, (((l0.getD x4.toNat aD).v).Part).Tier, (((l0.getD x4.toNat aD).v).Part).Index, ((l0.getD x4.toNat aD).v).Seg, ((l0.getD x4.toNat aD).v).Mark, ((l0.getD x4.toNat aD).v).Rows, ((l0.getD x4.toNat aD).v).Cold, true))) else none) else none))))
def lZ (a0_0 : Int) (a0_1 : Int) (a1 : Int) : Bool := (kJ (mo a0_0 a1) fun x4 => (if (!x4.2.2) = true then (kJ (kW a0_0 a0_1) fun x6 => (if x6.1 ≤ a1 then (decide (a1 < x6.2)) else (false))) else (((x4.1 == a0_0) && ((x4.2.1 == a0_1) && true)))))
def ez (K : Nat) (l0 : List ah) (a1 : Int) : Option (Int × Int × Int × Int × Int × Bool × Bool) := ((dq K l0 a1).bind fun x4 => (if (!x4.2.2.2.2.2.2.2) = true then (some ((0, 0, 0, 0, 0, false, false))) else (kJ (lZ x4.2.1 x4.2.2.1 a1) fun x6 => (if (!x6) = true then (some ((0, 0, 0, 0, 0, false, false))) else (some ((x4.2.1, x4.2.2.1, x4.2.2.2.1, x4.2.2.2.2.1, x4.2.2.2.2.2.1, x4.2.2.2.2.2.2.1, true)))))))
def fo (l0 : List ah) : Unit := (())
def cR (K : Nat) (l0 : List ah) (a1 : Int) (a2 : Int) : Option (List ah) := ((bN K l0 a1).bind fun x3 => ((bN K l0 a2).bind fun x4 => (if x4.2 ≤ x3.2 then (kJ (dw) fun u5 => (some (([] : List ah)))) else (if 0 ≤ x3.2 then (if x3.2 ≤ x4.2 then (if x4.2 ≤ (l0.length : Int) then (kJ (fo ((l0.drop x3.2.toNat).take (x4.2.toNat - x3.2.toNat))) fun u6 => (some (((l0.drop x3.2.toNat).take (x4.2.toNat - x3.2.toNat))))) else none) else none) else none))))
def cQ (K : Nat) (Gm0 : Type) (y0 : Int → aE → Gm0 → Option (Gm0 × Bool)) (l0 : List ah) : Nat → Int → Gm0 → Option Gm0
  | 0, _, _ => none
  | k + 1, i2, l3 => (if i2 < (l0.length : Int) then (if 0 ≤ i2 then ((y0 ((l0.getD i2.toNat aD).k) (⟨(⟨(((l0.getD i2.toNat aD).v).Part).Tier, (((l0.getD i2.toNat aD).v).Part).Index⟩ : aW), ((l0.getD i2.toNat aD).v).Seg, ((l0.getD i2.toNat aD).v).Mark, ((l0.getD i2.toNat aD).v).Rows, ((l0.getD i2.toNat aD).v).Cold⟩ : aE) l3).bind fun x12 => (if (!x12.2) = true then (some (x12.1)) else (cQ K Gm0 y0 l0 k (ba (i2 + 1)) x12.1))) else none) else (some (l3)))
def dE (K : Nat) (Gm0 : Type) (y0 : Int → aE → Gm0 → Option (Gm0 × Bool)) (x0y : Gm0) (l0 : List ah) : Option Gm0 := (cQ K Gm0 y0 l0 K 0 x0y)
def fv (K : Nat) (a1 : Int) (t0_ : Int) (t1_ : aE) (z4 : List aE) : Option ((List aE) × Bool) := (if t0_ = a1 then (some ((z4, true))) else (if (z4.length + [(⟨(⟨t1_.Part.Tier, t1_.Part.Index⟩ : aW), t1_.Seg, t1_.Mark, t1_.Rows, t1_.Cold⟩ : aE)].length) * 48 ≤ 140737488355328 then (some (((z4 ++ [(⟨(⟨t1_.Part.Tier, t1_.Part.Index⟩ : aW), t1_.Seg, t1_.Mark, t1_.Rows, t1_.Cold⟩ : aE)]), true))) else none))
def fz (K : Nat) (l0 : List ah) (a1 : Int) (a2 : Int) : Option (List aE) := (if a2 ≤ a1 then (some (([] : List aE))) else (Option.bind ((ez K l0 a1).bind fun x11 => (if x11.2.2.2.2.2.2 = true then (if (([] : List aE).length + [(⟨(⟨x11.1, x11.2.1⟩ : aW), x11.2.2.1, x11.2.2.2.1, x11.2.2.2.2.1, x11.2.2.2.2.2.1⟩ : aE)].length) * 48 ≤ 140737488355328 then (some ((([] : List aE) ++ [(⟨(⟨x11.1, x11.2.1⟩ : aW), x11.2.2.1, x11.2.2.2.1, x11.2.2.2.2.1, x11.2.2.2.2.2.1⟩ : aE)]))) else none) else (some (([] : List aE))))) fun x10 => ((cR K l0 a1 a2).bind fun x14 => ((dE K (List aE) (fv K a1) x10 x14).bind fun x15 => (some (x15))))))
def bw (l0 : List ah) (a1 : Int) (l1 : List ah) : Option (List ah) := AB 56 l0 a1 l1
def dB (K : Nat) (l0 : List ah) (a1 : Int) (a2_0 : Int) (a2_1 : Int) (a2_2 : Int) (a2_3 : Int) (a2_4 : Int) (a2_5 : Bool) : Option (Bool × (List ah)) := ((bN K l0 a1).bind fun x3 => (if x3.1 = true then (if 0 ≤ x3.2 then (if x3.2 < (l0.length : Int) then (some ((false, (l0.set x3.2.toNat (⟨(l0.getD x3.2.toNat aD).k, (⟨(⟨a2_0, a2_1⟩ : aW), a2_2, a2_3, a2_4, a2_5⟩ : aE)⟩ : ah))))) else none) else none) else ((bw l0 x3.2 [(⟨a1, (⟨(⟨a2_0, a2_1⟩ : aW), a2_2, a2_3, a2_4, a2_5⟩ : aE)⟩ : ah)]).bind fun x4 => (some ((true, x4))))))
def fR (K : Nat) (l0 : List ah) (a1_0 : Int) (a1_1 : Int) (a1_2 : Int) (a1_3 : Int) (a1_4 : Int) (a1_5 : Bool) : Option (Int × (List ah)) := (kJ (jO a1_0 a1_1 a1_2 a1_3 a1_4 a1_5) fun x9 => (if (!x9) = true then (some ((4, l0))) else (kJ (kW a1_0 a1_1) fun x10 => ((fz K l0 x10.1 x10.2).bind fun x12 => (if 0 < (x12.length : Int) then (some ((12, l0))) else ((dB K l0 x10.1 a1_0 a1_1 a1_2 a1_3 a1_4 a1_5).bind fun x13 => (some ((0, x13.2)))))))))
def fH (K : Nat) : Nat → Option Unit
  | 0 => none
  | k + 1 => (some (()))
def dJ (K : Nat) (l0 : List aE) : Nat → Int → (List ah) → Option (Sum (List ah) (Int × (List ah)))
  | 0, _, _ => none
  | k + 1, i9, l11 => (if i9 < (l0.length : Int) then (if 0 ≤ i9 then ((fR K l11 (((l0.getD i9.toNat bn).Part).Tier) (((l0.getD i9.toNat bn).Part).Index) ((l0.getD i9.toNat bn).Seg) ((l0.getD i9.toNat bn).Mark) ((l0.getD i9.toNat bn).Rows) ((l0.getD i9.toNat bn).Cold)).bind fun x45 => (if ¬ (x45.1 = 0) then (some (Sum.inr ((x45.1, ([] : List ah))))) else (dJ K l0 k (ba (i9 + 1)) x45.2))) else none) else (some (Sum.inl l11)))
def ep (K : Nat) (l0 : List aE) : Option (Int × (List ah)) := ((gr K).bind fun x31 => (Option.bind (fH K K) fun x32 => (Option.bind (dJ K l0 K 0 x31) fun z => (zb z (fun v3 => (some ((0, v3)))) (fun t_ => (some (t_)))))))
def fV (a0 : Int) : Bool := (if (Int.tmod a0 4) = 0 then (if ¬ ((Int.tmod a0 100) = 0) then (true) else (((Int.tmod a0 400) == 0))) else (false))
def eA (a0 : Int) : Int := (kJ (fV a0) fun x4 => (if x4 = true then (366) else (365)))
def cL (a0 : Int) (a1 : Int) : Int := (if a1 = 2 then (kJ (fV a0) fun x14 => (if x14 = true then (29) else (28))) else (kJ (if a1 = 4 then ((a1 == 4)) else (if a1 = 6 then ((a1 == 6)) else (if a1 = 9 then ((a1 == 9)) else ((a1 == 11))))) fun x15 => (if x15 = true then (30) else (kJ (if a1 = 1 then ((a1 == 1)) else (if a1 = 3 then ((a1 == 3)) else (if a1 = 5 then ((a1 == 5)) else (if a1 = 7 then ((a1 == 7)) else (if a1 = 8 then ((a1 == 8)) else (if a1 = 10 then ((a1 == 10)) else ((a1 == 12)))))))) fun x16 => (if x16 = true then (31) else (0))))))
def gl (K : Nat) : Nat → Int → Int → Option (Int × Int)
  | 0, _, _ => none
  | k + 1, i19, i20 => (kJ (eA i20) fun x62 => (if x62 ≤ i19 then (if i20 < 5000 then (kJ (eA i20) fun x63 => (gl K k (ba (i19 - x63)) (ba (i20 + 1)))) else (some ((i19, i20)))) else (some ((i19, i20)))))
def gd (K : Nat) (x53 : (Int × Int)) : Nat → Int → Int → Option (Int × Int)
  | 0, _, _ => none
  | k + 1, i25, i26 => (if i26 < 12 then (kJ (cL x53.2 i26) fun x83 => (if x83 ≤ i25 then (kJ (cL x53.2 i26) fun x84 => (gd K x53 k (ba (i25 - x84)) (ba (i26 + 1)))) else (some ((i25, i26))))) else (some ((i25, i26))))
def iY (K : Nat) (a0 : Int) : Option (Int × Int × Int) := (Option.bind (gl K K a0 1970) fun x53 => (Option.bind (gd K x53 K x53.1 1) fun x74 => (some ((x53.2, x74.2, ba (x74.1 + 1))))))
def gb (K : Nat) (a0 : Int) : Option Int := ((iY K a0).bind fun x2 => (some (ba ((ba ((ba ((ba (x2.1 - 1970)) * 12)) + x2.2.1)) - 1))))
def ib (K : Nat) (a0 : Int) : Option Int := (if a0 = 1 then (some (16777216)) else (if a0 = 2 then (some (699050)) else (if a0 = 3 then ((gb K 699050).bind fun x4 => (some (x4))) else (some ((-1))))))
def cD (K : Nat) (a0_0 : Int) (a0_1 : Int) : Option Bool := (if 0 ≤ a0_1 then ((ib K a0_0).bind fun x2 => (some (decide (a0_1 ≤ x2)))) else (some (false)))
def fI (a0 : Int) (a1 : Int) (a2 : Int) : Bool := (if a1 ≤ a0 then (decide (a0 ≤ a2)) else (false))
def gT (K : Nat) (a0_0 : Int) (a0_1 : Int) (a0_2 : Int) (a0_3 : Int) (a0_4 : Int) (a0_5 : Bool) : Option Bool := ((cD K a0_0 a0_1).bind fun x5 => (if x5 = true then (kJ (fI a0_2 1 4611686018427387904) fun x6 => (if x6 = true then (kJ (fI a0_4 1 4611686018427387904) fun x7 => (if x7 = true then (kJ (fI a0_3 0 4611686018427387904) fun x8 => (if x8 = true then (if (!a0_5) = true then (some (true)) else (some ((a0_0 == 3)))) else (some (false)))) else (some (false)))) else (some (false)))) else (some (false))))
def fA (K : Nat) (a0 : Int) : Nat → Int → Int → Option Int
  | 0, _, _ => none
  | k + 1, i17, i18 => (if i18 < a0 then (kJ (eA i18) fun x43 => (fA K a0 k (ba (i17 + x43)) (ba (i18 + 1)))) else (some (i17)))
def fw (K : Nat) (a0 : Int) (a1 : Int) : Nat → Int → Int → Option Int
  | 0, _, _ => none
  | k + 1, i22, i23 => (if i23 < a1 then (kJ (cL a0 i23) fun x56 => (fw K a0 a1 k (ba (i22 + x56)) (ba (i23 + 1)))) else (some (i22)))
def gE (K : Nat) (a0 : Int) (a1 : Int) (a2 : Int) : Option (Int × Bool) := (if a0 < 1970 then (some ((0, false))) else (if 4900 < a0 then (some ((0, false))) else (if a2 < 1 then (some ((0, false))) else (kJ (cL a0 a1) fun x30 => (if x30 < a2 then (some ((0, false))) else (Option.bind (fA K a0 K 0 1970) fun x37 => (Option.bind (fw K a0 a1 K x37 1) fun x50 => (some ((ba ((ba (x50 + a2)) - 1), true))))))))))
def iw (K : Nat) (a0 : Int) : Option (Int × Int) := ((gE K (ba (1970 + (ba (Int.tdiv a0 12)))) (ba ((Int.tmod a0 12) + 1)) 1).bind fun x3 => (kJ (cL (ba (1970 + (ba (Int.tdiv a0 12)))) (ba ((Int.tmod a0 12) + 1))) fun x4 => (some ((x3.1, ba (x3.1 + x4))))))
def db (K : Nat) (a0_0 : Int) (a0_1 : Int) : Option (Int × Int) := ((cD K a0_0 a0_1).bind fun x5 => (if (!x5) = true then (some ((0, 0))) else (if a0_0 = 1 then (some ((a0_1, ba (a0_1 + 1)))) else (if a0_0 = 2 then (some ((ba (24 * a0_1), ba (24 * (ba (a0_1 + 1)))))) else ((iw K a0_1).bind fun x6 => (some ((ba (24 * x6.1), ba (24 * x6.2)))))))))
def gP (K : Nat) (a0_0 : Int) (a0_1 : Int) (a1_0 : Int) (a1_1 : Int) : Option Bool := ((db K a0_0 a0_1).bind fun x5 => ((db K a1_0 a1_1).bind fun x6 => ((cD K a0_0 a0_1).bind fun x7 => (if x7 = true then ((cD K a1_0 a1_1).bind fun x8 => (if x8 = true then (if x5.1 < x6.2 then (some (decide (x6.1 < x5.2))) else (some (false))) else (some (false)))) else (some (false))))))
def ij (K : Nat) (a0_0 : Int) (a0_1 : Int) (a1_0 : Int) (a1_1 : Int) : Option Bool := ((db K a0_0 a0_1).bind fun x5 => ((db K a1_0 a1_1).bind fun x6 => ((cD K a0_0 a0_1).bind fun x7 => (if x7 = true then ((cD K a1_0 a1_1).bind fun x8 => (if x8 = true then (if x5.1 < x6.1 then (some (true)) else (if x5.1 = x6.1 then (some (decide (a0_0 < a1_0))) else (some (false)))) else (some (false)))) else (some (false))))))
def dG (K : Nat) (l0 : List aE) (a1_0 : Int) (a1_1 : Int) : Nat → Int → Int → Option (Sum Int (Int × (List aE)))
  | 0, _, _ => none
  | k + 1, i11, i12 => (if i12 < (l0.length : Int) then (if 0 ≤ i12 then ((gP K (((l0.getD i12.toNat bn).Part).Tier) (((l0.getD i12.toNat bn).Part).Index) a1_0 a1_1).bind fun x77 => (if x77 = true then (some (Sum.inr ((12, ([] : List aE))))) else ((ij K (((l0.getD i12.toNat bn).Part).Tier) (((l0.getD i12.toNat bn).Part).Index) a1_0 a1_1).bind fun x78 => (if x78 = true then (dG K l0 a1_0 a1_1 k (ba (i12 + 1)) (ba (i12 + 1))) else (dG K l0 a1_0 a1_1 k i11 (ba (i12 + 1))))))) else none) else (some (Sum.inl i11)))
def gR (K : Nat) (l0 : List aE) (a1_0 : Int) (a1_1 : Int) (a1_2 : Int) (a1_3 : Int) (a1_4 : Int) (a1_5 : Bool) : Option (Int × (List aE)) := ((gT K a1_0 a1_1 a1_2 a1_3 a1_4 a1_5).bind fun x41 => (if (!x41) = true then (some ((4, ([] : List aE)))) else (Option.bind (dG K l0 a1_0 a1_1 K 0 0) fun z => (zb z (fun v2 => (if 0 ≤ v2 then (if v2 ≤ (l0.length : Int) then (if (([] : List aE).length + (l0.take v2.toNat).length) * 48 ≤ 140737488355328 then (if ((([] : List aE) ++ (l0.take v2.toNat)).length + [(⟨(⟨a1_0, a1_1⟩ : aW), a1_2, a1_3, a1_4, a1_5⟩ : aE)].length) * 48 ≤ 140737488355328 then (if (((([] : List aE) ++ (l0.take v2.toNat)) ++ [(⟨(⟨a1_0, a1_1⟩ : aW), a1_2, a1_3, a1_4, a1_5⟩ : aE)]).length + (l0.drop v2.toNat).length) * 48 ≤ 140737488355328 then (some ((0, (((([] : List aE) ++ (l0.take v2.toNat)) ++ [(⟨(⟨a1_0, a1_1⟩ : aW), a1_2, a1_3, a1_4, a1_5⟩ : aE)]) ++ (l0.drop v2.toNat))))) else none) else none) else none) else none) else none)) (fun t_ => (some (t_)))))))
def gy (K : Nat) : Nat → Option Unit
  | 0 => none
  | k + 1 => (some (()))
def eo (K : Nat) (l0 : List aE) : Nat → Int → (List aE) → Option (Int × (List aE))
  | 0, _, _ => none
  | k + 1, i5, l5 => (if i5 < (l0.length : Int) then (if 0 ≤ i5 then ((gR K l5 (((l0.getD i5.toNat bn).Part).Tier) (((l0.getD i5.toNat bn).Part).Index) ((l0.getD i5.toNat bn).Seg) ((l0.getD i5.toNat bn).Mark) ((l0.getD i5.toNat bn).Rows) ((l0.getD i5.toNat bn).Cold)).bind fun x26 => (if ¬ (x26.1 = 0) then (some ((x26.1, ([] : List aE)))) else (eo K l0 k (ba (i5 + 1)) x26.2))) else none) else (some ((0, l5))))
def fx (K : Nat) (l0 : List aE) : Option (Int × (List aE)) := (Option.bind (gy K K) fun x14 => (eo K l0 K 0 ([] : List aE)))
def gk (K : Nat) (l0 : List aI) : Nat → Int → (List aI) → Option (List aI)
  | 0, _, _ => none
  | k + 1, i4, l5 => (if i4 < (l0.length : Int) then (if 0 ≤ i4 then ((bz ((l0.getD i4.toNat am).Facts)).bind fun x24 => (if (l5.length + 1) * 48 ≤ 140737488355328 then (gk K l0 k (ba (i4 + 1)) (l5 ++ [(⟨(l0.getD i4.toNat am).Seq, (l0.getD i4.toNat am).Tick, (l0.getD i4.toNat am).Budget, x24⟩ : aI)])) else none)) else none) else (some (l5)))
def hN (K : Nat) (p0_0 : Int) (l0 : List aI) (p0_2 : Int) : Option (List aI) := (kJ (eG p0_0 l0 p0_2) fun u4 => (gk K l0 K 0 ([] : List aI)))
def ik (l0 : List aI) : Option (List aK) := if l0.length * 48 ≤ 140737488355328 then some (l0.map (fun x : aI => (⟨x.Seq, x.Tick, x.Budget, x.Facts⟩ : aK))) else none
def cZ (K : Nat) (l0 : List aF) : Nat → Int → (List aK) → Option (List aK)
  | 0, _, _ => none
  | k + 1, i18, l17 => (if i18 < (l0.length : Int) then (if 0 ≤ i18 then (Option.bind (if (ba ((l17.length : Int) - 1)) < 0 then (if (l17.length + 1) * 48 ≤ 140737488355328 then (some ((ba ((ba ((l17.length : Int) - 1)) + 1), (l17 ++ [(⟨(l0.getD i18.toNat aa).Seq, (l0.getD i18.toNat aa).Tick, (l0.getD i18.toNat aa).Budget, []⟩ : aK)])))) else none) else (if 0 ≤ (ba ((l17.length : Int) - 1)) then (if (ba ((l17.length : Int) - 1)) < (l17.length : Int) then (if ¬ (((l17.getD ((ba ((l17.length : Int) - 1)).toNat) aj).Seq) = ((l0.getD i18.toNat aa).Seq)) then (if (l17.length + 1) * 48 ≤ 140737488355328 then (some ((ba ((ba ((l17.length : Int) - 1)) + 1), (l17 ++ [(⟨(l0.getD i18.toNat aa).Seq, (l0.getD i18.toNat aa).Tick, (l0.getD i18.toNat aa).Budget, []⟩ : aK)])))) else none) else (some ((ba ((l17.length : Int) - 1), l17)))) else none) else none)) fun x16 => (if 0 ≤ x16.1 then (if x16.1 < (x16.2.length : Int) then (if (((x16.2.getD x16.1.toNat aj).Facts).length + [(⟨(⟨(((l0.getD i18.toNat aa).F).Key).Hour, (((l0.getD i18.toNat aa).F).Key).Dims_0, (((l0.getD i18.toNat aa).F).Key).Dims_1, (((l0.getD i18.toNat aa).F).Key).Dims_2, (((l0.getD i18.toNat aa).F).Key).Dims_3⟩ : bc), ((l0.getD i18.toNat aa).F).Value⟩ : aB)].length) * 80 ≤ 140737488355328 then (cZ K l0 k (ba (i18 + 1)) (x16.2.set x16.1.toNat (⟨(x16.2.getD x16.1.toNat aj).Seq, (x16.2.getD x16.1.toNat aj).Tick, (x16.2.getD x16.1.toNat aj).Budget, (((x16.2.getD x16.1.toNat aj).Facts) ++ [(⟨(⟨(((l0.getD i18.toNat aa).F).Key).Hour, (((l0.getD i18.toNat aa).F).Key).Dims_0, (((l0.getD i18.toNat aa).F).Key).Dims_1, (((l0.getD i18.toNat aa).F).Key).Dims_2, (((l0.getD i18.toNat aa).F).Key).Dims_3⟩ : bc), ((l0.getD i18.toNat aa).F).Value⟩ : aB)])⟩ : aK))) else none) else none) else none)) else none) else (some (l17)))
def cx (K : Nat) (p0_0 : Int) (l0 : List aF) (p0_2 : Int) : Option (List aK) := (cZ K l0 K 0 ([] : List aK))
def eW (K : Nat) (l0 : List aB) (l1 : List aB) : Nat → Int → Option Bool
  | 0, _ => none
  | k + 1, i4 => (if i4 < (l0.length : Int) then (if 0 ≤ i4 then (if i4 < (l1.length : Int) then (if (!((((((l0.getD i4.toNat ab).Key).Hour) == (((l1.getD i4.toNat ab).Key).Hour)) && ((((((l0.getD i4.toNat ab).Key).Dims_0) == (((l1.getD i4.toNat ab).Key).Dims_0)) && (((((l0.getD i4.toNat ab).Key).Dims_1) == (((l1.getD i4.toNat ab).Key).Dims_1)) && (((((l0.getD i4.toNat ab).Key).Dims_2) == (((l1.getD i4.toNat ab).Key).Dims_2)) && (((((l0.getD i4.toNat ab).Key).Dims_3) == (((l1.getD i4.toNat ab).Key).Dims_3)) && true)))) && true)) && ((((l0.getD i4.toNat ab).Value) == ((l1.getD i4.toNat ab).Value)) && true))) = true then (some (false)) else (eW K l0 l1 k (ba (i4 + 1)))) else none) else none) else (some (true)))
def dU (K : Nat) (l0 : List aB) (l1 : List aB) : Option Bool := (if ¬ ((l0.length : Int) = (l1.length : Int)) then (some (false)) else (eW K l0 l1 K 0))
def eY (K : Nat) (l0 : List aK) (l1 : List aK) : Nat → Int → Option Bool
  | 0, _ => none
  | k + 1, i4 => (if i4 < (l0.length : Int) then (if 0 ≤ i4 then (if i4 < (l1.length : Int) then (if ¬ (((l0.getD i4.toNat aj).Seq) = ((l1.getD i4.toNat aj).Seq)) then (some (false)) else (if ¬ (((l0.getD i4.toNat aj).Tick) = ((l1.getD i4.toNat aj).Tick)) then (some (false)) else (if ¬ (((l0.getD i4.toNat aj).Budget) = ((l1.getD i4.toNat aj).Budget)) then (some (false)) else ((dU K ((l0.getD i4.toNat aj).Facts) ((l1.getD i4.toNat aj).Facts)).bind fun x24 => (if (!x24) = true then (some (false)) else (eY K l0 l1 k (ba (i4 + 1)))))))) else none) else none) else (some (true)))
def gm (K : Nat) (l0 : List aK) (l1 : List aK) : Option Bool := (if ¬ ((l0.length : Int) = (l1.length : Int)) then (some (false)) else (eY K l0 l1 K 0))
def cU (K : Nat) (l0 : List aF) (a1 : Int) (a2 : Int) : Nat → Int → (List aB) → Option (List aB)
  | 0, _, _ => none
  | k + 1, i4, l5 => (if i4 < (l0.length : Int) then (if 0 ≤ i4 then (if a1 ≤ ((((l0.getD i4.toNat aa).F).Key).Hour) then (if ((((l0.getD i4.toNat aa).F).Key).Hour) < a2 then (if (l5.length + [(⟨(⟨(((l0.getD i4.toNat aa).F).Key).Hour, (((l0.getD i4.toNat aa).F).Key).Dims_0, (((l0.getD i4.toNat aa).F).Key).Dims_1, (((l0.getD i4.toNat aa).F).Key).Dims_2, (((l0.getD i4.toNat aa).F).Key).Dims_3⟩ : bc), ((l0.getD i4.toNat aa).F).Value⟩ : aB)].length) * 80 ≤ 140737488355328 then (cU K l0 a1 a2 k (ba (i4 + 1)) (l5 ++ [(⟨(⟨(((l0.getD i4.toNat aa).F).Key).Hour, (((l0.getD i4.toNat aa).F).Key).Dims_0, (((l0.getD i4.toNat aa).F).Key).Dims_1, (((l0.getD i4.toNat aa).F).Key).Dims_2, (((l0.getD i4.toNat aa).F).Key).Dims_3⟩ : bc), ((l0.getD i4.toNat aa).F).Value⟩ : aB)])) else none) else (cU K l0 a1 a2 k (ba (i4 + 1)) l5)) else (cU K l0 a1 a2 k (ba (i4 + 1)) l5)) else none) else (some (l5)))
def cO (K : Nat) (p0_0 : Int) (l0 : List aF) (p0_2 : Int) (a1 : Int) (a2 : Int) : Option (List aB) := (cU K l0 a1 a2 K 0 ([] : List aB))
def fe (K : Nat) (l0 : List aB) (i43 : Int) (l11 : List Int) : Nat → Int → Option Int
  | 0, _ => none
  | k + 1, i55 => (if i55 < (l11.length : Int) then (if 0 ≤ i55 then (if (l11.getD i55.toNat 0) < (((l0.getD i43.toNat ab).Key).Hour) then (fe K l0 i43 l11 k (ba (i55 + 1))) else (some (i55))) else none) else (some (i55)))
def fh (K : Nat) (l0 : List aB) : Nat → Int → (List Int) → Option (List Int)
  | 0, _, _ => none
  | k + 1, i43, l11 => (if i43 < (l0.length : Int) then (Option.bind (if 0 ≤ i43 then (Option.bind (fe K l0 i43 l11 K 0) fun x36 => (if x36 = (l11.length : Int) then (if 0 ≤ x36 then (if x36 ≤ (l11.length : Int) then (if (([] : List Int).length + (l11.take x36.toNat).length) * 8 ≤ 140737488355328 then (if ((([] : List Int) ++ (l11.take x36.toNat)).length + [((l0.getD i43.toNat ab).Key).Hour].length) * 8 ≤ 140737488355328 then (if (((([] : List Int) ++ (l11.take x36.toNat)) ++ [((l0.getD i43.toNat ab).Key).Hour]).length + (l11.drop x36.toNat).length) * 8 ≤ 140737488355328 then (some ((((([] : List Int) ++ (l11.take x36.toNat)) ++ [((l0.getD i43.toNat ab).Key).Hour]) ++ (l11.drop x36.toNat)))) else none) else none) else none) else none) else none) else (if 0 ≤ x36 then (if x36 < (l11.length : Int) then (if ¬ ((l11.getD x36.toNat 0) = (((l0.getD i43.toNat ab).Key).Hour)) then (if x36 ≤ (l11.length : Int) then (if (([] : List Int).length + (l11.take x36.toNat).length) * 8 ≤ 140737488355328 then (if ((([] : List Int) ++ (l11.take x36.toNat)).length + [((l0.getD i43.toNat ab).Key).Hour].length) * 8 ≤ 140737488355328 then (if (((([] : List Int) ++ (l11.take x36.toNat)) ++ [((l0.getD i43.toNat ab).Key).Hour]).length + (l11.drop x36.toNat).length) * 8 ≤ 140737488355328 then (some ((((([] : List Int) ++ (l11.take x36.toNat)) ++ [((l0.getD i43.toNat ab).Key).Hour]) ++ (l11.drop x36.toNat)))) else none) else none) else none) else none) else (some (l11))) else none) else none))) else none) fun x35 => (fh K l0 k (ba (i43 + 1)) x35)) else (some (l11)))
def ge (K : Nat) (l0 : List aB) : Option (List Int) := (fh K l0 K 0 ([] : List Int))
def fK (K : Nat) (p0_0 : Int) (l0 : List aF) (p0_2 : Int) : Option (List Int) := ((cO K p0_0 l0 p0_2 0 4611686018427387904).bind fun x3 => ((ge K x3).bind fun x4 => (some (x4))))
def ff (K : Nat) (l0 : List Int) (l1 : List Int) : Nat → Int → Option Bool
  | 0, _ => none
  | k + 1, i4 => (if i4 < (l0.length : Int) then (if 0 ≤ i4 then (if i4 < (l1.length : Int) then (if ¬ ((l0.getD i4.toNat 0) = (l1.getD i4.toNat 0)) then (some (false)) else (ff K l0 l1 k (ba (i4 + 1)))) else none) else none) else (some (true)))
def gc (K : Nat) (l0 : List Int) (l1 : List Int) : Option Bool := (if ¬ ((l0.length : Int) = (l1.length : Int)) then (some (false)) else (ff K l0 l1 K 0))
def gj (K : Nat) : Nat → Int → (List Int) → Option ((List Int) × Int)
  | 0, _, _ => none
  | k + 1, i6, l7 => (if 128 ≤ i6 then (if (l7.length + [pf .u8 (jB i6) 128].length) * 1 ≤ 140737488355328 then (gj K k (lh .u64 i6 7) (l7 ++ [pf .u8 (jB i6) 128])) else none) else (some ((l7, i6))))
def dA (K : Nat) (a1 : Int) : Option (List Int) := (Option.bind (gj K K a1 ([] : List Int)) fun x2 => (if (x2.1.length + [jB x2.2].length) * 1 ≤ 140737488355328 then (some ((x2.1 ++ [jB x2.2]))) else none))
def di (K : Nat) : Nat → Int → (List Int) → Option ((List Int) × Int)
  | 0, _, _ => none
  | k + 1, i6, l7 => (if 128 ≤ i6 then (if (l7.length + [pf .u8 (jB i6) 128].length) * 1 ≤ 140737488355328 then (di K k (lh .u64 i6 7) (l7 ++ [pf .u8 (jB i6) 128])) else none) else (some ((l7, i6))))
def cT (K : Nat) (l0 : List Int) (a1 : Int) : Option (List Int) := (Option.bind (di K K a1 l0) fun x2 => (if (x2.1.length + [jB x2.2].length) * 1 ≤ 140737488355328 then (some ((x2.1 ++ [jB x2.2]))) else none))
def gQ (K : Nat) (l0 : List Int) (a1 : List UInt8) : Option (List Int) := ((cT K l0 (dW (a1.length : Int))).bind fun x4 => (if (x4.length + a1.length) * 1 ≤ 140737488355328 then (some ((x4 ++ mn a1))) else none))
def hO (K : Nat) (l0 : List Int) (a1 : Int) : Option (List Int) := ((cT K l0 (lX .u64 (dW (yG .i64 a1 1)) (dW (lh .i64 a1 63)))).bind fun x2 => (some (x2)))
def iN (l0 : List Int) : Option (List Int) := (if 0 < l0.length then (if (([] : List Int).length + l0.length) * 1 ≤ 140737488355328 then (some ((([] : List Int) ++ l0))) else none) else (if (([] : List Int).length + ([] : List Int).length) * 1 ≤ 140737488355328 then (some ((([] : List Int) ++ ([] : List Int)))) else none))
def dt (l0 : List Int) : Option (List Int) := ((iN l0).bind fun x2 => (some (x2)))
def gX (K : Nat) (l0 : List aB) (a1 : Int) (i48 : Int) : Nat → Int → (List Int) → Option (List Int)
  | 0, _, _ => none
  | k + 1, i56, l89 => (if i56 < (([((l0.getD i48.toNat ab).Key).Dims_0, ((l0.getD i48.toNat ab).Key).Dims_1, ((l0.getD i48.toNat ab).Key).Dims_2, ((l0.getD i48.toNat ab).Key).Dims_3].take a1.toNat).length : Int) then (if 0 ≤ i56 then ((gQ K l89 (([((l0.getD i48.toNat ab).Key).Dims_0, ((l0.getD i48.toNat ab).Key).Dims_1, ((l0.getD i48.toNat ab).Key).Dims_2, ((l0.getD i48.toNat ab).Key).Dims_3].take a1.toNat).getD i56.toNat [])).bind fun x378 => (gX K l0 a1 i48 k (ba (i56 + 1)) x378)) else none) else (some (l89)))
def gx (K : Nat) (l0 : List aB) (a1 : Int) : Nat → Int → (List Int) → Option (Int × (List Int))
  | 0, _, _ => none
  | k + 1, i48, l75 => (if i48 < (l0.length : Int) then (Option.bind (if 0 ≤ i48 then ((cT K l75 (dW (((l0.getD i48.toNat ab).Key).Hour))).bind fun x365 => (Option.bind (if 0 ≤ a1 then (if a1 ≤ (4 : Nat) then (gX K l0 a1 i48 K 0 x365) else none) else none) fun x372 => ((hO K x372 ((l0.getD i48.toNat ab).Value)).bind fun x379 => (some (x379))))) else none) fun x364 => (gx K l0 a1 k (ba (i48 + 1)) x364)) else ((dt l75).bind fun x380 => (some ((0, x380)))))
def jk (K : Nat) (l0 : List aB) (a1 : Int) : Option (Int × (List Int)) := ((iZ K l0 a1).bind fun x192 => (if ¬ (x192.1 = 0) then (some ((x192.1, ([] : List Int)))) else ((dA K (dW (l0.length : Int))).bind fun x193 => (gx K l0 a1 K 0 x193))))
def mE (p0_0 : Int) : Int := (lX .u32 (lh .u32 p0_0 1) (rY .u32 3988292384 (mK (0 - (rY .u32 p0_0 1)))))
def jQ (K : Nat) : Nat → Int → Int → Option Int
  | 0, _, _ => none
  | k + 1, i71, i72 => (if i71 < 8 then (kJ (mE i72) fun x156 => (jQ K k (ba (i71 + 1)) x156)) else (some (i72)))
def jN (K : Nat) (l0 : List Int) : Nat → Int → Int → Option Int
  | 0, _, _ => none
  | k + 1, i60, i61 => (if i60 < (l0.length : Int) then (Option.bind (if 0 ≤ i60 then (jQ K K 0 (lX .u32 i61 (mK (l0.getD i60.toNat 0)))) else none) fun x150 => (jN K l0 k (ba (i60 + 1)) x150)) else (some (lX .u32 (IntKind.max .u32) i61)))
def lT (K : Nat) (a0 : Int) (l0 : List Int) : Option Int := (jN K l0 K 0 (lX .u32 (IntKind.max .u32) a0))
def mv (K : Nat) (l0 : List Int) : Option Int := ((lT K 0 l0).bind fun x2 => (some (x2)))
def km (K : Nat) (x4 : Int) : Nat → Int → (List Int) → Option (List Int)
  | 0, _, _ => none
  | k + 1, i4, l5 => (if i4 < 4 then (if 0 ≤ (ba (8 * i4)) then (if (l5.length + [jB (lh .u32 x4 (ba (8 * i4)))].length) * 1 ≤ 140737488355328 then (km K x4 k (ba (i4 + 1)) (l5 ++ [jB (lh .u32 x4 (ba (8 * i4)))])) else none) else none) else (some (l5)))
def lO (K : Nat) (l0 : List Int) : Option (List Int) := ((iN l0).bind fun x3 => ((mv K l0).bind fun x4 => (km K x4 K 0 x3)))
def kK (K : Nat) (l0 : List Int) : Option (List Int) := ((dA K (dW (l0.length : Int))).bind fun x4 => ((dt x4).bind fun x5 => ((lO K l0).bind fun x6 => (if (x5.length + x6.length) * 1 ≤ 140737488355328 then (some ((x5 ++ x6))) else none))))
def kt (K : Nat) (a0_0 : Int) (a0_1 : Int) (a0_2 : Int) (l0 : List aB) (a1 : Int) : Option (Int × (List Int)) := ((jI K a0_0 a0_1 a0_2 l0 a1).bind fun x11 => (if (!x11) = true then (some ((1, ([] : List Int)))) else ((dA K (dW a0_0)).bind fun x12 => ((cT K x12 (dW a0_1)).bind fun x13 => ((cT K x13 (dW a0_2)).bind fun x14 => ((jk K l0 a1).bind fun x15 => (if ¬ (x15.1 = 0) then (some ((x15.1, ([] : List Int)))) else ((dt x14).bind fun x16 => (if (x16.length + x15.2.length) * 1 ≤ 140737488355328 then ((kK K (x16 ++ x15.2)).bind fun x17 => (some ((0, x17)))) else none)))))))))
def jw (K : Nat) (l0 : List aI) (a1 : Int) : Nat → Int → (List Int) → Option (Int × (List Int))
  | 0, _, _ => none
  | k + 1, i5, l5 => (if i5 < (l0.length : Int) then (if 0 ≤ i5 then ((kt K ((l0.getD i5.toNat am).Seq) ((l0.getD i5.toNat am).Tick) ((l0.getD i5.toNat am).Budget) ((l0.getD i5.toNat am).Facts) a1).bind fun x24 => (if ¬ (x24.1 = 0) then (some ((x24.1, ([] : List Int)))) else (if (l5.length + x24.2.length) * 1 ≤ 140737488355328 then (jw K l0 a1 k (ba (i5 + 1)) (l5 ++ x24.2)) else none))) else none) else (some ((0, l5))))
def lp (K : Nat) (l0 : List aI) (a1 : Int) : Option (Int × (List Int)) := (jw K l0 a1 K 0 ([] : List Int))
def jc (K : Nat) (p0_0 : Int) (l0 : List aI) (p0_2 : Int) : Option Int := ((lp K l0 p0_0).bind fun x3 => (some ((x3.2.length : Int))))
def gC (K : Nat) : Nat → Int → (List Int) → Option ((List Int) × Int)
  | 0, _, _ => none
  | k + 1, i6, l7 => (if 127 < i6 then (if (l7.length + [jB (dW ((Int.tmod i6 128) + 128))].length) * 1 ≤ 140737488355328 then (gC K k (dW (Int.tdiv i6 128)) (l7 ++ [jB (dW ((Int.tmod i6 128) + 128))])) else none) else (some ((l7, i6))))
def bZ (K : Nat) (a0 : Int) : Option (List Int) := (Option.bind (gC K K a0 ([] : List Int)) fun x2 => (if (x2.1.length + [jB x2.2].length) * 1 ≤ 140737488355328 then (some ((x2.1 ++ [jB x2.2]))) else none))
def iq (K : Nat) (a0 : List UInt8) : Option (List Int) := ((bZ K (dW (a0.length : Int))).bind fun x2 => (if (x2.length + a0.length) * 1 ≤ 140737488355328 then (some ((x2 ++ mn a0))) else none))
def iK (K : Nat) (a0 : Int) : Option (List Int) := (if 0 ≤ a0 then ((bZ K (dW (2 * (dW a0)))).bind fun x5 => (some (x5))) else ((bZ K (dW ((dW (2 * (dW (ba (0 - (ba (a0 + 1))))))) + 1))).bind fun x6 => (some (x6))))
def dR (K : Nat) (l0 : List aB) (a1 : Int) (i48 : Int) : Nat → Int → (List Int) → Option (List Int)
  | 0, _, _ => none
  | k + 1, i56, l89 => (if i56 < a1 then (if 0 ≤ i56 then (if i56 < (4 : Int) then ((iq K ([((l0.getD i48.toNat ab).Key).Dims_0, ((l0.getD i48.toNat ab).Key).Dims_1, ((l0.getD i48.toNat ab).Key).Dims_2, ((l0.getD i48.toNat ab).Key).Dims_3].getD i56.toNat [])).bind fun x377 => (if (l89.length + x377.length) * 1 ≤ 140737488355328 then (dR K l0 a1 i48 k (ba (i56 + 1)) (l89 ++ x377)) else none)) else none) else none) else (some (l89)))
def du (K : Nat) (l0 : List aB) (a1 : Int) : Nat → Int → (List Int) → Option (Int × (List Int))
  | 0, _, _ => none
  | k + 1, i48, l75 => (if i48 < (l0.length : Int) then (Option.bind (if 0 ≤ i48 then ((bZ K (dW (((l0.getD i48.toNat ab).Key).Hour))).bind fun x364 => (if (l75.length + x364.length) * 1 ≤ 140737488355328 then (Option.bind (dR K l0 a1 i48 K 0 (l75 ++ x364)) fun x371 => ((iK K ((l0.getD i48.toNat ab).Value)).bind fun x378 => (if (x371.length + x378.length) * 1 ≤ 140737488355328 then (some ((x371 ++ x378))) else none))) else none)) else none) fun x363 => (du K l0 a1 k (ba (i48 + 1)) x363)) else (some ((0, l75))))
def eR (K : Nat) (l0 : List aB) (a1 : Int) : Option (Int × (List Int)) := ((cS K l0 a1).bind fun x191 => (if ¬ (x191.1 = 0) then (some ((x191.1, ([] : List Int)))) else ((bZ K (dW (l0.length : Int))).bind fun x192 => (du K l0 a1 K 0 x192))))
def gu (K : Nat) (a0_0 : Int) (a0_1 : Int) (a0_2 : Int) (l0 : List aB) (a1 : Int) : Option (List Int) := ((bZ K (dW a0_0)).bind fun x5 => ((bZ K (dW a0_1)).bind fun x6 => (if (x5.length + x6.length) * 1 ≤ 140737488355328 then ((bZ K (dW a0_2)).bind fun x7 => (if ((x5 ++ x6).length + x7.length) * 1 ≤ 140737488355328 then ((eR K l0 a1).bind fun x8 => (if (((x5 ++ x6) ++ x7).length + x8.2.length) * 1 ≤ 140737488355328 then (some ((((x5 ++ x6) ++ x7) ++ x8.2))) else none)) else none)) else none)))
def jH (a0 : Int) : Int := (if (Int.tmod a0 2) = 1 then (lX .u32 (mK (Int.tdiv a0 2)) 3988292384) else (mK (Int.tdiv a0 2)))
def fB (K : Nat) : Nat → Int → Int → Option Int
  | 0, _, _ => none
  | k + 1, i71, i72 => (if i72 < 8 then (kJ (jH i71) fun x156 => (fB K k x156 (ba (i72 + 1)))) else (some (i71)))
def fy (K : Nat) (l0 : List Int) : Nat → Int → Int → Option Int
  | 0, _, _ => none
  | k + 1, i60, i61 => (if i61 < (l0.length : Int) then (Option.bind (if 0 ≤ i61 then (fB K K (lX .u32 i60 (mK (l0.getD i61.toNat 0))) 0) else none) fun x150 => (fy K l0 k x150 (ba (i61 + 1)))) else (some (mK (4294967295 - i60))))
def iz (K : Nat) (a0 : Int) (l0 : List Int) : Option Int := (fy K l0 K (mK (4294967295 - a0)) 0)
def iL (K : Nat) (l0 : List Int) : Option Int := ((iz K 0 l0).bind fun x2 => (some (x2)))
def iU (a0 : Int) : List Int := ([jB (Int.tmod a0 256), jB (Int.tmod (mK (Int.tdiv a0 256)) 256), jB (Int.tmod (mK (Int.tdiv a0 65536)) 256), jB (mK (Int.tdiv a0 16777216))])
def iF (K : Nat) (l0 : List Int) : Option (List Int) := (if (([] : List Int).length + l0.length) * 1 ≤ 140737488355328 then ((iL K l0).bind fun x3 => (kJ (iU x3) fun x4 => (if ((([] : List Int) ++ l0).length + x4.length) * 1 ≤ 140737488355328 then (some (((([] : List Int) ++ l0) ++ x4))) else none))) else none)
def gS (K : Nat) (l0 : List Int) : Option (List Int) := ((bZ K (dW (l0.length : Int))).bind fun x3 => ((iF K l0).bind fun x4 => (if (x3.length + x4.length) * 1 ≤ 140737488355328 then (some ((x3 ++ x4))) else none)))
def fQ (K : Nat) (a0_0 : Int) (a0_1 : Int) (a0_2 : Int) (l0 : List aB) (a1 : Int) : Option (Int × (List Int)) := ((eC K a0_0 a0_1 a0_2 l0 a1).bind fun x6 => (if (!x6) = true then (some ((1, ([] : List Int)))) else ((gu K a0_0 a0_1 a0_2 l0 a1).bind fun x7 => ((gS K x7).bind fun x8 => (some ((0, x8)))))))
def fa (K : Nat) (l0 : List aK) (a1 : Int) : Nat → Int → (List Int) → Option (Int × (List Int))
  | 0, _, _ => none
  | k + 1, i5, l5 => (if i5 < (l0.length : Int) then (if 0 ≤ i5 then ((fQ K ((l0.getD i5.toNat aj).Seq) ((l0.getD i5.toNat aj).Tick) ((l0.getD i5.toNat aj).Budget) ((l0.getD i5.toNat aj).Facts) a1).bind fun x24 => (if ¬ (x24.1 = 0) then (some ((x24.1, ([] : List Int)))) else (if (l5.length + x24.2.length) * 1 ≤ 140737488355328 then (fa K l0 a1 k (ba (i5 + 1)) (l5 ++ x24.2)) else none))) else none) else (some ((0, l5))))
def eF (K : Nat) (l0 : List aK) (a1 : Int) : Option (Int × (List Int)) := (fa K l0 a1 K 0 ([] : List Int))
def eL (K : Nat) (p0_0 : Int) (l0 : List aF) (p0_2 : Int) : Option Int := ((cx K p0_0 l0 p0_2).bind fun x6 => ((eF K x6 p0_0).bind fun x7 => (some ((x7.2.length : Int)))))
def ga (K : Nat) (p0_0 : Int) (l0 : List aI) (p0_2 : Int) (p1_0 : Int) (l1 : List aF) (p1_2 : Int) (a2 : Int) (a3 : Int) : Option Bool := ((hN K p0_0 l0 p0_2).bind fun x15 => ((ik x15).bind fun x16 => ((cx K p1_0 l1 p1_2).bind fun x17 => ((gm K x16 x17).bind fun x18 => (if x18 = true then ((iB K p0_0 l0 p0_2).bind fun x19 => ((fK K p1_0 l1 p1_2).bind fun x20 => ((gc K x19 x20).bind fun x21 => (if x21 = true then ((fE K p0_0 l0 p0_2 a2 a3).bind fun x22 => ((cO K p1_0 l1 p1_2 a2 a3).bind fun x23 => ((dU K x22 x23).bind fun x24 => (if x24 = true then ((hG K p0_0 l0 p0_2 a2 a3).bind fun x25 => ((cO K p1_0 l1 p1_2 a2 a3).bind fun x26 => (if (x25 == (decide (0 < (x26.length : Int)))) = true then ((jc K p0_0 l0 p0_2).bind fun x27 => ((eL K p1_0 l1 p1_2).bind fun x28 => (some ((x27 == x28))))) else (some (false))))) else (some (false)))))) else (some (false)))))) else (some (false)))))))
def ii (K : Nat) (p0_0 : Int) (l0 : List aI) (p0_2 : Int) (a1_0 : Int) (a1_1 : Int) (a1_2 : Int) (l1 : List aB) : Option (Int × (List aI) × Int) := ((jI K a1_0 a1_1 a1_2 l1 p0_0).bind fun x5 => (if (!x5) = true then (some ((1, l0, p0_2))) else (if a1_0 ≤ p0_2 then (some ((12, l0, p0_2))) else ((bz l1).bind fun x6 => (if (l0.length + 1) * 48 ≤ 140737488355328 then (some ((0, (l0 ++ [(⟨a1_0, a1_1, a1_2, x6⟩ : aI)]), a1_0))) else none)))))
def eb (K : Nat) (a1_0 : Int) (a1_1 : Int) (a1_2 : Int) (l1 : List aB) : Nat → Int → (List aF) → Option (Int × (List aF) × Int)
  | 0, _, _ => none
  | k + 1, i14, l12 => (if i14 < (l1.length : Int) then (if 0 ≤ i14 then (if (l12.length + [(⟨a1_0, a1_1, a1_2, (⟨(⟨((l1.getD i14.toNat ab).Key).Hour, ((l1.getD i14.toNat ab).Key).Dims_0, ((l1.getD i14.toNat ab).Key).Dims_1, ((l1.getD i14.toNat ab).Key).Dims_2, ((l1.getD i14.toNat ab).Key).Dims_3⟩ : bc), (l1.getD i14.toNat ab).Value⟩ : aB)⟩ : aF)].length) * 104 ≤ 140737488355328 then (eb K a1_0 a1_1 a1_2 l1 k (ba (i14 + 1)) (l12 ++ [(⟨a1_0, a1_1, a1_2, (⟨(⟨((l1.getD i14.toNat ab).Key).Hour, ((l1.getD i14.toNat ab).Key).Dims_0, ((l1.getD i14.toNat ab).Key).Dims_1, ((l1.getD i14.toNat ab).Key).Dims_2, ((l1.getD i14.toNat ab).Key).Dims_3⟩ : bc), (l1.getD i14.toNat ab).Value⟩ : aB)⟩ : aF)])) else none) else none) else (some ((0, l12, a1_0))))
def fY (K : Nat) (p0_0 : Int) (l0 : List aF) (p0_2 : Int) (a1_0 : Int) (a1_1 : Int) (a1_2 : Int) (l1 : List aB) : Option (Int × (List aF) × Int) := ((eC K a1_0 a1_1 a1_2 l1 p0_0).bind fun x8 => (if (!x8) = true then (some ((1, l0, p0_2))) else (if a1_0 ≤ p0_2 then (some ((12, l0, p0_2))) else (if (([] : List aF).length + l0.length) * 104 ≤ 140737488355328 then (eb K a1_0 a1_1 a1_2 l1 K 0 (([] : List aF) ++ l0)) else none))))
def dg (K : Nat) (l0 : List aF) (a1 : Int) (a2 : Int) : Nat → Int → (List aF) → Option (List aF)
  | 0, _, _ => none
  | k + 1, i4, l7 => (if i4 < (l0.length : Int) then (if 0 ≤ i4 then (if ((((l0.getD i4.toNat aa).F).Key).Hour) < a1 then (if (l7.length + [(⟨(l0.getD i4.toNat aa).Seq, (l0.getD i4.toNat aa).Tick, (l0.getD i4.toNat aa).Budget, (⟨(⟨(((l0.getD i4.toNat aa).F).Key).Hour, (((l0.getD i4.toNat aa).F).Key).Dims_0, (((l0.getD i4.toNat aa).F).Key).Dims_1, (((l0.getD i4.toNat aa).F).Key).Dims_2, (((l0.getD i4.toNat aa).F).Key).Dims_3⟩ : bc), ((l0.getD i4.toNat aa).F).Value⟩ : aB)⟩ : aF)].length) * 104 ≤ 140737488355328 then (dg K l0 a1 a2 k (ba (i4 + 1)) (l7 ++ [(⟨(l0.getD i4.toNat aa).Seq, (l0.getD i4.toNat aa).Tick, (l0.getD i4.toNat aa).Budget, (⟨(⟨(((l0.getD i4.toNat aa).F).Key).Hour, (((l0.getD i4.toNat aa).F).Key).Dims_0, (((l0.getD i4.toNat aa).F).Key).Dims_1, (((l0.getD i4.toNat aa).F).Key).Dims_2, (((l0.getD i4.toNat aa).F).Key).Dims_3⟩ : bc), ((l0.getD i4.toNat aa).F).Value⟩ : aB)⟩ : aF)])) else none) else (if a2 ≤ ((((l0.getD i4.toNat aa).F).Key).Hour) then (if (l7.length + [(⟨(l0.getD i4.toNat aa).Seq, (l0.getD i4.toNat aa).Tick, (l0.getD i4.toNat aa).Budget, (⟨(⟨(((l0.getD i4.toNat aa).F).Key).Hour, (((l0.getD i4.toNat aa).F).Key).Dims_0, (((l0.getD i4.toNat aa).F).Key).Dims_1, (((l0.getD i4.toNat aa).F).Key).Dims_2, (((l0.getD i4.toNat aa).F).Key).Dims_3⟩ : bc), ((l0.getD i4.toNat aa).F).Value⟩ : aB)⟩ : aF)].length) * 104 ≤ 140737488355328 then (dg K l0 a1 a2 k (ba (i4 + 1)) (l7 ++ [(⟨(l0.getD i4.toNat aa).Seq, (l0.getD i4.toNat aa).Tick, (l0.getD i4.toNat aa).Budget, (⟨(⟨(((l0.getD i4.toNat aa).F).Key).Hour, (((l0.getD i4.toNat aa).F).Key).Dims_0, (((l0.getD i4.toNat aa).F).Key).Dims_1, (((l0.getD i4.toNat aa).F).Key).Dims_2, (((l0.getD i4.toNat aa).F).Key).Dims_3⟩ : bc), ((l0.getD i4.toNat aa).F).Value⟩ : aB)⟩ : aF)])) else none) else (dg K l0 a1 a2 k (ba (i4 + 1)) l7))) else none) else (some (l7)))
def eX (K : Nat) (p0_0 : Int) (l0 : List aF) (p0_2 : Int) (a1 : Int) (a2 : Int) : Option ((List aF) × Int) := (Option.bind (dg K l0 a1 a2 K 0 ([] : List aF)) fun x2 => (some ((x2, ba ((l0.length : Int) - (x2.length : Int))))))
def jr (K : Nat) (a0 : Int) (a1_0 : Int) (a1_1 : List UInt8) (a1_2 : List UInt8) (a1_3 : List UInt8) (a1_4 : List UInt8) (a1_5 : Int) (l0 : List ah) (p3_0 : Int) : Option Bool := ((ez K l0 a1_0).bind fun x2 => (if a1_0 < p3_0 then (some (true)) else (if x2.2.2.2.2.2.2 = true then (some (decide (a0 ≤ x2.2.2.2.1))) else (some (false)))))
def gv (K : Nat) (a0_0 : Int) (a0_1 : List UInt8) (a0_2 : List UInt8) (a0_3 : List UInt8) (a0_4 : List UInt8) (a0_5 : Int) (l0 : List ah) (p4_0 : Int) (p5_0 : Int) (p5_1 : Int) (p5_2 : Int) (l1 : List aB) : Option Bool := ((jr K p5_0 a0_0 a0_1 a0_2 a0_3 a0_4 a0_5 l0 p4_0).bind fun x2 => (some (x2)))
def cg (K : Nat) (l0 : List aB) (l1 : List ah) (p4_0 : Int) (p5_0 : Int) (p5_1 : Int) (p5_2 : Int) (l2 : List aB) : Nat → Int → Option Int
  | 0, _ => none
  | k + 1, i5 => (if i5 < (l0.length : Int) then (if 0 ≤ i5 then ((gv K (((l0.getD i5.toNat ab).Key).Hour) (((l0.getD i5.toNat ab).Key).Dims_0) (((l0.getD i5.toNat ab).Key).Dims_1) (((l0.getD i5.toNat ab).Key).Dims_2) (((l0.getD i5.toNat ab).Key).Dims_3) ((l0.getD i5.toNat ab).Value) l1 p4_0 p5_0 p5_1 p5_2 l2).bind fun x24 => (if x24 = true then (some (i5)) else (cg K l0 l1 p4_0 p5_0 p5_1 p5_2 l2 k (ba (i5 + 1))))) else none) else (some ((-1))))
def cH (K : Nat) (l0 : List aB) (l1 : List ah) (p4_0 : Int) (p5_0 : Int) (p5_1 : Int) (p5_2 : Int) (l2 : List aB) : Option Int := (cg K l0 l1 p4_0 p5_0 p5_1 p5_2 l2 K 0)
def bW (K : Nat) (l1 : List ah) (p4_0 : Int) (p5_0 : Int) (p5_1 : Int) (p5_2 : Int) (l2 : List aB) : Nat → Int → Int → (List aB) → Option ((List aB) × Int)
  | 0, _, _, _ => none
  | k + 1, i10, i11, l9 => (if i11 < (l9.length : Int) then (if 0 ≤ i11 then ((gv K (((l9.getD i11.toNat ab).Key).Hour) (((l9.getD i11.toNat ab).Key).Dims_0) (((l9.getD i11.toNat ab).Key).Dims_1) (((l9.getD i11.toNat ab).Key).Dims_2) (((l9.getD i11.toNat ab).Key).Dims_3) ((l9.getD i11.toNat ab).Value) l1 p4_0 p5_0 p5_1 p5_2 l2).bind fun x28 => (if (!x28) = true then (if 0 ≤ i10 then (if i10 < (l9.length : Int) then (bW K l1 p4_0 p5_0 p5_1 p5_2 l2 k (ba (i10 + 1)) (ba (i11 + 1)) (l9.set i10.toNat (⟨(⟨((l9.getD i11.toNat ab).Key).Hour, ((l9.getD i11.toNat ab).Key).Dims_0, ((l9.getD i11.toNat ab).Key).Dims_1, ((l9.getD i11.toNat ab).Key).Dims_2, ((l9.getD i11.toNat ab).Key).Dims_3⟩ : bc), (l9.getD i11.toNat ab).Value⟩ : aB))) else none) else none) else (bW K l1 p4_0 p5_0 p5_1 p5_2 l2 k i10 (ba (i11 + 1)) l9))) else none) else (some ((l9, i10))))
def co (K : Nat) (l0 : List aB) (l1 : List ah) (p4_0 : Int) (p5_0 : Int) (p5_1 : Int) (p5_2 : Int) (l2 : List aB) : Option (List aB) := ((cH K l0 l1 p4_0 p5_0 p5_1 p5_2 l2).bind fun x15 => (if x15 = (-1) then (some (l0)) else (Option.bind (bW K l1 p4_0 p5_0 p5_1 p5_2 l2 K x15 (ba (x15 + 1)) l0) fun x22 => (if 0 ≤ x22.2 then (if x22.2 ≤ (x22.1.length : Int) then (if x22.2 ≤ ((x22.1.take x22.2.toNat ++ List.replicate (x22.1.length - x22.2.toNat) ab).length : Int) then (some (((x22.1.take x22.2.toNat ++ List.replicate (x22.1.length - x22.2.toNat) ab).take x22.2.toNat))) else none) else none) else none))))
def gH (K : Nat) (l0 : List aI) (l1 : List ah) (p4_0 : Int) : Nat → Int → Int → (List aI) → Option ((List aI) × Int)
  | 0, _, _, _ => none
  | k + 1, i10, i11, l8 => (if i11 < (l0.length : Int) then (if 0 ≤ i11 then ((bz ((l0.getD i11.toNat am).Facts)).bind fun x49 => ((co K x49 l1 p4_0 ((l0.getD i11.toNat am).Seq) ((l0.getD i11.toNat am).Tick) ((l0.getD i11.toNat am).Budget) ((l0.getD i11.toNat am).Facts)).bind fun x50 => (if 0 < (x50.length : Int) then (if (l8.length + 1) * 48 ≤ 140737488355328 then (gH K l0 l1 p4_0 k (ba (i10 + (ba ((((l0.getD i11.toNat am).Facts).length : Int) - (x50.length : Int))))) (ba (i11 + 1)) (l8 ++ [(⟨(l0.getD i11.toNat am).Seq, (l0.getD i11.toNat am).Tick, (l0.getD i11.toNat am).Budget, x50⟩ : aI)])) else none) else (gH K l0 l1 p4_0 k (ba (i10 + (ba ((((l0.getD i11.toNat am).Facts).length : Int) - (x50.length : Int))))) (ba (i11 + 1)) l8)))) else none) else (some ((l8, i10))))
def kb (K : Nat) (p0_0 : Int) (l0 : List aI) (p0_2 : Int) (l1 : List ah) (p4_0 : Int) : Option ((List aI) × Int) := (Option.bind (kJ (eG p0_0 l0 p0_2) fun u4 => (gH K l0 l1 p4_0 K 0 0 ([] : List aI))) fun x38 => (some ((x38.1, x38.2))))
def gp (K : Nat) (p0_0 : Int) (l0 : List aI) (p0_2 : Int) (l1 : List ah) (a2 : Int) : Option ((List aI) × Int) := ((kb K p0_0 l0 p0_2 l1 a2).bind fun x2 => (some ((x2.1, x2.2))))
def iJ (K : Nat) (a0_0 : Int) (a0_1 : Int) (a1 : Int) : Option Bool := ((db K a0_0 a0_1).bind fun x2 => (if x2.1 ≤ a1 then (some (decide (a1 < x2.2))) else (some (false))))
def gi (K : Nat) (l0 : List aE) (a1 : Int) : Nat → Int → Option (Int × Int × Int × Int × Int × Bool × Bool)
  | 0, _ => none
  | k + 1, i10 => (if i10 < (l0.length : Int) then (if 0 ≤ i10 then ((iJ K (((l0.getD i10.toNat bn).Part).Tier) (((l0.getD i10.toNat bn).Part).Index) a1).bind fun x24 => (if x24 = true then (some ((((l0.getD i10.toNat bn).Part).Tier, ((l0.getD i10.toNat bn).Part).Index, (l0.getD i10.toNat bn).Seg, (l0.getD i10.toNat bn).Mark, (l0.getD i10.toNat bn).Rows, (l0.getD i10.toNat bn).Cold, true))) else (gi K l0 a1 k (ba (i10 + 1))))) else none) else (some ((0, 0, 0, 0, 0, false, false))))
def iy (K : Nat) (l0 : List aE) (a1 : Int) : Option (Int × Int × Int × Int × Int × Bool × Bool) := (gi K l0 a1 K 0)
def dO (K : Nat) (l0 : List aF) (l1 : List aE) (a2 : Int) : Nat → Int → (List aF) → Option (List aF)
  | 0, _, _ => none
  | k + 1, i4, l18 => (if i4 < (l0.length : Int) then (Option.bind (if 0 ≤ i4 then ((iy K l1 ((((l0.getD i4.toNat aa).F).Key).Hour)).bind fun x38 => (if a2 ≤ ((((l0.getD i4.toNat aa).F).Key).Hour) then (if (!x38.2.2.2.2.2.2) = true then (if (l18.length + [(⟨(l0.getD i4.toNat aa).Seq, (l0.getD i4.toNat aa).Tick, (l0.getD i4.toNat aa).Budget, (⟨(⟨(((l0.getD i4.toNat aa).F).Key).Hour, (((l0.getD i4.toNat aa).F).Key).Dims_0, (((l0.getD i4.toNat aa).F).Key).Dims_1, (((l0.getD i4.toNat aa).F).Key).Dims_2, (((l0.getD i4.toNat aa).F).Key).Dims_3⟩ : bc), ((l0.getD i4.toNat aa).F).Value⟩ : aB)⟩ : aF)].length) * 104 ≤ 140737488355328 then (some ((l18 ++ [(⟨(l0.getD i4.toNat aa).Seq, (l0.getD i4.toNat aa).Tick, (l0.getD i4.toNat aa).Budget, (⟨(⟨(((l0.getD i4.toNat aa).F).Key).Hour, (((l0.getD i4.toNat aa).F).Key).Dims_0, (((l0.getD i4.toNat aa).F).Key).Dims_1, (((l0.getD i4.toNat aa).F).Key).Dims_2, (((l0.getD i4.toNat aa).F).Key).Dims_3⟩ : bc), ((l0.getD i4.toNat aa).F).Value⟩ : aB)⟩ : aF)]))) else none) else (if x38.2.2.2.1 < ((l0.getD i4.toNat aa).Seq) then (if (l18.length + [(⟨(l0.getD i4.toNat aa).Seq, (l0.getD i4.toNat aa).Tick, (l0.getD i4.toNat aa).Budget, (⟨(⟨(((l0.getD i4.toNat aa).F).Key).Hour, (((l0.getD i4.toNat aa).F).Key).Dims_0, (((l0.getD i4.toNat aa).F).Key).Dims_1, (((l0.getD i4.toNat aa).F).Key).Dims_2, (((l0.getD i4.toNat aa).F).Key).Dims_3⟩ : bc), ((l0.getD i4.toNat aa).F).Value⟩ : aB)⟩ : aF)].length) * 104 ≤ 140737488355328 then (some ((l18 ++ [(⟨(l0.getD i4.toNat aa).Seq, (l0.getD i4.toNat aa).Tick, (l0.getD i4.toNat aa).Budget, (⟨(⟨(((l0.getD i4.toNat aa).F).Key).Hour, (((l0.getD i4.toNat aa).F).Key).Dims_0, (((l0.getD i4.toNat aa).F).Key).Dims_1, (((l0.getD i4.toNat aa).F).Key).Dims_2, (((l0.getD i4.toNat aa).F).Key).Dims_3⟩ : bc), ((l0.getD i4.toNat aa).F).Value⟩ : aB)⟩ : aF)]))) else none) else (some (l18)))) else (some (l18)))) else none) fun x37 => (dO K l0 l1 a2 k (ba (i4 + 1)) x37)) else (some (l18)))
def eM (K : Nat) (p0_0 : Int) (l0 : List aF) (p0_2 : Int) (l1 : List aE) (a2 : Int) : Option ((List aF) × Int) := (Option.bind (dO K l0 l1 a2 K 0 ([] : List aF)) fun x29 => (some ((x29, ba ((l0.length : Int) - (x29.length : Int))))))
def fT (K : Nat) (p0_0 : Int) (l0 : List aI) (p0_2 : Int) (p1_0 : Int) (l1 : List aF) (p1_2 : Int) (a2_0 : Int) (a2_1 : Int) (a2_2 : Int) (a2_3 : Int) (l2 : List aB) (a2_5 : Int) (a2_6 : Int) (l3 : List aE) : Option (Bool × (List aI) × Int × (List aF) × Int) := (if a2_0 = 0 then (kJ (iH a2_1 a2_2 a2_3 l2) fun x29 => ((ii K p0_0 l0 p0_2 x29.1 x29.2.1 x29.2.2 l2).bind fun x30 => ((fY K p1_0 l1 p1_2 a2_1 a2_2 a2_3 l2).bind fun x31 => (some (((x30.1 == x31.1), x30.2.1, x30.2.2, x31.2.1, x31.2.2)))))) else (if a2_0 = 1 then ((fC K p0_0 l0 p0_2 a2_5 a2_6).bind fun x32 => ((eX K p1_0 l1 p1_2 a2_5 a2_6).bind fun x33 => (some (((x32.2 == x33.2), x32.1, p0_2, x33.1, p1_2))))) else (kJ (mc) fun u2 => ((ep K l3).bind fun x35 => (if ¬ (x35.1 = 0) then (some ((true, l0, p0_2, l1, p1_2))) else ((fx K l3).bind fun x36 => ((gp K p0_0 l0 p0_2 x35.2 a2_5).bind fun x37 => ((eM K p1_0 l1 p1_2 x36.2 a2_5).bind fun x38 => (some (((x37.2 == x38.2), x37.1, p0_2, x38.1, p1_2)))))))))))
def eK (K : Nat) (l1 : List fb) (a2 : Int) (a3 : Int) (x44 : Int) (x45 : Int) : Nat → Int → (List aI) → Int → (List aF) → Int → Option Bool
  | 0, _, _, _, _, _ => none
  | k + 1, i11, l8, i12, l9, i13 => (if i11 < (l1.length : Int) then (if 0 ≤ i11 then ((fT K x44 l8 i12 x45 l9 i13 ((l1.getD i11.toNat bb).Kind) (((l1.getD i11.toNat bb).B).Seq) (((l1.getD i11.toNat bb).B).Tick) (((l1.getD i11.toNat bb).B).Budget) ((((l1.getD i11.toNat bb).B).Facts).xs) ((l1.getD i11.toNat bb).From) ((l1.getD i11.toNat bb).To) (((l1.getD i11.toNat bb).Put).xs)).bind fun x68 => (if (!x68.1) = true then (some (false)) else ((ga K x44 x68.2.1 x68.2.2.1 x45 x68.2.2.2.1 x68.2.2.2.2 a2 a3).bind fun x69 => (if (!x69) = true then (some (false)) else (eK K l1 a2 a3 x44 x45 k (ba (i11 + 1)) x68.2.1 x68.2.2.1 x68.2.2.2.1 x68.2.2.2.2))))) else none) else ((dI K).bind fun x70 => (some (x70))))
def gJ (K : Nat) (a0 : Int) (l1 : List fb) (a2 : Int) (a3 : Int) : Option Bool := ((gn K l1).bind fun x38 => (if (!x38) = true then ((dI K).bind fun x39 => (some (x39))) else (if a0 < 1 then (kJ (mS a0) fun u5 => (kJ (jX a0) fun u6 => ((dI K).bind fun x41 => (some (x41))))) else (if 4 < a0 then (kJ (mY a0) fun u7 => (kJ (jy a0) fun u9 => ((dI K).bind fun x43 => (some (x43))))) else (kJ (mt a0) fun x44 => (kJ (iI a0) fun x45 => (eK K l1 a2 a3 x44 x45 K 0 ([] : List aI) 0 ([] : List aF) 0)))))))
end Go.Proofs.YtmgpegiekankmaaGreat.MemPlays
end
section
set_option linter.unusedVariables false
namespace Go.Proofs.YtmgpegiekankmaaGreat.E
open Go
section
variable {r : Option Nat} {P : Program} {n : Nat} {w0 : World} {F L L' : List HP} {ρ ρ' : kf} {Q : Exit → Act → World → Prop} {ops : Array Oper} {rest : List Oper} {d : Nat} {v : Value} {ty : TypeId} {pos : String} {after : Array Edge} {op : Op}
theorem vM {x : Operand} (hx : ev ρ x = some v) (hd : Nat.blt d n = true) (k : cB (St n w0 F ((d, v) :: ρ) L) (wpListIn (Wd r) 0 P ops Q rest)) : cB (St n w0 F ρ L) (wpListIn (Wd r) 0 P ops Q (⟨some d, .move x, ty, pos, after, none⟩ :: rest)) := pV (aL hx) rfl rfl hd k
theorem vA {x : Operand} (hx : ev ρ x = some v) (hd : Nat.blt d n = true) (k : cB (St n w0 F ((d, v) :: ρ) L) (wpListIn (Wd r) 0 P ops Q rest)) : cB (St n w0 F ρ L) (wpListIn (Wd r) 0 P ops Q (⟨some d, .assign x, ty, pos, after, none⟩ :: rest)) := pV (cY hx) rfl rfl hd k
theorem vV (h : OV P ⟨some d, op, ty, pos, after, none⟩ ρ L v) (hd : Nat.blt d n = true) (k : cB (St n w0 F ((d, v) :: ρ) L) (wpListIn (Wd r) 0 P ops Q rest)) : cB (St n w0 F ρ L) (wpListIn (Wd r) 0 P ops Q (⟨some d, op, ty, pos, after, none⟩ :: rest)) := pV h rfl rfl hd k
def rN : List Nat → Bool
  | [] => true
  | x :: l => l.all (fun y => !Nat.beq x y) && rN l
theorem ru : ∀ {l : List Nat}, rN l = true → l.Nodup
  | [], _ => List.nodup_nil
  | x :: l, h => by
    simp only [rN, Bool.and_eq_true, List.all_eq_true, Bool.not_eq_true'] at h
    rw [List.nodup_cons]
    refine ⟨fun hx => ?_, ru h.2⟩
    exact Nat.ne_of_beq_eq_false (h.1 x hx) rfl
theorem vF {X : Act → World → Prop} (σ : List Nat) (hn : rN σ = true) (hp : pick L σ = some L') (hs : sub ρ' ρ) (hx : ∀ a w, St n w0 F ρ' L' a w → X a w) : cB (St n w0 F ρ L) X := AX σ (ru hn) hp hs hx
theorem vP {X : Act → World → Prop} (σ : List Nat) (hn : rN σ = true) (hp : pick L σ = some L') (k : cB (St n w0 F ρ L') X) : cB (St n w0 F ρ L) X := uc σ (ru hn) hp k
def BT (ρ : kf) : List Nat → Option kf
  | [] => some []
  | t :: ts => match jz ρ t, BT ρ ts with
    | some v, some e => some ((t, v) :: e)
    | _, _ => none
theorem vS : ∀ (ts : List Nat) {ρ' : kf}, BT ρ ts = some ρ' → sub ρ' ρ
  | [], ρ', h => by cases h; exact Bc _
  | t :: ts, ρ', h => by
    simp only [BT] at h
    split at h
    · rename_i v e hv he
      cases h
      exact Ab hv (vS ts he)
    · cases h
theorem dT {p : Prop} [Decidable p] (h : p) : decide p = true := decide_eq_true h
theorem dF {p : Prop} [Decidable p] (h : ¬ p) : decide p = false := decide_eq_false h
theorem bF {b : Bool} (h : ¬ b = true) : b = false := Bool.eq_false_iff.2 h
theorem oB {α β : Type} {o : Option α} {f : α → Option β} {b : β} (h : o.bind f = some b) : ∃ a, o = some a ∧ f a = some b := Option.bind_eq_some_iff.1 h
theorem nL {a b : Nat} (h : Nat.ble a b = true) : a ≤ b := Nat.le_of_ble_eq_true h
end
section
variable {r : Option Nat} {P : Program} {n : Nat} {w0 : World} {F L : List HP} {ρ ρ' : kf} {Q : Exit → Act → World → Prop} {ops : Array Oper} {done : Nat → Bool} {T : List (Nat × Nat × Value)} {a : Act} {i j t : Nat} {v : Value} {o : Oper}
theorem hD (k : Nat) (hc : nh ops (up done i)) (hk : T[k]? = some (j, t, v)) (ho : ops[i]? = some o) (hne : Nat.beq j i = false) (he : (o.after.toList.any fun e => Region.binds .any e && Nat.beq e.on j) = true) (h : mF a ρ T done → kV a ρ') : mF a ρ T done → kV a ((t, v) :: ρ') := ap hk (aX hc ho (Nat.ne_of_beq_eq_false hne) he) h
theorem zu : ∀ {T : List (Nat × Nat × Value)}, (∀ e ∈ T, done e.1 = true) → rn a done T → kV a ρ → kV a (T.map (fun e => (e.2.1, e.2.2)) ++ ρ)
  | [], _, _, h => h
  | (i, t, v) :: T, hd, hA, h => by
    intro s u hu
    simp only [List.map_cons, List.cons_append, jz] at hu
    split at hu
    · rename_i e
      subst e
      cases hu
      exact hA.1 (hd _ List.mem_cons_self)
    · exact zu (fun e he => hd e (List.mem_cons_of_mem _ he)) hA.2 h s u hu
theorem hL {m : Nat} (hall : ∀ i, i < m → done i = true) (hT : (T.all fun e => Nat.blt e.1 m) = true) (a : Act) : mF a ρ T done → kV a (T.map (fun e => (e.2.1, e.2.2)) ++ ρ) := fun h =>
  zu (fun e he => hall _ (by have := List.all_eq_true.1 hT e he; simpa [Nat.blt_eq] using this)) h.2 h.1
theorem dV (k0 : Nat) {ρi : kf} (hk : T[k0]? = some (i, t, v)) (ho : ops[i]? = some o) (hg : o.guard = none) (hdst : o.dst = some t) (hρ : ∀ a, mF a ρ T done → kV a ρi) (hv : OV P o ρi L v) (ht : Nat.blt t n = true) (hn : jz ρ t = none) (h1 : tg i t T = true) (h2 : si T = true) :
    cB (kH n w0 F ρ T done L) fun a w => wpOpIn (Wd r) 0 P ops Q i (kH n w0 F ρ T (up done i) L) a w := aY ho hdst (bx hg) hρ hv ht hn (rL h1 hk h2)
theorem oT (k0 : Nat) (h : tg i t T = true) (h0 : T[k0]? = some (i, t, v)) (hinc : si T = true) : ∀ (k : Nat) (e : Nat × Nat × Value), T[k]? = some e → (e.1 = i ∧ e.2.1 = t ∧ e.2.2 = v) ∨ (e.1 ≠ i ∧ e.2.1 ≠ t) := rL h h0 hinc
end
section
variable {n : Nat} {w0 : World} {F L : List HP} {ρ : kf}
theorem CB {id : Nat} {Φ : Option Code → List HP → Prop} (h : Φ none L) : cB (St n w0 F ρ L) (Exit.inBlock id (qc w0 F Φ) .normal) := fun a w hs => mB (Φ := Φ) h a w hs
theorem Cx {id id2 : Nat} {Φ : Option Code → List HP → Prop} (h : Φ none L) : cB (St n w0 F ρ L) (Exit.inBlock id (Exit.inBlock id2 (qc w0 F Φ)) .normal) := fun a w hs => mB (Φ := Φ) h a w hs
end
end Go.Proofs.YtmgpegiekankmaaGreat.E
end
section
set_option linter.unusedVariables false
set_option linter.unusedSimpArgs false
set_option maxHeartbeats 8000000
set_option maxRecDepth 100000
namespace Go.Proofs.YtmgpegiekankmaaGreat.MemPlays
open Go Go.RowKit E
open Go.Value (int bool slice agg)
def aC (x : aB) : List Value := [(Value.int .i64 x.Key.Hour), (cW x.Key.Dims_0), (cW x.Key.Dims_1), (cW x.Key.Dims_2), (cW x.Key.Dims_3), (Value.int .i64 x.Value)]
theorem kc (x : aB) : (aC x).all (·.oneCell') = true := rfl
theorem bH (x : aB) : (aC x).length = 6 := rfl
def jg (x : cM) : List Value := [(Value.int .i64 x.Seq), (Value.int .i64 x.Tick), (Value.int .i64 x.Budget), x.Facts.v]
theorem kQ (x : cM) : (jg x).length = 4 := rfl
def aZ (x : aE) : List Value := [(Value.int .i64 x.Part.Tier), (Value.int .i64 x.Part.Index), (Value.int .i64 x.Seg), (Value.int .i64 x.Mark), (Value.int .i64 x.Rows), (Value.bool x.Cold)]
theorem jK (x : aE) : (aZ x).all (·.oneCell') = true := rfl
theorem eE (x : aE) : (aZ x).length = 6 := rfl
def jD (x : fb) : List Value := [(Value.int .i64 x.Kind), (Value.int .i64 x.B.Seq), (Value.int .i64 x.B.Tick), (Value.int .i64 x.B.Budget), x.B.Facts.v, (Value.int .i64 x.From), (Value.int .i64 x.To), x.Put.v]
theorem gM (x : fb) : (jD x).length = 8 := rfl
def al (x : aI) (v : Value) : List Value := [(Value.int .i64 x.Seq), (Value.int .i64 x.Tick), (Value.int .i64 x.Budget), v]
theorem dC (x : aI) (v : Value) : (al x v).length = 4 := rfl
theorem jL (x : aI) (v : Value) (h : v.oneCell' = true) : ∀ u ∈ al x v, u.oneCell' = true := List.all_eq_true.1 (by simp only [al, List.all_cons, List.all_nil, h, Bool.and_true]; rfl)
def an (x : aI) : Nat := x.Facts.length
def ao (x : aI) : List Value := fl aC x.Facts
def ak (x : aF) : List Value := [(Value.int .i64 x.Seq), (Value.int .i64 x.Tick), (Value.int .i64 x.Budget), (Value.int .i64 x.F.Key.Hour), (cW x.F.Key.Dims_0), (cW x.F.Key.Dims_1), (cW x.F.Key.Dims_2), (cW x.F.Key.Dims_3), (Value.int .i64 x.F.Value)]
theorem fJ (x : aF) : (ak x).all (·.oneCell') = true := rfl
theorem bJ (x : aF) : (ak x).length = 9 := rfl
def ac (x : ah) : List Value := [(Value.int .i64 x.k), (Value.int .i64 x.v.Part.Tier), (Value.int .i64 x.v.Part.Index), (Value.int .i64 x.v.Seg), (Value.int .i64 x.v.Mark), (Value.int .i64 x.v.Rows), (Value.bool x.v.Cold)]
theorem dm (x : ah) : (ac x).all (·.oneCell') = true := rfl
theorem bj (x : ah) : (ac x).length = 7 := rfl
def ar (x : aK) (v : Value) : List Value := [(Value.int .i64 x.Seq), (Value.int .i64 x.Tick), (Value.int .i64 x.Budget), v]
theorem aR (x : aK) (v : Value) : (ar x v).length = 4 := rfl
theorem jj (x : aK) (v : Value) (h : v.oneCell' = true) : ∀ u ∈ ar x v, u.oneCell' = true := List.all_eq_true.1 (by simp only [ar, List.all_cons, List.all_nil, h, Bool.and_true]; rfl)
def av (x : aK) : Nat := x.Facts.length
def aw (x : aK) : List Value := fl aC x.Facts
theorem lR : fS Tryz.prog 22 = some 38 := by kernel_rfl
theorem oh : dK Tryz.prog 38 = some 8 := by kernel_rfl
theorem ni : ek Tryz.prog 38 1 = some (1, 35) := by kernel_rfl
theorem cz : dK Tryz.prog 35 = some 4 := by kernel_rfl
theorem mH : kF Tryz.prog 35 = some true := by kernel_rfl
theorem cu : fS Tryz.prog 79 = some 35 := by kernel_rfl
theorem jY : iS Tryz.prog 35 = some [(Value.int .i64 0), (Value.int .i64 0), (Value.int .i64 0), (Value.slice none 0 0)] := by kernel_rfl
theorem ig : ek Tryz.prog 35 3 = some (3, 33) := by kernel_rfl
theorem cJ : dK Tryz.prog 33 = some 1 := by kernel_rfl
theorem fm : kF Tryz.prog 33 = some false := by kernel_rfl
theorem bA : fS Tryz.prog 33 = some 87 := by kernel_rfl
theorem bG : dK Tryz.prog 87 = some 6 := by kernel_rfl
theorem de : ek Tryz.prog 87 0 = some (0, 85) := by kernel_rfl
theorem ey : dK Tryz.prog 85 = some 5 := by kernel_rfl
theorem kS : ek Tryz.prog 85 1 = some (1, 83) := by kernel_rfl
theorem kX : dK Tryz.prog 83 = some 4 := by kernel_rfl
theorem lk : np Tryz.prog 83 = some (4, 9) := by kernel_rfl
theorem md : dK Tryz.prog 9 = some 1 := by kernel_rfl
theorem kG : kF Tryz.prog 9 = some false := by kernel_rfl
theorem yQ : bY Tryz.prog 76 = true := by kernel_rfl
theorem yE : bY Tryz.prog 31 = true := by kernel_rfl
theorem nq : ek Tryz.prog 38 4 = some (7, 36) := by kernel_rfl
theorem lu : dK Tryz.prog 36 = some 1 := by kernel_rfl
theorem lG : kF Tryz.prog 36 = some false := by kernel_rfl
theorem dX : fS Tryz.prog 36 = some 74 := by kernel_rfl
theorem Ak : bY Tryz.prog 8 = true := by kernel_rfl
theorem so : iS Tryz.prog 93 = some [(Value.int .i64 0), (Value.slice none 0 0), (Value.int .i64 0)] := by kernel_rfl
theorem qi : jW Tryz.prog 93 = some [(0, 1), (1, 1), (2, 1)] := by kernel_rfl
theorem oa : bY Tryz.prog 10 = true := by kernel_rfl
theorem sw : iS Tryz.prog 85 = some [(Value.int .i64 0), (cW ([] : List UInt8)), (cW ([] : List UInt8)), (cW ([] : List UInt8)), (cW ([] : List UInt8))] := by kernel_rfl
theorem qo : jW Tryz.prog 85 = some [(0, 1), (1, 4)] := by kernel_rfl
theorem fM : iS Tryz.prog 87 = some [(Value.int .i64 0), (cW ([] : List UInt8)), (cW ([] : List UInt8)), (cW ([] : List UInt8)), (cW ([] : List UInt8)), (Value.int .i64 0)] := by kernel_rfl
theorem qm : jW Tryz.prog 87 = some [(0, 5), (5, 1)] := by kernel_rfl
theorem mN : jW Tryz.prog 35 = some [(0, 1), (1, 1), (2, 1), (3, 1)] := by kernel_rfl
theorem gw : iS Tryz.prog 81 = some [(Value.int .i64 0), (Value.int .i64 0), (Value.int .i64 0), (Value.slice none 0 0)] := by kernel_rfl
theorem eU : ek Tryz.prog 35 0 = some (0, 2) := by kernel_rfl
theorem bd : dK Tryz.prog 2 = some 1 := by kernel_rfl
theorem bl : kF Tryz.prog 2 = some false := by kernel_rfl
theorem im : ek Tryz.prog 35 1 = some (1, 2) := by kernel_rfl
theorem ji : ek Tryz.prog 35 2 = some (2, 2) := by kernel_rfl
theorem qn : jW Tryz.prog 81 = some [(0, 1), (1, 1), (2, 1), (3, 1)] := by kernel_rfl
theorem cA : dK Tryz.prog 81 = some 4 := by kernel_rfl
theorem jd : kF Tryz.prog 81 = some true := by kernel_rfl
theorem sp : bY Tryz.prog 33 = true := by kernel_rfl
theorem nu : ek Tryz.prog 93 0 = some (0, 3) := by kernel_rfl
theorem jx : dK Tryz.prog 3 = some 1 := by kernel_rfl
theorem jG : kF Tryz.prog 3 = some false := by kernel_rfl
theorem dv : ek Tryz.prog 81 3 = some (3, 33) := by kernel_rfl
theorem rP : bY Tryz.prog 158 = true := by kernel_rfl
theorem gz : kF Tryz.prog 87 = some true := by kernel_rfl
theorem eH : ek Tryz.prog 85 0 = some (0, 2) := by kernel_rfl
theorem kU : ek Tryz.prog 87 1 = some (5, 2) := by kernel_rfl
theorem qO : kF Tryz.prog 83 = some true := by kernel_rfl
theorem wj : bY Tryz.prog 159 = true := by kernel_rfl
theorem oW : bY Tryz.prog 120 = true := by kernel_rfl
theorem iM : ek Tryz.prog 81 0 = some (0, 2) := by kernel_rfl
theorem mp : ek Tryz.prog 81 1 = some (1, 2) := by kernel_rfl
theorem ml : ek Tryz.prog 81 2 = some (2, 2) := by kernel_rfl
theorem qQ : bY Tryz.prog 121 = true := by kernel_rfl
theorem qh : bY Tryz.prog 77 = true := by kernel_rfl
theorem mr : ek Tryz.prog 93 2 = some (2, 2) := by kernel_rfl
theorem mz : jP Tryz.prog 87 = some 80 := by kernel_rfl
theorem mX : bY Tryz.prog 78 = true := by kernel_rfl
theorem jE : ek Tryz.prog 93 1 = some (1, 91) := by kernel_rfl
theorem jC : dK Tryz.prog 91 = some 1 := by kernel_rfl
theorem pj : kF Tryz.prog 91 = some false := by kernel_rfl
theorem dH : fS Tryz.prog 91 = some 81 := by kernel_rfl
theorem mC : jP Tryz.prog 81 = some 48 := by kernel_rfl
theorem sU : bY Tryz.prog 32 = true := by kernel_rfl
theorem nX : bY Tryz.prog 91 = true := by kernel_rfl
theorem za : bY Tryz.prog 93 = true := by kernel_rfl
theorem pQ : bY Tryz.prog 51 = true := by kernel_rfl
theorem dk : fS Tryz.prog 44 = some 2 := by kernel_rfl
theorem kv : iS Tryz.prog 2 = some [(Value.int .i64 0)] := by kernel_rfl
theorem lQ : jP Tryz.prog 2 = some 8 := by kernel_rfl
theorem vN : bY Tryz.prog 122 = true := by kernel_rfl
theorem wG : bY Tryz.prog 123 = true := by kernel_rfl
theorem yM : bY Tryz.prog 79 = true := by kernel_rfl
theorem sS : bY Tryz.prog 34 = true := by kernel_rfl
theorem ta : kF Tryz.prog 148 = some false := by kernel_rfl
theorem yV : bY Tryz.prog 81 = true := by kernel_rfl
theorem nj : bY Tryz.prog 125 = true := by kernel_rfl
theorem rj : bY Tryz.prog 161 = true := by kernel_rfl
theorem re : bY Tryz.prog 124 = true := by kernel_rfl
theorem sW : bY Tryz.prog 80 = true := by kernel_rfl
theorem sr : bY Tryz.prog 35 = true := by kernel_rfl
theorem pS : bY Tryz.prog 36 = true := by kernel_rfl
theorem pA : bY Tryz.prog 9 = true := by kernel_rfl
theorem pU : bY Tryz.prog 11 = true := by kernel_rfl
theorem yj : iS Tryz.prog 96 = some [(Value.int .i64 0), (Value.slice none 0 0), (Value.int .i64 0)] := by kernel_rfl
theorem uU : jW Tryz.prog 96 = some [(0, 1), (1, 1), (2, 1)] := by kernel_rfl
theorem zx : kF Tryz.prog 38 = some true := by kernel_rfl
theorem tR : ek Tryz.prog 38 0 = some (0, 3) := by kernel_rfl
theorem pm : ek Tryz.prog 96 0 = some (0, 3) := by kernel_rfl
theorem vQ : bY Tryz.prog 162 = true := by kernel_rfl
theorem ry : bY Tryz.prog 126 = true := by kernel_rfl
theorem oA : bY Tryz.prog 127 = true := by kernel_rfl
theorem sO : bY Tryz.prog 82 = true := by kernel_rfl
theorem pe : ek Tryz.prog 96 2 = some (2, 2) := by kernel_rfl
theorem cV : fS Tryz.prog 94 = some 151 := by kernel_rfl
theorem dj : dK Tryz.prog 151 = some 9 := by kernel_rfl
theorem ip : iS Tryz.prog 151 = some [(Value.int .i64 0), (Value.int .i64 0), (Value.int .i64 0), (Value.int .i64 0), (cW ([] : List UInt8)), (cW ([] : List UInt8)), (cW ([] : List UInt8)), (cW ([] : List UInt8)), (Value.int .i64 0)] := by kernel_rfl
theorem dn : ek Tryz.prog 96 1 = some (1, 94) := by kernel_rfl
theorem ed : dK Tryz.prog 94 = some 1 := by kernel_rfl
theorem iE : kF Tryz.prog 94 = some false := by kernel_rfl
theorem lx : jP Tryz.prog 151 = some 104 := by kernel_rfl
theorem tv : jW Tryz.prog 151 = some [(0, 1), (1, 1), (2, 1), (3, 6)] := by kernel_rfl
theorem yi : bY Tryz.prog 37 = true := by kernel_rfl
theorem mj : ek Tryz.prog 38 2 = some (5, 2) := by kernel_rfl
theorem pB : ek Tryz.prog 38 3 = some (6, 2) := by kernel_rfl
theorem yr : bY Tryz.prog 38 = true := by kernel_rfl
theorem wy : iS Tryz.prog 199 = some [(Value.slice none 0 0)] := by kernel_rfl
theorem tt : jW Tryz.prog 199 = some [(0, 1)] := by kernel_rfl
theorem th : bY Tryz.prog 83 = true := by kernel_rfl
theorem rV : iS Tryz.prog 155 = some [(Value.pointer none)] := by kernel_rfl
theorem pI : jW Tryz.prog 155 = some [(0, 1)] := by kernel_rfl
theorem yf : bY Tryz.prog 39 = true := by kernel_rfl
theorem wl : iS Tryz.prog 102 = some [(Value.slice none 0 0), (Value.slice none 0 0)] := by kernel_rfl
theorem tN : jW Tryz.prog 102 = some [(0, 1), (1, 1)] := by kernel_rfl
theorem ky : ek Tryz.prog 155 0 = some (0, 152) := by kernel_rfl
theorem kO : dK Tryz.prog 152 = some 1 := by kernel_rfl
theorem iW : kF Tryz.prog 152 = some false := by kernel_rfl
theorem vz : iS Tryz.prog 152 = some [(Value.pointer none)] := by kernel_rfl
theorem fk : ek Tryz.prog 199 0 = some (0, 197) := by kernel_rfl
theorem gB : dK Tryz.prog 197 = some 1 := by kernel_rfl
theorem iX : kF Tryz.prog 197 = some false := by kernel_rfl
theorem oJ : bY Tryz.prog 177 = true := by kernel_rfl
theorem vq : bY Tryz.prog 146 = true := by kernel_rfl
theorem fN : iS Tryz.prog 74 = some [(Value.int .i64 0), (Value.int .i64 0), (Value.int .i64 0), (Value.int .i64 0), (Value.int .i64 0), (Value.bool false)] := by kernel_rfl
theorem bR : dK Tryz.prog 74 = some 6 := by kernel_rfl
theorem fW : kF Tryz.prog 74 = some true := by kernel_rfl
theorem kM : iS Tryz.prog 204 = some [(Value.int .i64 0), (Value.int .i64 0), (Value.int .i64 0), (Value.int .i64 0), (Value.int .i64 0), (Value.int .i64 0), (Value.bool false)] := by kernel_rfl
theorem pg : jW Tryz.prog 204 = some [(0, 1), (1, 6)] := by kernel_rfl
theorem cq : fS Tryz.prog 197 = some 204 := by kernel_rfl
theorem df : dK Tryz.prog 204 = some 7 := by kernel_rfl
theorem nR : jP Tryz.prog 204 = some 56 := by kernel_rfl
theorem vG : bY Tryz.prog 128 = true := by kernel_rfl
theorem xK : bY Tryz.prog 84 = true := by kernel_rfl
theorem sd : ek Tryz.prog 102 0 = some (0, 100) := by kernel_rfl
theorem vZ : dK Tryz.prog 100 = some 1 := by kernel_rfl
theorem yT : kF Tryz.prog 100 = some false := by kernel_rfl
theorem qp : fS Tryz.prog 100 = some 56 := by kernel_rfl
theorem se : ek Tryz.prog 102 1 = some (1, 36) := by kernel_rfl
theorem hQ : ek Tryz.prog 74 0 = some (0, 56) := by kernel_rfl
theorem cd : dK Tryz.prog 56 = some 2 := by kernel_rfl
theorem dQ : kF Tryz.prog 56 = some true := by kernel_rfl
theorem jh : ek Tryz.prog 56 0 = some (0, 3) := by kernel_rfl
theorem mu : iS Tryz.prog 56 = some [(Value.int .i64 0), (Value.int .i64 0)] := by kernel_rfl
theorem nM : jW Tryz.prog 56 = some [(0, 1), (1, 1)] := by kernel_rfl
theorem sG : bY Tryz.prog 97 = true := by kernel_rfl
theorem wr : bY Tryz.prog 139 = true := by kernel_rfl
theorem xQ : bY Tryz.prog 98 = true := by kernel_rfl
theorem sH : bY Tryz.prog 57 = true := by kernel_rfl
theorem fX : ek Tryz.prog 56 1 = some (1, 2) := by kernel_rfl
theorem rD : bY Tryz.prog 116 = true := by kernel_rfl
theorem pd : ek Tryz.prog 74 1 = some (2, 2) := by kernel_rfl
theorem oN : bY Tryz.prog 165 = true := by kernel_rfl
theorem pi : ek Tryz.prog 74 3 = some (4, 2) := by kernel_rfl
theorem mq : ek Tryz.prog 74 2 = some (3, 2) := by kernel_rfl
theorem po : ek Tryz.prog 74 4 = some (5, 4) := by kernel_rfl
theorem uG : dK Tryz.prog 4 = some 1 := by kernel_rfl
theorem xD : kF Tryz.prog 4 = some false := by kernel_rfl
theorem vv : bY Tryz.prog 131 = true := by kernel_rfl
theorem wU : bY Tryz.prog 157 = true := by kernel_rfl
theorem qZ : bY Tryz.prog 156 = true := by kernel_rfl
theorem vO : bY Tryz.prog 119 = true := by kernel_rfl
theorem sI : bY Tryz.prog 75 = true := by kernel_rfl
theorem yh : iS Tryz.prog 36 = some [(Value.slice none 0 0)] := by kernel_rfl
theorem lU : ek Tryz.prog 204 0 = some (0, 2) := by kernel_rfl
theorem wE : bY Tryz.prog 164 = true := by kernel_rfl
theorem vk : bY Tryz.prog 163 = true := by kernel_rfl
theorem nD : bY Tryz.prog 129 = true := by kernel_rfl
theorem mP : ek Tryz.prog 204 1 = some (1, 74) := by kernel_rfl
theorem ww : bY Tryz.prog 102 = true := by kernel_rfl
theorem nK : jW Tryz.prog 74 = some [(0, 2), (2, 1), (3, 1), (4, 1), (5, 1)] := by kernel_rfl
theorem wK : Tryz.prog.eqGuardType Tryz.prog.depth 56 = false := by kernel_rfl
theorem AA {x y : Operand} (x0 : Int) (x1 : Int) (y0 : Int) (y1 : Int) (w : World) : (do eqGuard .eql 56 x y (.agg #[(Value.int .i64 x0), (Value.int .i64 x1)]) (.agg #[(Value.int .i64 y0), (Value.int .i64 y1)]); binOp .eql 56 (.agg #[(Value.int .i64 x0), (Value.int .i64 x1)]) (.agg #[(Value.int .i64 y0), (Value.int .i64 y1)])).run Tryz.prog w = .ok (.bool ((x0 == y0) && ((x1 == y1) && true))) w :=
  yW wK (qf Tryz.underlying56 (by kernel_rfl) (mR rfl (gZ jG rfl) (gZ jG rfl) (tM Tryz.underlying3 _ _) (mR rfl (gZ bl rfl) (gZ bl rfl) (tM Tryz.underlying2 _ _) tD))) w
theorem xM : bY Tryz.prog 30 = true := by kernel_rfl
theorem sX : bY Tryz.prog 60 = true := by kernel_rfl
theorem mD : jP Tryz.prog 74 = some 48 := by kernel_rfl
theorem vK : bY Tryz.prog 166 = true := by kernel_rfl
theorem ye : kF Tryz.prog 204 = some true := by kernel_rfl
theorem wQ : bY Tryz.prog 132 = true := by kernel_rfl
theorem wq : bY Tryz.prog 167 = true := by kernel_rfl
theorem vo : bY Tryz.prog 133 = true := by kernel_rfl
theorem yz : bY Tryz.prog 87 = true := by kernel_rfl
theorem yp : bY Tryz.prog 40 = true := by kernel_rfl
theorem rg : bY Tryz.prog 188 = true := by kernel_rfl
theorem oX : bY Tryz.prog 175 = true := by kernel_rfl
theorem mG : bY Tryz.prog 153 = true := by kernel_rfl
theorem xa : bY Tryz.prog 141 = true := by kernel_rfl
theorem wD : bY Tryz.prog 101 = true := by kernel_rfl
theorem vH : bY Tryz.prog 100 = true := by kernel_rfl
theorem lS : bY Tryz.prog 114 = true := by kernel_rfl
theorem oY : bY Tryz.prog 168 = true := by kernel_rfl
theorem vB : bY Tryz.prog 134 = true := by kernel_rfl
theorem yl : bY Tryz.prog 89 = true := by kernel_rfl
theorem wR : bY Tryz.prog 152 = true := by kernel_rfl
theorem vf : bY Tryz.prog 115 = true := by kernel_rfl
theorem nf : bY Tryz.prog 69 = true := by kernel_rfl
theorem wh : bY Tryz.prog 135 = true := by kernel_rfl
theorem wx : bY Tryz.prog 136 = true := by kernel_rfl
theorem yd : bY Tryz.prog 41 = true := by kernel_rfl
theorem wg : iS Tryz.prog 119 = some [Value.nilFunc] := by kernel_rfl
theorem vi : dK Tryz.prog 119 = some 1 := by kernel_rfl
theorem xN : bY Tryz.prog 42 = true := by kernel_rfl
theorem yA : bY Tryz.prog 43 = true := by kernel_rfl
theorem yb : bY Tryz.prog 12 = true := by kernel_rfl
theorem xR : bY Tryz.prog 46 = true := by kernel_rfl
theorem oD : jP Tryz.prog 35 = some 48 := by kernel_rfl
theorem yx : bY Tryz.prog 45 = true := by kernel_rfl
theorem mZ : kF Tryz.prog 151 = some true := by kernel_rfl
theorem lV : ek Tryz.prog 151 0 = some (0, 2) := by kernel_rfl
theorem ox : ek Tryz.prog 151 1 = some (1, 2) := by kernel_rfl
theorem oy : ek Tryz.prog 151 2 = some (2, 2) := by kernel_rfl
theorem ld : ek Tryz.prog 151 3 = some (3, 87) := by kernel_rfl
theorem sx : bY Tryz.prog 47 = true := by kernel_rfl
theorem um : kF Tryz.prog 85 = some true := by kernel_rfl
theorem wM : Tryz.prog.eqGuardType Tryz.prog.depth 87 = false := by kernel_rfl
theorem xZ {x y : Operand} (x0 : Int) (x1 : List UInt8) (x2 : List UInt8) (x3 : List UInt8) (x4 : List UInt8) (x5 : Int) (y0 : Int) (y1 : List UInt8) (y2 : List UInt8) (y3 : List UInt8) (y4 : List UInt8) (y5 : Int) (w : World) : (do eqGuard .neq 87 x y (.agg #[(Value.int .i64 x0), (cW x1), (cW x2), (cW x3), (cW x4), (Value.int .i64 x5)]) (.agg #[(Value.int .i64 y0), (cW y1), (cW y2), (cW y3), (cW y4), (Value.int .i64 y5)]); binOp .neq 87 (.agg #[(Value.int .i64 x0), (cW x1), (cW x2), (cW x3), (cW x4), (Value.int .i64 x5)]) (.agg #[(Value.int .i64 y0), (cW y1), (cW y2), (cW y3), (cW y4), (Value.int .i64 y5)])).run Tryz.prog w = .ok (.bool (!(((x0 == y0) && (((x1 == y1) && ((x2 == y2) && ((x3 == y3) && ((x4 == y4) && true)))) && true)) && ((x5 == y5) && true)))) w :=
  yH wM (qf Tryz.underlying87 (by kernel_rfl) (mR rfl (pK um ey) (pK um ey) (qf Tryz.underlying85 (by kernel_rfl) (mR rfl (gZ bl rfl) (gZ bl rfl) (tM Tryz.underlying2 _ _) (mR rfl (pK qO kX) (pK qO kX) (AO lk md (gZ kG rfl) (gZ kG rfl) (gZ kG rfl) (gZ kG rfl) (gZ kG rfl) (gZ kG rfl) (gZ kG rfl) (gZ kG rfl) (tI Tryz.underlying9 _ _) (tI Tryz.underlying9 _ _) (tI Tryz.underlying9 _ _) (tI Tryz.underlying9 _ _)) tD))) (mR rfl (gZ bl rfl) (gZ bl rfl) (tM Tryz.underlying2 _ _) tD))) w
theorem sP : bY Tryz.prog 50 = true := by kernel_rfl
theorem yc : bY Tryz.prog 44 = true := by kernel_rfl
theorem pN : bY Tryz.prog 52 = true := by kernel_rfl
theorem yX : bY Tryz.prog 92 = true := by kernel_rfl
theorem yR : bY Tryz.prog 49 = true := by kernel_rfl
theorem xY : bY Tryz.prog 48 = true := by kernel_rfl
theorem oG : iS Tryz.prog 239 = some [(Value.slice none 0 0)] := by kernel_rfl
theorem pG : jW Tryz.prog 239 = some [(0, 1)] := by kernel_rfl
theorem gL : ek Tryz.prog 239 0 = some (0, 163) := by kernel_rfl
theorem gD : dK Tryz.prog 163 = some 1 := by kernel_rfl
theorem my : kF Tryz.prog 163 = some false := by kernel_rfl
theorem bU : fS Tryz.prog 163 = some 5 := by kernel_rfl
theorem dp : dK Tryz.prog 5 = some 1 := by kernel_rfl
theorem dM : iS Tryz.prog 5 = some [(Value.int .u8 0)] := by kernel_rfl
theorem eN : jP Tryz.prog 5 = some 1 := by kernel_rfl
theorem kN : bY Tryz.prog 169 = true := by kernel_rfl
theorem qj : fS Tryz.prog 266 = some 9 := by kernel_rfl
theorem st : wc Tryz.prog 5 = some (.int .u8 0) := by kernel_rfl
theorem vh : bY Tryz.prog 200 = true := by kernel_rfl
theorem vj : bY Tryz.prog 201 = true := by kernel_rfl
theorem rA : bY Tryz.prog 203 = true := by kernel_rfl
theorem oL : bY Tryz.prog 172 = true := by kernel_rfl
theorem wd : bY Tryz.prog 170 = true := by kernel_rfl
theorem wt : iS Tryz.prog 255 = some [(Value.int .u32 0)] := by kernel_rfl
theorem oQ : dK Tryz.prog 255 = some 1 := by kernel_rfl
theorem xw : kF Tryz.prog 5 = some false := by kernel_rfl
theorem oc : kF Tryz.prog 255 = some false := by kernel_rfl
theorem vE : bY Tryz.prog 227 = true := by kernel_rfl
theorem vW : bY Tryz.prog 225 = true := by kernel_rfl
theorem wC : bY Tryz.prog 217 = true := by kernel_rfl
theorem vp : bY Tryz.prog 202 = true := by kernel_rfl
theorem vC : bY Tryz.prog 171 = true := by kernel_rfl
theorem wk : bY Tryz.prog 137 = true := by kernel_rfl
theorem yO : bY Tryz.prog 94 = true := by kernel_rfl
theorem xO : bY Tryz.prog 53 = true := by kernel_rfl
theorem ki : bY Tryz.prog 204 = true := by kernel_rfl
theorem wi : bY Tryz.prog 220 = true := by kernel_rfl
theorem wa : bY Tryz.prog 221 = true := by kernel_rfl
theorem vw : bY Tryz.prog 206 = true := by kernel_rfl
theorem wO : bY Tryz.prog 174 = true := by kernel_rfl
theorem wF : bY Tryz.prog 228 = true := by kernel_rfl
theorem wL : bY Tryz.prog 226 = true := by kernel_rfl
theorem vl : bY Tryz.prog 219 = true := by kernel_rfl
theorem wS : bY Tryz.prog 218 = true := by kernel_rfl
theorem wv : bY Tryz.prog 205 = true := by kernel_rfl
theorem wZ : bY Tryz.prog 173 = true := by kernel_rfl
theorem vX : bY Tryz.prog 138 = true := by kernel_rfl
theorem yK : bY Tryz.prog 95 = true := by kernel_rfl
theorem xU : bY Tryz.prog 54 = true := by kernel_rfl
theorem yC : bY Tryz.prog 13 = true := by kernel_rfl
theorem xV : kF Tryz.prog 119 = some false := by kernel_rfl
theorem yF : bY Tryz.prog 90 = true := by kernel_rfl
theorem wB : bY Tryz.prog 103 = true := by kernel_rfl
theorem yI : bY Tryz.prog 61 = true := by kernel_rfl
theorem go.spec (K : Nat) (sv0 : Value) (A0 : HP) (l0 : List aB) (hA0 : da A0 sv0 l0.length 6 (fl aC l0)) (r : Bool) (H : go K l0 = some r) : bp Tryz.prog 76 [sv0] [A0] (fun v M => v = (bool r) ∧ M = [A0]) := by
 unfold go at H
 refine bo Tryz.func76 rfl 28 rfl (nL rfl) fun F w0 => ?_
 show cB (St 28 w0 F [(0,sv0)] [A0]) _
 refine ag (ae (vA rfl rfl (ai (ag (ag (ae (vM rfl rfl (vV (cp 0 rfl bA rfl hA0) rfl (vV (aG rfl rfl (jA _ _ _)) rfl (ai ?_))))))))))
 refine iu H (fun c304 H => ?_) fun c304 H => ?_
 ·refine aA rfl (dT c304) (ag (ae (vA rfl rfl (ai (aH ?_)))))
  cases H
  refine vP [0] rfl rfl ?_
  exact aT rfl rfl ⟨rfl,rfl⟩
 refine ay rfl (dF c304) (aV (ag (ag (ae (vA rfl rfl (ai (be ?_)))))))
 refine cf (fun k a w => ∃ i26,eV K l0 k i26 = some r ∧ St 28 w0 F [(0,sv0),(3,I i26)] [A0] a w) K ?_ ?_
 ·exact vF [0] rfl rfl (vS [0,3] rfl) fun a w h => ⟨_,H,h⟩
 ·refine fun k => aU fun i26 => cv fun H48 => ?_
  cases k with
  | zero => exact absurd H48 (by simp [eV])
  | succ k =>
   rw [eV] at H48
   refine ag (ag (ae (vM rfl rfl (vM rfl rfl (vV (cp 0 rfl bA rfl hA0) rfl (vV (aG rfl rfl (cI _ _ _)) rfl (ai ?_)))))))
   refine gN H48 (fun c552 H48 => ?_) fun c552 H48 => ?_
   ·refine ay rfl (dF c552) (bT (ag (ae (vA rfl rfl (ai (aH ?_))))))
    cases H48
    refine vP [0] rfl rfl ?_
    exact aT rfl rfl ⟨rfl,rfl⟩
   refine aA rfl (dT c552) (aV ?_)
   obtain ⟨x12,H50,H48⟩ := oB H48
   refine cn (fun a w => ∃ v12,x12 = Sum.inl v12 ∧ St 28 w0 F [(0,sv0),(3,I i26)] [A0] a w) ?_ ?_
   ·refine be (ag (ae (vA rfl rfl (ai (be ?_)))))
    refine cf (fun k a w => ∃ i30,eZ K l0 i26 k i30 = some x12 ∧ St 28 w0 F [(0,sv0),(3,I i26),(4,I i30)] [A0] a w) K ?_ ?_
    ·exact vF [0] rfl rfl (vS [0,3,4] rfl) fun a w h => ⟨_,H50,h⟩
    ·refine fun k => aU fun i30 => cv fun H51 => ?_
     cases k with
     | zero => exact absurd H51 (by simp [eZ])
     | succ k =>
      rw [eZ] at H51
      refine ag (ag (ae (vM rfl rfl (vV (aG rfl rfl (cI _ _ _)) rfl (ai ?_)))))
      refine gN H51 (fun c596 H51 => ?_) fun c596 H51 => ?_
      ·refine ay rfl (dF c596) (bT ?_)
       cases H51
       exact vF [0] rfl rfl (vS [0,3] rfl) fun a w h => ⟨_,rfl,h⟩
      refine aA rfl (dT c596) (aV (ag (be (ag (ae (vM rfl rfl (vM rfl rfl (vM rfl rfl ?_))))))))
      obtain ⟨c601,H51⟩ := gq H51
      refine vV (bf (sz := 5) 0 rfl rfl bA bG rfl hA0 c601 c552) rfl (vV (br (sz := 4) (k0 := i26.toNat * 6) (off := 0) 0 rfl de ey rfl hA0 (gF bH (bB c601 c552))) rfl (vV (br (sz := 3) (k0 := i26.toNat * 6 + 0) (off := 1) 0 rfl kS kX rfl hA0 (gF bH (bB c601 c552))) rfl ?_))
      obtain ⟨c602,H51⟩ := gq H51
      obtain ⟨c603,H51⟩ := gq H51
      refine vV (pC 0 rfl rfl lk md rfl hA0 (gF bH (bB c601 c552)) c602 c603) rfl ?_
      refine vV (aP (v := (cW ([((l0.getD i26.toNat ab).Key).Dims_0,((l0.getD i26.toNat ab).Key).Dims_1,((l0.getD i26.toNat ab).Key).Dims_2,((l0.getD i26.toNat ab).Key).Dims_3].getD i30.toNat []))) rfl kG (bE (i := 0) rfl hA0 (by simp) (uS bH (bB c601 c552) (vg (enc := eS) (z := []) (ys := [((l0.getD i26.toNat ab).Key).Dims_0,((l0.getD i26.toNat ab).Key).Dims_1,((l0.getD i26.toNat ab).Key).Dims_2,((l0.getD i26.toNat ab).Key).Dims_3]) nT rfl (bB c602 c603))))) rfl ?_
      refine vV (pD rfl Tryz.underlying9) rfl (vV (aG rfl rfl (jA _ _ _)) rfl (ai ?_))
      refine iu H51 (fun c604 H51 => ?_) fun c604 H51 => ?_
      ·refine aA rfl (dT c604) (ag (ae (vA rfl rfl (ai (aH ?_)))))
       cases H51
       have H52 := Option.some.inj (show some _ = some _ from H48)
       cases H52
       refine vP [0] rfl rfl ?_
       exact aT rfl rfl ⟨rfl,rfl⟩
      refine ay rfl (dF c604) (aV (ae (vM rfl rfl (vV (aG rfl rfl (ci _ _ _) ) rfl (vA rfl rfl (ai ?_))))))
      exact vF [0] rfl rfl (vS [0,3,4] rfl) fun a w h => ⟨k,Nat.lt_succ_self k,_,H51,h⟩
   ·refine aU fun v12 => cv fun e_ => ?_
    subst e_
    rw [qH] at H48
    refine ae (vM rfl rfl (vV (aG rfl rfl (ci _ _ _) ) rfl (vA rfl rfl (ai ?_))))
    exact vF [0] rfl rfl (vS [0,3] rfl) fun a w h => ⟨k,Nat.lt_succ_self k,_,H48,h⟩
theorem fu.spec (K : Nat) (sv0 : Value) (A0 B0 : HP) (l0 : List cM) (hA0 : da A0 sv0 l0.length 4 (fl jg l0)) (hJ0 : ∀ x ∈ l0,da B0 x.Facts.v x.Facts.xs.length 6 (fl aC x.Facts.xs)) (r : Bool) (H : fu K l0 = some r) : bp Tryz.prog 31 [sv0] [A0,B0] (fun v M => v = (bool r) ∧ M = [A0,B0]) := by
 unfold fu at H
 refine bo Tryz.func31 rfl 20 rfl (nL rfl) fun F w0 => ?_
 show cB (St 20 w0 F [(0,sv0)] [A0,B0]) _
 refine ag (ae (vA rfl rfl (ai (ag (ag (ae (vM rfl rfl (vV (cp 0 rfl cu rfl hA0) rfl (vV (aG rfl rfl (jA _ _ _)) rfl (ai ?_))))))))))
 refine iu H (fun c36 H => ?_) fun c36 H => ?_
 ·refine aA rfl (dT c36) (ag (ae (vA rfl rfl (ai (aH ?_)))))
  cases H
  refine vP [0,1] rfl rfl ?_
  exact aT rfl rfl ⟨rfl,rfl⟩
 refine ay rfl (dF c36) (aV (ag (ag (ae (vA rfl rfl (ai (be ?_)))))))
 refine cf (fun k a w => ∃ i4,ee K l0 k i4 = some r ∧ St 20 w0 F [(0,sv0),(3,I i4)] [A0,B0] a w) K ?_ ?_
 ·exact vF [0,1] rfl rfl (vS [0,3] rfl) fun a w h => ⟨_,H,h⟩
 ·refine fun k => aU fun i4 => cv fun H4 => ?_
  cases k with
  | zero => exact absurd H4 (by simp [ee])
  | succ k =>
   rw [ee] at H4
   refine ag (ag (ae (vM rfl rfl (vM rfl rfl (vV (cp 0 rfl cu rfl hA0) rfl (vV (aG rfl rfl (cI _ _ _)) rfl (ai ?_)))))))
   refine gN H4 (fun c64 H4 => ?_) fun c64 H4 => ?_
   ·refine ay rfl (dF c64) (bT (ag (ae (vA rfl rfl (ai (aH ?_))))))
    cases H4
    refine vP [0,1] rfl rfl ?_
    exact aT rfl rfl ⟨rfl,rfl⟩
   refine aA rfl (dT c64) (aV (ag (be (ag (ae (vM rfl rfl (vM rfl rfl ?_)))))))
   obtain ⟨c67,H4⟩ := gq H4
   refine vV (bf (sz := 3) 0 rfl rfl cu cz rfl hA0 c67 c64) rfl (vV (br (sz := 0) (k0 := i4.toNat * 4) (off := 3) 0 rfl ig cJ rfl hA0 (gF kQ (bB c67 c64))) rfl ?_)
   refine vV (aP (v := ((l0.getD i4.toNat gh).Facts).v) rfl fm (bE (i := 0) rfl hA0 (by simp) (iT (off := 3) kQ (bB c67 c64) rfl))) rfl ?_
   obtain ⟨x24,h24,H4⟩ := oB H4
   refine aO (bC (Lr := [A0]) [1,0] [1,0] (first := []) (cap := []) (xs := [.tmp 17]) rfl rfl yQ rfl (go.spec K (((l0.getD i4.toNat gh).Facts).v) B0 (((l0.getD i4.toNat gh).Facts).xs) (hJ0 _ (mV gh (bB c67 c64))) _ h24) (by decide) rfl (by decide) rfl) rfl rfl rfl ?_
   rintro _ _ ⟨rfl,rfl⟩
   refine vV (iR rfl (ju _)) rfl (ai ?_)
   refine iu H4 (fun c68 H4 => ?_) fun c68 H4 => ?_
   ·refine aA rfl c68 (ag (ae (vA rfl rfl (ai (aH ?_)))))
    cases H4
    refine vP [0,1] rfl rfl ?_
    exact aT rfl rfl ⟨rfl,rfl⟩
   refine ay rfl (bF c68) (aV (ae (vM rfl rfl (vV (aG rfl rfl (ci _ _ _) ) rfl (vA rfl rfl (ai ?_))))))
   exact vF [0,1] rfl rfl (vS [0,3] rfl) fun a w h => ⟨k,Nat.lt_succ_self k,_,H4,h⟩
theorem gn.spec (K : Nat) (sv0 : Value) (A0 : HP) (l0 : List fb) (hA0 : da A0 sv0 l0.length 8 (fl jD l0)) (hJ0 : ∀ x ∈ l0,da A0 x.B.Facts.v x.B.Facts.xs.length 6 (fl aC x.B.Facts.xs) ∧ da A0 x.Put.v x.Put.xs.length 6 (fl aZ x.Put.xs)) (r : Bool) (H : gn K l0 = some r) : bp Tryz.prog 8 [sv0] [A0] (fun v M => v = (bool r) ∧ M = [A0]) := by
 unfold gn at H
 refine bo Tryz.func8 rfl 30 rfl (nL rfl) fun F w0 => ?_
 show cB (St 30 w0 F [(0,sv0)] [A0]) _
 refine ag (ae (vA rfl rfl (ai (ag (ag (ae (vM rfl rfl (vV (cp 0 rfl lR rfl hA0) rfl (vV (aG rfl rfl (jA _ _ _)) rfl (ai ?_))))))))))
 refine iu H (fun c48 H => ?_) fun c48 H => ?_
 ·refine aA rfl (dT c48) (ag (ae (vA rfl rfl (ai (aH ?_)))))
  cases H
  refine vP [0] rfl rfl ?_
  exact aT rfl rfl ⟨rfl,rfl⟩
 refine ay rfl (dF c48) (aV (ag (ag (ae (vA rfl rfl (ai (be ?_)))))))
 refine cf (fun k a w => ∃ i4,fc K l0 k i4 = some r ∧ St 30 w0 F [(0,sv0),(3,I i4)] [A0] a w) K ?_ ?_
 ·exact vF [0] rfl rfl (vS [0,3] rfl) fun a w h => ⟨_,H,h⟩
 ·refine fun k => aU fun i4 => cv fun H4 => ?_
  cases k with
  | zero => exact absurd H4 (by simp [fc])
  | succ k =>
   rw [fc] at H4
   refine ag (ag (ae (vM rfl rfl (vM rfl rfl (vV (cp 0 rfl lR rfl hA0) rfl (vV (aG rfl rfl (cI _ _ _)) rfl (ai ?_)))))))
   refine gN H4 (fun c86 H4 => ?_) fun c86 H4 => ?_
   ·refine ay rfl (dF c86) (bT (ag (ae (vA rfl rfl (ai (aH ?_))))))
    cases H4
    refine vP [0] rfl rfl ?_
    exact aT rfl rfl ⟨rfl,rfl⟩
   refine aA rfl (dT c86) (aV (ag (be (ag (ae (vM rfl rfl (vM rfl rfl ?_)))))))
   obtain ⟨c90,H4⟩ := gq H4
   refine vV (bf (sz := 7) 0 rfl rfl lR oh rfl hA0 c90 c86) rfl (vV (br (sz := 3) (k0 := i4.toNat * 8) (off := 1) 0 rfl ni cz rfl hA0 (gF gM (bB c90 c86))) rfl ?_)
   refine vV (bi (vs := [I (((l0.getD i4.toNat bb).B).Seq),I (((l0.getD i4.toNat bb).B).Tick),I (((l0.getD i4.toNat bb).B).Budget),(((l0.getD i4.toNat bb).B).Facts).v]) rfl mH cz (bE (i := 0) rfl hA0 (by simp) (iT (off := 1) gM (bB c90 c86) rfl))) rfl ?_
   refine aO (bL (sz := 3) (xs := [.tmp 17]) (cs := fl jg [(⟨((l0.getD i4.toNat bb).B).Seq,((l0.getD i4.toNat bb).B).Tick,((l0.getD i4.toNat bb).B).Budget,(((l0.getD i4.toNat bb).B).Facts)⟩ : cM)]) rfl rfl cu cz jY rfl rfl (cN rfl) rfl (by decide)) rfl rfl rfl ?_
   rintro sv24 _ rfl
   obtain ⟨x24,h24,H4⟩ := oB H4
   refine aO (bC (Lr := []) [0,1] [0,1] (first := []) (cap := []) (xs := [.tmp 18]) rfl rfl yE rfl (fu.spec K sv24 (own sv24 35 4 [(⟨((l0.getD i4.toNat bb).B).Seq,((l0.getD i4.toNat bb).B).Tick,((l0.getD i4.toNat bb).B).Budget,(((l0.getD i4.toNat bb).B).Facts)⟩ : cM)].length (fl jg [(⟨((l0.getD i4.toNat bb).B).Seq,((l0.getD i4.toNat bb).B).Tick,((l0.getD i4.toNat bb).B).Budget,(((l0.getD i4.toNat bb).B).Facts)⟩ : cM)])) A0 [(⟨((l0.getD i4.toNat bb).B).Seq,((l0.getD i4.toNat bb).B).Tick,((l0.getD i4.toNat bb).B).Budget,(((l0.getD i4.toNat bb).B).Facts)⟩ : cM)] (aQ 35) (zj (hJ0 _ (mV bb (bB c90 c86))).1 Ay) _ h24) (by decide) rfl (by decide) rfl) rfl rfl rfl ?_
   rintro _ _ ⟨rfl,rfl⟩
   refine vV (iR rfl (ju _)) rfl (vM rfl rfl ?_)
   refine iu H4 (fun c91 H4 => ?_) fun c91 H4 => ?_
   ·refine au rfl rfl rfl c91 rfl rfl ?_
    refine au rfl rfl rfl c91 rfl rfl ?_
    refine au rfl rfl rfl c91 rfl rfl ?_
    refine au rfl rfl rfl c91 rfl rfl ?_
    refine au rfl rfl rfl c91 rfl rfl ?_
    refine au rfl rfl rfl c91 rfl rfl ?_
    refine au rfl rfl rfl c91 rfl rfl ?_
    refine vV (aN rfl rfl rfl (cb c91)) rfl (ai (aA rfl rfl (ag (ae (vA rfl rfl (ai (aH ?_)))))))
    cases H4
    refine vP [1] rfl rfl ?_
    exact aT rfl rfl ⟨rfl,rfl⟩
   refine aq (aL rfl) rfl rfl rfl (bF c91) rfl rfl ?_
   refine aq (aL rfl) rfl rfl rfl (bF c91) rfl rfl ?_
   refine aq (bf (sz := 7) 1 rfl rfl lR oh rfl hA0 c90 c86) rfl rfl rfl (bF c91) rfl rfl ?_
   refine aq (br (sz := 0) (k0 := i4.toNat * 8) (off := 7) 1 rfl nq lu rfl hA0 (gF gM (bB c90 c86))) rfl rfl rfl (bF c91) rfl rfl ?_
   refine aq (aP (v := ((l0.getD i4.toNat bb).Put).v) rfl lG (bE (i := 1) rfl hA0 (by simp) (iT (off := 7) gM (bB c90 c86) rfl))) rfl rfl rfl (bF c91) rfl rfl ?_
   refine aq (cp 1 rfl dX rfl (hJ0 _ (mV bb (bB c90 c86))).2) rfl rfl rfl (bF c91) rfl rfl ?_
   refine aq (aG rfl rfl (jA _ _ _)) rfl rfl rfl (bF c91) rfl rfl ?_
   refine vV (aN rfl rfl rfl (bV (bF c91))) rfl (ai ?_)
   refine iu H4 (fun c92 H4 => ?_) fun c92 H4 => ?_
   ·refine aA rfl (dT c92) (ag (ae (vA rfl rfl (ai (aH ?_)))))
    cases H4
    refine vP [1] rfl rfl ?_
    exact aT rfl rfl ⟨rfl,rfl⟩
   refine ay rfl (dF c92) (aV (ae (vM rfl rfl (vV (aG rfl rfl (ci _ _ _) ) rfl (vA rfl rfl (ai ?_))))))
   exact vF [1] rfl rfl (vS [0,3] rfl) fun a w h => ⟨k,Nat.lt_succ_self k,_,H4,h⟩
theorem pz.spec (r : (Int × Int × Int)) (H : pz = r) : bp Tryz.prog 10 [I 1] [] (fun v M => ∃ b2 : Nat,v = (tU #[pt b2 0,I r.2.2]) ∧ M = [box b2 93 [I r.1,L0,I r.2.1]]) := by
 unfold pz at H
 refine bo Tryz.func10 rfl 13 rfl (nL rfl) fun F w0 => ?_
 show cB (St 13 w0 F [(0,I 1)] []) _
 refine ag (ae (vA rfl rfl (vA rfl rfl (ai (ag (ag (ae (vM rfl rfl (vV (aG rfl rfl (cI _ _ _)) rfl (vM rfl rfl ?_))))))))))
 refine aq (aL rfl) rfl rfl rfl rfl rfl rfl ?_
 refine aq (aG rfl rfl (jA _ _ _)) rfl rfl rfl rfl rfl rfl ?_
 refine vV (aN rfl rfl rfl rfl) rfl (ai (ay rfl rfl (aV (ag (ae (vM rfl rfl (vV (eO (is := [0]) (xs := [.tmp 10]) (vs := [I 1]) rfl rfl (cC (cs := [I 1,L0,I 0]) so qi rfl)) rfl ?_)))))))
 refine aO (dz (cs := [I 1,L0,I 0]) rfl rfl) rfl rfl rfl ?_
 rintro _ _ ⟨b3,rfl,rfl⟩
 refine vA rfl rfl (vA rfl rfl (ai (aH ?_)))
 cases H
 refine vP [0] rfl rfl ?_
 exact cE (vs := [pt b3 0,I 0]) rfl ⟨rfl,⟨rfl,trivial⟩⟩ _ rfl ⟨_,rfl,rfl⟩
theorem jt.spec (sv0 : Value) (a0_0 a0_1 a0_2 : Int) (l0 : List aB) (r : (Int × Int × Int)) (H : jt a0_0 a0_1 a0_2 l0 = r) : bp Tryz.prog 33 [agg #[I a0_0,I a0_1,I a0_2,sv0]] [own sv0 87 6 l0.length (fl aC l0)] (fun v M => v = (agg #[I r.1,I r.2.1,I r.2.2,sv0]) ∧ M = [own sv0 87 6 l0.length (fl aC l0)]) := by
 unfold jt at H
 refine bo Tryz.func33 rfl 12 rfl (nL rfl) fun F w0 => ?_
 show cB (St 12 w0 F [(0,agg #[I a0_0,I a0_1,I a0_2,sv0])] [own sv0 87 6 l0.length (fl aC l0)]) _
 refine ag (ae ?_)
 refine aO (dz (cs := [I a0_0,I a0_1,I a0_2,sv0]) rfl rfl) rfl rfl rfl ?_
 rintro _ _ ⟨b3,rfl,rfl⟩
 refine aO (dP gw) rfl rfl rfl ?_
 rintro _ _ ⟨b4,rfl,rfl⟩
 refine ai (ag (ae (vV (az (sz := 0) (o := 0) rfl eU bd) rfl (vV (aP (v := (I a0_0)) rfl bl (aJ (i := 1) rfl rfl)) rfl (vV (az (sz := 0) (o := 0) rfl im bd) rfl (vV (aP (v := (I a0_1)) rfl bl (aJ (i := 1) rfl rfl)) rfl (vV (az (sz := 0) (o := 0) rfl ji bd) rfl (vV (aP (v := (I a0_2)) rfl bl (aJ (i := 1) rfl rfl)) rfl (vV (az (sz := 0) (o := 0) rfl ig cJ) rfl (vV (aP (v := sv0) rfl fm (aJ (i := 1) rfl rfl)) rfl ?_))))))))))
 refine vV (uq 2 rfl (aQ 87) fun hc0_ => (eO (is := [0,1,2,3]) (xs := [.tmp 4,.tmp 6,.tmp 8,.tmp 10]) (vs := [I a0_0,I a0_1,I a0_2,sv0]) rfl rfl (cC (cs := [I a0_0,I a0_1,I a0_2,sv0]) gw qn (by simp [Instr.fill,kA,jS,kD,jR,jm,kz,hE,kw,hc0_])))) rfl ?_
 refine cj (cm (cs := [I 0,I 0,I 0,L0]) (cs' := [I a0_0,I a0_1,I a0_2,sv0]) (us := [I a0_0,I a0_1,I a0_2,sv0]) (L' := [box b4 81 [I a0_0,I a0_1,I a0_2,sv0],box b3 35 [I a0_0,I a0_1,I a0_2,sv0],own sv0 87 6 l0.length (fl aC l0)]) 0 rfl rfl rfl (gK rfl (gK rfl (gK rfl (oS 2 rfl (aQ 87) nw)))) cA rfl rfl (by simp) rfl) rfl rfl ?_
 rintro _ _ rfl
 refine ai (aH ?_)
 subst H
 exact iQ [2] (by decide) rfl (vs := [agg #[I a0_0,I a0_1,I a0_2,sv0]]) rfl ⟨⟨_,[I a0_0,I a0_1,I a0_2,sv0],rfl,bD (i := 0) rfl,.inl ⟨jd,cA,rfl⟩⟩,trivial⟩ _ rfl ⟨rfl,rfl⟩
theorem kT.spec (a0 : Int) (r : Bool) (H : kT a0 = r) : bp Tryz.prog 158 [I a0] [] (fun v M => v = (bool r) ∧ M = []) := by
 unfold kT at H
 refine bo Tryz.func158 rfl 9 rfl (nL rfl) fun F w0 => ?_
 show cB (St 9 w0 F [(0,I a0)] []) _
 refine ag (ae (vA rfl rfl (ai (ag (ae (vM rfl rfl (vV (aG rfl rfl (jT _ _ _)) rfl (vM rfl rfl ?_))))))))
 refine gN H (fun c2 H => ?_) fun c2 H => ?_
 ·refine au rfl rfl rfl (dF c2) rfl rfl ?_
  refine au rfl rfl rfl (dF c2) rfl rfl ?_
  refine vV (aN rfl rfl rfl (bV (dF c2))) rfl (vA rfl rfl (ai (aH ?_)))
  cases H
  refine vP [] rfl rfl ?_
  exact aT rfl rfl ⟨rfl,rfl⟩
 refine aq (aL rfl) rfl rfl rfl (dT c2) rfl rfl ?_
 refine aq (aG rfl rfl (nF _ _ _)) rfl rfl rfl (dT c2) rfl rfl ?_
 refine vV (aN rfl rfl rfl (cb (dT c2))) rfl (vA rfl rfl (ai (aH ?_)))
 cases H
 refine vP [] rfl rfl ?_
 exact aT rfl rfl ⟨rfl,rfl⟩
theorem lg.spec (K : Nat) (a0_0 : Int) (a0_1 : List UInt8) (a0_2 : List UInt8) (a0_3 : List UInt8) (a0_4 : List UInt8) (a0_5 a1 r : Int) (H : lg K a0_0 a0_1 a0_2 a0_3 a0_4 a0_5 a1 = some r) : bp Tryz.prog 159 [agg #[I a0_0,cW a0_1,cW a0_2,cW a0_3,cW a0_4,I a0_5],I a1] [] (fun v M => v = (I r) ∧ M = []) := by
 unfold lg at H
 refine bo Tryz.func159 rfl 52 rfl (nL rfl) fun F w0 => ?_
 show cB (St 52 w0 F [(0,agg #[I a0_0,cW a0_1,cW a0_2,cW a0_3,cW a0_4,I a0_5]),(1,I a1)] []) _
 refine ag (ae ?_)
 refine aO (dz (cs := [I a0_0,cW a0_1,cW a0_2,cW a0_3,cW a0_4,I a0_5]) rfl rfl) rfl rfl rfl ?_
 rintro _ _ ⟨b2,rfl,rfl⟩
 refine vA rfl rfl (ai (ag (be (ag (ae (vM rfl rfl ?_))))))
 obtain ⟨x4,h4,H⟩ := bP H
 refine aO (bQ (first := []) (cap := []) (xs := [.tmp 8]) rfl rfl rP rfl (kT.spec a1 _ h4)) rfl rfl rfl ?_
 rintro _ _ ⟨rfl,rfl⟩
 refine vV (iR rfl (ju _)) rfl (vA rfl rfl (ai ?_))
 refine iu H (fun c80 H => ?_) fun c80 H => ?_
 ·refine aA rfl c80 (ag (ae (vA rfl rfl (ai (aH ?_)))))
  cases H
  refine vP [] rfl rfl ?_
  exact aT rfl rfl ⟨rfl,rfl⟩
 refine ay rfl (bF c80) (ag (ae (vV (az (sz := 4) (o := 0) rfl de ey) rfl (vV (az (sz := 0) (o := 0) rfl eH bd) rfl (vV (aP (v := (I a0_0)) rfl bl (aJ (i := 0) rfl rfl)) rfl (vV (aG rfl rfl (cI _ _ _)) rfl (vM rfl rfl ?_)))))))
 refine iu H (fun c81 H => ?_) fun c81 H => ?_
 ·refine au rfl rfl rfl (dT c81) rfl rfl ?_
  refine au rfl rfl rfl (dT c81) rfl rfl ?_
  refine au rfl rfl rfl (dT c81) rfl rfl ?_
  refine au rfl rfl rfl (dT c81) rfl rfl ?_
  refine vV (aN rfl rfl rfl (cb (dT c81))) rfl (vM rfl rfl ?_)
  refine au rfl rfl rfl rfl rfl rfl ?_
  refine au rfl rfl rfl rfl rfl rfl ?_
  refine au rfl rfl rfl rfl rfl rfl ?_
  refine vV (aN rfl rfl rfl rfl) rfl (vM rfl rfl ?_)
  refine au rfl rfl rfl rfl rfl rfl ?_
  refine au rfl rfl rfl rfl rfl rfl ?_
  refine au rfl rfl rfl rfl rfl rfl ?_
  refine vV (aN rfl rfl rfl rfl) rfl (vA rfl rfl (ai (aA rfl rfl (ag (ae (vA rfl rfl (ai (aH ?_))))))))
  cases H
  refine vP [] rfl rfl ?_
  exact aT rfl rfl ⟨rfl,rfl⟩
 refine aq (az (sz := 4) (o := 0) rfl de ey) rfl rfl rfl (dF c81) rfl rfl ?_
 refine aq (az (sz := 0) (o := 0) rfl eH bd) rfl rfl rfl (dF c81) rfl rfl ?_
 refine aq (aP (v := (I a0_0)) rfl bl (aJ (i := 0) rfl rfl)) rfl rfl rfl (dF c81) rfl rfl ?_
 refine aq (aG rfl rfl (jA _ _ _)) rfl rfl rfl (dF c81) rfl rfl ?_
 refine vV (aN rfl rfl rfl (bV (dF c81))) rfl (vM rfl rfl ?_)
 refine iu H (fun c82 H => ?_) fun c82 H => ?_
 ·refine au rfl rfl rfl (dT c82) rfl rfl ?_
  refine au rfl rfl rfl (dT c82) rfl rfl ?_
  refine au rfl rfl rfl (dT c82) rfl rfl ?_
  refine vV (aN rfl rfl rfl (cb (dT c82))) rfl (vM rfl rfl ?_)
  refine au rfl rfl rfl rfl rfl rfl ?_
  refine au rfl rfl rfl rfl rfl rfl ?_
  refine au rfl rfl rfl rfl rfl rfl ?_
  refine vV (aN rfl rfl rfl rfl) rfl (vA rfl rfl (ai (aA rfl rfl (ag (ae (vA rfl rfl (ai (aH ?_))))))))
  cases H
  refine vP [] rfl rfl ?_
  exact aT rfl rfl ⟨rfl,rfl⟩
 refine aq (az (sz := 0) (o := 0) rfl kU bd) rfl rfl rfl (dF c82) rfl rfl ?_
 refine aq (aP (v := (I a0_5)) rfl bl (aJ (i := 0) rfl rfl)) rfl rfl rfl (dF c82) rfl rfl ?_
 refine aq (aG rfl rfl (jA _ _ _)) rfl rfl rfl (dF c82) rfl rfl ?_
 refine vV (aN rfl rfl rfl (bV (dF c82))) rfl (vM rfl rfl ?_)
 refine iu H (fun c83 H => ?_) fun c83 H => ?_
 ·refine au rfl rfl rfl (dT c83) rfl rfl ?_
  refine au rfl rfl rfl (dT c83) rfl rfl ?_
  refine au rfl rfl rfl (dT c83) rfl rfl ?_
  refine vV (aN rfl rfl rfl (cb (dT c83))) rfl (vA rfl rfl (ai (aA rfl rfl (ag (ae (vA rfl rfl (ai (aH ?_))))))))
  cases H
  refine vP [] rfl rfl ?_
  exact aT rfl rfl ⟨rfl,rfl⟩
 refine aq (az (sz := 0) (o := 0) rfl kU bd) rfl rfl rfl (dF c83) rfl rfl ?_
 refine aq (aP (v := (I a0_5)) rfl bl (aJ (i := 0) rfl rfl)) rfl rfl rfl (dF c83) rfl rfl ?_
 refine aq (aG rfl rfl (cI _ _ _)) rfl rfl rfl (dF c83) rfl rfl ?_
 refine vV (aN rfl rfl rfl (bV (dF c83))) rfl (vA rfl rfl (ai ?_))
 refine iu H (fun c84 H => ?_) fun c84 H => ?_
 ·refine aA rfl (dT c84) (ag (ae (vA rfl rfl (ai (aH ?_)))))
  cases H
  refine vP [] rfl rfl ?_
  exact aT rfl rfl ⟨rfl,rfl⟩
 refine ay rfl (dF c84) (aV (ag (ag (ae (vV (az (sz := 4) (o := 0) rfl de ey) rfl (vV (az (sz := 3) (o := 0) rfl kS kX) rfl (vV (bi (vs := [cW a0_1,cW a0_2,cW a0_3,cW a0_4]) rfl qO kX (jb (i := 0) rfl rfl)) rfl (vM rfl rfl (ai (be ?_))))))))))
 refine cf (fun k a w => ∃ i5,jl K a0_1 a0_2 a0_3 a0_4 a1 k i5 = some r ∧ St 52 w0 F [(1,I a1),(34,agg #[cW a0_1,cW a0_2,cW a0_3,cW a0_4]),(35,I i5)] [] a w) K ?_ ?_
 ·exact vF [] rfl rfl (vS [1,34,35] rfl) fun a w h => ⟨_,H,h⟩
 ·refine fun k => aU fun i5 => cv fun H4 => ?_
  cases k with
  | zero => exact absurd H4 (by simp [jl])
  | succ k =>
   rw [jl] at H4
   refine ag (ae (vV (aG rfl rfl (cI _ _ _)) rfl (ai (ag ?_))))
   refine gN H4 (fun c138 H4 => ?_) fun c138 H4 => ?_
   ·refine ay rfl (dF c138) (bT (ag (ae (vA rfl rfl (ai (aH ?_))))))
    cases H4
    refine vP [] rfl rfl ?_
    exact aT rfl rfl ⟨rfl,rfl⟩
   refine aA rfl (dT c138) (aV (ag (be (ag (ae (vM rfl rfl ?_))))))
   obtain ⟨c144,H4⟩ := gq H4
   obtain ⟨c145,H4⟩ := gq H4
   refine vV (uY rfl rfl lk md kG c144 c145 (BN (fun i_ => #[cW a0_1,cW a0_2,cW a0_3,cW a0_4][i_]? = some (cW ([a0_1,a0_2,a0_3,a0_4].getD i_ []))) (bB c144 c145) rfl rfl rfl rfl)) rfl ?_
   refine vA rfl rfl (vA rfl rfl (ai (ag (ae (vM rfl rfl (vV (pD rfl Tryz.underlying9) rfl (vV (aG rfl rfl (jA _ _ _)) rfl (vM rfl rfl ?_))))))))
   refine iu H4 (fun c146 H4 => ?_) fun c146 H4 => ?_
   ·refine au rfl rfl rfl (dT c146) rfl rfl ?_
    refine au rfl rfl rfl (dT c146) rfl rfl ?_
    refine au rfl rfl rfl (dT c146) rfl rfl ?_
    refine au rfl rfl rfl (dT c146) rfl rfl ?_
    refine bS rfl rfl rfl rfl rfl ?_
    refine bS rfl rfl rfl rfl rfl ?_
    refine au rfl rfl rfl (dT c146) rfl rfl ?_
    refine vV (aN rfl rfl rfl (cb (dT c146))) rfl (ai (aA rfl rfl (ag (ae (vA rfl rfl (ai (aH ?_)))))))
    cases H4
    refine vP [] rfl rfl ?_
    exact aT rfl rfl ⟨rfl,rfl⟩
   refine aq (aL rfl) rfl rfl rfl (dF c146) rfl rfl ?_
   refine aq (aL rfl) rfl rfl rfl (dF c146) rfl rfl ?_
   refine aq (aG rfl rfl (jT _ _ _)) rfl rfl rfl (dF c146) rfl rfl ?_
   refine aq (aL rfl) rfl rfl rfl (dF c146) rfl rfl ?_
   refine gN H4 (fun c147 H4 => ?_) fun c147 H4 => ?_
   ·refine au rfl rfl rfl (dF c147) rfl rfl ?_
    refine au rfl rfl rfl (dF c147) rfl rfl ?_
    refine aq (aN rfl rfl rfl (bV (dF c147))) rfl rfl rfl (dF c146) rfl rfl ?_
    refine vV (aN rfl rfl rfl (bV (dF c146))) rfl (ai (ay rfl rfl (aV (ae (vV (aG rfl rfl (ci _ _ _) ) rfl (vM rfl rfl (ai ?_)))))))
    exact vF [] rfl rfl (vS [1,34,35] rfl) fun a w h => ⟨k,Nat.lt_succ_self k,_,H4,h⟩
   refine aq (aL rfl) rfl rfl rfl (dT c147) rfl rfl ?_
   refine aq (aG rfl rfl (sA _ _)) rfl rfl rfl (dT c147) rfl rfl ?_
   refine aq (aN rfl rfl rfl (cb (dT c147))) rfl rfl rfl (dF c146) rfl rfl ?_
   refine vV (aN rfl rfl rfl (bV (dF c146))) rfl (ai ?_)
   refine iu H4 (fun c148 H4 => ?_) fun c148 H4 => ?_
   ·refine aA rfl (B3 c148) (ag (ae (vA rfl rfl (ai (aH ?_)))))
    cases H4
    refine vP [] rfl rfl ?_
    exact aT rfl rfl ⟨rfl,rfl⟩
   refine ay rfl (BD c148) (aV (ae (vV (aG rfl rfl (ci _ _ _) ) rfl (vM rfl rfl (ai ?_)))))
   exact vF [] rfl rfl (vS [1,34,35] rfl) fun a w h => ⟨k,Nat.lt_succ_self k,_,H4,h⟩
theorem iZ.spec (K : Nat) (sv0 : Value) (A0 : HP) (l0 : List aB) (a1 : Int) (hA0 : da A0 sv0 l0.length 6 (fl aC l0)) (r : (Int × Int)) (H : iZ K l0 a1 = some r) : bp Tryz.prog 120 [sv0,I a1] [A0] (fun v M => v = (tU #[I r.1,I r.2]) ∧ M = [A0]) := by
 unfold iZ at H
 refine bo Tryz.func120 rfl 37 rfl (nL rfl) fun F w0 => ?_
 show cB (St 37 w0 F [(0,sv0),(1,I a1)] [A0]) _
 refine ag (ae (vA rfl rfl (vA rfl rfl (ai (ag (ag (ae (vM rfl rfl ?_))))))))
 obtain ⟨x16,h16,H⟩ := bP H
 refine aO (bQ (first := []) (cap := []) (xs := [.tmp 9]) rfl rfl rP rfl (kT.spec a1 _ h16)) rfl rfl rfl ?_
 rintro _ _ ⟨rfl,rfl⟩
 refine vV (iR rfl (ju _)) rfl (vM rfl rfl ?_)
 refine iu H (fun c42 H => ?_) fun c42 H => ?_
 ·refine au rfl rfl rfl c42 rfl rfl ?_
  refine au rfl rfl rfl c42 rfl rfl ?_
  refine au rfl rfl rfl c42 rfl rfl ?_
  refine vV (aN rfl rfl rfl (cb c42)) rfl (vM rfl rfl ?_)
  refine au rfl rfl rfl rfl rfl rfl ?_
  refine au rfl rfl rfl rfl rfl rfl ?_
  refine au rfl rfl rfl rfl rfl rfl ?_
  refine vV (aN rfl rfl rfl rfl) rfl (ai (aA rfl rfl (ag (ae (vA rfl rfl (vA rfl rfl (ai (aH ?_))))))))
  cases H
  refine vP [0] rfl rfl ?_
  exact cE (vs := [I 1,I 0]) rfl ⟨rfl,⟨rfl,trivial⟩⟩ _ rfl ⟨rfl,rfl⟩
 refine aq (aL rfl) rfl rfl rfl (bF c42) rfl rfl ?_
 refine aq (cp 0 rfl bA rfl hA0) rfl rfl rfl (bF c42) rfl rfl ?_
 refine aq (aG rfl rfl (fG _ _ _)) rfl rfl rfl (bF c42) rfl rfl ?_
 refine vV (aN rfl rfl rfl (bV (bF c42))) rfl (vM rfl rfl ?_)
 refine iu H (fun c43 H => ?_) fun c43 H => ?_
 ·refine au rfl rfl rfl (dy c43) rfl rfl ?_
  refine au rfl rfl rfl (dy c43) rfl rfl ?_
  refine au rfl rfl rfl (dy c43) rfl rfl ?_
  refine vV (aN rfl rfl rfl (cb (dy c43))) rfl (ai (aA rfl rfl (ag (ae (vA rfl rfl (vA rfl rfl (ai (aH ?_))))))))
  cases H
  refine vP [0] rfl rfl ?_
  exact cE (vs := [I 1,I 0]) rfl ⟨rfl,⟨rfl,trivial⟩⟩ _ rfl ⟨rfl,rfl⟩
 refine aq (aL rfl) rfl rfl rfl (dD c43) rfl rfl ?_
 refine aq (cp 0 rfl bA rfl hA0) rfl rfl rfl (dD c43) rfl rfl ?_
 refine aq (aG rfl rfl (jA _ _ _)) rfl rfl rfl (dD c43) rfl rfl ?_
 refine vV (aN rfl rfl rfl (bV (dD c43))) rfl (ai ?_)
 refine iu H (fun c44 H => ?_) fun c44 H => ?_
 ·refine aA rfl (dT c44) (ag (ae (vA rfl rfl (vA rfl rfl (ai (aH ?_))))))
  cases H
  refine vP [0] rfl rfl ?_
  exact cE (vs := [I 1,I 0]) rfl ⟨rfl,⟨rfl,trivial⟩⟩ _ rfl ⟨rfl,rfl⟩
 refine ay rfl (dF c44) (aV (ag (ag (ae (vM rfl rfl (vV (cp 0 rfl bA rfl hA0) rfl (vM rfl rfl (ai (be ?_)))))))))
 refine cf (fun k a w => ∃ i6,jo K l0 a1 k i6 = some r ∧ St 37 w0 F [(1,I a1),(22,sv0),(23,I (l0.length : Int)),(24,I i6)] [A0] a w) K ?_ ?_
 ·exact vF [0] rfl rfl (vS [1,22,23,24] rfl) fun a w h => ⟨_,H,h⟩
 ·refine fun k => aU fun i6 => cv fun H4 => ?_
  let C0_ : List Value := [I (((l0.getD i6.toNat ab).Key).Hour),cW (((l0.getD i6.toNat ab).Key).Dims_0),cW (((l0.getD i6.toNat ab).Key).Dims_1),cW (((l0.getD i6.toNat ab).Key).Dims_2),cW (((l0.getD i6.toNat ab).Key).Dims_3),I ((l0.getD i6.toNat ab).Value)]
  cases k with
  | zero => exact absurd H4 (by simp [C0_,jo])
  | succ k =>
   rw [jo] at H4
   refine ag (ae (vV (aG rfl rfl (cI _ _ _)) rfl (ai (ag ?_))))
   refine gN H4 (fun c72 H4 => ?_) fun c72 H4 => ?_
   ·refine ay rfl (dF c72) (bT (ag (ae (vA rfl rfl (vA rfl rfl (ai (aH ?_)))))))
    cases H4
    refine vP [0] rfl rfl ?_
    exact cE (vs := [I 0,I 0]) rfl ⟨rfl,⟨rfl,trivial⟩⟩ _ rfl ⟨rfl,rfl⟩
   refine aA rfl (dT c72) (aV (ag (be (ag (ae (vM rfl rfl ?_))))))
   obtain ⟨c75,H4⟩ := gq H4
   refine vV (bf (sz := 5) 0 rfl rfl bA bG rfl hA0 c75 c72) rfl ?_
   refine vV (bi (vs := C0_) rfl gz bG (bE (i := 0) rfl hA0 (by simp [C0_]) (dS bH (bB c75 c72) rfl))) rfl ?_
   refine aO (dP fM) rfl rfl rfl ?_
   rintro _ _ ⟨b24,rfl,rfl⟩
   refine vA rfl rfl ?_
   refine cj (cm (cs := [I 0,S0,S0,S0,S0,I 0]) (cs' := C0_) (us := C0_) (L' := [box b24 87 C0_,A0]) 0 rfl rfl rfl (dL rfl) bG rfl rfl (by simp [C0_]) rfl) rfl rfl ?_
   rintro _ _ rfl
   refine ai (ag (ae (vV (bi (vs := C0_) rfl gz bG (bD (i := 0) rfl)) rfl (vM rfl rfl ?_))))
   obtain ⟨x28,h28,H4⟩ := oB H4
   refine aO (bQ (first := []) (cap := []) (xs := [.tmp 29,.tmp 30]) rfl rfl wj rfl (lg.spec K (((l0.getD i6.toNat ab).Key).Hour) (((l0.getD i6.toNat ab).Key).Dims_0) (((l0.getD i6.toNat ab).Key).Dims_1) (((l0.getD i6.toNat ab).Key).Dims_2) (((l0.getD i6.toNat ab).Key).Dims_3) ((l0.getD i6.toNat ab).Value) a1 _ h28)) rfl rfl rfl ?_
   rintro _ _ ⟨rfl,rfl⟩
   refine vA rfl rfl (ai (ag (ae (vM rfl rfl (vV (aG rfl rfl (jn _ _ _)) rfl (ai ?_))))))
   refine gN H4 (fun c76 H4 => ?_) fun c76 H4 => ?_
   ·refine ay rfl (ef c76) (aV (ae (vV (aG rfl rfl (ci _ _ _) ) rfl (vM rfl rfl (ai ?_)))))
    exact vF [1] rfl rfl (vS [1,22,23,24] rfl) fun a w h => ⟨k,Nat.lt_succ_self k,_,H4,h⟩
   refine aA rfl (iC c76) (ag (ae (vM rfl rfl (vM rfl rfl (vA rfl rfl (vA rfl rfl (ai (aH ?_))))))))
   cases H4
   refine vP [1] rfl rfl ?_
   exact cE (vs := [I x28,I i6]) rfl ⟨rfl,⟨rfl,trivial⟩⟩ _ rfl ⟨rfl,rfl⟩
theorem jJ.spec (a0 a1 a2 : Int) (r : Bool) (H : jJ a0 a1 a2 = r) : bp Tryz.prog 121 [int .u64 a0,int .u64 a1,int .u64 a2] [] (fun v M => v = (bool r) ∧ M = []) := by
 unfold jJ at H
 refine bo Tryz.func121 rfl 21 rfl (nL rfl) fun F w0 => ?_
 show cB (St 21 w0 F [(0,int .u64 a0),(1,int .u64 a1),(2,int .u64 a2)] []) _
 refine ag (ae (vA rfl rfl (ai (ag (ae (vM rfl rfl (vV (aG rfl rfl (jT _ _ _)) rfl (vM rfl rfl ?_))))))))
 refine gN H (fun c4 H => ?_) fun c4 H => ?_
 ·refine au rfl rfl rfl (dF c4) rfl rfl ?_
  refine au rfl rfl rfl (dF c4) rfl rfl ?_
  refine vV (aN rfl rfl rfl (bV (dF c4))) rfl (vM rfl rfl ?_)
  refine au rfl rfl rfl rfl rfl rfl ?_
  refine au rfl rfl rfl rfl rfl rfl ?_
  refine vV (aN rfl rfl rfl rfl) rfl (vM rfl rfl ?_)
  refine au rfl rfl rfl rfl rfl rfl ?_
  refine au rfl rfl rfl rfl rfl rfl ?_
  refine vV (aN rfl rfl rfl rfl) rfl (vA rfl rfl (ai (aH ?_)))
  cases H
  refine vP [] rfl rfl ?_
  exact aT rfl rfl ⟨rfl,rfl⟩
 refine aq (aL rfl) rfl rfl rfl (dT c4) rfl rfl ?_
 refine aq (aG rfl rfl (nF _ _ _)) rfl rfl rfl (dT c4) rfl rfl ?_
 refine vV (aN rfl rfl rfl (cb (dT c4))) rfl (vM rfl rfl ?_)
 refine gN H (fun c5 H => ?_) fun c5 H => ?_
 ·refine au rfl rfl rfl (dF c5) rfl rfl ?_
  refine au rfl rfl rfl (dF c5) rfl rfl ?_
  refine vV (aN rfl rfl rfl (bV (dF c5))) rfl (vM rfl rfl ?_)
  refine au rfl rfl rfl rfl rfl rfl ?_
  refine au rfl rfl rfl rfl rfl rfl ?_
  refine vV (aN rfl rfl rfl rfl) rfl (vA rfl rfl (ai (aH ?_)))
  cases H
  refine vP [] rfl rfl ?_
  exact aT rfl rfl ⟨rfl,rfl⟩
 refine aq (aL rfl) rfl rfl rfl (dT c5) rfl rfl ?_
 refine aq (aG rfl rfl (nF _ _ _)) rfl rfl rfl (dT c5) rfl rfl ?_
 refine vV (aN rfl rfl rfl (cb (dT c5))) rfl (vM rfl rfl ?_)
 refine gN H (fun c6 H => ?_) fun c6 H => ?_
 ·refine au rfl rfl rfl (dF c6) rfl rfl ?_
  refine au rfl rfl rfl (dF c6) rfl rfl ?_
  refine vV (aN rfl rfl rfl (bV (dF c6))) rfl (vA rfl rfl (ai (aH ?_)))
  cases H
  refine vP [] rfl rfl ?_
  exact aT rfl rfl ⟨rfl,rfl⟩
 refine aq (aL rfl) rfl rfl rfl (dT c6) rfl rfl ?_
 refine aq (aG rfl rfl (nF _ _ _)) rfl rfl rfl (dT c6) rfl rfl ?_
 refine vV (aN rfl rfl rfl (cb (dT c6))) rfl (vA rfl rfl (ai (aH ?_)))
 cases H
 refine vP [] rfl rfl ?_
 exact aT rfl rfl ⟨rfl,rfl⟩
theorem mf.spec (K : Nat) (sv0 : Value) (a0_0 a0_1 a0_2 : Int) (l0 : List aB) (a1 : Int) (r : Bool) (H : mf K a0_0 a0_1 a0_2 l0 a1 = some r) : bp Tryz.prog 77 [agg #[I a0_0,I a0_1,I a0_2,sv0],I a1] [own sv0 87 6 l0.length (fl aC l0)] (fun v M => v = (bool r) ∧ M = [own sv0 87 6 l0.length (fl aC l0)]) := by
 unfold mf at H
 refine bo Tryz.func77 rfl 28 rfl (nL rfl) fun F w0 => ?_
 show cB (St 28 w0 F [(0,agg #[I a0_0,I a0_1,I a0_2,sv0]),(1,I a1)] [own sv0 87 6 l0.length (fl aC l0)]) _
 refine ag (ae ?_)
 refine aO (dz (cs := [I a0_0,I a0_1,I a0_2,sv0]) rfl rfl) rfl rfl rfl ?_
 rintro _ _ ⟨b2,rfl,rfl⟩
 refine vA rfl rfl (ai (ag (ae (vV (az (sz := 0) (o := 0) rfl dv cJ) rfl (vV (aP (v := sv0) rfl fm (aJ (i := 0) rfl rfl)) rfl (vM rfl rfl ?_))))))
 obtain ⟨x3,h3,H⟩ := oB H
 refine aO (bC (Lr := [box b2 81 [I a0_0,I a0_1,I a0_2,sv0]]) [1,0] [1,0] (first := []) (cap := []) (xs := [.tmp 9,.tmp 10]) rfl rfl oW rfl (iZ.spec K sv0 (own sv0 87 6 l0.length (fl aC l0)) l0 a1 (aQ 87) _ h3) (by decide) rfl (by decide) rfl) rfl rfl rfl ?_
 rintro _ _ ⟨rfl,rfl⟩
 refine vM rfl rfl (vV (bm rfl rfl) rfl (vV (bm rfl rfl) rfl (vA rfl rfl (vA rfl rfl (ai (ag (ae (vM rfl rfl (vV (aG rfl rfl (fG _ _ _)) rfl (vM rfl rfl ?_))))))))))
 refine gN H (fun c2 H => ?_) fun c2 H => ?_
 ·refine au rfl rfl rfl (dD c2) rfl rfl ?_
  refine au rfl rfl rfl (dD c2) rfl rfl ?_
  refine au rfl rfl rfl (dD c2) rfl rfl ?_
  refine au rfl rfl rfl (dD c2) rfl rfl ?_
  refine au rfl rfl rfl (dD c2) rfl rfl ?_
  refine au rfl rfl rfl (dD c2) rfl rfl ?_
  refine au rfl rfl rfl (dD c2) rfl rfl ?_
  refine au rfl rfl rfl (dD c2) rfl rfl ?_
  refine au rfl rfl rfl (dD c2) rfl rfl ?_
  refine au rfl rfl rfl (dD c2) rfl rfl ?_
  refine vV (aN rfl rfl rfl (bV (dD c2))) rfl (vA rfl rfl (ai (aH ?_)))
  cases H
  refine vP [1] rfl rfl ?_
  exact aT rfl rfl ⟨rfl,rfl⟩
 refine aq (az (sz := 0) (o := 0) rfl iM bd) rfl rfl rfl (dy c2) rfl rfl ?_
 refine aq (aP (v := (I a0_0)) rfl bl (aJ (i := 0) rfl rfl)) rfl rfl rfl (dy c2) rfl rfl ?_
 refine aq (cr rfl (ic Tryz.underlying2 Tryz.underlying192)) rfl rfl rfl (dy c2) rfl rfl ?_
 refine aq (az (sz := 0) (o := 0) rfl mp bd) rfl rfl rfl (dy c2) rfl rfl ?_
 refine aq (aP (v := (I a0_1)) rfl bl (aJ (i := 0) rfl rfl)) rfl rfl rfl (dy c2) rfl rfl ?_
 refine aq (cr rfl (ic Tryz.underlying2 Tryz.underlying192)) rfl rfl rfl (dy c2) rfl rfl ?_
 refine aq (az (sz := 0) (o := 0) rfl ml bd) rfl rfl rfl (dy c2) rfl rfl ?_
 refine aq (aP (v := (I a0_2)) rfl bl (aJ (i := 0) rfl rfl)) rfl rfl rfl (dy c2) rfl rfl ?_
 refine aq (cr rfl (ic Tryz.underlying2 Tryz.underlying192)) rfl rfl rfl (dy c2) rfl rfl ?_
 obtain ⟨x4,h4,H⟩ := bP H
 refine dr (bQ (first := []) (cap := []) (xs := [.tmp 19,.tmp 22,.tmp 25]) rfl rfl qQ rfl (jJ.spec (dW a0_0) (dW a0_1) (dW a0_2) _ h4)) rfl rfl rfl (dy c2) rfl rfl ?_
 rintro _ _ ⟨rfl,rfl⟩
 refine vV (aN rfl rfl rfl (cb (dy c2))) rfl (vA rfl rfl (ai (aH ?_)))
 cases H
 refine vP [1] rfl rfl ?_
 exact aT rfl rfl ⟨rfl,rfl⟩
theorem bz.spec (sv0 : Value) (A0 : HP) (l0 : List aB) (hA0 : da A0 sv0 l0.length 6 (fl aC l0)) (r : List aB) (H : bz l0 = some r) : bp Tryz.prog 78 [sv0] [A0] (fun v M => ∃ sv5 : Value,v = sv5 ∧ M = [A0,own sv5 87 6 r.length (fl aC r)]) := by
 unfold bz at H
 refine bo Tryz.func78 rfl 8 rfl (nL rfl) fun F w0 => ?_
 show cB (St 8 w0 F [(0,sv0)] [A0]) _
 refine ag (ae (vA rfl rfl (ai (ag (ag (ae (vM rfl rfl ?_)))))))
 refine iu H (fun c9 H => ?_) fun c9 H => ?_
 ·refine vV (uQ 0 rfl rfl Tryz.underlying33 rfl hA0 rfl c9) rfl (ai (ay rfl rfl (aV (ag (ae ?_)))))
  refine aO (bL (sz := 5) (xs := []) (cs := fl aC ([] : List aB)) rfl rfl bA bG fM rfl rfl (cN rfl) rfl (by decide)) rfl rfl rfl ?_
  rintro sv6 _ rfl
  refine vM rfl rfl ?_
  obtain ⟨c10,H⟩ := gq H
  refine aO (cc (sz := 5) (xs := ([] : List aB)) (ys := l0) 0 1 rfl rfl bA bG fM rfl mz rfl rfl rfl hA0 rfl kc c10) rfl rfl rfl ?_
  rintro sv7 _ rfl
  refine et [own sv7 87 6 (([] : List aB) ++ l0).length (fl aC (([] : List aB) ++ l0)),A0] rfl ?_
  refine vA rfl rfl (ai (aH ?_))
  cases H
  refine vP [1,0] rfl rfl ?_
  exact aT rfl rfl ⟨_,rfl,rfl⟩
 by_cases c11 : zm sv0 = true
 ·replace H : (some (([] : List aB))) = _ := H
  refine vV (oi 0 rfl rfl Tryz.underlying33 rfl hA0 c11) rfl (ai (aA rfl rfl (ag (ae (vA rfl rfl (ai (aH ?_)))))))
  cases H
  refine cP 87 6 ?_
  refine vP [1,0] rfl rfl ?_
  exact aT rfl rfl ⟨_,rfl,rfl⟩
 ·refine vV (oi 0 rfl rfl Tryz.underlying33 rfl hA0 (bF c11)) rfl (ai (ay rfl rfl (aV (ag (ae ?_)))))
  refine aO (bL (sz := 5) (xs := []) (cs := fl aC ([] : List aB)) rfl rfl bA bG fM rfl rfl (cN rfl) rfl (by decide)) rfl rfl rfl ?_
  rintro sv8 _ rfl
  refine vM rfl rfl ?_
  obtain ⟨c12,H⟩ := gq H
  refine aO (cc (sz := 5) (xs := ([] : List aB)) (ys := ([] : List aB)) 0 1 rfl rfl bA bG fM rfl mz rfl rfl rfl (su hA0 c9) rfl kc c12) rfl rfl rfl ?_
  rintro sv9 _ rfl
  refine et [own sv9 87 6 (([] : List aB) ++ ([] : List aB)).length (fl aC (([] : List aB) ++ ([] : List aB))),A0] rfl ?_
  refine vA rfl rfl (ai (aH ?_))
  cases H
  refine vP [1,0] rfl rfl ?_
  exact aT rfl rfl ⟨_,rfl,rfl⟩
theorem kP.spec (K p0 : Nat) (sv0 : Value) (p0_0 p0_2 : Int) (a1_0 a1_1 a1_2 : Int) (l0 : List aB) (r : (Int × (List aI) × Int)) (H : kP K p0_0 p0_2 a1_0 a1_1 a1_2 l0 = some r) : bp Tryz.prog 32 [pt p0 0,agg #[I a1_0,I a1_1,I a1_2,sv0]] [box p0 93 [I p0_0,L0,I p0_2],own sv0 87 6 l0.length (fl aC l0)] (fun v M => ∃ sv5 : JG,v = (I r.1) ∧ M = [box p0 93 [I p0_0,sv5.sv,I r.2.2],(bv sv5 81 4 al 87 6 an ao r.2.1),own sv0 87 6 l0.length (fl aC l0)]) := by
 unfold kP at H
 refine bo Tryz.func32 rfl 44 rfl (nL rfl) fun F w0 => ?_
 show cB (St 44 w0 F [(0,pt p0 0),(1,agg #[I a1_0,I a1_1,I a1_2,sv0])] [box p0 93 [I p0_0,L0,I p0_2],own sv0 87 6 l0.length (fl aC l0)]) _
 refine ag (ae ?_)
 refine aO (dz (cs := [I a1_0,I a1_1,I a1_2,sv0]) rfl rfl) rfl rfl rfl ?_
 rintro _ _ ⟨b2,rfl,rfl⟩
 let C0_ : List HP := [box b2 81 [I a1_0,I a1_1,I a1_2,sv0],box p0 93 [I p0_0,L0,I p0_2],own sv0 87 6 l0.length (fl aC l0)]
 refine vA rfl rfl (ai (ag (be (ag ?_))))
 obtain ⟨x5,h5,H⟩ := oB H
 refine ce 12 rfl (fun done a w => kH 44 w0 F [(0,pt p0 0),(1,agg #[I a1_0,I a1_1,I a1_2,sv0]),(3,pt b2 0),(4,I 0)] [(0,6,pt p0 0),(1,7,B0),(2,8,B0),(3,9,agg #[I a1_0,I a1_1,I a1_2,sv0]),(4,10,pt p0 0),(5,11,pt p0 0),(6,12,pt p0 0),(7,13,I p0_0),(8,14,bool x5),(9,15,bool (!x5)),(10,16,bool (!x5)),(11,5,bool (!x5))] done C0_ a w) (by kernel_rfl) (by kernel_rfl) (cy (vS [0,1,3,4] rfl) rfl) ?_ ?_
 ·refine ⟨?_,?_,?_,?_,?_,?_,?_,?_,?_,?_,?_,?_,trivial⟩
  ·exact fun done hi hc hcu => dV 0 rfl rfl rfl rfl (fun a => af) (aL rfl) rfl rfl rfl rfl
  ·exact fun done hi hc hcu => dV 1 rfl rfl rfl rfl (fun a => (hD 0 hcu rfl rfl rfl rfl af)) (aG rfl rfl (gA (fun w => rfl) rfl (lI Tryz.underlying25 _ _))) rfl rfl rfl rfl
  ·exact fun done hi hc hcu => dV 2 rfl rfl rfl rfl (fun a => (hD 1 hcu rfl rfl rfl rfl af)) (aL rfl) rfl rfl rfl rfl
  ·exact fun done hi hc hcu => aY (i := 3) (t := 9) (v := (agg #[I a1_0,I a1_1,I a1_2,sv0])) rfl rfl (bg rfl rfl rfl rfl) (fun a => (hD 2 hcu rfl rfl rfl rfl af)) (bi (vs := [I a1_0,I a1_1,I a1_2,sv0]) rfl jd cA (bD (i := 0) rfl)) rfl rfl (oT 3 rfl rfl rfl)
  ·exact fun done hi hc hcu => aY (i := 4) (t := 10) (v := (pt p0 0)) rfl rfl (bg rfl rfl rfl rfl) (fun a => (hD 2 hcu rfl rfl rfl rfl af)) (aL rfl) rfl rfl (oT 4 rfl rfl rfl)
  ·exact fun done hi hc hcu => aY (i := 5) (t := 11) (v := (pt p0 0)) rfl rfl (bg rfl rfl rfl rfl) (fun a => (hD 2 hcu rfl rfl rfl rfl (hD 4 hcu rfl rfl rfl rfl af))) (bq rfl) rfl rfl (oT 5 rfl rfl rfl)
  ·exact fun done hi hc hcu => aY (i := 6) (t := 12) (v := (pt p0 0)) rfl rfl (bg rfl rfl rfl rfl) (fun a => (hD 2 hcu rfl rfl rfl rfl (hD 5 hcu rfl rfl rfl rfl af))) (az (sz := 0) (o := 0) rfl nu jx) rfl rfl (oT 6 rfl rfl rfl)
  ·exact fun done hi hc hcu => aY (i := 7) (t := 13) (v := (I p0_0)) rfl rfl (bg rfl rfl rfl rfl) (fun a => (hD 2 hcu rfl rfl rfl rfl (hD 6 hcu rfl rfl rfl rfl af))) (aP (v := (I p0_0)) rfl jG (aJ (i := 1) rfl rfl)) rfl rfl (oT 7 rfl rfl rfl)
  ·exact fun done hi hc hcu => lD (i := 8) (t := 14) (v := (bool x5)) rfl rfl (bg rfl rfl rfl rfl) (fun a => (hD 2 hcu rfl rfl rfl rfl (hD 7 hcu rfl rfl rfl rfl (hD 3 hcu rfl rfl rfl rfl af)))) (bC (Lr := [box b2 81 [I a1_0,I a1_1,I a1_2,sv0],box p0 93 [I p0_0,L0,I p0_2]]) [2,0,1] [1,2,0] (first := []) (cap := []) (xs := [.tmp 9,.tmp 13]) rfl rfl qh rfl (mf.spec K sv0 a1_0 a1_1 a1_2 l0 p0_0 _ h5) (by decide) rfl (by decide) rfl) rfl rfl (oT 8 rfl rfl rfl)
  ·exact fun done hi hc hcu => aY (i := 9) (t := 15) (v := (bool (!x5))) rfl rfl (bg rfl rfl rfl rfl) (fun a => (hD 2 hcu rfl rfl rfl rfl (hD 8 hcu rfl rfl rfl rfl af))) (iR rfl (ju _)) rfl rfl (oT 9 rfl rfl rfl)
  ·exact fun done hi hc hcu => dV 10 rfl rfl rfl rfl (fun a => (hD 9 hcu rfl rfl rfl rfl (hD 2 hcu rfl rfl rfl rfl af))) (aN rfl rfl rfl rfl) rfl rfl rfl rfl
  ·exact fun done hi hc hcu => dV 11 rfl rfl rfl rfl (fun a => (hD 10 hcu rfl rfl rfl rfl af)) (cY rfl) rfl rfl rfl rfl
 ·intro done hall
  refine ck C0_ rfl (fun a => (ap (k := 11) rfl (hall 11 (by decide)) (ap (k := 0) rfl (hall 0 (by decide)) (ap (k := 1) rfl (hall 1 (by decide)) (ap (k := 2) rfl (hall 2 (by decide)) (ap (k := 3) rfl (hall 3 (by decide)) (ap (k := 4) rfl (hall 4 (by decide)) (ap (k := 5) rfl (hall 5 (by decide)) (ap (k := 6) rfl (hall 6 (by decide)) (ap (k := 7) rfl (hall 7 (by decide)) (ap (k := 8) rfl (hall 8 (by decide)) (ap (k := 9) rfl (hall 9 (by decide)) (ap (k := 10) rfl (hall 10 (by decide)) af))))))))))))) ?_
  refine iu H (fun c8 H => ?_) fun c8 H => ?_
  ·refine aA rfl c8 (ag (ae (vA rfl rfl (ai (aH ?_)))))
   cases H
   refine lK 81 4 al 87 6 an ao ?_
   refine vP [2,0,3] rfl rfl ?_
   exact aT rfl rfl ⟨nr,rfl,rfl⟩
  refine ay rfl (bF c8) (ag ?_)
  refine ce 8 rfl (fun done a w => kH 44 w0 F [(0,pt p0 0),(1,agg #[I a1_0,I a1_1,I a1_2,sv0]),(3,pt b2 0),(4,I 0),(5,bool (!x5)),(6,pt p0 0),(7,B0),(8,B0),(9,agg #[I a1_0,I a1_1,I a1_2,sv0]),(10,pt p0 0),(11,pt p0 0),(12,pt p0 0),(13,I p0_0),(14,bool x5),(15,bool (!x5)),(16,bool (!x5))] [(0,18,pt b2 0),(1,19,I a1_0),(2,20,pt p0 0),(3,21,pt p0 0),(4,22,pt p0 2),(5,23,I p0_2),(6,24,Value.bool (decide (a1_0 ≤ p0_2))),(7,17,Value.bool (decide (a1_0 ≤ p0_2)))] done C0_ a w) (by kernel_rfl) (by kernel_rfl) (cy (vS [0,1,3,4,5,6,7,8,9,10,11,12,13,14,15,16] rfl) rfl) ?_ ?_
  ·refine ⟨?_,?_,?_,?_,?_,?_,?_,?_,trivial⟩
   ·exact fun done hi hc hcu => dV 0 rfl rfl rfl rfl (fun a => af) (az (sz := 0) (o := 0) rfl iM bd) rfl rfl rfl rfl
   ·exact fun done hi hc hcu => dV 1 rfl rfl rfl rfl (fun a => (hD 0 hcu rfl rfl rfl rfl af)) (aP (v := (I a1_0)) rfl bl (aJ (i := 0) rfl rfl)) rfl rfl rfl rfl
   ·exact fun done hi hc hcu => dV 2 rfl rfl rfl rfl (fun a => af) (aL rfl) rfl rfl rfl rfl
   ·exact fun done hi hc hcu => dV 3 rfl rfl rfl rfl (fun a => (hD 2 hcu rfl rfl rfl rfl af)) (bq rfl) rfl rfl rfl rfl
   ·exact fun done hi hc hcu => dV 4 rfl rfl rfl rfl (fun a => (hD 3 hcu rfl rfl rfl rfl af)) (az (sz := 0) (o := 0) rfl mr bd) rfl rfl rfl rfl
   ·exact fun done hi hc hcu => dV 5 rfl rfl rfl rfl (fun a => (hD 4 hcu rfl rfl rfl rfl af)) (aP (v := (I p0_2)) rfl bl (aJ (i := 1) rfl rfl)) rfl rfl rfl rfl
   ·exact fun done hi hc hcu => dV 6 rfl rfl rfl rfl (fun a => (hD 5 hcu rfl rfl rfl rfl (hD 1 hcu rfl rfl rfl rfl af))) (aG rfl rfl (nF _ _ _)) rfl rfl rfl rfl
   ·exact fun done hi hc hcu => dV 7 rfl rfl rfl rfl (fun a => (hD 6 hcu rfl rfl rfl rfl af)) (cY rfl) rfl rfl rfl rfl
  ·intro done hall
   refine ck C0_ rfl (fun a => (ap (k := 7) rfl (hall 7 (by decide)) (ap (k := 0) rfl (hall 0 (by decide)) (ap (k := 1) rfl (hall 1 (by decide)) (ap (k := 2) rfl (hall 2 (by decide)) (ap (k := 3) rfl (hall 3 (by decide)) (ap (k := 4) rfl (hall 4 (by decide)) (ap (k := 5) rfl (hall 5 (by decide)) (ap (k := 6) rfl (hall 6 (by decide)) af))))))))) ?_
   refine iu H (fun c9 H => ?_) fun c9 H => ?_
   ·refine aA rfl (dT c9) (ag (ae (vA rfl rfl (ai (aH ?_)))))
    cases H
    refine lK 81 4 al 87 6 an ao ?_
    refine vP [2,0,3] rfl rfl ?_
    exact aT rfl rfl ⟨nr,rfl,rfl⟩
   refine ay rfl (dF c9) (aV (ag (ae (vM rfl rfl (vV (az (sz := 0) (o := 0) rfl iM bd) rfl (vV (aP (v := (I a1_0)) rfl bl (aJ (i := 0) rfl rfl)) rfl (vV (bq rfl) rfl (vV (az (sz := 0) (o := 0) rfl mr bd) rfl ?_))))))))
   refine cj (cm (cs := [I p0_0,L0,I p0_2]) (cs' := [I p0_0,L0,I a1_0]) (us := [I a1_0]) (L' := [box b2 81 [I a1_0,I a1_1,I a1_2,sv0],box p0 93 [I p0_0,L0,I a1_0],own sv0 87 6 l0.length (fl aC l0)]) 1 rfl rfl rfl (dL rfl) bd rfl rfl (by simp [C0_]) rfl) rfl rfl ?_
   rintro _ _ rfl
   refine ai (ag (ae (vV (az (sz := 0) (o := 0) rfl dv cJ) rfl (vV (aP (v := sv0) rfl fm (aJ (i := 0) rfl rfl)) rfl ?_))))
   obtain ⟨x6,h6,H⟩ := oB H
   refine vP [2,0,1] rfl rfl ?_
   refine aO (bI (Lr := [box b2 81 [I a1_0,I a1_1,I a1_2,sv0],box p0 93 [I p0_0,L0,I a1_0]]) (first := []) (cap := []) (xs := [.tmp 31]) rfl rfl mX rfl (bz.spec sv0 (own sv0 87 6 l0.length (fl aC l0)) l0 (aQ 87) _ h6) rfl) rfl rfl rfl ?_
   rintro sv6 _ ⟨_,⟨_,rfl,rfl⟩,rfl⟩
   refine vV (az (sz := 0) (o := 0) rfl dv cJ) rfl ?_
   refine cj (fi (cs := [I a1_0,I a1_1,I a1_2,sv0]) (cs' := [I a1_0,I a1_1,I a1_2,sv6]) (sv := sv6) (L' := [own sv0 87 6 l0.length (fl aC l0),own sv6 87 6 x6.length (fl aC x6),box b2 81 [I a1_0,I a1_1,I a1_2,sv6],box p0 93 [I p0_0,L0,I a1_0]]) 2 1 rfl rfl cJ rfl rfl (aQ 87) rfl (by simp [C0_]) rfl) rfl rfl ?_
   rintro _ _ rfl
   refine ai (ag ?_)
   obtain ⟨c10,H⟩ := gq H
   refine lK 81 4 al 87 6 an ao ?_
   let Z8_T : DT := fun ga3 => [(0,34,pt p0 0),(1,35,pt p0 0),(2,36,pt p0 0),(3,37,pt p0 1),(4,38,L0),(5,39,agg #[I a1_0,I a1_1,I a1_2,sv6]),(6,40,(ga3 6)),(7,41,(ga3 7)),(8,42,pt p0 0),(9,43,pt p0 1)]
   let Z8_L : DL := fun ga3 done => [bK (done 7) emp (bK (done 6) (own (ga3 6) 81 4 1 (al (⟨a1_0,a1_1,a1_2,x6⟩ : aI) sv6)) emp),bK (done 7) (hown (ga3 7) 81 4 al 87 6 an ao (([] : List aI) ++ [(⟨a1_0,a1_1,a1_2,x6⟩ : aI)])) (bv nr 81 4 al 87 6 an ao ([] : List aI)),own sv0 87 6 l0.length (fl aC l0),bK (done 7) emp (own sv6 87 6 x6.length (fl aC x6)),box b2 81 [I a1_0,I a1_1,I a1_2,sv6],bK (done 10) (box p0 93 [I p0_0,(ga3 7),I a1_0]) (box p0 93 [I p0_0,L0,I a1_0])]
   let Z8_I : DI := fun ga3 done a w => kH 44 w0 F [(0,pt p0 0),(1,agg #[I a1_0,I a1_1,I a1_2,sv0]),(3,pt b2 0),(4,I 0),(5,bool (!x5)),(6,pt p0 0),(7,B0),(8,B0),(9,agg #[I a1_0,I a1_1,I a1_2,sv0]),(10,pt p0 0),(11,pt p0 0),(12,pt p0 0),(13,I p0_0),(14,bool x5),(15,bool (!x5)),(16,bool (!x5)),(17,Value.bool (decide (a1_0 ≤ p0_2))),(18,pt b2 0),(19,I a1_0),(20,pt p0 0),(21,pt p0 0),(22,pt p0 2),(23,I p0_2),(24,Value.bool (decide (a1_0 ≤ p0_2))),(25,pt p0 0),(26,pt b2 0),(27,I a1_0),(28,pt p0 0),(29,pt p0 2),(30,pt b2 3),(31,sv0),(32,sv6),(33,pt b2 3)] (Z8_T ga3) done (Z8_L ga3 done) a w
   refine ce 11 rfl (fun done a w => ∃ ga3 : Nat → Value,Z8_I ga3 done a w) (by kernel_rfl) (by kernel_rfl) (fq (T := Z8_T) (L' := fun ga3 : Nat → Value => [bK false emp (bK false (own (ga3 6) 81 4 1 (al (⟨a1_0,a1_1,a1_2,x6⟩ : aI) sv6)) emp),bK false (hown (ga3 7) 81 4 al 87 6 an ao (([] : List aI) ++ [(⟨a1_0,a1_1,a1_2,x6⟩ : aI)])) (bv nr 81 4 al 87 6 an ao ([] : List aI)),own sv0 87 6 l0.length (fl aC l0),bK false emp (own sv6 87 6 x6.length (fl aC x6)),box b2 81 [I a1_0,I a1_1,I a1_2,sv6],bK false (box p0 93 [I p0_0,(ga3 7),I a1_0]) (box p0 93 [I p0_0,L0,I a1_0])]) 1 (vS [0,1,3,4,5,6,7,8,9,10,11,12,13,14,15,16,17,18,19,20,21,22,23,24,25,26,27,28,29,30,31,32,33] rfl) (fun _ => rfl)) ?_ ?_
   ·refine ⟨?_,?_,?_,?_,?_,?_,?_,?_,?_,?_,?_,trivial⟩
    ·exact fun done hi hc hcu => aS (I := Z8_I) fun ga3 => dV 0 rfl rfl rfl rfl (fun a => af) (aL rfl) rfl rfl rfl rfl
    ·exact fun done hi hc hcu => aS (I := Z8_I) fun ga3 => dV 1 rfl rfl rfl rfl (fun a => af) (aL rfl) rfl rfl rfl rfl
    ·intro done hi hc hcu
     refine aS (I := Z8_I) fun ga3 => ?_
     have d1 : done 1 = true := aX (j := 1) hcu rfl (by decide) rfl
     have n10 : done 10 = false := aM (m := 10) hc hi rfl rfl
     exact dV 2 rfl rfl rfl rfl (fun a => (ap (k := 1) rfl d1 af)) (lc (L2 := [bK (done 7) emp (bK (done 6) (own (ga3 6) 81 4 1 (al (⟨a1_0,a1_1,a1_2,x6⟩ : aI) sv6)) emp),bK (done 7) (hown (ga3 7) 81 4 al 87 6 an ao (([] : List aI) ++ [(⟨a1_0,a1_1,a1_2,x6⟩ : aI)])) (bv nr 81 4 al 87 6 an ao ([] : List aI)),own sv0 87 6 l0.length (fl aC l0),bK (done 7) emp (own sv6 87 6 x6.length (fl aC x6)),box b2 81 [I a1_0,I a1_1,I a1_2,sv6],box p0 93 [I p0_0,L0,I a1_0]]) (by simp only [C0_,Z8_T,Z8_L,n10,bK]) (bq rfl)) rfl rfl rfl rfl
    ·intro done hi hc hcu
     refine aS (I := Z8_I) fun ga3 => ?_
     have d2 : done 2 = true := aX (j := 2) hcu rfl (by decide) rfl
     have n10 : done 10 = false := aM (m := 10) hc hi rfl rfl
     exact dV 3 rfl rfl rfl rfl (fun a => (ap (k := 2) rfl d2 af)) (lc (L2 := [bK (done 7) emp (bK (done 6) (own (ga3 6) 81 4 1 (al (⟨a1_0,a1_1,a1_2,x6⟩ : aI) sv6)) emp),bK (done 7) (hown (ga3 7) 81 4 al 87 6 an ao (([] : List aI) ++ [(⟨a1_0,a1_1,a1_2,x6⟩ : aI)])) (bv nr 81 4 al 87 6 an ao ([] : List aI)),own sv0 87 6 l0.length (fl aC l0),bK (done 7) emp (own sv6 87 6 x6.length (fl aC x6)),box b2 81 [I a1_0,I a1_1,I a1_2,sv6],box p0 93 [I p0_0,L0,I a1_0]]) (by simp only [C0_,Z8_T,Z8_L,n10,bK]) (az (sz := 0) (o := 0) rfl jE jC)) rfl rfl rfl rfl
    ·intro done hi hc hcu
     refine aS (I := Z8_I) fun ga3 => ?_
     have d3 : done 3 = true := aX (j := 3) hcu rfl (by decide) rfl
     have n10 : done 10 = false := aM (m := 10) hc hi rfl rfl
     exact dV 4 rfl rfl rfl rfl (fun a => (ap (k := 3) rfl d3 af)) (lc (L2 := [bK (done 7) emp (bK (done 6) (own (ga3 6) 81 4 1 (al (⟨a1_0,a1_1,a1_2,x6⟩ : aI) sv6)) emp),bK (done 7) (hown (ga3 7) 81 4 al 87 6 an ao (([] : List aI) ++ [(⟨a1_0,a1_1,a1_2,x6⟩ : aI)])) (bv nr 81 4 al 87 6 an ao ([] : List aI)),own sv0 87 6 l0.length (fl aC l0),bK (done 7) emp (own sv6 87 6 x6.length (fl aC x6)),box b2 81 [I a1_0,I a1_1,I a1_2,sv6],box p0 93 [I p0_0,L0,I a1_0]]) (by simp only [C0_,Z8_T,Z8_L,n10,bK]) (aP (v := L0) rfl pj (aJ (i := 5) rfl rfl))) rfl rfl rfl rfl
    ·exact fun done hi hc hcu => aS (I := Z8_I) fun ga3 => dV 5 rfl rfl rfl rfl (fun a => af) (bi (vs := [I a1_0,I a1_1,I a1_2,sv6]) rfl jd cA (bD (i := 4) rfl)) rfl rfl rfl rfl
    ·intro done hi hc hcu
     refine aU (S := fun ga3 => Z8_I ga3 done) fun ga3 => ?_
     have d5 : done 5 = true := aX (j := 5) hcu rfl (by decide) rfl
     have n7 : done 7 = false := aM (m := 7) hc hi rfl rfl
     refine jq (i := 6) (t := 40) (x := ga3) (L := Z8_L) (T := Z8_T) (L2 := [emp,bK (done 7) (hown (ga3 7) 81 4 al 87 6 an ao (([] : List aI) ++ [(⟨a1_0,a1_1,a1_2,x6⟩ : aI)])) (bv nr 81 4 al 87 6 an ao ([] : List aI)),own sv0 87 6 l0.length (fl aC l0),bK (done 7) emp (own sv6 87 6 x6.length (fl aC x6)),box b2 81 [I a1_0,I a1_1,I a1_2,sv6],bK (done 10) (box p0 93 [I p0_0,(ga3 7),I a1_0]) (box p0 93 [I p0_0,L0,I a1_0])]) (B := fun v_ => (own v_ 81 4 1 (al (⟨a1_0,a1_1,a1_2,x6⟩ : aI) sv6))) 0 rfl rfl (bx rfl) (fun a => (ap (k := 5) rfl d5 af)) (by simp only [C0_,Z8_T,Z8_L,n7,hi,bK]) (bL (sz := 3) (xs := [.tmp 39]) (cs := al (⟨a1_0,a1_1,a1_2,x6⟩ : aI) sv6) rfl rfl dH cA gw rfl rfl (cN rfl) rfl (by decide)) ?_ rfl (fun v_ => ?_) rfl rfl ?_
     ·rintro _ _ rfl; rfl
     ·simp [C0_,Z8_T,Z8_L,up,kI,bK,n7,hi]
     ·rintro _ _ rfl
      exact (ax rfl rfl (ax rfl rfl (ax rfl rfl (ax rfl rfl (ax rfl rfl (ax rfl rfl (dx (ax rfl rfl (ax rfl rfl (ax rfl rfl eQ))))))))))
    ·intro done hi hc hcu
     refine aU (S := fun ga3 => Z8_I ga3 done) fun ga3 => ?_
     have d4 : done 4 = true := aX (j := 4) hcu rfl (by decide) rfl
     have d6 : done 6 = true := aX (j := 6) hcu rfl (by decide) rfl
     have n10 : done 10 = false := aM (m := 10) hc hi rfl rfl
     exact gU (i := 7) (t := 41) (x := ga3) (L := Z8_L) (T := Z8_T) (L2 := [own (ga3 6) 81 4 1 (al (⟨a1_0,a1_1,a1_2,x6⟩ : aI) sv6),(bv nr 81 4 al 87 6 an ao ([] : List aI)),own sv0 87 6 l0.length (fl aC l0),own sv6 87 6 x6.length (fl aC x6),box b2 81 [I a1_0,I a1_1,I a1_2,sv6],box p0 93 [I p0_0,L0,I a1_0]]) rfl rfl (bx rfl) (fun a => (ap (k := 6) rfl d6 (ap (k := 4) rfl d4 af))) (by simp only [C0_,Z8_T,Z8_L,d6,n10,hi,bK]) (oU (sz := 3) (fun v_ => [emp,(hown v_ 81 4 al 87 6 an ao (([] : List aI) ++ [(⟨a1_0,a1_1,a1_2,x6⟩ : aI)])),own sv0 87 6 l0.length (fl aC l0),emp,box b2 81 [I a1_0,I a1_1,I a1_2,sv6],box p0 93 [I p0_0,L0,I a1_0]]) [1,0,3,2,4,5] [1,0,3,2,4,5] (by decide) (by decide) rfl (fun _ => rfl) rfl rfl dH cA gw rfl mC rfl (jL _ _) c10) rfl rfl fun v_ M_ hM_ => ⟨kI ga3 7 v_,hM_.trans (show [emp,(hown v_ 81 4 al 87 6 an ao (([] : List aI) ++ [(⟨a1_0,a1_1,a1_2,x6⟩ : aI)])),own sv0 87 6 l0.length (fl aC l0),emp,box b2 81 [I a1_0,I a1_1,I a1_2,sv6],box p0 93 [I p0_0,L0,I a1_0]] = _ by simp [C0_,Z8_T,Z8_L,up,kI,bK,d6,n10,n10,hi]),(ax rfl rfl (ax rfl rfl (ax rfl rfl (ax rfl rfl (ax rfl rfl (ax rfl rfl (ax rfl rfl (dx (ax rfl rfl (ax rfl rfl eQ))))))))))⟩
    ·intro done hi hc hcu
     refine aS (I := Z8_I) fun ga3 => ?_
     have d0 : done 0 = true := aX (j := 0) hcu rfl (by decide) rfl
     have n9 : done 9 = false := aM (m := 9) hc hi rfl rfl
     have n10 : done 10 = false := aM (m := 10) hc n9 rfl rfl
     exact dV 8 rfl rfl rfl rfl (fun a => (ap (k := 0) rfl d0 af)) (lc (L2 := [bK (done 7) emp (bK (done 6) (own (ga3 6) 81 4 1 (al (⟨a1_0,a1_1,a1_2,x6⟩ : aI) sv6)) emp),bK (done 7) (hown (ga3 7) 81 4 al 87 6 an ao (([] : List aI) ++ [(⟨a1_0,a1_1,a1_2,x6⟩ : aI)])) (bv nr 81 4 al 87 6 an ao ([] : List aI)),own sv0 87 6 l0.length (fl aC l0),bK (done 7) emp (own sv6 87 6 x6.length (fl aC x6)),box b2 81 [I a1_0,I a1_1,I a1_2,sv6],box p0 93 [I p0_0,L0,I a1_0]]) (by simp only [C0_,Z8_T,Z8_L,n10,bK]) (bq rfl)) rfl rfl rfl rfl
    ·intro done hi hc hcu
     refine aS (I := Z8_I) fun ga3 => ?_
     have d8 : done 8 = true := aX (j := 8) hcu rfl (by decide) rfl
     have n10 : done 10 = false := aM (m := 10) hc hi rfl rfl
     exact dV 9 rfl rfl rfl rfl (fun a => (ap (k := 8) rfl d8 af)) (lc (L2 := [bK (done 7) emp (bK (done 6) (own (ga3 6) 81 4 1 (al (⟨a1_0,a1_1,a1_2,x6⟩ : aI) sv6)) emp),bK (done 7) (hown (ga3 7) 81 4 al 87 6 an ao (([] : List aI) ++ [(⟨a1_0,a1_1,a1_2,x6⟩ : aI)])) (bv nr 81 4 al 87 6 an ao ([] : List aI)),own sv0 87 6 l0.length (fl aC l0),bK (done 7) emp (own sv6 87 6 x6.length (fl aC x6)),box b2 81 [I a1_0,I a1_1,I a1_2,sv6],box p0 93 [I p0_0,L0,I a1_0]]) (by simp only [C0_,Z8_T,Z8_L,n10,bK]) (az (sz := 0) (o := 0) rfl jE jC)) rfl rfl rfl rfl
    ·intro done hi hc hcu
     refine aS (I := Z8_I) fun ga3 => ?_
     have d9 : done 9 = true := aX (j := 9) hcu rfl (by decide) rfl
     have d7 : done 7 = true := aX (j := 7) hcu rfl (by decide) rfl
     exact kh (i := 10) (L2 := [bK (done 7) emp (bK (done 6) (own (ga3 6) 81 4 1 (al (⟨a1_0,a1_1,a1_2,x6⟩ : aI) sv6)) emp),(hown (ga3 7) 81 4 al 87 6 an ao (([] : List aI) ++ [(⟨a1_0,a1_1,a1_2,x6⟩ : aI)])),own sv0 87 6 l0.length (fl aC l0),bK (done 7) emp (own sv6 87 6 x6.length (fl aC x6)),box b2 81 [I a1_0,I a1_1,I a1_2,sv6],box p0 93 [I p0_0,L0,I a1_0]]) (L3 := [bK (done 7) emp (bK (done 6) (own (ga3 6) 81 4 1 (al (⟨a1_0,a1_1,a1_2,x6⟩ : aI) sv6)) emp),(hown (ga3 7) 81 4 al 87 6 an ao (([] : List aI) ++ [(⟨a1_0,a1_1,a1_2,x6⟩ : aI)])),own sv0 87 6 l0.length (fl aC l0),bK (done 7) emp (own sv6 87 6 x6.length (fl aC x6)),box b2 81 [I a1_0,I a1_1,I a1_2,sv6],box p0 93 [I p0_0,(ga3 7),I a1_0]]) rfl rfl (bx rfl) (fun a => (ap (k := 7) rfl d7 (ap (k := 9) rfl d9 af))) (by simp only [C0_,Z8_T,Z8_L,d7,hi,bK]) (by simp [C0_,Z8_T,Z8_L,up,d7,bK]) (fi (cs := [I p0_0,L0,I a1_0]) (cs' := [I p0_0,(ga3 7),I a1_0]) (sv := (ga3 7)) (L' := [bK (done 7) emp (bK (done 6) (own (ga3 6) 81 4 1 (al (⟨a1_0,a1_1,a1_2,x6⟩ : aI) sv6)) emp),(hown (ga3 7) 81 4 al 87 6 an ao (([] : List aI) ++ [(⟨a1_0,a1_1,a1_2,x6⟩ : aI)])),own sv0 87 6 l0.length (fl aC l0),bK (done 7) emp (own sv6 87 6 x6.length (fl aC x6)),box b2 81 [I a1_0,I a1_1,I a1_2,sv6],box p0 93 [I p0_0,(ga3 7),I a1_0]]) 5 1 rfl rfl jC rfl rfl sQ rfl (by simp [C0_,Z8_T,Z8_L]) rfl) (kZ rfl)
   ·intro done hall
    refine aU (S := fun ga3 => Z8_I ga3 done) fun ga3 => ?_
    refine ck [emp,(hown (ga3 7) 81 4 al 87 6 an ao (([] : List aI) ++ [(⟨a1_0,a1_1,a1_2,x6⟩ : aI)])),own sv0 87 6 l0.length (fl aC l0),emp,box b2 81 [I a1_0,I a1_1,I a1_2,sv6],box p0 93 [I p0_0,(ga3 7),I a1_0]] (by simp only [C0_,Z8_T,Z8_L,hall 6 (by decide),hall 7 (by decide),hall 10 (by decide),bK]) (hL hall rfl) ?_
    refine no 1 rfl fun sv8 hsv8 => ?_
    rw [← hsv8]
    refine et [emp,(bv sv8 81 4 al 87 6 an ao (([] : List aI) ++ [(⟨a1_0,a1_1,a1_2,x6⟩ : aI)])),own sv0 87 6 l0.length (fl aC l0),emp,box b2 81 [I a1_0,I a1_1,I a1_2,sv6],box p0 93 [I p0_0,sv8.sv,I a1_0]] rfl ?_
    refine ag (ae (vA rfl rfl (ai (aH ?_))))
    cases H
    refine vP [5,1,2] rfl rfl ?_
    exact aT rfl rfl ⟨sv8,rfl,rfl⟩
theorem eG.spec (p0 : Nat) (sv0 : JG) (p0_0 : Int) (l0 : List aI) (p0_2 : Int) (r : Unit) (H : eG p0_0 l0 p0_2 = r) : bp Tryz.prog 91 [pt p0 0] [box p0 93 [I p0_0,sv0.sv,I p0_2],(bv sv0 81 4 al 87 6 an ao l0)] (fun v M => v = sv0.sv ∧ M = [box p0 93 [I p0_0,sv0.sv,I p0_2],(bv sv0 81 4 al 87 6 an ao l0)]) := by
 unfold eG at H
 refine bo Tryz.func91 rfl 9 rfl (nL rfl) fun F w0 => ?_
 show cB (St 9 w0 F [(0,pt p0 0)] [box p0 93 [I p0_0,sv0.sv,I p0_2],(bv sv0 81 4 al 87 6 an ao l0)]) _
 refine ag (ae (vA rfl rfl (ai (ag (ag (ae (vM rfl rfl ?_)))))))
 refine vV (aG rfl rfl (gA (fun w => rfl) rfl (lI Tryz.underlying25 _ _))) rfl ?_
 refine ai (ay rfl rfl (aV (ag (ae (vM rfl rfl (vV (bq rfl) rfl (vV (az (sz := 0) (o := 0) rfl jE jC) rfl (vV (aP (v := sv0.sv) rfl pj (aJ (i := 0) rfl rfl)) rfl (vA rfl rfl (ai (aH ?_)))))))))))
 cases H
 refine vP [0,1] rfl rfl ?_
 exact aT rfl rfl ⟨rfl,rfl⟩
theorem lq.spec (K : Nat) (sv0 : JG) (l0 : List aI) (a1 a2 : Int) (r : List aB) (H : lq K l0 a1 a2 = some r) : bp Tryz.prog 93 [sv0.sv,I a1,I a2] [(bv sv0 81 4 al 87 6 an ao l0)] (fun v M => ∃ sv165 : Value,v = sv165 ∧ M = [(bv sv0 81 4 al 87 6 an ao l0),own sv165 87 6 r.length (fl aC r)]) := by
 unfold lq at H
 refine bo Tryz.func93 rfl 43 rfl (nL rfl) fun F w0 => ?_
 show cB (St 43 w0 F [(0,sv0.sv),(1,I a1),(2,I a2)] [(bv sv0 81 4 al 87 6 an ao l0)]) _
 refine ag (ae (vA rfl rfl (ai (ag (ag (ae (vM rfl rfl (vV (cp 0 rfl dH rfl bt) rfl (vM rfl rfl (ai (be ?_)))))))))))
 refine cf (fun k a w => ∃ i26,∃ l35,∃ sv275 : Value,jv K l0 a1 a2 k i26 l35 = some r ∧ St 43 w0 F [(1,I a1),(2,I a2),(6,sv275),(11,sv0.sv),(12,I (l0.length : Int)),(13,I i26)] [(bv sv0 81 4 al 87 6 an ao l0),own sv275 87 6 l35.length (fl aC l35)] a w) K ?_ ?_
 ·refine cP 87 6 ?_
  exact vF [1,0] rfl rfl (vS [1,2,6,11,12,13] rfl) fun a w h => ⟨_,_,_,H,h⟩
 ·refine fun k => aU fun i26 => aU fun l35 => aU fun sv275 => cv fun H37 => ?_
  let C1_ : List Value := [I ((l0.getD i26.toNat am).Seq),I ((l0.getD i26.toNat am).Tick),I ((l0.getD i26.toNat am).Budget),(sv0.vs i26.toNat)]
  cases k with
  | zero => exact absurd H37 (by simp [C1_,jv])
  | succ k =>
   rw [jv] at H37
   refine ag (ae (vV (aG rfl rfl (cI _ _ _)) rfl (ai (ag ?_))))
   refine gN H37 (fun c654 H37 => ?_) fun c654 H37 => ?_
   ·refine ay rfl (dF c654) (bT (ag (ae (vM rfl rfl (vA rfl rfl (ai (aH ?_)))))))
    cases H37
    refine vP [0,1] rfl rfl ?_
    exact aT rfl rfl ⟨_,rfl,rfl⟩
   refine aA rfl (dT c654) (aV ?_)
   obtain ⟨x12,H39,H37⟩ := oB H37
   refine cn (fun a w => ∃ sv316 : Value,St 43 w0 F [(1,I a1),(2,I a2),(6,sv316),(11,sv0.sv),(12,I (l0.length : Int)),(13,I i26)] [(bv sv0 81 4 al 87 6 an ao l0),own sv316 87 6 x12.length (fl aC x12)] a w) ?_ ?_
   ·refine be (ag (ae ?_))
    obtain ⟨c684,H39⟩ := gq H39
    refine vV (bf (sz := 3) 0 rfl rfl dH cA rfl bt c684 c654) rfl ?_
    refine vV (bi (vs := C1_) rfl jd cA (bE (i := 0) rfl bt (by simp [C1_]) (og (z := am) dC (bB c684 c654) rfl))) rfl ?_
    refine aO (dP gw) rfl rfl rfl ?_
    rintro _ _ ⟨b162,rfl,rfl⟩
    refine cj (cm (cs := [I 0,I 0,I 0,L0]) (cs' := C1_) (us := C1_) (L' := [box b162 81 C1_,(bv sv0 81 4 al 87 6 an ao l0),own sv275 87 6 l35.length (fl aC l35)]) 0 rfl rfl rfl (gK rfl (gK rfl (gK rfl (oS 1 rfl (show da _ _ ((l0.getD i26.toNat am).Facts).length 6 (fl aC ((l0.getD i26.toNat am).Facts)) from hP (z := am) (bB c684 c654)) nw)))) cA rfl rfl (by simp [C1_]) rfl) rfl rfl ?_
    rintro _ _ rfl
    refine ai (ag (ae (vV (az (sz := 0) (o := 0) rfl dv cJ) rfl (vV (aP (v := (sv0.vs i26.toNat)) rfl fm (aJ (i := 0) rfl rfl)) rfl (vV (cp 1 rfl bA rfl (show da _ _ ((l0.getD i26.toNat am).Facts).length 6 (fl aC ((l0.getD i26.toNat am).Facts)) from hP (z := am) (bB c684 c654))) rfl (vM rfl rfl (ai (be ?_))))))))
    refine cf (fun k a w => ∃ i30,∃ l41,∃ sv321 : Value,io K l0 a1 a2 i26 k i30 l41 = some x12 ∧ St 43 w0 F [(1,I a1),(2,I a2),(6,sv321),(11,sv0.sv),(12,I (l0.length : Int)),(13,I i26),(18,(sv0.vs i26.toNat)),(19,I (((l0.getD i26.toNat am).Facts).length : Int)),(20,I i30)] [(bv sv0 81 4 al 87 6 an ao l0),own sv321 87 6 l41.length (fl aC l41)] a w) K ?_ ?_
    ·exact vF [1,2] rfl rfl (vS [1,2,6,11,12,13,18,19,20] rfl) fun a w h => ⟨_,_,_,H39,h⟩
    ·refine fun k => aU fun i30 => aU fun l41 => aU fun sv321 => cv fun H40 => ?_
     let C0_ : List Value := [I (((((l0.getD i26.toNat am).Facts).getD i30.toNat ab).Key).Hour),cW (((((l0.getD i26.toNat am).Facts).getD i30.toNat ab).Key).Dims_0),cW (((((l0.getD i26.toNat am).Facts).getD i30.toNat ab).Key).Dims_1),cW (((((l0.getD i26.toNat am).Facts).getD i30.toNat ab).Key).Dims_2),cW (((((l0.getD i26.toNat am).Facts).getD i30.toNat ab).Key).Dims_3),I ((((l0.getD i26.toNat am).Facts).getD i30.toNat ab).Value)]
     cases k with
     | zero => exact absurd H40 (by simp [C1_,C0_,io])
     | succ k =>
      rw [io] at H40
      refine ag (ae (vV (aG rfl rfl (cI _ _ _)) rfl (ai (ag ?_))))
      refine gN H40 (fun c704 H40 => ?_) fun c704 H40 => ?_
      ·refine ay rfl (dF c704) (bT ?_)
       cases H40
       exact vF [0,1] rfl rfl (vS [1,2,6,11,12,13] rfl) fun a w h => ⟨_,h⟩
      refine aA rfl (dT c704) (aV (ag (be (ag (ae ?_)))))
      obtain ⟨c709,H40⟩ := gq H40
      refine vV (bf (sz := 5) 0 rfl rfl bA bG rfl (show da _ _ ((l0.getD i26.toNat am).Facts).length 6 (fl aC ((l0.getD i26.toNat am).Facts)) from hP (z := am) (bB c684 c654)) c709 c704) rfl ?_
      refine vV (bi (vs := C0_) rfl gz bG (bE (i := 0) rfl (show da _ _ ((l0.getD i26.toNat am).Facts).length 6 (fl aC ((l0.getD i26.toNat am).Facts)) from hP (z := am) (bB c684 c654)) (by simp [C1_,C0_]) (dS bH (bB c709 c704) rfl))) rfl ?_
      refine aO (dP fM) rfl rfl rfl ?_
      rintro _ _ ⟨b168,rfl,rfl⟩
      refine cj (cm (cs := [I 0,S0,S0,S0,S0,I 0]) (cs' := C0_) (us := C0_) (L' := [box b168 87 C0_,(bv sv0 81 4 al 87 6 an ao l0),own sv321 87 6 l41.length (fl aC l41)]) 0 rfl rfl rfl (dL rfl) bG rfl rfl (by simp [C1_,C0_]) rfl) rfl rfl ?_
      rintro _ _ rfl
      refine ai (ag (ae (vV (az (sz := 4) (o := 0) rfl de ey) rfl (vV (az (sz := 0) (o := 0) rfl eH bd) rfl (vV (aP (v := (I (((((l0.getD i26.toNat am).Facts).getD i30.toNat ab).Key).Hour))) rfl bl (aJ (i := 0) rfl rfl)) rfl (vM rfl rfl (vV (aG rfl rfl (jT _ _ _)) rfl (vM rfl rfl ?_))))))))
      refine gN H40 (fun c710 H40 => ?_) fun c710 H40 => ?_
      ·refine au rfl rfl rfl (dF c710) rfl rfl ?_
       refine au rfl rfl rfl (dF c710) rfl rfl ?_
       refine au rfl rfl rfl (dF c710) rfl rfl ?_
       refine au rfl rfl rfl (dF c710) rfl rfl ?_
       refine au rfl rfl rfl (dF c710) rfl rfl ?_
       refine vV (aN rfl rfl rfl (bV (dF c710))) rfl (ai (ay rfl rfl (aV (ae (vV (aG rfl rfl (ci _ _ _) ) rfl (vM rfl rfl (ai ?_)))))))
       exact vF [1,2] rfl rfl (vS [1,2,6,11,12,13,18,19,20] rfl) fun a w h => ⟨k,Nat.lt_succ_self k,_,_,_,H40,h⟩
      refine aq (az (sz := 4) (o := 0) rfl de ey) rfl rfl rfl (dT c710) rfl rfl ?_
      refine aq (az (sz := 0) (o := 0) rfl eH bd) rfl rfl rfl (dT c710) rfl rfl ?_
      refine aq (aP (v := (I (((((l0.getD i26.toNat am).Facts).getD i30.toNat ab).Key).Hour))) rfl bl (aJ (i := 0) rfl rfl)) rfl rfl rfl (dT c710) rfl rfl ?_
      refine aq (aL rfl) rfl rfl rfl (dT c710) rfl rfl ?_
      refine aq (aG rfl rfl (cI _ _ _)) rfl rfl rfl (dT c710) rfl rfl ?_
      refine vV (aN rfl rfl rfl (cb (dT c710))) rfl (ai ?_)
      refine gN H40 (fun c711 H40 => ?_) fun c711 H40 => ?_
      ·refine ay rfl (dF c711) (aV (ae (vV (aG rfl rfl (ci _ _ _) ) rfl (vM rfl rfl (ai ?_)))))
       exact vF [1,2] rfl rfl (vS [1,2,6,11,12,13,18,19,20] rfl) fun a w h => ⟨k,Nat.lt_succ_self k,_,_,_,H40,h⟩
      refine aA rfl (dT c711) (ae (vM rfl rfl (vV (bi (vs := C0_) rfl gz bG (bD (i := 0) rfl)) rfl ?_)))
      refine aO (bL (sz := 5) (xs := [.tmp 37]) (cs := fl aC [(⟨(⟨((((l0.getD i26.toNat am).Facts).getD i30.toNat ab).Key).Hour,((((l0.getD i26.toNat am).Facts).getD i30.toNat ab).Key).Dims_0,((((l0.getD i26.toNat am).Facts).getD i30.toNat ab).Key).Dims_1,((((l0.getD i26.toNat am).Facts).getD i30.toNat ab).Key).Dims_2,((((l0.getD i26.toNat am).Facts).getD i30.toNat ab).Key).Dims_3⟩ : bc),(((l0.getD i26.toNat am).Facts).getD i30.toNat ab).Value⟩ : aB)]) rfl rfl bA bG fM rfl rfl (cN rfl) rfl (by decide)) rfl rfl rfl ?_
      rintro sv328 _ rfl
      obtain ⟨c712,H40⟩ := gq H40
      refine aO (cc (sz := 5) (xs := l41) (ys := [(⟨(⟨((((l0.getD i26.toNat am).Facts).getD i30.toNat ab).Key).Hour,((((l0.getD i26.toNat am).Facts).getD i30.toNat ab).Key).Dims_0,((((l0.getD i26.toNat am).Facts).getD i30.toNat ab).Key).Dims_1,((((l0.getD i26.toNat am).Facts).getD i30.toNat ab).Key).Dims_2,((((l0.getD i26.toNat am).Facts).getD i30.toNat ab).Key).Dims_3⟩ : bc),(((l0.getD i26.toNat am).Facts).getD i30.toNat ab).Value⟩ : aB)]) 3 0 rfl rfl bA bG fM rfl mz rfl rfl rfl (aQ 87) rfl kc c712) rfl rfl rfl ?_
      rintro sv329 _ rfl
      refine et [own sv328 87 6 [(⟨(⟨((((l0.getD i26.toNat am).Facts).getD i30.toNat ab).Key).Hour,((((l0.getD i26.toNat am).Facts).getD i30.toNat ab).Key).Dims_0,((((l0.getD i26.toNat am).Facts).getD i30.toNat ab).Key).Dims_1,((((l0.getD i26.toNat am).Facts).getD i30.toNat ab).Key).Dims_2,((((l0.getD i26.toNat am).Facts).getD i30.toNat ab).Key).Dims_3⟩ : bc),(((l0.getD i26.toNat am).Facts).getD i30.toNat ab).Value⟩ : aB)].length (fl aC [(⟨(⟨((((l0.getD i26.toNat am).Facts).getD i30.toNat ab).Key).Hour,((((l0.getD i26.toNat am).Facts).getD i30.toNat ab).Key).Dims_0,((((l0.getD i26.toNat am).Facts).getD i30.toNat ab).Key).Dims_1,((((l0.getD i26.toNat am).Facts).getD i30.toNat ab).Key).Dims_2,((((l0.getD i26.toNat am).Facts).getD i30.toNat ab).Key).Dims_3⟩ : bc),(((l0.getD i26.toNat am).Facts).getD i30.toNat ab).Value⟩ : aB)]),box b168 87 C0_,(bv sv0 81 4 al 87 6 an ao l0),own sv329 87 6 (l41 ++ [(⟨(⟨((((l0.getD i26.toNat am).Facts).getD i30.toNat ab).Key).Hour,((((l0.getD i26.toNat am).Facts).getD i30.toNat ab).Key).Dims_0,((((l0.getD i26.toNat am).Facts).getD i30.toNat ab).Key).Dims_1,((((l0.getD i26.toNat am).Facts).getD i30.toNat ab).Key).Dims_2,((((l0.getD i26.toNat am).Facts).getD i30.toNat ab).Key).Dims_3⟩ : bc),(((l0.getD i26.toNat am).Facts).getD i30.toNat ab).Value⟩ : aB)]).length (fl aC (l41 ++ [(⟨(⟨((((l0.getD i26.toNat am).Facts).getD i30.toNat ab).Key).Hour,((((l0.getD i26.toNat am).Facts).getD i30.toNat ab).Key).Dims_0,((((l0.getD i26.toNat am).Facts).getD i30.toNat ab).Key).Dims_1,((((l0.getD i26.toNat am).Facts).getD i30.toNat ab).Key).Dims_2,((((l0.getD i26.toNat am).Facts).getD i30.toNat ab).Key).Dims_3⟩ : bc),(((l0.getD i26.toNat am).Facts).getD i30.toNat ab).Value⟩ : aB)]))] rfl ?_
      refine vA rfl rfl (ai (ae (vV (aG rfl rfl (ci _ _ _) ) rfl (vM rfl rfl (ai ?_)))))
      exact vF [2,3] rfl rfl (vS [1,2,6,11,12,13,18,19,20] rfl) fun a w h => ⟨k,Nat.lt_succ_self k,_,_,_,H40,h⟩
   ·refine aU fun sv316 => ?_
    refine ae (vV (aG rfl rfl (ci _ _ _) ) rfl (vM rfl rfl (ai ?_)))
    exact vF [0,1] rfl rfl (vS [1,2,6,11,12,13] rfl) fun a w h => ⟨k,Nat.lt_succ_self k,_,_,_,H37,h⟩
theorem fE.spec (K p0 : Nat) (sv0 : JG) (p0_0 : Int) (l0 : List aI) (p0_2 a1 a2 : Int) (r : List aB) (H : fE K p0_0 l0 p0_2 a1 a2 = some r) : bp Tryz.prog 51 [pt p0 0,I a1,I a2] [box p0 93 [I p0_0,sv0.sv,I p0_2],(bv sv0 81 4 al 87 6 an ao l0)] (fun v M => ∃ sv2 : Value,v = sv2 ∧ M = [box p0 93 [I p0_0,sv0.sv,I p0_2],(bv sv0 81 4 al 87 6 an ao l0),own sv2 87 6 r.length (fl aC r)]) := by
 unfold fE at H
 refine bo Tryz.func51 rfl 12 rfl (nL rfl) fun F w0 => ?_
 show cB (St 12 w0 F [(0,pt p0 0),(1,I a1),(2,I a2)] [box p0 93 [I p0_0,sv0.sv,I p0_2],(bv sv0 81 4 al 87 6 an ao l0)]) _
 refine ag (ae (vA rfl rfl (ai (ag (ae (vM rfl rfl ?_))))))
 obtain ⟨u2,h3,H⟩ := bP H
 refine aO (bC (Lr := []) [0,1] [0,1] (first := []) (cap := []) (xs := [.tmp 7]) rfl rfl nX rfl (eG.spec p0 sv0 p0_0 l0 p0_2 _ h3) (by decide) rfl (by decide) rfl) rfl rfl rfl ?_
 rintro _ _ ⟨rfl,rfl⟩
 refine vM rfl rfl (vM rfl rfl ?_)
 obtain ⟨x2,h4,H⟩ := oB H
 refine vP [1,0] rfl rfl ?_
 refine aO (bI (Lr := [box p0 93 [I p0_0,sv0.sv,I p0_2]]) (first := []) (cap := []) (xs := [.tmp 8,.tmp 9,.tmp 10]) rfl rfl za rfl (lq.spec K sv0 l0 a1 a2 _ h4) rfl) rfl rfl rfl ?_
 rintro sv3 _ ⟨_,⟨_,rfl,rfl⟩,rfl⟩
 refine vA rfl rfl (ai (aH ?_))
 cases H
 refine vP [2,0,1] rfl rfl ?_
 exact aT rfl rfl ⟨_,rfl,rfl⟩
theorem eu.spec (sv0 : Value) (l0 : List Int) (r : List Int) (H : eu l0 = some r) : bp Tryz.prog 122 [sv0] [own sv0 2 1 l0.length (fl (eI .i64) l0)] (fun v M => v = (tU #[]) ∧ M = [own sv0 2 1 r.length (fl (eI .i64) r)]) := by
 unfold eu at H
 split at H
 ·cases H
  exact A7 sv0 l0 (by omega)
 ·cases H
theorem dN.spec (sv0 : Value) (l0 : List Int) (r : List Int) (H : dN l0 = some r) : bp Tryz.prog 123 [sv0] [own sv0 2 1 l0.length (fl (eI .i64) l0)] (fun v M => ∃ sv2 : Value,v = sv2 ∧ M = [own sv2 2 1 r.length (fl (eI .i64) r)]) := by
 unfold dN at H
 split at H
 ·cases H
  exact wY sv0 l0 (by omega)
 ·cases H
theorem ko.spec (K : Nat) (sv0 : Value) (A0 : HP) (l0 : List aB) (hA0 : da A0 sv0 l0.length 6 (fl aC l0)) (r : List Int) (H : ko K l0 = some r) : bp Tryz.prog 79 [sv0] [A0] (fun v M => ∃ sv29 : Value,v = sv29 ∧ M = [A0,own sv29 2 1 r.length (fl (eI .i64) r)]) := by
 unfold ko at H
 refine bo Tryz.func79 rfl 22 rfl (nL rfl) fun F w0 => ?_
 show cB (St 22 w0 F [(0,sv0)] [A0]) _
 refine ag (ae (vA rfl rfl (ai ?_)))
 obtain ⟨x4,H5,H⟩ := oB H
 refine cn (fun a w => ∃ sv43 : Value,St 22 w0 F [(2,sv43)] [A0,own sv43 2 1 x4.length (fl (eI .i64) x4)] a w) ?_ ?_
 ·refine ag (ae (vM rfl rfl (vV (cp 0 rfl bA rfl hA0) rfl (vM rfl rfl (ai (be ?_))))))
  refine cf (fun k a w => ∃ i4,∃ l7,∃ sv48 : Value,ja K l0 k i4 l7 = some x4 ∧ St 22 w0 F [(2,sv48),(5,sv0),(6,I (l0.length : Int)),(7,I i4)] [A0,own sv48 2 1 l7.length (fl (eI .i64) l7)] a w) K ?_ ?_
  ·refine cP 2 1 ?_
   exact vF [1,0] rfl rfl (vS [2,5,6,7] rfl) fun a w h => ⟨_,_,_,H5,h⟩
  ·refine fun k => aU fun i4 => aU fun l7 => aU fun sv48 => cv fun H6 => ?_
   let C0_ : List Value := [I (((l0.getD i4.toNat ab).Key).Hour),cW (((l0.getD i4.toNat ab).Key).Dims_0),cW (((l0.getD i4.toNat ab).Key).Dims_1),cW (((l0.getD i4.toNat ab).Key).Dims_2),cW (((l0.getD i4.toNat ab).Key).Dims_3),I ((l0.getD i4.toNat ab).Value)]
   cases k with
   | zero => exact absurd H6 (by simp [C0_,ja])
   | succ k =>
    rw [ja] at H6
    refine ag (ae (vV (aG rfl rfl (cI _ _ _)) rfl (ai (ag ?_))))
    refine gN H6 (fun c60 H6 => ?_) fun c60 H6 => ?_
    ·refine ay rfl (dF c60) (bT ?_)
     cases H6
     exact vF [0,1] rfl rfl (vS [2] rfl) fun a w h => ⟨_,h⟩
    refine aA rfl (dT c60) (aV (ag (be (ag (ae ?_)))))
    obtain ⟨c63,H6⟩ := gq H6
    refine vV (bf (sz := 5) 0 rfl rfl bA bG rfl hA0 c63 c60) rfl ?_
    refine vV (bi (vs := C0_) rfl gz bG (bE (i := 0) rfl hA0 (by simp [C0_]) (dS bH (bB c63 c60) rfl))) rfl ?_
    refine aO (dP fM) rfl rfl rfl ?_
    rintro _ _ ⟨b24,rfl,rfl⟩
    refine cj (cm (cs := [I 0,S0,S0,S0,S0,I 0]) (cs' := C0_) (us := C0_) (L' := [box b24 87 C0_,A0,own sv48 2 1 l7.length (fl (eI .i64) l7)]) 0 rfl rfl rfl (dL rfl) bG rfl rfl (by simp [C0_]) rfl) rfl rfl ?_
    rintro _ _ rfl
    refine ai (ae (vM rfl rfl (vV (az (sz := 4) (o := 0) rfl de ey) rfl (vV (az (sz := 0) (o := 0) rfl eH bd) rfl (vV (aP (v := (I (((l0.getD i4.toNat ab).Key).Hour))) rfl bl (aJ (i := 0) rfl rfl)) rfl ?_)))))
    refine aO (bL (sz := 0) (xs := [.tmp 14]) (cs := fl (eI .i64) [((l0.getD i4.toNat ab).Key).Hour]) rfl rfl dk bd kv rfl rfl (cN rfl) rfl (by decide)) rfl rfl rfl ?_
    rintro sv55 _ rfl
    obtain ⟨c64,H6⟩ := gq H6
    refine aO (cc (sz := 0) (xs := l7) (ys := [((l0.getD i4.toNat ab).Key).Hour]) 3 0 rfl rfl dk bd kv rfl lQ rfl rfl rfl (aQ 2) rfl (ir _) c64) rfl rfl rfl ?_
    rintro sv56 _ rfl
    refine et [own sv55 2 1 [((l0.getD i4.toNat ab).Key).Hour].length (fl (eI .i64) [((l0.getD i4.toNat ab).Key).Hour]),box b24 87 C0_,A0,own sv56 2 1 (l7 ++ [((l0.getD i4.toNat ab).Key).Hour]).length (fl (eI .i64) (l7 ++ [((l0.getD i4.toNat ab).Key).Hour]))] rfl ?_
    refine vA rfl rfl (ai (ae (vV (aG rfl rfl (ci _ _ _) ) rfl (vM rfl rfl (ai ?_)))))
    exact vF [2,3] rfl rfl (vS [2,5,6,7] rfl) fun a w h => ⟨k,Nat.lt_succ_self k,_,_,_,H6,h⟩
 ·refine aU fun sv43 => ?_
  refine ag (ae (vM rfl rfl ?_))
  obtain ⟨x5,h3,H⟩ := oB H
  refine vP [1,0] rfl rfl ?_
  refine aO (bI (Lr := [A0]) (first := []) (cap := []) (xs := [.tmp 18]) rfl rfl vN rfl (eu.spec sv43 x4 _ h3) rfl) rfl rfl rfl ?_
  rintro _ _ ⟨_,⟨rfl,rfl⟩,rfl⟩
  refine ai (ag (ae (vM rfl rfl ?_)))
  obtain ⟨x6,h4,H⟩ := oB H
  refine aO (bI (Lr := [A0]) (first := []) (cap := []) (xs := [.tmp 20]) rfl rfl wG rfl (dN.spec sv43 x5 _ h4) rfl) rfl rfl rfl ?_
  rintro sv57 _ ⟨_,⟨_,rfl,rfl⟩,rfl⟩
  refine vA rfl rfl (ai (aH ?_))
  cases H
  refine vP [1,0] rfl rfl ?_
  exact aT rfl rfl ⟨_,rfl,rfl⟩
theorem iB.spec (K p0 : Nat) (sv0 : JG) (p0_0 : Int) (l0 : List aI) (p0_2 : Int) (r : List Int) (H : iB K p0_0 l0 p0_2 = some r) : bp Tryz.prog 34 [pt p0 0] [box p0 93 [I p0_0,sv0.sv,I p0_2],(bv sv0 81 4 al 87 6 an ao l0)] (fun v M => ∃ sv3 : Value,v = sv3 ∧ M = [box p0 93 [I p0_0,sv0.sv,I p0_2],(bv sv0 81 4 al 87 6 an ao l0),own sv3 2 1 r.length (fl (eI .i64) r)]) := by
 unfold iB at H
 refine bo Tryz.func34 rfl 6 rfl (nL rfl) fun F w0 => ?_
 let C0_ : List HP := [box p0 93 [I p0_0,sv0.sv,I p0_2],(bv sv0 81 4 al 87 6 an ao l0)]
 show cB (St 6 w0 F [(0,pt p0 0)] C0_) _
 refine ag (ae (vA rfl rfl (ai (ag (ae (vM rfl rfl ?_))))))
 obtain ⟨x3,h3,H⟩ := oB H
 refine aO (bI (Lr := []) (first := []) (cap := []) (xs := [.tmp 3,.const (I 0),.const (I 4611686018427387904)]) rfl rfl pQ rfl (fE.spec K p0 sv0 p0_0 l0 p0_2 0 4611686018427387904 _ h3) rfl) rfl rfl rfl ?_
 rintro sv4 _ ⟨_,⟨_,rfl,rfl⟩,rfl⟩
 obtain ⟨x4,h4,H⟩ := oB H
 refine vP [2,0,1] rfl rfl ?_
 refine aO (bI (Lr := C0_) (first := []) (cap := []) (xs := [.tmp 4]) rfl rfl yM rfl (ko.spec K sv4 (own sv4 87 6 x3.length (fl aC x3)) x3 (aQ 87) _ h4) rfl) rfl rfl rfl ?_
 rintro sv5 _ ⟨_,⟨_,rfl,rfl⟩,rfl⟩
 refine vA rfl rfl (ai (aH ?_))
 cases H
 refine vP [2,3,1] rfl rfl ?_
 exact aT rfl rfl ⟨_,rfl,rfl⟩
theorem ka.spec (p0 p1 : Nat) (a0 a1_0 : Int) (a1_1 : List UInt8) (a1_2 : List UInt8) (a1_3 : List UInt8) (a1_4 : List UInt8) (a1_5 p0_0 p1_0 : Int) (r : Bool) (H : ka a0 a1_0 a1_1 a1_2 a1_3 a1_4 a1_5 p0_0 p1_0 = r) : bp Tryz.prog 81 [I a0,agg #[I a1_0,cW a1_1,cW a1_2,cW a1_3,cW a1_4,I a1_5],pt p0 0,pt p1 0] [box p0 2 [I p0_0],box p1 2 [I p1_0]] (fun v M => v = (bool r) ∧ M = [box p0 2 [I p0_0],box p1 2 [I p1_0]]) := by
 unfold ka at H
 refine bo Tryz.func81 rfl 19 rfl (nL rfl) fun F w0 => ?_
 show cB (St 19 w0 F [(0,I a0),(1,agg #[I a1_0,cW a1_1,cW a1_2,cW a1_3,cW a1_4,I a1_5]),(2,pt p0 0),(3,pt p1 0)] [box p0 2 [I p0_0],box p1 2 [I p1_0]]) _
 refine ag (ae ?_)
 refine aO (dz (cs := [I a1_0,cW a1_1,cW a1_2,cW a1_3,cW a1_4,I a1_5]) rfl rfl) rfl rfl rfl ?_
 rintro _ _ ⟨b2,rfl,rfl⟩
 refine vA rfl rfl (ai (ag (ae (vV (az (sz := 4) (o := 0) rfl de ey) rfl (vV (az (sz := 0) (o := 0) rfl eH bd) rfl (vV (aP (v := (I a1_0)) rfl bl (aJ (i := 0) rfl rfl)) rfl (vV (aP (v := (I p0_0)) rfl bl (aJ (i := 1) rfl rfl)) rfl (vV (aG rfl rfl (jT _ _ _)) rfl (vM rfl rfl ?_)))))))))
 refine gN H (fun c2 H => ?_) fun c2 H => ?_
 ·refine au rfl rfl rfl (dF c2) rfl rfl ?_
  refine au rfl rfl rfl (dF c2) rfl rfl ?_
  refine au rfl rfl rfl (dF c2) rfl rfl ?_
  refine au rfl rfl rfl (dF c2) rfl rfl ?_
  refine au rfl rfl rfl (dF c2) rfl rfl ?_
  refine vV (aN rfl rfl rfl (bV (dF c2))) rfl (vA rfl rfl (ai (aH ?_)))
  cases H
  refine vP [1,2] rfl rfl ?_
  exact aT rfl rfl ⟨rfl,rfl⟩
 refine aq (az (sz := 4) (o := 0) rfl de ey) rfl rfl rfl (dT c2) rfl rfl ?_
 refine aq (az (sz := 0) (o := 0) rfl eH bd) rfl rfl rfl (dT c2) rfl rfl ?_
 refine aq (aP (v := (I a1_0)) rfl bl (aJ (i := 0) rfl rfl)) rfl rfl rfl (dT c2) rfl rfl ?_
 refine aq (aP (v := (I p1_0)) rfl bl (aJ (i := 2) rfl rfl)) rfl rfl rfl (dT c2) rfl rfl ?_
 refine aq (aG rfl rfl (cI _ _ _)) rfl rfl rfl (dT c2) rfl rfl ?_
 refine vV (aN rfl rfl rfl (cb (dT c2))) rfl (vA rfl rfl (ai (aH ?_)))
 cases H
 refine vP [1,2] rfl rfl ?_
 exact aT rfl rfl ⟨rfl,rfl⟩
theorem gO.spec (p0 p1 : Nat) (p2 p3 : Nat) (sv0 : Value) (A0 : HP) (a0_0 : Int) (a0_1 : List UInt8) (a0_2 : List UInt8) (a0_3 : List UInt8) (a0_4 : List UInt8) (a0_5 p1_0 : Int) (p2_0 p3_0 : Int) (p3_1 p3_2 : Int) (l0 : List aB) (hA0 : da A0 sv0 l0.length 6 (fl aC l0)) (r : Bool) (H : gO a0_0 a0_1 a0_2 a0_3 a0_4 a0_5 p1_0 p2_0 p3_0 p3_1 p3_2 l0 = r) : bp Tryz.prog 125 [agg #[I a0_0,cW a0_1,cW a0_2,cW a0_3,cW a0_4,I a0_5],pt p0 0,pt p3 0] [box p0 148 [(Value.func (.func 81) #[] #[pt p1 0,pt p2 0])],box p1 2 [I p1_0],box p2 2 [I p2_0],box p3 81 [I p3_0,I p3_1,I p3_2,sv0],A0] (fun v M => v = (bool r) ∧ M = [box p0 148 [(Value.func (.func 81) #[] #[pt p1 0,pt p2 0])],box p1 2 [I p1_0],box p2 2 [I p2_0],box p3 81 [I p3_0,I p3_1,I p3_2,sv0],A0]) := by
 unfold gO at H
 refine bo Tryz.func125 rfl 10 rfl (nL rfl) fun F w0 => ?_
 let C0_ : List Value := [I a0_0,cW a0_1,cW a0_2,cW a0_3,cW a0_4,I a0_5]
 show cB (St 10 w0 F [(0,agg #[I a0_0,cW a0_1,cW a0_2,cW a0_3,cW a0_4,I a0_5]),(1,pt p0 0),(2,pt p3 0)] [box p0 148 [(Value.func (.func 81) #[] #[pt p1 0,pt p2 0])],box p1 2 [I p1_0],box p2 2 [I p2_0],box p3 81 [I p3_0,I p3_1,I p3_2,sv0],A0]) _
 refine ag (ae ?_)
 refine aO (dz (cs := C0_) rfl rfl) rfl rfl rfl ?_
 rintro _ _ ⟨b2,rfl,rfl⟩
 refine vA rfl rfl (ai (ag (ae ?_)))
 refine vV (aP (v := (Value.func (.func 81) #[] #[pt p1 0,pt p2 0])) rfl ta (aJ (i := 1) rfl rfl)) rfl ?_
 refine vV (az (sz := 0) (o := 0) rfl iM bd) rfl (vV (aP (v := (I p3_0)) rfl bl (aJ (i := 4) rfl rfl)) rfl (vV (bi (vs := C0_) rfl gz bG (bD (i := 0) rfl)) rfl ?_))
 obtain ⟨x2,h2,H⟩ := bP H
 refine aO (bC (Lr := [box b2 87 C0_,box p0 148 [(Value.func (.func 81) #[] #[pt p1 0,pt p2 0])],box p3 81 [I p3_0,I p3_1,I p3_2,sv0],A0]) [2,3,0,1,4,5] [2,3,0,1,4,5] (first := []) (cap := [pt p1 0,pt p2 0]) (xs := [.tmp 7,.tmp 8]) rfl rfl yV rfl (ka.spec p1 p2 p3_0 a0_0 a0_1 a0_2 a0_3 a0_4 a0_5 p1_0 p2_0 _ h2) (by decide) rfl (by decide) rfl) rfl rfl rfl ?_
 rintro _ _ ⟨rfl,rfl⟩
 refine vA rfl rfl (ai (aH ?_))
 cases H
 refine vP [1,2,3,4,5] rfl rfl ?_
 exact aT rfl rfl ⟨rfl,rfl⟩
theorem cK.spec (K : Nat) (sv0 : Value) (A0 : HP) (p0 p1 : Nat) (p2 p3 : Nat) (sv1 : Value) (A1 : HP) (l0 : List aB) (p1_0 p2_0 : Int) (p3_0 p3_1 p3_2 : Int) (l1 : List aB) (hA0 : da A0 sv0 l0.length 6 (fl aC l0)) (hA1 : da A1 sv1 l1.length 6 (fl aC l1)) (r : Int) (H : cK K l0 p1_0 p2_0 p3_0 p3_1 p3_2 l1 = some r) : bp Tryz.prog 161 [sv0,(Value.func (.func 125) #[] #[pt p0 0,pt p3 0])] [A0,box p0 148 [(Value.func (.func 81) #[] #[pt p1 0,pt p2 0])],box p1 2 [I p1_0],box p2 2 [I p2_0],box p3 81 [I p3_0,I p3_1,I p3_2,sv1],A1] (fun v M => v = (I r) ∧ M = [A0,box p0 148 [(Value.func (.func 81) #[] #[pt p1 0,pt p2 0])],box p1 2 [I p1_0],box p2 2 [I p2_0],box p3 81 [I p3_0,I p3_1,I p3_2,sv1],A1]) := by
 unfold cK at H
 refine bo Tryz.func161 rfl 19 rfl (nL rfl) fun F w0 => ?_
 show cB (St 19 w0 F [(0,sv0),(1,(Value.func (.func 125) #[] #[pt p0 0,pt p3 0]))] [A0,box p0 148 [(Value.func (.func 81) #[] #[pt p1 0,pt p2 0])],box p1 2 [I p1_0],box p2 2 [I p2_0],box p3 81 [I p3_0,I p3_1,I p3_2,sv1],A1]) _
 refine ag (ae (vA rfl rfl (ai (ag (ag (ae (vM rfl rfl (vV (cp 0 rfl bA rfl hA0) rfl (vM rfl rfl (ai (be ?_)))))))))))
 refine cf (fun k a w => ∃ i5,cl K l0 p1_0 p2_0 p3_0 p3_1 p3_2 l1 k i5 = some r ∧ St 19 w0 F [(0,sv0),(1,(Value.func (.func 125) #[] #[pt p0 0,pt p3 0])),(7,I (l0.length : Int)),(8,I i5)] [A0,box p0 148 [(Value.func (.func 81) #[] #[pt p1 0,pt p2 0])],box p1 2 [I p1_0],box p2 2 [I p2_0],box p3 81 [I p3_0,I p3_1,I p3_2,sv1],A1] a w) K ?_ ?_
 ·exact vF [0,1,2,3,4,5] rfl rfl (vS [0,1,7,8] rfl) fun a w h => ⟨_,H,h⟩
 ·refine fun k => aU fun i5 => cv fun H4 => ?_
  cases k with
  | zero => exact absurd H4 (by simp [cl])
  | succ k =>
   rw [cl] at H4
   refine ag (ae (vV (aG rfl rfl (cI _ _ _)) rfl (ai (ag ?_))))
   refine gN H4 (fun c60 H4 => ?_) fun c60 H4 => ?_
   ·refine ay rfl (dF c60) (bT (ag (ae (vA rfl rfl (ai (aH ?_))))))
    cases H4
    refine vP [0,1,2,3,4,5] rfl rfl ?_
    exact aT rfl rfl ⟨rfl,rfl⟩
   refine aA rfl (dT c60) (aV (ag (be (ag (ae (vM rfl rfl (vA rfl rfl (ai (ag (ae (vM rfl rfl ?_)))))))))))
   refine vM rfl rfl (vM rfl rfl ?_)
   obtain ⟨c63,H4⟩ := gq H4
   refine vV (bf (sz := 5) 0 rfl rfl bA bG rfl hA0 c63 c60) rfl ?_
   refine vV (bi (vs := [I (((l0.getD i5.toNat ab).Key).Hour),cW (((l0.getD i5.toNat ab).Key).Dims_0),cW (((l0.getD i5.toNat ab).Key).Dims_1),cW (((l0.getD i5.toNat ab).Key).Dims_2),cW (((l0.getD i5.toNat ab).Key).Dims_3),I ((l0.getD i5.toNat ab).Value)]) rfl gz bG (bE (i := 0) rfl hA0 (by simp) (dS bH (bB c63 c60) rfl))) rfl ?_
   obtain ⟨x24,h24,H4⟩ := bP H4
   refine aO (bC (Lr := [A0]) [1,2,3,4,5,0] [5,0,1,2,3,4] (first := []) (cap := [pt p0 0,pt p3 0]) (xs := [.tmp 15]) rfl rfl nj rfl (gO.spec p0 p1 p2 p3 sv1 A1 (((l0.getD i5.toNat ab).Key).Hour) (((l0.getD i5.toNat ab).Key).Dims_0) (((l0.getD i5.toNat ab).Key).Dims_1) (((l0.getD i5.toNat ab).Key).Dims_2) (((l0.getD i5.toNat ab).Key).Dims_3) ((l0.getD i5.toNat ab).Value) p1_0 p2_0 p3_0 p3_1 p3_2 l1 hA1 _ h24) (by decide) rfl (by decide) rfl) rfl rfl rfl ?_
   rintro _ _ ⟨rfl,rfl⟩
   refine ai ?_
   refine iu H4 (fun c64 H4 => ?_) fun c64 H4 => ?_
   ·refine aA rfl c64 (ag (ae (vM rfl rfl (vA rfl rfl (ai (aH ?_))))))
    cases H4
    refine vP [0,1,2,3,4,5] rfl rfl ?_
    exact aT rfl rfl ⟨rfl,rfl⟩
   refine ay rfl (bF c64) (aV (ae (vV (aG rfl rfl (ci _ _ _) ) rfl (vM rfl rfl (ai ?_)))))
   exact vF [0,1,2,3,4,5] rfl rfl (vS [0,1,7,8] rfl) fun a w h => ⟨k,Nat.lt_succ_self k,_,H4,h⟩
theorem ct.spec (K : Nat) (sv0 : Value) (p0 p1 : Nat) (p2 p3 : Nat) (sv1 : Value) (A1 : HP) (l0 : List aB) (p1_0 p2_0 : Int) (p3_0 p3_1 p3_2 : Int) (l1 : List aB) (hA1 : da A1 sv1 l1.length 6 (fl aC l1)) (r : List aB) (H : ct K l0 p1_0 p2_0 p3_0 p3_1 p3_2 l1 = some r) : bp Tryz.prog 124 [sv0,(Value.func (.func 125) #[] #[pt p0 0,pt p3 0])] [own sv0 87 6 l0.length (fl aC l0),box p0 148 [(Value.func (.func 81) #[] #[pt p1 0,pt p2 0])],box p1 2 [I p1_0],box p2 2 [I p2_0],box p3 81 [I p3_0,I p3_1,I p3_2,sv1],A1] (fun v M => ∃ sv2 : Value,v = sv2 ∧ M = [box p0 148 [(Value.func (.func 81) #[] #[pt p1 0,pt p2 0])],box p1 2 [I p1_0],box p2 2 [I p2_0],box p3 81 [I p3_0,I p3_1,I p3_2,sv1],A1,own sv2 87 6 r.length (fl aC r)]) := by
 unfold ct at H
 refine bo Tryz.func124 rfl 42 rfl (nL rfl) fun F w0 => ?_
 show cB (St 42 w0 F [(0,sv0),(1,(Value.func (.func 125) #[] #[pt p0 0,pt p3 0]))] [own sv0 87 6 l0.length (fl aC l0),box p0 148 [(Value.func (.func 81) #[] #[pt p1 0,pt p2 0])],box p1 2 [I p1_0],box p2 2 [I p2_0],box p3 81 [I p3_0,I p3_1,I p3_2,sv1],A1]) _
 refine ag (ae (vA rfl rfl (ai (ag (ae (vM rfl rfl (vM rfl rfl ?_)))))))
 obtain ⟨x15,h14,H⟩ := oB H
 refine aO (bC (Lr := []) [0,1,2,3,4,5] [0,1,2,3,4,5] (first := []) (cap := []) (xs := [.tmp 8,.tmp 9]) rfl rfl rj rfl (cK.spec K sv0 (own sv0 87 6 l0.length (fl aC l0)) p0 p1 p2 p3 sv1 A1 l0 p1_0 p2_0 p3_0 p3_1 p3_2 l1 (aQ 87) hA1 _ h14) (by decide) rfl (by decide) rfl) rfl rfl rfl ?_
 rintro _ _ ⟨rfl,rfl⟩
 refine vA rfl rfl (ai (ag (ag (ae (vM rfl rfl (vV (aG rfl rfl (fG _ _ _)) rfl (ai ?_)))))))
 refine iu H (fun c67 H => ?_) fun c67 H => ?_
 ·refine aA rfl (dy c67) (ag (ae (vM rfl rfl (vA rfl rfl (ai (aH ?_))))))
  cases H
  refine vP [1,2,3,4,5,0] rfl rfl ?_
  exact aT rfl rfl ⟨_,rfl,rfl⟩
 refine ay rfl (dD c67) (aV ?_)
 obtain ⟨x22,H5,H⟩ := oB H
 refine cn (fun a w => St 42 w0 F [(0,sv0),(5,I x22.2)] [own sv0 87 6 x22.1.length (fl aC x22.1),box p0 148 [(Value.func (.func 81) #[] #[pt p1 0,pt p2 0])],box p1 2 [I p1_0],box p2 2 [I p2_0],box p3 81 [I p3_0,I p3_1,I p3_2,sv1],A1] a w) ?_ ?_
 ·refine ag (ae (vM rfl rfl (vV (aG rfl rfl (ci _ _ _) ) rfl (vA rfl rfl (ai (be ?_))))))
  refine cf (fun k a w => ∃ i10,∃ i11,∃ l8,ca K p1_0 p2_0 p3_0 p3_1 p3_2 l1 k i10 i11 l8 = some x22 ∧ St 42 w0 F [(0,sv0),(1,(Value.func (.func 125) #[] #[pt p0 0,pt p3 0])),(5,I i10),(6,I i11)] [own sv0 87 6 l8.length (fl aC l8),box p0 148 [(Value.func (.func 81) #[] #[pt p1 0,pt p2 0])],box p1 2 [I p1_0],box p2 2 [I p2_0],box p3 81 [I p3_0,I p3_1,I p3_2,sv1],A1] a w) K ?_ ?_
  ·exact vF [0,1,2,3,4,5] rfl rfl (vS [0,1,5,6] rfl) fun a w h => ⟨_,_,_,H5,h⟩
  ·refine fun k => aU fun i10 => aU fun i11 => aU fun l8 => cv fun H6 => ?_
   let C0_ : List Value := [I (((l8.getD i11.toNat ab).Key).Hour),cW (((l8.getD i11.toNat ab).Key).Dims_0),cW (((l8.getD i11.toNat ab).Key).Dims_1),cW (((l8.getD i11.toNat ab).Key).Dims_2),cW (((l8.getD i11.toNat ab).Key).Dims_3),I ((l8.getD i11.toNat ab).Value)]
   cases k with
   | zero => exact absurd H6 (by simp [C0_,ca])
   | succ k =>
    rw [ca] at H6
    refine ag (ag (ae (vM rfl rfl (vM rfl rfl (vV (cp 0 rfl bA rfl (aQ 87)) rfl (vV (aG rfl rfl (cI _ _ _)) rfl (ai ?_)))))))
    refine gN H6 (fun c119 H6 => ?_) fun c119 H6 => ?_
    ·refine ay rfl (dF c119) (bT ?_)
     cases H6
     exact vF [0,1,2,3,4,5] rfl rfl (vS [0,5] rfl) fun a w h => h
    refine aA rfl (dT c119) (aV (ag (be (ag (ae (vM rfl rfl (vM rfl rfl ?_)))))))
    obtain ⟨c124,H6⟩ := gq H6
    refine vV (bf (sz := 5) 0 rfl rfl bA bG rfl (aQ 87) c124 c119) rfl ?_
    refine vV (bi (vs := C0_) rfl gz bG (bE (i := 0) rfl (aQ 87) (by simp [C0_]) (dS bH (bB c124 c119) rfl))) rfl ?_
    refine aO (dP fM) rfl rfl rfl ?_
    rintro _ _ ⟨b24,rfl,rfl⟩
    refine cj (cm (cs := [I 0,S0,S0,S0,S0,I 0]) (cs' := C0_) (us := C0_) (L' := [box b24 87 C0_,own sv0 87 6 l8.length (fl aC l8),box p0 148 [(Value.func (.func 81) #[] #[pt p1 0,pt p2 0])],box p1 2 [I p1_0],box p2 2 [I p2_0],box p3 81 [I p3_0,I p3_1,I p3_2,sv1],A1]) 0 rfl rfl rfl (dL rfl) bG rfl rfl (by simp [C0_]) rfl) rfl rfl ?_
    rintro _ _ rfl
    refine ai (ag (ae (vM rfl rfl (vV (bi (vs := C0_) rfl gz bG (bD (i := 0) rfl)) rfl ?_))))
    obtain ⟨x28,h26,H6⟩ := bP H6
    refine aO (bC (Lr := [box b24 87 C0_,own sv0 87 6 l8.length (fl aC l8)]) [2,3,4,5,6,0,1] [5,6,0,1,2,3,4] (first := []) (cap := [pt p0 0,pt p3 0]) (xs := [.tmp 27]) rfl rfl nj rfl (gO.spec p0 p1 p2 p3 sv1 A1 (((l8.getD i11.toNat ab).Key).Hour) (((l8.getD i11.toNat ab).Key).Dims_0) (((l8.getD i11.toNat ab).Key).Dims_1) (((l8.getD i11.toNat ab).Key).Dims_2) (((l8.getD i11.toNat ab).Key).Dims_3) ((l8.getD i11.toNat ab).Value) p1_0 p2_0 p3_0 p3_1 p3_2 l1 hA1 _ h26) (by decide) rfl (by decide) rfl) rfl rfl rfl ?_
    rintro _ _ ⟨rfl,rfl⟩
    refine vV (iR rfl (ju _)) rfl (ai ?_)
    refine gN H6 (fun c125 H6 => ?_) fun c125 H6 => ?_
    ·refine ay rfl (bF c125) (aV (ae (vM rfl rfl (vV (aG rfl rfl (ci _ _ _) ) rfl (vA rfl rfl (ai ?_))))))
     exact vF [1,2,3,4,5,6] rfl rfl (vS [0,1,5,6] rfl) fun a w h => ⟨k,Nat.lt_succ_self k,_,_,_,H6,h⟩
    refine aA rfl c125 (ag (ae (vM rfl rfl (vM rfl rfl (vV (bi (vs := C0_) rfl gz bG (bD (i := 0) rfl)) rfl ?_)))))
    obtain ⟨c126,H6⟩ := gq H6
    obtain ⟨c127,H6⟩ := gq H6
    refine vV (bf (sz := 5) 1 rfl rfl bA bG rfl (aQ 87) c126 c127) rfl ?_
    refine cj (qk (z := ab) (y := (⟨(⟨((l8.getD i11.toNat ab).Key).Hour,((l8.getD i11.toNat ab).Key).Dims_0,((l8.getD i11.toNat ab).Key).Dims_1,((l8.getD i11.toNat ab).Key).Dims_2,((l8.getD i11.toNat ab).Key).Dims_3⟩ : bc),(l8.getD i11.toNat ab).Value⟩ : aB)) (us := C0_) (L' := [box b24 87 C0_,own sv0 87 6 (l8.set i10.toNat (⟨(⟨((l8.getD i11.toNat ab).Key).Hour,((l8.getD i11.toNat ab).Key).Dims_0,((l8.getD i11.toNat ab).Key).Dims_1,((l8.getD i11.toNat ab).Key).Dims_2,((l8.getD i11.toNat ab).Key).Dims_3⟩ : bc),(l8.getD i11.toNat ab).Value⟩ : aB)).length (fl aC (l8.set i10.toNat (⟨(⟨((l8.getD i11.toNat ab).Key).Hour,((l8.getD i11.toNat ab).Key).Dims_0,((l8.getD i11.toNat ab).Key).Dims_1,((l8.getD i11.toNat ab).Key).Dims_2,((l8.getD i11.toNat ab).Key).Dims_3⟩ : bc),(l8.getD i11.toNat ab).Value⟩ : aB))),box p0 148 [(Value.func (.func 81) #[] #[pt p1 0,pt p2 0])],box p1 2 [I p1_0],box p2 2 [I p2_0],box p3 81 [I p3_0,I p3_1,I p3_2,sv1],A1]) 1 rfl rfl rfl (qK rfl) bG bH (bB c126 c127) rfl rfl rfl rfl rfl) rfl rfl ?_
    rintro _ _ rfl
    refine ai (ae (vM rfl rfl (vV (aG rfl rfl (ci _ _ _) ) rfl (vA rfl rfl (ai (ae (vM rfl rfl (vV (aG rfl rfl (ci _ _ _) ) rfl (vA rfl rfl (ai ?_))))))))))
    exact vF [1,2,3,4,5,6] rfl rfl (vS [0,1,5,6] rfl) fun a w h => ⟨k,Nat.lt_succ_self k,_,_,_,H6,h⟩
 ·refine ag (ae (vM rfl rfl (vM rfl rfl ?_)))
  obtain ⟨c128,H⟩ := gq H
  obtain ⟨c129,H⟩ := gq H
  refine vV (lm 0 rfl rfl bA bG rfl (aQ 87) c128 c129) rfl ?_
  refine cj (te (sz := 5) (lo := x22.2.toNat) (z := ab) 0 rfl bA fM rfl bH rfl rfl rfl (kE c128 c129)) rfl rfl ?_
  rintro _ _ rfl
  refine et [own sv0 87 6 (x22.1.take x22.2.toNat ++ List.replicate (x22.1.length - x22.2.toNat) ab).length (fl aC (x22.1.take x22.2.toNat ++ List.replicate (x22.1.length - x22.2.toNat) ab)),box p0 148 [(Value.func (.func 81) #[] #[pt p1 0,pt p2 0])],box p1 2 [I p1_0],box p2 2 [I p2_0],box p3 81 [I p3_0,I p3_1,I p3_2,sv1],A1] rfl ?_
  refine ai (ag (ae (vM rfl rfl (vM rfl rfl ?_))))
  obtain ⟨c130,H⟩ := gq H
  refine vV (mb 0 rfl rfl bA bG rfl (aQ 87) c128 c130) rfl (vA rfl rfl (ai (aH ?_)))
  refine kL 0 _ (own (il sv0 0 x22.2.toNat 6) 87 6 ((x22.1.take x22.2.toNat ++ List.replicate (x22.1.length - x22.2.toNat) ab).take x22.2.toNat).length (fl aC ((x22.1.take x22.2.toNat ++ List.replicate (x22.1.length - x22.2.toNat) ab).take x22.2.toNat))) rfl (sZ bH (kE c128 c130)) rfl ?_
  refine et [own (il sv0 0 x22.2.toNat 6) 87 6 ((x22.1.take x22.2.toNat ++ List.replicate (x22.1.length - x22.2.toNat) ab).take x22.2.toNat).length (fl aC ((x22.1.take x22.2.toNat ++ List.replicate (x22.1.length - x22.2.toNat) ab).take x22.2.toNat)),box p0 148 [(Value.func (.func 81) #[] #[pt p1 0,pt p2 0])],box p1 2 [I p1_0],box p2 2 [I p2_0],box p3 81 [I p3_0,I p3_1,I p3_2,sv1],A1] rfl ?_
  cases H
  refine vP [1,2,3,4,5,0] rfl rfl ?_
  exact aT rfl rfl ⟨_,rfl,rfl⟩
theorem kx.spec (K p0 : Nat) (sv0 : JG) (p1 p2 : Nat) (p0_0 : Int) (l0 : List aI) (p0_2 p1_0 p2_0 : Int) (r : ((List aI) × Int)) (H : kx K p0_0 l0 p0_2 p1_0 p2_0 = some r) : bp Tryz.prog 80 [pt p0 0,(Value.func (.func 81) #[] #[pt p1 0,pt p2 0])] [box p0 93 [I p0_0,sv0.sv,I p0_2],(bv sv0 81 4 al 87 6 an ao l0),box p1 2 [I p1_0],box p2 2 [I p2_0]] (fun v M => ∃ sv52 : JG,v = (I r.2) ∧ M = [box p0 93 [I p0_0,sv52.sv,I p0_2],(bv sv52 81 4 al 87 6 an ao r.1),(bv sv0 81 4 al 87 6 an ao l0),box p1 2 [I p1_0],box p2 2 [I p2_0]]) := by
 unfold kx at H
 refine bo Tryz.func80 rfl 48 rfl (nL rfl) fun F w0 => ?_
 show cB (St 48 w0 F [(0,pt p0 0),(1,(Value.func (.func 81) #[] #[pt p1 0,pt p2 0]))] [box p0 93 [I p0_0,sv0.sv,I p0_2],(bv sv0 81 4 al 87 6 an ao l0),box p1 2 [I p1_0],box p2 2 [I p2_0]]) _
 refine ag (ae ?_)
 refine aO (dz (cs := [(Value.func (.func 81) #[] #[pt p1 0,pt p2 0])]) rfl rfl) rfl rfl rfl ?_
 rintro _ _ ⟨b14,rfl,rfl⟩
 refine vA rfl rfl (ai (ag (ae (vA rfl rfl (ai ?_)))))
 obtain ⟨x38,H5,H⟩ := oB H
 refine cn (fun a w => ∃ sv78 : JG,St 48 w0 F [(0,pt p0 0),(4,I x38.2),(5,sv78.sv)] [box p0 93 [I p0_0,sv0.sv,I p0_2],(bv sv0 81 4 al 87 6 an ao l0),box p1 2 [I p1_0],box p2 2 [I p2_0],(bv sv78 81 4 al 87 6 an ao x38.1)] a w) ?_ ?_
 ·refine ag (ae (vM rfl rfl ?_))
  obtain ⟨u4,h40,H5⟩ := bP H5
  refine aO (bC (Lr := [box b14 148 [(Value.func (.func 81) #[] #[pt p1 0,pt p2 0])],box p1 2 [I p1_0],box p2 2 [I p2_0]]) [1,2,0,3,4] [2,0,1,3,4] (first := []) (cap := []) (xs := [.tmp 9]) rfl rfl nX rfl (eG.spec p0 sv0 p0_0 l0 p0_2 _ h40) (by decide) rfl (by decide) rfl) rfl rfl rfl ?_
  rintro _ _ ⟨rfl,rfl⟩
  refine vV (cp 2 rfl dH rfl bt) rfl (vM rfl rfl (ai (be ?_)))
  refine cf (fun k a w => ∃ i10,∃ i11,∃ l7,∃ sv87 : JG,gW K l0 p1_0 p2_0 k i10 i11 l7 = some x38 ∧ St 48 w0 F [(0,pt p0 0),(3,pt b14 0),(4,I i10),(5,sv87.sv),(10,sv0.sv),(11,I (l0.length : Int)),(12,I i11)] [box p0 93 [I p0_0,sv0.sv,I p0_2],(bv sv0 81 4 al 87 6 an ao l0),box p1 2 [I p1_0],box p2 2 [I p2_0],box b14 148 [(Value.func (.func 81) #[] #[pt p1 0,pt p2 0])],(bv sv87 81 4 al 87 6 an ao l7)] a w) K ?_ ?_
  ·refine lK 81 4 al 87 6 an ao ?_
   exact vF [2,3,4,5,1,0] rfl rfl (vS [0,3,4,5,10,11,12] rfl) fun a w h => ⟨_,_,_,nr,H5,h⟩
  ·refine fun k => aU fun i10 => aU fun i11 => aU fun l7 => aU fun sv87 => cv fun H6 => ?_
   let C0_ : List Value := [I ((l0.getD i11.toNat am).Seq),I ((l0.getD i11.toNat am).Tick),I ((l0.getD i11.toNat am).Budget),(sv0.vs i11.toNat)]
   cases k with
   | zero => exact absurd H6 (by simp [C0_,gW])
   | succ k =>
    rw [gW] at H6
    refine ag (ae (vV (aG rfl rfl (cI _ _ _)) rfl (ai (ag ?_))))
    refine gN H6 (fun c82 H6 => ?_) fun c82 H6 => ?_
    ·refine ay rfl (dF c82) (bT ?_)
     cases H6
     exact vF [0,1,2,3,5] rfl rfl (vS [0,4,5] rfl) fun a w h => ⟨sv87,h⟩
    refine aA rfl (dT c82) (aV (ag (be (ag (ae ?_)))))
    obtain ⟨c86,H6⟩ := gq H6
    refine vV (bf (sz := 3) 1 rfl rfl dH cA rfl bt c86 c82) rfl ?_
    refine vV (bi (vs := C0_) rfl jd cA (bE (i := 1) rfl bt (by simp [C0_]) (og (z := am) dC (bB c86 c82) rfl))) rfl ?_
    refine aO (dP gw) rfl rfl rfl ?_
    rintro _ _ ⟨b26,rfl,rfl⟩
    refine cj (cm (cs := [I 0,I 0,I 0,L0]) (cs' := C0_) (us := C0_) (L' := [box b26 81 C0_,box p0 93 [I p0_0,sv0.sv,I p0_2],(bv sv0 81 4 al 87 6 an ao l0),box p1 2 [I p1_0],box p2 2 [I p2_0],box b14 148 [(Value.func (.func 81) #[] #[pt p1 0,pt p2 0])],(bv sv87 81 4 al 87 6 an ao l7)]) 0 rfl rfl rfl (gK rfl (gK rfl (gK rfl (oS 2 rfl (show da _ _ ((l0.getD i11.toNat am).Facts).length 6 (fl aC ((l0.getD i11.toNat am).Facts)) from hP (z := am) (bB c86 c82)) nw)))) cA rfl rfl (by simp [C0_]) rfl) rfl rfl ?_
    rintro _ _ rfl
    refine ai (ag (ae (vV (az (sz := 0) (o := 0) rfl dv cJ) rfl (vV (aP (v := (sv0.vs i11.toNat)) rfl fm (aJ (i := 0) rfl rfl)) rfl (vV (cp 2 rfl bA rfl (show da _ _ ((l0.getD i11.toNat am).Facts).length 6 (fl aC ((l0.getD i11.toNat am).Facts)) from hP (z := am) (bB c86 c82))) rfl (vA rfl rfl (ai (ag (ae (vV (az (sz := 0) (o := 0) rfl dv cJ) rfl (vV (aP (v := (sv0.vs i11.toNat)) rfl fm (aJ (i := 0) rfl rfl)) rfl ?_)))))))))))
    obtain ⟨x49,h51,H6⟩ := oB H6
    refine vP [2,0,1,3,4,5,6] rfl rfl ?_
    refine aO (bI (Lr := [box b26 81 C0_,box p0 93 [I p0_0,sv0.sv,I p0_2],box p1 2 [I p1_0],box p2 2 [I p2_0],box b14 148 [(Value.func (.func 81) #[] #[pt p1 0,pt p2 0])],(bv sv87 81 4 al 87 6 an ao l7)]) (first := []) (cap := []) (xs := [.tmp 20]) rfl rfl mX rfl (bz.spec (sv0.vs i11.toNat) (bv sv0 81 4 al 87 6 an ao l0) ((l0.getD i11.toNat am).Facts) (show da _ _ ((l0.getD i11.toNat am).Facts).length 6 (fl aC ((l0.getD i11.toNat am).Facts)) from hP (z := am) (bB c86 c82)) _ h51) rfl) rfl rfl rfl ?_
    rintro sv100 _ ⟨_,⟨_,rfl,rfl⟩,rfl⟩
    refine vV (iA (first := []) (cap := [.tmp 3,.tmp 7]) rfl rfl) rfl ?_
    obtain ⟨x50,h52,H6⟩ := oB H6
    refine vP [1,6,4,5,2,0,3,7] rfl rfl ?_
    refine aO (bI (Lr := [box p0 93 [I p0_0,sv0.sv,I p0_2],(bv sv87 81 4 al 87 6 an ao l7)]) (first := []) (cap := []) (xs := [.tmp 21,.tmp 22]) rfl rfl re rfl (ct.spec K sv100 b14 p1 p2 b26 (sv0.vs i11.toNat) (bv sv0 81 4 al 87 6 an ao l0) x49 p1_0 p2_0 ((l0.getD i11.toNat am).Seq) ((l0.getD i11.toNat am).Tick) ((l0.getD i11.toNat am).Budget) ((l0.getD i11.toNat am).Facts) (show da _ _ ((l0.getD i11.toNat am).Facts).length 6 (fl aC ((l0.getD i11.toNat am).Facts)) from hP (z := am) (bB c86 c82)) _ h52) rfl) rfl rfl rfl ?_
    rintro sv101 _ ⟨_,⟨_,rfl,rfl⟩,rfl⟩
    let C1_ : List Value := [I ((l0.getD i11.toNat am).Seq),I ((l0.getD i11.toNat am).Tick),I ((l0.getD i11.toNat am).Budget),sv101]
    refine vV (az (sz := 0) (o := 0) rfl dv cJ) rfl ?_
    refine cj (fi (cs := C0_) (cs' := C1_) (sv := sv101) (L' := [box b14 148 [(Value.func (.func 81) #[] #[pt p1 0,pt p2 0])],box p1 2 [I p1_0],box p2 2 [I p2_0],box b26 81 C1_,(bv sv0 81 4 al 87 6 an ao l0),own sv101 87 6 x50.length (fl aC x50),box p0 93 [I p0_0,sv0.sv,I p0_2],(bv sv87 81 4 al 87 6 an ao l7)]) 3 5 rfl rfl cJ rfl rfl (aQ 87) rfl (by simp [C0_,C1_]) rfl) rfl rfl ?_
    rintro _ _ rfl
    refine ai (ag (ae (vM rfl rfl (vM rfl rfl (vV (az (sz := 0) (o := 0) rfl dv cJ) rfl (vV (aP (v := sv101) rfl fm (aJ (i := 3) rfl rfl)) rfl (vV (cp 5 rfl bA rfl (aQ 87)) rfl (vV (aG rfl rfl (jZ _ _ _) ) rfl (vV (aG rfl rfl (ci _ _ _) ) rfl (vA rfl rfl (ai ?_)))))))))))
    refine ag (ae (vV (az (sz := 0) (o := 0) rfl dv cJ) rfl (vV (aP (v := sv101) rfl fm (aJ (i := 3) rfl rfl)) rfl (vV (cp 5 rfl bA rfl (aQ 87)) rfl (vV (aG rfl rfl (jA _ _ _)) rfl (ai ?_))))))
    refine gN H6 (fun c87 H6 => ?_) fun c87 H6 => ?_
    ·refine ay rfl (dF c87) (aV (ae (vV (aG rfl rfl (ci _ _ _) ) rfl (vM rfl rfl (ai ?_)))))
     exact vF [6,4,1,2,0,7] rfl rfl (vS [0,3,4,5,10,11,12] rfl) fun a w h => ⟨k,Nat.lt_succ_self k,_,_,_,sv87,H6,h⟩
    refine aA rfl (dT c87) (ae (vM rfl rfl (vV (bi (vs := C1_) rfl jd cA (bD (i := 3) rfl)) rfl ?_)))
    refine aO (bL (sz := 3) (xs := [.tmp 37]) (cs := al (⟨(l0.getD i11.toNat am).Seq,(l0.getD i11.toNat am).Tick,(l0.getD i11.toNat am).Budget,x50⟩ : aI) sv101) rfl rfl dH cA gw rfl rfl (cN rfl) rfl (by decide)) rfl rfl rfl ?_
    rintro sv102 _ rfl
    refine et [own sv102 81 4 1 (al (⟨(l0.getD i11.toNat am).Seq,(l0.getD i11.toNat am).Tick,(l0.getD i11.toNat am).Budget,x50⟩ : aI) sv101),box b14 148 [(Value.func (.func 81) #[] #[pt p1 0,pt p2 0])],box p1 2 [I p1_0],box p2 2 [I p2_0],box b26 81 C1_,(bv sv0 81 4 al 87 6 an ao l0),own sv101 87 6 x50.length (fl aC x50),box p0 93 [I p0_0,sv0.sv,I p0_2],(bv sv87 81 4 al 87 6 an ao l7)] rfl ?_
    obtain ⟨c88,H6⟩ := gq H6
    refine aO (lP (sz := 3) [8,0,6,1,2,3,4,5,7] (by decide) rfl rfl rfl dH cA gw rfl mC rfl (jL _ _) c88) rfl rfl rfl ?_
    rintro _ _ ⟨sv103,rfl,rfl⟩
    refine et [(bv sv103 81 4 al 87 6 an ao (l7 ++ [(⟨(l0.getD i11.toNat am).Seq,(l0.getD i11.toNat am).Tick,(l0.getD i11.toNat am).Budget,x50⟩ : aI)])),box b14 148 [(Value.func (.func 81) #[] #[pt p1 0,pt p2 0])],box p1 2 [I p1_0],box p2 2 [I p2_0],box b26 81 C1_,(bv sv0 81 4 al 87 6 an ao l0),box p0 93 [I p0_0,sv0.sv,I p0_2]] rfl ?_
    refine vA rfl rfl (ai (ae (vV (aG rfl rfl (ci _ _ _) ) rfl (vM rfl rfl (ai ?_)))))
    exact vF [6,5,2,3,1,0] rfl rfl (vS [0,3,4,5,10,11,12] rfl) fun a w h => ⟨k,Nat.lt_succ_self k,_,_,_,sv103,H6,h⟩
 ·refine aU fun sv78 => ?_
  refine ag (ag (ae (vM rfl rfl ?_)))
  refine vV (aG rfl rfl (pk (fun w => rfl) rfl (lI Tryz.underlying25 _ _))) rfl ?_
  refine ai (aA rfl rfl (ae (vM rfl rfl (vM rfl rfl (vV (bq rfl) rfl (vV (az (sz := 0) (o := 0) rfl jE jC) rfl ?_))))))
  refine cj (fi (cs := [I p0_0,sv0.sv,I p0_2]) (cs' := [I p0_0,sv78.sv,I p0_2]) (sv := sv78.sv) (L' := [box p0 93 [I p0_0,sv78.sv,I p0_2],(bv sv0 81 4 al 87 6 an ao l0),box p1 2 [I p1_0],box p2 2 [I p2_0],(bv sv78 81 4 al 87 6 an ao x38.1)]) 0 4 rfl rfl jC rfl rfl bt rfl (by simp) rfl) rfl rfl ?_
  rintro _ _ rfl
  refine ai (ag (ae (vM rfl rfl (vA rfl rfl (ai (aH ?_))))))
  cases H
  refine vP [0,4,1,2,3] rfl rfl ?_
  exact aT rfl rfl ⟨sv78,rfl,rfl⟩
theorem fC.spec (K p0 : Nat) (sv0 : JG) (p0_0 : Int) (l0 : List aI) (p0_2 a1 a2 : Int) (r : ((List aI) × Int)) (H : fC K p0_0 l0 p0_2 a1 a2 = some r) : bp Tryz.prog 35 [pt p0 0,I a1,I a2] [box p0 93 [I p0_0,sv0.sv,I p0_2],(bv sv0 81 4 al 87 6 an ao l0)] (fun v M => ∃ sv2 : JG,v = (I r.2) ∧ M = [box p0 93 [I p0_0,sv2.sv,I p0_2],(bv sv2 81 4 al 87 6 an ao r.1),(bv sv0 81 4 al 87 6 an ao l0)]) := by
 unfold fC at H
 refine bo Tryz.func35 rfl 10 rfl (nL rfl) fun F w0 => ?_
 show cB (St 10 w0 F [(0,pt p0 0),(1,I a1),(2,I a2)] [box p0 93 [I p0_0,sv0.sv,I p0_2],(bv sv0 81 4 al 87 6 an ao l0)]) _
 refine ag (ae ?_)
 refine aO (dz (cs := [I a1]) rfl rfl) rfl rfl rfl ?_
 rintro _ _ ⟨b3,rfl,rfl⟩
 refine aO (dz (cs := [I a2]) rfl rfl) rfl rfl rfl ?_
 rintro _ _ ⟨b4,rfl,rfl⟩
 refine vA rfl rfl (ai (ag (ae (vM rfl rfl (vV (iA (first := []) (cap := [.tmp 4,.tmp 5]) rfl rfl) rfl ?_)))))
 obtain ⟨x2,h2,H⟩ := oB H
 refine vP [2,3,1,0] rfl rfl ?_
 refine aO (bI (Lr := []) (first := []) (cap := []) (xs := [.tmp 7,.tmp 8]) rfl rfl sW rfl (kx.spec K p0 sv0 b3 b4 p0_0 l0 p0_2 a1 a2 _ h2) rfl) rfl rfl rfl ?_
 rintro _ _ ⟨_,⟨sv3,rfl,rfl⟩,rfl⟩
 refine vA rfl rfl (ai (aH ?_))
 cases H
 refine vP [0,1,2] rfl rfl ?_
 exact aT rfl rfl ⟨sv3,rfl,rfl⟩
theorem fC.spech (K p0 : Nat) (sv0 : JG) (p0_0 : Int) (l0 : List aI) (p0_2 a1 a2 : Int) (r : ((List aI) × Int)) (H : fC K p0_0 l0 p0_2 a1 a2 = some r) : bp Tryz.prog 35 [pt p0 0,I a1,I a2] [box p0 93 [I p0_0,sv0.sv,I p0_2],(bv sv0 81 4 al 87 6 an ao l0)] (fun v M => ∃ sv2 : Value,v = (I r.2) ∧ M = [box p0 93 [I p0_0,sv2,I p0_2],(hown sv2 81 4 al 87 6 an ao r.1),(bv sv0 81 4 al 87 6 an ao l0)]) := by
 refine bp.hide (fC.spec K p0 sv0 p0_0 l0 p0_2 a1 a2 r H) ?_
 rintro v M ⟨sv2,rfl,rfl⟩
 exact ⟨_,⟨sv2.sv,rfl,rfl⟩,fun w X h => (h.conv 1 _ (hown sv2.sv 81 4 al 87 6 an ao r.1) rfl fun o s q => ⟨_,rfl,q⟩)⟩
theorem hG.spec (K p0 : Nat) (sv0 : JG) (p0_0 : Int) (l0 : List aI) (p0_2 a1 a2 : Int) (r : Bool) (H : hG K p0_0 l0 p0_2 a1 a2 = some r) : bp Tryz.prog 36 [pt p0 0,I a1,I a2] [box p0 93 [I p0_0,sv0.sv,I p0_2],(bv sv0 81 4 al 87 6 an ao l0)] (fun v M => v = (bool r) ∧ M = [box p0 93 [I p0_0,sv0.sv,I p0_2],(bv sv0 81 4 al 87 6 an ao l0)]) := by
 unfold hG at H
 refine bo Tryz.func36 rfl 13 rfl (nL rfl) fun F w0 => ?_
 show cB (St 13 w0 F [(0,pt p0 0),(1,I a1),(2,I a2)] [box p0 93 [I p0_0,sv0.sv,I p0_2],(bv sv0 81 4 al 87 6 an ao l0)]) _
 refine ag (ae (vA rfl rfl (ai (ag (ae (vM rfl rfl (vM rfl rfl (vM rfl rfl ?_))))))))
 obtain ⟨x2,h2,H⟩ := oB H
 refine aO (bI (Lr := []) (first := []) (cap := []) (xs := [.tmp 7,.tmp 8,.tmp 9]) rfl rfl pQ rfl (fE.spec K p0 sv0 p0_0 l0 p0_2 a1 a2 _ h2) rfl) rfl rfl rfl ?_
 rintro sv2 _ ⟨_,⟨_,rfl,rfl⟩,rfl⟩
 refine vV (cp 2 rfl bA rfl (aQ 87)) rfl (vV (aG rfl rfl (jA _ _ _)) rfl (vA rfl rfl (ai (aH ?_))))
 cases H
 refine vP [0,1] rfl rfl ?_
 exact aT rfl rfl ⟨rfl,rfl⟩
theorem dI.spec (K : Nat) (r : Bool) (H : dI K = some r) : bp Tryz.prog 9 [] [] (fun v M => v = (bool r) ∧ M = []) := by
 unfold dI at H
 refine bo Tryz.func9 rfl 59 rfl (nL rfl) fun F w0 => ?_
 show cB (St 59 w0 F [] []) _
 refine ag (ae (vA rfl rfl (ai (ag (ae ?_)))))
 obtain ⟨x8,h8,H⟩ := bP H
 refine aO (bI (Lr := []) (first := []) (cap := []) (xs := [.const (I 1)]) rfl rfl oa rfl (pz.spec _ h8) rfl) rfl rfl rfl ?_
 rintro _ _ ⟨_,⟨b2,rfl,rfl⟩,rfl⟩
 refine vM rfl rfl (vV (bm rfl rfl) rfl (vV (bm rfl rfl) rfl (vA rfl rfl (vA rfl rfl (ai (ag (ae (vM rfl rfl (vV (eO (is := [0]) (xs := [.const (I 3)]) (vs := [I 3]) rfl rfl (cC (cs := [I 3,S0,S0,S0,S0]) sw qo rfl)) rfl ?_)))))))))
 refine vV (eO (is := [0]) (xs := [.tmp 11]) (vs := [agg #[I 3,S0,S0,S0,S0]]) rfl rfl (cC (cs := [I 3,S0,S0,S0,S0,I 0]) fM qm (by simp [Instr.fill,kA,jS,kD,jR,jm,kz,hE,kw,]))) rfl ?_
 refine vV (eO (is := [0]) (xs := [.const (I 5)]) (vs := [I 5]) rfl rfl (cC (cs := [I 5,S0,S0,S0,S0]) sw qo rfl)) rfl ?_
 refine vV (eO (is := [0]) (xs := [.tmp 13]) (vs := [agg #[I 5,S0,S0,S0,S0]]) rfl rfl (cC (cs := [I 5,S0,S0,S0,S0,I 0]) fM qm (by simp [Instr.fill,kA,jS,kD,jR,jm,kz,hE,kw,]))) rfl ?_
 refine aO (bL (sz := 5) (xs := [.tmp 12,.tmp 14]) (cs := fl aC [(⟨(⟨3,nB,nB,nB,nB⟩ : bc),0⟩ : aB),(⟨(⟨5,nB,nB,nB,nB⟩ : bc),0⟩ : aB)]) rfl rfl bA bG fM rfl rfl (cN rfl) rfl (by decide)) rfl rfl rfl ?_
 rintro sv5 _ rfl
 refine vV (uq 0 rfl (aQ 87) fun hc0_ => (eO (is := [0,3]) (xs := [.const (I 1),.tmp 15]) (vs := [I 1,sv5]) rfl rfl (cC (cs := [I 1,I 0,I 0,sv5]) jY mN (by simp [Instr.fill,kA,jS,kD,jR,jm,kz,hE,kw,hc0_])))) rfl ?_
 obtain ⟨x9,h9,H⟩ := bP H
 refine aO (bC (Lr := [box b2 93 [I x8.1,L0,I x8.2.1]]) [0,1] [0,1] (first := []) (cap := []) (xs := [.tmp 16]) rfl rfl sp rfl (jt.spec sv5 1 0 0 [(⟨(⟨3,nB,nB,nB,nB⟩ : bc),0⟩ : aB),(⟨(⟨5,nB,nB,nB,nB⟩ : bc),0⟩ : aB)] _ h9) (by decide) rfl (by decide) rfl) rfl rfl rfl ?_
 rintro _ _ ⟨rfl,rfl⟩
 obtain ⟨x10,h10,H⟩ := oB H
 refine vP [1,0] rfl rfl ?_
 refine aO (bI (Lr := []) (first := []) (cap := []) (xs := [.tmp 10,.tmp 17]) rfl rfl sU rfl (kP.spec K b2 sv5 x8.1 x8.2.1 x9.1 x9.2.1 x9.2.2 [(⟨(⟨3,nB,nB,nB,nB⟩ : bc),0⟩ : aB),(⟨(⟨5,nB,nB,nB,nB⟩ : bc),0⟩ : aB)] _ h10) rfl) rfl rfl rfl ?_
 rintro _ _ ⟨_,⟨sv6,rfl,rfl⟩,rfl⟩
 refine vA rfl rfl (ai (ag (ae (vM rfl rfl ?_))))
 obtain ⟨x11,h11,H⟩ := oB H
 refine aO (bI (Lr := [own sv5 87 6 [(⟨(⟨3,nB,nB,nB,nB⟩ : bc),0⟩ : aB),(⟨(⟨5,nB,nB,nB,nB⟩ : bc),0⟩ : aB)].length (fl aC [(⟨(⟨3,nB,nB,nB,nB⟩ : bc),0⟩ : aB),(⟨(⟨5,nB,nB,nB,nB⟩ : bc),0⟩ : aB)])]) (first := []) (cap := []) (xs := [.tmp 19]) rfl rfl sS rfl (iB.spec K b2 sv6 x8.1 x10.2.1 x10.2.2 _ h11) rfl) rfl rfl rfl ?_
 rintro sv7 _ ⟨_,⟨_,rfl,rfl⟩,rfl⟩
 refine vA rfl rfl (ai (ag (ae (vM rfl rfl ?_))))
 obtain ⟨x12,h12,H⟩ := oB H
 refine aO (bI (Lr := [own sv7 2 1 x11.length (fl (eI .i64) x11),own sv5 87 6 [(⟨(⟨3,nB,nB,nB,nB⟩ : bc),0⟩ : aB),(⟨(⟨5,nB,nB,nB,nB⟩ : bc),0⟩ : aB)].length (fl aC [(⟨(⟨3,nB,nB,nB,nB⟩ : bc),0⟩ : aB),(⟨(⟨5,nB,nB,nB,nB⟩ : bc),0⟩ : aB)])]) (first := []) (cap := []) (xs := [.tmp 21,.const (I 0),.const (I 4)]) rfl rfl sr rfl (fC.spec K b2 sv6 x8.1 x10.2.1 x10.2.2 0 4 _ h12) rfl) rfl rfl rfl ?_
 rintro _ _ ⟨_,⟨sv8,rfl,rfl⟩,rfl⟩
 refine vA rfl rfl (ai (ag (ae (vM rfl rfl (vV (aG rfl rfl (fG _ _ _)) rfl (vM rfl rfl ?_))))))
 refine gN H (fun c10 H => ?_) fun c10 H => ?_
 ·refine au rfl rfl rfl (dD c10) rfl rfl ?_
  refine au rfl rfl rfl (dD c10) rfl rfl ?_
  refine vV (aN rfl rfl rfl (bV (dD c10))) rfl (vM rfl rfl ?_)
  refine au rfl rfl rfl rfl rfl rfl ?_
  refine au rfl rfl rfl rfl rfl rfl ?_
  refine au rfl rfl rfl rfl rfl rfl ?_
  refine vV (aN rfl rfl rfl rfl) rfl (vM rfl rfl ?_)
  refine au rfl rfl rfl rfl rfl rfl ?_
  refine au rfl rfl rfl rfl rfl rfl ?_
  refine au rfl rfl rfl rfl rfl rfl ?_
  refine au rfl rfl rfl rfl rfl rfl ?_
  refine vV (aN rfl rfl rfl rfl) rfl (vM rfl rfl ?_)
  refine au rfl rfl rfl rfl rfl rfl ?_
  refine au rfl rfl rfl rfl rfl rfl ?_
  refine au rfl rfl rfl rfl rfl rfl ?_
  refine au rfl rfl rfl rfl rfl rfl ?_
  refine vV (aN rfl rfl rfl rfl) rfl (vM rfl rfl ?_)
  refine au rfl rfl rfl rfl rfl rfl ?_
  refine au rfl rfl rfl rfl rfl rfl ?_
  refine vV (aN rfl rfl rfl rfl) rfl (vM rfl rfl ?_)
  refine au rfl rfl rfl rfl rfl rfl ?_
  refine au rfl rfl rfl rfl rfl rfl ?_
  refine vV (aN rfl rfl rfl rfl) rfl (vM rfl rfl ?_)
  refine au rfl rfl rfl rfl rfl rfl ?_
  refine au rfl rfl rfl rfl rfl rfl ?_
  refine au rfl rfl rfl rfl rfl rfl ?_
  refine vV (aN rfl rfl rfl rfl) rfl (vA rfl rfl (ai (aH ?_)))
  cases H
  refine vP [] rfl rfl ?_
  exact aT rfl rfl ⟨rfl,rfl⟩
 refine aq (aL rfl) rfl rfl rfl (dy c10) rfl rfl ?_
 refine aq (aG rfl rfl (fG _ _ _)) rfl rfl rfl (dy c10) rfl rfl ?_
 refine vV (aN rfl rfl rfl (cb (dy c10))) rfl (vM rfl rfl ?_)
 refine gN H (fun c11 H => ?_) fun c11 H => ?_
 ·refine au rfl rfl rfl (dD c11) rfl rfl ?_
  refine au rfl rfl rfl (dD c11) rfl rfl ?_
  refine au rfl rfl rfl (dD c11) rfl rfl ?_
  refine vV (aN rfl rfl rfl (bV (dD c11))) rfl (vM rfl rfl ?_)
  refine au rfl rfl rfl rfl rfl rfl ?_
  refine au rfl rfl rfl rfl rfl rfl ?_
  refine au rfl rfl rfl rfl rfl rfl ?_
  refine au rfl rfl rfl rfl rfl rfl ?_
  refine vV (aN rfl rfl rfl rfl) rfl (vM rfl rfl ?_)
  refine au rfl rfl rfl rfl rfl rfl ?_
  refine au rfl rfl rfl rfl rfl rfl ?_
  refine au rfl rfl rfl rfl rfl rfl ?_
  refine au rfl rfl rfl rfl rfl rfl ?_
  refine vV (aN rfl rfl rfl rfl) rfl (vM rfl rfl ?_)
  refine au rfl rfl rfl rfl rfl rfl ?_
  refine au rfl rfl rfl rfl rfl rfl ?_
  refine vV (aN rfl rfl rfl rfl) rfl (vM rfl rfl ?_)
  refine au rfl rfl rfl rfl rfl rfl ?_
  refine au rfl rfl rfl rfl rfl rfl ?_
  refine vV (aN rfl rfl rfl rfl) rfl (vM rfl rfl ?_)
  refine au rfl rfl rfl rfl rfl rfl ?_
  refine au rfl rfl rfl rfl rfl rfl ?_
  refine au rfl rfl rfl rfl rfl rfl ?_
  refine vV (aN rfl rfl rfl rfl) rfl (vA rfl rfl (ai (aH ?_)))
  cases H
  refine vP [] rfl rfl ?_
  exact aT rfl rfl ⟨rfl,rfl⟩
 refine aq (aL rfl) rfl rfl rfl (dy c11) rfl rfl ?_
 refine aq (cp 3 rfl dk rfl (aQ 2)) rfl rfl rfl (dy c11) rfl rfl ?_
 refine aq (aG rfl rfl (fG _ _ _)) rfl rfl rfl (dy c11) rfl rfl ?_
 refine vV (aN rfl rfl rfl (cb (dy c11))) rfl (vM rfl rfl ?_)
 refine gN H (fun c12 H => ?_) fun c12 H => ?_
 ·refine au rfl rfl rfl (dD c12) rfl rfl ?_
  refine au rfl rfl rfl (dD c12) rfl rfl ?_
  refine au rfl rfl rfl (dD c12) rfl rfl ?_
  refine au rfl rfl rfl (dD c12) rfl rfl ?_
  refine vV (aN rfl rfl rfl (bV (dD c12))) rfl (vM rfl rfl ?_)
  refine au rfl rfl rfl rfl rfl rfl ?_
  refine au rfl rfl rfl rfl rfl rfl ?_
  refine au rfl rfl rfl rfl rfl rfl ?_
  refine au rfl rfl rfl rfl rfl rfl ?_
  refine vV (aN rfl rfl rfl rfl) rfl (vM rfl rfl ?_)
  refine au rfl rfl rfl rfl rfl rfl ?_
  refine au rfl rfl rfl rfl rfl rfl ?_
  refine vV (aN rfl rfl rfl rfl) rfl (vM rfl rfl ?_)
  refine au rfl rfl rfl rfl rfl rfl ?_
  refine au rfl rfl rfl rfl rfl rfl ?_
  refine vV (aN rfl rfl rfl rfl) rfl (vM rfl rfl ?_)
  refine au rfl rfl rfl rfl rfl rfl ?_
  refine au rfl rfl rfl rfl rfl rfl ?_
  refine au rfl rfl rfl rfl rfl rfl ?_
  refine vV (aN rfl rfl rfl rfl) rfl (vA rfl rfl (ai (aH ?_)))
  cases H
  refine vP [] rfl rfl ?_
  exact aT rfl rfl ⟨rfl,rfl⟩
 refine aq (aL rfl) rfl rfl rfl (dy c12) rfl rfl ?_
 obtain ⟨c13,H⟩ := gq H
 refine aq (bf (sz := 0) 3 rfl rfl dk bd rfl (aQ 2) (by decide) c13) rfl rfl rfl (dy c12) rfl rfl ?_
 refine aq (aP (v := (I (x11.getD ((0 : Int).toNat) 0))) rfl bl (bE (i := 3) rfl (aQ 2) (by simp) (dS (mh _) (bB (by decide) c13) rfl))) rfl rfl rfl (dy c12) rfl rfl ?_
 refine aq (aG rfl rfl (fG _ _ _)) rfl rfl rfl (dy c12) rfl rfl ?_
 refine vV (aN rfl rfl rfl (cb (dy c12))) rfl (vM rfl rfl ?_)
 refine gN H (fun c14 H => ?_) fun c14 H => ?_
 ·refine au rfl rfl rfl (dD c14) rfl rfl ?_
  refine au rfl rfl rfl (dD c14) rfl rfl ?_
  refine au rfl rfl rfl (dD c14) rfl rfl ?_
  refine au rfl rfl rfl (dD c14) rfl rfl ?_
  refine vV (aN rfl rfl rfl (bV (dD c14))) rfl (vM rfl rfl ?_)
  refine au rfl rfl rfl rfl rfl rfl ?_
  refine au rfl rfl rfl rfl rfl rfl ?_
  refine vV (aN rfl rfl rfl rfl) rfl (vM rfl rfl ?_)
  refine au rfl rfl rfl rfl rfl rfl ?_
  refine au rfl rfl rfl rfl rfl rfl ?_
  refine vV (aN rfl rfl rfl rfl) rfl (vM rfl rfl ?_)
  refine au rfl rfl rfl rfl rfl rfl ?_
  refine au rfl rfl rfl rfl rfl rfl ?_
  refine au rfl rfl rfl rfl rfl rfl ?_
  refine vV (aN rfl rfl rfl rfl) rfl (vA rfl rfl (ai (aH ?_)))
  cases H
  refine vP [] rfl rfl ?_
  exact aT rfl rfl ⟨rfl,rfl⟩
 refine aq (aL rfl) rfl rfl rfl (dy c14) rfl rfl ?_
 obtain ⟨c15,H⟩ := gq H
 refine aq (bf (sz := 0) 3 rfl rfl dk bd rfl (aQ 2) (by decide) c15) rfl rfl rfl (dy c14) rfl rfl ?_
 refine aq (aP (v := (I (x11.getD ((1 : Int).toNat) 0))) rfl bl (bE (i := 3) rfl (aQ 2) (by simp) (dS (mh _) (bB (by decide) c15) rfl))) rfl rfl rfl (dy c14) rfl rfl ?_
 refine aq (aG rfl rfl (fG _ _ _)) rfl rfl rfl (dy c14) rfl rfl ?_
 refine vV (aN rfl rfl rfl (cb (dy c14))) rfl (vM rfl rfl ?_)
 refine gN H (fun c16 H => ?_) fun c16 H => ?_
 ·refine au rfl rfl rfl (dD c16) rfl rfl ?_
  refine au rfl rfl rfl (dD c16) rfl rfl ?_
  refine vV (aN rfl rfl rfl (bV (dD c16))) rfl (vM rfl rfl ?_)
  refine au rfl rfl rfl rfl rfl rfl ?_
  refine au rfl rfl rfl rfl rfl rfl ?_
  refine vV (aN rfl rfl rfl rfl) rfl (vM rfl rfl ?_)
  refine au rfl rfl rfl rfl rfl rfl ?_
  refine au rfl rfl rfl rfl rfl rfl ?_
  refine au rfl rfl rfl rfl rfl rfl ?_
  refine vV (aN rfl rfl rfl rfl) rfl (vA rfl rfl (ai (aH ?_)))
  cases H
  refine vP [] rfl rfl ?_
  exact aT rfl rfl ⟨rfl,rfl⟩
 refine aq (aL rfl) rfl rfl rfl (dy c16) rfl rfl ?_
 refine aq (aG rfl rfl (fG _ _ _)) rfl rfl rfl (dy c16) rfl rfl ?_
 refine vV (aN rfl rfl rfl (cb (dy c16))) rfl (vM rfl rfl ?_)
 refine gN H (fun c17 H => ?_) fun c17 H => ?_
 ·refine au rfl rfl rfl (dD c17) rfl rfl ?_
  refine au rfl rfl rfl (dD c17) rfl rfl ?_
  refine vV (aN rfl rfl rfl (bV (dD c17))) rfl (vM rfl rfl ?_)
  refine au rfl rfl rfl rfl rfl rfl ?_
  refine au rfl rfl rfl rfl rfl rfl ?_
  refine au rfl rfl rfl rfl rfl rfl ?_
  refine vV (aN rfl rfl rfl rfl) rfl (vA rfl rfl (ai (aH ?_)))
  cases H
  refine vP [] rfl rfl ?_
  exact aT rfl rfl ⟨rfl,rfl⟩
 refine aq (aL rfl) rfl rfl rfl (dy c17) rfl rfl ?_
 obtain ⟨x13,h13,H⟩ := oB H
 refine dr (bC (Lr := [(bv sv6 81 4 al 87 6 an ao x10.2.1),own sv7 2 1 x11.length (fl (eI .i64) x11),own sv5 87 6 [(⟨(⟨3,nB,nB,nB,nB⟩ : bc),0⟩ : aB),(⟨(⟨5,nB,nB,nB,nB⟩ : bc),0⟩ : aB)].length (fl aC [(⟨(⟨3,nB,nB,nB,nB⟩ : bc),0⟩ : aB),(⟨(⟨5,nB,nB,nB,nB⟩ : bc),0⟩ : aB)])]) [0,1,2,3,4] [0,1,2,3,4] (first := []) (cap := []) (xs := [.tmp 51,.const (I 5),.const (I 6)]) rfl rfl pS rfl (hG.spec K b2 sv8 x8.1 x12.1 x10.2.2 5 6 _ h13) (by decide) rfl (by decide) rfl) rfl rfl rfl (dy c17) rfl rfl ?_
 rintro _ _ ⟨rfl,rfl⟩
 refine vV (aN rfl rfl rfl (cb (dy c17))) rfl (vM rfl rfl ?_)
 refine gN H (fun c18 H => ?_) fun c18 H => ?_
 ·refine au rfl rfl rfl (bF c18) rfl rfl ?_
  refine au rfl rfl rfl (bF c18) rfl rfl ?_
  refine au rfl rfl rfl (bF c18) rfl rfl ?_
  refine vV (aN rfl rfl rfl (bV (bF c18))) rfl (vA rfl rfl (ai (aH ?_)))
  cases H
  refine vP [] rfl rfl ?_
  exact aT rfl rfl ⟨rfl,rfl⟩
 refine aq (aL rfl) rfl rfl rfl c18 rfl rfl ?_
 obtain ⟨x14,h14,H⟩ := oB H
 refine dr (bC (Lr := [(bv sv6 81 4 al 87 6 an ao x10.2.1),own sv7 2 1 x11.length (fl (eI .i64) x11),own sv5 87 6 [(⟨(⟨3,nB,nB,nB,nB⟩ : bc),0⟩ : aB),(⟨(⟨5,nB,nB,nB,nB⟩ : bc),0⟩ : aB)].length (fl aC [(⟨(⟨3,nB,nB,nB,nB⟩ : bc),0⟩ : aB),(⟨(⟨5,nB,nB,nB,nB⟩ : bc),0⟩ : aB)])]) [0,1,2,3,4] [0,1,2,3,4] (first := []) (cap := []) (xs := [.tmp 55,.const (I 3),.const (I 4)]) rfl rfl pS rfl (hG.spec K b2 sv8 x8.1 x12.1 x10.2.2 3 4 _ h14) (by decide) rfl (by decide) rfl) rfl rfl rfl c18 rfl rfl ?_
 rintro _ _ ⟨rfl,rfl⟩
 refine aq (iR rfl (ju _)) rfl rfl rfl c18 rfl rfl ?_
 refine vV (aN rfl rfl rfl (cb c18)) rfl (vA rfl rfl (ai (aH ?_)))
 cases H
 refine vP [] rfl rfl ?_
 exact aT rfl rfl ⟨rfl,rfl⟩
theorem mS.spec (a0 : Int) (hs0 : a0 < 1) (r : Unit) (H : mS a0 = r) : bp Tryz.prog 10 [I a0] [] (fun v M => v = (tU #[P0,I 1]) ∧ M = []) := by
 unfold mS at H
 refine bo Tryz.func10 rfl 13 rfl (nL rfl) fun F w0 => ?_
 show cB (St 13 w0 F [(0,I a0)] []) _
 refine ag (ae (vA rfl rfl (vA rfl rfl (ai (ag (ag (ae (vM rfl rfl (vV (aG rfl rfl (cI _ _ _)) rfl (vM rfl rfl ?_))))))))))
 refine au rfl rfl rfl (dT hs0) rfl rfl ?_
 refine au rfl rfl rfl (dT hs0) rfl rfl ?_
 refine vV (aN rfl rfl rfl (cb (dT hs0))) rfl (ai (aA rfl rfl (ag (ae (vA rfl rfl (vA rfl rfl (ai (aH ?_))))))))
 cases H
 refine vP [] rfl rfl ?_
 exact cE (vs := [P0,I 1]) rfl ⟨rfl,⟨rfl,trivial⟩⟩ _ rfl ⟨rfl,rfl⟩
theorem jX.spec (a0 : Int) (hs0 : a0 < 1) (r : Unit) (H : jX a0 = r) : bp Tryz.prog 11 [I a0] [] (fun v M => v = (tU #[P0,I 1]) ∧ M = []) := by
 unfold jX at H
 refine bo Tryz.func11 rfl 13 rfl (nL rfl) fun F w0 => ?_
 show cB (St 13 w0 F [(0,I a0)] []) _
 refine ag (ae (vA rfl rfl (vA rfl rfl (ai (ag (ag (ae (vM rfl rfl (vV (aG rfl rfl (cI _ _ _)) rfl (vM rfl rfl ?_))))))))))
 refine au rfl rfl rfl (dT hs0) rfl rfl ?_
 refine au rfl rfl rfl (dT hs0) rfl rfl ?_
 refine vV (aN rfl rfl rfl (cb (dT hs0))) rfl (ai (aA rfl rfl (ag (ae (vA rfl rfl (vA rfl rfl (ai (aH ?_))))))))
 cases H
 refine vP [] rfl rfl ?_
 exact cE (vs := [P0,I 1]) rfl ⟨rfl,⟨rfl,trivial⟩⟩ _ rfl ⟨rfl,rfl⟩
theorem mY.spec (a0 : Int) (hs0 : ¬ (a0 < 1)) (hs1 : 4 < a0) (r : Unit) (H : mY a0 = r) : bp Tryz.prog 10 [I a0] [] (fun v M => v = (tU #[P0,I 1]) ∧ M = []) := by
 unfold mY at H
 refine bo Tryz.func10 rfl 13 rfl (nL rfl) fun F w0 => ?_
 show cB (St 13 w0 F [(0,I a0)] []) _
 refine ag (ae (vA rfl rfl (vA rfl rfl (ai (ag (ag (ae (vM rfl rfl (vV (aG rfl rfl (cI _ _ _)) rfl (vM rfl rfl ?_))))))))))
 refine aq (aL rfl) rfl rfl rfl (dF hs0) rfl rfl ?_
 refine aq (aG rfl rfl (jA _ _ _)) rfl rfl rfl (dF hs0) rfl rfl ?_
 refine vV (aN rfl rfl rfl (bV (dF hs0))) rfl (ai (aA rfl (dT hs1) (ag (ae (vA rfl rfl (vA rfl rfl (ai (aH ?_))))))))
 cases H
 refine vP [] rfl rfl ?_
 exact cE (vs := [P0,I 1]) rfl ⟨rfl,⟨rfl,trivial⟩⟩ _ rfl ⟨rfl,rfl⟩
theorem jy.spec (a0 : Int) (hs0 : ¬ (a0 < 1)) (hs1 : 4 < a0) (r : Unit) (H : jy a0 = r) : bp Tryz.prog 11 [I a0] [] (fun v M => v = (tU #[P0,I 1]) ∧ M = []) := by
 unfold jy at H
 refine bo Tryz.func11 rfl 13 rfl (nL rfl) fun F w0 => ?_
 show cB (St 13 w0 F [(0,I a0)] []) _
 refine ag (ae (vA rfl rfl (vA rfl rfl (ai (ag (ag (ae (vM rfl rfl (vV (aG rfl rfl (cI _ _ _)) rfl (vM rfl rfl ?_))))))))))
 refine aq (aL rfl) rfl rfl rfl (dF hs0) rfl rfl ?_
 refine aq (aG rfl rfl (jA _ _ _)) rfl rfl rfl (dF hs0) rfl rfl ?_
 refine vV (aN rfl rfl rfl (bV (dF hs0))) rfl (ai (aA rfl (dT hs1) (ag (ae (vA rfl rfl (vA rfl rfl (ai (aH ?_))))))))
 cases H
 refine vP [] rfl rfl ?_
 exact cE (vs := [P0,I 1]) rfl ⟨rfl,⟨rfl,trivial⟩⟩ _ rfl ⟨rfl,rfl⟩
theorem mt.spec (a0 : Int) (hs0 : ¬ (a0 < 1)) (hs1 : ¬ (4 < a0)) (r : Int) (H : mt a0 = r) : bp Tryz.prog 10 [I a0] [] (fun v M => ∃ b2 : Nat,v = (tU #[pt b2 0,I 0]) ∧ M = [box b2 93 [I r,L0,I 0]]) := by
 unfold mt at H
 refine bo Tryz.func10 rfl 13 rfl (nL rfl) fun F w0 => ?_
 show cB (St 13 w0 F [(0,I a0)] []) _
 refine ag (ae (vA rfl rfl (vA rfl rfl (ai (ag (ag (ae (vM rfl rfl (vV (aG rfl rfl (cI _ _ _)) rfl (vM rfl rfl ?_))))))))))
 refine aq (aL rfl) rfl rfl rfl (dF hs0) rfl rfl ?_
 refine aq (aG rfl rfl (jA _ _ _)) rfl rfl rfl (dF hs0) rfl rfl ?_
 refine vV (aN rfl rfl rfl (bV (dF hs0))) rfl (ai (ay rfl (dF hs1) (aV (ag (ae (vM rfl rfl (vV (eO (is := [0]) (xs := [.tmp 10]) (vs := [I a0]) rfl rfl (cC (cs := [I a0,L0,I 0]) so qi rfl)) rfl ?_)))))))
 refine aO (dz (cs := [I a0,L0,I 0]) rfl rfl) rfl rfl rfl ?_
 rintro _ _ ⟨b3,rfl,rfl⟩
 refine vA rfl rfl (vA rfl rfl (ai (aH ?_)))
 cases H
 refine vP [0] rfl rfl ?_
 exact cE (vs := [pt b3 0,I 0]) rfl ⟨rfl,⟨rfl,trivial⟩⟩ _ rfl ⟨_,rfl,rfl⟩
theorem iI.spec (a0 : Int) (hs0 : ¬ (a0 < 1)) (hs1 : ¬ (4 < a0)) (r : Int) (H : iI a0 = r) : bp Tryz.prog 11 [I a0] [] (fun v M => ∃ b2 : Nat,v = (tU #[pt b2 0,I 0]) ∧ M = [box b2 96 [I r,L0,I 0]]) := by
 unfold iI at H
 refine bo Tryz.func11 rfl 13 rfl (nL rfl) fun F w0 => ?_
 show cB (St 13 w0 F [(0,I a0)] []) _
 refine ag (ae (vA rfl rfl (vA rfl rfl (ai (ag (ag (ae (vM rfl rfl (vV (aG rfl rfl (cI _ _ _)) rfl (vM rfl rfl ?_))))))))))
 refine aq (aL rfl) rfl rfl rfl (dF hs0) rfl rfl ?_
 refine aq (aG rfl rfl (jA _ _ _)) rfl rfl rfl (dF hs0) rfl rfl ?_
 refine vV (aN rfl rfl rfl (bV (dF hs0))) rfl (ai (ay rfl (dF hs1) (aV (ag (ae (vM rfl rfl (vV (eO (is := [0]) (xs := [.tmp 10]) (vs := [I a0]) rfl rfl (cC (cs := [I a0,L0,I 0]) yj uU rfl)) rfl ?_)))))))
 refine aO (dz (cs := [I a0,L0,I 0]) rfl rfl) rfl rfl rfl ?_
 rintro _ _ ⟨b3,rfl,rfl⟩
 refine vA rfl rfl (vA rfl rfl (ai (aH ?_)))
 cases H
 refine vP [0] rfl rfl ?_
 exact cE (vs := [pt b3 0,I 0]) rfl ⟨rfl,⟨rfl,trivial⟩⟩ _ rfl ⟨_,rfl,rfl⟩
theorem iH.spec (sv0 : Value) (A0 : HP) (a0_0 a0_1 a0_2 : Int) (l0 : List aB) (hA0 : da A0 sv0 l0.length 6 (fl aC l0)) (r : (Int × Int × Int)) (H : iH a0_0 a0_1 a0_2 l0 = r) : bp Tryz.prog 33 [agg #[I a0_0,I a0_1,I a0_2,sv0]] [A0] (fun v M => v = (agg #[I r.1,I r.2.1,I r.2.2,sv0]) ∧ M = [A0]) := by
 unfold iH at H
 refine bo Tryz.func33 rfl 12 rfl (nL rfl) fun F w0 => ?_
 show cB (St 12 w0 F [(0,agg #[I a0_0,I a0_1,I a0_2,sv0])] [A0]) _
 refine ag (ae ?_)
 refine aO (dz (cs := [I a0_0,I a0_1,I a0_2,sv0]) rfl rfl) rfl rfl rfl ?_
 rintro _ _ ⟨b3,rfl,rfl⟩
 refine aO (dP gw) rfl rfl rfl ?_
 rintro _ _ ⟨b4,rfl,rfl⟩
 refine ai (ag (ae (vV (az (sz := 0) (o := 0) rfl eU bd) rfl (vV (aP (v := (I a0_0)) rfl bl (aJ (i := 1) rfl rfl)) rfl (vV (az (sz := 0) (o := 0) rfl im bd) rfl (vV (aP (v := (I a0_1)) rfl bl (aJ (i := 1) rfl rfl)) rfl (vV (az (sz := 0) (o := 0) rfl ji bd) rfl (vV (aP (v := (I a0_2)) rfl bl (aJ (i := 1) rfl rfl)) rfl (vV (az (sz := 0) (o := 0) rfl ig cJ) rfl (vV (aP (v := sv0) rfl fm (aJ (i := 1) rfl rfl)) rfl ?_))))))))))
 refine vV (uq 2 rfl hA0 fun hc0_ => (eO (is := [0,1,2,3]) (xs := [.tmp 4,.tmp 6,.tmp 8,.tmp 10]) (vs := [I a0_0,I a0_1,I a0_2,sv0]) rfl rfl (cC (cs := [I a0_0,I a0_1,I a0_2,sv0]) gw qn (by simp [Instr.fill,kA,jS,kD,jR,jm,kz,hE,kw,hc0_])))) rfl ?_
 refine cj (cm (cs := [I 0,I 0,I 0,L0]) (cs' := [I a0_0,I a0_1,I a0_2,sv0]) (us := [I a0_0,I a0_1,I a0_2,sv0]) (L' := [box b4 81 [I a0_0,I a0_1,I a0_2,sv0],box b3 35 [I a0_0,I a0_1,I a0_2,sv0],A0]) 0 rfl rfl rfl (gK rfl (gK rfl (gK rfl (oS 2 rfl hA0 nw)))) cA rfl rfl (by simp) rfl) rfl rfl ?_
 rintro _ _ rfl
 refine ai (aH ?_)
 subst H
 exact iQ [2] (by decide) rfl (vs := [agg #[I a0_0,I a0_1,I a0_2,sv0]]) rfl ⟨⟨_,[I a0_0,I a0_1,I a0_2,sv0],rfl,bD (i := 0) rfl,.inl ⟨jd,cA,rfl⟩⟩,trivial⟩ _ rfl ⟨rfl,rfl⟩
theorem jI.spec (K : Nat) (sv0 : Value) (A0 : HP) (a0_0 a0_1 a0_2 : Int) (l0 : List aB) (a1 : Int) (hA0 : da A0 sv0 l0.length 6 (fl aC l0)) (r : Bool) (H : jI K a0_0 a0_1 a0_2 l0 a1 = some r) : bp Tryz.prog 77 [agg #[I a0_0,I a0_1,I a0_2,sv0],I a1] [A0] (fun v M => v = (bool r) ∧ M = [A0]) := by
 unfold jI at H
 refine bo Tryz.func77 rfl 28 rfl (nL rfl) fun F w0 => ?_
 show cB (St 28 w0 F [(0,agg #[I a0_0,I a0_1,I a0_2,sv0]),(1,I a1)] [A0]) _
 refine ag (ae ?_)
 refine aO (dz (cs := [I a0_0,I a0_1,I a0_2,sv0]) rfl rfl) rfl rfl rfl ?_
 rintro _ _ ⟨b2,rfl,rfl⟩
 refine vA rfl rfl (ai (ag (ae (vV (az (sz := 0) (o := 0) rfl dv cJ) rfl (vV (aP (v := sv0) rfl fm (aJ (i := 0) rfl rfl)) rfl (vM rfl rfl ?_))))))
 obtain ⟨x3,h3,H⟩ := oB H
 refine aO (bC (Lr := [box b2 81 [I a0_0,I a0_1,I a0_2,sv0]]) [1,0] [1,0] (first := []) (cap := []) (xs := [.tmp 9,.tmp 10]) rfl rfl oW rfl (iZ.spec K sv0 A0 l0 a1 hA0 _ h3) (by decide) rfl (by decide) rfl) rfl rfl rfl ?_
 rintro _ _ ⟨rfl,rfl⟩
 refine vM rfl rfl (vV (bm rfl rfl) rfl (vV (bm rfl rfl) rfl (vA rfl rfl (vA rfl rfl (ai (ag (ae (vM rfl rfl (vV (aG rfl rfl (fG _ _ _)) rfl (vM rfl rfl ?_))))))))))
 refine gN H (fun c2 H => ?_) fun c2 H => ?_
 ·refine au rfl rfl rfl (dD c2) rfl rfl ?_
  refine au rfl rfl rfl (dD c2) rfl rfl ?_
  refine au rfl rfl rfl (dD c2) rfl rfl ?_
  refine au rfl rfl rfl (dD c2) rfl rfl ?_
  refine au rfl rfl rfl (dD c2) rfl rfl ?_
  refine au rfl rfl rfl (dD c2) rfl rfl ?_
  refine au rfl rfl rfl (dD c2) rfl rfl ?_
  refine au rfl rfl rfl (dD c2) rfl rfl ?_
  refine au rfl rfl rfl (dD c2) rfl rfl ?_
  refine au rfl rfl rfl (dD c2) rfl rfl ?_
  refine vV (aN rfl rfl rfl (bV (dD c2))) rfl (vA rfl rfl (ai (aH ?_)))
  cases H
  refine vP [1] rfl rfl ?_
  exact aT rfl rfl ⟨rfl,rfl⟩
 refine aq (az (sz := 0) (o := 0) rfl iM bd) rfl rfl rfl (dy c2) rfl rfl ?_
 refine aq (aP (v := (I a0_0)) rfl bl (aJ (i := 0) rfl rfl)) rfl rfl rfl (dy c2) rfl rfl ?_
 refine aq (cr rfl (ic Tryz.underlying2 Tryz.underlying192)) rfl rfl rfl (dy c2) rfl rfl ?_
 refine aq (az (sz := 0) (o := 0) rfl mp bd) rfl rfl rfl (dy c2) rfl rfl ?_
 refine aq (aP (v := (I a0_1)) rfl bl (aJ (i := 0) rfl rfl)) rfl rfl rfl (dy c2) rfl rfl ?_
 refine aq (cr rfl (ic Tryz.underlying2 Tryz.underlying192)) rfl rfl rfl (dy c2) rfl rfl ?_
 refine aq (az (sz := 0) (o := 0) rfl ml bd) rfl rfl rfl (dy c2) rfl rfl ?_
 refine aq (aP (v := (I a0_2)) rfl bl (aJ (i := 0) rfl rfl)) rfl rfl rfl (dy c2) rfl rfl ?_
 refine aq (cr rfl (ic Tryz.underlying2 Tryz.underlying192)) rfl rfl rfl (dy c2) rfl rfl ?_
 obtain ⟨x4,h4,H⟩ := bP H
 refine dr (bQ (first := []) (cap := []) (xs := [.tmp 19,.tmp 22,.tmp 25]) rfl rfl qQ rfl (jJ.spec (dW a0_0) (dW a0_1) (dW a0_2) _ h4)) rfl rfl rfl (dy c2) rfl rfl ?_
 rintro _ _ ⟨rfl,rfl⟩
 refine vV (aN rfl rfl rfl (cb (dy c2))) rfl (vA rfl rfl (ai (aH ?_)))
 cases H
 refine vP [1] rfl rfl ?_
 exact aT rfl rfl ⟨rfl,rfl⟩
theorem dY.spec (K : Nat) (a0_0 : Int) (a0_1 : List UInt8) (a0_2 : List UInt8) (a0_3 : List UInt8) (a0_4 : List UInt8) (a0_5 a1 r : Int) (H : dY K a0_0 a0_1 a0_2 a0_3 a0_4 a0_5 a1 = some r) : bp Tryz.prog 162 [agg #[I a0_0,cW a0_1,cW a0_2,cW a0_3,cW a0_4,I a0_5],I a1] [] (fun v M => v = (I r) ∧ M = []) := by
 unfold dY at H
 refine bo Tryz.func162 rfl 56 rfl (nL rfl) fun F w0 => ?_
 show cB (St 56 w0 F [(0,agg #[I a0_0,cW a0_1,cW a0_2,cW a0_3,cW a0_4,I a0_5]),(1,I a1)] []) _
 refine ag (ae ?_)
 refine aO (dz (cs := [I a0_0,cW a0_1,cW a0_2,cW a0_3,cW a0_4,I a0_5]) rfl rfl) rfl rfl rfl ?_
 rintro _ _ ⟨b2,rfl,rfl⟩
 refine vA rfl rfl (ai (ag (ag (ae (vM rfl rfl (vV (aG rfl rfl (cI _ _ _)) rfl (vM rfl rfl ?_)))))))
 refine iu H (fun c79 H => ?_) fun c79 H => ?_
 ·refine au rfl rfl rfl (dT c79) rfl rfl ?_
  refine au rfl rfl rfl (dT c79) rfl rfl ?_
  refine vV (aN rfl rfl rfl (cb (dT c79))) rfl (ai (aA rfl rfl (ag (ae (vA rfl rfl (ai (aH ?_)))))))
  cases H
  refine vP [] rfl rfl ?_
  exact aT rfl rfl ⟨rfl,rfl⟩
 refine aq (aL rfl) rfl rfl rfl (dF c79) rfl rfl ?_
 refine aq (aG rfl rfl (jA _ _ _)) rfl rfl rfl (dF c79) rfl rfl ?_
 refine vV (aN rfl rfl rfl (bV (dF c79))) rfl (ai ?_)
 refine iu H (fun c80 H => ?_) fun c80 H => ?_
 ·refine aA rfl (dT c80) (ag (ae (vA rfl rfl (ai (aH ?_)))))
  cases H
  refine vP [] rfl rfl ?_
  exact aT rfl rfl ⟨rfl,rfl⟩
 refine ay rfl (dF c80) (aV (ag (ag (ae (vV (az (sz := 4) (o := 0) rfl de ey) rfl (vV (az (sz := 0) (o := 0) rfl eH bd) rfl (vV (aP (v := (I a0_0)) rfl bl (aJ (i := 0) rfl rfl)) rfl (vV (aG rfl rfl (cI _ _ _)) rfl (vM rfl rfl ?_)))))))))
 refine iu H (fun c85 H => ?_) fun c85 H => ?_
 ·refine au rfl rfl rfl (dT c85) rfl rfl ?_
  refine au rfl rfl rfl (dT c85) rfl rfl ?_
  refine au rfl rfl rfl (dT c85) rfl rfl ?_
  refine au rfl rfl rfl (dT c85) rfl rfl ?_
  refine vV (aN rfl rfl rfl (cb (dT c85))) rfl (vM rfl rfl ?_)
  refine au rfl rfl rfl rfl rfl rfl ?_
  refine au rfl rfl rfl rfl rfl rfl ?_
  refine au rfl rfl rfl rfl rfl rfl ?_
  refine vV (aN rfl rfl rfl rfl) rfl (vM rfl rfl ?_)
  refine au rfl rfl rfl rfl rfl rfl ?_
  refine au rfl rfl rfl rfl rfl rfl ?_
  refine au rfl rfl rfl rfl rfl rfl ?_
  refine vV (aN rfl rfl rfl rfl) rfl (ai (aA rfl rfl (ag (ae (vA rfl rfl (ai (aH ?_)))))))
  cases H
  refine vP [] rfl rfl ?_
  exact aT rfl rfl ⟨rfl,rfl⟩
 refine aq (az (sz := 4) (o := 0) rfl de ey) rfl rfl rfl (dF c85) rfl rfl ?_
 refine aq (az (sz := 0) (o := 0) rfl eH bd) rfl rfl rfl (dF c85) rfl rfl ?_
 refine aq (aP (v := (I a0_0)) rfl bl (aJ (i := 0) rfl rfl)) rfl rfl rfl (dF c85) rfl rfl ?_
 refine aq (aG rfl rfl (jA _ _ _)) rfl rfl rfl (dF c85) rfl rfl ?_
 refine vV (aN rfl rfl rfl (bV (dF c85))) rfl (vM rfl rfl ?_)
 refine iu H (fun c86 H => ?_) fun c86 H => ?_
 ·refine au rfl rfl rfl (dT c86) rfl rfl ?_
  refine au rfl rfl rfl (dT c86) rfl rfl ?_
  refine au rfl rfl rfl (dT c86) rfl rfl ?_
  refine vV (aN rfl rfl rfl (cb (dT c86))) rfl (vM rfl rfl ?_)
  refine au rfl rfl rfl rfl rfl rfl ?_
  refine au rfl rfl rfl rfl rfl rfl ?_
  refine au rfl rfl rfl rfl rfl rfl ?_
  refine vV (aN rfl rfl rfl rfl) rfl (ai (aA rfl rfl (ag (ae (vA rfl rfl (ai (aH ?_)))))))
  cases H
  refine vP [] rfl rfl ?_
  exact aT rfl rfl ⟨rfl,rfl⟩
 refine aq (az (sz := 0) (o := 0) rfl kU bd) rfl rfl rfl (dF c86) rfl rfl ?_
 refine aq (aP (v := (I a0_5)) rfl bl (aJ (i := 0) rfl rfl)) rfl rfl rfl (dF c86) rfl rfl ?_
 refine aq (aG rfl rfl (jA _ _ _)) rfl rfl rfl (dF c86) rfl rfl ?_
 refine vV (aN rfl rfl rfl (bV (dF c86))) rfl (vM rfl rfl ?_)
 refine iu H (fun c87 H => ?_) fun c87 H => ?_
 ·refine au rfl rfl rfl (dT c87) rfl rfl ?_
  refine au rfl rfl rfl (dT c87) rfl rfl ?_
  refine au rfl rfl rfl (dT c87) rfl rfl ?_
  refine vV (aN rfl rfl rfl (cb (dT c87))) rfl (ai (aA rfl rfl (ag (ae (vA rfl rfl (ai (aH ?_)))))))
  cases H
  refine vP [] rfl rfl ?_
  exact aT rfl rfl ⟨rfl,rfl⟩
 refine aq (az (sz := 0) (o := 0) rfl kU bd) rfl rfl rfl (dF c87) rfl rfl ?_
 refine aq (aP (v := (I a0_5)) rfl bl (aJ (i := 0) rfl rfl)) rfl rfl rfl (dF c87) rfl rfl ?_
 refine aq (aG rfl rfl (cI _ _ _)) rfl rfl rfl (dF c87) rfl rfl ?_
 refine vV (aN rfl rfl rfl (bV (dF c87))) rfl (ai ?_)
 refine iu H (fun c88 H => ?_) fun c88 H => ?_
 ·refine aA rfl (dT c88) (ag (ae (vA rfl rfl (ai (aH ?_)))))
  cases H
  refine vP [] rfl rfl ?_
  exact aT rfl rfl ⟨rfl,rfl⟩
 refine ay rfl (dF c88) (aV (ag (ag (ae (vA rfl rfl (ai (be ?_)))))))
 refine cf (fun k a w => ∃ i5,cF K a0_1 a0_2 a0_3 a0_4 a1 k i5 = some r ∧ St 56 w0 F [(1,I a1),(2,pt b2 0),(5,I i5)] [box b2 87 [I a0_0,cW a0_1,cW a0_2,cW a0_3,cW a0_4,I a0_5]] a w) K ?_ ?_
 ·exact vF [0] rfl rfl (vS [1,2,5] rfl) fun a w h => ⟨_,H,h⟩
 ·refine fun k => aU fun i5 => cv fun H4 => ?_
  cases k with
  | zero => exact absurd H4 (by simp [cF])
  | succ k =>
   rw [cF] at H4
   refine ag (ag (ae (vM rfl rfl (vV (aG rfl rfl (cI _ _ _)) rfl (ai ?_)))))
   refine gN H4 (fun c142 H4 => ?_) fun c142 H4 => ?_
   ·refine ay rfl (dF c142) (bT (ag (ae (vA rfl rfl (ai (aH ?_))))))
    cases H4
    refine vP [] rfl rfl ?_
    exact aT rfl rfl ⟨rfl,rfl⟩
   refine aA rfl (dT c142) (aV (ag (be (ag (ae (vM rfl rfl (vV (az (sz := 4) (o := 0) rfl de ey) rfl (vV (az (sz := 3) (o := 0) rfl kS kX) rfl ?_))))))))
   obtain ⟨c148,H4⟩ := gq H4
   obtain ⟨c149,H4⟩ := gq H4
   refine vV (qu (o := 1) rfl rfl lk md c148 c149) rfl (vV (aP (v := (cW ([a0_1,a0_2,a0_3,a0_4].getD i5.toNat []))) rfl kG (qT (i := 0) (enc := eS) (z := []) (xs := [a0_1,a0_2,a0_3,a0_4]) rfl nT rfl (bB c148 c149))) rfl (vV (pD rfl Tryz.underlying9) rfl (vV (aG rfl rfl (jA _ _ _)) rfl (vM rfl rfl ?_))))
   refine iu H4 (fun c150 H4 => ?_) fun c150 H4 => ?_
   ·refine au rfl rfl rfl (dT c150) rfl rfl ?_
    refine au rfl rfl rfl (dT c150) rfl rfl ?_
    refine au rfl rfl rfl (dT c150) rfl rfl ?_
    refine au rfl rfl rfl (dT c150) rfl rfl ?_
    refine bS rfl rfl rfl rfl rfl ?_
    refine bS rfl rfl rfl rfl rfl ?_
    refine bS rfl rfl rfl rfl rfl ?_
    refine bS rfl rfl rfl rfl rfl ?_
    refine bS rfl rfl rfl rfl rfl ?_
    refine bS rfl rfl rfl rfl rfl ?_
    refine au rfl rfl rfl (dT c150) rfl rfl ?_
    refine vV (aN rfl rfl rfl (cb (dT c150))) rfl (ai (aA rfl rfl (ag (ae (vA rfl rfl (ai (aH ?_)))))))
    cases H4
    refine vP [] rfl rfl ?_
    exact aT rfl rfl ⟨rfl,rfl⟩
   refine aq (aL rfl) rfl rfl rfl (dF c150) rfl rfl ?_
   refine aq (aL rfl) rfl rfl rfl (dF c150) rfl rfl ?_
   refine aq (aG rfl rfl (jT _ _ _)) rfl rfl rfl (dF c150) rfl rfl ?_
   refine aq (aL rfl) rfl rfl rfl (dF c150) rfl rfl ?_
   refine gN H4 (fun c151 H4 => ?_) fun c151 H4 => ?_
   ·refine au rfl rfl rfl (dF c151) rfl rfl ?_
    refine au rfl rfl rfl (dF c151) rfl rfl ?_
    refine au rfl rfl rfl (dF c151) rfl rfl ?_
    refine au rfl rfl rfl (dF c151) rfl rfl ?_
    refine au rfl rfl rfl (dF c151) rfl rfl ?_
    refine au rfl rfl rfl (dF c151) rfl rfl ?_
    refine aq (aN rfl rfl rfl (bV (dF c151))) rfl rfl rfl (dF c150) rfl rfl ?_
    refine vV (aN rfl rfl rfl (bV (dF c150))) rfl (ai (ay rfl rfl (aV (ae (vM rfl rfl (vV (aG rfl rfl (ci _ _ _) ) rfl (vA rfl rfl (ai ?_))))))))
    exact vF [0] rfl rfl (vS [1,2,5] rfl) fun a w h => ⟨k,Nat.lt_succ_self k,_,H4,h⟩
   refine aq (aL rfl) rfl rfl rfl (dT c151) rfl rfl ?_
   refine aq (az (sz := 4) (o := 0) rfl de ey) rfl rfl rfl (dT c151) rfl rfl ?_
   refine aq (az (sz := 3) (o := 0) rfl kS kX) rfl rfl rfl (dT c151) rfl rfl ?_
   refine aq (qu (o := 1) rfl rfl lk md c148 c149) rfl rfl rfl (dT c151) rfl rfl ?_
   refine aq (aP (v := (cW ([a0_1,a0_2,a0_3,a0_4].getD i5.toNat []))) rfl kG (qT (i := 0) (enc := eS) (z := []) (xs := [a0_1,a0_2,a0_3,a0_4]) rfl nT rfl (bB c148 c149))) rfl rfl rfl (dT c151) rfl rfl ?_
   refine aq (aG rfl rfl (sA _ _)) rfl rfl rfl (dT c151) rfl rfl ?_
   refine aq (aN rfl rfl rfl (cb (dT c151))) rfl rfl rfl (dF c150) rfl rfl ?_
   refine vV (aN rfl rfl rfl (bV (dF c150))) rfl (ai ?_)
   refine iu H4 (fun c152 H4 => ?_) fun c152 H4 => ?_
   ·refine aA rfl (B3 c152) (ag (ae (vA rfl rfl (ai (aH ?_)))))
    cases H4
    refine vP [] rfl rfl ?_
    exact aT rfl rfl ⟨rfl,rfl⟩
   refine ay rfl (BD c152) (aV (ae (vM rfl rfl (vV (aG rfl rfl (ci _ _ _) ) rfl (vA rfl rfl (ai ?_))))))
   exact vF [0] rfl rfl (vS [1,2,5] rfl) fun a w h => ⟨k,Nat.lt_succ_self k,_,H4,h⟩
theorem cS.spec (K : Nat) (sv0 : Value) (A0 : HP) (l0 : List aB) (a1 : Int) (hA0 : da A0 sv0 l0.length 6 (fl aC l0)) (r : (Int × Int)) (H : cS K l0 a1 = some r) : bp Tryz.prog 126 [sv0,I a1] [A0] (fun v M => v = (tU #[I r.1,I r.2]) ∧ M = [A0]) := by
 unfold cS at H
 refine bo Tryz.func126 rfl 40 rfl (nL rfl) fun F w0 => ?_
 show cB (St 40 w0 F [(0,sv0),(1,I a1)] [A0]) _
 refine ag (ae (vA rfl rfl (vA rfl rfl (ai (ag (ag (ae (vM rfl rfl (vV (aG rfl rfl (cI _ _ _)) rfl (vM rfl rfl ?_))))))))))
 refine iu H (fun c45 H => ?_) fun c45 H => ?_
 ·refine au rfl rfl rfl (dT c45) rfl rfl ?_
  refine au rfl rfl rfl (dT c45) rfl rfl ?_
  refine vV (aN rfl rfl rfl (cb (dT c45))) rfl (vM rfl rfl ?_)
  refine au rfl rfl rfl rfl rfl rfl ?_
  refine au rfl rfl rfl rfl rfl rfl ?_
  refine au rfl rfl rfl rfl rfl rfl ?_
  refine vV (aN rfl rfl rfl rfl) rfl (vM rfl rfl ?_)
  refine au rfl rfl rfl rfl rfl rfl ?_
  refine au rfl rfl rfl rfl rfl rfl ?_
  refine au rfl rfl rfl rfl rfl rfl ?_
  refine vV (aN rfl rfl rfl rfl) rfl (ai (aA rfl rfl (ag (ae (vA rfl rfl (vA rfl rfl (ai (aH ?_))))))))
  cases H
  refine vP [0] rfl rfl ?_
  exact cE (vs := [I 1,I 0]) rfl ⟨rfl,⟨rfl,trivial⟩⟩ _ rfl ⟨rfl,rfl⟩
 refine aq (aL rfl) rfl rfl rfl (dF c45) rfl rfl ?_
 refine aq (aG rfl rfl (jA _ _ _)) rfl rfl rfl (dF c45) rfl rfl ?_
 refine vV (aN rfl rfl rfl (bV (dF c45))) rfl (vM rfl rfl ?_)
 refine iu H (fun c46 H => ?_) fun c46 H => ?_
 ·refine au rfl rfl rfl (dT c46) rfl rfl ?_
  refine au rfl rfl rfl (dT c46) rfl rfl ?_
  refine au rfl rfl rfl (dT c46) rfl rfl ?_
  refine vV (aN rfl rfl rfl (cb (dT c46))) rfl (vM rfl rfl ?_)
  refine au rfl rfl rfl rfl rfl rfl ?_
  refine au rfl rfl rfl rfl rfl rfl ?_
  refine au rfl rfl rfl rfl rfl rfl ?_
  refine vV (aN rfl rfl rfl rfl) rfl (ai (aA rfl rfl (ag (ae (vA rfl rfl (vA rfl rfl (ai (aH ?_))))))))
  cases H
  refine vP [0] rfl rfl ?_
  exact cE (vs := [I 1,I 0]) rfl ⟨rfl,⟨rfl,trivial⟩⟩ _ rfl ⟨rfl,rfl⟩
 refine aq (aL rfl) rfl rfl rfl (dF c46) rfl rfl ?_
 refine aq (cp 0 rfl bA rfl hA0) rfl rfl rfl (dF c46) rfl rfl ?_
 refine aq (aG rfl rfl (cI _ _ _)) rfl rfl rfl (dF c46) rfl rfl ?_
 refine vV (aN rfl rfl rfl (bV (dF c46))) rfl (vM rfl rfl ?_)
 refine iu H (fun c47 H => ?_) fun c47 H => ?_
 ·refine au rfl rfl rfl (dT c47) rfl rfl ?_
  refine au rfl rfl rfl (dT c47) rfl rfl ?_
  refine au rfl rfl rfl (dT c47) rfl rfl ?_
  refine vV (aN rfl rfl rfl (cb (dT c47))) rfl (ai (aA rfl rfl (ag (ae (vA rfl rfl (vA rfl rfl (ai (aH ?_))))))))
  cases H
  refine vP [0] rfl rfl ?_
  exact cE (vs := [I 1,I 0]) rfl ⟨rfl,⟨rfl,trivial⟩⟩ _ rfl ⟨rfl,rfl⟩
 refine aq (aL rfl) rfl rfl rfl (dF c47) rfl rfl ?_
 refine aq (cp 0 rfl bA rfl hA0) rfl rfl rfl (dF c47) rfl rfl ?_
 refine aq (aG rfl rfl (jA _ _ _)) rfl rfl rfl (dF c47) rfl rfl ?_
 refine vV (aN rfl rfl rfl (bV (dF c47))) rfl (ai ?_)
 refine iu H (fun c48 H => ?_) fun c48 H => ?_
 ·refine aA rfl (dT c48) (ag (ae (vA rfl rfl (vA rfl rfl (ai (aH ?_))))))
  cases H
  refine vP [0] rfl rfl ?_
  exact cE (vs := [I 1,I 0]) rfl ⟨rfl,⟨rfl,trivial⟩⟩ _ rfl ⟨rfl,rfl⟩
 refine ay rfl (dF c48) (aV (ag (ag (ae (vA rfl rfl (ai (be ?_)))))))
 refine cf (fun k a w => ∃ i6,cX K l0 a1 k i6 = some r ∧ St 40 w0 F [(0,sv0),(1,I a1),(6,I i6)] [A0] a w) K ?_ ?_
 ·exact vF [0] rfl rfl (vS [0,1,6] rfl) fun a w h => ⟨_,H,h⟩
 ·refine fun k => aU fun i6 => cv fun H4 => ?_
  cases k with
  | zero => exact absurd H4 (by simp [cX])
  | succ k =>
   rw [cX] at H4
   refine ag (ag (ae (vM rfl rfl (vM rfl rfl (vV (cp 0 rfl bA rfl hA0) rfl (vV (aG rfl rfl (cI _ _ _)) rfl (ai ?_)))))))
   refine gN H4 (fun c76 H4 => ?_) fun c76 H4 => ?_
   ·refine ay rfl (dF c76) (bT (ag (ae (vA rfl rfl (vA rfl rfl (ai (aH ?_)))))))
    cases H4
    refine vP [0] rfl rfl ?_
    exact cE (vs := [I 0,I 0]) rfl ⟨rfl,⟨rfl,trivial⟩⟩ _ rfl ⟨rfl,rfl⟩
   refine aA rfl (dT c76) (aV (ag (be (ag (ae (vM rfl rfl (vM rfl rfl ?_)))))))
   obtain ⟨c79,H4⟩ := gq H4
   refine vV (bf (sz := 5) 0 rfl rfl bA bG rfl hA0 c79 c76) rfl ?_
   refine vV (bi (vs := [I (((l0.getD i6.toNat ab).Key).Hour),cW (((l0.getD i6.toNat ab).Key).Dims_0),cW (((l0.getD i6.toNat ab).Key).Dims_1),cW (((l0.getD i6.toNat ab).Key).Dims_2),cW (((l0.getD i6.toNat ab).Key).Dims_3),I ((l0.getD i6.toNat ab).Value)]) rfl gz bG (bE (i := 0) rfl hA0 (by simp) (dS bH (bB c79 c76) rfl))) rfl ?_
   refine vM rfl rfl ?_
   obtain ⟨x24,h24,H4⟩ := oB H4
   refine aO (bQ (first := []) (cap := []) (xs := [.tmp 33,.tmp 34]) rfl rfl vQ rfl (dY.spec K (((l0.getD i6.toNat ab).Key).Hour) (((l0.getD i6.toNat ab).Key).Dims_0) (((l0.getD i6.toNat ab).Key).Dims_1) (((l0.getD i6.toNat ab).Key).Dims_2) (((l0.getD i6.toNat ab).Key).Dims_3) ((l0.getD i6.toNat ab).Value) a1 _ h24)) rfl rfl rfl ?_
   rintro _ _ ⟨rfl,rfl⟩
   refine vA rfl rfl (ai (ag (ae (vM rfl rfl (vV (aG rfl rfl (jn _ _ _)) rfl (ai ?_))))))
   refine gN H4 (fun c80 H4 => ?_) fun c80 H4 => ?_
   ·refine ay rfl (ef c80) (aV (ae (vM rfl rfl (vV (aG rfl rfl (ci _ _ _) ) rfl (vA rfl rfl (ai ?_))))))
    exact vF [0] rfl rfl (vS [0,1,6] rfl) fun a w h => ⟨k,Nat.lt_succ_self k,_,H4,h⟩
   refine aA rfl (iC c80) (ag (ae (vM rfl rfl (vM rfl rfl (vA rfl rfl (vA rfl rfl (ai (aH ?_))))))))
   cases H4
   refine vP [0] rfl rfl ?_
   exact cE (vs := [I x24,I i6]) rfl ⟨rfl,⟨rfl,trivial⟩⟩ _ rfl ⟨rfl,rfl⟩
theorem fF.spec (a0 a1 a2 : Int) (r : Bool) (H : fF a0 a1 a2 = r) : bp Tryz.prog 127 [I a0,I a1,I a2] [] (fun v M => v = (bool r) ∧ M = []) := by
 unfold fF at H
 refine bo Tryz.func127 rfl 15 rfl (nL rfl) fun F w0 => ?_
 show cB (St 15 w0 F [(0,I a0),(1,I a1),(2,I a2)] []) _
 refine ag (ae (vA rfl rfl (ai (ag (ae (vM rfl rfl (vM rfl rfl (vV (aG rfl rfl (jT _ _ _)) rfl (vM rfl rfl ?_)))))))))
 refine gN H (fun c2 H => ?_) fun c2 H => ?_
 ·refine au rfl rfl rfl (dF c2) rfl rfl ?_
  refine au rfl rfl rfl (dF c2) rfl rfl ?_
  refine au rfl rfl rfl (dF c2) rfl rfl ?_
  refine vV (aN rfl rfl rfl (bV (dF c2))) rfl (vA rfl rfl (ai (aH ?_)))
  cases H
  refine vP [] rfl rfl ?_
  exact aT rfl rfl ⟨rfl,rfl⟩
 refine aq (aL rfl) rfl rfl rfl (dT c2) rfl rfl ?_
 refine aq (aL rfl) rfl rfl rfl (dT c2) rfl rfl ?_
 refine aq (aG rfl rfl (nF _ _ _)) rfl rfl rfl (dT c2) rfl rfl ?_
 refine vV (aN rfl rfl rfl (cb (dT c2))) rfl (vA rfl rfl (ai (aH ?_)))
 cases H
 refine vP [] rfl rfl ?_
 exact aT rfl rfl ⟨rfl,rfl⟩
end Go.Proofs.YtmgpegiekankmaaGreat.MemPlays
end
