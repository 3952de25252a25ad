/- memCopies_holds: a part of what its proof rests on. -/
import Derived.Test.YtmgpegiekankmaaGreatZC0
set_option linter.unusedVariables false
set_option linter.unusedSimpArgs false
section
set_option linter.unusedVariables false
set_option linter.unusedSimpArgs false
namespace Go.Proofs.YtmgpegiekankmaaGreat.E
open Go Go.RowKit Go.Sort
theorem AK {P : Program} {w : World} {F : List HP} {sv : Value} {e sz n n' : Nat} {cs cs2 zs : List Value} (hs : fb w ([own sv e sz n cs] ++ F)) {g cap : Nat} {cur : Array Value} (hsv : sv = .slice (some ⟨g, 0, none⟩) n cap) (hg : w.heap[g]? = some (.cells cur e (0, 0))) (h3 : n ≤ cap) (h4 : cap ≤ maxLen) (h5 : cur.size = cap * sz) (hz : cs2.length = n' * sz) (hn : n' ≤ n) (hlen : (cs2 ++ zs).length = n * sz) (q : Nat) (os : Array Obj) :
    fb (grow (putRow id (Sort.ahead w q) g 0 (cs2 ++ zs).toArray) os) ([own (.slice (some ⟨g, 0, none⟩) n' cap) e sz n' cs2] ++ F) := by
  have hgl : g < w.heap.size := (Array.getElem?_eq_some_iff.1 hg).1
  have hnew : (grow (putRow id (Sort.ahead w q) g 0 (cs2 ++ zs).toArray) os).heap[g]? = some (.cells (putCells id 0 (cs2 ++ zs).toArray cur) e (0, 0)) := by
    rw [heap_grow_old _ _ (by simpa [putRow, mapBlock, Sort.ahead] using hgl)]
    simp [putRow, mapBlock, Sort.ahead, Array.getElem?_modify, hg, onCells]
  have hold : ∀ c, c < w.heap.size → c ≠ g → (grow (putRow id (Sort.ahead w q) g 0 (cs2 ++ zs).toArray) os).heap[c]? = w.heap[c]? := by
    intro c hc' hne
    rw [heap_grow_old _ _ (by simpa [putRow, mapBlock, Sort.ahead] using hc')]
    simp [putRow, mapBlock, Sort.ahead, Array.getElem?_modify, Ne.symm hne]
  have key := hs.upd (w' := grow (putRow id (Sort.ahead w q) g 0 (cs2 ++ zs).toArray) os) 0 _ (own (.slice (some ⟨g, 0, none⟩) n' cap) e sz n' cs2) rfl (by simp [putRow, mapBlock, Sort.ahead]) fun U S hp hU hS hUS => by
    have hUg : U g := by
      subst hsv
      rcases hp.2 with ⟨h1, _⟩ | ⟨g', cap', cur', h1, h2, _⟩
      · cases h1
      · cases h1; exact h2.1
    refine ⟨U, fun _ hb => .inl hb, fun c hc' hnu => hold c hc' (fun e0 => hnu (e0 ▸ hUg)), hz, .inr ⟨g, cap, _, rfl, ⟨hUg, hnew⟩, Nat.le_trans hn h3, h4, by simpa [putCells] using h5, ?_⟩⟩
    apply List.ext_getElem?
    intro j
    rw [List.getElem?_take]
    by_cases hj : j < n' * sz
    · have hjl : j < cs2.length := by omega
      have hle : n * sz ≤ cap * sz := Nat.mul_le_mul_right sz h3
      have hle2 : n' * sz ≤ n * sz := Nat.mul_le_mul_right sz hn
      have h9 : j < cur.size := by rw [h5]; omega
      have h10 : j < (cs2 ++ zs).length := by rw [hlen]; omega
      have h11 : j < cs2.length + zs.length := by simpa using h10
      rw [if_pos hj, Array.getElem?_toList]
      simp [putCells, Array.getElem?_mapIdx, Array.getElem?_eq_getElem h9, h11, List.getElem?_append_left hjl, List.getElem?_eq_getElem hjl]
      exact List.getElem_append_left hjl
    · rw [if_neg hj, List.getElem?_eq_none (by omega)]
  exact key
theorem zE {w : World} {F : List HP} {sv : Value} {e sz n : Nat} {cs : List Value} (hs : fb w ([own sv e sz n cs] ++ F)) : cs.length = n * sz ∧ ((sv = .slice none 0 0 ∧ n = 0) ∨ ∃ g cap cur, sv = .slice (some ⟨g, 0, none⟩) n cap ∧ w.heap[g]? = some (.cells cur e (0, 0)) ∧ n ≤ cap ∧ cap ≤ maxLen ∧ cur.size = cap * sz ∧ cur.toList.take (n * sz) = cs) :=
  hs.says (φ := cs.length = n * sz ∧ ((sv = .slice none 0 0 ∧ n = 0) ∨ ∃ g cap cur, sv = .slice (some ⟨g, 0, none⟩) n cap ∧ w.heap[g]? = some (.cells cur e (0, 0)) ∧ n ≤ cap ∧ cap ≤ maxLen ∧ cur.size = cap * sz ∧ cur.toList.take (n * sz) = cs)) 0 _ rfl fun U S hp => by
    refine ⟨hp.1, hp.2.imp id fun ⟨g, cap, cur, h1, h2, h3, h4, h5, h6⟩ => ⟨g, cap, cur, h1, h2.2, h3, h4, h5, h6⟩⟩
theorem yn {w : World} {g cap e : Nat} {cur : Array Value} {cs : List Value} (hg : w.heap[g]? = some (.cells cur e (0, 0))) (ht : cur.toList.take cs.length = cs) : Holds id w g 0 cs.toArray := by
  intro j hj
  have hj' : j < cs.length := by simpa using hj
  refine ⟨?_, by simp [World.frozen?, hg]⟩
  have h7 : (cur.toList.take cs.length)[j]? = cs[j]? := by rw [ht]
  rw [List.getElem?_take, if_pos hj', Array.getElem?_toList] at h7
  simp [World.cell?, hg, h7, List.getElem?_eq_getElem hj']
theorem ra (l : List Int) : Lib.compact l = gb l := rfl
theorem tT (l : List Int) : (gb l).length ≤ l.length := by
  unfold gb
  rw [List.length_map]
  exact Nat.le_trans (List.length_filter_le _ _) (by simp)
theorem uX (k : IntKind) (l : List Int) : fl (eI k) l = l.map (Value.int k) := by
  induction l with
  | nil => rfl
  | cons x l ih => simpa [fl, eI] using ih
theorem xh (l : List Int) (w : World) (b : Nat) : putRow (Value.int .i64) w b 0 l.toArray = putRow id w b 0 (l.map (Value.int .i64)).toArray := by
  unfold putRow putCells
  congr 1
  funext o
  congr 1
  funext c
  funext x
  by_cases h : c < l.length
  · simp [h]
  · simp [h]
theorem sk {P : Program} {f : FuncId} {e : TypeId}
    (hc : ∀ (pe cap : Nat) (zs : List Int) (w : World), Holds (Value.int .i64) w pe 0 zs.toArray → zs.length ≤ 9223372036854775807 → zs.length ≤ cap →
      Calls P f #[.slice (some ⟨pe, 0, none⟩) zs.length cap] w fun e w' => e = .returned (.slice (some ⟨pe, 0, none⟩) (Lib.compact zs).length cap) ∧ ∃ q, w' = putRow (Value.int .i64) (Sort.ahead w q) pe 0 (Lib.compact zs ++ List.replicate (zs.length - (Lib.compact zs).length) 0).toArray)
    (hn : ∀ (p : Option Addr) (cap : Nat) (w : World), Calls P f #[.slice p 0 cap] w fun e w' => e = .returned (.slice p 0 cap) ∧ w' = w) (sv : Value) (l : List Int) (hl : l.length ≤ 9223372036854775807) :
    bo P f [sv] [own sv e 1 l.length (fl (eI .i64) l)] (fun v M => ∃ sv2 : Value, v = sv2 ∧ M = [own sv2 e 1 (gb l).length (fl (eI .i64) (gb l))]) := by
  intro F w hs
  obtain ⟨hcl, hform⟩ := zE hs
  have nilcase : l.length = 0 → ∀ p cap, sv = .slice p 0 cap → Calls P f [sv].toArray w fun e' w' => ∃ v L', e' = .returned v ∧ (∃ sv2 : Value, v = sv2 ∧ L' = [own sv2 e 1 (gb l).length (fl (eI .i64) (gb l))]) ∧ fb w' (L' ++ F) ∧ fV w w' := by
    intro h0 p cap hsv
    have hl0 : l = [] := List.eq_nil_of_length_eq_zero h0
    subst hl0
    subst hsv
    refine (hn p cap w).mono ?_
    rintro e' w' ⟨rfl, rfl⟩
    exact ⟨_, _, rfl, ⟨_, rfl, rfl⟩, hs, fV.refl _⟩
  rcases hform with ⟨h1, h2⟩ | ⟨b, cap, cur, h1, h2, h3, h4, h5, h6⟩
  · exact nilcase h2 none 0 h1
  · by_cases h0 : l.length = 0
    · exact nilcase h0 _ cap (by rw [h1, h0])
    · subst h1
      have hH : Holds (Value.int .i64) w b 0 l.toArray := by
        have hid := yn (cap := cap) h2 (by rw [hcl]; exact h6)
        intro j hj
        have hj' : j < l.length := by simpa using hj
        have hj2 : j < (fl (eI .i64) l).toArray.size := by rw [uX]; simpa using hj'
        obtain ⟨q1, q2⟩ := hid j hj2
        refine ⟨?_, q2⟩
        rw [q1]
        simp [uX, hj']
      refine (hc b cap l w hH hl h3).mono ?_
      rintro e' w' ⟨rfl, q, rfl⟩
      have hle := tT l
      have hrow : putRow (Value.int .i64) (Sort.ahead w q) b 0 (Lib.compact l ++ List.replicate (l.length - (Lib.compact l).length) 0).toArray = grow (putRow id (Sort.ahead w q) b 0 (fl (eI .i64) (gb l) ++ List.replicate (l.length - (gb l).length) (Value.int .i64 0)).toArray) #[] := by
        rw [grow_empty, xh, ra, uX]
        simp
      rw [hrow]
      have hput := AK (P := P) hs rfl h2 h3 h4 h5 (cs2 := fl (eI .i64) (gb l)) (zs := List.replicate (l.length - (gb l).length) (Value.int .i64 0)) (n' := (gb l).length) (by rw [uX]; simp) hle (by rw [uX]; simp; omega) q #[]
      refine ⟨_, _, rfl, ⟨_, rfl, rfl⟩, ?_, ⟨rfl, rfl, rfl, by simp [putRow, mapBlock, Sort.ahead], ?_⟩⟩
      · rw [ra]; exact hput
      · show w.drawn ≤ w.drawn + q
        omega
end Go.Proofs.YtmgpegiekankmaaGreat.E
end
section
set_option linter.unusedVariables false
namespace Go.Proofs.YtmgpegiekankmaaGreat.E
open Go Go.Proofs Go.RowKit Go.Sort
def AV : Go.Shelf.Ren where
  f := fun x => match x with | 43 => 123 | n => n
  t := fun x => match x with | 22 => 44 | 23 => 2 | 3 => 3 | 4 => 4 | 0 => 0 | n => n
  g := fun x => x
theorem xy : SlLaysN.n43 Tryz.prog AV :=
  { mixed := Eq.refl true,
    f43 := ⟨ "slices.Compact[[]int64,int64]", of_decide_eq_true (id (Eq.refl true)), Eq.trans Tryz.func123 (congrArg some rfl)⟩,
    t0 := Tryz.underlying0,
    a0 := Tryz.isAgg0,
    z0 := Tryz.sizeOf0,
    v0 := Tryz.zeroValue0,
    t3 := Tryz.underlying3,
    a3 := Tryz.isAgg3,
    z3 := Tryz.sizeOf3,
    v3 := Tryz.zeroValue3,
    t4 := Tryz.underlying4,
    a4 := Tryz.isAgg4,
    z4 := Tryz.sizeOf4,
    v4 := Tryz.zeroValue4,
    t22 := Tryz.underlying44,
    a22 := Tryz.isAgg44,
    z22 := Tryz.sizeOf44,
    v22 := Tryz.zeroValue44,
    t23 := Tryz.underlying2,
    a23 := Tryz.isAgg2,
    z23 := Tryz.sizeOf2,
    v23 := Tryz.zeroValue2,
    i23 := by kernel_rfl }
theorem vC {e : TypeId} (sv : Value) (l : List Int) (hl : l.length ≤ 9223372036854775807) : bo Tryz.prog 123 [sv] [own sv e 1 l.length (fl (eI .i64) l)] (fun v M => ∃ sv2 : Value, v = sv2 ∧ M = [own sv2 e 1 (gb l).length (fl (eI .i64) (gb l))]) :=
  sk (fun pe cap zs w h1 h2 h3 => AnyG.slices_Compact_int xy pe 0 cap zs w h1 h2 h3) (fun p cap w => AnyG.slices_Compact_int_empty xy p cap w) sv l hl
end Go.Proofs.YtmgpegiekankmaaGreat.E
end
section
set_option linter.unusedVariables false
namespace Go.Proofs.YtmgpegiekankmaaGreat.E
theorem qh (x : Int) : ∀ l : List Int, (wi x l).Perm (x :: l)
  | [] => List.Perm.refl _
  | y :: l => by
    unfold wi
    split
    · exact List.Perm.refl _
    · exact ((qh x l).cons y).trans (List.Perm.swap x y l)
theorem nq : ∀ l : List Int, (kD l).Perm l
  | [] => List.Perm.refl _
  | x :: l => (qh x (kD l)).trans ((nq l).cons x)
theorem ph (l : List Int) : (kD l).length = l.length := (nq l).length_eq
theorem qw (x : Int) : ∀ l : List Int, l.Pairwise (· ≤ ·) → (wi x l).Pairwise (· ≤ ·)
  | [], _ => by simp [wi]
  | y :: l, h => by
    obtain ⟨h1, h2⟩ := List.pairwise_cons.1 h
    unfold wi
    split
    · rename_i hx
      refine List.pairwise_cons.2 ⟨fun z hz => ?_, h⟩
      rcases List.mem_cons.1 hz with rfl | hz
      · exact hx
      · have := h1 z hz; omega
    · rename_i hx
      refine List.pairwise_cons.2 ⟨fun z hz => ?_, qw x l h2⟩
      rcases List.mem_cons.1 ((qh x l).mem_iff.1 hz) with rfl | hz
      · omega
      · exact h1 z hz
theorem nv : ∀ l : List Int, (kD l).Pairwise (· ≤ ·)
  | [] => List.Pairwise.nil
  | x :: l => qw x _ (nv l)
theorem rY : ∀ {l m : List Int}, l.Perm m → l.Pairwise (· ≤ ·) → m.Pairwise (· ≤ ·) → l = m
  | [], m, hp, _, _ => by have := hp.length_eq; exact (List.eq_nil_of_length_eq_zero this.symm).symm
  | x :: l, [], hp, _, _ => by have := hp.length_eq; simp at this
  | x :: l, y :: m, hp, hl, hm => by
    obtain ⟨l1, l2⟩ := List.pairwise_cons.1 hl
    obtain ⟨m1, m2⟩ := List.pairwise_cons.1 hm
    have hx : x ∈ y :: m := hp.mem_iff.1 (by simp)
    have hy : y ∈ x :: l := hp.mem_iff.2 (by simp)
    have e : x = y := by
      rcases List.mem_cons.1 hx with h | h
      · exact h
      · rcases List.mem_cons.1 hy with h' | h'
        · exact h'.symm
        · have a := m1 x h; have b := l1 y h'; omega
    subst e
    rw [rY (List.Perm.cons_inv hp) l2 m2]
theorem qL (l : List Int) : (l.mergeSort fun x y => decide (x ≤ y)) = kD l := by
  refine rY ((List.mergeSort_perm l _).trans (nq l).symm) ?_ (nv l)
  have := List.pairwise_mergeSort (le := fun x y : Int => decide (x ≤ y)) (fun a b c h1 h2 => by simp at *; omega) (fun a b => by simp; omega) l
  exact this.imp (fun h => by simpa using h)
end Go.Proofs.YtmgpegiekankmaaGreat.E
end
section
set_option linter.unusedVariables false
set_option linter.unusedSimpArgs false
namespace Go.Proofs.YtmgpegiekankmaaGreat.E
open Go Go.RowKit Go.Sort
theorem tJ (k : IntKind) : ∀ (l : List Int) (j : Nat), (fl (eI k) l)[j]? = (l[j]?).map (Value.int k)
  | [], j => by simp [fl]
  | x :: l, 0 => by simp [fl, eI]
  | x :: l, j + 1 => by
    have := tJ k l j
    simpa [fl, eI] using this
theorem A9 (k : IntKind) (l : List Int) : (fl (eI k) l).length = l.length := by
  induction l with
  | nil => rfl
  | cons x l ih => simpa [fl, eI] using ih
theorem wj {P : Program} {f : FuncId} {e : TypeId}
    (hc : ∀ (pe cap : Nat) (zs : List Int) (w : World), Holds (Value.int .i64) w pe 0 zs.toArray → pe < w.heap.size → zs.length < 4611686018427387904 →
      Calls P f #[.slice (some ⟨pe, 0, none⟩) zs.length cap] w fun e w' => e = .returned (.tuple #[]) ∧ ∃ n os, w' = grow (putRow (Value.int .i64) (Sort.ahead w n) pe 0 (zs.mergeSort fun x y => decide (x ≤ y)).toArray) os)
    (hn : ∀ (p : Option Addr) (cap : Nat) (w : World), Calls P f #[.slice p 0 cap] w fun e w' => e = .returned (.tuple #[]) ∧ w' = w) (sv : Value) (l : List Int) (hl : l.length < 4611686018427387904) :
    bo P f [sv] [own sv e 1 l.length (fl (eI .i64) l)] (fun v M => v = .tuple #[] ∧ M = [own sv e 1 (kD l).length (fl (eI .i64) (kD l))]) := by
  intro F w hs
  have hlen : (kD l).length = l.length := ph l
  by_cases h0 : l.length = 0
  · have hl0 : l = [] := List.eq_nil_of_length_eq_zero h0
    subst hl0
    have hform : ∃ p cap, sv = .slice p 0 cap := hs.says (φ := ∃ p cap, sv = .slice p 0 cap) 0 _ rfl fun U S hp => by
      rcases hp.2 with ⟨h1, _⟩ | ⟨g, cap, cur, h1, _⟩
      · exact ⟨_, _, h1⟩
      · exact ⟨_, _, h1⟩
    obtain ⟨p, cap, rfl⟩ := hform
    refine (hn p cap w).mono ?_
    rintro e' w' ⟨rfl, rfl⟩
    exact ⟨_, _, rfl, ⟨rfl, rfl⟩, hs, fV.refl _⟩
  · have hform : ∃ g cap cur, sv = .slice (some ⟨g, 0, none⟩) l.length cap ∧ w.heap[g]? = some (.cells cur e (0, 0)) ∧ l.length ≤ cap ∧ cap ≤ maxLen ∧ cur.size = cap * 1 ∧ cur.toList.take (l.length * 1) = fl (eI .i64) l :=
      hs.says (φ := ∃ g cap cur, sv = .slice (some ⟨g, 0, none⟩) l.length cap ∧ w.heap[g]? = some (.cells cur e (0, 0)) ∧ l.length ≤ cap ∧ cap ≤ maxLen ∧ cur.size = cap * 1 ∧ cur.toList.take (l.length * 1) = fl (eI .i64) l) 0 _ rfl fun U S hp => by
        rcases hp.2 with ⟨h1, h2⟩ | ⟨g, cap, cur, h1, h2, h3, h4, h5, h6⟩
        · exact absurd h2 h0
        · exact ⟨g, cap, cur, h1, h2.2, h3, h4, h5, h6⟩
    obtain ⟨g, cap, cur, rfl, hg, h3, h4, h5, h6⟩ := hform
    have hgl : g < w.heap.size := (Array.getElem?_eq_some_iff.1 hg).1
    have hget : ∀ j, j < l.length → cur[j]? = some (Value.int .i64 l.toArray[j]!) := by
      intro j hj
      have h7 : (cur.toList.take (l.length * 1))[j]? = (fl (eI .i64) l)[j]? := by rw [h6]
      rw [tJ, List.getElem?_take, if_pos (by omega), Array.getElem?_toList] at h7
      rw [h7]
      simp [List.getElem?_eq_getElem hj]
    have hH : Holds (Value.int .i64) w g 0 l.toArray := by
      intro j hj
      have hj' : j < l.length := by simpa using hj
      refine ⟨?_, by simp [World.frozen?, hg]⟩
      have := hget j hj'
      simp [World.cell?, hg, this]
    refine (hc g cap l w hH hgl hl).mono ?_
    rintro e' w' ⟨rfl, n, os, rfl⟩
    have hms : (l.mergeSort fun x y => decide (x ≤ y)) = kD l := qL l
    rw [hms]
    refine ⟨_, _, rfl, ⟨rfl, rfl⟩, ?_, ⟨rfl, rfl, rfl, by simp [putRow, mapBlock, Sort.ahead], Nat.le_add_right _ _⟩⟩
    have hnew : (grow (putRow (Value.int .i64) (Sort.ahead w n) g 0 (kD l).toArray) os).heap[g]? = some (.cells (putCells (Value.int .i64) 0 (kD l).toArray cur) e (0, 0)) := by
      rw [heap_grow_old _ _ (by simpa [putRow, mapBlock, Sort.ahead] using hgl)]
      simp [putRow, mapBlock, Sort.ahead, Array.getElem?_modify, hg, onCells]
    have hold : ∀ c, c < w.heap.size → c ≠ g → (grow (putRow (Value.int .i64) (Sort.ahead w n) g 0 (kD l).toArray) os).heap[c]? = w.heap[c]? := by
      intro c hc' hne
      rw [heap_grow_old _ _ (by simpa [putRow, mapBlock, Sort.ahead] using hc')]
      simp [putRow, mapBlock, Sort.ahead, Array.getElem?_modify, Ne.symm hne]
    have key := hs.upd (w' := grow (putRow (Value.int .i64) (Sort.ahead w n) g 0 (kD l).toArray) os) 0 _ (own (.slice (some ⟨g, 0, none⟩) l.length cap) e 1 (kD l).length (fl (eI .i64) (kD l))) rfl (by simp [putRow, mapBlock, Sort.ahead]) fun U S hp hU hS hUS => by
      have hUg : U g := by
        rcases hp.2 with ⟨h1, _⟩ | ⟨g', cap', cur', h1, h2, _⟩
        · cases h1
        · cases h1; exact h2.1
      refine ⟨U, fun _ hb => .inl hb, fun c hc' hnu => hold c hc' (fun e0 => hnu (e0 ▸ hUg)), ?_, .inr ⟨g, cap, _, by rw [hlen], ⟨hUg, hnew⟩, by rw [hlen]; exact h3, h4, by simpa [putCells] using h5, ?_⟩⟩
      · rw [A9]; omega
      · apply List.ext_getElem?
        intro j
        rw [tJ, List.getElem?_take]
        by_cases hj : j < l.length
        · rw [if_pos (by rw [hlen]; omega), Array.getElem?_toList]
          have h9 : j < cur.size := by rw [h5]; omega
          have h10 : j < (kD l).length := by rw [hlen]; exact hj
          simp [putCells, Array.getElem?_mapIdx, Array.getElem?_eq_getElem h9, h10, List.getElem?_eq_getElem h10]
        · rw [if_neg (by rw [hlen]; omega), List.getElem?_eq_none (by rw [hlen]; omega)]
          rfl
    exact key
end Go.Proofs.YtmgpegiekankmaaGreat.E
end
section
set_option linter.unusedVariables false
namespace Go.Proofs.YtmgpegiekankmaaGreat.E
open Go Go.Proofs Go.RowKit
def AQ : Go.Shelf.Ren where
  f := fun x => match x with | 53 => 122 | 64 => 151 | 63 => 160 | 78 => 186 | 79 => 187 | 70 => 189 | 71 => 190 | 72 => 191 | 73 => 192 | 74 => 193 | 75 => 194 | 59 => 195 | 76 => 196 | 77 => 197 | 88 => 213 | 89 => 209 | 90 => 210 | 91 => 214 | 92 => 215 | 68 => 113 | 96 => 223 | n => n
  t := fun x => match x with | 22 => 44 | 23 => 2 | 3 => 3 | 51 => 220 | 0 => 0 | 67 => 255 | 69 => 192 | 4 => 4 | 61 => 249 | 60 => 248 | 44 => 200 | 5 => 5 | 9 => 9 | 75 => 268 | 79 => 272 | 83 => 280 | 84 => 281 | n => n
  g := fun x => x
theorem xJ : SlLaysN.n53 Tryz.prog AQ :=
  { mixed := Eq.refl true,
    f53 := ⟨ "slices.Sort[[]int64,int64]", of_decide_eq_true (id (Eq.refl true)), Eq.trans Tryz.func122 (congrArg some rfl)⟩,
    f59 := ⟨ "cmp.Less[int64]", of_decide_eq_true (id (Eq.refl true)), Eq.trans Tryz.func195 (congrArg some rfl)⟩,
    f63 := ⟨ "slices.pdqsortOrdered[int64]", of_decide_eq_true (id (Eq.refl true)), Eq.trans Tryz.func160 (congrArg some rfl)⟩,
    f64 := Eq.trans Tryz.func151 (congrArg some rfl),
    f68 := ⟨ "cmp.isNaN[int64]", of_decide_eq_true (id (Eq.refl true)), Eq.trans Tryz.func113 (congrArg some rfl)⟩,
    f70 := ⟨ "slices.insertionSortOrdered[int64]", of_decide_eq_true (id (Eq.refl true)), Eq.trans Tryz.func189 (congrArg some rfl)⟩,
    f71 := ⟨ "slices.heapSortOrdered[int64]", of_decide_eq_true (id (Eq.refl true)), Eq.trans Tryz.func190 (congrArg some rfl)⟩,
    f72 := ⟨ "slices.breakPatternsOrdered[int64]", of_decide_eq_true (id (Eq.refl true)), Eq.trans Tryz.func191 (congrArg some rfl)⟩,
    f73 := ⟨ "slices.choosePivotOrdered[int64]", of_decide_eq_true (id (Eq.refl true)), Eq.trans Tryz.func192 (congrArg some rfl)⟩,
    f74 := ⟨ "slices.reverseRangeOrdered[int64]", of_decide_eq_true (id (Eq.refl true)), Eq.trans Tryz.func193 (congrArg some rfl)⟩,
    f75 := ⟨ "slices.partialInsertionSortOrdered[int64]", of_decide_eq_true (id (Eq.refl true)), Eq.trans Tryz.func194 (congrArg some rfl)⟩,
    f76 := ⟨ "slices.partitionEqualOrdered[int64]", of_decide_eq_true (id (Eq.refl true)), Eq.trans Tryz.func196 (congrArg some rfl)⟩,
    f77 := ⟨ "slices.partitionOrdered[int64]", of_decide_eq_true (id (Eq.refl true)), Eq.trans Tryz.func197 (congrArg some rfl)⟩,
    f78 := Eq.trans Tryz.func186 (congrArg some rfl),
    f79 := Eq.trans Tryz.func187 (congrArg some rfl),
    f88 := ⟨ "slices.siftDownOrdered[int64]", of_decide_eq_true (id (Eq.refl true)), Eq.trans Tryz.func213 (congrArg some rfl)⟩,
    f89 := Eq.trans Tryz.func209 (congrArg some rfl),
    f90 := Eq.trans Tryz.func210 (congrArg some rfl),
    f91 := ⟨ "slices.medianAdjacentOrdered[int64]", of_decide_eq_true (id (Eq.refl true)), Eq.trans Tryz.func214 (congrArg some rfl)⟩,
    f92 := ⟨ "slices.medianOrdered[int64]", of_decide_eq_true (id (Eq.refl true)), Eq.trans Tryz.func215 (congrArg some rfl)⟩,
    f96 := ⟨ "slices.order2Ordered[int64]", of_decide_eq_true (id (Eq.refl true)), Eq.trans Tryz.func223 (congrArg some rfl)⟩,
    t0 := Tryz.underlying0,
    a0 := Tryz.isAgg0,
    z0 := Tryz.sizeOf0,
    v0 := Tryz.zeroValue0,
    t3 := Tryz.underlying3,
    a3 := Tryz.isAgg3,
    z3 := Tryz.sizeOf3,
    v3 := Tryz.zeroValue3,
    t4 := Tryz.underlying4,
    a4 := Tryz.isAgg4,
    z4 := Tryz.sizeOf4,
    v4 := Tryz.zeroValue4,
    t5 := Tryz.underlying5,
    a5 := Tryz.isAgg5,
    z5 := Tryz.sizeOf5,
    v5 := Tryz.zeroValue5,
    t9 := Tryz.underlying9,
    a9 := Tryz.isAgg9,
    z9 := Tryz.sizeOf9,
    v9 := Tryz.zeroValue9,
    t22 := Tryz.underlying44,
    a22 := Tryz.isAgg44,
    z22 := Tryz.sizeOf44,
    v22 := Tryz.zeroValue44,
    t23 := Tryz.underlying2,
    a23 := Tryz.isAgg2,
    z23 := Tryz.sizeOf2,
    v23 := Tryz.zeroValue2,
    t44 := Tryz.underlying200,
    a44 := Tryz.isAgg200,
    z44 := Tryz.sizeOf200,
    v44 := Tryz.zeroValue200,
    t51 := Tryz.underlying220,
    a51 := Tryz.isAgg220,
    z51 := Tryz.sizeOf220,
    v51 := Tryz.zeroValue220,
    t60 := Tryz.underlying248,
    a60 := Tryz.isAgg248,
    z60 := Tryz.sizeOf248,
    v60 := Tryz.zeroValue248,
    t61 := Tryz.underlying249,
    a61 := Tryz.isAgg249,
    z61 := Tryz.sizeOf249,
    v61 := Tryz.zeroValue249,
    t67 := Tryz.underlying255,
    a67 := Tryz.isAgg255,
    z67 := Tryz.sizeOf255,
    v67 := Tryz.zeroValue255,
    t69 := Tryz.underlying192,
    a69 := Tryz.isAgg192,
    z69 := Tryz.sizeOf192,
    v69 := Tryz.zeroValue192,
    t75 := Tryz.underlying268,
    a75 := Tryz.isAgg268,
    z75 := Tryz.sizeOf268,
    v75 := Tryz.zeroValue268,
    t79 := Tryz.underlying272,
    a79 := Tryz.isAgg272,
    z79 := Tryz.sizeOf272,
    v79 := Tryz.zeroValue272,
    t83 := Tryz.underlying280,
    a83 := Tryz.isAgg280,
    z83 := Tryz.sizeOf280,
    v83 := Tryz.zeroValue280,
    t84 := Tryz.underlying281,
    a84 := Tryz.isAgg281,
    z84 := Tryz.sizeOf281,
    v84 := Tryz.zeroValue281 }
theorem A6 {e : TypeId} (sv : Value) (l : List Int) (hl : l.length < 4611686018427387904) : bo Tryz.prog 122 [sv] [own sv e 1 l.length (fl (eI .i64) l)] (fun v M => v = .tuple #[] ∧ M = [own sv e 1 (kD l).length (fl (eI .i64) (kD l))]) :=
  wj (fun pe cap zs w h1 h2 h3 => AnyG.slices_Sort_int xJ pe 0 cap zs w h1 h2 h3) (fun p cap w => AnyG.slices_Sort_int_none xJ p cap w) sv l hl
end Go.Proofs.YtmgpegiekankmaaGreat.E
end
section
set_option linter.unusedVariables false
namespace Go.Proofs.YtmgpegiekankmaaGreat.MemCopies
open Go E
structure bc where
  Hour : Int
  Dims_0 : List UInt8
  Dims_1 : List UInt8
  Dims_2 : List UInt8
  Dims_3 : List UInt8
  deriving DecidableEq
def ze : bc := ⟨0, [], [], [], []⟩
def wZ (x : bc) : Prop := ov .i64 x.Hour ∧ x.Dims_0.length ≤ 140737488351232 ∧ x.Dims_1.length ≤ 140737488351232 ∧ x.Dims_2.length ≤ 140737488351232 ∧ x.Dims_3.length ≤ 140737488351232
structure aC where
  Key : bc
  Value : Int
  deriving DecidableEq
def ab : aC := ⟨ze, 0⟩
def kT (x : aC) : Prop := wZ x.Key ∧ ov .i64 x.Value
structure cF where
  Seq : Int
  Tick : Int
  Budget : Int
  Facts : Sl aC
def gr : cF := ⟨0, 0, 0, ⟨Value.slice none 0 0, []⟩⟩
structure aW where
  Tier : Int
  Index : Int
  deriving DecidableEq
def vt : aW := ⟨0, 0⟩
def uY (x : aW) : Prop := ov .i64 x.Tier ∧ ov .i64 x.Index
structure aE where
  Part : aW
  Seg : Int
  Mark : Int
  Rows : Int
  Cold : Bool
  deriving DecidableEq
def bn : aE := ⟨vt, 0, 0, 0, false⟩
def pJ (x : aE) : Prop := uY x.Part ∧ ov .i64 x.Seg ∧ ov .i64 x.Mark ∧ ov .i64 x.Rows
structure dv where
  Kind : Int
  B : cF
  From : Int
  To : Int
  Put : Sl aE
def aN : dv := ⟨0, gr, 0, 0, ⟨Value.slice none 0 0, []⟩⟩
structure aH where
  Seq : Int
  Tick : Int
  Budget : Int
  Facts : List aC
  deriving DecidableEq
def ap : aH := ⟨0, 0, 0, []⟩
structure ay where
  Seq : Int
  Tick : Int
  Budget : Int
  F : aC
  deriving DecidableEq
def aa : ay := ⟨0, 0, 0, ab⟩
structure ah where
  k : Int
  v : aE
  deriving DecidableEq
def aF : ah := ⟨0, bn⟩
structure aK where
  Seq : Int
  Tick : Int
  Budget : Int
  Facts : List aC
  deriving DecidableEq
def aj : aK := ⟨0, 0, 0, []⟩
def fi (K : Nat) (l0 : List aC) (i26 : Int) : Nat → Int → Option (Sum Unit Bool)
  | 0, _ => none
  | k + 1, i30 => (if i30 < 4 then (if 0 ≤ i26 then (if 0 ≤ i30 then (if i30 < (4 : Int) then (if 40 < (([((l0.getD i26.toNat ab).Key).Dims_0, ((l0.getD i26.toNat ab).Key).Dims_1, ((l0.getD i26.toNat ab).Key).Dims_2, ((l0.getD i26.toNat ab).Key).Dims_3].getD i30.toNat []).length : Int) then (some (Sum.inr (false))) else (fi K l0 i26 k (bb (i30 + 1)))) else none) else none) else none) else (some (Sum.inl ())))
def fw (K : Nat) (l0 : List aC) : Nat → Int → Option Bool
  | 0, _ => none
  | k + 1, i26 => (if i26 < (l0.length : Int) then (Option.bind (fi K l0 i26 K 0) fun z => (vL z (fun v12 => (fw K l0 k (bb (i26 + 1)))) (fun t_ => (some (t_))))) else (some (true)))
def gm (K : Nat) (l0 : List aC) : Option Bool := (if 100 < (l0.length : Int) then (some (false)) else (fw K l0 K 0))
def eu (K : Nat) (l0 : List cF) : Nat → Int → Option Bool
  | 0, _ => none
  | k + 1, i4 => (if i4 < (l0.length : Int) then (if 0 ≤ i4 then ((gm K (((l0.getD i4.toNat gr).Facts).xs)).bind fun x24 => (if (!x24) = true then (some (false)) else (eu K l0 k (bb (i4 + 1))))) else none) else (some (true)))
def fB (K : Nat) (l0 : List cF) : Option Bool := (if 30 < (l0.length : Int) then (some (false)) else (eu K l0 K 0))
def fv (K : Nat) (l0 : List dv) : Nat → Int → Option Bool
  | 0, _ => none
  | k + 1, i4 => (if i4 < (l0.length : Int) then (if 0 ≤ i4 then ((fB K [(⟨((l0.getD i4.toNat aN).B).Seq, ((l0.getD i4.toNat aN).B).Tick, ((l0.getD i4.toNat aN).B).Budget, (((l0.getD i4.toNat aN).B).Facts)⟩ : cF)]).bind fun x24 => (if (!x24) = true then (some (false)) else (if 20 < ((((l0.getD i4.toNat aN).Put).xs).length : Int) then (some (false)) else (fv K l0 k (bb (i4 + 1)))))) else none) else (some (true)))
def eT (K : Nat) (l0 : List dv) : Option Bool := (if 40 < (l0.length : Int) then (some (false)) else (fv K l0 K 0))
def pD : (Int × Int × Int) := ((1, 0, 0))
def jC (a0_0 : Int) (a0_1 : Int) (a0_2 : Int) (l0 : List aC) : (Int × Int × Int) := ((a0_0, a0_1, a0_2))
def lc (a0 : Int) : Bool := (if 1 ≤ a0 then (decide (a0 ≤ 4)) else (false))
def jy (K : Nat) (a0_1 : List UInt8) (a0_2 : List UInt8) (a0_3 : List UInt8) (a0_4 : List UInt8) (a1 : Int) : Nat → Int → Option Int
  | 0, _ => none
  | k + 1, i5 => (if i5 < 4 then (if 0 ≤ i5 then (if i5 < (4 : Int) then (if 16 < (([a0_1, a0_2, a0_3, a0_4].getD i5.toNat []).length : Int) then (some (4)) else (if a1 ≤ i5 then (if ¬ (([a0_1, a0_2, a0_3, a0_4].getD i5.toNat []) = ([] : List UInt8)) then (some (4)) else (jy K a0_1 a0_2 a0_3 a0_4 a1 k (bb (i5 + 1)))) else (jy K a0_1 a0_2 a0_3 a0_4 a1 k (bb (i5 + 1))))) else none) else none) else (some (0)))
def ll (K : Nat) (a0_0 : Int) (a0_1 : List UInt8) (a0_2 : List UInt8) (a0_3 : List UInt8) (a0_4 : List UInt8) (a0_5 : Int) (a1 : Int) : Option Int := (kY (lc a1) fun x4 => (if (!x4) = true then (some (1)) else (if a0_0 < 0 then (some (2)) else (if 16777216 < a0_0 then (some (2)) else (if 1152921504606846976 < a0_5 then (some (2)) else (if a0_5 < (-1152921504606846976) then (some (2)) else (jy K a0_1 a0_2 a0_3 a0_4 a1 K 0)))))))
def jx (K : Nat) (l0 : List aC) (a1 : Int) : Nat → Int → Option (Int × Int)
  | 0, _ => none
  | k + 1, i6 => (if i6 < (l0.length : Int) then (if 0 ≤ i6 then ((ll K (((l0.getD i6.toNat ab).Key).Hour) (((l0.getD i6.toNat ab).Key).Dims_0) (((l0.getD i6.toNat ab).Key).Dims_1) (((l0.getD i6.toNat ab).Key).Dims_2) (((l0.getD i6.toNat ab).Key).Dims_3) ((l0.getD i6.toNat ab).Value) a1).bind fun x28 => (if ¬ (x28 = 0) then (some ((x28, i6))) else (jx K l0 a1 k (bb (i6 + 1))))) else none) else (some ((0, 0))))
def ji (K : Nat) (l0 : List aC) (a1 : Int) : Option (Int × Int) := (kY (lc a1) fun x16 => (if (!x16) = true then (some ((1, 0))) else (if (l0.length : Int) = 0 then (some ((1, 0))) else (if 50 < (l0.length : Int) then (some ((1, 0))) else (jx K l0 a1 K 0)))))
def jT (a0 : Int) (a1 : Int) (a2 : Int) : Bool := (if 1 ≤ a0 then (if a0 ≤ 4611686018427387904 then (if a1 ≤ 1006633020 then (decide (a2 ≤ 4611686018427387904)) else (false)) else (false)) else (false))
def mf (K : Nat) (a0_0 : Int) (a0_1 : Int) (a0_2 : Int) (l0 : List aC) (a1 : Int) : Option Bool := ((ji K l0 a1).bind fun x3 => (if x3.1 = 0 then (kY (jT (ed a0_0) (ed a0_1) (ed a0_2)) fun x4 => (some (x4))) else (some (false))))
def bz (l0 : List aC) : Option (List aC) := (if 0 < l0.length then (if (([] : List aC).length + l0.length) * 80 ≤ 140737488355328 then (some ((([] : List aC) ++ l0))) else none) else (if (([] : List aC).length + ([] : List aC).length) * 80 ≤ 140737488355328 then (some ((([] : List aC) ++ ([] : List aC)))) else none))
def kW (K : Nat) (p0_0 : Int) (p0_2 : Int) (a1_0 : Int) (a1_1 : Int) (a1_2 : Int) (l0 : List aC) : Option (Int × (List aH) × Int) := ((mf K a1_0 a1_1 a1_2 l0 p0_0).bind fun x5 => (if (!x5) = true then (some ((1, ([] : List aH), p0_2))) else (if a1_0 ≤ p0_2 then (some ((12, ([] : List aH), p0_2))) else ((bz l0).bind fun x6 => (if (([] : List aH).length + 1) * 48 ≤ 140737488355328 then (some ((0, (([] : List aH) ++ [(⟨a1_0, a1_1, a1_2, x6⟩ : aH)]), a1_0))) else none)))))
def eJ (p0_0 : Int) (l0 : List aH) (p0_2 : Int) : Unit := (())
def ij (K : Nat) (l0 : List aH) (a1 : Int) (a2 : Int) (i26 : Int) : Nat → Int → (List aC) → Option (List aC)
  | 0, _, _ => none
  | k + 1, i30, l41 => (if i30 < (((l0.getD i26.toNat ap).Facts).length : Int) then (if 0 ≤ i30 then (if a1 ≤ (((((l0.getD i26.toNat ap).Facts).getD i30.toNat ab).Key).Hour) then (if (((((l0.getD i26.toNat ap).Facts).getD i30.toNat ab).Key).Hour) < a2 then (if (l41.length + [(⟨(⟨((((l0.getD i26.toNat ap).Facts).getD i30.toNat ab).Key).Hour, ((((l0.getD i26.toNat ap).Facts).getD i30.toNat ab).Key).Dims_0, ((((l0.getD i26.toNat ap).Facts).getD i30.toNat ab).Key).Dims_1, ((((l0.getD i26.toNat ap).Facts).getD i30.toNat ab).Key).Dims_2, ((((l0.getD i26.toNat ap).Facts).getD i30.toNat ab).Key).Dims_3⟩ : bc), (((l0.getD i26.toNat ap).Facts).getD i30.toNat ab).Value⟩ : aC)].length) * 80 ≤ 140737488355328 then (ij K l0 a1 a2 i26 k (bb (i30 + 1)) (l41 ++ [(⟨(⟨((((l0.getD i26.toNat ap).Facts).getD i30.toNat ab).Key).Hour, ((((l0.getD i26.toNat ap).Facts).getD i30.toNat ab).Key).Dims_0, ((((l0.getD i26.toNat ap).Facts).getD i30.toNat ab).Key).Dims_1, ((((l0.getD i26.toNat ap).Facts).getD i30.toNat ab).Key).Dims_2, ((((l0.getD i26.toNat ap).Facts).getD i30.toNat ab).Key).Dims_3⟩ : bc), (((l0.getD i26.toNat ap).Facts).getD i30.toNat ab).Value⟩ : aC)])) else none) else (ij K l0 a1 a2 i26 k (bb (i30 + 1)) l41)) else (ij K l0 a1 a2 i26 k (bb (i30 + 1)) l41)) else none) else (some (l41)))
def jD (K : Nat) (l0 : List aH) (a1 : Int) (a2 : Int) : Nat → Int → (List aC) → Option (List aC)
  | 0, _, _ => none
  | k + 1, i26, l35 => (if i26 < (l0.length : Int) then (Option.bind (if 0 ≤ i26 then (ij K l0 a1 a2 i26 K 0 l35) else none) fun x12 => (jD K l0 a1 a2 k (bb (i26 + 1)) x12)) else (some (l35)))
def lH (K : Nat) (l0 : List aH) (a1 : Int) (a2 : Int) : Option (List aC) := (jD K l0 a1 a2 K 0 ([] : List aC))
def fK (K : Nat) (p0_0 : Int) (l0 : List aH) (p0_2 : Int) (a1 : Int) (a2 : Int) : Option (List aC) := (kY (eJ p0_0 l0 p0_2) fun u2 => ((lH K l0 a1 a2).bind fun x2 => (some (x2))))
def eH (l0 : List Int) : Option (List Int) := if l0.length ≤ 17592186044416 then some (kD l0) else none
def dR (l0 : List Int) : Option (List Int) := if l0.length ≤ 17592186044416 then some (gb l0) else none
def jl (K : Nat) (l0 : List aC) : Nat → Int → (List Int) → Option (List Int)
  | 0, _, _ => none
  | k + 1, i4, l7 => (if i4 < (l0.length : Int) then (if 0 ≤ i4 then (if (l7.length + [((l0.getD i4.toNat ab).Key).Hour].length) * 8 ≤ 140737488355328 then (jl K l0 k (bb (i4 + 1)) (l7 ++ [((l0.getD i4.toNat ab).Key).Hour])) else none) else none) else (some (l7)))
def kB (K : Nat) (l0 : List aC) : Option (List Int) := (Option.bind (jl K l0 K 0 ([] : List Int)) fun x4 => ((eH x4).bind fun x5 => ((dR x5).bind fun x6 => (some (x6)))))
def iK (K : Nat) (p0_0 : Int) (l0 : List aH) (p0_2 : Int) : Option (List Int) := ((fK K p0_0 l0 p0_2 0 4611686018427387904).bind fun x3 => ((kB K x3).bind fun x4 => (some (x4))))
def kj (a0 : Int) (a1_0 : Int) (a1_1 : List UInt8) (a1_2 : List UInt8) (a1_3 : List UInt8) (a1_4 : List UInt8) (a1_5 : Int) (p0_0 : Int) (p1_0 : Int) : Bool := (if p0_0 ≤ a1_0 then (decide (a1_0 < p1_0)) else (false))
def gW (a0_0 : Int) (a0_1 : List UInt8) (a0_2 : List UInt8) (a0_3 : List UInt8) (a0_4 : List UInt8) (a0_5 : Int) (p1_0 : Int) (p2_0 : Int) (p3_0 : Int) (p3_1 : Int) (p3_2 : Int) (l0 : List aC) : Bool := (kY (kj p3_0 a0_0 a0_1 a0_2 a0_3 a0_4 a0_5 p1_0 p2_0) fun x2 => (x2))
def cm (K : Nat) (l0 : List aC) (p1_0 : Int) (p2_0 : Int) (p3_0 : Int) (p3_1 : Int) (p3_2 : Int) (l1 : List aC) : Nat → Int → Option Int
  | 0, _ => none
  | k + 1, i5 => (if i5 < (l0.length : Int) then (if 0 ≤ i5 then (kY (gW (((l0.getD i5.toNat ab).Key).Hour) (((l0.getD i5.toNat ab).Key).Dims_0) (((l0.getD i5.toNat ab).Key).Dims_1) (((l0.getD i5.toNat ab).Key).Dims_2) (((l0.getD i5.toNat ab).Key).Dims_3) ((l0.getD i5.toNat ab).Value) p1_0 p2_0 p3_0 p3_1 p3_2 l1) fun x24 => (if x24 = true then (some (i5)) else (cm K l0 p1_0 p2_0 p3_0 p3_1 p3_2 l1 k (bb (i5 + 1))))) else none) else (some ((-1))))
def cJ (K : Nat) (l0 : List aC) (p1_0 : Int) (p2_0 : Int) (p3_0 : Int) (p3_1 : Int) (p3_2 : Int) (l1 : List aC) : Option Int := (cm K l0 p1_0 p2_0 p3_0 p3_1 p3_2 l1 K 0)
def ca (K : Nat) (p1_0 : Int) (p2_0 : Int) (p3_0 : Int) (p3_1 : Int) (p3_2 : Int) (l1 : List aC) : Nat → Int → Int → (List aC) → Option ((List aC) × Int)
  | 0, _, _, _ => none
  | k + 1, i10, i11, l8 => (if i11 < (l8.length : Int) then (if 0 ≤ i11 then (kY (gW (((l8.getD i11.toNat ab).Key).Hour) (((l8.getD i11.toNat ab).Key).Dims_0) (((l8.getD i11.toNat ab).Key).Dims_1) (((l8.getD i11.toNat ab).Key).Dims_2) (((l8.getD i11.toNat ab).Key).Dims_3) ((l8.getD i11.toNat ab).Value) p1_0 p2_0 p3_0 p3_1 p3_2 l1) fun x28 => (if (!x28) = true then (if 0 ≤ i10 then (if i10 < (l8.length : Int) then (ca K p1_0 p2_0 p3_0 p3_1 p3_2 l1 k (bb (i10 + 1)) (bb (i11 + 1)) (l8.set i10.toNat (⟨(⟨((l8.getD i11.toNat ab).Key).Hour, ((l8.getD i11.toNat ab).Key).Dims_0, ((l8.getD i11.toNat ab).Key).Dims_1, ((l8.getD i11.toNat ab).Key).Dims_2, ((l8.getD i11.toNat ab).Key).Dims_3⟩ : bc), (l8.getD i11.toNat ab).Value⟩ : aC))) else none) else none) else (ca K p1_0 p2_0 p3_0 p3_1 p3_2 l1 k i10 (bb (i11 + 1)) l8))) else none) else (some ((l8, i10))))
def cv (K : Nat) (l0 : List aC) (p1_0 : Int) (p2_0 : Int) (p3_0 : Int) (p3_1 : Int) (p3_2 : Int) (l1 : List aC) : Option (List aC) := ((cJ K l0 p1_0 p2_0 p3_0 p3_1 p3_2 l1).bind fun x15 => (if x15 = (-1) then (some (l0)) else (Option.bind (ca K p1_0 p2_0 p3_0 p3_1 p3_2 l1 K x15 (bb (x15 + 1)) l0) fun x22 => (if 0 ≤ x22.2 then (if x22.2 ≤ (x22.1.length : Int) then (if x22.2 ≤ ((x22.1.take x22.2.toNat ++ List.replicate (x22.1.length - x22.2.toNat) ab).length : Int) then (some (((x22.1.take x22.2.toNat ++ List.replicate (x22.1.length - x22.2.toNat) ab).take x22.2.toNat))) else none) else none) else none))))
def hZ (K : Nat) (l0 : List aH) (p1_0 : Int) (p2_0 : Int) : Nat → Int → Int → (List aH) → Option ((List aH) × Int)
  | 0, _, _, _ => none
  | k + 1, i10, i11, l7 => (if i11 < (l0.length : Int) then (if 0 ≤ i11 then ((bz ((l0.getD i11.toNat ap).Facts)).bind fun x49 => ((cv K x49 p1_0 p2_0 ((l0.getD i11.toNat ap).Seq) ((l0.getD i11.toNat ap).Tick) ((l0.getD i11.toNat ap).Budget) ((l0.getD i11.toNat ap).Facts)).bind fun x50 => (if 0 < (x50.length : Int) then (if (l7.length + 1) * 48 ≤ 140737488355328 then (hZ K l0 p1_0 p2_0 k (bb (i10 + (bb ((((l0.getD i11.toNat ap).Facts).length : Int) - (x50.length : Int))))) (bb (i11 + 1)) (l7 ++ [(⟨(l0.getD i11.toNat ap).Seq, (l0.getD i11.toNat ap).Tick, (l0.getD i11.toNat ap).Budget, x50⟩ : aH)])) else none) else (hZ K l0 p1_0 p2_0 k (bb (i10 + (bb ((((l0.getD i11.toNat ap).Facts).length : Int) - (x50.length : Int))))) (bb (i11 + 1)) l7)))) else none) else (some ((l7, i10))))
def kG (K : Nat) (p0_0 : Int) (l0 : List aH) (p0_2 : Int) (p1_0 : Int) (p2_0 : Int) : Option ((List aH) × Int) := (Option.bind (kY (eJ p0_0 l0 p0_2) fun u4 => (hZ K l0 p1_0 p2_0 K 0 0 ([] : List aH))) fun x38 => (some ((x38.1, x38.2))))
def fN (K : Nat) (p0_0 : Int) (l0 : List aH) (p0_2 : Int) (a1 : Int) (a2 : Int) : Option ((List aH) × Int) := ((kG K p0_0 l0 p0_2 a1 a2).bind fun x2 => (some ((x2.1, x2.2))))
def ig (K : Nat) (p0_0 : Int) (l0 : List aH) (p0_2 : Int) (a1 : Int) (a2 : Int) : Option Bool := ((fK K p0_0 l0 p0_2 a1 a2).bind fun x2 => (some (decide (0 < (x2.length : Int)))))
def eW (K : Nat) : Option Bool := (kY (pD) fun x8 => (kY (jC 1 0 0 [(⟨(⟨3, ([] : List UInt8), ([] : List UInt8), ([] : List UInt8), ([] : List UInt8)⟩ : bc), 0⟩ : aC), (⟨(⟨5, ([] : List UInt8), ([] : List UInt8), ([] : List UInt8), ([] : List UInt8)⟩ : bc), 0⟩ : aC)]) fun x9 => ((kW K x8.1 x8.2.1 x9.1 x9.2.1 x9.2.2 [(⟨(⟨3, ([] : List UInt8), ([] : List UInt8), ([] : List UInt8), ([] : List UInt8)⟩ : bc), 0⟩ : aC), (⟨(⟨5, ([] : List UInt8), ([] : List UInt8), ([] : List UInt8), ([] : List UInt8)⟩ : bc), 0⟩ : aC)]).bind fun x10 => ((iK K x8.1 x10.2.1 x10.2.2).bind fun x11 => ((fN K x8.1 x10.2.1 x10.2.2 0 4).bind fun x12 => (if x8.2.2 = 0 then (if x10.1 = 0 then (if (x11.length : Int) = 2 then (if 0 < (x11.length : Int) then (if (x11.getD ((0 : Int).toNat) 0) = 3 then (if 1 < (x11.length : Int) then (if (x11.getD ((1 : Int).toNat) 0) = 5 then (if x12.2 = 1 then ((ig K x8.1 x12.1 x10.2.2 5 6).bind fun x13 => (if x13 = true then ((ig K x8.1 x12.1 x10.2.2 3 4).bind fun x14 => (some ((!x14)))) else (some (false)))) else (some (false))) else (some (false))) else none) else (some (false))) else none) else (some (false))) else (some (false))) else (some (false))))))))
def mE : (Int × Int × Int) := ((2, 0, 0))
def jB : (Int × Int × Int) := ((2, 0, 0))
def iP (a0_0 : Int) (a0_1 : Int) (a0_2 : Int) (l0 : List aC) : (Int × Int × Int) := ((a0_0, a0_1, a0_2))
def jQ (K : Nat) (a0_0 : Int) (a0_1 : Int) (a0_2 : Int) (l0 : List aC) (a1 : Int) : Option Bool := ((ji K l0 a1).bind fun x3 => (if x3.1 = 0 then (kY (jT (ed a0_0) (ed a0_1) (ed a0_2)) fun x4 => (some (x4))) else (some (false))))
def cG (K : Nat) (a0_1 : List UInt8) (a0_2 : List UInt8) (a0_3 : List UInt8) (a0_4 : List UInt8) (a1 : Int) : Nat → Int → Option Int
  | 0, _ => none
  | k + 1, i5 => (if i5 < 4 then (if 0 ≤ i5 then (if i5 < (4 : Int) then (if 16 < (([a0_1, a0_2, a0_3, a0_4].getD i5.toNat []).length : Int) then (some (4)) else (if a1 ≤ i5 then (if ¬ (([a0_1, a0_2, a0_3, a0_4].getD i5.toNat []) = ([] : List UInt8)) then (some (4)) else (cG K a0_1 a0_2 a0_3 a0_4 a1 k (bb (i5 + 1)))) else (cG K a0_1 a0_2 a0_3 a0_4 a1 k (bb (i5 + 1))))) else none) else none) else (some (0)))
def ei (K : Nat) (a0_0 : Int) (a0_1 : List UInt8) (a0_2 : List UInt8) (a0_3 : List UInt8) (a0_4 : List UInt8) (a0_5 : Int) (a1 : Int) : Option Int := (if a1 < 1 then (some (1)) else (if 4 < a1 then (some (1)) else (if a0_0 < 0 then (some (2)) else (if 16777216 < a0_0 then (some (2)) else (if 1152921504606846976 < a0_5 then (some (2)) else (if a0_5 < (-1152921504606846976) then (some (2)) else (cG K a0_1 a0_2 a0_3 a0_4 a1 K 0)))))))
def db (K : Nat) (l0 : List aC) (a1 : Int) : Nat → Int → Option (Int × Int)
  | 0, _ => none
  | k + 1, i6 => (if i6 < (l0.length : Int) then (if 0 ≤ i6 then ((ei K (((l0.getD i6.toNat ab).Key).Hour) (((l0.getD i6.toNat ab).Key).Dims_0) (((l0.getD i6.toNat ab).Key).Dims_1) (((l0.getD i6.toNat ab).Key).Dims_2) (((l0.getD i6.toNat ab).Key).Dims_3) ((l0.getD i6.toNat ab).Value) a1).bind fun x24 => (if ¬ (x24 = 0) then (some ((x24, i6))) else (db K l0 a1 k (bb (i6 + 1))))) else none) else (some ((0, 0))))
def cU (K : Nat) (l0 : List aC) (a1 : Int) : Option (Int × Int) := (if a1 < 1 then (some ((1, 0))) else (if 4 < a1 then (some ((1, 0))) else (if (l0.length : Int) < 1 then (some ((1, 0))) else (if 50 < (l0.length : Int) then (some ((1, 0))) else (db K l0 a1 K 0)))))
def fO (a0 : Int) (a1 : Int) (a2 : Int) : Bool := (if a1 ≤ a0 then (decide (a0 ≤ a2)) else (false))
def eP (K : Nat) (a0_0 : Int) (a0_1 : Int) (a0_2 : Int) (l0 : List aC) (a1 : Int) : Option Bool := ((cU K l0 a1).bind fun x5 => (if x5.1 = 0 then (kY (fO a0_0 1 4611686018427387904) fun x6 => (if x6 = true then (kY (fO a0_1 0 1006633020) fun x7 => (if x7 = true then (kY (fO a0_2 0 4611686018427387904) fun x8 => (some (x8))) else (some (false)))) else (some (false)))) else (some (false))))
def ek : Unit := (())
def mh : Unit := (kY (ek) fun u2 => (()))
def dA : Unit := (())
def eV : Unit := (kY (dA) fun u2 => (()))
def fy (K : Nat) : Nat → Option Unit
  | 0 => none
  | k + 1 => (some (()))
def eU (K : Nat) (Gm0 : Type) (y0 : Int → aE → Gm0 → Option (Gm0 × Bool)) (x0y : Gm0) : Option Unit := (fy K K)
def ff (K : Nat) (t0_ : Int) (t1_ : aE) (z4 : List ah) : Option ((List ah) × Bool) := (if (z4.length + [(⟨t0_, (⟨(⟨t1_.Part.Tier, t1_.Part.Index⟩ : aW), t1_.Seg, t1_.Mark, t1_.Rows, t1_.Cold⟩ : aE)⟩ : ah)].length) * 56 ≤ 140737488355328 then (some (((z4 ++ [(⟨t0_, (⟨(⟨t1_.Part.Tier, t1_.Part.Index⟩ : aW), t1_.Seg, t1_.Mark, t1_.Rows, t1_.Cold⟩ : aE)⟩ : ah)]), true))) else none)
def eA (K : Nat) : Option (List ah) := (kY (ek) fun u4 => (kY (eV) fun u6 => ((eU K (List ah) (ff K) ([] : List ah)).bind fun x4 => (some (([] : List ah))))))
def gD (K : Nat) : Option (List ah) := ((eA K).bind fun x2 => (some (x2)))
def jM (a0 : Int) : Int := (bb (Int.tdiv a0 24))
def lS (a0 : Int) : (Int × Int × Int) := (if (bb (Int.tdiv (bb ((bb (5 * (bb ((Int.tmod (bb (a0 + 719468)) 146097) - (bb ((bb ((bb (365 * (bb (Int.tdiv (bb ((bb ((bb ((Int.tmod (bb (a0 + 719468)) 146097) - (bb (Int.tdiv (Int.tmod (bb (a0 + 719468)) 146097) 1460)))) + (bb (Int.tdiv (Int.tmod (bb (a0 + 719468)) 146097) 36524)))) - (bb (Int.tdiv (Int.tmod (bb (a0 + 719468)) 146097) 146096)))) 365)))) + (bb (Int.tdiv (bb (Int.tdiv (bb ((bb ((bb ((Int.tmod (bb (a0 + 719468)) 146097) - (bb (Int.tdiv (Int.tmod (bb (a0 + 719468)) 146097) 1460)))) + (bb (Int.tdiv (Int.tmod (bb (a0 + 719468)) 146097) 36524)))) - (bb (Int.tdiv (Int.tmod (bb (a0 + 719468)) 146097) 146096)))) 365)) 4)))) - (bb (Int.tdiv (bb (Int.tdiv (bb ((bb ((bb ((Int.tmod (bb (a0 + 719468)) 146097) - (bb (Int.tdiv (Int.tmod (bb (a0 + 719468)) 146097) 1460)))) + (bb (Int.tdiv (Int.tmod (bb (a0 + 719468)) 146097) 36524)))) - (bb (Int.tdiv (Int.tmod (bb (a0 + 719468)) 146097) 146096)))) 365)) 100)))))))) + 2)) 153)) < 10 then ((bb ((bb ((bb (Int.tdiv (bb (a0 + 719468)) 146097)) * 400)) + (bb (Int.tdiv (bb ((bb ((bb ((Int.tmod (bb (a0 + 719468)) 146097) - (bb (Int.tdiv (Int.tmod (bb (a0 + 719468)) 146097) 1460)))) + (bb (Int.tdiv (Int.tmod (bb (a0 + 719468)) 146097) 36524)))) - (bb (Int.tdiv (Int.tmod (bb (a0 + 719468)) 146097) 146096)))) 365))), bb ((bb (Int.tdiv (bb ((bb (5 * (bb ((Int.tmod (bb (a0 + 719468)) 146097) - (bb ((bb ((bb (365 * (bb (Int.tdiv (bb ((bb ((bb ((Int.tmod (bb (a0 + 719468)) 146097) - (bb (Int.tdiv (Int.tmod (bb (a0 + 719468)) 146097) 1460)))) + (bb (Int.tdiv (Int.tmod (bb (a0 + 719468)) 146097) 36524)))) - (bb (Int.tdiv (Int.tmod (bb (a0 + 719468)) 146097) 146096)))) 365)))) + (bb (Int.tdiv (bb (Int.tdiv (bb ((bb ((bb ((Int.tmod (bb (a0 + 719468)) 146097) - (bb (Int.tdiv (Int.tmod (bb (a0 + 719468)) 146097) 1460)))) + (bb (Int.tdiv (Int.tmod (bb (a0 + 719468)) 146097) 36524)))) - (bb (Int.tdiv (Int.tmod (bb (a0 + 719468)) 146097) 146096)))) 365)) 4)))) - (bb (Int.tdiv (bb (Int.tdiv (bb ((bb ((bb ((Int.tmod (bb (a0 + 719468)) 146097) - (bb (Int.tdiv (Int.tmod (bb (a0 + 719468)) 146097) 1460)))) + (bb (Int.tdiv (Int.tmod (bb (a0 + 719468)) 146097) 36524)))) - (bb (Int.tdiv (Int.tmod (bb (a0 + 719468)) 146097) 146096)))) 365)) 100)))))))) + 2)) 153)) + 3), bb ((bb ((bb ((Int.tmod (bb (a0 + 719468)) 146097) - (bb ((bb ((bb (365 * (bb (Int.tdiv (bb ((bb ((bb ((Int.tmod (bb (a0 + 719468)) 146097) - (bb (Int.tdiv (Int.tmod (bb (a0 + 719468)) 146097) 1460)))) + (bb (Int.tdiv (Int.tmod (bb (a0 + 719468)) 146097) 36524)))) - (bb (Int.tdiv (Int.tmod (bb (a0 + 719468)) 146097) 146096)))) 365)))) + (bb (Int.tdiv (bb (Int.tdiv (bb ((bb ((bb ((Int.tmod (bb (a0 + 719468)) 146097) - (bb (Int.tdiv (Int.tmod (bb (a0 + 719468)) 146097) 1460)))) + (bb (Int.tdiv (Int.tmod (bb (a0 + 719468)) 146097) 36524)))) - (bb (Int.tdiv (Int.tmod (bb (a0 + 719468)) 146097) 146096)))) 365)) 4)))) - (bb (Int.tdiv (bb (Int.tdiv (bb ((bb ((bb ((Int.tmod (bb (a0 + 719468)) 146097) - (bb (Int.tdiv (Int.tmod (bb (a0 + 719468)) 146097) 1460)))) + (bb (Int.tdiv (Int.tmod (bb (a0 + 719468)) 146097) 36524)))) - (bb (Int.tdiv (Int.tmod (bb (a0 + 719468)) 146097) 146096)))) 365)) 100)))))) - (bb (Int.tdiv (bb ((bb (153 * (bb (Int.tdiv (bb ((bb (5 * (bb ((Int.tmod (bb (a0 + 719468)) 146097) - (bb ((bb ((bb (365 * (bb (Int.tdiv (bb ((bb ((bb ((Int.tmod (bb (a0 + 719468)) 146097) - (bb (Int.tdiv (Int.tmod (bb (a0 + 719468)) 146097) 1460)))) + (bb (Int.tdiv (Int.tmod (bb (a0 + 719468)) 146097) 36524)))) - (bb (Int.tdiv (Int.tmod (bb (a0 + 719468)) 146097) 146096)))) 365)))) + (bb (Int.tdiv (bb (Int.tdiv (bb ((bb ((bb ((Int.tmod (bb (a0 + 719468)) 146097) - (bb (Int.tdiv (Int.tmod (bb (a0 + 719468)) 146097) 1460)))) + (bb (Int.tdiv (Int.tmod (bb (a0 + 719468)) 146097) 36524)))) - (bb (Int.tdiv (Int.tmod (bb (a0 + 719468)) 146097) 146096)))) 365)) 4)))) - (bb (Int.tdiv (bb (Int.tdiv (bb ((bb ((bb ((Int.tmod (bb (a0 + 719468)) 146097) - (bb (Int.tdiv (Int.tmod (bb (a0 + 719468)) 146097) 1460)))) + (bb (Int.tdiv (Int.tmod (bb (a0 + 719468)) 146097) 36524)))) - (bb (Int.tdiv (Int.tmod (bb (a0 + 719468)) 146097) 146096)))) 365)) 100)))))))) + 2)) 153)))) + 2)) 5)))) + 1))) else ((bb ((bb ((bb ((bb (Int.tdiv (bb (a0 + 719468)) 146097)) * 400)) + (bb (Int.tdiv (bb ((bb ((bb ((Int.tmod (bb (a0 + 719468)) 146097) - (bb (Int.tdiv (Int.tmod (bb (a0 + 719468)) 146097) 1460)))) + (bb (Int.tdiv (Int.tmod (bb (a0 + 719468)) 146097) 36524)))) - (bb (Int.tdiv (Int.tmod (bb (a0 + 719468)) 146097) 146096)))) 365)))) + 1), bb ((bb (Int.tdiv (bb ((bb (5 * (bb ((Int.tmod (bb (a0 + 719468)) 146097) - (bb ((bb ((bb (365 * (bb (Int.tdiv (bb ((bb ((bb ((Int.tmod (bb (a0 + 719468)) 146097) - (bb (Int.tdiv (Int.tmod (bb (a0 + 719468)) 146097) 1460)))) + (bb (Int.tdiv (Int.tmod (bb (a0 + 719468)) 146097) 36524)))) - (bb (Int.tdiv (Int.tmod (bb (a0 + 719468)) 146097) 146096)))) 365)))) + (bb (Int.tdiv (bb (Int.tdiv (bb ((bb ((bb ((Int.tmod (bb (a0 + 719468)) 146097) - (bb (Int.tdiv (Int.tmod (bb (a0 + 719468)) 146097) 1460)))) + (bb (Int.tdiv (Int.tmod (bb (a0 + 719468)) 146097) 36524)))) - (bb (Int.tdiv (Int.tmod (bb (a0 + 719468)) 146097) 146096)))) 365)) 4)))) - (bb (Int.tdiv (bb (Int.tdiv (bb ((bb ((bb ((Int.tmod (bb (a0 + 719468)) 146097) - (bb (Int.tdiv (Int.tmod (bb (a0 + 719468)) 146097) 1460)))) + (bb (Int.tdiv (Int.tmod (bb (a0 + 719468)) 146097) 36524)))) - (bb (Int.tdiv (Int.tmod (bb (a0 + 719468)) 146097) 146096)))) 365)) 100)))))))) + 2)) 153)) - 9), bb ((bb ((bb ((Int.tmod (bb (a0 + 719468)) 146097) - (bb ((bb ((bb (365 * (bb (Int.tdiv (bb ((bb ((bb ((Int.tmod (bb (a0 + 719468)) 146097) - (bb (Int.tdiv (Int.tmod (bb (a0 + 719468)) 146097) 1460)))) + (bb (Int.tdiv (Int.tmod (bb (a0 + 719468)) 146097) 36524)))) - (bb (Int.tdiv (Int.tmod (bb (a0 + 719468)) 146097) 146096)))) 365)))) + (bb (Int.tdiv (bb (Int.tdiv (bb ((bb ((bb ((Int.tmod (bb (a0 + 719468)) 146097) - (bb (Int.tdiv (Int.tmod (bb (a0 + 719468)) 146097) 1460)))) + (bb (Int.tdiv (Int.tmod (bb (a0 + 719468)) 146097) 36524)))) - (bb (Int.tdiv (Int.tmod (bb (a0 + 719468)) 146097) 146096)))) 365)) 4)))) - (bb (Int.tdiv (bb (Int.tdiv (bb ((bb ((bb ((Int.tmod (bb (a0 + 719468)) 146097) - (bb (Int.tdiv (Int.tmod (bb (a0 + 719468)) 146097) 1460)))) + (bb (Int.tdiv (Int.tmod (bb (a0 + 719468)) 146097) 36524)))) - (bb (Int.tdiv (Int.tmod (bb (a0 + 719468)) 146097) 146096)))) 365)) 100)))))) - (bb (Int.tdiv (bb ((bb (153 * (bb (Int.tdiv (bb ((bb (5 * (bb ((Int.tmod (bb (a0 + 719468)) 146097) - (bb ((bb ((bb (365 * (bb (Int.tdiv (bb ((bb ((bb ((Int.tmod (bb (a0 + 719468)) 146097) - (bb (Int.tdiv (Int.tmod (bb (a0 + 719468)) 146097) 1460)))) + (bb (Int.tdiv (Int.tmod (bb (a0 + 719468)) 146097) 36524)))) - (bb (Int.tdiv (Int.tmod (bb (a0 + 719468)) 146097) 146096)))) 365)))) + (bb (Int.tdiv (bb (Int.tdiv (bb ((bb ((bb ((Int.tmod (bb (a0 + 719468)) 146097) - (bb (Int.tdiv (Int.tmod (bb (a0 + 719468)) 146097) 1460)))) + (bb (Int.tdiv (Int.tmod (bb (a0 + 719468)) 146097) 36524)))) - (bb (Int.tdiv (Int.tmod (bb (a0 + 719468)) 146097) 146096)))) 365)) 4)))) - (bb (Int.tdiv (bb (Int.tdiv (bb ((bb ((bb ((Int.tmod (bb (a0 + 719468)) 146097) - (bb (Int.tdiv (Int.tmod (bb (a0 + 719468)) 146097) 1460)))) + (bb (Int.tdiv (Int.tmod (bb (a0 + 719468)) 146097) 36524)))) - (bb (Int.tdiv (Int.tmod (bb (a0 + 719468)) 146097) 146096)))) 365)) 100)))))))) + 2)) 153)))) + 2)) 5)))) + 1))))
def fQ (a0 : Int) : Int := (kY (lS a0) fun x2 => (bb ((bb ((bb (x2.1 - 1970)) * 12)) + (bb (x2.2.1 - 1)))))
def ms (a0 : Int) (a1 : Int) : (Int × Int × Bool) := (if a1 < 0 then ((0, 0, false)) else (if 16777216 < a1 then ((0, 0, false)) else (if a0 = 1 then ((a0, a1, true)) else (if a0 = 2 then (kY (jM a1) fun x10 => ((a0, x10, true))) else (if a0 = 3 then (kY (jM a1) fun x11 => (kY (fQ x11) fun x12 => ((a0, x12, true)))) else ((0, 0, false)))))))
def kx (a0_0 : Int) (a0_1 : Int) : Bool := (kY (ms a0_0 16777216) fun x2 => (if x2.2.2 = true then (if 0 ≤ a0_1 then (decide (a0_1 ≤ x2.2.1)) else (false)) else (false)))
def fJ (a0 : Int) (a1 : Int) : Bool := (if a1 ≤ a0 then (decide (a0 ≤ 4611686018427387904)) else (false))
def jV (a0_0 : Int) (a0_1 : Int) (a0_2 : Int) (a0_3 : Int) (a0_4 : Int) (a0_5 : Bool) : Bool := (kY (kx a0_0 a0_1) fun x5 => (if x5 = true then (kY (fJ a0_2 1) fun x6 => (if x6 = true then (kY (fJ a0_4 1) fun x7 => (if x7 = true then (kY (fJ a0_3 0) fun x8 => (if x8 = true then (if a0_0 = 3 then (true) else ((!a0_5))) else (false))) else (false))) else (false))) else (false)))
def ky (a0 : Int) (a1 : Int) (a2 : Int) : Int := (kY (if (bb (a1 - 3)) < 0 then ((bb (a0 - 1), bb ((bb (a1 - 3)) + 12))) else ((a0, bb (a1 - 3)))) fun x2 => (bb ((bb ((bb ((bb (Int.tdiv x2.1 400)) * 146097)) + (bb ((bb ((bb ((bb ((bb ((bb (365 * (Int.tmod x2.1 400))) + (bb (Int.tdiv (Int.tmod x2.1 400) 4)))) - (bb (Int.tdiv (Int.tmod x2.1 400) 100)))) + (bb (Int.tdiv (bb ((bb (153 * x2.2)) + 2)) 5)))) + a2)) - 1)))) - 719468)))
def jq (a0 : Int) : Int := (kY (ky (bb (1970 + (bb (Int.tdiv a0 12)))) (bb ((Int.tmod a0 12) + 1)) 1) fun x2 => (x2))
def lp (a0 : Int) : (Int × Int) := (kY (jq a0) fun x3 => (kY (jq (bb (a0 + 1))) fun x4 => ((x3, x4))))
def ld (a0_0 : Int) (a0_1 : Int) : (Int × Int) := (kY (kx a0_0 a0_1) fun x10 => (if (!x10) = true then ((0, 0)) else (kY (if a0_0 = 3 then (kY (lp a0_1) fun x16 => (Sum.inl (x16.1, x16.2))) else (if a0_0 = 2 then (Sum.inl (a0_1, bb (a0_1 + 1))) else (Sum.inr ((a0_1, bb (a0_1 + 1)))))) fun z => (vL z (fun v4 => ((bb (v4.1 * 24), bb (v4.2 * 24)))) (fun t_ => (t_))))))
def dm (a0 : Int) (l0 : List ah) (p2_0 : Int) : Option Bool := (if 0 ≤ a0 then (if a0 < (l0.length : Int) then (some (decide (p2_0 ≤ ((l0.getD a0.toNat aF).k)))) else none) else none)
def ib (K : Nat) (l0 : List ah) (p2_0 : Int) : Nat → Int → Int → Option Int
  | 0, _, _ => none
  | k + 1, i7, i9 => (if i7 < i9 then ((dm (bb (ln .u64 (ed (bb (i7 + i9))) 1)) l0 p2_0).bind fun x12 => (if (!x12) = true then (ib K l0 p2_0 k (bb ((bb (ln .u64 (ed (bb (i7 + i9))) 1)) + 1)) i9) else (ib K l0 p2_0 k i7 (bb (ln .u64 (ed (bb (i7 + i9))) 1))))) else (some (i7)))
def kI (K : Nat) (a0 : Int) (l0 : List ah) (p2_0 : Int) : Option Int := (ib K l0 p2_0 K 0 a0)
def bN (K : Nat) (l0 : List ah) (a1 : Int) : Option (Bool × Int) := ((kI K (l0.length : Int) l0 a1).bind fun x2 => (if x2 < (l0.length : Int) then (if 0 ≤ x2 then (some (((((l0.getD x2.toNat aF).k) == a1), x2))) else none) else (some ((false, x2)))))
def dt (K : Nat) (l0 : List ah) (a1 : Int) : Option (Int × Int × Int × Int × Int × Int × Bool × Bool) := ((bN K l0 a1).bind fun x3 => (kY (if (!x3.1) = true then (bb (x3.2 - 1)) else (x3.2)) fun x4 => (if x4 < 0 then (some ((0, 0, 0, 0, 0, 0, false, false))) else (if 0 ≤ x4 then (if x4 < (l0.length : Int) then (some (((l0.getD x4.toNat aF).k, (((l0.getD x4.toNat aF).v).Part).Tier, (((l0.getD x4.toNat aF).v).Part).Index, ((l0.getD x4.toNat aF).v).Seg, ((l0.getD x4.toNat aF).v).Mark, ((l0.getD x4.toNat aF).v).Rows, ((l0.getD x4.toNat aF).v).Cold, true))) else none) else none))))
def mj (a0_0 : Int) (a0_1 : Int) (a1 : Int) : Bool := (kY (ms a0_0 a1) fun x4 => (if (!x4.2.2) = true then (kY (ld a0_0 a0_1) fun x6 => (if x6.1 ≤ a1 then (decide (a1 < x6.2)) else (false))) else (((x4.1 == a0_0) && ((x4.2.1 == a0_1) && true)))))
def eK (K : Nat) (l0 : List ah) (a1 : Int) : Option (Int × Int × Int × Int × Int × Bool × Bool) := ((dt K l0 a1).bind fun x4 => (if (!x4.2.2.2.2.2.2.2) = true then (some ((0, 0, 0, 0, 0, false, false))) else (kY (mj x4.2.1 x4.2.2.1 a1) fun x6 => (if (!x6) = true then (some ((0, 0, 0, 0, 0, false, false))) else (some ((x4.2.1, x4.2.2.1, x4.2.2.2.1, x4.2.2.2.2.1, x4.2.2.2.2.2.1, x4.2.2.2.2.2.2.1, true)))))))
def fz (l0 : List ah) : Unit := (())
def cV (K : Nat) (l0 : List ah) (a1 : Int) (a2 : Int) : Option (List ah) := ((bN K l0 a1).bind fun x3 => ((bN K l0 a2).bind fun x4 => (if x4.2 ≤ x3.2 then (kY (dA) fun u5 => (some (([] : List ah)))) else (if 0 ≤ x3.2 then (if x3.2 ≤ x4.2 then (if x4.2 ≤ (l0.length : Int) then (kY (fz ((l0.drop x3.2.toNat).take (x4.2.toNat - x3.2.toNat))) fun u6 => (some (((l0.drop x3.2.toNat).take (x4.2.toNat - x3.2.toNat))))) else none) else none) else none))))
def cP (K : Nat) (Gm0 : Type) (y0 : Int → aE → Gm0 → Option (Gm0 × Bool)) (l0 : List ah) : Nat → Int → Gm0 → Option Gm0
  | 0, _, _ => none
  | k + 1, i2, l3 => (if i2 < (l0.length : Int) then (if 0 ≤ i2 then ((y0 ((l0.getD i2.toNat aF).k) (⟨(⟨(((l0.getD i2.toNat aF).v).Part).Tier, (((l0.getD i2.toNat aF).v).Part).Index⟩ : aW), ((l0.getD i2.toNat aF).v).Seg, ((l0.getD i2.toNat aF).v).Mark, ((l0.getD i2.toNat aF).v).Rows, ((l0.getD i2.toNat aF).v).Cold⟩ : aE) l3).bind fun x12 => (if (!x12.2) = true then (some (x12.1)) else (cP K Gm0 y0 l0 k (bb (i2 + 1)) x12.1))) else none) else (some (l3)))
def dE (K : Nat) (Gm0 : Type) (y0 : Int → aE → Gm0 → Option (Gm0 × Bool)) (x0y : Gm0) (l0 : List ah) : Option Gm0 := (cP K Gm0 y0 l0 K 0 x0y)
def fC (K : Nat) (a1 : Int) (t0_ : Int) (t1_ : aE) (z4 : List aE) : Option ((List aE) × Bool) := (if t0_ = a1 then (some ((z4, true))) else (if (z4.length + [(⟨(⟨t1_.Part.Tier, t1_.Part.Index⟩ : aW), t1_.Seg, t1_.Mark, t1_.Rows, t1_.Cold⟩ : aE)].length) * 48 ≤ 140737488355328 then (some (((z4 ++ [(⟨(⟨t1_.Part.Tier, t1_.Part.Index⟩ : aW), t1_.Seg, t1_.Mark, t1_.Rows, t1_.Cold⟩ : aE)]), true))) else none))
def fI (K : Nat) (l0 : List ah) (a1 : Int) (a2 : Int) : Option (List aE) := (if a2 ≤ a1 then (some (([] : List aE))) else (Option.bind ((eK K l0 a1).bind fun x11 => (if x11.2.2.2.2.2.2 = true then (if (([] : List aE).length + [(⟨(⟨x11.1, x11.2.1⟩ : aW), x11.2.2.1, x11.2.2.2.1, x11.2.2.2.2.1, x11.2.2.2.2.2.1⟩ : aE)].length) * 48 ≤ 140737488355328 then (some ((([] : List aE) ++ [(⟨(⟨x11.1, x11.2.1⟩ : aW), x11.2.2.1, x11.2.2.2.1, x11.2.2.2.2.1, x11.2.2.2.2.2.1⟩ : aE)]))) else none) else (some (([] : List aE))))) fun x10 => ((cV K l0 a1 a2).bind fun x14 => ((dE K (List aE) (fC K a1) x10 x14).bind fun x15 => (some (x15))))))
def bx (l0 : List ah) (a1 : Int) (l1 : List ah) : Option (List ah) := AU 56 l0 a1 l1
def dG (K : Nat) (l0 : List ah) (a1 : Int) (a2_0 : Int) (a2_1 : Int) (a2_2 : Int) (a2_3 : Int) (a2_4 : Int) (a2_5 : Bool) : Option (Bool × (List ah)) := ((bN K l0 a1).bind fun x3 => (if x3.1 = true then (if 0 ≤ x3.2 then (if x3.2 < (l0.length : Int) then (some ((false, (l0.set x3.2.toNat (⟨(l0.getD x3.2.toNat aF).k, (⟨(⟨a2_0, a2_1⟩ : aW), a2_2, a2_3, a2_4, a2_5⟩ : aE)⟩ : ah))))) else none) else none) else ((bx l0 x3.2 [(⟨a1, (⟨(⟨a2_0, a2_1⟩ : aW), a2_2, a2_3, a2_4, a2_5⟩ : aE)⟩ : ah)]).bind fun x4 => (some ((true, x4))))))
def fY (K : Nat) (l0 : List ah) (a1_0 : Int) (a1_1 : Int) (a1_2 : Int) (a1_3 : Int) (a1_4 : Int) (a1_5 : Bool) : Option (Int × (List ah)) := (kY (jV a1_0 a1_1 a1_2 a1_3 a1_4 a1_5) fun x9 => (if (!x9) = true then (some ((4, l0))) else (kY (ld a1_0 a1_1) fun x10 => ((fI K l0 x10.1 x10.2).bind fun x12 => (if 0 < (x12.length : Int) then (some ((12, l0))) else ((dG K l0 x10.1 a1_0 a1_1 a1_2 a1_3 a1_4 a1_5).bind fun x13 => (some ((0, x13.2)))))))))
def fP (K : Nat) : Nat → Option Unit
  | 0 => none
  | k + 1 => (some (()))
def dK (K : Nat) (l0 : List aE) : Nat → Int → (List ah) → Option (Sum (List ah) (Int × (List ah)))
  | 0, _, _ => none
  | k + 1, i9, l11 => (if i9 < (l0.length : Int) then (if 0 ≤ i9 then ((fY K l11 (((l0.getD i9.toNat bn).Part).Tier) (((l0.getD i9.toNat bn).Part).Index) ((l0.getD i9.toNat bn).Seg) ((l0.getD i9.toNat bn).Mark) ((l0.getD i9.toNat bn).Rows) ((l0.getD i9.toNat bn).Cold)).bind fun x45 => (if ¬ (x45.1 = 0) then (some (Sum.inr ((x45.1, ([] : List ah))))) else (dK K l0 k (bb (i9 + 1)) x45.2))) else none) else (some (Sum.inl l11)))
def eF (K : Nat) (l0 : List aE) : Option (Int × (List ah)) := ((gD K).bind fun x31 => (Option.bind (fP K K) fun x32 => (Option.bind (dK K l0 K 0 x31) fun z => (vL z (fun v3 => (some ((0, v3)))) (fun t_ => (some (t_)))))))
def gd (a0 : Int) : Bool := (if (Int.tmod a0 4) = 0 then (if ¬ ((Int.tmod a0 100) = 0) then (true) else (((Int.tmod a0 400) == 0))) else (false))
def eM (a0 : Int) : Int := (kY (gd a0) fun x4 => (if x4 = true then (366) else (365)))
def cL (a0 : Int) (a1 : Int) : Int := (if a1 = 2 then (kY (gd a0) fun x14 => (if x14 = true then (29) else (28))) else (kY (if a1 = 4 then ((a1 == 4)) else (if a1 = 6 then ((a1 == 6)) else (if a1 = 9 then ((a1 == 9)) else ((a1 == 11))))) fun x15 => (if x15 = true then (30) else (kY (if a1 = 1 then ((a1 == 1)) else (if a1 = 3 then ((a1 == 3)) else (if a1 = 5 then ((a1 == 5)) else (if a1 = 7 then ((a1 == 7)) else (if a1 = 8 then ((a1 == 8)) else (if a1 = 10 then ((a1 == 10)) else ((a1 == 12)))))))) fun x16 => (if x16 = true then (31) else (0))))))
def gq (K : Nat) : Nat → Int → Int → Option (Int × Int)
  | 0, _, _ => none
  | k + 1, i19, i20 => (kY (eM i20) fun x62 => (if x62 ≤ i19 then (if i20 < 5000 then (kY (eM i20) fun x63 => (gq K k (bb (i19 - x63)) (bb (i20 + 1)))) else (some ((i19, i20)))) else (some ((i19, i20)))))
def gt (K : Nat) (x53 : (Int × Int)) : Nat → Int → Int → Option (Int × Int)
  | 0, _, _ => none
  | k + 1, i25, i26 => (if i26 < 12 then (kY (cL x53.2 i26) fun x83 => (if x83 ≤ i25 then (kY (cL x53.2 i26) fun x84 => (gt K x53 k (bb (i25 - x84)) (bb (i26 + 1)))) else (some ((i25, i26))))) else (some ((i25, i26))))
def jg (K : Nat) (a0 : Int) : Option (Int × Int × Int) := (Option.bind (gq K K a0 1970) fun x53 => (Option.bind (gt K x53 K x53.1 1) fun x74 => (some ((x53.2, x74.2, bb (x74.1 + 1))))))
def gp (K : Nat) (a0 : Int) : Option Int := ((jg K a0).bind fun x2 => (some (bb ((bb ((bb ((bb (x2.1 - 1970)) * 12)) + x2.2.1)) - 1))))
def io (K : Nat) (a0 : Int) : Option Int := (if a0 = 1 then (some (16777216)) else (if a0 = 2 then (some (699050)) else (if a0 = 3 then ((gp K 699050).bind fun x4 => (some (x4))) else (some ((-1))))))
def cE (K : Nat) (a0_0 : Int) (a0_1 : Int) : Option Bool := (if 0 ≤ a0_1 then ((io K a0_0).bind fun x2 => (some (decide (a0_1 ≤ x2)))) else (some (false)))
def fL (a0 : Int) (a1 : Int) (a2 : Int) : Bool := (if a1 ≤ a0 then (decide (a0 ≤ a2)) else (false))
def hO (K : Nat) (a0_0 : Int) (a0_1 : Int) (a0_2 : Int) (a0_3 : Int) (a0_4 : Int) (a0_5 : Bool) : Option Bool := ((cE K a0_0 a0_1).bind fun x5 => (if x5 = true then (kY (fL a0_2 1 4611686018427387904) fun x6 => (if x6 = true then (kY (fL a0_4 1 4611686018427387904) fun x7 => (if x7 = true then (kY (fL a0_3 0 4611686018427387904) fun x8 => (if x8 = true then (if (!a0_5) = true then (some (true)) else (some ((a0_0 == 3)))) else (some (false)))) else (some (false)))) else (some (false)))) else (some (false))))
def fE (K : Nat) (a0 : Int) : Nat → Int → Int → Option Int
  | 0, _, _ => none
  | k + 1, i17, i18 => (if i18 < a0 then (kY (eM i18) fun x43 => (fE K a0 k (bb (i17 + x43)) (bb (i18 + 1)))) else (some (i17)))
def fH (K : Nat) (a0 : Int) (a1 : Int) : Nat → Int → Int → Option Int
  | 0, _, _ => none
  | k + 1, i22, i23 => (if i23 < a1 then (kY (cL a0 i23) fun x56 => (fH K a0 a1 k (bb (i22 + x56)) (bb (i23 + 1)))) else (some (i22)))
def gM (K : Nat) (a0 : Int) (a1 : Int) (a2 : Int) : Option (Int × Bool) := (if a0 < 1970 then (some ((0, false))) else (if 4900 < a0 then (some ((0, false))) else (if a2 < 1 then (some ((0, false))) else (kY (cL a0 a1) fun x30 => (if x30 < a2 then (some ((0, false))) else (Option.bind (fE K a0 K 0 1970) fun x37 => (Option.bind (fH K a0 a1 K x37 1) fun x50 => (some ((bb ((bb (x50 + a2)) - 1), true))))))))))
def iw (K : Nat) (a0 : Int) : Option (Int × Int) := ((gM K (bb (1970 + (bb (Int.tdiv a0 12)))) (bb ((Int.tmod a0 12) + 1)) 1).bind fun x3 => (kY (cL (bb (1970 + (bb (Int.tdiv a0 12)))) (bb ((Int.tmod a0 12) + 1))) fun x4 => (some ((x3.1, bb (x3.1 + x4))))))
def df (K : Nat) (a0_0 : Int) (a0_1 : Int) : Option (Int × Int) := ((cE K a0_0 a0_1).bind fun x5 => (if (!x5) = true then (some ((0, 0))) else (if a0_0 = 1 then (some ((a0_1, bb (a0_1 + 1)))) else (if a0_0 = 2 then (some ((bb (24 * a0_1), bb (24 * (bb (a0_1 + 1)))))) else ((iw K a0_1).bind fun x6 => (some ((bb (24 * x6.1), bb (24 * x6.2)))))))))
def hN (K : Nat) (a0_0 : Int) (a0_1 : Int) (a1_0 : Int) (a1_1 : Int) : Option Bool := ((df K a0_0 a0_1).bind fun x5 => ((df K a1_0 a1_1).bind fun x6 => ((cE K a0_0 a0_1).bind fun x7 => (if x7 = true then ((cE K a1_0 a1_1).bind fun x8 => (if x8 = true then (if x5.1 < x6.2 then (some (decide (x6.1 < x5.2))) else (some (false))) else (some (false)))) else (some (false))))))
def iq (K : Nat) (a0_0 : Int) (a0_1 : Int) (a1_0 : Int) (a1_1 : Int) : Option Bool := ((df K a0_0 a0_1).bind fun x5 => ((df K a1_0 a1_1).bind fun x6 => ((cE K a0_0 a0_1).bind fun x7 => (if x7 = true then ((cE K a1_0 a1_1).bind fun x8 => (if x8 = true then (if x5.1 < x6.1 then (some (true)) else (if x5.1 = x6.1 then (some (decide (a0_0 < a1_0))) else (some (false)))) else (some (false)))) else (some (false))))))
def dI (K : Nat) (l0 : List aE) (a1_0 : Int) (a1_1 : Int) : Nat → Int → Int → Option (Sum Int (Int × (List aE)))
  | 0, _, _ => none
  | k + 1, i11, i12 => (if i12 < (l0.length : Int) then (if 0 ≤ i12 then ((hN K (((l0.getD i12.toNat bn).Part).Tier) (((l0.getD i12.toNat bn).Part).Index) a1_0 a1_1).bind fun x77 => (if x77 = true then (some (Sum.inr ((12, ([] : List aE))))) else ((iq K (((l0.getD i12.toNat bn).Part).Tier) (((l0.getD i12.toNat bn).Part).Index) a1_0 a1_1).bind fun x78 => (if x78 = true then (dI K l0 a1_0 a1_1 k (bb (i12 + 1)) (bb (i12 + 1))) else (dI K l0 a1_0 a1_1 k i11 (bb (i12 + 1))))))) else none) else (some (Sum.inl i11)))
def gY (K : Nat) (l0 : List aE) (a1_0 : Int) (a1_1 : Int) (a1_2 : Int) (a1_3 : Int) (a1_4 : Int) (a1_5 : Bool) : Option (Int × (List aE)) := ((hO K a1_0 a1_1 a1_2 a1_3 a1_4 a1_5).bind fun x41 => (if (!x41) = true then (some ((4, ([] : List aE)))) else (Option.bind (dI K l0 a1_0 a1_1 K 0 0) fun z => (vL z (fun v2 => (if 0 ≤ v2 then (if v2 ≤ (l0.length : Int) then (if (([] : List aE).length + (l0.take v2.toNat).length) * 48 ≤ 140737488355328 then (if ((([] : List aE) ++ (l0.take v2.toNat)).length + [(⟨(⟨a1_0, a1_1⟩ : aW), a1_2, a1_3, a1_4, a1_5⟩ : aE)].length) * 48 ≤ 140737488355328 then (if (((([] : List aE) ++ (l0.take v2.toNat)) ++ [(⟨(⟨a1_0, a1_1⟩ : aW), a1_2, a1_3, a1_4, a1_5⟩ : aE)]).length + (l0.drop v2.toNat).length) * 48 ≤ 140737488355328 then (some ((0, (((([] : List aE) ++ (l0.take v2.toNat)) ++ [(⟨(⟨a1_0, a1_1⟩ : aW), a1_2, a1_3, a1_4, a1_5⟩ : aE)]) ++ (l0.drop v2.toNat))))) else none) else none) else none) else none) else none)) (fun t_ => (some (t_)))))))
def gF (K : Nat) : Nat → Option Unit
  | 0 => none
  | k + 1 => (some (()))
def eE (K : Nat) (l0 : List aE) : Nat → Int → (List aE) → Option (Int × (List aE))
  | 0, _, _ => none
  | k + 1, i5, l5 => (if i5 < (l0.length : Int) then (if 0 ≤ i5 then ((gY K l5 (((l0.getD i5.toNat bn).Part).Tier) (((l0.getD i5.toNat bn).Part).Index) ((l0.getD i5.toNat bn).Seg) ((l0.getD i5.toNat bn).Mark) ((l0.getD i5.toNat bn).Rows) ((l0.getD i5.toNat bn).Cold)).bind fun x26 => (if ¬ (x26.1 = 0) then (some ((x26.1, ([] : List aE)))) else (eE K l0 k (bb (i5 + 1)) x26.2))) else none) else (some ((0, l5))))
def fD (K : Nat) (l0 : List aE) : Option (Int × (List aE)) := (Option.bind (gF K K) fun x14 => (eE K l0 K 0 ([] : List aE)))
def iF (K : Nat) (p0_0 : Int) (l0 : List aH) (p0_2 : Int) (a1_0 : Int) (a1_1 : Int) (a1_2 : Int) (l1 : List aC) : Option (Int × (List aH) × Int) := ((jQ K a1_0 a1_1 a1_2 l1 p0_0).bind fun x5 => (if (!x5) = true then (some ((1, l0, p0_2))) else (if a1_0 ≤ p0_2 then (some ((12, l0, p0_2))) else ((bz l1).bind fun x6 => (if (l0.length + 1) * 48 ≤ 140737488355328 then (some ((0, (l0 ++ [(⟨a1_0, a1_1, a1_2, x6⟩ : aH)]), a1_0))) else none)))))
def ee (K : Nat) (a1_0 : Int) (a1_1 : Int) (a1_2 : Int) (l1 : List aC) : Nat → Int → (List ay) → Option (Int × (List ay) × Int)
  | 0, _, _ => none
  | k + 1, i14, l12 => (if i14 < (l1.length : Int) then (if 0 ≤ i14 then (if (l12.length + [(⟨a1_0, a1_1, a1_2, (⟨(⟨((l1.getD i14.toNat ab).Key).Hour, ((l1.getD i14.toNat ab).Key).Dims_0, ((l1.getD i14.toNat ab).Key).Dims_1, ((l1.getD i14.toNat ab).Key).Dims_2, ((l1.getD i14.toNat ab).Key).Dims_3⟩ : bc), (l1.getD i14.toNat ab).Value⟩ : aC)⟩ : ay)].length) * 104 ≤ 140737488355328 then (ee K a1_0 a1_1 a1_2 l1 k (bb (i14 + 1)) (l12 ++ [(⟨a1_0, a1_1, a1_2, (⟨(⟨((l1.getD i14.toNat ab).Key).Hour, ((l1.getD i14.toNat ab).Key).Dims_0, ((l1.getD i14.toNat ab).Key).Dims_1, ((l1.getD i14.toNat ab).Key).Dims_2, ((l1.getD i14.toNat ab).Key).Dims_3⟩ : bc), (l1.getD i14.toNat ab).Value⟩ : aC)⟩ : ay)])) else none) else none) else (some ((0, l12, a1_0))))
def gi (K : Nat) (p0_0 : Int) (l0 : List ay) (p0_2 : Int) (a1_0 : Int) (a1_1 : Int) (a1_2 : Int) (l1 : List aC) : Option (Int × (List ay) × Int) := ((eP K a1_0 a1_1 a1_2 l1 p0_0).bind fun x8 => (if (!x8) = true then (some ((1, l0, p0_2))) else (if a1_0 ≤ p0_2 then (some ((12, l0, p0_2))) else (if (([] : List ay).length + l0.length) * 104 ≤ 140737488355328 then (ee K a1_0 a1_1 a1_2 l1 K 0 (([] : List ay) ++ l0)) else none))))
def dk (K : Nat) (l0 : List ay) (a1 : Int) (a2 : Int) : Nat → Int → (List ay) → Option (List ay)
  | 0, _, _ => none
  | k + 1, i4, l7 => (if i4 < (l0.length : Int) then (if 0 ≤ i4 then (if ((((l0.getD i4.toNat aa).F).Key).Hour) < a1 then (if (l7.length + [(⟨(l0.getD i4.toNat aa).Seq, (l0.getD i4.toNat aa).Tick, (l0.getD i4.toNat aa).Budget, (⟨(⟨(((l0.getD i4.toNat aa).F).Key).Hour, (((l0.getD i4.toNat aa).F).Key).Dims_0, (((l0.getD i4.toNat aa).F).Key).Dims_1, (((l0.getD i4.toNat aa).F).Key).Dims_2, (((l0.getD i4.toNat aa).F).Key).Dims_3⟩ : bc), ((l0.getD i4.toNat aa).F).Value⟩ : aC)⟩ : ay)].length) * 104 ≤ 140737488355328 then (dk K l0 a1 a2 k (bb (i4 + 1)) (l7 ++ [(⟨(l0.getD i4.toNat aa).Seq, (l0.getD i4.toNat aa).Tick, (l0.getD i4.toNat aa).Budget, (⟨(⟨(((l0.getD i4.toNat aa).F).Key).Hour, (((l0.getD i4.toNat aa).F).Key).Dims_0, (((l0.getD i4.toNat aa).F).Key).Dims_1, (((l0.getD i4.toNat aa).F).Key).Dims_2, (((l0.getD i4.toNat aa).F).Key).Dims_3⟩ : bc), ((l0.getD i4.toNat aa).F).Value⟩ : aC)⟩ : ay)])) else none) else (if a2 ≤ ((((l0.getD i4.toNat aa).F).Key).Hour) then (if (l7.length + [(⟨(l0.getD i4.toNat aa).Seq, (l0.getD i4.toNat aa).Tick, (l0.getD i4.toNat aa).Budget, (⟨(⟨(((l0.getD i4.toNat aa).F).Key).Hour, (((l0.getD i4.toNat aa).F).Key).Dims_0, (((l0.getD i4.toNat aa).F).Key).Dims_1, (((l0.getD i4.toNat aa).F).Key).Dims_2, (((l0.getD i4.toNat aa).F).Key).Dims_3⟩ : bc), ((l0.getD i4.toNat aa).F).Value⟩ : aC)⟩ : ay)].length) * 104 ≤ 140737488355328 then (dk K l0 a1 a2 k (bb (i4 + 1)) (l7 ++ [(⟨(l0.getD i4.toNat aa).Seq, (l0.getD i4.toNat aa).Tick, (l0.getD i4.toNat aa).Budget, (⟨(⟨(((l0.getD i4.toNat aa).F).Key).Hour, (((l0.getD i4.toNat aa).F).Key).Dims_0, (((l0.getD i4.toNat aa).F).Key).Dims_1, (((l0.getD i4.toNat aa).F).Key).Dims_2, (((l0.getD i4.toNat aa).F).Key).Dims_3⟩ : bc), ((l0.getD i4.toNat aa).F).Value⟩ : aC)⟩ : ay)])) else none) else (dk K l0 a1 a2 k (bb (i4 + 1)) l7))) else none) else (some (l7)))
def fk (K : Nat) (p0_0 : Int) (l0 : List ay) (p0_2 : Int) (a1 : Int) (a2 : Int) : Option ((List ay) × Int) := (Option.bind (dk K l0 a1 a2 K 0 ([] : List ay)) fun x2 => (some ((x2, bb ((l0.length : Int) - (x2.length : Int))))))
def jz (K : Nat) (a0 : Int) (a1_0 : Int) (a1_1 : List UInt8) (a1_2 : List UInt8) (a1_3 : List UInt8) (a1_4 : List UInt8) (a1_5 : Int) (l0 : List ah) (p3_0 : Int) : Option Bool := ((eK K l0 a1_0).bind fun x2 => (if a1_0 < p3_0 then (some (true)) else (if x2.2.2.2.2.2.2 = true then (some (decide (a0 ≤ x2.2.2.2.1))) else (some (false)))))
def gB (K : Nat) (a0_0 : Int) (a0_1 : List UInt8) (a0_2 : List UInt8) (a0_3 : List UInt8) (a0_4 : List UInt8) (a0_5 : Int) (l0 : List ah) (p4_0 : Int) (p5_0 : Int) (p5_1 : Int) (p5_2 : Int) (l1 : List aC) : Option Bool := ((jz K p5_0 a0_0 a0_1 a0_2 a0_3 a0_4 a0_5 l0 p4_0).bind fun x2 => (some (x2)))
def ck (K : Nat) (l0 : List aC) (l1 : List ah) (p4_0 : Int) (p5_0 : Int) (p5_1 : Int) (p5_2 : Int) (l2 : List aC) : Nat → Int → Option Int
  | 0, _ => none
  | k + 1, i5 => (if i5 < (l0.length : Int) then (if 0 ≤ i5 then ((gB K (((l0.getD i5.toNat ab).Key).Hour) (((l0.getD i5.toNat ab).Key).Dims_0) (((l0.getD i5.toNat ab).Key).Dims_1) (((l0.getD i5.toNat ab).Key).Dims_2) (((l0.getD i5.toNat ab).Key).Dims_3) ((l0.getD i5.toNat ab).Value) l1 p4_0 p5_0 p5_1 p5_2 l2).bind fun x24 => (if x24 = true then (some (i5)) else (ck K l0 l1 p4_0 p5_0 p5_1 p5_2 l2 k (bb (i5 + 1))))) else none) else (some ((-1))))
def cH (K : Nat) (l0 : List aC) (l1 : List ah) (p4_0 : Int) (p5_0 : Int) (p5_1 : Int) (p5_2 : Int) (l2 : List aC) : Option Int := (ck K l0 l1 p4_0 p5_0 p5_1 p5_2 l2 K 0)
def bU (K : Nat) (l1 : List ah) (p4_0 : Int) (p5_0 : Int) (p5_1 : Int) (p5_2 : Int) (l2 : List aC) : Nat → Int → Int → (List aC) → Option ((List aC) × Int)
  | 0, _, _, _ => none
  | k + 1, i10, i11, l9 => (if i11 < (l9.length : Int) then (if 0 ≤ i11 then ((gB K (((l9.getD i11.toNat ab).Key).Hour) (((l9.getD i11.toNat ab).Key).Dims_0) (((l9.getD i11.toNat ab).Key).Dims_1) (((l9.getD i11.toNat ab).Key).Dims_2) (((l9.getD i11.toNat ab).Key).Dims_3) ((l9.getD i11.toNat ab).Value) l1 p4_0 p5_0 p5_1 p5_2 l2).bind fun x28 => (if (!x28) = true then (if 0 ≤ i10 then (if i10 < (l9.length : Int) then (bU K l1 p4_0 p5_0 p5_1 p5_2 l2 k (bb (i10 + 1)) (bb (i11 + 1)) (l9.set i10.toNat (⟨(⟨((l9.getD i11.toNat ab).Key).Hour, ((l9.getD i11.toNat ab).Key).Dims_0, ((l9.getD i11.toNat ab).Key).Dims_1, ((l9.getD i11.toNat ab).Key).Dims_2, ((l9.getD i11.toNat ab).Key).Dims_3⟩ : bc), (l9.getD i11.toNat ab).Value⟩ : aC))) else none) else none) else (bU K l1 p4_0 p5_0 p5_1 p5_2 l2 k i10 (bb (i11 + 1)) l9))) else none) else (some ((l9, i10))))
def cq (K : Nat) (l0 : List aC) (l1 : List ah) (p4_0 : Int) (p5_0 : Int) (p5_1 : Int) (p5_2 : Int) (l2 : List aC) : Option (List aC) := ((cH K l0 l1 p4_0 p5_0 p5_1 p5_2 l2).bind fun x15 => (if x15 = (-1) then (some (l0)) else (Option.bind (bU K l1 p4_0 p5_0 p5_1 p5_2 l2 K x15 (bb (x15 + 1)) l0) fun x22 => (if 0 ≤ x22.2 then (if x22.2 ≤ (x22.1.length : Int) then (if x22.2 ≤ ((x22.1.take x22.2.toNat ++ List.replicate (x22.1.length - x22.2.toNat) ab).length : Int) then (some (((x22.1.take x22.2.toNat ++ List.replicate (x22.1.length - x22.2.toNat) ab).take x22.2.toNat))) else none) else none) else none))))
def gO (K : Nat) (l0 : List aH) (l1 : List ah) (p4_0 : Int) : Nat → Int → Int → (List aH) → Option ((List aH) × Int)
  | 0, _, _, _ => none
  | k + 1, i10, i11, l8 => (if i11 < (l0.length : Int) then (if 0 ≤ i11 then ((bz ((l0.getD i11.toNat ap).Facts)).bind fun x49 => ((cq K x49 l1 p4_0 ((l0.getD i11.toNat ap).Seq) ((l0.getD i11.toNat ap).Tick) ((l0.getD i11.toNat ap).Budget) ((l0.getD i11.toNat ap).Facts)).bind fun x50 => (if 0 < (x50.length : Int) then (if (l8.length + 1) * 48 ≤ 140737488355328 then (gO K l0 l1 p4_0 k (bb (i10 + (bb ((((l0.getD i11.toNat ap).Facts).length : Int) - (x50.length : Int))))) (bb (i11 + 1)) (l8 ++ [(⟨(l0.getD i11.toNat ap).Seq, (l0.getD i11.toNat ap).Tick, (l0.getD i11.toNat ap).Budget, x50⟩ : aH)])) else none) else (gO K l0 l1 p4_0 k (bb (i10 + (bb ((((l0.getD i11.toNat ap).Facts).length : Int) - (x50.length : Int))))) (bb (i11 + 1)) l8)))) else none) else (some ((l8, i10))))
def ki (K : Nat) (p0_0 : Int) (l0 : List aH) (p0_2 : Int) (l1 : List ah) (p4_0 : Int) : Option ((List aH) × Int) := (Option.bind (kY (eJ p0_0 l0 p0_2) fun u4 => (gO K l0 l1 p4_0 K 0 0 ([] : List aH))) fun x38 => (some ((x38.1, x38.2))))
def gx (K : Nat) (p0_0 : Int) (l0 : List aH) (p0_2 : Int) (l1 : List ah) (a2 : Int) : Option ((List aH) × Int) := ((ki K p0_0 l0 p0_2 l1 a2).bind fun x2 => (some ((x2.1, x2.2))))
def iR (K : Nat) (a0_0 : Int) (a0_1 : Int) (a1 : Int) : Option Bool := ((df K a0_0 a0_1).bind fun x2 => (if x2.1 ≤ a1 then (some (decide (a1 < x2.2))) else (some (false))))
def gj (K : Nat) (l0 : List aE) (a1 : Int) : Nat → Int → Option (Int × Int × Int × Int × Int × Bool × Bool)
  | 0, _ => none
  | k + 1, i10 => (if i10 < (l0.length : Int) then (if 0 ≤ i10 then ((iR K (((l0.getD i10.toNat bn).Part).Tier) (((l0.getD i10.toNat bn).Part).Index) a1).bind fun x24 => (if x24 = true then (some ((((l0.getD i10.toNat bn).Part).Tier, ((l0.getD i10.toNat bn).Part).Index, (l0.getD i10.toNat bn).Seg, (l0.getD i10.toNat bn).Mark, (l0.getD i10.toNat bn).Rows, (l0.getD i10.toNat bn).Cold, true))) else (gj K l0 a1 k (bb (i10 + 1))))) else none) else (some ((0, 0, 0, 0, 0, false, false))))
def iG (K : Nat) (l0 : List aE) (a1 : Int) : Option (Int × Int × Int × Int × Int × Bool × Bool) := (gj K l0 a1 K 0)
def dS (K : Nat) (l0 : List ay) (l1 : List aE) (a2 : Int) : Nat → Int → (List ay) → Option (List ay)
  | 0, _, _ => none
  | k + 1, i4, l18 => (if i4 < (l0.length : Int) then (Option.bind (if 0 ≤ i4 then ((iG K l1 ((((l0.getD i4.toNat aa).F).Key).Hour)).bind fun x38 => (if a2 ≤ ((((l0.getD i4.toNat aa).F).Key).Hour) then (if (!x38.2.2.2.2.2.2) = true then (if (l18.length + [(⟨(l0.getD i4.toNat aa).Seq, (l0.getD i4.toNat aa).Tick, (l0.getD i4.toNat aa).Budget, (⟨(⟨(((l0.getD i4.toNat aa).F).Key).Hour, (((l0.getD i4.toNat aa).F).Key).Dims_0, (((l0.getD i4.toNat aa).F).Key).Dims_1, (((l0.getD i4.toNat aa).F).Key).Dims_2, (((l0.getD i4.toNat aa).F).Key).Dims_3⟩ : bc), ((l0.getD i4.toNat aa).F).Value⟩ : aC)⟩ : ay)].length) * 104 ≤ 140737488355328 then (some ((l18 ++ [(⟨(l0.getD i4.toNat aa).Seq, (l0.getD i4.toNat aa).Tick, (l0.getD i4.toNat aa).Budget, (⟨(⟨(((l0.getD i4.toNat aa).F).Key).Hour, (((l0.getD i4.toNat aa).F).Key).Dims_0, (((l0.getD i4.toNat aa).F).Key).Dims_1, (((l0.getD i4.toNat aa).F).Key).Dims_2, (((l0.getD i4.toNat aa).F).Key).Dims_3⟩ : bc), ((l0.getD i4.toNat aa).F).Value⟩ : aC)⟩ : ay)]))) else none) else (if x38.2.2.2.1 < ((l0.getD i4.toNat aa).Seq) then (if (l18.length + [(⟨(l0.getD i4.toNat aa).Seq, (l0.getD i4.toNat aa).Tick, (l0.getD i4.toNat aa).Budget, (⟨(⟨(((l0.getD i4.toNat aa).F).Key).Hour, (((l0.getD i4.toNat aa).F).Key).Dims_0, (((l0.getD i4.toNat aa).F).Key).Dims_1, (((l0.getD i4.toNat aa).F).Key).Dims_2, (((l0.getD i4.toNat aa).F).Key).Dims_3⟩ : bc), ((l0.getD i4.toNat aa).F).Value⟩ : aC)⟩ : ay)].length) * 104 ≤ 140737488355328 then (some ((l18 ++ [(⟨(l0.getD i4.toNat aa).Seq, (l0.getD i4.toNat aa).Tick, (l0.getD i4.toNat aa).Budget, (⟨(⟨(((l0.getD i4.toNat aa).F).Key).Hour, (((l0.getD i4.toNat aa).F).Key).Dims_0, (((l0.getD i4.toNat aa).F).Key).Dims_1, (((l0.getD i4.toNat aa).F).Key).Dims_2, (((l0.getD i4.toNat aa).F).Key).Dims_3⟩ : bc), ((l0.getD i4.toNat aa).F).Value⟩ : aC)⟩ : ay)]))) else none) else (some (l18)))) else (some (l18)))) else none) fun x37 => (dS K l0 l1 a2 k (bb (i4 + 1)) x37)) else (some (l18)))
def eY (K : Nat) (p0_0 : Int) (l0 : List ay) (p0_2 : Int) (l1 : List aE) (a2 : Int) : Option ((List ay) × Int) := (Option.bind (dS K l0 l1 a2 K 0 ([] : List ay)) fun x29 => (some ((x29, bb ((l0.length : Int) - (x29.length : Int))))))
def eo (K : Nat) (p0_0 : Int) (l0 : List aH) (p0_2 : Int) (p1_0 : Int) (l1 : List ay) (p1_2 : Int) (a2_0 : Int) (a2_1 : Int) (a2_2 : Int) (a2_3 : Int) (l2 : List aC) (a2_5 : Int) (a2_6 : Int) (l3 : List aE) : Option (Bool × (List aH) × Int × (List ay) × Int) := (if a2_0 = 0 then (kY (iP a2_1 a2_2 a2_3 l2) fun x29 => ((iF K p0_0 l0 p0_2 x29.1 x29.2.1 x29.2.2 l2).bind fun x30 => ((gi K p1_0 l1 p1_2 a2_1 a2_2 a2_3 l2).bind fun x31 => (some (((x30.1 == x31.1), x30.2.1, x30.2.2, x31.2.1, x31.2.2)))))) else (if a2_0 = 1 then ((fN K p0_0 l0 p0_2 a2_5 a2_6).bind fun x32 => ((fk K p1_0 l1 p1_2 a2_5 a2_6).bind fun x33 => (some (((x32.2 == x33.2), x32.1, p0_2, x33.1, p1_2))))) else (kY (mh) fun u2 => ((eF K l3).bind fun x35 => (if ¬ (x35.1 = 0) then (some ((true, l0, p0_2, l1, p1_2))) else ((fD K l3).bind fun x36 => ((gx K p0_0 l0 p0_2 x35.2 a2_5).bind fun x37 => ((eY K p1_0 l1 p1_2 x36.2 a2_5).bind fun x38 => (some (((x37.2 == x38.2), x37.1, p0_2, x38.1, p1_2)))))))))))
def gl (K : Nat) (l0 : List aH) : Nat → Int → (List aH) → Option (List aH)
  | 0, _, _ => none
  | k + 1, i4, l5 => (if i4 < (l0.length : Int) then (if 0 ≤ i4 then ((bz ((l0.getD i4.toNat ap).Facts)).bind fun x24 => (if (l5.length + 1) * 48 ≤ 140737488355328 then (gl K l0 k (bb (i4 + 1)) (l5 ++ [(⟨(l0.getD i4.toNat ap).Seq, (l0.getD i4.toNat ap).Tick, (l0.getD i4.toNat ap).Budget, x24⟩ : aH)])) else none)) else none) else (some (l5)))
def eb (K : Nat) (p0_0 : Int) (l0 : List aH) (p0_2 : Int) : Option (List aH) := (kY (eJ p0_0 l0 p0_2) fun u4 => (gl K l0 K 0 ([] : List aH)))
def kf (K : Nat) (p0_0 : Int) (l0 : List aH) (p0_2 : Int) : Option ((List aH) × Int × Int) := ((eb K p0_0 l0 p0_2).bind fun x3 => (some ((x3, p0_0, p0_2))))
def gh (p0_0 : Int) (l0 : List ay) (p0_2 : Int) : Option ((List ay) × Int × Int) := (if (([] : List ay).length + l0.length) * 104 ≤ 140737488355328 then (some (((([] : List ay) ++ l0), p0_0, p0_2))) else none)
def im (l0 : List aH) : Option (List aK) := if l0.length * 48 ≤ 140737488355328 then some (l0.map (fun x : aH => (⟨x.Seq, x.Tick, x.Budget, x.Facts⟩ : aK))) else none
def de (K : Nat) (l0 : List ay) : Nat → Int → (List aK) → Option (List aK)
  | 0, _, _ => none
  | k + 1, i18, l17 => (if i18 < (l0.length : Int) then (if 0 ≤ i18 then (Option.bind (if (bb ((l17.length : Int) - 1)) < 0 then (if (l17.length + 1) * 48 ≤ 140737488355328 then (some ((bb ((bb ((l17.length : Int) - 1)) + 1), (l17 ++ [(⟨(l0.getD i18.toNat aa).Seq, (l0.getD i18.toNat aa).Tick, (l0.getD i18.toNat aa).Budget, []⟩ : aK)])))) else none) else (if 0 ≤ (bb ((l17.length : Int) - 1)) then (if (bb ((l17.length : Int) - 1)) < (l17.length : Int) then (if ¬ (((l17.getD ((bb ((l17.length : Int) - 1)).toNat) aj).Seq) = ((l0.getD i18.toNat aa).Seq)) then (if (l17.length + 1) * 48 ≤ 140737488355328 then (some ((bb ((bb ((l17.length : Int) - 1)) + 1), (l17 ++ [(⟨(l0.getD i18.toNat aa).Seq, (l0.getD i18.toNat aa).Tick, (l0.getD i18.toNat aa).Budget, []⟩ : aK)])))) else none) else (some ((bb ((l17.length : Int) - 1), l17)))) else none) else none)) fun x16 => (if 0 ≤ x16.1 then (if x16.1 < (x16.2.length : Int) then (if (((x16.2.getD x16.1.toNat aj).Facts).length + [(⟨(⟨(((l0.getD i18.toNat aa).F).Key).Hour, (((l0.getD i18.toNat aa).F).Key).Dims_0, (((l0.getD i18.toNat aa).F).Key).Dims_1, (((l0.getD i18.toNat aa).F).Key).Dims_2, (((l0.getD i18.toNat aa).F).Key).Dims_3⟩ : bc), ((l0.getD i18.toNat aa).F).Value⟩ : aC)].length) * 80 ≤ 140737488355328 then (de K l0 k (bb (i18 + 1)) (x16.2.set x16.1.toNat (⟨(x16.2.getD x16.1.toNat aj).Seq, (x16.2.getD x16.1.toNat aj).Tick, (x16.2.getD x16.1.toNat aj).Budget, (((x16.2.getD x16.1.toNat aj).Facts) ++ [(⟨(⟨(((l0.getD i18.toNat aa).F).Key).Hour, (((l0.getD i18.toNat aa).F).Key).Dims_0, (((l0.getD i18.toNat aa).F).Key).Dims_1, (((l0.getD i18.toNat aa).F).Key).Dims_2, (((l0.getD i18.toNat aa).F).Key).Dims_3⟩ : bc), ((l0.getD i18.toNat aa).F).Value⟩ : aC)])⟩ : aK))) else none) else none) else none)) else none) else (some (l17)))
def cy (K : Nat) (p0_0 : Int) (l0 : List ay) (p0_2 : Int) : Option (List aK) := (de K l0 K 0 ([] : List aK))
def fm (K : Nat) (l0 : List aC) (l1 : List aC) : Nat → Int → Option Bool
  | 0, _ => none
  | k + 1, i4 => (if i4 < (l0.length : Int) then (if 0 ≤ i4 then (if i4 < (l1.length : Int) then (if (!((((((l0.getD i4.toNat ab).Key).Hour) == (((l1.getD i4.toNat ab).Key).Hour)) && ((((((l0.getD i4.toNat ab).Key).Dims_0) == (((l1.getD i4.toNat ab).Key).Dims_0)) && (((((l0.getD i4.toNat ab).Key).Dims_1) == (((l1.getD i4.toNat ab).Key).Dims_1)) && (((((l0.getD i4.toNat ab).Key).Dims_2) == (((l1.getD i4.toNat ab).Key).Dims_2)) && (((((l0.getD i4.toNat ab).Key).Dims_3) == (((l1.getD i4.toNat ab).Key).Dims_3)) && true)))) && true)) && ((((l0.getD i4.toNat ab).Value) == ((l1.getD i4.toNat ab).Value)) && true))) = true then (some (false)) else (fm K l0 l1 k (bb (i4 + 1)))) else none) else none) else (some (true)))
def dU (K : Nat) (l0 : List aC) (l1 : List aC) : Option Bool := (if ¬ ((l0.length : Int) = (l1.length : Int)) then (some (false)) else (fm K l0 l1 K 0))
def fh (K : Nat) (l0 : List aK) (l1 : List aK) : Nat → Int → Option Bool
  | 0, _ => none
  | k + 1, i4 => (if i4 < (l0.length : Int) then (if 0 ≤ i4 then (if i4 < (l1.length : Int) then (if ¬ (((l0.getD i4.toNat aj).Seq) = ((l1.getD i4.toNat aj).Seq)) then (some (false)) else (if ¬ (((l0.getD i4.toNat aj).Tick) = ((l1.getD i4.toNat aj).Tick)) then (some (false)) else (if ¬ (((l0.getD i4.toNat aj).Budget) = ((l1.getD i4.toNat aj).Budget)) then (some (false)) else ((dU K ((l0.getD i4.toNat aj).Facts) ((l1.getD i4.toNat aj).Facts)).bind fun x24 => (if (!x24) = true then (some (false)) else (fh K l0 l1 k (bb (i4 + 1)))))))) else none) else none) else (some (true)))
def gn (K : Nat) (l0 : List aK) (l1 : List aK) : Option Bool := (if ¬ ((l0.length : Int) = (l1.length : Int)) then (some (false)) else (fh K l0 l1 K 0))
def cX (K : Nat) (l0 : List ay) (a1 : Int) (a2 : Int) : Nat → Int → (List aC) → Option (List aC)
  | 0, _, _ => none
  | k + 1, i4, l5 => (if i4 < (l0.length : Int) then (if 0 ≤ i4 then (if a1 ≤ ((((l0.getD i4.toNat aa).F).Key).Hour) then (if ((((l0.getD i4.toNat aa).F).Key).Hour) < a2 then (if (l5.length + [(⟨(⟨(((l0.getD i4.toNat aa).F).Key).Hour, (((l0.getD i4.toNat aa).F).Key).Dims_0, (((l0.getD i4.toNat aa).F).Key).Dims_1, (((l0.getD i4.toNat aa).F).Key).Dims_2, (((l0.getD i4.toNat aa).F).Key).Dims_3⟩ : bc), ((l0.getD i4.toNat aa).F).Value⟩ : aC)].length) * 80 ≤ 140737488355328 then (cX K l0 a1 a2 k (bb (i4 + 1)) (l5 ++ [(⟨(⟨(((l0.getD i4.toNat aa).F).Key).Hour, (((l0.getD i4.toNat aa).F).Key).Dims_0, (((l0.getD i4.toNat aa).F).Key).Dims_1, (((l0.getD i4.toNat aa).F).Key).Dims_2, (((l0.getD i4.toNat aa).F).Key).Dims_3⟩ : bc), ((l0.getD i4.toNat aa).F).Value⟩ : aC)])) else none) else (cX K l0 a1 a2 k (bb (i4 + 1)) l5)) else (cX K l0 a1 a2 k (bb (i4 + 1)) l5)) else none) else (some (l5)))
def cS (K : Nat) (p0_0 : Int) (l0 : List ay) (p0_2 : Int) (a1 : Int) (a2 : Int) : Option (List aC) := (cX K l0 a1 a2 K 0 ([] : List aC))
def fu (K : Nat) (l0 : List aC) (i43 : Int) (l11 : List Int) : Nat → Int → Option Int
  | 0, _ => none
  | k + 1, i55 => (if i55 < (l11.length : Int) then (if 0 ≤ i55 then (if (l11.getD i55.toNat 0) < (((l0.getD i43.toNat ab).Key).Hour) then (fu K l0 i43 l11 k (bb (i55 + 1))) else (some (i55))) else none) else (some (i55)))
def fj (K : Nat) (l0 : List aC) : Nat → Int → (List Int) → Option (List Int)
  | 0, _, _ => none
  | k + 1, i43, l11 => (if i43 < (l0.length : Int) then (Option.bind (if 0 ≤ i43 then (Option.bind (fu K l0 i43 l11 K 0) fun x36 => (if x36 = (l11.length : Int) then (if 0 ≤ x36 then (if x36 ≤ (l11.length : Int) then (if (([] : List Int).length + (l11.take x36.toNat).length) * 8 ≤ 140737488355328 then (if ((([] : List Int) ++ (l11.take x36.toNat)).length + [((l0.getD i43.toNat ab).Key).Hour].length) * 8 ≤ 140737488355328 then (if (((([] : List Int) ++ (l11.take x36.toNat)) ++ [((l0.getD i43.toNat ab).Key).Hour]).length + (l11.drop x36.toNat).length) * 8 ≤ 140737488355328 then (some ((((([] : List Int) ++ (l11.take x36.toNat)) ++ [((l0.getD i43.toNat ab).Key).Hour]) ++ (l11.drop x36.toNat)))) else none) else none) else none) else none) else none) else (if 0 ≤ x36 then (if x36 < (l11.length : Int) then (if ¬ ((l11.getD x36.toNat 0) = (((l0.getD i43.toNat ab).Key).Hour)) then (if x36 ≤ (l11.length : Int) then (if (([] : List Int).length + (l11.take x36.toNat).length) * 8 ≤ 140737488355328 then (if ((([] : List Int) ++ (l11.take x36.toNat)).length + [((l0.getD i43.toNat ab).Key).Hour].length) * 8 ≤ 140737488355328 then (if (((([] : List Int) ++ (l11.take x36.toNat)) ++ [((l0.getD i43.toNat ab).Key).Hour]).length + (l11.drop x36.toNat).length) * 8 ≤ 140737488355328 then (some ((((([] : List Int) ++ (l11.take x36.toNat)) ++ [((l0.getD i43.toNat ab).Key).Hour]) ++ (l11.drop x36.toNat)))) else none) else none) else none) else none) else (some (l11))) else none) else none))) else none) fun x35 => (fj K l0 k (bb (i43 + 1)) x35)) else (some (l11)))
def go (K : Nat) (l0 : List aC) : Option (List Int) := (fj K l0 K 0 ([] : List Int))
def fT (K : Nat) (p0_0 : Int) (l0 : List ay) (p0_2 : Int) : Option (List Int) := ((cS K p0_0 l0 p0_2 0 4611686018427387904).bind fun x3 => ((go K x3).bind fun x4 => (some (x4))))
def fq (K : Nat) (l0 : List Int) (l1 : List Int) : Nat → Int → Option Bool
  | 0, _ => none
  | k + 1, i4 => (if i4 < (l0.length : Int) then (if 0 ≤ i4 then (if i4 < (l1.length : Int) then (if ¬ ((l0.getD i4.toNat 0) = (l1.getD i4.toNat 0)) then (some (false)) else (fq K l0 l1 k (bb (i4 + 1)))) else none) else none) else (some (true)))
def gu (K : Nat) (l0 : List Int) (l1 : List Int) : Option Bool := (if ¬ ((l0.length : Int) = (l1.length : Int)) then (some (false)) else (fq K l0 l1 K 0))
def gk (K : Nat) : Nat → Int → (List Int) → Option ((List Int) × Int)
  | 0, _, _ => none
  | k + 1, i6, l7 => (if 128 ≤ i6 then (if (l7.length + [pA .u8 (jG i6) 128].length) * 1 ≤ 140737488355328 then (gk K k (ln .u64 i6 7) (l7 ++ [pA .u8 (jG i6) 128])) else none) else (some ((l7, i6))))
def dC (K : Nat) (a1 : Int) : Option (List Int) := (Option.bind (gk K K a1 ([] : List Int)) fun x2 => (if (x2.1.length + [jG x2.2].length) * 1 ≤ 140737488355328 then (some ((x2.1 ++ [jG x2.2]))) else none))
def dn (K : Nat) : Nat → Int → (List Int) → Option ((List Int) × Int)
  | 0, _, _ => none
  | k + 1, i6, l7 => (if 128 ≤ i6 then (if (l7.length + [pA .u8 (jG i6) 128].length) * 1 ≤ 140737488355328 then (dn K k (ln .u64 i6 7) (l7 ++ [pA .u8 (jG i6) 128])) else none) else (some ((l7, i6))))
def cW (K : Nat) (l0 : List Int) (a1 : Int) : Option (List Int) := (Option.bind (dn K K a1 l0) fun x2 => (if (x2.1.length + [jG x2.2].length) * 1 ≤ 140737488355328 then (some ((x2.1 ++ [jG x2.2]))) else none))
def hE (K : Nat) (l0 : List Int) (a1 : List UInt8) : Option (List Int) := ((cW K l0 (ed (a1.length : Int))).bind fun x4 => (if (x4.length + a1.length) * 1 ≤ 140737488355328 then (some ((x4 ++ mw a1))) else none))
def iz (K : Nat) (l0 : List Int) (a1 : Int) : Option (List Int) := ((cW K l0 (md .u64 (ed (yV .i64 a1 1)) (ed (ln .i64 a1 63)))).bind fun x2 => (some (x2)))
def iV (l0 : List Int) : Option (List Int) := (if 0 < l0.length then (if (([] : List Int).length + l0.length) * 1 ≤ 140737488355328 then (some ((([] : List Int) ++ l0))) else none) else (if (([] : List Int).length + ([] : List Int).length) * 1 ≤ 140737488355328 then (some ((([] : List Int) ++ ([] : List Int)))) else none))
def dw (l0 : List Int) : Option (List Int) := ((iV l0).bind fun x2 => (some (x2)))
def ic (K : Nat) (l0 : List aC) (a1 : Int) (i48 : Int) : Nat → Int → (List Int) → Option (List Int)
  | 0, _, _ => none
  | k + 1, i56, l89 => (if i56 < (([((l0.getD i48.toNat ab).Key).Dims_0, ((l0.getD i48.toNat ab).Key).Dims_1, ((l0.getD i48.toNat ab).Key).Dims_2, ((l0.getD i48.toNat ab).Key).Dims_3].take a1.toNat).length : Int) then (if 0 ≤ i56 then ((hE K l89 (([((l0.getD i48.toNat ab).Key).Dims_0, ((l0.getD i48.toNat ab).Key).Dims_1, ((l0.getD i48.toNat ab).Key).Dims_2, ((l0.getD i48.toNat ab).Key).Dims_3].take a1.toNat).getD i56.toNat [])).bind fun x378 => (ic K l0 a1 i48 k (bb (i56 + 1)) x378)) else none) else (some (l89)))
def gA (K : Nat) (l0 : List aC) (a1 : Int) : Nat → Int → (List Int) → Option (Int × (List Int))
  | 0, _, _ => none
  | k + 1, i48, l75 => (if i48 < (l0.length : Int) then (Option.bind (if 0 ≤ i48 then ((cW K l75 (ed (((l0.getD i48.toNat ab).Key).Hour))).bind fun x365 => (Option.bind (if 0 ≤ a1 then (if a1 ≤ (4 : Nat) then (ic K l0 a1 i48 K 0 x365) else none) else none) fun x372 => ((iz K x372 ((l0.getD i48.toNat ab).Value)).bind fun x379 => (some (x379))))) else none) fun x364 => (gA K l0 a1 k (bb (i48 + 1)) x364)) else ((dw l75).bind fun x380 => (some ((0, x380)))))
def jw (K : Nat) (l0 : List aC) (a1 : Int) : Option (Int × (List Int)) := ((ji K l0 a1).bind fun x192 => (if ¬ (x192.1 = 0) then (some ((x192.1, ([] : List Int)))) else ((dC K (ed (l0.length : Int))).bind fun x193 => (gA K l0 a1 K 0 x193))))
def mH (p0_0 : Int) : Int := (md .u32 (ln .u32 p0_0 1) (sp .u32 3988292384 (mQ (0 - (sp .u32 p0_0 1)))))
def jX (K : Nat) : Nat → Int → Int → Option Int
  | 0, _, _ => none
  | k + 1, i71, i72 => (if i71 < 8 then (kY (mH i72) fun x156 => (jX K k (bb (i71 + 1)) x156)) else (some (i72)))
def jU (K : Nat) (l0 : List Int) : Nat → Int → Int → Option Int
  | 0, _, _ => none
  | k + 1, i60, i61 => (if i60 < (l0.length : Int) then (Option.bind (if 0 ≤ i60 then (jX K K 0 (md .u32 i61 (mQ (l0.getD i60.toNat 0)))) else none) fun x150 => (jU K l0 k (bb (i60 + 1)) x150)) else (some (md .u32 (IntKind.max .u32) i61)))
def lR (K : Nat) (a0 : Int) (l0 : List Int) : Option Int := (jU K l0 K 0 (md .u32 (IntKind.max .u32) a0))
def mF (K : Nat) (l0 : List Int) : Option Int := ((lR K 0 l0).bind fun x2 => (some (x2)))
def kz (K : Nat) (x4 : Int) : Nat → Int → (List Int) → Option (List Int)
  | 0, _, _ => none
  | k + 1, i4, l5 => (if i4 < 4 then (if 0 ≤ (bb (8 * i4)) then (if (l5.length + [jG (ln .u32 x4 (bb (8 * i4)))].length) * 1 ≤ 140737488355328 then (kz K x4 k (bb (i4 + 1)) (l5 ++ [jG (ln .u32 x4 (bb (8 * i4)))])) else none) else none) else (some (l5)))
def lU (K : Nat) (l0 : List Int) : Option (List Int) := ((iV l0).bind fun x3 => ((mF K l0).bind fun x4 => (kz K x4 K 0 x3)))
def kV (K : Nat) (l0 : List Int) : Option (List Int) := ((dC K (ed (l0.length : Int))).bind fun x4 => ((dw x4).bind fun x5 => ((lU K l0).bind fun x6 => (if (x5.length + x6.length) * 1 ≤ 140737488355328 then (some ((x5 ++ x6))) else none))))
def ku (K : Nat) (a0_0 : Int) (a0_1 : Int) (a0_2 : Int) (l0 : List aC) (a1 : Int) : Option (Int × (List Int)) := ((jQ K a0_0 a0_1 a0_2 l0 a1).bind fun x11 => (if (!x11) = true then (some ((1, ([] : List Int)))) else ((dC K (ed a0_0)).bind fun x12 => ((cW K x12 (ed a0_1)).bind fun x13 => ((cW K x13 (ed a0_2)).bind fun x14 => ((jw K l0 a1).bind fun x15 => (if ¬ (x15.1 = 0) then (some ((x15.1, ([] : List Int)))) else ((dw x14).bind fun x16 => (if (x16.length + x15.2.length) * 1 ≤ 140737488355328 then ((kV K (x16 ++ x15.2)).bind fun x17 => (some ((0, x17)))) else none)))))))))
def jE (K : Nat) (l0 : List aH) (a1 : Int) : Nat → Int → (List Int) → Option (Int × (List Int))
  | 0, _, _ => none
  | k + 1, i5, l5 => (if i5 < (l0.length : Int) then (if 0 ≤ i5 then ((ku K ((l0.getD i5.toNat ap).Seq) ((l0.getD i5.toNat ap).Tick) ((l0.getD i5.toNat ap).Budget) ((l0.getD i5.toNat ap).Facts) a1).bind fun x24 => (if ¬ (x24.1 = 0) then (some ((x24.1, ([] : List Int)))) else (if (l5.length + x24.2.length) * 1 ≤ 140737488355328 then (jE K l0 a1 k (bb (i5 + 1)) (l5 ++ x24.2)) else none))) else none) else (some ((0, l5))))
def lx (K : Nat) (l0 : List aH) (a1 : Int) : Option (Int × (List Int)) := (jE K l0 a1 K 0 ([] : List Int))
def jj (K : Nat) (p0_0 : Int) (l0 : List aH) (p0_2 : Int) : Option Int := ((lx K l0 p0_0).bind fun x3 => (some ((x3.2.length : Int))))
def gH (K : Nat) : Nat → Int → (List Int) → Option ((List Int) × Int)
  | 0, _, _ => none
  | k + 1, i6, l7 => (if 127 < i6 then (if (l7.length + [jG (ed ((Int.tmod i6 128) + 128))].length) * 1 ≤ 140737488355328 then (gH K k (ed (Int.tdiv i6 128)) (l7 ++ [jG (ed ((Int.tmod i6 128) + 128))])) else none) else (some ((l7, i6))))
def bY (K : Nat) (a0 : Int) : Option (List Int) := (Option.bind (gH K K a0 ([] : List Int)) fun x2 => (if (x2.1.length + [jG x2.2].length) * 1 ≤ 140737488355328 then (some ((x2.1 ++ [jG x2.2]))) else none))
def iA (K : Nat) (a0 : List UInt8) : Option (List Int) := ((bY K (ed (a0.length : Int))).bind fun x2 => (if (x2.length + a0.length) * 1 ≤ 140737488355328 then (some ((x2 ++ mw a0))) else none))
def iO (K : Nat) (a0 : Int) : Option (List Int) := (if 0 ≤ a0 then ((bY K (ed (2 * (ed a0)))).bind fun x5 => (some (x5))) else ((bY K (ed ((ed (2 * (ed (bb (0 - (bb (a0 + 1))))))) + 1))).bind fun x6 => (some (x6))))
def dX (K : Nat) (l0 : List aC) (a1 : Int) (i48 : Int) : Nat → Int → (List Int) → Option (List Int)
  | 0, _, _ => none
  | k + 1, i56, l89 => (if i56 < a1 then (if 0 ≤ i56 then (if i56 < (4 : Int) then ((iA K ([((l0.getD i48.toNat ab).Key).Dims_0, ((l0.getD i48.toNat ab).Key).Dims_1, ((l0.getD i48.toNat ab).Key).Dims_2, ((l0.getD i48.toNat ab).Key).Dims_3].getD i56.toNat [])).bind fun x377 => (if (l89.length + x377.length) * 1 ≤ 140737488355328 then (dX K l0 a1 i48 k (bb (i56 + 1)) (l89 ++ x377)) else none)) else none) else none) else (some (l89)))
def dz (K : Nat) (l0 : List aC) (a1 : Int) : Nat → Int → (List Int) → Option (Int × (List Int))
  | 0, _, _ => none
  | k + 1, i48, l75 => (if i48 < (l0.length : Int) then (Option.bind (if 0 ≤ i48 then ((bY K (ed (((l0.getD i48.toNat ab).Key).Hour))).bind fun x364 => (if (l75.length + x364.length) * 1 ≤ 140737488355328 then (Option.bind (dX K l0 a1 i48 K 0 (l75 ++ x364)) fun x371 => ((iO K ((l0.getD i48.toNat ab).Value)).bind fun x378 => (if (x371.length + x378.length) * 1 ≤ 140737488355328 then (some ((x371 ++ x378))) else none))) else none)) else none) fun x363 => (dz K l0 a1 k (bb (i48 + 1)) x363)) else (some ((0, l75))))
def fc (K : Nat) (l0 : List aC) (a1 : Int) : Option (Int × (List Int)) := ((cU K l0 a1).bind fun x191 => (if ¬ (x191.1 = 0) then (some ((x191.1, ([] : List Int)))) else ((bY K (ed (l0.length : Int))).bind fun x192 => (dz K l0 a1 K 0 x192))))
def gz (K : Nat) (a0_0 : Int) (a0_1 : Int) (a0_2 : Int) (l0 : List aC) (a1 : Int) : Option (List Int) := ((bY K (ed a0_0)).bind fun x5 => ((bY K (ed a0_1)).bind fun x6 => (if (x5.length + x6.length) * 1 ≤ 140737488355328 then ((bY K (ed a0_2)).bind fun x7 => (if ((x5 ++ x6).length + x7.length) * 1 ≤ 140737488355328 then ((fc K l0 a1).bind fun x8 => (if (((x5 ++ x6) ++ x7).length + x8.2.length) * 1 ≤ 140737488355328 then (some ((((x5 ++ x6) ++ x7) ++ x8.2))) else none)) else none)) else none)))
def jP (a0 : Int) : Int := (if (Int.tmod a0 2) = 1 then (md .u32 (mQ (Int.tdiv a0 2)) 3988292384) else (mQ (Int.tdiv a0 2)))
def fG (K : Nat) : Nat → Int → Int → Option Int
  | 0, _, _ => none
  | k + 1, i71, i72 => (if i72 < 8 then (kY (jP i71) fun x156 => (fG K k x156 (bb (i72 + 1)))) else (some (i71)))
def fF (K : Nat) (l0 : List Int) : Nat → Int → Int → Option Int
  | 0, _, _ => none
  | k + 1, i60, i61 => (if i61 < (l0.length : Int) then (Option.bind (if 0 ≤ i61 then (fG K K (md .u32 i60 (mQ (l0.getD i61.toNat 0))) 0) else none) fun x150 => (fF K l0 k x150 (bb (i61 + 1)))) else (some (mQ (4294967295 - i60))))
def iH (K : Nat) (a0 : Int) (l0 : List Int) : Option Int := (fF K l0 K (mQ (4294967295 - a0)) 0)
def iT (K : Nat) (l0 : List Int) : Option Int := ((iH K 0 l0).bind fun x2 => (some (x2)))
def jf (a0 : Int) : List Int := ([jG (Int.tmod a0 256), jG (Int.tmod (mQ (Int.tdiv a0 256)) 256), jG (Int.tmod (mQ (Int.tdiv a0 65536)) 256), jG (mQ (Int.tdiv a0 16777216))])
def iQ (K : Nat) (l0 : List Int) : Option (List Int) := (if (([] : List Int).length + l0.length) * 1 ≤ 140737488355328 then ((iT K l0).bind fun x3 => (kY (jf x3) fun x4 => (if ((([] : List Int) ++ l0).length + x4.length) * 1 ≤ 140737488355328 then (some (((([] : List Int) ++ l0) ++ x4))) else none))) else none)
def hG (K : Nat) (l0 : List Int) : Option (List Int) := ((bY K (ed (l0.length : Int))).bind fun x3 => ((iQ K l0).bind fun x4 => (if (x3.length + x4.length) * 1 ≤ 140737488355328 then (some ((x3 ++ x4))) else none)))
def fZ (K : Nat) (a0_0 : Int) (a0_1 : Int) (a0_2 : Int) (l0 : List aC) (a1 : Int) : Option (Int × (List Int)) := ((eP K a0_0 a0_1 a0_2 l0 a1).bind fun x6 => (if (!x6) = true then (some ((1, ([] : List Int)))) else ((gz K a0_0 a0_1 a0_2 l0 a1).bind fun x7 => ((hG K x7).bind fun x8 => (some ((0, x8)))))))
def fg (K : Nat) (l0 : List aK) (a1 : Int) : Nat → Int → (List Int) → Option (Int × (List Int))
  | 0, _, _ => none
  | k + 1, i5, l5 => (if i5 < (l0.length : Int) then (if 0 ≤ i5 then ((fZ K ((l0.getD i5.toNat aj).Seq) ((l0.getD i5.toNat aj).Tick) ((l0.getD i5.toNat aj).Budget) ((l0.getD i5.toNat aj).Facts) a1).bind fun x24 => (if ¬ (x24.1 = 0) then (some ((x24.1, ([] : List Int)))) else (if (l5.length + x24.2.length) * 1 ≤ 140737488355328 then (fg K l0 a1 k (bb (i5 + 1)) (l5 ++ x24.2)) else none))) else none) else (some ((0, l5))))
def eL (K : Nat) (l0 : List aK) (a1 : Int) : Option (Int × (List Int)) := (fg K l0 a1 K 0 ([] : List Int))
def eX (K : Nat) (p0_0 : Int) (l0 : List ay) (p0_2 : Int) : Option Int := ((cy K p0_0 l0 p0_2).bind fun x6 => ((eL K x6 p0_0).bind fun x7 => (some ((x7.2.length : Int)))))
def eQ (K : Nat) (p0_0 : Int) (l0 : List aH) (p0_2 : Int) (p1_0 : Int) (l1 : List ay) (p1_2 : Int) (a2 : Int) (a3 : Int) : Option Bool := ((eb K p0_0 l0 p0_2).bind fun x15 => ((im x15).bind fun x16 => ((cy K p1_0 l1 p1_2).bind fun x17 => ((gn K x16 x17).bind fun x18 => (if x18 = true then ((iK K p0_0 l0 p0_2).bind fun x19 => ((fT K p1_0 l1 p1_2).bind fun x20 => ((gu K x19 x20).bind fun x21 => (if x21 = true then ((fK K p0_0 l0 p0_2 a2 a3).bind fun x22 => ((cS K p1_0 l1 p1_2 a2 a3).bind fun x23 => ((dU K x22 x23).bind fun x24 => (if x24 = true then ((ig K p0_0 l0 p0_2 a2 a3).bind fun x25 => ((cS K p1_0 l1 p1_2 a2 a3).bind fun x26 => (if (x25 == (decide (0 < (x26.length : Int)))) = true then ((jj K p0_0 l0 p0_2).bind fun x27 => ((eX K p1_0 l1 p1_2).bind fun x28 => (some ((x27 == x28))))) else (some (false))))) else (some (false)))))) else (some (false)))))) else (some (false)))))))
def dN (K : Nat) (l0 : List dv) (x50 : (Int × Int × Int)) (x51 : (Int × Int × Int)) : Nat → Int → (List aH) → Int → (List ay) → Int → Option (Sum ((List aH) × (List ay) × Int × Int) Bool)
  | 0, _, _, _, _, _ => none
  | k + 1, i24, l18, i25, l19, i26 => (if i24 < (l0.length : Int) then (if 0 ≤ i24 then ((eo K x50.1 l18 i25 x51.1 l19 i26 ((l0.getD i24.toNat aN).Kind) (((l0.getD i24.toNat aN).B).Seq) (((l0.getD i24.toNat aN).B).Tick) (((l0.getD i24.toNat aN).B).Budget) ((((l0.getD i24.toNat aN).B).Facts).xs) ((l0.getD i24.toNat aN).From) ((l0.getD i24.toNat aN).To) (((l0.getD i24.toNat aN).Put).xs)).bind fun x64 => (if (!x64.1) = true then (some (Sum.inr (false))) else (dN K l0 x50 x51 k (bb (i24 + 1)) x64.2.1 x64.2.2.1 x64.2.2.2.1 x64.2.2.2.2))) else none) else (some (Sum.inl (l18, l19, i25, i26))))
def dL (K : Nat) (l1 : List dv) (x50 : (Int × Int × Int)) (x51 : (Int × Int × Int)) : Nat → Int → (List aH) → Int → (List ay) → Int → Option (Sum ((List aH) × (List ay) × Int × Int) Bool)
  | 0, _, _, _, _, _ => none
  | k + 1, i33, l24, i34, l25, i35 => (if i33 < (l1.length : Int) then (if 0 ≤ i33 then ((eo K x50.1 l24 i34 x51.1 l25 i35 ((l1.getD i33.toNat aN).Kind) (((l1.getD i33.toNat aN).B).Seq) (((l1.getD i33.toNat aN).B).Tick) (((l1.getD i33.toNat aN).B).Budget) ((((l1.getD i33.toNat aN).B).Facts).xs) ((l1.getD i33.toNat aN).From) ((l1.getD i33.toNat aN).To) (((l1.getD i33.toNat aN).Put).xs)).bind fun x79 => (if (!x79.1) = true then (some (Sum.inr (false))) else (dL K l1 x50 x51 k (bb (i33 + 1)) x79.2.1 x79.2.2.1 x79.2.2.2.1 x79.2.2.2.2))) else none) else (some (Sum.inl (l24, l25, i34, i35))))
def gE (K : Nat) (l0 : List dv) (l1 : List dv) : Option Bool := ((eT K l0).bind fun x46 => (if (!x46) = true then ((eW K).bind fun x47 => (some (x47))) else ((eT K l1).bind fun x48 => (if (!x48) = true then ((eW K).bind fun x49 => (some (x49))) else (kY (mE) fun x50 => (kY (jB) fun x51 => (if ¬ (x50.2.2 = 0) then (some (false)) else (Option.bind (dN K l0 x50 x51 K 0 ([] : List aH) x50.2.1 ([] : List ay) x51.2.1) fun z => (vL z (fun v3 => ((kf K x50.1 v3.1 v3.2.2.1).bind fun x65 => ((gh x51.1 v3.2.1 v3.2.2.2).bind fun x66 => (Option.bind (dL K l1 x50 x51 K 0 v3.1 v3.2.2.1 v3.2.1 v3.2.2.2) fun z => (vL z (fun v4 => ((eQ K x65.2.1 x65.1 x65.2.2 x66.2.1 x66.1 x66.2.2 0 1099511627776).bind fun x80 => (if x80 = true then ((eQ K x50.1 v4.1 v4.2.2.1 x51.1 v4.2.1 v4.2.2.2 0 1099511627776).bind fun x81 => (if x81 = true then ((eW K).bind fun x82 => (some (x82))) else (some (false)))) else (some (false))))) (fun t_ => (some (t_)))))))) (fun t_ => (some (t_))))))))))))
end Go.Proofs.YtmgpegiekankmaaGreat.MemCopies
end
section
set_option linter.unusedVariables false
namespace Go.Proofs.YtmgpegiekankmaaGreat.E
open Go
section
variable {r : Option Nat} {P : Program} {n : Nat} {w0 : World} {F L L' : List HP} {ρ ρ' : ko} {Q : Exit → Act → World → Prop} {ops : Array Oper} {rest : List Oper} {d : Nat} {v : Value} {ty : TypeId} {pos : String} {after : Array Edge} {op : Op}
theorem vM {x : Operand} (hx : ev ρ x = some v) (hd : Nat.blt d n = true) (k : cD (St n w0 F ((d, v) :: ρ) L) (wpListIn (Wd r) 0 P ops Q rest)) : cD (St n w0 F ρ L) (wpListIn (Wd r) 0 P ops Q (⟨some d, .move x, ty, pos, after, none⟩ :: rest)) := qe (aM hx) rfl rfl hd k
theorem vA {x : Operand} (hx : ev ρ x = some v) (hd : Nat.blt d n = true) (k : cD (St n w0 F ((d, v) :: ρ) L) (wpListIn (Wd r) 0 P ops Q rest)) : cD (St n w0 F ρ L) (wpListIn (Wd r) 0 P ops Q (⟨some d, .assign x, ty, pos, after, none⟩ :: rest)) := qe (cT hx) rfl rfl hd k
theorem vV (h : OV P ⟨some d, op, ty, pos, after, none⟩ ρ L v) (hd : Nat.blt d n = true) (k : cD (St n w0 F ((d, v) :: ρ) L) (wpListIn (Wd r) 0 P ops Q rest)) : cD (St n w0 F ρ L) (wpListIn (Wd r) 0 P ops Q (⟨some d, op, ty, pos, after, none⟩ :: rest)) := qe h rfl rfl hd k
def rV : List Nat → Bool
  | [] => true
  | x :: l => l.all (fun y => !Nat.beq x y) && rV l
theorem ri : ∀ {l : List Nat}, rV l = true → l.Nodup
  | [], _ => List.nodup_nil
  | x :: l, h => by
    simp only [rV, Bool.and_eq_true, List.all_eq_true, Bool.not_eq_true'] at h
    rw [List.nodup_cons]
    refine ⟨fun hx => ?_, ri h.2⟩
    exact Nat.ne_of_beq_eq_false (h.1 x hx) rfl
theorem vF {X : Act → World → Prop} (σ : List Nat) (hn : rV σ = true) (hp : pick L σ = some L') (hs : sub ρ' ρ) (hx : ∀ a w, St n w0 F ρ' L' a w → X a w) : cD (St n w0 F ρ L) X := AG σ (ri hn) hp hs hx
theorem vP {X : Act → World → Prop} (σ : List Nat) (hn : rV σ = true) (hp : pick L σ = some L') (k : cD (St n w0 F ρ L') X) : cD (St n w0 F ρ L) X := ut σ (ri hn) hp k
def BG (ρ : ko) : List Nat → Option ko
  | [] => some []
  | t :: ts => match jF ρ t, BG ρ ts with
    | some v, some e => some ((t, v) :: e)
    | _, _ => none
theorem vS : ∀ (ts : List Nat) {ρ' : ko}, BG ρ ts = some ρ' → sub ρ' ρ
  | [], ρ', h => by cases h; exact A4 _
  | t :: ts, ρ', h => by
    simp only [BG] at h
    split at h
    · rename_i v e hv he
      cases h
      exact Ak hv (vS ts he)
    · cases h
theorem dT {p : Prop} [Decidable p] (h : p) : decide p = true := decide_eq_true h
theorem dF {p : Prop} [Decidable p] (h : ¬ p) : decide p = false := decide_eq_false h
theorem bF {b : Bool} (h : ¬ b = true) : b = false := Bool.eq_false_iff.2 h
theorem oB {α β : Type} {o : Option α} {f : α → Option β} {b : β} (h : o.bind f = some b) : ∃ a, o = some a ∧ f a = some b := Option.bind_eq_some_iff.1 h
theorem nL {a b : Nat} (h : Nat.ble a b = true) : a ≤ b := Nat.le_of_ble_eq_true h
end
section
variable {r : Option Nat} {P : Program} {n : Nat} {w0 : World} {F L : List HP} {ρ ρ' : ko} {Q : Exit → Act → World → Prop} {ops : Array Oper} {done : Nat → Bool} {T : List (Nat × Nat × Value)} {a : Act} {i j t : Nat} {v : Value} {o : Oper}
theorem hD (k : Nat) (hc : nC ops (up done i)) (hk : T[k]? = some (j, t, v)) (ho : ops[i]? = some o) (hne : Nat.beq j i = false) (he : (o.after.toList.any fun e => Region.binds .any e && Nat.beq e.on j) = true) (h : mK a ρ T done → lg a ρ') : mK a ρ T done → lg a ((t, v) :: ρ') := ao hk (aY hc ho (Nat.ne_of_beq_eq_false hne) he) h
theorem zC : ∀ {T : List (Nat × Nat × Value)}, (∀ e ∈ T, done e.1 = true) → qU a done T → lg a ρ → lg a (T.map (fun e => (e.2.1, e.2.2)) ++ ρ)
  | [], _, _, h => h
  | (i, t, v) :: T, hd, hA, h => by
    intro s u hu
    simp only [List.map_cons, List.cons_append, jF] at hu
    split at hu
    · rename_i e
      subst e
      cases hu
      exact hA.1 (hd _ List.mem_cons_self)
    · exact zC (fun e he => hd e (List.mem_cons_of_mem _ he)) hA.2 h s u hu
theorem hL {m : Nat} (hall : ∀ i, i < m → done i = true) (hT : (T.all fun e => Nat.blt e.1 m) = true) (a : Act) : mK a ρ T done → lg a (T.map (fun e => (e.2.1, e.2.2)) ++ ρ) := fun h =>
  zC (fun e he => hall _ (by have := List.all_eq_true.1 hT e he; simpa [Nat.blt_eq] using this)) h.2 h.1
theorem dV (k0 : Nat) {ρi : ko} (hk : T[k0]? = some (i, t, v)) (ho : ops[i]? = some o) (hg : o.guard = none) (hdst : o.dst = some t) (hρ : ∀ a, mK a ρ T done → lg a ρi) (hv : OV P o ρi L v) (ht : Nat.blt t n = true) (hn : jF ρ t = none) (h1 : tf i t T = true) (h2 : ss T = true) :
    cD (kF n w0 F ρ T done L) fun a w => wpOpIn (Wd r) 0 P ops Q i (kF n w0 F ρ T (up done i) L) a w := aZ ho hdst (bw hg) hρ hv ht hn (qX h1 hk h2)
theorem oT (k0 : Nat) (h : tf i t T = true) (h0 : T[k0]? = some (i, t, v)) (hinc : ss T = true) : ∀ (k : Nat) (e : Nat × Nat × Value), T[k]? = some e → (e.1 = i ∧ e.2.1 = t ∧ e.2.2 = v) ∨ (e.1 ≠ i ∧ e.2.1 ≠ t) := qX h h0 hinc
end
section
variable {n : Nat} {w0 : World} {F L : List HP} {ρ : ko}
theorem CH {id : Nat} {Φ : Option Code → List HP → Prop} (h : Φ none L) : cD (St n w0 F ρ L) (Exit.inBlock id (qo w0 F Φ) .normal) := fun a w hs => mI (Φ := Φ) h a w hs
theorem CF {id id2 : Nat} {Φ : Option Code → List HP → Prop} (h : Φ none L) : cD (St n w0 F ρ L) (Exit.inBlock id (Exit.inBlock id2 (qo w0 F Φ)) .normal) := fun a w hs => mI (Φ := Φ) h a w hs
end
end Go.Proofs.YtmgpegiekankmaaGreat.E
end
section
set_option linter.unusedVariables false
set_option linter.unusedSimpArgs false
set_option maxHeartbeats 8000000
set_option maxRecDepth 100000
namespace Go.Proofs.YtmgpegiekankmaaGreat.MemCopies
open Go Go.RowKit E
open Go.Value (int bool slice agg)
def aD (x : aC) : List Value := [(Value.int .i64 x.Key.Hour), (cY x.Key.Dims_0), (cY x.Key.Dims_1), (cY x.Key.Dims_2), (cY x.Key.Dims_3), (Value.int .i64 x.Value)]
theorem kl (x : aC) : (aD x).all (·.oneCell') = true := rfl
theorem bJ (x : aC) : (aD x).length = 6 := rfl
def jt (x : cF) : List Value := [(Value.int .i64 x.Seq), (Value.int .i64 x.Tick), (Value.int .i64 x.Budget), x.Facts.v]
theorem kS (x : cF) : (jt x).length = 4 := rfl
def ba (x : aE) : List Value := [(Value.int .i64 x.Part.Tier), (Value.int .i64 x.Part.Index), (Value.int .i64 x.Seg), (Value.int .i64 x.Mark), (Value.int .i64 x.Rows), (Value.bool x.Cold)]
theorem jS (x : aE) : (ba x).all (·.oneCell') = true := rfl
theorem eO (x : aE) : (ba x).length = 6 := rfl
def ia (x : dv) : List Value := [(Value.int .i64 x.Kind), (Value.int .i64 x.B.Seq), (Value.int .i64 x.B.Tick), (Value.int .i64 x.B.Budget), x.B.Facts.v, (Value.int .i64 x.From), (Value.int .i64 x.To), x.Put.v]
theorem fU (x : dv) : (ia x).length = 8 := rfl
def al (x : aH) (v : Value) : List Value := [(Value.int .i64 x.Seq), (Value.int .i64 x.Tick), (Value.int .i64 x.Budget), v]
theorem dH (x : aH) (v : Value) : (al x v).length = 4 := rfl
theorem jR (x : aH) (v : Value) (h : v.oneCell' = true) : ∀ u ∈ al x v, u.oneCell' = true := List.all_eq_true.1 (by simp only [al, List.all_cons, List.all_nil, h, Bool.and_true]; rfl)
def an (x : aH) : Nat := x.Facts.length
def am (x : aH) : List Value := fl aD x.Facts
def ak (x : ay) : List Value := [(Value.int .i64 x.Seq), (Value.int .i64 x.Tick), (Value.int .i64 x.Budget), (Value.int .i64 x.F.Key.Hour), (cY x.F.Key.Dims_0), (cY x.F.Key.Dims_1), (cY x.F.Key.Dims_2), (cY x.F.Key.Dims_3), (Value.int .i64 x.F.Value)]
theorem eZ (x : ay) : (ak x).all (·.oneCell') = true := rfl
theorem bL (x : ay) : (ak x).length = 9 := rfl
def ac (x : ah) : List Value := [(Value.int .i64 x.k), (Value.int .i64 x.v.Part.Tier), (Value.int .i64 x.v.Part.Index), (Value.int .i64 x.v.Seg), (Value.int .i64 x.v.Mark), (Value.int .i64 x.v.Rows), (Value.bool x.v.Cold)]
theorem dq (x : ah) : (ac x).all (·.oneCell') = true := rfl
theorem bj (x : ah) : (ac x).length = 7 := rfl
def au (x : aK) (v : Value) : List Value := [(Value.int .i64 x.Seq), (Value.int .i64 x.Tick), (Value.int .i64 x.Budget), v]
theorem aT (x : aK) (v : Value) : (au x v).length = 4 := rfl
theorem jo (x : aK) (v : Value) (h : v.oneCell' = true) : ∀ u ∈ au x v, u.oneCell' = true := List.all_eq_true.1 (by simp only [au, List.all_cons, List.all_nil, h, Bool.and_true]; rfl)
def aw (x : aK) : Nat := x.Facts.length
def ax (x : aK) : List Value := fl aD x.Facts
theorem kU : fX Tryz.prog 22 = some 38 := by kernel_rfl
theorem mB : dM Tryz.prog 38 = some 8 := by kernel_rfl
theorem nG : eD Tryz.prog 38 1 = some (1, 35) := by kernel_rfl
theorem cB : dM Tryz.prog 35 = some 4 := by kernel_rfl
theorem mO : kJ Tryz.prog 35 = some true := by kernel_rfl
theorem ct : fX Tryz.prog 79 = some 35 := by kernel_rfl
theorem kg : jd Tryz.prog 35 = some [(Value.int .i64 0), (Value.int .i64 0), (Value.int .i64 0), (Value.slice none 0 0)] := by kernel_rfl
theorem iC : eD Tryz.prog 35 3 = some (3, 33) := by kernel_rfl
theorem cK : dM Tryz.prog 33 = some 1 := by kernel_rfl
theorem fA : kJ Tryz.prog 33 = some false := by kernel_rfl
theorem bA : fX Tryz.prog 33 = some 87 := by kernel_rfl
theorem bK : dM Tryz.prog 87 = some 6 := by kernel_rfl
theorem di : eD Tryz.prog 87 0 = some (0, 85) := by kernel_rfl
theorem eG : dM Tryz.prog 85 = some 5 := by kernel_rfl
theorem la : eD Tryz.prog 85 1 = some (1, 83) := by kernel_rfl
theorem lf : dM Tryz.prog 83 = some 4 := by kernel_rfl
theorem lq : no Tryz.prog 83 = some (4, 9) := by kernel_rfl
theorem mg : dM Tryz.prog 9 = some 1 := by kernel_rfl
theorem kL : kJ Tryz.prog 9 = some false := by kernel_rfl
theorem yL : bT Tryz.prog 76 = true := by kernel_rfl
theorem yF : bT Tryz.prog 31 = true := by kernel_rfl
theorem nA : eD Tryz.prog 38 4 = some (7, 36) := by kernel_rfl
theorem lD : dM Tryz.prog 36 = some 1 := by kernel_rfl
theorem lO : kJ Tryz.prog 36 = some false := by kernel_rfl
theorem ef : fX Tryz.prog 36 = some 74 := by kernel_rfl
theorem uI : bT Tryz.prog 8 = true := by kernel_rfl
theorem ql : jd Tryz.prog 93 = some [(Value.int .i64 0), (Value.slice none 0 0), (Value.int .i64 0)] := by kernel_rfl
theorem nY : kb Tryz.prog 93 = some [(0, 1), (1, 1), (2, 1)] := by kernel_rfl
theorem tv : bT Tryz.prog 10 = true := by kernel_rfl
theorem sA : jd Tryz.prog 85 = some [(Value.int .i64 0), (cY ([] : List UInt8)), (cY ([] : List UInt8)), (cY ([] : List UInt8)), (cY ([] : List UInt8))] := by kernel_rfl
theorem qz : kb Tryz.prog 85 = some [(0, 1), (1, 4)] := by kernel_rfl
theorem fS : jd Tryz.prog 87 = some [(Value.int .i64 0), (cY ([] : List UInt8)), (cY ([] : List UInt8)), (cY ([] : List UInt8)), (cY ([] : List UInt8)), (Value.int .i64 0)] := by kernel_rfl
theorem qB : kb Tryz.prog 87 = some [(0, 5), (5, 1)] := by kernel_rfl
theorem mV : kb Tryz.prog 35 = some [(0, 1), (1, 1), (2, 1), (3, 1)] := by kernel_rfl
theorem gy : jd Tryz.prog 81 = some [(Value.int .i64 0), (Value.int .i64 0), (Value.int .i64 0), (Value.slice none 0 0)] := by kernel_rfl
theorem fe : eD Tryz.prog 35 0 = some (0, 2) := by kernel_rfl
theorem bd : dM Tryz.prog 2 = some 1 := by kernel_rfl
theorem bl : kJ Tryz.prog 2 = some false := by kernel_rfl
theorem iD : eD Tryz.prog 35 1 = some (1, 2) := by kernel_rfl
theorem jr : eD Tryz.prog 35 2 = some (2, 2) := by kernel_rfl
theorem qC : kb Tryz.prog 81 = some [(0, 1), (1, 1), (2, 1), (3, 1)] := by kernel_rfl
theorem cC : dM Tryz.prog 81 = some 4 := by kernel_rfl
theorem jn : kJ Tryz.prog 81 = some true := by kernel_rfl
theorem sE : bT Tryz.prog 33 = true := by kernel_rfl
theorem mu : eD Tryz.prog 93 0 = some (0, 3) := by kernel_rfl
theorem iX : dM Tryz.prog 3 = some 1 := by kernel_rfl
theorem ju : kJ Tryz.prog 3 = some false := by kernel_rfl
theorem dx : eD Tryz.prog 81 3 = some (3, 33) := by kernel_rfl
theorem rS : bT Tryz.prog 158 = true := by kernel_rfl
theorem gG : kJ Tryz.prog 87 = some true := by kernel_rfl
theorem eN : eD Tryz.prog 85 0 = some (0, 2) := by kernel_rfl
theorem lh : eD Tryz.prog 87 1 = some (5, 2) := by kernel_rfl
theorem rh : kJ Tryz.prog 83 = some true := by kernel_rfl
theorem vD : bT Tryz.prog 159 = true := by kernel_rfl
theorem pc : bT Tryz.prog 120 = true := by kernel_rfl
theorem iW : eD Tryz.prog 81 0 = some (0, 2) := by kernel_rfl
theorem mx : eD Tryz.prog 81 1 = some (1, 2) := by kernel_rfl
theorem mv : eD Tryz.prog 81 2 = some (2, 2) := by kernel_rfl
theorem rT : bT Tryz.prog 121 = true := by kernel_rfl
theorem qk : bT Tryz.prog 77 = true := by kernel_rfl
theorem lN : eD Tryz.prog 93 2 = some (2, 2) := by kernel_rfl
theorem mM : jW Tryz.prog 87 = some 80 := by kernel_rfl
theorem ng : bT Tryz.prog 78 = true := by kernel_rfl
theorem jN : eD Tryz.prog 93 1 = some (1, 91) := by kernel_rfl
theorem jJ : dM Tryz.prog 91 = some 1 := by kernel_rfl
theorem pk : kJ Tryz.prog 91 = some false := by kernel_rfl
theorem dJ : fX Tryz.prog 91 = some 81 := by kernel_rfl
theorem mN : jW Tryz.prog 81 = some 48 := by kernel_rfl
theorem tA : bT Tryz.prog 32 = true := by kernel_rfl
theorem ot : bT Tryz.prog 91 = true := by kernel_rfl
theorem xV : bT Tryz.prog 93 = true := by kernel_rfl
theorem qi : bT Tryz.prog 51 = true := by kernel_rfl
theorem dp : fX Tryz.prog 44 = some 2 := by kernel_rfl
theorem kC : jd Tryz.prog 2 = some [(Value.int .i64 0)] := by kernel_rfl
theorem lX : jW Tryz.prog 2 = some 8 := by kernel_rfl
theorem vu : bT Tryz.prog 122 = true := by kernel_rfl
theorem ww : bT Tryz.prog 123 = true := by kernel_rfl
theorem yC : bT Tryz.prog 79 = true := by kernel_rfl
theorem sU : bT Tryz.prog 34 = true := by kernel_rfl
theorem sV : kJ Tryz.prog 148 = some false := by kernel_rfl
theorem yQ : bT Tryz.prog 81 = true := by kernel_rfl
theorem nw : bT Tryz.prog 125 = true := by kernel_rfl
theorem rv : bT Tryz.prog 161 = true := by kernel_rfl
theorem rZ : bT Tryz.prog 124 = true := by kernel_rfl
theorem sF : bT Tryz.prog 80 = true := by kernel_rfl
theorem td : bT Tryz.prog 35 = true := by kernel_rfl
theorem qa : bT Tryz.prog 36 = true := by kernel_rfl
theorem rO : bT Tryz.prog 9 = true := by kernel_rfl
theorem tz : jd Tryz.prog 96 = some [(Value.int .i64 0), (Value.slice none 0 0), (Value.int .i64 0)] := by kernel_rfl
theorem qu : kb Tryz.prog 96 = some [(0, 1), (1, 1), (2, 1)] := by kernel_rfl
theorem yp : bT Tryz.prog 11 = true := by kernel_rfl
theorem uH : kJ Tryz.prog 38 = some true := by kernel_rfl
theorem uc : eD Tryz.prog 38 0 = some (0, 3) := by kernel_rfl
theorem nz : eD Tryz.prog 96 0 = some (0, 3) := by kernel_rfl
theorem vI : bT Tryz.prog 162 = true := by kernel_rfl
theorem sa : bT Tryz.prog 126 = true := by kernel_rfl
theorem oG : bT Tryz.prog 127 = true := by kernel_rfl
theorem sX : bT Tryz.prog 82 = true := by kernel_rfl
theorem nI : eD Tryz.prog 96 2 = some (2, 2) := by kernel_rfl
theorem cR : fX Tryz.prog 94 = some 151 := by kernel_rfl
theorem cZ : dM Tryz.prog 151 = some 9 := by kernel_rfl
theorem gK : jd Tryz.prog 151 = some [(Value.int .i64 0), (Value.int .i64 0), (Value.int .i64 0), (Value.int .i64 0), (cY ([] : List UInt8)), (cY ([] : List UInt8)), (cY ([] : List UInt8)), (cY ([] : List UInt8)), (Value.int .i64 0)] := by kernel_rfl
theorem dh : eD Tryz.prog 96 1 = some (1, 94) := by kernel_rfl
theorem dZ : dM Tryz.prog 94 = some 1 := by kernel_rfl
theorem iy : kJ Tryz.prog 94 = some false := by kernel_rfl
theorem kN : jW Tryz.prog 151 = some 104 := by kernel_rfl
theorem tF : kb Tryz.prog 151 = some [(0, 1), (1, 1), (2, 1), (3, 6)] := by kernel_rfl
theorem ym : bT Tryz.prog 37 = true := by kernel_rfl
theorem mq : eD Tryz.prog 38 2 = some (5, 2) := by kernel_rfl
theorem pF : eD Tryz.prog 38 3 = some (6, 2) := by kernel_rfl
theorem yc : bT Tryz.prog 38 = true := by kernel_rfl
theorem wR : jd Tryz.prog 199 = some [(Value.slice none 0 0)] := by kernel_rfl
theorem tG : kb Tryz.prog 199 = some [(0, 1)] := by kernel_rfl
theorem sO : bT Tryz.prog 83 = true := by kernel_rfl
theorem sb : jd Tryz.prog 155 = some [(Value.pointer none)] := by kernel_rfl
theorem pG : kb Tryz.prog 155 = some [(0, 1)] := by kernel_rfl
theorem yM : bT Tryz.prog 39 = true := by kernel_rfl
theorem wz : jd Tryz.prog 102 = some [(Value.slice none 0 0), (Value.slice none 0 0)] := by kernel_rfl
theorem ug : kb Tryz.prog 102 = some [(0, 1), (1, 1)] := by kernel_rfl
theorem kH : eD Tryz.prog 155 0 = some (0, 152) := by kernel_rfl
theorem kQ : dM Tryz.prog 152 = some 1 := by kernel_rfl
theorem je : kJ Tryz.prog 152 = some false := by kernel_rfl
theorem xe : jd Tryz.prog 152 = some [(Value.pointer none)] := by kernel_rfl
theorem fx : eD Tryz.prog 199 0 = some (0, 197) := by kernel_rfl
theorem gL : dM Tryz.prog 197 = some 1 := by kernel_rfl
theorem ja : kJ Tryz.prog 197 = some false := by kernel_rfl
theorem oZ : bT Tryz.prog 177 = true := by kernel_rfl
theorem wc : bT Tryz.prog 146 = true := by kernel_rfl
theorem fR : jd Tryz.prog 74 = some [(Value.int .i64 0), (Value.int .i64 0), (Value.int .i64 0), (Value.int .i64 0), (Value.int .i64 0), (Value.bool false)] := by kernel_rfl
theorem bP : dM Tryz.prog 74 = some 6 := by kernel_rfl
theorem ge : kJ Tryz.prog 74 = some true := by kernel_rfl
theorem kX : jd Tryz.prog 204 = some [(Value.int .i64 0), (Value.int .i64 0), (Value.int .i64 0), (Value.int .i64 0), (Value.int .i64 0), (Value.int .i64 0), (Value.bool false)] := by kernel_rfl
theorem pz : kb Tryz.prog 204 = some [(0, 1), (1, 6)] := by kernel_rfl
theorem cr : fX Tryz.prog 197 = some 204 := by kernel_rfl
theorem dg : dM Tryz.prog 204 = some 7 := by kernel_rfl
theorem nQ : jW Tryz.prog 204 = some 56 := by kernel_rfl
theorem wI : bT Tryz.prog 128 = true := by kernel_rfl
theorem ya : bT Tryz.prog 84 = true := by kernel_rfl
theorem so : eD Tryz.prog 102 0 = some (0, 100) := by kernel_rfl
theorem wF : dM Tryz.prog 100 = some 1 := by kernel_rfl
theorem yX : kJ Tryz.prog 100 = some false := by kernel_rfl
theorem qA : fX Tryz.prog 100 = some 56 := by kernel_rfl
theorem su : eD Tryz.prog 102 1 = some (1, 36) := by kernel_rfl
theorem ik : eD Tryz.prog 74 0 = some (0, 56) := by kernel_rfl
theorem ce : dM Tryz.prog 56 = some 2 := by kernel_rfl
theorem dW : kJ Tryz.prog 56 = some true := by kernel_rfl
theorem js : eD Tryz.prog 56 0 = some (0, 3) := by kernel_rfl
theorem mA : jd Tryz.prog 56 = some [(Value.int .i64 0), (Value.int .i64 0)] := by kernel_rfl
theorem nU : kb Tryz.prog 56 = some [(0, 1), (1, 1)] := by kernel_rfl
theorem tt : bT Tryz.prog 97 = true := by kernel_rfl
theorem wB : bT Tryz.prog 139 = true := by kernel_rfl
theorem yZ : bT Tryz.prog 98 = true := by kernel_rfl
theorem sL : bT Tryz.prog 57 = true := by kernel_rfl
theorem ga : eD Tryz.prog 56 1 = some (1, 2) := by kernel_rfl
theorem rx : bT Tryz.prog 116 = true := by kernel_rfl
theorem po : eD Tryz.prog 74 1 = some (2, 2) := by kernel_rfl
theorem oU : bT Tryz.prog 165 = true := by kernel_rfl
theorem pL : eD Tryz.prog 74 3 = some (4, 2) := by kernel_rfl
theorem mr : eD Tryz.prog 74 2 = some (3, 2) := by kernel_rfl
theorem pq : eD Tryz.prog 74 4 = some (5, 4) := by kernel_rfl
theorem uQ : dM Tryz.prog 4 = some 1 := by kernel_rfl
theorem xK : kJ Tryz.prog 4 = some false := by kernel_rfl
theorem vE : bT Tryz.prog 131 = true := by kernel_rfl
theorem wE : bT Tryz.prog 157 = true := by kernel_rfl
theorem rA : bT Tryz.prog 156 = true := by kernel_rfl
theorem vK : bT Tryz.prog 119 = true := by kernel_rfl
theorem tj : bT Tryz.prog 75 = true := by kernel_rfl
theorem yg : jd Tryz.prog 36 = some [(Value.slice none 0 0)] := by kernel_rfl
theorem lZ : eD Tryz.prog 204 0 = some (0, 2) := by kernel_rfl
theorem wd : bT Tryz.prog 164 = true := by kernel_rfl
theorem vr : bT Tryz.prog 163 = true := by kernel_rfl
theorem nD : bT Tryz.prog 129 = true := by kernel_rfl
theorem mX : eD Tryz.prog 204 1 = some (1, 74) := by kernel_rfl
theorem xf : bT Tryz.prog 102 = true := by kernel_rfl
theorem nO : kb Tryz.prog 74 = some [(0, 2), (2, 1), (3, 1), (4, 1), (5, 1)] := by kernel_rfl
theorem wo : Tryz.prog.eqGuardType Tryz.prog.depth 56 = false := by kernel_rfl
theorem Bb {x y : Operand} (x0 : Int) (x1 : Int) (y0 : Int) (y1 : Int) (w : World) : (do eqGuard .eql 56 x y (.agg #[(Value.int .i64 x0), (Value.int .i64 x1)]) (.agg #[(Value.int .i64 y0), (Value.int .i64 y1)]); binOp .eql 56 (.agg #[(Value.int .i64 x0), (Value.int .i64 x1)]) (.agg #[(Value.int .i64 y0), (Value.int .i64 y1)])).run Tryz.prog w = .ok (.bool ((x0 == y0) && ((x1 == y1) && true))) w :=
  yY wo (pZ Tryz.underlying56 (by kernel_rfl) (nj rfl (hQ ju rfl) (hQ ju rfl) (tH Tryz.underlying3 _ _) (nj rfl (hQ bl rfl) (hQ bl rfl) (tH Tryz.underlying2 _ _) ue))) w
theorem yO : bT Tryz.prog 30 = true := by kernel_rfl
theorem sM : bT Tryz.prog 60 = true := by kernel_rfl
theorem mP : jW Tryz.prog 74 = some 48 := by kernel_rfl
theorem wn : bT Tryz.prog 166 = true := by kernel_rfl
theorem zb : kJ Tryz.prog 204 = some true := by kernel_rfl
theorem xg : bT Tryz.prog 132 = true := by kernel_rfl
theorem wK : bT Tryz.prog 167 = true := by kernel_rfl
theorem vU : bT Tryz.prog 133 = true := by kernel_rfl
theorem za : bT Tryz.prog 87 = true := by kernel_rfl
theorem yK : bT Tryz.prog 40 = true := by kernel_rfl
theorem rX : bT Tryz.prog 188 = true := by kernel_rfl
theorem pb : bT Tryz.prog 175 = true := by kernel_rfl
theorem mJ : bT Tryz.prog 153 = true := by kernel_rfl
theorem vw : bT Tryz.prog 141 = true := by kernel_rfl
theorem wr : bT Tryz.prog 101 = true := by kernel_rfl
theorem wY : bT Tryz.prog 100 = true := by kernel_rfl
theorem lT : bT Tryz.prog 114 = true := by kernel_rfl
theorem oV : bT Tryz.prog 168 = true := by kernel_rfl
theorem vY : bT Tryz.prog 134 = true := by kernel_rfl
theorem yd : bT Tryz.prog 89 = true := by kernel_rfl
theorem wO : bT Tryz.prog 152 = true := by kernel_rfl
theorem wX : bT Tryz.prog 115 = true := by kernel_rfl
theorem nl : bT Tryz.prog 69 = true := by kernel_rfl
theorem wN : bT Tryz.prog 135 = true := by kernel_rfl
theorem wJ : bT Tryz.prog 136 = true := by kernel_rfl
theorem yI : bT Tryz.prog 41 = true := by kernel_rfl
theorem xa : jd Tryz.prog 119 = some [Value.nilFunc] := by kernel_rfl
theorem wW : dM Tryz.prog 119 = some 1 := by kernel_rfl
theorem yo : bT Tryz.prog 42 = true := by kernel_rfl
theorem yS : bT Tryz.prog 43 = true := by kernel_rfl
theorem sC : bT Tryz.prog 12 = true := by kernel_rfl
theorem lj : eD Tryz.prog 151 3 = some (3, 87) := by kernel_rfl
theorem na : kJ Tryz.prog 151 = some true := by kernel_rfl
theorem zc : kJ Tryz.prog 119 = some false := by kernel_rfl
theorem zd : bT Tryz.prog 90 = true := by kernel_rfl
theorem xd : bT Tryz.prog 103 = true := by kernel_rfl
theorem yf : bT Tryz.prog 61 = true := by kernel_rfl
theorem ma : eD Tryz.prog 151 0 = some (0, 2) := by kernel_rfl
theorem sY : bT Tryz.prog 46 = true := by kernel_rfl
theorem yA : bT Tryz.prog 14 = true := by kernel_rfl
theorem xU : bT Tryz.prog 15 = true := by kernel_rfl
theorem oQ : jW Tryz.prog 35 = some 48 := by kernel_rfl
theorem zf : bT Tryz.prog 45 = true := by kernel_rfl
theorem oy : eD Tryz.prog 151 1 = some (1, 2) := by kernel_rfl
theorem oE : eD Tryz.prog 151 2 = some (2, 2) := by kernel_rfl
theorem sQ : bT Tryz.prog 47 = true := by kernel_rfl
theorem vm : kJ Tryz.prog 85 = some true := by kernel_rfl
theorem wM : Tryz.prog.eqGuardType Tryz.prog.depth 87 = false := by kernel_rfl
theorem yh {x y : Operand} (x0 : Int) (x1 : List UInt8) (x2 : List UInt8) (x3 : List UInt8) (x4 : List UInt8) (x5 : Int) (y0 : Int) (y1 : List UInt8) (y2 : List UInt8) (y3 : List UInt8) (y4 : List UInt8) (y5 : Int) (w : World) : (do eqGuard .neq 87 x y (.agg #[(Value.int .i64 x0), (cY x1), (cY x2), (cY x3), (cY x4), (Value.int .i64 x5)]) (.agg #[(Value.int .i64 y0), (cY y1), (cY y2), (cY y3), (cY y4), (Value.int .i64 y5)]); binOp .neq 87 (.agg #[(Value.int .i64 x0), (cY x1), (cY x2), (cY x3), (cY x4), (Value.int .i64 x5)]) (.agg #[(Value.int .i64 y0), (cY y1), (cY y2), (cY y3), (cY y4), (Value.int .i64 y5)])).run Tryz.prog w = .ok (.bool (!(((x0 == y0) && (((x1 == y1) && ((x2 == y2) && ((x3 == y3) && ((x4 == y4) && true)))) && true)) && ((x5 == y5) && true)))) w :=
  yH wM (pZ Tryz.underlying87 (by kernel_rfl) (nj rfl (pI vm eG) (pI vm eG) (pZ Tryz.underlying85 (by kernel_rfl) (nj rfl (hQ bl rfl) (hQ bl rfl) (tH Tryz.underlying2 _ _) (nj rfl (pI rh lf) (pI rh lf) (Bd lq mg (hQ kL rfl) (hQ kL rfl) (hQ kL rfl) (hQ kL rfl) (hQ kL rfl) (hQ kL rfl) (hQ kL rfl) (hQ kL rfl) (tZ Tryz.underlying9 _ _) (tZ Tryz.underlying9 _ _) (tZ Tryz.underlying9 _ _) (tZ Tryz.underlying9 _ _)) ue))) (nj rfl (hQ bl rfl) (hQ bl rfl) (tH Tryz.underlying2 _ _) ue))) w
theorem sD : bT Tryz.prog 50 = true := by kernel_rfl
theorem zg : bT Tryz.prog 44 = true := by kernel_rfl
theorem qf : bT Tryz.prog 52 = true := by kernel_rfl
theorem yi : bT Tryz.prog 92 = true := by kernel_rfl
theorem yB : bT Tryz.prog 49 = true := by kernel_rfl
theorem yD : bT Tryz.prog 48 = true := by kernel_rfl
theorem pa : jd Tryz.prog 239 = some [(Value.slice none 0 0)] := by kernel_rfl
theorem pr : kb Tryz.prog 239 = some [(0, 1)] := by kernel_rfl
theorem gV : eD Tryz.prog 239 0 = some (0, 163) := by kernel_rfl
theorem gN : dM Tryz.prog 163 = some 1 := by kernel_rfl
theorem mD : kJ Tryz.prog 163 = some false := by kernel_rfl
theorem bW : fX Tryz.prog 163 = some 5 := by kernel_rfl
theorem dr : dM Tryz.prog 5 = some 1 := by kernel_rfl
theorem dQ : jd Tryz.prog 5 = some [(Value.int .u8 0)] := by kernel_rfl
theorem fa : jW Tryz.prog 5 = some 1 := by kernel_rfl
theorem kM : bT Tryz.prog 169 = true := by kernel_rfl
theorem qr : fX Tryz.prog 266 = some 9 := by kernel_rfl
theorem th : vW Tryz.prog 5 = some (.int .u8 0) := by kernel_rfl
theorem wC : bT Tryz.prog 200 = true := by kernel_rfl
theorem wx : bT Tryz.prog 201 = true := by kernel_rfl
theorem rd : bT Tryz.prog 203 = true := by kernel_rfl
theorem oS : bT Tryz.prog 172 = true := by kernel_rfl
theorem vB : bT Tryz.prog 170 = true := by kernel_rfl
theorem wm : jd Tryz.prog 255 = some [(Value.int .u32 0)] := by kernel_rfl
theorem oW : dM Tryz.prog 255 = some 1 := by kernel_rfl
theorem xr : kJ Tryz.prog 5 = some false := by kernel_rfl
theorem ou : kJ Tryz.prog 255 = some false := by kernel_rfl
theorem vO : bT Tryz.prog 227 = true := by kernel_rfl
theorem wS : bT Tryz.prog 225 = true := by kernel_rfl
theorem wl : bT Tryz.prog 217 = true := by kernel_rfl
theorem wP : bT Tryz.prog 202 = true := by kernel_rfl
theorem xj : bT Tryz.prog 171 = true := by kernel_rfl
theorem wu : bT Tryz.prog 137 = true := by kernel_rfl
theorem yk : bT Tryz.prog 94 = true := by kernel_rfl
theorem yb : bT Tryz.prog 53 = true := by kernel_rfl
theorem kv : bT Tryz.prog 204 = true := by kernel_rfl
theorem vN : bT Tryz.prog 220 = true := by kernel_rfl
theorem wa : bT Tryz.prog 221 = true := by kernel_rfl
theorem xb : bT Tryz.prog 206 = true := by kernel_rfl
theorem wy : bT Tryz.prog 174 = true := by kernel_rfl
theorem vT : bT Tryz.prog 228 = true := by kernel_rfl
theorem wD : bT Tryz.prog 226 = true := by kernel_rfl
theorem wV : bT Tryz.prog 219 = true := by kernel_rfl
theorem vX : bT Tryz.prog 218 = true := by kernel_rfl
theorem wH : bT Tryz.prog 205 = true := by kernel_rfl
theorem wt : bT Tryz.prog 173 = true := by kernel_rfl
theorem wQ : bT Tryz.prog 138 = true := by kernel_rfl
theorem yG : bT Tryz.prog 95 = true := by kernel_rfl
theorem yJ : bT Tryz.prog 54 = true := by kernel_rfl
theorem tq : bT Tryz.prog 13 = true := by kernel_rfl
theorem gm.spec (K : Nat) (sv0 : Value) (A0 : HP) (l0 : List aC) (hA0 : da A0 sv0 l0.length 6 (fl aD l0)) (r : Bool) (H : gm K l0 = some r) : bo Tryz.prog 76 [sv0] [A0] (fun v M => v = (bool r) ∧ M = [A0]) := by
 unfold gm at H
 refine bp Tryz.func76 rfl 28 rfl (nL rfl) fun F w0 => ?_
 show cD (St 28 w0 F [(0,sv0)] [A0]) _
 refine ag (ae (vA rfl rfl (ai (ag (ag (ae (vM rfl rfl (vV (cp 0 rfl bA rfl hA0) rfl (vV (aG rfl rfl (jY _ _ _)) rfl (ai ?_))))))))))
 refine ii H (fun c304 H => ?_) fun c304 H => ?_
 ·refine aB rfl (dT c304) (ag (ae (vA rfl rfl (ai (aI ?_)))))
  cases H
  refine vP [0] rfl rfl ?_
  exact aV rfl rfl ⟨rfl,rfl⟩
 refine aA rfl (dF c304) (aX (ag (ag (ae (vA rfl rfl (ai (be ?_)))))))
 refine cf (fun k a w => ∃ i26,fw K l0 k i26 = some r ∧ St 28 w0 F [(0,sv0),(3,I i26)] [A0] a w) K ?_ ?_
 ·exact vF [0] rfl rfl (vS [0,3] rfl) fun a w h => ⟨_,H,h⟩
 ·refine fun k => aU fun i26 => co fun H48 => ?_
  cases k with
  | zero => exact absurd H48 (by simp [fw])
  | succ k =>
   rw [fw] at H48
   refine ag (ag (ae (vM rfl rfl (vM rfl rfl (vV (cp 0 rfl bA rfl hA0) rfl (vV (aG rfl rfl (cN _ _ _)) rfl (ai ?_)))))))
   refine gQ H48 (fun c552 H48 => ?_) fun c552 H48 => ?_
   ·refine aA rfl (dF c552) (bR (ag (ae (vA rfl rfl (ai (aI ?_))))))
    cases H48
    refine vP [0] rfl rfl ?_
    exact aV rfl rfl ⟨rfl,rfl⟩
   refine aB rfl (dT c552) (aX ?_)
   obtain ⟨x12,H50,H48⟩ := oB H48
   refine cg (fun a w => ∃ v12,x12 = Sum.inl v12 ∧ St 28 w0 F [(0,sv0),(3,I i26)] [A0] a w) ?_ ?_
   ·refine be (ag (ae (vA rfl rfl (ai (be ?_)))))
    refine cf (fun k a w => ∃ i30,fi K l0 i26 k i30 = some x12 ∧ St 28 w0 F [(0,sv0),(3,I i26),(4,I i30)] [A0] a w) K ?_ ?_
    ·exact vF [0] rfl rfl (vS [0,3,4] rfl) fun a w h => ⟨_,H50,h⟩
    ·refine fun k => aU fun i30 => co fun H51 => ?_
     cases k with
     | zero => exact absurd H51 (by simp [fi])
     | succ k =>
      rw [fi] at H51
      refine ag (ag (ae (vM rfl rfl (vV (aG rfl rfl (cN _ _ _)) rfl (ai ?_)))))
      refine gQ H51 (fun c596 H51 => ?_) fun c596 H51 => ?_
      ·refine aA rfl (dF c596) (bR ?_)
       cases H51
       exact vF [0] rfl rfl (vS [0,3] rfl) fun a w h => ⟨_,rfl,h⟩
      refine aB rfl (dT c596) (aX (ag (be (ag (ae (vM rfl rfl (vM rfl rfl (vM rfl rfl ?_))))))))
      obtain ⟨c601,H51⟩ := gv H51
      refine vV (bf (sz := 5) 0 rfl rfl bA bK rfl hA0 c601 c552) rfl (vV (bq (sz := 4) (k0 := i26.toNat * 6) (off := 0) 0 rfl di eG rfl hA0 (gI bJ (bB c601 c552))) rfl (vV (bq (sz := 3) (k0 := i26.toNat * 6 + 0) (off := 1) 0 rfl la lf rfl hA0 (gI bJ (bB c601 c552))) rfl ?_))
      obtain ⟨c602,H51⟩ := gv H51
      obtain ⟨c603,H51⟩ := gv H51
      refine vV (pP 0 rfl rfl lq mg rfl hA0 (gI bJ (bB c601 c552)) c602 c603) rfl ?_
      refine vV (aP (v := (cY ([((l0.getD i26.toNat ab).Key).Dims_0,((l0.getD i26.toNat ab).Key).Dims_1,((l0.getD i26.toNat ab).Key).Dims_2,((l0.getD i26.toNat ab).Key).Dims_3].getD i30.toNat []))) rfl kL (bH (i := 0) rfl hA0 (by simp) (uG bJ (bB c601 c552) (we (enc := eS) (z := []) (ys := [((l0.getD i26.toNat ab).Key).Dims_0,((l0.getD i26.toNat ab).Key).Dims_1,((l0.getD i26.toNat ab).Key).Dims_2,((l0.getD i26.toNat ab).Key).Dims_3]) nP rfl (bB c602 c603))))) rfl ?_
      refine vV (pO rfl Tryz.underlying9) rfl (vV (aG rfl rfl (jY _ _ _)) rfl (ai ?_))
      refine ii H51 (fun c604 H51 => ?_) fun c604 H51 => ?_
      ·refine aB rfl (dT c604) (ag (ae (vA rfl rfl (ai (aI ?_)))))
       cases H51
       have H52 := Option.some.inj (show some _ = some _ from H48)
       cases H52
       refine vP [0] rfl rfl ?_
       exact aV rfl rfl ⟨rfl,rfl⟩
      refine aA rfl (dF c604) (aX (ae (vM rfl rfl (vV (aG rfl rfl (cj _ _ _) ) rfl (vA rfl rfl (ai ?_))))))
      exact vF [0] rfl rfl (vS [0,3,4] rfl) fun a w h => ⟨k,Nat.lt_succ_self k,_,H51,h⟩
   ·refine aU fun v12 => co fun e_ => ?_
    subst e_
    rw [om] at H48
    refine ae (vM rfl rfl (vV (aG rfl rfl (cj _ _ _) ) rfl (vA rfl rfl (ai ?_))))
    exact vF [0] rfl rfl (vS [0,3] rfl) fun a w h => ⟨k,Nat.lt_succ_self k,_,H48,h⟩
theorem fB.spec (K : Nat) (sv0 : Value) (A0 B0 : HP) (l0 : List cF) (hA0 : da A0 sv0 l0.length 4 (fl jt l0)) (hJ0 : ∀ x ∈ l0,da B0 x.Facts.v x.Facts.xs.length 6 (fl aD x.Facts.xs)) (r : Bool) (H : fB K l0 = some r) : bo Tryz.prog 31 [sv0] [A0,B0] (fun v M => v = (bool r) ∧ M = [A0,B0]) := by
 unfold fB at H
 refine bp Tryz.func31 rfl 20 rfl (nL rfl) fun F w0 => ?_
 show cD (St 20 w0 F [(0,sv0)] [A0,B0]) _
 refine ag (ae (vA rfl rfl (ai (ag (ag (ae (vM rfl rfl (vV (cp 0 rfl ct rfl hA0) rfl (vV (aG rfl rfl (jY _ _ _)) rfl (ai ?_))))))))))
 refine ii H (fun c36 H => ?_) fun c36 H => ?_
 ·refine aB rfl (dT c36) (ag (ae (vA rfl rfl (ai (aI ?_)))))
  cases H
  refine vP [0,1] rfl rfl ?_
  exact aV rfl rfl ⟨rfl,rfl⟩
 refine aA rfl (dF c36) (aX (ag (ag (ae (vA rfl rfl (ai (be ?_)))))))
 refine cf (fun k a w => ∃ i4,eu K l0 k i4 = some r ∧ St 20 w0 F [(0,sv0),(3,I i4)] [A0,B0] a w) K ?_ ?_
 ·exact vF [0,1] rfl rfl (vS [0,3] rfl) fun a w h => ⟨_,H,h⟩
 ·refine fun k => aU fun i4 => co fun H4 => ?_
  cases k with
  | zero => exact absurd H4 (by simp [eu])
  | succ k =>
   rw [eu] at H4
   refine ag (ag (ae (vM rfl rfl (vM rfl rfl (vV (cp 0 rfl ct rfl hA0) rfl (vV (aG rfl rfl (cN _ _ _)) rfl (ai ?_)))))))
   refine gQ H4 (fun c64 H4 => ?_) fun c64 H4 => ?_
   ·refine aA rfl (dF c64) (bR (ag (ae (vA rfl rfl (ai (aI ?_))))))
    cases H4
    refine vP [0,1] rfl rfl ?_
    exact aV rfl rfl ⟨rfl,rfl⟩
   refine aB rfl (dT c64) (aX (ag (be (ag (ae (vM rfl rfl (vM rfl rfl ?_)))))))
   obtain ⟨c67,H4⟩ := gv H4
   refine vV (bf (sz := 3) 0 rfl rfl ct cB rfl hA0 c67 c64) rfl (vV (bq (sz := 0) (k0 := i4.toNat * 4) (off := 3) 0 rfl iC cK rfl hA0 (gI kS (bB c67 c64))) rfl ?_)
   refine vV (aP (v := ((l0.getD i4.toNat gr).Facts).v) rfl fA (bH (i := 0) rfl hA0 (by simp) (jc (off := 3) kS (bB c67 c64) rfl))) rfl ?_
   obtain ⟨x24,h24,H4⟩ := oB H4
   refine aQ (bC (Lr := [A0]) [1,0] [1,0] (first := []) (cap := []) (xs := [.tmp 17]) rfl rfl yL rfl (gm.spec K (((l0.getD i4.toNat gr).Facts).v) B0 (((l0.getD i4.toNat gr).Facts).xs) (hJ0 _ (lV gr (bB c67 c64))) _ h24) (by decide) rfl (by decide) rfl) rfl rfl rfl ?_
   rintro _ _ ⟨rfl,rfl⟩
   refine vV (iU rfl (jv _)) rfl (ai ?_)
   refine ii H4 (fun c68 H4 => ?_) fun c68 H4 => ?_
   ·refine aB rfl c68 (ag (ae (vA rfl rfl (ai (aI ?_)))))
    cases H4
    refine vP [0,1] rfl rfl ?_
    exact aV rfl rfl ⟨rfl,rfl⟩
   refine aA rfl (bF c68) (aX (ae (vM rfl rfl (vV (aG rfl rfl (cj _ _ _) ) rfl (vA rfl rfl (ai ?_))))))
   exact vF [0,1] rfl rfl (vS [0,3] rfl) fun a w h => ⟨k,Nat.lt_succ_self k,_,H4,h⟩
theorem eT.spec (K : Nat) (sv0 : Value) (A0 : HP) (l0 : List dv) (hA0 : da A0 sv0 l0.length 8 (fl ia l0)) (hJ0 : ∀ x ∈ l0,da A0 x.B.Facts.v x.B.Facts.xs.length 6 (fl aD x.B.Facts.xs) ∧ da A0 x.Put.v x.Put.xs.length 6 (fl ba x.Put.xs)) (r : Bool) (H : eT K l0 = some r) : bo Tryz.prog 8 [sv0] [A0] (fun v M => v = (bool r) ∧ M = [A0]) := by
 unfold eT at H
 refine bp Tryz.func8 rfl 30 rfl (nL rfl) fun F w0 => ?_
 show cD (St 30 w0 F [(0,sv0)] [A0]) _
 refine ag (ae (vA rfl rfl (ai (ag (ag (ae (vM rfl rfl (vV (cp 0 rfl kU rfl hA0) rfl (vV (aG rfl rfl (jY _ _ _)) rfl (ai ?_))))))))))
 refine ii H (fun c48 H => ?_) fun c48 H => ?_
 ·refine aB rfl (dT c48) (ag (ae (vA rfl rfl (ai (aI ?_)))))
  cases H
  refine vP [0] rfl rfl ?_
  exact aV rfl rfl ⟨rfl,rfl⟩
 refine aA rfl (dF c48) (aX (ag (ag (ae (vA rfl rfl (ai (be ?_)))))))
 refine cf (fun k a w => ∃ i4,fv K l0 k i4 = some r ∧ St 30 w0 F [(0,sv0),(3,I i4)] [A0] a w) K ?_ ?_
 ·exact vF [0] rfl rfl (vS [0,3] rfl) fun a w h => ⟨_,H,h⟩
 ·refine fun k => aU fun i4 => co fun H4 => ?_
  cases k with
  | zero => exact absurd H4 (by simp [fv])
  | succ k =>
   rw [fv] at H4
   refine ag (ag (ae (vM rfl rfl (vM rfl rfl (vV (cp 0 rfl kU rfl hA0) rfl (vV (aG rfl rfl (cN _ _ _)) rfl (ai ?_)))))))
   refine gQ H4 (fun c86 H4 => ?_) fun c86 H4 => ?_
   ·refine aA rfl (dF c86) (bR (ag (ae (vA rfl rfl (ai (aI ?_))))))
    cases H4
    refine vP [0] rfl rfl ?_
    exact aV rfl rfl ⟨rfl,rfl⟩
   refine aB rfl (dT c86) (aX (ag (be (ag (ae (vM rfl rfl (vM rfl rfl ?_)))))))
   obtain ⟨c90,H4⟩ := gv H4
   refine vV (bf (sz := 7) 0 rfl rfl kU mB rfl hA0 c90 c86) rfl (vV (bq (sz := 3) (k0 := i4.toNat * 8) (off := 1) 0 rfl nG cB rfl hA0 (gI fU (bB c90 c86))) rfl ?_)
   refine vV (bi (vs := [I (((l0.getD i4.toNat aN).B).Seq),I (((l0.getD i4.toNat aN).B).Tick),I (((l0.getD i4.toNat aN).B).Budget),(((l0.getD i4.toNat aN).B).Facts).v]) rfl mO cB (bH (i := 0) rfl hA0 (by simp) (jc (off := 1) fU (bB c90 c86) rfl))) rfl ?_
   refine aQ (bI (sz := 3) (xs := [.tmp 17]) (cs := fl jt [(⟨((l0.getD i4.toNat aN).B).Seq,((l0.getD i4.toNat aN).B).Tick,((l0.getD i4.toNat aN).B).Budget,(((l0.getD i4.toNat aN).B).Facts)⟩ : cF)]) rfl rfl ct cB kg rfl rfl (cM rfl) rfl (by decide)) rfl rfl rfl ?_
   rintro sv24 _ rfl
   obtain ⟨x24,h24,H4⟩ := oB H4
   refine aQ (bC (Lr := []) [0,1] [0,1] (first := []) (cap := []) (xs := [.tmp 18]) rfl rfl yF rfl (fB.spec K sv24 (own sv24 35 4 [(⟨((l0.getD i4.toNat aN).B).Seq,((l0.getD i4.toNat aN).B).Tick,((l0.getD i4.toNat aN).B).Budget,(((l0.getD i4.toNat aN).B).Facts)⟩ : cF)].length (fl jt [(⟨((l0.getD i4.toNat aN).B).Seq,((l0.getD i4.toNat aN).B).Tick,((l0.getD i4.toNat aN).B).Budget,(((l0.getD i4.toNat aN).B).Facts)⟩ : cF)])) A0 [(⟨((l0.getD i4.toNat aN).B).Seq,((l0.getD i4.toNat aN).B).Tick,((l0.getD i4.toNat aN).B).Budget,(((l0.getD i4.toNat aN).B).Facts)⟩ : cF)] (aS 35) (zN (hJ0 _ (lV aN (bB c90 c86))).1 AW) _ h24) (by decide) rfl (by decide) rfl) rfl rfl rfl ?_
   rintro _ _ ⟨rfl,rfl⟩
   refine vV (iU rfl (jv _)) rfl (vM rfl rfl ?_)
   refine ii H4 (fun c91 H4 => ?_) fun c91 H4 => ?_
   ·refine av rfl rfl rfl c91 rfl rfl ?_
    refine av rfl rfl rfl c91 rfl rfl ?_
    refine av rfl rfl rfl c91 rfl rfl ?_
    refine av rfl rfl rfl c91 rfl rfl ?_
    refine av rfl rfl rfl c91 rfl rfl ?_
    refine av rfl rfl rfl c91 rfl rfl ?_
    refine av rfl rfl rfl c91 rfl rfl ?_
    refine vV (aO rfl rfl rfl (cc c91)) rfl (ai (aB rfl rfl (ag (ae (vA rfl rfl (ai (aI ?_)))))))
    cases H4
    refine vP [1] rfl rfl ?_
    exact aV rfl rfl ⟨rfl,rfl⟩
   refine aq (aM rfl) rfl rfl rfl (bF c91) rfl rfl ?_
   refine aq (aM rfl) rfl rfl rfl (bF c91) rfl rfl ?_
   refine aq (bf (sz := 7) 1 rfl rfl kU mB rfl hA0 c90 c86) rfl rfl rfl (bF c91) rfl rfl ?_
   refine aq (bq (sz := 0) (k0 := i4.toNat * 8) (off := 7) 1 rfl nA lD rfl hA0 (gI fU (bB c90 c86))) rfl rfl rfl (bF c91) rfl rfl ?_
   refine aq (aP (v := ((l0.getD i4.toNat aN).Put).v) rfl lO (bH (i := 1) rfl hA0 (by simp) (jc (off := 7) fU (bB c90 c86) rfl))) rfl rfl rfl (bF c91) rfl rfl ?_
   refine aq (cp 1 rfl ef rfl (hJ0 _ (lV aN (bB c90 c86))).2) rfl rfl rfl (bF c91) rfl rfl ?_
   refine aq (aG rfl rfl (jY _ _ _)) rfl rfl rfl (bF c91) rfl rfl ?_
   refine vV (aO rfl rfl rfl (bZ (bF c91))) rfl (ai ?_)
   refine ii H4 (fun c92 H4 => ?_) fun c92 H4 => ?_
   ·refine aB rfl (dT c92) (ag (ae (vA rfl rfl (ai (aI ?_)))))
    cases H4
    refine vP [1] rfl rfl ?_
    exact aV rfl rfl ⟨rfl,rfl⟩
   refine aA rfl (dF c92) (aX (ae (vM rfl rfl (vV (aG rfl rfl (cj _ _ _) ) rfl (vA rfl rfl (ai ?_))))))
   exact vF [1] rfl rfl (vS [0,3] rfl) fun a w h => ⟨k,Nat.lt_succ_self k,_,H4,h⟩
theorem pD.spec (r : (Int × Int × Int)) (H : pD = r) : bo Tryz.prog 10 [I 1] [] (fun v M => ∃ b2 : Nat,v = (tU #[pt b2 0,I r.2.2]) ∧ M = [box b2 93 [I r.1,L0,I r.2.1]]) := by
 unfold pD at H
 refine bp Tryz.func10 rfl 13 rfl (nL rfl) fun F w0 => ?_
 show cD (St 13 w0 F [(0,I 1)] []) _
 refine ag (ae (vA rfl rfl (vA rfl rfl (ai (ag (ag (ae (vM rfl rfl (vV (aG rfl rfl (cN _ _ _)) rfl (vM rfl rfl ?_))))))))))
 refine aq (aM rfl) rfl rfl rfl rfl rfl rfl ?_
 refine aq (aG rfl rfl (jY _ _ _)) rfl rfl rfl rfl rfl rfl ?_
 refine vV (aO rfl rfl rfl rfl) rfl (ai (aA rfl rfl (aX (ag (ae (vM rfl rfl (vV (ey (is := [0]) (xs := [.tmp 10]) (vs := [I 1]) rfl rfl (cz (cs := [I 1,L0,I 0]) ql nY rfl)) rfl ?_)))))))
 refine aQ (dy (cs := [I 1,L0,I 0]) rfl rfl) rfl rfl rfl ?_
 rintro _ _ ⟨b3,rfl,rfl⟩
 refine vA rfl rfl (vA rfl rfl (ai (aI ?_)))
 cases H
 refine vP [0] rfl rfl ?_
 exact cO (vs := [pt b3 0,I 0]) rfl ⟨rfl,⟨rfl,trivial⟩⟩ _ rfl ⟨_,rfl,rfl⟩
theorem jC.spec (sv0 : Value) (a0_0 a0_1 a0_2 : Int) (l0 : List aC) (r : (Int × Int × Int)) (H : jC a0_0 a0_1 a0_2 l0 = r) : bo Tryz.prog 33 [agg #[I a0_0,I a0_1,I a0_2,sv0]] [own sv0 87 6 l0.length (fl aD l0)] (fun v M => v = (agg #[I r.1,I r.2.1,I r.2.2,sv0]) ∧ M = [own sv0 87 6 l0.length (fl aD l0)]) := by
 unfold jC at H
 refine bp Tryz.func33 rfl 12 rfl (nL rfl) fun F w0 => ?_
 show cD (St 12 w0 F [(0,agg #[I a0_0,I a0_1,I a0_2,sv0])] [own sv0 87 6 l0.length (fl aD l0)]) _
 refine ag (ae ?_)
 refine aQ (dy (cs := [I a0_0,I a0_1,I a0_2,sv0]) rfl rfl) rfl rfl rfl ?_
 rintro _ _ ⟨b3,rfl,rfl⟩
 refine aQ (dY gy) rfl rfl rfl ?_
 rintro _ _ ⟨b4,rfl,rfl⟩
 refine ai (ag (ae (vV (az (sz := 0) (o := 0) rfl fe bd) rfl (vV (aP (v := (I a0_0)) rfl bl (aJ (i := 1) rfl rfl)) rfl (vV (az (sz := 0) (o := 0) rfl iD bd) rfl (vV (aP (v := (I a0_1)) rfl bl (aJ (i := 1) rfl rfl)) rfl (vV (az (sz := 0) (o := 0) rfl jr bd) rfl (vV (aP (v := (I a0_2)) rfl bl (aJ (i := 1) rfl rfl)) rfl (vV (az (sz := 0) (o := 0) rfl iC cK) rfl (vV (aP (v := sv0) rfl fA (aJ (i := 1) rfl rfl)) rfl ?_))))))))))
 refine vV (ru 2 rfl (aS 87) fun hc0_ => (ey (is := [0,1,2,3]) (xs := [.tmp 4,.tmp 6,.tmp 8,.tmp 10]) (vs := [I a0_0,I a0_1,I a0_2,sv0]) rfl rfl (cz (cs := [I a0_0,I a0_1,I a0_2,sv0]) gy qC (by simp [Instr.fill,jH,jk,jL,jh,iL,jK,gw,jI,hc0_])))) rfl ?_
 refine cl (cn (cs := [I 0,I 0,I 0,L0]) (cs' := [I a0_0,I a0_1,I a0_2,sv0]) (us := [I a0_0,I a0_1,I a0_2,sv0]) (L' := [box b4 81 [I a0_0,I a0_1,I a0_2,sv0],box b3 35 [I a0_0,I a0_1,I a0_2,sv0],own sv0 87 6 l0.length (fl aD l0)]) 0 rfl rfl rfl (gT rfl (gT rfl (gT rfl (oK 2 rfl (aS 87) nF)))) cC rfl rfl (by simp) rfl) rfl rfl ?_
 rintro _ _ rfl
 refine ai (aI ?_)
 subst H
 exact iZ [2] (by decide) rfl (vs := [agg #[I a0_0,I a0_1,I a0_2,sv0]]) rfl ⟨⟨_,[I a0_0,I a0_1,I a0_2,sv0],rfl,bD (i := 0) rfl,.inl ⟨jn,cC,rfl⟩⟩,trivial⟩ _ rfl ⟨rfl,rfl⟩
theorem lc.spec (a0 : Int) (r : Bool) (H : lc a0 = r) : bo Tryz.prog 158 [I a0] [] (fun v M => v = (bool r) ∧ M = []) := by
 unfold lc at H
 refine bp Tryz.func158 rfl 9 rfl (nL rfl) fun F w0 => ?_
 show cD (St 9 w0 F [(0,I a0)] []) _
 refine ag (ae (vA rfl rfl (ai (ag (ae (vM rfl rfl (vV (aG rfl rfl (jZ _ _ _)) rfl (vM rfl rfl ?_))))))))
 refine gQ H (fun c2 H => ?_) fun c2 H => ?_
 ·refine av rfl rfl rfl (dF c2) rfl rfl ?_
  refine av rfl rfl rfl (dF c2) rfl rfl ?_
  refine vV (aO rfl rfl rfl (bZ (dF c2))) rfl (vA rfl rfl (ai (aI ?_)))
  cases H
  refine vP [] rfl rfl ?_
  exact aV rfl rfl ⟨rfl,rfl⟩
 refine aq (aM rfl) rfl rfl rfl (dT c2) rfl rfl ?_
 refine aq (aG rfl rfl (nK _ _ _)) rfl rfl rfl (dT c2) rfl rfl ?_
 refine vV (aO rfl rfl rfl (cc (dT c2))) rfl (vA rfl rfl (ai (aI ?_)))
 cases H
 refine vP [] rfl rfl ?_
 exact aV rfl rfl ⟨rfl,rfl⟩
theorem ll.spec (K : Nat) (a0_0 : Int) (a0_1 : List UInt8) (a0_2 : List UInt8) (a0_3 : List UInt8) (a0_4 : List UInt8) (a0_5 a1 r : Int) (H : ll K a0_0 a0_1 a0_2 a0_3 a0_4 a0_5 a1 = some r) : bo Tryz.prog 159 [agg #[I a0_0,cY a0_1,cY a0_2,cY a0_3,cY a0_4,I a0_5],I a1] [] (fun v M => v = (I r) ∧ M = []) := by
 unfold ll at H
 refine bp Tryz.func159 rfl 52 rfl (nL rfl) fun F w0 => ?_
 show cD (St 52 w0 F [(0,agg #[I a0_0,cY a0_1,cY a0_2,cY a0_3,cY a0_4,I a0_5]),(1,I a1)] []) _
 refine ag (ae ?_)
 refine aQ (dy (cs := [I a0_0,cY a0_1,cY a0_2,cY a0_3,cY a0_4,I a0_5]) rfl rfl) rfl rfl rfl ?_
 rintro _ _ ⟨b2,rfl,rfl⟩
 refine vA rfl rfl (ai (ag (be (ag (ae (vM rfl rfl ?_))))))
 obtain ⟨x4,h4,H⟩ := bS H
 refine aQ (bV (first := []) (cap := []) (xs := [.tmp 8]) rfl rfl rS rfl (lc.spec a1 _ h4)) rfl rfl rfl ?_
 rintro _ _ ⟨rfl,rfl⟩
 refine vV (iU rfl (jv _)) rfl (vA rfl rfl (ai ?_))
 refine ii H (fun c80 H => ?_) fun c80 H => ?_
 ·refine aB rfl c80 (ag (ae (vA rfl rfl (ai (aI ?_)))))
  cases H
  refine vP [] rfl rfl ?_
  exact aV rfl rfl ⟨rfl,rfl⟩
 refine aA rfl (bF c80) (ag (ae (vV (az (sz := 4) (o := 0) rfl di eG) rfl (vV (az (sz := 0) (o := 0) rfl eN bd) rfl (vV (aP (v := (I a0_0)) rfl bl (aJ (i := 0) rfl rfl)) rfl (vV (aG rfl rfl (cN _ _ _)) rfl (vM rfl rfl ?_)))))))
 refine ii H (fun c81 H => ?_) fun c81 H => ?_
 ·refine av rfl rfl rfl (dT c81) rfl rfl ?_
  refine av rfl rfl rfl (dT c81) rfl rfl ?_
  refine av rfl rfl rfl (dT c81) rfl rfl ?_
  refine av rfl rfl rfl (dT c81) rfl rfl ?_
  refine vV (aO rfl rfl rfl (cc (dT c81))) rfl (vM rfl rfl ?_)
  refine av rfl rfl rfl rfl rfl rfl ?_
  refine av rfl rfl rfl rfl rfl rfl ?_
  refine av rfl rfl rfl rfl rfl rfl ?_
  refine vV (aO rfl rfl rfl rfl) rfl (vM rfl rfl ?_)
  refine av rfl rfl rfl rfl rfl rfl ?_
  refine av rfl rfl rfl rfl rfl rfl ?_
  refine av rfl rfl rfl rfl rfl rfl ?_
  refine vV (aO rfl rfl rfl rfl) rfl (vA rfl rfl (ai (aB rfl rfl (ag (ae (vA rfl rfl (ai (aI ?_))))))))
  cases H
  refine vP [] rfl rfl ?_
  exact aV rfl rfl ⟨rfl,rfl⟩
 refine aq (az (sz := 4) (o := 0) rfl di eG) rfl rfl rfl (dF c81) rfl rfl ?_
 refine aq (az (sz := 0) (o := 0) rfl eN bd) rfl rfl rfl (dF c81) rfl rfl ?_
 refine aq (aP (v := (I a0_0)) rfl bl (aJ (i := 0) rfl rfl)) rfl rfl rfl (dF c81) rfl rfl ?_
 refine aq (aG rfl rfl (jY _ _ _)) rfl rfl rfl (dF c81) rfl rfl ?_
 refine vV (aO rfl rfl rfl (bZ (dF c81))) rfl (vM rfl rfl ?_)
 refine ii H (fun c82 H => ?_) fun c82 H => ?_
 ·refine av rfl rfl rfl (dT c82) rfl rfl ?_
  refine av rfl rfl rfl (dT c82) rfl rfl ?_
  refine av rfl rfl rfl (dT c82) rfl rfl ?_
  refine vV (aO rfl rfl rfl (cc (dT c82))) rfl (vM rfl rfl ?_)
  refine av rfl rfl rfl rfl rfl rfl ?_
  refine av rfl rfl rfl rfl rfl rfl ?_
  refine av rfl rfl rfl rfl rfl rfl ?_
  refine vV (aO rfl rfl rfl rfl) rfl (vA rfl rfl (ai (aB rfl rfl (ag (ae (vA rfl rfl (ai (aI ?_))))))))
  cases H
  refine vP [] rfl rfl ?_
  exact aV rfl rfl ⟨rfl,rfl⟩
 refine aq (az (sz := 0) (o := 0) rfl lh bd) rfl rfl rfl (dF c82) rfl rfl ?_
 refine aq (aP (v := (I a0_5)) rfl bl (aJ (i := 0) rfl rfl)) rfl rfl rfl (dF c82) rfl rfl ?_
 refine aq (aG rfl rfl (jY _ _ _)) rfl rfl rfl (dF c82) rfl rfl ?_
 refine vV (aO rfl rfl rfl (bZ (dF c82))) rfl (vM rfl rfl ?_)
 refine ii H (fun c83 H => ?_) fun c83 H => ?_
 ·refine av rfl rfl rfl (dT c83) rfl rfl ?_
  refine av rfl rfl rfl (dT c83) rfl rfl ?_
  refine av rfl rfl rfl (dT c83) rfl rfl ?_
  refine vV (aO rfl rfl rfl (cc (dT c83))) rfl (vA rfl rfl (ai (aB rfl rfl (ag (ae (vA rfl rfl (ai (aI ?_))))))))
  cases H
  refine vP [] rfl rfl ?_
  exact aV rfl rfl ⟨rfl,rfl⟩
 refine aq (az (sz := 0) (o := 0) rfl lh bd) rfl rfl rfl (dF c83) rfl rfl ?_
 refine aq (aP (v := (I a0_5)) rfl bl (aJ (i := 0) rfl rfl)) rfl rfl rfl (dF c83) rfl rfl ?_
 refine aq (aG rfl rfl (cN _ _ _)) rfl rfl rfl (dF c83) rfl rfl ?_
 refine vV (aO rfl rfl rfl (bZ (dF c83))) rfl (vA rfl rfl (ai ?_))
 refine ii H (fun c84 H => ?_) fun c84 H => ?_
 ·refine aB rfl (dT c84) (ag (ae (vA rfl rfl (ai (aI ?_)))))
  cases H
  refine vP [] rfl rfl ?_
  exact aV rfl rfl ⟨rfl,rfl⟩
 refine aA rfl (dF c84) (aX (ag (ag (ae (vV (az (sz := 4) (o := 0) rfl di eG) rfl (vV (az (sz := 3) (o := 0) rfl la lf) rfl (vV (bi (vs := [cY a0_1,cY a0_2,cY a0_3,cY a0_4]) rfl rh lf (jm (i := 0) rfl rfl)) rfl (vM rfl rfl (ai (be ?_))))))))))
 refine cf (fun k a w => ∃ i5,jy K a0_1 a0_2 a0_3 a0_4 a1 k i5 = some r ∧ St 52 w0 F [(1,I a1),(34,agg #[cY a0_1,cY a0_2,cY a0_3,cY a0_4]),(35,I i5)] [] a w) K ?_ ?_
 ·exact vF [] rfl rfl (vS [1,34,35] rfl) fun a w h => ⟨_,H,h⟩
 ·refine fun k => aU fun i5 => co fun H4 => ?_
  cases k with
  | zero => exact absurd H4 (by simp [jy])
  | succ k =>
   rw [jy] at H4
   refine ag (ae (vV (aG rfl rfl (cN _ _ _)) rfl (ai (ag ?_))))
   refine gQ H4 (fun c138 H4 => ?_) fun c138 H4 => ?_
   ·refine aA rfl (dF c138) (bR (ag (ae (vA rfl rfl (ai (aI ?_))))))
    cases H4
    refine vP [] rfl rfl ?_
    exact aV rfl rfl ⟨rfl,rfl⟩
   refine aB rfl (dT c138) (aX (ag (be (ag (ae (vM rfl rfl ?_))))))
   obtain ⟨c144,H4⟩ := gv H4
   obtain ⟨c145,H4⟩ := gv H4
   refine vV (uu rfl rfl lq mg kL c144 c145 (BJ (fun i_ => #[cY a0_1,cY a0_2,cY a0_3,cY a0_4][i_]? = some (cY ([a0_1,a0_2,a0_3,a0_4].getD i_ []))) (bB c144 c145) rfl rfl rfl rfl)) rfl ?_
   refine vA rfl rfl (vA rfl rfl (ai (ag (ae (vM rfl rfl (vV (pO rfl Tryz.underlying9) rfl (vV (aG rfl rfl (jY _ _ _)) rfl (vM rfl rfl ?_))))))))
   refine ii H4 (fun c146 H4 => ?_) fun c146 H4 => ?_
   ·refine av rfl rfl rfl (dT c146) rfl rfl ?_
    refine av rfl rfl rfl (dT c146) rfl rfl ?_
    refine av rfl rfl rfl (dT c146) rfl rfl ?_
    refine av rfl rfl rfl (dT c146) rfl rfl ?_
    refine bQ rfl rfl rfl rfl rfl ?_
    refine bQ rfl rfl rfl rfl rfl ?_
    refine av rfl rfl rfl (dT c146) rfl rfl ?_
    refine vV (aO rfl rfl rfl (cc (dT c146))) rfl (ai (aB rfl rfl (ag (ae (vA rfl rfl (ai (aI ?_)))))))
    cases H4
    refine vP [] rfl rfl ?_
    exact aV rfl rfl ⟨rfl,rfl⟩
   refine aq (aM rfl) rfl rfl rfl (dF c146) rfl rfl ?_
   refine aq (aM rfl) rfl rfl rfl (dF c146) rfl rfl ?_
   refine aq (aG rfl rfl (jZ _ _ _)) rfl rfl rfl (dF c146) rfl rfl ?_
   refine aq (aM rfl) rfl rfl rfl (dF c146) rfl rfl ?_
   refine gQ H4 (fun c147 H4 => ?_) fun c147 H4 => ?_
   ·refine av rfl rfl rfl (dF c147) rfl rfl ?_
    refine av rfl rfl rfl (dF c147) rfl rfl ?_
    refine aq (aO rfl rfl rfl (bZ (dF c147))) rfl rfl rfl (dF c146) rfl rfl ?_
    refine vV (aO rfl rfl rfl (bZ (dF c146))) rfl (ai (aA rfl rfl (aX (ae (vV (aG rfl rfl (cj _ _ _) ) rfl (vM rfl rfl (ai ?_)))))))
    exact vF [] rfl rfl (vS [1,34,35] rfl) fun a w h => ⟨k,Nat.lt_succ_self k,_,H4,h⟩
   refine aq (aM rfl) rfl rfl rfl (dT c147) rfl rfl ?_
   refine aq (aG rfl rfl (ti _ _)) rfl rfl rfl (dT c147) rfl rfl ?_
   refine aq (aO rfl rfl rfl (cc (dT c147))) rfl rfl rfl (dF c146) rfl rfl ?_
   refine vV (aO rfl rfl rfl (bZ (dF c146))) rfl (ai ?_)
   refine ii H4 (fun c148 H4 => ?_) fun c148 H4 => ?_
   ·refine aB rfl (B4 c148) (ag (ae (vA rfl rfl (ai (aI ?_)))))
    cases H4
    refine vP [] rfl rfl ?_
    exact aV rfl rfl ⟨rfl,rfl⟩
   refine aA rfl (BM c148) (aX (ae (vV (aG rfl rfl (cj _ _ _) ) rfl (vM rfl rfl (ai ?_)))))
   exact vF [] rfl rfl (vS [1,34,35] rfl) fun a w h => ⟨k,Nat.lt_succ_self k,_,H4,h⟩
theorem ji.spec (K : Nat) (sv0 : Value) (A0 : HP) (l0 : List aC) (a1 : Int) (hA0 : da A0 sv0 l0.length 6 (fl aD l0)) (r : (Int × Int)) (H : ji K l0 a1 = some r) : bo Tryz.prog 120 [sv0,I a1] [A0] (fun v M => v = (tU #[I r.1,I r.2]) ∧ M = [A0]) := by
 unfold ji at H
 refine bp Tryz.func120 rfl 37 rfl (nL rfl) fun F w0 => ?_
 show cD (St 37 w0 F [(0,sv0),(1,I a1)] [A0]) _
 refine ag (ae (vA rfl rfl (vA rfl rfl (ai (ag (ag (ae (vM rfl rfl ?_))))))))
 obtain ⟨x16,h16,H⟩ := bS H
 refine aQ (bV (first := []) (cap := []) (xs := [.tmp 9]) rfl rfl rS rfl (lc.spec a1 _ h16)) rfl rfl rfl ?_
 rintro _ _ ⟨rfl,rfl⟩
 refine vV (iU rfl (jv _)) rfl (vM rfl rfl ?_)
 refine ii H (fun c42 H => ?_) fun c42 H => ?_
 ·refine av rfl rfl rfl c42 rfl rfl ?_
  refine av rfl rfl rfl c42 rfl rfl ?_
  refine av rfl rfl rfl c42 rfl rfl ?_
  refine vV (aO rfl rfl rfl (cc c42)) rfl (vM rfl rfl ?_)
  refine av rfl rfl rfl rfl rfl rfl ?_
  refine av rfl rfl rfl rfl rfl rfl ?_
  refine av rfl rfl rfl rfl rfl rfl ?_
  refine vV (aO rfl rfl rfl rfl) rfl (ai (aB rfl rfl (ag (ae (vA rfl rfl (vA rfl rfl (ai (aI ?_))))))))
  cases H
  refine vP [0] rfl rfl ?_
  exact cO (vs := [I 1,I 0]) rfl ⟨rfl,⟨rfl,trivial⟩⟩ _ rfl ⟨rfl,rfl⟩
 refine aq (aM rfl) rfl rfl rfl (bF c42) rfl rfl ?_
 refine aq (cp 0 rfl bA rfl hA0) rfl rfl rfl (bF c42) rfl rfl ?_
 refine aq (aG rfl rfl (fM _ _ _)) rfl rfl rfl (bF c42) rfl rfl ?_
 refine vV (aO rfl rfl rfl (bZ (bF c42))) rfl (vM rfl rfl ?_)
 refine ii H (fun c43 H => ?_) fun c43 H => ?_
 ·refine av rfl rfl rfl (dB c43) rfl rfl ?_
  refine av rfl rfl rfl (dB c43) rfl rfl ?_
  refine av rfl rfl rfl (dB c43) rfl rfl ?_
  refine vV (aO rfl rfl rfl (cc (dB c43))) rfl (ai (aB rfl rfl (ag (ae (vA rfl rfl (vA rfl rfl (ai (aI ?_))))))))
  cases H
  refine vP [0] rfl rfl ?_
  exact cO (vs := [I 1,I 0]) rfl ⟨rfl,⟨rfl,trivial⟩⟩ _ rfl ⟨rfl,rfl⟩
 refine aq (aM rfl) rfl rfl rfl (dD c43) rfl rfl ?_
 refine aq (cp 0 rfl bA rfl hA0) rfl rfl rfl (dD c43) rfl rfl ?_
 refine aq (aG rfl rfl (jY _ _ _)) rfl rfl rfl (dD c43) rfl rfl ?_
 refine vV (aO rfl rfl rfl (bZ (dD c43))) rfl (ai ?_)
 refine ii H (fun c44 H => ?_) fun c44 H => ?_
 ·refine aB rfl (dT c44) (ag (ae (vA rfl rfl (vA rfl rfl (ai (aI ?_))))))
  cases H
  refine vP [0] rfl rfl ?_
  exact cO (vs := [I 1,I 0]) rfl ⟨rfl,⟨rfl,trivial⟩⟩ _ rfl ⟨rfl,rfl⟩
 refine aA rfl (dF c44) (aX (ag (ag (ae (vM rfl rfl (vV (cp 0 rfl bA rfl hA0) rfl (vM rfl rfl (ai (be ?_)))))))))
 refine cf (fun k a w => ∃ i6,jx K l0 a1 k i6 = some r ∧ St 37 w0 F [(1,I a1),(22,sv0),(23,I (l0.length : Int)),(24,I i6)] [A0] a w) K ?_ ?_
 ·exact vF [0] rfl rfl (vS [1,22,23,24] rfl) fun a w h => ⟨_,H,h⟩
 ·refine fun k => aU fun i6 => co fun H4 => ?_
  let C0_ : List Value := [I (((l0.getD i6.toNat ab).Key).Hour),cY (((l0.getD i6.toNat ab).Key).Dims_0),cY (((l0.getD i6.toNat ab).Key).Dims_1),cY (((l0.getD i6.toNat ab).Key).Dims_2),cY (((l0.getD i6.toNat ab).Key).Dims_3),I ((l0.getD i6.toNat ab).Value)]
  cases k with
  | zero => exact absurd H4 (by simp [C0_,jx])
  | succ k =>
   rw [jx] at H4
   refine ag (ae (vV (aG rfl rfl (cN _ _ _)) rfl (ai (ag ?_))))
   refine gQ H4 (fun c72 H4 => ?_) fun c72 H4 => ?_
   ·refine aA rfl (dF c72) (bR (ag (ae (vA rfl rfl (vA rfl rfl (ai (aI ?_)))))))
    cases H4
    refine vP [0] rfl rfl ?_
    exact cO (vs := [I 0,I 0]) rfl ⟨rfl,⟨rfl,trivial⟩⟩ _ rfl ⟨rfl,rfl⟩
   refine aB rfl (dT c72) (aX (ag (be (ag (ae (vM rfl rfl ?_))))))
   obtain ⟨c75,H4⟩ := gv H4
   refine vV (bf (sz := 5) 0 rfl rfl bA bK rfl hA0 c75 c72) rfl ?_
   refine vV (bi (vs := C0_) rfl gG bK (bH (i := 0) rfl hA0 (by simp [C0_]) (dP bJ (bB c75 c72) rfl))) rfl ?_
   refine aQ (dY fS) rfl rfl rfl ?_
   rintro _ _ ⟨b24,rfl,rfl⟩
   refine vA rfl rfl ?_
   refine cl (cn (cs := [I 0,S0,S0,S0,S0,I 0]) (cs' := C0_) (us := C0_) (L' := [box b24 87 C0_,A0]) 0 rfl rfl rfl (dO rfl) bK rfl rfl (by simp [C0_]) rfl) rfl rfl ?_
   rintro _ _ rfl
   refine ai (ag (ae (vV (bi (vs := C0_) rfl gG bK (bD (i := 0) rfl)) rfl (vM rfl rfl ?_))))
   obtain ⟨x28,h28,H4⟩ := oB H4
   refine aQ (bV (first := []) (cap := []) (xs := [.tmp 29,.tmp 30]) rfl rfl vD rfl (ll.spec K (((l0.getD i6.toNat ab).Key).Hour) (((l0.getD i6.toNat ab).Key).Dims_0) (((l0.getD i6.toNat ab).Key).Dims_1) (((l0.getD i6.toNat ab).Key).Dims_2) (((l0.getD i6.toNat ab).Key).Dims_3) ((l0.getD i6.toNat ab).Value) a1 _ h28)) rfl rfl rfl ?_
   rintro _ _ ⟨rfl,rfl⟩
   refine vA rfl rfl (ai (ag (ae (vM rfl rfl (vV (aG rfl rfl (ke _ _ _)) rfl (ai ?_))))))
   refine gQ H4 (fun c76 H4 => ?_) fun c76 H4 => ?_
   ·refine aA rfl (ep c76) (aX (ae (vV (aG rfl rfl (cj _ _ _) ) rfl (vM rfl rfl (ai ?_)))))
    exact vF [1] rfl rfl (vS [1,22,23,24] rfl) fun a w h => ⟨k,Nat.lt_succ_self k,_,H4,h⟩
   refine aB rfl (iJ c76) (ag (ae (vM rfl rfl (vM rfl rfl (vA rfl rfl (vA rfl rfl (ai (aI ?_))))))))
   cases H4
   refine vP [1] rfl rfl ?_
   exact cO (vs := [I x28,I i6]) rfl ⟨rfl,⟨rfl,trivial⟩⟩ _ rfl ⟨rfl,rfl⟩
theorem jT.spec (a0 a1 a2 : Int) (r : Bool) (H : jT a0 a1 a2 = r) : bo Tryz.prog 121 [int .u64 a0,int .u64 a1,int .u64 a2] [] (fun v M => v = (bool r) ∧ M = []) := by
 unfold jT at H
 refine bp Tryz.func121 rfl 21 rfl (nL rfl) fun F w0 => ?_
 show cD (St 21 w0 F [(0,int .u64 a0),(1,int .u64 a1),(2,int .u64 a2)] []) _
 refine ag (ae (vA rfl rfl (ai (ag (ae (vM rfl rfl (vV (aG rfl rfl (jZ _ _ _)) rfl (vM rfl rfl ?_))))))))
 refine gQ H (fun c4 H => ?_) fun c4 H => ?_
 ·refine av rfl rfl rfl (dF c4) rfl rfl ?_
  refine av rfl rfl rfl (dF c4) rfl rfl ?_
  refine vV (aO rfl rfl rfl (bZ (dF c4))) rfl (vM rfl rfl ?_)
  refine av rfl rfl rfl rfl rfl rfl ?_
  refine av rfl rfl rfl rfl rfl rfl ?_
  refine vV (aO rfl rfl rfl rfl) rfl (vM rfl rfl ?_)
  refine av rfl rfl rfl rfl rfl rfl ?_
  refine av rfl rfl rfl rfl rfl rfl ?_
  refine vV (aO rfl rfl rfl rfl) rfl (vA rfl rfl (ai (aI ?_)))
  cases H
  refine vP [] rfl rfl ?_
  exact aV rfl rfl ⟨rfl,rfl⟩
 refine aq (aM rfl) rfl rfl rfl (dT c4) rfl rfl ?_
 refine aq (aG rfl rfl (nK _ _ _)) rfl rfl rfl (dT c4) rfl rfl ?_
 refine vV (aO rfl rfl rfl (cc (dT c4))) rfl (vM rfl rfl ?_)
 refine gQ H (fun c5 H => ?_) fun c5 H => ?_
 ·refine av rfl rfl rfl (dF c5) rfl rfl ?_
  refine av rfl rfl rfl (dF c5) rfl rfl ?_
  refine vV (aO rfl rfl rfl (bZ (dF c5))) rfl (vM rfl rfl ?_)
  refine av rfl rfl rfl rfl rfl rfl ?_
  refine av rfl rfl rfl rfl rfl rfl ?_
  refine vV (aO rfl rfl rfl rfl) rfl (vA rfl rfl (ai (aI ?_)))
  cases H
  refine vP [] rfl rfl ?_
  exact aV rfl rfl ⟨rfl,rfl⟩
 refine aq (aM rfl) rfl rfl rfl (dT c5) rfl rfl ?_
 refine aq (aG rfl rfl (nK _ _ _)) rfl rfl rfl (dT c5) rfl rfl ?_
 refine vV (aO rfl rfl rfl (cc (dT c5))) rfl (vM rfl rfl ?_)
 refine gQ H (fun c6 H => ?_) fun c6 H => ?_
 ·refine av rfl rfl rfl (dF c6) rfl rfl ?_
  refine av rfl rfl rfl (dF c6) rfl rfl ?_
  refine vV (aO rfl rfl rfl (bZ (dF c6))) rfl (vA rfl rfl (ai (aI ?_)))
  cases H
  refine vP [] rfl rfl ?_
  exact aV rfl rfl ⟨rfl,rfl⟩
 refine aq (aM rfl) rfl rfl rfl (dT c6) rfl rfl ?_
 refine aq (aG rfl rfl (nK _ _ _)) rfl rfl rfl (dT c6) rfl rfl ?_
 refine vV (aO rfl rfl rfl (cc (dT c6))) rfl (vA rfl rfl (ai (aI ?_)))
 cases H
 refine vP [] rfl rfl ?_
 exact aV rfl rfl ⟨rfl,rfl⟩
theorem mf.spec (K : Nat) (sv0 : Value) (a0_0 a0_1 a0_2 : Int) (l0 : List aC) (a1 : Int) (r : Bool) (H : mf K a0_0 a0_1 a0_2 l0 a1 = some r) : bo Tryz.prog 77 [agg #[I a0_0,I a0_1,I a0_2,sv0],I a1] [own sv0 87 6 l0.length (fl aD l0)] (fun v M => v = (bool r) ∧ M = [own sv0 87 6 l0.length (fl aD l0)]) := by
 unfold mf at H
 refine bp Tryz.func77 rfl 28 rfl (nL rfl) fun F w0 => ?_
 show cD (St 28 w0 F [(0,agg #[I a0_0,I a0_1,I a0_2,sv0]),(1,I a1)] [own sv0 87 6 l0.length (fl aD l0)]) _
 refine ag (ae ?_)
 refine aQ (dy (cs := [I a0_0,I a0_1,I a0_2,sv0]) rfl rfl) rfl rfl rfl ?_
 rintro _ _ ⟨b2,rfl,rfl⟩
 refine vA rfl rfl (ai (ag (ae (vV (az (sz := 0) (o := 0) rfl dx cK) rfl (vV (aP (v := sv0) rfl fA (aJ (i := 0) rfl rfl)) rfl (vM rfl rfl ?_))))))
 obtain ⟨x3,h3,H⟩ := oB H
 refine aQ (bC (Lr := [box b2 81 [I a0_0,I a0_1,I a0_2,sv0]]) [1,0] [1,0] (first := []) (cap := []) (xs := [.tmp 9,.tmp 10]) rfl rfl pc rfl (ji.spec K sv0 (own sv0 87 6 l0.length (fl aD l0)) l0 a1 (aS 87) _ h3) (by decide) rfl (by decide) rfl) rfl rfl rfl ?_
 rintro _ _ ⟨rfl,rfl⟩
 refine vM rfl rfl (vV (bt rfl rfl) rfl (vV (bt rfl rfl) rfl (vA rfl rfl (vA rfl rfl (ai (ag (ae (vM rfl rfl (vV (aG rfl rfl (fM _ _ _)) rfl (vM rfl rfl ?_))))))))))
 refine gQ H (fun c2 H => ?_) fun c2 H => ?_
 ·refine av rfl rfl rfl (dD c2) rfl rfl ?_
  refine av rfl rfl rfl (dD c2) rfl rfl ?_
  refine av rfl rfl rfl (dD c2) rfl rfl ?_
  refine av rfl rfl rfl (dD c2) rfl rfl ?_
  refine av rfl rfl rfl (dD c2) rfl rfl ?_
  refine av rfl rfl rfl (dD c2) rfl rfl ?_
  refine av rfl rfl rfl (dD c2) rfl rfl ?_
  refine av rfl rfl rfl (dD c2) rfl rfl ?_
  refine av rfl rfl rfl (dD c2) rfl rfl ?_
  refine av rfl rfl rfl (dD c2) rfl rfl ?_
  refine vV (aO rfl rfl rfl (bZ (dD c2))) rfl (vA rfl rfl (ai (aI ?_)))
  cases H
  refine vP [1] rfl rfl ?_
  exact aV rfl rfl ⟨rfl,rfl⟩
 refine aq (az (sz := 0) (o := 0) rfl iW bd) rfl rfl rfl (dB c2) rfl rfl ?_
 refine aq (aP (v := (I a0_0)) rfl bl (aJ (i := 0) rfl rfl)) rfl rfl rfl (dB c2) rfl rfl ?_
 refine aq (cu rfl (iB Tryz.underlying2 Tryz.underlying192)) rfl rfl rfl (dB c2) rfl rfl ?_
 refine aq (az (sz := 0) (o := 0) rfl mx bd) rfl rfl rfl (dB c2) rfl rfl ?_
 refine aq (aP (v := (I a0_1)) rfl bl (aJ (i := 0) rfl rfl)) rfl rfl rfl (dB c2) rfl rfl ?_
 refine aq (cu rfl (iB Tryz.underlying2 Tryz.underlying192)) rfl rfl rfl (dB c2) rfl rfl ?_
 refine aq (az (sz := 0) (o := 0) rfl mv bd) rfl rfl rfl (dB c2) rfl rfl ?_
 refine aq (aP (v := (I a0_2)) rfl bl (aJ (i := 0) rfl rfl)) rfl rfl rfl (dB c2) rfl rfl ?_
 refine aq (cu rfl (iB Tryz.underlying2 Tryz.underlying192)) rfl rfl rfl (dB c2) rfl rfl ?_
 obtain ⟨x4,h4,H⟩ := bS H
 refine du (bV (first := []) (cap := []) (xs := [.tmp 19,.tmp 22,.tmp 25]) rfl rfl rT rfl (jT.spec (ed a0_0) (ed a0_1) (ed a0_2) _ h4)) rfl rfl rfl (dB c2) rfl rfl ?_
 rintro _ _ ⟨rfl,rfl⟩
 refine vV (aO rfl rfl rfl (cc (dB c2))) rfl (vA rfl rfl (ai (aI ?_)))
 cases H
 refine vP [1] rfl rfl ?_
 exact aV rfl rfl ⟨rfl,rfl⟩
theorem bz.spec (sv0 : Value) (A0 : HP) (l0 : List aC) (hA0 : da A0 sv0 l0.length 6 (fl aD l0)) (r : List aC) (H : bz l0 = some r) : bo Tryz.prog 78 [sv0] [A0] (fun v M => ∃ sv5 : Value,v = sv5 ∧ M = [A0,own sv5 87 6 r.length (fl aD r)]) := by
 unfold bz at H
 refine bp Tryz.func78 rfl 8 rfl (nL rfl) fun F w0 => ?_
 show cD (St 8 w0 F [(0,sv0)] [A0]) _
 refine ag (ae (vA rfl rfl (ai (ag (ag (ae (vM rfl rfl ?_)))))))
 refine ii H (fun c9 H => ?_) fun c9 H => ?_
 ·refine vV (vc 0 rfl rfl Tryz.underlying33 rfl hA0 rfl c9) rfl (ai (aA rfl rfl (aX (ag (ae ?_)))))
  refine aQ (bI (sz := 5) (xs := []) (cs := fl aD ([] : List aC)) rfl rfl bA bK fS rfl rfl (cM rfl) rfl (by decide)) rfl rfl rfl ?_
  rintro sv6 _ rfl
  refine vM rfl rfl ?_
  obtain ⟨c10,H⟩ := gv H
  refine aQ (cb (sz := 5) (xs := ([] : List aC)) (ys := l0) 0 1 rfl rfl bA bK fS rfl mM rfl rfl rfl hA0 rfl kl c10) rfl rfl rfl ?_
  rintro sv7 _ rfl
  refine eC [own sv7 87 6 (([] : List aC) ++ l0).length (fl aD (([] : List aC) ++ l0)),A0] rfl ?_
  refine vA rfl rfl (ai (aI ?_))
  cases H
  refine vP [1,0] rfl rfl ?_
  exact aV rfl rfl ⟨_,rfl,rfl⟩
 by_cases c11 : zL sv0 = true
 ·replace H : (some (([] : List aC))) = _ := H
  refine vV (og 0 rfl rfl Tryz.underlying33 rfl hA0 c11) rfl (ai (aB rfl rfl (ag (ae (vA rfl rfl (ai (aI ?_)))))))
  cases H
  refine cQ 87 6 ?_
  refine vP [1,0] rfl rfl ?_
  exact aV rfl rfl ⟨_,rfl,rfl⟩
 ·refine vV (og 0 rfl rfl Tryz.underlying33 rfl hA0 (bF c11)) rfl (ai (aA rfl rfl (aX (ag (ae ?_)))))
  refine aQ (bI (sz := 5) (xs := []) (cs := fl aD ([] : List aC)) rfl rfl bA bK fS rfl rfl (cM rfl) rfl (by decide)) rfl rfl rfl ?_
  rintro sv8 _ rfl
  refine vM rfl rfl ?_
  obtain ⟨c12,H⟩ := gv H
  refine aQ (cb (sz := 5) (xs := ([] : List aC)) (ys := ([] : List aC)) 0 1 rfl rfl bA bK fS rfl mM rfl rfl rfl (sH hA0 c9) rfl kl c12) rfl rfl rfl ?_
  rintro sv9 _ rfl
  refine eC [own sv9 87 6 (([] : List aC) ++ ([] : List aC)).length (fl aD (([] : List aC) ++ ([] : List aC))),A0] rfl ?_
  refine vA rfl rfl (ai (aI ?_))
  cases H
  refine vP [1,0] rfl rfl ?_
  exact aV rfl rfl ⟨_,rfl,rfl⟩
theorem kW.spec (K p0 : Nat) (sv0 : Value) (p0_0 p0_2 : Int) (a1_0 a1_1 a1_2 : Int) (l0 : List aC) (r : (Int × (List aH) × Int)) (H : kW K p0_0 p0_2 a1_0 a1_1 a1_2 l0 = some r) : bo Tryz.prog 32 [pt p0 0,agg #[I a1_0,I a1_1,I a1_2,sv0]] [box p0 93 [I p0_0,L0,I p0_2],own sv0 87 6 l0.length (fl aD l0)] (fun v M => ∃ sv5 : JG,v = (I r.1) ∧ M = [box p0 93 [I p0_0,sv5.sv,I r.2.2],(bv sv5 81 4 al 87 6 an am r.2.1),own sv0 87 6 l0.length (fl aD l0)]) := by
 unfold kW at H
 refine bp Tryz.func32 rfl 44 rfl (nL rfl) fun F w0 => ?_
 show cD (St 44 w0 F [(0,pt p0 0),(1,agg #[I a1_0,I a1_1,I a1_2,sv0])] [box p0 93 [I p0_0,L0,I p0_2],own sv0 87 6 l0.length (fl aD l0)]) _
 refine ag (ae ?_)
 refine aQ (dy (cs := [I a1_0,I a1_1,I a1_2,sv0]) rfl rfl) rfl rfl rfl ?_
 rintro _ _ ⟨b2,rfl,rfl⟩
 let C0_ : List HP := [box b2 81 [I a1_0,I a1_1,I a1_2,sv0],box p0 93 [I p0_0,L0,I p0_2],own sv0 87 6 l0.length (fl aD l0)]
 refine vA rfl rfl (ai (ag (be (ag ?_))))
 obtain ⟨x5,h5,H⟩ := oB H
 refine cd 12 rfl (fun D a w => kF 44 w0 F [(0,pt p0 0),(1,agg #[I a1_0,I a1_1,I a1_2,sv0]),(3,pt b2 0),(4,I 0)] [(0,6,pt p0 0),(1,7,B0),(2,8,B0),(3,9,agg #[I a1_0,I a1_1,I a1_2,sv0]),(4,10,pt p0 0),(5,11,pt p0 0),(6,12,pt p0 0),(7,13,I p0_0),(8,14,bool x5),(9,15,bool (!x5)),(10,16,bool (!x5)),(11,5,bool (!x5))] D C0_ a w) (by kernel_rfl) (by kernel_rfl) (cA (vS [0,1,3,4] rfl) rfl) ?_ ?_
 ·refine ⟨?_,?_,?_,?_,?_,?_,?_,?_,?_,?_,?_,?_,trivial⟩
  ·exact fun D hi hc U => dV 0 rfl rfl rfl rfl (fun a => af) (aM rfl) rfl rfl rfl rfl
  ·exact fun D hi hc U => dV 1 rfl rfl rfl rfl (fun a => (hD 0 U rfl rfl rfl rfl af)) (aG rfl rfl (gS (fun w => rfl) rfl (lE Tryz.underlying25 _ _))) rfl rfl rfl rfl
  ·exact fun D hi hc U => dV 2 rfl rfl rfl rfl (fun a => (hD 1 U rfl rfl rfl rfl af)) (aM rfl) rfl rfl rfl rfl
  ·exact fun D hi hc U => aZ (i := 3) (t := 9) (v := (agg #[I a1_0,I a1_1,I a1_2,sv0])) rfl rfl (bg rfl rfl rfl rfl) (fun a => (hD 2 U rfl rfl rfl rfl af)) (bi (vs := [I a1_0,I a1_1,I a1_2,sv0]) rfl jn cC (bD (i := 0) rfl)) rfl rfl (oT 3 rfl rfl rfl)
  ·exact fun D hi hc U => aZ (i := 4) (t := 10) (v := (pt p0 0)) rfl rfl (bg rfl rfl rfl rfl) (fun a => (hD 2 U rfl rfl rfl rfl af)) (aM rfl) rfl rfl (oT 4 rfl rfl rfl)
  ·exact fun D hi hc U => aZ (i := 5) (t := 11) (v := (pt p0 0)) rfl rfl (bg rfl rfl rfl rfl) (fun a => (hD 2 U rfl rfl rfl rfl (hD 4 U rfl rfl rfl rfl af))) (bm rfl) rfl rfl (oT 5 rfl rfl rfl)
  ·exact fun D hi hc U => aZ (i := 6) (t := 12) (v := (pt p0 0)) rfl rfl (bg rfl rfl rfl rfl) (fun a => (hD 2 U rfl rfl rfl rfl (hD 5 U rfl rfl rfl rfl af))) (az (sz := 0) (o := 0) rfl mu iX) rfl rfl (oT 6 rfl rfl rfl)
  ·exact fun D hi hc U => aZ (i := 7) (t := 13) (v := (I p0_0)) rfl rfl (bg rfl rfl rfl rfl) (fun a => (hD 2 U rfl rfl rfl rfl (hD 6 U rfl rfl rfl rfl af))) (aP (v := (I p0_0)) rfl ju (aJ (i := 1) rfl rfl)) rfl rfl (oT 7 rfl rfl rfl)
  ·exact fun D hi hc U => lC (i := 8) (t := 14) (v := (bool x5)) rfl rfl (bg rfl rfl rfl rfl) (fun a => (hD 2 U rfl rfl rfl rfl (hD 7 U rfl rfl rfl rfl (hD 3 U rfl rfl rfl rfl af)))) (bC (Lr := [box b2 81 [I a1_0,I a1_1,I a1_2,sv0],box p0 93 [I p0_0,L0,I p0_2]]) [2,0,1] [1,2,0] (first := []) (cap := []) (xs := [.tmp 9,.tmp 13]) rfl rfl qk rfl (mf.spec K sv0 a1_0 a1_1 a1_2 l0 p0_0 _ h5) (by decide) rfl (by decide) rfl) rfl rfl (oT 8 rfl rfl rfl)
  ·exact fun D hi hc U => aZ (i := 9) (t := 15) (v := (bool (!x5))) rfl rfl (bg rfl rfl rfl rfl) (fun a => (hD 2 U rfl rfl rfl rfl (hD 8 U rfl rfl rfl rfl af))) (iU rfl (jv _)) rfl rfl (oT 9 rfl rfl rfl)
  ·exact fun D hi hc U => dV 10 rfl rfl rfl rfl (fun a => (hD 9 U rfl rfl rfl rfl (hD 2 U rfl rfl rfl rfl af))) (aO rfl rfl rfl rfl) rfl rfl rfl rfl
  ·exact fun D hi hc U => dV 11 rfl rfl rfl rfl (fun a => (hD 10 U rfl rfl rfl rfl af)) (cT rfl) rfl rfl rfl rfl
 ·intro D hall
  refine ci C0_ rfl (fun a => (ao (k := 11) rfl (hall 11 (by decide)) (ao (k := 0) rfl (hall 0 (by decide)) (ao (k := 1) rfl (hall 1 (by decide)) (ao (k := 2) rfl (hall 2 (by decide)) (ao (k := 3) rfl (hall 3 (by decide)) (ao (k := 4) rfl (hall 4 (by decide)) (ao (k := 5) rfl (hall 5 (by decide)) (ao (k := 6) rfl (hall 6 (by decide)) (ao (k := 7) rfl (hall 7 (by decide)) (ao (k := 8) rfl (hall 8 (by decide)) (ao (k := 9) rfl (hall 9 (by decide)) (ao (k := 10) rfl (hall 10 (by decide)) af))))))))))))) ?_
  refine ii H (fun c8 H => ?_) fun c8 H => ?_
  ·refine aB rfl c8 (ag (ae (vA rfl rfl (ai (aI ?_)))))
   cases H
   refine lP 81 4 al 87 6 an am ?_
   refine vP [2,0,3] rfl rfl ?_
   exact aV rfl rfl ⟨nE,rfl,rfl⟩
  refine aA rfl (bF c8) (ag ?_)
  refine cd 8 rfl (fun D a w => kF 44 w0 F [(0,pt p0 0),(1,agg #[I a1_0,I a1_1,I a1_2,sv0]),(3,pt b2 0),(4,I 0),(5,bool (!x5)),(6,pt p0 0),(7,B0),(8,B0),(9,agg #[I a1_0,I a1_1,I a1_2,sv0]),(10,pt p0 0),(11,pt p0 0),(12,pt p0 0),(13,I p0_0),(14,bool x5),(15,bool (!x5)),(16,bool (!x5))] [(0,18,pt b2 0),(1,19,I a1_0),(2,20,pt p0 0),(3,21,pt p0 0),(4,22,pt p0 2),(5,23,I p0_2),(6,24,Value.bool (decide (a1_0 ≤ p0_2))),(7,17,Value.bool (decide (a1_0 ≤ p0_2)))] D C0_ a w) (by kernel_rfl) (by kernel_rfl) (cA (vS [0,1,3,4,5,6,7,8,9,10,11,12,13,14,15,16] rfl) rfl) ?_ ?_
  ·refine ⟨?_,?_,?_,?_,?_,?_,?_,?_,trivial⟩
   ·exact fun D hi hc U => dV 0 rfl rfl rfl rfl (fun a => af) (az (sz := 0) (o := 0) rfl iW bd) rfl rfl rfl rfl
   ·exact fun D hi hc U => dV 1 rfl rfl rfl rfl (fun a => (hD 0 U rfl rfl rfl rfl af)) (aP (v := (I a1_0)) rfl bl (aJ (i := 0) rfl rfl)) rfl rfl rfl rfl
   ·exact fun D hi hc U => dV 2 rfl rfl rfl rfl (fun a => af) (aM rfl) rfl rfl rfl rfl
   ·exact fun D hi hc U => dV 3 rfl rfl rfl rfl (fun a => (hD 2 U rfl rfl rfl rfl af)) (bm rfl) rfl rfl rfl rfl
   ·exact fun D hi hc U => dV 4 rfl rfl rfl rfl (fun a => (hD 3 U rfl rfl rfl rfl af)) (az (sz := 0) (o := 0) rfl lN bd) rfl rfl rfl rfl
   ·exact fun D hi hc U => dV 5 rfl rfl rfl rfl (fun a => (hD 4 U rfl rfl rfl rfl af)) (aP (v := (I p0_2)) rfl bl (aJ (i := 1) rfl rfl)) rfl rfl rfl rfl
   ·exact fun D hi hc U => dV 6 rfl rfl rfl rfl (fun a => (hD 5 U rfl rfl rfl rfl (hD 1 U rfl rfl rfl rfl af))) (aG rfl rfl (nK _ _ _)) rfl rfl rfl rfl
   ·exact fun D hi hc U => dV 7 rfl rfl rfl rfl (fun a => (hD 6 U rfl rfl rfl rfl af)) (cT rfl) rfl rfl rfl rfl
  ·intro D hall
   refine ci C0_ rfl (fun a => (ao (k := 7) rfl (hall 7 (by decide)) (ao (k := 0) rfl (hall 0 (by decide)) (ao (k := 1) rfl (hall 1 (by decide)) (ao (k := 2) rfl (hall 2 (by decide)) (ao (k := 3) rfl (hall 3 (by decide)) (ao (k := 4) rfl (hall 4 (by decide)) (ao (k := 5) rfl (hall 5 (by decide)) (ao (k := 6) rfl (hall 6 (by decide)) af))))))))) ?_
   refine ii H (fun c9 H => ?_) fun c9 H => ?_
   ·refine aB rfl (dT c9) (ag (ae (vA rfl rfl (ai (aI ?_)))))
    cases H
    refine lP 81 4 al 87 6 an am ?_
    refine vP [2,0,3] rfl rfl ?_
    exact aV rfl rfl ⟨nE,rfl,rfl⟩
   refine aA rfl (dF c9) (aX (ag (ae (vM rfl rfl (vV (az (sz := 0) (o := 0) rfl iW bd) rfl (vV (aP (v := (I a1_0)) rfl bl (aJ (i := 0) rfl rfl)) rfl (vV (bm rfl) rfl (vV (az (sz := 0) (o := 0) rfl lN bd) rfl ?_))))))))
   refine cl (cn (cs := [I p0_0,L0,I p0_2]) (cs' := [I p0_0,L0,I a1_0]) (us := [I a1_0]) (L' := [box b2 81 [I a1_0,I a1_1,I a1_2,sv0],box p0 93 [I p0_0,L0,I a1_0],own sv0 87 6 l0.length (fl aD l0)]) 1 rfl rfl rfl (dO rfl) bd rfl rfl (by simp [C0_]) rfl) rfl rfl ?_
   rintro _ _ rfl
   refine ai (ag (ae (vV (az (sz := 0) (o := 0) rfl dx cK) rfl (vV (aP (v := sv0) rfl fA (aJ (i := 0) rfl rfl)) rfl ?_))))
   obtain ⟨x6,h6,H⟩ := oB H
   refine vP [2,0,1] rfl rfl ?_
   refine aQ (bG (Lr := [box b2 81 [I a1_0,I a1_1,I a1_2,sv0],box p0 93 [I p0_0,L0,I a1_0]]) (first := []) (cap := []) (xs := [.tmp 31]) rfl rfl ng rfl (bz.spec sv0 (own sv0 87 6 l0.length (fl aD l0)) l0 (aS 87) _ h6) rfl) rfl rfl rfl ?_
   rintro sv6 _ ⟨_,⟨_,rfl,rfl⟩,rfl⟩
   refine vV (az (sz := 0) (o := 0) rfl dx cK) rfl ?_
   refine cl (fo (cs := [I a1_0,I a1_1,I a1_2,sv0]) (cs' := [I a1_0,I a1_1,I a1_2,sv6]) (sv := sv6) (L' := [own sv0 87 6 l0.length (fl aD l0),own sv6 87 6 x6.length (fl aD x6),box b2 81 [I a1_0,I a1_1,I a1_2,sv6],box p0 93 [I p0_0,L0,I a1_0]]) 2 1 rfl rfl cK rfl rfl (aS 87) rfl (by simp [C0_]) rfl) rfl rfl ?_
   rintro _ _ rfl
   refine ai (ag ?_)
   obtain ⟨c10,H⟩ := gv H
   refine lP 81 4 al 87 6 an am ?_
   let Z8_T : DT := fun ga3 => [(0,34,pt p0 0),(1,35,pt p0 0),(2,36,pt p0 0),(3,37,pt p0 1),(4,38,L0),(5,39,agg #[I a1_0,I a1_1,I a1_2,sv6]),(6,40,(ga3 6)),(7,41,(ga3 7)),(8,42,pt p0 0),(9,43,pt p0 1)]
   let Z8_L : DL := fun ga3 D => [bE (D 7) emp (bE (D 6) (own (ga3 6) 81 4 1 (al (⟨a1_0,a1_1,a1_2,x6⟩ : aH) sv6)) emp),bE (D 7) (hown (ga3 7) 81 4 al 87 6 an am (([] : List aH) ++ [(⟨a1_0,a1_1,a1_2,x6⟩ : aH)])) (bv nE 81 4 al 87 6 an am ([] : List aH)),own sv0 87 6 l0.length (fl aD l0),bE (D 7) emp (own sv6 87 6 x6.length (fl aD x6)),box b2 81 [I a1_0,I a1_1,I a1_2,sv6],bE (D 10) (box p0 93 [I p0_0,(ga3 7),I a1_0]) (box p0 93 [I p0_0,L0,I a1_0])]
   let Z8_I : DI := fun ga3 D a w => kF 44 w0 F [(0,pt p0 0),(1,agg #[I a1_0,I a1_1,I a1_2,sv0]),(3,pt b2 0),(4,I 0),(5,bool (!x5)),(6,pt p0 0),(7,B0),(8,B0),(9,agg #[I a1_0,I a1_1,I a1_2,sv0]),(10,pt p0 0),(11,pt p0 0),(12,pt p0 0),(13,I p0_0),(14,bool x5),(15,bool (!x5)),(16,bool (!x5)),(17,Value.bool (decide (a1_0 ≤ p0_2))),(18,pt b2 0),(19,I a1_0),(20,pt p0 0),(21,pt p0 0),(22,pt p0 2),(23,I p0_2),(24,Value.bool (decide (a1_0 ≤ p0_2))),(25,pt p0 0),(26,pt b2 0),(27,I a1_0),(28,pt p0 0),(29,pt p0 2),(30,pt b2 3),(31,sv0),(32,sv6),(33,pt b2 3)] (Z8_T ga3) D (Z8_L ga3 D) a w
   refine cd 11 rfl (fun D a w => ∃ ga3 : Nat → Value,Z8_I ga3 D a w) (by kernel_rfl) (by kernel_rfl) (eR (T := Z8_T) (L' := fun ga3 : Nat → Value => [bE false emp (bE false (own (ga3 6) 81 4 1 (al (⟨a1_0,a1_1,a1_2,x6⟩ : aH) sv6)) emp),bE false (hown (ga3 7) 81 4 al 87 6 an am (([] : List aH) ++ [(⟨a1_0,a1_1,a1_2,x6⟩ : aH)])) (bv nE 81 4 al 87 6 an am ([] : List aH)),own sv0 87 6 l0.length (fl aD l0),bE false emp (own sv6 87 6 x6.length (fl aD x6)),box b2 81 [I a1_0,I a1_1,I a1_2,sv6],bE false (box p0 93 [I p0_0,(ga3 7),I a1_0]) (box p0 93 [I p0_0,L0,I a1_0])]) 1 (vS [0,1,3,4,5,6,7,8,9,10,11,12,13,14,15,16,17,18,19,20,21,22,23,24,25,26,27,28,29,30,31,32,33] rfl) (fun _ => rfl)) ?_ ?_
   ·refine ⟨?_,?_,?_,?_,?_,?_,?_,?_,?_,?_,?_,trivial⟩
    ·exact fun D hi hc U => aR (I := Z8_I) fun ga3 => dV 0 rfl rfl rfl rfl (fun a => af) (aM rfl) rfl rfl rfl rfl
    ·exact fun D hi hc U => aR (I := Z8_I) fun ga3 => dV 1 rfl rfl rfl rfl (fun a => af) (aM rfl) rfl rfl rfl rfl
    ·intro D hi hc U
     refine aR (I := Z8_I) fun ga3 => ?_
     have d1 : D 1 = true := aY (j := 1) U rfl (by decide) rfl
     have n10 : D 10 = false := aL (m := 10) hc hi rfl rfl
     exact dV 2 rfl rfl rfl rfl (fun a => (ao (k := 1) rfl d1 af)) (kO (L2 := [bE (D 7) emp (bE (D 6) (own (ga3 6) 81 4 1 (al (⟨a1_0,a1_1,a1_2,x6⟩ : aH) sv6)) emp),bE (D 7) (hown (ga3 7) 81 4 al 87 6 an am (([] : List aH) ++ [(⟨a1_0,a1_1,a1_2,x6⟩ : aH)])) (bv nE 81 4 al 87 6 an am ([] : List aH)),own sv0 87 6 l0.length (fl aD l0),bE (D 7) emp (own sv6 87 6 x6.length (fl aD x6)),box b2 81 [I a1_0,I a1_1,I a1_2,sv6],box p0 93 [I p0_0,L0,I a1_0]]) (by simp only [C0_,Z8_T,Z8_L,n10,bE]) (bm rfl)) rfl rfl rfl rfl
    ·intro D hi hc U
     refine aR (I := Z8_I) fun ga3 => ?_
     have d2 : D 2 = true := aY (j := 2) U rfl (by decide) rfl
     have n10 : D 10 = false := aL (m := 10) hc hi rfl rfl
     exact dV 3 rfl rfl rfl rfl (fun a => (ao (k := 2) rfl d2 af)) (kO (L2 := [bE (D 7) emp (bE (D 6) (own (ga3 6) 81 4 1 (al (⟨a1_0,a1_1,a1_2,x6⟩ : aH) sv6)) emp),bE (D 7) (hown (ga3 7) 81 4 al 87 6 an am (([] : List aH) ++ [(⟨a1_0,a1_1,a1_2,x6⟩ : aH)])) (bv nE 81 4 al 87 6 an am ([] : List aH)),own sv0 87 6 l0.length (fl aD l0),bE (D 7) emp (own sv6 87 6 x6.length (fl aD x6)),box b2 81 [I a1_0,I a1_1,I a1_2,sv6],box p0 93 [I p0_0,L0,I a1_0]]) (by simp only [C0_,Z8_T,Z8_L,n10,bE]) (az (sz := 0) (o := 0) rfl jN jJ)) rfl rfl rfl rfl
    ·intro D hi hc U
     refine aR (I := Z8_I) fun ga3 => ?_
     have d3 : D 3 = true := aY (j := 3) U rfl (by decide) rfl
     have n10 : D 10 = false := aL (m := 10) hc hi rfl rfl
     exact dV 4 rfl rfl rfl rfl (fun a => (ao (k := 3) rfl d3 af)) (kO (L2 := [bE (D 7) emp (bE (D 6) (own (ga3 6) 81 4 1 (al (⟨a1_0,a1_1,a1_2,x6⟩ : aH) sv6)) emp),bE (D 7) (hown (ga3 7) 81 4 al 87 6 an am (([] : List aH) ++ [(⟨a1_0,a1_1,a1_2,x6⟩ : aH)])) (bv nE 81 4 al 87 6 an am ([] : List aH)),own sv0 87 6 l0.length (fl aD l0),bE (D 7) emp (own sv6 87 6 x6.length (fl aD x6)),box b2 81 [I a1_0,I a1_1,I a1_2,sv6],box p0 93 [I p0_0,L0,I a1_0]]) (by simp only [C0_,Z8_T,Z8_L,n10,bE]) (aP (v := L0) rfl pk (aJ (i := 5) rfl rfl))) rfl rfl rfl rfl
    ·exact fun D hi hc U => aR (I := Z8_I) fun ga3 => dV 5 rfl rfl rfl rfl (fun a => af) (bi (vs := [I a1_0,I a1_1,I a1_2,sv6]) rfl jn cC (bD (i := 4) rfl)) rfl rfl rfl rfl
    ·intro D hi hc U
     refine aU (S := fun ga3 => Z8_I ga3 D) fun ga3 => ?_
     have d5 : D 5 = true := aY (j := 5) U rfl (by decide) rfl
     have n7 : D 7 = false := aL (m := 7) hc hi rfl rfl
     refine iI (i := 6) (t := 40) (x := ga3) (L := Z8_L) (T := Z8_T) (L2 := [emp,bE (D 7) (hown (ga3 7) 81 4 al 87 6 an am (([] : List aH) ++ [(⟨a1_0,a1_1,a1_2,x6⟩ : aH)])) (bv nE 81 4 al 87 6 an am ([] : List aH)),own sv0 87 6 l0.length (fl aD l0),bE (D 7) emp (own sv6 87 6 x6.length (fl aD x6)),box b2 81 [I a1_0,I a1_1,I a1_2,sv6],bE (D 10) (box p0 93 [I p0_0,(ga3 7),I a1_0]) (box p0 93 [I p0_0,L0,I a1_0])]) (B := fun v_ => (own v_ 81 4 1 (al (⟨a1_0,a1_1,a1_2,x6⟩ : aH) sv6))) 0 rfl rfl (bw rfl) (fun a => (ao (k := 5) rfl d5 af)) (by simp only [C0_,Z8_T,Z8_L,n7,hi,bE]) (bI (sz := 3) (xs := [.tmp 39]) (cs := al (⟨a1_0,a1_1,a1_2,x6⟩ : aH) sv6) rfl rfl dJ cC gy rfl rfl (cM rfl) rfl (by decide)) ?_ rfl (fun v_ => ?_) rfl rfl ?_
     ·rintro _ _ rfl; rfl
     ·simp [C0_,Z8_T,Z8_L,up,kp,bE,n7,hi]
     ·rintro _ _ rfl
      exact (ar rfl rfl (ar rfl rfl (ar rfl rfl (ar rfl rfl (ar rfl rfl (ar rfl rfl (dj (ar rfl rfl (ar rfl rfl (ar rfl rfl eh))))))))))
    ·intro D hi hc U
     refine aU (S := fun ga3 => Z8_I ga3 D) fun ga3 => ?_
     have d4 : D 4 = true := aY (j := 4) U rfl (by decide) rfl
     have d6 : D 6 = true := aY (j := 6) U rfl (by decide) rfl
     have n10 : D 10 = false := aL (m := 10) hc hi rfl rfl
     exact gJ (i := 7) (t := 41) (x := ga3) (L := Z8_L) (T := Z8_T) (L2 := [own (ga3 6) 81 4 1 (al (⟨a1_0,a1_1,a1_2,x6⟩ : aH) sv6),(bv nE 81 4 al 87 6 an am ([] : List aH)),own sv0 87 6 l0.length (fl aD l0),own sv6 87 6 x6.length (fl aD x6),box b2 81 [I a1_0,I a1_1,I a1_2,sv6],box p0 93 [I p0_0,L0,I a1_0]]) rfl rfl (bw rfl) (fun a => (ao (k := 6) rfl d6 (ao (k := 4) rfl d4 af))) (by simp only [C0_,Z8_T,Z8_L,d6,n10,hi,bE]) (oM (sz := 3) (fun v_ => [emp,(hown v_ 81 4 al 87 6 an am (([] : List aH) ++ [(⟨a1_0,a1_1,a1_2,x6⟩ : aH)])),own sv0 87 6 l0.length (fl aD l0),emp,box b2 81 [I a1_0,I a1_1,I a1_2,sv6],box p0 93 [I p0_0,L0,I a1_0]]) [1,0,3,2,4,5] [1,0,3,2,4,5] (by decide) (by decide) rfl (fun _ => rfl) rfl rfl dJ cC gy rfl mN rfl (jR _ _) c10) rfl rfl fun v_ M_ hM_ => ⟨kp ga3 7 v_,hM_.trans (show [emp,(hown v_ 81 4 al 87 6 an am (([] : List aH) ++ [(⟨a1_0,a1_1,a1_2,x6⟩ : aH)])),own sv0 87 6 l0.length (fl aD l0),emp,box b2 81 [I a1_0,I a1_1,I a1_2,sv6],box p0 93 [I p0_0,L0,I a1_0]] = _ by simp [C0_,Z8_T,Z8_L,up,kp,bE,d6,n10,n10,hi]),(ar rfl rfl (ar rfl rfl (ar rfl rfl (ar rfl rfl (ar rfl rfl (ar rfl rfl (ar rfl rfl (dj (ar rfl rfl (ar rfl rfl eh))))))))))⟩
    ·intro D hi hc U
     refine aR (I := Z8_I) fun ga3 => ?_
     have d0 : D 0 = true := aY (j := 0) U rfl (by decide) rfl
     have n9 : D 9 = false := aL (m := 9) hc hi rfl rfl
     have n10 : D 10 = false := aL (m := 10) hc n9 rfl rfl
     exact dV 8 rfl rfl rfl rfl (fun a => (ao (k := 0) rfl d0 af)) (kO (L2 := [bE (D 7) emp (bE (D 6) (own (ga3 6) 81 4 1 (al (⟨a1_0,a1_1,a1_2,x6⟩ : aH) sv6)) emp),bE (D 7) (hown (ga3 7) 81 4 al 87 6 an am (([] : List aH) ++ [(⟨a1_0,a1_1,a1_2,x6⟩ : aH)])) (bv nE 81 4 al 87 6 an am ([] : List aH)),own sv0 87 6 l0.length (fl aD l0),bE (D 7) emp (own sv6 87 6 x6.length (fl aD x6)),box b2 81 [I a1_0,I a1_1,I a1_2,sv6],box p0 93 [I p0_0,L0,I a1_0]]) (by simp only [C0_,Z8_T,Z8_L,n10,bE]) (bm rfl)) rfl rfl rfl rfl
    ·intro D hi hc U
     refine aR (I := Z8_I) fun ga3 => ?_
     have d8 : D 8 = true := aY (j := 8) U rfl (by decide) rfl
     have n10 : D 10 = false := aL (m := 10) hc hi rfl rfl
     exact dV 9 rfl rfl rfl rfl (fun a => (ao (k := 8) rfl d8 af)) (kO (L2 := [bE (D 7) emp (bE (D 6) (own (ga3 6) 81 4 1 (al (⟨a1_0,a1_1,a1_2,x6⟩ : aH) sv6)) emp),bE (D 7) (hown (ga3 7) 81 4 al 87 6 an am (([] : List aH) ++ [(⟨a1_0,a1_1,a1_2,x6⟩ : aH)])) (bv nE 81 4 al 87 6 an am ([] : List aH)),own sv0 87 6 l0.length (fl aD l0),bE (D 7) emp (own sv6 87 6 x6.length (fl aD x6)),box b2 81 [I a1_0,I a1_1,I a1_2,sv6],box p0 93 [I p0_0,L0,I a1_0]]) (by simp only [C0_,Z8_T,Z8_L,n10,bE]) (az (sz := 0) (o := 0) rfl jN jJ)) rfl rfl rfl rfl
    ·intro D hi hc U
     refine aR (I := Z8_I) fun ga3 => ?_
     have d9 : D 9 = true := aY (j := 9) U rfl (by decide) rfl
     have d7 : D 7 = true := aY (j := 7) U rfl (by decide) rfl
     exact kt (i := 10) (L2 := [bE (D 7) emp (bE (D 6) (own (ga3 6) 81 4 1 (al (⟨a1_0,a1_1,a1_2,x6⟩ : aH) sv6)) emp),(hown (ga3 7) 81 4 al 87 6 an am (([] : List aH) ++ [(⟨a1_0,a1_1,a1_2,x6⟩ : aH)])),own sv0 87 6 l0.length (fl aD l0),bE (D 7) emp (own sv6 87 6 x6.length (fl aD x6)),box b2 81 [I a1_0,I a1_1,I a1_2,sv6],box p0 93 [I p0_0,L0,I a1_0]]) (L3 := [bE (D 7) emp (bE (D 6) (own (ga3 6) 81 4 1 (al (⟨a1_0,a1_1,a1_2,x6⟩ : aH) sv6)) emp),(hown (ga3 7) 81 4 al 87 6 an am (([] : List aH) ++ [(⟨a1_0,a1_1,a1_2,x6⟩ : aH)])),own sv0 87 6 l0.length (fl aD l0),bE (D 7) emp (own sv6 87 6 x6.length (fl aD x6)),box b2 81 [I a1_0,I a1_1,I a1_2,sv6],box p0 93 [I p0_0,(ga3 7),I a1_0]]) rfl rfl (bw rfl) (fun a => (ao (k := 7) rfl d7 (ao (k := 9) rfl d9 af))) (by simp only [C0_,Z8_T,Z8_L,d7,hi,bE]) (by simp [C0_,Z8_T,Z8_L,up,d7,bE]) (fo (cs := [I p0_0,L0,I a1_0]) (cs' := [I p0_0,(ga3 7),I a1_0]) (sv := (ga3 7)) (L' := [bE (D 7) emp (bE (D 6) (own (ga3 6) 81 4 1 (al (⟨a1_0,a1_1,a1_2,x6⟩ : aH) sv6)) emp),(hown (ga3 7) 81 4 al 87 6 an am (([] : List aH) ++ [(⟨a1_0,a1_1,a1_2,x6⟩ : aH)])),own sv0 87 6 l0.length (fl aD l0),bE (D 7) emp (own sv6 87 6 x6.length (fl aD x6)),box b2 81 [I a1_0,I a1_1,I a1_2,sv6],box p0 93 [I p0_0,(ga3 7),I a1_0]]) 5 1 rfl rfl jJ rfl rfl pV rfl (by simp [C0_,Z8_T,Z8_L]) rfl) (kZ rfl)
   ·intro D hall
    refine aU (S := fun ga3 => Z8_I ga3 D) fun ga3 => ?_
    refine ci [emp,(hown (ga3 7) 81 4 al 87 6 an am (([] : List aH) ++ [(⟨a1_0,a1_1,a1_2,x6⟩ : aH)])),own sv0 87 6 l0.length (fl aD l0),emp,box b2 81 [I a1_0,I a1_1,I a1_2,sv6],box p0 93 [I p0_0,(ga3 7),I a1_0]] (by simp only [C0_,Z8_T,Z8_L,hall 6 (by decide),hall 7 (by decide),hall 10 (by decide),bE]) (hL hall rfl) ?_
    refine mW 1 rfl fun sv8 hsv8 => ?_
    rw [← hsv8]
    refine eC [emp,(bv sv8 81 4 al 87 6 an am (([] : List aH) ++ [(⟨a1_0,a1_1,a1_2,x6⟩ : aH)])),own sv0 87 6 l0.length (fl aD l0),emp,box b2 81 [I a1_0,I a1_1,I a1_2,sv6],box p0 93 [I p0_0,sv8.sv,I a1_0]] rfl ?_
    refine ag (ae (vA rfl rfl (ai (aI ?_))))
    cases H
    refine vP [5,1,2] rfl rfl ?_
    exact aV rfl rfl ⟨sv8,rfl,rfl⟩
theorem eJ.spec (p0 : Nat) (sv0 : JG) (p0_0 : Int) (l0 : List aH) (p0_2 : Int) (r : Unit) (H : eJ p0_0 l0 p0_2 = r) : bo Tryz.prog 91 [pt p0 0] [box p0 93 [I p0_0,sv0.sv,I p0_2],(bv sv0 81 4 al 87 6 an am l0)] (fun v M => v = sv0.sv ∧ M = [box p0 93 [I p0_0,sv0.sv,I p0_2],(bv sv0 81 4 al 87 6 an am l0)]) := by
 unfold eJ at H
 refine bp Tryz.func91 rfl 9 rfl (nL rfl) fun F w0 => ?_
 show cD (St 9 w0 F [(0,pt p0 0)] [box p0 93 [I p0_0,sv0.sv,I p0_2],(bv sv0 81 4 al 87 6 an am l0)]) _
 refine ag (ae (vA rfl rfl (ai (ag (ag (ae (vM rfl rfl ?_)))))))
 refine vV (aG rfl rfl (gS (fun w => rfl) rfl (lE Tryz.underlying25 _ _))) rfl ?_
 refine ai (aA rfl rfl (aX (ag (ae (vM rfl rfl (vV (bm rfl) rfl (vV (az (sz := 0) (o := 0) rfl jN jJ) rfl (vV (aP (v := sv0.sv) rfl pk (aJ (i := 0) rfl rfl)) rfl (vA rfl rfl (ai (aI ?_)))))))))))
 cases H
 refine vP [0,1] rfl rfl ?_
 exact aV rfl rfl ⟨rfl,rfl⟩
theorem lH.spec (K : Nat) (sv0 : JG) (l0 : List aH) (a1 a2 : Int) (r : List aC) (H : lH K l0 a1 a2 = some r) : bo Tryz.prog 93 [sv0.sv,I a1,I a2] [(bv sv0 81 4 al 87 6 an am l0)] (fun v M => ∃ sv165 : Value,v = sv165 ∧ M = [(bv sv0 81 4 al 87 6 an am l0),own sv165 87 6 r.length (fl aD r)]) := by
 unfold lH at H
 refine bp Tryz.func93 rfl 43 rfl (nL rfl) fun F w0 => ?_
 show cD (St 43 w0 F [(0,sv0.sv),(1,I a1),(2,I a2)] [(bv sv0 81 4 al 87 6 an am l0)]) _
 refine ag (ae (vA rfl rfl (ai (ag (ag (ae (vM rfl rfl (vV (cp 0 rfl dJ rfl br) rfl (vM rfl rfl (ai (be ?_)))))))))))
 refine cf (fun k a w => ∃ i26,∃ l35,∃ sv275 : Value,jD K l0 a1 a2 k i26 l35 = some r ∧ St 43 w0 F [(1,I a1),(2,I a2),(6,sv275),(11,sv0.sv),(12,I (l0.length : Int)),(13,I i26)] [(bv sv0 81 4 al 87 6 an am l0),own sv275 87 6 l35.length (fl aD l35)] a w) K ?_ ?_
 ·refine cQ 87 6 ?_
  exact vF [1,0] rfl rfl (vS [1,2,6,11,12,13] rfl) fun a w h => ⟨_,_,_,H,h⟩
 ·refine fun k => aU fun i26 => aU fun l35 => aU fun sv275 => co fun H37 => ?_
  let C1_ : List Value := [I ((l0.getD i26.toNat ap).Seq),I ((l0.getD i26.toNat ap).Tick),I ((l0.getD i26.toNat ap).Budget),(sv0.vs i26.toNat)]
  cases k with
  | zero => exact absurd H37 (by simp [C1_,jD])
  | succ k =>
   rw [jD] at H37
   refine ag (ae (vV (aG rfl rfl (cN _ _ _)) rfl (ai (ag ?_))))
   refine gQ H37 (fun c654 H37 => ?_) fun c654 H37 => ?_
   ·refine aA rfl (dF c654) (bR (ag (ae (vM rfl rfl (vA rfl rfl (ai (aI ?_)))))))
    cases H37
    refine vP [0,1] rfl rfl ?_
    exact aV rfl rfl ⟨_,rfl,rfl⟩
   refine aB rfl (dT c654) (aX ?_)
   obtain ⟨x12,H39,H37⟩ := oB H37
   refine cg (fun a w => ∃ sv316 : Value,St 43 w0 F [(1,I a1),(2,I a2),(6,sv316),(11,sv0.sv),(12,I (l0.length : Int)),(13,I i26)] [(bv sv0 81 4 al 87 6 an am l0),own sv316 87 6 x12.length (fl aD x12)] a w) ?_ ?_
   ·refine be (ag (ae ?_))
    obtain ⟨c684,H39⟩ := gv H39
    refine vV (bf (sz := 3) 0 rfl rfl dJ cC rfl br c684 c654) rfl ?_
    refine vV (bi (vs := C1_) rfl jn cC (bH (i := 0) rfl br (by simp [C1_]) (oj (z := ap) dH (bB c684 c654) rfl))) rfl ?_
    refine aQ (dY gy) rfl rfl rfl ?_
    rintro _ _ ⟨b162,rfl,rfl⟩
    refine cl (cn (cs := [I 0,I 0,I 0,L0]) (cs' := C1_) (us := C1_) (L' := [box b162 81 C1_,(bv sv0 81 4 al 87 6 an am l0),own sv275 87 6 l35.length (fl aD l35)]) 0 rfl rfl rfl (gT rfl (gT rfl (gT rfl (oK 1 rfl (show da _ _ ((l0.getD i26.toNat ap).Facts).length 6 (fl aD ((l0.getD i26.toNat ap).Facts)) from il (z := ap) (bB c684 c654)) nF)))) cC rfl rfl (by simp [C1_]) rfl) rfl rfl ?_
    rintro _ _ rfl
    refine ai (ag (ae (vV (az (sz := 0) (o := 0) rfl dx cK) rfl (vV (aP (v := (sv0.vs i26.toNat)) rfl fA (aJ (i := 0) rfl rfl)) rfl (vV (cp 1 rfl bA rfl (show da _ _ ((l0.getD i26.toNat ap).Facts).length 6 (fl aD ((l0.getD i26.toNat ap).Facts)) from il (z := ap) (bB c684 c654))) rfl (vM rfl rfl (ai (be ?_))))))))
    refine cf (fun k a w => ∃ i30,∃ l41,∃ sv321 : Value,ij K l0 a1 a2 i26 k i30 l41 = some x12 ∧ St 43 w0 F [(1,I a1),(2,I a2),(6,sv321),(11,sv0.sv),(12,I (l0.length : Int)),(13,I i26),(18,(sv0.vs i26.toNat)),(19,I (((l0.getD i26.toNat ap).Facts).length : Int)),(20,I i30)] [(bv sv0 81 4 al 87 6 an am l0),own sv321 87 6 l41.length (fl aD l41)] a w) K ?_ ?_
    ·exact vF [1,2] rfl rfl (vS [1,2,6,11,12,13,18,19,20] rfl) fun a w h => ⟨_,_,_,H39,h⟩
    ·refine fun k => aU fun i30 => aU fun l41 => aU fun sv321 => co fun H40 => ?_
     let C0_ : List Value := [I (((((l0.getD i26.toNat ap).Facts).getD i30.toNat ab).Key).Hour),cY (((((l0.getD i26.toNat ap).Facts).getD i30.toNat ab).Key).Dims_0),cY (((((l0.getD i26.toNat ap).Facts).getD i30.toNat ab).Key).Dims_1),cY (((((l0.getD i26.toNat ap).Facts).getD i30.toNat ab).Key).Dims_2),cY (((((l0.getD i26.toNat ap).Facts).getD i30.toNat ab).Key).Dims_3),I ((((l0.getD i26.toNat ap).Facts).getD i30.toNat ab).Value)]
     cases k with
     | zero => exact absurd H40 (by simp [C1_,C0_,ij])
     | succ k =>
      rw [ij] at H40
      refine ag (ae (vV (aG rfl rfl (cN _ _ _)) rfl (ai (ag ?_))))
      refine gQ H40 (fun c704 H40 => ?_) fun c704 H40 => ?_
      ·refine aA rfl (dF c704) (bR ?_)
       cases H40
       exact vF [0,1] rfl rfl (vS [1,2,6,11,12,13] rfl) fun a w h => ⟨_,h⟩
      refine aB rfl (dT c704) (aX (ag (be (ag (ae ?_)))))
      obtain ⟨c709,H40⟩ := gv H40
      refine vV (bf (sz := 5) 0 rfl rfl bA bK rfl (show da _ _ ((l0.getD i26.toNat ap).Facts).length 6 (fl aD ((l0.getD i26.toNat ap).Facts)) from il (z := ap) (bB c684 c654)) c709 c704) rfl ?_
      refine vV (bi (vs := C0_) rfl gG bK (bH (i := 0) rfl (show da _ _ ((l0.getD i26.toNat ap).Facts).length 6 (fl aD ((l0.getD i26.toNat ap).Facts)) from il (z := ap) (bB c684 c654)) (by simp [C1_,C0_]) (dP bJ (bB c709 c704) rfl))) rfl ?_
      refine aQ (dY fS) rfl rfl rfl ?_
      rintro _ _ ⟨b168,rfl,rfl⟩
      refine cl (cn (cs := [I 0,S0,S0,S0,S0,I 0]) (cs' := C0_) (us := C0_) (L' := [box b168 87 C0_,(bv sv0 81 4 al 87 6 an am l0),own sv321 87 6 l41.length (fl aD l41)]) 0 rfl rfl rfl (dO rfl) bK rfl rfl (by simp [C1_,C0_]) rfl) rfl rfl ?_
      rintro _ _ rfl
      refine ai (ag (ae (vV (az (sz := 4) (o := 0) rfl di eG) rfl (vV (az (sz := 0) (o := 0) rfl eN bd) rfl (vV (aP (v := (I (((((l0.getD i26.toNat ap).Facts).getD i30.toNat ab).Key).Hour))) rfl bl (aJ (i := 0) rfl rfl)) rfl (vM rfl rfl (vV (aG rfl rfl (jZ _ _ _)) rfl (vM rfl rfl ?_))))))))
      refine gQ H40 (fun c710 H40 => ?_) fun c710 H40 => ?_
      ·refine av rfl rfl rfl (dF c710) rfl rfl ?_
       refine av rfl rfl rfl (dF c710) rfl rfl ?_
       refine av rfl rfl rfl (dF c710) rfl rfl ?_
       refine av rfl rfl rfl (dF c710) rfl rfl ?_
       refine av rfl rfl rfl (dF c710) rfl rfl ?_
       refine vV (aO rfl rfl rfl (bZ (dF c710))) rfl (ai (aA rfl rfl (aX (ae (vV (aG rfl rfl (cj _ _ _) ) rfl (vM rfl rfl (ai ?_)))))))
       exact vF [1,2] rfl rfl (vS [1,2,6,11,12,13,18,19,20] rfl) fun a w h => ⟨k,Nat.lt_succ_self k,_,_,_,H40,h⟩
      refine aq (az (sz := 4) (o := 0) rfl di eG) rfl rfl rfl (dT c710) rfl rfl ?_
      refine aq (az (sz := 0) (o := 0) rfl eN bd) rfl rfl rfl (dT c710) rfl rfl ?_
      refine aq (aP (v := (I (((((l0.getD i26.toNat ap).Facts).getD i30.toNat ab).Key).Hour))) rfl bl (aJ (i := 0) rfl rfl)) rfl rfl rfl (dT c710) rfl rfl ?_
      refine aq (aM rfl) rfl rfl rfl (dT c710) rfl rfl ?_
      refine aq (aG rfl rfl (cN _ _ _)) rfl rfl rfl (dT c710) rfl rfl ?_
      refine vV (aO rfl rfl rfl (cc (dT c710))) rfl (ai ?_)
      refine gQ H40 (fun c711 H40 => ?_) fun c711 H40 => ?_
      ·refine aA rfl (dF c711) (aX (ae (vV (aG rfl rfl (cj _ _ _) ) rfl (vM rfl rfl (ai ?_)))))
       exact vF [1,2] rfl rfl (vS [1,2,6,11,12,13,18,19,20] rfl) fun a w h => ⟨k,Nat.lt_succ_self k,_,_,_,H40,h⟩
      refine aB rfl (dT c711) (ae (vM rfl rfl (vV (bi (vs := C0_) rfl gG bK (bD (i := 0) rfl)) rfl ?_)))
      refine aQ (bI (sz := 5) (xs := [.tmp 37]) (cs := fl aD [(⟨(⟨((((l0.getD i26.toNat ap).Facts).getD i30.toNat ab).Key).Hour,((((l0.getD i26.toNat ap).Facts).getD i30.toNat ab).Key).Dims_0,((((l0.getD i26.toNat ap).Facts).getD i30.toNat ab).Key).Dims_1,((((l0.getD i26.toNat ap).Facts).getD i30.toNat ab).Key).Dims_2,((((l0.getD i26.toNat ap).Facts).getD i30.toNat ab).Key).Dims_3⟩ : bc),(((l0.getD i26.toNat ap).Facts).getD i30.toNat ab).Value⟩ : aC)]) rfl rfl bA bK fS rfl rfl (cM rfl) rfl (by decide)) rfl rfl rfl ?_
      rintro sv328 _ rfl
      obtain ⟨c712,H40⟩ := gv H40
      refine aQ (cb (sz := 5) (xs := l41) (ys := [(⟨(⟨((((l0.getD i26.toNat ap).Facts).getD i30.toNat ab).Key).Hour,((((l0.getD i26.toNat ap).Facts).getD i30.toNat ab).Key).Dims_0,((((l0.getD i26.toNat ap).Facts).getD i30.toNat ab).Key).Dims_1,((((l0.getD i26.toNat ap).Facts).getD i30.toNat ab).Key).Dims_2,((((l0.getD i26.toNat ap).Facts).getD i30.toNat ab).Key).Dims_3⟩ : bc),(((l0.getD i26.toNat ap).Facts).getD i30.toNat ab).Value⟩ : aC)]) 3 0 rfl rfl bA bK fS rfl mM rfl rfl rfl (aS 87) rfl kl c712) rfl rfl rfl ?_
      rintro sv329 _ rfl
      refine eC [own sv328 87 6 [(⟨(⟨((((l0.getD i26.toNat ap).Facts).getD i30.toNat ab).Key).Hour,((((l0.getD i26.toNat ap).Facts).getD i30.toNat ab).Key).Dims_0,((((l0.getD i26.toNat ap).Facts).getD i30.toNat ab).Key).Dims_1,((((l0.getD i26.toNat ap).Facts).getD i30.toNat ab).Key).Dims_2,((((l0.getD i26.toNat ap).Facts).getD i30.toNat ab).Key).Dims_3⟩ : bc),(((l0.getD i26.toNat ap).Facts).getD i30.toNat ab).Value⟩ : aC)].length (fl aD [(⟨(⟨((((l0.getD i26.toNat ap).Facts).getD i30.toNat ab).Key).Hour,((((l0.getD i26.toNat ap).Facts).getD i30.toNat ab).Key).Dims_0,((((l0.getD i26.toNat ap).Facts).getD i30.toNat ab).Key).Dims_1,((((l0.getD i26.toNat ap).Facts).getD i30.toNat ab).Key).Dims_2,((((l0.getD i26.toNat ap).Facts).getD i30.toNat ab).Key).Dims_3⟩ : bc),(((l0.getD i26.toNat ap).Facts).getD i30.toNat ab).Value⟩ : aC)]),box b168 87 C0_,(bv sv0 81 4 al 87 6 an am l0),own sv329 87 6 (l41 ++ [(⟨(⟨((((l0.getD i26.toNat ap).Facts).getD i30.toNat ab).Key).Hour,((((l0.getD i26.toNat ap).Facts).getD i30.toNat ab).Key).Dims_0,((((l0.getD i26.toNat ap).Facts).getD i30.toNat ab).Key).Dims_1,((((l0.getD i26.toNat ap).Facts).getD i30.toNat ab).Key).Dims_2,((((l0.getD i26.toNat ap).Facts).getD i30.toNat ab).Key).Dims_3⟩ : bc),(((l0.getD i26.toNat ap).Facts).getD i30.toNat ab).Value⟩ : aC)]).length (fl aD (l41 ++ [(⟨(⟨((((l0.getD i26.toNat ap).Facts).getD i30.toNat ab).Key).Hour,((((l0.getD i26.toNat ap).Facts).getD i30.toNat ab).Key).Dims_0,((((l0.getD i26.toNat ap).Facts).getD i30.toNat ab).Key).Dims_1,((((l0.getD i26.toNat ap).Facts).getD i30.toNat ab).Key).Dims_2,((((l0.getD i26.toNat ap).Facts).getD i30.toNat ab).Key).Dims_3⟩ : bc),(((l0.getD i26.toNat ap).Facts).getD i30.toNat ab).Value⟩ : aC)]))] rfl ?_
      refine vA rfl rfl (ai (ae (vV (aG rfl rfl (cj _ _ _) ) rfl (vM rfl rfl (ai ?_)))))
      exact vF [2,3] rfl rfl (vS [1,2,6,11,12,13,18,19,20] rfl) fun a w h => ⟨k,Nat.lt_succ_self k,_,_,_,H40,h⟩
   ·refine aU fun sv316 => ?_
    refine ae (vV (aG rfl rfl (cj _ _ _) ) rfl (vM rfl rfl (ai ?_)))
    exact vF [0,1] rfl rfl (vS [1,2,6,11,12,13] rfl) fun a w h => ⟨k,Nat.lt_succ_self k,_,_,_,H37,h⟩
theorem fK.spec (K p0 : Nat) (sv0 : JG) (p0_0 : Int) (l0 : List aH) (p0_2 a1 a2 : Int) (r : List aC) (H : fK K p0_0 l0 p0_2 a1 a2 = some r) : bo Tryz.prog 51 [pt p0 0,I a1,I a2] [box p0 93 [I p0_0,sv0.sv,I p0_2],(bv sv0 81 4 al 87 6 an am l0)] (fun v M => ∃ sv2 : Value,v = sv2 ∧ M = [box p0 93 [I p0_0,sv0.sv,I p0_2],(bv sv0 81 4 al 87 6 an am l0),own sv2 87 6 r.length (fl aD r)]) := by
 unfold fK at H
 refine bp Tryz.func51 rfl 12 rfl (nL rfl) fun F w0 => ?_
 show cD (St 12 w0 F [(0,pt p0 0),(1,I a1),(2,I a2)] [box p0 93 [I p0_0,sv0.sv,I p0_2],(bv sv0 81 4 al 87 6 an am l0)]) _
 refine ag (ae (vA rfl rfl (ai (ag (ae (vM rfl rfl ?_))))))
 obtain ⟨u2,h3,H⟩ := bS H
 refine aQ (bC (Lr := []) [0,1] [0,1] (first := []) (cap := []) (xs := [.tmp 7]) rfl rfl ot rfl (eJ.spec p0 sv0 p0_0 l0 p0_2 _ h3) (by decide) rfl (by decide) rfl) rfl rfl rfl ?_
 rintro _ _ ⟨rfl,rfl⟩
 refine vM rfl rfl (vM rfl rfl ?_)
 obtain ⟨x2,h4,H⟩ := oB H
 refine vP [1,0] rfl rfl ?_
 refine aQ (bG (Lr := [box p0 93 [I p0_0,sv0.sv,I p0_2]]) (first := []) (cap := []) (xs := [.tmp 8,.tmp 9,.tmp 10]) rfl rfl xV rfl (lH.spec K sv0 l0 a1 a2 _ h4) rfl) rfl rfl rfl ?_
 rintro sv3 _ ⟨_,⟨_,rfl,rfl⟩,rfl⟩
 refine vA rfl rfl (ai (aI ?_))
 cases H
 refine vP [2,0,1] rfl rfl ?_
 exact aV rfl rfl ⟨_,rfl,rfl⟩
theorem eH.spec (sv0 : Value) (l0 : List Int) (r : List Int) (H : eH l0 = some r) : bo Tryz.prog 122 [sv0] [own sv0 2 1 l0.length (fl (eI .i64) l0)] (fun v M => v = (tU #[]) ∧ M = [own sv0 2 1 r.length (fl (eI .i64) r)]) := by
 unfold eH at H
 split at H
 ·cases H
  exact A6 sv0 l0 (by omega)
 ·cases H
theorem dR.spec (sv0 : Value) (l0 : List Int) (r : List Int) (H : dR l0 = some r) : bo Tryz.prog 123 [sv0] [own sv0 2 1 l0.length (fl (eI .i64) l0)] (fun v M => ∃ sv2 : Value,v = sv2 ∧ M = [own sv2 2 1 r.length (fl (eI .i64) r)]) := by
 unfold dR at H
 split at H
 ·cases H
  exact vC sv0 l0 (by omega)
 ·cases H
theorem kB.spec (K : Nat) (sv0 : Value) (A0 : HP) (l0 : List aC) (hA0 : da A0 sv0 l0.length 6 (fl aD l0)) (r : List Int) (H : kB K l0 = some r) : bo Tryz.prog 79 [sv0] [A0] (fun v M => ∃ sv29 : Value,v = sv29 ∧ M = [A0,own sv29 2 1 r.length (fl (eI .i64) r)]) := by
 unfold kB at H
 refine bp Tryz.func79 rfl 22 rfl (nL rfl) fun F w0 => ?_
 show cD (St 22 w0 F [(0,sv0)] [A0]) _
 refine ag (ae (vA rfl rfl (ai ?_)))
 obtain ⟨x4,H5,H⟩ := oB H
 refine cg (fun a w => ∃ sv43 : Value,St 22 w0 F [(2,sv43)] [A0,own sv43 2 1 x4.length (fl (eI .i64) x4)] a w) ?_ ?_
 ·refine ag (ae (vM rfl rfl (vV (cp 0 rfl bA rfl hA0) rfl (vM rfl rfl (ai (be ?_))))))
  refine cf (fun k a w => ∃ i4,∃ l7,∃ sv48 : Value,jl K l0 k i4 l7 = some x4 ∧ St 22 w0 F [(2,sv48),(5,sv0),(6,I (l0.length : Int)),(7,I i4)] [A0,own sv48 2 1 l7.length (fl (eI .i64) l7)] a w) K ?_ ?_
  ·refine cQ 2 1 ?_
   exact vF [1,0] rfl rfl (vS [2,5,6,7] rfl) fun a w h => ⟨_,_,_,H5,h⟩
  ·refine fun k => aU fun i4 => aU fun l7 => aU fun sv48 => co fun H6 => ?_
   let C0_ : List Value := [I (((l0.getD i4.toNat ab).Key).Hour),cY (((l0.getD i4.toNat ab).Key).Dims_0),cY (((l0.getD i4.toNat ab).Key).Dims_1),cY (((l0.getD i4.toNat ab).Key).Dims_2),cY (((l0.getD i4.toNat ab).Key).Dims_3),I ((l0.getD i4.toNat ab).Value)]
   cases k with
   | zero => exact absurd H6 (by simp [C0_,jl])
   | succ k =>
    rw [jl] at H6
    refine ag (ae (vV (aG rfl rfl (cN _ _ _)) rfl (ai (ag ?_))))
    refine gQ H6 (fun c60 H6 => ?_) fun c60 H6 => ?_
    ·refine aA rfl (dF c60) (bR ?_)
     cases H6
     exact vF [0,1] rfl rfl (vS [2] rfl) fun a w h => ⟨_,h⟩
    refine aB rfl (dT c60) (aX (ag (be (ag (ae ?_)))))
    obtain ⟨c63,H6⟩ := gv H6
    refine vV (bf (sz := 5) 0 rfl rfl bA bK rfl hA0 c63 c60) rfl ?_
    refine vV (bi (vs := C0_) rfl gG bK (bH (i := 0) rfl hA0 (by simp [C0_]) (dP bJ (bB c63 c60) rfl))) rfl ?_
    refine aQ (dY fS) rfl rfl rfl ?_
    rintro _ _ ⟨b24,rfl,rfl⟩
    refine cl (cn (cs := [I 0,S0,S0,S0,S0,I 0]) (cs' := C0_) (us := C0_) (L' := [box b24 87 C0_,A0,own sv48 2 1 l7.length (fl (eI .i64) l7)]) 0 rfl rfl rfl (dO rfl) bK rfl rfl (by simp [C0_]) rfl) rfl rfl ?_
    rintro _ _ rfl
    refine ai (ae (vM rfl rfl (vV (az (sz := 4) (o := 0) rfl di eG) rfl (vV (az (sz := 0) (o := 0) rfl eN bd) rfl (vV (aP (v := (I (((l0.getD i4.toNat ab).Key).Hour))) rfl bl (aJ (i := 0) rfl rfl)) rfl ?_)))))
    refine aQ (bI (sz := 0) (xs := [.tmp 14]) (cs := fl (eI .i64) [((l0.getD i4.toNat ab).Key).Hour]) rfl rfl dp bd kC rfl rfl (cM rfl) rfl (by decide)) rfl rfl rfl ?_
    rintro sv55 _ rfl
    obtain ⟨c64,H6⟩ := gv H6
    refine aQ (cb (sz := 0) (xs := l7) (ys := [((l0.getD i4.toNat ab).Key).Hour]) 3 0 rfl rfl dp bd kC rfl lX rfl rfl rfl (aS 2) rfl (iE _) c64) rfl rfl rfl ?_
    rintro sv56 _ rfl
    refine eC [own sv55 2 1 [((l0.getD i4.toNat ab).Key).Hour].length (fl (eI .i64) [((l0.getD i4.toNat ab).Key).Hour]),box b24 87 C0_,A0,own sv56 2 1 (l7 ++ [((l0.getD i4.toNat ab).Key).Hour]).length (fl (eI .i64) (l7 ++ [((l0.getD i4.toNat ab).Key).Hour]))] rfl ?_
    refine vA rfl rfl (ai (ae (vV (aG rfl rfl (cj _ _ _) ) rfl (vM rfl rfl (ai ?_)))))
    exact vF [2,3] rfl rfl (vS [2,5,6,7] rfl) fun a w h => ⟨k,Nat.lt_succ_self k,_,_,_,H6,h⟩
 ·refine aU fun sv43 => ?_
  refine ag (ae (vM rfl rfl ?_))
  obtain ⟨x5,h3,H⟩ := oB H
  refine vP [1,0] rfl rfl ?_
  refine aQ (bG (Lr := [A0]) (first := []) (cap := []) (xs := [.tmp 18]) rfl rfl vu rfl (eH.spec sv43 x4 _ h3) rfl) rfl rfl rfl ?_
  rintro _ _ ⟨_,⟨rfl,rfl⟩,rfl⟩
  refine ai (ag (ae (vM rfl rfl ?_)))
  obtain ⟨x6,h4,H⟩ := oB H
  refine aQ (bG (Lr := [A0]) (first := []) (cap := []) (xs := [.tmp 20]) rfl rfl ww rfl (dR.spec sv43 x5 _ h4) rfl) rfl rfl rfl ?_
  rintro sv57 _ ⟨_,⟨_,rfl,rfl⟩,rfl⟩
  refine vA rfl rfl (ai (aI ?_))
  cases H
  refine vP [1,0] rfl rfl ?_
  exact aV rfl rfl ⟨_,rfl,rfl⟩
theorem iK.spec (K p0 : Nat) (sv0 : JG) (p0_0 : Int) (l0 : List aH) (p0_2 : Int) (r : List Int) (H : iK K p0_0 l0 p0_2 = some r) : bo Tryz.prog 34 [pt p0 0] [box p0 93 [I p0_0,sv0.sv,I p0_2],(bv sv0 81 4 al 87 6 an am l0)] (fun v M => ∃ sv3 : Value,v = sv3 ∧ M = [box p0 93 [I p0_0,sv0.sv,I p0_2],(bv sv0 81 4 al 87 6 an am l0),own sv3 2 1 r.length (fl (eI .i64) r)]) := by
 unfold iK at H
 refine bp Tryz.func34 rfl 6 rfl (nL rfl) fun F w0 => ?_
 let C0_ : List HP := [box p0 93 [I p0_0,sv0.sv,I p0_2],(bv sv0 81 4 al 87 6 an am l0)]
 show cD (St 6 w0 F [(0,pt p0 0)] C0_) _
 refine ag (ae (vA rfl rfl (ai (ag (ae (vM rfl rfl ?_))))))
 obtain ⟨x3,h3,H⟩ := oB H
 refine aQ (bG (Lr := []) (first := []) (cap := []) (xs := [.tmp 3,.const (I 0),.const (I 4611686018427387904)]) rfl rfl qi rfl (fK.spec K p0 sv0 p0_0 l0 p0_2 0 4611686018427387904 _ h3) rfl) rfl rfl rfl ?_
 rintro sv4 _ ⟨_,⟨_,rfl,rfl⟩,rfl⟩
 obtain ⟨x4,h4,H⟩ := oB H
 refine vP [2,0,1] rfl rfl ?_
 refine aQ (bG (Lr := C0_) (first := []) (cap := []) (xs := [.tmp 4]) rfl rfl yC rfl (kB.spec K sv4 (own sv4 87 6 x3.length (fl aD x3)) x3 (aS 87) _ h4) rfl) rfl rfl rfl ?_
 rintro sv5 _ ⟨_,⟨_,rfl,rfl⟩,rfl⟩
 refine vA rfl rfl (ai (aI ?_))
 cases H
 refine vP [2,3,1] rfl rfl ?_
 exact aV rfl rfl ⟨_,rfl,rfl⟩
theorem kj.spec (p0 p1 : Nat) (a0 a1_0 : Int) (a1_1 : List UInt8) (a1_2 : List UInt8) (a1_3 : List UInt8) (a1_4 : List UInt8) (a1_5 p0_0 p1_0 : Int) (r : Bool) (H : kj a0 a1_0 a1_1 a1_2 a1_3 a1_4 a1_5 p0_0 p1_0 = r) : bo Tryz.prog 81 [I a0,agg #[I a1_0,cY a1_1,cY a1_2,cY a1_3,cY a1_4,I a1_5],pt p0 0,pt p1 0] [box p0 2 [I p0_0],box p1 2 [I p1_0]] (fun v M => v = (bool r) ∧ M = [box p0 2 [I p0_0],box p1 2 [I p1_0]]) := by
 unfold kj at H
 refine bp Tryz.func81 rfl 19 rfl (nL rfl) fun F w0 => ?_
 show cD (St 19 w0 F [(0,I a0),(1,agg #[I a1_0,cY a1_1,cY a1_2,cY a1_3,cY a1_4,I a1_5]),(2,pt p0 0),(3,pt p1 0)] [box p0 2 [I p0_0],box p1 2 [I p1_0]]) _
 refine ag (ae ?_)
 refine aQ (dy (cs := [I a1_0,cY a1_1,cY a1_2,cY a1_3,cY a1_4,I a1_5]) rfl rfl) rfl rfl rfl ?_
 rintro _ _ ⟨b2,rfl,rfl⟩
 refine vA rfl rfl (ai (ag (ae (vV (az (sz := 4) (o := 0) rfl di eG) rfl (vV (az (sz := 0) (o := 0) rfl eN bd) rfl (vV (aP (v := (I a1_0)) rfl bl (aJ (i := 0) rfl rfl)) rfl (vV (aP (v := (I p0_0)) rfl bl (aJ (i := 1) rfl rfl)) rfl (vV (aG rfl rfl (jZ _ _ _)) rfl (vM rfl rfl ?_)))))))))
 refine gQ H (fun c2 H => ?_) fun c2 H => ?_
 ·refine av rfl rfl rfl (dF c2) rfl rfl ?_
  refine av rfl rfl rfl (dF c2) rfl rfl ?_
  refine av rfl rfl rfl (dF c2) rfl rfl ?_
  refine av rfl rfl rfl (dF c2) rfl rfl ?_
  refine av rfl rfl rfl (dF c2) rfl rfl ?_
  refine vV (aO rfl rfl rfl (bZ (dF c2))) rfl (vA rfl rfl (ai (aI ?_)))
  cases H
  refine vP [1,2] rfl rfl ?_
  exact aV rfl rfl ⟨rfl,rfl⟩
 refine aq (az (sz := 4) (o := 0) rfl di eG) rfl rfl rfl (dT c2) rfl rfl ?_
 refine aq (az (sz := 0) (o := 0) rfl eN bd) rfl rfl rfl (dT c2) rfl rfl ?_
 refine aq (aP (v := (I a1_0)) rfl bl (aJ (i := 0) rfl rfl)) rfl rfl rfl (dT c2) rfl rfl ?_
 refine aq (aP (v := (I p1_0)) rfl bl (aJ (i := 2) rfl rfl)) rfl rfl rfl (dT c2) rfl rfl ?_
 refine aq (aG rfl rfl (cN _ _ _)) rfl rfl rfl (dT c2) rfl rfl ?_
 refine vV (aO rfl rfl rfl (cc (dT c2))) rfl (vA rfl rfl (ai (aI ?_)))
 cases H
 refine vP [1,2] rfl rfl ?_
 exact aV rfl rfl ⟨rfl,rfl⟩
theorem gW.spec (p0 p1 : Nat) (p2 p3 : Nat) (sv0 : Value) (A0 : HP) (a0_0 : Int) (a0_1 : List UInt8) (a0_2 : List UInt8) (a0_3 : List UInt8) (a0_4 : List UInt8) (a0_5 p1_0 : Int) (p2_0 p3_0 : Int) (p3_1 p3_2 : Int) (l0 : List aC) (hA0 : da A0 sv0 l0.length 6 (fl aD l0)) (r : Bool) (H : gW a0_0 a0_1 a0_2 a0_3 a0_4 a0_5 p1_0 p2_0 p3_0 p3_1 p3_2 l0 = r) : bo Tryz.prog 125 [agg #[I a0_0,cY a0_1,cY a0_2,cY a0_3,cY a0_4,I a0_5],pt p0 0,pt p3 0] [box p0 148 [(Value.func (.func 81) #[] #[pt p1 0,pt p2 0])],box p1 2 [I p1_0],box p2 2 [I p2_0],box p3 81 [I p3_0,I p3_1,I p3_2,sv0],A0] (fun v M => v = (bool r) ∧ M = [box p0 148 [(Value.func (.func 81) #[] #[pt p1 0,pt p2 0])],box p1 2 [I p1_0],box p2 2 [I p2_0],box p3 81 [I p3_0,I p3_1,I p3_2,sv0],A0]) := by
 unfold gW at H
 refine bp Tryz.func125 rfl 10 rfl (nL rfl) fun F w0 => ?_
 let C0_ : List Value := [I a0_0,cY a0_1,cY a0_2,cY a0_3,cY a0_4,I a0_5]
 show cD (St 10 w0 F [(0,agg #[I a0_0,cY a0_1,cY a0_2,cY a0_3,cY a0_4,I a0_5]),(1,pt p0 0),(2,pt p3 0)] [box p0 148 [(Value.func (.func 81) #[] #[pt p1 0,pt p2 0])],box p1 2 [I p1_0],box p2 2 [I p2_0],box p3 81 [I p3_0,I p3_1,I p3_2,sv0],A0]) _
 refine ag (ae ?_)
 refine aQ (dy (cs := C0_) rfl rfl) rfl rfl rfl ?_
 rintro _ _ ⟨b2,rfl,rfl⟩
 refine vA rfl rfl (ai (ag (ae ?_)))
 refine vV (aP (v := (Value.func (.func 81) #[] #[pt p1 0,pt p2 0])) rfl sV (aJ (i := 1) rfl rfl)) rfl ?_
 refine vV (az (sz := 0) (o := 0) rfl iW bd) rfl (vV (aP (v := (I p3_0)) rfl bl (aJ (i := 4) rfl rfl)) rfl (vV (bi (vs := C0_) rfl gG bK (bD (i := 0) rfl)) rfl ?_))
 obtain ⟨x2,h2,H⟩ := bS H
 refine aQ (bC (Lr := [box b2 87 C0_,box p0 148 [(Value.func (.func 81) #[] #[pt p1 0,pt p2 0])],box p3 81 [I p3_0,I p3_1,I p3_2,sv0],A0]) [2,3,0,1,4,5] [2,3,0,1,4,5] (first := []) (cap := [pt p1 0,pt p2 0]) (xs := [.tmp 7,.tmp 8]) rfl rfl yQ rfl (kj.spec p1 p2 p3_0 a0_0 a0_1 a0_2 a0_3 a0_4 a0_5 p1_0 p2_0 _ h2) (by decide) rfl (by decide) rfl) rfl rfl rfl ?_
 rintro _ _ ⟨rfl,rfl⟩
 refine vA rfl rfl (ai (aI ?_))
 cases H
 refine vP [1,2,3,4,5] rfl rfl ?_
 exact aV rfl rfl ⟨rfl,rfl⟩
theorem cJ.spec (K : Nat) (sv0 : Value) (A0 : HP) (p0 p1 : Nat) (p2 p3 : Nat) (sv1 : Value) (A1 : HP) (l0 : List aC) (p1_0 p2_0 : Int) (p3_0 p3_1 p3_2 : Int) (l1 : List aC) (hA0 : da A0 sv0 l0.length 6 (fl aD l0)) (hA1 : da A1 sv1 l1.length 6 (fl aD l1)) (r : Int) (H : cJ K l0 p1_0 p2_0 p3_0 p3_1 p3_2 l1 = some r) : bo Tryz.prog 161 [sv0,(Value.func (.func 125) #[] #[pt p0 0,pt p3 0])] [A0,box p0 148 [(Value.func (.func 81) #[] #[pt p1 0,pt p2 0])],box p1 2 [I p1_0],box p2 2 [I p2_0],box p3 81 [I p3_0,I p3_1,I p3_2,sv1],A1] (fun v M => v = (I r) ∧ M = [A0,box p0 148 [(Value.func (.func 81) #[] #[pt p1 0,pt p2 0])],box p1 2 [I p1_0],box p2 2 [I p2_0],box p3 81 [I p3_0,I p3_1,I p3_2,sv1],A1]) := by
 unfold cJ at H
 refine bp Tryz.func161 rfl 19 rfl (nL rfl) fun F w0 => ?_
 show cD (St 19 w0 F [(0,sv0),(1,(Value.func (.func 125) #[] #[pt p0 0,pt p3 0]))] [A0,box p0 148 [(Value.func (.func 81) #[] #[pt p1 0,pt p2 0])],box p1 2 [I p1_0],box p2 2 [I p2_0],box p3 81 [I p3_0,I p3_1,I p3_2,sv1],A1]) _
 refine ag (ae (vA rfl rfl (ai (ag (ag (ae (vM rfl rfl (vV (cp 0 rfl bA rfl hA0) rfl (vM rfl rfl (ai (be ?_)))))))))))
 refine cf (fun k a w => ∃ i5,cm K l0 p1_0 p2_0 p3_0 p3_1 p3_2 l1 k i5 = some r ∧ St 19 w0 F [(0,sv0),(1,(Value.func (.func 125) #[] #[pt p0 0,pt p3 0])),(7,I (l0.length : Int)),(8,I i5)] [A0,box p0 148 [(Value.func (.func 81) #[] #[pt p1 0,pt p2 0])],box p1 2 [I p1_0],box p2 2 [I p2_0],box p3 81 [I p3_0,I p3_1,I p3_2,sv1],A1] a w) K ?_ ?_
 ·exact vF [0,1,2,3,4,5] rfl rfl (vS [0,1,7,8] rfl) fun a w h => ⟨_,H,h⟩
 ·refine fun k => aU fun i5 => co fun H4 => ?_
  cases k with
  | zero => exact absurd H4 (by simp [cm])
  | succ k =>
   rw [cm] at H4
   refine ag (ae (vV (aG rfl rfl (cN _ _ _)) rfl (ai (ag ?_))))
   refine gQ H4 (fun c60 H4 => ?_) fun c60 H4 => ?_
   ·refine aA rfl (dF c60) (bR (ag (ae (vA rfl rfl (ai (aI ?_))))))
    cases H4
    refine vP [0,1,2,3,4,5] rfl rfl ?_
    exact aV rfl rfl ⟨rfl,rfl⟩
   refine aB rfl (dT c60) (aX (ag (be (ag (ae (vM rfl rfl (vA rfl rfl (ai (ag (ae (vM rfl rfl ?_)))))))))))
   refine vM rfl rfl (vM rfl rfl ?_)
   obtain ⟨c63,H4⟩ := gv H4
   refine vV (bf (sz := 5) 0 rfl rfl bA bK rfl hA0 c63 c60) rfl ?_
   refine vV (bi (vs := [I (((l0.getD i5.toNat ab).Key).Hour),cY (((l0.getD i5.toNat ab).Key).Dims_0),cY (((l0.getD i5.toNat ab).Key).Dims_1),cY (((l0.getD i5.toNat ab).Key).Dims_2),cY (((l0.getD i5.toNat ab).Key).Dims_3),I ((l0.getD i5.toNat ab).Value)]) rfl gG bK (bH (i := 0) rfl hA0 (by simp) (dP bJ (bB c63 c60) rfl))) rfl ?_
   obtain ⟨x24,h24,H4⟩ := bS H4
   refine aQ (bC (Lr := [A0]) [1,2,3,4,5,0] [5,0,1,2,3,4] (first := []) (cap := [pt p0 0,pt p3 0]) (xs := [.tmp 15]) rfl rfl nw rfl (gW.spec p0 p1 p2 p3 sv1 A1 (((l0.getD i5.toNat ab).Key).Hour) (((l0.getD i5.toNat ab).Key).Dims_0) (((l0.getD i5.toNat ab).Key).Dims_1) (((l0.getD i5.toNat ab).Key).Dims_2) (((l0.getD i5.toNat ab).Key).Dims_3) ((l0.getD i5.toNat ab).Value) p1_0 p2_0 p3_0 p3_1 p3_2 l1 hA1 _ h24) (by decide) rfl (by decide) rfl) rfl rfl rfl ?_
   rintro _ _ ⟨rfl,rfl⟩
   refine ai ?_
   refine ii H4 (fun c64 H4 => ?_) fun c64 H4 => ?_
   ·refine aB rfl c64 (ag (ae (vM rfl rfl (vA rfl rfl (ai (aI ?_))))))
    cases H4
    refine vP [0,1,2,3,4,5] rfl rfl ?_
    exact aV rfl rfl ⟨rfl,rfl⟩
   refine aA rfl (bF c64) (aX (ae (vV (aG rfl rfl (cj _ _ _) ) rfl (vM rfl rfl (ai ?_)))))
   exact vF [0,1,2,3,4,5] rfl rfl (vS [0,1,7,8] rfl) fun a w h => ⟨k,Nat.lt_succ_self k,_,H4,h⟩
theorem cv.spec (K : Nat) (sv0 : Value) (p0 p1 : Nat) (p2 p3 : Nat) (sv1 : Value) (A1 : HP) (l0 : List aC) (p1_0 p2_0 : Int) (p3_0 p3_1 p3_2 : Int) (l1 : List aC) (hA1 : da A1 sv1 l1.length 6 (fl aD l1)) (r : List aC) (H : cv K l0 p1_0 p2_0 p3_0 p3_1 p3_2 l1 = some r) : bo Tryz.prog 124 [sv0,(Value.func (.func 125) #[] #[pt p0 0,pt p3 0])] [own sv0 87 6 l0.length (fl aD l0),box p0 148 [(Value.func (.func 81) #[] #[pt p1 0,pt p2 0])],box p1 2 [I p1_0],box p2 2 [I p2_0],box p3 81 [I p3_0,I p3_1,I p3_2,sv1],A1] (fun v M => ∃ sv2 : Value,v = sv2 ∧ M = [box p0 148 [(Value.func (.func 81) #[] #[pt p1 0,pt p2 0])],box p1 2 [I p1_0],box p2 2 [I p2_0],box p3 81 [I p3_0,I p3_1,I p3_2,sv1],A1,own sv2 87 6 r.length (fl aD r)]) := by
 unfold cv at H
 refine bp Tryz.func124 rfl 42 rfl (nL rfl) fun F w0 => ?_
 show cD (St 42 w0 F [(0,sv0),(1,(Value.func (.func 125) #[] #[pt p0 0,pt p3 0]))] [own sv0 87 6 l0.length (fl aD l0),box p0 148 [(Value.func (.func 81) #[] #[pt p1 0,pt p2 0])],box p1 2 [I p1_0],box p2 2 [I p2_0],box p3 81 [I p3_0,I p3_1,I p3_2,sv1],A1]) _
 refine ag (ae (vA rfl rfl (ai (ag (ae (vM rfl rfl (vM rfl rfl ?_)))))))
 obtain ⟨x15,h14,H⟩ := oB H
 refine aQ (bC (Lr := []) [0,1,2,3,4,5] [0,1,2,3,4,5] (first := []) (cap := []) (xs := [.tmp 8,.tmp 9]) rfl rfl rv rfl (cJ.spec K sv0 (own sv0 87 6 l0.length (fl aD l0)) p0 p1 p2 p3 sv1 A1 l0 p1_0 p2_0 p3_0 p3_1 p3_2 l1 (aS 87) hA1 _ h14) (by decide) rfl (by decide) rfl) rfl rfl rfl ?_
 rintro _ _ ⟨rfl,rfl⟩
 refine vA rfl rfl (ai (ag (ag (ae (vM rfl rfl (vV (aG rfl rfl (fM _ _ _)) rfl (ai ?_)))))))
 refine ii H (fun c67 H => ?_) fun c67 H => ?_
 ·refine aB rfl (dB c67) (ag (ae (vM rfl rfl (vA rfl rfl (ai (aI ?_))))))
  cases H
  refine vP [1,2,3,4,5,0] rfl rfl ?_
  exact aV rfl rfl ⟨_,rfl,rfl⟩
 refine aA rfl (dD c67) (aX ?_)
 obtain ⟨x22,H5,H⟩ := oB H
 refine cg (fun a w => St 42 w0 F [(0,sv0),(5,I x22.2)] [own sv0 87 6 x22.1.length (fl aD x22.1),box p0 148 [(Value.func (.func 81) #[] #[pt p1 0,pt p2 0])],box p1 2 [I p1_0],box p2 2 [I p2_0],box p3 81 [I p3_0,I p3_1,I p3_2,sv1],A1] a w) ?_ ?_
 ·refine ag (ae (vM rfl rfl (vV (aG rfl rfl (cj _ _ _) ) rfl (vA rfl rfl (ai (be ?_))))))
  refine cf (fun k a w => ∃ i10,∃ i11,∃ l8,ca K p1_0 p2_0 p3_0 p3_1 p3_2 l1 k i10 i11 l8 = some x22 ∧ St 42 w0 F [(0,sv0),(1,(Value.func (.func 125) #[] #[pt p0 0,pt p3 0])),(5,I i10),(6,I i11)] [own sv0 87 6 l8.length (fl aD l8),box p0 148 [(Value.func (.func 81) #[] #[pt p1 0,pt p2 0])],box p1 2 [I p1_0],box p2 2 [I p2_0],box p3 81 [I p3_0,I p3_1,I p3_2,sv1],A1] a w) K ?_ ?_
  ·exact vF [0,1,2,3,4,5] rfl rfl (vS [0,1,5,6] rfl) fun a w h => ⟨_,_,_,H5,h⟩
  ·refine fun k => aU fun i10 => aU fun i11 => aU fun l8 => co fun H6 => ?_
   let C0_ : List Value := [I (((l8.getD i11.toNat ab).Key).Hour),cY (((l8.getD i11.toNat ab).Key).Dims_0),cY (((l8.getD i11.toNat ab).Key).Dims_1),cY (((l8.getD i11.toNat ab).Key).Dims_2),cY (((l8.getD i11.toNat ab).Key).Dims_3),I ((l8.getD i11.toNat ab).Value)]
   cases k with
   | zero => exact absurd H6 (by simp [C0_,ca])
   | succ k =>
    rw [ca] at H6
    refine ag (ag (ae (vM rfl rfl (vM rfl rfl (vV (cp 0 rfl bA rfl (aS 87)) rfl (vV (aG rfl rfl (cN _ _ _)) rfl (ai ?_)))))))
    refine gQ H6 (fun c119 H6 => ?_) fun c119 H6 => ?_
    ·refine aA rfl (dF c119) (bR ?_)
     cases H6
     exact vF [0,1,2,3,4,5] rfl rfl (vS [0,5] rfl) fun a w h => h
    refine aB rfl (dT c119) (aX (ag (be (ag (ae (vM rfl rfl (vM rfl rfl ?_)))))))
    obtain ⟨c124,H6⟩ := gv H6
    refine vV (bf (sz := 5) 0 rfl rfl bA bK rfl (aS 87) c124 c119) rfl ?_
    refine vV (bi (vs := C0_) rfl gG bK (bH (i := 0) rfl (aS 87) (by simp [C0_]) (dP bJ (bB c124 c119) rfl))) rfl ?_
    refine aQ (dY fS) rfl rfl rfl ?_
    rintro _ _ ⟨b24,rfl,rfl⟩
    refine cl (cn (cs := [I 0,S0,S0,S0,S0,I 0]) (cs' := C0_) (us := C0_) (L' := [box b24 87 C0_,own sv0 87 6 l8.length (fl aD l8),box p0 148 [(Value.func (.func 81) #[] #[pt p1 0,pt p2 0])],box p1 2 [I p1_0],box p2 2 [I p2_0],box p3 81 [I p3_0,I p3_1,I p3_2,sv1],A1]) 0 rfl rfl rfl (dO rfl) bK rfl rfl (by simp [C0_]) rfl) rfl rfl ?_
    rintro _ _ rfl
    refine ai (ag (ae (vM rfl rfl (vV (bi (vs := C0_) rfl gG bK (bD (i := 0) rfl)) rfl ?_))))
    obtain ⟨x28,h26,H6⟩ := bS H6
    refine aQ (bC (Lr := [box b24 87 C0_,own sv0 87 6 l8.length (fl aD l8)]) [2,3,4,5,6,0,1] [5,6,0,1,2,3,4] (first := []) (cap := [pt p0 0,pt p3 0]) (xs := [.tmp 27]) rfl rfl nw rfl (gW.spec p0 p1 p2 p3 sv1 A1 (((l8.getD i11.toNat ab).Key).Hour) (((l8.getD i11.toNat ab).Key).Dims_0) (((l8.getD i11.toNat ab).Key).Dims_1) (((l8.getD i11.toNat ab).Key).Dims_2) (((l8.getD i11.toNat ab).Key).Dims_3) ((l8.getD i11.toNat ab).Value) p1_0 p2_0 p3_0 p3_1 p3_2 l1 hA1 _ h26) (by decide) rfl (by decide) rfl) rfl rfl rfl ?_
    rintro _ _ ⟨rfl,rfl⟩
    refine vV (iU rfl (jv _)) rfl (ai ?_)
    refine gQ H6 (fun c125 H6 => ?_) fun c125 H6 => ?_
    ·refine aA rfl (bF c125) (aX (ae (vM rfl rfl (vV (aG rfl rfl (cj _ _ _) ) rfl (vA rfl rfl (ai ?_))))))
     exact vF [1,2,3,4,5,6] rfl rfl (vS [0,1,5,6] rfl) fun a w h => ⟨k,Nat.lt_succ_self k,_,_,_,H6,h⟩
    refine aB rfl c125 (ag (ae (vM rfl rfl (vM rfl rfl (vV (bi (vs := C0_) rfl gG bK (bD (i := 0) rfl)) rfl ?_)))))
    obtain ⟨c126,H6⟩ := gv H6
    obtain ⟨c127,H6⟩ := gv H6
    refine vV (bf (sz := 5) 1 rfl rfl bA bK rfl (aS 87) c126 c127) rfl ?_
    refine cl (qI (z := ab) (y := (⟨(⟨((l8.getD i11.toNat ab).Key).Hour,((l8.getD i11.toNat ab).Key).Dims_0,((l8.getD i11.toNat ab).Key).Dims_1,((l8.getD i11.toNat ab).Key).Dims_2,((l8.getD i11.toNat ab).Key).Dims_3⟩ : bc),(l8.getD i11.toNat ab).Value⟩ : aC)) (us := C0_) (L' := [box b24 87 C0_,own sv0 87 6 (l8.set i10.toNat (⟨(⟨((l8.getD i11.toNat ab).Key).Hour,((l8.getD i11.toNat ab).Key).Dims_0,((l8.getD i11.toNat ab).Key).Dims_1,((l8.getD i11.toNat ab).Key).Dims_2,((l8.getD i11.toNat ab).Key).Dims_3⟩ : bc),(l8.getD i11.toNat ab).Value⟩ : aC)).length (fl aD (l8.set i10.toNat (⟨(⟨((l8.getD i11.toNat ab).Key).Hour,((l8.getD i11.toNat ab).Key).Dims_0,((l8.getD i11.toNat ab).Key).Dims_1,((l8.getD i11.toNat ab).Key).Dims_2,((l8.getD i11.toNat ab).Key).Dims_3⟩ : bc),(l8.getD i11.toNat ab).Value⟩ : aC))),box p0 148 [(Value.func (.func 81) #[] #[pt p1 0,pt p2 0])],box p1 2 [I p1_0],box p2 2 [I p2_0],box p3 81 [I p3_0,I p3_1,I p3_2,sv1],A1]) 1 rfl rfl rfl (qP rfl) bK bJ (bB c126 c127) rfl rfl rfl rfl rfl) rfl rfl ?_
    rintro _ _ rfl
    refine ai (ae (vM rfl rfl (vV (aG rfl rfl (cj _ _ _) ) rfl (vA rfl rfl (ai (ae (vM rfl rfl (vV (aG rfl rfl (cj _ _ _) ) rfl (vA rfl rfl (ai ?_))))))))))
    exact vF [1,2,3,4,5,6] rfl rfl (vS [0,1,5,6] rfl) fun a w h => ⟨k,Nat.lt_succ_self k,_,_,_,H6,h⟩
 ·refine ag (ae (vM rfl rfl (vM rfl rfl ?_)))
  obtain ⟨c128,H⟩ := gv H
  obtain ⟨c129,H⟩ := gv H
  refine vV (lA 0 rfl rfl bA bK rfl (aS 87) c128 c129) rfl ?_
  refine cl (sP (sz := 5) (lo := x22.2.toNat) (z := ab) 0 rfl bA fS rfl bJ rfl rfl rfl (kK c128 c129)) rfl rfl ?_
  rintro _ _ rfl
  refine eC [own sv0 87 6 (x22.1.take x22.2.toNat ++ List.replicate (x22.1.length - x22.2.toNat) ab).length (fl aD (x22.1.take x22.2.toNat ++ List.replicate (x22.1.length - x22.2.toNat) ab)),box p0 148 [(Value.func (.func 81) #[] #[pt p1 0,pt p2 0])],box p1 2 [I p1_0],box p2 2 [I p2_0],box p3 81 [I p3_0,I p3_1,I p3_2,sv1],A1] rfl ?_
  refine ai (ag (ae (vM rfl rfl (vM rfl rfl ?_))))
  obtain ⟨c130,H⟩ := gv H
  refine vV (mi 0 rfl rfl bA bK rfl (aS 87) c128 c130) rfl (vA rfl rfl (ai (aI ?_)))
  refine kR 0 _ (own (iu sv0 0 x22.2.toNat 6) 87 6 ((x22.1.take x22.2.toNat ++ List.replicate (x22.1.length - x22.2.toNat) ab).take x22.2.toNat).length (fl aD ((x22.1.take x22.2.toNat ++ List.replicate (x22.1.length - x22.2.toNat) ab).take x22.2.toNat))) rfl (tg bJ (kK c128 c130)) rfl ?_
  refine eC [own (iu sv0 0 x22.2.toNat 6) 87 6 ((x22.1.take x22.2.toNat ++ List.replicate (x22.1.length - x22.2.toNat) ab).take x22.2.toNat).length (fl aD ((x22.1.take x22.2.toNat ++ List.replicate (x22.1.length - x22.2.toNat) ab).take x22.2.toNat)),box p0 148 [(Value.func (.func 81) #[] #[pt p1 0,pt p2 0])],box p1 2 [I p1_0],box p2 2 [I p2_0],box p3 81 [I p3_0,I p3_1,I p3_2,sv1],A1] rfl ?_
  cases H
  refine vP [1,2,3,4,5,0] rfl rfl ?_
  exact aV rfl rfl ⟨_,rfl,rfl⟩
theorem kG.spec (K p0 : Nat) (sv0 : JG) (p1 p2 : Nat) (p0_0 : Int) (l0 : List aH) (p0_2 p1_0 p2_0 : Int) (r : ((List aH) × Int)) (H : kG K p0_0 l0 p0_2 p1_0 p2_0 = some r) : bo Tryz.prog 80 [pt p0 0,(Value.func (.func 81) #[] #[pt p1 0,pt p2 0])] [box p0 93 [I p0_0,sv0.sv,I p0_2],(bv sv0 81 4 al 87 6 an am l0),box p1 2 [I p1_0],box p2 2 [I p2_0]] (fun v M => ∃ sv52 : JG,v = (I r.2) ∧ M = [box p0 93 [I p0_0,sv52.sv,I p0_2],(bv sv52 81 4 al 87 6 an am r.1),(bv sv0 81 4 al 87 6 an am l0),box p1 2 [I p1_0],box p2 2 [I p2_0]]) := by
 unfold kG at H
 refine bp Tryz.func80 rfl 48 rfl (nL rfl) fun F w0 => ?_
 show cD (St 48 w0 F [(0,pt p0 0),(1,(Value.func (.func 81) #[] #[pt p1 0,pt p2 0]))] [box p0 93 [I p0_0,sv0.sv,I p0_2],(bv sv0 81 4 al 87 6 an am l0),box p1 2 [I p1_0],box p2 2 [I p2_0]]) _
 refine ag (ae ?_)
 refine aQ (dy (cs := [(Value.func (.func 81) #[] #[pt p1 0,pt p2 0])]) rfl rfl) rfl rfl rfl ?_
 rintro _ _ ⟨b14,rfl,rfl⟩
 refine vA rfl rfl (ai (ag (ae (vA rfl rfl (ai ?_)))))
 obtain ⟨x38,H5,H⟩ := oB H
 refine cg (fun a w => ∃ sv78 : JG,St 48 w0 F [(0,pt p0 0),(4,I x38.2),(5,sv78.sv)] [box p0 93 [I p0_0,sv0.sv,I p0_2],(bv sv0 81 4 al 87 6 an am l0),box p1 2 [I p1_0],box p2 2 [I p2_0],(bv sv78 81 4 al 87 6 an am x38.1)] a w) ?_ ?_
 ·refine ag (ae (vM rfl rfl ?_))
  obtain ⟨u4,h40,H5⟩ := bS H5
  refine aQ (bC (Lr := [box b14 148 [(Value.func (.func 81) #[] #[pt p1 0,pt p2 0])],box p1 2 [I p1_0],box p2 2 [I p2_0]]) [1,2,0,3,4] [2,0,1,3,4] (first := []) (cap := []) (xs := [.tmp 9]) rfl rfl ot rfl (eJ.spec p0 sv0 p0_0 l0 p0_2 _ h40) (by decide) rfl (by decide) rfl) rfl rfl rfl ?_
  rintro _ _ ⟨rfl,rfl⟩
  refine vV (cp 2 rfl dJ rfl br) rfl (vM rfl rfl (ai (be ?_)))
  refine cf (fun k a w => ∃ i10,∃ i11,∃ l7,∃ sv87 : JG,hZ K l0 p1_0 p2_0 k i10 i11 l7 = some x38 ∧ St 48 w0 F [(0,pt p0 0),(3,pt b14 0),(4,I i10),(5,sv87.sv),(10,sv0.sv),(11,I (l0.length : Int)),(12,I i11)] [box p0 93 [I p0_0,sv0.sv,I p0_2],(bv sv0 81 4 al 87 6 an am l0),box p1 2 [I p1_0],box p2 2 [I p2_0],box b14 148 [(Value.func (.func 81) #[] #[pt p1 0,pt p2 0])],(bv sv87 81 4 al 87 6 an am l7)] a w) K ?_ ?_
  ·refine lP 81 4 al 87 6 an am ?_
   exact vF [2,3,4,5,1,0] rfl rfl (vS [0,3,4,5,10,11,12] rfl) fun a w h => ⟨_,_,_,nE,H5,h⟩
  ·refine fun k => aU fun i10 => aU fun i11 => aU fun l7 => aU fun sv87 => co fun H6 => ?_
   let C0_ : List Value := [I ((l0.getD i11.toNat ap).Seq),I ((l0.getD i11.toNat ap).Tick),I ((l0.getD i11.toNat ap).Budget),(sv0.vs i11.toNat)]
   cases k with
   | zero => exact absurd H6 (by simp [C0_,hZ])
   | succ k =>
    rw [hZ] at H6
    refine ag (ae (vV (aG rfl rfl (cN _ _ _)) rfl (ai (ag ?_))))
    refine gQ H6 (fun c82 H6 => ?_) fun c82 H6 => ?_
    ·refine aA rfl (dF c82) (bR ?_)
     cases H6
     exact vF [0,1,2,3,5] rfl rfl (vS [0,4,5] rfl) fun a w h => ⟨sv87,h⟩
    refine aB rfl (dT c82) (aX (ag (be (ag (ae ?_)))))
    obtain ⟨c86,H6⟩ := gv H6
    refine vV (bf (sz := 3) 1 rfl rfl dJ cC rfl br c86 c82) rfl ?_
    refine vV (bi (vs := C0_) rfl jn cC (bH (i := 1) rfl br (by simp [C0_]) (oj (z := ap) dH (bB c86 c82) rfl))) rfl ?_
    refine aQ (dY gy) rfl rfl rfl ?_
    rintro _ _ ⟨b26,rfl,rfl⟩
    refine cl (cn (cs := [I 0,I 0,I 0,L0]) (cs' := C0_) (us := C0_) (L' := [box b26 81 C0_,box p0 93 [I p0_0,sv0.sv,I p0_2],(bv sv0 81 4 al 87 6 an am l0),box p1 2 [I p1_0],box p2 2 [I p2_0],box b14 148 [(Value.func (.func 81) #[] #[pt p1 0,pt p2 0])],(bv sv87 81 4 al 87 6 an am l7)]) 0 rfl rfl rfl (gT rfl (gT rfl (gT rfl (oK 2 rfl (show da _ _ ((l0.getD i11.toNat ap).Facts).length 6 (fl aD ((l0.getD i11.toNat ap).Facts)) from il (z := ap) (bB c86 c82)) nF)))) cC rfl rfl (by simp [C0_]) rfl) rfl rfl ?_
    rintro _ _ rfl
    refine ai (ag (ae (vV (az (sz := 0) (o := 0) rfl dx cK) rfl (vV (aP (v := (sv0.vs i11.toNat)) rfl fA (aJ (i := 0) rfl rfl)) rfl (vV (cp 2 rfl bA rfl (show da _ _ ((l0.getD i11.toNat ap).Facts).length 6 (fl aD ((l0.getD i11.toNat ap).Facts)) from il (z := ap) (bB c86 c82))) rfl (vA rfl rfl (ai (ag (ae (vV (az (sz := 0) (o := 0) rfl dx cK) rfl (vV (aP (v := (sv0.vs i11.toNat)) rfl fA (aJ (i := 0) rfl rfl)) rfl ?_)))))))))))
    obtain ⟨x49,h51,H6⟩ := oB H6
    refine vP [2,0,1,3,4,5,6] rfl rfl ?_
    refine aQ (bG (Lr := [box b26 81 C0_,box p0 93 [I p0_0,sv0.sv,I p0_2],box p1 2 [I p1_0],box p2 2 [I p2_0],box b14 148 [(Value.func (.func 81) #[] #[pt p1 0,pt p2 0])],(bv sv87 81 4 al 87 6 an am l7)]) (first := []) (cap := []) (xs := [.tmp 20]) rfl rfl ng rfl (bz.spec (sv0.vs i11.toNat) (bv sv0 81 4 al 87 6 an am l0) ((l0.getD i11.toNat ap).Facts) (show da _ _ ((l0.getD i11.toNat ap).Facts).length 6 (fl aD ((l0.getD i11.toNat ap).Facts)) from il (z := ap) (bB c86 c82)) _ h51) rfl) rfl rfl rfl ?_
    rintro sv100 _ ⟨_,⟨_,rfl,rfl⟩,rfl⟩
    refine vV (iM (first := []) (cap := [.tmp 3,.tmp 7]) rfl rfl) rfl ?_
    obtain ⟨x50,h52,H6⟩ := oB H6
    refine vP [1,6,4,5,2,0,3,7] rfl rfl ?_
    refine aQ (bG (Lr := [box p0 93 [I p0_0,sv0.sv,I p0_2],(bv sv87 81 4 al 87 6 an am l7)]) (first := []) (cap := []) (xs := [.tmp 21,.tmp 22]) rfl rfl rZ rfl (cv.spec K sv100 b14 p1 p2 b26 (sv0.vs i11.toNat) (bv sv0 81 4 al 87 6 an am l0) x49 p1_0 p2_0 ((l0.getD i11.toNat ap).Seq) ((l0.getD i11.toNat ap).Tick) ((l0.getD i11.toNat ap).Budget) ((l0.getD i11.toNat ap).Facts) (show da _ _ ((l0.getD i11.toNat ap).Facts).length 6 (fl aD ((l0.getD i11.toNat ap).Facts)) from il (z := ap) (bB c86 c82)) _ h52) rfl) rfl rfl rfl ?_
    rintro sv101 _ ⟨_,⟨_,rfl,rfl⟩,rfl⟩
    let C1_ : List Value := [I ((l0.getD i11.toNat ap).Seq),I ((l0.getD i11.toNat ap).Tick),I ((l0.getD i11.toNat ap).Budget),sv101]
    refine vV (az (sz := 0) (o := 0) rfl dx cK) rfl ?_
    refine cl (fo (cs := C0_) (cs' := C1_) (sv := sv101) (L' := [box b14 148 [(Value.func (.func 81) #[] #[pt p1 0,pt p2 0])],box p1 2 [I p1_0],box p2 2 [I p2_0],box b26 81 C1_,(bv sv0 81 4 al 87 6 an am l0),own sv101 87 6 x50.length (fl aD x50),box p0 93 [I p0_0,sv0.sv,I p0_2],(bv sv87 81 4 al 87 6 an am l7)]) 3 5 rfl rfl cK rfl rfl (aS 87) rfl (by simp [C0_,C1_]) rfl) rfl rfl ?_
    rintro _ _ rfl
    refine ai (ag (ae (vM rfl rfl (vM rfl rfl (vV (az (sz := 0) (o := 0) rfl dx cK) rfl (vV (aP (v := sv101) rfl fA (aJ (i := 3) rfl rfl)) rfl (vV (cp 5 rfl bA rfl (aS 87)) rfl (vV (aG rfl rfl (km _ _ _) ) rfl (vV (aG rfl rfl (cj _ _ _) ) rfl (vA rfl rfl (ai ?_)))))))))))
    refine ag (ae (vV (az (sz := 0) (o := 0) rfl dx cK) rfl (vV (aP (v := sv101) rfl fA (aJ (i := 3) rfl rfl)) rfl (vV (cp 5 rfl bA rfl (aS 87)) rfl (vV (aG rfl rfl (jY _ _ _)) rfl (ai ?_))))))
    refine gQ H6 (fun c87 H6 => ?_) fun c87 H6 => ?_
    ·refine aA rfl (dF c87) (aX (ae (vV (aG rfl rfl (cj _ _ _) ) rfl (vM rfl rfl (ai ?_)))))
     exact vF [6,4,1,2,0,7] rfl rfl (vS [0,3,4,5,10,11,12] rfl) fun a w h => ⟨k,Nat.lt_succ_self k,_,_,_,sv87,H6,h⟩
    refine aB rfl (dT c87) (ae (vM rfl rfl (vV (bi (vs := C1_) rfl jn cC (bD (i := 3) rfl)) rfl ?_)))
    refine aQ (bI (sz := 3) (xs := [.tmp 37]) (cs := al (⟨(l0.getD i11.toNat ap).Seq,(l0.getD i11.toNat ap).Tick,(l0.getD i11.toNat ap).Budget,x50⟩ : aH) sv101) rfl rfl dJ cC gy rfl rfl (cM rfl) rfl (by decide)) rfl rfl rfl ?_
    rintro sv102 _ rfl
    refine eC [own sv102 81 4 1 (al (⟨(l0.getD i11.toNat ap).Seq,(l0.getD i11.toNat ap).Tick,(l0.getD i11.toNat ap).Budget,x50⟩ : aH) sv101),box b14 148 [(Value.func (.func 81) #[] #[pt p1 0,pt p2 0])],box p1 2 [I p1_0],box p2 2 [I p2_0],box b26 81 C1_,(bv sv0 81 4 al 87 6 an am l0),own sv101 87 6 x50.length (fl aD x50),box p0 93 [I p0_0,sv0.sv,I p0_2],(bv sv87 81 4 al 87 6 an am l7)] rfl ?_
    obtain ⟨c88,H6⟩ := gv H6
    refine aQ (lW (sz := 3) [8,0,6,1,2,3,4,5,7] (by decide) rfl rfl rfl dJ cC gy rfl mN rfl (jR _ _) c88) rfl rfl rfl ?_
    rintro _ _ ⟨sv103,rfl,rfl⟩
    refine eC [(bv sv103 81 4 al 87 6 an am (l7 ++ [(⟨(l0.getD i11.toNat ap).Seq,(l0.getD i11.toNat ap).Tick,(l0.getD i11.toNat ap).Budget,x50⟩ : aH)])),box b14 148 [(Value.func (.func 81) #[] #[pt p1 0,pt p2 0])],box p1 2 [I p1_0],box p2 2 [I p2_0],box b26 81 C1_,(bv sv0 81 4 al 87 6 an am l0),box p0 93 [I p0_0,sv0.sv,I p0_2]] rfl ?_
    refine vA rfl rfl (ai (ae (vV (aG rfl rfl (cj _ _ _) ) rfl (vM rfl rfl (ai ?_)))))
    exact vF [6,5,2,3,1,0] rfl rfl (vS [0,3,4,5,10,11,12] rfl) fun a w h => ⟨k,Nat.lt_succ_self k,_,_,_,sv103,H6,h⟩
 ·refine aU fun sv78 => ?_
  refine ag (ag (ae (vM rfl rfl ?_)))
  refine vV (aG rfl rfl (pv (fun w => rfl) rfl (lE Tryz.underlying25 _ _))) rfl ?_
  refine ai (aB rfl rfl (ae (vM rfl rfl (vM rfl rfl (vV (bm rfl) rfl (vV (az (sz := 0) (o := 0) rfl jN jJ) rfl ?_))))))
  refine cl (fo (cs := [I p0_0,sv0.sv,I p0_2]) (cs' := [I p0_0,sv78.sv,I p0_2]) (sv := sv78.sv) (L' := [box p0 93 [I p0_0,sv78.sv,I p0_2],(bv sv0 81 4 al 87 6 an am l0),box p1 2 [I p1_0],box p2 2 [I p2_0],(bv sv78 81 4 al 87 6 an am x38.1)]) 0 4 rfl rfl jJ rfl rfl br rfl (by simp) rfl) rfl rfl ?_
  rintro _ _ rfl
  refine ai (ag (ae (vM rfl rfl (vA rfl rfl (ai (aI ?_))))))
  cases H
  refine vP [0,4,1,2,3] rfl rfl ?_
  exact aV rfl rfl ⟨sv78,rfl,rfl⟩
theorem fN.spec (K p0 : Nat) (sv0 : JG) (p0_0 : Int) (l0 : List aH) (p0_2 a1 a2 : Int) (r : ((List aH) × Int)) (H : fN K p0_0 l0 p0_2 a1 a2 = some r) : bo Tryz.prog 35 [pt p0 0,I a1,I a2] [box p0 93 [I p0_0,sv0.sv,I p0_2],(bv sv0 81 4 al 87 6 an am l0)] (fun v M => ∃ sv2 : JG,v = (I r.2) ∧ M = [box p0 93 [I p0_0,sv2.sv,I p0_2],(bv sv2 81 4 al 87 6 an am r.1),(bv sv0 81 4 al 87 6 an am l0)]) := by
 unfold fN at H
 refine bp Tryz.func35 rfl 10 rfl (nL rfl) fun F w0 => ?_
 show cD (St 10 w0 F [(0,pt p0 0),(1,I a1),(2,I a2)] [box p0 93 [I p0_0,sv0.sv,I p0_2],(bv sv0 81 4 al 87 6 an am l0)]) _
 refine ag (ae ?_)
 refine aQ (dy (cs := [I a1]) rfl rfl) rfl rfl rfl ?_
 rintro _ _ ⟨b3,rfl,rfl⟩
 refine aQ (dy (cs := [I a2]) rfl rfl) rfl rfl rfl ?_
 rintro _ _ ⟨b4,rfl,rfl⟩
 refine vA rfl rfl (ai (ag (ae (vM rfl rfl (vV (iM (first := []) (cap := [.tmp 4,.tmp 5]) rfl rfl) rfl ?_)))))
 obtain ⟨x2,h2,H⟩ := oB H
 refine vP [2,3,1,0] rfl rfl ?_
 refine aQ (bG (Lr := []) (first := []) (cap := []) (xs := [.tmp 7,.tmp 8]) rfl rfl sF rfl (kG.spec K p0 sv0 b3 b4 p0_0 l0 p0_2 a1 a2 _ h2) rfl) rfl rfl rfl ?_
 rintro _ _ ⟨_,⟨sv3,rfl,rfl⟩,rfl⟩
 refine vA rfl rfl (ai (aI ?_))
 cases H
 refine vP [0,1,2] rfl rfl ?_
 exact aV rfl rfl ⟨sv3,rfl,rfl⟩
theorem fN.spech (K p0 : Nat) (sv0 : JG) (p0_0 : Int) (l0 : List aH) (p0_2 a1 a2 : Int) (r : ((List aH) × Int)) (H : fN K p0_0 l0 p0_2 a1 a2 = some r) : bo Tryz.prog 35 [pt p0 0,I a1,I a2] [box p0 93 [I p0_0,sv0.sv,I p0_2],(bv sv0 81 4 al 87 6 an am l0)] (fun v M => ∃ sv2 : Value,v = (I r.2) ∧ M = [box p0 93 [I p0_0,sv2,I p0_2],(hown sv2 81 4 al 87 6 an am r.1),(bv sv0 81 4 al 87 6 an am l0)]) := by
 refine bo.hide (fN.spec K p0 sv0 p0_0 l0 p0_2 a1 a2 r H) ?_
 rintro v M ⟨sv2,rfl,rfl⟩
 exact ⟨_,⟨sv2.sv,rfl,rfl⟩,fun w X h => (h.conv 1 _ (hown sv2.sv 81 4 al 87 6 an am r.1) rfl fun o s q => ⟨_,rfl,q⟩)⟩
theorem ig.spec (K p0 : Nat) (sv0 : JG) (p0_0 : Int) (l0 : List aH) (p0_2 a1 a2 : Int) (r : Bool) (H : ig K p0_0 l0 p0_2 a1 a2 = some r) : bo Tryz.prog 36 [pt p0 0,I a1,I a2] [box p0 93 [I p0_0,sv0.sv,I p0_2],(bv sv0 81 4 al 87 6 an am l0)] (fun v M => v = (bool r) ∧ M = [box p0 93 [I p0_0,sv0.sv,I p0_2],(bv sv0 81 4 al 87 6 an am l0)]) := by
 unfold ig at H
 refine bp Tryz.func36 rfl 13 rfl (nL rfl) fun F w0 => ?_
 show cD (St 13 w0 F [(0,pt p0 0),(1,I a1),(2,I a2)] [box p0 93 [I p0_0,sv0.sv,I p0_2],(bv sv0 81 4 al 87 6 an am l0)]) _
 refine ag (ae (vA rfl rfl (ai (ag (ae (vM rfl rfl (vM rfl rfl (vM rfl rfl ?_))))))))
 obtain ⟨x2,h2,H⟩ := oB H
 refine aQ (bG (Lr := []) (first := []) (cap := []) (xs := [.tmp 7,.tmp 8,.tmp 9]) rfl rfl qi rfl (fK.spec K p0 sv0 p0_0 l0 p0_2 a1 a2 _ h2) rfl) rfl rfl rfl ?_
 rintro sv2 _ ⟨_,⟨_,rfl,rfl⟩,rfl⟩
 refine vV (cp 2 rfl bA rfl (aS 87)) rfl (vV (aG rfl rfl (jY _ _ _)) rfl (vA rfl rfl (ai (aI ?_))))
 cases H
 refine vP [0,1] rfl rfl ?_
 exact aV rfl rfl ⟨rfl,rfl⟩
theorem eW.spec (K : Nat) (r : Bool) (H : eW K = some r) : bo Tryz.prog 9 [] [] (fun v M => v = (bool r) ∧ M = []) := by
 unfold eW at H
 refine bp Tryz.func9 rfl 59 rfl (nL rfl) fun F w0 => ?_
 show cD (St 59 w0 F [] []) _
 refine ag (ae (vA rfl rfl (ai (ag (ae ?_)))))
 obtain ⟨x8,h8,H⟩ := bS H
 refine aQ (bG (Lr := []) (first := []) (cap := []) (xs := [.const (I 1)]) rfl rfl tv rfl (pD.spec _ h8) rfl) rfl rfl rfl ?_
 rintro _ _ ⟨_,⟨b2,rfl,rfl⟩,rfl⟩
 refine vM rfl rfl (vV (bt rfl rfl) rfl (vV (bt rfl rfl) rfl (vA rfl rfl (vA rfl rfl (ai (ag (ae (vM rfl rfl (vV (ey (is := [0]) (xs := [.const (I 3)]) (vs := [I 3]) rfl rfl (cz (cs := [I 3,S0,S0,S0,S0]) sA qz rfl)) rfl ?_)))))))))
 refine vV (ey (is := [0]) (xs := [.tmp 11]) (vs := [agg #[I 3,S0,S0,S0,S0]]) rfl rfl (cz (cs := [I 3,S0,S0,S0,S0,I 0]) fS qB (by simp [Instr.fill,jH,jk,jL,jh,iL,jK,gw,jI,]))) rfl ?_
 refine vV (ey (is := [0]) (xs := [.const (I 5)]) (vs := [I 5]) rfl rfl (cz (cs := [I 5,S0,S0,S0,S0]) sA qz rfl)) rfl ?_
 refine vV (ey (is := [0]) (xs := [.tmp 13]) (vs := [agg #[I 5,S0,S0,S0,S0]]) rfl rfl (cz (cs := [I 5,S0,S0,S0,S0,I 0]) fS qB (by simp [Instr.fill,jH,jk,jL,jh,iL,jK,gw,jI,]))) rfl ?_
 refine aQ (bI (sz := 5) (xs := [.tmp 12,.tmp 14]) (cs := fl aD [(⟨(⟨3,nB,nB,nB,nB⟩ : bc),0⟩ : aC),(⟨(⟨5,nB,nB,nB,nB⟩ : bc),0⟩ : aC)]) rfl rfl bA bK fS rfl rfl (cM rfl) rfl (by decide)) rfl rfl rfl ?_
 rintro sv5 _ rfl
 refine vV (ru 0 rfl (aS 87) fun hc0_ => (ey (is := [0,3]) (xs := [.const (I 1),.tmp 15]) (vs := [I 1,sv5]) rfl rfl (cz (cs := [I 1,I 0,I 0,sv5]) kg mV (by simp [Instr.fill,jH,jk,jL,jh,iL,jK,gw,jI,hc0_])))) rfl ?_
 obtain ⟨x9,h9,H⟩ := bS H
 refine aQ (bC (Lr := [box b2 93 [I x8.1,L0,I x8.2.1]]) [0,1] [0,1] (first := []) (cap := []) (xs := [.tmp 16]) rfl rfl sE rfl (jC.spec sv5 1 0 0 [(⟨(⟨3,nB,nB,nB,nB⟩ : bc),0⟩ : aC),(⟨(⟨5,nB,nB,nB,nB⟩ : bc),0⟩ : aC)] _ h9) (by decide) rfl (by decide) rfl) rfl rfl rfl ?_
 rintro _ _ ⟨rfl,rfl⟩
 obtain ⟨x10,h10,H⟩ := oB H
 refine vP [1,0] rfl rfl ?_
 refine aQ (bG (Lr := []) (first := []) (cap := []) (xs := [.tmp 10,.tmp 17]) rfl rfl tA rfl (kW.spec K b2 sv5 x8.1 x8.2.1 x9.1 x9.2.1 x9.2.2 [(⟨(⟨3,nB,nB,nB,nB⟩ : bc),0⟩ : aC),(⟨(⟨5,nB,nB,nB,nB⟩ : bc),0⟩ : aC)] _ h10) rfl) rfl rfl rfl ?_
 rintro _ _ ⟨_,⟨sv6,rfl,rfl⟩,rfl⟩
 refine vA rfl rfl (ai (ag (ae (vM rfl rfl ?_))))
 obtain ⟨x11,h11,H⟩ := oB H
 refine aQ (bG (Lr := [own sv5 87 6 [(⟨(⟨3,nB,nB,nB,nB⟩ : bc),0⟩ : aC),(⟨(⟨5,nB,nB,nB,nB⟩ : bc),0⟩ : aC)].length (fl aD [(⟨(⟨3,nB,nB,nB,nB⟩ : bc),0⟩ : aC),(⟨(⟨5,nB,nB,nB,nB⟩ : bc),0⟩ : aC)])]) (first := []) (cap := []) (xs := [.tmp 19]) rfl rfl sU rfl (iK.spec K b2 sv6 x8.1 x10.2.1 x10.2.2 _ h11) rfl) rfl rfl rfl ?_
 rintro sv7 _ ⟨_,⟨_,rfl,rfl⟩,rfl⟩
 refine vA rfl rfl (ai (ag (ae (vM rfl rfl ?_))))
 obtain ⟨x12,h12,H⟩ := oB H
 refine aQ (bG (Lr := [own sv7 2 1 x11.length (fl (eI .i64) x11),own sv5 87 6 [(⟨(⟨3,nB,nB,nB,nB⟩ : bc),0⟩ : aC),(⟨(⟨5,nB,nB,nB,nB⟩ : bc),0⟩ : aC)].length (fl aD [(⟨(⟨3,nB,nB,nB,nB⟩ : bc),0⟩ : aC),(⟨(⟨5,nB,nB,nB,nB⟩ : bc),0⟩ : aC)])]) (first := []) (cap := []) (xs := [.tmp 21,.const (I 0),.const (I 4)]) rfl rfl td rfl (fN.spec K b2 sv6 x8.1 x10.2.1 x10.2.2 0 4 _ h12) rfl) rfl rfl rfl ?_
 rintro _ _ ⟨_,⟨sv8,rfl,rfl⟩,rfl⟩
 refine vA rfl rfl (ai (ag (ae (vM rfl rfl (vV (aG rfl rfl (fM _ _ _)) rfl (vM rfl rfl ?_))))))
 refine gQ H (fun c10 H => ?_) fun c10 H => ?_
 ·refine av rfl rfl rfl (dD c10) rfl rfl ?_
  refine av rfl rfl rfl (dD c10) rfl rfl ?_
  refine vV (aO rfl rfl rfl (bZ (dD c10))) rfl (vM rfl rfl ?_)
  refine av rfl rfl rfl rfl rfl rfl ?_
  refine av rfl rfl rfl rfl rfl rfl ?_
  refine av rfl rfl rfl rfl rfl rfl ?_
  refine vV (aO rfl rfl rfl rfl) rfl (vM rfl rfl ?_)
  refine av rfl rfl rfl rfl rfl rfl ?_
  refine av rfl rfl rfl rfl rfl rfl ?_
  refine av rfl rfl rfl rfl rfl rfl ?_
  refine av rfl rfl rfl rfl rfl rfl ?_
  refine vV (aO rfl rfl rfl rfl) rfl (vM rfl rfl ?_)
  refine av rfl rfl rfl rfl rfl rfl ?_
  refine av rfl rfl rfl rfl rfl rfl ?_
  refine av rfl rfl rfl rfl rfl rfl ?_
  refine av rfl rfl rfl rfl rfl rfl ?_
  refine vV (aO rfl rfl rfl rfl) rfl (vM rfl rfl ?_)
  refine av rfl rfl rfl rfl rfl rfl ?_
  refine av rfl rfl rfl rfl rfl rfl ?_
  refine vV (aO rfl rfl rfl rfl) rfl (vM rfl rfl ?_)
  refine av rfl rfl rfl rfl rfl rfl ?_
  refine av rfl rfl rfl rfl rfl rfl ?_
  refine vV (aO rfl rfl rfl rfl) rfl (vM rfl rfl ?_)
  refine av rfl rfl rfl rfl rfl rfl ?_
  refine av rfl rfl rfl rfl rfl rfl ?_
  refine av rfl rfl rfl rfl rfl rfl ?_
  refine vV (aO rfl rfl rfl rfl) rfl (vA rfl rfl (ai (aI ?_)))
  cases H
  refine vP [] rfl rfl ?_
  exact aV rfl rfl ⟨rfl,rfl⟩
 refine aq (aM rfl) rfl rfl rfl (dB c10) rfl rfl ?_
 refine aq (aG rfl rfl (fM _ _ _)) rfl rfl rfl (dB c10) rfl rfl ?_
 refine vV (aO rfl rfl rfl (cc (dB c10))) rfl (vM rfl rfl ?_)
 refine gQ H (fun c11 H => ?_) fun c11 H => ?_
 ·refine av rfl rfl rfl (dD c11) rfl rfl ?_
  refine av rfl rfl rfl (dD c11) rfl rfl ?_
  refine av rfl rfl rfl (dD c11) rfl rfl ?_
  refine vV (aO rfl rfl rfl (bZ (dD c11))) rfl (vM rfl rfl ?_)
  refine av rfl rfl rfl rfl rfl rfl ?_
  refine av rfl rfl rfl rfl rfl rfl ?_
  refine av rfl rfl rfl rfl rfl rfl ?_
  refine av rfl rfl rfl rfl rfl rfl ?_
  refine vV (aO rfl rfl rfl rfl) rfl (vM rfl rfl ?_)
  refine av rfl rfl rfl rfl rfl rfl ?_
  refine av rfl rfl rfl rfl rfl rfl ?_
  refine av rfl rfl rfl rfl rfl rfl ?_
  refine av rfl rfl rfl rfl rfl rfl ?_
  refine vV (aO rfl rfl rfl rfl) rfl (vM rfl rfl ?_)
  refine av rfl rfl rfl rfl rfl rfl ?_
  refine av rfl rfl rfl rfl rfl rfl ?_
  refine vV (aO rfl rfl rfl rfl) rfl (vM rfl rfl ?_)
  refine av rfl rfl rfl rfl rfl rfl ?_
  refine av rfl rfl rfl rfl rfl rfl ?_
  refine vV (aO rfl rfl rfl rfl) rfl (vM rfl rfl ?_)
  refine av rfl rfl rfl rfl rfl rfl ?_
  refine av rfl rfl rfl rfl rfl rfl ?_
  refine av rfl rfl rfl rfl rfl rfl ?_
  refine vV (aO rfl rfl rfl rfl) rfl (vA rfl rfl (ai (aI ?_)))
  cases H
  refine vP [] rfl rfl ?_
  exact aV rfl rfl ⟨rfl,rfl⟩
 refine aq (aM rfl) rfl rfl rfl (dB c11) rfl rfl ?_
 refine aq (cp 3 rfl dp rfl (aS 2)) rfl rfl rfl (dB c11) rfl rfl ?_
 refine aq (aG rfl rfl (fM _ _ _)) rfl rfl rfl (dB c11) rfl rfl ?_
 refine vV (aO rfl rfl rfl (cc (dB c11))) rfl (vM rfl rfl ?_)
 refine gQ H (fun c12 H => ?_) fun c12 H => ?_
 ·refine av rfl rfl rfl (dD c12) rfl rfl ?_
  refine av rfl rfl rfl (dD c12) rfl rfl ?_
  refine av rfl rfl rfl (dD c12) rfl rfl ?_
  refine av rfl rfl rfl (dD c12) rfl rfl ?_
  refine vV (aO rfl rfl rfl (bZ (dD c12))) rfl (vM rfl rfl ?_)
  refine av rfl rfl rfl rfl rfl rfl ?_
  refine av rfl rfl rfl rfl rfl rfl ?_
  refine av rfl rfl rfl rfl rfl rfl ?_
  refine av rfl rfl rfl rfl rfl rfl ?_
  refine vV (aO rfl rfl rfl rfl) rfl (vM rfl rfl ?_)
  refine av rfl rfl rfl rfl rfl rfl ?_
  refine av rfl rfl rfl rfl rfl rfl ?_
  refine vV (aO rfl rfl rfl rfl) rfl (vM rfl rfl ?_)
  refine av rfl rfl rfl rfl rfl rfl ?_
  refine av rfl rfl rfl rfl rfl rfl ?_
  refine vV (aO rfl rfl rfl rfl) rfl (vM rfl rfl ?_)
  refine av rfl rfl rfl rfl rfl rfl ?_
  refine av rfl rfl rfl rfl rfl rfl ?_
  refine av rfl rfl rfl rfl rfl rfl ?_
  refine vV (aO rfl rfl rfl rfl) rfl (vA rfl rfl (ai (aI ?_)))
  cases H
  refine vP [] rfl rfl ?_
  exact aV rfl rfl ⟨rfl,rfl⟩
 refine aq (aM rfl) rfl rfl rfl (dB c12) rfl rfl ?_
 obtain ⟨c13,H⟩ := gv H
 refine aq (bf (sz := 0) 3 rfl rfl dp bd rfl (aS 2) (by decide) c13) rfl rfl rfl (dB c12) rfl rfl ?_
 refine aq (aP (v := (I (x11.getD ((0 : Int).toNat) 0))) rfl bl (bH (i := 3) rfl (aS 2) (by simp) (dP (mn _) (bB (by decide) c13) rfl))) rfl rfl rfl (dB c12) rfl rfl ?_
 refine aq (aG rfl rfl (fM _ _ _)) rfl rfl rfl (dB c12) rfl rfl ?_
 refine vV (aO rfl rfl rfl (cc (dB c12))) rfl (vM rfl rfl ?_)
 refine gQ H (fun c14 H => ?_) fun c14 H => ?_
 ·refine av rfl rfl rfl (dD c14) rfl rfl ?_
  refine av rfl rfl rfl (dD c14) rfl rfl ?_
  refine av rfl rfl rfl (dD c14) rfl rfl ?_
  refine av rfl rfl rfl (dD c14) rfl rfl ?_
  refine vV (aO rfl rfl rfl (bZ (dD c14))) rfl (vM rfl rfl ?_)
  refine av rfl rfl rfl rfl rfl rfl ?_
  refine av rfl rfl rfl rfl rfl rfl ?_
  refine vV (aO rfl rfl rfl rfl) rfl (vM rfl rfl ?_)
  refine av rfl rfl rfl rfl rfl rfl ?_
  refine av rfl rfl rfl rfl rfl rfl ?_
  refine vV (aO rfl rfl rfl rfl) rfl (vM rfl rfl ?_)
  refine av rfl rfl rfl rfl rfl rfl ?_
  refine av rfl rfl rfl rfl rfl rfl ?_
  refine av rfl rfl rfl rfl rfl rfl ?_
  refine vV (aO rfl rfl rfl rfl) rfl (vA rfl rfl (ai (aI ?_)))
  cases H
  refine vP [] rfl rfl ?_
  exact aV rfl rfl ⟨rfl,rfl⟩
 refine aq (aM rfl) rfl rfl rfl (dB c14) rfl rfl ?_
 obtain ⟨c15,H⟩ := gv H
 refine aq (bf (sz := 0) 3 rfl rfl dp bd rfl (aS 2) (by decide) c15) rfl rfl rfl (dB c14) rfl rfl ?_
 refine aq (aP (v := (I (x11.getD ((1 : Int).toNat) 0))) rfl bl (bH (i := 3) rfl (aS 2) (by simp) (dP (mn _) (bB (by decide) c15) rfl))) rfl rfl rfl (dB c14) rfl rfl ?_
 refine aq (aG rfl rfl (fM _ _ _)) rfl rfl rfl (dB c14) rfl rfl ?_
 refine vV (aO rfl rfl rfl (cc (dB c14))) rfl (vM rfl rfl ?_)
 refine gQ H (fun c16 H => ?_) fun c16 H => ?_
 ·refine av rfl rfl rfl (dD c16) rfl rfl ?_
  refine av rfl rfl rfl (dD c16) rfl rfl ?_
  refine vV (aO rfl rfl rfl (bZ (dD c16))) rfl (vM rfl rfl ?_)
  refine av rfl rfl rfl rfl rfl rfl ?_
  refine av rfl rfl rfl rfl rfl rfl ?_
  refine vV (aO rfl rfl rfl rfl) rfl (vM rfl rfl ?_)
  refine av rfl rfl rfl rfl rfl rfl ?_
  refine av rfl rfl rfl rfl rfl rfl ?_
  refine av rfl rfl rfl rfl rfl rfl ?_
  refine vV (aO rfl rfl rfl rfl) rfl (vA rfl rfl (ai (aI ?_)))
  cases H
  refine vP [] rfl rfl ?_
  exact aV rfl rfl ⟨rfl,rfl⟩
 refine aq (aM rfl) rfl rfl rfl (dB c16) rfl rfl ?_
 refine aq (aG rfl rfl (fM _ _ _)) rfl rfl rfl (dB c16) rfl rfl ?_
 refine vV (aO rfl rfl rfl (cc (dB c16))) rfl (vM rfl rfl ?_)
 refine gQ H (fun c17 H => ?_) fun c17 H => ?_
 ·refine av rfl rfl rfl (dD c17) rfl rfl ?_
  refine av rfl rfl rfl (dD c17) rfl rfl ?_
  refine vV (aO rfl rfl rfl (bZ (dD c17))) rfl (vM rfl rfl ?_)
  refine av rfl rfl rfl rfl rfl rfl ?_
  refine av rfl rfl rfl rfl rfl rfl ?_
  refine av rfl rfl rfl rfl rfl rfl ?_
  refine vV (aO rfl rfl rfl rfl) rfl (vA rfl rfl (ai (aI ?_)))
  cases H
  refine vP [] rfl rfl ?_
  exact aV rfl rfl ⟨rfl,rfl⟩
 refine aq (aM rfl) rfl rfl rfl (dB c17) rfl rfl ?_
 obtain ⟨x13,h13,H⟩ := oB H
 refine du (bC (Lr := [(bv sv6 81 4 al 87 6 an am x10.2.1),own sv7 2 1 x11.length (fl (eI .i64) x11),own sv5 87 6 [(⟨(⟨3,nB,nB,nB,nB⟩ : bc),0⟩ : aC),(⟨(⟨5,nB,nB,nB,nB⟩ : bc),0⟩ : aC)].length (fl aD [(⟨(⟨3,nB,nB,nB,nB⟩ : bc),0⟩ : aC),(⟨(⟨5,nB,nB,nB,nB⟩ : bc),0⟩ : aC)])]) [0,1,2,3,4] [0,1,2,3,4] (first := []) (cap := []) (xs := [.tmp 51,.const (I 5),.const (I 6)]) rfl rfl qa rfl (ig.spec K b2 sv8 x8.1 x12.1 x10.2.2 5 6 _ h13) (by decide) rfl (by decide) rfl) rfl rfl rfl (dB c17) rfl rfl ?_
 rintro _ _ ⟨rfl,rfl⟩
 refine vV (aO rfl rfl rfl (cc (dB c17))) rfl (vM rfl rfl ?_)
 refine gQ H (fun c18 H => ?_) fun c18 H => ?_
 ·refine av rfl rfl rfl (bF c18) rfl rfl ?_
  refine av rfl rfl rfl (bF c18) rfl rfl ?_
  refine av rfl rfl rfl (bF c18) rfl rfl ?_
  refine vV (aO rfl rfl rfl (bZ (bF c18))) rfl (vA rfl rfl (ai (aI ?_)))
  cases H
  refine vP [] rfl rfl ?_
  exact aV rfl rfl ⟨rfl,rfl⟩
 refine aq (aM rfl) rfl rfl rfl c18 rfl rfl ?_
 obtain ⟨x14,h14,H⟩ := oB H
 refine du (bC (Lr := [(bv sv6 81 4 al 87 6 an am x10.2.1),own sv7 2 1 x11.length (fl (eI .i64) x11),own sv5 87 6 [(⟨(⟨3,nB,nB,nB,nB⟩ : bc),0⟩ : aC),(⟨(⟨5,nB,nB,nB,nB⟩ : bc),0⟩ : aC)].length (fl aD [(⟨(⟨3,nB,nB,nB,nB⟩ : bc),0⟩ : aC),(⟨(⟨5,nB,nB,nB,nB⟩ : bc),0⟩ : aC)])]) [0,1,2,3,4] [0,1,2,3,4] (first := []) (cap := []) (xs := [.tmp 55,.const (I 3),.const (I 4)]) rfl rfl qa rfl (ig.spec K b2 sv8 x8.1 x12.1 x10.2.2 3 4 _ h14) (by decide) rfl (by decide) rfl) rfl rfl rfl c18 rfl rfl ?_
 rintro _ _ ⟨rfl,rfl⟩
 refine aq (iU rfl (jv _)) rfl rfl rfl c18 rfl rfl ?_
 refine vV (aO rfl rfl rfl (cc c18)) rfl (vA rfl rfl (ai (aI ?_)))
 cases H
 refine vP [] rfl rfl ?_
 exact aV rfl rfl ⟨rfl,rfl⟩
theorem mE.spec (r : (Int × Int × Int)) (H : mE = r) : bo Tryz.prog 10 [I 2] [] (fun v M => ∃ b2 : Nat,v = (tU #[pt b2 0,I r.2.2]) ∧ M = [box b2 93 [I r.1,L0,I r.2.1]]) := by
 unfold mE at H
 refine bp Tryz.func10 rfl 13 rfl (nL rfl) fun F w0 => ?_
 show cD (St 13 w0 F [(0,I 2)] []) _
 refine ag (ae (vA rfl rfl (vA rfl rfl (ai (ag (ag (ae (vM rfl rfl (vV (aG rfl rfl (cN _ _ _)) rfl (vM rfl rfl ?_))))))))))
 refine aq (aM rfl) rfl rfl rfl rfl rfl rfl ?_
 refine aq (aG rfl rfl (jY _ _ _)) rfl rfl rfl rfl rfl rfl ?_
 refine vV (aO rfl rfl rfl rfl) rfl (ai (aA rfl rfl (aX (ag (ae (vM rfl rfl (vV (ey (is := [0]) (xs := [.tmp 10]) (vs := [I 2]) rfl rfl (cz (cs := [I 2,L0,I 0]) ql nY rfl)) rfl ?_)))))))
 refine aQ (dy (cs := [I 2,L0,I 0]) rfl rfl) rfl rfl rfl ?_
 rintro _ _ ⟨b3,rfl,rfl⟩
 refine vA rfl rfl (vA rfl rfl (ai (aI ?_)))
 cases H
 refine vP [0] rfl rfl ?_
 exact cO (vs := [pt b3 0,I 0]) rfl ⟨rfl,⟨rfl,trivial⟩⟩ _ rfl ⟨_,rfl,rfl⟩
theorem jB.spec (r : (Int × Int × Int)) (H : jB = r) : bo Tryz.prog 11 [I 2] [] (fun v M => ∃ b2 : Nat,v = (tU #[pt b2 0,I r.2.2]) ∧ M = [box b2 96 [I r.1,L0,I r.2.1]]) := by
 unfold jB at H
 refine bp Tryz.func11 rfl 13 rfl (nL rfl) fun F w0 => ?_
 show cD (St 13 w0 F [(0,I 2)] []) _
 refine ag (ae (vA rfl rfl (vA rfl rfl (ai (ag (ag (ae (vM rfl rfl (vV (aG rfl rfl (cN _ _ _)) rfl (vM rfl rfl ?_))))))))))
 refine aq (aM rfl) rfl rfl rfl rfl rfl rfl ?_
 refine aq (aG rfl rfl (jY _ _ _)) rfl rfl rfl rfl rfl rfl ?_
 refine vV (aO rfl rfl rfl rfl) rfl (ai (aA rfl rfl (aX (ag (ae (vM rfl rfl (vV (ey (is := [0]) (xs := [.tmp 10]) (vs := [I 2]) rfl rfl (cz (cs := [I 2,L0,I 0]) tz qu rfl)) rfl ?_)))))))
 refine aQ (dy (cs := [I 2,L0,I 0]) rfl rfl) rfl rfl rfl ?_
 rintro _ _ ⟨b3,rfl,rfl⟩
 refine vA rfl rfl (vA rfl rfl (ai (aI ?_)))
 cases H
 refine vP [0] rfl rfl ?_
 exact cO (vs := [pt b3 0,I 0]) rfl ⟨rfl,⟨rfl,trivial⟩⟩ _ rfl ⟨_,rfl,rfl⟩
theorem iP.spec (sv0 : Value) (A0 : HP) (a0_0 a0_1 a0_2 : Int) (l0 : List aC) (hA0 : da A0 sv0 l0.length 6 (fl aD l0)) (r : (Int × Int × Int)) (H : iP a0_0 a0_1 a0_2 l0 = r) : bo Tryz.prog 33 [agg #[I a0_0,I a0_1,I a0_2,sv0]] [A0] (fun v M => v = (agg #[I r.1,I r.2.1,I r.2.2,sv0]) ∧ M = [A0]) := by
 unfold iP at H
 refine bp Tryz.func33 rfl 12 rfl (nL rfl) fun F w0 => ?_
 show cD (St 12 w0 F [(0,agg #[I a0_0,I a0_1,I a0_2,sv0])] [A0]) _
 refine ag (ae ?_)
 refine aQ (dy (cs := [I a0_0,I a0_1,I a0_2,sv0]) rfl rfl) rfl rfl rfl ?_
 rintro _ _ ⟨b3,rfl,rfl⟩
 refine aQ (dY gy) rfl rfl rfl ?_
 rintro _ _ ⟨b4,rfl,rfl⟩
 refine ai (ag (ae (vV (az (sz := 0) (o := 0) rfl fe bd) rfl (vV (aP (v := (I a0_0)) rfl bl (aJ (i := 1) rfl rfl)) rfl (vV (az (sz := 0) (o := 0) rfl iD bd) rfl (vV (aP (v := (I a0_1)) rfl bl (aJ (i := 1) rfl rfl)) rfl (vV (az (sz := 0) (o := 0) rfl jr bd) rfl (vV (aP (v := (I a0_2)) rfl bl (aJ (i := 1) rfl rfl)) rfl (vV (az (sz := 0) (o := 0) rfl iC cK) rfl (vV (aP (v := sv0) rfl fA (aJ (i := 1) rfl rfl)) rfl ?_))))))))))
 refine vV (ru 2 rfl hA0 fun hc0_ => (ey (is := [0,1,2,3]) (xs := [.tmp 4,.tmp 6,.tmp 8,.tmp 10]) (vs := [I a0_0,I a0_1,I a0_2,sv0]) rfl rfl (cz (cs := [I a0_0,I a0_1,I a0_2,sv0]) gy qC (by simp [Instr.fill,jH,jk,jL,jh,iL,jK,gw,jI,hc0_])))) rfl ?_
 refine cl (cn (cs := [I 0,I 0,I 0,L0]) (cs' := [I a0_0,I a0_1,I a0_2,sv0]) (us := [I a0_0,I a0_1,I a0_2,sv0]) (L' := [box b4 81 [I a0_0,I a0_1,I a0_2,sv0],box b3 35 [I a0_0,I a0_1,I a0_2,sv0],A0]) 0 rfl rfl rfl (gT rfl (gT rfl (gT rfl (oK 2 rfl hA0 nF)))) cC rfl rfl (by simp) rfl) rfl rfl ?_
 rintro _ _ rfl
 refine ai (aI ?_)
 subst H
 exact iZ [2] (by decide) rfl (vs := [agg #[I a0_0,I a0_1,I a0_2,sv0]]) rfl ⟨⟨_,[I a0_0,I a0_1,I a0_2,sv0],rfl,bD (i := 0) rfl,.inl ⟨jn,cC,rfl⟩⟩,trivial⟩ _ rfl ⟨rfl,rfl⟩
theorem jQ.spec (K : Nat) (sv0 : Value) (A0 : HP) (a0_0 a0_1 a0_2 : Int) (l0 : List aC) (a1 : Int) (hA0 : da A0 sv0 l0.length 6 (fl aD l0)) (r : Bool) (H : jQ K a0_0 a0_1 a0_2 l0 a1 = some r) : bo Tryz.prog 77 [agg #[I a0_0,I a0_1,I a0_2,sv0],I a1] [A0] (fun v M => v = (bool r) ∧ M = [A0]) := by
 unfold jQ at H
 refine bp Tryz.func77 rfl 28 rfl (nL rfl) fun F w0 => ?_
 show cD (St 28 w0 F [(0,agg #[I a0_0,I a0_1,I a0_2,sv0]),(1,I a1)] [A0]) _
 refine ag (ae ?_)
 refine aQ (dy (cs := [I a0_0,I a0_1,I a0_2,sv0]) rfl rfl) rfl rfl rfl ?_
 rintro _ _ ⟨b2,rfl,rfl⟩
 refine vA rfl rfl (ai (ag (ae (vV (az (sz := 0) (o := 0) rfl dx cK) rfl (vV (aP (v := sv0) rfl fA (aJ (i := 0) rfl rfl)) rfl (vM rfl rfl ?_))))))
 obtain ⟨x3,h3,H⟩ := oB H
 refine aQ (bC (Lr := [box b2 81 [I a0_0,I a0_1,I a0_2,sv0]]) [1,0] [1,0] (first := []) (cap := []) (xs := [.tmp 9,.tmp 10]) rfl rfl pc rfl (ji.spec K sv0 A0 l0 a1 hA0 _ h3) (by decide) rfl (by decide) rfl) rfl rfl rfl ?_
 rintro _ _ ⟨rfl,rfl⟩
 refine vM rfl rfl (vV (bt rfl rfl) rfl (vV (bt rfl rfl) rfl (vA rfl rfl (vA rfl rfl (ai (ag (ae (vM rfl rfl (vV (aG rfl rfl (fM _ _ _)) rfl (vM rfl rfl ?_))))))))))
 refine gQ H (fun c2 H => ?_) fun c2 H => ?_
 ·refine av rfl rfl rfl (dD c2) rfl rfl ?_
  refine av rfl rfl rfl (dD c2) rfl rfl ?_
  refine av rfl rfl rfl (dD c2) rfl rfl ?_
  refine av rfl rfl rfl (dD c2) rfl rfl ?_
  refine av rfl rfl rfl (dD c2) rfl rfl ?_
  refine av rfl rfl rfl (dD c2) rfl rfl ?_
  refine av rfl rfl rfl (dD c2) rfl rfl ?_
  refine av rfl rfl rfl (dD c2) rfl rfl ?_
  refine av rfl rfl rfl (dD c2) rfl rfl ?_
  refine av rfl rfl rfl (dD c2) rfl rfl ?_
  refine vV (aO rfl rfl rfl (bZ (dD c2))) rfl (vA rfl rfl (ai (aI ?_)))
  cases H
  refine vP [1] rfl rfl ?_
  exact aV rfl rfl ⟨rfl,rfl⟩
 refine aq (az (sz := 0) (o := 0) rfl iW bd) rfl rfl rfl (dB c2) rfl rfl ?_
 refine aq (aP (v := (I a0_0)) rfl bl (aJ (i := 0) rfl rfl)) rfl rfl rfl (dB c2) rfl rfl ?_
 refine aq (cu rfl (iB Tryz.underlying2 Tryz.underlying192)) rfl rfl rfl (dB c2) rfl rfl ?_
 refine aq (az (sz := 0) (o := 0) rfl mx bd) rfl rfl rfl (dB c2) rfl rfl ?_
 refine aq (aP (v := (I a0_1)) rfl bl (aJ (i := 0) rfl rfl)) rfl rfl rfl (dB c2) rfl rfl ?_
 refine aq (cu rfl (iB Tryz.underlying2 Tryz.underlying192)) rfl rfl rfl (dB c2) rfl rfl ?_
 refine aq (az (sz := 0) (o := 0) rfl mv bd) rfl rfl rfl (dB c2) rfl rfl ?_
 refine aq (aP (v := (I a0_2)) rfl bl (aJ (i := 0) rfl rfl)) rfl rfl rfl (dB c2) rfl rfl ?_
 refine aq (cu rfl (iB Tryz.underlying2 Tryz.underlying192)) rfl rfl rfl (dB c2) rfl rfl ?_
 obtain ⟨x4,h4,H⟩ := bS H
 refine du (bV (first := []) (cap := []) (xs := [.tmp 19,.tmp 22,.tmp 25]) rfl rfl rT rfl (jT.spec (ed a0_0) (ed a0_1) (ed a0_2) _ h4)) rfl rfl rfl (dB c2) rfl rfl ?_
 rintro _ _ ⟨rfl,rfl⟩
 refine vV (aO rfl rfl rfl (cc (dB c2))) rfl (vA rfl rfl (ai (aI ?_)))
 cases H
 refine vP [1] rfl rfl ?_
 exact aV rfl rfl ⟨rfl,rfl⟩
theorem ei.spec (K : Nat) (a0_0 : Int) (a0_1 : List UInt8) (a0_2 : List UInt8) (a0_3 : List UInt8) (a0_4 : List UInt8) (a0_5 a1 r : Int) (H : ei K a0_0 a0_1 a0_2 a0_3 a0_4 a0_5 a1 = some r) : bo Tryz.prog 162 [agg #[I a0_0,cY a0_1,cY a0_2,cY a0_3,cY a0_4,I a0_5],I a1] [] (fun v M => v = (I r) ∧ M = []) := by
 unfold ei at H
 refine bp Tryz.func162 rfl 56 rfl (nL rfl) fun F w0 => ?_
 show cD (St 56 w0 F [(0,agg #[I a0_0,cY a0_1,cY a0_2,cY a0_3,cY a0_4,I a0_5]),(1,I a1)] []) _
 refine ag (ae ?_)
 refine aQ (dy (cs := [I a0_0,cY a0_1,cY a0_2,cY a0_3,cY a0_4,I a0_5]) rfl rfl) rfl rfl rfl ?_
 rintro _ _ ⟨b2,rfl,rfl⟩
 refine vA rfl rfl (ai (ag (ag (ae (vM rfl rfl (vV (aG rfl rfl (cN _ _ _)) rfl (vM rfl rfl ?_)))))))
 refine ii H (fun c79 H => ?_) fun c79 H => ?_
 ·refine av rfl rfl rfl (dT c79) rfl rfl ?_
  refine av rfl rfl rfl (dT c79) rfl rfl ?_
  refine vV (aO rfl rfl rfl (cc (dT c79))) rfl (ai (aB rfl rfl (ag (ae (vA rfl rfl (ai (aI ?_)))))))
  cases H
  refine vP [] rfl rfl ?_
  exact aV rfl rfl ⟨rfl,rfl⟩
 refine aq (aM rfl) rfl rfl rfl (dF c79) rfl rfl ?_
 refine aq (aG rfl rfl (jY _ _ _)) rfl rfl rfl (dF c79) rfl rfl ?_
 refine vV (aO rfl rfl rfl (bZ (dF c79))) rfl (ai ?_)
 refine ii H (fun c80 H => ?_) fun c80 H => ?_
 ·refine aB rfl (dT c80) (ag (ae (vA rfl rfl (ai (aI ?_)))))
  cases H
  refine vP [] rfl rfl ?_
  exact aV rfl rfl ⟨rfl,rfl⟩
 refine aA rfl (dF c80) (aX (ag (ag (ae (vV (az (sz := 4) (o := 0) rfl di eG) rfl (vV (az (sz := 0) (o := 0) rfl eN bd) rfl (vV (aP (v := (I a0_0)) rfl bl (aJ (i := 0) rfl rfl)) rfl (vV (aG rfl rfl (cN _ _ _)) rfl (vM rfl rfl ?_)))))))))
 refine ii H (fun c85 H => ?_) fun c85 H => ?_
 ·refine av rfl rfl rfl (dT c85) rfl rfl ?_
  refine av rfl rfl rfl (dT c85) rfl rfl ?_
  refine av rfl rfl rfl (dT c85) rfl rfl ?_
  refine av rfl rfl rfl (dT c85) rfl rfl ?_
  refine vV (aO rfl rfl rfl (cc (dT c85))) rfl (vM rfl rfl ?_)
  refine av rfl rfl rfl rfl rfl rfl ?_
  refine av rfl rfl rfl rfl rfl rfl ?_
  refine av rfl rfl rfl rfl rfl rfl ?_
  refine vV (aO rfl rfl rfl rfl) rfl (vM rfl rfl ?_)
  refine av rfl rfl rfl rfl rfl rfl ?_
  refine av rfl rfl rfl rfl rfl rfl ?_
  refine av rfl rfl rfl rfl rfl rfl ?_
  refine vV (aO rfl rfl rfl rfl) rfl (ai (aB rfl rfl (ag (ae (vA rfl rfl (ai (aI ?_)))))))
  cases H
  refine vP [] rfl rfl ?_
  exact aV rfl rfl ⟨rfl,rfl⟩
 refine aq (az (sz := 4) (o := 0) rfl di eG) rfl rfl rfl (dF c85) rfl rfl ?_
 refine aq (az (sz := 0) (o := 0) rfl eN bd) rfl rfl rfl (dF c85) rfl rfl ?_
 refine aq (aP (v := (I a0_0)) rfl bl (aJ (i := 0) rfl rfl)) rfl rfl rfl (dF c85) rfl rfl ?_
 refine aq (aG rfl rfl (jY _ _ _)) rfl rfl rfl (dF c85) rfl rfl ?_
 refine vV (aO rfl rfl rfl (bZ (dF c85))) rfl (vM rfl rfl ?_)
 refine ii H (fun c86 H => ?_) fun c86 H => ?_
 ·refine av rfl rfl rfl (dT c86) rfl rfl ?_
  refine av rfl rfl rfl (dT c86) rfl rfl ?_
  refine av rfl rfl rfl (dT c86) rfl rfl ?_
  refine vV (aO rfl rfl rfl (cc (dT c86))) rfl (vM rfl rfl ?_)
  refine av rfl rfl rfl rfl rfl rfl ?_
  refine av rfl rfl rfl rfl rfl rfl ?_
  refine av rfl rfl rfl rfl rfl rfl ?_
  refine vV (aO rfl rfl rfl rfl) rfl (ai (aB rfl rfl (ag (ae (vA rfl rfl (ai (aI ?_)))))))
  cases H
  refine vP [] rfl rfl ?_
  exact aV rfl rfl ⟨rfl,rfl⟩
 refine aq (az (sz := 0) (o := 0) rfl lh bd) rfl rfl rfl (dF c86) rfl rfl ?_
 refine aq (aP (v := (I a0_5)) rfl bl (aJ (i := 0) rfl rfl)) rfl rfl rfl (dF c86) rfl rfl ?_
 refine aq (aG rfl rfl (jY _ _ _)) rfl rfl rfl (dF c86) rfl rfl ?_
 refine vV (aO rfl rfl rfl (bZ (dF c86))) rfl (vM rfl rfl ?_)
 refine ii H (fun c87 H => ?_) fun c87 H => ?_
 ·refine av rfl rfl rfl (dT c87) rfl rfl ?_
  refine av rfl rfl rfl (dT c87) rfl rfl ?_
  refine av rfl rfl rfl (dT c87) rfl rfl ?_
  refine vV (aO rfl rfl rfl (cc (dT c87))) rfl (ai (aB rfl rfl (ag (ae (vA rfl rfl (ai (aI ?_)))))))
  cases H
  refine vP [] rfl rfl ?_
  exact aV rfl rfl ⟨rfl,rfl⟩
 refine aq (az (sz := 0) (o := 0) rfl lh bd) rfl rfl rfl (dF c87) rfl rfl ?_
 refine aq (aP (v := (I a0_5)) rfl bl (aJ (i := 0) rfl rfl)) rfl rfl rfl (dF c87) rfl rfl ?_
 refine aq (aG rfl rfl (cN _ _ _)) rfl rfl rfl (dF c87) rfl rfl ?_
 refine vV (aO rfl rfl rfl (bZ (dF c87))) rfl (ai ?_)
 refine ii H (fun c88 H => ?_) fun c88 H => ?_
 ·refine aB rfl (dT c88) (ag (ae (vA rfl rfl (ai (aI ?_)))))
  cases H
  refine vP [] rfl rfl ?_
  exact aV rfl rfl ⟨rfl,rfl⟩
 refine aA rfl (dF c88) (aX (ag (ag (ae (vA rfl rfl (ai (be ?_)))))))
 refine cf (fun k a w => ∃ i5,cG K a0_1 a0_2 a0_3 a0_4 a1 k i5 = some r ∧ St 56 w0 F [(1,I a1),(2,pt b2 0),(5,I i5)] [box b2 87 [I a0_0,cY a0_1,cY a0_2,cY a0_3,cY a0_4,I a0_5]] a w) K ?_ ?_
 ·exact vF [0] rfl rfl (vS [1,2,5] rfl) fun a w h => ⟨_,H,h⟩
 ·refine fun k => aU fun i5 => co fun H4 => ?_
  cases k with
  | zero => exact absurd H4 (by simp [cG])
  | succ k =>
   rw [cG] at H4
   refine ag (ag (ae (vM rfl rfl (vV (aG rfl rfl (cN _ _ _)) rfl (ai ?_)))))
   refine gQ H4 (fun c142 H4 => ?_) fun c142 H4 => ?_
   ·refine aA rfl (dF c142) (bR (ag (ae (vA rfl rfl (ai (aI ?_))))))
    cases H4
    refine vP [] rfl rfl ?_
    exact aV rfl rfl ⟨rfl,rfl⟩
   refine aB rfl (dT c142) (aX (ag (be (ag (ae (vM rfl rfl (vV (az (sz := 4) (o := 0) rfl di eG) rfl (vV (az (sz := 3) (o := 0) rfl la lf) rfl ?_))))))))
   obtain ⟨c148,H4⟩ := gv H4
   obtain ⟨c149,H4⟩ := gv H4
   refine vV (qv (o := 1) rfl rfl lq mg c148 c149) rfl (vV (aP (v := (cY ([a0_1,a0_2,a0_3,a0_4].getD i5.toNat []))) rfl kL (rb (i := 0) (enc := eS) (z := []) (xs := [a0_1,a0_2,a0_3,a0_4]) rfl nP rfl (bB c148 c149))) rfl (vV (pO rfl Tryz.underlying9) rfl (vV (aG rfl rfl (jY _ _ _)) rfl (vM rfl rfl ?_))))
   refine ii H4 (fun c150 H4 => ?_) fun c150 H4 => ?_
   ·refine av rfl rfl rfl (dT c150) rfl rfl ?_
    refine av rfl rfl rfl (dT c150) rfl rfl ?_
    refine av rfl rfl rfl (dT c150) rfl rfl ?_
    refine av rfl rfl rfl (dT c150) rfl rfl ?_
    refine bQ rfl rfl rfl rfl rfl ?_
    refine bQ rfl rfl rfl rfl rfl ?_
    refine bQ rfl rfl rfl rfl rfl ?_
    refine bQ rfl rfl rfl rfl rfl ?_
    refine bQ rfl rfl rfl rfl rfl ?_
    refine bQ rfl rfl rfl rfl rfl ?_
    refine av rfl rfl rfl (dT c150) rfl rfl ?_
    refine vV (aO rfl rfl rfl (cc (dT c150))) rfl (ai (aB rfl rfl (ag (ae (vA rfl rfl (ai (aI ?_)))))))
    cases H4
    refine vP [] rfl rfl ?_
    exact aV rfl rfl ⟨rfl,rfl⟩
   refine aq (aM rfl) rfl rfl rfl (dF c150) rfl rfl ?_
   refine aq (aM rfl) rfl rfl rfl (dF c150) rfl rfl ?_
   refine aq (aG rfl rfl (jZ _ _ _)) rfl rfl rfl (dF c150) rfl rfl ?_
   refine aq (aM rfl) rfl rfl rfl (dF c150) rfl rfl ?_
   refine gQ H4 (fun c151 H4 => ?_) fun c151 H4 => ?_
   ·refine av rfl rfl rfl (dF c151) rfl rfl ?_
    refine av rfl rfl rfl (dF c151) rfl rfl ?_
    refine av rfl rfl rfl (dF c151) rfl rfl ?_
    refine av rfl rfl rfl (dF c151) rfl rfl ?_
    refine av rfl rfl rfl (dF c151) rfl rfl ?_
    refine av rfl rfl rfl (dF c151) rfl rfl ?_
    refine aq (aO rfl rfl rfl (bZ (dF c151))) rfl rfl rfl (dF c150) rfl rfl ?_
    refine vV (aO rfl rfl rfl (bZ (dF c150))) rfl (ai (aA rfl rfl (aX (ae (vM rfl rfl (vV (aG rfl rfl (cj _ _ _) ) rfl (vA rfl rfl (ai ?_))))))))
    exact vF [0] rfl rfl (vS [1,2,5] rfl) fun a w h => ⟨k,Nat.lt_succ_self k,_,H4,h⟩
   refine aq (aM rfl) rfl rfl rfl (dT c151) rfl rfl ?_
   refine aq (az (sz := 4) (o := 0) rfl di eG) rfl rfl rfl (dT c151) rfl rfl ?_
   refine aq (az (sz := 3) (o := 0) rfl la lf) rfl rfl rfl (dT c151) rfl rfl ?_
   refine aq (qv (o := 1) rfl rfl lq mg c148 c149) rfl rfl rfl (dT c151) rfl rfl ?_
   refine aq (aP (v := (cY ([a0_1,a0_2,a0_3,a0_4].getD i5.toNat []))) rfl kL (rb (i := 0) (enc := eS) (z := []) (xs := [a0_1,a0_2,a0_3,a0_4]) rfl nP rfl (bB c148 c149))) rfl rfl rfl (dT c151) rfl rfl ?_
   refine aq (aG rfl rfl (ti _ _)) rfl rfl rfl (dT c151) rfl rfl ?_
   refine aq (aO rfl rfl rfl (cc (dT c151))) rfl rfl rfl (dF c150) rfl rfl ?_
   refine vV (aO rfl rfl rfl (bZ (dF c150))) rfl (ai ?_)
   refine ii H4 (fun c152 H4 => ?_) fun c152 H4 => ?_
   ·refine aB rfl (B4 c152) (ag (ae (vA rfl rfl (ai (aI ?_)))))
    cases H4
    refine vP [] rfl rfl ?_
    exact aV rfl rfl ⟨rfl,rfl⟩
   refine aA rfl (BM c152) (aX (ae (vM rfl rfl (vV (aG rfl rfl (cj _ _ _) ) rfl (vA rfl rfl (ai ?_))))))
   exact vF [0] rfl rfl (vS [1,2,5] rfl) fun a w h => ⟨k,Nat.lt_succ_self k,_,H4,h⟩
theorem cU.spec (K : Nat) (sv0 : Value) (A0 : HP) (l0 : List aC) (a1 : Int) (hA0 : da A0 sv0 l0.length 6 (fl aD l0)) (r : (Int × Int)) (H : cU K l0 a1 = some r) : bo Tryz.prog 126 [sv0,I a1] [A0] (fun v M => v = (tU #[I r.1,I r.2]) ∧ M = [A0]) := by
 unfold cU at H
 refine bp Tryz.func126 rfl 40 rfl (nL rfl) fun F w0 => ?_
 show cD (St 40 w0 F [(0,sv0),(1,I a1)] [A0]) _
 refine ag (ae (vA rfl rfl (vA rfl rfl (ai (ag (ag (ae (vM rfl rfl (vV (aG rfl rfl (cN _ _ _)) rfl (vM rfl rfl ?_))))))))))
 refine ii H (fun c45 H => ?_) fun c45 H => ?_
 ·refine av rfl rfl rfl (dT c45) rfl rfl ?_
  refine av rfl rfl rfl (dT c45) rfl rfl ?_
  refine vV (aO rfl rfl rfl (cc (dT c45))) rfl (vM rfl rfl ?_)
  refine av rfl rfl rfl rfl rfl rfl ?_
  refine av rfl rfl rfl rfl rfl rfl ?_
  refine av rfl rfl rfl rfl rfl rfl ?_
  refine vV (aO rfl rfl rfl rfl) rfl (vM rfl rfl ?_)
  refine av rfl rfl rfl rfl rfl rfl ?_
  refine av rfl rfl rfl rfl rfl rfl ?_
  refine av rfl rfl rfl rfl rfl rfl ?_
  refine vV (aO rfl rfl rfl rfl) rfl (ai (aB rfl rfl (ag (ae (vA rfl rfl (vA rfl rfl (ai (aI ?_))))))))
  cases H
  refine vP [0] rfl rfl ?_
  exact cO (vs := [I 1,I 0]) rfl ⟨rfl,⟨rfl,trivial⟩⟩ _ rfl ⟨rfl,rfl⟩
 refine aq (aM rfl) rfl rfl rfl (dF c45) rfl rfl ?_
 refine aq (aG rfl rfl (jY _ _ _)) rfl rfl rfl (dF c45) rfl rfl ?_
 refine vV (aO rfl rfl rfl (bZ (dF c45))) rfl (vM rfl rfl ?_)
 refine ii H (fun c46 H => ?_) fun c46 H => ?_
 ·refine av rfl rfl rfl (dT c46) rfl rfl ?_
  refine av rfl rfl rfl (dT c46) rfl rfl ?_
  refine av rfl rfl rfl (dT c46) rfl rfl ?_
  refine vV (aO rfl rfl rfl (cc (dT c46))) rfl (vM rfl rfl ?_)
  refine av rfl rfl rfl rfl rfl rfl ?_
  refine av rfl rfl rfl rfl rfl rfl ?_
  refine av rfl rfl rfl rfl rfl rfl ?_
  refine vV (aO rfl rfl rfl rfl) rfl (ai (aB rfl rfl (ag (ae (vA rfl rfl (vA rfl rfl (ai (aI ?_))))))))
  cases H
  refine vP [0] rfl rfl ?_
  exact cO (vs := [I 1,I 0]) rfl ⟨rfl,⟨rfl,trivial⟩⟩ _ rfl ⟨rfl,rfl⟩
 refine aq (aM rfl) rfl rfl rfl (dF c46) rfl rfl ?_
 refine aq (cp 0 rfl bA rfl hA0) rfl rfl rfl (dF c46) rfl rfl ?_
 refine aq (aG rfl rfl (cN _ _ _)) rfl rfl rfl (dF c46) rfl rfl ?_
 refine vV (aO rfl rfl rfl (bZ (dF c46))) rfl (vM rfl rfl ?_)
 refine ii H (fun c47 H => ?_) fun c47 H => ?_
 ·refine av rfl rfl rfl (dT c47) rfl rfl ?_
  refine av rfl rfl rfl (dT c47) rfl rfl ?_
  refine av rfl rfl rfl (dT c47) rfl rfl ?_
  refine vV (aO rfl rfl rfl (cc (dT c47))) rfl (ai (aB rfl rfl (ag (ae (vA rfl rfl (vA rfl rfl (ai (aI ?_))))))))
  cases H
  refine vP [0] rfl rfl ?_
  exact cO (vs := [I 1,I 0]) rfl ⟨rfl,⟨rfl,trivial⟩⟩ _ rfl ⟨rfl,rfl⟩
 refine aq (aM rfl) rfl rfl rfl (dF c47) rfl rfl ?_
 refine aq (cp 0 rfl bA rfl hA0) rfl rfl rfl (dF c47) rfl rfl ?_
 refine aq (aG rfl rfl (jY _ _ _)) rfl rfl rfl (dF c47) rfl rfl ?_
 refine vV (aO rfl rfl rfl (bZ (dF c47))) rfl (ai ?_)
 refine ii H (fun c48 H => ?_) fun c48 H => ?_
 ·refine aB rfl (dT c48) (ag (ae (vA rfl rfl (vA rfl rfl (ai (aI ?_))))))
  cases H
  refine vP [0] rfl rfl ?_
  exact cO (vs := [I 1,I 0]) rfl ⟨rfl,⟨rfl,trivial⟩⟩ _ rfl ⟨rfl,rfl⟩
 refine aA rfl (dF c48) (aX (ag (ag (ae (vA rfl rfl (ai (be ?_)))))))
 refine cf (fun k a w => ∃ i6,db K l0 a1 k i6 = some r ∧ St 40 w0 F [(0,sv0),(1,I a1),(6,I i6)] [A0] a w) K ?_ ?_
 ·exact vF [0] rfl rfl (vS [0,1,6] rfl) fun a w h => ⟨_,H,h⟩
 ·refine fun k => aU fun i6 => co fun H4 => ?_
  cases k with
  | zero => exact absurd H4 (by simp [db])
  | succ k =>
   rw [db] at H4
   refine ag (ag (ae (vM rfl rfl (vM rfl rfl (vV (cp 0 rfl bA rfl hA0) rfl (vV (aG rfl rfl (cN _ _ _)) rfl (ai ?_)))))))
   refine gQ H4 (fun c76 H4 => ?_) fun c76 H4 => ?_
   ·refine aA rfl (dF c76) (bR (ag (ae (vA rfl rfl (vA rfl rfl (ai (aI ?_)))))))
    cases H4
    refine vP [0] rfl rfl ?_
    exact cO (vs := [I 0,I 0]) rfl ⟨rfl,⟨rfl,trivial⟩⟩ _ rfl ⟨rfl,rfl⟩
   refine aB rfl (dT c76) (aX (ag (be (ag (ae (vM rfl rfl (vM rfl rfl ?_)))))))
   obtain ⟨c79,H4⟩ := gv H4
   refine vV (bf (sz := 5) 0 rfl rfl bA bK rfl hA0 c79 c76) rfl ?_
   refine vV (bi (vs := [I (((l0.getD i6.toNat ab).Key).Hour),cY (((l0.getD i6.toNat ab).Key).Dims_0),cY (((l0.getD i6.toNat ab).Key).Dims_1),cY (((l0.getD i6.toNat ab).Key).Dims_2),cY (((l0.getD i6.toNat ab).Key).Dims_3),I ((l0.getD i6.toNat ab).Value)]) rfl gG bK (bH (i := 0) rfl hA0 (by simp) (dP bJ (bB c79 c76) rfl))) rfl ?_
   refine vM rfl rfl ?_
   obtain ⟨x24,h24,H4⟩ := oB H4
   refine aQ (bV (first := []) (cap := []) (xs := [.tmp 33,.tmp 34]) rfl rfl vI rfl (ei.spec K (((l0.getD i6.toNat ab).Key).Hour) (((l0.getD i6.toNat ab).Key).Dims_0) (((l0.getD i6.toNat ab).Key).Dims_1) (((l0.getD i6.toNat ab).Key).Dims_2) (((l0.getD i6.toNat ab).Key).Dims_3) ((l0.getD i6.toNat ab).Value) a1 _ h24)) rfl rfl rfl ?_
   rintro _ _ ⟨rfl,rfl⟩
   refine vA rfl rfl (ai (ag (ae (vM rfl rfl (vV (aG rfl rfl (ke _ _ _)) rfl (ai ?_))))))
   refine gQ H4 (fun c80 H4 => ?_) fun c80 H4 => ?_
   ·refine aA rfl (ep c80) (aX (ae (vM rfl rfl (vV (aG rfl rfl (cj _ _ _) ) rfl (vA rfl rfl (ai ?_))))))
    exact vF [0] rfl rfl (vS [0,1,6] rfl) fun a w h => ⟨k,Nat.lt_succ_self k,_,H4,h⟩
   refine aB rfl (iJ c80) (ag (ae (vM rfl rfl (vM rfl rfl (vA rfl rfl (vA rfl rfl (ai (aI ?_))))))))
   cases H4
   refine vP [0] rfl rfl ?_
   exact cO (vs := [I x24,I i6]) rfl ⟨rfl,⟨rfl,trivial⟩⟩ _ rfl ⟨rfl,rfl⟩
theorem fO.spec (a0 a1 a2 : Int) (r : Bool) (H : fO a0 a1 a2 = r) : bo Tryz.prog 127 [I a0,I a1,I a2] [] (fun v M => v = (bool r) ∧ M = []) := by
 unfold fO at H
 refine bp Tryz.func127 rfl 15 rfl (nL rfl) fun F w0 => ?_
 show cD (St 15 w0 F [(0,I a0),(1,I a1),(2,I a2)] []) _
 refine ag (ae (vA rfl rfl (ai (ag (ae (vM rfl rfl (vM rfl rfl (vV (aG rfl rfl (jZ _ _ _)) rfl (vM rfl rfl ?_)))))))))
 refine gQ H (fun c2 H => ?_) fun c2 H => ?_
 ·refine av rfl rfl rfl (dF c2) rfl rfl ?_
  refine av rfl rfl rfl (dF c2) rfl rfl ?_
  refine av rfl rfl rfl (dF c2) rfl rfl ?_
  refine vV (aO rfl rfl rfl (bZ (dF c2))) rfl (vA rfl rfl (ai (aI ?_)))
  cases H
  refine vP [] rfl rfl ?_
  exact aV rfl rfl ⟨rfl,rfl⟩
 refine aq (aM rfl) rfl rfl rfl (dT c2) rfl rfl ?_
 refine aq (aM rfl) rfl rfl rfl (dT c2) rfl rfl ?_
 refine aq (aG rfl rfl (nK _ _ _)) rfl rfl rfl (dT c2) rfl rfl ?_
 refine vV (aO rfl rfl rfl (cc (dT c2))) rfl (vA rfl rfl (ai (aI ?_)))
 cases H
 refine vP [] rfl rfl ?_
 exact aV rfl rfl ⟨rfl,rfl⟩
theorem eP.spec (K : Nat) (sv0 : Value) (A0 : HP) (a0_0 a0_1 a0_2 : Int) (l0 : List aC) (a1 : Int) (hA0 : da A0 sv0 l0.length 6 (fl aD l0)) (r : Bool) (H : eP K a0_0 a0_1 a0_2 l0 a1 = some r) : bo Tryz.prog 82 [agg #[I a0_0,I a0_1,I a0_2,sv0],I a1] [A0] (fun v M => v = (bool r) ∧ M = [A0]) := by
 unfold eP at H
 refine bp Tryz.func82 rfl 31 rfl (nL rfl) fun F w0 => ?_
 show cD (St 31 w0 F [(0,agg #[I a0_0,I a0_1,I a0_2,sv0]),(1,I a1)] [A0]) _
 refine ag (ae ?_)
 refine aQ (dy (cs := [I a0_0,I a0_1,I a0_2,sv0]) rfl rfl) rfl rfl rfl ?_
 rintro _ _ ⟨b2,rfl,rfl⟩
 refine vA rfl rfl (ai (ag (ae (vV (az (sz := 0) (o := 0) rfl iC cK) rfl (vV (aP (v := sv0) rfl fA (aJ (i := 0) rfl rfl)) rfl (vM rfl rfl ?_))))))
 obtain ⟨x5,h5,H⟩ := oB H
 refine aQ (bC (Lr := [box b2 35 [I a0_0,I a0_1,I a0_2,sv0]]) [1,0] [1,0] (first := []) (cap := []) (xs := [.tmp 9,.tmp 10]) rfl rfl sa rfl (cU.spec K sv0 A0 l0 a1 hA0 _ h5) (by decide) rfl (by decide) rfl) rfl rfl rfl ?_
 rintro _ _ ⟨rfl,rfl⟩
 refine vM rfl rfl (vV (bt rfl rfl) rfl (vV (bt rfl rfl) rfl (vA rfl rfl (vA rfl rfl (ai (ag (ae (vM rfl rfl (vV (aG rfl rfl (fM _ _ _)) rfl (vM rfl rfl ?_))))))))))
 refine gQ H (fun c4 H => ?_) fun c4 H => ?_
 ·refine av rfl rfl rfl (dD c4) rfl rfl ?_
  refine av rfl rfl rfl (dD c4) rfl rfl ?_
  refine av rfl rfl rfl (dD c4) rfl rfl ?_
  refine vV (aO rfl rfl rfl (bZ (dD c4))) rfl (vM rfl rfl ?_)
  refine av rfl rfl rfl rfl rfl rfl ?_
  refine av rfl rfl rfl rfl rfl rfl ?_
  refine av rfl rfl rfl rfl rfl rfl ?_
  refine vV (aO rfl rfl rfl rfl) rfl (vM rfl rfl ?_)
  refine av rfl rfl rfl rfl rfl rfl ?_
  refine av rfl rfl rfl rfl rfl rfl ?_
  refine av rfl rfl rfl rfl rfl rfl ?_
  refine vV (aO rfl rfl rfl rfl) rfl (vA rfl rfl (ai (aI ?_)))
  cases H
  refine vP [1] rfl rfl ?_
  exact aV rfl rfl ⟨rfl,rfl⟩
 refine aq (az (sz := 0) (o := 0) rfl fe bd) rfl rfl rfl (dB c4) rfl rfl ?_
 refine aq (aP (v := (I a0_0)) rfl bl (aJ (i := 0) rfl rfl)) rfl rfl rfl (dB c4) rfl rfl ?_
 obtain ⟨x6,h6,H⟩ := bS H
 refine du (bV (first := []) (cap := []) (xs := [.tmp 18,.const (I 1),.const (I 4611686018427387904)]) rfl rfl oG rfl (fO.spec a0_0 1 4611686018427387904 _ h6)) rfl rfl rfl (dB c4) rfl rfl ?_
 rintro _ _ ⟨rfl,rfl⟩
 refine vV (aO rfl rfl rfl (cc (dB c4))) rfl (vM rfl rfl ?_)
 refine gQ H (fun c5 H => ?_) fun c5 H => ?_
 ·refine av rfl rfl rfl (bF c5) rfl rfl ?_
  refine av rfl rfl rfl (bF c5) rfl rfl ?_
  refine av rfl rfl rfl (bF c5) rfl rfl ?_
  refine vV (aO rfl rfl rfl (bZ (bF c5))) rfl (vM rfl rfl ?_)
  refine av rfl rfl rfl rfl rfl rfl ?_
  refine av rfl rfl rfl rfl rfl rfl ?_
  refine av rfl rfl rfl rfl rfl rfl ?_
  refine vV (aO rfl rfl rfl rfl) rfl (vA rfl rfl (ai (aI ?_)))
  cases H
  refine vP [1] rfl rfl ?_
  exact aV rfl rfl ⟨rfl,rfl⟩
 refine aq (az (sz := 0) (o := 0) rfl iD bd) rfl rfl rfl c5 rfl rfl ?_
 refine aq (aP (v := (I a0_1)) rfl bl (aJ (i := 0) rfl rfl)) rfl rfl rfl c5 rfl rfl ?_
 obtain ⟨x7,h7,H⟩ := bS H
 refine du (bV (first := []) (cap := []) (xs := [.tmp 23,.const (I 0),.const (I 1006633020)]) rfl rfl oG rfl (fO.spec a0_1 0 1006633020 _ h7)) rfl rfl rfl c5 rfl rfl ?_
 rintro _ _ ⟨rfl,rfl⟩
 refine vV (aO rfl rfl rfl (cc c5)) rfl (vM rfl rfl ?_)
 refine gQ H (fun c6 H => ?_) fun c6 H => ?_
 ·refine av rfl rfl rfl (bF c6) rfl rfl ?_
  refine av rfl rfl rfl (bF c6) rfl rfl ?_
  refine av rfl rfl rfl (bF c6) rfl rfl ?_
  refine vV (aO rfl rfl rfl (bZ (bF c6))) rfl (vA rfl rfl (ai (aI ?_)))
  cases H
  refine vP [1] rfl rfl ?_
  exact aV rfl rfl ⟨rfl,rfl⟩
 refine aq (az (sz := 0) (o := 0) rfl jr bd) rfl rfl rfl c6 rfl rfl ?_
 refine aq (aP (v := (I a0_2)) rfl bl (aJ (i := 0) rfl rfl)) rfl rfl rfl c6 rfl rfl ?_
 obtain ⟨x8,h8,H⟩ := bS H
 refine du (bV (first := []) (cap := []) (xs := [.tmp 28,.const (I 0),.const (I 4611686018427387904)]) rfl rfl oG rfl (fO.spec a0_2 0 4611686018427387904 _ h8)) rfl rfl rfl c6 rfl rfl ?_
 rintro _ _ ⟨rfl,rfl⟩
 refine vV (aO rfl rfl rfl (cc c6)) rfl (vA rfl rfl (ai (aI ?_)))
 cases H
 refine vP [1] rfl rfl ?_
 exact aV rfl rfl ⟨rfl,rfl⟩
theorem ek.spec (r : Unit) (H : ek = r) : bo Tryz.prog 83 [] [] (fun v M => ∃ b2 : Nat,v = (pt b2 0) ∧ M = [box b2 199 [L0]]) := by
 unfold ek at H
 refine bp Tryz.func83 rfl 3 rfl (nL rfl) fun F w0 => ?_
 show cD (St 3 w0 F [] []) _
 refine ag (ae (vA rfl rfl (ai (ag (ae (vV (ey (is := []) (xs := []) (vs := []) rfl rfl (cz (cs := [L0]) wR tG rfl)) rfl ?_))))))
 refine aQ (dy (cs := [L0]) rfl rfl) rfl rfl rfl ?_
 rintro _ _ ⟨b3,rfl,rfl⟩
 refine vA rfl rfl (ai (aI ?_))
 cases H
 refine vP [0] rfl rfl ?_
 exact aV rfl rfl ⟨_,rfl,rfl⟩
theorem mh.spec (r : Unit) (H : mh = r) : bo Tryz.prog 39 [] [] (fun v M => ∃ b3 : Nat,∃ b4 : Nat,v = (pt b3 0) ∧ M = [box b3 155 [pt b4 0],box b4 199 [L0]]) := by
 unfold mh at H
 refine bp Tryz.func39 rfl 4 rfl (nL rfl) fun F w0 => ?_
 show cD (St 4 w0 F [] []) _
 refine ag (ae (vA rfl rfl (ai (ag (ae ?_)))))
 obtain ⟨u2,h2,H⟩ := bS H
 refine aQ (bG (Lr := []) (first := []) (cap := []) (xs := []) rfl rfl sO rfl (ek.spec _ h2) rfl) rfl rfl rfl ?_
 rintro _ _ ⟨_,⟨b5,rfl,rfl⟩,rfl⟩
 refine vV (ey (is := [0]) (xs := [.tmp 1]) (vs := [pt b5 0]) rfl rfl (cz (cs := [pt b5 0]) sb pG rfl)) rfl ?_
 refine aQ (dy (cs := [pt b5 0]) rfl rfl) rfl rfl rfl ?_
 rintro _ _ ⟨b6,rfl,rfl⟩
 refine vA rfl rfl (ai (aI ?_))
 cases H
 refine vP [0,1] rfl rfl ?_
 exact aV rfl rfl ⟨_,_,rfl,rfl⟩
theorem dA.spec (r : Unit) (H : dA = r) : bo Tryz.prog 177 [L0] [] (fun v M => ∃ b2 : Nat,v = (Value.func (.func 207) #[] #[pt b2 0]) ∧ M = [box b2 197 [L0]]) := by
 unfold dA at H
 refine bp Tryz.func177 rfl 4 rfl (nL rfl) fun F w0 => ?_
 show cD (St 4 w0 F [(0,L0)] []) _
 refine ag (ae ?_)
 refine aQ (dy (cs := [L0]) rfl rfl) rfl rfl rfl ?_
 rintro _ _ ⟨b3,rfl,rfl⟩
 refine vA rfl rfl (ai (ag (ae (vV (iM (first := []) (cap := [.tmp 1]) rfl rfl) rfl (vA rfl rfl (ai (aI ?_)))))))
 cases H
 refine vP [0] rfl rfl ?_
 exact aV rfl rfl ⟨_,rfl,rfl⟩
end Go.Proofs.YtmgpegiekankmaaGreat.MemCopies
end
