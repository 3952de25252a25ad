/- The engine's text of rows: what a law's arguments read as, and the way from a law's contract to its row. -/
import Derived.Test.YtgbjponaoeiglaaDoorEMore
import Derived.Carry
import Derived.OpenShut
import Derived.ShutString
import Derived.ChangeOld
import Derived.ChangeArms
import Derived.SizedLaws
set_option linter.unusedVariables false
set_option linter.unusedSimpArgs false
namespace Go.Proofs.YtgbjponaoeiglaaDoor.E
open Go Go.RowKit Go.ChangeShapes Go.WideShapes
open Go.ChangeMaps (open_string shut_string)

def heapOf (W : World) : Hp := fun b x => W.heap[b]? = some x
def noOwn : Hp := fun _ _ => False

/-! ### What lies at a type's cells -/
def Opens (P : Program) (W : World) (t : TypeId) {X : Type} (cells : X → List Value) (ok : X → Prop) : Prop :=
  ∀ (H : Type) (enc : TypeId × Value → H) (fuel : Nat) (cs : List Value) (d : DataW H) (ps : List MemPlace), DataW.trod enc P W 0 (fun _ => true) true fuel t cs = some (d, ps) → (∀ n ∈ d.weights P t, n ≤ reachBytes) → ∃ x, cs = cells x ∧ ok x

section
variable {P : Program} {W : World} {t e : TypeId} {X Y : Type} {c : X → List Value} {ok : X → Prop} {c' : Y → List Value} {ok' : Y → Prop}

theorem opens_int {k : IntKind} (ht : P.underlying t = some (.int k)) : Opens P W t (eI k) (inI k) := by
  intro H enc fuel cs d ps h _
  obtain ⟨n, rfl, hx, hw⟩ := DataW.trod_int ht h
  exact ⟨n, rfl, by simpa [Lit.wf, inI] using hw⟩
theorem opens_bool (ht : P.underlying t = some .bool) : Opens P W t eB (fun _ => True) := by
  intro H enc fuel cs d ps h _
  obtain ⟨n, rfl, hx⟩ := DataW.trod_bool ht h
  exact ⟨n, rfl, trivial⟩
theorem opens_str (ht : P.underlying t = some .string) : Opens P W t eS (fun s => s.length ≤ reachBytes) := by
  intro H enc fuel cs d ps h hz
  obtain ⟨s, rfl, hx, hm⟩ := DataW.trod_string ht h
  refine ⟨s.data.toList, rfl, ?_⟩
  obtain ⟨rfl, rfl⟩ := Prod.mk.inj hx
  exact hz _ (by simp [DataW.weights])

def OpensL (P : Program) (W : World) (ts : List TypeId) {X : Type} (cells : X → List Value) (ok : X → Prop) : Prop :=
  ∀ (H : Type) (enc : TypeId × Value → H) (fuel : Nat) (cs : List Value) (xs : List (DataW H × List MemPlace)), cs.length = (ts.map P.cellsOf).sum → xs.length = ts.length →
    (∀ (i : Nat) (t : TypeId), ts[i]? = some t → DataW.trod enc P W 0 (fun _ => true) true fuel t ((cs.drop (((ts.take i).map P.cellsOf).sum)).take (P.cellsOf t)) = xs[i]?) →
    (∀ n ∈ DataW.weightsEach P ts (xs.map (·.1)), n ≤ reachBytes) → ∃ x, cs = cells x ∧ ok x
theorem opensL_one (h : Opens P W t c ok) : OpensL P W [t] c ok := by
  intro H enc fuel cs xs hl hx hi hw
  match xs, hx with
  | [x], _ =>
    have := hi 0 t rfl
    simp at this hl hw
    rw [← hl, List.take_length] at this
    exact h H enc fuel cs x.1 x.2 this (by simpa [DataW.weightsEach] using hw)
theorem opensL_cons {ts : List TypeId} (h : Opens P W t c ok) (hs : OpensL P W ts c' ok') : OpensL P W (t :: ts) (fun x : X × Y => c x.1 ++ c' x.2) (fun x => ok x.1 ∧ ok' x.2) := by
  intro H enc fuel cs xs hl hx hi hw
  match xs, hx with
  | x :: xs, hx =>
    have h0 := hi 0 t rfl
    simp at h0 hl hw hx
    obtain ⟨y, h1, h2⟩ := h H enc fuel _ x.1 x.2 h0 (fun n hn => hw n (by simp [DataW.weightsEach, hn]))
    obtain ⟨z, h3, h4⟩ := hs H enc fuel (cs.drop (P.cellsOf t)) xs (by simp [hl]) (by simpa using hx) (fun i u hu => by
      have := hi (i + 1) u (by simpa using hu)
      simpa [List.drop_drop, Nat.add_comm] using this) (fun n hn => hw n (by simp only [DataW.weightsEach, List.mem_append]; exact .inr hn))
    exact ⟨(y, z), by show cs = c y ++ c' z; rw [← h1, ← h3, List.take_append_drop], h2, h4⟩

def offsOk (P : Program) : List Field → Nat → Bool
  | [], _ => true
  | f :: fs, o => f.offset == o && offsOk P fs (o + P.cellsOf f.type)
/-- A struct's fields' types, where they lie side by side. -/
def partsB (P : Program) (t : TypeId) : Option (List TypeId) := match P.underlying t with
  | some (.struct fs) => if offsOk P fs.toList 0 && P.cellsOf t == (fs.toList.map fun f => P.cellsOf f.type).sum then some (fs.toList.map (·.type)) else none
  | _ => none
theorem offs_at {P : Program} : ∀ (fs : List Field) (o : Nat), offsOk P fs o = true → ∀ (i : Nat) (f : Field), fs[i]? = some f → f.offset = o + (((fs.map (·.type)).take i).map P.cellsOf).sum
  | [], _, _, i, f, hf => by simp at hf
  | g :: fs, o, h, 0, f, hf => by
    simp [offsOk] at h hf
    subst hf
    simp [h.1]
  | g :: fs, o, h, i + 1, f, hf => by
    simp [offsOk] at h hf
    have := offs_at fs _ h.2 i f hf
    simp only [List.map_cons, List.take_succ_cons, List.sum_cons]
    omega
theorem opens_struct {ts : List TypeId} (ht : partsB P t = some ts) (h : OpensL P W ts c ok) : Opens P W t c ok := by
  intro H enc fuel cs d ps hd hw
  unfold partsB at ht
  split at ht
  · rename_i fs hu
    split at ht
    · rename_i hc
      cases ht
      simp only [Bool.and_eq_true, beq_iff_eq] at hc
      obtain ⟨ho, hz⟩ := hc
      obtain ⟨xs, n, rfl, hx, hl, hlen, hi⟩ := DataW.trod_struct hu hd
      obtain ⟨rfl, rfl⟩ := Prod.mk.inj hx
      refine h H enc n cs xs (by rw [hl, hz]; simp [List.map_map, Function.comp_def]) (by simpa using hlen) (fun i u hu' => ?_) (fun m hm => hw m (by simpa [DataW.weights, hu] using hm))
      simp only [List.getElem?_map, Option.map_eq_some_iff] at hu'
      obtain ⟨f, hf, rfl⟩ := hu'
      have := hi i f (by simpa using hf)
      rw [offs_at _ _ ho i f hf, Nat.zero_add] at this
      exact this
    · cases ht
  · cases ht

/-- The same, told in other words. -/
theorem opens_map (h : Opens P W t c ok) (f : X → Y) (hc : ∀ x, c x = c' (f x)) (hok : ∀ x, ok x → ok' (f x)) : Opens P W t c' ok' := by
  intro H enc fuel cs d ps hd hw
  obtain ⟨x, hx, hk⟩ := h H enc fuel cs d ps hd hw
  exact ⟨f x, by rw [hx, hc], hok x hk⟩
/-- The same, told of what it is made of. -/
theorem opens_img (h : Opens P W t c ok) (f : X → Y) (hc : ∀ x, c x = c' (f x)) : Opens P W t c' (fun y => ∃ x, y = f x ∧ ok x) := by
  intro H enc fuel cs d ps hd hw
  obtain ⟨x, hx, hk⟩ := h H enc fuel cs d ps hd hw
  exact ⟨f x, by rw [hx, hc], x, rfl, hk⟩
theorem opens_arr4 (ht : arrayB P t = some (4, e)) (hz : P.cellsOf t = 4 * P.cellsOf e) (h : OpensL P W [e, e, e, e] c ok) : Opens P W t c ok := by
  intro H enc fuel cs d ps hd hw
  have hu := underlying_array ht
  obtain ⟨xs, m, rfl, hx, hl, hlen, hi⟩ := DataW.trod_array hu hd
  obtain ⟨rfl, rfl⟩ := Prod.mk.inj hx
  match xs, hlen with
  | [x0, x1, x2, x3], _ =>
    refine h H enc m cs [x0, x1, x2, x3] (by rw [hl, hz]; simp; omega) rfl (fun i u hu' => ?_) (fun n hn => hw n ?_)
    · match i, hu' with
      | 0, hu' => simp at hu'; subst hu'; simpa using hi 0 (by omega)
      | 1, hu' => simp at hu'; subst hu'; simpa using hi 1 (by omega)
      | 2, hu' => simp at hu'; subst hu'; simpa [Nat.two_mul] using hi 2 (by omega)
      | 3, hu' => simp at hu'; subst hu'; have := hi 3 (by omega); rw [show 3 * P.cellsOf e = P.cellsOf e + (P.cellsOf e + P.cellsOf e) by omega] at this; simpa using this
      | j + 4, hu' => simp at hu'
    · simpa [DataW.weights, hu, DataW.weightsAll, DataW.weightsEach] using hn

theorem weightsAll_mem {H : Type} {P : Program} {e : TypeId} : ∀ {ds : List (DataW H)} {d : DataW H}, d ∈ ds → ∀ n ∈ d.weights P e, n ∈ DataW.weightsAll P e ds
  | x :: ds, d, h, n, hn => by
    simp only [DataW.weightsAll, List.mem_append]
    cases h with
    | head => exact .inl hn
    | tail _ h => exact .inr (weightsAll_mem h n hn)

/-- A row of elements, each one read. -/
theorem opens_row {H : Type} {enc : TypeId × Value → H} (h : Opens P W e c ok) {fuel : Nat} : ∀ {parts : List (List Value)} {ys : List (DataW H × List MemPlace)}, parts.length = ys.length →
    (∀ (i : Nat) (q : List Value) (y : DataW H × List MemPlace), parts[i]? = some q → ys[i]? = some y → DataW.trod enc P W 0 (fun _ => true) true fuel e q = some y) → (∀ n ∈ DataW.weightsAll P e (ys.map (·.1)), n ≤ reachBytes) →
    ∃ xs : List X, parts = xs.map c ∧ ∀ x ∈ xs, ok x
  | [], [], _, _, _ => ⟨[], rfl, by simp⟩
  | [], y :: ys, hl, _, _ => by simp at hl
  | q :: parts, [], hl, _, _ => by simp at hl
  | q :: parts, y :: ys, hl, hi, hw => by
    obtain ⟨x, hx, hok⟩ := h H enc fuel q y.1 y.2 (hi 0 q y rfl rfl) (fun n hn => hw n (by simp [DataW.weightsAll, hn]))
    obtain ⟨xs, hxs, hoks⟩ := opens_row h (parts := parts) (ys := ys) (by simpa using hl) (fun i => hi (i + 1)) (fun n hn => hw n (by simp only [List.map_cons, DataW.weightsAll, List.mem_append]; exact .inr hn))
    exact ⟨x :: xs, by simp [hx, hxs], by simpa [hok] using hoks⟩

theorem chunks {n sz : Nat} : ∀ (cs : List Value), cs.length = n * sz → cs = ((List.range n).map fun i => (cs.drop (i * sz)).take sz).flatten := by
  induction n with
  | zero => intro cs h; simp at h; simp [h]
  | succ n ih =>
    intro cs h
    have hn : (cs.take (n * sz)).length = n * sz := by simp [h, Nat.succ_mul]
    have e := ih (cs.take (n * sz)) hn
    rw [List.range_succ, List.map_append, List.flatten_append]
    have e2 : ((List.range n).map fun i => ((cs.take (n * sz)).drop (i * sz)).take sz) = ((List.range n).map fun i => (cs.drop (i * sz)).take sz) := by
      refine List.map_congr_left fun i hi => ?_
      have hi' : i + 1 ≤ n := by simp at hi; omega
      have : (i + 1) * sz ≤ n * sz := Nat.mul_le_mul_right _ hi'
      rw [List.drop_take, List.take_take, Nat.min_eq_left]
      rw [Nat.succ_mul] at this; omega
    rw [e2] at e
    rw [← e]
    have h2 : (cs.drop (n * sz)).take sz = cs.drop (n * sz) := List.take_of_length_le (by simp [h, Nat.succ_mul])
    simp [h2]

theorem opens_array {n : Nat} (ht : arrayB P t = some (n, e)) (hz : P.cellsOf t = n * P.cellsOf e) (h : Opens P W e c ok) : Opens P W t (fun l : List X => fl c l) (fun l => l.length = n ∧ ∀ x ∈ l, ok x) := by
  intro H enc fuel cs d ps hd hw
  have hu := underlying_array ht
  obtain ⟨xs, m, rfl, hx, hl, hlen, hi⟩ := DataW.trod_array hu hd
  obtain ⟨rfl, rfl⟩ := Prod.mk.inj hx
  obtain ⟨ys, hys, hok⟩ := opens_row (W := W) (enc := enc) (fuel := m) h (parts := (List.range n).map fun i => (cs.drop (i * P.cellsOf e)).take (P.cellsOf e)) (ys := xs) (by simp [hlen]) (fun i q y hq hy => by
      simp only [List.getElem?_map, Option.map_eq_some_iff] at hq
      obtain ⟨j, hj, rfl⟩ := hq
      obtain ⟨hj1, hj2⟩ := List.getElem?_eq_some_iff.1 hj
      simp at hj1 hj2
      subst hj2
      rw [hi i hj1, hy]) (fun k hk => hw k (by simpa [DataW.weights, hu] using hk))
  have hlen' : n = ys.length := by simpa using congrArg List.length hys
  refine ⟨ys, ?_, hlen'.symm, hok⟩
  rw [chunks cs (hl.trans hz), hys]
  simp [fl, List.flatMap_def]

theorem opens_slice (ht : sliceB P t = some e) (h : Opens P W e c ok) : Opens P W t (fun x : Value × List X => [x.1])
    (fun x => rdp x.1 x.2.length (P.cellsOf e) (fl c x.2) noOwn (heapOf W) ∧ x.2.length * P.bytesOf e ≤ reachBytes ∧ ∀ y ∈ x.2, ok y) := by
  intro H enc fuel cs d ps hd hw
  have hu := underlying_slice ht
  rcases DataW.trod_slice hu hd with ⟨rfl, hx⟩ | ⟨a, len, cap, elems, rest, m, rfl, rfl, hx, hb, hlc, hcm, hlen, hel, _, _⟩
  · exact ⟨(_, []), rfl, ⟨by simp [fl], by simp, none, 0, rfl, Nat.le_refl _, by simp [fl]⟩, by simp, by simp⟩
  · obtain ⟨rfl, rfl⟩ := Prod.mk.inj hx
    simp only [DataW.weights, hu] at hw
    have each : ∀ i, i < len → ∃ q, W.cells? 0 (a.add (i * P.cellsOf e)) (P.cellsOf e) = some q ∧ ∃ y, elems[i]? = some y ∧ DataW.trod enc P W 0 (fun _ => true) true m e q = some y := by
      intro i hi
      have h1 := hel i hi
      have : i < elems.length := hlen ▸ hi
      obtain ⟨y, hy⟩ : ∃ y, elems[i]? = some y := ⟨_, List.getElem?_eq_getElem this⟩
      rw [hy, Option.bind_eq_some_iff] at h1
      obtain ⟨q, h2, h3⟩ := h1
      exact ⟨q, h2, y, hy, h3⟩
    obtain ⟨ys, hys, hok⟩ := opens_row (W := W) (enc := enc) (fuel := m) h (parts := (List.range len).map fun i => (W.cells? 0 (a.add (i * P.cellsOf e)) (P.cellsOf e)).getD []) (ys := elems) (by simp [hlen]) (fun i q y hq hy => by
        simp only [List.getElem?_map, Option.map_eq_some_iff] at hq
        obtain ⟨j, hj, rfl⟩ := hq
        obtain ⟨hj1, hj2⟩ := List.getElem?_eq_some_iff.1 hj
        simp at hj1 hj2
        subst hj2
        obtain ⟨q, h1, y', h2, h3⟩ := each i hj1
        rw [h1, Option.getD_some, h3, ← h2, hy]) (fun k hk => hw k (by simp [hk]))
    have hlen' : len = ys.length := by simpa using congrArg List.length hys
    have hcell : ∀ i j, i < len → j < P.cellsOf e → ∃ y, ys[i]? = some y ∧ W.cell? (a.add (i * P.cellsOf e + j)) = (c y)[j]? ∧ (c y).length = P.cellsOf e := by
      intro i j hi hj
      obtain ⟨q, h1, _⟩ := each i hi
      obtain ⟨y, hy⟩ : ∃ y, ys[i]? = some y := ⟨_, List.getElem?_eq_getElem (hlen' ▸ hi)⟩
      have e1 : ((List.range len).map fun i => (W.cells? 0 (a.add (i * P.cellsOf e)) (P.cellsOf e)).getD [])[i]? = (ys.map c)[i]? := by rw [hys]
      simp [hy, hi, h1] at e1
      obtain ⟨_, h4, h5⟩ := World.cells?_some h1
      subst e1
      refine ⟨y, hy, ?_, h4⟩
      have := h5 j hj
      rw [← this]
      congr 1
      unfold Addr.add
      by_cases h0 : i * P.cellsOf e = 0 <;> by_cases h00 : j = 0 <;> simp [h0, h00, Nat.add_assoc]
    have hfl : ∀ y ∈ ys, (c y).length = P.cellsOf e := by
      intro y hy
      obtain ⟨i, hi⟩ := List.getElem?_of_mem hy
      have hil : i < len := by rw [hlen']; exact (List.getElem?_eq_some_iff.1 hi).1
      have e1 : ((List.range len).map fun i => (W.cells? 0 (a.add (i * P.cellsOf e)) (P.cellsOf e)).getD [])[i]? = (ys.map c)[i]? := by rw [hys]
      obtain ⟨q, h1, _⟩ := each i hil
      simp [hi, hil, h1] at e1
      exact e1 ▸ (World.cells?_some h1).2.1
    have hfll : ∀ (zs : List X), (∀ y ∈ zs, (c y).length = P.cellsOf e) → (fl c zs).length = zs.length * P.cellsOf e := by
      intro zs
      induction zs with
      | nil => simp [fl]
      | cons z zs ih =>
        intro hz
        have := ih (fun y hy => hz y (by simp [hy]))
        simp [fl] at this ⊢
        rw [hz z (by simp), this, Nat.succ_mul, Nat.add_comm]
    have hget : ∀ (zs : List X), (∀ y ∈ zs, (c y).length = P.cellsOf e) → ∀ i j y, j < P.cellsOf e → zs[i]? = some y → (fl c zs)[i * P.cellsOf e + j]? = (c y)[j]? := by
      intro zs
      induction zs with
      | nil => intro _ i j y _ h; simp at h
      | cons z zs ih =>
        intro hz i j y hj hy
        have h1 := hz z (by simp)
        cases i with
        | zero =>
          simp at hy
          subst hy
          simp [fl]
          rw [List.getElem?_append_left (by omega)]
        | succ i =>
          have := ih (fun y hy => hz y (by simp [hy])) i j y hj (by simpa using hy)
          simp [fl] at this ⊢
          rw [List.getElem?_append_right (by rw [h1, Nat.succ_mul]; omega), h1, ← this]
          congr 1
          rw [Nat.succ_mul]; omega
    refine ⟨(_, ys), rfl, ⟨hfll ys hfl, by show ys.length ≤ maxLen; omega, some a, cap, by rw [hlen'], by show ys.length ≤ cap; omega, fun hp => ⟨a, rfl, ?_⟩⟩, ?_, hok⟩
    · rw [hfll ys hfl] at hp
      have hpos : 0 < P.cellsOf e := Nat.pos_of_mul_pos_left hp
      have hpl : 0 < len := by rw [hlen']; exact Nat.pos_of_mul_pos_right hp
      obtain ⟨y0, hy0, hc0, hl0⟩ := hcell 0 0 hpl hpos
      have hs0 : ∃ v, W.cell? a = some v := by
        rw [Nat.zero_mul] at hc0
        simp only [Addr.add, Nat.add_zero, if_true] at hc0
        rw [hc0]
        exact ⟨_, List.getElem?_eq_getElem (by omega)⟩
      obtain ⟨v0, hv0⟩ := hs0
      unfold World.cell? at hv0
      split at hv0
      · rename_i C T fr hblk
        split at hv0
        · cases hv0
        · rename_i hsp
          have hspn : a.spot = none := by simpa using hsp
          refine ⟨hspn, C, T, fr, .inr hblk, fun j v hj => ?_⟩
          have hjl := (List.getElem?_eq_some_iff.1 hj).1
          rw [hfll ys hfl] at hjl
          have hi : j / P.cellsOf e < ys.length := (Nat.div_lt_iff_lt_mul hpos).2 hjl
          obtain ⟨y, hy, hcl, _⟩ := hcell (j / P.cellsOf e) (j % P.cellsOf e) (hlen' ▸ hi) (Nat.mod_lt _ hpos)
          have e1 := hget ys hfl (j / P.cellsOf e) (j % P.cellsOf e) y (Nat.mod_lt _ hpos) hy
          rw [show j / P.cellsOf e * P.cellsOf e + j % P.cellsOf e = j by rw [Nat.mul_comm]; exact Nat.div_add_mod j _] at e1 hcl
          rw [hj] at e1
          rw [← e1] at hcl
          have hblk' : W.heap[(a.add j).block]? = some (.cells C T fr) := by unfold Addr.add; split <;> exact hblk
          unfold World.cell? at hcl
          rw [hblk'] at hcl
          by_cases h0 : j = 0
          · subst h0
            simpa [Addr.add, hspn] using hcl
          · simpa [Addr.add, h0] using hcl
      · cases hv0
    · have := hw ((elems.length + rest.length) * P.bytesOf e) (by simp)
      refine Nat.le_trans (Nat.mul_le_mul_right _ ?_) this
      show ys.length ≤ _
      omega
end

/-! ### A law's arguments -/
def OpensV (P : Program) (W : World) (t : TypeId) {X : Type} (val : X → Value) (ok : X → Prop) : Prop :=
  ∀ (H : Type) (enc : TypeId × Value → H) (base : Nat) (v : Value) (d : DataW H) (ps : List MemPlace), Value.okWide P W .any base t v → DataW.Trod enc P W 0 (fun _ => true) true t v d ps → (∀ n ∈ d.weights P t, n ≤ reachBytes) → ∃ x, v = val x ∧ ok x
def OpensA (P : Program) (W : World) (ts : List TypeId) {X : Type} (vals : X → List Value) (ok : X → Prop) : Prop :=
  ∀ (H : Type) (enc : TypeId × Value → H) (base : Nat) (args : List Value) (ds : List (DataW H)) (ps : List MemPlace), (∀ (j : Nat) (t : TypeId) (v : Value), ts[j]? = some t → args[j]? = some v → Value.okWide P W .any base t v) →
    DataW.TrodAll enc P W 0 (fun _ => true) true ts args ds ps → (∀ n ∈ DataW.weightsEach P ts ds, n ≤ reachBytes) → ∃ x, args = vals x ∧ ok x

section
variable {P : Program} {W : World} {t e : TypeId} {X Y : Type} {c : X → List Value} {ok : X → Prop}
theorem opensV_int {k : IntKind} (ht : P.underlying t = some (.int k)) : OpensV P W t (fun x => .int k x) (inI k) := by
  intro H enc base v d ps hv hd _
  obtain ⟨n, rfl, _, _, hw⟩ := open_int ht hv hd
  exact ⟨n, rfl, by simpa [Lit.wf, inI] using hw⟩
theorem opensV_bool (ht : P.underlying t = some .bool) : OpensV P W t (fun x => .bool x) (fun _ => True) := by
  intro H enc base v d ps hv hd _
  obtain ⟨n, rfl, _⟩ := open_bool ht hv hd
  exact ⟨n, rfl, trivial⟩
theorem opensV_str (ht : P.underlying t = some .string) : OpensV P W t str (fun s => s.length ≤ reachBytes) := by
  intro H enc base v d ps hv hd hw
  obtain ⟨n, rfl, rfl, _, _⟩ := open_string ht hv hd
  exact ⟨n.data.toList, rfl, hw _ (by simp [DataW.weights])⟩
theorem opensV_agg (ht : aggB P t = some true) (h : Opens P W t c ok) : OpensV P W t (fun x => .agg (c x).toArray) ok := by
  intro H enc base v d ps hv ⟨fuel, hd⟩ hw
  obtain ⟨cs, rfl⟩ : ∃ cs, v = .agg cs := by
    unfold Value.okWide at hv
    simp only [aggB, Option.map_eq_some_iff] at ht
    obtain ⟨u, hu, ht⟩ := ht
    rw [hu] at hv
    cases u <;> simp at ht <;> exact ⟨_, hv.choose_spec.1⟩
  obtain ⟨x, hx, hok⟩ := h H enc fuel _ d ps hd hw
  refine ⟨x, ?_, hok⟩
  show Value.agg cs = .agg (c x).toArray
  rw [← hx]
  simp [Value.cells]
theorem opensV_slice (ht : sliceB P t = some e) (h : Opens P W e c ok) : OpensV P W t (fun x : Value × List X => x.1)
    (fun x => rdp x.1 x.2.length (P.cellsOf e) (fl c x.2) noOwn (heapOf W) ∧ x.2.length * P.bytesOf e ≤ reachBytes ∧ ∀ y ∈ x.2, ok y) := by
  intro H enc base v d ps hv ⟨fuel, hd⟩ hw
  obtain ⟨a, len, cap, rfl⟩ := okWide_slice (underlying_slice ht) hv
  obtain ⟨x, hx, hok⟩ := opens_slice ht h H enc fuel _ d ps hd hw
  refine ⟨x, ?_, hok⟩
  simpa [Value.cells] using hx

theorem opensA_nil : OpensA P W [] (fun _ : Unit => []) (fun _ => True) := by
  intro H enc base args ds ps _ h _
  exact ⟨(), (trodAll_nil h).1, trivial⟩
theorem opensA_cons {ts : List TypeId} {val : X → Value} {vals : Y → List Value} {ok' : Y → Prop} (h : OpensV P W t val ok) (hs : OpensA P W ts vals ok') : OpensA P W (t :: ts) (fun x : X × Y => val x.1 :: vals x.2) (fun x => ok x.1 ∧ ok' x.2) := by
  intro H enc base args ds ps hv ha hw
  obtain ⟨v, vs, d, ds', p, q, rfl, rfl, rfl, h0, hr⟩ := trodAll_cons ha
  obtain ⟨x, rfl, hx⟩ := h H enc base v d p (hv 0 t v rfl rfl) h0 (fun n hn => hw n (by simp [DataW.weightsEach, hn]))
  obtain ⟨y, rfl, hy⟩ := hs H enc base vs ds' q (fun j u w hu hw' => hv (j + 1) u w hu hw') hr (fun n hn => hw n (by simp only [DataW.weightsEach, List.mem_append]; exact .inr hn))
  exact ⟨(x, y), rfl, hx, hy⟩
end

/-! ### From a contract to a row -/
def oldW (W : World) : HP := ⟨fun _ s => ∀ b x, W.heap[b]? = some x → s b x, fun h _ hs b x hb => hs _ _ (h b x hb), []⟩
theorem isRd_old {W : World} {sv : Value} {n sz : Nat} {cs : List Value} (h : rdp sv n sz cs noOwn (heapOf W)) : IsRd (oldW W) sv n sz cs :=
  fun _ _ hA => rdp_mono h (fun _ _ hf => False.elim hf) (fun b x hx => hA b x hx)
theorem row_calls {P : Program} {f : FuncId} {args : List Value} {L : List HP} {Post : Value → List HP → Prop} (h : FnSpec P f args L Post) {W : World} (hL : ∀ A ∈ L, A.p noOwn (heapOf W)) :
    Calls P f args.toArray W fun e W' => ∃ v M, e = .returned v ∧ Post v M ∧ Below W.heap.size W W' := by
  refine (h [oldW W] W ⟨fun _ _ => False, fun b => b < W.heap.size, fun _ _ _ h => h.elim, fun _ _ h => h.elim, fun _ _ h => h.elim, fun _ h => h, fun i A hi => ?_⟩).mono fun e W' ⟨v, M, he, hp, hs, hk⟩ => ⟨v, M, he, hp, ?_⟩
  · have lt : ∀ b x, heapOf W b x → restr W (fun b => b < W.heap.size) b x := fun b x hb => ⟨(Array.getElem?_eq_some_iff.1 hb).1, hb⟩
    rcases List.mem_append.1 (List.mem_of_getElem? hi) with hm | hm
    · exact A.mono (hL A hm) (fun _ _ h => h.elim) lt
    · simp at hm
      subst hm
      exact lt
  · obtain ⟨own, S, hsat⟩ := hs
    have := hsat.at_ M.length (oldW W) (by simp)
    refine ⟨hk.os, hk.tape, hk.output, hk.size, fun b hb => ?_⟩
    have h1 := this b W.heap[b] (by simp [hb])
    rw [h1.2]
    simp [hb]

theorem trodAll_below {H : Type} {enc : TypeId × Value → H} {P : Program} (hl : laidOutB P = true) {W W' : World} (hb : Below W.heap.size W W') : ∀ {ts : List TypeId} {vs : List Value} {ds : List (DataW H)} {ps : List MemPlace},
    ts.all (fun t => P.readableRec t && decide (t < P.types.size)) = true → DataW.TrodAll enc P W 0 (fun _ => true) true ts vs ds ps → DataW.TrodAll enc P W' 0 (fun b => decide (b < W.heap.size)) true ts vs ds ps
  | [], _, _, _, _, h => by
    obtain ⟨rfl, rfl, rfl⟩ := trodAll_nil h
    exact rfl
  | t :: ts, _, _, _, ht, h => by
    obtain ⟨v, vs, d, ds', p, q, rfl, rfl, rfl, h0, hr⟩ := trodAll_cons h
    simp only [List.all_cons, Bool.and_eq_true, decide_eq_true_eq] at ht
    refine trodAll_cons_mk (Below.trod hl ht.1.1 ht.1.2 h0 hb ?_) (trodAll_below hl hb (by simpa using ht.2) hr)
    obtain ⟨m, hm⟩ := h0
    exact DataW.trod_lt m _ _ _ hm

theorem trodAll_len {H : Type} {enc : TypeId × Value → H} {P : Program} {W : World} {base : Nat} {spare : Nat → Bool} {held : Bool} : ∀ {ts : List TypeId} {vs : List Value} {ds : List (DataW H)} {ps : List MemPlace}, DataW.TrodAll enc P W base spare held ts vs ds ps → ds.length = ts.length
  | [], _, _, _, h => by obtain ⟨_, rfl, _⟩ := trodAll_nil h; rfl
  | t :: ts, _, _, _, h => by
    obtain ⟨v, vs, d, ds', p, q, rfl, rfl, rfl, h0, hr⟩ := trodAll_cons h
    simpa using trodAll_len hr

/-- A law that answers true and leaves what it reads as it was. -/
theorem row_lifted {H : Type} {enc : TypeId × Value → H} {C : Checked} {os : Os} {f : FuncId} {fn : Func} {s : ChangeSpec} {conds : List PathCond} {tb : TypeId} {ts : List TypeId} {X : Type} {vals : X → List Value} {ok : World → X → Prop}
    (own : ownKnob C.prog.godebug = none) (started : os.Started) (noInit : C.prog.inits.idxOf? f = none) (hfn : C.prog.funcs[f]? = some fn)
    (witness : ∃ (w : World) (tape : Tape) (i : Input), w.os = os ∧ (w.forCall tape i).Shaped C.prog ∧ i.vars = [] ∧ Input.okWide C.prog (w.forCall tape i) .any w.heap.size f i ∧
      s.pre6 enc C.prog fn conds false (w.forCall tape i).memory i.args ∧ ({} : Assume).holds C.prog (lone (Frame.enter C.prog f i.args .normal) [] (w.forCall tape i)))
    (hts : fn.params.toList = ts) (hrs : fn.resultTypes = #[tb]) (hb : C.prog.underlying tb = some .bool) (hvars : s.vars = []) (laid : laidOutB C.prog = true)
    (hrd : ts.all (fun t => C.prog.readableRec t && decide (t < C.prog.types.size)) = true)
    (hs : ∀ ds : List (DataW H), ds.length = ts.length → s.fn H ds = { results := [.lit (.bool true)], args := ds })
    (hopen : ∀ W, OpensA C.prog W ts vals (ok W))
    (law : ∀ W x, ok W x → ∃ L, FnSpec C.prog f (vals x) L (fun v M => v = .bool true) ∧ ∀ A ∈ L, A.p noOwn (heapOf W)) :
    ReturnsInHanded {} C os f .any (s.pre6 enc C.prog fn conds false) (s.post enc C.prog fn false true false false) := by
  refine returnsInHanded_of_change_sized own started noInit hfn witness ?_
  intro W base args ds gs before hval hW hcnd hsz _
  have hW' := hW
  obtain ⟨p, q, hA, hV, rfl, _, _⟩ := hW
  rw [hvars] at hV
  obtain ⟨rfl, rfl⟩ := trodVars_none hV
  rw [hts] at hA
  rw [List.append_nil, hts] at hsz
  have hlen : ds.length = ts.length := trodAll_len hA
  have hw0 : ∀ n ∈ DataW.weightsEach C.prog ts ds, n ≤ reachBytes := by
    intro n hn
    have h1 : s.plain.varTypes C.prog = [] := by simp [DataSpec.varTypes, ChangeSpec.plain, hvars]
    rw [h1, List.append_nil] at hsz
    simpa using List.all_eq_true.1 hsz n hn
  obtain ⟨x, hx, hok⟩ := hopen W H enc base args.toList ds p (fun j t v ht hv => hval j t v (by rw [← hts] at ht; simpa using ht) (by simpa using hv)) hA hw0
  obtain ⟨L, hspec, hL⟩ := law W x hok
  obtain rfl : args = (vals x).toArray := by rw [← hx]
  refine (row_calls hspec hL).mono fun e W' ⟨v, M, he, hp, bel⟩ => ?_
  subst hp
  refine ⟨_, he, ds, [], _, [], p, [], hW', ?_, ?_, ?_, bel.frame _, fun h => by cases h⟩
  · rw [List.append_nil, hs ds hlen, hrs]
    exact trodAll_mk1 (shut_bool hb _)
  · rw [List.append_nil, hs ds hlen, hts]
    exact trodAll_below laid bel hrd hA
  · rw [List.append_nil, hs ds hlen, hvars]
    rfl
end Go.Proofs.YtgbjponaoeiglaaDoor.E
