/- The engine's text of conversions (bytes to strings), of slices that may be nil, and of great arrays as functions of the place. -/
import Derived.Test.YtgbjponaoeiglaaDoorEByte
import Derived.Laws.BytesString
set_option linter.unusedVariables false
set_option linter.unusedSimpArgs false
namespace Go.Proofs.YtgbjponaoeiglaaDoor.E
open Go Go.RowKit
section
variable {P : Program} {L : List HP} {ρ : Env} {ty : Nat} {dd : Option Nat} {gg : Option (Nat × Bool)} {pos : String} {after : Array Edge}
theorem push_all : ∀ (ns : List Int) (s : ByteArray), (ns.foldl (fun r n => r.push (UInt8.ofNat n.toNat)) s) = ⟨s.data ++ (strs ns).toArray⟩
  | [], s => by simp [strs]
  | n :: ns, s => by
    rw [List.foldl_cons, push_all ns]
    congr 1
    simp [ByteArray.push, strs]
theorem fl_eI (k : IntKind) : ∀ (xs : List Int), fl (eI k) xs = xs.map (Value.int k)
  | [] => rfl
  | x :: xs => by
    have := fl_eI k xs
    simp only [fl] at this
    simp [fl, eI, this]
theorem ov_b2s {src dst e : TypeId} {x : Operand} {sv : Value} {xs : List Int} {A : HP} (i : Nat) (hx : ev ρ x = some sv) (hs : sliceB P src = some e) (he : P.underlying e = some (.int .u8)) (hd : P.underlying dst = some .string)
    (hi : L[i]? = some A) (hA : IsRd A sv xs.length 1 (fl (eI .u8) xs)) : OV P ⟨dd, .convert src dst x, ty, pos, after, gg⟩ ρ L (str (strs xs)) := by
  intro F a w ha hsat
  obtain ⟨hl, hm, B, c, rfl, hc, hr⟩ := rd_form hi hA hsat
  have key : (Conv.bytesToString (.slice B xs.length c)).run P w = .ok (str (strs xs)) w := by
    cases B with
    | none =>
      have : xs = [] := by
        cases xs with
        | nil => rfl
        | cons y ys =>
          obtain ⟨ad, e, _⟩ := hr (by rw [hl]; simp)
          cases e
      subst this
      rfl
    | some ad =>
      have hcs : ∀ j v, (xs.map (Value.int .u8))[j]? = some v → w.cell? (ad.add j) = some v := by
        intro j v hj
        rw [← fl_eI] at hj
        have hpos : 0 < (fl (eI .u8) xs).length := Nat.lt_of_le_of_lt (Nat.zero_le _) (List.getElem?_eq_some_iff.1 hj).1
        obtain ⟨a2, e2, h3⟩ := hr hpos
        cases e2
        exact h3 j v hj
      have hload := run_loadCells_list (P := P) (w := w) ad (xs.map (Value.int .u8)) hcs
      rw [List.length_map] at hload
      rw [run_bytesToString w ad xs.length c xs hload, push_all]
      simp [str, ByteArray.empty, ByteArray.emptyWithCapacity]
      try rfl
  simp only [execOp, ev_eval ha hx, Sem.run_bind, run_convert_bytes_string w src dst e B xs.length c (underlying_slice hs) he hd, key, Result.andThen_ok, Sem.run_pure]
/-- Is a slice nil? -/
def nilS : Value → Bool
  | .slice none _ _ => true
  | _ => false
theorem eq_sv {T e : TypeId} {d : Nat} (ht : P.underlying T = some (.slice e)) (B : Option Addr) (k c : Nat) : EqV P (d + 1) T (.slice B k c) (.slice none 0 0) (nilS (.slice B k c)) := fun w => by
  cases B <;> (rw [Op.equalIn]; simp [run_underlying ht, nilS])
theorem ov_eqnil0 {T e T' m sz : Nat} {x y : Operand} {sv : Value} {cs : List Value} {A : HP} {b : Bool} (i : Nat) (hx : ev ρ x = some sv) (hy : ev ρ y = some (.slice none 0 0)) (ht : P.underlying T = some (.slice e)) (hi : L[i]? = some A) (hA : IsRd A sv m sz cs) (hb : nilS sv = b) :
    OV P ⟨dd, .binOp .eql T x y T', ty, pos, after, gg⟩ ρ L (.bool b) := fun F a w ha hs => by
  obtain ⟨hl, _, B, c, e1, _, hr⟩ := rd_form hi hA hs
  subst e1
  subst hb
  exact ov_bin hx hy (b_eql_of (fun w => rfl) rfl (eq_sv ht B m c)) F a w ha hs
theorem ov_neqnil0 {T e T' m sz : Nat} {x y : Operand} {sv : Value} {cs : List Value} {A : HP} {b : Bool} (i : Nat) (hx : ev ρ x = some sv) (hy : ev ρ y = some (.slice none 0 0)) (ht : P.underlying T = some (.slice e)) (hi : L[i]? = some A) (hA : IsRd A sv m sz cs) (hb : nilS sv = !b) :
    OV P ⟨dd, .binOp .neq T x y T', ty, pos, after, gg⟩ ρ L (.bool b) := fun F a w ha hs => by
  obtain ⟨hl, _, B, c, e1, _, hr⟩ := rd_form hi hA hs
  subst e1
  have := ov_bin hx hy (b_neq_of (fun w => rfl) rfl (eq_sv ht B m c)) (dd := dd) (ty := ty) (pos := pos) (after := after) (gg := gg) (T' := T') F a w ha hs
  rw [hb, Bool.not_not] at this
  exact this
theorem isRd_zero {α : Type} {enc : α → List Value} {A : HP} {sv : Value} {xs : List α} {sz : Nat} (h : IsRd A sv xs.length sz (fl enc xs)) (hz : ¬ 0 < xs.length) : IsRd A sv ([] : List α).length sz (fl enc ([] : List α)) := by
  have : xs = [] := List.eq_nil_of_length_eq_zero (by omega)
  rw [this] at h
  exact h
/-! #### Arrays as functions -/
def arrF {α : Type} (enc : α → List Value) (n : Nat) (f : Nat → α) : List Value := fl enc ((List.range n).map f)
section arr
variable {α : Type} {enc : α → List Value} {sz n k : Nat} {f g : Nat → α}
theorem arrF_length (he : ∀ x, (enc x).length = sz) : (arrF enc n f).length = n * sz := by
  unfold arrF; rw [fl_length he]; simp
theorem len_mapr {α : Type} (n : Nat) (f : Nat → α) : ((List.range n).map f).length = n := by simp
theorem isRd_boxF {b B : Nat} (he : ∀ x, (enc x).length = sz) (hm : n ≤ 1000000) : IsRd (box b B (arrF enc n f)) (asl b 0 n) ((List.range n).map f).length sz (fl enc ((List.range n).map f)) := by
  have hl : (arrF enc n f).length = n * sz := arrF_length he
  have h := isRd_box (b := b) (B := B) (o := 0) (n := n) (sz := sz) (cs := arrF enc n f) (ds := arrF enc n f) hl hm (by simp)
  rw [len_mapr]
  exact h
theorem size_arrF {T m : Nat} (h : sizeB P T = some m) (he : ∀ x, (enc x).length = sz) (hm : m = n * sz) : sizeB P T = some (arrF enc n f).length := by rw [h, arrF_length he, hm]
theorem map_getD (hk : k < n) : ∀ z, ((List.range n).map f).getD k z = f k := by
  intro z; simp [List.getD_eq_getElem?_getD, hk]
theorem map_set (hk : k < n) (y : α) : ((List.range n).map f).set k y = (List.range n).map (updF f k y) := by
  apply List.ext_getElem?
  intro i
  by_cases hi : i < n
  · by_cases e : i = k
    · subst e; simp [updF, hi]
    · rw [List.getElem?_set_ne (Ne.symm e)]; simp [updF, hi, e]
  · rw [List.getElem?_eq_none (by simp; omega), List.getElem?_eq_none (by simp; omega)]
theorem arrF_at (he : ∀ x, (enc x).length = sz) (hk : k < n) : ((arrF enc n f).drop (k * sz)).take sz = enc (f k) := by
  unfold arrF
  rw [fl_drop he, show sz = 1 * sz by omega, fl_take (by simpa using he)]
  have : (((List.range n).map f).drop k).take 1 = [f k] := by
    rw [List.drop_eq_getElem_cons (by simpa using hk)]
    simp
  rw [this]
  simp [fl]
theorem reads_boxF {i b B : Nat} (hi : L[i]? = some (box b B (arrF enc n f))) (he : ∀ x, (enc x).length = sz) (hk : k < n) : Reads L (pt b (0 + k * sz)) (enc (f k)) := by
  refine reads_boxN hi ?_
  rw [Nat.zero_add, he]
  exact arrF_at he hk
theorem arrF_set {us : List Value} {y : α} (he : ∀ x, (enc x).length = sz) (hk : k < n) (hy : us = enc y) : (arrF enc n f).take (0 + k * sz) ++ us ++ (arrF enc n f).drop (0 + k * sz + us.length) = arrF enc n (updF f k y) := by
  subst hy
  unfold arrF
  rw [← map_set hk y, Nat.zero_add]
  have := fl_set (z := y) (y := y) (off := 0) (us := enc y) he (i := k) (xs := (List.range n).map f) (by simpa using hk) (by rw [he]; omega) (by simp [he])
  simpa using this
theorem arrF_room {us : List Value} {y : α} (he : ∀ x, (enc x).length = sz) (hk : k < n) (hy : us = enc y) : 0 + k * sz + us.length ≤ (arrF enc n f).length := by
  subst hy
  rw [arrF_length he, he]
  have := Nat.mul_le_mul_right sz (show k + 1 ≤ n from hk)
  rw [Nat.succ_mul] at this
  omega
theorem arrF_one (h : ∀ x, (enc x).all (·.oneCell') = true) : ∀ u ∈ arrF enc n f, u.oneCell' = true := by
  intro u hu
  unfold arrF fl at hu
  rw [List.mem_flatMap] at hu
  obtain ⟨x, _, hx⟩ := hu
  exact List.all_eq_true.1 (h x) u hx
theorem arrF_same (he : ∀ x, (enc x).length = sz) : (arrF enc n f).length = (arrF enc n g).length := by rw [arrF_length he, arrF_length he]
theorem ot_storeW {T b B : Nat} {x y : Operand} {v : Value} {cs us : List Value} {L' : List HP} (i : Nat) (hx : ev ρ x = some (pt b 0)) (hy : ev ρ y = some v) (hv : v.cells = us.toArray) (h1 : ∀ u ∈ us, u.oneCell' = true) (hS : sizeB P T = some us.length)
    (hi : L[i]? = some (box b B cs)) (hl : cs.length = us.length) (hL : L.set i (box b B us) = L') : OT P ⟨dd, .store T x y, ty, pos, after, gg⟩ ρ L (fun _ M => M = L') :=
  ot_store i hx hy hv h1 hS hi (by simp [← hl]) (by omega) hL
theorem arrF_get {k : Nat} (he : ∀ x, (enc x).length = 1) (hk : k < n) : (arrF enc n f).toArray[k]? = (enc (f k))[0]? := by
  have h := arrF_at (f := f) he hk
  have e : (arrF enc n f)[k]? = (((arrF enc n f).drop (k * 1)).take 1)[0]? := by simp
  simp only [List.getElem?_toArray]
  rw [e, h]
theorem eqg_arrF {t : TypeId} {op : BinOp} {x y : Operand} {a b : Array Value} (h : P.eqGuardType P.depth t = false) (w : World) : (eqGuard op t x y (.agg a) (.agg b)).run P w = .ok () w := by
  unfold eqGuard
  cases op <;> simp [program, Sem.run, h]
theorem ov_indexAggN {t e m : Nat} {x y : Operand} {cs : Array Value} {j : Int} {kd : IntKind} {v : Value} (hx : ev ρ x = some (.agg cs)) (hy : ev ρ y = some (.int kd j)) (ht : arrayB P t = some (m, e)) (hS : sizeB P e = some 1) (hA : aggB P e = some false) (h0 : 0 ≤ j) (h1 : j < (m : Nat)) (hv : cs[j.toNat]? = some v) :
    OV P ⟨dd, .index t x y, ty, pos, after, gg⟩ ρ L v :=
  fun F a w ha hs => by
    have hp : (part e cs j.toNat).run P w = .ok v w := part_cell hA hv w
    simp [execOp, ev_eval ha hx, ev_eval ha hy, Instr.index, asIntOf, run_underlying (underlying_array ht), h0, h1, sizeB_run w hS, hp]
theorem forIn_all {β : Type} {body : Nat → β → Sem (ForInStep β)} {init stop : β} {p : Nat → Bool} {w : World} : ∀ (l : List Nat), (∀ i ∈ l, (body i init).run P w = .ok (if p i then .yield init else .done stop) w) → (forIn l init body).run P w = .ok (if l.all p then init else stop) w
  | [], _ => by simp
  | i :: l, h => by
    have h0 := h i (by simp)
    have ih := forIn_all l (fun j hj => h j (by simp [hj]))
    simp only [List.forIn_cons, Sem.run_bind]
    by_cases hp : p i = true
    · rw [if_pos hp] at h0
      rw [h0, List.all_cons, hp, Bool.true_and]
      exact ih
    · rw [if_neg hp] at h0
      rw [h0, List.all_cons, Bool.eq_false_iff.2 hp, Bool.false_and]
      simp
theorem eq_arrF {e t m d : Nat} {k : IntKind} (ht : arrayB P t = some (m, e)) (hS : sizeB P e = some 1) (hA : aggB P e = some false) (hu : P.underlying e = some (.int k)) (f g : Nat → Int) : EqV P (d + 1 + 1) t (.agg (arrF (eI k) m f).toArray) (.agg (arrF (eI k) m g).toArray) (eqF m f g) := fun w => by
  have hb : ∀ i, i ∈ List.range' 0 m 1 → (Op.equalIn (d + 1) e (.int k (f i)) (.int k (g i))).run P w = .ok (decide (f i = g i)) w := by
    intro i _
    have := eq_int (P := P) (T := e) (d := d) hu (f i) (g i) w
    rw [this]
    rfl
  have px : ∀ (f : Nat → Int) i, i ∈ List.range' 0 m 1 → (part e (arrF (eI k) m f).toArray i).run P w = .ok (.int k (f i)) w := by
    intro f i hi
    have : i < m := by simpa using hi
    exact part_cell hA (arrF_get (eI_len k) this) w
  rw [Op.equalIn]
  simp only [Sem.run_bind, run_underlying (underlying_array ht), Result.andThen_ok, sizeB_run w hS, Std.Legacy.Range.forIn_eq_forIn_range', Std.Legacy.Range.size, Nat.mul_one]
  rw [show (m - 0 + 1 - 1) / 1 = m by omega]
  rw [forIn_all (stop := ⟨some false, ⟨⟩⟩) (p := fun i => decide (f i = g i)) (List.range' 0 m 1) (fun i hi => by
    simp only [Sem.run_bind, px f i hi, px g i hi, hb i hi, Result.andThen_ok]
    cases h : decide (f i = g i) <;> simp)]
  simp only [Result.andThen_ok, eqF, List.range_eq_range']
  cases (List.range' 0 m).all fun i => decide (f i = g i) <;> simp
theorem all_getD {xs ys : List Int} (h : xs.length = ys.length) : ((List.range' 0 xs.length).all fun i => decide (xs.getD i 0 = ys.getD i 0)) = (xs == ys) := by
  rw [Bool.eq_iff_iff]
  simp only [List.all_eq_true, decide_eq_true_eq, beq_iff_eq]
  constructor
  · intro hq
    apply List.ext_getElem h
    intro i h1 h2
    have := hq i (by simp; omega)
    simpa [List.getD_eq_getElem?_getD, h1, h2] using this
  · intro e; subst e; intro i _; rfl
theorem eq_arrI {e t m d : Nat} {k : IntKind} (ht : arrayB P t = some (m, e)) (hS : sizeB P e = some 1) (hA : aggB P e = some false) (hu : P.underlying e = some (.int k)) (xs ys : List Int) (hx : xs.length = m) (hy : ys.length = m) : EqV P (d + 1 + 1) t (.agg (xs.map (Value.int k)).toArray) (.agg (ys.map (Value.int k)).toArray) (xs == ys) := fun w => by
  have hb : ∀ i, i ∈ List.range' 0 m 1 → (Op.equalIn (d + 1) e (.int k (xs.getD i 0)) (.int k (ys.getD i 0))).run P w = .ok (decide (xs.getD i 0 = ys.getD i 0)) w := by
    intro i _
    have := eq_int (P := P) (T := e) (d := d) hu (xs.getD i 0) (ys.getD i 0) w
    rw [this]
    rfl
  have px : ∀ (zs : List Int), zs.length = m → ∀ i, i ∈ List.range' 0 m 1 → (part e (zs.map (Value.int k)).toArray i).run P w = .ok (.int k (zs.getD i 0)) w := by
    intro zs hz i hi
    have : i < m := by simpa using hi
    exact part_cell hA (by simp [List.getD_eq_getElem?_getD, hz, this]) w
  rw [Op.equalIn]
  simp only [Sem.run_bind, run_underlying (underlying_array ht), Result.andThen_ok, sizeB_run w hS, Std.Legacy.Range.forIn_eq_forIn_range', Std.Legacy.Range.size, Nat.mul_one]
  rw [show (m - 0 + 1 - 1) / 1 = m by omega]
  rw [forIn_all (stop := ⟨some false, ⟨⟩⟩) (p := fun i => decide (xs.getD i 0 = ys.getD i 0)) (List.range' 0 m 1) (fun i hi => by
    simp only [Sem.run_bind, px xs hx i hi, px ys hy i hi, hb i hi, Result.andThen_ok]
    cases h : decide (xs.getD i 0 = ys.getD i 0) <;> simp)]
  have := all_getD (xs := xs) (ys := ys) (hx.trans hy.symm)
  rw [hx] at this
  rw [← this]
  simp only [Result.andThen_ok]
  cases (List.range' 0 m).all fun i => decide (xs.getD i 0 = ys.getD i 0) <;> simp
end arr
theorem ov_b2s0 {src dst e : TypeId} {x : Operand} (hx : ev ρ x = some (.slice none 0 0)) (hs : sliceB P src = some e) (he : P.underlying e = some (.int .u8)) (hd : P.underlying dst = some .string) :
    OV P ⟨dd, .convert src dst x, ty, pos, after, gg⟩ ρ L (str []) := by
  intro F a w ha hsat
  have key : (Conv.bytesToString (.slice none 0 0)).run P w = .ok (str []) w := rfl
  simp only [execOp, ev_eval ha hx, Sem.run_bind, run_convert_bytes_string w src dst e none 0 0 (underlying_slice hs) he hd, key, Result.andThen_ok, Sem.run_pure]
end
end Go.Proofs.YtgbjponaoeiglaaDoor.E
