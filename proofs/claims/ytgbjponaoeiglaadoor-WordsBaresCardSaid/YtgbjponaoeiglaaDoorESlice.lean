/- The engine's fifth text: slices. -/
import Derived.Test.YtgbjponaoeiglaaDoorECall
set_option linter.unusedVariables false
set_option linter.unusedSimpArgs false
namespace Go.Proofs.YtgbjponaoeiglaaDoor.E
open Go Go.RowKit

/-- The address of cell k of a slice's array. -/
def eptr (sv : Value) (k : Nat) : Value := match sv with | .slice (some a) _ _ => .pointer (some (a.add k)) | _ => .pointer none
/-- sv has n elements of sz cells each; these are the cells. -/
def rdp (sv : Value) (n sz : Nat) (cs : List Value) (o s : Hp) : Prop :=
  cs.length = n * sz ∧ n ≤ maxLen ∧ ∃ A c, sv = .slice A n c ∧ n ≤ c ∧ (0 < cs.length → ∃ a, A = some a ∧ a.spot = none ∧ ∃ C T fr, (o a.block (.cells C T fr) ∨ s a.block (.cells C T fr)) ∧ ∀ j v, cs[j]? = some v → C[a.off + j]? = some v)
theorem rdp_mono {sv : Value} {n sz : Nat} {cs : List Value} {o s o' s' : Hp} (h : rdp sv n sz cs o s) (ho : ∀ b x, o b x → o' b x) (hs : ∀ b x, s b x → s' b x) : rdp sv n sz cs o' s' := by
  obtain ⟨h1, h2, A, c, h3, h4, h5⟩ := h
  refine ⟨h1, h2, A, c, h3, h4, fun hp => ?_⟩
  obtain ⟨a, ha, hsp, C, T, fr, hb, hc⟩ := h5 hp
  exact ⟨a, ha, hsp, C, T, fr, hb.imp (ho _ _) (hs _ _), hc⟩
/-- A slice that is only read. -/
def rd (sv : Value) (n sz : Nat) (cs : List Value) : HP := ⟨fun _ s => rdp sv n sz cs (fun _ _ => False) s, fun h _ hs => rdp_mono h (fun _ _ hf => hf) hs, []⟩
/-- A slice whose array is ours. -/
def own (sv : Value) (e sz n : Nat) (cs : List Value) : HP := ⟨fun o _ => cs.length = n * sz ∧ ((sv = .slice none 0 0 ∧ n = 0) ∨
   ∃ g cap cur, sv = .slice (some ⟨g, 0, none⟩) n cap ∧ o g (.cells cur e (0, 0)) ∧ n ≤ cap ∧ cap ≤ maxLen ∧ cur.size = cap * sz ∧ cur.toList.take (n * sz) = cs),
  fun h ho _ => ⟨h.1, h.2.imp id fun ⟨g, cap, cur, h1, h2, h3⟩ => ⟨g, cap, cur, h1, ho _ _ h2, h3⟩⟩, []⟩
def IsRd (A : HP) (sv : Value) (n sz : Nat) (cs : List Value) : Prop := ∀ o s, A.p o s → rdp sv n sz cs o s
theorem isRd_rd (sv : Value) (n sz : Nat) (cs : List Value) : IsRd (rd sv n sz cs) sv n sz cs := fun o s h => rdp_mono (o := fun _ _ => False) (s := s) h (fun _ _ hf => False.elim hf) (fun _ _ hs => hs)
theorem isRd_own (sv : Value) (e sz n : Nat) (cs : List Value) : IsRd (own sv e sz n cs) sv n sz cs := by
  rintro o s ⟨hl, ⟨rfl, rfl⟩ | ⟨g, cap, cur, rfl, hg, hn, hc, hz, ht⟩⟩
  · exact ⟨hl, by unfold maxLen; omega, none, 0, rfl, Nat.le_refl _, fun hp => by omega⟩
  · refine ⟨hl, Nat.le_trans hn hc, some ⟨g, 0, none⟩, cap, rfl, hn, fun hp => ⟨_, rfl, rfl, cur, e, _, .inl hg, fun j v hj => ?_⟩⟩
    rw [← ht, List.getElem?_take] at hj
    split at hj
    · simpa using hj
    · cases hj
/-- A piece of a slice. -/
def subs (sv : Value) (lo hi sz : Nat) : Value := match sv with | .slice a _ c => .slice (if c = lo then a else a.map (·.add (lo * sz))) (hi - lo) (c - lo) | v => v
theorem isRd_sub {A : HP} {sv : Value} {n sz lo hi : Nat} {cs : List Value} (h : IsRd A sv n sz cs) (h1 : lo ≤ hi) (h2 : hi ≤ n) : IsRd A (subs sv lo hi sz) (hi - lo) sz ((cs.drop (lo * sz)).take ((hi - lo) * sz)) := by
  intro o s hA
  obtain ⟨hl, hm, B, c, rfl, hc, hr⟩ := h o s hA
  have hlen : ((cs.drop (lo * sz)).take ((hi - lo) * sz)).length = (hi - lo) * sz := by
    have e1 : (hi - lo) * sz = hi * sz - lo * sz := Nat.sub_mul _ _ _
    have e2 : hi * sz ≤ n * sz := Nat.mul_le_mul_right _ h2
    simp only [List.length_take, List.length_drop]
    omega
  refine ⟨hlen, by omega, _, _, rfl, by omega, fun hp => ?_⟩
  have hpos : 0 < (hi - lo) * sz := by omega
  have hlt : lo < hi := by
    rcases Nat.lt_or_ge lo hi with h | h
    · exact h
    · have : hi - lo = 0 := by omega
      rw [this] at hpos; omega
  have hsz : 0 < sz := Nat.pos_of_mul_pos_left hpos
  have hcs : 0 < cs.length := by rw [hl]; exact Nat.mul_pos (by omega) hsz
  obtain ⟨a, rfl, hsp, C, T, fr, hb, hcell⟩ := hr hcs
  refine ⟨a.add (lo * sz), by rw [if_neg (by omega)]; rfl, ?_, C, T, fr, ?_, fun j v hj => ?_⟩
  · unfold Addr.add; split <;> simp [hsp]
  · have : (a.add (lo * sz)).block = a.block := by unfold Addr.add; split <;> rfl
    rw [this]; exact hb
  · rw [List.getElem?_take] at hj
    split at hj
    · rw [List.getElem?_drop] at hj
      have := hcell _ v hj
      have e : (a.add (lo * sz)).off = a.off + lo * sz := by unfold Addr.add; split <;> simp_all
      rw [e, Nat.add_assoc]; exact this
    · cases hj

section reads
variable {L : List HP} {A : HP} {i n sz k : Nat} {sv : Value} {cs vs : List Value}
theorem rd_form {F : List HP} {w : World} (hi : L[i]? = some A) (hA : IsRd A sv n sz cs) (h : Sat w (L ++ F)) :
    cs.length = n * sz ∧ n ≤ maxLen ∧ ∃ B c, sv = .slice B n c ∧ n ≤ c ∧ (0 < cs.length → ∃ a, B = some a ∧ ∀ j v, cs[j]? = some v → w.cell? (a.add j) = some v) := by
  have hlt := (List.getElem?_eq_some_iff.1 hi).1
  refine h.says (φ := cs.length = n * sz ∧ n ≤ maxLen ∧ ∃ B c, sv = .slice B n c ∧ n ≤ c ∧ (0 < cs.length → ∃ a, B = some a ∧ ∀ j v, cs[j]? = some v → w.cell? (a.add j) = some v)) i A (by rw [List.getElem?_append_left hlt]; exact hi) fun U S hp => ?_
  obtain ⟨h1, h2, B, c, h3, h4, h5⟩ := hA _ _ hp
  refine ⟨h1, h2, B, c, h3, h4, fun hpos => ?_⟩
  obtain ⟨a, ha, hsp, C, T, fr, hb, hc⟩ := h5 hpos
  refine ⟨a, ha, fun j v hj => ?_⟩
  have hw : w.heap[a.block]? = some (.cells C T fr) := by rcases hb with hb | hb <;> exact hb.2
  have hcell := hc j v hj
  unfold Addr.add
  split
  · rename_i e; subst e
    simpa [World.cell?, hw, hsp] using hcell
  · simpa [World.cell?, hw] using hcell
theorem reads_rd (hi : L[i]? = some A) (hA : IsRd A sv n sz cs) (hne : vs ≠ []) (hv : (cs.drop k).take vs.length = vs) : Reads L (eptr sv k) vs := by
  intro F w h
  obtain ⟨hl, _, B, c, rfl, _, hr⟩ := rd_form hi hA h
  have hpos : 0 < cs.length := by
    cases cs with
    | nil => simp at hv; exact absurd hv hne
    | cons _ _ => simp
  obtain ⟨a, rfl, hc⟩ := hr hpos
  refine ⟨a.add k, rfl, fun j v hj => ?_⟩
  have hlt := (List.getElem?_eq_some_iff.1 hj).1
  rw [Addr.add_add]
  rw [← hv, List.getElem?_take, if_pos hlt, List.getElem?_drop] at hj
  exact hc _ v hj
end reads

section ops
variable {P : Program} {n : Nat} {w0 : World} {F L L' : List HP} {ρ ρ' : Env} {Q : Exit → Act → World → Prop} {opsA : Array Oper} {rest : List Oper} {d ty : Nat} {dd : Option Nat} {gg : Option (Nat × Bool)} {pos : String} {after : Array Edge}

theorem underlying_slice {t e : TypeId} (h : sliceB P t = some e) : P.underlying t = some (.slice e) := by
  simp only [sliceB] at h
  split at h
  · rename_i x hx; cases h; exact hx
  · cases h
theorem underlying_array {t e m : Nat} (h : arrayB P t = some (m, e)) : P.underlying t = some (.array m e) := by
  simp only [arrayB] at h
  split at h
  · rename_i x y hx; cases h; exact hx
  · cases h
theorem ov_len {t e m sz : Nat} {x : Operand} {sv : Value} {cs : List Value} {A : HP} (i : Nat) (hx : ev ρ x = some sv) (ht : sliceB P t = some e) (hi : L[i]? = some A) (hA : IsRd A sv m sz cs) :
    OV P ⟨dd, .call { callee := .builtin .len, args := #[x], argTypes := #[t] }, ty, pos, after, gg⟩ ρ L (.int .i64 (m : Int)) :=
  fun F a w ha hs => by
    obtain ⟨_, _, B, c, rfl, _, _⟩ := rd_form hi hA hs
    simp [execOp, resolve, invoke, builtin, ev_eval ha hx, Builtin.len_, run_underlying (underlying_slice ht), goInt]
theorem ov_indexAddr {t e m sz : Nat} {kd : IntKind} {x y : Operand} {sv : Value} {j : Int} {cs : List Value} {A : HP} (i : Nat) (hx : ev ρ x = some sv) (hy : ev ρ y = some (.int kd j)) (ht : sliceB P t = some e) (hS : sizeB P e = some (sz + 1)) (hi : L[i]? = some A) (hA : IsRd A sv m (sz + 1) cs)
    (h0 : 0 ≤ j) (h1 : j < m) :
    OV P ⟨dd, .indexAddr t x y, ty, pos, after, gg⟩ ρ L (eptr sv (j.toNat * (sz + 1))) :=
  fun F a w ha hs => by
    obtain ⟨hl, _, B, c, rfl, _, hr⟩ := rd_form hi hA hs
    obtain ⟨ad, rfl, _⟩ := hr (by rw [hl]; exact Nat.mul_pos (by omega) (by omega))
    simp [execOp, ev_eval ha hx, ev_eval ha hy, Instr.indexAt, asIntOf, run_underlying (underlying_slice ht), h0, h1, sizeB_run w hS, eptr]
theorem ov_indexArr {t e m sz b o : Nat} {kd : IntKind} {x y : Operand} {j : Int} (hx : ev ρ x = some (pt b o)) (hy : ev ρ y = some (.int kd j)) (ht : arrayB P t = some (m, e)) (hS : sizeB P e = some sz)
    (h0 : 0 ≤ j) (h1 : j < m) :
    OV P ⟨dd, .indexAddr t x y, ty, pos, after, gg⟩ ρ L (pt b (o + j.toNat * sz)) :=
  fun F a w ha hs => by
    simp [execOp, ev_eval ha hx, ev_eval ha hy, Instr.indexAt, asIntOf, run_underlying (underlying_array ht), h0, h1, sizeB_run w hS, pt, Instr.sureAddr, Addr.add_lit]
theorem ov_indexArrE {t e m sz k0 r sz' : Nat} {kd : IntKind} {x y : Operand} {j : Int} {sv : Value} {cs : List Value} {A : HP} (i : Nat) (hx : ev ρ x = some (eptr sv k0)) (hy : ev ρ y = some (.int kd j)) (ht : arrayB P t = some (m, e)) (hS : sizeB P e = some sz)
    (hi : L[i]? = some A) (hA : IsRd A sv r sz' cs) (hc : 0 < cs.length) (h0 : 0 ≤ j) (h1 : j < m) :
    OV P ⟨dd, .indexAddr t x y, ty, pos, after, gg⟩ ρ L (eptr sv (k0 + j.toNat * sz)) :=
  fun F a w ha hs => by
    obtain ⟨hl, _, B, c, rfl, _, hr⟩ := rd_form hi hA hs
    obtain ⟨ad, rfl, _⟩ := hr hc
    simp [execOp, ev_eval ha hx, ev_eval ha hy, Instr.indexAt, asIntOf, run_underlying (underlying_array ht), h0, h1, sizeB_run w hS, eptr, Instr.sureAddr, Addr.add_add]
theorem ov_fieldAddrE {s f off ft sz k0 r sz' : Nat} {x : Operand} {sv : Value} {cs : List Value} {A : HP} (i : Nat) (hx : ev ρ x = some (eptr sv k0)) (hF : fieldB P s f = some (off, ft)) (hS : sizeB P ft = some (sz + 1))
    (hi : L[i]? = some A) (hA : IsRd A sv r sz' cs) (hc : 0 < cs.length) :
    OV P ⟨dd, .fieldAddr s x f, ty, pos, after, gg⟩ ρ L (eptr sv (k0 + off)) :=
  fun F a w ha hs => by
    obtain ⟨hl, _, B, c, rfl, _, hr⟩ := rd_form hi hA hs
    obtain ⟨ad, rfl, _⟩ := hr hc
    simp only [fieldB] at hF
    split at hF
    · rename_i fs hu
      simp only [Option.map_eq_some_iff, Prod.mk.injEq] at hF
      obtain ⟨fd, hfd, h1, h2⟩ := hF
      subst h1; subst h2
      simp [execOp, ev_eval ha hx, Instr.fieldAt, run_underlying hu, hfd, eptr, Instr.sureAddr, fieldPlace, sizeB_run w hS, Addr.add_add]
    · cases hF
/-- xs[lo:hi], hi at most the length. -/
theorem ov_slice {t e m sz : Nat} {x : Operand} {lo hi : Option Operand} {sv : Value} {l h : Nat} {cs : List Value} {A : HP} (i : Nat) (hx : ev ρ x = some sv) (ht : sliceB P t = some e) (hS : sizeB P e = some sz)
    (hlo : match lo with | some y => ∃ kd, ev ρ y = some (.int kd (l : Int)) | none => l = 0) (hhi : match hi with | some y => ∃ kd, ev ρ y = some (.int kd (h : Int)) | none => h = m)
    (hi' : L[i]? = some A) (hA : IsRd A sv m sz cs) (h1 : l ≤ h) (h2 : h ≤ m) :
    OV P ⟨dd, .slice t x lo hi none, ty, pos, after, gg⟩ ρ L (subs sv l h sz) :=
  fun F a w ha hs => by
    obtain ⟨hl, _, B, c, rfl, hmc, hr⟩ := rd_form hi' hA hs
    have hb : (Instr.sliceBounds true m c (lo.map a.eval) (hi.map a.eval) none).run P w = .ok (l, h, c) w := by
      cases lo <;> cases hi <;> simp only at hlo hhi
      · subst hlo; subst hhi; simp [Instr.sliceBounds]
      · obtain ⟨kd, hk⟩ := hhi
        subst hlo
        have : h ≤ c := by omega
        simp [Instr.sliceBounds, Instr.sliceBound, ev_eval ha hk, asIntOf, this]
      · obtain ⟨kd, hk⟩ := hlo
        subst hhi
        simp [Instr.sliceBounds, Instr.sliceBound, ev_eval ha hk, asIntOf, h1]
      · obtain ⟨kd, hk⟩ := hlo
        obtain ⟨kd', hk'⟩ := hhi
        have e1 : l ≤ h := h1
        have e2 : h ≤ c := by omega
        simp [Instr.sliceBounds, Instr.sliceBound, ev_eval ha hk, ev_eval ha hk', asIntOf, e1, e2]
    simp [execOp, ev_eval ha hx, Instr.sliceAt, Instr.slice, run_underlying (underlying_slice ht), hb, sizeB_run w hS, subs]
/-- A literal's parts, one behind the other. -/
theorem fill_all (sz : Nat) : ∀ (vs : List Value) (j : Nat) (pre post : List Value), pre.length = j * sz → post.length = vs.length * sz → (∀ v ∈ vs, v.cells.size = sz) →
    Instr.fill (fun i => some (i * sz, sz)) (pre ++ post).toArray ((List.range' j vs.length).zip vs) = some (pre ++ vs.flatMap fun v => v.cells.toList).toArray
  | [], j, pre, post, h1, h2, h3 => by
    have : post = [] := List.eq_nil_of_length_eq_zero (by simpa using h2)
    simp [Instr.fill, this]
  | v :: vs, j, pre, post, h1, h2, h3 => by
    have hv := h3 v (by simp)
    simp only [List.length_cons, List.range'_succ, List.zip_cons_cons, Instr.fill]
    have h2' : post.length = vs.length * sz + sz := by rw [h2, List.length_cons, Nat.succ_mul]
    have hlen : j * sz + sz ≤ (pre ++ post).length := by rw [List.length_append, h1, h2']; omega
    rw [if_neg (by simp only [hv, List.size_toArray]; simp; omega)]
    have key : ∀ (cs : List Value) (r : Nat) (p q : List Value), p.length = j * sz + r → cs.length ≤ q.length →
        (cs.zipIdx r).foldl (fun (acc : Array Value) (x : Value × Nat) => acc.setIfInBounds (j * sz + x.2) x.1) (p ++ q).toArray = (p ++ cs ++ q.drop cs.length).toArray := by
      intro cs
      induction cs with
      | nil => intro r p q _ _; simp
      | cons c cs ih =>
        intro r p q hp hq
        cases q with
        | nil => simp at hq
        | cons q0 q =>
          simp only [List.zipIdx_cons, List.foldl_cons]
          have e : (p ++ q0 :: q).toArray.setIfInBounds (j * sz + r) c = ((p ++ [c]) ++ q).toArray := by
            rw [← hp]
            simp [List.set_append_right]
          rw [e, ih (r + 1) (p ++ [c]) q (by simp [hp]; omega) (by simp at hq; omega)]
          simp
    have hpost : v.cells.toList.length ≤ post.length := by rw [Array.length_toList, hv, h2']; omega
    have hk := key v.cells.toList 0 pre post (by simpa using h1) hpost
    have e2 : Array.foldl (fun cs (x : Value × Nat) => cs.setIfInBounds (j * sz + x.2) x.1) (pre ++ post).toArray v.cells.zipIdx = (pre ++ v.cells.toList ++ post.drop v.cells.toList.length).toArray := by
      rw [← hk, ← Array.foldl_toList]
      simp
    have e3 : (Array.foldl (fun cs (x : Value × Nat) => match x with | (c, j_1) => cs.setIfInBounds (j * sz + j_1) c) (pre ++ post).toArray v.cells.zipIdx) = Array.foldl (fun cs (x : Value × Nat) => cs.setIfInBounds (j * sz + x.2) x.1) (pre ++ post).toArray v.cells.zipIdx := rfl
    rw [e3, e2]
    rw [fill_all sz vs (j + 1) (pre ++ v.cells.toList) (post.drop v.cells.toList.length) (by simp [h1, hv, Nat.succ_mul]) (by simp [hv, h2, Nat.succ_mul]) (fun u hu => h3 u (by simp [hu]))]
    simp
theorem ot_buildSlice {t e m sz : Nat} {xs : List Operand} {vs cs z : List Value} {parts : Array (Nat × Operand)} (hp : parts = ((List.range' 0 xs.length).zip xs).toArray) (hx : evs ρ xs = some vs) (ht : sliceB P t = some e) (hS : sizeB P e = some (sz + 1)) (hz : zeroB P e = some z) (hzl : z.length = sz + 1)
    (hm : vs.length = m) (hv : ∀ v ∈ vs, v.cells.size = sz + 1) (hcs : (vs.flatMap fun v => v.cells.toList) = cs) (hsmall : m * (sz + 1) ≤ 16777216)
    :
    OT P ⟨dd, .buildSlice t m parts, ty, pos, after, gg⟩ ρ L (fun v M => M = own v e (sz + 1) m cs :: L) := by
  intro F a w K Q ha hs hk
  subst hp
  have hlx : xs.length = vs.length := by rw [← evs_eval ha hx]; simp
  have hlc : cs.length = m * (sz + 1) := by
    rw [← hcs, ← hm]
    clear hcs hx hk hsmall hm hlx
    induction vs with
    | nil => simp
    | cons v vs ih =>
      have := ih (fun u hu => hv u (by simp [hu]))
      have h0 := hv v (by simp)
      simp [Nat.succ_mul, this, h0]
      omega
  have hparts : (((List.range' 0 xs.length).zip xs).toArray.map fun (p : Nat × Operand) => match p with | (i, x) => (i, a.eval x)).toList = (List.range' 0 vs.length).zip vs := by
    rw [← hlx, ← evs_eval ha hx]
    simp only [List.map_toArray, List.zip_map_right, Prod.map]
    simp
  have hns : ¬ (m * (sz + 1) > 2 ^ 24) := by omega
  have hfin : ∀ zz : Array Value, Instr.fill (fun i => some (i * (sz + 1), sz + 1)) (Array.map (fun x => zz[x % zz.size]!) (Array.range (m * (sz + 1)))) ((List.range' 0 vs.length).zip vs) = some cs.toArray := by
    intro zz
    have hfill := fill_all (sz + 1) vs 0 [] ((List.range (m * (sz + 1))).map fun i => zz[i % zz.size]!) (by simp) (by simp [hm]) hv
    simp only [List.nil_append] at hfill
    rw [hcs] at hfill
    rw [← hfill, ← List.toArray_range, List.map_toArray]
  have hrun : (Instr.buildSlice t m (((List.range' 0 xs.length).zip xs).toArray.map fun (p : Nat × Operand) => match p with | (i, x) => (i, a.eval x))).run P w = .ok (.slice (some ⟨w.heap.size, 0, none⟩) m m) (w.alloc (.cells cs.toArray e)) := by
    by_cases h0 : m * (sz + 1) = 0
    · have hz0 : ¬ (0 > 2 ^ 24) := by decide
      simp only [Instr.buildSlice, Sem.run_bind, run_underlying (underlying_slice ht), Result.andThen_ok, sizeB_run w hS, h0, hz0, if_false, if_true, hparts, newRow, Sem.run_pure]
      have := hfin #[]
      rw [h0] at this
      rw [this]
      rfl
    · obtain ⟨zv, hzv, _⟩ := zeroB_run w hz
      simp only [Instr.buildSlice, Sem.run_bind, run_underlying (underlying_slice ht), Result.andThen_ok, sizeB_run w hS, hns, if_false, h0, hzv, hparts, newRow, Sem.run_pure]
      rw [hfin zv.cells]
      rfl
  unfold Oper.wp
  simp only [execOp, Sem.run_bind, hrun, Result.andThen_ok, Sem.run_pure, Oper.upon]
  refine hk _ _ _ rfl ?_ (Keeps.alloc w _)
  refine hs.new _ (by simp) (fun b hb => heap_alloc_old w _ hb) ⟨hlc, .inr ⟨w.heap.size, m, cs.toArray, rfl, ⟨⟨Nat.le_refl _, by simp⟩, heap_alloc_new w _⟩, Nat.le_refl _, ?_, by simpa using hlc, ?_⟩⟩
  · unfold maxLen; have := Nat.le_mul_of_pos_right m (show 0 < sz + 1 by omega); omega
  · rw [← hlc]; simp
end ops
end Go.Proofs.YtgbjponaoeiglaaDoor.E
