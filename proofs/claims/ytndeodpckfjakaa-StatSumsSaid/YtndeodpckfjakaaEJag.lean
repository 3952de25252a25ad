/- Rows of one's own whose elements have a slice each: the values of these slices, and what they read, stand in the atom. -/
import Derived.Test.YtndeodpckfjakaaEClear
set_option linter.unusedVariables false
set_option linter.unusedSimpArgs false
namespace Go.Proofs.Ytndeodpckfjakaa.E
open Go Go.RowKit
/-- A row's value, and its elements' slices. -/
structure JG where
  sv : Value
  vs : Nat → Value
def jnil : JG := ⟨.slice none 0 0, fun _ => undef⟩
/-- The value of an element that is a slice. -/
def eJ {α : Type} (_ : α) (v : Value) : List Value := [v]
theorem eJ_len {α : Type} (x : α) (v : Value) : (eJ x v).length = 1 := rfl
theorem eJ_one {α : Type} (x : α) (v : Value) (h : v.oneCell' = true) : ∀ u ∈ eJ x v, u.oneCell' = true := fun u hu => by simp [eJ] at hu; rw [hu]; exact h
def jrows {α : Type} (vs : Nat → Value) (ie k : Nat) (len : α → Nat) (ics : α → List Value) : Nat → List α → List HP
  | _, [] => []
  | i, x :: l => own (vs i) ie k (len x) (ics x) :: jrows vs ie k len ics (i + 1) l
def flJ {α : Type} (enc : α → Value → List Value) (vs : Nat → Value) : Nat → List α → List Value
  | _, [] => []
  | i, x :: l => enc x (vs i) ++ flJ enc vs (i + 1) l
section
variable {α : Type} {enc : α → Value → List Value} {sz : Nat}
theorem flJ_len (he : ∀ x v, (enc x v).length = sz) (vs : Nat → Value) : ∀ (i : Nat) (l : List α), (flJ enc vs i l).length = l.length * sz
  | i, [] => by simp [flJ]
  | i, x :: l => by simp only [flJ, List.length_append, he, flJ_len he vs (i + 1) l, List.length_cons, Nat.succ_mul]; omega
theorem flJ_read (he : ∀ x v, (enc x v).length = sz) (vs : Nat → Value) (z : α) : ∀ (i : Nat) (l : List α) (j : Nat), j < l.length → ((flJ enc vs i l).drop (j * sz)).take sz = enc (l.getD j z) (vs (i + j))
  | i, [], j, h => by simp at h
  | i, x :: l, 0, h => by
    simp only [flJ, Nat.zero_mul, List.drop_zero, List.getD_cons_zero, Nat.add_zero]
    rw [List.take_append_of_le_length (by rw [he]; exact Nat.le_refl _), List.take_of_length_le (by rw [he]; exact Nat.le_refl _)]
  | i, x :: l, j + 1, h => by
    have ih := flJ_read he vs z (i + 1) l j (by simpa using h)
    simp only [flJ, List.getD_cons_succ]
    have e1 : (j + 1) * sz = (enc x (vs i)).length + j * sz := by rw [he, Nat.succ_mul]; omega
    have e2 : i + (j + 1) = i + 1 + j := by omega
    rw [e1, List.drop_append, List.drop_eq_nil_of_le (by omega), List.nil_append, Nat.add_sub_cancel_left, ih, e2]
theorem flJ_rd {off j : Nat} {z : α} {vs : Nat → Value} {xs : List α} {ws : List Value} (h : ∀ x v, (enc x v).length = sz) (hi : j < xs.length) (hv : ((enc (xs.getD j z) (vs j)).drop off).take ws.length = ws) : ((flJ enc vs 0 xs).drop (j * sz + off)).take ws.length = ws := by
  have hr := flJ_read h vs z 0 xs j hi
  rw [Nat.zero_add] at hr
  rw [← List.drop_drop]
  by_cases h0 : ws.length = 0
  · have : ws = [] := List.eq_nil_of_length_eq_zero h0
    subst this; simp
  · have hm : off + ws.length ≤ sz := by
      have := congrArg List.length hv
      simp only [List.length_take, List.length_drop, h] at this
      omega
    rw [← hr, List.drop_take, List.take_take, Nat.min_eq_left (by omega)] at hv
    exact hv
theorem flJ_rd0 {j : Nat} {z : α} {vs : Nat → Value} {xs : List α} {ws : List Value} (h : ∀ x v, (enc x v).length = sz) (hi : j < xs.length) (hv : ((enc (xs.getD j z) (vs j)).drop 0).take ws.length = ws) : ((flJ enc vs 0 xs).drop (j * sz)).take ws.length = ws :=
  flJ_rd (off := 0) h hi hv
theorem flJ_pos {j : Nat} {vs : Nat → Value} {xs : List α} (h : ∀ x v, (enc x v).length = sz + 1) (hi : j < xs.length) : 0 < (flJ enc vs 0 xs).length := by
  rw [flJ_len h]; exact Nat.mul_pos (by omega) (by omega)
theorem flJ_snoc (vs : Nat → Value) (x : α) : ∀ (i : Nat) (l : List α), flJ enc vs i (l ++ [x]) = flJ enc vs i l ++ enc x (vs (i + l.length))
  | i, [] => by simp [flJ]
  | i, y :: l => by
    have ih := flJ_snoc vs x (i + 1) l
    simp only [List.cons_append, flJ, ih, List.append_assoc, List.length_cons]
    have e : i + 1 + l.length = i + (l.length + 1) := by omega
    rw [e]
theorem flJ_congr {vs vs' : Nat → Value} : ∀ (i : Nat) (l : List α), (∀ j, j < l.length → vs (i + j) = vs' (i + j)) → flJ enc vs i l = flJ enc vs' i l
  | i, [], h => rfl
  | i, x :: l, h => by
    simp only [flJ]
    have h0 := h 0 (by simp)
    rw [Nat.add_zero] at h0
    have ih : flJ enc vs (i + 1) l = flJ enc vs' (i + 1) l := flJ_congr (i + 1) l fun j hj => by
      have h1 := h (j + 1) (by simpa using hj)
      have e : i + 1 + j = i + (j + 1) := by omega
      rw [e]
      exact h1
    rw [h0, ih]
end
section
variable {α : Type} {vs : Nat → Value} {ie k : Nat} {len : α → Nat} {ics : α → List Value}
theorem jrows_len : ∀ (i : Nat) (l : List α), (jrows vs ie k len ics i l).length = l.length
  | _, [] => rfl
  | i, x :: l => by simp only [jrows, List.length_cons, jrows_len (i + 1) l]
theorem jrows_get : ∀ (i : Nat) (l : List α) (j : Nat) (x : α), l[j]? = some x → (jrows vs ie k len ics i l)[j]? = some (own (vs (i + j)) ie k (len x) (ics x))
  | _, [], j, x, h => by simp at h
  | i, y :: l, 0, x, h => by simp at h; subst h; rfl
  | i, y :: l, j + 1, x, h => by
    have ih := jrows_get (i + 1) l j x (by simpa using h)
    have e : i + 1 + j = i + (j + 1) := by omega
    rw [e] at ih
    simpa [jrows] using ih
theorem jrows_snoc (x : α) : ∀ (i : Nat) (l : List α), jrows vs ie k len ics i (l ++ [x]) = jrows vs ie k len ics i l ++ [own (vs (i + l.length)) ie k (len x) (ics x)]
  | i, [] => by simp [jrows]
  | i, y :: l => by
    have ih := jrows_snoc x (i + 1) l
    have e : i + 1 + l.length = i + (l.length + 1) := by omega
    rw [e] at ih
    simp only [List.cons_append, jrows, ih, List.length_cons]
theorem jrows_congr {vs' : Nat → Value} : ∀ (i : Nat) (l : List α), (∀ j, j < l.length → vs (i + j) = vs' (i + j)) → jrows vs ie k len ics i l = jrows vs' ie k len ics i l
  | _, [], _ => rfl
  | i, x :: l, h => by
    have h0 := h 0 (by simp)
    rw [Nat.add_zero] at h0
    have ih : jrows vs ie k len ics (i + 1) l = jrows vs' ie k len ics (i + 1) l := jrows_congr (i + 1) l fun j hj => by
      have h1 := h (j + 1) (by simpa using hj)
      have e : i + 1 + j = i + (j + 1) := by omega
      rw [e]
      exact h1
    simp only [jrows, h0, ih]
theorem jrows_set (y : α) : ∀ (i : Nat) (l : List α) (j : Nat), jrows vs ie k len ics i (l.set j y) = (jrows vs ie k len ics i l).set j (own (vs (i + j)) ie k (len y) (ics y))
  | _, [], _ => rfl
  | i, x :: l, 0 => rfl
  | i, x :: l, j + 1 => by
    have ih := jrows_set y (i + 1) l j
    have e : i + 1 + j = i + (j + 1) := by omega
    rw [e] at ih
    simp only [List.set_cons_succ, jrows, ih]
theorem flJ_set {enc : α → Value → List Value} {y z : α} (he : ∀ v, enc y v = enc z v) : ∀ (i : Nat) (l : List α) (j : Nat), l[j]? = some z → flJ enc vs i (l.set j y) = flJ enc vs i l
  | _, [], _, h => by simp at h
  | i, x :: l, 0, h => by simp at h; subst h; simp only [List.set_cons_zero, flJ, he]
  | i, x :: l, j + 1, h => by simp only [List.set_cons_succ, flJ, flJ_set he (i + 1) l j (by simpa using h)]
end
/-- The row: of elements that are enc x v; k: of how many cells an element of an element's slice is, ie: its type. -/
def jown {α : Type} (J : JG) (e sz : Nat) (enc : α → Value → List Value) (ie k : Nat) (len : α → Nat) (ics : α → List Value) (l : List α) : HP :=
  bun (own J.sv e sz l.length (flJ enc J.vs 0 l) :: jrows J.vs ie k len ics 0 l)
/-- The row, of which the value alone is told. -/
def hown {α : Type} (v : Value) (e sz : Nat) (enc : α → Value → List Value) (ie k : Nat) (len : α → Nat) (ics : α → List Value) (l : List α) : HP :=
  ⟨fun o s => ∃ J : JG, J.sv = v ∧ (jown J e sz enc ie k len ics l).p o s, fun ⟨J, h, h2⟩ ho hs => ⟨J, h, (jown J e sz enc ie k len ics l).mono h2 ho hs⟩⟩
section
variable {α : Type} {J : JG} {e sz ie k : Nat} {enc : α → Value → List Value} {len : α → Nat} {ics : α → List Value} {l : List α}
theorem isRd_jout : IsRd (jown J e sz enc ie k len ics l) J.sv l.length sz (flJ enc J.vs 0 l) := isRd_bun 0 rfl (isRd_own _ _ _ _ _)
theorem getD_some {z : α} {j : Nat} (hj : j < l.length) : l[j]? = some (l.getD j z) := by rw [List.getD_eq_getElem?_getD, List.getElem?_eq_getElem hj]; rfl
theorem isRd_jin {z : α} {j : Nat} (hj : j < l.length) : IsRd (jown J e sz enc ie k len ics l) (J.vs j) (len (l.getD j z)) k (ics (l.getD j z)) :=
  isRd_bun (j + 1) (by have := jrows_get (vs := J.vs) (ie := ie) (k := k) (len := len) (ics := ics) 0 l j _ (getD_some (z := z) hj); rw [Nat.zero_add] at this; simpa using this) (isRd_own _ _ _ _ _)
/-- (Of its value alone: that it is a slice's.) -/
theorem isRd_hout {v : Value} : IsRd (hown v e sz enc ie k len ics l) v l.length 0 [] := by
  rintro o s ⟨J, rfl, h⟩
  obtain ⟨h1, h2, A, c, h3, h4, _⟩ := isRd_jout o s h
  exact ⟨by simp, h2, A, c, h3, h4, fun h => by simp at h⟩
theorem jown_nil (o s : Hp) : (jown jnil e sz enc ie k len ics ([] : List α)).p o s :=
  ⟨fun _ _ => False, fun _ _ _ h _ => h.elim, fun i A hi => by
    match i, hi with
    | 0, hi =>
      simp only [List.getElem?_cons_zero, Option.some.injEq] at hi
      subst hi
      exact ⟨by simp [flJ], .inl ⟨rfl, rfl⟩⟩
    | i + 1, hi => simp [jrows] at hi⟩
end
section
variable {P : Program} {n : Nat} {w0 : World} {F L : List HP} {ρ : Env} {X : Act → World → Prop} {dd : Option Tmp} {ty : TypeId} {pos : String} {after : Array Edge} {gg : Option (Nat × Bool)}
theorem FnSpec.hide {f : FuncId} {args : List Value} {Post Post' : Value → List HP → Prop} (h : FnSpec P f args L Post) (hp : ∀ v M, Post v M → ∃ M', Post' v M' ∧ ∀ w X, Sat w (M ++ X) → Sat w (M' ++ X)) : FnSpec P f args L Post' :=
  fun F w hs => (h F w hs).mono fun _ _ ⟨v, N, he, h1, h2, h3⟩ =>
    let ⟨N', h4, h5⟩ := hp v N h1
    ⟨v, N', he, h4, h5 _ _ h2, h3⟩
theorem ent_jnil {α : Type} (e sz : Nat) (enc : α → Value → List Value) (ie kk : Nat) (len : α → Nat) (ics : α → List Value) (k : Ent (St n w0 F ρ (jown jnil e sz enc ie kk len ics [] :: L)) X) : Ent (St n w0 F ρ L) X :=
  ent_emp (ent_conv 0 emp _ rfl (fun o s _ => jown_nil o s) rfl k)
theorem Sat.unh {α : Type} {w : World} {L : List HP} {e sz ie kk : Nat} {enc : α → Value → List Value} {len : α → Nat} {ics : α → List Value} {l : List α} {v : Value} (i : Nat) (hi : L[i]? = some (hown v e sz enc ie kk len ics l)) (h : Sat w L) : ∃ J : JG, J.sv = v ∧ Sat w (L.set i (jown J e sz enc ie kk len ics l)) := by
  have hlt := (List.getElem?_eq_some_iff.1 hi).1
  obtain ⟨own, S, hd, hs, hl, hsl, hat⟩ := h
  obtain ⟨J, hJ, hp⟩ := hat i _ hi
  refine ⟨J, hJ, own, S, hd, hs, hl, hsl, fun j B hB => ?_⟩
  by_cases hj : j = i
  · subst hj
    rw [List.getElem?_set_self hlt] at hB
    cases hB
    exact hp
  · rw [List.getElem?_set_ne (fun q => hj q.symm)] at hB
    exact hat j B hB
theorem ent_unh {α : Type} {e sz ie kk : Nat} {enc : α → Value → List Value} {len : α → Nat} {ics : α → List Value} {l : List α} {v : Value} (i : Nat) (hi : L[i]? = some (hown v e sz enc ie kk len ics l)) (h : ∀ J : JG, J.sv = v → Ent (St n w0 F ρ (L.set i (jown J e sz enc ie kk len ics l))) X) : Ent (St n w0 F ρ L) X := by
  intro a w hst
  have hlt := (List.getElem?_eq_some_iff.1 hi).1
  obtain ⟨J, hJ, hs⟩ := Sat.unh i (by rw [List.getElem?_append_left hlt]; exact hi) hst.sat
  rw [List.set_append_left _ _ hlt] at hs
  exact h J hJ a w ⟨hst.defers, hst.size, hst.has, hs, hst.keeps⟩
theorem ot_appendJ {α : Type} {t e sz ie k bytes : Nat} {x y : Operand} {J : JG} {lv iv : Value} {enc : α → Value → List Value} {len : α → Nat} {ics : α → List Value} {l : List α} {el : α} {z : List Value} {R : List HP} (σ : List Nat) (hn : σ.Nodup)
    (hp : pick L σ = some (jown J e (sz + 1) enc ie k len ics l :: own lv e (sz + 1) 1 (enc el iv) :: own iv ie k (len el) (ics el) :: R)) (hx : ev ρ x = some J.sv) (hy : ev ρ y = some lv) (ht : sliceB P t = some e) (hS : sizeB P e = some (sz + 1)) (hz : zeroB P e = some z) (hzl : z.length = sz + 1)
    (hby : bytesB P e = some bytes) (hb1 : Nat.ble 1 bytes = true) (h1 : iv.oneCell' = true → ∀ u ∈ enc el iv, u.oneCell' = true) (hroom : (l.length + 1) * bytes ≤ 140737488355328) :
    OT P ⟨dd, .call { callee := .builtin .append, args := #[x, y], argTypes := #[t, t] }, ty, pos, after, gg⟩ ρ L (fun v M => ∃ J' : JG, v = J'.sv ∧ M = jown J' e (sz + 1) enc ie k len ics (l ++ [el]) :: R) := by
  intro F a w K Q ha hs hk
  have h1' := hs.pick σ hn hp
  have hiv : iv.oneCell' = true := by
    obtain ⟨_, _, A2, c, e2, _⟩ := rd_form (L := jown J e (sz + 1) enc ie k len ics l :: own lv e (sz + 1) 1 (enc el iv) :: own iv ie k (len el) (ics el) :: R) (i := 2) rfl (isRd_own _ _ _ _ _) h1'
    rw [e2]; rfl
  have h3 : Sat w ((own J.sv e (sz + 1) l.length (flJ enc J.vs 0 l) :: jrows J.vs ie k len ics 0 l) ++ (own lv e (sz + 1) 1 (enc el iv) :: own iv ie k (len el) (ics el) :: (R ++ F))) := Sat.unbun1 h1'
  have h4 : Sat w ((own J.sv e (sz + 1) l.length (flJ enc J.vs 0 l) :: own lv e (sz + 1) 1 (enc el iv) :: own iv ie k (len el) (ics el) :: (jrows J.vs ie k len ics 0 l ++ R)) ++ F) := by
    refine h3.perm (List.Perm.cons _ ?_)
    show (jrows J.vs ie k len ics 0 l ++ (own lv e (sz + 1) 1 (enc el iv) :: own iv ie k (len el) (ics el) :: (R ++ F))).Perm (own lv e (sz + 1) 1 (enc el iv) :: own iv ie k (len el) (ics el) :: ((jrows J.vs ie k len ics 0 l ++ R) ++ F))
    rw [List.append_assoc]
    exact List.perm_middle.trans (List.Perm.cons _ List.perm_middle)
  refine ot_append (L := own J.sv e (sz + 1) l.length (flJ enc J.vs 0 l) :: own lv e (sz + 1) 1 (enc el iv) :: own iv ie k (len el) (ics el) :: (jrows J.vs ie k len ics 0 l ++ R)) 0 1 hx hy ht hS hz hzl hby hb1 rfl rfl (isRd_own _ _ _ _ _) rfl (h1 hiv) hroom F a w K Q ha h4 ?_
  rintro v M w' rfl hs' hk'
  have h5 : Sat w' ((own v e (sz + 1) (l.length + 1) (flJ enc J.vs 0 l ++ enc el iv) :: (jrows J.vs ie k len ics 0 l ++ [own iv ie k (len el) (ics el)])) ++ (R ++ F)) := by
    have h6 : Sat w' (((own v e (sz + 1) (l.length + 1) (flJ enc J.vs 0 l ++ enc el iv) :: (jrows J.vs ie k len ics 0 l ++ [own iv ie k (len el) (ics el)])) ++ (R ++ F)) ++ [own lv e (sz + 1) 1 (enc el iv)]) := by
      refine hs'.perm (List.Perm.cons _ ?_)
      show (own lv e (sz + 1) 1 (enc el iv) :: own iv ie k (len el) (ics el) :: ((jrows J.vs ie k len ics 0 l ++ R) ++ F)).Perm (((jrows J.vs ie k len ics 0 l ++ [own iv ie k (len el) (ics el)]) ++ (R ++ F)) ++ [own lv e (sz + 1) 1 (enc el iv)])
      refine List.Perm.trans ?_ (List.perm_append_singleton _ _).symm
      refine List.Perm.cons _ ?_
      rw [List.append_assoc, List.append_assoc]
      exact List.perm_middle.symm
    exact h6.pre
  have h7 := h5.bun1
  let vs' : Nat → Value := fun j => if j < l.length then J.vs j else iv
  have e1 : vs' (0 + l.length) = iv := by simp [vs']
  have ec : flJ enc vs' 0 (l ++ [el]) = flJ enc J.vs 0 l ++ enc el iv := by
    rw [flJ_snoc, e1, flJ_congr (vs := vs') (vs' := J.vs) 0 l (fun j hj => by simp [vs', hj])]
  have er : jrows vs' ie k len ics 0 (l ++ [el]) = jrows J.vs ie k len ics 0 l ++ [own iv ie k (len el) (ics el)] := by
    rw [jrows_snoc, e1, jrows_congr (vs := vs') (vs' := J.vs) 0 l (fun j hj => by simp [vs', hj])]
  have el1 : (l ++ [el]).length = l.length + 1 := by simp
  rw [← ec, ← el1, ← er] at h7
  exact hk v _ w' ⟨⟨v, vs'⟩, rfl, rfl⟩ h7 hk'
/-- A literal of one slice. -/
theorem ot_litJ {α : Type} {t e m k : Nat} {x : Operand} {iv : Value} {A : HP} {cs z : List Value} (el : α) (i : Nat) (hi : L[i]? = some A) (hA : IsRd A iv m k cs) (hx : ev ρ x = some iv) (ht : sliceB P t = some e) (hS : sizeB P e = some 1) (hz : zeroB P e = some z) (hzl : z.length = 1) :
    OT P ⟨dd, .buildSlice t 1 #[(0, x)], ty, pos, after, gg⟩ ρ L (fun v M => M = own v e 1 1 (eJ el iv) :: L) := by
  intro F a w K Q ha hs hk
  obtain ⟨_, _, A2, c, rfl, _⟩ := rd_form hi hA hs
  exact ot_buildSlice (sz := 0) (m := 1) (xs := [x]) (vs := [.slice A2 m c]) (cs := eJ el (.slice A2 m c)) rfl (by simp [evs, hx]) ht hS hz hzl rfl (all_size rfl) rfl (by decide) F a w K Q ha hs hk
theorem ot_appendH {α : Type} {t e sz ie k bytes : Nat} {x y : Operand} {J : JG} {lv iv : Value} {enc : α → Value → List Value} {len : α → Nat} {ics : α → List Value} {l : List α} {el : α} {z : List Value} {R : List HP} (L' : Value → List HP) (σ τ : List Nat) (hn : σ.Nodup) (hm : τ.Nodup)
    (hp : pick L σ = some (jown J e (sz + 1) enc ie k len ics l :: own lv e (sz + 1) 1 (enc el iv) :: own iv ie k (len el) (ics el) :: R)) (hq : ∀ v, pick (hown v e (sz + 1) enc ie k len ics (l ++ [el]) :: emp :: emp :: R) τ = some (L' v)) (hx : ev ρ x = some J.sv) (hy : ev ρ y = some lv) (ht : sliceB P t = some e) (hS : sizeB P e = some (sz + 1)) (hz : zeroB P e = some z) (hzl : z.length = sz + 1)
    (hby : bytesB P e = some bytes) (hb1 : Nat.ble 1 bytes = true) (h1 : iv.oneCell' = true → ∀ u ∈ enc el iv, u.oneCell' = true) (hroom : (l.length + 1) * bytes ≤ 140737488355328) :
    OT P ⟨dd, .call { callee := .builtin .append, args := #[x, y], argTypes := #[t, t] }, ty, pos, after, gg⟩ ρ L (fun v M => M = L' v) := by
  intro F a w K Q ha hs hk
  refine ot_appendJ σ hn hp hx hy ht hS hz hzl hby hb1 h1 hroom F a w K Q ha hs ?_
  rintro v M w' ⟨J', rfl, rfl⟩ hs' hk'
  have h1 : Sat w' (hown J'.sv e (sz + 1) enc ie k len ics (l ++ [el]) :: (R ++ F)) := hs'.conv 0 _ _ rfl (fun o s h => ⟨J', rfl, h⟩)
  have h2 : Sat w' ((hown J'.sv e (sz + 1) enc ie k len ics (l ++ [el]) :: emp :: emp :: R) ++ F) := h1.emp.emp.perm (by
    refine (List.Perm.cons _ (List.Perm.swap _ _ _)).trans ((List.Perm.swap _ _ _).trans (List.Perm.cons _ (List.Perm.swap _ _ _)))|>.trans ?_
    exact List.Perm.refl _)
  exact hk _ _ w' rfl (h2.pick τ hm (hq _)) hk'
theorem ot_storeJ {α : Type} {T e sz ie k m j : Nat} {x u : Operand} {v : Value} {us : List Value} {J : JG} {enc : α → Value → List Value} {len : α → Nat} {ics : α → List Value} {l : List α} {y z : α} {L' : List HP} (i : Nat) (hx : ev ρ x = some (eptr (J.vs j) m)) (hy : ev ρ u = some v) (hv : v.cells = us.toArray)
    (h1 : ∀ u ∈ us, u.oneCell' = true) (hS : sizeB P T = some us.length) (hi : L[i]? = some (jown J e sz enc ie k len ics l)) (hj : j < l.length) (hcs : (ics (l.getD j z)).take m ++ us ++ (ics (l.getD j z)).drop (m + us.length) = ics y) (hroom : m + us.length ≤ (ics (l.getD j z)).length) (hne : Nat.blt 0 us.length = true)
    (hlen : len y = len (l.getD j z)) (henc : ∀ v, enc y v = enc (l.getD j z) v) (hL : L.set i (jown J e sz enc ie k len ics (l.set j y)) = L') : OT P ⟨dd, .store T x u, ty, pos, after, gg⟩ ρ L (fun _ M => M = L') := by
  intro F a w K Q ha hs hk
  have hlt := (List.getElem?_eq_some_iff.1 hi).1
  have hge : L[i] = jown J e sz enc ie k len ics l := (List.getElem?_eq_some_iff.1 hi).2
  have hgj := getD_some (z := z) hj
  have eL : L = L.take i ++ jown J e sz enc ie k len ics l :: L.drop (i + 1) := by
    have h := (List.take_append_drop i L).symm
    rw [List.drop_eq_getElem_cons hlt, hge] at h
    exact h
  have hs2 : Sat w (L.take i ++ (jown J e sz enc ie k len ics l :: (L.drop (i + 1) ++ F))) := by
    have h := hs
    rw [eL] at h
    simpa using h
  have h3 : Sat w ((L.take i ++ ((own J.sv e sz l.length (flJ enc J.vs 0 l) :: jrows J.vs ie k len ics 0 l) ++ L.drop (i + 1))) ++ F) := by
    have h := Sat.unbun hs2
    simpa using h
  have hti : (L.take i).length = i := by simp; omega
  have hjl : j < (jrows J.vs ie k len ics 0 l).length := by rw [jrows_len]; exact hj
  have hi2 : (L.take i ++ ((own J.sv e sz l.length (flJ enc J.vs 0 l) :: jrows J.vs ie k len ics 0 l) ++ L.drop (i + 1)))[i + (1 + j)]? = some (own (J.vs j) ie k (len (l.getD j z)) (ics (l.getD j z))) := by
    rw [List.getElem?_append_right (by omega), hti, Nat.add_sub_cancel_left, List.getElem?_append_left (by simp only [List.length_cons]; omega), Nat.add_comm 1 j, List.getElem?_cons_succ]
    have := jrows_get (vs := J.vs) (ie := ie) (k := k) (len := len) (ics := ics) 0 l j _ hgj
    rwa [Nat.zero_add] at this
  refine ot_storeE (i + (1 + j)) hx hy hv h1 hS hi2 hcs hroom hne rfl F a w K Q ha h3 ?_
  rintro u2 M w' rfl hs' hk'
  have es : (L.take i ++ ((own J.sv e sz l.length (flJ enc J.vs 0 l) :: jrows J.vs ie k len ics 0 l) ++ L.drop (i + 1))).set (i + (1 + j)) (own (J.vs j) ie k (len (l.getD j z)) (ics y)) = L.take i ++ ((own J.sv e sz (l.set j y).length (flJ enc J.vs 0 (l.set j y)) :: jrows J.vs ie k len ics 0 (l.set j y)) ++ L.drop (i + 1)) := by
    rw [List.set_append_right _ _ (by omega), hti, Nat.add_sub_cancel_left, List.set_append_left _ _ (by simp only [List.length_cons]; omega), Nat.add_comm 1 j, List.set_cons_succ, jrows_set, flJ_set henc 0 l j hgj, List.length_set, hlen, Nat.zero_add]
  rw [es] at hs'
  have h4 : Sat w' (L.take i ++ (bun (own J.sv e sz (l.set j y).length (flJ enc J.vs 0 (l.set j y)) :: jrows J.vs ie k len ics 0 (l.set j y)) :: (L.drop (i + 1) ++ F))) := Sat.bun (by simpa using hs')
  refine hk _ _ w' rfl ?_ hk'
  rw [← hL]
  have e2 : L.set i (jown J e sz enc ie k len ics (l.set j y)) = L.take i ++ jown J e sz enc ie k len ics (l.set j y) :: L.drop (i + 1) := by
    rw [List.set_eq_take_append_cons_drop, if_pos hlt]
  rw [e2, List.append_assoc]
  exact h4
end
end Go.Proofs.Ytndeodpckfjakaa.E
