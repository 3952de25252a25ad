/- The plain law of WordsBares: the number, the text, and the words of any text, and its word. No machine in it. -/
import Derived.Test.YtgbjponaoeiglaaDoorWordsBaresLawC
import Derived.KernelRfl
set_option linter.unusedVariables false
set_option linter.unusedSimpArgs false
set_option maxRecDepth 20000
namespace Go.Proofs.YtgbjponaoeiglaaDoor.WordsBares
open Go E
structure okT (t : List UInt8) (g : Bool) : Prop where
  ne : t ≠ []
  head : ∀ x, t = 48 :: x → x = []
  zero : g = true → t ≠ [48]
def nest (t : List UInt8) (g : Bool) : Option (Sum Unit (Int × Bool)) := (if t = ([] : List UInt8) then (some (Sum.inr ((0, false)))) else (if 1 < (t.length : Int) then (if 0 < (t.length : Int) then (if ((t.getD (0 : Int).toNat 0).toNat : Int) = 48 then (some (Sum.inr ((0, false)))) else (if g = true then (if t = ([48] : List UInt8) then (some (Sum.inr ((0, false)))) else (some (Sum.inl ()))) else (some (Sum.inl ())))) else none) else (if g = true then (if t = ([48] : List UInt8) then (some (Sum.inr ((0, false)))) else (some (Sum.inl ()))) else (some (Sum.inl ())))))
theorem nest_ok {t : List UInt8} {g : Bool} (h : okT t g) : nest t g = some (Sum.inl ()) := by
  have hin : (if g = true then (if t = ([48] : List UInt8) then (some (Sum.inr ((0, false)))) else (some (Sum.inl ()))) else (some (Sum.inl ()))) = (some (Sum.inl ()) : Option (Sum Unit (Int × Bool))) := by
    by_cases hg : g = true
    · rw [if_pos hg, if_neg (h.zero hg)]
    · rw [if_neg hg]
  unfold nest
  rw [if_neg h.ne]
  by_cases hl : 1 < (t.length : Int)
  · rw [if_pos hl, if_pos (by omega), if_neg, hin]
    intro e
    cases t with
    | nil => simp at hl
    | cons c x =>
      have hc : c = 48 := UInt8.toNat_inj.1 (show c.toNat = 48 by simp at e; omega)
      have := h.head x (by rw [hc])
      rw [this] at hl; simp at hl
  · rw [if_neg hl, hin]
theorem nest_no {t : List UInt8} {g : Bool} (h : ¬ okT t g) : nest t g = some (Sum.inr (0, false)) := by
  unfold nest
  by_cases h0 : t = []
  · rw [if_pos h0]
  · rw [if_neg h0]
    by_cases hl : 1 < (t.length : Int)
    · rw [if_pos hl, if_pos (by omega)]
      by_cases hh : ((t.getD (0 : Int).toNat 0).toNat : Int) = 48
      · rw [if_pos hh]
      · exfalso
        refine h ⟨h0, fun x e => ?_, fun _ e => by rw [e] at hl; simp at hl⟩
        rw [e] at hh
        exact absurd rfl hh
    · rw [if_neg hl]
      by_cases hz : g = true ∧ t = [48]
      · rw [if_pos hz.1, if_pos hz.2]
      · exfalso
        refine h ⟨h0, fun x e => ?_, fun hg e => hz ⟨hg, e⟩⟩
        rw [e] at hl
        cases x with
        | nil => rfl
        | cons _ _ => simp at hl; omega
/-- What the program says of a text's rest. -/
abbrev says (t : List UInt8) (g : Bool) (r : Int × Bool) : Prop :=
  (¬ okT t g → r = (0, false)) ∧ (go t 0 = none → r = (0, false)) ∧ (okT t g → ∀ m, go t 0 = some m → r = if g = true then (m, true) else if m = -9223372036854775808 then (0, false) else (w64 (0 - m), true))
theorem num_says {s t : List UInt8} {g : Bool} (hs : t.length ≤ 600) (hx : strings_CutPrefix s [45] = (t, g)) : ∃ r, words_Number W s = some r ∧ says t g r := by
  have e : words_Number W s = Option.bind (nest t g) fun z => (cas z (fun v3 => (Option.bind (if t.length ≤ 9223372036854775807 then (words_Number_l0 W (t, g) W 0 0) else none) fun z => (cas z (fun v4 => (if g = true then (some ((v4, true))) else (if v4 = (-9223372036854775808) then (some ((0, false))) else (some ((w64 (0 - v4), true)))))) (fun t_ => (some (t_)))))) (fun t_ => (some (t_)))) := by
    unfold words_Number nest
    rw [hx]; rfl
  rw [e]
  by_cases hk : okT t g
  · have n0 := num0 (t, g) hs W 0 0 (by simp) (by show t.length - 0 < 200000; omega) (by omega)
    have e0 : ((0 : Nat) : Int) = 0 := rfl
    rw [e0, List.drop_zero] at n0
    rw [nest_ok hk]
    simp only [Option.bind_some, cas]
    rw [if_pos (by omega), n0]
    simp only [Option.bind_some]
    cases hg : go t 0 with
    | none => exact ⟨_, rfl, fun h => absurd hk h, fun _ => rfl, fun _ m h => by rw [hg] at h; cases h⟩
    | some m =>
      simp only [cas]
      by_cases hb : g = true
      · rw [if_pos hb]
        exact ⟨_, rfl, fun h => absurd hk h, fun h => (by rw [hg] at h; cases h), fun _ m' h => by rw [hg] at h; cases h; rw [if_pos hb]⟩
      · rw [if_neg hb]
        by_cases hm : m = -9223372036854775808
        · rw [if_pos hm]
          exact ⟨_, rfl, fun h => absurd hk h, fun _ => rfl, fun _ m' h => by rw [hg] at h; cases h; rw [if_neg hb, if_pos hm]⟩
        · rw [if_neg hm]
          exact ⟨_, rfl, fun h => absurd hk h, fun h => (by rw [hg] at h; cases h), fun _ m' h => by rw [hg] at h; cases h; rw [if_neg hb, if_neg hm]⟩
  · rw [nest_no hk]
    exact ⟨_, rfl, fun _ => rfl, fun _ => rfl, fun h => absurd h hk⟩
theorem okT_digs (n : Nat) : digs n ≠ [] ∧ (∀ x, digs n = 48 :: x → x = []) := ⟨digs_ne n, fun x h => (digs_head n n (Nat.le_refl _) x h).2⟩
theorem digs0 : digs 0 = [48] := by rw [digs_small (by omega)]; rfl
/-- Behind a minus: it is a number's text just where the program takes it. -/
theorem neg_iff {t : List UInt8} {m : Int} (hg : go t 0 = some m) : okT t true ↔ decT m = 45 :: t := by
  have hin := go_in t 0 m (by omega) hg
  constructor
  · intro h
    have hd := go_digs t.length t (Nat.le_refl _) h.ne h.head m hg
    have hm : m ≠ 0 := by
      intro e
      subst e
      rw [show (-(0 : Int)).toNat = 0 from rfl, digs0] at hd
      exact h.zero rfl hd.symm
    unfold decT
    rw [if_pos (by omega), hd]
  · intro h
    unfold decT at h
    by_cases hm : m < 0
    · rw [if_pos hm] at h
      have hd := (List.cons.inj h).2
      have := okT_digs (-m).toNat
      rw [hd] at this
      refine ⟨this.1, this.2, fun _ e => ?_⟩
      rw [e] at hd
      have := (digs_head _ (-m).toNat (Nat.le_refl _) [] hd).1
      omega
    · rw [if_neg hm, show m.toNat = 0 by omega, digs0] at h
      exact absurd (List.cons.inj h).1 (by decide)
theorem pos_iff {t : List UInt8} {m : Int} (hg : go t 0 = some m) : okT t false ↔ decT (-m) = t := by
  have hin := go_in t 0 m (by omega) hg
  have e : decT (-m) = digs (-m).toNat := by unfold decT; rw [if_neg (by omega)]
  rw [e]
  constructor
  · intro h
    exact go_digs t.length t (Nat.le_refl _) h.ne h.head m hg
  · intro h
    have := okT_digs (-m).toNat
    rw [h] at this
    exact ⟨this.1, this.2, fun e => by cases e⟩
theorem ref_neg {t : List UInt8} (hs : t.length ≤ 300) {r : Int × Bool} (h : says t true r) : ossuaryref34_Number W (45 :: t) = some r := by
  unfold ossuaryref34_Number
  have hl : ((45 :: t : List UInt8).length : Int) = t.length + 1 := by simp
  rw [if_neg (by omega)]
  have n0 := rnum0 (45 :: t) (by simp; omega) W 1 0 (by simp) (by unfold W; simp; omega) (by omega)
  have e1 : ((1 : Nat) : Int) = 1 := rfl
  rw [e1, show (45 :: t : List UInt8).drop 1 = t from rfl] at n0
  by_cases h20 : 20 < ((45 :: t : List UInt8).length : Int)
  · rw [if_pos h20]
    congr 1
    cases hg : go t 0 with
    | none => exact (h.2.1 hg).symm
    | some m =>
      by_cases hk : okT t true
      · have hd := (neg_iff hg).1 hk
        have hin := go_in t 0 m (by omega) hg
        have := decT_len (n := m) (by omega)
        rw [hd] at this
        omega
      · exact (h.1 hk).symm
  · rw [if_neg h20, if_pos (by omega), if_pos (by rfl)]
    simp only [Option.bind_some]
    rw [n0]
    simp only [Option.bind_some]
    cases hg : go t 0 with
    | none => simp only [cas]; rw [h.2.1 hg]
    | some m =>
      have hin := go_in t 0 m (by omega) hg
      simp only [cas, thn_eq]
      rw [if_neg (by decide)]
      simp only [cas]
      rw [dec_eq (by omega)]
      simp only [Option.bind_some]
      by_cases hk : okT t true
      · rw [if_neg (by rw [(neg_iff hg).1 hk]; simp), h.2.2 hk m hg, if_pos rfl]
      · rw [if_pos (fun e => hk ((neg_iff hg).2 e)), h.1 hk]
theorem ref_pos {c : UInt8} {l : List UInt8} (hc : ¬ c = 45) (hs : (c :: l).length ≤ 300) {r : Int × Bool} (h : says (c :: l) false r) : ossuaryref34_Number W (c :: l) = some r := by
  unfold ossuaryref34_Number
  have hl : ((c :: l : List UInt8).length : Int) = l.length + 1 := by simp
  rw [if_neg (by omega)]
  have n0 := rnum0 (c :: l) (by omega) W 0 0 (by simp) (by unfold W; simp at hs ⊢; omega) (by omega)
  have e1 : ((0 : Nat) : Int) = 0 := rfl
  rw [e1, List.drop_zero] at n0
  by_cases h20 : 20 < ((c :: l : List UInt8).length : Int)
  · rw [if_pos h20]
    congr 1
    cases hg : go (c :: l) 0 with
    | none => exact (h.2.1 hg).symm
    | some m =>
      by_cases hk : okT (c :: l) false
      · have hd := (pos_iff hg).1 hk
        have hin := go_in _ 0 m (by omega) hg
        by_cases hm : m = -9223372036854775808
        · have := h.2.2 hk m hg
          rw [if_neg (by simp), if_pos hm] at this
          exact this.symm
        · have := decT_len (n := -m) (by omega)
          rw [hd] at this
          omega
      · exact (h.1 hk).symm
  · have h45 : ¬ ((((c :: l : List UInt8).getD (0 : Int).toNat 0).toNat : Int) = 45) := fun e => hc (UInt8.toNat_inj.1 (show c.toNat = 45 by
      have e' : (c.toNat : Int) = 45 := e
      omega))
    rw [if_neg h20, if_pos (by omega), if_neg h45]
    simp only [Option.bind_some]
    rw [n0]
    simp only [Option.bind_some]
    cases hg : go (c :: l) 0 with
    | none => simp only [cas]; rw [h.2.1 hg]
    | some m =>
      have hin := go_in _ 0 m (by omega) hg
      simp only [cas, thn_eq]
      rw [if_pos trivial]
      by_cases hm : m = -9223372036854775808
      · rw [if_pos hm]
        by_cases hk : okT (c :: l) false
        · have := h.2.2 hk m hg
          rw [if_neg (by simp), if_pos hm] at this
          rw [this]
        · rw [h.1 hk]
      · have e0 : w64 (0 - m) = -m := by rw [w64_id (by omega)]; omega
        rw [if_neg hm, e0]
        simp only [cas]
        rw [dec_eq (by omega)]
        simp only [Option.bind_some]
        by_cases hk : okT (c :: l) false
        · rw [if_neg (by rw [(pos_iff hg).1 hk]; simp), h.2.2 hk m hg, if_neg (by simp), if_neg hm, e0]
        · rw [if_pos (fun e => hk ((pos_iff hg).2 e)), h.1 hk]
theorem numbers (s : List UInt8) (hs : s.length ≤ 300) : ∃ r, words_Number W s = some r ∧ ossuaryref34_Number W s = some r := by
  match s with
  | [] =>
    have hx : strings_CutPrefix [] [45] = ([], false) := by simp [strings_CutPrefix]
    obtain ⟨r, h1, h2⟩ := num_says (t := []) (by simp) hx
    have hr := h2.1 (fun h => h.ne rfl)
    refine ⟨r, h1, ?_⟩
    unfold ossuaryref34_Number
    rw [if_pos (by simp), hr]
  | c :: l =>
    by_cases hc : c = 45
    · subst hc
      have hx : strings_CutPrefix (45 :: l) [45] = (l, true) := by simp [strings_CutPrefix]
      obtain ⟨r, h1, h2⟩ := num_says (t := l) (by simp at hs; omega) hx
      exact ⟨r, h1, ref_neg (by simp at hs; omega) h2⟩
    · have hx : strings_CutPrefix (c :: l) [45] = (c :: l, false) := by
        have hp : ([45] : List UInt8).isPrefixOf (c :: l) = false := by
          show ((45 : UInt8) == c && _) = false
          rw [show ((45 : UInt8) == c) = false from by rw [beq_eq_false_iff_ne]; exact fun e => hc e.symm]; rfl
        simp [strings_CutPrefix, hp]
      obtain ⟨r, h1, h2⟩ := num_says (t := c :: l) (by omega) hx
      exact ⟨r, h1, ref_pos hc hs h2⟩
theorem alive_true : ossuarylaw34_alive W = some true := by kernel_rfl
theorem law (s : List UInt8) : ∃ K, ossuarylaw34_WordsBares K s = some true := by
  refine ⟨W, ?_⟩
  unfold ossuarylaw34_WordsBares
  by_cases h : 300 < (s.length : Int)
  · rw [if_pos h, alive_true]; rfl
  · rw [if_neg h]
    obtain ⟨r, n1, n2⟩ := numbers s (by omega)
    obtain ⟨b, t, b1, b2⟩ := bares s (by omega)
    rw [n1, n2]
    simp only [Option.bind_some]
    rw [b1, b2]
    simp only [Option.bind_some, if_true, beq_self_eq_true]
    rw [quote_eq s (by omega), rquote_eq s (by omega)]
    simp only [Option.bind_some, if_true]
    rw [split_eq s (by omega), rsplit_eq s (by omega)]
    simp only [Option.bind_some]
    have hl : (words s).length ≤ 1000 := by
      unfold words
      split
      · simp
      · have := splitOn_len 32 s; omega
    rw [same_eq _ hl]
    simp only [Option.bind_some, if_true]
    rw [alive_true]; rfl
end Go.Proofs.YtgbjponaoeiglaaDoor.WordsBares
