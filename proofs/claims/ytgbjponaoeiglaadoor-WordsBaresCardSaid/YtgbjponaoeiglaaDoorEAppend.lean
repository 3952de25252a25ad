/- The engine's text of slices that grow, are cut, and whose elements are set. -/
import Derived.Test.YtgbjponaoeiglaaDoorEGhost
import Derived.Maps.AppendAt
set_option linter.unusedVariables false
set_option linter.unusedSimpArgs false
namespace Go.Proofs.YtgbjponaoeiglaaDoor.E
open Go Go.RowKit

def bytesB (P : Program) (t : TypeId) : Option Nat := (P.info? t).map (·.bytes)

/-! ### Readings -/
theorem isRd_nil (e sz : Nat) : IsRd emp (.slice none 0 0) 0 sz [] := fun o s _ => ⟨by simp, by unfold maxLen; omega, none, 0, rfl, Nat.le_refl _, fun h => by simp at h⟩
theorem isRd_nilA (A : HP) (sz : Nat) : IsRd A (.slice none 0 0) 0 sz [] := fun o s _ => ⟨by simp, by unfold maxLen; omega, none, 0, rfl, Nat.le_refl _, fun h => by simp at h⟩
section
variable {α : Type} {enc : α → List Value} {sz lo hi : Nat} {xs : List α} {A : HP} {sv : Value}
theorem fl_take (h : ∀ x, (enc x).length = sz) : ∀ (i : Nat) (xs : List α), (fl enc xs).take (i * sz) = fl enc (xs.take i)
  | 0, xs => by simp [fl]
  | i + 1, [] => by simp [fl]
  | i + 1, x :: xs => by
    have ih := fl_take h i xs
    simp only [fl, List.flatMap_cons, List.take_succ_cons] at ih ⊢
    rw [Nat.succ_mul, Nat.add_comm, List.take_add, ← h x, List.take_left, List.drop_left]
    rw [h x]; exact congrArg _ ih
theorem isRd_view (he : ∀ x, (enc x).length = sz) (h : IsRd A sv xs.length sz (fl enc xs)) (h1 : lo ≤ hi) (h2 : hi ≤ xs.length) : IsRd A (subs sv lo hi sz) ((xs.drop lo).take (hi - lo)).length sz (fl enc ((xs.drop lo).take (hi - lo))) := by
  have := isRd_sub h h1 h2
  rw [fl_drop he, fl_take he] at this
  have e : ((xs.drop lo).take (hi - lo)).length = hi - lo := by simp; omega
  rw [e]; exact this
theorem isRd_take (he : ∀ x, (enc x).length = sz) (h : IsRd A sv xs.length sz (fl enc xs)) (h2 : hi ≤ xs.length) : IsRd A (subs sv 0 hi sz) (xs.take hi).length sz (fl enc (xs.take hi)) := by
  have := isRd_view he h (Nat.zero_le hi) h2
  simpa using this
theorem isRd_drop (he : ∀ x, (enc x).length = sz) (h : IsRd A sv xs.length sz (fl enc xs)) (h1 : lo ≤ xs.length) : IsRd A (subs sv lo xs.length sz) (xs.drop lo).length sz (fl enc (xs.drop lo)) := by
  have := isRd_view he h h1 (Nat.le_refl _)
  rwa [List.take_of_length_le (by simp)] at this
theorem fl_set {z y : α} {i off : Nat} {us : List Value} (he : ∀ x, (enc x).length = sz) (hi : i < xs.length) (hu : off + us.length ≤ sz) (hy : (enc (xs.getD i z)).take off ++ us ++ (enc (xs.getD i z)).drop (off + us.length) = enc y) :
    (fl enc xs).take (i * sz + off) ++ us ++ (fl enc xs).drop (i * sz + off + us.length) = fl enc (xs.set i y) := by
  have hsplit : xs = xs.take i ++ xs[i] :: xs.drop (i + 1) := by rw [List.getElem_cons_drop, List.take_append_drop]
  have hg : xs.getD i z = xs[i] := by simp [List.getD_eq_getElem?_getD, List.getElem?_eq_getElem hi]
  rw [hg] at hy
  have hl : (fl enc (xs.take i)).length = i * sz := by rw [fl_length he]; simp [Nat.min_eq_left (Nat.le_of_lt hi)]
  have hex := he xs[i]
  have e1 : fl enc xs = fl enc (xs.take i) ++ (enc xs[i] ++ fl enc (xs.drop (i + 1))) :=
    (congrArg (fl enc) hsplit).trans (by simp only [fl, List.flatMap_append, List.flatMap_cons])
  have e2 : fl enc (xs.set i y) = fl enc (xs.take i) ++ (enc y ++ fl enc (xs.drop (i + 1))) := by
    rw [List.set_eq_take_append_cons_drop, if_pos hi]
    simp [fl]
  rw [e2, ← hy, e1]
  have t1 : (fl enc (xs.take i) ++ (enc xs[i] ++ fl enc (xs.drop (i + 1)))).take (i * sz + off) = fl enc (xs.take i) ++ (enc xs[i]).take off := by
    rw [← hl, List.take_length_add_append, List.take_append_of_le_length (by omega)]
  have t2 : (fl enc (xs.take i) ++ (enc xs[i] ++ fl enc (xs.drop (i + 1)))).drop (i * sz + off + us.length) = (enc xs[i]).drop (off + us.length) ++ fl enc (xs.drop (i + 1)) := by
    rw [Nat.add_assoc, ← hl, List.drop_length_add_append, List.drop_append_of_le_length (by omega)]
  rw [t1, t2]
  simp
theorem fl_room {i off m : Nat} (he : ∀ x, (enc x).length = sz) (hi : i < xs.length) (hu : off + m ≤ sz) : i * sz + off + m ≤ (fl enc xs).length := by
  rw [fl_length he]
  have := Nat.mul_le_mul_right sz (show i + 1 ≤ xs.length from hi)
  rw [Nat.succ_mul] at this
  omega
theorem isRd_ownx (e : Nat) : IsRd (own sv e sz xs.length (fl enc xs)) sv xs.length sz (fl enc xs) := isRd_own _ _ _ _ _
end

section
variable {P : Program} {n : Nat} {w0 : World} {F L L' : List HP} {ρ ρ' : Env} {Q : Exit → Act → World → Prop} {X : Act → World → Prop} {ty : Nat} {dd : Option Nat} {gg : Option (Nat × Bool)} {pos : String} {after : Array Edge}
theorem ent_emp (k : Ent (St n w0 F ρ (emp :: L)) X) : Ent (St n w0 F ρ L) X := fun a w h => k a w ⟨h.defers, h.size, h.has, h.sat.emp, h.keeps⟩
/-- nil as a slice of one's own. -/
theorem ent_ownnil (e sz : Nat) (k : Ent (St n w0 F ρ (own (.slice none 0 0) e sz 0 [] :: L)) X) : Ent (St n w0 F ρ L) X :=
  fun a w h => k a w ⟨h.defers, h.size, h.has, (h.sat.emp.conv 0 emp (own (.slice none 0 0) e sz 0 []) rfl fun _ _ _ => ⟨by simp, .inl ⟨rfl, rfl⟩⟩ : Sat w (own (.slice none 0 0) e sz 0 [] :: (L ++ Fr F a))), h.keeps⟩
/-- An atom from now on only read. -/
theorem isRd_any {A : HP} {sv : Value} {m sz : Nat} {cs : List Value} (h : IsRd A sv m sz cs) : ∃ B : HP, ∃ v : Value, IsRd B v m sz cs := ⟨A, sv, h⟩

theorem bytesB_run {t : TypeId} {k : Nat} (w : World) (h : bytesB P t = some k) : (typeInfo t).run P w = .ok ((P.info? t).get (by unfold bytesB at h; cases hh : P.info? t <;> simp_all)) w := by
  have : (P.info? t).isSome := by unfold bytesB at h; cases hh : P.info? t <;> simp_all
  obtain ⟨i, hi⟩ := Option.isSome_iff_exists.1 this
  simp [typeInfo, hi]

theorem ot_append {t e sz m k bytes : Nat} {x y : Operand} {sv sv2 : Value} {cs news z : List Value} {A : HP} (i j : Nat) (hx : ev ρ x = some sv) (hy : ev ρ y = some sv2) (ht : sliceB P t = some e) (hS : sizeB P e = some (sz + 1)) (hz : zeroB P e = some z) (hzl : z.length = sz + 1)
    (hby : bytesB P e = some bytes) (hb1 : Nat.ble 1 bytes = true) (hi : L[i]? = some (own sv e (sz + 1) k cs)) (hj : L[j]? = some A) (hA : IsRd A sv2 m (sz + 1) news) (hij : Nat.beq j i = false) (h1 : ∀ u ∈ news, u.oneCell' = true) (hroom : (k + m) * bytes ≤ 140737488355328) :
    OT P ⟨dd, .call { callee := .builtin .append, args := #[x, y], argTypes := #[t, t] }, ty, pos, after, gg⟩ ρ L (fun v M => M = L.set i (own v e (sz + 1) (k + m) (cs ++ news))) := by
  intro F a w K Q ha hs hk
  have hlt := (List.getElem?_eq_some_iff.1 hi).1
  have hi' : (L ++ F)[i]? = some (own sv e (sz + 1) k cs) := by rw [List.getElem?_append_left hlt]; exact hi
  have hb1' : 1 ≤ bytes := Nat.le_of_ble_eq_true hb1
  have hmax : k + m ≤ maxLen := by
    have := Nat.mul_le_mul_left (k + m) hb1'
    unfold maxLen; omega
  have hrow : w.ownsRow 0 e (sz + 1) sv k cs := hs.says (φ := w.ownsRow 0 e (sz + 1) sv k cs) i _ hi' fun U S hp => ⟨hp.1, hp.2.imp id fun ⟨g, cap, cur, q1, q2, q3⟩ => ⟨g, cap, cur, q1, Nat.zero_le _, q2.2, q3⟩⟩
  obtain ⟨hl2, hm2, B, c2, rfl, hmc, hr2⟩ := rd_form hj hA hs
  obtain ⟨info, hinfo⟩ : ∃ info, P.info? e = some info := by
    unfold bytesB at hby; cases hh : P.info? e <;> simp_all
  have hsz : info.size = sz + 1 := by simpa [sizeB, hinfo] using hS
  have hbt : info.bytes = bytes := by simpa [bytesB, hinfo] using hby
  obtain ⟨zv, hzv, hzc⟩ : ∃ zv, info.zero = some zv ∧ zv.cells.toList = z := by simpa [zeroB, hinfo] using hz
  have hzs : zv.cells.size = sz + 1 := by rw [← hzl, ← hzc]; simp
  -- what the machine comes to
  have run : ∃ v' w', (Builtin.append_ #[t, t] ty #[sv, .slice B m c2]).run P w = .ok v' w' ∧ w'.ownsRow 0 e (sz + 1) v' (k + m) (cs ++ news) ∧ w.grownBy w' sv.ownBlock ∧ (v'.ownBlock = sv.ownBlock ∨ v'.ownBlock = some w.heap.size) := by
    cases B with
    | some ad =>
      have hc : ∀ q u, news[q]? = some u → w.cell? (ad.add q) = some u := by
        intro q u hq
        have hpos : 0 < news.length := by have := (List.getElem?_eq_some_iff.1 hq).1; omega
        obtain ⟨a2, e2, h3⟩ := hr2 hpos
        cases e2
        exact h3 q u hq
      obtain ⟨v', w', r1, r2, r3, _, r5⟩ := run_append_own_at (P := P) w 0 t ty e info zv (sz + 1) bytes (underlying_slice ht) hinfo hzv hsz hbt hzs (by omega) sv k cs hrow ad m c2 news hl2 hc h1 hmax hroom (Nat.zero_le _)
      exact ⟨v', w', r1, r2, r3, r5⟩
    | none =>
      have hn : news = [] := by
        cases news with
        | nil => rfl
        | cons _ _ => obtain ⟨a2, e2, _⟩ := hr2 (by simp); cases e2
      subst hn
      have hm0 : m = 0 := by
        have : m * (sz + 1) = 0 := by simpa using hl2.symm
        rcases Nat.mul_eq_zero.1 this with h | h
        · exact h
        · omega
      subst hm0
      refine ⟨sv, w, ?_, by simpa using hrow, ⟨rfl, rfl, rfl, Nat.le_refl _, fun _ _ _ => rfl⟩, .inl rfl⟩
      rcases hrow.2 with ⟨rfl, rfl⟩ | ⟨g, cap, cur, rfl, _, hg, hnc, _⟩
      · simp [Builtin.append_, run_underlying (underlying_slice ht), sizeOf, typeInfo, hinfo, Builtin.lenOf, Builtin.firstCells]
      · simp [Builtin.append_, run_underlying (underlying_slice ht), sizeOf, typeInfo, hinfo, Builtin.lenOf, Builtin.firstCells, hnc, storeCells]
  obtain ⟨v', w', hrun, hown, hgr, hblk⟩ := run
  unfold Oper.wp
  have hex : (execOp a.eval ⟨dd, .call { callee := .builtin .append, args := #[x, y], argTypes := #[t, t] }, ty, pos, after, gg⟩).run P w = .ok (.value v') w' := by
    simp [execOp, resolve, invoke, builtin, ev_eval ha hx, ev_eval ha hy, hrun]
  rw [hex]
  simp only [Oper.upon]
  refine hk v' _ w' rfl ?_ ⟨hgr.os, hgr.tape, hgr.output, hgr.size, run_drawn _ _ _ _ hrun⟩
  have hset := hs.upd (w' := w') i _ (own v' e (sz + 1) (k + m) (cs ++ news)) hi' hgr.size fun U S hp hU hS hUS => by
    have hUown : ∀ b, sv.ownBlock = some b → U b := by
      intro b hb
      rcases hp.2 with ⟨h1, _⟩ | ⟨g, cap, cur, h1, h2, _⟩
      · rw [h1] at hb; cases hb
      · rw [h1] at hb; cases hb; exact h2.1
    refine ⟨fun b => v'.ownBlock = some b, fun b hb => ?_, fun b hb hnu => hgr.block b hb fun h => hnu (hUown b h.symm), hown.1, ?_⟩
    · rcases hblk with h | h
      · exact .inl (hUown b (h ▸ hb))
      · rw [hb] at h
        cases h
        rcases hown.2 with ⟨q1, _⟩ | ⟨g, cap, cur, q1, _, q2, _⟩
        · rw [q1] at hb; cases hb
        · rw [q1] at hb; cases hb
          exact .inr ⟨Nat.le_refl _, (Array.getElem?_eq_some_iff.1 q2).1⟩
    · exact hown.2.imp id fun ⟨g, cap, cur, q1, _, q2, q3⟩ => ⟨g, cap, cur, q1, ⟨by rw [q1]; rfl, q2⟩, q3⟩
  rw [List.set_append_left _ _ hlt] at hset
  exact hset
def One (L : List HP) (us : List Value) : Prop := ∀ (F : List HP) (w : World), Sat w (L ++ F) → ∀ u ∈ us, u.oneCell' = true
theorem one_all {us : List Value} (h : us.all (·.oneCell') = true) : One L us := fun _ _ _ u hu => (List.all_eq_true.1 h) u hu
theorem one_nil : One L [] := fun _ _ _ u hu => by cases hu
theorem one_cons {u : Value} {us : List Value} (h : u.oneCell' = true) (hs : One L us) : One L (u :: us) := fun F w hw v hv => by
  rcases List.mem_cons.1 hv with rfl | hv
  · exact h
  · exact hs F w hw v hv
theorem one_sl {sv : Value} {us cs : List Value} {A : HP} {m sz : Nat} (i : Nat) (hi : L[i]? = some A) (hA : IsRd A sv m sz cs) (hs : One L us) : One L (sv :: us) := fun F w hw v hv => by
  rcases List.mem_cons.1 hv with rfl | hv
  · obtain ⟨_, _, B, c, rfl, _⟩ := rd_form hi hA hw
    rfl
  · exact hs F w hw v hv
theorem ot_storeG {T b o B : Nat} {x y : Operand} {v : Value} {cs cs' : List Value} {us : List Value} (i : Nat) (hx : ev ρ x = some (pt b o)) (hy : ev ρ y = some v) (hv : v.cells = us.toArray) (h1 : One L us) (hS : sizeB P T = some us.length)
    (hi : L[i]? = some (box b B cs)) (hcs : cs.take o ++ us ++ cs.drop (o + us.length) = cs') (hlen : o + us.length ≤ cs.length) (hL : L.set i (box b B cs') = L') :
    OT P ⟨dd, .store T x y, ty, pos, after, gg⟩ ρ L (fun _ M => M = L') :=
  fun F a w K Q ha hs hk => ot_store i hx hy hv (h1 F w hs) hS hi hcs hlen hL F a w K Q ha hs hk
theorem ov_sl {o : Oper} {v sv : Value} {A : HP} {m sz : Nat} {cs : List Value} (i : Nat) (hi : L[i]? = some A) (hA : IsRd A sv m sz cs) (h : sv.cells = #[sv] → OV P o ρ L v) : OV P o ρ L v := fun F a w ha hs => by
  obtain ⟨_, _, A2, c, e, _⟩ := rd_form hi hA hs
  exact h (by rw [e]; rfl) F a w ha hs
theorem ot_boxS {T m sz : Nat} {x : Operand} {sv : Value} {ds : List Value} {A : HP} (i : Nat) (hx : ev ρ x = some sv) (hi : L[i]? = some A) (hA : IsRd A sv m sz ds) :
    OT P ⟨dd, .box T x, ty, pos, after, gg⟩ ρ L (fun v M => ∃ b, v = pt b 0 ∧ M = box b T [sv] :: L) := by
  intro F a w K Q ha hs hk
  obtain ⟨_, _, A2, c, rfl, _⟩ := rd_form hi hA hs
  exact ot_box (cs := [.slice A2 m c]) hx rfl F a w K Q ha hs hk
theorem ot_storeS {T b o B m sz : Nat} {x y : Operand} {sv : Value} {cs cs' ds : List Value} {A : HP} (i i2 : Nat) (hx : ev ρ x = some (pt b o)) (hy : ev ρ y = some sv) (hS : sizeB P T = some 1)
    (hi : L[i]? = some (box b B cs)) (hi2 : L[i2]? = some A) (hA : IsRd A sv m sz ds) (hcs : cs.take o ++ [sv] ++ cs.drop (o + 1) = cs') (hlen : o + 1 ≤ cs.length) (hL : L.set i (box b B cs') = L') :
    OT P ⟨dd, .store T x y, ty, pos, after, gg⟩ ρ L (fun _ M => M = L') := by
  intro F a w K Q ha hs hk
  obtain ⟨_, _, A2, c, rfl, _⟩ := rd_form hi2 hA hs
  exact ot_store (us := [.slice A2 m c]) i hx hy rfl (all_one rfl) hS hi hcs hlen hL F a w K Q ha hs hk
theorem ot_storeE {T k e sz m : Nat} {x y : Operand} {sv v : Value} {cs cs' us : List Value} (i : Nat) (hx : ev ρ x = some (eptr sv k)) (hy : ev ρ y = some v) (hv : v.cells = us.toArray) (h1 : ∀ u ∈ us, u.oneCell' = true) (hS : sizeB P T = some us.length)
    (hi : L[i]? = some (own sv e sz m cs)) (hcs : cs.take k ++ us ++ cs.drop (k + us.length) = cs') (hlen : k + us.length ≤ cs.length) (hne : Nat.blt 0 us.length = true) (hL : L.set i (own sv e sz m cs') = L') :
    OT P ⟨dd, .store T x y, ty, pos, after, gg⟩ ρ L (fun _ M => M = L') := by
  intro F a w K Q ha hs hk
  have hlt := (List.getElem?_eq_some_iff.1 hi).1
  have hi' : (L ++ F)[i]? = some (own sv e sz m cs) := by rw [List.getElem?_append_left hlt]; exact hi
  have hpos : 0 < us.length := by simpa [Nat.blt_eq] using hne
  have form : ∃ g cap cur, sv = .slice (some ⟨g, 0, none⟩) m cap ∧ w.heap[g]? = some (.cells cur e (0, 0)) ∧ m ≤ cap ∧ cap ≤ maxLen ∧ cur.size = cap * sz ∧ cur.toList.take (m * sz) = cs ∧ cs.length = m * sz :=
    hs.says (φ := ∃ g cap cur, sv = .slice (some ⟨g, 0, none⟩) m cap ∧ w.heap[g]? = some (.cells cur e (0, 0)) ∧ m ≤ cap ∧ cap ≤ maxLen ∧ cur.size = cap * sz ∧ cur.toList.take (m * sz) = cs ∧ cs.length = m * sz) i _ hi' fun U S hp => by
      rcases hp.2 with ⟨q1, q2⟩ | ⟨g, cap, cur, q1, q2, q3, q4, q5, q6⟩
      · have := hp.1; rw [q2] at this; omega
      · exact ⟨g, cap, cur, q1, q2.2, q3, q4, q5, q6, hp.1⟩
  obtain ⟨g, cap, cur, rfl, hg, hmc, hcm, hcs2, htk, hcl⟩ := form
  have hmz := Nat.mul_le_mul_right sz hmc
  have hst := run_storeCells_at P g k e us 0 cur w hg (by rw [hcs2]; omega) h1
  have hadd : (⟨g, 0, none⟩ : Addr).add k = ⟨g, k, none⟩ := by unfold Addr.add; split <;> simp_all
  unfold Oper.wp
  simp only [Nat.add_zero] at hst
  simp only [execOp, ev_eval ha hx, ev_eval ha hy, Instr.storeAt, eptr, hadd, Instr.sureAddr, storeVar, Sem.run_bind, Sem.run_pure, Result.andThen_ok, sizeB_run w hS, hv, List.size_toArray, ne_eq, not_true, if_false, hst, Oper.upon]
  refine hk undef L' _ rfl ?_ ⟨rfl, rfl, rfl, by simp [World.setRow], Nat.le_refl _⟩
  have key : (cur.toList.take k ++ us ++ cur.toList.drop (k + us.length)).take (m * sz) = cs' := by
    rw [← hcs, ← htk, List.take_take, Nat.min_eq_left (by omega)]
    have hX : (cur.toList.take k ++ us).length = k + us.length := by simp; omega
    rw [List.take_append, List.take_of_length_le (by rw [hX]; omega), hX, List.drop_take]
  have := hs.upd (w' := w.setRow g (cur.toList.take k ++ us ++ cur.toList.drop (k + us.length)).toArray) i _ (own (.slice (some ⟨g, 0, none⟩) m cap) e sz m cs') hi' (by simp [World.setRow]) fun U S hA hU hS hUS => by
    have hUg : U g := by
      rcases hA.2 with ⟨q1, _⟩ | ⟨g', cap', cur', q1, q2, _⟩
      · cases q1
      · cases q1; exact q2.1
    refine ⟨U, fun _ hb => .inl hb, fun c _ hc => setRow_other w g c _ (fun e => hc (e ▸ hUg)), ?_, .inr ⟨g, cap, _, rfl, ⟨hUg, setRow_heap w g cur _ e _ hg⟩, hmc, hcm, ?_, key⟩⟩
    · rw [← key]; simp; omega
    · simp; omega
  rw [List.set_append_left _ _ hlt, hL] at this
  exact this
/-- A prefix of one's own slice is one's own. -/
theorem own_take {sv : Value} {e sz m k : Nat} {cs : List Value} (h : m ≤ k) (o s : Hp) (ho : (own sv e sz k cs).p o s) : (own (subs sv 0 m sz) e sz m (cs.take (m * sz))).p o s := by
  obtain ⟨h1, h2⟩ := ho
  have hm := Nat.mul_le_mul_right sz h
  refine ⟨by simp only [List.length_take]; omega, ?_⟩
  rcases h2 with ⟨rfl, rfl⟩ | ⟨g, cap, cur, rfl, hg, hn, hc, hz, ht⟩
  · left
    have : m = 0 := by omega
    subst this
    simp [subs]
  · right
    refine ⟨g, cap, cur, ?_, hg, by omega, hc, hz, ?_⟩
    · simp [subs, Addr.add]
    · rw [← ht, List.take_take, Nat.min_eq_left hm]
theorem nat_le {j : Int} {n : Nat} (h0 : 0 ≤ j) (h1 : j ≤ n) : j.toNat ≤ n := by omega
theorem nat_le2 {j k : Int} (h0 : 0 ≤ j) (h1 : j ≤ k) : j.toNat ≤ k.toNat := by omega
section
variable {t e m sz : Nat} {x y y2 : Operand} {sv : Value} {j k : Int} {kd kd2 : IntKind} {cs : List Value} {A : HP}
theorem ov_slice_hi (i : Nat) (hx : ev ρ x = some sv) (hy : ev ρ y = some (.int kd j)) (ht : sliceB P t = some e) (hS : sizeB P e = some sz) (hi' : L[i]? = some A) (hA : IsRd A sv m sz cs) (h0 : 0 ≤ j) (h1 : j ≤ m) :
    OV P ⟨dd, .slice t x none (some y) none, ty, pos, after, gg⟩ ρ L (subs sv 0 j.toNat sz) :=
  ov_slice (l := 0) (h := j.toNat) i hx ht hS rfl ⟨kd, by rw [hy, Int.toNat_of_nonneg h0]⟩ hi' hA (Nat.zero_le _) (nat_le h0 h1)
theorem ov_slice_lo (i : Nat) (hx : ev ρ x = some sv) (hy : ev ρ y = some (.int kd j)) (ht : sliceB P t = some e) (hS : sizeB P e = some sz) (hi' : L[i]? = some A) (hA : IsRd A sv m sz cs) (h0 : 0 ≤ j) (h1 : j ≤ m) :
    OV P ⟨dd, .slice t x (some y) none none, ty, pos, after, gg⟩ ρ L (subs sv j.toNat m sz) :=
  ov_slice (l := j.toNat) (h := m) i hx ht hS ⟨kd, by rw [hy, Int.toNat_of_nonneg h0]⟩ rfl hi' hA (nat_le h0 h1) (Nat.le_refl _)
theorem ov_slice_lohi (i : Nat) (hx : ev ρ x = some sv) (hy : ev ρ y = some (.int kd j)) (hy2 : ev ρ y2 = some (.int kd2 k)) (ht : sliceB P t = some e) (hS : sizeB P e = some sz) (hi' : L[i]? = some A) (hA : IsRd A sv m sz cs) (h0 : 0 ≤ j) (h1 : j ≤ k) (h2 : k ≤ m) :
    OV P ⟨dd, .slice t x (some y) (some y2) none, ty, pos, after, gg⟩ ρ L (subs sv j.toNat k.toNat sz) :=
  ov_slice (l := j.toNat) (h := k.toNat) i hx ht hS ⟨kd, by rw [hy, Int.toNat_of_nonneg h0]⟩ ⟨kd2, by rw [hy2, Int.toNat_of_nonneg (Int.le_trans h0 h1)]⟩ hi' hA (nat_le2 h0 h1) (nat_le (Int.le_trans h0 h1) h2)
theorem ov_slice_all (i : Nat) (hx : ev ρ x = some sv) (ht : sliceB P t = some e) (hS : sizeB P e = some sz) (hi' : L[i]? = some A) (hA : IsRd A sv m sz cs) :
    OV P ⟨dd, .slice t x none none none, ty, pos, after, gg⟩ ρ L (subs sv 0 m sz) :=
  ov_slice (l := 0) (h := m) i hx ht hS rfl rfl hi' hA (Nat.zero_le _) (Nat.le_refl _)
end
section
variable {α : Type} {enc : α → List Value} {xs ys : List α} {z y : α}
theorem one_fl (h : ∀ x, (enc x).all (·.oneCell') = true) (xs : List α) : ∀ u ∈ fl enc xs, u.oneCell' = true := by
  intro u hu
  obtain ⟨x, _, hx⟩ := List.mem_flatMap.1 hu
  exact (List.all_eq_true.1 (h x)) u hx
theorem ot_appendx {t e sz bytes : Nat} {x y : Operand} {sv sv2 : Value} {zz : List Value} {A : HP} (i j : Nat) (hx : ev ρ x = some sv) (hy : ev ρ y = some sv2) (ht : sliceB P t = some e) (hS : sizeB P e = some (sz + 1)) (hz : zeroB P e = some zz) (hzl : zz.length = sz + 1)
    (hby : bytesB P e = some bytes) (hb1 : Nat.ble 1 bytes = true) (hi : L[i]? = some (own sv e (sz + 1) xs.length (fl enc xs))) (hj : L[j]? = some A) (hA : IsRd A sv2 ys.length (sz + 1) (fl enc ys)) (hij : Nat.beq j i = false) (h1 : ∀ x, (enc x).all (·.oneCell') = true) (hroom : (xs.length + ys.length) * bytes ≤ 140737488355328) :
    OT P ⟨dd, .call { callee := .builtin .append, args := #[x, y], argTypes := #[t, t] }, ty, pos, after, gg⟩ ρ L (fun v M => M = L.set i (own v e (sz + 1) (xs ++ ys).length (fl enc (xs ++ ys)))) := by
  have h := ot_append (ty := ty) (dd := dd) (gg := gg) (pos := pos) (after := after) i j hx hy ht hS hz hzl hby hb1 hi hj hA hij (one_fl h1 ys) hroom
  have e1 : fl enc xs ++ fl enc ys = fl enc (xs ++ ys) := by simp [fl]
  rw [e1, ← List.length_append] at h
  exact h
theorem ot_storeEx {T e sz idx off : Nat} {x u : Operand} {sv v : Value} {us : List Value} (i : Nat) (hx : ev ρ x = some (eptr sv (idx * sz + off))) (hy : ev ρ u = some v) (hv : v.cells = us.toArray) (h1 : ∀ u ∈ us, u.oneCell' = true) (hS : sizeB P T = some us.length) (he : ∀ x, (enc x).length = sz) (hidx : idx < xs.length)
    (hi : L[i]? = some (own sv e sz xs.length (fl enc xs))) (hcs : (enc (xs.getD idx z)).take off ++ us ++ (enc (xs.getD idx z)).drop (off + us.length) = enc y) (hof : Nat.ble (off + us.length) sz = true) (hne : Nat.blt 0 us.length = true) (hL : L.set i (own sv e sz (xs.set idx y).length (fl enc (xs.set idx y))) = L') :
    OT P ⟨dd, .store T x u, ty, pos, after, gg⟩ ρ L (fun _ M => M = L') := by
  rw [List.length_set] at hL
  exact ot_storeE i hx hy hv h1 hS hi (fl_set he hidx (Nat.le_of_ble_eq_true hof) hcs) (fl_room he hidx (Nat.le_of_ble_eq_true hof)) hne hL
theorem ot_storeEx0 {T e sz idx : Nat} {x u : Operand} {sv v : Value} {us : List Value} (i : Nat) (hx : ev ρ x = some (eptr sv (idx * sz))) (hy : ev ρ u = some v) (hv : v.cells = us.toArray) (h1 : ∀ u ∈ us, u.oneCell' = true) (hS : sizeB P T = some us.length) (he : ∀ x, (enc x).length = sz) (hidx : idx < xs.length)
    (hi : L[i]? = some (own sv e sz xs.length (fl enc xs))) (hcs : (enc (xs.getD idx z)).take 0 ++ us ++ (enc (xs.getD idx z)).drop (0 + us.length) = enc y) (hof : Nat.ble (0 + us.length) sz = true) (hne : Nat.blt 0 us.length = true) (hL : L.set i (own sv e sz (xs.set idx y).length (fl enc (xs.set idx y))) = L') :
    OT P ⟨dd, .store T x u, ty, pos, after, gg⟩ ρ L (fun _ M => M = L') := ot_storeEx (off := 0) i hx hy hv h1 hS he hidx hi hcs hof hne hL
theorem own_takex {e sz hi : Nat} {sv : Value} (he : ∀ x, (enc x).length = sz) (h : hi ≤ xs.length) (o s : Hp) (ho : (own sv e sz xs.length (fl enc xs)).p o s) : (own (subs sv 0 hi sz) e sz (xs.take hi).length (fl enc (xs.take hi))).p o s := by
  have := own_take h o s ho
  rw [fl_take he] at this
  have e1 : (xs.take hi).length = hi := by simp; omega
  rw [e1]; exact this
end
theorem cells_int {k : IntKind} {n : Int} : (Value.int k n).cells = #[.int k n] := rfl
theorem cells_bool {b : Bool} : (Value.bool b).cells = #[.bool b] := rfl
theorem cells_str {l : List UInt8} : (str l).cells = #[str l] := rfl
theorem cells_func {f : Fn} {a b : Array Value} : (Value.func f a b).cells = #[.func f a b] := rfl
theorem cells_slice {a : Option Addr} {n c : Nat} : (Value.slice a n c).cells = #[.slice a n c] := rfl
theorem cells_ptr {b o : Nat} : (pt b o).cells = #[pt b o] := rfl
theorem cells_nilFunc : Value.nilFunc.cells = #[.nilFunc] := rfl
theorem cells_agg {cs : Array Value} : (Value.agg cs).cells = cs := rfl
theorem eI_one (k : IntKind) (x : Int) : (eI k x).all (·.oneCell') = true := rfl
theorem eB_one (x : Bool) : (eB x).all (·.oneCell') = true := rfl
theorem eS_one (x : List UInt8) : (eS x).all (·.oneCell') = true := rfl
theorem set_lt {α : Type} {xs : List α} {i k : Nat} {y : α} (h : k < xs.length) : k < (xs.set i y).length := by simpa using h
end
end Go.Proofs.YtgbjponaoeiglaaDoor.E
