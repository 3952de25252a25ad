/- The engine's text on Go's library: the shelf's contracts for strings, told by atoms. -/
import Derived.Test.YtgbjponaoeiglaaDoorEBuild
import Derived.Lib.Join
import Derived.Lib.ConvBytes
import Derived.Laws.Slices
import Derived.Laws.Strings2
import Derived.Lib.Strings
import Derived.Lib.Bytealg
set_option linter.unusedVariables false
set_option linter.unusedSimpArgs false
namespace Go.Proofs.YtgbjponaoeiglaaDoor.E
open Go Go.RowKit

theorem ba_eq (s : ByteArray) : (⟨s.data.toList.toArray⟩ : ByteArray) = s := by simp
def ba (l : List UInt8) : ByteArray := ⟨l.toArray⟩
theorem ba_list (l : List UInt8) : (ba l).data.toList = l := by simp [ba]
theorem str_ba (l : List UInt8) : str l = .string (ba l) := rfl
theorem ba_size (l : List UInt8) : (ba l).size = l.length := by simp [ba, ByteArray.size]
theorem ba_extract (l : List UInt8) (a b : Nat) : (ba l).extract a b = ba ((l.drop a).take (b - a)) := by
  apply ByteArray.ext
  simp [ba, ByteArray.data_extract]
section
variable {P : Program} {n : Nat} {L : List HP} {ρ : Env} {ty : Nat} {dd : Option Nat} {gg : Option (Nat × Bool)} {pos : String} {after : Array Edge} {t : TypeId} {x y y2 : Operand} {s : List UInt8} {kd kd2 : IntKind} {j k : Int}
theorem ov_sls_hi (hx : ev ρ x = some (str s)) (hy : ev ρ y = some (.int kd j)) (ht : P.underlying t = some .string) (h0 : 0 ≤ j) (h1 : j ≤ s.length) :
    OV P ⟨dd, .slice t x none (some y) none, ty, pos, after, gg⟩ ρ L (str (s.take j.toNat)) := fun F a w ha hs => by
  have hr := run_slice_string_h (P := P) w t (ba s) ht kd j h0 (by rw [ba_size]; exact h1)
  rw [ba_extract, List.drop_zero, Nat.sub_zero] at hr
  simp only [execOp, ev_eval ha hx, ev_eval ha hy, str_ba, Option.map_some, Option.map_none, Sem.run_bind, run_sliceAt_string w t _ _ _ _ ht, hr, Result.andThen_ok, Sem.run_pure]
theorem ov_sls_lo (hx : ev ρ x = some (str s)) (hy : ev ρ y = some (.int kd j)) (ht : P.underlying t = some .string) (h0 : 0 ≤ j) (h1 : j ≤ s.length) :
    OV P ⟨dd, .slice t x (some y) none none, ty, pos, after, gg⟩ ρ L (str (s.drop j.toNat)) := fun F a w ha hs => by
  have hr := run_slice_string_l (P := P) w t (ba s) ht kd j h0 (by rw [ba_size]; exact h1)
  rw [ba_extract, ba_size, List.take_of_length_le (by simp)] at hr
  simp only [execOp, ev_eval ha hx, ev_eval ha hy, str_ba, Option.map_some, Option.map_none, Sem.run_bind, run_sliceAt_string w t _ _ _ _ ht, hr, Result.andThen_ok, Sem.run_pure]
theorem ov_sls_lohi (hx : ev ρ x = some (str s)) (hy : ev ρ y = some (.int kd j)) (hy2 : ev ρ y2 = some (.int kd2 k)) (ht : P.underlying t = some .string) (h0 : 0 ≤ j) (h1 : j ≤ k) (h2 : k ≤ s.length) :
    OV P ⟨dd, .slice t x (some y) (some y2) none, ty, pos, after, gg⟩ ρ L (str ((s.drop j.toNat).take (k.toNat - j.toNat))) := fun F a w ha hs => by
  have hr := run_slice_string (P := P) w t (ba s) kd kd2 j k ht h0 h1 (by rw [ba_size]; exact h2)
  rw [ba_extract] at hr
  simp only [execOp, ev_eval ha hx, ev_eval ha hy, ev_eval ha hy2, str_ba, Option.map_some, Option.map_none, Sem.run_bind, run_sliceAt_string w t _ _ _ _ ht, hr, Result.andThen_ok, Sem.run_pure]
end
theorem idxB_eq : ∀ (l : List UInt8) (c : UInt8), Lib.indexByte l c = idxB l c
  | [], _ => rfl
  | b :: l, c => by
    unfold Lib.indexByte idxB
    rw [idxB_eq l c]
    by_cases h : b = c <;> by_cases h2 : idxB l c = -1 <;> simp [h, h2]
theorem spec_frame {P : Program} {f : FuncId} {args : List Value} {L : List HP} {Post : Value → List HP → Prop} (R : List HP) (h : FnSpec P f args L Post) : FnSpec P f args (L ++ R) (fun v M => ∃ M0, Post v M0 ∧ M = M0 ++ R) := by
  intro F w hs
  rw [List.append_assoc] at hs
  refine (h (R ++ F) w hs).mono ?_
  rintro e w' ⟨v, M, he, hp, hs', hk⟩
  exact ⟨v, _, he, ⟨M, hp, rfl⟩, by rw [List.append_assoc]; exact hs', hk⟩
/-- A row of bytes that a string was turned into: ours, and only read. -/
def frz (sv : Value) (e n : Nat) (cs : List Value) : HP := ⟨fun o _ => cs.length = n ∧ n ≤ maxLen ∧ ∃ g cap cur fz, sv = .slice (some ⟨g, 0, none⟩) n cap ∧ o g (.cells cur e fz) ∧ n ≤ cap ∧ cur.toList.take n = cs,
  fun ⟨h1, h2, g, cap, cur, fz, h3, h4, h5⟩ ho _ => ⟨h1, h2, g, cap, cur, fz, h3, ho _ _ h4, h5⟩, []⟩
theorem isRd_frz {sv : Value} {e n : Nat} {cs : List Value} : IsRd (frz sv e n cs) sv n 1 cs := by
  rintro o s ⟨h1, h2, g, cap, cur, fz, h3, h4, h5, h6⟩
  refine ⟨by omega, h2, some ⟨g, 0, none⟩, cap, h3, h5, fun _ => ⟨⟨g, 0, none⟩, rfl, rfl, cur, e, fz, .inl h4, fun j v hj => ?_⟩⟩
  rw [← h6, List.getElem?_take] at hj
  split at hj
  · simpa using hj
  · cases hj
theorem isRd_frzx {sv : Value} {xs : List Int} (e : Nat) : IsRd (frz sv e xs.length (fl (eI .u8) xs)) sv xs.length 1 (fl (eI .u8) xs) := isRd_frz
theorem ot_s2b {P : Program} {L : List HP} {ρ : Env} {ty : Nat} {dd : Option Nat} {gg : Option (Nat × Bool)} {pos : String} {after : Array Edge} {src dst e : TypeId} {x : Operand} {s : List UInt8} (hx : ev ρ x = some (str s)) (hs : P.underlying src = some .string) (hd : sliceB P dst = some e) (he : P.underlying e = some (.int .u8)) (hlen : s.length ≤ 9223372036854775807) :
    OT P ⟨dd, .convert src dst x, ty, pos, after, gg⟩ ρ L (fun v M => M = frz v e (byts s).length (fl (eI .u8) (byts s)) :: L) := by
  intro F a w K Q ha hsat hk
  have hrun := Lib.run_convert_string_bytes (P := P) w src dst e (ba s) hs (underlying_slice hd) he
  unfold Oper.wp
  simp only [execOp, ev_eval ha hx, str_ba, Sem.run_bind, hrun, Result.andThen_ok, Sem.run_pure, Oper.upon]
  have hbl : (byts s).length = s.length := by simp [byts]
  have hsz : (ba s).size = s.length := ba_size s
  refine hk _ _ _ rfl ?_ ⟨rfl, rfl, rfl, by rw [Lib.bytesWorld_size]; omega, by first | exact Nat.le_refl _ | exact Nat.le_succ _ | (unfold Lib.bytesWorld; simp)⟩
  refine hsat.new _ (by rw [Lib.bytesWorld_size]; omega) (fun b hb => Lib.bytesWorld_at_old w e (ba s) b hb) ⟨?_, ?_, w.heap.size, grownCap w (ba s).size 0 e, _, _, ?_, ⟨⟨Nat.le_refl _, by rw [Lib.bytesWorld_size]; omega⟩, Lib.bytesWorld_at_new w e (ba s)⟩, ?_, ?_⟩
  · rw [fl_eI]; simp
  · have : maxLen = 9223372036854775807 := rfl
    omega
  · rw [hsz, hbl]
  · rw [hbl, ← hsz]; exact grownCap_ge w (ba s).size 0 e
  · have h1 : (fl (eI .u8) (byts s)) = (ba s).data.toList.map fun b => Value.int .u8 b.toNat := by
      rw [fl_eI, ba_list]; simp [byts]
    rw [h1, Lib.bytesCells, Array.toList_append, Array.toList_map, hbl]
    exact List.take_left' (by simp [ba])
/-- A call that leaves the world as it was. -/
theorem spec_pure {P : Program} {f : FuncId} {args : List Value} {v : Value} (h : ∀ w, Calls P f args.toArray w fun e w' => e = .returned v ∧ w' = w) (L : List HP) : FnSpec P f args L (fun u M => u = v ∧ M = L) := by
  intro F w hs
  refine (h w).mono ?_
  rintro e w' ⟨rfl, rfl⟩
  exact ⟨_, _, rfl, ⟨rfl, rfl⟩, hs, Keeps.refl _⟩
theorem spec_index1 {P : Program} {f : FuncId} (h : ∀ (s : ByteArray) (c : UInt8) (w : World), Calls P f #[.string s, .string ⟨#[c]⟩] w fun e w' => e = .returned (.int .i64 (Lib.indexByte s.data.toList c)) ∧ w' = w) (s : List UInt8) (c : UInt8) :
    FnSpec P f [str s, str [c]] [] (fun v M => v = .int .i64 (Lib.indexByte s c) ∧ M = []) :=
  spec_pure (fun w => by have := h (ba s) c w; rw [ba_list] at this; exact this) []
theorem spec_cutPrefix {P : Program} {f : FuncId} (h : ∀ (s p : ByteArray) (w : World), Calls P f #[.string s, .string p] w fun e w' => e = .returned (.tuple #[.string ⟨(Lib.trimPrefix s.data.toList p.data.toList).toArray⟩, .bool (Lib.hasPrefix s.data.toList p.data.toList)]) ∧ w' = w) (s p : List UInt8) :
    FnSpec P f [str s, str p] [] (fun v M => v = .tuple #[str (Lib.trimPrefix s p), .bool (Lib.hasPrefix s p)] ∧ M = []) :=
  spec_pure (fun w => by have := h (ba s) (ba p) w; rw [ba_list, ba_list] at this; exact this) []
theorem spec_copyFresh {P : Program} {f : FuncId} {T : TypeId} (h : ∀ (b : Nat) (w : World), w.cell? ⟨b, 0, none⟩ = some (.pointer none) → w.shape? b = some (T, 2) → w.frozen? ⟨b, 0, none⟩ = false →
      Calls P f #[.pointer (some ⟨b, 0, none⟩)] w fun e w' => e = .returned (.tuple #[]) ∧ w' = w.setCell ⟨b, 0, none⟩ (.pointer (some ⟨b, 0, none⟩))) (b : Nat) (sv : Value) :
    FnSpec P f [pt b 0] [box b T [.pointer none, sv]] (fun v M => v = .tuple #[] ∧ M = [box b T [pt b 0, sv]]) := by
  intro F w hs
  have hi : ([box b T [.pointer none, sv]] ++ F)[0]? = some (box b T [.pointer none, sv]) := rfl
  have hb := hs.box_heap 0 hi
  refine (h b w (by rw [hs.box_cell 0 hi]; rfl) (by simp [World.shape?, hb]) (hs.box_frozen 0 hi 0)).mono ?_
  rintro e w' ⟨rfl, rfl⟩
  exact ⟨_, _, rfl, ⟨rfl, rfl⟩, hs.box_set 0 hi 0 (pt b 0), Keeps.setCell w _ _⟩
theorem spec_copyUsed {P : Program} {f : FuncId} {T : TypeId} (h : ∀ (b : Nat) (w : World), w.cell? ⟨b, 0, none⟩ = some (.pointer (some ⟨b, 0, none⟩)) → Calls P f #[.pointer (some ⟨b, 0, none⟩)] w fun e w' => e = .returned (.tuple #[]) ∧ w' = w) (b : Nat) (sv : Value) :
    FnSpec P f [pt b 0] [box b T [pt b 0, sv]] (fun v M => v = .tuple #[] ∧ M = [box b T [pt b 0, sv]]) := by
  intro F w hs
  have hi : ([box b T [pt b 0, sv]] ++ F)[0]? = some (box b T [pt b 0, sv]) := rfl
  refine (h b w (by rw [hs.box_cell 0 hi]; rfl)).mono ?_
  rintro e w' ⟨rfl, rfl⟩
  exact ⟨_, _, rfl, ⟨rfl, rfl⟩, hs, Keeps.refl _⟩
theorem fl_strs : ∀ (xs : List (List UInt8)) (j : Nat), (fl eS xs)[j]? = (xs[j]?).map str
  | [], j => by simp [fl]
  | x :: xs, 0 => by simp [fl, eS]
  | x :: xs, j + 1 => by
    have := fl_strs xs j
    simpa [fl, eS] using this
/-- A row of strings, as it lies. -/
theorem rd_strs {w : World} {A : HP} {sv : Value} {xs : List (List UInt8)} {F : List HP} (hA : IsRd A sv xs.length 1 (fl eS xs)) (h : Sat w ([A] ++ F)) :
    ∃ B c, sv = .slice B xs.length c ∧ xs.length ≤ c ∧ (0 < xs.length → ∃ bk o, B = some ⟨bk, o, none⟩ ∧ bk < w.heap.size ∧ ∀ j x, xs[j]? = some x → w.cell? ⟨bk, o + j, none⟩ = some (str x)) := by
  refine h.says (φ := ∃ B c, sv = .slice B xs.length c ∧ xs.length ≤ c ∧ (0 < xs.length → ∃ bk o, B = some ⟨bk, o, none⟩ ∧ bk < w.heap.size ∧ ∀ j x, xs[j]? = some x → w.cell? ⟨bk, o + j, none⟩ = some (str x))) 0 A rfl fun U S hp => ?_
  obtain ⟨h1, h2, B, c, h3, h4, h5⟩ := hA _ _ hp
  refine ⟨B, c, h3, h4, fun hpos => ?_⟩
  obtain ⟨⟨bk, o, sp⟩, ha, hsp, C, T, fr, hb, hc⟩ := h5 (by rw [h1]; omega)
  simp only at hsp
  subst hsp
  have hw : w.heap[bk]? = some (.cells C T fr) := by rcases hb with hb | hb <;> exact hb.2
  refine ⟨bk, o, ha, (Array.getElem?_eq_some_iff.1 hw).1, fun j x hj => ?_⟩
  have := hc j (str x) (by rw [fl_strs, hj]; rfl)
  simpa [World.cell?, hw] using this
end Go.Proofs.YtgbjponaoeiglaaDoor.E
