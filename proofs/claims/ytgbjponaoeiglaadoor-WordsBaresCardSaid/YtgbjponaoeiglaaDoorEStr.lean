/- The engine's text of strings, of nil, and of arrays by an index that is not known ahead. -/
import Derived.Test.YtgbjponaoeiglaaDoorEAppend
set_option linter.unusedVariables false
set_option linter.unusedSimpArgs false
namespace Go.Proofs.YtgbjponaoeiglaaDoor.E
open Go Go.RowKit

section
variable {P : Program} {T : TypeId} {x y : Operand} {d : Nat}
theorem bytes_list (l : List UInt8) : (⟨l.toArray⟩ : ByteArray).toList = l := by rw [ByteArray.toList_eq]
theorem less_dec : ∀ (x y : List UInt8), Op.bytesLess x y = decide (x < y)
  | [], [] => by simp [Op.bytesLess]
  | _ :: _, [] => by simp [Op.bytesLess]
  | [], _ :: _ => by simp [Op.bytesLess]
  | a :: x, b :: y => by
    rw [Op.bytesLess, less_dec x y]
    simp only [List.cons_lt_cons_iff]
    by_cases h1 : a < b <;> by_cases h2 : a = b <;> by_cases h3 : x < y <;> simp [h1, h2, h3]
theorem b_eql_str (a b : List UInt8) (w : World) : (do eqGuard .eql T x y (str a) (str b); binOp .eql T (str a) (str b)).run P w = .ok (.bool (a == b)) w := by
  simp [eqGuard, binOp, str, Op.stringOp, bytes_list]
theorem b_neq_str (a b : List UInt8) (w : World) : (do eqGuard .neq T x y (str a) (str b); binOp .neq T (str a) (str b)).run P w = .ok (.bool (!(a == b))) w := by
  simp [eqGuard, binOp, str, Op.stringOp, bytes_list]
theorem b_lss_str (a b : List UInt8) (w : World) : (do eqGuard .lss T x y (str a) (str b); binOp .lss T (str a) (str b)).run P w = .ok (.bool (decide (a < b))) w := by
  simp [eqGuard, binOp, str, Op.stringOp, bytes_list, less_dec]
theorem geq_dec (a b : List UInt8) : (!decide (a < b)) = decide (b ≤ a) := by
  rw [Bool.eq_iff_iff]; simp [List.not_lt]
theorem b_geq_str (a b : List UInt8) (w : World) : (do eqGuard .geq T x y (str a) (str b); binOp .geq T (str a) (str b)).run P w = .ok (.bool (decide (b ≤ a))) w := by
  rw [← geq_dec]
  simp [eqGuard, binOp, str, Op.stringOp, bytes_list, less_dec]
theorem leq_dec (a b : List UInt8) : (decide (a < b) || a == b) = decide (a ≤ b) := by
  rw [Bool.eq_iff_iff]
  simp only [Bool.or_eq_true, decide_eq_true_eq, beq_iff_eq]
  constructor
  · rintro (h | rfl)
    · exact List.le_of_lt h
    · exact List.le_refl _
  · intro h
    exact List.le_iff_lt_or_eq.1 h
theorem b_leq_str (a b : List UInt8) (w : World) : (do eqGuard .leq T x y (str a) (str b); binOp .leq T (str a) (str b)).run P w = .ok (.bool (decide (a ≤ b))) w := by
  rw [← leq_dec]
  simp [eqGuard, binOp, str, Op.stringOp, bytes_list, less_dec]
theorem b_gtr_str (a b : List UInt8) (w : World) : (do eqGuard .gtr T x y (str a) (str b); binOp .gtr T (str a) (str b)).run P w = .ok (.bool (decide (b < a))) w := by
  have e : (!(decide (a < b) || a == b)) = decide (b < a) := by
    rw [leq_dec, Bool.eq_iff_iff]; simp [List.not_le]
  rw [← e]
  simp [eqGuard, binOp, str, Op.stringOp, bytes_list, less_dec]
theorem b_add_str (a b : List UInt8) (w : World) (h : (a.length : Int) + (b.length : Int) ≤ 9223372036854775807) : (do eqGuard .add T x y (str a) (str b); binOp .add T (str a) (str b)).run P w = .ok (str (a ++ b)) w := by
  have h2 : ¬ (IntKind.i64.max < (a.length : Int) + (b.length : Int)) := by simp [IntKind.max, IntKind.signed, IntKind.bits]; omega
  have e : (⟨a.toArray⟩ : ByteArray) ++ ⟨b.toArray⟩ = ⟨(a ++ b).toArray⟩ := by
    apply ByteArray.ext
    simp [ByteArray.data_append]
  simp [eqGuard, binOp, str, Op.stringOp, ByteArray.size, h2, e]
  try omega

/-! nil -/
theorem eq_pn {e : TypeId} (ht : P.underlying T = some (.pointer e)) (b o : Nat) : EqV P (d + 1) T (pt b o) (.pointer none) false := fun w => by
  rw [pt, Op.equalIn]; simp [run_underlying ht]
theorem eq_np {e : TypeId} (ht : P.underlying T = some (.pointer e)) (b o : Nat) : EqV P (d + 1) T (.pointer none) (pt b o) false := fun w => by
  rw [pt, Op.equalIn]; simp [run_underlying ht]
theorem eq_nn {e : TypeId} (ht : P.underlying T = some (.pointer e)) : EqV P (d + 1) T (.pointer none) (.pointer none) true := fun w => by
  rw [Op.equalIn]; simp [run_underlying ht]
theorem eq_snn {e : TypeId} (ht : P.underlying T = some (.slice e)) : EqV P (d + 1) T (.slice none 0 0) (.slice none 0 0) true := fun w => by
  rw [Op.equalIn]; simp [run_underlying ht]
theorem eq_fnn {ps rs : Array TypeId} {vd : Bool} (ht : P.underlying T = some (.func ps rs vd)) : EqV P (d + 1) T .nilFunc .nilFunc true := fun w => by
  rw [Op.equalIn]; simp [run_underlying ht]
theorem eq_fn {ps rs : Array TypeId} {vd : Bool} (ht : P.underlying T = some (.func ps rs vd)) {f : Fn} {a b : Array Value} : EqV P (d + 1) T (.func f a b) .nilFunc false := fun w => by
  rw [Op.equalIn]; simp [run_underlying ht]
theorem b_eql_v {va vb : Value} {r : Bool} (hg : ∀ w, (eqGuard .eql T x y va vb).run P w = .ok () w) (hb : binOp .eql T va vb = (do pure (.bool (← Op.equal T va vb)))) (h : EqV P (9999 + 1) T va vb r) (w : World) : (do eqGuard .eql T x y va vb; binOp .eql T va vb).run P w = .ok (.bool r) w := b_eql_of hg hb h w
end

/-! Arrays -/
theorem cases4 (p : Nat → Prop) {i : Nat} (h : i < 4) (h0 : p 0) (h1 : p 1) (h2 : p 2) (h3 : p 3) : p i := by
  match i, h with
  | 0, _ => exact h0
  | 1, _ => exact h1
  | 2, _ => exact h2
  | 3, _ => exact h3
section
variable {P : Program} {n : Nat} {w0 : World} {F L L' : List HP} {ρ ρ' : Env} {Q : Exit → Act → World → Prop} {X : Act → World → Prop} {ty : Nat} {dd : Option Nat} {gg : Option (Nat × Bool)} {pos : String} {after : Array Edge}
theorem ov_lenS {t : TypeId} {x : Operand} {s : List UInt8} (hx : ev ρ x = some (str s)) (ht : P.underlying t = some .string) :
    OV P ⟨dd, .call { callee := .builtin .len, args := #[x], argTypes := #[t] }, ty, pos, after, gg⟩ ρ L (.int .i64 (s.length : Int)) :=
  fun F a w ha hs => by
    have e : (⟨s.toArray⟩ : ByteArray).size = s.length := by simp [ByteArray.size]
    simp [execOp, resolve, invoke, builtin, ev_eval ha hx, Builtin.len_, run_underlying ht, goInt, str, e]
/-- A box's part as a slice. -/
def asl (b o n : Nat) : Value := .slice (some ⟨b, o, none⟩) n n
theorem isRd_box {b B o n sz : Nat} {cs ds : List Value} (hn : ds.length = n * sz) (hm : n ≤ 1000000) (hd : (cs.drop o).take ds.length = ds) : IsRd (box b B cs) (asl b o n) n sz ds := fun O S h =>
  ⟨hn, by unfold maxLen; omega, _, _, rfl, Nat.le_refl _, fun _ => ⟨⟨b, o, none⟩, rfl, rfl, _, _, _, .inl h, fun j v hj => by
    have hlt := (List.getElem?_eq_some_iff.1 hj).1
    rw [← hd, List.getElem?_take, if_pos hlt, List.getElem?_drop] at hj
    simpa using hj⟩⟩
section
variable {t e m b o sz : Nat} {x y y2 : Operand} {j k : Int} {kd kd2 : IntKind}
theorem ov_asl_all (hx : ev ρ x = some (pt b o)) (ht : arrayB P t = some (m, e)) (hS : sizeB P e = some sz) : OV P ⟨dd, .slice t x none none none, ty, pos, after, gg⟩ ρ L (subs (asl b o m) 0 m sz) := fun F a w ha hs => by
  simp [execOp, ev_eval ha hx, pt, Instr.sliceAt, Instr.sureAddr, run_underlying (underlying_array ht), Instr.sliceBounds, sizeB_run w hS, subs, asl]
  split <;> rfl
theorem ov_asl_hi (hx : ev ρ x = some (pt b o)) (hy : ev ρ y = some (.int kd j)) (ht : arrayB P t = some (m, e)) (hS : sizeB P e = some sz) (h0 : 0 ≤ j) (h1 : j ≤ m) : OV P ⟨dd, .slice t x none (some y) none, ty, pos, after, gg⟩ ρ L (subs (asl b o m) 0 j.toNat sz) := fun F a w ha hs => by
  simp [execOp, ev_eval ha hx, ev_eval ha hy, pt, Instr.sliceAt, Instr.sureAddr, run_underlying (underlying_array ht), Instr.sliceBounds, Instr.sliceBound, asIntOf, h0, h1, sizeB_run w hS, subs, asl]
  split <;> rfl
theorem ov_asl_lo (hx : ev ρ x = some (pt b o)) (hy : ev ρ y = some (.int kd j)) (ht : arrayB P t = some (m, e)) (hS : sizeB P e = some sz) (h0 : 0 ≤ j) (h1 : j ≤ m) : OV P ⟨dd, .slice t x (some y) none none, ty, pos, after, gg⟩ ρ L (subs (asl b o m) j.toNat m sz) := fun F a w ha hs => by
  obtain ⟨q, rfl⟩ := Int.eq_ofNat_of_zero_le h0
  have hq : q ≤ m := by omega
  have hm : max (q : Int) 0 = q := by omega
  simp [execOp, ev_eval ha hx, ev_eval ha hy, pt, Instr.sliceAt, Instr.sureAddr, run_underlying (underlying_array ht), Instr.sliceBounds, Instr.sliceBound, asIntOf, hq, sizeB_run w hS, subs, asl]
  split <;> rfl
end
theorem ov_indexAgg {t e : Nat} {x y : Operand} {cs : Array Value} {j : Int} {kd : IntKind} {v : Value} (hx : ev ρ x = some (.agg cs)) (hy : ev ρ y = some (.int kd j)) (ht : arrayB P t = some (4, e)) (hS : sizeB P e = some 1) (hA : aggB P e = some false) (h0 : 0 ≤ j) (h1 : j < (4 : Nat)) (hv : cs[j.toNat]? = some v) :
    OV P ⟨dd, .index t x y, ty, pos, after, gg⟩ ρ L v :=
  fun F a w ha hs => by
    have h1' : j < 4 := h1
    have hp : (part e cs j.toNat).run P w = .ok v w := part_cell hA hv w
    simp [execOp, ev_eval ha hx, ev_eval ha hy, Instr.index, asIntOf, run_underlying (underlying_array ht), h0, h1', sizeB_run w hS, hp]
section
variable {t e sz : Nat} {x y y2 : Operand} {j k : Int} {kd kd2 : IntKind}
theorem ov_slice_nil0 (hx : ev ρ x = some (.slice none 0 0)) (ht : sliceB P t = some e) (hS : sizeB P e = some sz) : OV P ⟨dd, .slice t x none none none, ty, pos, after, gg⟩ ρ L (.slice none 0 0) := fun F a w ha hs => by
  simp [execOp, ev_eval ha hx, Instr.sliceAt, Instr.slice, run_underlying (underlying_slice ht), Instr.sliceBounds, sizeB_run w hS]
theorem ov_slice_nil_hi (hx : ev ρ x = some (.slice none 0 0)) (hy : ev ρ y = some (.int kd j)) (ht : sliceB P t = some e) (hS : sizeB P e = some sz) (h : j = 0) : OV P ⟨dd, .slice t x none (some y) none, ty, pos, after, gg⟩ ρ L (.slice none 0 0) := fun F a w ha hs => by
  subst h
  simp [execOp, ev_eval ha hx, ev_eval ha hy, Instr.sliceAt, Instr.slice, run_underlying (underlying_slice ht), Instr.sliceBounds, Instr.sliceBound, asIntOf, sizeB_run w hS]
theorem ov_slice_nil_lo (hx : ev ρ x = some (.slice none 0 0)) (hy : ev ρ y = some (.int kd j)) (ht : sliceB P t = some e) (hS : sizeB P e = some sz) (h : j = 0) : OV P ⟨dd, .slice t x (some y) none none, ty, pos, after, gg⟩ ρ L (.slice none 0 0) := fun F a w ha hs => by
  subst h
  simp [execOp, ev_eval ha hx, ev_eval ha hy, Instr.sliceAt, Instr.slice, run_underlying (underlying_slice ht), Instr.sliceBounds, Instr.sliceBound, asIntOf, sizeB_run w hS]
theorem ov_slice_nil_lohi (hx : ev ρ x = some (.slice none 0 0)) (hy : ev ρ y = some (.int kd j)) (hy2 : ev ρ y2 = some (.int kd2 k)) (ht : sliceB P t = some e) (hS : sizeB P e = some sz) (h : j = 0) (h2 : k = 0) : OV P ⟨dd, .slice t x (some y) (some y2) none, ty, pos, after, gg⟩ ρ L (.slice none 0 0) := fun F a w ha hs => by
  subst h; subst h2
  simp [execOp, ev_eval ha hx, ev_eval ha hy, ev_eval ha hy2, Instr.sliceAt, Instr.slice, run_underlying (underlying_slice ht), Instr.sliceBounds, Instr.sliceBound, asIntOf, sizeB_run w hS]
end
theorem ov_len0 {t e : Nat} {x : Operand} (hx : ev ρ x = some (.slice none 0 0)) (ht : sliceB P t = some e) :
    OV P ⟨dd, .call { callee := .builtin .len, args := #[x], argTypes := #[t] }, ty, pos, after, gg⟩ ρ L (.int .i64 0) :=
  fun F a w ha hs => by
    simp [execOp, resolve, invoke, builtin, ev_eval ha hx, Builtin.len_, run_underlying (underlying_slice ht), goInt]
theorem ov_lenA {t e m : Nat} {x : Operand} {v : Value} (hx : ev ρ x = some v) (ht : arrayB P t = some (m, e)) :
    OV P ⟨dd, .call { callee := .builtin .len, args := #[x], argTypes := #[t] }, ty, pos, after, gg⟩ ρ L (.int .i64 (m : Int)) :=
  fun F a w ha hs => by
    simp [execOp, resolve, invoke, builtin, ev_eval ha hx, Builtin.len_, run_underlying (underlying_array ht), goInt]
theorem ov_indexS {t : TypeId} {x y : Operand} {s : List UInt8} {j : Int} {kd : IntKind} (hx : ev ρ x = some (str s)) (hy : ev ρ y = some (.int kd j)) (ht : P.underlying t = some .string) (h0 : 0 ≤ j) (h1 : j < (s.length : Int)) :
    OV P ⟨dd, .index t x y, ty, pos, after, gg⟩ ρ L (.int .u8 ((s.getD j.toNat 0).toNat : Int)) :=
  fun F a w ha hs => by
    have hlt : j.toNat < s.length := by omega
    have e : (⟨s.toArray⟩ : ByteArray)[j.toNat]? = some (s.getD j.toNat 0) := by
      have : j.toNat < (⟨s.toArray⟩ : ByteArray).size := by simpa [ByteArray.size] using hlt
      rw [getElem?_pos (⟨s.toArray⟩ : ByteArray) j.toNat this]
      simp [List.getD_eq_getElem?_getD, List.getElem?_eq_getElem hlt]
      rfl
    simp [execOp, ev_eval ha hx, ev_eval ha hy, Instr.index, asIntOf, run_underlying ht, str, h0, e]
/-- Part of a box, by an index. -/
theorem reads_boxI {i b B o sz idx : Nat} {cs vs : List Value} (hi : L[i]? = some (box b B cs)) (hv : (cs.drop (o + idx * sz)).take vs.length = vs) : Reads L (pt b (o + idx * sz)) vs := reads_boxN hi hv
theorem fl_readA {α : Type} {enc : α → List Value} {sz off esz i a : Nat} {z : α} {xs : List α} {vs : List Value} (h : ∀ x, (enc x).length = sz) (hi : i < xs.length) (hv : ((enc (xs.getD i z)).drop (off + a * esz)).take vs.length = vs) : ((fl enc xs).drop (i * sz + off + a * esz)).take vs.length = vs := by
  rw [Nat.add_assoc]; exact fl_read h hi hv
theorem fl_sub {α : Type} {enc : α → List Value} {sz off a : Nat} {z : α} {ys : List α} {cs : List Value} (he : ∀ x, (enc x).length = sz) (h : (cs.drop off).take (ys.length * sz) = fl enc ys) (ha : a < ys.length) : (cs.drop (off + a * sz)).take (enc (ys.getD a z)).length = enc (ys.getD a z) := by
  have h1 := fl_read0 (enc := enc) (sz := sz) (i := a) (z := z) (xs := ys) (vs := enc (ys.getD a z)) he ha (by simp)
  rw [← h, List.drop_take, List.drop_drop, List.take_take] at h1
  have e1 : (enc (ys.getD a z)).length ≤ ys.length * sz - a * sz := by
    rw [he, ← Nat.sub_mul]
    have : 1 ≤ ys.length - a := by omega
    have := Nat.mul_le_mul_right sz this
    omega
  rwa [Nat.min_eq_left e1] at h1
theorem reads_boxA {α : Type} {enc : α → List Value} {i b B o sz idx : Nat} {z : α} {xs : List α} {cs : List Value} (hi : L[i]? = some (box b B cs)) (he : ∀ x, (enc x).length = sz) (h : (cs.drop o).take (xs.length * sz) = fl enc xs) (hidx : idx < xs.length) : Reads L (pt b (o + idx * sz)) (enc (xs.getD idx z)) :=
  reads_boxN hi (fl_sub he h hidx)
theorem eq_arr4 {e t sz : Nat} {d : Nat} {xs ys : Array Value} {a0 a1 a2 a3 b0 b1 b2 b3 : Value} {r0 r1 r2 r3 : Bool} (ht : arrayB P t = some (4, e)) (hS : sizeB P e = some sz)
    (x0 : ∀ w, (part e xs (0 * sz)).run P w = .ok a0 w) (x1 : ∀ w, (part e xs (1 * sz)).run P w = .ok a1 w) (x2 : ∀ w, (part e xs (2 * sz)).run P w = .ok a2 w) (x3 : ∀ w, (part e xs (3 * sz)).run P w = .ok a3 w)
    (y0 : ∀ w, (part e ys (0 * sz)).run P w = .ok b0 w) (y1 : ∀ w, (part e ys (1 * sz)).run P w = .ok b1 w) (y2 : ∀ w, (part e ys (2 * sz)).run P w = .ok b2 w) (y3 : ∀ w, (part e ys (3 * sz)).run P w = .ok b3 w)
    (e0 : EqV P d e a0 b0 r0) (e1 : EqV P d e a1 b1 r1) (e2 : EqV P d e a2 b2 r2) (e3 : EqV P d e a3 b3 r3) : EqV P (d + 1) t (.agg xs) (.agg ys) (r0 && (r1 && (r2 && (r3 && true)))) := fun w => by
  rw [Op.equalIn]
  simp only [Nat.one_mul, Nat.zero_mul] at x0 x1 y0 y1
  simp only [Sem.run_bind, run_underlying (underlying_array ht), Result.andThen_ok, sizeB_run w hS, Std.Legacy.Range.forIn_eq_forIn_range', Std.Legacy.Range.size]
  simp only [show (4 - 0 + 1 - 1) / 1 = 4 by decide, List.range'_succ, List.range'_zero, List.forIn_cons, List.forIn_nil, Sem.run_bind, x0 w, x1 w, x2 w, x3 w, y0 w, y1 w, y2 w, y3 w, e0 w, e1 w, e2 w, e3 w, Result.andThen_ok]
  cases r0 <;> cases r1 <;> cases r2 <;> cases r3 <;> simp [x0 w, y0 w, e0 w, x1 w, x2 w, x3 w, y1 w, y2 w, y3 w, e1 w, e2 w, e3 w]
end
end Go.Proofs.YtgbjponaoeiglaaDoor.E
