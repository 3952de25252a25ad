/- The seat's program bears slices.SortFunc and slices.Compact: which of its functions and types are which. Printed by sortflay.py. -/
import Derived.Test.YtndeodpckfjakaaProg
import Derived.Test.YtndeodpckfjakaaESortF
import Derived.KernelRfl
set_option linter.unusedVariables false
namespace Go.Proofs.Ytndeodpckfjakaa.E
open Go Go.Proofs Go.RowKit Go.Sort
theorem enc_one {l : List Value} (h : l.all (·.oneCell') = true) : ∀ v ∈ l, v.oneCell' = true := fun v hv => List.all_eq_true.1 h v hv
def sortfRen : Go.Shelf.Ren where
  f := fun x => match x with | 6 => 104 | 15 => 133 | 14 => 132 | 28 => 156 | 29 => 33 | 20 => 148 | 21 => 149 | 22 => 150 | 23 => 151 | 24 => 152 | 25 => 153 | 26 => 154 | 27 => 155 | 46 => 170 | 47 => 171 | 48 => 172 | 49 => 173 | 50 => 174 | 57 => 181 | n => n
  t := fun x => match x with | 22 => 152 | 24 => 42 | 25 => 76 | 3 => 3 | 39 => 82 | 0 => 0 | 53 => 242 | 55 => 78 | 4 => 4 | 46 => 236 | 45 => 235 | 50 => 88 | 5 => 5 | 9 => 9 | 66 => 251 | 70 => 255 | 76 => 262 | 77 => 263 | n => n
  g := fun x => x
theorem sortfLay : SlLaysF0.n6 Try.prog sortfRen :=
  { mixed := Eq.refl true,
    f6 := ⟨ "slices.SortFunc[[]ossuary/api.Key,ossuary/api.Key]", of_decide_eq_true (id (Eq.refl true)), Eq.trans Try.func104 (congrArg some rfl)⟩,
    f14 := ⟨ "slices.pdqsortCmpFunc[ossuary/api.Key]", of_decide_eq_true (id (Eq.refl true)), Eq.trans Try.func132 (congrArg some rfl)⟩,
    f15 := Eq.trans Try.func133 (congrArg some rfl),
    f20 := ⟨ "slices.insertionSortCmpFunc[ossuary/api.Key]", of_decide_eq_true (id (Eq.refl true)), Eq.trans Try.func148 (congrArg some rfl)⟩,
    f21 := ⟨ "slices.heapSortCmpFunc[ossuary/api.Key]", of_decide_eq_true (id (Eq.refl true)), Eq.trans Try.func149 (congrArg some rfl)⟩,
    f22 := ⟨ "slices.breakPatternsCmpFunc[ossuary/api.Key]", of_decide_eq_true (id (Eq.refl true)), Eq.trans Try.func150 (congrArg some rfl)⟩,
    f23 := ⟨ "slices.choosePivotCmpFunc[ossuary/api.Key]", of_decide_eq_true (id (Eq.refl true)), Eq.trans Try.func151 (congrArg some rfl)⟩,
    f24 := ⟨ "slices.reverseRangeCmpFunc[ossuary/api.Key]", of_decide_eq_true (id (Eq.refl true)), Eq.trans Try.func152 (congrArg some rfl)⟩,
    f25 := ⟨ "slices.partialInsertionSortCmpFunc[ossuary/api.Key]", of_decide_eq_true (id (Eq.refl true)), Eq.trans Try.func153 (congrArg some rfl)⟩,
    f26 := ⟨ "slices.partitionEqualCmpFunc[ossuary/api.Key]", of_decide_eq_true (id (Eq.refl true)), Eq.trans Try.func154 (congrArg some rfl)⟩,
    f27 := ⟨ "slices.partitionCmpFunc[ossuary/api.Key]", of_decide_eq_true (id (Eq.refl true)), Eq.trans Try.func155 (congrArg some rfl)⟩,
    f28 := Eq.trans Try.func156 (congrArg some rfl),
    f29 := Eq.trans Try.func33 (congrArg some rfl),
    f46 := ⟨ "slices.siftDownCmpFunc[ossuary/api.Key]", of_decide_eq_true (id (Eq.refl true)), Eq.trans Try.func170 (congrArg some rfl)⟩,
    f47 := Eq.trans Try.func171 (congrArg some rfl),
    f48 := Eq.trans Try.func172 (congrArg some rfl),
    f49 := ⟨ "slices.medianAdjacentCmpFunc[ossuary/api.Key]", of_decide_eq_true (id (Eq.refl true)), Eq.trans Try.func173 (congrArg some rfl)⟩,
    f50 := ⟨ "slices.medianCmpFunc[ossuary/api.Key]", of_decide_eq_true (id (Eq.refl true)), Eq.trans Try.func174 (congrArg some rfl)⟩,
    f57 := ⟨ "slices.order2CmpFunc[ossuary/api.Key]", of_decide_eq_true (id (Eq.refl true)), Eq.trans Try.func181 (congrArg some rfl)⟩,
    t0 := Try.underlying0,
    a0 := Try.isAgg0,
    z0 := Try.sizeOf0,
    v0 := Try.zeroValue0,
    t3 := Try.underlying3,
    a3 := Try.isAgg3,
    z3 := Try.sizeOf3,
    v3 := Try.zeroValue3,
    t4 := Try.underlying4,
    a4 := Try.isAgg4,
    z4 := Try.sizeOf4,
    v4 := Try.zeroValue4,
    t5 := Try.underlying5,
    a5 := Try.isAgg5,
    z5 := Try.sizeOf5,
    v5 := Try.zeroValue5,
    t9 := Try.underlying9,
    a9 := Try.isAgg9,
    z9 := Try.sizeOf9,
    v9 := Try.zeroValue9,
    t22 := Try.underlying152,
    a22 := Try.isAgg152,
    z22 := Try.sizeOf152,
    v22 := Try.zeroValue152,
    t25 := Try.underlying76,
    a25 := Try.isAgg76,
    z25 := Try.sizeOf76,
    v25 := Try.zeroValue76,
    t39 := Try.underlying82,
    a39 := Try.isAgg82,
    z39 := Try.sizeOf82,
    v39 := Try.zeroValue82,
    t45 := Try.underlying235,
    a45 := Try.isAgg235,
    z45 := Try.sizeOf235,
    v45 := Try.zeroValue235,
    t46 := Try.underlying236,
    a46 := Try.isAgg236,
    z46 := Try.sizeOf236,
    v46 := Try.zeroValue236,
    t50 := Try.underlying88,
    a50 := Try.isAgg88,
    z50 := Try.sizeOf88,
    v50 := Try.zeroValue88,
    t53 := Try.underlying242,
    a53 := Try.isAgg242,
    z53 := Try.sizeOf242,
    v53 := Try.zeroValue242,
    t55 := Try.underlying78,
    a55 := Try.isAgg78,
    z55 := Try.sizeOf78,
    v55 := Try.zeroValue78,
    t66 := Try.underlying251,
    a66 := Try.isAgg251,
    z66 := Try.sizeOf251,
    v66 := Try.zeroValue251,
    t70 := Try.underlying255,
    a70 := Try.isAgg255,
    z70 := Try.sizeOf255,
    v70 := Try.zeroValue255,
    t76 := Try.underlying262,
    a76 := Try.isAgg262,
    z76 := Try.sizeOf262,
    v76 := Try.zeroValue262,
    t77 := Try.underlying263,
    a77 := Try.isAgg263,
    z77 := Try.sizeOf263,
    v77 := Try.zeroValue263 }
theorem sortF_at {α : Type} [Inhabited α] {enc : α → List Value} {k : Nat} {e : TypeId} (hk : ∀ x, (enc x).length = k) (h1 : ∀ x, ∀ v ∈ enc x, v.oneCell' = true) (cf : α → α → Int) (hO : SWO (ltOf cf)) (hT : ∀ x y, (ltOf cf) x y = false → (ltOf cf) y x = false → x = y) {g : FuncId} (eg : ∀ args w, (callFunc g args).run Try.prog w = .ok (.enter g args) w) (hsp : ∀ x y : α, FnSpec Try.prog g [.agg (enc x).toArray, .agg (enc y).toArray] [] (fun v M => v = .int .i64 (cf x y) ∧ M = [])) (sv : Value) (l : List α) (hl : l.length < 4611686018427387904) (hz : sizeB Try.prog 42 = some k := by kernel_rfl) :
    FnSpec Try.prog 104 [sv, .func (.func g) #[] #[]] [own sv e k l.length (fl enc l)] (fun v M => v = .tuple #[] ∧ M = [own sv e k (sortF cf l).length (fl enc (sortF cf l))]) :=
  spec_sortF hk cf hsp (fun blk cap d w hC hH hb hs => AnyQ.slices_SortFunc_total sortfLay k Try.isAgg42 (fun w => sizeB_run w hz) enc hk h1 cf hO g #[] blk 0 cap d w eg hC hH hb hs hT) (fun p cap w => AnyF.slices_SortFunc_none sortfLay p cap _ w) sv l hl
def compRen : Go.Shelf.Ren where
  f := fun x => match x with | 43 => 108 | n => n
  t := fun x => match x with | 22 => 23 | 23 => 2 | 3 => 3 | 4 => 4 | 0 => 0 | n => n
  g := fun x => x
theorem compLay : SlLaysN.n43 Try.prog compRen :=
  { mixed := Eq.refl true,
    f43 := ⟨ "slices.Compact[[]int64,int64]", of_decide_eq_true (id (Eq.refl true)), Eq.trans Try.func108 (congrArg some rfl)⟩,
    t0 := Try.underlying0,
    a0 := Try.isAgg0,
    z0 := Try.sizeOf0,
    v0 := Try.zeroValue0,
    t3 := Try.underlying3,
    a3 := Try.isAgg3,
    z3 := Try.sizeOf3,
    v3 := Try.zeroValue3,
    t4 := Try.underlying4,
    a4 := Try.isAgg4,
    z4 := Try.sizeOf4,
    v4 := Try.zeroValue4,
    t22 := Try.underlying23,
    a22 := Try.isAgg23,
    z22 := Try.sizeOf23,
    v22 := Try.zeroValue23,
    t23 := Try.underlying2,
    a23 := Try.isAgg2,
    z23 := Try.sizeOf2,
    v23 := Try.zeroValue2,
    i23 := by kernel_rfl }
theorem compact_at {e : TypeId} (sv : Value) (l : List Int) (hl : l.length ≤ 9223372036854775807) : FnSpec Try.prog 108 [sv] [own sv e 1 l.length (fl (eI .i64) l)] (fun v M => ∃ sv2 : Value, v = sv2 ∧ M = [own sv2 e 1 (compactI l).length (fl (eI .i64) (compactI l))]) :=
  spec_compactI (fun blk cap zs w h1 h2 h3 => AnyG.slices_Compact_int compLay blk 0 cap zs w h1 h2 h3) (fun p cap w => AnyG.slices_Compact_int_empty compLay p cap w) sv l hl
theorem compact_nil : FnSpec Try.prog 108 [Value.slice none 0 0] [] (fun v M => v = .slice none 0 0 ∧ M = []) := fun F w hs => (AnyG.slices_Compact_int_empty compLay none 0 w).mono (by rintro e w2 ⟨rfl, rfl⟩; exact ⟨_, _, rfl, ⟨rfl, rfl⟩, hs, Keeps.refl _⟩)
end Go.Proofs.Ytndeodpckfjakaa.E
