/- The seat's program bears slices.SortFunc and slices.Compact: which of its functions and types are which. Printed by sortflay.py. -/
import Derived.Test.YtndjnimnemhbkaaProg
import Derived.Test.YtndjnimnemhbkaaESortF
import Derived.KernelRfl
set_option linter.unusedVariables false
namespace Go.Proofs.Ytndjnimnemhbkaa.E
open Go Go.Proofs Go.RowKit Go.Sort
theorem enc_one {l : List Value} (h : l.all (·.oneCell') = true) : ∀ v ∈ l, v.oneCell' = true := fun v hv => List.all_eq_true.1 h v hv
def sortfRen : Go.Shelf.Ren where
  f := fun x => match x with | 6 => 32 | 15 => 55 | 14 => 56 | 28 => 78 | 29 => 79 | 20 => 80 | 21 => 81 | 22 => 82 | 23 => 83 | 24 => 84 | 25 => 85 | 26 => 86 | 27 => 87 | 46 => 99 | 47 => 95 | 48 => 96 | 49 => 100 | 50 => 101 | 57 => 111 | n => n
  t := fun x => match x with | 22 => 22 | 24 => 52 | 25 => 62 | 3 => 3 | 39 => 95 | 0 => 0 | 53 => 122 | 55 => 88 | 4 => 4 | 46 => 115 | 45 => 114 | 50 => 119 | 5 => 5 | 9 => 9 | 66 => 141 | 70 => 145 | 76 => 153 | 77 => 154 | n => n
  g := fun x => x
theorem sortfLay : SlLaysF0.n6 Try.prog sortfRen :=
  { mixed := Eq.refl true,
    f6 := ⟨ "slices.SortFunc[[]ossuary/api.Fact,ossuary/api.Fact]", of_decide_eq_true (id (Eq.refl true)), Eq.trans Try.func32 (congrArg some rfl)⟩,
    f14 := ⟨ "slices.pdqsortCmpFunc[ossuary/api.Fact]", of_decide_eq_true (id (Eq.refl true)), Eq.trans Try.func56 (congrArg some rfl)⟩,
    f15 := Eq.trans Try.func55 (congrArg some rfl),
    f20 := ⟨ "slices.insertionSortCmpFunc[ossuary/api.Fact]", of_decide_eq_true (id (Eq.refl true)), Eq.trans Try.func80 (congrArg some rfl)⟩,
    f21 := ⟨ "slices.heapSortCmpFunc[ossuary/api.Fact]", of_decide_eq_true (id (Eq.refl true)), Eq.trans Try.func81 (congrArg some rfl)⟩,
    f22 := ⟨ "slices.breakPatternsCmpFunc[ossuary/api.Fact]", of_decide_eq_true (id (Eq.refl true)), Eq.trans Try.func82 (congrArg some rfl)⟩,
    f23 := ⟨ "slices.choosePivotCmpFunc[ossuary/api.Fact]", of_decide_eq_true (id (Eq.refl true)), Eq.trans Try.func83 (congrArg some rfl)⟩,
    f24 := ⟨ "slices.reverseRangeCmpFunc[ossuary/api.Fact]", of_decide_eq_true (id (Eq.refl true)), Eq.trans Try.func84 (congrArg some rfl)⟩,
    f25 := ⟨ "slices.partialInsertionSortCmpFunc[ossuary/api.Fact]", of_decide_eq_true (id (Eq.refl true)), Eq.trans Try.func85 (congrArg some rfl)⟩,
    f26 := ⟨ "slices.partitionEqualCmpFunc[ossuary/api.Fact]", of_decide_eq_true (id (Eq.refl true)), Eq.trans Try.func86 (congrArg some rfl)⟩,
    f27 := ⟨ "slices.partitionCmpFunc[ossuary/api.Fact]", of_decide_eq_true (id (Eq.refl true)), Eq.trans Try.func87 (congrArg some rfl)⟩,
    f28 := Eq.trans Try.func78 (congrArg some rfl),
    f29 := Eq.trans Try.func79 (congrArg some rfl),
    f46 := ⟨ "slices.siftDownCmpFunc[ossuary/api.Fact]", of_decide_eq_true (id (Eq.refl true)), Eq.trans Try.func99 (congrArg some rfl)⟩,
    f47 := Eq.trans Try.func95 (congrArg some rfl),
    f48 := Eq.trans Try.func96 (congrArg some rfl),
    f49 := ⟨ "slices.medianAdjacentCmpFunc[ossuary/api.Fact]", of_decide_eq_true (id (Eq.refl true)), Eq.trans Try.func100 (congrArg some rfl)⟩,
    f50 := ⟨ "slices.medianCmpFunc[ossuary/api.Fact]", of_decide_eq_true (id (Eq.refl true)), Eq.trans Try.func101 (congrArg some rfl)⟩,
    f57 := ⟨ "slices.order2CmpFunc[ossuary/api.Fact]", of_decide_eq_true (id (Eq.refl true)), Eq.trans Try.func111 (congrArg some rfl)⟩,
    t0 := Try.underlying0,
    a0 := Try.isAgg0,
    z0 := Try.sizeOf0,
    v0 := Try.zeroValue0,
    t3 := Try.underlying3,
    a3 := Try.isAgg3,
    z3 := Try.sizeOf3,
    v3 := Try.zeroValue3,
    t4 := Try.underlying4,
    a4 := Try.isAgg4,
    z4 := Try.sizeOf4,
    v4 := Try.zeroValue4,
    t5 := Try.underlying5,
    a5 := Try.isAgg5,
    z5 := Try.sizeOf5,
    v5 := Try.zeroValue5,
    t9 := Try.underlying9,
    a9 := Try.isAgg9,
    z9 := Try.sizeOf9,
    v9 := Try.zeroValue9,
    t22 := Try.underlying22,
    a22 := Try.isAgg22,
    z22 := Try.sizeOf22,
    v22 := Try.zeroValue22,
    t25 := Try.underlying62,
    a25 := Try.isAgg62,
    z25 := Try.sizeOf62,
    v25 := Try.zeroValue62,
    t39 := Try.underlying95,
    a39 := Try.isAgg95,
    z39 := Try.sizeOf95,
    v39 := Try.zeroValue95,
    t45 := Try.underlying114,
    a45 := Try.isAgg114,
    z45 := Try.sizeOf114,
    v45 := Try.zeroValue114,
    t46 := Try.underlying115,
    a46 := Try.isAgg115,
    z46 := Try.sizeOf115,
    v46 := Try.zeroValue115,
    t50 := Try.underlying119,
    a50 := Try.isAgg119,
    z50 := Try.sizeOf119,
    v50 := Try.zeroValue119,
    t53 := Try.underlying122,
    a53 := Try.isAgg122,
    z53 := Try.sizeOf122,
    v53 := Try.zeroValue122,
    t55 := Try.underlying88,
    a55 := Try.isAgg88,
    z55 := Try.sizeOf88,
    v55 := Try.zeroValue88,
    t66 := Try.underlying141,
    a66 := Try.isAgg141,
    z66 := Try.sizeOf141,
    v66 := Try.zeroValue141,
    t70 := Try.underlying145,
    a70 := Try.isAgg145,
    z70 := Try.sizeOf145,
    v70 := Try.zeroValue145,
    t76 := Try.underlying153,
    a76 := Try.isAgg153,
    z76 := Try.sizeOf153,
    v76 := Try.zeroValue153,
    t77 := Try.underlying154,
    a77 := Try.isAgg154,
    z77 := Try.sizeOf154,
    v77 := Try.zeroValue154 }
theorem sortF_at {α : Type} [Inhabited α] {enc : α → List Value} {k : Nat} {e : TypeId} (hk : ∀ x, (enc x).length = k) (h1 : ∀ x, ∀ v ∈ enc x, v.oneCell' = true) (cf : α → α → Int) (hO : SWO (ltOf cf)) (hT : ∀ x y, (ltOf cf) x y = false → (ltOf cf) y x = false → x = y) {g : FuncId} (eg : ∀ args w, (callFunc g args).run Try.prog w = .ok (.enter g args) w) (hsp : ∀ x y : α, FnSpec Try.prog g [.agg (enc x).toArray, .agg (enc y).toArray] [] (fun v M => v = .int .i64 (cf x y) ∧ M = [])) (sv : Value) (l : List α) (hl : l.length < 4611686018427387904) (hz : sizeB Try.prog 52 = some k := by kernel_rfl) :
    FnSpec Try.prog 32 [sv, .func (.func g) #[] #[]] [own sv e k l.length (fl enc l)] (fun v M => v = .tuple #[] ∧ M = [own sv e k (sortF cf l).length (fl enc (sortF cf l))]) :=
  spec_sortF hk cf hsp (fun blk cap d w hC hH hb hs => AnyQ.slices_SortFunc_total sortfLay k Try.isAgg52 (fun w => sizeB_run w hz) enc hk h1 cf hO g #[] blk 0 cap d w eg hC hH hb hs hT) (fun p cap w => AnyF.slices_SortFunc_none sortfLay p cap _ w) sv l hl
def compRen : Go.Shelf.Ren where
  f := fun x => match x with | 43 => 30 | n => n
  t := fun x => match x with | 22 => 28 | 23 => 2 | 3 => 3 | 4 => 4 | 0 => 0 | n => n
  g := fun x => x
theorem compLay : SlLaysN.n43 Try.prog compRen :=
  { mixed := Eq.refl true,
    f43 := ⟨ "slices.Compact[[]int64,int64]", of_decide_eq_true (id (Eq.refl true)), Eq.trans Try.func30 (congrArg some rfl)⟩,
    t0 := Try.underlying0,
    a0 := Try.isAgg0,
    z0 := Try.sizeOf0,
    v0 := Try.zeroValue0,
    t3 := Try.underlying3,
    a3 := Try.isAgg3,
    z3 := Try.sizeOf3,
    v3 := Try.zeroValue3,
    t4 := Try.underlying4,
    a4 := Try.isAgg4,
    z4 := Try.sizeOf4,
    v4 := Try.zeroValue4,
    t22 := Try.underlying28,
    a22 := Try.isAgg28,
    z22 := Try.sizeOf28,
    v22 := Try.zeroValue28,
    t23 := Try.underlying2,
    a23 := Try.isAgg2,
    z23 := Try.sizeOf2,
    v23 := Try.zeroValue2,
    i23 := by kernel_rfl }
theorem compact_at {e : TypeId} (sv : Value) (l : List Int) (hl : l.length ≤ 9223372036854775807) : FnSpec Try.prog 30 [sv] [own sv e 1 l.length (fl (eI .i64) l)] (fun v M => ∃ sv2 : Value, v = sv2 ∧ M = [own sv2 e 1 (compactI l).length (fl (eI .i64) (compactI l))]) :=
  spec_compactI (fun blk cap zs w h1 h2 h3 => AnyG.slices_Compact_int compLay blk 0 cap zs w h1 h2 h3) (fun p cap w => AnyG.slices_Compact_int_empty compLay p cap w) sv l hl
theorem compact_nil : FnSpec Try.prog 30 [Value.slice none 0 0] [] (fun v M => v = .slice none 0 0 ∧ M = []) := fun F w hs => (AnyG.slices_Compact_int_empty compLay none 0 w).mono (by rintro e w2 ⟨rfl, rfl⟩; exact ⟨_, _, rfl, ⟨rfl, rfl⟩, hs, Keeps.refl _⟩)
end Go.Proofs.Ytndjnimnemhbkaa.E
