/- memPlays_holds: a part of what its proof rests on. -/
import Derived.Test.YtmgpegiekankmaaGreatZP2
set_option linter.unusedVariables false
set_option linter.unusedSimpArgs false
section
set_option linter.unusedVariables false
set_option linter.unusedSimpArgs false
set_option maxHeartbeats 8000000
set_option maxRecDepth 100000
namespace Go.Proofs.YtmgpegiekankmaaGreat.MemPlays
open Go Go.RowKit E
open Go.Value (int bool slice agg)
theorem Ac {α : Type} {l : List α} {n : Nat} (h : n < l.length) (z : α) : l.getD n z = l[n] := by rw [List.getD_eq_getElem?_getD, List.getElem?_eq_getElem h]; rfl
theorem ik.spec (sv0 : JG) (l0 : List aI) (r : List aK) (H : ik l0 = some r) : bp Tryz.prog 45 [sv0.sv] [(bv sv0 81 4 al 87 6 an ao l0)] (fun v M => ∃ J : JG, v = J.sv ∧ M = [(bv J 35 4 ar 87 6 av aw r)]) := by
 unfold ik at H
 split at H
 ·rename_i hroom
  cases H
  refine bo Tryz.func45 rfl 36 rfl (nL rfl) fun F w0 => ?_
  show cB (St 36 w0 F [(0, sv0.sv)] [(bv sv0 81 4 al 87 6 an ao l0)]) _
  refine ag ?_
  refine ae ?_
  refine vA rfl rfl ?_
  refine ai ?_
  refine ag ?_
  refine ae ?_
  refine vA rfl rfl ?_
  refine ai ?_
  refine ag ?_
  refine ag ?_
  refine ae ?_
  refine vA rfl rfl ?_
  refine ai ?_
  refine be ?_
  refine cf (fun kk_ a w => ∃ n : Nat, ∃ J : JG, (n ≤ l0.length ∧ kk_ = l0.length - n) ∧ St 36 w0 F [(0, sv0.sv), (3, J.sv), (4, (int .i64 (((n) : Nat) : Int)))] [(nz sv0 n 81 4 al 87 6 an ao l0), (bv J 35 4 ar 87 6 av aw ((l0.take n).map (fun x : aI => (⟨x.Seq, x.Tick, x.Budget, x.Facts⟩ : aK))))] a w) l0.length ?_ ?_
  ·refine lK 35 4 ar 87 6 av aw ?_
   refine kL 1 _ (nz sv0 0 81 4 al 87 6 an ao l0) rfl (fun o s h => h) rfl ?_
   exact vF [1, 0] rfl rfl (vS [0,3,4] rfl) fun a w h => ⟨0, nr, ⟨Nat.zero_le _, rfl⟩, h⟩
  ·refine fun kk_ => aU fun n => aU fun J => cv fun hk_ => ?_
   obtain ⟨hle_, hk_⟩ := hk_
   refine ag ?_
   refine ag ?_
   refine ae ?_
   refine vM rfl rfl ?_
   refine vM rfl rfl ?_
   refine vV (cp 0 rfl dH rfl ke) rfl ?_
   refine vV (aG rfl rfl (cI _ _ _)) rfl ?_
   refine ai ?_
   by_cases c1 : (((n) : Nat) : Int) < (l0.length : Int)
   ·have hn_ : n < l0.length := by omega
    refine aA rfl (dT c1) ?_
    refine aV ?_
    refine ag ?_
    refine be ?_
    refine xX am [0, 1] (by decide) rfl (by omega) ?_
    refine et [(nz sv0 (n + 1) 81 4 al 87 6 an ao l0), (own (sv0.vs (((n) : Nat) : Int).toNat) 87 6 ((l0.getD (((n) : Nat) : Int).toNat am).Facts).length (fl aC ((l0.getD (((n) : Nat) : Int).toNat am).Facts))), (bv J 35 4 ar 87 6 av aw ((l0.take n).map (fun x : aI => (⟨x.Seq, x.Tick, x.Budget, x.Facts⟩ : aK))))] rfl ?_
    by_cases c2 : 0 ≤ (((n) : Nat) : Int)
    ·by_cases c3 : (((l0.take n).map (fun x : aI => (⟨x.Seq, x.Tick, x.Budget, x.Facts⟩ : aK))).length + 1) * 48 ≤ 140737488355328
     ·let Z1_I : (Nat → Value) → (Nat → Bool) → Act → World → Prop := fun (ga1 : Nat → Value) done a w => kH 36 w0 F [(0, sv0.sv), (3, J.sv), (4, (int .i64 (((n) : Nat) : Int))), (5, (int .i64 (((n) : Nat) : Int))), (6, sv0.sv), (7, (int .i64 (l0.length : Int))), (8, (Value.bool (decide ((((n) : Nat) : Int) < (l0.length : Int)))))] [(0, 11, J.sv), (1, 12, sv0.sv), (2, 13, (int .i64 (((n) : Nat) : Int))), (3, 14, (bX sv0.sv (((((n) : Nat) : Int).toNat) * 4))), (4, 15, (bX sv0.sv (((((n) : Nat) : Int).toNat) * 4 + 0))), (5, 16, (int .i64 ((l0.getD ((((n) : Nat) : Int).toNat) am).Seq))), (6, 17, sv0.sv), (7, 18, (int .i64 (((n) : Nat) : Int))), (8, 19, (bX sv0.sv (((((n) : Nat) : Int).toNat) * 4))), (9, 20, (bX sv0.sv (((((n) : Nat) : Int).toNat) * 4 + 1))), (10, 21, (int .i64 ((l0.getD ((((n) : Nat) : Int).toNat) am).Tick))), (11, 22, sv0.sv), (12, 23, (int .i64 (((n) : Nat) : Int))), (13, 24, (bX sv0.sv (((((n) : Nat) : Int).toNat) * 4))), (14, 25, (bX sv0.sv (((((n) : Nat) : Int).toNat) * 4 + 2))), (15, 26, (int .i64 ((l0.getD ((((n) : Nat) : Int).toNat) am).Budget))), (16, 27, sv0.sv), (17, 28, (int .i64 (((n) : Nat) : Int))), (18, 29, (bX sv0.sv (((((n) : Nat) : Int).toNat) * 4))), (19, 30, (bX sv0.sv (((((n) : Nat) : Int).toNat) * 4 + 3))), (20, 31, (sv0.vs (((n) : Nat) : Int).toNat)), (21, 32, (agg #[(int .i64 ((l0.getD ((((n) : Nat) : Int).toNat) am).Seq)), (int .i64 ((l0.getD ((((n) : Nat) : Int).toNat) am).Tick)), (int .i64 ((l0.getD ((((n) : Nat) : Int).toNat) am).Budget)), (sv0.vs (((n) : Nat) : Int).toNat)])), (22, 33, (ga1 22)), (23, 34, (ga1 23))] done [(bK (done 23) emp (bK (done 22) (own (ga1 22) 35 4 1 (ar (⟨(l0.getD ((((n) : Nat) : Int).toNat) am).Seq, (l0.getD ((((n) : Nat) : Int).toNat) am).Tick, (l0.getD ((((n) : Nat) : Int).toNat) am).Budget, ((l0.getD (((n) : Nat) : Int).toNat am).Facts)⟩ : aK) (sv0.vs (((n) : Nat) : Int).toNat))) emp)), (nz sv0 (n + 1) 81 4 al 87 6 an ao l0), (bK (done 23) emp (own (sv0.vs (((n) : Nat) : Int).toNat) 87 6 ((l0.getD (((n) : Nat) : Int).toNat am).Facts).length (fl aC ((l0.getD (((n) : Nat) : Int).toNat am).Facts)))), (bK (done 23) (hown (ga1 23) 35 4 ar 87 6 av aw (((l0.take n).map (fun x : aI => (⟨x.Seq, x.Tick, x.Budget, x.Facts⟩ : aK))) ++ [(⟨(l0.getD ((((n) : Nat) : Int).toNat) am).Seq, (l0.getD ((((n) : Nat) : Int).toNat) am).Tick, (l0.getD ((((n) : Nat) : Int).toNat) am).Budget, ((l0.getD (((n) : Nat) : Int).toNat am).Facts)⟩ : aK)])) (bv J 35 4 ar 87 6 av aw ((l0.take n).map (fun x : aI => (⟨x.Seq, x.Tick, x.Budget, x.Facts⟩ : aK)))))] a w
      let Z1_A : (Nat → Bool) → Act → World → Prop := (fun done a w => ∃ ga1 : Nat → Value, Z1_I ga1 done a w)
      let Z1_B : Act → World → Prop := (fun a w => ∃ ga1 : Nat → Value, St 36 w0 F ((3, (ga1 23)) :: [(0, sv0.sv), (4, (int .i64 (((n) : Nat) : Int))), (5, (int .i64 (((n) : Nat) : Int))), (6, sv0.sv), (7, (int .i64 (l0.length : Int))), (8, (Value.bool (decide ((((n) : Nat) : Int) < (l0.length : Int))))), (11, J.sv), (12, sv0.sv), (13, (int .i64 (((n) : Nat) : Int))), (14, (bX sv0.sv (((((n) : Nat) : Int).toNat) * 4))), (15, (bX sv0.sv (((((n) : Nat) : Int).toNat) * 4 + 0))), (16, (int .i64 ((l0.getD ((((n) : Nat) : Int).toNat) am).Seq))), (17, sv0.sv), (18, (int .i64 (((n) : Nat) : Int))), (19, (bX sv0.sv (((((n) : Nat) : Int).toNat) * 4))), (20, (bX sv0.sv (((((n) : Nat) : Int).toNat) * 4 + 1))), (21, (int .i64 ((l0.getD ((((n) : Nat) : Int).toNat) am).Tick))), (22, sv0.sv), (23, (int .i64 (((n) : Nat) : Int))), (24, (bX sv0.sv (((((n) : Nat) : Int).toNat) * 4))), (25, (bX sv0.sv (((((n) : Nat) : Int).toNat) * 4 + 2))), (26, (int .i64 ((l0.getD ((((n) : Nat) : Int).toNat) am).Budget))), (27, sv0.sv), (28, (int .i64 (((n) : Nat) : Int))), (29, (bX sv0.sv (((((n) : Nat) : Int).toNat) * 4))), (30, (bX sv0.sv (((((n) : Nat) : Int).toNat) * 4 + 3))), (31, (sv0.vs (((n) : Nat) : Int).toNat)), (32, (agg #[(int .i64 ((l0.getD ((((n) : Nat) : Int).toNat) am).Seq)), (int .i64 ((l0.getD ((((n) : Nat) : Int).toNat) am).Tick)), (int .i64 ((l0.getD ((((n) : Nat) : Int).toNat) am).Budget)), (sv0.vs (((n) : Nat) : Int).toNat)])), (33, (ga1 22)), (34, (ga1 23))]) [emp, (nz sv0 (n + 1) 81 4 al 87 6 an ao l0), emp, (hown (ga1 23) 35 4 ar 87 6 av aw (((l0.take n).map (fun x : aI => (⟨x.Seq, x.Tick, x.Budget, x.Facts⟩ : aK))) ++ [(⟨(l0.getD ((((n) : Nat) : Int).toNat) am).Seq, (l0.getD ((((n) : Nat) : Int).toNat) am).Tick, (l0.getD ((((n) : Nat) : Int).toNat) am).Budget, ((l0.getD (((n) : Nat) : Int).toNat am).Facts)⟩ : aK)]))] a w)
      refine ce 25 rfl (rW 24 Z1_A Z1_B) (by kernel_rfl) (by kernel_rfl) (ms (fq (T := (fun ga1 : Nat → Value => [(0, 11, J.sv), (1, 12, sv0.sv), (2, 13, (int .i64 (((n) : Nat) : Int))), (3, 14, (bX sv0.sv (((((n) : Nat) : Int).toNat) * 4))), (4, 15, (bX sv0.sv (((((n) : Nat) : Int).toNat) * 4 + 0))), (5, 16, (int .i64 ((l0.getD ((((n) : Nat) : Int).toNat) am).Seq))), (6, 17, sv0.sv), (7, 18, (int .i64 (((n) : Nat) : Int))), (8, 19, (bX sv0.sv (((((n) : Nat) : Int).toNat) * 4))), (9, 20, (bX sv0.sv (((((n) : Nat) : Int).toNat) * 4 + 1))), (10, 21, (int .i64 ((l0.getD ((((n) : Nat) : Int).toNat) am).Tick))), (11, 22, sv0.sv), (12, 23, (int .i64 (((n) : Nat) : Int))), (13, 24, (bX sv0.sv (((((n) : Nat) : Int).toNat) * 4))), (14, 25, (bX sv0.sv (((((n) : Nat) : Int).toNat) * 4 + 2))), (15, 26, (int .i64 ((l0.getD ((((n) : Nat) : Int).toNat) am).Budget))), (16, 27, sv0.sv), (17, 28, (int .i64 (((n) : Nat) : Int))), (18, 29, (bX sv0.sv (((((n) : Nat) : Int).toNat) * 4))), (19, 30, (bX sv0.sv (((((n) : Nat) : Int).toNat) * 4 + 3))), (20, 31, (sv0.vs (((n) : Nat) : Int).toNat)), (21, 32, (agg #[(int .i64 ((l0.getD ((((n) : Nat) : Int).toNat) am).Seq)), (int .i64 ((l0.getD ((((n) : Nat) : Int).toNat) am).Tick)), (int .i64 ((l0.getD ((((n) : Nat) : Int).toNat) am).Budget)), (sv0.vs (((n) : Nat) : Int).toNat)])), (22, 33, (ga1 22)), (23, 34, (ga1 23))])) (L' := fun ga1 : Nat → Value => [(bK false emp (bK false (own (ga1 22) 35 4 1 (ar (⟨(l0.getD ((((n) : Nat) : Int).toNat) am).Seq, (l0.getD ((((n) : Nat) : Int).toNat) am).Tick, (l0.getD ((((n) : Nat) : Int).toNat) am).Budget, ((l0.getD (((n) : Nat) : Int).toNat am).Facts)⟩ : aK) (sv0.vs (((n) : Nat) : Int).toNat))) emp)), (nz sv0 (n + 1) 81 4 al 87 6 an ao l0), (bK false emp (own (sv0.vs (((n) : Nat) : Int).toNat) 87 6 ((l0.getD (((n) : Nat) : Int).toNat am).Facts).length (fl aC ((l0.getD (((n) : Nat) : Int).toNat am).Facts)))), (bK false (hown (ga1 23) 35 4 ar 87 6 av aw (((l0.take n).map (fun x : aI => (⟨x.Seq, x.Tick, x.Budget, x.Facts⟩ : aK))) ++ [(⟨(l0.getD ((((n) : Nat) : Int).toNat) am).Seq, (l0.getD ((((n) : Nat) : Int).toNat) am).Tick, (l0.getD ((((n) : Nat) : Int).toNat) am).Budget, ((l0.getD (((n) : Nat) : Int).toNat am).Facts)⟩ : aK)])) (bv J 35 4 ar 87 6 av aw ((l0.take n).map (fun x : aI => (⟨x.Seq, x.Tick, x.Budget, x.Facts⟩ : aK)))))]) 1 (vS [0,3,4,5,6,7,8] rfl) (fun _ => rfl))) ?_ ?_
      ·refine ⟨?_, ?_, ?_, ?_, ?_, ?_, ?_, ?_, ?_, ?_, ?_, ?_, ?_, ?_, ?_, ?_, ?_, ?_, ?_, ?_, ?_, ?_, ?_, ?_, ?_, trivial⟩
       ·intro done hi hc hcu
        have n24 : done 24 = false := aM (m := 24) hc hi rfl rfl
        refine bO (m := 24) (A := Z1_A) n24 rfl ?_
        refine aS (I := Z1_I) fun ga1 => ?_
        exact dV 0 rfl rfl rfl rfl (fun a => af) (aL rfl) rfl rfl rfl rfl
       ·intro done hi hc hcu
        have n24 : done 24 = false := aM (m := 24) hc hi rfl rfl
        refine bO (m := 24) (A := Z1_A) n24 rfl ?_
        refine aS (I := Z1_I) fun ga1 => ?_
        exact dV 1 rfl rfl rfl rfl (fun a => af) (aL rfl) rfl rfl rfl rfl
       ·intro done hi hc hcu
        have n24 : done 24 = false := aM (m := 24) hc hi rfl rfl
        refine bO (m := 24) (A := Z1_A) n24 rfl ?_
        refine aS (I := Z1_I) fun ga1 => ?_
        exact dV 2 rfl rfl rfl rfl (fun a => af) (aL rfl) rfl rfl rfl rfl
       ·intro done hi hc hcu
        have n24 : done 24 = false := aM (m := 24) hc hi rfl rfl
        refine bO (m := 24) (A := Z1_A) n24 rfl ?_
        refine aS (I := Z1_I) fun ga1 => ?_
        have d1 : done 1 = true := aX (j := 1) hcu rfl (by decide) rfl
        have d2 : done 2 = true := aX (j := 2) hcu rfl (by decide) rfl
        exact dV 3 rfl rfl rfl rfl (fun a => (ap (k := 2) rfl d2 (ap (k := 1) rfl d1 af))) (bf (sz := 3) 1 rfl rfl dH cA rfl ke c2 c1) rfl rfl rfl rfl
       ·intro done hi hc hcu
        have n24 : done 24 = false := aM (m := 24) hc hi rfl rfl
        refine bO (m := 24) (A := Z1_A) n24 rfl ?_
        refine aS (I := Z1_I) fun ga1 => ?_
        have d3 : done 3 = true := aX (j := 3) hcu rfl (by decide) rfl
        exact dV 4 rfl rfl rfl rfl (fun a => (ap (k := 3) rfl d3 af)) (br (sz := 0) (k0 := ((((n) : Nat) : Int).toNat) * 4) (off := 0) 1 rfl iM bd rfl ke (gt dC (bB c2 c1))) rfl rfl rfl rfl
       ·intro done hi hc hcu
        have n24 : done 24 = false := aM (m := 24) hc hi rfl rfl
        refine bO (m := 24) (A := Z1_A) n24 rfl ?_
        refine aS (I := Z1_I) fun ga1 => ?_
        have d4 : done 4 = true := aX (j := 4) hcu rfl (by decide) rfl
        exact dV 5 rfl rfl rfl rfl (fun a => (ap (k := 4) rfl d4 af)) (aP (v := (int .i64 ((l0.getD ((((n) : Nat) : Int).toNat) am).Seq))) rfl bl (bE (i := 1) rfl ke (by simp) (iG (off := 0) (z := am) dC (bB c2 c1) rfl))) rfl rfl rfl rfl
       ·intro done hi hc hcu
        have n24 : done 24 = false := aM (m := 24) hc hi rfl rfl
        refine bO (m := 24) (A := Z1_A) n24 rfl ?_
        refine aS (I := Z1_I) fun ga1 => ?_
        exact dV 6 rfl rfl rfl rfl (fun a => af) (aL rfl) rfl rfl rfl rfl
       ·intro done hi hc hcu
        have n24 : done 24 = false := aM (m := 24) hc hi rfl rfl
        refine bO (m := 24) (A := Z1_A) n24 rfl ?_
        refine aS (I := Z1_I) fun ga1 => ?_
        exact dV 7 rfl rfl rfl rfl (fun a => af) (aL rfl) rfl rfl rfl rfl
       ·intro done hi hc hcu
        have n24 : done 24 = false := aM (m := 24) hc hi rfl rfl
        refine bO (m := 24) (A := Z1_A) n24 rfl ?_
        refine aS (I := Z1_I) fun ga1 => ?_
        have d6 : done 6 = true := aX (j := 6) hcu rfl (by decide) rfl
        have d7 : done 7 = true := aX (j := 7) hcu rfl (by decide) rfl
        exact dV 8 rfl rfl rfl rfl (fun a => (ap (k := 7) rfl d7 (ap (k := 6) rfl d6 af))) (bf (sz := 3) 1 rfl rfl dH cA rfl ke c2 c1) rfl rfl rfl rfl
       ·intro done hi hc hcu
        have n24 : done 24 = false := aM (m := 24) hc hi rfl rfl
        refine bO (m := 24) (A := Z1_A) n24 rfl ?_
        refine aS (I := Z1_I) fun ga1 => ?_
        have d8 : done 8 = true := aX (j := 8) hcu rfl (by decide) rfl
        exact dV 9 rfl rfl rfl rfl (fun a => (ap (k := 8) rfl d8 af)) (br (sz := 0) (k0 := ((((n) : Nat) : Int).toNat) * 4) (off := 1) 1 rfl mp bd rfl ke (gt dC (bB c2 c1))) rfl rfl rfl rfl
       ·intro done hi hc hcu
        have n24 : done 24 = false := aM (m := 24) hc hi rfl rfl
        refine bO (m := 24) (A := Z1_A) n24 rfl ?_
        refine aS (I := Z1_I) fun ga1 => ?_
        have d9 : done 9 = true := aX (j := 9) hcu rfl (by decide) rfl
        exact dV 10 rfl rfl rfl rfl (fun a => (ap (k := 9) rfl d9 af)) (aP (v := (int .i64 ((l0.getD ((((n) : Nat) : Int).toNat) am).Tick))) rfl bl (bE (i := 1) rfl ke (by simp) (iG (off := 1) (z := am) dC (bB c2 c1) rfl))) rfl rfl rfl rfl
       ·intro done hi hc hcu
        have n24 : done 24 = false := aM (m := 24) hc hi rfl rfl
        refine bO (m := 24) (A := Z1_A) n24 rfl ?_
        refine aS (I := Z1_I) fun ga1 => ?_
        exact dV 11 rfl rfl rfl rfl (fun a => af) (aL rfl) rfl rfl rfl rfl
       ·intro done hi hc hcu
        have n24 : done 24 = false := aM (m := 24) hc hi rfl rfl
        refine bO (m := 24) (A := Z1_A) n24 rfl ?_
        refine aS (I := Z1_I) fun ga1 => ?_
        exact dV 12 rfl rfl rfl rfl (fun a => af) (aL rfl) rfl rfl rfl rfl
       ·intro done hi hc hcu
        have n24 : done 24 = false := aM (m := 24) hc hi rfl rfl
        refine bO (m := 24) (A := Z1_A) n24 rfl ?_
        refine aS (I := Z1_I) fun ga1 => ?_
        have d11 : done 11 = true := aX (j := 11) hcu rfl (by decide) rfl
        have d12 : done 12 = true := aX (j := 12) hcu rfl (by decide) rfl
        exact dV 13 rfl rfl rfl rfl (fun a => (ap (k := 12) rfl d12 (ap (k := 11) rfl d11 af))) (bf (sz := 3) 1 rfl rfl dH cA rfl ke c2 c1) rfl rfl rfl rfl
       ·intro done hi hc hcu
        have n24 : done 24 = false := aM (m := 24) hc hi rfl rfl
        refine bO (m := 24) (A := Z1_A) n24 rfl ?_
        refine aS (I := Z1_I) fun ga1 => ?_
        have d13 : done 13 = true := aX (j := 13) hcu rfl (by decide) rfl
        exact dV 14 rfl rfl rfl rfl (fun a => (ap (k := 13) rfl d13 af)) (br (sz := 0) (k0 := ((((n) : Nat) : Int).toNat) * 4) (off := 2) 1 rfl ml bd rfl ke (gt dC (bB c2 c1))) rfl rfl rfl rfl
       ·intro done hi hc hcu
        have n24 : done 24 = false := aM (m := 24) hc hi rfl rfl
        refine bO (m := 24) (A := Z1_A) n24 rfl ?_
        refine aS (I := Z1_I) fun ga1 => ?_
        have d14 : done 14 = true := aX (j := 14) hcu rfl (by decide) rfl
        exact dV 15 rfl rfl rfl rfl (fun a => (ap (k := 14) rfl d14 af)) (aP (v := (int .i64 ((l0.getD ((((n) : Nat) : Int).toNat) am).Budget))) rfl bl (bE (i := 1) rfl ke (by simp) (iG (off := 2) (z := am) dC (bB c2 c1) rfl))) rfl rfl rfl rfl
       ·intro done hi hc hcu
        have n24 : done 24 = false := aM (m := 24) hc hi rfl rfl
        refine bO (m := 24) (A := Z1_A) n24 rfl ?_
        refine aS (I := Z1_I) fun ga1 => ?_
        exact dV 16 rfl rfl rfl rfl (fun a => af) (aL rfl) rfl rfl rfl rfl
       ·intro done hi hc hcu
        have n24 : done 24 = false := aM (m := 24) hc hi rfl rfl
        refine bO (m := 24) (A := Z1_A) n24 rfl ?_
        refine aS (I := Z1_I) fun ga1 => ?_
        exact dV 17 rfl rfl rfl rfl (fun a => af) (aL rfl) rfl rfl rfl rfl
       ·intro done hi hc hcu
        have n24 : done 24 = false := aM (m := 24) hc hi rfl rfl
        refine bO (m := 24) (A := Z1_A) n24 rfl ?_
        refine aS (I := Z1_I) fun ga1 => ?_
        have d16 : done 16 = true := aX (j := 16) hcu rfl (by decide) rfl
        have d17 : done 17 = true := aX (j := 17) hcu rfl (by decide) rfl
        exact dV 18 rfl rfl rfl rfl (fun a => (ap (k := 17) rfl d17 (ap (k := 16) rfl d16 af))) (bf (sz := 3) 1 rfl rfl dH cA rfl ke c2 c1) rfl rfl rfl rfl
       ·intro done hi hc hcu
        have n24 : done 24 = false := aM (m := 24) hc hi rfl rfl
        refine bO (m := 24) (A := Z1_A) n24 rfl ?_
        refine aS (I := Z1_I) fun ga1 => ?_
        have d18 : done 18 = true := aX (j := 18) hcu rfl (by decide) rfl
        exact dV 19 rfl rfl rfl rfl (fun a => (ap (k := 18) rfl d18 af)) (br (sz := 0) (k0 := ((((n) : Nat) : Int).toNat) * 4) (off := 3) 1 rfl dv cJ rfl ke (gt dC (bB c2 c1))) rfl rfl rfl rfl
       ·intro done hi hc hcu
        have n24 : done 24 = false := aM (m := 24) hc hi rfl rfl
        refine bO (m := 24) (A := Z1_A) n24 rfl ?_
        refine aS (I := Z1_I) fun ga1 => ?_
        have d19 : done 19 = true := aX (j := 19) hcu rfl (by decide) rfl
        exact dV 20 rfl rfl rfl rfl (fun a => (ap (k := 19) rfl d19 af)) (aP (v := (sv0.vs (((n) : Nat) : Int).toNat)) rfl fm (bE (i := 1) rfl ke (by simp) (iG (off := 3) (z := am) dC (bB c2 c1) rfl))) rfl rfl rfl rfl
       ·intro done hi hc hcu
        have n24 : done 24 = false := aM (m := 24) hc hi rfl rfl
        refine bO (m := 24) (A := Z1_A) n24 rfl ?_
        refine aS (I := Z1_I) fun ga1 => ?_
        have d5 : done 5 = true := aX (j := 5) hcu rfl (by decide) rfl
        have d10 : done 10 = true := aX (j := 10) hcu rfl (by decide) rfl
        have d15 : done 15 = true := aX (j := 15) hcu rfl (by decide) rfl
        have d20 : done 20 = true := aX (j := 20) hcu rfl (by decide) rfl
        have n22 : done 22 = false := aM (m := 22) hc hi rfl rfl
        have n23 : done 23 = false := aM (m := 23) hc n22 rfl rfl
        exact dV 21 rfl rfl rfl rfl (fun a => (ap (k := 20) rfl d20 (ap (k := 15) rfl d15 (ap (k := 10) rfl d10 (ap (k := 5) rfl d5 af))))) (lc (L2 := [(bK (done 23) emp (bK (done 22) (own (ga1 22) 35 4 1 (ar (⟨(l0.getD ((((n) : Nat) : Int).toNat) am).Seq, (l0.getD ((((n) : Nat) : Int).toNat) am).Tick, (l0.getD ((((n) : Nat) : Int).toNat) am).Budget, ((l0.getD (((n) : Nat) : Int).toNat am).Facts)⟩ : aK) (sv0.vs (((n) : Nat) : Int).toNat))) emp)), (nz sv0 (n + 1) 81 4 al 87 6 an ao l0), (own (sv0.vs (((n) : Nat) : Int).toNat) 87 6 ((l0.getD (((n) : Nat) : Int).toNat am).Facts).length (fl aC ((l0.getD (((n) : Nat) : Int).toNat am).Facts))), (bK (done 23) (hown (ga1 23) 35 4 ar 87 6 av aw (((l0.take n).map (fun x : aI => (⟨x.Seq, x.Tick, x.Budget, x.Facts⟩ : aK))) ++ [(⟨(l0.getD ((((n) : Nat) : Int).toNat) am).Seq, (l0.getD ((((n) : Nat) : Int).toNat) am).Tick, (l0.getD ((((n) : Nat) : Int).toNat) am).Budget, ((l0.getD (((n) : Nat) : Int).toNat am).Facts)⟩ : aK)])) (bv J 35 4 ar 87 6 av aw ((l0.take n).map (fun x : aI => (⟨x.Seq, x.Tick, x.Budget, x.Facts⟩ : aK)))))]) (by simp only [n23, bK]) (uq 2 rfl (aQ 87) fun hc0_ => (eO (is := [0, 1, 2, 3]) (xs := [.tmp 16, .tmp 21, .tmp 26, .tmp 31]) (vs := [(int .i64 ((l0.getD ((((n) : Nat) : Int).toNat) am).Seq)), (int .i64 ((l0.getD ((((n) : Nat) : Int).toNat) am).Tick)), (int .i64 ((l0.getD ((((n) : Nat) : Int).toNat) am).Budget)), (sv0.vs (((n) : Nat) : Int).toNat)]) rfl rfl (cC (cs := [(int .i64 ((l0.getD ((((n) : Nat) : Int).toNat) am).Seq)), (int .i64 ((l0.getD ((((n) : Nat) : Int).toNat) am).Tick)), (int .i64 ((l0.getD ((((n) : Nat) : Int).toNat) am).Budget)), (sv0.vs (((n) : Nat) : Int).toNat)]) jY mN (by revert hc0_; generalize (sv0.vs (((n) : Nat) : Int).toNat) = vv0_; intro hc0_; simp [Instr.fill, kA, jS, kD, jR, jm, kz, hE, kw, hc0_]))))) rfl rfl rfl rfl
       ·intro done hi hc hcu
        have n24 : done 24 = false := aM (m := 24) hc hi rfl rfl
        refine bO (m := 24) (A := Z1_A) n24 rfl ?_
        refine aU (S := fun ga1 => Z1_I ga1 done) fun ga1 => ?_
        have d21 : done 21 = true := aX (j := 21) hcu rfl (by decide) rfl
        have n23 : done 23 = false := aM (m := 23) hc hi rfl rfl
        refine jq (i := 22) (t := 33) (x := ga1) (L := (fun (ga1 : Nat → Value) (done : Nat → Bool) => [(bK (done 23) emp (bK (done 22) (own (ga1 22) 35 4 1 (ar (⟨(l0.getD ((((n) : Nat) : Int).toNat) am).Seq, (l0.getD ((((n) : Nat) : Int).toNat) am).Tick, (l0.getD ((((n) : Nat) : Int).toNat) am).Budget, ((l0.getD (((n) : Nat) : Int).toNat am).Facts)⟩ : aK) (sv0.vs (((n) : Nat) : Int).toNat))) emp)), (nz sv0 (n + 1) 81 4 al 87 6 an ao l0), (bK (done 23) emp (own (sv0.vs (((n) : Nat) : Int).toNat) 87 6 ((l0.getD (((n) : Nat) : Int).toNat am).Facts).length (fl aC ((l0.getD (((n) : Nat) : Int).toNat am).Facts)))), (bK (done 23) (hown (ga1 23) 35 4 ar 87 6 av aw (((l0.take n).map (fun x : aI => (⟨x.Seq, x.Tick, x.Budget, x.Facts⟩ : aK))) ++ [(⟨(l0.getD ((((n) : Nat) : Int).toNat) am).Seq, (l0.getD ((((n) : Nat) : Int).toNat) am).Tick, (l0.getD ((((n) : Nat) : Int).toNat) am).Budget, ((l0.getD (((n) : Nat) : Int).toNat am).Facts)⟩ : aK)])) (bv J 35 4 ar 87 6 av aw ((l0.take n).map (fun x : aI => (⟨x.Seq, x.Tick, x.Budget, x.Facts⟩ : aK)))))])) (T := (fun ga1 : Nat → Value => [(0, 11, J.sv), (1, 12, sv0.sv), (2, 13, (int .i64 (((n) : Nat) : Int))), (3, 14, (bX sv0.sv (((((n) : Nat) : Int).toNat) * 4))), (4, 15, (bX sv0.sv (((((n) : Nat) : Int).toNat) * 4 + 0))), (5, 16, (int .i64 ((l0.getD ((((n) : Nat) : Int).toNat) am).Seq))), (6, 17, sv0.sv), (7, 18, (int .i64 (((n) : Nat) : Int))), (8, 19, (bX sv0.sv (((((n) : Nat) : Int).toNat) * 4))), (9, 20, (bX sv0.sv (((((n) : Nat) : Int).toNat) * 4 + 1))), (10, 21, (int .i64 ((l0.getD ((((n) : Nat) : Int).toNat) am).Tick))), (11, 22, sv0.sv), (12, 23, (int .i64 (((n) : Nat) : Int))), (13, 24, (bX sv0.sv (((((n) : Nat) : Int).toNat) * 4))), (14, 25, (bX sv0.sv (((((n) : Nat) : Int).toNat) * 4 + 2))), (15, 26, (int .i64 ((l0.getD ((((n) : Nat) : Int).toNat) am).Budget))), (16, 27, sv0.sv), (17, 28, (int .i64 (((n) : Nat) : Int))), (18, 29, (bX sv0.sv (((((n) : Nat) : Int).toNat) * 4))), (19, 30, (bX sv0.sv (((((n) : Nat) : Int).toNat) * 4 + 3))), (20, 31, (sv0.vs (((n) : Nat) : Int).toNat)), (21, 32, (agg #[(int .i64 ((l0.getD ((((n) : Nat) : Int).toNat) am).Seq)), (int .i64 ((l0.getD ((((n) : Nat) : Int).toNat) am).Tick)), (int .i64 ((l0.getD ((((n) : Nat) : Int).toNat) am).Budget)), (sv0.vs (((n) : Nat) : Int).toNat)])), (22, 33, (ga1 22)), (23, 34, (ga1 23))])) (L2 := [emp, (nz sv0 (n + 1) 81 4 al 87 6 an ao l0), (bK (done 23) emp (own (sv0.vs (((n) : Nat) : Int).toNat) 87 6 ((l0.getD (((n) : Nat) : Int).toNat am).Facts).length (fl aC ((l0.getD (((n) : Nat) : Int).toNat am).Facts)))), (bK (done 23) (hown (ga1 23) 35 4 ar 87 6 av aw (((l0.take n).map (fun x : aI => (⟨x.Seq, x.Tick, x.Budget, x.Facts⟩ : aK))) ++ [(⟨(l0.getD ((((n) : Nat) : Int).toNat) am).Seq, (l0.getD ((((n) : Nat) : Int).toNat) am).Tick, (l0.getD ((((n) : Nat) : Int).toNat) am).Budget, ((l0.getD (((n) : Nat) : Int).toNat am).Facts)⟩ : aK)])) (bv J 35 4 ar 87 6 av aw ((l0.take n).map (fun x : aI => (⟨x.Seq, x.Tick, x.Budget, x.Facts⟩ : aK)))))]) (B := fun v_ => (own v_ 35 4 1 (ar (⟨(l0.getD ((((n) : Nat) : Int).toNat) am).Seq, (l0.getD ((((n) : Nat) : Int).toNat) am).Tick, (l0.getD ((((n) : Nat) : Int).toNat) am).Budget, ((l0.getD (((n) : Nat) : Int).toNat am).Facts)⟩ : aK) (sv0.vs (((n) : Nat) : Int).toNat)))) 0 rfl rfl (bx rfl) (fun a => (ap (k := 21) rfl d21 af)) (by simp only [n23, hi, bK]) (bL (sz := 3) (xs := [.tmp 32]) (cs := ar (⟨(l0.getD ((((n) : Nat) : Int).toNat) am).Seq, (l0.getD ((((n) : Nat) : Int).toNat) am).Tick, (l0.getD ((((n) : Nat) : Int).toNat) am).Budget, ((l0.getD (((n) : Nat) : Int).toNat am).Facts)⟩ : aK) (sv0.vs (((n) : Nat) : Int).toNat)) rfl rfl cu cz jY rfl rfl (cN rfl) rfl (by decide)) ?_ rfl (fun v_ => ?_) rfl rfl ?_
        ·rintro _ _ rfl; rfl
        ·simp [up, kI, bK, n23, hi]
        ·rintro _ _ rfl
         exact (ax rfl rfl (ax rfl rfl (ax rfl rfl (ax rfl rfl (ax rfl rfl (ax rfl rfl (ax rfl rfl (ax rfl rfl (ax rfl rfl (ax rfl rfl (ax rfl rfl (ax rfl rfl (ax rfl rfl (ax rfl rfl (ax rfl rfl (ax rfl rfl (ax rfl rfl (ax rfl rfl (ax rfl rfl (ax rfl rfl (ax rfl rfl (ax rfl rfl (dx (ax rfl rfl eQ))))))))))))))))))))))))
       ·intro done hi hc hcu
        have n24 : done 24 = false := aM (m := 24) hc hi rfl rfl
        refine bO (m := 24) (A := Z1_A) n24 rfl ?_
        refine aU (S := fun ga1 => Z1_I ga1 done) fun ga1 => ?_
        have d0 : done 0 = true := aX (j := 0) hcu rfl (by decide) rfl
        have d22 : done 22 = true := aX (j := 22) hcu rfl (by decide) rfl
        exact gU (i := 23) (t := 34) (x := ga1) (L := (fun (ga1 : Nat → Value) (done : Nat → Bool) => [(bK (done 23) emp (bK (done 22) (own (ga1 22) 35 4 1 (ar (⟨(l0.getD ((((n) : Nat) : Int).toNat) am).Seq, (l0.getD ((((n) : Nat) : Int).toNat) am).Tick, (l0.getD ((((n) : Nat) : Int).toNat) am).Budget, ((l0.getD (((n) : Nat) : Int).toNat am).Facts)⟩ : aK) (sv0.vs (((n) : Nat) : Int).toNat))) emp)), (nz sv0 (n + 1) 81 4 al 87 6 an ao l0), (bK (done 23) emp (own (sv0.vs (((n) : Nat) : Int).toNat) 87 6 ((l0.getD (((n) : Nat) : Int).toNat am).Facts).length (fl aC ((l0.getD (((n) : Nat) : Int).toNat am).Facts)))), (bK (done 23) (hown (ga1 23) 35 4 ar 87 6 av aw (((l0.take n).map (fun x : aI => (⟨x.Seq, x.Tick, x.Budget, x.Facts⟩ : aK))) ++ [(⟨(l0.getD ((((n) : Nat) : Int).toNat) am).Seq, (l0.getD ((((n) : Nat) : Int).toNat) am).Tick, (l0.getD ((((n) : Nat) : Int).toNat) am).Budget, ((l0.getD (((n) : Nat) : Int).toNat am).Facts)⟩ : aK)])) (bv J 35 4 ar 87 6 av aw ((l0.take n).map (fun x : aI => (⟨x.Seq, x.Tick, x.Budget, x.Facts⟩ : aK)))))])) (T := (fun ga1 : Nat → Value => [(0, 11, J.sv), (1, 12, sv0.sv), (2, 13, (int .i64 (((n) : Nat) : Int))), (3, 14, (bX sv0.sv (((((n) : Nat) : Int).toNat) * 4))), (4, 15, (bX sv0.sv (((((n) : Nat) : Int).toNat) * 4 + 0))), (5, 16, (int .i64 ((l0.getD ((((n) : Nat) : Int).toNat) am).Seq))), (6, 17, sv0.sv), (7, 18, (int .i64 (((n) : Nat) : Int))), (8, 19, (bX sv0.sv (((((n) : Nat) : Int).toNat) * 4))), (9, 20, (bX sv0.sv (((((n) : Nat) : Int).toNat) * 4 + 1))), (10, 21, (int .i64 ((l0.getD ((((n) : Nat) : Int).toNat) am).Tick))), (11, 22, sv0.sv), (12, 23, (int .i64 (((n) : Nat) : Int))), (13, 24, (bX sv0.sv (((((n) : Nat) : Int).toNat) * 4))), (14, 25, (bX sv0.sv (((((n) : Nat) : Int).toNat) * 4 + 2))), (15, 26, (int .i64 ((l0.getD ((((n) : Nat) : Int).toNat) am).Budget))), (16, 27, sv0.sv), (17, 28, (int .i64 (((n) : Nat) : Int))), (18, 29, (bX sv0.sv (((((n) : Nat) : Int).toNat) * 4))), (19, 30, (bX sv0.sv (((((n) : Nat) : Int).toNat) * 4 + 3))), (20, 31, (sv0.vs (((n) : Nat) : Int).toNat)), (21, 32, (agg #[(int .i64 ((l0.getD ((((n) : Nat) : Int).toNat) am).Seq)), (int .i64 ((l0.getD ((((n) : Nat) : Int).toNat) am).Tick)), (int .i64 ((l0.getD ((((n) : Nat) : Int).toNat) am).Budget)), (sv0.vs (((n) : Nat) : Int).toNat)])), (22, 33, (ga1 22)), (23, 34, (ga1 23))])) (L2 := [(own (ga1 22) 35 4 1 (ar (⟨(l0.getD ((((n) : Nat) : Int).toNat) am).Seq, (l0.getD ((((n) : Nat) : Int).toNat) am).Tick, (l0.getD ((((n) : Nat) : Int).toNat) am).Budget, ((l0.getD (((n) : Nat) : Int).toNat am).Facts)⟩ : aK) (sv0.vs (((n) : Nat) : Int).toNat))), (nz sv0 (n + 1) 81 4 al 87 6 an ao l0), (own (sv0.vs (((n) : Nat) : Int).toNat) 87 6 ((l0.getD (((n) : Nat) : Int).toNat am).Facts).length (fl aC ((l0.getD (((n) : Nat) : Int).toNat am).Facts))), (bv J 35 4 ar 87 6 av aw ((l0.take n).map (fun x : aI => (⟨x.Seq, x.Tick, x.Budget, x.Facts⟩ : aK))))]) rfl rfl (bx rfl) (fun a => (ap (k := 22) rfl d22 (ap (k := 0) rfl d0 af))) (by simp only [d22, hi, bK]) (oU (sz := 3) (fun v_ => [emp, (nz sv0 (n + 1) 81 4 al 87 6 an ao l0), emp, (hown v_ 35 4 ar 87 6 av aw (((l0.take n).map (fun x : aI => (⟨x.Seq, x.Tick, x.Budget, x.Facts⟩ : aK))) ++ [(⟨(l0.getD ((((n) : Nat) : Int).toNat) am).Seq, (l0.getD ((((n) : Nat) : Int).toNat) am).Tick, (l0.getD ((((n) : Nat) : Int).toNat) am).Budget, ((l0.getD (((n) : Nat) : Int).toNat am).Facts)⟩ : aK)]))]) [3, 0, 2, 1] [1, 3, 2, 0] (by decide) (by decide) rfl (fun _ => rfl) rfl rfl cu cz jY rfl oD rfl (jj _ _) c3) rfl rfl fun v_ M_ hM_ => ⟨kI ga1 23 v_, hM_.trans (show [emp, (nz sv0 (n + 1) 81 4 al 87 6 an ao l0), emp, (hown v_ 35 4 ar 87 6 av aw (((l0.take n).map (fun x : aI => (⟨x.Seq, x.Tick, x.Budget, x.Facts⟩ : aK))) ++ [(⟨(l0.getD ((((n) : Nat) : Int).toNat) am).Seq, (l0.getD ((((n) : Nat) : Int).toNat) am).Tick, (l0.getD ((((n) : Nat) : Int).toNat) am).Budget, ((l0.getD (((n) : Nat) : Int).toNat am).Facts)⟩ : aK)]))] = _ by simp [up, kI, bK, d22, hi]), (ax rfl rfl (ax rfl rfl (ax rfl rfl (ax rfl rfl (ax rfl rfl (ax rfl rfl (ax rfl rfl (ax rfl rfl (ax rfl rfl (ax rfl rfl (ax rfl rfl (ax rfl rfl (ax rfl rfl (ax rfl rfl (ax rfl rfl (ax rfl rfl (ax rfl rfl (ax rfl rfl (ax rfl rfl (ax rfl rfl (ax rfl rfl (ax rfl rfl (ax rfl rfl (dx eQ))))))))))))))))))))))))⟩
       ·intro done hi hc hcu
        refine nc (m := 24) (A := Z1_A) (B := Z1_B) hi ?_
        refine rE (A := fun ga1 => Z1_I ga1 done) (B := fun ga1 => St 36 w0 F ((3, (ga1 23)) :: [(0, sv0.sv), (4, (int .i64 (((n) : Nat) : Int))), (5, (int .i64 (((n) : Nat) : Int))), (6, sv0.sv), (7, (int .i64 (l0.length : Int))), (8, (Value.bool (decide ((((n) : Nat) : Int) < (l0.length : Int))))), (11, J.sv), (12, sv0.sv), (13, (int .i64 (((n) : Nat) : Int))), (14, (bX sv0.sv (((((n) : Nat) : Int).toNat) * 4))), (15, (bX sv0.sv (((((n) : Nat) : Int).toNat) * 4 + 0))), (16, (int .i64 ((l0.getD ((((n) : Nat) : Int).toNat) am).Seq))), (17, sv0.sv), (18, (int .i64 (((n) : Nat) : Int))), (19, (bX sv0.sv (((((n) : Nat) : Int).toNat) * 4))), (20, (bX sv0.sv (((((n) : Nat) : Int).toNat) * 4 + 1))), (21, (int .i64 ((l0.getD ((((n) : Nat) : Int).toNat) am).Tick))), (22, sv0.sv), (23, (int .i64 (((n) : Nat) : Int))), (24, (bX sv0.sv (((((n) : Nat) : Int).toNat) * 4))), (25, (bX sv0.sv (((((n) : Nat) : Int).toNat) * 4 + 2))), (26, (int .i64 ((l0.getD ((((n) : Nat) : Int).toNat) am).Budget))), (27, sv0.sv), (28, (int .i64 (((n) : Nat) : Int))), (29, (bX sv0.sv (((((n) : Nat) : Int).toNat) * 4))), (30, (bX sv0.sv (((((n) : Nat) : Int).toNat) * 4 + 3))), (31, (sv0.vs (((n) : Nat) : Int).toNat)), (32, (agg #[(int .i64 ((l0.getD ((((n) : Nat) : Int).toNat) am).Seq)), (int .i64 ((l0.getD ((((n) : Nat) : Int).toNat) am).Tick)), (int .i64 ((l0.getD ((((n) : Nat) : Int).toNat) am).Budget)), (sv0.vs (((n) : Nat) : Int).toNat)])), (33, (ga1 22)), (34, (ga1 23))]) [emp, (nz sv0 (n + 1) 81 4 al 87 6 an ao l0), emp, (hown (ga1 23) 35 4 ar 87 6 av aw (((l0.take n).map (fun x : aI => (⟨x.Seq, x.Tick, x.Budget, x.Facts⟩ : aK))) ++ [(⟨(l0.getD ((((n) : Nat) : Int).toNat) am).Seq, (l0.getD ((((n) : Nat) : Int).toNat) am).Tick, (l0.getD ((((n) : Nat) : Int).toNat) am).Budget, ((l0.getD (((n) : Nat) : Int).toNat am).Facts)⟩ : aK)]))]) fun ga1 => ?_
        have d0 : done 0 = true := aX (j := 0) hcu rfl (by decide) rfl
        have d1 : done 1 = true := aX (j := 1) hcu rfl (by decide) rfl
        have d2 : done 2 = true := aX (j := 2) hcu rfl (by decide) rfl
        have d3 : done 3 = true := aX (j := 3) hcu rfl (by decide) rfl
        have d4 : done 4 = true := aX (j := 4) hcu rfl (by decide) rfl
        have d5 : done 5 = true := aX (j := 5) hcu rfl (by decide) rfl
        have d6 : done 6 = true := aX (j := 6) hcu rfl (by decide) rfl
        have d7 : done 7 = true := aX (j := 7) hcu rfl (by decide) rfl
        have d8 : done 8 = true := aX (j := 8) hcu rfl (by decide) rfl
        have d9 : done 9 = true := aX (j := 9) hcu rfl (by decide) rfl
        have d10 : done 10 = true := aX (j := 10) hcu rfl (by decide) rfl
        have d11 : done 11 = true := aX (j := 11) hcu rfl (by decide) rfl
        have d12 : done 12 = true := aX (j := 12) hcu rfl (by decide) rfl
        have d13 : done 13 = true := aX (j := 13) hcu rfl (by decide) rfl
        have d14 : done 14 = true := aX (j := 14) hcu rfl (by decide) rfl
        have d15 : done 15 = true := aX (j := 15) hcu rfl (by decide) rfl
        have d16 : done 16 = true := aX (j := 16) hcu rfl (by decide) rfl
        have d17 : done 17 = true := aX (j := 17) hcu rfl (by decide) rfl
        have d18 : done 18 = true := aX (j := 18) hcu rfl (by decide) rfl
        have d19 : done 19 = true := aX (j := 19) hcu rfl (by decide) rfl
        have d20 : done 20 = true := aX (j := 20) hcu rfl (by decide) rfl
        have d21 : done 21 = true := aX (j := 21) hcu rfl (by decide) rfl
        have d22 : done 22 = true := aX (j := 22) hcu rfl (by decide) rfl
        have d23 : done 23 = true := aX (j := 23) hcu rfl (by decide) rfl
        exact oE (i := 24) (t := 3) (v := (ga1 23)) (L2 := [emp, (nz sv0 (n + 1) 81 4 al 87 6 an ao l0), emp, (hown (ga1 23) 35 4 ar 87 6 av aw (((l0.take n).map (fun x : aI => (⟨x.Seq, x.Tick, x.Budget, x.Facts⟩ : aK))) ++ [(⟨(l0.getD ((((n) : Nat) : Int).toNat) am).Seq, (l0.getD ((((n) : Nat) : Int).toNat) am).Tick, (l0.getD ((((n) : Nat) : Int).toNat) am).Budget, ((l0.getD (((n) : Nat) : Int).toNat am).Facts)⟩ : aK)]))]) rfl rfl (bx rfl) (by simp only [d22, d23, bK]) (fun a => (ap (k := 23) rfl d23 af)) (fun a h_ => (kV.sub (ρ := [(11, J.sv), (12, sv0.sv), (13, (int .i64 (((n) : Nat) : Int))), (14, (bX sv0.sv (((((n) : Nat) : Int).toNat) * 4))), (15, (bX sv0.sv (((((n) : Nat) : Int).toNat) * 4 + 0))), (16, (int .i64 ((l0.getD ((((n) : Nat) : Int).toNat) am).Seq))), (17, sv0.sv), (18, (int .i64 (((n) : Nat) : Int))), (19, (bX sv0.sv (((((n) : Nat) : Int).toNat) * 4))), (20, (bX sv0.sv (((((n) : Nat) : Int).toNat) * 4 + 1))), (21, (int .i64 ((l0.getD ((((n) : Nat) : Int).toNat) am).Tick))), (22, sv0.sv), (23, (int .i64 (((n) : Nat) : Int))), (24, (bX sv0.sv (((((n) : Nat) : Int).toNat) * 4))), (25, (bX sv0.sv (((((n) : Nat) : Int).toNat) * 4 + 2))), (26, (int .i64 ((l0.getD ((((n) : Nat) : Int).toNat) am).Budget))), (27, sv0.sv), (28, (int .i64 (((n) : Nat) : Int))), (29, (bX sv0.sv (((((n) : Nat) : Int).toNat) * 4))), (30, (bX sv0.sv (((((n) : Nat) : Int).toNat) * 4 + 3))), (31, (sv0.vs (((n) : Nat) : Int).toNat)), (32, (agg #[(int .i64 ((l0.getD ((((n) : Nat) : Int).toNat) am).Seq)), (int .i64 ((l0.getD ((((n) : Nat) : Int).toNat) am).Tick)), (int .i64 ((l0.getD ((((n) : Nat) : Int).toNat) am).Budget)), (sv0.vs (((n) : Nat) : Int).toNat)])), (33, (ga1 22)), (34, (ga1 23))] ++ [(0, sv0.sv), (3, J.sv), (4, (int .i64 (((n) : Nat) : Int))), (5, (int .i64 (((n) : Nat) : Int))), (6, sv0.sv), (7, (int .i64 (l0.length : Int))), (8, (Value.bool (decide ((((n) : Nat) : Int) < (l0.length : Int)))))]) (((ap (k := 0) rfl d0 (ap (k := 1) rfl d1 (ap (k := 2) rfl d2 (ap (k := 3) rfl d3 (ap (k := 4) rfl d4 (ap (k := 5) rfl d5 (ap (k := 6) rfl d6 (ap (k := 7) rfl d7 (ap (k := 8) rfl d8 (ap (k := 9) rfl d9 (ap (k := 10) rfl d10 (ap (k := 11) rfl d11 (ap (k := 12) rfl d12 (ap (k := 13) rfl d13 (ap (k := 14) rfl d14 (ap (k := 15) rfl d15 (ap (k := 16) rfl d16 (ap (k := 17) rfl d17 (ap (k := 18) rfl d18 (ap (k := 19) rfl d19 (ap (k := 20) rfl d20 (ap (k := 21) rfl d21 (ap (k := 22) rfl d22 (ap (k := 23) rfl d23 af)))))))))))))))))))))))) : mF a _ _ _ → kV a ([(11, J.sv), (12, sv0.sv), (13, (int .i64 (((n) : Nat) : Int))), (14, (bX sv0.sv (((((n) : Nat) : Int).toNat) * 4))), (15, (bX sv0.sv (((((n) : Nat) : Int).toNat) * 4 + 0))), (16, (int .i64 ((l0.getD ((((n) : Nat) : Int).toNat) am).Seq))), (17, sv0.sv), (18, (int .i64 (((n) : Nat) : Int))), (19, (bX sv0.sv (((((n) : Nat) : Int).toNat) * 4))), (20, (bX sv0.sv (((((n) : Nat) : Int).toNat) * 4 + 1))), (21, (int .i64 ((l0.getD ((((n) : Nat) : Int).toNat) am).Tick))), (22, sv0.sv), (23, (int .i64 (((n) : Nat) : Int))), (24, (bX sv0.sv (((((n) : Nat) : Int).toNat) * 4))), (25, (bX sv0.sv (((((n) : Nat) : Int).toNat) * 4 + 2))), (26, (int .i64 ((l0.getD ((((n) : Nat) : Int).toNat) am).Budget))), (27, sv0.sv), (28, (int .i64 (((n) : Nat) : Int))), (29, (bX sv0.sv (((((n) : Nat) : Int).toNat) * 4))), (30, (bX sv0.sv (((((n) : Nat) : Int).toNat) * 4 + 3))), (31, (sv0.vs (((n) : Nat) : Int).toNat)), (32, (agg #[(int .i64 ((l0.getD ((((n) : Nat) : Int).toNat) am).Seq)), (int .i64 ((l0.getD ((((n) : Nat) : Int).toNat) am).Tick)), (int .i64 ((l0.getD ((((n) : Nat) : Int).toNat) am).Budget)), (sv0.vs (((n) : Nat) : Int).toNat)])), (33, (ga1 22)), (34, (ga1 23))] ++ [(0, sv0.sv), (3, J.sv), (4, (int .i64 (((n) : Nat) : Int))), (5, (int .i64 (((n) : Nat) : Int))), (6, sv0.sv), (7, (int .i64 (l0.length : Int))), (8, (Value.bool (decide ((((n) : Nat) : Int) < (l0.length : Int)))))])) h_) (vS [0,4,5,6,7,8,11,12,13,14,15,16,17,18,19,20,21,22,23,24,25,26,27,28,29,30,31,32,33,34] rfl))) (cY rfl) rfl
      ·intro done hall
       refine od (A := Z1_A) (B := Z1_B) (hall 24 (by decide)) ?_
       refine aU fun ga1 => ?_
       refine no 3 rfl fun sv2 hsv2 => ?_
       rw [← hsv2]
       refine et [emp, (nz sv0 (n + 1) 81 4 al 87 6 an ao l0), emp, (bv sv2 35 4 ar 87 6 av aw (((l0.take n).map (fun x : aI => (⟨x.Seq, x.Tick, x.Budget, x.Facts⟩ : aK))) ++ [(⟨(l0.getD ((((n) : Nat) : Int).toNat) am).Seq, (l0.getD ((((n) : Nat) : Int).toNat) am).Tick, (l0.getD ((((n) : Nat) : Int).toNat) am).Budget, ((l0.getD (((n) : Nat) : Int).toNat am).Facts)⟩ : aK)]))] rfl ?_
       refine ae ?_
       refine vM rfl rfl ?_
       refine vV (mO (m' := (((n + 1) : Nat) : Int)) rfl rfl (ci _ _ _) (by rewrite [IntKind.wrap_i64]; omega)) rfl ?_
       refine vA rfl rfl ?_
       refine ai ?_
       refine kL 3 _ (bv sv2 35 4 ar 87 6 av aw ((l0.take (n + 1)).map (fun x : aI => (⟨x.Seq, x.Tick, x.Budget, x.Facts⟩ : aK)))) rfl (by rw [List.take_succ_eq_append_getElem hn_, List.map_append, ← Ac hn_ am]; exact fun o s h => h) rfl ?_
       exact vF [1, 3] rfl rfl (vS [0,3,4] rfl) fun a w h => ⟨l0.length - (n + 1), by omega, n + 1, sv2, ⟨by omega, rfl⟩, h⟩
     ·exfalso
      have hbl : ((l0.take n).map (fun x : aI => (⟨x.Seq, x.Tick, x.Budget, x.Facts⟩ : aK))).length = (l0.take n).length := List.length_map _
      rw [List.length_take] at hbl
      omega
    ·exfalso
     have hbl : ((l0.take n).map (fun x : aI => (⟨x.Seq, x.Tick, x.Budget, x.Facts⟩ : aK))).length = (l0.take n).length := List.length_map _
     rw [List.length_take] at hbl
     omega
   ·refine ay rfl (dF c1) ?_
    refine bT ?_
    refine ag ?_
    refine ae ?_
    refine vM rfl rfl ?_
    refine vA rfl rfl ?_
    refine ai ?_
    refine aH ?_
    have hn_ : n = l0.length := by omega
    subst hn_
    refine kL 1 _ (bv J 35 4 ar 87 6 av aw (l0.map (fun x : aI => (⟨x.Seq, x.Tick, x.Budget, x.Facts⟩ : aK)))) rfl (by rw [List.take_length]; exact fun o s h => h) rfl ?_
    refine vP [1] rfl rfl ?_
    exact aT rfl rfl ⟨J, rfl, rfl⟩
 ·cases H
theorem cx.spec (K p0 : Nat) (sv0 : Value) (p0_0 : Int) (l0 : List aF) (p0_2 : Int) (r : List aK) (H : cx K p0_0 l0 p0_2 = some r) : bp Tryz.prog 47 [pt p0 0] [box p0 96 [I p0_0,sv0,I p0_2],own sv0 151 9 l0.length (fl ak l0)] (fun v M => ∃ sv103 : JG,v = sv103.sv ∧ M = [box p0 96 [I p0_0,sv0,I p0_2],own sv0 151 9 l0.length (fl ak l0),(bv sv103 35 4 ar 87 6 av aw r)]) := by
 unfold cx at H
 refine bo Tryz.func47 rfl 64 rfl (nL rfl) fun F w0 => ?_
 show cB (St 64 w0 F [(0,pt p0 0)] [box p0 96 [I p0_0,sv0,I p0_2],own sv0 151 9 l0.length (fl ak l0)]) _
 refine ag (ae (vA rfl rfl (ai (ag (ae (vA rfl rfl (ai (ag (ag (ae (vA rfl rfl ?_)))))))))))
 refine ai (be ?_)
 refine cf (fun k a w => ∃ i18,∃ l17,∃ sv165 : JG,cZ K l0 k i18 l17 = some r ∧ St 64 w0 F [(0,pt p0 0),(3,sv165.sv),(4,I i18)] [box p0 96 [I p0_0,sv0,I p0_2],own sv0 151 9 l0.length (fl ak l0),(bv sv165 35 4 ar 87 6 av aw l17)] a w) K ?_ ?_
 ·refine lK 35 4 ar 87 6 av aw ?_
  exact vF [1,2,0] rfl rfl (vS [0,3,4] rfl) fun a w h => ⟨_,_,nr,H,h⟩
 ·refine fun k => aU fun i18 => aU fun l17 => aU fun sv165 => cv fun H18 => ?_
  let C6_ : List Value := [I ((l0.getD i18.toNat aa).Seq),I ((l0.getD i18.toNat aa).Tick),I ((l0.getD i18.toNat aa).Budget)]
  let C5_ : List Value := [I ((l0.getD i18.toNat aa).Seq),I ((l0.getD i18.toNat aa).Tick),I ((l0.getD i18.toNat aa).Budget),L0]
  let C4_ : Value := agg #[I ((((l0.getD i18.toNat aa).F).Key).Hour),cW ((((l0.getD i18.toNat aa).F).Key).Dims_0),cW ((((l0.getD i18.toNat aa).F).Key).Dims_1),cW ((((l0.getD i18.toNat aa).F).Key).Dims_2),cW ((((l0.getD i18.toNat aa).F).Key).Dims_3),I (((l0.getD i18.toNat aa).F).Value)]
  let C3_ : Value := agg #[I ((l0.getD i18.toNat aa).Seq),I ((l0.getD i18.toNat aa).Tick),I ((l0.getD i18.toNat aa).Budget),I ((((l0.getD i18.toNat aa).F).Key).Hour),cW ((((l0.getD i18.toNat aa).F).Key).Dims_0),cW ((((l0.getD i18.toNat aa).F).Key).Dims_1),cW ((((l0.getD i18.toNat aa).F).Key).Dims_2),cW ((((l0.getD i18.toNat aa).F).Key).Dims_3),I (((l0.getD i18.toNat aa).F).Value)]
  let C0_ : List Value := [I ((l0.getD i18.toNat aa).Seq),I ((l0.getD i18.toNat aa).Tick),I ((l0.getD i18.toNat aa).Budget),I ((((l0.getD i18.toNat aa).F).Key).Hour),cW ((((l0.getD i18.toNat aa).F).Key).Dims_0),cW ((((l0.getD i18.toNat aa).F).Key).Dims_1),cW ((((l0.getD i18.toNat aa).F).Key).Dims_2),cW ((((l0.getD i18.toNat aa).F).Key).Dims_3),I (((l0.getD i18.toNat aa).F).Value)]
  cases k with
  | zero => exact absurd H18 (by simp [C6_,C5_,C4_,C3_,C0_,cZ])
  | succ k =>
   rw [cZ] at H18
   refine ag (ag (ae (vM rfl rfl (vM rfl rfl (vV (bq rfl) rfl (vV (az (sz := 0) (o := 0) rfl dn ed) rfl (vV (aP (v := sv0) rfl iE (aJ (i := 0) rfl rfl)) rfl (vV (cp 1 rfl cV rfl (aQ 151)) rfl (vV (aG rfl rfl (cI _ _ _)) rfl (ai ?_))))))))))
   refine gN H18 (fun c280 H18 => ?_) fun c280 H18 => ?_
   ·refine ay rfl (dF c280) (bT (ag (ae (vM rfl rfl (vA rfl rfl (ai (aH ?_)))))))
    cases H18
    refine vP [0,1,2] rfl rfl ?_
    exact aT rfl rfl ⟨sv165,rfl,rfl⟩
   refine aA rfl (dT c280) (aV (ag (be (ag (ae (vM rfl rfl (vV (bq rfl) rfl (vV (az (sz := 0) (o := 0) rfl dn ed) rfl (vV (aP (v := sv0) rfl iE (aJ (i := 0) rfl rfl)) rfl (vM rfl rfl ?_))))))))))
   obtain ⟨c297,H18⟩ := gq H18
   refine vV (bf (sz := 8) 1 rfl rfl cV dj rfl (aQ 151) c297 c280) rfl ?_
   refine vV (bi (vs := C0_) rfl mZ dj (bE (i := 1) rfl (aQ 151) (by simp [C6_,C5_,C4_,C3_,C0_]) (dS bJ (bB c297 c280) rfl))) rfl ?_
   refine aO (dP ip) rfl rfl rfl ?_
   rintro _ _ ⟨b39,rfl,rfl⟩
   let C2_ : List HP := [box b39 151 C0_,box p0 96 [I p0_0,sv0,I p0_2],own sv0 151 9 l0.length (fl ak l0),(bv sv165 35 4 ar 87 6 av aw l17)]
   refine cj (cm (cs := [I 0,I 0,I 0,I 0,S0,S0,S0,S0,I 0]) (cs' := C0_) (us := C0_) (L' := C2_) 0 rfl rfl rfl (dL rfl) dj rfl rfl (by simp [C6_,C5_,C4_,C3_,C0_,C2_]) rfl) rfl rfl ?_
   rintro _ _ rfl
   refine ai (ag (ae (vM rfl rfl (vV (cp 3 rfl cu rfl bt) rfl (vV (aG rfl rfl (jZ _ _ _) ) rfl (vA rfl rfl (ai ?_)))))))
   obtain ⟨x16,H20,H18⟩ := oB H18
   refine cn (fun a w => ∃ sv200 : JG,∃ b40 : Nat,St 64 w0 F [(0,pt p0 0),(3,sv200.sv),(4,I i18),(5,pt b40 0),(6,I x16.1)] [box p0 96 [I p0_0,sv0,I p0_2],own sv0 151 9 l0.length (fl ak l0),(bv sv200 35 4 ar 87 6 av aw x16.2),box b40 151 C0_] a w) ?_ ?_
   ·refine ag ?_
    refine iu H20 (fun c304 H20 => ?_) fun c304 H20 => ?_
    ·refine ce 12 rfl (fun done a w => kH 64 w0 F [(0,pt p0 0),(3,sv165.sv),(4,I i18),(5,pt b39 0),(6,I (ba ((l17.length : Int) - 1))),(7,I i18),(8,pt p0 0),(9,pt p0 0),(10,pt p0 1),(11,sv0),(12,I (l0.length : Int)),(13,Value.bool (decide (i18 < (l0.length : Int)))),(16,pt p0 0),(17,pt p0 0),(18,pt p0 1),(19,sv0),(20,I i18),(21,(bX sv0 (i18.toNat * 9))),(22,C3_),(23,sv165.sv),(24,I (l17.length : Int)),(25,I (ba ((l17.length : Int) - 1)))] [(0,26,I (ba ((l17.length : Int) - 1))),(1,27,Value.bool (decide ((ba ((l17.length : Int) - 1)) < 0))),(2,28,Value.bool (decide ((ba ((l17.length : Int) - 1)) < 0))),(3,29,undef),(4,30,undef),(5,31,undef),(6,32,undef),(7,33,undef),(8,34,undef),(9,35,undef),(10,36,undef),(11,37,bool true)] done C2_ a w) (by kernel_rfl) (by kernel_rfl) (cy (vS [0,3,4,5,6,7,8,9,10,11,12,13,16,17,18,19,20,21,22,23,24,25] rfl) rfl) ?_ ?_
     ·refine ⟨?_,?_,?_,?_,?_,?_,?_,?_,?_,?_,?_,?_,trivial⟩
      ·exact fun done hi hc hcu => dV 0 rfl rfl rfl rfl (fun a => af) (aL rfl) rfl rfl rfl rfl
      ·exact fun done hi hc hcu => dV 1 rfl rfl rfl rfl (fun a => (hD 0 hcu rfl rfl rfl rfl af)) (aG rfl rfl (cI _ _ _)) rfl rfl rfl rfl
      ·exact fun done hi hc hcu => dV 2 rfl rfl rfl rfl (fun a => (hD 1 hcu rfl rfl rfl rfl af)) (aL rfl) rfl rfl rfl rfl
      ·exact fun done hi hc hcu => bk (i := 3) (t := 29) rfl rfl (bh rfl rfl rfl (dT c304)) (fun a => (hD 2 hcu rfl rfl rfl rfl af)) rfl rfl (oT 3 rfl rfl rfl)
      ·exact fun done hi hc hcu => bk (i := 4) (t := 30) rfl rfl (bh rfl rfl rfl (dT c304)) (fun a => (hD 2 hcu rfl rfl rfl rfl af)) rfl rfl (oT 4 rfl rfl rfl)
      ·exact fun done hi hc hcu => bk (i := 5) (t := 31) rfl rfl (bh rfl rfl rfl (dT c304)) (fun a => (hD 2 hcu rfl rfl rfl rfl af)) rfl rfl (oT 5 rfl rfl rfl)
      ·exact fun done hi hc hcu => bk (i := 6) (t := 32) rfl rfl (bh rfl rfl rfl (dT c304)) (fun a => (hD 2 hcu rfl rfl rfl rfl af)) rfl rfl (oT 6 rfl rfl rfl)
      ·exact fun done hi hc hcu => bk (i := 7) (t := 33) rfl rfl (bh rfl rfl rfl (dT c304)) (fun a => (hD 2 hcu rfl rfl rfl rfl af)) rfl rfl (oT 7 rfl rfl rfl)
      ·exact fun done hi hc hcu => bk (i := 8) (t := 34) rfl rfl (bh rfl rfl rfl (dT c304)) (fun a => (hD 2 hcu rfl rfl rfl rfl af)) rfl rfl (oT 8 rfl rfl rfl)
      ·exact fun done hi hc hcu => bk (i := 9) (t := 35) rfl rfl (bh rfl rfl rfl (dT c304)) (fun a => (hD 2 hcu rfl rfl rfl rfl af)) rfl rfl (oT 9 rfl rfl rfl)
      ·exact fun done hi hc hcu => bk (i := 10) (t := 36) rfl rfl (bh rfl rfl rfl (dT c304)) (fun a => (hD 2 hcu rfl rfl rfl rfl af)) rfl rfl (oT 10 rfl rfl rfl)
      ·exact fun done hi hc hcu => dV 11 rfl rfl rfl rfl (fun a => (hD 10 hcu rfl rfl rfl rfl (hD 2 hcu rfl rfl rfl rfl af))) (aN rfl rfl rfl (cb (dT c304))) rfl rfl rfl rfl
     ·intro done hall
      refine ck C2_ rfl (hL hall rfl) ?_
      refine aA rfl rfl (ag (ae (vM rfl rfl (vV (az (sz := 0) (o := 0) rfl lV bd) rfl (vV (aP (v := (I ((l0.getD i18.toNat aa).Seq))) rfl bl (aJ (i := 0) rfl rfl)) rfl (vV (az (sz := 0) (o := 0) rfl ox bd) rfl (vV (aP (v := (I ((l0.getD i18.toNat aa).Tick))) rfl bl (aJ (i := 0) rfl rfl)) rfl (vV (az (sz := 0) (o := 0) rfl oy bd) rfl (vV (aP (v := (I ((l0.getD i18.toNat aa).Budget))) rfl bl (aJ (i := 0) rfl rfl)) rfl (vV (eO (is := [0,1,2]) (xs := [.tmp 40,.tmp 42,.tmp 44]) (vs := C6_) rfl rfl (cC (cs := C5_) jY mN rfl)) rfl ?_))))))))))
      refine cP 87 6 ?_
      refine aO (bL (sz := 3) (xs := [.tmp 45]) (cs := ar (⟨(l0.getD i18.toNat aa).Seq,(l0.getD i18.toNat aa).Tick,(l0.getD i18.toNat aa).Budget,[]⟩ : aK) L0) rfl rfl cu cz jY rfl rfl (cN rfl) rfl (by decide)) rfl rfl rfl ?_
      rintro sv201 _ rfl
      refine et [own sv201 35 4 1 (ar (⟨(l0.getD i18.toNat aa).Seq,(l0.getD i18.toNat aa).Tick,(l0.getD i18.toNat aa).Budget,[]⟩ : aK) L0),own L0 87 6 ([] : List aB).length (fl aC ([] : List aB)),box b39 151 C0_,box p0 96 [I p0_0,sv0,I p0_2],own sv0 151 9 l0.length (fl ak l0),(bv sv165 35 4 ar 87 6 av aw l17)] rfl ?_
      obtain ⟨c305,H20⟩ := gq H20
      refine aO (lP (sz := 3) [5,0,1,2,3,4] (by decide) rfl rfl rfl cu cz jY rfl oD rfl (jj _ _) c305) rfl rfl rfl ?_
      rintro _ _ ⟨sv202,rfl,rfl⟩
      refine et [(bv sv202 35 4 ar 87 6 av aw (l17 ++ [(⟨(l0.getD i18.toNat aa).Seq,(l0.getD i18.toNat aa).Tick,(l0.getD i18.toNat aa).Budget,[]⟩ : aK)])),box b39 151 C0_,box p0 96 [I p0_0,sv0,I p0_2],own sv0 151 9 l0.length (fl ak l0)] rfl ?_
      refine vA rfl rfl (ai (ae (vM rfl rfl (vV (aG rfl rfl (ci _ _ _) ) rfl (vA rfl rfl (ai ?_))))))
      cases H20
      exact vF [2,3,0,1] rfl rfl (vS [0,3,4,5,6] rfl) fun a w h => ⟨sv202,_,h⟩
    obtain ⟨c306,H20⟩ := gq H20
    obtain ⟨c307,H20⟩ := gq H20
    refine ce 12 rfl (fun done a w => kH 64 w0 F [(0,pt p0 0),(3,sv165.sv),(4,I i18),(5,pt b39 0),(6,I (ba ((l17.length : Int) - 1))),(7,I i18),(8,pt p0 0),(9,pt p0 0),(10,pt p0 1),(11,sv0),(12,I (l0.length : Int)),(13,Value.bool (decide (i18 < (l0.length : Int)))),(16,pt p0 0),(17,pt p0 0),(18,pt p0 1),(19,sv0),(20,I i18),(21,(bX sv0 (i18.toNat * 9))),(22,C3_),(23,sv165.sv),(24,I (l17.length : Int)),(25,I (ba ((l17.length : Int) - 1)))] [(0,26,I (ba ((l17.length : Int) - 1))),(1,27,Value.bool (decide ((ba ((l17.length : Int) - 1)) < 0))),(2,28,Value.bool (decide ((ba ((l17.length : Int) - 1)) < 0))),(3,29,sv165.sv),(4,30,I (ba ((l17.length : Int) - 1))),(5,31,(bX sv165.sv (((ba ((l17.length : Int) - 1)).toNat) * 4))),(6,32,(bX sv165.sv (((ba ((l17.length : Int) - 1)).toNat) * 4 + 0))),(7,33,I ((l17.getD ((ba ((l17.length : Int) - 1)).toNat) aj).Seq)),(8,34,pt b39 0),(9,35,I ((l0.getD i18.toNat aa).Seq)),(10,36,bool (((l17.getD ((ba ((l17.length : Int) - 1)).toNat) aj).Seq) != ((l0.getD i18.toNat aa).Seq))),(11,37,bool (((l17.getD ((ba ((l17.length : Int) - 1)).toNat) aj).Seq) != ((l0.getD i18.toNat aa).Seq)))] done C2_ a w) (by kernel_rfl) (by kernel_rfl) (cy (vS [0,3,4,5,6,7,8,9,10,11,12,13,16,17,18,19,20,21,22,23,24,25] rfl) rfl) ?_ ?_
    ·refine ⟨?_,?_,?_,?_,?_,?_,?_,?_,?_,?_,?_,?_,trivial⟩
     ·exact fun done hi hc hcu => dV 0 rfl rfl rfl rfl (fun a => af) (aL rfl) rfl rfl rfl rfl
     ·exact fun done hi hc hcu => dV 1 rfl rfl rfl rfl (fun a => (hD 0 hcu rfl rfl rfl rfl af)) (aG rfl rfl (cI _ _ _)) rfl rfl rfl rfl
     ·exact fun done hi hc hcu => dV 2 rfl rfl rfl rfl (fun a => (hD 1 hcu rfl rfl rfl rfl af)) (aL rfl) rfl rfl rfl rfl
     ·exact fun done hi hc hcu => aY (i := 3) (t := 29) (v := sv165.sv) rfl rfl (bg rfl rfl rfl (dF c304)) (fun a => (hD 2 hcu rfl rfl rfl rfl af)) (aL rfl) rfl rfl (oT 3 rfl rfl rfl)
     ·exact fun done hi hc hcu => aY (i := 4) (t := 30) (v := (I (ba ((l17.length : Int) - 1)))) rfl rfl (bg rfl rfl rfl (dF c304)) (fun a => (hD 2 hcu rfl rfl rfl rfl af)) (aL rfl) rfl rfl (oT 4 rfl rfl rfl)
     ·exact fun done hi hc hcu => aY (i := 5) (t := 31) (v := (bX sv165.sv (((ba ((l17.length : Int) - 1)).toNat) * 4))) rfl rfl (bg rfl rfl rfl (dF c304)) (fun a => (hD 2 hcu rfl rfl rfl rfl (hD 4 hcu rfl rfl rfl rfl (hD 3 hcu rfl rfl rfl rfl af)))) (bf (sz := 3) 3 rfl rfl cu cz rfl bt c306 c307) rfl rfl (oT 5 rfl rfl rfl)
     ·exact fun done hi hc hcu => aY (i := 6) (t := 32) (v := (bX sv165.sv (((ba ((l17.length : Int) - 1)).toNat) * 4 + 0))) rfl rfl (bg rfl rfl rfl (dF c304)) (fun a => (hD 2 hcu rfl rfl rfl rfl (hD 5 hcu rfl rfl rfl rfl af))) (br (sz := 0) (k0 := ((ba ((l17.length : Int) - 1)).toNat) * 4) (off := 0) 3 rfl eU bd rfl bt (gt aR (bB c306 c307))) rfl rfl (oT 6 rfl rfl rfl)
     ·exact fun done hi hc hcu => aY (i := 7) (t := 33) (v := (I ((l17.getD ((ba ((l17.length : Int) - 1)).toNat) aj).Seq))) rfl rfl (bg rfl rfl rfl (dF c304)) (fun a => (hD 2 hcu rfl rfl rfl rfl (hD 6 hcu rfl rfl rfl rfl af))) (aP (v := (I ((l17.getD ((ba ((l17.length : Int) - 1)).toNat) aj).Seq))) rfl bl (bE (i := 3) rfl bt (by simp [C6_,C5_,C4_,C3_,C0_,C2_]) (iG (off := 0) (z := aj) aR (bB c306 c307) rfl))) rfl rfl (oT 7 rfl rfl rfl)
     ·exact fun done hi hc hcu => aY (i := 8) (t := 34) (v := (pt b39 0)) rfl rfl (bg rfl rfl rfl (dF c304)) (fun a => (hD 2 hcu rfl rfl rfl rfl af)) (az (sz := 0) (o := 0) rfl lV bd) rfl rfl (oT 8 rfl rfl rfl)
     ·exact fun done hi hc hcu => aY (i := 9) (t := 35) (v := (I ((l0.getD i18.toNat aa).Seq))) rfl rfl (bg rfl rfl rfl (dF c304)) (fun a => (hD 2 hcu rfl rfl rfl rfl (hD 8 hcu rfl rfl rfl rfl af))) (aP (v := (I ((l0.getD i18.toNat aa).Seq))) rfl bl (aJ (i := 0) rfl rfl)) rfl rfl (oT 9 rfl rfl rfl)
     ·exact fun done hi hc hcu => aY (i := 10) (t := 36) (v := (bool (((l17.getD ((ba ((l17.length : Int) - 1)).toNat) aj).Seq) != ((l0.getD i18.toNat aa).Seq)))) rfl rfl (bg rfl rfl rfl (dF c304)) (fun a => (hD 2 hcu rfl rfl rfl rfl (hD 9 hcu rfl rfl rfl rfl (hD 7 hcu rfl rfl rfl rfl af)))) (aG rfl rfl (jn _ _ _)) rfl rfl (oT 10 rfl rfl rfl)
     ·exact fun done hi hc hcu => dV 11 rfl rfl rfl rfl (fun a => (hD 10 hcu rfl rfl rfl rfl (hD 2 hcu rfl rfl rfl rfl af))) (aN rfl rfl rfl (bV (dF c304))) rfl rfl rfl rfl
    ·intro done hall
     refine ck C2_ rfl (hL hall rfl) ?_
     refine gN H20 (fun c308 H20 => ?_) fun c308 H20 => ?_
     ·refine ay rfl (ef c308) (aV ?_)
      cases H20
      exact vF [1,2,3,0] rfl rfl (vS [0,3,4,5,6] rfl) fun a w h => ⟨sv165,_,h⟩
     refine aA rfl (iC c308) (ag (ae (vM rfl rfl (vV (az (sz := 0) (o := 0) rfl lV bd) rfl (vV (aP (v := (I ((l0.getD i18.toNat aa).Seq))) rfl bl (aJ (i := 0) rfl rfl)) rfl (vV (az (sz := 0) (o := 0) rfl ox bd) rfl (vV (aP (v := (I ((l0.getD i18.toNat aa).Tick))) rfl bl (aJ (i := 0) rfl rfl)) rfl (vV (az (sz := 0) (o := 0) rfl oy bd) rfl (vV (aP (v := (I ((l0.getD i18.toNat aa).Budget))) rfl bl (aJ (i := 0) rfl rfl)) rfl (vV (eO (is := [0,1,2]) (xs := [.tmp 40,.tmp 42,.tmp 44]) (vs := C6_) rfl rfl (cC (cs := C5_) jY mN rfl)) rfl ?_))))))))))
     refine cP 87 6 ?_
     refine aO (bL (sz := 3) (xs := [.tmp 45]) (cs := ar (⟨(l0.getD i18.toNat aa).Seq,(l0.getD i18.toNat aa).Tick,(l0.getD i18.toNat aa).Budget,[]⟩ : aK) L0) rfl rfl cu cz jY rfl rfl (cN rfl) rfl (by decide)) rfl rfl rfl ?_
     rintro sv203 _ rfl
     refine et [own sv203 35 4 1 (ar (⟨(l0.getD i18.toNat aa).Seq,(l0.getD i18.toNat aa).Tick,(l0.getD i18.toNat aa).Budget,[]⟩ : aK) L0),own L0 87 6 ([] : List aB).length (fl aC ([] : List aB)),box b39 151 C0_,box p0 96 [I p0_0,sv0,I p0_2],own sv0 151 9 l0.length (fl ak l0),(bv sv165 35 4 ar 87 6 av aw l17)] rfl ?_
     obtain ⟨c309,H20⟩ := gq H20
     refine aO (lP (sz := 3) [5,0,1,2,3,4] (by decide) rfl rfl rfl cu cz jY rfl oD rfl (jj _ _) c309) rfl rfl rfl ?_
     rintro _ _ ⟨sv204,rfl,rfl⟩
     refine et [(bv sv204 35 4 ar 87 6 av aw (l17 ++ [(⟨(l0.getD i18.toNat aa).Seq,(l0.getD i18.toNat aa).Tick,(l0.getD i18.toNat aa).Budget,[]⟩ : aK)])),box b39 151 C0_,box p0 96 [I p0_0,sv0,I p0_2],own sv0 151 9 l0.length (fl ak l0)] rfl ?_
     refine vA rfl rfl (ai (ae (vM rfl rfl (vV (aG rfl rfl (ci _ _ _) ) rfl (vA rfl rfl (ai ?_))))))
     cases H20
     exact vF [2,3,0,1] rfl rfl (vS [0,3,4,5,6] rfl) fun a w h => ⟨sv204,_,h⟩
   ·refine aU fun sv200 => aU fun b40 => ?_
    obtain ⟨c310,H18⟩ := gq H18
    obtain ⟨c311,H18⟩ := gq H18
    obtain ⟨c312,H18⟩ := gq H18
    let Z104_T : DT := fun ga24 => [(0,50,sv200.sv),(1,51,I x16.1),(2,52,sv200.sv),(3,53,I x16.1),(4,54,(bX sv200.sv (x16.1.toNat * 4))),(5,55,(bX sv200.sv (x16.1.toNat * 4 + 3))),(6,56,(sv200.vs x16.1.toNat)),(7,57,pt b40 3),(8,58,C4_),(9,59,(ga24 9)),(10,60,(ga24 10)),(11,61,(bX sv200.sv (x16.1.toNat * 4))),(12,62,(bX sv200.sv (x16.1.toNat * 4 + 3)))]
    let Z104_L : DL := fun ga24 done => [bK (done 9) (own (ga24 9) 87 6 [(⟨(⟨(((l0.getD i18.toNat aa).F).Key).Hour,(((l0.getD i18.toNat aa).F).Key).Dims_0,(((l0.getD i18.toNat aa).F).Key).Dims_1,(((l0.getD i18.toNat aa).F).Key).Dims_2,(((l0.getD i18.toNat aa).F).Key).Dims_3⟩ : bc),((l0.getD i18.toNat aa).F).Value⟩ : aB)].length (fl aC [(⟨(⟨(((l0.getD i18.toNat aa).F).Key).Hour,(((l0.getD i18.toNat aa).F).Key).Dims_0,(((l0.getD i18.toNat aa).F).Key).Dims_1,(((l0.getD i18.toNat aa).F).Key).Dims_2,(((l0.getD i18.toNat aa).F).Key).Dims_3⟩ : bc),((l0.getD i18.toNat aa).F).Value⟩ : aB)])) emp,box p0 96 [I p0_0,sv0,I p0_2],own sv0 151 9 l0.length (fl ak l0),bK (done 13) (bv (JG.upd sv200 x16.1.toNat (ga24 10)) 35 4 ar 87 6 av aw (x16.2.set x16.1.toNat (⟨(x16.2.getD x16.1.toNat aj).Seq,(x16.2.getD x16.1.toNat aj).Tick,(x16.2.getD x16.1.toNat aj).Budget,(((x16.2.getD x16.1.toNat aj).Facts) ++ [(⟨(⟨(((l0.getD i18.toNat aa).F).Key).Hour,(((l0.getD i18.toNat aa).F).Key).Dims_0,(((l0.getD i18.toNat aa).F).Key).Dims_1,(((l0.getD i18.toNat aa).F).Key).Dims_2,(((l0.getD i18.toNat aa).F).Key).Dims_3⟩ : bc),((l0.getD i18.toNat aa).F).Value⟩ : aB)])⟩ : aK))) (bK (done 10) (nE sv200 x16.1.toNat (ga24 10) 35 4 ar 87 6 av aw x16.2 (⟨(x16.2.getD x16.1.toNat aj).Seq,(x16.2.getD x16.1.toNat aj).Tick,(x16.2.getD x16.1.toNat aj).Budget,(((x16.2.getD x16.1.toNat aj).Facts) ++ [(⟨(⟨(((l0.getD i18.toNat aa).F).Key).Hour,(((l0.getD i18.toNat aa).F).Key).Dims_0,(((l0.getD i18.toNat aa).F).Key).Dims_1,(((l0.getD i18.toNat aa).F).Key).Dims_2,(((l0.getD i18.toNat aa).F).Key).Dims_3⟩ : bc),((l0.getD i18.toNat aa).F).Value⟩ : aB)])⟩ : aK)) (bv sv200 35 4 ar 87 6 av aw x16.2)),box b40 151 C0_]
    let Z104_I : DI := fun ga24 done a w => kH 64 w0 F [(0,pt p0 0),(3,sv200.sv),(4,I i18),(5,pt b40 0),(6,I x16.1)] (Z104_T ga24) done (Z104_L ga24 done) a w
    refine ce 14 rfl (fun done a w => ∃ ga24 : Nat → Value,Z104_I ga24 done a w) (by kernel_rfl) (by kernel_rfl) (fq (T := Z104_T) (L' := fun ga24 : Nat → Value => [bK false (own (ga24 9) 87 6 [(⟨(⟨(((l0.getD i18.toNat aa).F).Key).Hour,(((l0.getD i18.toNat aa).F).Key).Dims_0,(((l0.getD i18.toNat aa).F).Key).Dims_1,(((l0.getD i18.toNat aa).F).Key).Dims_2,(((l0.getD i18.toNat aa).F).Key).Dims_3⟩ : bc),((l0.getD i18.toNat aa).F).Value⟩ : aB)].length (fl aC [(⟨(⟨(((l0.getD i18.toNat aa).F).Key).Hour,(((l0.getD i18.toNat aa).F).Key).Dims_0,(((l0.getD i18.toNat aa).F).Key).Dims_1,(((l0.getD i18.toNat aa).F).Key).Dims_2,(((l0.getD i18.toNat aa).F).Key).Dims_3⟩ : bc),((l0.getD i18.toNat aa).F).Value⟩ : aB)])) emp,box p0 96 [I p0_0,sv0,I p0_2],own sv0 151 9 l0.length (fl ak l0),bK false (bv (JG.upd sv200 x16.1.toNat (ga24 10)) 35 4 ar 87 6 av aw (x16.2.set x16.1.toNat (⟨(x16.2.getD x16.1.toNat aj).Seq,(x16.2.getD x16.1.toNat aj).Tick,(x16.2.getD x16.1.toNat aj).Budget,(((x16.2.getD x16.1.toNat aj).Facts) ++ [(⟨(⟨(((l0.getD i18.toNat aa).F).Key).Hour,(((l0.getD i18.toNat aa).F).Key).Dims_0,(((l0.getD i18.toNat aa).F).Key).Dims_1,(((l0.getD i18.toNat aa).F).Key).Dims_2,(((l0.getD i18.toNat aa).F).Key).Dims_3⟩ : bc),((l0.getD i18.toNat aa).F).Value⟩ : aB)])⟩ : aK))) (bK false (nE sv200 x16.1.toNat (ga24 10) 35 4 ar 87 6 av aw x16.2 (⟨(x16.2.getD x16.1.toNat aj).Seq,(x16.2.getD x16.1.toNat aj).Tick,(x16.2.getD x16.1.toNat aj).Budget,(((x16.2.getD x16.1.toNat aj).Facts) ++ [(⟨(⟨(((l0.getD i18.toNat aa).F).Key).Hour,(((l0.getD i18.toNat aa).F).Key).Dims_0,(((l0.getD i18.toNat aa).F).Key).Dims_1,(((l0.getD i18.toNat aa).F).Key).Dims_2,(((l0.getD i18.toNat aa).F).Key).Dims_3⟩ : bc),((l0.getD i18.toNat aa).F).Value⟩ : aB)])⟩ : aK)) (bv sv200 35 4 ar 87 6 av aw x16.2)),box b40 151 C0_]) 1 (vS [0,3,4,5,6] rfl) (fun _ => rfl)) ?_ ?_
    ·refine ⟨?_,?_,?_,?_,?_,?_,?_,?_,?_,?_,?_,?_,?_,?_,trivial⟩
     ·exact fun done hi hc hcu => aS (I := Z104_I) fun ga24 => dV 0 rfl rfl rfl rfl (fun a => af) (aL rfl) rfl rfl rfl rfl
     ·exact fun done hi hc hcu => aS (I := Z104_I) fun ga24 => dV 1 rfl rfl rfl rfl (fun a => af) (aL rfl) rfl rfl rfl rfl
     ·exact fun done hi hc hcu => aS (I := Z104_I) fun ga24 => dV 2 rfl rfl rfl rfl (fun a => af) (aL rfl) rfl rfl rfl rfl
     ·exact fun done hi hc hcu => aS (I := Z104_I) fun ga24 => dV 3 rfl rfl rfl rfl (fun a => af) (aL rfl) rfl rfl rfl rfl
     ·intro done hi hc hcu
      refine aS (I := Z104_I) fun ga24 => ?_
      have d2 : done 2 = true := aX (j := 2) hcu rfl (by decide) rfl
      have d3 : done 3 = true := aX (j := 3) hcu rfl (by decide) rfl
      have n5 : done 5 = false := aM (m := 5) hc hi rfl rfl
      have n6 : done 6 = false := aM (m := 6) hc n5 rfl rfl
      have n10 : done 10 = false := aM (m := 10) hc n6 rfl rfl
      have n13 : done 13 = false := aM (m := 13) hc hi rfl rfl
      exact dV 4 rfl rfl rfl rfl (fun a => (ap (k := 3) rfl d3 (ap (k := 2) rfl d2 af))) (lc (L2 := [bK (done 9) (own (ga24 9) 87 6 [(⟨(⟨(((l0.getD i18.toNat aa).F).Key).Hour,(((l0.getD i18.toNat aa).F).Key).Dims_0,(((l0.getD i18.toNat aa).F).Key).Dims_1,(((l0.getD i18.toNat aa).F).Key).Dims_2,(((l0.getD i18.toNat aa).F).Key).Dims_3⟩ : bc),((l0.getD i18.toNat aa).F).Value⟩ : aB)].length (fl aC [(⟨(⟨(((l0.getD i18.toNat aa).F).Key).Hour,(((l0.getD i18.toNat aa).F).Key).Dims_0,(((l0.getD i18.toNat aa).F).Key).Dims_1,(((l0.getD i18.toNat aa).F).Key).Dims_2,(((l0.getD i18.toNat aa).F).Key).Dims_3⟩ : bc),((l0.getD i18.toNat aa).F).Value⟩ : aB)])) emp,box p0 96 [I p0_0,sv0,I p0_2],own sv0 151 9 l0.length (fl ak l0),(bv sv200 35 4 ar 87 6 av aw x16.2),box b40 151 C0_]) (by simp only [C6_,C5_,C4_,C3_,C0_,C2_,Z104_T,Z104_L,n10,n13,bK]) (bf (sz := 3) 3 rfl rfl cu cz rfl bt c310 c311)) rfl rfl rfl rfl
     ·intro done hi hc hcu
      refine aS (I := Z104_I) fun ga24 => ?_
      have d4 : done 4 = true := aX (j := 4) hcu rfl (by decide) rfl
      have n6 : done 6 = false := aM (m := 6) hc hi rfl rfl
      have n10 : done 10 = false := aM (m := 10) hc n6 rfl rfl
      have n13 : done 13 = false := aM (m := 13) hc hi rfl rfl
      exact dV 5 rfl rfl rfl rfl (fun a => (ap (k := 4) rfl d4 af)) (lc (L2 := [bK (done 9) (own (ga24 9) 87 6 [(⟨(⟨(((l0.getD i18.toNat aa).F).Key).Hour,(((l0.getD i18.toNat aa).F).Key).Dims_0,(((l0.getD i18.toNat aa).F).Key).Dims_1,(((l0.getD i18.toNat aa).F).Key).Dims_2,(((l0.getD i18.toNat aa).F).Key).Dims_3⟩ : bc),((l0.getD i18.toNat aa).F).Value⟩ : aB)].length (fl aC [(⟨(⟨(((l0.getD i18.toNat aa).F).Key).Hour,(((l0.getD i18.toNat aa).F).Key).Dims_0,(((l0.getD i18.toNat aa).F).Key).Dims_1,(((l0.getD i18.toNat aa).F).Key).Dims_2,(((l0.getD i18.toNat aa).F).Key).Dims_3⟩ : bc),((l0.getD i18.toNat aa).F).Value⟩ : aB)])) emp,box p0 96 [I p0_0,sv0,I p0_2],own sv0 151 9 l0.length (fl ak l0),(bv sv200 35 4 ar 87 6 av aw x16.2),box b40 151 C0_]) (by simp only [C6_,C5_,C4_,C3_,C0_,C2_,Z104_T,Z104_L,n10,n13,bK]) (br (sz := 0) (k0 := x16.1.toNat * 4) (off := 3) 3 rfl ig cJ rfl bt (gt aR (bB c310 c311)))) rfl rfl rfl rfl
     ·intro done hi hc hcu
      refine aS (I := Z104_I) fun ga24 => ?_
      have d5 : done 5 = true := aX (j := 5) hcu rfl (by decide) rfl
      have n10 : done 10 = false := aM (m := 10) hc hi rfl rfl
      have n13 : done 13 = false := aM (m := 13) hc hi rfl rfl
      exact dV 6 rfl rfl rfl rfl (fun a => (ap (k := 5) rfl d5 af)) (lc (L2 := [bK (done 9) (own (ga24 9) 87 6 [(⟨(⟨(((l0.getD i18.toNat aa).F).Key).Hour,(((l0.getD i18.toNat aa).F).Key).Dims_0,(((l0.getD i18.toNat aa).F).Key).Dims_1,(((l0.getD i18.toNat aa).F).Key).Dims_2,(((l0.getD i18.toNat aa).F).Key).Dims_3⟩ : bc),((l0.getD i18.toNat aa).F).Value⟩ : aB)].length (fl aC [(⟨(⟨(((l0.getD i18.toNat aa).F).Key).Hour,(((l0.getD i18.toNat aa).F).Key).Dims_0,(((l0.getD i18.toNat aa).F).Key).Dims_1,(((l0.getD i18.toNat aa).F).Key).Dims_2,(((l0.getD i18.toNat aa).F).Key).Dims_3⟩ : bc),((l0.getD i18.toNat aa).F).Value⟩ : aB)])) emp,box p0 96 [I p0_0,sv0,I p0_2],own sv0 151 9 l0.length (fl ak l0),(bv sv200 35 4 ar 87 6 av aw x16.2),box b40 151 C0_]) (by simp only [C6_,C5_,C4_,C3_,C0_,C2_,Z104_T,Z104_L,n10,n13,bK]) (aP (v := (sv200.vs x16.1.toNat)) rfl fm (bE (i := 3) rfl bt (by simp [C6_,C5_,C4_,C3_,C0_,C2_,Z104_T,Z104_L]) (iG (off := 3) (z := aj) aR (bB c310 c311) rfl)))) rfl rfl rfl rfl
     ·exact fun done hi hc hcu => aS (I := Z104_I) fun ga24 => dV 7 rfl rfl rfl rfl (fun a => af) (az (sz := 5) (o := 0) rfl ld bG) rfl rfl rfl rfl
     ·exact fun done hi hc hcu => aS (I := Z104_I) fun ga24 => dV 8 rfl rfl rfl rfl (fun a => (hD 7 hcu rfl rfl rfl rfl af)) (bi (vs := [I ((((l0.getD i18.toNat aa).F).Key).Hour),cW ((((l0.getD i18.toNat aa).F).Key).Dims_0),cW ((((l0.getD i18.toNat aa).F).Key).Dims_1),cW ((((l0.getD i18.toNat aa).F).Key).Dims_2),cW ((((l0.getD i18.toNat aa).F).Key).Dims_3),I (((l0.getD i18.toNat aa).F).Value)]) rfl gz bG (jb (i := 4) rfl rfl)) rfl rfl rfl rfl
     ·refine fun done hi hc hcu => aU (S := fun ga24 => Z104_I ga24 done) fun ga24 => jq (i := 9) (t := 59) (x := ga24) (L := Z104_L) (T := Z104_T) (L2 := [emp,box p0 96 [I p0_0,sv0,I p0_2],own sv0 151 9 l0.length (fl ak l0),bK (done 13) (bv (JG.upd sv200 x16.1.toNat (ga24 10)) 35 4 ar 87 6 av aw (x16.2.set x16.1.toNat (⟨(x16.2.getD x16.1.toNat aj).Seq,(x16.2.getD x16.1.toNat aj).Tick,(x16.2.getD x16.1.toNat aj).Budget,(((x16.2.getD x16.1.toNat aj).Facts) ++ [(⟨(⟨(((l0.getD i18.toNat aa).F).Key).Hour,(((l0.getD i18.toNat aa).F).Key).Dims_0,(((l0.getD i18.toNat aa).F).Key).Dims_1,(((l0.getD i18.toNat aa).F).Key).Dims_2,(((l0.getD i18.toNat aa).F).Key).Dims_3⟩ : bc),((l0.getD i18.toNat aa).F).Value⟩ : aB)])⟩ : aK))) (bK (done 10) (nE sv200 x16.1.toNat (ga24 10) 35 4 ar 87 6 av aw x16.2 (⟨(x16.2.getD x16.1.toNat aj).Seq,(x16.2.getD x16.1.toNat aj).Tick,(x16.2.getD x16.1.toNat aj).Budget,(((x16.2.getD x16.1.toNat aj).Facts) ++ [(⟨(⟨(((l0.getD i18.toNat aa).F).Key).Hour,(((l0.getD i18.toNat aa).F).Key).Dims_0,(((l0.getD i18.toNat aa).F).Key).Dims_1,(((l0.getD i18.toNat aa).F).Key).Dims_2,(((l0.getD i18.toNat aa).F).Key).Dims_3⟩ : bc),((l0.getD i18.toNat aa).F).Value⟩ : aB)])⟩ : aK)) (bv sv200 35 4 ar 87 6 av aw x16.2)),box b40 151 C0_]) (B := fun v_ => (own v_ 87 6 [(⟨(⟨(((l0.getD i18.toNat aa).F).Key).Hour,(((l0.getD i18.toNat aa).F).Key).Dims_0,(((l0.getD i18.toNat aa).F).Key).Dims_1,(((l0.getD i18.toNat aa).F).Key).Dims_2,(((l0.getD i18.toNat aa).F).Key).Dims_3⟩ : bc),((l0.getD i18.toNat aa).F).Value⟩ : aB)].length (fl aC [(⟨(⟨(((l0.getD i18.toNat aa).F).Key).Hour,(((l0.getD i18.toNat aa).F).Key).Dims_0,(((l0.getD i18.toNat aa).F).Key).Dims_1,(((l0.getD i18.toNat aa).F).Key).Dims_2,(((l0.getD i18.toNat aa).F).Key).Dims_3⟩ : bc),((l0.getD i18.toNat aa).F).Value⟩ : aB)]))) 0 rfl rfl (bx rfl) (fun a => (hD 8 hcu rfl rfl rfl rfl af)) (by simp only [C6_,C5_,C4_,C3_,C0_,C2_,Z104_T,Z104_L,hi,bK]) (bL (sz := 5) (xs := [.tmp 58]) (cs := fl aC [(⟨(⟨(((l0.getD i18.toNat aa).F).Key).Hour,(((l0.getD i18.toNat aa).F).Key).Dims_0,(((l0.getD i18.toNat aa).F).Key).Dims_1,(((l0.getD i18.toNat aa).F).Key).Dims_2,(((l0.getD i18.toNat aa).F).Key).Dims_3⟩ : bc),((l0.getD i18.toNat aa).F).Value⟩ : aB)]) rfl rfl bA bG fM rfl rfl (cN rfl) rfl (by decide)) ?_ rfl (fun v_ => ?_) rfl rfl ?_
      ·rintro _ _ rfl; rfl
      ·simp [C6_,C5_,C4_,C3_,C0_,C2_,Z104_T,Z104_L,up,kI,bK,hi]
      ·rintro _ _ rfl
       exact (ax rfl rfl (ax rfl rfl (ax rfl rfl (ax rfl rfl (ax rfl rfl (ax rfl rfl (ax rfl rfl (ax rfl rfl (ax rfl rfl (dx (ax rfl rfl (ax rfl rfl (ax rfl rfl eQ)))))))))))))
     ·intro done hi hc hcu
      refine aU (S := fun ga24 => Z104_I ga24 done) fun ga24 => ?_
      have d6 : done 6 = true := aX (j := 6) hcu rfl (by decide) rfl
      have d9 : done 9 = true := aX (j := 9) hcu rfl (by decide) rfl
      have n13 : done 13 = false := aM (m := 13) hc hi rfl rfl
      exact gU (i := 10) (t := 60) (x := ga24) (L := Z104_L) (T := Z104_T) (L2 := [own (ga24 9) 87 6 [(⟨(⟨(((l0.getD i18.toNat aa).F).Key).Hour,(((l0.getD i18.toNat aa).F).Key).Dims_0,(((l0.getD i18.toNat aa).F).Key).Dims_1,(((l0.getD i18.toNat aa).F).Key).Dims_2,(((l0.getD i18.toNat aa).F).Key).Dims_3⟩ : bc),((l0.getD i18.toNat aa).F).Value⟩ : aB)].length (fl aC [(⟨(⟨(((l0.getD i18.toNat aa).F).Key).Hour,(((l0.getD i18.toNat aa).F).Key).Dims_0,(((l0.getD i18.toNat aa).F).Key).Dims_1,(((l0.getD i18.toNat aa).F).Key).Dims_2,(((l0.getD i18.toNat aa).F).Key).Dims_3⟩ : bc),((l0.getD i18.toNat aa).F).Value⟩ : aB)]),box p0 96 [I p0_0,sv0,I p0_2],own sv0 151 9 l0.length (fl ak l0),(bv sv200 35 4 ar 87 6 av aw x16.2),box b40 151 C0_]) rfl rfl (bx rfl) (fun a => (ap (k := 9) rfl d9 (ap (k := 6) rfl d6 af))) (by simp only [C6_,C5_,C4_,C3_,C0_,C2_,Z104_T,Z104_L,d9,n13,hi,bK]) (vn (sz := 5) (z := aj) (y' := (⟨(x16.2.getD x16.1.toNat aj).Seq,(x16.2.getD x16.1.toNat aj).Tick,(x16.2.getD x16.1.toNat aj).Budget,(((x16.2.getD x16.1.toNat aj).Facts) ++ [(⟨(⟨(((l0.getD i18.toNat aa).F).Key).Hour,(((l0.getD i18.toNat aa).F).Key).Dims_0,(((l0.getD i18.toNat aa).F).Key).Dims_1,(((l0.getD i18.toNat aa).F).Key).Dims_2,(((l0.getD i18.toNat aa).F).Key).Dims_3⟩ : bc),((l0.getD i18.toNat aa).F).Value⟩ : aB)])⟩ : aK)) (news := fl aC [(⟨(⟨(((l0.getD i18.toNat aa).F).Key).Hour,(((l0.getD i18.toNat aa).F).Key).Dims_0,(((l0.getD i18.toNat aa).F).Key).Dims_1,(((l0.getD i18.toNat aa).F).Key).Dims_2,(((l0.getD i18.toNat aa).F).Key).Dims_3⟩ : bc),((l0.getD i18.toNat aa).F).Value⟩ : aB)]) 3 0 rfl rfl bA bG fM rfl mz rfl rfl rfl (aQ 87) rfl (bB c310 c311) (qb kc _) c312 (by simp only [C6_,C5_,C4_,C3_,C0_,C2_,Z104_T,Z104_L,av,List.length_append]) (sJ _ _ _)) rfl rfl fun v_ M_ hM_ => ⟨kI ga24 10 v_,hM_.trans (show [own (ga24 9) 87 6 [(⟨(⟨(((l0.getD i18.toNat aa).F).Key).Hour,(((l0.getD i18.toNat aa).F).Key).Dims_0,(((l0.getD i18.toNat aa).F).Key).Dims_1,(((l0.getD i18.toNat aa).F).Key).Dims_2,(((l0.getD i18.toNat aa).F).Key).Dims_3⟩ : bc),((l0.getD i18.toNat aa).F).Value⟩ : aB)].length (fl aC [(⟨(⟨(((l0.getD i18.toNat aa).F).Key).Hour,(((l0.getD i18.toNat aa).F).Key).Dims_0,(((l0.getD i18.toNat aa).F).Key).Dims_1,(((l0.getD i18.toNat aa).F).Key).Dims_2,(((l0.getD i18.toNat aa).F).Key).Dims_3⟩ : bc),((l0.getD i18.toNat aa).F).Value⟩ : aB)]),box p0 96 [I p0_0,sv0,I p0_2],own sv0 151 9 l0.length (fl ak l0),(nE sv200 x16.1.toNat v_ 35 4 ar 87 6 av aw x16.2 (⟨(x16.2.getD x16.1.toNat aj).Seq,(x16.2.getD x16.1.toNat aj).Tick,(x16.2.getD x16.1.toNat aj).Budget,(((x16.2.getD x16.1.toNat aj).Facts) ++ [(⟨(⟨(((l0.getD i18.toNat aa).F).Key).Hour,(((l0.getD i18.toNat aa).F).Key).Dims_0,(((l0.getD i18.toNat aa).F).Key).Dims_1,(((l0.getD i18.toNat aa).F).Key).Dims_2,(((l0.getD i18.toNat aa).F).Key).Dims_3⟩ : bc),((l0.getD i18.toNat aa).F).Value⟩ : aB)])⟩ : aK)),box b40 151 C0_] = _ by simp [C6_,C5_,C4_,C3_,C0_,C2_,Z104_T,Z104_L,up,kI,bK,d9,n13,n13,hi]),(ax rfl rfl (ax rfl rfl (ax rfl rfl (ax rfl rfl (ax rfl rfl (ax rfl rfl (ax rfl rfl (ax rfl rfl (ax rfl rfl (ax rfl rfl (dx (ax rfl rfl (ax rfl rfl eQ)))))))))))))⟩
     ·intro done hi hc hcu
      refine aS (I := Z104_I) fun ga24 => ?_
      have d0 : done 0 = true := aX (j := 0) hcu rfl (by decide) rfl
      have d1 : done 1 = true := aX (j := 1) hcu rfl (by decide) rfl
      have d10 : done 10 = true := aX (j := 10) hcu rfl (by decide) rfl
      have n12 : done 12 = false := aM (m := 12) hc hi rfl rfl
      have n13 : done 13 = false := aM (m := 13) hc n12 rfl rfl
      exact dV 11 rfl rfl rfl rfl (fun a => (ap (k := 1) rfl d1 (ap (k := 0) rfl d0 af))) (lc (L2 := [bK (done 9) (own (ga24 9) 87 6 [(⟨(⟨(((l0.getD i18.toNat aa).F).Key).Hour,(((l0.getD i18.toNat aa).F).Key).Dims_0,(((l0.getD i18.toNat aa).F).Key).Dims_1,(((l0.getD i18.toNat aa).F).Key).Dims_2,(((l0.getD i18.toNat aa).F).Key).Dims_3⟩ : bc),((l0.getD i18.toNat aa).F).Value⟩ : aB)].length (fl aC [(⟨(⟨(((l0.getD i18.toNat aa).F).Key).Hour,(((l0.getD i18.toNat aa).F).Key).Dims_0,(((l0.getD i18.toNat aa).F).Key).Dims_1,(((l0.getD i18.toNat aa).F).Key).Dims_2,(((l0.getD i18.toNat aa).F).Key).Dims_3⟩ : bc),((l0.getD i18.toNat aa).F).Value⟩ : aB)])) emp,box p0 96 [I p0_0,sv0,I p0_2],own sv0 151 9 l0.length (fl ak l0),(nE sv200 x16.1.toNat (ga24 10) 35 4 ar 87 6 av aw x16.2 (⟨(x16.2.getD x16.1.toNat aj).Seq,(x16.2.getD x16.1.toNat aj).Tick,(x16.2.getD x16.1.toNat aj).Budget,(((x16.2.getD x16.1.toNat aj).Facts) ++ [(⟨(⟨(((l0.getD i18.toNat aa).F).Key).Hour,(((l0.getD i18.toNat aa).F).Key).Dims_0,(((l0.getD i18.toNat aa).F).Key).Dims_1,(((l0.getD i18.toNat aa).F).Key).Dims_2,(((l0.getD i18.toNat aa).F).Key).Dims_3⟩ : bc),((l0.getD i18.toNat aa).F).Value⟩ : aB)])⟩ : aK)),box b40 151 C0_]) (by simp only [C6_,C5_,C4_,C3_,C0_,C2_,Z104_T,Z104_L,d10,n13,bK]) (bf (sz := 3) 3 rfl rfl cu cz rfl sC c310 c311)) rfl rfl rfl rfl
     ·intro done hi hc hcu
      refine aS (I := Z104_I) fun ga24 => ?_
      have d11 : done 11 = true := aX (j := 11) hcu rfl (by decide) rfl
      have d10 : done 10 = true := aX (j := 10) hcu rfl (by decide) rfl
      have n13 : done 13 = false := aM (m := 13) hc hi rfl rfl
      exact dV 12 rfl rfl rfl rfl (fun a => (ap (k := 11) rfl d11 af)) (lc (L2 := [bK (done 9) (own (ga24 9) 87 6 [(⟨(⟨(((l0.getD i18.toNat aa).F).Key).Hour,(((l0.getD i18.toNat aa).F).Key).Dims_0,(((l0.getD i18.toNat aa).F).Key).Dims_1,(((l0.getD i18.toNat aa).F).Key).Dims_2,(((l0.getD i18.toNat aa).F).Key).Dims_3⟩ : bc),((l0.getD i18.toNat aa).F).Value⟩ : aB)].length (fl aC [(⟨(⟨(((l0.getD i18.toNat aa).F).Key).Hour,(((l0.getD i18.toNat aa).F).Key).Dims_0,(((l0.getD i18.toNat aa).F).Key).Dims_1,(((l0.getD i18.toNat aa).F).Key).Dims_2,(((l0.getD i18.toNat aa).F).Key).Dims_3⟩ : bc),((l0.getD i18.toNat aa).F).Value⟩ : aB)])) emp,box p0 96 [I p0_0,sv0,I p0_2],own sv0 151 9 l0.length (fl ak l0),(nE sv200 x16.1.toNat (ga24 10) 35 4 ar 87 6 av aw x16.2 (⟨(x16.2.getD x16.1.toNat aj).Seq,(x16.2.getD x16.1.toNat aj).Tick,(x16.2.getD x16.1.toNat aj).Budget,(((x16.2.getD x16.1.toNat aj).Facts) ++ [(⟨(⟨(((l0.getD i18.toNat aa).F).Key).Hour,(((l0.getD i18.toNat aa).F).Key).Dims_0,(((l0.getD i18.toNat aa).F).Key).Dims_1,(((l0.getD i18.toNat aa).F).Key).Dims_2,(((l0.getD i18.toNat aa).F).Key).Dims_3⟩ : bc),((l0.getD i18.toNat aa).F).Value⟩ : aB)])⟩ : aK)),box b40 151 C0_]) (by simp only [C6_,C5_,C4_,C3_,C0_,C2_,Z104_T,Z104_L,d10,n13,bK]) (br (sz := 0) (k0 := x16.1.toNat * 4) (off := 3) 3 rfl ig cJ rfl sC (gt aR (bB c310 c311)))) rfl rfl rfl rfl
     ·intro done hi hc hcu
      refine aS (I := Z104_I) fun ga24 => ?_
      let C1_ : List HP := [bK (done 9) (own (ga24 9) 87 6 [(⟨(⟨(((l0.getD i18.toNat aa).F).Key).Hour,(((l0.getD i18.toNat aa).F).Key).Dims_0,(((l0.getD i18.toNat aa).F).Key).Dims_1,(((l0.getD i18.toNat aa).F).Key).Dims_2,(((l0.getD i18.toNat aa).F).Key).Dims_3⟩ : bc),((l0.getD i18.toNat aa).F).Value⟩ : aB)].length (fl aC [(⟨(⟨(((l0.getD i18.toNat aa).F).Key).Hour,(((l0.getD i18.toNat aa).F).Key).Dims_0,(((l0.getD i18.toNat aa).F).Key).Dims_1,(((l0.getD i18.toNat aa).F).Key).Dims_2,(((l0.getD i18.toNat aa).F).Key).Dims_3⟩ : bc),((l0.getD i18.toNat aa).F).Value⟩ : aB)])) emp,box p0 96 [I p0_0,sv0,I p0_2],own sv0 151 9 l0.length (fl ak l0),(bv (JG.upd sv200 x16.1.toNat (ga24 10)) 35 4 ar 87 6 av aw (x16.2.set x16.1.toNat (⟨(x16.2.getD x16.1.toNat aj).Seq,(x16.2.getD x16.1.toNat aj).Tick,(x16.2.getD x16.1.toNat aj).Budget,(((x16.2.getD x16.1.toNat aj).Facts) ++ [(⟨(⟨(((l0.getD i18.toNat aa).F).Key).Hour,(((l0.getD i18.toNat aa).F).Key).Dims_0,(((l0.getD i18.toNat aa).F).Key).Dims_1,(((l0.getD i18.toNat aa).F).Key).Dims_2,(((l0.getD i18.toNat aa).F).Key).Dims_3⟩ : bc),((l0.getD i18.toNat aa).F).Value⟩ : aB)])⟩ : aK))),box b40 151 C0_]
      have d12 : done 12 = true := aX (j := 12) hcu rfl (by decide) rfl
      have d10 : done 10 = true := aX (j := 10) hcu rfl (by decide) rfl
      exact kh (i := 13) (L2 := [bK (done 9) (own (ga24 9) 87 6 [(⟨(⟨(((l0.getD i18.toNat aa).F).Key).Hour,(((l0.getD i18.toNat aa).F).Key).Dims_0,(((l0.getD i18.toNat aa).F).Key).Dims_1,(((l0.getD i18.toNat aa).F).Key).Dims_2,(((l0.getD i18.toNat aa).F).Key).Dims_3⟩ : bc),((l0.getD i18.toNat aa).F).Value⟩ : aB)].length (fl aC [(⟨(⟨(((l0.getD i18.toNat aa).F).Key).Hour,(((l0.getD i18.toNat aa).F).Key).Dims_0,(((l0.getD i18.toNat aa).F).Key).Dims_1,(((l0.getD i18.toNat aa).F).Key).Dims_2,(((l0.getD i18.toNat aa).F).Key).Dims_3⟩ : bc),((l0.getD i18.toNat aa).F).Value⟩ : aB)])) emp,box p0 96 [I p0_0,sv0,I p0_2],own sv0 151 9 l0.length (fl ak l0),(nE sv200 x16.1.toNat (ga24 10) 35 4 ar 87 6 av aw x16.2 (⟨(x16.2.getD x16.1.toNat aj).Seq,(x16.2.getD x16.1.toNat aj).Tick,(x16.2.getD x16.1.toNat aj).Budget,(((x16.2.getD x16.1.toNat aj).Facts) ++ [(⟨(⟨(((l0.getD i18.toNat aa).F).Key).Hour,(((l0.getD i18.toNat aa).F).Key).Dims_0,(((l0.getD i18.toNat aa).F).Key).Dims_1,(((l0.getD i18.toNat aa).F).Key).Dims_2,(((l0.getD i18.toNat aa).F).Key).Dims_3⟩ : bc),((l0.getD i18.toNat aa).F).Value⟩ : aB)])⟩ : aK)),box b40 151 C0_]) (L3 := C1_) rfl rfl (bx rfl) (fun a => (ap (k := 10) rfl d10 (ap (k := 12) rfl d12 af))) (by simp only [C6_,C5_,C4_,C3_,C0_,C2_,Z104_T,Z104_L,C1_,d10,hi,bK]) (by simp [C6_,C5_,C4_,C3_,C0_,C2_,Z104_T,Z104_L,C1_,up,d10,bK]) (xW (z := aj) (L' := C1_) 3 rfl rfl cJ rfl aR (bB c310 c311) (fun _ => rfl) (nL rfl) rfl) (kZ rfl)
    ·intro done hall
     refine aU (S := fun ga24 => Z104_I ga24 done) fun ga24 => ?_
     refine ck [own (ga24 9) 87 6 [(⟨(⟨(((l0.getD i18.toNat aa).F).Key).Hour,(((l0.getD i18.toNat aa).F).Key).Dims_0,(((l0.getD i18.toNat aa).F).Key).Dims_1,(((l0.getD i18.toNat aa).F).Key).Dims_2,(((l0.getD i18.toNat aa).F).Key).Dims_3⟩ : bc),((l0.getD i18.toNat aa).F).Value⟩ : aB)].length (fl aC [(⟨(⟨(((l0.getD i18.toNat aa).F).Key).Hour,(((l0.getD i18.toNat aa).F).Key).Dims_0,(((l0.getD i18.toNat aa).F).Key).Dims_1,(((l0.getD i18.toNat aa).F).Key).Dims_2,(((l0.getD i18.toNat aa).F).Key).Dims_3⟩ : bc),((l0.getD i18.toNat aa).F).Value⟩ : aB)]),box p0 96 [I p0_0,sv0,I p0_2],own sv0 151 9 l0.length (fl ak l0),(bv (JG.upd sv200 x16.1.toNat (ga24 10)) 35 4 ar 87 6 av aw (x16.2.set x16.1.toNat (⟨(x16.2.getD x16.1.toNat aj).Seq,(x16.2.getD x16.1.toNat aj).Tick,(x16.2.getD x16.1.toNat aj).Budget,(((x16.2.getD x16.1.toNat aj).Facts) ++ [(⟨(⟨(((l0.getD i18.toNat aa).F).Key).Hour,(((l0.getD i18.toNat aa).F).Key).Dims_0,(((l0.getD i18.toNat aa).F).Key).Dims_1,(((l0.getD i18.toNat aa).F).Key).Dims_2,(((l0.getD i18.toNat aa).F).Key).Dims_3⟩ : bc),((l0.getD i18.toNat aa).F).Value⟩ : aB)])⟩ : aK))),box b40 151 C0_] (by simp only [C6_,C5_,C4_,C3_,C0_,C2_,Z104_T,Z104_L,hall 9 (by decide),hall 10 (by decide),hall 13 (by decide),bK]) (hL hall rfl) ?_
     refine ae (vM rfl rfl (vV (aG rfl rfl (ci _ _ _) ) rfl (vA rfl rfl (ai ?_))))
     exact vF [1,2,3] rfl rfl (vS [0,3,4] rfl) fun a w h => ⟨k,Nat.lt_succ_self k,_,_,(JG.upd sv200 x16.1.toNat (ga24 10)),H18,h⟩
theorem cx.spech (K p0 : Nat) (sv0 : Value) (p0_0 : Int) (l0 : List aF) (p0_2 : Int) (r : List aK) (H : cx K p0_0 l0 p0_2 = some r) : bp Tryz.prog 47 [pt p0 0] [box p0 96 [I p0_0,sv0,I p0_2],own sv0 151 9 l0.length (fl ak l0)] (fun v M => ∃ sv103 : Value,v = sv103 ∧ M = [box p0 96 [I p0_0,sv0,I p0_2],own sv0 151 9 l0.length (fl ak l0),(hown sv103 35 4 ar 87 6 av aw r)]) := by
 refine bp.hide (cx.spec K p0 sv0 p0_0 l0 p0_2 r H) ?_
 rintro v M ⟨sv103,rfl,rfl⟩
 exact ⟨_,⟨sv103.sv,rfl,rfl⟩,fun w X h => (h.conv 2 _ (hown sv103.sv 35 4 ar 87 6 av aw r) rfl fun o s q => ⟨_,rfl,q⟩)⟩
theorem dU.spec (K : Nat) (sv0 : Value) (A0 : HP) (sv1 : Value) (A1 : HP) (l0 : List aB) (l1 : List aB) (hA0 : da A0 sv0 l0.length 6 (fl aC l0)) (hA1 : da A1 sv1 l1.length 6 (fl aC l1)) (r : Bool) (H : dU K l0 l1 = some r) : bp Tryz.prog 50 [sv0,sv1] [A0,A1] (fun v M => v = (bool r) ∧ M = [A0,A1]) := by
 unfold dU at H
 refine bo Tryz.func50 rfl 26 rfl (nL rfl) fun F w0 => ?_
 show cB (St 26 w0 F [(0,sv0),(1,sv1)] [A0,A1]) _
 refine ag (ae (vA rfl rfl (ai (ag (ag (ae (vM rfl rfl (vV (cp 0 rfl bA rfl hA0) rfl (vM rfl rfl (vV (cp 1 rfl bA rfl hA1) rfl (vV (aG rfl rfl (jn _ _ _)) rfl ?_)))))))))))
 refine ai ?_
 refine iu H (fun c48 H => ?_) fun c48 H => ?_
 ·refine aA rfl (iC c48) (ag (ae (vA rfl rfl (ai (aH ?_)))))
  cases H
  refine vP [0,1] rfl rfl ?_
  exact aT rfl rfl ⟨rfl,rfl⟩
 refine ay rfl (ef c48) (aV (ag (ag (ae (vA rfl rfl (ai (be ?_)))))))
 refine cf (fun k a w => ∃ i4,eW K l0 l1 k i4 = some r ∧ St 26 w0 F [(0,sv0),(1,sv1),(5,I i4)] [A0,A1] a w) K ?_ ?_
 ·exact vF [0,1] rfl rfl (vS [0,1,5] rfl) fun a w h => ⟨_,H,h⟩
 ·refine fun k => aU fun i4 => cv fun H4 => ?_
  let C1_ : Value := agg #[I (((l1.getD i4.toNat ab).Key).Hour),cW (((l1.getD i4.toNat ab).Key).Dims_0),cW (((l1.getD i4.toNat ab).Key).Dims_1),cW (((l1.getD i4.toNat ab).Key).Dims_2),cW (((l1.getD i4.toNat ab).Key).Dims_3),I ((l1.getD i4.toNat ab).Value)]
  let C0_ : Value := agg #[I (((l0.getD i4.toNat ab).Key).Hour),cW (((l0.getD i4.toNat ab).Key).Dims_0),cW (((l0.getD i4.toNat ab).Key).Dims_1),cW (((l0.getD i4.toNat ab).Key).Dims_2),cW (((l0.getD i4.toNat ab).Key).Dims_3),I ((l0.getD i4.toNat ab).Value)]
  cases k with
  | zero => exact absurd H4 (by simp [C1_,C0_,eW])
  | succ k =>
   rw [eW] at H4
   refine ag (ag (ae (vM rfl rfl (vM rfl rfl (vV (cp 0 rfl bA rfl hA0) rfl (vV (aG rfl rfl (cI _ _ _)) rfl (ai ?_)))))))
   refine gN H4 (fun c86 H4 => ?_) fun c86 H4 => ?_
   ·refine ay rfl (dF c86) (bT (ag (ae (vA rfl rfl (ai (aH ?_))))))
    cases H4
    refine vP [0,1] rfl rfl ?_
    exact aT rfl rfl ⟨rfl,rfl⟩
   refine aA rfl (dT c86) (aV (ag (be (ag ?_))))
   obtain ⟨c90,H4⟩ := gq H4
   obtain ⟨c91,H4⟩ := gq H4
   refine ce 9 rfl (fun done a w => kH 26 w0 F [(0,sv0),(1,sv1),(5,I i4),(11,I i4),(12,sv0),(13,I (l0.length : Int)),(14,Value.bool (decide (i4 < (l0.length : Int))))] [(0,17,sv0),(1,18,I i4),(2,19,(bX sv0 (i4.toNat * 6))),(3,20,C0_),(4,21,sv1),(5,22,I i4),(6,23,(bX sv1 (i4.toNat * 6))),(7,24,C1_),(8,25,bool (!((((((l0.getD i4.toNat ab).Key).Hour) == (((l1.getD i4.toNat ab).Key).Hour)) && ((((((l0.getD i4.toNat ab).Key).Dims_0) == (((l1.getD i4.toNat ab).Key).Dims_0)) && (((((l0.getD i4.toNat ab).Key).Dims_1) == (((l1.getD i4.toNat ab).Key).Dims_1)) && (((((l0.getD i4.toNat ab).Key).Dims_2) == (((l1.getD i4.toNat ab).Key).Dims_2)) && (((((l0.getD i4.toNat ab).Key).Dims_3) == (((l1.getD i4.toNat ab).Key).Dims_3)) && true)))) && true)) && ((((l0.getD i4.toNat ab).Value) == ((l1.getD i4.toNat ab).Value)) && true))))] done [A0,A1] a w) (by kernel_rfl) (by kernel_rfl) (cy (vS [0,1,5,11,12,13,14] rfl) rfl) ?_ ?_
   ·refine ⟨?_,?_,?_,?_,?_,?_,?_,?_,?_,trivial⟩
    ·exact fun done hi hc hcu => dV 0 rfl rfl rfl rfl (fun a => af) (aL rfl) rfl rfl rfl rfl
    ·exact fun done hi hc hcu => dV 1 rfl rfl rfl rfl (fun a => af) (aL rfl) rfl rfl rfl rfl
    ·exact fun done hi hc hcu => dV 2 rfl rfl rfl rfl (fun a => (hD 1 hcu rfl rfl rfl rfl (hD 0 hcu rfl rfl rfl rfl af))) (bf (sz := 5) 0 rfl rfl bA bG rfl hA0 c90 c86) rfl rfl rfl rfl
    ·exact fun done hi hc hcu => dV 3 rfl rfl rfl rfl (fun a => (hD 2 hcu rfl rfl rfl rfl af)) (bi (vs := [I (((l0.getD i4.toNat ab).Key).Hour),cW (((l0.getD i4.toNat ab).Key).Dims_0),cW (((l0.getD i4.toNat ab).Key).Dims_1),cW (((l0.getD i4.toNat ab).Key).Dims_2),cW (((l0.getD i4.toNat ab).Key).Dims_3),I ((l0.getD i4.toNat ab).Value)]) rfl gz bG (bE (i := 0) rfl hA0 (by simp [C1_,C0_]) (dS bH (bB c90 c86) rfl))) rfl rfl rfl rfl
    ·exact fun done hi hc hcu => dV 4 rfl rfl rfl rfl (fun a => af) (aL rfl) rfl rfl rfl rfl
    ·exact fun done hi hc hcu => dV 5 rfl rfl rfl rfl (fun a => af) (aL rfl) rfl rfl rfl rfl
    ·exact fun done hi hc hcu => dV 6 rfl rfl rfl rfl (fun a => (hD 5 hcu rfl rfl rfl rfl (hD 4 hcu rfl rfl rfl rfl af))) (bf (sz := 5) 1 rfl rfl bA bG rfl hA1 c90 c91) rfl rfl rfl rfl
    ·exact fun done hi hc hcu => dV 7 rfl rfl rfl rfl (fun a => (hD 6 hcu rfl rfl rfl rfl af)) (bi (vs := [I (((l1.getD i4.toNat ab).Key).Hour),cW (((l1.getD i4.toNat ab).Key).Dims_0),cW (((l1.getD i4.toNat ab).Key).Dims_1),cW (((l1.getD i4.toNat ab).Key).Dims_2),cW (((l1.getD i4.toNat ab).Key).Dims_3),I ((l1.getD i4.toNat ab).Value)]) rfl gz bG (bE (i := 1) rfl hA1 (by simp [C1_,C0_]) (dS bH (bB c90 c91) rfl))) rfl rfl rfl rfl
    ·exact fun done hi hc hcu => dV 8 rfl rfl rfl rfl (fun a => (hD 7 hcu rfl rfl rfl rfl (hD 3 hcu rfl rfl rfl rfl af))) (aG rfl rfl (xZ _ _ _ _ _ _ _ _ _ _ _ _)) rfl rfl rfl rfl
   ·intro done hall
    refine ck [A0,A1] rfl (hL hall rfl) ?_
    refine iu H4 (fun c92 H4 => ?_) fun c92 H4 => ?_
    ·refine aA rfl c92 (ag (ae (vA rfl rfl (ai (aH ?_)))))
     cases H4
     refine vP [0,1] rfl rfl ?_
     exact aT rfl rfl ⟨rfl,rfl⟩
    refine ay rfl (bF c92) (aV (ae (vM rfl rfl (vV (aG rfl rfl (ci _ _ _) ) rfl (vA rfl rfl (ai ?_))))))
    exact vF [0,1] rfl rfl (vS [0,1,5] rfl) fun a w h => ⟨k,Nat.lt_succ_self k,_,H4,h⟩
end Go.Proofs.YtmgpegiekankmaaGreat.MemPlays
end
section
set_option linter.unusedVariables false
set_option linter.unusedSimpArgs false
set_option maxHeartbeats 8000000
set_option maxRecDepth 100000
namespace Go.Proofs.YtmgpegiekankmaaGreat.MemPlays
open Go Go.RowKit E
open Go.Value (int bool slice agg)
theorem gm.spec (K : Nat) (sv0 sv1 : JG) (l0 : List aK) (l1 : List aK) (r : Bool) (H : gm K l0 l1 = some r) : bp Tryz.prog 44 [sv0.sv,sv1.sv] [(bv sv0 35 4 ar 87 6 av aw l0),(bv sv1 35 4 ar 87 6 av aw l1)] (fun v M => v = (bool r) ∧ M = [(bv sv0 35 4 ar 87 6 av aw l0),(bv sv1 35 4 ar 87 6 av aw l1)]) := by
 unfold gm at H
 refine bo Tryz.func44 rfl 68 rfl (nL rfl) fun F w0 => ?_
 show cB (St 68 w0 F [(0,sv0.sv),(1,sv1.sv)] [(bv sv0 35 4 ar 87 6 av aw l0),(bv sv1 35 4 ar 87 6 av aw l1)]) _
 refine ag (ae (vA rfl rfl (ai (ag (ag (ae (vM rfl rfl (vV (cp 0 rfl cu rfl bt) rfl (vM rfl rfl (vV (cp 1 rfl cu rfl bt) rfl (vV (aG rfl rfl (jn _ _ _)) rfl ?_)))))))))))
 refine ai ?_
 refine iu H (fun c84 H => ?_) fun c84 H => ?_
 ·refine aA rfl (iC c84) (ag (ae (vA rfl rfl (ai (aH ?_)))))
  cases H
  refine vP [0,1] rfl rfl ?_
  exact aT rfl rfl ⟨rfl,rfl⟩
 refine ay rfl (ef c84) (aV (ag (ag (ae (vA rfl rfl (ai (be ?_)))))))
 refine cf (fun k a w => ∃ i4,eY K l0 l1 k i4 = some r ∧ St 68 w0 F [(0,sv0.sv),(1,sv1.sv),(5,I i4)] [(bv sv0 35 4 ar 87 6 av aw l0),(bv sv1 35 4 ar 87 6 av aw l1)] a w) K ?_ ?_
 ·exact vF [0,1] rfl rfl (vS [0,1,5] rfl) fun a w h => ⟨_,H,h⟩
 ·refine fun k => aU fun i4 => cv fun H4 => ?_
  cases k with
  | zero => exact absurd H4 (by simp [eY])
  | succ k =>
   rw [eY] at H4
   refine ag (ag (ae (vM rfl rfl (vM rfl rfl (vV (cp 0 rfl cu rfl bt) rfl (vV (aG rfl rfl (cI _ _ _)) rfl (ai ?_)))))))
   refine gN H4 (fun c152 H4 => ?_) fun c152 H4 => ?_
   ·refine ay rfl (dF c152) (bT (ag (ae (vA rfl rfl (ai (aH ?_))))))
    cases H4
    refine vP [0,1] rfl rfl ?_
    exact aT rfl rfl ⟨rfl,rfl⟩
   refine aA rfl (dT c152) (aV (ag (be (ag ?_))))
   obtain ⟨c159,H4⟩ := gq H4
   obtain ⟨c160,H4⟩ := gq H4
   refine iu H4 (fun c161 H4 => ?_) fun c161 H4 => ?_
   ·refine ce 51 rfl (fun done a w => kH 68 w0 F [(0,sv0.sv),(1,sv1.sv),(5,I i4),(11,I i4),(12,sv0.sv),(13,I (l0.length : Int)),(14,Value.bool (decide (i4 < (l0.length : Int))))] [(0,17,sv0.sv),(1,18,I i4),(2,19,(bX sv0.sv (i4.toNat * 4))),(3,20,(bX sv0.sv (i4.toNat * 4 + 0))),(4,21,I ((l0.getD i4.toNat aj).Seq)),(5,22,sv1.sv),(6,23,I i4),(7,24,(bX sv1.sv (i4.toNat * 4))),(8,25,(bX sv1.sv (i4.toNat * 4 + 0))),(9,26,I ((l1.getD i4.toNat aj).Seq)),(10,27,bool (((l0.getD i4.toNat aj).Seq) != ((l1.getD i4.toNat aj).Seq))),(11,28,bool (((l0.getD i4.toNat aj).Seq) != ((l1.getD i4.toNat aj).Seq))),(12,29,undef),(13,30,undef),(14,31,undef),(15,32,undef),(16,33,undef),(17,34,undef),(18,35,undef),(19,36,undef),(20,37,undef),(21,38,undef),(22,39,undef),(23,40,bool true),(24,41,bool true),(25,42,undef),(26,43,undef),(27,44,undef),(28,45,undef),(29,46,undef),(30,47,undef),(31,48,undef),(32,49,undef),(33,50,undef),(34,51,undef),(35,52,undef),(36,53,bool true),(37,54,bool true),(38,55,undef),(39,56,undef),(40,57,undef),(41,58,undef),(42,59,undef),(43,60,undef),(44,61,undef),(45,62,undef),(46,63,undef),(47,64,undef),(48,65,undef),(49,66,undef),(50,67,bool true)] done [(bv sv0 35 4 ar 87 6 av aw l0),(bv sv1 35 4 ar 87 6 av aw l1)] a w) (by kernel_rfl) (by kernel_rfl) (cy (vS [0,1,5,11,12,13,14] rfl) rfl) ?_ ?_
    ·refine ⟨?_,?_,?_,?_,?_,?_,?_,?_,?_,?_,?_,?_,?_,?_,?_,?_,?_,?_,?_,?_,?_,?_,?_,?_,?_,?_,?_,?_,?_,?_,?_,?_,?_,?_,?_,?_,?_,?_,?_,?_,?_,?_,?_,?_,?_,?_,?_,?_,?_,?_,?_,trivial⟩
     ·exact fun done hi hc hcu => dV 0 rfl rfl rfl rfl (fun a => af) (aL rfl) rfl rfl rfl rfl
     ·exact fun done hi hc hcu => dV 1 rfl rfl rfl rfl (fun a => af) (aL rfl) rfl rfl rfl rfl
     ·exact fun done hi hc hcu => dV 2 rfl rfl rfl rfl (fun a => (hD 1 hcu rfl rfl rfl rfl (hD 0 hcu rfl rfl rfl rfl af))) (bf (sz := 3) 0 rfl rfl cu cz rfl bt c159 c152) rfl rfl rfl rfl
     ·exact fun done hi hc hcu => dV 3 rfl rfl rfl rfl (fun a => (hD 2 hcu rfl rfl rfl rfl af)) (br (sz := 0) (k0 := i4.toNat * 4) (off := 0) 0 rfl eU bd rfl bt (gt aR (bB c159 c152))) rfl rfl rfl rfl
     ·exact fun done hi hc hcu => dV 4 rfl rfl rfl rfl (fun a => (hD 3 hcu rfl rfl rfl rfl af)) (aP (v := (I ((l0.getD i4.toNat aj).Seq))) rfl bl (bE (i := 0) rfl bt (by simp) (iG (off := 0) (z := aj) aR (bB c159 c152) rfl))) rfl rfl rfl rfl
     ·exact fun done hi hc hcu => dV 5 rfl rfl rfl rfl (fun a => af) (aL rfl) rfl rfl rfl rfl
     ·exact fun done hi hc hcu => dV 6 rfl rfl rfl rfl (fun a => af) (aL rfl) rfl rfl rfl rfl
     ·exact fun done hi hc hcu => dV 7 rfl rfl rfl rfl (fun a => (hD 6 hcu rfl rfl rfl rfl (hD 5 hcu rfl rfl rfl rfl af))) (bf (sz := 3) 1 rfl rfl cu cz rfl bt c159 c160) rfl rfl rfl rfl
     ·exact fun done hi hc hcu => dV 8 rfl rfl rfl rfl (fun a => (hD 7 hcu rfl rfl rfl rfl af)) (br (sz := 0) (k0 := i4.toNat * 4) (off := 0) 1 rfl eU bd rfl bt (gt aR (bB c159 c160))) rfl rfl rfl rfl
     ·exact fun done hi hc hcu => dV 9 rfl rfl rfl rfl (fun a => (hD 8 hcu rfl rfl rfl rfl af)) (aP (v := (I ((l1.getD i4.toNat aj).Seq))) rfl bl (bE (i := 1) rfl bt (by simp) (iG (off := 0) (z := aj) aR (bB c159 c160) rfl))) rfl rfl rfl rfl
     ·exact fun done hi hc hcu => dV 10 rfl rfl rfl rfl (fun a => (hD 9 hcu rfl rfl rfl rfl (hD 4 hcu rfl rfl rfl rfl af))) (aG rfl rfl (jn _ _ _)) rfl rfl rfl rfl
     ·exact fun done hi hc hcu => dV 11 rfl rfl rfl rfl (fun a => (hD 10 hcu rfl rfl rfl rfl af)) (aL rfl) rfl rfl rfl rfl
     ·exact fun done hi hc hcu => bk (i := 12) (t := 29) rfl rfl (bh rfl rfl rfl (iC c161)) (fun a => (hD 11 hcu rfl rfl rfl rfl af)) rfl rfl (oT 12 rfl rfl rfl)
     ·exact fun done hi hc hcu => bk (i := 13) (t := 30) rfl rfl (bh rfl rfl rfl (iC c161)) (fun a => (hD 11 hcu rfl rfl rfl rfl af)) rfl rfl (oT 13 rfl rfl rfl)
     ·exact fun done hi hc hcu => bk (i := 14) (t := 31) rfl rfl (bh rfl rfl rfl (iC c161)) (fun a => (hD 11 hcu rfl rfl rfl rfl af)) rfl rfl (oT 14 rfl rfl rfl)
     ·exact fun done hi hc hcu => bk (i := 15) (t := 32) rfl rfl (bh rfl rfl rfl (iC c161)) (fun a => (hD 11 hcu rfl rfl rfl rfl af)) rfl rfl (oT 15 rfl rfl rfl)
     ·exact fun done hi hc hcu => bk (i := 16) (t := 33) rfl rfl (bh rfl rfl rfl (iC c161)) (fun a => (hD 11 hcu rfl rfl rfl rfl af)) rfl rfl (oT 16 rfl rfl rfl)
     ·exact fun done hi hc hcu => bk (i := 17) (t := 34) rfl rfl (bh rfl rfl rfl (iC c161)) (fun a => (hD 11 hcu rfl rfl rfl rfl af)) rfl rfl (oT 17 rfl rfl rfl)
     ·exact fun done hi hc hcu => bk (i := 18) (t := 35) rfl rfl (bh rfl rfl rfl (iC c161)) (fun a => (hD 11 hcu rfl rfl rfl rfl af)) rfl rfl (oT 18 rfl rfl rfl)
     ·exact fun done hi hc hcu => bk (i := 19) (t := 36) rfl rfl (bh rfl rfl rfl (iC c161)) (fun a => (hD 11 hcu rfl rfl rfl rfl af)) rfl rfl (oT 19 rfl rfl rfl)
     ·exact fun done hi hc hcu => bk (i := 20) (t := 37) rfl rfl (bh rfl rfl rfl (iC c161)) (fun a => (hD 11 hcu rfl rfl rfl rfl af)) rfl rfl (oT 20 rfl rfl rfl)
     ·exact fun done hi hc hcu => bk (i := 21) (t := 38) rfl rfl (bh rfl rfl rfl (iC c161)) (fun a => (hD 11 hcu rfl rfl rfl rfl af)) rfl rfl (oT 21 rfl rfl rfl)
     ·exact fun done hi hc hcu => bk (i := 22) (t := 39) rfl rfl (bh rfl rfl rfl (iC c161)) (fun a => (hD 11 hcu rfl rfl rfl rfl af)) rfl rfl (oT 22 rfl rfl rfl)
     ·exact fun done hi hc hcu => dV 23 rfl rfl rfl rfl (fun a => (hD 22 hcu rfl rfl rfl rfl (hD 11 hcu rfl rfl rfl rfl af))) (aN rfl rfl rfl (cb (iC c161))) rfl rfl rfl rfl
     ·exact fun done hi hc hcu => dV 24 rfl rfl rfl rfl (fun a => (hD 23 hcu rfl rfl rfl rfl af)) (aL rfl) rfl rfl rfl rfl
     ·exact fun done hi hc hcu => bk (i := 25) (t := 42) rfl rfl (bh rfl rfl rfl rfl) (fun a => (hD 24 hcu rfl rfl rfl rfl af)) rfl rfl (oT 25 rfl rfl rfl)
     ·exact fun done hi hc hcu => bk (i := 26) (t := 43) rfl rfl (bh rfl rfl rfl rfl) (fun a => (hD 24 hcu rfl rfl rfl rfl af)) rfl rfl (oT 26 rfl rfl rfl)
     ·exact fun done hi hc hcu => bk (i := 27) (t := 44) rfl rfl (bh rfl rfl rfl rfl) (fun a => (hD 24 hcu rfl rfl rfl rfl af)) rfl rfl (oT 27 rfl rfl rfl)
     ·exact fun done hi hc hcu => bk (i := 28) (t := 45) rfl rfl (bh rfl rfl rfl rfl) (fun a => (hD 24 hcu rfl rfl rfl rfl af)) rfl rfl (oT 28 rfl rfl rfl)
     ·exact fun done hi hc hcu => bk (i := 29) (t := 46) rfl rfl (bh rfl rfl rfl rfl) (fun a => (hD 24 hcu rfl rfl rfl rfl af)) rfl rfl (oT 29 rfl rfl rfl)
     ·exact fun done hi hc hcu => bk (i := 30) (t := 47) rfl rfl (bh rfl rfl rfl rfl) (fun a => (hD 24 hcu rfl rfl rfl rfl af)) rfl rfl (oT 30 rfl rfl rfl)
     ·exact fun done hi hc hcu => bk (i := 31) (t := 48) rfl rfl (bh rfl rfl rfl rfl) (fun a => (hD 24 hcu rfl rfl rfl rfl af)) rfl rfl (oT 31 rfl rfl rfl)
     ·exact fun done hi hc hcu => bk (i := 32) (t := 49) rfl rfl (bh rfl rfl rfl rfl) (fun a => (hD 24 hcu rfl rfl rfl rfl af)) rfl rfl (oT 32 rfl rfl rfl)
     ·exact fun done hi hc hcu => bk (i := 33) (t := 50) rfl rfl (bh rfl rfl rfl rfl) (fun a => (hD 24 hcu rfl rfl rfl rfl af)) rfl rfl (oT 33 rfl rfl rfl)
     ·exact fun done hi hc hcu => bk (i := 34) (t := 51) rfl rfl (bh rfl rfl rfl rfl) (fun a => (hD 24 hcu rfl rfl rfl rfl af)) rfl rfl (oT 34 rfl rfl rfl)
     ·exact fun done hi hc hcu => bk (i := 35) (t := 52) rfl rfl (bh rfl rfl rfl rfl) (fun a => (hD 24 hcu rfl rfl rfl rfl af)) rfl rfl (oT 35 rfl rfl rfl)
     ·exact fun done hi hc hcu => dV 36 rfl rfl rfl rfl (fun a => (hD 35 hcu rfl rfl rfl rfl (hD 24 hcu rfl rfl rfl rfl af))) (aN rfl rfl rfl rfl) rfl rfl rfl rfl
     ·exact fun done hi hc hcu => dV 37 rfl rfl rfl rfl (fun a => (hD 36 hcu rfl rfl rfl rfl af)) (aL rfl) rfl rfl rfl rfl
     ·exact fun done hi hc hcu => bk (i := 38) (t := 55) rfl rfl (bh rfl rfl rfl rfl) (fun a => (hD 37 hcu rfl rfl rfl rfl af)) rfl rfl (oT 38 rfl rfl rfl)
     ·exact fun done hi hc hcu => bk (i := 39) (t := 56) rfl rfl (bh rfl rfl rfl rfl) (fun a => (hD 37 hcu rfl rfl rfl rfl af)) rfl rfl (oT 39 rfl rfl rfl)
     ·exact fun done hi hc hcu => bk (i := 40) (t := 57) rfl rfl (bh rfl rfl rfl rfl) (fun a => (hD 37 hcu rfl rfl rfl rfl af)) rfl rfl (oT 40 rfl rfl rfl)
     ·exact fun done hi hc hcu => bk (i := 41) (t := 58) rfl rfl (bh rfl rfl rfl rfl) (fun a => (hD 37 hcu rfl rfl rfl rfl af)) rfl rfl (oT 41 rfl rfl rfl)
     ·exact fun done hi hc hcu => bk (i := 42) (t := 59) rfl rfl (bh rfl rfl rfl rfl) (fun a => (hD 37 hcu rfl rfl rfl rfl af)) rfl rfl (oT 42 rfl rfl rfl)
     ·exact fun done hi hc hcu => bk (i := 43) (t := 60) rfl rfl (bh rfl rfl rfl rfl) (fun a => (hD 37 hcu rfl rfl rfl rfl af)) rfl rfl (oT 43 rfl rfl rfl)
     ·exact fun done hi hc hcu => bk (i := 44) (t := 61) rfl rfl (bh rfl rfl rfl rfl) (fun a => (hD 37 hcu rfl rfl rfl rfl af)) rfl rfl (oT 44 rfl rfl rfl)
     ·exact fun done hi hc hcu => bk (i := 45) (t := 62) rfl rfl (bh rfl rfl rfl rfl) (fun a => (hD 37 hcu rfl rfl rfl rfl af)) rfl rfl (oT 45 rfl rfl rfl)
     ·exact fun done hi hc hcu => bk (i := 46) (t := 63) rfl rfl (bh rfl rfl rfl rfl) (fun a => (hD 37 hcu rfl rfl rfl rfl af)) rfl rfl (oT 46 rfl rfl rfl)
     ·exact fun done hi hc hcu => bk (i := 47) (t := 64) rfl rfl (bh rfl rfl rfl rfl) (fun a => (hD 37 hcu rfl rfl rfl rfl af)) rfl rfl (oT 47 rfl rfl rfl)
     ·exact fun done hi hc hcu => bk (i := 48) (t := 65) rfl rfl (bh rfl rfl rfl rfl) (fun a => (hD 37 hcu rfl rfl rfl rfl af)) rfl rfl (oT 48 rfl rfl rfl)
     ·exact fun done hi hc hcu => bk (i := 49) (t := 66) rfl rfl (bh rfl rfl rfl rfl) (fun a => (hD 37 hcu rfl rfl rfl rfl af)) rfl rfl (oT 49 rfl rfl rfl)
     ·exact fun done hi hc hcu => dV 50 rfl rfl rfl rfl (fun a => (hD 49 hcu rfl rfl rfl rfl (hD 37 hcu rfl rfl rfl rfl af))) (aN rfl rfl rfl rfl) rfl rfl rfl rfl
    ·intro done hall
     refine ck [(bv sv0 35 4 ar 87 6 av aw l0),(bv sv1 35 4 ar 87 6 av aw l1)] rfl (hL hall rfl) ?_
     refine aA rfl rfl (ag (ae (vA rfl rfl (ai (aH ?_)))))
     cases H4
     refine vP [0,1] rfl rfl ?_
     exact aT rfl rfl ⟨rfl,rfl⟩
   refine iu H4 (fun c162 H4 => ?_) fun c162 H4 => ?_
   ·refine ce 51 rfl (fun done a w => kH 68 w0 F [(0,sv0.sv),(1,sv1.sv),(5,I i4),(11,I i4),(12,sv0.sv),(13,I (l0.length : Int)),(14,Value.bool (decide (i4 < (l0.length : Int))))] [(0,17,sv0.sv),(1,18,I i4),(2,19,(bX sv0.sv (i4.toNat * 4))),(3,20,(bX sv0.sv (i4.toNat * 4 + 0))),(4,21,I ((l0.getD i4.toNat aj).Seq)),(5,22,sv1.sv),(6,23,I i4),(7,24,(bX sv1.sv (i4.toNat * 4))),(8,25,(bX sv1.sv (i4.toNat * 4 + 0))),(9,26,I ((l1.getD i4.toNat aj).Seq)),(10,27,bool (((l0.getD i4.toNat aj).Seq) != ((l1.getD i4.toNat aj).Seq))),(11,28,bool (((l0.getD i4.toNat aj).Seq) != ((l1.getD i4.toNat aj).Seq))),(12,29,sv0.sv),(13,30,I i4),(14,31,(bX sv0.sv (i4.toNat * 4))),(15,32,(bX sv0.sv (i4.toNat * 4 + 1))),(16,33,I ((l0.getD i4.toNat aj).Tick)),(17,34,sv1.sv),(18,35,I i4),(19,36,(bX sv1.sv (i4.toNat * 4))),(20,37,(bX sv1.sv (i4.toNat * 4 + 1))),(21,38,I ((l1.getD i4.toNat aj).Tick)),(22,39,bool (((l0.getD i4.toNat aj).Tick) != ((l1.getD i4.toNat aj).Tick))),(23,40,bool (((l0.getD i4.toNat aj).Tick) != ((l1.getD i4.toNat aj).Tick))),(24,41,bool (((l0.getD i4.toNat aj).Tick) != ((l1.getD i4.toNat aj).Tick))),(25,42,undef),(26,43,undef),(27,44,undef),(28,45,undef),(29,46,undef),(30,47,undef),(31,48,undef),(32,49,undef),(33,50,undef),(34,51,undef),(35,52,undef),(36,53,bool true),(37,54,bool true),(38,55,undef),(39,56,undef),(40,57,undef),(41,58,undef),(42,59,undef),(43,60,undef),(44,61,undef),(45,62,undef),(46,63,undef),(47,64,undef),(48,65,undef),(49,66,undef),(50,67,bool true)] done [(bv sv0 35 4 ar 87 6 av aw l0),(bv sv1 35 4 ar 87 6 av aw l1)] a w) (by kernel_rfl) (by kernel_rfl) (cy (vS [0,1,5,11,12,13,14] rfl) rfl) ?_ ?_
    ·refine ⟨?_,?_,?_,?_,?_,?_,?_,?_,?_,?_,?_,?_,?_,?_,?_,?_,?_,?_,?_,?_,?_,?_,?_,?_,?_,?_,?_,?_,?_,?_,?_,?_,?_,?_,?_,?_,?_,?_,?_,?_,?_,?_,?_,?_,?_,?_,?_,?_,?_,?_,?_,trivial⟩
     ·exact fun done hi hc hcu => dV 0 rfl rfl rfl rfl (fun a => af) (aL rfl) rfl rfl rfl rfl
     ·exact fun done hi hc hcu => dV 1 rfl rfl rfl rfl (fun a => af) (aL rfl) rfl rfl rfl rfl
     ·exact fun done hi hc hcu => dV 2 rfl rfl rfl rfl (fun a => (hD 1 hcu rfl rfl rfl rfl (hD 0 hcu rfl rfl rfl rfl af))) (bf (sz := 3) 0 rfl rfl cu cz rfl bt c159 c152) rfl rfl rfl rfl
     ·exact fun done hi hc hcu => dV 3 rfl rfl rfl rfl (fun a => (hD 2 hcu rfl rfl rfl rfl af)) (br (sz := 0) (k0 := i4.toNat * 4) (off := 0) 0 rfl eU bd rfl bt (gt aR (bB c159 c152))) rfl rfl rfl rfl
     ·exact fun done hi hc hcu => dV 4 rfl rfl rfl rfl (fun a => (hD 3 hcu rfl rfl rfl rfl af)) (aP (v := (I ((l0.getD i4.toNat aj).Seq))) rfl bl (bE (i := 0) rfl bt (by simp) (iG (off := 0) (z := aj) aR (bB c159 c152) rfl))) rfl rfl rfl rfl
     ·exact fun done hi hc hcu => dV 5 rfl rfl rfl rfl (fun a => af) (aL rfl) rfl rfl rfl rfl
     ·exact fun done hi hc hcu => dV 6 rfl rfl rfl rfl (fun a => af) (aL rfl) rfl rfl rfl rfl
     ·exact fun done hi hc hcu => dV 7 rfl rfl rfl rfl (fun a => (hD 6 hcu rfl rfl rfl rfl (hD 5 hcu rfl rfl rfl rfl af))) (bf (sz := 3) 1 rfl rfl cu cz rfl bt c159 c160) rfl rfl rfl rfl
     ·exact fun done hi hc hcu => dV 8 rfl rfl rfl rfl (fun a => (hD 7 hcu rfl rfl rfl rfl af)) (br (sz := 0) (k0 := i4.toNat * 4) (off := 0) 1 rfl eU bd rfl bt (gt aR (bB c159 c160))) rfl rfl rfl rfl
     ·exact fun done hi hc hcu => dV 9 rfl rfl rfl rfl (fun a => (hD 8 hcu rfl rfl rfl rfl af)) (aP (v := (I ((l1.getD i4.toNat aj).Seq))) rfl bl (bE (i := 1) rfl bt (by simp) (iG (off := 0) (z := aj) aR (bB c159 c160) rfl))) rfl rfl rfl rfl
     ·exact fun done hi hc hcu => dV 10 rfl rfl rfl rfl (fun a => (hD 9 hcu rfl rfl rfl rfl (hD 4 hcu rfl rfl rfl rfl af))) (aG rfl rfl (jn _ _ _)) rfl rfl rfl rfl
     ·exact fun done hi hc hcu => dV 11 rfl rfl rfl rfl (fun a => (hD 10 hcu rfl rfl rfl rfl af)) (aL rfl) rfl rfl rfl rfl
     ·exact fun done hi hc hcu => aY (i := 12) (t := 29) (v := sv0.sv) rfl rfl (bg rfl rfl rfl (ef c161)) (fun a => (hD 11 hcu rfl rfl rfl rfl af)) (aL rfl) rfl rfl (oT 12 rfl rfl rfl)
     ·exact fun done hi hc hcu => aY (i := 13) (t := 30) (v := (I i4)) rfl rfl (bg rfl rfl rfl (ef c161)) (fun a => (hD 11 hcu rfl rfl rfl rfl af)) (aL rfl) rfl rfl (oT 13 rfl rfl rfl)
     ·exact fun done hi hc hcu => aY (i := 14) (t := 31) (v := (bX sv0.sv (i4.toNat * 4))) rfl rfl (bg rfl rfl rfl (ef c161)) (fun a => (hD 11 hcu rfl rfl rfl rfl (hD 13 hcu rfl rfl rfl rfl (hD 12 hcu rfl rfl rfl rfl af)))) (bf (sz := 3) 0 rfl rfl cu cz rfl bt c159 c152) rfl rfl (oT 14 rfl rfl rfl)
     ·exact fun done hi hc hcu => aY (i := 15) (t := 32) (v := (bX sv0.sv (i4.toNat * 4 + 1))) rfl rfl (bg rfl rfl rfl (ef c161)) (fun a => (hD 11 hcu rfl rfl rfl rfl (hD 14 hcu rfl rfl rfl rfl af))) (br (sz := 0) (k0 := i4.toNat * 4) (off := 1) 0 rfl im bd rfl bt (gt aR (bB c159 c152))) rfl rfl (oT 15 rfl rfl rfl)
     ·exact fun done hi hc hcu => aY (i := 16) (t := 33) (v := (I ((l0.getD i4.toNat aj).Tick))) rfl rfl (bg rfl rfl rfl (ef c161)) (fun a => (hD 11 hcu rfl rfl rfl rfl (hD 15 hcu rfl rfl rfl rfl af))) (aP (v := (I ((l0.getD i4.toNat aj).Tick))) rfl bl (bE (i := 0) rfl bt (by simp) (iG (off := 1) (z := aj) aR (bB c159 c152) rfl))) rfl rfl (oT 16 rfl rfl rfl)
     ·exact fun done hi hc hcu => aY (i := 17) (t := 34) (v := sv1.sv) rfl rfl (bg rfl rfl rfl (ef c161)) (fun a => (hD 11 hcu rfl rfl rfl rfl af)) (aL rfl) rfl rfl (oT 17 rfl rfl rfl)
     ·exact fun done hi hc hcu => aY (i := 18) (t := 35) (v := (I i4)) rfl rfl (bg rfl rfl rfl (ef c161)) (fun a => (hD 11 hcu rfl rfl rfl rfl af)) (aL rfl) rfl rfl (oT 18 rfl rfl rfl)
     ·exact fun done hi hc hcu => aY (i := 19) (t := 36) (v := (bX sv1.sv (i4.toNat * 4))) rfl rfl (bg rfl rfl rfl (ef c161)) (fun a => (hD 11 hcu rfl rfl rfl rfl (hD 18 hcu rfl rfl rfl rfl (hD 17 hcu rfl rfl rfl rfl af)))) (bf (sz := 3) 1 rfl rfl cu cz rfl bt c159 c160) rfl rfl (oT 19 rfl rfl rfl)
     ·exact fun done hi hc hcu => aY (i := 20) (t := 37) (v := (bX sv1.sv (i4.toNat * 4 + 1))) rfl rfl (bg rfl rfl rfl (ef c161)) (fun a => (hD 11 hcu rfl rfl rfl rfl (hD 19 hcu rfl rfl rfl rfl af))) (br (sz := 0) (k0 := i4.toNat * 4) (off := 1) 1 rfl im bd rfl bt (gt aR (bB c159 c160))) rfl rfl (oT 20 rfl rfl rfl)
     ·exact fun done hi hc hcu => aY (i := 21) (t := 38) (v := (I ((l1.getD i4.toNat aj).Tick))) rfl rfl (bg rfl rfl rfl (ef c161)) (fun a => (hD 11 hcu rfl rfl rfl rfl (hD 20 hcu rfl rfl rfl rfl af))) (aP (v := (I ((l1.getD i4.toNat aj).Tick))) rfl bl (bE (i := 1) rfl bt (by simp) (iG (off := 1) (z := aj) aR (bB c159 c160) rfl))) rfl rfl (oT 21 rfl rfl rfl)
     ·exact fun done hi hc hcu => aY (i := 22) (t := 39) (v := (bool (((l0.getD i4.toNat aj).Tick) != ((l1.getD i4.toNat aj).Tick)))) rfl rfl (bg rfl rfl rfl (ef c161)) (fun a => (hD 11 hcu rfl rfl rfl rfl (hD 21 hcu rfl rfl rfl rfl (hD 16 hcu rfl rfl rfl rfl af)))) (aG rfl rfl (jn _ _ _)) rfl rfl (oT 22 rfl rfl rfl)
     ·exact fun done hi hc hcu => dV 23 rfl rfl rfl rfl (fun a => (hD 22 hcu rfl rfl rfl rfl (hD 11 hcu rfl rfl rfl rfl af))) (aN rfl rfl rfl (bV (ef c161))) rfl rfl rfl rfl
     ·exact fun done hi hc hcu => dV 24 rfl rfl rfl rfl (fun a => (hD 23 hcu rfl rfl rfl rfl af)) (aL rfl) rfl rfl rfl rfl
     ·exact fun done hi hc hcu => bk (i := 25) (t := 42) rfl rfl (bh rfl rfl rfl (iC c162)) (fun a => (hD 24 hcu rfl rfl rfl rfl af)) rfl rfl (oT 25 rfl rfl rfl)
     ·exact fun done hi hc hcu => bk (i := 26) (t := 43) rfl rfl (bh rfl rfl rfl (iC c162)) (fun a => (hD 24 hcu rfl rfl rfl rfl af)) rfl rfl (oT 26 rfl rfl rfl)
     ·exact fun done hi hc hcu => bk (i := 27) (t := 44) rfl rfl (bh rfl rfl rfl (iC c162)) (fun a => (hD 24 hcu rfl rfl rfl rfl af)) rfl rfl (oT 27 rfl rfl rfl)
     ·exact fun done hi hc hcu => bk (i := 28) (t := 45) rfl rfl (bh rfl rfl rfl (iC c162)) (fun a => (hD 24 hcu rfl rfl rfl rfl af)) rfl rfl (oT 28 rfl rfl rfl)
     ·exact fun done hi hc hcu => bk (i := 29) (t := 46) rfl rfl (bh rfl rfl rfl (iC c162)) (fun a => (hD 24 hcu rfl rfl rfl rfl af)) rfl rfl (oT 29 rfl rfl rfl)
     ·exact fun done hi hc hcu => bk (i := 30) (t := 47) rfl rfl (bh rfl rfl rfl (iC c162)) (fun a => (hD 24 hcu rfl rfl rfl rfl af)) rfl rfl (oT 30 rfl rfl rfl)
     ·exact fun done hi hc hcu => bk (i := 31) (t := 48) rfl rfl (bh rfl rfl rfl (iC c162)) (fun a => (hD 24 hcu rfl rfl rfl rfl af)) rfl rfl (oT 31 rfl rfl rfl)
     ·exact fun done hi hc hcu => bk (i := 32) (t := 49) rfl rfl (bh rfl rfl rfl (iC c162)) (fun a => (hD 24 hcu rfl rfl rfl rfl af)) rfl rfl (oT 32 rfl rfl rfl)
     ·exact fun done hi hc hcu => bk (i := 33) (t := 50) rfl rfl (bh rfl rfl rfl (iC c162)) (fun a => (hD 24 hcu rfl rfl rfl rfl af)) rfl rfl (oT 33 rfl rfl rfl)
     ·exact fun done hi hc hcu => bk (i := 34) (t := 51) rfl rfl (bh rfl rfl rfl (iC c162)) (fun a => (hD 24 hcu rfl rfl rfl rfl af)) rfl rfl (oT 34 rfl rfl rfl)
     ·exact fun done hi hc hcu => bk (i := 35) (t := 52) rfl rfl (bh rfl rfl rfl (iC c162)) (fun a => (hD 24 hcu rfl rfl rfl rfl af)) rfl rfl (oT 35 rfl rfl rfl)
     ·exact fun done hi hc hcu => dV 36 rfl rfl rfl rfl (fun a => (hD 35 hcu rfl rfl rfl rfl (hD 24 hcu rfl rfl rfl rfl af))) (aN rfl rfl rfl (cb (iC c162))) rfl rfl rfl rfl
     ·exact fun done hi hc hcu => dV 37 rfl rfl rfl rfl (fun a => (hD 36 hcu rfl rfl rfl rfl af)) (aL rfl) rfl rfl rfl rfl
     ·exact fun done hi hc hcu => bk (i := 38) (t := 55) rfl rfl (bh rfl rfl rfl rfl) (fun a => (hD 37 hcu rfl rfl rfl rfl af)) rfl rfl (oT 38 rfl rfl rfl)
     ·exact fun done hi hc hcu => bk (i := 39) (t := 56) rfl rfl (bh rfl rfl rfl rfl) (fun a => (hD 37 hcu rfl rfl rfl rfl af)) rfl rfl (oT 39 rfl rfl rfl)
     ·exact fun done hi hc hcu => bk (i := 40) (t := 57) rfl rfl (bh rfl rfl rfl rfl) (fun a => (hD 37 hcu rfl rfl rfl rfl af)) rfl rfl (oT 40 rfl rfl rfl)
     ·exact fun done hi hc hcu => bk (i := 41) (t := 58) rfl rfl (bh rfl rfl rfl rfl) (fun a => (hD 37 hcu rfl rfl rfl rfl af)) rfl rfl (oT 41 rfl rfl rfl)
     ·exact fun done hi hc hcu => bk (i := 42) (t := 59) rfl rfl (bh rfl rfl rfl rfl) (fun a => (hD 37 hcu rfl rfl rfl rfl af)) rfl rfl (oT 42 rfl rfl rfl)
     ·exact fun done hi hc hcu => bk (i := 43) (t := 60) rfl rfl (bh rfl rfl rfl rfl) (fun a => (hD 37 hcu rfl rfl rfl rfl af)) rfl rfl (oT 43 rfl rfl rfl)
     ·exact fun done hi hc hcu => bk (i := 44) (t := 61) rfl rfl (bh rfl rfl rfl rfl) (fun a => (hD 37 hcu rfl rfl rfl rfl af)) rfl rfl (oT 44 rfl rfl rfl)
     ·exact fun done hi hc hcu => bk (i := 45) (t := 62) rfl rfl (bh rfl rfl rfl rfl) (fun a => (hD 37 hcu rfl rfl rfl rfl af)) rfl rfl (oT 45 rfl rfl rfl)
     ·exact fun done hi hc hcu => bk (i := 46) (t := 63) rfl rfl (bh rfl rfl rfl rfl) (fun a => (hD 37 hcu rfl rfl rfl rfl af)) rfl rfl (oT 46 rfl rfl rfl)
     ·exact fun done hi hc hcu => bk (i := 47) (t := 64) rfl rfl (bh rfl rfl rfl rfl) (fun a => (hD 37 hcu rfl rfl rfl rfl af)) rfl rfl (oT 47 rfl rfl rfl)
     ·exact fun done hi hc hcu => bk (i := 48) (t := 65) rfl rfl (bh rfl rfl rfl rfl) (fun a => (hD 37 hcu rfl rfl rfl rfl af)) rfl rfl (oT 48 rfl rfl rfl)
     ·exact fun done hi hc hcu => bk (i := 49) (t := 66) rfl rfl (bh rfl rfl rfl rfl) (fun a => (hD 37 hcu rfl rfl rfl rfl af)) rfl rfl (oT 49 rfl rfl rfl)
     ·exact fun done hi hc hcu => dV 50 rfl rfl rfl rfl (fun a => (hD 49 hcu rfl rfl rfl rfl (hD 37 hcu rfl rfl rfl rfl af))) (aN rfl rfl rfl rfl) rfl rfl rfl rfl
    ·intro done hall
     refine ck [(bv sv0 35 4 ar 87 6 av aw l0),(bv sv1 35 4 ar 87 6 av aw l1)] rfl (hL hall rfl) ?_
     refine aA rfl rfl (ag (ae (vA rfl rfl (ai (aH ?_)))))
     cases H4
     refine vP [0,1] rfl rfl ?_
     exact aT rfl rfl ⟨rfl,rfl⟩
   refine iu H4 (fun c163 H4 => ?_) fun c163 H4 => ?_
   ·refine ce 51 rfl (fun done a w => kH 68 w0 F [(0,sv0.sv),(1,sv1.sv),(5,I i4),(11,I i4),(12,sv0.sv),(13,I (l0.length : Int)),(14,Value.bool (decide (i4 < (l0.length : Int))))] [(0,17,sv0.sv),(1,18,I i4),(2,19,(bX sv0.sv (i4.toNat * 4))),(3,20,(bX sv0.sv (i4.toNat * 4 + 0))),(4,21,I ((l0.getD i4.toNat aj).Seq)),(5,22,sv1.sv),(6,23,I i4),(7,24,(bX sv1.sv (i4.toNat * 4))),(8,25,(bX sv1.sv (i4.toNat * 4 + 0))),(9,26,I ((l1.getD i4.toNat aj).Seq)),(10,27,bool (((l0.getD i4.toNat aj).Seq) != ((l1.getD i4.toNat aj).Seq))),(11,28,bool (((l0.getD i4.toNat aj).Seq) != ((l1.getD i4.toNat aj).Seq))),(12,29,sv0.sv),(13,30,I i4),(14,31,(bX sv0.sv (i4.toNat * 4))),(15,32,(bX sv0.sv (i4.toNat * 4 + 1))),(16,33,I ((l0.getD i4.toNat aj).Tick)),(17,34,sv1.sv),(18,35,I i4),(19,36,(bX sv1.sv (i4.toNat * 4))),(20,37,(bX sv1.sv (i4.toNat * 4 + 1))),(21,38,I ((l1.getD i4.toNat aj).Tick)),(22,39,bool (((l0.getD i4.toNat aj).Tick) != ((l1.getD i4.toNat aj).Tick))),(23,40,bool (((l0.getD i4.toNat aj).Tick) != ((l1.getD i4.toNat aj).Tick))),(24,41,bool (((l0.getD i4.toNat aj).Tick) != ((l1.getD i4.toNat aj).Tick))),(25,42,sv0.sv),(26,43,I i4),(27,44,(bX sv0.sv (i4.toNat * 4))),(28,45,(bX sv0.sv (i4.toNat * 4 + 2))),(29,46,I ((l0.getD i4.toNat aj).Budget)),(30,47,sv1.sv),(31,48,I i4),(32,49,(bX sv1.sv (i4.toNat * 4))),(33,50,(bX sv1.sv (i4.toNat * 4 + 2))),(34,51,I ((l1.getD i4.toNat aj).Budget)),(35,52,bool (((l0.getD i4.toNat aj).Budget) != ((l1.getD i4.toNat aj).Budget))),(36,53,bool (((l0.getD i4.toNat aj).Budget) != ((l1.getD i4.toNat aj).Budget))),(37,54,bool (((l0.getD i4.toNat aj).Budget) != ((l1.getD i4.toNat aj).Budget))),(38,55,undef),(39,56,undef),(40,57,undef),(41,58,undef),(42,59,undef),(43,60,undef),(44,61,undef),(45,62,undef),(46,63,undef),(47,64,undef),(48,65,undef),(49,66,undef),(50,67,bool true)] done [(bv sv0 35 4 ar 87 6 av aw l0),(bv sv1 35 4 ar 87 6 av aw l1)] a w) (by kernel_rfl) (by kernel_rfl) (cy (vS [0,1,5,11,12,13,14] rfl) rfl) ?_ ?_
    ·refine ⟨?_,?_,?_,?_,?_,?_,?_,?_,?_,?_,?_,?_,?_,?_,?_,?_,?_,?_,?_,?_,?_,?_,?_,?_,?_,?_,?_,?_,?_,?_,?_,?_,?_,?_,?_,?_,?_,?_,?_,?_,?_,?_,?_,?_,?_,?_,?_,?_,?_,?_,?_,trivial⟩
     ·exact fun done hi hc hcu => dV 0 rfl rfl rfl rfl (fun a => af) (aL rfl) rfl rfl rfl rfl
     ·exact fun done hi hc hcu => dV 1 rfl rfl rfl rfl (fun a => af) (aL rfl) rfl rfl rfl rfl
     ·exact fun done hi hc hcu => dV 2 rfl rfl rfl rfl (fun a => (hD 1 hcu rfl rfl rfl rfl (hD 0 hcu rfl rfl rfl rfl af))) (bf (sz := 3) 0 rfl rfl cu cz rfl bt c159 c152) rfl rfl rfl rfl
     ·exact fun done hi hc hcu => dV 3 rfl rfl rfl rfl (fun a => (hD 2 hcu rfl rfl rfl rfl af)) (br (sz := 0) (k0 := i4.toNat * 4) (off := 0) 0 rfl eU bd rfl bt (gt aR (bB c159 c152))) rfl rfl rfl rfl
     ·exact fun done hi hc hcu => dV 4 rfl rfl rfl rfl (fun a => (hD 3 hcu rfl rfl rfl rfl af)) (aP (v := (I ((l0.getD i4.toNat aj).Seq))) rfl bl (bE (i := 0) rfl bt (by simp) (iG (off := 0) (z := aj) aR (bB c159 c152) rfl))) rfl rfl rfl rfl
     ·exact fun done hi hc hcu => dV 5 rfl rfl rfl rfl (fun a => af) (aL rfl) rfl rfl rfl rfl
     ·exact fun done hi hc hcu => dV 6 rfl rfl rfl rfl (fun a => af) (aL rfl) rfl rfl rfl rfl
     ·exact fun done hi hc hcu => dV 7 rfl rfl rfl rfl (fun a => (hD 6 hcu rfl rfl rfl rfl (hD 5 hcu rfl rfl rfl rfl af))) (bf (sz := 3) 1 rfl rfl cu cz rfl bt c159 c160) rfl rfl rfl rfl
     ·exact fun done hi hc hcu => dV 8 rfl rfl rfl rfl (fun a => (hD 7 hcu rfl rfl rfl rfl af)) (br (sz := 0) (k0 := i4.toNat * 4) (off := 0) 1 rfl eU bd rfl bt (gt aR (bB c159 c160))) rfl rfl rfl rfl
     ·exact fun done hi hc hcu => dV 9 rfl rfl rfl rfl (fun a => (hD 8 hcu rfl rfl rfl rfl af)) (aP (v := (I ((l1.getD i4.toNat aj).Seq))) rfl bl (bE (i := 1) rfl bt (by simp) (iG (off := 0) (z := aj) aR (bB c159 c160) rfl))) rfl rfl rfl rfl
     ·exact fun done hi hc hcu => dV 10 rfl rfl rfl rfl (fun a => (hD 9 hcu rfl rfl rfl rfl (hD 4 hcu rfl rfl rfl rfl af))) (aG rfl rfl (jn _ _ _)) rfl rfl rfl rfl
     ·exact fun done hi hc hcu => dV 11 rfl rfl rfl rfl (fun a => (hD 10 hcu rfl rfl rfl rfl af)) (aL rfl) rfl rfl rfl rfl
     ·exact fun done hi hc hcu => aY (i := 12) (t := 29) (v := sv0.sv) rfl rfl (bg rfl rfl rfl (ef c161)) (fun a => (hD 11 hcu rfl rfl rfl rfl af)) (aL rfl) rfl rfl (oT 12 rfl rfl rfl)
     ·exact fun done hi hc hcu => aY (i := 13) (t := 30) (v := (I i4)) rfl rfl (bg rfl rfl rfl (ef c161)) (fun a => (hD 11 hcu rfl rfl rfl rfl af)) (aL rfl) rfl rfl (oT 13 rfl rfl rfl)
     ·exact fun done hi hc hcu => aY (i := 14) (t := 31) (v := (bX sv0.sv (i4.toNat * 4))) rfl rfl (bg rfl rfl rfl (ef c161)) (fun a => (hD 11 hcu rfl rfl rfl rfl (hD 13 hcu rfl rfl rfl rfl (hD 12 hcu rfl rfl rfl rfl af)))) (bf (sz := 3) 0 rfl rfl cu cz rfl bt c159 c152) rfl rfl (oT 14 rfl rfl rfl)
     ·exact fun done hi hc hcu => aY (i := 15) (t := 32) (v := (bX sv0.sv (i4.toNat * 4 + 1))) rfl rfl (bg rfl rfl rfl (ef c161)) (fun a => (hD 11 hcu rfl rfl rfl rfl (hD 14 hcu rfl rfl rfl rfl af))) (br (sz := 0) (k0 := i4.toNat * 4) (off := 1) 0 rfl im bd rfl bt (gt aR (bB c159 c152))) rfl rfl (oT 15 rfl rfl rfl)
     ·exact fun done hi hc hcu => aY (i := 16) (t := 33) (v := (I ((l0.getD i4.toNat aj).Tick))) rfl rfl (bg rfl rfl rfl (ef c161)) (fun a => (hD 11 hcu rfl rfl rfl rfl (hD 15 hcu rfl rfl rfl rfl af))) (aP (v := (I ((l0.getD i4.toNat aj).Tick))) rfl bl (bE (i := 0) rfl bt (by simp) (iG (off := 1) (z := aj) aR (bB c159 c152) rfl))) rfl rfl (oT 16 rfl rfl rfl)
     ·exact fun done hi hc hcu => aY (i := 17) (t := 34) (v := sv1.sv) rfl rfl (bg rfl rfl rfl (ef c161)) (fun a => (hD 11 hcu rfl rfl rfl rfl af)) (aL rfl) rfl rfl (oT 17 rfl rfl rfl)
     ·exact fun done hi hc hcu => aY (i := 18) (t := 35) (v := (I i4)) rfl rfl (bg rfl rfl rfl (ef c161)) (fun a => (hD 11 hcu rfl rfl rfl rfl af)) (aL rfl) rfl rfl (oT 18 rfl rfl rfl)
     ·exact fun done hi hc hcu => aY (i := 19) (t := 36) (v := (bX sv1.sv (i4.toNat * 4))) rfl rfl (bg rfl rfl rfl (ef c161)) (fun a => (hD 11 hcu rfl rfl rfl rfl (hD 18 hcu rfl rfl rfl rfl (hD 17 hcu rfl rfl rfl rfl af)))) (bf (sz := 3) 1 rfl rfl cu cz rfl bt c159 c160) rfl rfl (oT 19 rfl rfl rfl)
     ·exact fun done hi hc hcu => aY (i := 20) (t := 37) (v := (bX sv1.sv (i4.toNat * 4 + 1))) rfl rfl (bg rfl rfl rfl (ef c161)) (fun a => (hD 11 hcu rfl rfl rfl rfl (hD 19 hcu rfl rfl rfl rfl af))) (br (sz := 0) (k0 := i4.toNat * 4) (off := 1) 1 rfl im bd rfl bt (gt aR (bB c159 c160))) rfl rfl (oT 20 rfl rfl rfl)
     ·exact fun done hi hc hcu => aY (i := 21) (t := 38) (v := (I ((l1.getD i4.toNat aj).Tick))) rfl rfl (bg rfl rfl rfl (ef c161)) (fun a => (hD 11 hcu rfl rfl rfl rfl (hD 20 hcu rfl rfl rfl rfl af))) (aP (v := (I ((l1.getD i4.toNat aj).Tick))) rfl bl (bE (i := 1) rfl bt (by simp) (iG (off := 1) (z := aj) aR (bB c159 c160) rfl))) rfl rfl (oT 21 rfl rfl rfl)
     ·exact fun done hi hc hcu => aY (i := 22) (t := 39) (v := (bool (((l0.getD i4.toNat aj).Tick) != ((l1.getD i4.toNat aj).Tick)))) rfl rfl (bg rfl rfl rfl (ef c161)) (fun a => (hD 11 hcu rfl rfl rfl rfl (hD 21 hcu rfl rfl rfl rfl (hD 16 hcu rfl rfl rfl rfl af)))) (aG rfl rfl (jn _ _ _)) rfl rfl (oT 22 rfl rfl rfl)
     ·exact fun done hi hc hcu => dV 23 rfl rfl rfl rfl (fun a => (hD 22 hcu rfl rfl rfl rfl (hD 11 hcu rfl rfl rfl rfl af))) (aN rfl rfl rfl (bV (ef c161))) rfl rfl rfl rfl
     ·exact fun done hi hc hcu => dV 24 rfl rfl rfl rfl (fun a => (hD 23 hcu rfl rfl rfl rfl af)) (aL rfl) rfl rfl rfl rfl
     ·exact fun done hi hc hcu => aY (i := 25) (t := 42) (v := sv0.sv) rfl rfl (bg rfl rfl rfl (ef c162)) (fun a => (hD 24 hcu rfl rfl rfl rfl af)) (aL rfl) rfl rfl (oT 25 rfl rfl rfl)
     ·exact fun done hi hc hcu => aY (i := 26) (t := 43) (v := (I i4)) rfl rfl (bg rfl rfl rfl (ef c162)) (fun a => (hD 24 hcu rfl rfl rfl rfl af)) (aL rfl) rfl rfl (oT 26 rfl rfl rfl)
     ·exact fun done hi hc hcu => aY (i := 27) (t := 44) (v := (bX sv0.sv (i4.toNat * 4))) rfl rfl (bg rfl rfl rfl (ef c162)) (fun a => (hD 24 hcu rfl rfl rfl rfl (hD 26 hcu rfl rfl rfl rfl (hD 25 hcu rfl rfl rfl rfl af)))) (bf (sz := 3) 0 rfl rfl cu cz rfl bt c159 c152) rfl rfl (oT 27 rfl rfl rfl)
     ·exact fun done hi hc hcu => aY (i := 28) (t := 45) (v := (bX sv0.sv (i4.toNat * 4 + 2))) rfl rfl (bg rfl rfl rfl (ef c162)) (fun a => (hD 24 hcu rfl rfl rfl rfl (hD 27 hcu rfl rfl rfl rfl af))) (br (sz := 0) (k0 := i4.toNat * 4) (off := 2) 0 rfl ji bd rfl bt (gt aR (bB c159 c152))) rfl rfl (oT 28 rfl rfl rfl)
     ·exact fun done hi hc hcu => aY (i := 29) (t := 46) (v := (I ((l0.getD i4.toNat aj).Budget))) rfl rfl (bg rfl rfl rfl (ef c162)) (fun a => (hD 24 hcu rfl rfl rfl rfl (hD 28 hcu rfl rfl rfl rfl af))) (aP (v := (I ((l0.getD i4.toNat aj).Budget))) rfl bl (bE (i := 0) rfl bt (by simp) (iG (off := 2) (z := aj) aR (bB c159 c152) rfl))) rfl rfl (oT 29 rfl rfl rfl)
     ·exact fun done hi hc hcu => aY (i := 30) (t := 47) (v := sv1.sv) rfl rfl (bg rfl rfl rfl (ef c162)) (fun a => (hD 24 hcu rfl rfl rfl rfl af)) (aL rfl) rfl rfl (oT 30 rfl rfl rfl)
     ·exact fun done hi hc hcu => aY (i := 31) (t := 48) (v := (I i4)) rfl rfl (bg rfl rfl rfl (ef c162)) (fun a => (hD 24 hcu rfl rfl rfl rfl af)) (aL rfl) rfl rfl (oT 31 rfl rfl rfl)
     ·exact fun done hi hc hcu => aY (i := 32) (t := 49) (v := (bX sv1.sv (i4.toNat * 4))) rfl rfl (bg rfl rfl rfl (ef c162)) (fun a => (hD 24 hcu rfl rfl rfl rfl (hD 31 hcu rfl rfl rfl rfl (hD 30 hcu rfl rfl rfl rfl af)))) (bf (sz := 3) 1 rfl rfl cu cz rfl bt c159 c160) rfl rfl (oT 32 rfl rfl rfl)
     ·exact fun done hi hc hcu => aY (i := 33) (t := 50) (v := (bX sv1.sv (i4.toNat * 4 + 2))) rfl rfl (bg rfl rfl rfl (ef c162)) (fun a => (hD 24 hcu rfl rfl rfl rfl (hD 32 hcu rfl rfl rfl rfl af))) (br (sz := 0) (k0 := i4.toNat * 4) (off := 2) 1 rfl ji bd rfl bt (gt aR (bB c159 c160))) rfl rfl (oT 33 rfl rfl rfl)
     ·exact fun done hi hc hcu => aY (i := 34) (t := 51) (v := (I ((l1.getD i4.toNat aj).Budget))) rfl rfl (bg rfl rfl rfl (ef c162)) (fun a => (hD 24 hcu rfl rfl rfl rfl (hD 33 hcu rfl rfl rfl rfl af))) (aP (v := (I ((l1.getD i4.toNat aj).Budget))) rfl bl (bE (i := 1) rfl bt (by simp) (iG (off := 2) (z := aj) aR (bB c159 c160) rfl))) rfl rfl (oT 34 rfl rfl rfl)
     ·exact fun done hi hc hcu => aY (i := 35) (t := 52) (v := (bool (((l0.getD i4.toNat aj).Budget) != ((l1.getD i4.toNat aj).Budget)))) rfl rfl (bg rfl rfl rfl (ef c162)) (fun a => (hD 24 hcu rfl rfl rfl rfl (hD 34 hcu rfl rfl rfl rfl (hD 29 hcu rfl rfl rfl rfl af)))) (aG rfl rfl (jn _ _ _)) rfl rfl (oT 35 rfl rfl rfl)
     ·exact fun done hi hc hcu => dV 36 rfl rfl rfl rfl (fun a => (hD 35 hcu rfl rfl rfl rfl (hD 24 hcu rfl rfl rfl rfl af))) (aN rfl rfl rfl (bV (ef c162))) rfl rfl rfl rfl
     ·exact fun done hi hc hcu => dV 37 rfl rfl rfl rfl (fun a => (hD 36 hcu rfl rfl rfl rfl af)) (aL rfl) rfl rfl rfl rfl
     ·exact fun done hi hc hcu => bk (i := 38) (t := 55) rfl rfl (bh rfl rfl rfl (iC c163)) (fun a => (hD 37 hcu rfl rfl rfl rfl af)) rfl rfl (oT 38 rfl rfl rfl)
     ·exact fun done hi hc hcu => bk (i := 39) (t := 56) rfl rfl (bh rfl rfl rfl (iC c163)) (fun a => (hD 37 hcu rfl rfl rfl rfl af)) rfl rfl (oT 39 rfl rfl rfl)
     ·exact fun done hi hc hcu => bk (i := 40) (t := 57) rfl rfl (bh rfl rfl rfl (iC c163)) (fun a => (hD 37 hcu rfl rfl rfl rfl af)) rfl rfl (oT 40 rfl rfl rfl)
     ·exact fun done hi hc hcu => bk (i := 41) (t := 58) rfl rfl (bh rfl rfl rfl (iC c163)) (fun a => (hD 37 hcu rfl rfl rfl rfl af)) rfl rfl (oT 41 rfl rfl rfl)
     ·exact fun done hi hc hcu => bk (i := 42) (t := 59) rfl rfl (bh rfl rfl rfl (iC c163)) (fun a => (hD 37 hcu rfl rfl rfl rfl af)) rfl rfl (oT 42 rfl rfl rfl)
     ·exact fun done hi hc hcu => bk (i := 43) (t := 60) rfl rfl (bh rfl rfl rfl (iC c163)) (fun a => (hD 37 hcu rfl rfl rfl rfl af)) rfl rfl (oT 43 rfl rfl rfl)
     ·exact fun done hi hc hcu => bk (i := 44) (t := 61) rfl rfl (bh rfl rfl rfl (iC c163)) (fun a => (hD 37 hcu rfl rfl rfl rfl af)) rfl rfl (oT 44 rfl rfl rfl)
     ·exact fun done hi hc hcu => bk (i := 45) (t := 62) rfl rfl (bh rfl rfl rfl (iC c163)) (fun a => (hD 37 hcu rfl rfl rfl rfl af)) rfl rfl (oT 45 rfl rfl rfl)
     ·exact fun done hi hc hcu => bk (i := 46) (t := 63) rfl rfl (bh rfl rfl rfl (iC c163)) (fun a => (hD 37 hcu rfl rfl rfl rfl af)) rfl rfl (oT 46 rfl rfl rfl)
     ·exact fun done hi hc hcu => bk (i := 47) (t := 64) rfl rfl (bh rfl rfl rfl (iC c163)) (fun a => (hD 37 hcu rfl rfl rfl rfl af)) rfl rfl (oT 47 rfl rfl rfl)
     ·exact fun done hi hc hcu => bk (i := 48) (t := 65) rfl rfl (bh rfl rfl rfl (iC c163)) (fun a => (hD 37 hcu rfl rfl rfl rfl af)) rfl rfl (oT 48 rfl rfl rfl)
     ·exact fun done hi hc hcu => bk (i := 49) (t := 66) rfl rfl (bh rfl rfl rfl (iC c163)) (fun a => (hD 37 hcu rfl rfl rfl rfl af)) rfl rfl (oT 49 rfl rfl rfl)
     ·exact fun done hi hc hcu => dV 50 rfl rfl rfl rfl (fun a => (hD 49 hcu rfl rfl rfl rfl (hD 37 hcu rfl rfl rfl rfl af))) (aN rfl rfl rfl (cb (iC c163))) rfl rfl rfl rfl
    ·intro done hall
     refine ck [(bv sv0 35 4 ar 87 6 av aw l0),(bv sv1 35 4 ar 87 6 av aw l1)] rfl (hL hall rfl) ?_
     refine aA rfl rfl (ag (ae (vA rfl rfl (ai (aH ?_)))))
     cases H4
     refine vP [0,1] rfl rfl ?_
     exact aT rfl rfl ⟨rfl,rfl⟩
   obtain ⟨x24,h24,H4⟩ := oB H4
   refine ce 51 rfl (fun done a w => kH 68 w0 F [(0,sv0.sv),(1,sv1.sv),(5,I i4),(11,I i4),(12,sv0.sv),(13,I (l0.length : Int)),(14,Value.bool (decide (i4 < (l0.length : Int))))] [(0,17,sv0.sv),(1,18,I i4),(2,19,(bX sv0.sv (i4.toNat * 4))),(3,20,(bX sv0.sv (i4.toNat * 4 + 0))),(4,21,I ((l0.getD i4.toNat aj).Seq)),(5,22,sv1.sv),(6,23,I i4),(7,24,(bX sv1.sv (i4.toNat * 4))),(8,25,(bX sv1.sv (i4.toNat * 4 + 0))),(9,26,I ((l1.getD i4.toNat aj).Seq)),(10,27,bool (((l0.getD i4.toNat aj).Seq) != ((l1.getD i4.toNat aj).Seq))),(11,28,bool (((l0.getD i4.toNat aj).Seq) != ((l1.getD i4.toNat aj).Seq))),(12,29,sv0.sv),(13,30,I i4),(14,31,(bX sv0.sv (i4.toNat * 4))),(15,32,(bX sv0.sv (i4.toNat * 4 + 1))),(16,33,I ((l0.getD i4.toNat aj).Tick)),(17,34,sv1.sv),(18,35,I i4),(19,36,(bX sv1.sv (i4.toNat * 4))),(20,37,(bX sv1.sv (i4.toNat * 4 + 1))),(21,38,I ((l1.getD i4.toNat aj).Tick)),(22,39,bool (((l0.getD i4.toNat aj).Tick) != ((l1.getD i4.toNat aj).Tick))),(23,40,bool (((l0.getD i4.toNat aj).Tick) != ((l1.getD i4.toNat aj).Tick))),(24,41,bool (((l0.getD i4.toNat aj).Tick) != ((l1.getD i4.toNat aj).Tick))),(25,42,sv0.sv),(26,43,I i4),(27,44,(bX sv0.sv (i4.toNat * 4))),(28,45,(bX sv0.sv (i4.toNat * 4 + 2))),(29,46,I ((l0.getD i4.toNat aj).Budget)),(30,47,sv1.sv),(31,48,I i4),(32,49,(bX sv1.sv (i4.toNat * 4))),(33,50,(bX sv1.sv (i4.toNat * 4 + 2))),(34,51,I ((l1.getD i4.toNat aj).Budget)),(35,52,bool (((l0.getD i4.toNat aj).Budget) != ((l1.getD i4.toNat aj).Budget))),(36,53,bool (((l0.getD i4.toNat aj).Budget) != ((l1.getD i4.toNat aj).Budget))),(37,54,bool (((l0.getD i4.toNat aj).Budget) != ((l1.getD i4.toNat aj).Budget))),(38,55,sv0.sv),(39,56,I i4),(40,57,(bX sv0.sv (i4.toNat * 4))),(41,58,(bX sv0.sv (i4.toNat * 4 + 3))),(42,59,(sv0.vs i4.toNat)),(43,60,sv1.sv),(44,61,I i4),(45,62,(bX sv1.sv (i4.toNat * 4))),(46,63,(bX sv1.sv (i4.toNat * 4 + 3))),(47,64,(sv1.vs i4.toNat)),(48,65,bool x24),(49,66,bool (!x24)),(50,67,bool (!x24))] done [(bv sv0 35 4 ar 87 6 av aw l0),(bv sv1 35 4 ar 87 6 av aw l1)] a w) (by kernel_rfl) (by kernel_rfl) (cy (vS [0,1,5,11,12,13,14] rfl) rfl) ?_ ?_
   ·refine ⟨?_,?_,?_,?_,?_,?_,?_,?_,?_,?_,?_,?_,?_,?_,?_,?_,?_,?_,?_,?_,?_,?_,?_,?_,?_,?_,?_,?_,?_,?_,?_,?_,?_,?_,?_,?_,?_,?_,?_,?_,?_,?_,?_,?_,?_,?_,?_,?_,?_,?_,?_,trivial⟩
    ·exact fun done hi hc hcu => dV 0 rfl rfl rfl rfl (fun a => af) (aL rfl) rfl rfl rfl rfl
    ·exact fun done hi hc hcu => dV 1 rfl rfl rfl rfl (fun a => af) (aL rfl) rfl rfl rfl rfl
    ·exact fun done hi hc hcu => dV 2 rfl rfl rfl rfl (fun a => (hD 1 hcu rfl rfl rfl rfl (hD 0 hcu rfl rfl rfl rfl af))) (bf (sz := 3) 0 rfl rfl cu cz rfl bt c159 c152) rfl rfl rfl rfl
    ·exact fun done hi hc hcu => dV 3 rfl rfl rfl rfl (fun a => (hD 2 hcu rfl rfl rfl rfl af)) (br (sz := 0) (k0 := i4.toNat * 4) (off := 0) 0 rfl eU bd rfl bt (gt aR (bB c159 c152))) rfl rfl rfl rfl
    ·exact fun done hi hc hcu => dV 4 rfl rfl rfl rfl (fun a => (hD 3 hcu rfl rfl rfl rfl af)) (aP (v := (I ((l0.getD i4.toNat aj).Seq))) rfl bl (bE (i := 0) rfl bt (by simp) (iG (off := 0) (z := aj) aR (bB c159 c152) rfl))) rfl rfl rfl rfl
    ·exact fun done hi hc hcu => dV 5 rfl rfl rfl rfl (fun a => af) (aL rfl) rfl rfl rfl rfl
    ·exact fun done hi hc hcu => dV 6 rfl rfl rfl rfl (fun a => af) (aL rfl) rfl rfl rfl rfl
    ·exact fun done hi hc hcu => dV 7 rfl rfl rfl rfl (fun a => (hD 6 hcu rfl rfl rfl rfl (hD 5 hcu rfl rfl rfl rfl af))) (bf (sz := 3) 1 rfl rfl cu cz rfl bt c159 c160) rfl rfl rfl rfl
    ·exact fun done hi hc hcu => dV 8 rfl rfl rfl rfl (fun a => (hD 7 hcu rfl rfl rfl rfl af)) (br (sz := 0) (k0 := i4.toNat * 4) (off := 0) 1 rfl eU bd rfl bt (gt aR (bB c159 c160))) rfl rfl rfl rfl
    ·exact fun done hi hc hcu => dV 9 rfl rfl rfl rfl (fun a => (hD 8 hcu rfl rfl rfl rfl af)) (aP (v := (I ((l1.getD i4.toNat aj).Seq))) rfl bl (bE (i := 1) rfl bt (by simp) (iG (off := 0) (z := aj) aR (bB c159 c160) rfl))) rfl rfl rfl rfl
    ·exact fun done hi hc hcu => dV 10 rfl rfl rfl rfl (fun a => (hD 9 hcu rfl rfl rfl rfl (hD 4 hcu rfl rfl rfl rfl af))) (aG rfl rfl (jn _ _ _)) rfl rfl rfl rfl
    ·exact fun done hi hc hcu => dV 11 rfl rfl rfl rfl (fun a => (hD 10 hcu rfl rfl rfl rfl af)) (aL rfl) rfl rfl rfl rfl
    ·exact fun done hi hc hcu => aY (i := 12) (t := 29) (v := sv0.sv) rfl rfl (bg rfl rfl rfl (ef c161)) (fun a => (hD 11 hcu rfl rfl rfl rfl af)) (aL rfl) rfl rfl (oT 12 rfl rfl rfl)
    ·exact fun done hi hc hcu => aY (i := 13) (t := 30) (v := (I i4)) rfl rfl (bg rfl rfl rfl (ef c161)) (fun a => (hD 11 hcu rfl rfl rfl rfl af)) (aL rfl) rfl rfl (oT 13 rfl rfl rfl)
    ·exact fun done hi hc hcu => aY (i := 14) (t := 31) (v := (bX sv0.sv (i4.toNat * 4))) rfl rfl (bg rfl rfl rfl (ef c161)) (fun a => (hD 11 hcu rfl rfl rfl rfl (hD 13 hcu rfl rfl rfl rfl (hD 12 hcu rfl rfl rfl rfl af)))) (bf (sz := 3) 0 rfl rfl cu cz rfl bt c159 c152) rfl rfl (oT 14 rfl rfl rfl)
    ·exact fun done hi hc hcu => aY (i := 15) (t := 32) (v := (bX sv0.sv (i4.toNat * 4 + 1))) rfl rfl (bg rfl rfl rfl (ef c161)) (fun a => (hD 11 hcu rfl rfl rfl rfl (hD 14 hcu rfl rfl rfl rfl af))) (br (sz := 0) (k0 := i4.toNat * 4) (off := 1) 0 rfl im bd rfl bt (gt aR (bB c159 c152))) rfl rfl (oT 15 rfl rfl rfl)
    ·exact fun done hi hc hcu => aY (i := 16) (t := 33) (v := (I ((l0.getD i4.toNat aj).Tick))) rfl rfl (bg rfl rfl rfl (ef c161)) (fun a => (hD 11 hcu rfl rfl rfl rfl (hD 15 hcu rfl rfl rfl rfl af))) (aP (v := (I ((l0.getD i4.toNat aj).Tick))) rfl bl (bE (i := 0) rfl bt (by simp) (iG (off := 1) (z := aj) aR (bB c159 c152) rfl))) rfl rfl (oT 16 rfl rfl rfl)
    ·exact fun done hi hc hcu => aY (i := 17) (t := 34) (v := sv1.sv) rfl rfl (bg rfl rfl rfl (ef c161)) (fun a => (hD 11 hcu rfl rfl rfl rfl af)) (aL rfl) rfl rfl (oT 17 rfl rfl rfl)
    ·exact fun done hi hc hcu => aY (i := 18) (t := 35) (v := (I i4)) rfl rfl (bg rfl rfl rfl (ef c161)) (fun a => (hD 11 hcu rfl rfl rfl rfl af)) (aL rfl) rfl rfl (oT 18 rfl rfl rfl)
    ·exact fun done hi hc hcu => aY (i := 19) (t := 36) (v := (bX sv1.sv (i4.toNat * 4))) rfl rfl (bg rfl rfl rfl (ef c161)) (fun a => (hD 11 hcu rfl rfl rfl rfl (hD 18 hcu rfl rfl rfl rfl (hD 17 hcu rfl rfl rfl rfl af)))) (bf (sz := 3) 1 rfl rfl cu cz rfl bt c159 c160) rfl rfl (oT 19 rfl rfl rfl)
    ·exact fun done hi hc hcu => aY (i := 20) (t := 37) (v := (bX sv1.sv (i4.toNat * 4 + 1))) rfl rfl (bg rfl rfl rfl (ef c161)) (fun a => (hD 11 hcu rfl rfl rfl rfl (hD 19 hcu rfl rfl rfl rfl af))) (br (sz := 0) (k0 := i4.toNat * 4) (off := 1) 1 rfl im bd rfl bt (gt aR (bB c159 c160))) rfl rfl (oT 20 rfl rfl rfl)
    ·exact fun done hi hc hcu => aY (i := 21) (t := 38) (v := (I ((l1.getD i4.toNat aj).Tick))) rfl rfl (bg rfl rfl rfl (ef c161)) (fun a => (hD 11 hcu rfl rfl rfl rfl (hD 20 hcu rfl rfl rfl rfl af))) (aP (v := (I ((l1.getD i4.toNat aj).Tick))) rfl bl (bE (i := 1) rfl bt (by simp) (iG (off := 1) (z := aj) aR (bB c159 c160) rfl))) rfl rfl (oT 21 rfl rfl rfl)
    ·exact fun done hi hc hcu => aY (i := 22) (t := 39) (v := (bool (((l0.getD i4.toNat aj).Tick) != ((l1.getD i4.toNat aj).Tick)))) rfl rfl (bg rfl rfl rfl (ef c161)) (fun a => (hD 11 hcu rfl rfl rfl rfl (hD 21 hcu rfl rfl rfl rfl (hD 16 hcu rfl rfl rfl rfl af)))) (aG rfl rfl (jn _ _ _)) rfl rfl (oT 22 rfl rfl rfl)
    ·exact fun done hi hc hcu => dV 23 rfl rfl rfl rfl (fun a => (hD 22 hcu rfl rfl rfl rfl (hD 11 hcu rfl rfl rfl rfl af))) (aN rfl rfl rfl (bV (ef c161))) rfl rfl rfl rfl
    ·exact fun done hi hc hcu => dV 24 rfl rfl rfl rfl (fun a => (hD 23 hcu rfl rfl rfl rfl af)) (aL rfl) rfl rfl rfl rfl
    ·exact fun done hi hc hcu => aY (i := 25) (t := 42) (v := sv0.sv) rfl rfl (bg rfl rfl rfl (ef c162)) (fun a => (hD 24 hcu rfl rfl rfl rfl af)) (aL rfl) rfl rfl (oT 25 rfl rfl rfl)
    ·exact fun done hi hc hcu => aY (i := 26) (t := 43) (v := (I i4)) rfl rfl (bg rfl rfl rfl (ef c162)) (fun a => (hD 24 hcu rfl rfl rfl rfl af)) (aL rfl) rfl rfl (oT 26 rfl rfl rfl)
    ·exact fun done hi hc hcu => aY (i := 27) (t := 44) (v := (bX sv0.sv (i4.toNat * 4))) rfl rfl (bg rfl rfl rfl (ef c162)) (fun a => (hD 24 hcu rfl rfl rfl rfl (hD 26 hcu rfl rfl rfl rfl (hD 25 hcu rfl rfl rfl rfl af)))) (bf (sz := 3) 0 rfl rfl cu cz rfl bt c159 c152) rfl rfl (oT 27 rfl rfl rfl)
    ·exact fun done hi hc hcu => aY (i := 28) (t := 45) (v := (bX sv0.sv (i4.toNat * 4 + 2))) rfl rfl (bg rfl rfl rfl (ef c162)) (fun a => (hD 24 hcu rfl rfl rfl rfl (hD 27 hcu rfl rfl rfl rfl af))) (br (sz := 0) (k0 := i4.toNat * 4) (off := 2) 0 rfl ji bd rfl bt (gt aR (bB c159 c152))) rfl rfl (oT 28 rfl rfl rfl)
    ·exact fun done hi hc hcu => aY (i := 29) (t := 46) (v := (I ((l0.getD i4.toNat aj).Budget))) rfl rfl (bg rfl rfl rfl (ef c162)) (fun a => (hD 24 hcu rfl rfl rfl rfl (hD 28 hcu rfl rfl rfl rfl af))) (aP (v := (I ((l0.getD i4.toNat aj).Budget))) rfl bl (bE (i := 0) rfl bt (by simp) (iG (off := 2) (z := aj) aR (bB c159 c152) rfl))) rfl rfl (oT 29 rfl rfl rfl)
    ·exact fun done hi hc hcu => aY (i := 30) (t := 47) (v := sv1.sv) rfl rfl (bg rfl rfl rfl (ef c162)) (fun a => (hD 24 hcu rfl rfl rfl rfl af)) (aL rfl) rfl rfl (oT 30 rfl rfl rfl)
    ·exact fun done hi hc hcu => aY (i := 31) (t := 48) (v := (I i4)) rfl rfl (bg rfl rfl rfl (ef c162)) (fun a => (hD 24 hcu rfl rfl rfl rfl af)) (aL rfl) rfl rfl (oT 31 rfl rfl rfl)
    ·exact fun done hi hc hcu => aY (i := 32) (t := 49) (v := (bX sv1.sv (i4.toNat * 4))) rfl rfl (bg rfl rfl rfl (ef c162)) (fun a => (hD 24 hcu rfl rfl rfl rfl (hD 31 hcu rfl rfl rfl rfl (hD 30 hcu rfl rfl rfl rfl af)))) (bf (sz := 3) 1 rfl rfl cu cz rfl bt c159 c160) rfl rfl (oT 32 rfl rfl rfl)
    ·exact fun done hi hc hcu => aY (i := 33) (t := 50) (v := (bX sv1.sv (i4.toNat * 4 + 2))) rfl rfl (bg rfl rfl rfl (ef c162)) (fun a => (hD 24 hcu rfl rfl rfl rfl (hD 32 hcu rfl rfl rfl rfl af))) (br (sz := 0) (k0 := i4.toNat * 4) (off := 2) 1 rfl ji bd rfl bt (gt aR (bB c159 c160))) rfl rfl (oT 33 rfl rfl rfl)
    ·exact fun done hi hc hcu => aY (i := 34) (t := 51) (v := (I ((l1.getD i4.toNat aj).Budget))) rfl rfl (bg rfl rfl rfl (ef c162)) (fun a => (hD 24 hcu rfl rfl rfl rfl (hD 33 hcu rfl rfl rfl rfl af))) (aP (v := (I ((l1.getD i4.toNat aj).Budget))) rfl bl (bE (i := 1) rfl bt (by simp) (iG (off := 2) (z := aj) aR (bB c159 c160) rfl))) rfl rfl (oT 34 rfl rfl rfl)
    ·exact fun done hi hc hcu => aY (i := 35) (t := 52) (v := (bool (((l0.getD i4.toNat aj).Budget) != ((l1.getD i4.toNat aj).Budget)))) rfl rfl (bg rfl rfl rfl (ef c162)) (fun a => (hD 24 hcu rfl rfl rfl rfl (hD 34 hcu rfl rfl rfl rfl (hD 29 hcu rfl rfl rfl rfl af)))) (aG rfl rfl (jn _ _ _)) rfl rfl (oT 35 rfl rfl rfl)
    ·exact fun done hi hc hcu => dV 36 rfl rfl rfl rfl (fun a => (hD 35 hcu rfl rfl rfl rfl (hD 24 hcu rfl rfl rfl rfl af))) (aN rfl rfl rfl (bV (ef c162))) rfl rfl rfl rfl
    ·exact fun done hi hc hcu => dV 37 rfl rfl rfl rfl (fun a => (hD 36 hcu rfl rfl rfl rfl af)) (aL rfl) rfl rfl rfl rfl
    ·exact fun done hi hc hcu => aY (i := 38) (t := 55) (v := sv0.sv) rfl rfl (bg rfl rfl rfl (ef c163)) (fun a => (hD 37 hcu rfl rfl rfl rfl af)) (aL rfl) rfl rfl (oT 38 rfl rfl rfl)
    ·exact fun done hi hc hcu => aY (i := 39) (t := 56) (v := (I i4)) rfl rfl (bg rfl rfl rfl (ef c163)) (fun a => (hD 37 hcu rfl rfl rfl rfl af)) (aL rfl) rfl rfl (oT 39 rfl rfl rfl)
    ·exact fun done hi hc hcu => aY (i := 40) (t := 57) (v := (bX sv0.sv (i4.toNat * 4))) rfl rfl (bg rfl rfl rfl (ef c163)) (fun a => (hD 37 hcu rfl rfl rfl rfl (hD 39 hcu rfl rfl rfl rfl (hD 38 hcu rfl rfl rfl rfl af)))) (bf (sz := 3) 0 rfl rfl cu cz rfl bt c159 c152) rfl rfl (oT 40 rfl rfl rfl)
    ·exact fun done hi hc hcu => aY (i := 41) (t := 58) (v := (bX sv0.sv (i4.toNat * 4 + 3))) rfl rfl (bg rfl rfl rfl (ef c163)) (fun a => (hD 37 hcu rfl rfl rfl rfl (hD 40 hcu rfl rfl rfl rfl af))) (br (sz := 0) (k0 := i4.toNat * 4) (off := 3) 0 rfl ig cJ rfl bt (gt aR (bB c159 c152))) rfl rfl (oT 41 rfl rfl rfl)
    ·exact fun done hi hc hcu => aY (i := 42) (t := 59) (v := (sv0.vs i4.toNat)) rfl rfl (bg rfl rfl rfl (ef c163)) (fun a => (hD 37 hcu rfl rfl rfl rfl (hD 41 hcu rfl rfl rfl rfl af))) (aP (v := (sv0.vs i4.toNat)) rfl fm (bE (i := 0) rfl bt (by simp) (iG (off := 3) (z := aj) aR (bB c159 c152) rfl))) rfl rfl (oT 42 rfl rfl rfl)
    ·exact fun done hi hc hcu => aY (i := 43) (t := 60) (v := sv1.sv) rfl rfl (bg rfl rfl rfl (ef c163)) (fun a => (hD 37 hcu rfl rfl rfl rfl af)) (aL rfl) rfl rfl (oT 43 rfl rfl rfl)
    ·exact fun done hi hc hcu => aY (i := 44) (t := 61) (v := (I i4)) rfl rfl (bg rfl rfl rfl (ef c163)) (fun a => (hD 37 hcu rfl rfl rfl rfl af)) (aL rfl) rfl rfl (oT 44 rfl rfl rfl)
    ·exact fun done hi hc hcu => aY (i := 45) (t := 62) (v := (bX sv1.sv (i4.toNat * 4))) rfl rfl (bg rfl rfl rfl (ef c163)) (fun a => (hD 37 hcu rfl rfl rfl rfl (hD 44 hcu rfl rfl rfl rfl (hD 43 hcu rfl rfl rfl rfl af)))) (bf (sz := 3) 1 rfl rfl cu cz rfl bt c159 c160) rfl rfl (oT 45 rfl rfl rfl)
    ·exact fun done hi hc hcu => aY (i := 46) (t := 63) (v := (bX sv1.sv (i4.toNat * 4 + 3))) rfl rfl (bg rfl rfl rfl (ef c163)) (fun a => (hD 37 hcu rfl rfl rfl rfl (hD 45 hcu rfl rfl rfl rfl af))) (br (sz := 0) (k0 := i4.toNat * 4) (off := 3) 1 rfl ig cJ rfl bt (gt aR (bB c159 c160))) rfl rfl (oT 46 rfl rfl rfl)
    ·exact fun done hi hc hcu => aY (i := 47) (t := 64) (v := (sv1.vs i4.toNat)) rfl rfl (bg rfl rfl rfl (ef c163)) (fun a => (hD 37 hcu rfl rfl rfl rfl (hD 46 hcu rfl rfl rfl rfl af))) (aP (v := (sv1.vs i4.toNat)) rfl fm (bE (i := 1) rfl bt (by simp) (iG (off := 3) (z := aj) aR (bB c159 c160) rfl))) rfl rfl (oT 47 rfl rfl rfl)
    ·exact fun done hi hc hcu => lD (i := 48) (t := 65) (v := (bool x24)) rfl rfl (bg rfl rfl rfl (ef c163)) (fun a => (hD 37 hcu rfl rfl rfl rfl (hD 47 hcu rfl rfl rfl rfl (hD 42 hcu rfl rfl rfl rfl af)))) (bC (Lr := []) [0,1] [0,1] (first := []) (cap := []) (xs := [.tmp 59,.tmp 64]) rfl rfl sP rfl (dU.spec K (sv0.vs i4.toNat) (bv sv0 35 4 ar 87 6 av aw l0) (sv1.vs i4.toNat) (bv sv1 35 4 ar 87 6 av aw l1) ((l0.getD i4.toNat aj).Facts) ((l1.getD i4.toNat aj).Facts) (show da _ _ ((l0.getD i4.toNat aj).Facts).length 6 (fl aC ((l0.getD i4.toNat aj).Facts)) from hP (z := aj) (bB c159 c152)) (show da _ _ ((l1.getD i4.toNat aj).Facts).length 6 (fl aC ((l1.getD i4.toNat aj).Facts)) from hP (z := aj) (bB c159 c160)) _ h24) (by decide) rfl (by decide) rfl) rfl rfl (oT 48 rfl rfl rfl)
    ·exact fun done hi hc hcu => aY (i := 49) (t := 66) (v := (bool (!x24))) rfl rfl (bg rfl rfl rfl (ef c163)) (fun a => (hD 37 hcu rfl rfl rfl rfl (hD 48 hcu rfl rfl rfl rfl af))) (iR rfl (ju _)) rfl rfl (oT 49 rfl rfl rfl)
    ·exact fun done hi hc hcu => dV 50 rfl rfl rfl rfl (fun a => (hD 49 hcu rfl rfl rfl rfl (hD 37 hcu rfl rfl rfl rfl af))) (aN rfl rfl rfl (bV (ef c163))) rfl rfl rfl rfl
   ·intro done hall
    refine ck [(bv sv0 35 4 ar 87 6 av aw l0),(bv sv1 35 4 ar 87 6 av aw l1)] rfl (hL hall rfl) ?_
    refine iu H4 (fun c164 H4 => ?_) fun c164 H4 => ?_
    ·refine aA rfl c164 (ag (ae (vA rfl rfl (ai (aH ?_)))))
     cases H4
     refine vP [0,1] rfl rfl ?_
     exact aT rfl rfl ⟨rfl,rfl⟩
    refine ay rfl (bF c164) (aV (ae (vM rfl rfl (vV (aG rfl rfl (ci _ _ _) ) rfl (vA rfl rfl (ai ?_))))))
    exact vF [0,1] rfl rfl (vS [0,1,5] rfl) fun a w h => ⟨k,Nat.lt_succ_self k,_,H4,h⟩
theorem cO.spec (K p0 : Nat) (sv0 : Value) (p0_0 : Int) (l0 : List aF) (p0_2 a1 a2 : Int) (r : List aB) (H : cO K p0_0 l0 p0_2 a1 a2 = some r) : bp Tryz.prog 52 [pt p0 0,I a1,I a2] [box p0 96 [I p0_0,sv0,I p0_2],own sv0 151 9 l0.length (fl ak l0)] (fun v M => ∃ sv27 : Value,v = sv27 ∧ M = [box p0 96 [I p0_0,sv0,I p0_2],own sv0 151 9 l0.length (fl ak l0),own sv27 87 6 r.length (fl aC r)]) := by
 unfold cO at H
 refine bo Tryz.func52 rfl 49 rfl (nL rfl) fun F w0 => ?_
 show cB (St 49 w0 F [(0,pt p0 0),(1,I a1),(2,I a2)] [box p0 96 [I p0_0,sv0,I p0_2],own sv0 151 9 l0.length (fl ak l0)]) _
 refine ag (ae (vA rfl rfl (ai (ag (ae (vA rfl rfl (ai (ag (ag (ae (vA rfl rfl ?_)))))))))))
 refine ai (be ?_)
 refine cf (fun k a w => ∃ i4,∃ l5,∃ sv45 : Value,cU K l0 a1 a2 k i4 l5 = some r ∧ St 49 w0 F [(0,pt p0 0),(1,I a1),(2,I a2),(7,sv45),(8,I i4)] [box p0 96 [I p0_0,sv0,I p0_2],own sv0 151 9 l0.length (fl ak l0),own sv45 87 6 l5.length (fl aC l5)] a w) K ?_ ?_
 ·refine cP 87 6 ?_
  exact vF [1,2,0] rfl rfl (vS [0,1,2,7,8] rfl) fun a w h => ⟨_,_,_,H,h⟩
 ·refine fun k => aU fun i4 => aU fun l5 => aU fun sv45 => cv fun H4 => ?_
  cases k with
  | zero => exact absurd H4 (by simp [cU])
  | succ k =>
   rw [cU] at H4
   refine ag (ag (ae (vM rfl rfl (vM rfl rfl (vV (bq rfl) rfl (vV (az (sz := 0) (o := 0) rfl dn ed) rfl (vV (aP (v := sv0) rfl iE (aJ (i := 0) rfl rfl)) rfl (vV (cp 1 rfl cV rfl (aQ 151)) rfl (vV (aG rfl rfl (cI _ _ _)) rfl (ai ?_))))))))))
   refine gN H4 (fun c104 H4 => ?_) fun c104 H4 => ?_
   ·refine ay rfl (dF c104) (bT (ag (ae (vM rfl rfl (vA rfl rfl (ai (aH ?_)))))))
    cases H4
    refine vP [0,1,2] rfl rfl ?_
    exact aT rfl rfl ⟨_,rfl,rfl⟩
   refine aA rfl (dT c104) (aV (ag (be (ag (ae (vM rfl rfl (vV (bq rfl) rfl (vV (az (sz := 0) (o := 0) rfl dn ed) rfl (vV (aP (v := sv0) rfl iE (aJ (i := 0) rfl rfl)) rfl (vM rfl rfl ?_))))))))))
   obtain ⟨c109,H4⟩ := gq H4
   refine vV (bf (sz := 8) 1 rfl rfl cV dj rfl (aQ 151) c109 c104) rfl (vV (br (sz := 5) (k0 := i4.toNat * 9) (off := 3) 1 rfl ld bG rfl (aQ 151) (gF bJ (bB c109 c104))) rfl (vV (br (sz := 4) (k0 := i4.toNat * 9 + 3) (off := 0) 1 rfl de ey rfl (aQ 151) (gF bJ (bB c109 c104))) rfl (vV (br (sz := 0) (k0 := i4.toNat * 9 + 3) (off := 0) 1 rfl eH bd rfl (aQ 151) (gF bJ (bB c109 c104))) rfl ?_)))
   refine vV (aP (v := (I ((((l0.getD i4.toNat aa).F).Key).Hour))) rfl bl (bE (i := 1) rfl (aQ 151) (by simp) (iT (off := 3) bJ (bB c109 c104) rfl))) rfl ?_
   refine vA rfl rfl (ai (ag (ae (vM rfl rfl (vM rfl rfl (vV (aG rfl rfl (jT _ _ _)) rfl (vM rfl rfl ?_)))))))
   refine gN H4 (fun c110 H4 => ?_) fun c110 H4 => ?_
   ·refine au rfl rfl rfl (dF c110) rfl rfl ?_
    refine au rfl rfl rfl (dF c110) rfl rfl ?_
    refine au rfl rfl rfl (dF c110) rfl rfl ?_
    refine vV (aN rfl rfl rfl (bV (dF c110))) rfl (ai (ay rfl rfl (aV (ae (vM rfl rfl (vV (aG rfl rfl (ci _ _ _) ) rfl (vA rfl rfl (ai ?_))))))))
    exact vF [0,1,2] rfl rfl (vS [0,1,2,7,8] rfl) fun a w h => ⟨k,Nat.lt_succ_self k,_,_,_,H4,h⟩
   refine aq (aL rfl) rfl rfl rfl (dT c110) rfl rfl ?_
   refine aq (aL rfl) rfl rfl rfl (dT c110) rfl rfl ?_
   refine aq (aG rfl rfl (cI _ _ _)) rfl rfl rfl (dT c110) rfl rfl ?_
   refine vV (aN rfl rfl rfl (cb (dT c110))) rfl (ai ?_)
   refine gN H4 (fun c111 H4 => ?_) fun c111 H4 => ?_
   ·refine ay rfl (dF c111) (aV (ae (vM rfl rfl (vV (aG rfl rfl (ci _ _ _) ) rfl (vA rfl rfl (ai ?_))))))
    exact vF [0,1,2] rfl rfl (vS [0,1,2,7,8] rfl) fun a w h => ⟨k,Nat.lt_succ_self k,_,_,_,H4,h⟩
   refine aA rfl (dT c111) (ae (vM rfl rfl (vM rfl rfl (vV (bq rfl) rfl (vV (az (sz := 0) (o := 0) rfl dn ed) rfl (vV (aP (v := sv0) rfl iE (aJ (i := 0) rfl rfl)) rfl (vM rfl rfl (vV (bf (sz := 8) 1 rfl rfl cV dj rfl (aQ 151) c109 c104) rfl (vV (br (sz := 5) (k0 := i4.toNat * 9) (off := 3) 1 rfl ld bG rfl (aQ 151) (gF bJ (bB c109 c104))) rfl ?_)))))))))
   refine vV (bi (vs := [I ((((l0.getD i4.toNat aa).F).Key).Hour),cW ((((l0.getD i4.toNat aa).F).Key).Dims_0),cW ((((l0.getD i4.toNat aa).F).Key).Dims_1),cW ((((l0.getD i4.toNat aa).F).Key).Dims_2),cW ((((l0.getD i4.toNat aa).F).Key).Dims_3),I (((l0.getD i4.toNat aa).F).Value)]) rfl gz bG (bE (i := 1) rfl (aQ 151) (by simp) (iT (off := 3) bJ (bB c109 c104) rfl))) rfl ?_
   refine aO (bL (sz := 5) (xs := [.tmp 45]) (cs := fl aC [(⟨(⟨(((l0.getD i4.toNat aa).F).Key).Hour,(((l0.getD i4.toNat aa).F).Key).Dims_0,(((l0.getD i4.toNat aa).F).Key).Dims_1,(((l0.getD i4.toNat aa).F).Key).Dims_2,(((l0.getD i4.toNat aa).F).Key).Dims_3⟩ : bc),((l0.getD i4.toNat aa).F).Value⟩ : aB)]) rfl rfl bA bG fM rfl rfl (cN rfl) rfl (by decide)) rfl rfl rfl ?_
   rintro sv52 _ rfl
   obtain ⟨c112,H4⟩ := gq H4
   refine aO (cc (sz := 5) (xs := l5) (ys := [(⟨(⟨(((l0.getD i4.toNat aa).F).Key).Hour,(((l0.getD i4.toNat aa).F).Key).Dims_0,(((l0.getD i4.toNat aa).F).Key).Dims_1,(((l0.getD i4.toNat aa).F).Key).Dims_2,(((l0.getD i4.toNat aa).F).Key).Dims_3⟩ : bc),((l0.getD i4.toNat aa).F).Value⟩ : aB)]) 3 0 rfl rfl bA bG fM rfl mz rfl rfl rfl (aQ 87) rfl kc c112) rfl rfl rfl ?_
   rintro sv53 _ rfl
   refine et [own sv52 87 6 [(⟨(⟨(((l0.getD i4.toNat aa).F).Key).Hour,(((l0.getD i4.toNat aa).F).Key).Dims_0,(((l0.getD i4.toNat aa).F).Key).Dims_1,(((l0.getD i4.toNat aa).F).Key).Dims_2,(((l0.getD i4.toNat aa).F).Key).Dims_3⟩ : bc),((l0.getD i4.toNat aa).F).Value⟩ : aB)].length (fl aC [(⟨(⟨(((l0.getD i4.toNat aa).F).Key).Hour,(((l0.getD i4.toNat aa).F).Key).Dims_0,(((l0.getD i4.toNat aa).F).Key).Dims_1,(((l0.getD i4.toNat aa).F).Key).Dims_2,(((l0.getD i4.toNat aa).F).Key).Dims_3⟩ : bc),((l0.getD i4.toNat aa).F).Value⟩ : aB)]),box p0 96 [I p0_0,sv0,I p0_2],own sv0 151 9 l0.length (fl ak l0),own sv53 87 6 (l5 ++ [(⟨(⟨(((l0.getD i4.toNat aa).F).Key).Hour,(((l0.getD i4.toNat aa).F).Key).Dims_0,(((l0.getD i4.toNat aa).F).Key).Dims_1,(((l0.getD i4.toNat aa).F).Key).Dims_2,(((l0.getD i4.toNat aa).F).Key).Dims_3⟩ : bc),((l0.getD i4.toNat aa).F).Value⟩ : aB)]).length (fl aC (l5 ++ [(⟨(⟨(((l0.getD i4.toNat aa).F).Key).Hour,(((l0.getD i4.toNat aa).F).Key).Dims_0,(((l0.getD i4.toNat aa).F).Key).Dims_1,(((l0.getD i4.toNat aa).F).Key).Dims_2,(((l0.getD i4.toNat aa).F).Key).Dims_3⟩ : bc),((l0.getD i4.toNat aa).F).Value⟩ : aB)]))] rfl ?_
   refine vA rfl rfl (ai (ae (vM rfl rfl (vV (aG rfl rfl (ci _ _ _) ) rfl (vA rfl rfl (ai ?_))))))
   exact vF [1,2,3] rfl rfl (vS [0,1,2,7,8] rfl) fun a w h => ⟨k,Nat.lt_succ_self k,_,_,_,H4,h⟩
theorem ge.spec (K : Nat) (sv0 : Value) (A0 : HP) (l0 : List aB) (hA0 : da A0 sv0 l0.length 6 (fl aC l0)) (r : List Int) (H : ge K l0 = some r) : bp Tryz.prog 92 [sv0] [A0] (fun v M => ∃ sv49 : Value,v = sv49 ∧ M = [A0,own sv49 2 1 r.length (fl (eI .i64) r)]) := by
 unfold ge at H
 refine bo Tryz.func92 rfl 58 rfl (nL rfl) fun F w0 => ?_
 show cB (St 58 w0 F [(0,sv0)] [A0]) _
 refine ag (ae (vA rfl rfl (ai (ag (ae (vA rfl rfl (ai (ag (ag (ae (vA rfl rfl ?_)))))))))))
 refine ai (be ?_)
 refine cf (fun k a w => ∃ i43,∃ l11,∃ sv79 : Value,fh K l0 k i43 l11 = some r ∧ St 58 w0 F [(0,sv0),(3,sv79),(4,I i43)] [A0,own sv79 2 1 l11.length (fl (eI .i64) l11)] a w) K ?_ ?_
 ·refine cP 2 1 ?_
  exact vF [1,0] rfl rfl (vS [0,3,4] rfl) fun a w h => ⟨_,_,_,H,h⟩
 ·refine fun k => aU fun i43 => aU fun l11 => aU fun sv79 => cv fun H81 => ?_
  cases k with
  | zero => exact absurd H81 (by simp [fh])
  | succ k =>
   rw [fh] at H81
   refine ag (ag (ae (vM rfl rfl (vM rfl rfl (vV (cp 0 rfl bA rfl hA0) rfl (vV (aG rfl rfl (cI _ _ _)) rfl (ai ?_)))))))
   refine gN H81 (fun c720 H81 => ?_) fun c720 H81 => ?_
   ·refine ay rfl (dF c720) (bT (ag (ae (vM rfl rfl (vA rfl rfl (ai (aH ?_)))))))
    cases H81
    refine vP [0,1] rfl rfl ?_
    exact aT rfl rfl ⟨_,rfl,rfl⟩
   refine aA rfl (dT c720) (aV ?_)
   obtain ⟨x35,H85,H81⟩ := oB H81
   refine cn (fun a w => ∃ sv93 : Value,St 58 w0 F [(0,sv0),(3,sv93),(4,I i43)] [A0,own sv93 2 1 x35.length (fl (eI .i64) x35)] a w) ?_ ?_
   ·refine be (ag (ae (vM rfl rfl (vM rfl rfl ?_))))
    obtain ⟨c769,H85⟩ := gq H85
    refine vV (bf (sz := 5) 0 rfl rfl bA bG rfl hA0 c769 c720) rfl (vV (br (sz := 4) (k0 := i43.toNat * 6) (off := 0) 0 rfl de ey rfl hA0 (gF bH (bB c769 c720))) rfl (vV (br (sz := 0) (k0 := i43.toNat * 6 + 0) (off := 0) 0 rfl eH bd rfl hA0 (gF bH (bB c769 c720))) rfl ?_))
    refine vV (aP (v := (I (((l0.getD i43.toNat ab).Key).Hour))) rfl bl (bE (i := 0) rfl hA0 (by simp) (iT (off := 0) bH (bB c769 c720) rfl))) rfl ?_
    refine vA rfl rfl (ai (ag (ae (vA rfl rfl (ai ?_)))))
    obtain ⟨x36,H87,H85⟩ := oB H85
    refine cn (fun a w => St 58 w0 F [(0,sv0),(3,sv79),(4,I i43),(5,I (((l0.getD i43.toNat ab).Key).Hour)),(6,I x36)] [A0,own sv79 2 1 l11.length (fl (eI .i64) l11)] a w) ?_ ?_
    ·refine be ?_
     refine cf (fun k a w => ∃ i55,fe K l0 i43 l11 k i55 = some x36 ∧ St 58 w0 F [(0,sv0),(3,sv79),(4,I i43),(5,I (((l0.getD i43.toNat ab).Key).Hour)),(6,I i55)] [A0,own sv79 2 1 l11.length (fl (eI .i64) l11)] a w) K ?_ ?_
     ·exact vF [0,1] rfl rfl (vS [0,3,4,5,6] rfl) fun a w h => ⟨_,H87,h⟩
     ·refine fun k => aU fun i55 => cv fun H88 => ?_
      cases k with
      | zero => exact absurd H88 (by simp [fe])
      | succ k =>
       rw [fe] at H88
       refine ag (ag (ae (vM rfl rfl (vM rfl rfl (vV (cp 1 rfl dk rfl (aQ 2)) rfl (vV (aG rfl rfl (cI _ _ _)) rfl (vM rfl rfl ?_)))))))
       refine gN H88 (fun c801 H88 => ?_) fun c801 H88 => ?_
       ·refine au rfl rfl rfl (dF c801) rfl rfl ?_
        refine au rfl rfl rfl (dF c801) rfl rfl ?_
        refine au rfl rfl rfl (dF c801) rfl rfl ?_
        refine au rfl rfl rfl (dF c801) rfl rfl ?_
        refine au rfl rfl rfl (dF c801) rfl rfl ?_
        refine au rfl rfl rfl (dF c801) rfl rfl ?_
        refine vV (aN rfl rfl rfl (bV (dF c801))) rfl (ai (ay rfl rfl (bT ?_)))
        cases H88
        exact vF [0,1] rfl rfl (vS [0,3,4,5,6] rfl) fun a w h => h
       refine aq (aL rfl) rfl rfl rfl (dT c801) rfl rfl ?_
       refine aq (aL rfl) rfl rfl rfl (dT c801) rfl rfl ?_
       obtain ⟨c802,H88⟩ := gq H88
       refine aq (bf (sz := 0) 1 rfl rfl dk bd rfl (aQ 2) c802 c801) rfl rfl rfl (dT c801) rfl rfl ?_
       refine aq (aP (v := (I (l11.getD i55.toNat 0))) rfl bl (bE (i := 1) rfl (aQ 2) (by simp) (dS (mh _) (bB c802 c801) rfl))) rfl rfl rfl (dT c801) rfl rfl ?_
       refine aq (aL rfl) rfl rfl rfl (dT c801) rfl rfl ?_
       refine aq (aG rfl rfl (cI _ _ _)) rfl rfl rfl (dT c801) rfl rfl ?_
       refine vV (aN rfl rfl rfl (cb (dT c801))) rfl (ai ?_)
       refine gN H88 (fun c803 H88 => ?_) fun c803 H88 => ?_
       ·refine ay rfl (dF c803) (bT ?_)
        cases H88
        exact vF [0,1] rfl rfl (vS [0,3,4,5,6] rfl) fun a w h => h
       refine aA rfl (dT c803) (aV (be (ae (vM rfl rfl (vV (aG rfl rfl (ci _ _ _) ) rfl (vA rfl rfl (ai ?_)))))))
       exact vF [0,1] rfl rfl (vS [0,3,4,5,6] rfl) fun a w h => ⟨k,Nat.lt_succ_self k,_,H88,h⟩
    ·refine ag (ae (vM rfl rfl (vM rfl rfl (vV (cp 1 rfl dk rfl (aQ 2)) rfl (vV (aG rfl rfl (fG _ _ _)) rfl (vM rfl rfl ?_))))))
     refine iu H85 (fun c804 H85 => ?_) fun c804 H85 => ?_
     ·refine au rfl rfl rfl (dy c804) rfl rfl ?_
      refine au rfl rfl rfl (dy c804) rfl rfl ?_
      refine au rfl rfl rfl (dy c804) rfl rfl ?_
      refine au rfl rfl rfl (dy c804) rfl rfl ?_
      refine au rfl rfl rfl (dy c804) rfl rfl ?_
      refine au rfl rfl rfl (dy c804) rfl rfl ?_
      refine vV (aN rfl rfl rfl (cb (dy c804))) rfl (ai (aA rfl rfl ?_))
      obtain ⟨c805,H85⟩ := gq H85
      obtain ⟨c806,H85⟩ := gq H85
      obtain ⟨c807,H85⟩ := gq H85
      obtain ⟨c808,H85⟩ := gq H85
      obtain ⟨c809,H85⟩ := gq H85
      let Z39_T : DT := fun ga39 => [(0,45,(ga39 0)),(1,46,sv79),(2,47,I x36),(3,48,(il sv79 0 x36.toNat 1)),(4,49,(ga39 4)),(5,50,I (((l0.getD i43.toNat ab).Key).Hour)),(6,51,(ga39 6)),(7,52,(ga39 7)),(8,53,sv79),(9,54,I x36),(10,55,(il sv79 x36.toNat l11.length 1)),(11,56,(ga39 11))]
      let Z39_L : DL := fun ga39 done => [bK (done 6) (own (ga39 6) 2 1 [((l0.getD i43.toNat ab).Key).Hour].length (fl (eI .i64) [((l0.getD i43.toNat ab).Key).Hour])) emp,bK (done 11) (own (ga39 11) 2 1 (((([] : List Int) ++ (l11.take x36.toNat)) ++ [((l0.getD i43.toNat ab).Key).Hour]) ++ (l11.drop x36.toNat)).length (fl (eI .i64) (((([] : List Int) ++ (l11.take x36.toNat)) ++ [((l0.getD i43.toNat ab).Key).Hour]) ++ (l11.drop x36.toNat)))) (bK (done 7) (own (ga39 7) 2 1 ((([] : List Int) ++ (l11.take x36.toNat)) ++ [((l0.getD i43.toNat ab).Key).Hour]).length (fl (eI .i64) ((([] : List Int) ++ (l11.take x36.toNat)) ++ [((l0.getD i43.toNat ab).Key).Hour]))) (bK (done 4) (own (ga39 4) 2 1 (([] : List Int) ++ (l11.take x36.toNat)).length (fl (eI .i64) (([] : List Int) ++ (l11.take x36.toNat)))) (bK (done 0) (own (ga39 0) 2 1 ([] : List Int).length (fl (eI .i64) ([] : List Int))) emp))),A0,own sv79 2 1 l11.length (fl (eI .i64) l11)]
      let Z39_I : DI := fun ga39 done a w => kH 58 w0 F [(0,sv0),(3,sv79),(4,I i43),(5,I (((l0.getD i43.toNat ab).Key).Hour)),(6,I x36),(33,I x36),(34,sv79),(35,I (l11.length : Int)),(36,bool (x36 == (l11.length : Int))),(37,bool (x36 == (l11.length : Int))),(38,undef),(39,undef),(40,undef),(41,undef),(42,undef),(43,undef),(44,bool true)] (Z39_T ga39) done (Z39_L ga39 done) a w
      let Z39_A : (Nat → Bool) → Act → World → Prop := (fun done a w => ∃ ga39 : Nat → Value,Z39_I ga39 done a w)
      let Z39_B : Act → World → Prop := (fun a w => ∃ ga39 : Nat → Value,St 58 w0 F ((3,(ga39 11)) :: [(0,sv0),(4,I i43),(5,I (((l0.getD i43.toNat ab).Key).Hour)),(6,I x36),(33,I x36),(34,sv79),(35,I (l11.length : Int)),(36,bool (x36 == (l11.length : Int))),(37,bool (x36 == (l11.length : Int))),(38,undef),(39,undef),(40,undef),(41,undef),(42,undef),(43,undef),(44,bool true),(45,(ga39 0)),(46,sv79),(47,I x36),(48,(il sv79 0 x36.toNat 1)),(49,(ga39 4)),(50,I (((l0.getD i43.toNat ab).Key).Hour)),(51,(ga39 6)),(52,(ga39 7)),(53,sv79),(54,I x36),(55,(il sv79 x36.toNat l11.length 1)),(56,(ga39 11))]) [own (ga39 6) 2 1 [((l0.getD i43.toNat ab).Key).Hour].length (fl (eI .i64) [((l0.getD i43.toNat ab).Key).Hour]),own (ga39 11) 2 1 (((([] : List Int) ++ (l11.take x36.toNat)) ++ [((l0.getD i43.toNat ab).Key).Hour]) ++ (l11.drop x36.toNat)).length (fl (eI .i64) (((([] : List Int) ++ (l11.take x36.toNat)) ++ [((l0.getD i43.toNat ab).Key).Hour]) ++ (l11.drop x36.toNat))),A0,own sv79 2 1 l11.length (fl (eI .i64) l11)] a w)
      refine ce 13 rfl (rW 12 Z39_A Z39_B) (by kernel_rfl) (by kernel_rfl) (ms (fq (T := Z39_T) (L' := fun ga39 : Nat → Value => [bK false (own (ga39 6) 2 1 [((l0.getD i43.toNat ab).Key).Hour].length (fl (eI .i64) [((l0.getD i43.toNat ab).Key).Hour])) emp,bK false (own (ga39 11) 2 1 (((([] : List Int) ++ (l11.take x36.toNat)) ++ [((l0.getD i43.toNat ab).Key).Hour]) ++ (l11.drop x36.toNat)).length (fl (eI .i64) (((([] : List Int) ++ (l11.take x36.toNat)) ++ [((l0.getD i43.toNat ab).Key).Hour]) ++ (l11.drop x36.toNat)))) (bK false (own (ga39 7) 2 1 ((([] : List Int) ++ (l11.take x36.toNat)) ++ [((l0.getD i43.toNat ab).Key).Hour]).length (fl (eI .i64) ((([] : List Int) ++ (l11.take x36.toNat)) ++ [((l0.getD i43.toNat ab).Key).Hour]))) (bK false (own (ga39 4) 2 1 (([] : List Int) ++ (l11.take x36.toNat)).length (fl (eI .i64) (([] : List Int) ++ (l11.take x36.toNat)))) (bK false (own (ga39 0) 2 1 ([] : List Int).length (fl (eI .i64) ([] : List Int))) emp))),A0,own sv79 2 1 l11.length (fl (eI .i64) l11)]) 2 (vS [0,3,4,5,6,33,34,35,36,37,38,39,40,41,42,43,44] rfl) (fun _ => rfl))) ?_ ?_
      ·refine ⟨?_,?_,?_,?_,?_,?_,?_,?_,?_,?_,?_,?_,?_,trivial⟩
       ·intro done hi hc hcu
        have n12 : done 12 = false := aM (m := 12) hc hi rfl rfl
        refine bO (m := 12) (A := Z39_A) n12 rfl ?_
        refine aU (S := fun ga39 => Z39_I ga39 done) fun ga39 => ?_
        have n4 : done 4 = false := aM (m := 4) hc hi rfl rfl
        have n7 : done 7 = false := aM (m := 7) hc n4 rfl rfl
        have n11 : done 11 = false := aM (m := 11) hc n7 rfl rfl
        refine jq (i := 0) (t := 45) (x := ga39) (L := Z39_L) (T := Z39_T) (L2 := [bK (done 6) (own (ga39 6) 2 1 [((l0.getD i43.toNat ab).Key).Hour].length (fl (eI .i64) [((l0.getD i43.toNat ab).Key).Hour])) emp,emp,A0,own sv79 2 1 l11.length (fl (eI .i64) l11)]) (B := fun v_ => (own v_ 2 1 ([] : List Int).length (fl (eI .i64) ([] : List Int)))) 1 rfl rfl (bx rfl) (fun a => af) (by simp only [Z39_T,Z39_L,n4,n7,n11,hi,bK]) (bL (sz := 0) (xs := []) (cs := fl (eI .i64) ([] : List Int)) rfl rfl dk bd kv rfl rfl (cN rfl) rfl (by decide)) ?_ rfl (fun v_ => ?_) rfl rfl ?_
        ·rintro _ _ rfl; rfl
        ·simp [Z39_T,Z39_L,up,kI,bK,n4,n7,n11,hi]
        ·rintro _ _ rfl
         exact (dx (ax rfl rfl (ax rfl rfl (ax rfl rfl (ax rfl rfl (ax rfl rfl (ax rfl rfl (ax rfl rfl (ax rfl rfl (ax rfl rfl (ax rfl rfl (ax rfl rfl eQ))))))))))))
       ·intro done hi hc hcu
        have n12 : done 12 = false := aM (m := 12) hc hi rfl rfl
        refine bO (m := 12) (A := Z39_A) n12 rfl ?_
        refine aS (I := Z39_I) fun ga39 => ?_
        exact dV 1 rfl rfl rfl rfl (fun a => af) (aL rfl) rfl rfl rfl rfl
       ·intro done hi hc hcu
        have n12 : done 12 = false := aM (m := 12) hc hi rfl rfl
        refine bO (m := 12) (A := Z39_A) n12 rfl ?_
        refine aS (I := Z39_I) fun ga39 => ?_
        exact dV 2 rfl rfl rfl rfl (fun a => af) (aL rfl) rfl rfl rfl rfl
       ·intro done hi hc hcu
        have n12 : done 12 = false := aM (m := 12) hc hi rfl rfl
        refine bO (m := 12) (A := Z39_A) n12 rfl ?_
        refine aS (I := Z39_I) fun ga39 => ?_
        have d1 : done 1 = true := aX (j := 1) hcu rfl (by decide) rfl
        have d2 : done 2 = true := aX (j := 2) hcu rfl (by decide) rfl
        exact dV 3 rfl rfl rfl rfl (fun a => (ap (k := 2) rfl d2 (ap (k := 1) rfl d1 af))) (mb 3 rfl rfl dk bd rfl (aQ 2) c805 c806) rfl rfl rfl rfl
       ·intro done hi hc hcu
        have n12 : done 12 = false := aM (m := 12) hc hi rfl rfl
        refine bO (m := 12) (A := Z39_A) n12 rfl ?_
        refine aU (S := fun ga39 => Z39_I ga39 done) fun ga39 => ?_
        have d0 : done 0 = true := aX (j := 0) hcu rfl (by decide) rfl
        have d3 : done 3 = true := aX (j := 3) hcu rfl (by decide) rfl
        have n7 : done 7 = false := aM (m := 7) hc hi rfl rfl
        have n11 : done 11 = false := aM (m := 11) hc n7 rfl rfl
        exact gU (i := 4) (t := 49) (x := ga39) (L := Z39_L) (T := Z39_T) (L2 := [bK (done 6) (own (ga39 6) 2 1 [((l0.getD i43.toNat ab).Key).Hour].length (fl (eI .i64) [((l0.getD i43.toNat ab).Key).Hour])) emp,own (ga39 0) 2 1 ([] : List Int).length (fl (eI .i64) ([] : List Int)),A0,own sv79 2 1 l11.length (fl (eI .i64) l11)]) rfl rfl (bx rfl) (fun a => (ap (k := 3) rfl d3 (ap (k := 0) rfl d0 af))) (by simp only [Z39_T,Z39_L,d0,n7,n11,hi,bK]) (cc (sz := 0) (xs := ([] : List Int)) (ys := (l11.take x36.toNat)) 1 3 rfl rfl dk bd kv rfl lQ rfl rfl rfl (mx (mh _) (aQ 2) (kE c805 c806)) rfl (ir _) c807) rfl rfl fun v_ M_ hM_ => ⟨kI ga39 4 v_,hM_.trans (show [bK (done 6) (own (ga39 6) 2 1 [((l0.getD i43.toNat ab).Key).Hour].length (fl (eI .i64) [((l0.getD i43.toNat ab).Key).Hour])) emp,own v_ 2 1 (([] : List Int) ++ (l11.take x36.toNat)).length (fl (eI .i64) (([] : List Int) ++ (l11.take x36.toNat))),A0,own sv79 2 1 l11.length (fl (eI .i64) l11)] = _ by simp [Z39_T,Z39_L,up,kI,bK,d0,n7,n11,hi]),(ax rfl rfl (ax rfl rfl (ax rfl rfl (ax rfl rfl (dx (ax rfl rfl (ax rfl rfl (ax rfl rfl (ax rfl rfl (ax rfl rfl (ax rfl rfl (ax rfl rfl eQ))))))))))))⟩
       ·intro done hi hc hcu
        have n12 : done 12 = false := aM (m := 12) hc hi rfl rfl
        refine bO (m := 12) (A := Z39_A) n12 rfl ?_
        refine aS (I := Z39_I) fun ga39 => ?_
        exact dV 5 rfl rfl rfl rfl (fun a => af) (aL rfl) rfl rfl rfl rfl
       ·intro done hi hc hcu
        have n12 : done 12 = false := aM (m := 12) hc hi rfl rfl
        refine bO (m := 12) (A := Z39_A) n12 rfl ?_
        refine aU (S := fun ga39 => Z39_I ga39 done) fun ga39 => ?_
        have d5 : done 5 = true := aX (j := 5) hcu rfl (by decide) rfl
        refine jq (i := 6) (t := 51) (x := ga39) (L := Z39_L) (T := Z39_T) (L2 := [emp,bK (done 11) (own (ga39 11) 2 1 (((([] : List Int) ++ (l11.take x36.toNat)) ++ [((l0.getD i43.toNat ab).Key).Hour]) ++ (l11.drop x36.toNat)).length (fl (eI .i64) (((([] : List Int) ++ (l11.take x36.toNat)) ++ [((l0.getD i43.toNat ab).Key).Hour]) ++ (l11.drop x36.toNat)))) (bK (done 7) (own (ga39 7) 2 1 ((([] : List Int) ++ (l11.take x36.toNat)) ++ [((l0.getD i43.toNat ab).Key).Hour]).length (fl (eI .i64) ((([] : List Int) ++ (l11.take x36.toNat)) ++ [((l0.getD i43.toNat ab).Key).Hour]))) (bK (done 4) (own (ga39 4) 2 1 (([] : List Int) ++ (l11.take x36.toNat)).length (fl (eI .i64) (([] : List Int) ++ (l11.take x36.toNat)))) (bK (done 0) (own (ga39 0) 2 1 ([] : List Int).length (fl (eI .i64) ([] : List Int))) emp))),A0,own sv79 2 1 l11.length (fl (eI .i64) l11)]) (B := fun v_ => (own v_ 2 1 [((l0.getD i43.toNat ab).Key).Hour].length (fl (eI .i64) [((l0.getD i43.toNat ab).Key).Hour]))) 0 rfl rfl (bx rfl) (fun a => (ap (k := 5) rfl d5 af)) (by simp only [Z39_T,Z39_L,hi,bK]) (bL (sz := 0) (xs := [.tmp 50]) (cs := fl (eI .i64) [((l0.getD i43.toNat ab).Key).Hour]) rfl rfl dk bd kv rfl rfl (cN rfl) rfl (by decide)) ?_ rfl (fun v_ => ?_) rfl rfl ?_
        ·rintro _ _ rfl; rfl
        ·simp [Z39_T,Z39_L,up,kI,bK,hi]
        ·rintro _ _ rfl
         exact (ax rfl rfl (ax rfl rfl (ax rfl rfl (ax rfl rfl (ax rfl rfl (ax rfl rfl (dx (ax rfl rfl (ax rfl rfl (ax rfl rfl (ax rfl rfl (ax rfl rfl eQ))))))))))))
       ·intro done hi hc hcu
        have n12 : done 12 = false := aM (m := 12) hc hi rfl rfl
        refine bO (m := 12) (A := Z39_A) n12 rfl ?_
        refine aU (S := fun ga39 => Z39_I ga39 done) fun ga39 => ?_
        have d4 : done 4 = true := aX (j := 4) hcu rfl (by decide) rfl
        have d6 : done 6 = true := aX (j := 6) hcu rfl (by decide) rfl
        have d0 : done 0 = true := ew (i := 4) (j := 0) hc d4 rfl rfl
        have n11 : done 11 = false := aM (m := 11) hc hi rfl rfl
        exact gU (i := 7) (t := 52) (x := ga39) (L := Z39_L) (T := Z39_T) (L2 := [own (ga39 6) 2 1 [((l0.getD i43.toNat ab).Key).Hour].length (fl (eI .i64) [((l0.getD i43.toNat ab).Key).Hour]),own (ga39 4) 2 1 (([] : List Int) ++ (l11.take x36.toNat)).length (fl (eI .i64) (([] : List Int) ++ (l11.take x36.toNat))),A0,own sv79 2 1 l11.length (fl (eI .i64) l11)]) rfl rfl (bx rfl) (fun a => (ap (k := 6) rfl d6 (ap (k := 4) rfl d4 af))) (by simp only [Z39_T,Z39_L,d0,d4,d6,n11,hi,bK]) (cc (sz := 0) (xs := (([] : List Int) ++ (l11.take x36.toNat))) (ys := [((l0.getD i43.toNat ab).Key).Hour]) 1 0 rfl rfl dk bd kv rfl lQ rfl rfl rfl (aQ 2) rfl (ir _) c808) rfl rfl fun v_ M_ hM_ => ⟨kI ga39 7 v_,hM_.trans (show [own (ga39 6) 2 1 [((l0.getD i43.toNat ab).Key).Hour].length (fl (eI .i64) [((l0.getD i43.toNat ab).Key).Hour]),own v_ 2 1 ((([] : List Int) ++ (l11.take x36.toNat)) ++ [((l0.getD i43.toNat ab).Key).Hour]).length (fl (eI .i64) ((([] : List Int) ++ (l11.take x36.toNat)) ++ [((l0.getD i43.toNat ab).Key).Hour])),A0,own sv79 2 1 l11.length (fl (eI .i64) l11)] = _ by simp [Z39_T,Z39_L,up,kI,bK,d0,d4,d6,n11,hi]),(ax rfl rfl (ax rfl rfl (ax rfl rfl (ax rfl rfl (ax rfl rfl (ax rfl rfl (ax rfl rfl (dx (ax rfl rfl (ax rfl rfl (ax rfl rfl (ax rfl rfl eQ))))))))))))⟩
       ·intro done hi hc hcu
        have n12 : done 12 = false := aM (m := 12) hc hi rfl rfl
        refine bO (m := 12) (A := Z39_A) n12 rfl ?_
        refine aS (I := Z39_I) fun ga39 => ?_
        exact dV 8 rfl rfl rfl rfl (fun a => af) (aL rfl) rfl rfl rfl rfl
       ·intro done hi hc hcu
        have n12 : done 12 = false := aM (m := 12) hc hi rfl rfl
        refine bO (m := 12) (A := Z39_A) n12 rfl ?_
        refine aS (I := Z39_I) fun ga39 => ?_
        exact dV 9 rfl rfl rfl rfl (fun a => af) (aL rfl) rfl rfl rfl rfl
       ·intro done hi hc hcu
        have n12 : done 12 = false := aM (m := 12) hc hi rfl rfl
        refine bO (m := 12) (A := Z39_A) n12 rfl ?_
        refine aS (I := Z39_I) fun ga39 => ?_
        have d8 : done 8 = true := aX (j := 8) hcu rfl (by decide) rfl
        have d9 : done 9 = true := aX (j := 9) hcu rfl (by decide) rfl
        exact dV 10 rfl rfl rfl rfl (fun a => (ap (k := 9) rfl d9 (ap (k := 8) rfl d8 af))) (lm 3 rfl rfl dk bd rfl (aQ 2) c805 c806) rfl rfl rfl rfl
       ·intro done hi hc hcu
        have n12 : done 12 = false := aM (m := 12) hc hi rfl rfl
        refine bO (m := 12) (A := Z39_A) n12 rfl ?_
        refine aU (S := fun ga39 => Z39_I ga39 done) fun ga39 => ?_
        have d7 : done 7 = true := aX (j := 7) hcu rfl (by decide) rfl
        have d10 : done 10 = true := aX (j := 10) hcu rfl (by decide) rfl
        have d4 : done 4 = true := ew (i := 7) (j := 4) hc d7 rfl rfl
        have d0 : done 0 = true := ew (i := 4) (j := 0) hc d4 rfl rfl
        exact gU (i := 11) (t := 56) (x := ga39) (L := Z39_L) (T := Z39_T) (L2 := [bK (done 6) (own (ga39 6) 2 1 [((l0.getD i43.toNat ab).Key).Hour].length (fl (eI .i64) [((l0.getD i43.toNat ab).Key).Hour])) emp,own (ga39 7) 2 1 ((([] : List Int) ++ (l11.take x36.toNat)) ++ [((l0.getD i43.toNat ab).Key).Hour]).length (fl (eI .i64) ((([] : List Int) ++ (l11.take x36.toNat)) ++ [((l0.getD i43.toNat ab).Key).Hour])),A0,own sv79 2 1 l11.length (fl (eI .i64) l11)]) rfl rfl (bx rfl) (fun a => (ap (k := 10) rfl d10 (ap (k := 7) rfl d7 af))) (by simp only [Z39_T,Z39_L,d0,d4,d7,hi,bK]) (cc (sz := 0) (xs := ((([] : List Int) ++ (l11.take x36.toNat)) ++ [((l0.getD i43.toNat ab).Key).Hour])) (ys := (l11.drop x36.toNat)) 1 3 rfl rfl dk bd kv rfl lQ rfl rfl rfl (pO (mh _) (aQ 2) (kE c805 c806)) rfl (ir _) c809) rfl rfl fun v_ M_ hM_ => ⟨kI ga39 11 v_,hM_.trans (show [bK (done 6) (own (ga39 6) 2 1 [((l0.getD i43.toNat ab).Key).Hour].length (fl (eI .i64) [((l0.getD i43.toNat ab).Key).Hour])) emp,own v_ 2 1 (((([] : List Int) ++ (l11.take x36.toNat)) ++ [((l0.getD i43.toNat ab).Key).Hour]) ++ (l11.drop x36.toNat)).length (fl (eI .i64) (((([] : List Int) ++ (l11.take x36.toNat)) ++ [((l0.getD i43.toNat ab).Key).Hour]) ++ (l11.drop x36.toNat))),A0,own sv79 2 1 l11.length (fl (eI .i64) l11)] = _ by simp [Z39_T,Z39_L,up,kI,bK,d0,d4,d7,hi]),(ax rfl rfl (ax rfl rfl (ax rfl rfl (ax rfl rfl (ax rfl rfl (ax rfl rfl (ax rfl rfl (ax rfl rfl (ax rfl rfl (ax rfl rfl (ax rfl rfl (dx eQ))))))))))))⟩
       ·intro done hi hc hcu
        refine nc (m := 12) (A := Z39_A) (B := Z39_B) hi ?_
        refine rE (A := fun ga39 => Z39_I ga39 done) (B := fun ga39 => St 58 w0 F ((3,(ga39 11)) :: [(0,sv0),(4,I i43),(5,I (((l0.getD i43.toNat ab).Key).Hour)),(6,I x36),(33,I x36),(34,sv79),(35,I (l11.length : Int)),(36,bool (x36 == (l11.length : Int))),(37,bool (x36 == (l11.length : Int))),(38,undef),(39,undef),(40,undef),(41,undef),(42,undef),(43,undef),(44,bool true),(45,(ga39 0)),(46,sv79),(47,I x36),(48,(il sv79 0 x36.toNat 1)),(49,(ga39 4)),(50,I (((l0.getD i43.toNat ab).Key).Hour)),(51,(ga39 6)),(52,(ga39 7)),(53,sv79),(54,I x36),(55,(il sv79 x36.toNat l11.length 1)),(56,(ga39 11))]) [own (ga39 6) 2 1 [((l0.getD i43.toNat ab).Key).Hour].length (fl (eI .i64) [((l0.getD i43.toNat ab).Key).Hour]),own (ga39 11) 2 1 (((([] : List Int) ++ (l11.take x36.toNat)) ++ [((l0.getD i43.toNat ab).Key).Hour]) ++ (l11.drop x36.toNat)).length (fl (eI .i64) (((([] : List Int) ++ (l11.take x36.toNat)) ++ [((l0.getD i43.toNat ab).Key).Hour]) ++ (l11.drop x36.toNat))),A0,own sv79 2 1 l11.length (fl (eI .i64) l11)]) fun ga39 => ?_
        have d0 : done 0 = true := aX (j := 0) hcu rfl (by decide) rfl
        have d1 : done 1 = true := aX (j := 1) hcu rfl (by decide) rfl
        have d2 : done 2 = true := aX (j := 2) hcu rfl (by decide) rfl
        have d3 : done 3 = true := aX (j := 3) hcu rfl (by decide) rfl
        have d4 : done 4 = true := aX (j := 4) hcu rfl (by decide) rfl
        have d5 : done 5 = true := aX (j := 5) hcu rfl (by decide) rfl
        have d6 : done 6 = true := aX (j := 6) hcu rfl (by decide) rfl
        have d7 : done 7 = true := aX (j := 7) hcu rfl (by decide) rfl
        have d8 : done 8 = true := aX (j := 8) hcu rfl (by decide) rfl
        have d9 : done 9 = true := aX (j := 9) hcu rfl (by decide) rfl
        have d10 : done 10 = true := aX (j := 10) hcu rfl (by decide) rfl
        have d11 : done 11 = true := aX (j := 11) hcu rfl (by decide) rfl
        exact oE (i := 12) (t := 3) (v := (ga39 11)) (L2 := [own (ga39 6) 2 1 [((l0.getD i43.toNat ab).Key).Hour].length (fl (eI .i64) [((l0.getD i43.toNat ab).Key).Hour]),own (ga39 11) 2 1 (((([] : List Int) ++ (l11.take x36.toNat)) ++ [((l0.getD i43.toNat ab).Key).Hour]) ++ (l11.drop x36.toNat)).length (fl (eI .i64) (((([] : List Int) ++ (l11.take x36.toNat)) ++ [((l0.getD i43.toNat ab).Key).Hour]) ++ (l11.drop x36.toNat))),A0,own sv79 2 1 l11.length (fl (eI .i64) l11)]) rfl rfl (bx rfl) (by simp only [Z39_T,Z39_L,d0,d4,d6,d7,d11,bK]) (fun a => (ap (k := 11) rfl d11 af)) (fun a h_ => (kV.sub (ρ := [(45,(ga39 0)),(46,sv79),(47,I x36),(48,(il sv79 0 x36.toNat 1)),(49,(ga39 4)),(50,I (((l0.getD i43.toNat ab).Key).Hour)),(51,(ga39 6)),(52,(ga39 7)),(53,sv79),(54,I x36),(55,(il sv79 x36.toNat l11.length 1)),(56,(ga39 11))] ++ [(0,sv0),(3,sv79),(4,I i43),(5,I (((l0.getD i43.toNat ab).Key).Hour)),(6,I x36),(33,I x36),(34,sv79),(35,I (l11.length : Int)),(36,bool (x36 == (l11.length : Int))),(37,bool (x36 == (l11.length : Int))),(38,undef),(39,undef),(40,undef),(41,undef),(42,undef),(43,undef),(44,bool true)]) (((ap (k := 0) rfl d0 (ap (k := 1) rfl d1 (ap (k := 2) rfl d2 (ap (k := 3) rfl d3 (ap (k := 4) rfl d4 (ap (k := 5) rfl d5 (ap (k := 6) rfl d6 (ap (k := 7) rfl d7 (ap (k := 8) rfl d8 (ap (k := 9) rfl d9 (ap (k := 10) rfl d10 (ap (k := 11) rfl d11 af)))))))))))) : mF a _ _ _ → kV a ([(45,(ga39 0)),(46,sv79),(47,I x36),(48,(il sv79 0 x36.toNat 1)),(49,(ga39 4)),(50,I (((l0.getD i43.toNat ab).Key).Hour)),(51,(ga39 6)),(52,(ga39 7)),(53,sv79),(54,I x36),(55,(il sv79 x36.toNat l11.length 1)),(56,(ga39 11))] ++ [(0,sv0),(3,sv79),(4,I i43),(5,I (((l0.getD i43.toNat ab).Key).Hour)),(6,I x36),(33,I x36),(34,sv79),(35,I (l11.length : Int)),(36,bool (x36 == (l11.length : Int))),(37,bool (x36 == (l11.length : Int))),(38,undef),(39,undef),(40,undef),(41,undef),(42,undef),(43,undef),(44,bool true)])) h_) (vS [0,4,5,6,33,34,35,36,37,38,39,40,41,42,43,44,45,46,47,48,49,50,51,52,53,54,55,56] rfl))) (cY rfl) rfl
      ·intro done hall
       refine od (A := Z39_A) (B := Z39_B) (hall 12 (by decide)) ?_
       refine aU fun ga39 => ?_
       cases H85
       exact vF [2,1] rfl rfl (vS [0,3,4] rfl) fun a w h => ⟨_,h⟩
     refine aq (aL rfl) rfl rfl rfl (dD c804) rfl rfl ?_
     refine aq (aL rfl) rfl rfl rfl (dD c804) rfl rfl ?_
     obtain ⟨c810,H85⟩ := gq H85
     obtain ⟨c811,H85⟩ := gq H85
     refine aq (bf (sz := 0) 1 rfl rfl dk bd rfl (aQ 2) c810 c811) rfl rfl rfl (dD c804) rfl rfl ?_
     refine aq (aP (v := (I (l11.getD x36.toNat 0))) rfl bl (bE (i := 1) rfl (aQ 2) (by simp) (dS (mh _) (bB c810 c811) rfl))) rfl rfl rfl (dD c804) rfl rfl ?_
     refine aq (aL rfl) rfl rfl rfl (dD c804) rfl rfl ?_
     refine aq (aG rfl rfl (jn _ _ _)) rfl rfl rfl (dD c804) rfl rfl ?_
     refine vV (aN rfl rfl rfl (bV (dD c804))) rfl (ai ?_)
     refine gN H85 (fun c812 H85 => ?_) fun c812 H85 => ?_
     ·refine ay rfl (ef c812) (aV ?_)
      cases H85
      exact vF [0,1] rfl rfl (vS [0,3,4] rfl) fun a w h => ⟨_,h⟩
     refine aA rfl (iC c812) ?_
     obtain ⟨c813,H85⟩ := gq H85
     obtain ⟨c814,H85⟩ := gq H85
     obtain ⟨c815,H85⟩ := gq H85
     obtain ⟨c816,H85⟩ := gq H85
     let Z40_T : DT := fun ga40 => [(0,45,(ga40 0)),(1,46,sv79),(2,47,I x36),(3,48,(il sv79 0 x36.toNat 1)),(4,49,(ga40 4)),(5,50,I (((l0.getD i43.toNat ab).Key).Hour)),(6,51,(ga40 6)),(7,52,(ga40 7)),(8,53,sv79),(9,54,I x36),(10,55,(il sv79 x36.toNat l11.length 1)),(11,56,(ga40 11))]
     let Z40_L : DL := fun ga40 done => [bK (done 6) (own (ga40 6) 2 1 [((l0.getD i43.toNat ab).Key).Hour].length (fl (eI .i64) [((l0.getD i43.toNat ab).Key).Hour])) emp,bK (done 11) (own (ga40 11) 2 1 (((([] : List Int) ++ (l11.take x36.toNat)) ++ [((l0.getD i43.toNat ab).Key).Hour]) ++ (l11.drop x36.toNat)).length (fl (eI .i64) (((([] : List Int) ++ (l11.take x36.toNat)) ++ [((l0.getD i43.toNat ab).Key).Hour]) ++ (l11.drop x36.toNat)))) (bK (done 7) (own (ga40 7) 2 1 ((([] : List Int) ++ (l11.take x36.toNat)) ++ [((l0.getD i43.toNat ab).Key).Hour]).length (fl (eI .i64) ((([] : List Int) ++ (l11.take x36.toNat)) ++ [((l0.getD i43.toNat ab).Key).Hour]))) (bK (done 4) (own (ga40 4) 2 1 (([] : List Int) ++ (l11.take x36.toNat)).length (fl (eI .i64) (([] : List Int) ++ (l11.take x36.toNat)))) (bK (done 0) (own (ga40 0) 2 1 ([] : List Int).length (fl (eI .i64) ([] : List Int))) emp))),A0,own sv79 2 1 l11.length (fl (eI .i64) l11)]
     let Z40_I : DI := fun ga40 done a w => kH 58 w0 F [(0,sv0),(3,sv79),(4,I i43),(5,I (((l0.getD i43.toNat ab).Key).Hour)),(6,I x36),(33,I x36),(34,sv79),(35,I (l11.length : Int)),(36,bool (x36 == (l11.length : Int))),(37,bool (x36 == (l11.length : Int))),(38,sv79),(39,I x36),(40,(bX sv79 (x36.toNat * 1))),(41,I (l11.getD x36.toNat 0)),(42,I (((l0.getD i43.toNat ab).Key).Hour)),(43,bool ((l11.getD x36.toNat 0) != (((l0.getD i43.toNat ab).Key).Hour))),(44,bool ((l11.getD x36.toNat 0) != (((l0.getD i43.toNat ab).Key).Hour)))] (Z40_T ga40) done (Z40_L ga40 done) a w
     let Z40_A : (Nat → Bool) → Act → World → Prop := (fun done a w => ∃ ga40 : Nat → Value,Z40_I ga40 done a w)
     let Z40_B : Act → World → Prop := (fun a w => ∃ ga40 : Nat → Value,St 58 w0 F ((3,(ga40 11)) :: [(0,sv0),(4,I i43),(5,I (((l0.getD i43.toNat ab).Key).Hour)),(6,I x36),(33,I x36),(34,sv79),(35,I (l11.length : Int)),(36,bool (x36 == (l11.length : Int))),(37,bool (x36 == (l11.length : Int))),(38,sv79),(39,I x36),(40,(bX sv79 (x36.toNat * 1))),(41,I (l11.getD x36.toNat 0)),(42,I (((l0.getD i43.toNat ab).Key).Hour)),(43,bool ((l11.getD x36.toNat 0) != (((l0.getD i43.toNat ab).Key).Hour))),(44,bool ((l11.getD x36.toNat 0) != (((l0.getD i43.toNat ab).Key).Hour))),(45,(ga40 0)),(46,sv79),(47,I x36),(48,(il sv79 0 x36.toNat 1)),(49,(ga40 4)),(50,I (((l0.getD i43.toNat ab).Key).Hour)),(51,(ga40 6)),(52,(ga40 7)),(53,sv79),(54,I x36),(55,(il sv79 x36.toNat l11.length 1)),(56,(ga40 11))]) [own (ga40 6) 2 1 [((l0.getD i43.toNat ab).Key).Hour].length (fl (eI .i64) [((l0.getD i43.toNat ab).Key).Hour]),own (ga40 11) 2 1 (((([] : List Int) ++ (l11.take x36.toNat)) ++ [((l0.getD i43.toNat ab).Key).Hour]) ++ (l11.drop x36.toNat)).length (fl (eI .i64) (((([] : List Int) ++ (l11.take x36.toNat)) ++ [((l0.getD i43.toNat ab).Key).Hour]) ++ (l11.drop x36.toNat))),A0,own sv79 2 1 l11.length (fl (eI .i64) l11)] a w)
     refine ce 13 rfl (rW 12 Z40_A Z40_B) (by kernel_rfl) (by kernel_rfl) (ms (fq (T := Z40_T) (L' := fun ga40 : Nat → Value => [bK false (own (ga40 6) 2 1 [((l0.getD i43.toNat ab).Key).Hour].length (fl (eI .i64) [((l0.getD i43.toNat ab).Key).Hour])) emp,bK false (own (ga40 11) 2 1 (((([] : List Int) ++ (l11.take x36.toNat)) ++ [((l0.getD i43.toNat ab).Key).Hour]) ++ (l11.drop x36.toNat)).length (fl (eI .i64) (((([] : List Int) ++ (l11.take x36.toNat)) ++ [((l0.getD i43.toNat ab).Key).Hour]) ++ (l11.drop x36.toNat)))) (bK false (own (ga40 7) 2 1 ((([] : List Int) ++ (l11.take x36.toNat)) ++ [((l0.getD i43.toNat ab).Key).Hour]).length (fl (eI .i64) ((([] : List Int) ++ (l11.take x36.toNat)) ++ [((l0.getD i43.toNat ab).Key).Hour]))) (bK false (own (ga40 4) 2 1 (([] : List Int) ++ (l11.take x36.toNat)).length (fl (eI .i64) (([] : List Int) ++ (l11.take x36.toNat)))) (bK false (own (ga40 0) 2 1 ([] : List Int).length (fl (eI .i64) ([] : List Int))) emp))),A0,own sv79 2 1 l11.length (fl (eI .i64) l11)]) 2 (vS [0,3,4,5,6,33,34,35,36,37,38,39,40,41,42,43,44] rfl) (fun _ => rfl))) ?_ ?_
     ·refine ⟨?_,?_,?_,?_,?_,?_,?_,?_,?_,?_,?_,?_,?_,trivial⟩
      ·intro done hi hc hcu
       have n12 : done 12 = false := aM (m := 12) hc hi rfl rfl
       refine bO (m := 12) (A := Z40_A) n12 rfl ?_
       refine aU (S := fun ga40 => Z40_I ga40 done) fun ga40 => ?_
       have n4 : done 4 = false := aM (m := 4) hc hi rfl rfl
       have n7 : done 7 = false := aM (m := 7) hc n4 rfl rfl
       have n11 : done 11 = false := aM (m := 11) hc n7 rfl rfl
       refine jq (i := 0) (t := 45) (x := ga40) (L := Z40_L) (T := Z40_T) (L2 := [bK (done 6) (own (ga40 6) 2 1 [((l0.getD i43.toNat ab).Key).Hour].length (fl (eI .i64) [((l0.getD i43.toNat ab).Key).Hour])) emp,emp,A0,own sv79 2 1 l11.length (fl (eI .i64) l11)]) (B := fun v_ => (own v_ 2 1 ([] : List Int).length (fl (eI .i64) ([] : List Int)))) 1 rfl rfl (bx rfl) (fun a => af) (by simp only [Z40_T,Z40_L,n4,n7,n11,hi,bK]) (bL (sz := 0) (xs := []) (cs := fl (eI .i64) ([] : List Int)) rfl rfl dk bd kv rfl rfl (cN rfl) rfl (by decide)) ?_ rfl (fun v_ => ?_) rfl rfl ?_
       ·rintro _ _ rfl; rfl
       ·simp [Z40_T,Z40_L,up,kI,bK,n4,n7,n11,hi]
       ·rintro _ _ rfl
        exact (dx (ax rfl rfl (ax rfl rfl (ax rfl rfl (ax rfl rfl (ax rfl rfl (ax rfl rfl (ax rfl rfl (ax rfl rfl (ax rfl rfl (ax rfl rfl (ax rfl rfl eQ))))))))))))
      ·intro done hi hc hcu
       have n12 : done 12 = false := aM (m := 12) hc hi rfl rfl
       refine bO (m := 12) (A := Z40_A) n12 rfl ?_
       refine aS (I := Z40_I) fun ga40 => ?_
       exact dV 1 rfl rfl rfl rfl (fun a => af) (aL rfl) rfl rfl rfl rfl
      ·intro done hi hc hcu
       have n12 : done 12 = false := aM (m := 12) hc hi rfl rfl
       refine bO (m := 12) (A := Z40_A) n12 rfl ?_
       refine aS (I := Z40_I) fun ga40 => ?_
       exact dV 2 rfl rfl rfl rfl (fun a => af) (aL rfl) rfl rfl rfl rfl
      ·intro done hi hc hcu
       have n12 : done 12 = false := aM (m := 12) hc hi rfl rfl
       refine bO (m := 12) (A := Z40_A) n12 rfl ?_
       refine aS (I := Z40_I) fun ga40 => ?_
       have d1 : done 1 = true := aX (j := 1) hcu rfl (by decide) rfl
       have d2 : done 2 = true := aX (j := 2) hcu rfl (by decide) rfl
       exact dV 3 rfl rfl rfl rfl (fun a => (ap (k := 2) rfl d2 (ap (k := 1) rfl d1 af))) (mb 3 rfl rfl dk bd rfl (aQ 2) c810 c813) rfl rfl rfl rfl
      ·intro done hi hc hcu
       have n12 : done 12 = false := aM (m := 12) hc hi rfl rfl
       refine bO (m := 12) (A := Z40_A) n12 rfl ?_
       refine aU (S := fun ga40 => Z40_I ga40 done) fun ga40 => ?_
       have d0 : done 0 = true := aX (j := 0) hcu rfl (by decide) rfl
       have d3 : done 3 = true := aX (j := 3) hcu rfl (by decide) rfl
       have n7 : done 7 = false := aM (m := 7) hc hi rfl rfl
       have n11 : done 11 = false := aM (m := 11) hc n7 rfl rfl
       exact gU (i := 4) (t := 49) (x := ga40) (L := Z40_L) (T := Z40_T) (L2 := [bK (done 6) (own (ga40 6) 2 1 [((l0.getD i43.toNat ab).Key).Hour].length (fl (eI .i64) [((l0.getD i43.toNat ab).Key).Hour])) emp,own (ga40 0) 2 1 ([] : List Int).length (fl (eI .i64) ([] : List Int)),A0,own sv79 2 1 l11.length (fl (eI .i64) l11)]) rfl rfl (bx rfl) (fun a => (ap (k := 3) rfl d3 (ap (k := 0) rfl d0 af))) (by simp only [Z40_T,Z40_L,d0,n7,n11,hi,bK]) (cc (sz := 0) (xs := ([] : List Int)) (ys := (l11.take x36.toNat)) 1 3 rfl rfl dk bd kv rfl lQ rfl rfl rfl (mx (mh _) (aQ 2) (kE c810 c813)) rfl (ir _) c814) rfl rfl fun v_ M_ hM_ => ⟨kI ga40 4 v_,hM_.trans (show [bK (done 6) (own (ga40 6) 2 1 [((l0.getD i43.toNat ab).Key).Hour].length (fl (eI .i64) [((l0.getD i43.toNat ab).Key).Hour])) emp,own v_ 2 1 (([] : List Int) ++ (l11.take x36.toNat)).length (fl (eI .i64) (([] : List Int) ++ (l11.take x36.toNat))),A0,own sv79 2 1 l11.length (fl (eI .i64) l11)] = _ by simp [Z40_T,Z40_L,up,kI,bK,d0,n7,n11,hi]),(ax rfl rfl (ax rfl rfl (ax rfl rfl (ax rfl rfl (dx (ax rfl rfl (ax rfl rfl (ax rfl rfl (ax rfl rfl (ax rfl rfl (ax rfl rfl (ax rfl rfl eQ))))))))))))⟩
      ·intro done hi hc hcu
       have n12 : done 12 = false := aM (m := 12) hc hi rfl rfl
       refine bO (m := 12) (A := Z40_A) n12 rfl ?_
       refine aS (I := Z40_I) fun ga40 => ?_
       exact dV 5 rfl rfl rfl rfl (fun a => af) (aL rfl) rfl rfl rfl rfl
      ·intro done hi hc hcu
       have n12 : done 12 = false := aM (m := 12) hc hi rfl rfl
       refine bO (m := 12) (A := Z40_A) n12 rfl ?_
       refine aU (S := fun ga40 => Z40_I ga40 done) fun ga40 => ?_
       have d5 : done 5 = true := aX (j := 5) hcu rfl (by decide) rfl
       refine jq (i := 6) (t := 51) (x := ga40) (L := Z40_L) (T := Z40_T) (L2 := [emp,bK (done 11) (own (ga40 11) 2 1 (((([] : List Int) ++ (l11.take x36.toNat)) ++ [((l0.getD i43.toNat ab).Key).Hour]) ++ (l11.drop x36.toNat)).length (fl (eI .i64) (((([] : List Int) ++ (l11.take x36.toNat)) ++ [((l0.getD i43.toNat ab).Key).Hour]) ++ (l11.drop x36.toNat)))) (bK (done 7) (own (ga40 7) 2 1 ((([] : List Int) ++ (l11.take x36.toNat)) ++ [((l0.getD i43.toNat ab).Key).Hour]).length (fl (eI .i64) ((([] : List Int) ++ (l11.take x36.toNat)) ++ [((l0.getD i43.toNat ab).Key).Hour]))) (bK (done 4) (own (ga40 4) 2 1 (([] : List Int) ++ (l11.take x36.toNat)).length (fl (eI .i64) (([] : List Int) ++ (l11.take x36.toNat)))) (bK (done 0) (own (ga40 0) 2 1 ([] : List Int).length (fl (eI .i64) ([] : List Int))) emp))),A0,own sv79 2 1 l11.length (fl (eI .i64) l11)]) (B := fun v_ => (own v_ 2 1 [((l0.getD i43.toNat ab).Key).Hour].length (fl (eI .i64) [((l0.getD i43.toNat ab).Key).Hour]))) 0 rfl rfl (bx rfl) (fun a => (ap (k := 5) rfl d5 af)) (by simp only [Z40_T,Z40_L,hi,bK]) (bL (sz := 0) (xs := [.tmp 50]) (cs := fl (eI .i64) [((l0.getD i43.toNat ab).Key).Hour]) rfl rfl dk bd kv rfl rfl (cN rfl) rfl (by decide)) ?_ rfl (fun v_ => ?_) rfl rfl ?_
       ·rintro _ _ rfl; rfl
       ·simp [Z40_T,Z40_L,up,kI,bK,hi]
       ·rintro _ _ rfl
        exact (ax rfl rfl (ax rfl rfl (ax rfl rfl (ax rfl rfl (ax rfl rfl (ax rfl rfl (dx (ax rfl rfl (ax rfl rfl (ax rfl rfl (ax rfl rfl (ax rfl rfl eQ))))))))))))
      ·intro done hi hc hcu
       have n12 : done 12 = false := aM (m := 12) hc hi rfl rfl
       refine bO (m := 12) (A := Z40_A) n12 rfl ?_
       refine aU (S := fun ga40 => Z40_I ga40 done) fun ga40 => ?_
       have d4 : done 4 = true := aX (j := 4) hcu rfl (by decide) rfl
       have d6 : done 6 = true := aX (j := 6) hcu rfl (by decide) rfl
       have d0 : done 0 = true := ew (i := 4) (j := 0) hc d4 rfl rfl
       have n11 : done 11 = false := aM (m := 11) hc hi rfl rfl
       exact gU (i := 7) (t := 52) (x := ga40) (L := Z40_L) (T := Z40_T) (L2 := [own (ga40 6) 2 1 [((l0.getD i43.toNat ab).Key).Hour].length (fl (eI .i64) [((l0.getD i43.toNat ab).Key).Hour]),own (ga40 4) 2 1 (([] : List Int) ++ (l11.take x36.toNat)).length (fl (eI .i64) (([] : List Int) ++ (l11.take x36.toNat))),A0,own sv79 2 1 l11.length (fl (eI .i64) l11)]) rfl rfl (bx rfl) (fun a => (ap (k := 6) rfl d6 (ap (k := 4) rfl d4 af))) (by simp only [Z40_T,Z40_L,d0,d4,d6,n11,hi,bK]) (cc (sz := 0) (xs := (([] : List Int) ++ (l11.take x36.toNat))) (ys := [((l0.getD i43.toNat ab).Key).Hour]) 1 0 rfl rfl dk bd kv rfl lQ rfl rfl rfl (aQ 2) rfl (ir _) c815) rfl rfl fun v_ M_ hM_ => ⟨kI ga40 7 v_,hM_.trans (show [own (ga40 6) 2 1 [((l0.getD i43.toNat ab).Key).Hour].length (fl (eI .i64) [((l0.getD i43.toNat ab).Key).Hour]),own v_ 2 1 ((([] : List Int) ++ (l11.take x36.toNat)) ++ [((l0.getD i43.toNat ab).Key).Hour]).length (fl (eI .i64) ((([] : List Int) ++ (l11.take x36.toNat)) ++ [((l0.getD i43.toNat ab).Key).Hour])),A0,own sv79 2 1 l11.length (fl (eI .i64) l11)] = _ by simp [Z40_T,Z40_L,up,kI,bK,d0,d4,d6,n11,hi]),(ax rfl rfl (ax rfl rfl (ax rfl rfl (ax rfl rfl (ax rfl rfl (ax rfl rfl (ax rfl rfl (dx (ax rfl rfl (ax rfl rfl (ax rfl rfl (ax rfl rfl eQ))))))))))))⟩
      ·intro done hi hc hcu
       have n12 : done 12 = false := aM (m := 12) hc hi rfl rfl
       refine bO (m := 12) (A := Z40_A) n12 rfl ?_
       refine aS (I := Z40_I) fun ga40 => ?_
       exact dV 8 rfl rfl rfl rfl (fun a => af) (aL rfl) rfl rfl rfl rfl
      ·intro done hi hc hcu
       have n12 : done 12 = false := aM (m := 12) hc hi rfl rfl
       refine bO (m := 12) (A := Z40_A) n12 rfl ?_
       refine aS (I := Z40_I) fun ga40 => ?_
       exact dV 9 rfl rfl rfl rfl (fun a => af) (aL rfl) rfl rfl rfl rfl
      ·intro done hi hc hcu
       have n12 : done 12 = false := aM (m := 12) hc hi rfl rfl
       refine bO (m := 12) (A := Z40_A) n12 rfl ?_
       refine aS (I := Z40_I) fun ga40 => ?_
       have d8 : done 8 = true := aX (j := 8) hcu rfl (by decide) rfl
       have d9 : done 9 = true := aX (j := 9) hcu rfl (by decide) rfl
       exact dV 10 rfl rfl rfl rfl (fun a => (ap (k := 9) rfl d9 (ap (k := 8) rfl d8 af))) (lm 3 rfl rfl dk bd rfl (aQ 2) c810 c813) rfl rfl rfl rfl
      ·intro done hi hc hcu
       have n12 : done 12 = false := aM (m := 12) hc hi rfl rfl
       refine bO (m := 12) (A := Z40_A) n12 rfl ?_
       refine aU (S := fun ga40 => Z40_I ga40 done) fun ga40 => ?_
       have d7 : done 7 = true := aX (j := 7) hcu rfl (by decide) rfl
       have d10 : done 10 = true := aX (j := 10) hcu rfl (by decide) rfl
       have d4 : done 4 = true := ew (i := 7) (j := 4) hc d7 rfl rfl
       have d0 : done 0 = true := ew (i := 4) (j := 0) hc d4 rfl rfl
       exact gU (i := 11) (t := 56) (x := ga40) (L := Z40_L) (T := Z40_T) (L2 := [bK (done 6) (own (ga40 6) 2 1 [((l0.getD i43.toNat ab).Key).Hour].length (fl (eI .i64) [((l0.getD i43.toNat ab).Key).Hour])) emp,own (ga40 7) 2 1 ((([] : List Int) ++ (l11.take x36.toNat)) ++ [((l0.getD i43.toNat ab).Key).Hour]).length (fl (eI .i64) ((([] : List Int) ++ (l11.take x36.toNat)) ++ [((l0.getD i43.toNat ab).Key).Hour])),A0,own sv79 2 1 l11.length (fl (eI .i64) l11)]) rfl rfl (bx rfl) (fun a => (ap (k := 10) rfl d10 (ap (k := 7) rfl d7 af))) (by simp only [Z40_T,Z40_L,d0,d4,d7,hi,bK]) (cc (sz := 0) (xs := ((([] : List Int) ++ (l11.take x36.toNat)) ++ [((l0.getD i43.toNat ab).Key).Hour])) (ys := (l11.drop x36.toNat)) 1 3 rfl rfl dk bd kv rfl lQ rfl rfl rfl (pO (mh _) (aQ 2) (kE c810 c813)) rfl (ir _) c816) rfl rfl fun v_ M_ hM_ => ⟨kI ga40 11 v_,hM_.trans (show [bK (done 6) (own (ga40 6) 2 1 [((l0.getD i43.toNat ab).Key).Hour].length (fl (eI .i64) [((l0.getD i43.toNat ab).Key).Hour])) emp,own v_ 2 1 (((([] : List Int) ++ (l11.take x36.toNat)) ++ [((l0.getD i43.toNat ab).Key).Hour]) ++ (l11.drop x36.toNat)).length (fl (eI .i64) (((([] : List Int) ++ (l11.take x36.toNat)) ++ [((l0.getD i43.toNat ab).Key).Hour]) ++ (l11.drop x36.toNat))),A0,own sv79 2 1 l11.length (fl (eI .i64) l11)] = _ by simp [Z40_T,Z40_L,up,kI,bK,d0,d4,d7,hi]),(ax rfl rfl (ax rfl rfl (ax rfl rfl (ax rfl rfl (ax rfl rfl (ax rfl rfl (ax rfl rfl (ax rfl rfl (ax rfl rfl (ax rfl rfl (ax rfl rfl (dx eQ))))))))))))⟩
      ·intro done hi hc hcu
       refine nc (m := 12) (A := Z40_A) (B := Z40_B) hi ?_
       refine rE (A := fun ga40 => Z40_I ga40 done) (B := fun ga40 => St 58 w0 F ((3,(ga40 11)) :: [(0,sv0),(4,I i43),(5,I (((l0.getD i43.toNat ab).Key).Hour)),(6,I x36),(33,I x36),(34,sv79),(35,I (l11.length : Int)),(36,bool (x36 == (l11.length : Int))),(37,bool (x36 == (l11.length : Int))),(38,sv79),(39,I x36),(40,(bX sv79 (x36.toNat * 1))),(41,I (l11.getD x36.toNat 0)),(42,I (((l0.getD i43.toNat ab).Key).Hour)),(43,bool ((l11.getD x36.toNat 0) != (((l0.getD i43.toNat ab).Key).Hour))),(44,bool ((l11.getD x36.toNat 0) != (((l0.getD i43.toNat ab).Key).Hour))),(45,(ga40 0)),(46,sv79),(47,I x36),(48,(il sv79 0 x36.toNat 1)),(49,(ga40 4)),(50,I (((l0.getD i43.toNat ab).Key).Hour)),(51,(ga40 6)),(52,(ga40 7)),(53,sv79),(54,I x36),(55,(il sv79 x36.toNat l11.length 1)),(56,(ga40 11))]) [own (ga40 6) 2 1 [((l0.getD i43.toNat ab).Key).Hour].length (fl (eI .i64) [((l0.getD i43.toNat ab).Key).Hour]),own (ga40 11) 2 1 (((([] : List Int) ++ (l11.take x36.toNat)) ++ [((l0.getD i43.toNat ab).Key).Hour]) ++ (l11.drop x36.toNat)).length (fl (eI .i64) (((([] : List Int) ++ (l11.take x36.toNat)) ++ [((l0.getD i43.toNat ab).Key).Hour]) ++ (l11.drop x36.toNat))),A0,own sv79 2 1 l11.length (fl (eI .i64) l11)]) fun ga40 => ?_
       have d0 : done 0 = true := aX (j := 0) hcu rfl (by decide) rfl
       have d1 : done 1 = true := aX (j := 1) hcu rfl (by decide) rfl
       have d2 : done 2 = true := aX (j := 2) hcu rfl (by decide) rfl
       have d3 : done 3 = true := aX (j := 3) hcu rfl (by decide) rfl
       have d4 : done 4 = true := aX (j := 4) hcu rfl (by decide) rfl
       have d5 : done 5 = true := aX (j := 5) hcu rfl (by decide) rfl
       have d6 : done 6 = true := aX (j := 6) hcu rfl (by decide) rfl
       have d7 : done 7 = true := aX (j := 7) hcu rfl (by decide) rfl
       have d8 : done 8 = true := aX (j := 8) hcu rfl (by decide) rfl
       have d9 : done 9 = true := aX (j := 9) hcu rfl (by decide) rfl
       have d10 : done 10 = true := aX (j := 10) hcu rfl (by decide) rfl
       have d11 : done 11 = true := aX (j := 11) hcu rfl (by decide) rfl
       exact oE (i := 12) (t := 3) (v := (ga40 11)) (L2 := [own (ga40 6) 2 1 [((l0.getD i43.toNat ab).Key).Hour].length (fl (eI .i64) [((l0.getD i43.toNat ab).Key).Hour]),own (ga40 11) 2 1 (((([] : List Int) ++ (l11.take x36.toNat)) ++ [((l0.getD i43.toNat ab).Key).Hour]) ++ (l11.drop x36.toNat)).length (fl (eI .i64) (((([] : List Int) ++ (l11.take x36.toNat)) ++ [((l0.getD i43.toNat ab).Key).Hour]) ++ (l11.drop x36.toNat))),A0,own sv79 2 1 l11.length (fl (eI .i64) l11)]) rfl rfl (bx rfl) (by simp only [Z40_T,Z40_L,d0,d4,d6,d7,d11,bK]) (fun a => (ap (k := 11) rfl d11 af)) (fun a h_ => (kV.sub (ρ := [(45,(ga40 0)),(46,sv79),(47,I x36),(48,(il sv79 0 x36.toNat 1)),(49,(ga40 4)),(50,I (((l0.getD i43.toNat ab).Key).Hour)),(51,(ga40 6)),(52,(ga40 7)),(53,sv79),(54,I x36),(55,(il sv79 x36.toNat l11.length 1)),(56,(ga40 11))] ++ [(0,sv0),(3,sv79),(4,I i43),(5,I (((l0.getD i43.toNat ab).Key).Hour)),(6,I x36),(33,I x36),(34,sv79),(35,I (l11.length : Int)),(36,bool (x36 == (l11.length : Int))),(37,bool (x36 == (l11.length : Int))),(38,sv79),(39,I x36),(40,(bX sv79 (x36.toNat * 1))),(41,I (l11.getD x36.toNat 0)),(42,I (((l0.getD i43.toNat ab).Key).Hour)),(43,bool ((l11.getD x36.toNat 0) != (((l0.getD i43.toNat ab).Key).Hour))),(44,bool ((l11.getD x36.toNat 0) != (((l0.getD i43.toNat ab).Key).Hour)))]) (((ap (k := 0) rfl d0 (ap (k := 1) rfl d1 (ap (k := 2) rfl d2 (ap (k := 3) rfl d3 (ap (k := 4) rfl d4 (ap (k := 5) rfl d5 (ap (k := 6) rfl d6 (ap (k := 7) rfl d7 (ap (k := 8) rfl d8 (ap (k := 9) rfl d9 (ap (k := 10) rfl d10 (ap (k := 11) rfl d11 af)))))))))))) : mF a _ _ _ → kV a ([(45,(ga40 0)),(46,sv79),(47,I x36),(48,(il sv79 0 x36.toNat 1)),(49,(ga40 4)),(50,I (((l0.getD i43.toNat ab).Key).Hour)),(51,(ga40 6)),(52,(ga40 7)),(53,sv79),(54,I x36),(55,(il sv79 x36.toNat l11.length 1)),(56,(ga40 11))] ++ [(0,sv0),(3,sv79),(4,I i43),(5,I (((l0.getD i43.toNat ab).Key).Hour)),(6,I x36),(33,I x36),(34,sv79),(35,I (l11.length : Int)),(36,bool (x36 == (l11.length : Int))),(37,bool (x36 == (l11.length : Int))),(38,sv79),(39,I x36),(40,(bX sv79 (x36.toNat * 1))),(41,I (l11.getD x36.toNat 0)),(42,I (((l0.getD i43.toNat ab).Key).Hour)),(43,bool ((l11.getD x36.toNat 0) != (((l0.getD i43.toNat ab).Key).Hour))),(44,bool ((l11.getD x36.toNat 0) != (((l0.getD i43.toNat ab).Key).Hour)))])) h_) (vS [0,4,5,6,33,34,35,36,37,38,39,40,41,42,43,44,45,46,47,48,49,50,51,52,53,54,55,56] rfl))) (cY rfl) rfl
     ·intro done hall
      refine od (A := Z40_A) (B := Z40_B) (hall 12 (by decide)) ?_
      refine aU fun ga40 => ?_
      cases H85
      exact vF [2,1] rfl rfl (vS [0,3,4] rfl) fun a w h => ⟨_,h⟩
   ·refine aU fun sv93 => ?_
    refine ae (vM rfl rfl (vV (aG rfl rfl (ci _ _ _) ) rfl (vA rfl rfl (ai ?_))))
    exact vF [0,1] rfl rfl (vS [0,3,4] rfl) fun a w h => ⟨k,Nat.lt_succ_self k,_,_,_,H81,h⟩
theorem fK.spec (K p0 : Nat) (sv0 : Value) (p0_0 : Int) (l0 : List aF) (p0_2 : Int) (r : List Int) (H : fK K p0_0 l0 p0_2 = some r) : bp Tryz.prog 49 [pt p0 0] [box p0 96 [I p0_0,sv0,I p0_2],own sv0 151 9 l0.length (fl ak l0)] (fun v M => ∃ sv3 : Value,v = sv3 ∧ M = [box p0 96 [I p0_0,sv0,I p0_2],own sv0 151 9 l0.length (fl ak l0),own sv3 2 1 r.length (fl (eI .i64) r)]) := by
 unfold fK at H
 refine bo Tryz.func49 rfl 6 rfl (nL rfl) fun F w0 => ?_
 let C0_ : List HP := [box p0 96 [I p0_0,sv0,I p0_2],own sv0 151 9 l0.length (fl ak l0)]
 show cB (St 6 w0 F [(0,pt p0 0)] C0_) _
 refine ag (ae (vA rfl rfl (ai (ag (ae (vM rfl rfl ?_))))))
 obtain ⟨x3,h3,H⟩ := oB H
 refine aO (bI (Lr := []) (first := []) (cap := []) (xs := [.tmp 3,.const (I 0),.const (I 4611686018427387904)]) rfl rfl pN rfl (cO.spec K p0 sv0 p0_0 l0 p0_2 0 4611686018427387904 _ h3) rfl) rfl rfl rfl ?_
 rintro sv4 _ ⟨_,⟨_,rfl,rfl⟩,rfl⟩
 obtain ⟨x4,h4,H⟩ := oB H
 refine vP [2,0,1] rfl rfl ?_
 refine aO (bI (Lr := C0_) (first := []) (cap := []) (xs := [.tmp 4]) rfl rfl yX rfl (ge.spec K sv4 (own sv4 87 6 x3.length (fl aC x3)) x3 (aQ 87) _ h4) rfl) rfl rfl rfl ?_
 rintro sv5 _ ⟨_,⟨_,rfl,rfl⟩,rfl⟩
 refine vA rfl rfl (ai (aH ?_))
 cases H
 refine vP [2,3,1] rfl rfl ?_
 exact aT rfl rfl ⟨_,rfl,rfl⟩
theorem gc.spec (K : Nat) (sv0 : Value) (A0 : HP) (sv1 : Value) (A1 : HP) (l0 : List Int) (l1 : List Int) (hA0 : da A0 sv0 l0.length 1 (fl (eI .i64) l0)) (hA1 : da A1 sv1 l1.length 1 (fl (eI .i64) l1)) (r : Bool) (H : gc K l0 l1 = some r) : bp Tryz.prog 48 [sv0,sv1] [A0,A1] (fun v M => v = (bool r) ∧ M = [A0,A1]) := by
 unfold gc at H
 refine bo Tryz.func48 rfl 26 rfl (nL rfl) fun F w0 => ?_
 show cB (St 26 w0 F [(0,sv0),(1,sv1)] [A0,A1]) _
 refine ag (ae (vA rfl rfl (ai (ag (ag (ae (vM rfl rfl (vV (cp 0 rfl dk rfl hA0) rfl (vM rfl rfl (vV (cp 1 rfl dk rfl hA1) rfl (vV (aG rfl rfl (jn _ _ _)) rfl ?_)))))))))))
 refine ai ?_
 refine iu H (fun c48 H => ?_) fun c48 H => ?_
 ·refine aA rfl (iC c48) (ag (ae (vA rfl rfl (ai (aH ?_)))))
  cases H
  refine vP [0,1] rfl rfl ?_
  exact aT rfl rfl ⟨rfl,rfl⟩
 refine ay rfl (ef c48) (aV (ag (ag (ae (vA rfl rfl (ai (be ?_)))))))
 refine cf (fun k a w => ∃ i4,ff K l0 l1 k i4 = some r ∧ St 26 w0 F [(0,sv0),(1,sv1),(5,I i4)] [A0,A1] a w) K ?_ ?_
 ·exact vF [0,1] rfl rfl (vS [0,1,5] rfl) fun a w h => ⟨_,H,h⟩
 ·refine fun k => aU fun i4 => cv fun H4 => ?_
  cases k with
  | zero => exact absurd H4 (by simp [ff])
  | succ k =>
   rw [ff] at H4
   refine ag (ag (ae (vM rfl rfl (vM rfl rfl (vV (cp 0 rfl dk rfl hA0) rfl (vV (aG rfl rfl (cI _ _ _)) rfl (ai ?_)))))))
   refine gN H4 (fun c86 H4 => ?_) fun c86 H4 => ?_
   ·refine ay rfl (dF c86) (bT (ag (ae (vA rfl rfl (ai (aH ?_))))))
    cases H4
    refine vP [0,1] rfl rfl ?_
    exact aT rfl rfl ⟨rfl,rfl⟩
   refine aA rfl (dT c86) (aV (ag (be (ag ?_))))
   obtain ⟨c90,H4⟩ := gq H4
   obtain ⟨c91,H4⟩ := gq H4
   refine ce 9 rfl (fun done a w => kH 26 w0 F [(0,sv0),(1,sv1),(5,I i4),(11,I i4),(12,sv0),(13,I (l0.length : Int)),(14,Value.bool (decide (i4 < (l0.length : Int))))] [(0,17,sv0),(1,18,I i4),(2,19,(bX sv0 (i4.toNat * 1))),(3,20,I (l0.getD i4.toNat 0)),(4,21,sv1),(5,22,I i4),(6,23,(bX sv1 (i4.toNat * 1))),(7,24,I (l1.getD i4.toNat 0)),(8,25,bool ((l0.getD i4.toNat 0) != (l1.getD i4.toNat 0)))] done [A0,A1] a w) (by kernel_rfl) (by kernel_rfl) (cy (vS [0,1,5,11,12,13,14] rfl) rfl) ?_ ?_
   ·refine ⟨?_,?_,?_,?_,?_,?_,?_,?_,?_,trivial⟩
    ·exact fun done hi hc hcu => dV 0 rfl rfl rfl rfl (fun a => af) (aL rfl) rfl rfl rfl rfl
    ·exact fun done hi hc hcu => dV 1 rfl rfl rfl rfl (fun a => af) (aL rfl) rfl rfl rfl rfl
    ·exact fun done hi hc hcu => dV 2 rfl rfl rfl rfl (fun a => (hD 1 hcu rfl rfl rfl rfl (hD 0 hcu rfl rfl rfl rfl af))) (bf (sz := 0) 0 rfl rfl dk bd rfl hA0 c90 c86) rfl rfl rfl rfl
    ·exact fun done hi hc hcu => dV 3 rfl rfl rfl rfl (fun a => (hD 2 hcu rfl rfl rfl rfl af)) (aP (v := (I (l0.getD i4.toNat 0))) rfl bl (bE (i := 0) rfl hA0 (by simp) (dS (mh _) (bB c90 c86) rfl))) rfl rfl rfl rfl
    ·exact fun done hi hc hcu => dV 4 rfl rfl rfl rfl (fun a => af) (aL rfl) rfl rfl rfl rfl
    ·exact fun done hi hc hcu => dV 5 rfl rfl rfl rfl (fun a => af) (aL rfl) rfl rfl rfl rfl
    ·exact fun done hi hc hcu => dV 6 rfl rfl rfl rfl (fun a => (hD 5 hcu rfl rfl rfl rfl (hD 4 hcu rfl rfl rfl rfl af))) (bf (sz := 0) 1 rfl rfl dk bd rfl hA1 c90 c91) rfl rfl rfl rfl
    ·exact fun done hi hc hcu => dV 7 rfl rfl rfl rfl (fun a => (hD 6 hcu rfl rfl rfl rfl af)) (aP (v := (I (l1.getD i4.toNat 0))) rfl bl (bE (i := 1) rfl hA1 (by simp) (dS (mh _) (bB c90 c91) rfl))) rfl rfl rfl rfl
    ·exact fun done hi hc hcu => dV 8 rfl rfl rfl rfl (fun a => (hD 7 hcu rfl rfl rfl rfl (hD 3 hcu rfl rfl rfl rfl af))) (aG rfl rfl (jn _ _ _)) rfl rfl rfl rfl
   ·intro done hall
    refine ck [A0,A1] rfl (hL hall rfl) ?_
    refine iu H4 (fun c92 H4 => ?_) fun c92 H4 => ?_
    ·refine aA rfl (iC c92) (ag (ae (vA rfl rfl (ai (aH ?_)))))
     cases H4
     refine vP [0,1] rfl rfl ?_
     exact aT rfl rfl ⟨rfl,rfl⟩
    refine ay rfl (ef c92) (aV (ae (vM rfl rfl (vV (aG rfl rfl (ci _ _ _) ) rfl (vA rfl rfl (ai ?_))))))
    exact vF [0,1] rfl rfl (vS [0,1,5] rfl) fun a w h => ⟨k,Nat.lt_succ_self k,_,H4,h⟩
theorem dA.spec (K p0 : Nat) (a1 : Int) (r : List Int) (H : dA K a1 = some r) : bp Tryz.prog 169 [pt p0 0,int .u64 a1] [box p0 239 [L0]] (fun v M => ∃ sv30 : Value,v = (pt p0 0) ∧ M = [box p0 239 [sv30],own sv30 5 1 r.length (fl (eI .u8) r)]) := by
 unfold dA at H
 refine bo Tryz.func169 rfl 35 rfl (nL rfl) fun F w0 => ?_
 show cB (St 35 w0 F [(0,pt p0 0),(1,int .u64 a1)] [box p0 239 [L0]]) _
 refine ag (ae (vA rfl rfl (ai (ag (ag (ae (vM rfl rfl ?_)))))))
 refine vV (aG rfl rfl (gA (fun w => rfl) rfl (lI Tryz.underlying237 _ _))) rfl ?_
 refine ai (ay rfl rfl (aV ?_))
 obtain ⟨x2,H5,H⟩ := oB H
 refine cn (fun a w => ∃ sv44 : Value,St 35 w0 F [(0,pt p0 0),(1,int .u64 x2.2)] [box p0 239 [sv44],own sv44 5 1 x2.1.length (fl (eI .u8) x2.1)] a w) ?_ ?_
 ·refine be ?_
  refine cf (fun k a w => ∃ i6,∃ l7,∃ sv49 : Value,gj K k i6 l7 = some x2 ∧ St 35 w0 F [(0,pt p0 0),(1,int .u64 i6)] [box p0 239 [sv49],own sv49 5 1 l7.length (fl (eI .u8) l7)] a w) K ?_ ?_
  ·refine cP 5 1 ?_
   exact vF [1,0] rfl rfl (vS [0,1] rfl) fun a w h => ⟨_,_,_,H5,h⟩
  ·refine fun k => aU fun i6 => aU fun l7 => aU fun sv49 => cv fun H6 => ?_
   cases k with
   | zero => exact absurd H6 (by simp [gj])
   | succ k =>
    rw [gj] at H6
    refine ag (ag (ae (vM rfl rfl (vV (aG rfl rfl (jT _ _ _)) rfl (ai ?_)))))
    refine gN H6 (fun c47 H6 => ?_) fun c47 H6 => ?_
    ·refine ay rfl (dF c47) (bT ?_)
     cases H6
     exact vF [0,1] rfl rfl (vS [0,1] rfl) fun a w h => ⟨_,h⟩
    refine aA rfl (dT c47) (aV (ag (be (ae (vM rfl rfl (vM rfl rfl (vV (bq rfl) rfl (vV (az (sz := 0) (o := 0) rfl gL gD) rfl (vV (aP (v := sv49) rfl my (aJ (i := 0) rfl rfl)) rfl (vM rfl rfl (vV (cr rfl (ic Tryz.underlying192 Tryz.underlying5)) rfl ?_)))))))))))
    refine vV (aG rfl rfl (Co _ _ _)) rfl ?_
    refine aO (bL (sz := 0) (xs := [.tmp 18]) (cs := fl (eI .u8) [pf .u8 (jB i6) 128]) rfl rfl bU dp dM rfl rfl (cN rfl) rfl (by decide)) rfl rfl rfl ?_
    rintro sv56 _ rfl
    obtain ⟨c49,H6⟩ := gq H6
    refine aO (cc (sz := 0) (xs := l7) (ys := [pf .u8 (jB i6) 128]) 2 0 rfl rfl bU dp dM rfl eN rfl rfl rfl (aQ 5) rfl (ir _) c49) rfl rfl rfl ?_
    rintro sv57 _ rfl
    refine et [own sv56 5 1 [pf .u8 (jB i6) 128].length (fl (eI .u8) [pf .u8 (jB i6) 128]),box p0 239 [sv49],own sv57 5 1 (l7 ++ [pf .u8 (jB i6) 128]).length (fl (eI .u8) (l7 ++ [pf .u8 (jB i6) 128]))] rfl ?_
    refine vV (bq rfl) rfl (vV (az (sz := 0) (o := 0) rfl gL gD) rfl ?_)
    refine cj (fi (cs := [sv49]) (cs' := [sv57]) (sv := sv57) (L' := [own sv56 5 1 [pf .u8 (jB i6) 128].length (fl (eI .u8) [pf .u8 (jB i6) 128]),box p0 239 [sv57],own sv57 5 1 (l7 ++ [pf .u8 (jB i6) 128]).length (fl (eI .u8) (l7 ++ [pf .u8 (jB i6) 128]))]) 1 2 rfl rfl gD rfl rfl (aQ 5) rfl (by simp) rfl) rfl rfl ?_
    rintro _ _ rfl
    refine ai (ae (vM rfl rfl ?_))
    refine vV (aG rfl rfl fun w => sV _ _ _ _ w (by decide)) rfl ?_
    refine vA rfl rfl (ai ?_)
    exact vF [1,2] rfl rfl (vS [0,1] rfl) fun a w h => ⟨k,Nat.lt_succ_self k,_,_,_,H6,h⟩
 ·refine aU fun sv44 => ?_
  refine ag (ae (vM rfl rfl (vM rfl rfl (vV (bq rfl) rfl (vV (az (sz := 0) (o := 0) rfl gL gD) rfl (vV (aP (v := sv44) rfl my (aJ (i := 0) rfl rfl)) rfl (vM rfl rfl (vV (cr rfl (ic Tryz.underlying192 Tryz.underlying5)) rfl ?_))))))))
  refine aO (bL (sz := 0) (xs := [.tmp 29]) (cs := fl (eI .u8) [jB x2.2]) rfl rfl bU dp dM rfl rfl (cN rfl) rfl (by decide)) rfl rfl rfl ?_
  rintro sv58 _ rfl
  obtain ⟨c50,H⟩ := gq H
  refine aO (cc (sz := 0) (xs := x2.1) (ys := [jB x2.2]) 2 0 rfl rfl bU dp dM rfl eN rfl rfl rfl (aQ 5) rfl (ir _) c50) rfl rfl rfl ?_
  rintro sv59 _ rfl
  refine et [own sv58 5 1 [jB x2.2].length (fl (eI .u8) [jB x2.2]),box p0 239 [sv44],own sv59 5 1 (x2.1 ++ [jB x2.2]).length (fl (eI .u8) (x2.1 ++ [jB x2.2]))] rfl ?_
  refine vV (bq rfl) rfl (vV (az (sz := 0) (o := 0) rfl gL gD) rfl ?_)
  refine cj (fi (cs := [sv44]) (cs' := [sv59]) (sv := sv59) (L' := [own sv58 5 1 [jB x2.2].length (fl (eI .u8) [jB x2.2]),box p0 239 [sv59],own sv59 5 1 (x2.1 ++ [jB x2.2]).length (fl (eI .u8) (x2.1 ++ [jB x2.2]))]) 1 2 rfl rfl gD rfl rfl (aQ 5) rfl (by simp) rfl) rfl rfl ?_
  rintro _ _ rfl
  refine ai (ag (ae (vM rfl rfl (vA rfl rfl (ai (aH ?_))))))
  cases H
  refine vP [1,2] rfl rfl ?_
  exact aT rfl rfl ⟨_,rfl,rfl⟩
theorem cT.spec (K p0 : Nat) (sv0 : Value) (l0 : List Int) (a1 : Int) (r : List Int) (H : cT K l0 a1 = some r) : bp Tryz.prog 169 [pt p0 0,int .u64 a1] [box p0 239 [sv0],own sv0 5 1 l0.length (fl (eI .u8) l0)] (fun v M => ∃ sv30 : Value,v = (pt p0 0) ∧ M = [box p0 239 [sv30],own sv30 5 1 r.length (fl (eI .u8) r)]) := by
 unfold cT at H
 refine bo Tryz.func169 rfl 35 rfl (nL rfl) fun F w0 => ?_
 show cB (St 35 w0 F [(0,pt p0 0),(1,int .u64 a1)] [box p0 239 [sv0],own sv0 5 1 l0.length (fl (eI .u8) l0)]) _
 refine ag (ae (vA rfl rfl (ai (ag (ag (ae (vM rfl rfl ?_)))))))
 refine vV (aG rfl rfl (gA (fun w => rfl) rfl (lI Tryz.underlying237 _ _))) rfl ?_
 refine ai (ay rfl rfl (aV ?_))
 obtain ⟨x2,H5,H⟩ := oB H
 refine cn (fun a w => ∃ sv44 : Value,St 35 w0 F [(0,pt p0 0),(1,int .u64 x2.2)] [box p0 239 [sv44],own sv44 5 1 x2.1.length (fl (eI .u8) x2.1)] a w) ?_ ?_
 ·refine be ?_
  refine cf (fun k a w => ∃ i6,∃ l7,∃ sv49 : Value,di K k i6 l7 = some x2 ∧ St 35 w0 F [(0,pt p0 0),(1,int .u64 i6)] [box p0 239 [sv49],own sv49 5 1 l7.length (fl (eI .u8) l7)] a w) K ?_ ?_
  ·exact vF [0,1] rfl rfl (vS [0,1] rfl) fun a w h => ⟨_,_,_,H5,h⟩
  ·refine fun k => aU fun i6 => aU fun l7 => aU fun sv49 => cv fun H6 => ?_
   cases k with
   | zero => exact absurd H6 (by simp [di])
   | succ k =>
    rw [di] at H6
    refine ag (ag (ae (vM rfl rfl (vV (aG rfl rfl (jT _ _ _)) rfl (ai ?_)))))
    refine gN H6 (fun c47 H6 => ?_) fun c47 H6 => ?_
    ·refine ay rfl (dF c47) (bT ?_)
     cases H6
     exact vF [0,1] rfl rfl (vS [0,1] rfl) fun a w h => ⟨_,h⟩
    refine aA rfl (dT c47) (aV (ag (be (ae (vM rfl rfl (vM rfl rfl (vV (bq rfl) rfl (vV (az (sz := 0) (o := 0) rfl gL gD) rfl (vV (aP (v := sv49) rfl my (aJ (i := 0) rfl rfl)) rfl (vM rfl rfl (vV (cr rfl (ic Tryz.underlying192 Tryz.underlying5)) rfl ?_)))))))))))
    refine vV (aG rfl rfl (Co _ _ _)) rfl ?_
    refine aO (bL (sz := 0) (xs := [.tmp 18]) (cs := fl (eI .u8) [pf .u8 (jB i6) 128]) rfl rfl bU dp dM rfl rfl (cN rfl) rfl (by decide)) rfl rfl rfl ?_
    rintro sv56 _ rfl
    obtain ⟨c49,H6⟩ := gq H6
    refine aO (cc (sz := 0) (xs := l7) (ys := [pf .u8 (jB i6) 128]) 2 0 rfl rfl bU dp dM rfl eN rfl rfl rfl (aQ 5) rfl (ir _) c49) rfl rfl rfl ?_
    rintro sv57 _ rfl
    refine et [own sv56 5 1 [pf .u8 (jB i6) 128].length (fl (eI .u8) [pf .u8 (jB i6) 128]),box p0 239 [sv49],own sv57 5 1 (l7 ++ [pf .u8 (jB i6) 128]).length (fl (eI .u8) (l7 ++ [pf .u8 (jB i6) 128]))] rfl ?_
    refine vV (bq rfl) rfl (vV (az (sz := 0) (o := 0) rfl gL gD) rfl ?_)
    refine cj (fi (cs := [sv49]) (cs' := [sv57]) (sv := sv57) (L' := [own sv56 5 1 [pf .u8 (jB i6) 128].length (fl (eI .u8) [pf .u8 (jB i6) 128]),box p0 239 [sv57],own sv57 5 1 (l7 ++ [pf .u8 (jB i6) 128]).length (fl (eI .u8) (l7 ++ [pf .u8 (jB i6) 128]))]) 1 2 rfl rfl gD rfl rfl (aQ 5) rfl (by simp) rfl) rfl rfl ?_
    rintro _ _ rfl
    refine ai (ae (vM rfl rfl ?_))
    refine vV (aG rfl rfl fun w => sV _ _ _ _ w (by decide)) rfl ?_
    refine vA rfl rfl (ai ?_)
    exact vF [1,2] rfl rfl (vS [0,1] rfl) fun a w h => ⟨k,Nat.lt_succ_self k,_,_,_,H6,h⟩
 ·refine aU fun sv44 => ?_
  refine ag (ae (vM rfl rfl (vM rfl rfl (vV (bq rfl) rfl (vV (az (sz := 0) (o := 0) rfl gL gD) rfl (vV (aP (v := sv44) rfl my (aJ (i := 0) rfl rfl)) rfl (vM rfl rfl (vV (cr rfl (ic Tryz.underlying192 Tryz.underlying5)) rfl ?_))))))))
  refine aO (bL (sz := 0) (xs := [.tmp 29]) (cs := fl (eI .u8) [jB x2.2]) rfl rfl bU dp dM rfl rfl (cN rfl) rfl (by decide)) rfl rfl rfl ?_
  rintro sv58 _ rfl
  obtain ⟨c50,H⟩ := gq H
  refine aO (cc (sz := 0) (xs := x2.1) (ys := [jB x2.2]) 2 0 rfl rfl bU dp dM rfl eN rfl rfl rfl (aQ 5) rfl (ir _) c50) rfl rfl rfl ?_
  rintro sv59 _ rfl
  refine et [own sv58 5 1 [jB x2.2].length (fl (eI .u8) [jB x2.2]),box p0 239 [sv44],own sv59 5 1 (x2.1 ++ [jB x2.2]).length (fl (eI .u8) (x2.1 ++ [jB x2.2]))] rfl ?_
  refine vV (bq rfl) rfl (vV (az (sz := 0) (o := 0) rfl gL gD) rfl ?_)
  refine cj (fi (cs := [sv44]) (cs' := [sv59]) (sv := sv59) (L' := [own sv58 5 1 [jB x2.2].length (fl (eI .u8) [jB x2.2]),box p0 239 [sv59],own sv59 5 1 (x2.1 ++ [jB x2.2]).length (fl (eI .u8) (x2.1 ++ [jB x2.2]))]) 1 2 rfl rfl gD rfl rfl (aQ 5) rfl (by simp) rfl) rfl rfl ?_
  rintro _ _ rfl
  refine ai (ag (ae (vM rfl rfl (vA rfl rfl (ai (aH ?_))))))
  cases H
  refine vP [1,2] rfl rfl ?_
  exact aT rfl rfl ⟨_,rfl,rfl⟩
theorem gQ.spec (K p0 : Nat) (sv0 : Value) (l0 : List Int) (a1 : List UInt8) (r : List Int) (H : gQ K l0 a1 = some r) : bp Tryz.prog 200 [pt p0 0,cW a1] [box p0 239 [sv0],own sv0 5 1 l0.length (fl (eI .u8) l0)] (fun v M => ∃ sv5 : Value,v = (pt p0 0) ∧ M = [box p0 239 [sv5],own sv5 5 1 r.length (fl (eI .u8) r)]) := by
 unfold gQ at H
 refine bo Tryz.func200 rfl 21 rfl (nL rfl) fun F w0 => ?_
 show cB (St 21 w0 F [(0,pt p0 0),(1,cW a1)] [box p0 239 [sv0],own sv0 5 1 l0.length (fl (eI .u8) l0)]) _
 refine ag (ae (vA rfl rfl (ai (ag (ag (ae (vM rfl rfl (vM rfl rfl (vV (pD rfl Tryz.underlying9) rfl (vV (cr rfl (ic Tryz.underlying3 Tryz.underlying192)) rfl ?_))))))))))
 obtain ⟨x4,h4,H⟩ := oB H
 refine aO (bI (Lr := []) (first := []) (cap := []) (xs := [.tmp 5,.tmp 8]) rfl rfl kN rfl (cT.spec K p0 sv0 l0 (dW (a1.length : Int)) _ h4) rfl) rfl rfl rfl ?_
 rintro _ _ ⟨_,⟨sv8,rfl,rfl⟩,rfl⟩
 refine vV (aG rfl rfl (pk (fun w => rfl) rfl (lI Tryz.underlying237 _ _))) rfl ?_
 refine ai (aA rfl rfl (ae (vM rfl rfl (vM rfl rfl (vV (bq rfl) rfl (vV (az (sz := 0) (o := 0) rfl gL gD) rfl (vV (aP (v := sv8) rfl my (aJ (i := 0) rfl rfl)) rfl (vM rfl rfl ?_))))))))
 obtain ⟨c4,H⟩ := gq H
 refine aO (rB (xs := x4) (s := a1) 1 rfl rfl bU Tryz.underlying9 dp st eN rfl c4) rfl rfl rfl ?_
 rintro sv9 _ rfl
 refine et [box p0 239 [sv8],own sv9 5 1 (x4 ++ mn a1).length (fl (eI .u8) (x4 ++ mn a1))] rfl ?_
 refine vV (bq rfl) rfl (vV (az (sz := 0) (o := 0) rfl gL gD) rfl ?_)
 refine cj (fi (cs := [sv8]) (cs' := [sv9]) (sv := sv9) (L' := [box p0 239 [sv9],own sv9 5 1 (x4 ++ mn a1).length (fl (eI .u8) (x4 ++ mn a1))]) 0 1 rfl rfl gD rfl rfl (aQ 5) rfl (by simp) rfl) rfl rfl ?_
 rintro _ _ rfl
 refine ai (ag (ae (vM rfl rfl (vA rfl rfl (ai (aH ?_))))))
 cases H
 refine vP [0,1] rfl rfl ?_
 exact aT rfl rfl ⟨_,rfl,rfl⟩
theorem hO.spec (K p0 : Nat) (sv0 : Value) (l0 : List Int) (a1 : Int) (r : List Int) (H : hO K l0 a1 = some r) : bp Tryz.prog 201 [pt p0 0,I a1] [box p0 239 [sv0],own sv0 5 1 l0.length (fl (eI .u8) l0)] (fun v M => ∃ sv2 : Value,v = (pt p0 0) ∧ M = [box p0 239 [sv2],own sv2 5 1 r.length (fl (eI .u8) r)]) := by
 unfold hO at H
 refine bo Tryz.func201 rfl 14 rfl (nL rfl) fun F w0 => ?_
 show cB (St 14 w0 F [(0,pt p0 0),(1,I a1)] [box p0 239 [sv0],own sv0 5 1 l0.length (fl (eI .u8) l0)]) _
 refine ag (ae (vA rfl rfl (ai (ag (ae (vM rfl rfl (vM rfl rfl ?_)))))))
 refine vV (aG rfl rfl fun w => Cb _ _ _ _ w (by decide)) rfl ?_
 refine vV (cr rfl (ic Tryz.underlying2 Tryz.underlying192)) rfl (vM rfl rfl ?_)
 refine vV (aG rfl rfl fun w => sV _ _ _ _ w (by decide)) rfl ?_
 refine vV (cr rfl (ic Tryz.underlying2 Tryz.underlying192)) rfl (vV (aG rfl rfl (uH _ _ _)) rfl ?_)
 obtain ⟨x2,h2,H⟩ := oB H
 refine aO (bI (Lr := []) (first := []) (cap := []) (xs := [.tmp 5,.tmp 12]) rfl rfl kN rfl (cT.spec K p0 sv0 l0 (lX .u64 (dW (yG .i64 a1 1)) (dW (lh .i64 a1 63))) _ h2) rfl) rfl rfl rfl ?_
 rintro _ _ ⟨_,⟨sv3,rfl,rfl⟩,rfl⟩
 refine vA rfl rfl (ai (aH ?_))
 cases H
 refine vP [0,1] rfl rfl ?_
 exact aT rfl rfl ⟨_,rfl,rfl⟩
theorem iN.spec (sv0 : Value) (A0 : HP) (l0 : List Int) (hA0 : da A0 sv0 l0.length 1 (fl (eI .u8) l0)) (r : List Int) (H : iN l0 = some r) : bp Tryz.prog 203 [sv0] [A0] (fun v M => ∃ sv5 : Value,v = sv5 ∧ M = [A0,own sv5 5 1 r.length (fl (eI .u8) r)]) := by
 unfold iN at H
 refine bo Tryz.func203 rfl 8 rfl (nL rfl) fun F w0 => ?_
 show cB (St 8 w0 F [(0,sv0)] [A0]) _
 refine ag (ae (vA rfl rfl (ai (ag (ag (ae (vM rfl rfl ?_)))))))
 refine iu H (fun c9 H => ?_) fun c9 H => ?_
 ·refine vV (uQ 0 rfl rfl Tryz.underlying163 rfl hA0 rfl c9) rfl (ai (ay rfl rfl (aV (ag (ae ?_)))))
  refine aO (bL (sz := 0) (xs := []) (cs := fl (eI .u8) ([] : List Int)) rfl rfl bU dp dM rfl rfl (cN rfl) rfl (by decide)) rfl rfl rfl ?_
  rintro sv6 _ rfl
  refine vM rfl rfl ?_
  obtain ⟨c10,H⟩ := gq H
  refine aO (cc (sz := 0) (xs := ([] : List Int)) (ys := l0) 0 1 rfl rfl bU dp dM rfl eN rfl rfl rfl hA0 rfl (ir _) c10) rfl rfl rfl ?_
  rintro sv7 _ rfl
  refine et [own sv7 5 1 (([] : List Int) ++ l0).length (fl (eI .u8) (([] : List Int) ++ l0)),A0] rfl ?_
  refine vA rfl rfl (ai (aH ?_))
  cases H
  refine vP [1,0] rfl rfl ?_
  exact aT rfl rfl ⟨_,rfl,rfl⟩
 by_cases c11 : zm sv0 = true
 ·replace H : (some (([] : List Int))) = _ := H
  refine vV (oi 0 rfl rfl Tryz.underlying163 rfl hA0 c11) rfl (ai (aA rfl rfl (ag (ae (vA rfl rfl (ai (aH ?_)))))))
  cases H
  refine cP 5 1 ?_
  refine vP [1,0] rfl rfl ?_
  exact aT rfl rfl ⟨_,rfl,rfl⟩
 ·refine vV (oi 0 rfl rfl Tryz.underlying163 rfl hA0 (bF c11)) rfl (ai (ay rfl rfl (aV (ag (ae ?_)))))
  refine aO (bL (sz := 0) (xs := []) (cs := fl (eI .u8) ([] : List Int)) rfl rfl bU dp dM rfl rfl (cN rfl) rfl (by decide)) rfl rfl rfl ?_
  rintro sv8 _ rfl
  refine vM rfl rfl ?_
  obtain ⟨c12,H⟩ := gq H
  refine aO (cc (sz := 0) (xs := ([] : List Int)) (ys := ([] : List Int)) 0 1 rfl rfl bU dp dM rfl eN rfl rfl rfl (su hA0 c9) rfl (ir _) c12) rfl rfl rfl ?_
  rintro sv9 _ rfl
  refine et [own sv9 5 1 (([] : List Int) ++ ([] : List Int)).length (fl (eI .u8) (([] : List Int) ++ ([] : List Int))),A0] rfl ?_
  refine vA rfl rfl (ai (aH ?_))
  cases H
  refine vP [1,0] rfl rfl ?_
  exact aT rfl rfl ⟨_,rfl,rfl⟩
theorem dt.spec (p0 : Nat) (sv0 : Value) (l0 : List Int) (r : List Int) (H : dt l0 = some r) : bp Tryz.prog 172 [pt p0 0] [box p0 239 [sv0],own sv0 5 1 l0.length (fl (eI .u8) l0)] (fun v M => ∃ sv2 : Value,v = sv2 ∧ M = [box p0 239 [sv0],own sv0 5 1 l0.length (fl (eI .u8) l0),own sv2 5 1 r.length (fl (eI .u8) r)]) := by
 unfold dt at H
 refine bo Tryz.func172 rfl 10 rfl (nL rfl) fun F w0 => ?_
 show cB (St 10 w0 F [(0,pt p0 0)] [box p0 239 [sv0],own sv0 5 1 l0.length (fl (eI .u8) l0)]) _
 refine ag (ae (vA rfl rfl (ai (ag (ag (ae (vM rfl rfl ?_)))))))
 refine vV (aG rfl rfl (gA (fun w => rfl) rfl (lI Tryz.underlying237 _ _))) rfl ?_
 refine ai (ay rfl rfl (aV (ag (ae (vM rfl rfl (vV (bq rfl) rfl (vV (az (sz := 0) (o := 0) rfl gL gD) rfl (vV (aP (v := sv0) rfl my (aJ (i := 0) rfl rfl)) rfl ?_))))))))
 obtain ⟨x2,h2,H⟩ := oB H
 refine vP [1,0] rfl rfl ?_
 refine aO (bI (Lr := [box p0 239 [sv0]]) (first := []) (cap := []) (xs := [.tmp 8]) rfl rfl rA rfl (iN.spec sv0 (own sv0 5 1 l0.length (fl (eI .u8) l0)) l0 (aQ 5) _ h2) rfl) rfl rfl rfl ?_
 rintro sv3 _ ⟨_,⟨_,rfl,rfl⟩,rfl⟩
 refine vA rfl rfl (ai (aH ?_))
 cases H
 refine vP [2,0,1] rfl rfl ?_
 exact aT rfl rfl ⟨_,rfl,rfl⟩
end Go.Proofs.YtmgpegiekankmaaGreat.MemPlays
end
