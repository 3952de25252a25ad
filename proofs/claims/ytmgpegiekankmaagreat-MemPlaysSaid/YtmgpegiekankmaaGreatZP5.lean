/- memPlays_holds: the given statement is proved: no condition ahead of it; before it what its proof rests on. -/
import Derived.Test.YtmgpegiekankmaaGreatZP4
import Derived.Test.YtmgpegiekankmaaGreatRows
set_option linter.unusedVariables false
set_option linter.unusedSimpArgs false
section
set_option linter.unusedVariables false
set_option linter.unusedSimpArgs false
set_option maxRecDepth 20000
namespace Go.Proofs.YtmgpegiekankmaaGreat.MemPlays
open Go E
theorem xo (K : Nat) (a1 a2 a3 a4 : List UInt8) (d : Int) : ∀ (k : Nat) (i : Int), jl K a1 a2 a3 a4 d k i = cF K a1 a2 a3 a4 d k i
  | 0, i => rfl
  | k + 1, i => by rw [jl, cF, xo K a1 a2 a3 a4 d k]
theorem tf (K : Nat) (a1 a2 a3 a4 : List UInt8) (d : Int) : ∀ (k i : Nat), i ≤ 4 → 4 < i + k → ∃ x, cF K a1 a2 a3 a4 d k i = some x
  | 0, i, h1, h2 => by omega
  | k + 1, i, h1, h2 => by
    rw [cF]
    by_cases h : i < 4
    · have hn : ba ((i : Int) + 1) = ((i + 1 : Nat) : Int) := by rw [bM (by omega)]; omega
      obtain ⟨x, hx⟩ := tf K a1 a2 a3 a4 d k (i + 1) (by omega) (by omega)
      rw [if_pos (by omega), if_pos (by omega), if_pos (by omega), hn, hx]
      split
      · exact ⟨_, rfl⟩
      · split
        · split
          · exact ⟨_, rfl⟩
          · exact ⟨_, rfl⟩
        · exact ⟨_, rfl⟩
    · rw [if_neg (by omega)]; exact ⟨_, rfl⟩
theorem uZ (h : Int) (a1 a2 a3 a4 : List UInt8) (v d : Int) : lg 200000 h a1 a2 a3 a4 v d = dY 200000 h a1 a2 a3 a4 v d ∧ ∃ x, dY 200000 h a1 a2 a3 a4 v d = some x := by
  obtain ⟨x, hx⟩ := tf 200000 a1 a2 a3 a4 d 200000 0 (by omega) (by omega)
  have hx' : cF 200000 a1 a2 a3 a4 d 200000 0 = some x := hx
  unfold lg dY kT
  simp only [fg, xo, hx']
  by_cases h1 : d < 1
  · rw [if_neg (show ¬ 1 ≤ d by omega), if_pos h1]; simp only [Bool.not_false, if_true]; exact ⟨trivial, _, rfl⟩
  · rw [if_pos (show 1 ≤ d by omega), if_neg h1]
    by_cases h2 : 4 < d
    · rw [decide_eq_false (show ¬ d ≤ 4 by omega), if_pos h2]; simp only [Bool.not_false, if_true]; exact ⟨trivial, _, rfl⟩
    · rw [decide_eq_true (show d ≤ 4 by omega), if_neg h2]
      simp only [Bool.not_true, Bool.false_eq_true, if_false]
      refine ⟨trivial, ?_⟩
      split
      · exact ⟨_, rfl⟩
      · split
        · exact ⟨_, rfl⟩
        · split
          · exact ⟨_, rfl⟩
          · split <;> exact ⟨_, rfl⟩
theorem ue (l : List aB) (hl : l.length ≤ 100) (d : Int) : ∀ (k i : Nat), i ≤ l.length → l.length < i + k → jo 200000 l d k i = cX 200000 l d k i ∧ ∃ x, cX 200000 l d k i = some x
  | 0, i, h1, h2 => by omega
  | k + 1, i, h1, h2 => by
    rw [jo, cX]
    by_cases h : i < l.length
    · have hn : ba ((i : Int) + 1) = ((i + 1 : Nat) : Int) := by rw [bM (by omega)]; omega
      obtain ⟨e, x, hx⟩ := uZ ((l.getD (i : Int).toNat ab).Key).Hour ((l.getD (i : Int).toNat ab).Key).Dims_0 ((l.getD (i : Int).toNat ab).Key).Dims_1 ((l.getD (i : Int).toNat ab).Key).Dims_2 ((l.getD (i : Int).toNat ab).Key).Dims_3 (l.getD (i : Int).toNat ab).Value d
      obtain ⟨e2, y, hy⟩ := ue l hl d k (i + 1) (by omega) (by omega)
      rw [if_pos (by omega), if_pos (by omega), if_pos (by omega), if_pos (by omega), e, hx, hn, e2, hy]
      refine ⟨rfl, ?_⟩
      simp only [Option.bind_some]
      split <;> exact ⟨_, rfl⟩
    · rw [if_neg (by omega), if_neg (by omega)]; exact ⟨rfl, _, rfl⟩
theorem Ae (l : List aB) (hl : l.length ≤ 100) (d : Int) : iZ 200000 l d = cS 200000 l d ∧ ∃ x, cS 200000 l d = some x := by
  obtain ⟨e, x, hx⟩ := ue l hl d 200000 0 (by omega) (by omega)
  have e' : jo 200000 l d 200000 0 = cX 200000 l d 200000 0 := e
  have hx' : cX 200000 l d 200000 0 = some x := hx
  unfold iZ cS kT
  simp only [fg, e', hx']
  by_cases h1 : d < 1
  · rw [if_neg (show ¬ 1 ≤ d by omega), if_pos h1]; exact ⟨rfl, _, rfl⟩
  · rw [if_pos (show 1 ≤ d by omega), if_neg h1]
    by_cases h2 : 4 < d
    · rw [decide_eq_false (show ¬ d ≤ 4 by omega), if_pos h2]; exact ⟨rfl, _, rfl⟩
    · rw [decide_eq_true (show d ≤ 4 by omega), if_neg h2]
      simp only [Bool.not_true, Bool.false_eq_true, if_false]
      by_cases h3 : (l.length : Int) = 0
      · rw [if_pos h3, if_pos (by omega)]; exact ⟨rfl, _, rfl⟩
      · rw [if_neg h3, if_neg (show ¬ (l.length : Int) < 1 by omega)]
        refine ⟨rfl, ?_⟩
        split <;> exact ⟨_, rfl⟩
def ot (f : aB) : Prop := f.Key.Dims_0.length ≤ 40 ∧ f.Key.Dims_1.length ≤ 40 ∧ f.Key.Dims_2.length ≤ 40 ∧ f.Key.Dims_3.length ≤ 40
theorem fZ {α : Type} (l : List α) (n : Nat) (h : n < l.length) (z : α) : l.getD n z = l[n] := by simp [List.getD_eq_getElem?_getD, List.getElem?_eq_getElem h]
theorem rh {i : Nat} (h : i < 1000000) : ba ((i : Int) + 1) = ((i + 1 : Nat) : Int) := by rw [bM (by omega)]; omega
def kj (f : aB) : List (List UInt8) := [f.Key.Dims_0, f.Key.Dims_1, f.Key.Dims_2, f.Key.Dims_3]
def lE : Nat → Nat → List Int
  | 0, n => [(n : Int)]
  | m + 1, n => if 128 ≤ n then ((n % 128 + 128 : Nat) : Int) :: lE m (n / 128) else [(n : Int)]
theorem jV : ∀ m n, (lE m n).length ≤ m + 1
  | 0, n => by simp [lE]
  | m + 1, n => by
    rw [lE]; split
    · have := jV m (n / 128); simp; omega
    · simp
theorem Bl (n : Nat) : pf .u8 (jB n) 128 = ((n % 128 + 128 : Nat) : Int) := by
  have key : ∀ x : Fin 256, pf .u8 (x.val : Int) 128 = ((x.val % 128 + 128 : Nat) : Int) := by decide +kernel
  have e : jB (n : Int) = ((n % 256 : Nat) : Int) := by simp [jB, IntKind.wrap, IntKind.signed, IntKind.bits]
  rw [e, key ⟨n % 256, Nat.mod_lt _ (by decide)⟩]
  congr 2
  show n % 256 % 128 = n % 128
  omega
theorem Ck (n : Nat) : lh .u64 (n : Int) 7 = ((n / 128 : Nat) : Int) := by
  have e : (2 : Int) ^ min (7 : Int).toNat IntKind.u64.bits = 128 := by decide
  unfold lh
  rw [e, Int.fdiv_eq_ediv_of_nonneg _ (by decide)]; rfl
theorem sD {n : Nat} (h : n < 128) : jB (n : Int) = n := by
  simp [jB, IntKind.wrap, IntKind.signed, IntKind.bits]; omega
theorem AM (K : Nat) : ∀ (m n k : Nat) (l : List Int), n < 128 ^ (m + 1) → m < k → l.length + m + 1 ≤ 1000000 →
    (di K k n l).bind (fun x1 => if (x1.1.length + [jB x1.2].length) * 1 ≤ 140737488355328 then some (x1.1 ++ [jB x1.2]) else none) = some (l ++ lE m n)
  | m, n, 0, l, h1, h2, h3 => by omega
  | 0, n, k + 1, l, h1, h2, h3 => by
    rw [di, if_neg (by omega)]
    simp only [Option.bind_some, List.length_singleton]
    rw [if_pos (by omega), sD (by omega), lE]
  | m + 1, n, k + 1, l, h1, h2, h3 => by
    rw [di, lE]
    by_cases h : 128 ≤ n
    · rw [if_pos (by omega), if_pos h, if_pos (by simp; omega), Bl, Ck]
      rw [AM K m (n / 128) k _ (by rw [Nat.pow_succ] at h1; exact Nat.div_lt_of_lt_mul (by omega)) (by omega) (by simp; omega)]
      simp
    · rw [if_neg (by omega), if_neg h]
      simp only [Option.bind_some, List.length_singleton]
      rw [if_pos (by omega), sD (by omega)]
theorem xq (K : Nat) : ∀ (k : Nat) (n : Int) (l : List Int), gj K k n l = di K k n l
  | 0, _, _ => rfl
  | k + 1, n, l => by rw [gj, di, xq K k]
theorem ra (K : Nat) : ∀ (k n : Nat) (l : List Int), n < 18446744073709551616 → gC K k n l = di K k n l
  | 0, _, _, _ => rfl
  | k + 1, n, l, h => by
    rw [gC, di]
    have e1 : jB (dW (Int.tmod n 128 + 128)) = pf .u8 (jB n) 128 := by
      rw [Bl, Int.tmod_eq_emod_of_nonneg (by omega), kl (by omega)]
      simp [jB, IntKind.wrap, IntKind.signed, IntKind.bits]; omega
    have e2 : dW (Int.tdiv n 128) = ((n / 128 : Nat) : Int) := by
      rw [Int.tdiv_eq_ediv_of_nonneg (by omega), kl (by omega)]; rfl
    rw [e1, e2, Ck, ra K k (n / 128) _ (by omega)]
    by_cases hn : 128 ≤ n
    · rw [if_pos (show (127 : Int) < n by omega), if_pos (show (128 : Int) ≤ n by omega)]
    · rw [if_neg (show ¬ (127 : Int) < n by omega), if_neg (show ¬ (128 : Int) ≤ n by omega)]
theorem Cz : (18446744073709551616 : Nat) ≤ 128 ^ 10 := by decide
theorem ze (n : Nat) (l : List Int) (h : n < 18446744073709551616) (hl : l.length ≤ 900000) : cT 200000 l n = some (l ++ lE 9 n) :=
  AM 200000 9 n 200000 l (Nat.lt_of_lt_of_le h Cz) (by omega) (by omega)
theorem BZ (n : Nat) (h : n < 18446744073709551616) : dA 200000 n = some (lE 9 n) := by
  have := AM 200000 9 n 200000 [] (Nat.lt_of_lt_of_le h Cz) (by omega) (by simp)
  unfold dA
  rw [xq]
  simpa using this
theorem nA (n : Nat) (h : n < 18446744073709551616) : bZ 200000 n = some (lE 9 n) := by
  have := AM 200000 9 n 200000 [] (Nat.lt_of_lt_of_le h Cz) (by omega) (by simp)
  unfold bZ
  rw [ra 200000 200000 n [] h]
  simpa using this
theorem nQ (a : Int) : ∃ n : Nat, dW a = n ∧ n < 18446744073709551616 := by
  have := AG a
  exact ⟨(dW a).toNat, by omega, by omega⟩
theorem Ci (a b : Nat) (ha : a < 18446744073709551616) (hb : b < 18446744073709551616) : lX .u64 a b = ((a ^^^ b : Nat) : Int) := by
  have h := Nat.xor_lt_two_pow (n := 64) ha hb
  have e : BitVec.ofInt 64 (a : Int) = BitVec.ofNat 64 a := by simp
  have e' : BitVec.ofInt 64 (b : Int) = BitVec.ofNat 64 b := by simp
  show dW ((BitVec.ofInt 64 (a : Int) ^^^ BitVec.ofInt 64 (b : Int)).toNat : Int) = _
  rw [e, e', BitVec.toNat_xor, BitVec.toNat_ofNat, BitVec.toNat_ofNat, Nat.mod_eq_of_lt ha, Nat.mod_eq_of_lt hb, kl (by omega)]
theorem zL (a : Nat) (ha : a < 18446744073709551616) : a ^^^ 18446744073709551615 = 18446744073709551615 - a := by
  have h1 : (BitVec.ofNat 64 a ^^^ BitVec.allOnes 64).toNat = (~~~ BitVec.ofNat 64 a).toNat := by rw [BitVec.xor_allOnes]
  rw [BitVec.toNat_xor, BitVec.toNat_not, BitVec.toNat_ofNat, Nat.mod_eq_of_lt ha] at h1
  simpa using h1
def xJ (a : Int) : Nat := if 0 ≤ a then (2 * a).toNat else (-2 * a - 1).toNat
theorem vR {a : Int} (h : nU .i64 a) : xJ a < 18446744073709551616 := by
  have := yv h; unfold xJ; split <;> omega
theorem BM {a : Int} (h : nU .i64 a) : lX .u64 (dW (yG .i64 a 1)) (dW (lh .i64 a 63)) = xJ a := by
  have h' := yv h
  have e1 : yG .i64 a 1 = ba (a * 2) := by
    show ba (a * 2 ^ min (1 : Int).toNat 64) = _
    rfl
  rw [e1, B5 h']
  obtain ⟨n, hn, hlt⟩ := nQ (ba (a * 2))
  rw [hn]
  have hv : (n : Int) = (2 * a) % 18446744073709551616 := by
    rw [← hn, ne, xA]; split <;> omega
  unfold xJ
  by_cases ha : a < 0
  · rw [if_pos ha, if_neg (by omega), show dW (-1) = ((18446744073709551615 : Nat) : Int) by decide, Ci n _ hlt (by decide), zL n hlt]
    omega
  · rw [if_neg ha, if_pos (by omega), show dW 0 = ((0 : Nat) : Int) by decide, Ci n 0 hlt (by decide), Nat.xor_zero]
    omega
theorem Aw {a : Int} (h : nU .i64 a) : (if 0 ≤ a then dW (2 * dW a) else dW (dW (2 * dW (ba (0 - ba (a + 1)))) + 1)) = xJ a := by
  have h' := yv h
  unfold xJ
  split
  · rw [kl (by omega) (n := a), kl (by omega)]; omega
  · rw [bM (by omega) (n := a + 1), bM (by omega), kl (by omega) (n := 0 - (a + 1)), kl (by omega) (n := 2 * (0 - (a + 1))), kl (by omega)]; omega
theorem Cy {a : Int} (h : nU .i64 a) (l : List Int) (hl : l.length ≤ 900000) : hO 200000 l a = some (l ++ lE 9 (xJ a)) := by
  unfold hO
  rw [BM h, ze _ l (vR h) hl]; rfl
theorem BU {a : Int} (h : nU .i64 a) : iK 200000 a = some (lE 9 (xJ a)) := by
  have e := Aw h
  unfold iK
  split
  · rename_i h0; rw [if_pos h0] at e; rw [e, nA _ (vR h)]; rfl
  · rename_i h0; rw [if_neg h0] at e; rw [e, nA _ (vR h)]; rfl
theorem zl (s : List UInt8) : (mn s).length = s.length := by simp [mn]
theorem Ce (s : List UInt8) (l : List Int) (hs : s.length ≤ 40) (hl : l.length ≤ 800000) : gQ 200000 l s = some (l ++ (lE 9 s.length ++ mn s)) := by
  unfold gQ
  rw [kl (by omega), ze _ l (by omega) (by omega)]
  have := jV 9 s.length
  simp only [Option.bind_some]
  rw [if_pos (by simp; omega)]
  simp
theorem Az (s : List UInt8) (hs : s.length ≤ 40) : iq 200000 s = some (lE 9 s.length ++ mn s) := by
  unfold iq
  rw [kl (by omega), nA _ (by omega)]
  have := jV 9 s.length
  simp only [Option.bind_some]
  rw [if_pos (by omega)]
def xk (s : List UInt8) : List Int := lE 9 s.length ++ mn s
def lJ (d : Nat) (f : aB) : List Int := lE 9 (dW f.Key.Hour).toNat ++ ((kj f).take d).flatMap xk ++ lE 9 (xJ f.Value)
theorem tG {s : List UInt8} (h : s.length ≤ 40) : (xk s).length ≤ 50 := by
  have := jV 9 s.length
  simp [xk, zl]; omega
theorem nv {f : aB} (h : ot f) : ∀ s ∈ kj f, s.length ≤ 40 := by
  intro s hs
  simp [kj] at hs
  obtain ⟨h0, h1, h2, h3⟩ := h
  rcases hs with rfl | rfl | rfl | rfl <;> assumption
theorem tY {L : List (List UInt8)} (h : ∀ s ∈ L, s.length ≤ 40) : (L.flatMap xk).length ≤ L.length * 50 := by
  induction L with
  | nil => simp
  | cons s L ih =>
    have h1 := tG (h s (by simp))
    have h2 := ih (fun t ht => h t (by simp [ht]))
    simp only [List.flatMap_cons, List.length_append, List.length_cons]
    omega
theorem rF {f : aB} (h : ot f) (d : Nat) : (lJ d f).length ≤ 220 := by
  have h1 := jV 9 (dW f.Key.Hour).toNat
  have h2 := jV 9 (xJ f.Value)
  have h3 := tY (L := (kj f).take d) (fun s hs => nv h s (List.mem_of_mem_take hs))
  have h4 : ((kj f).take d).length ≤ 4 := by simp [kj]; omega
  simp only [lJ, List.length_append]
  omega
theorem Ca (l0 : List aB) (d : Nat) (hd : d ≤ 4) (i : Nat) (hs : ot (l0.getD i ab)) : ∀ (k j : Nat) (l : List Int), j ≤ d → d < j + k → l.length + (d - j) * 50 ≤ 700000 →
    gX 200000 l0 d i k j l = some (l ++ (((kj (l0.getD i ab)).take d).drop j).flatMap xk)
  | 0, j, l, h1, h2, h3 => by omega
  | k + 1, j, l, h1, h2, h3 => by
    rw [gX]
    have el : ([((l0.getD (i : Int).toNat ab).Key).Dims_0, ((l0.getD (i : Int).toNat ab).Key).Dims_1, ((l0.getD (i : Int).toNat ab).Key).Dims_2, ((l0.getD (i : Int).toNat ab).Key).Dims_3] : List (List UInt8)) = kj (l0.getD i ab) := rfl
    rw [el, Int.toNat_natCast, Int.toNat_natCast]
    have hlen : ((kj (l0.getD i ab)).take d).length = d := by simp [kj]; omega
    rw [hlen]
    by_cases h : j < d
    · have hj : j < ((kj (l0.getD i ab)).take d).length := by omega
      have hm : ((kj (l0.getD i ab)).take d)[j] ∈ kj (l0.getD i ab) := List.mem_of_mem_take (List.getElem_mem hj)
      have hsh := nv hs _ hm
      have hg : ((kj (l0.getD i ab)).take d).getD j [] = ((kj (l0.getD i ab)).take d)[j] := fZ _ _ hj _
      rw [if_pos (by omega), if_pos (by omega), hg, Ce _ l hsh (by omega), rh (by omega)]
      have ht := tG hsh
      simp only [Option.bind_some]
      have := Ca l0 d hd i hs k (j + 1) (l ++ xk ((kj (l0.getD i ab)).take d)[j]) (by omega) (by omega) (by simp only [List.length_append]; omega)
      rw [show l ++ (lE 9 ((kj (l0.getD i ab)).take d)[j].length ++ mn ((kj (l0.getD i ab)).take d)[j]) = l ++ xk ((kj (l0.getD i ab)).take d)[j] from rfl, this]
      rw [List.drop_eq_getElem_cons hj]
      simp
    · rw [if_neg (by omega), List.drop_of_length_le (by omega)]
      simp
theorem Bg (l0 : List aB) (d : Nat) (hd : d ≤ 4) (i : Nat) (hs : ot (l0.getD i ab)) : ∀ (k j : Nat) (l : List Int), j ≤ d → d < j + k → l.length + (d - j) * 50 ≤ 700000 →
    dR 200000 l0 d i k j l = some (l ++ (((kj (l0.getD i ab)).take d).drop j).flatMap xk)
  | 0, j, l, h1, h2, h3 => by omega
  | k + 1, j, l, h1, h2, h3 => by
    rw [dR]
    have el : ([((l0.getD (i : Int).toNat ab).Key).Dims_0, ((l0.getD (i : Int).toNat ab).Key).Dims_1, ((l0.getD (i : Int).toNat ab).Key).Dims_2, ((l0.getD (i : Int).toNat ab).Key).Dims_3] : List (List UInt8)) = kj (l0.getD i ab) := rfl
    rw [el, Int.toNat_natCast]
    have hlen : ((kj (l0.getD i ab)).take d).length = d := by simp [kj]; omega
    have hlen4 : (kj (l0.getD i ab)).length = 4 := rfl
    by_cases h : j < d
    · have hj : j < ((kj (l0.getD i ab)).take d).length := by omega
      have hj4 : j < (kj (l0.getD i ab)).length := by omega
      have hsh := nv hs _ (List.getElem_mem hj4)
      have hg : (kj (l0.getD i ab)).getD j [] = (kj (l0.getD i ab))[j] := fZ _ _ hj4 _
      have ht := tG hsh
      rw [if_pos (by omega), if_pos (by omega), if_pos (by omega), hg, Az _ hsh, rh (by omega)]
      simp only [Option.bind_some]
      rw [show lE 9 (kj (l0.getD i ab))[j].length ++ mn (kj (l0.getD i ab))[j] = xk (kj (l0.getD i ab))[j] from rfl, if_pos (by omega)]
      rw [Bg l0 d hd i hs k (j + 1) (l ++ xk (kj (l0.getD i ab))[j]) (by omega) (by omega) (by simp only [List.length_append]; omega)]
      rw [List.drop_eq_getElem_cons hj]
      simp
    · rw [if_neg (by omega), List.drop_of_length_le (by omega)]
      simp
theorem pw (l : List Int) (h : l.length ≤ 900000) : iN l = some l := by
  unfold iN
  by_cases h0 : 0 < l.length
  · rw [if_pos h0, if_pos (by simp; omega)]; simp
  · have : l = [] := List.eq_nil_of_length_eq_zero (by omega)
    subst this; rfl
theorem Cg (l0 : List aB) (hs : ∀ f ∈ l0, ot f) (hok : ∀ f ∈ l0, lC f) (hl : l0.length ≤ 100) (d : Nat) (hd : d ≤ 4) : ∀ (k i : Nat) (l : List Int), i ≤ l0.length → l0.length < i + k → l.length + (l0.length - i) * 220 ≤ 600000 →
    gx 200000 l0 d k i l = some (0, l ++ (l0.drop i).flatMap (lJ d)) ∧ du 200000 l0 d k i l = some (0, l ++ (l0.drop i).flatMap (lJ d))
  | 0, i, l, h1, h2, h3 => by omega
  | k + 1, i, l, h1, h2, h3 => by
    rw [gx, du]
    by_cases h : i < l0.length
    · have hg : l0.getD i ab = l0[i] := fZ _ _ h _
      have hsh : ot (l0.getD i ab) := by rw [hg]; exact hs _ (List.getElem_mem h)
      have hf : lC (l0.getD i ab) := by rw [hg]; exact hok _ (List.getElem_mem h)
      obtain ⟨n, hn, hlt⟩ := nQ (l0.getD i ab).Key.Hour
      have hnl := jV 9 n
      have hd1 := tY (L := (kj (l0.getD i ab)).take d) (fun s hs' => nv hsh s (List.mem_of_mem_take hs'))
      have hd2 : ((kj (l0.getD i ab)).take d).length ≤ 4 := by simp [kj]; omega
      have hz := jV 9 (xJ (l0.getD i ab).Value)
      have e1 := Ca l0 d hd i hsh 200000 0 (l ++ lE 9 n) (by omega) (by omega) (by simp only [List.length_append]; omega)
      have e2 := Bg l0 d hd i hsh 200000 0 (l ++ lE 9 n) (by omega) (by omega) (by simp only [List.length_append]; omega)
      simp only [List.drop_zero] at e1 e2
      have e1' : gX 200000 l0 d i 200000 0 (l ++ lE 9 n) = some (l ++ lE 9 n ++ ((kj (l0.getD i ab)).take d).flatMap xk) := e1
      have e2' : dR 200000 l0 d i 200000 0 (l ++ lE 9 n) = some (l ++ lE 9 n ++ ((kj (l0.getD i ab)).take d).flatMap xk) := e2
      have hb : lJ d (l0.getD i ab) = lE 9 n ++ ((kj (l0.getD i ab)).take d).flatMap xk ++ lE 9 (xJ (l0.getD i ab).Value) := by
        unfold lJ; rw [hn, Int.toNat_natCast]
      have hbl := rF hsh d
      obtain ⟨r1, r2⟩ := Cg l0 hs hok hl d hd k (i + 1) (l ++ lJ d (l0.getD i ab)) (by omega) (by omega) (by simp only [List.length_append]; omega)
      have hdrop : (l0.drop i).flatMap (lJ d) = lJ d (l0.getD i ab) ++ (l0.drop (i + 1)).flatMap (lJ d) := by
        rw [hg, List.drop_eq_getElem_cons h, List.flatMap_cons]
      rw [if_pos (by omega), if_pos (by omega), if_pos (by omega), if_pos (by omega), Int.toNat_natCast, hn, ze n l hlt (by omega), nA n hlt, rh (by omega)]
      simp only [Option.bind_some]
      rw [if_pos (by omega), if_pos (by omega), e1', if_pos (by omega), e2']
      simp only [Option.bind_some]
      rw [Cy hf.2 _ (by simp only [List.length_append]; omega), BU hf.2]
      simp only [Option.bind_some]
      rw [if_pos (by simp only [List.length_append]; omega)]
      simp only [Option.bind_some]
      have ea : l ++ lE 9 n ++ ((kj (l0.getD i ab)).take d).flatMap xk ++ lE 9 (xJ (l0.getD i ab).Value) = l ++ lJ d (l0.getD i ab) := by rw [hb]; simp
      rw [ea, r1, r2, hdrop]
      simp
    · rw [if_neg (by omega), if_neg (by omega), List.drop_of_length_le (by omega)]
      unfold dt
      rw [pw l (by omega)]
      simp
end Go.Proofs.YtmgpegiekankmaaGreat.MemPlays
end
section
set_option linter.unusedVariables false
set_option linter.unusedSimpArgs false
set_option maxRecDepth 20000
namespace Go.Proofs.YtmgpegiekankmaaGreat.MemPlays
open Go E
theorem qX (l : List aB) {i : Nat} (h : i < l.length) : l.getD i ab = l[i] := by rw [List.getD_eq_getElem?_getD, List.getElem?_eq_getElem h]; rfl
theorem hl0 (l : List aB) (hl : l.length ≤ 5000) : ∀ (f i : Nat) (a : List Int), i ≤ l.length → l.length - i < f → a.length + (l.length - i) ≤ 9000 → ja 200000 l f i a = some (a ++ (l.drop i).map (·.Key.Hour))
  | 0, i, a, h0, h1, h2 => by omega
  | f + 1, i, a, h0, h1, h2 => by
    rw [ja]
    by_cases h : i < l.length
    · have hn : ba ((i : Int) + 1) = ((i + 1 : Nat) : Int) := by rw [bM (by omega)]; omega
      rw [if_pos (by omega), if_pos (by omega), if_pos (by simp; omega), hn, Int.toNat_natCast, qX l h, hl0 l hl f (i + 1) _ (by omega) (by omega) (by simp; omega), List.drop_eq_getElem_cons h, List.map_cons, List.append_assoc]
      rfl
    · rw [if_neg (by omega), List.drop_eq_nil_of_le (by omega)]; simp
theorem uP : ∀ {l m : List Int}, (∀ x, x ∈ l ↔ x ∈ m) → l.Pairwise (· < ·) → m.Pairwise (· < ·) → l = m
  | [], [], _, _, _ => rfl
  | [], y :: m, h, _, _ => by have := (h y).2 (by simp); cases this
  | x :: l, [], h, _, _ => by have := (h x).1 (by simp); cases this
  | x :: l, y :: m, h, hl, hm => by
    obtain ⟨l1, l2⟩ := List.pairwise_cons.1 hl
    obtain ⟨m1, m2⟩ := List.pairwise_cons.1 hm
    have e : x = y := by
      rcases List.mem_cons.1 ((h x).1 (by simp)) with q | q
      · exact q
      · rcases List.mem_cons.1 ((h y).2 (by simp)) with q' | q'
        · exact q'.symm
        · have := m1 x q; have := l1 y q'; omega
    subst e
    have ht : ∀ z, z ∈ l ↔ z ∈ m := by
      intro z
      constructor
      · intro hz
        have hlt := l1 z hz
        rcases List.mem_cons.1 ((h z).1 (List.mem_cons_of_mem _ hz)) with q | q
        · omega
        · exact q
      · intro hz
        have hlt := m1 z hz
        rcases List.mem_cons.1 ((h z).2 (List.mem_cons_of_mem _ hz)) with q | q
        · omega
        · exact q
    rw [uP ht l2 m2]
theorem mm (l : List Int) {j : Nat} (h : j < l.length) : l.toArray[j]! = l[j] := by
  rw [getElem!_pos l.toArray j (by simpa using h)]; simp
theorem tS (l : List Int) (hs : l.Pairwise (· ≤ ·)) : (fU l).Pairwise (· < ·) := by
  unfold fU
  rw [List.pairwise_map]
  have hr : ((List.range l.length).filter (fun j => decide (j = 0 ∨ l.toArray[j]! ≠ l.toArray[j - 1]!))).Pairwise (· < ·) := List.Pairwise.filter _ List.pairwise_lt_range
  refine hr.imp_of_mem ?_
  intro i j hi hj hij
  simp only [List.mem_filter, List.mem_range, decide_eq_true_eq] at hi hj
  obtain ⟨hi1, _⟩ := hi
  obtain ⟨hj1, hj2⟩ := hj
  have hle : ∀ a b : Nat, (hab : a ≤ b) → (h : b < l.length) → l[a]'(by omega) ≤ l[b] := by
    intro a b hab h
    rcases Nat.lt_or_ge a b with q | q
    · exact List.pairwise_iff_getElem.1 hs a b (by omega) h q
    · have : a = b := by omega
      subst this; exact Int.le_refl _
  have h1 := hle i (j - 1) (by omega) (by omega)
  have h2 := hle (j - 1) j (by omega) hj1
  have hne := hj2.resolve_left (by omega)
  rw [mm l hj1, mm l (show j - 1 < l.length by omega)] at hne
  rw [mm l hi1, mm l hj1]
  omega
theorem uB (l : List Int) (x : Int) : x ∈ fU l ↔ x ∈ l := by
  unfold fU
  simp only [List.mem_map, List.mem_filter, List.mem_range, decide_eq_true_eq]
  constructor
  · rintro ⟨j, ⟨h1, _⟩, rfl⟩
    rw [mm l h1]; exact List.getElem_mem h1
  · intro hx
    obtain ⟨j, hj, rfl⟩ := List.mem_iff_getElem.1 hx
    have key : ∀ (n i : Nat), i = n → (h : i < l.length) → l[i] = l[j] → ∃ k, (k < l.length ∧ (k = 0 ∨ l.toArray[k]! ≠ l.toArray[k - 1]!)) ∧ l.toArray[k]! = l[j] := by
      intro n
      induction n with
      | zero =>
        intro i hi h he
        subst hi
        exact ⟨0, ⟨h, .inl rfl⟩, by rw [mm l h]; exact he⟩
      | succ n ih =>
        intro i hi h he
        subst hi
        by_cases q : l[n + 1] = l[n]'(by omega)
        · exact ih n rfl (by omega) (q.symm.trans he)
        · refine ⟨n + 1, ⟨h, .inr ?_⟩, by rw [mm l h]; exact he⟩
          rw [mm l h, Nat.add_sub_cancel, mm l (show n < l.length by omega)]
          exact q
    exact key j j rfl hj rfl
def mJ (h : Int) : List Int → List Int
  | [] => [h]
  | x :: t => if x < h then x :: mJ h t else if x = h then x :: t else h :: x :: t
def nx (h : Int) : List Int → Nat
  | [] => 0
  | x :: t => if x < h then nx h t + 1 else 0
theorem xm (h : Int) : ∀ l : List Int, nx h l ≤ l.length
  | [] => Nat.le_refl _
  | x :: t => by
    simp only [nx]
    split
    · have := xm h t; simp; omega
    · simp
theorem xx {h x : Int} (t : List Int) (q : x < h) : nx h (x :: t) = nx h t + 1 := by simp only [nx]; rw [if_pos q]
theorem xn {h x : Int} (t : List Int) (q : ¬ x < h) : nx h (x :: t) = 0 := by simp only [nx]; rw [if_neg q]
theorem Af (h : Int) : ∀ l : List Int, nx h l < l.length → l.getD (nx h l) 0 = h → mJ h l = l
  | [], h1, _ => by simp at h1
  | x :: t, h1, h2 => by
    simp only [mJ]
    by_cases q : x < h
    · rw [xx t q] at h1 h2
      rw [if_pos q, Af h t (by simpa using h1) (by simpa using h2)]
    · rw [xn t q] at h2
      rw [if_neg q, if_pos (by simpa using h2)]
theorem Ai (h : Int) : ∀ l : List Int, ¬ (nx h l < l.length ∧ l.getD (nx h l) 0 = h) → mJ h l = l.take (nx h l) ++ [h] ++ l.drop (nx h l)
  | [], _ => by simp [mJ, nx]
  | x :: t, hn => by
    simp only [mJ]
    by_cases q : x < h
    · rw [xx t q] at hn ⊢
      rw [if_pos q, Ai h t (fun z => hn ⟨by simpa using z.1, by simpa using z.2⟩)]
      simp
    · rw [xn t q] at hn ⊢
      have hx : ¬ x = h := fun e => hn ⟨by simp, by simpa using e⟩
      rw [if_neg q, if_neg hx]
      simp
theorem qW (h x : Int) : ∀ l : List Int, x ∈ mJ h l ↔ x = h ∨ x ∈ l
  | [] => by simp [mJ]
  | y :: t => by
    simp only [mJ]
    by_cases q : y < h
    · rw [if_pos q]
      simp only [List.mem_cons, qW h x t]
      constructor
      · rintro (a | a | a)
        · exact .inr (.inl a)
        · exact .inl a
        · exact .inr (.inr a)
      · rintro (a | a | a)
        · exact .inr (.inl a)
        · exact .inl a
        · exact .inr (.inr a)
    · rw [if_neg q]
      by_cases c : y = h
      · rw [if_pos c]
        constructor
        · intro a; exact .inr a
        · rintro (a | a)
          · rw [a, ← c]; simp
          · exact a
      · rw [if_neg c]; simp
theorem sm (h : Int) : ∀ l : List Int, l.Pairwise (· < ·) → (mJ h l).Pairwise (· < ·)
  | [], _ => by simp [mJ]
  | y :: t, hs => by
    obtain ⟨h1, h2⟩ := List.pairwise_cons.1 hs
    simp only [mJ]
    by_cases q : y < h
    · rw [if_pos q]
      refine List.pairwise_cons.2 ⟨fun z hz => ?_, sm h t h2⟩
      rcases (qW h z t).1 hz with a | a
      · omega
      · exact h1 z a
    · rw [if_neg q]
      by_cases c : y = h
      · rw [if_pos c]; exact hs
      · rw [if_neg c]
        refine List.pairwise_cons.2 ⟨fun z hz => ?_, hs⟩
        rcases List.mem_cons.1 hz with a | a
        · omega
        · have := h1 z a; omega
theorem vd (h : Int) : ∀ l : List Int, (mJ h l).length ≤ l.length + 1
  | [] => by simp [mJ]
  | y :: t => by
    simp only [mJ]
    have := vd h t
    split
    · simp; omega
    · split <;> simp
theorem CL (l : List aB) (i : Nat) (out : List Int) (hi : i < l.length) (ho : out.length ≤ 9000) : ∀ (f j : Nat), j ≤ out.length → out.length - j < f → fe 200000 l i out f j = some ((j + nx (l[i]).Key.Hour (out.drop j) : Nat) : Int)
  | 0, j, h0, h1 => by omega
  | f + 1, j, h0, h1 => by
    rw [fe]
    simp only [Int.toNat_natCast, qX l hi]
    by_cases h : j < out.length
    · have hn : ba ((j : Int) + 1) = ((j + 1 : Nat) : Int) := by rw [bM (by omega)]; omega
      have hg : out.getD j 0 = out[j] := by rw [List.getD_eq_getElem?_getD, List.getElem?_eq_getElem h]; rfl
      rw [if_pos (by omega), if_pos (by omega), hg, hn, List.drop_eq_getElem_cons h]
      simp only [nx]
      by_cases q : out[j] < (l[i]).Key.Hour
      · rw [if_pos q, if_pos q, CL l i out hi ho f (j + 1) (by omega) (by omega)]
        congr 2
        omega
      · rw [if_neg q, if_neg q]; simp
    · rw [if_neg (by omega), List.drop_eq_nil_of_le (by omega)]
      simp [nx]
theorem CI (l : List aB) (hl : l.length ≤ 5000) : ∀ (f i : Nat) (out : List Int), i ≤ l.length → l.length - i < f → out.length + (l.length - i) ≤ 9000 → fh 200000 l f i out = some (((l.drop i).map (·.Key.Hour)).foldl (fun a h => mJ h a) out)
  | 0, i, out, h0, h1, h2 => by omega
  | f + 1, i, out, h0, h1, h2 => by
    rw [fh]
    by_cases h : i < l.length
    · have hn : ba ((i : Int) + 1) = ((i + 1 : Nat) : Int) := by rw [bM (by omega)]; omega
      have hlen := vd (l[i]).Key.Hour out
      have ih := CI l hl f (i + 1) (mJ (l[i]).Key.Hour out) (by omega) (by omega) (by omega)
      have hx := CL l i out h (by omega) 200000 0 (by omega) (by omega)
      have e0 : ((0 : Nat) : Int) = 0 := rfl
      rw [e0, List.drop_zero, Nat.zero_add] at hx
      have hle := xm (l[i]).Key.Hour out
      have hia := Af (l[i]).Key.Hour out
      have hib := Ai (l[i]).Key.Hour out
      generalize hc : nx (l[i]).Key.Hour out = c at hx hle hia hib
      have hs : (Option.bind (some ((c : Nat) : Int)) fun x36 => (if x36 = (out.length : Int) then (if 0 ≤ x36 then (if x36 ≤ (out.length : Int) then (if (([] : List Int).length + (out.take x36.toNat).length) * 8 ≤ 140737488355328 then (if ((([] : List Int) ++ (out.take x36.toNat)).length + [(l[i]).Key.Hour].length) * 8 ≤ 140737488355328 then (if (((([] : List Int) ++ (out.take x36.toNat)) ++ [(l[i]).Key.Hour]).length + (out.drop x36.toNat).length) * 8 ≤ 140737488355328 then (some ((((([] : List Int) ++ (out.take x36.toNat)) ++ [(l[i]).Key.Hour]) ++ (out.drop x36.toNat)))) else none) else none) else none) else none) else none) else (if 0 ≤ x36 then (if x36 < (out.length : Int) then (if ¬ ((out.getD x36.toNat 0) = ((l[i]).Key.Hour)) then (if x36 ≤ (out.length : Int) then (if (([] : List Int).length + (out.take x36.toNat).length) * 8 ≤ 140737488355328 then (if ((([] : List Int) ++ (out.take x36.toNat)).length + [(l[i]).Key.Hour].length) * 8 ≤ 140737488355328 then (if (((([] : List Int) ++ (out.take x36.toNat)) ++ [(l[i]).Key.Hour]).length + (out.drop x36.toNat).length) * 8 ≤ 140737488355328 then (some ((((([] : List Int) ++ (out.take x36.toNat)) ++ [(l[i]).Key.Hour]) ++ (out.drop x36.toNat)))) else none) else none) else none) else none) else (some (out))) else none) else none))) = some (mJ (l[i]).Key.Hour out) := by
        simp only [Option.bind_some, Int.toNat_natCast]
        by_cases q : c = out.length
        · rw [hib (fun z => by omega), if_pos (show (c : Int) = (out.length : Int) by omega), if_pos (by omega), if_pos (by omega), if_pos (by simp; omega), if_pos (by simp; omega), if_pos (by simp; omega)]
          simp
        · rw [if_neg (show ¬ (c : Int) = (out.length : Int) by omega), if_pos (by omega), if_pos (by omega)]
          by_cases q2 : out.getD c 0 = (l[i]).Key.Hour
          · rw [if_neg (fun z => z q2), hia (by omega) q2]
          · rw [if_pos q2, hib (fun z => q2 z.2), if_pos (by omega), if_pos (by simp; omega), if_pos (by simp; omega), if_pos (by simp; omega)]
            simp
      rw [if_pos (by omega), if_pos (by omega), hx]
      simp only [Int.toNat_natCast, qX l h, hn]
      rw [hs]
      simp only [Option.bind_some]
      rw [ih, List.drop_eq_getElem_cons h]
      rfl
    · rw [if_neg (by omega), List.drop_eq_nil_of_le (by omega)]; rfl
theorem uM (x : Int) : ∀ (m out : List Int), x ∈ m.foldl (fun a h => mJ h a) out ↔ x ∈ m ∨ x ∈ out
  | [], out => by simp
  | y :: m, out => by
    simp only [List.foldl_cons, uM x m, qW, List.mem_cons]
    constructor
    · rintro (a | a | a)
      · exact .inl (.inr a)
      · exact .inl (.inl a)
      · exact .inr a
    · rintro ((a | a) | a)
      · exact .inr (.inl a)
      · exact .inl a
      · exact .inr (.inr a)
theorem sy : ∀ (m out : List Int), out.Pairwise (· < ·) → (m.foldl (fun a h => mJ h a) out).Pairwise (· < ·)
  | [], out, h => h
  | y :: m, out, h => sy m (mJ y out) (sm y out h)
theorem Cc (l : List aB) (hl : l.length ≤ 5000) : ∃ x, ko 200000 l = some x ∧ ge 200000 l = some x ∧ x.length ≤ 5000 := by
  have h1 := hl0 l hl 200000 0 [] (by omega) (by omega) (by simp; omega)
  have h2 := CI l hl 200000 0 [] (by omega) (by omega) (by simp; omega)
  have e0 : ((0 : Nat) : Int) = 0 := rfl
  rw [e0, List.drop_zero] at h1 h2
  rw [List.nil_append] at h1
  have hsl := pJ (l.map (·.Key.Hour))
  have hcl : (fU (ku (l.map (·.Key.Hour)))).length ≤ 5000 := by
    have : (fU (ku (l.map (·.Key.Hour)))).length ≤ (ku (l.map (·.Key.Hour))).length := by
      unfold fU
      rw [List.length_map]
      exact Nat.le_trans (List.length_filter_le _ _) (by simp)
    rw [hsl] at this
    simp at this; omega
  have heq : fU (ku (l.map (·.Key.Hour))) = (l.map (·.Key.Hour)).foldl (fun a h => mJ h a) [] := by
    refine uP (fun x => ?_) (tS _ (ny _)) (sy _ _ List.Pairwise.nil)
    rw [uB, uM, (nn _).mem_iff]
    simp
  refine ⟨fU (ku (l.map (·.Key.Hour))), ?_, ?_, hcl⟩
  · unfold ko eu dN
    rw [h1]
    simp only [Option.bind_some]
    rw [if_pos (by simp; omega)]
    simp only [Option.bind_some]
    rw [if_pos (by rw [hsl]; simp; omega)]
    rfl
  · unfold ge
    rw [h2, heq]
theorem Bv (l : List Int) (hl : l.length ≤ 9000) : ∀ (f i : Nat), i ≤ l.length → l.length - i < f → ff 200000 l l f i = some true
  | 0, i, h0, h1 => by omega
  | f + 1, i, h0, h1 => by
    rw [ff]
    by_cases h : i < l.length
    · have hn : ba ((i : Int) + 1) = ((i + 1 : Nat) : Int) := by rw [bM (by omega)]; omega
      rw [if_pos (by omega), if_pos (by omega), if_pos (by omega), if_neg (by simp), hn, Bv l hl f (i + 1) (by omega) (by omega)]
    · rw [if_neg (by omega)]
theorem zF (l : List Int) (hl : l.length ≤ 9000) : gc 200000 l l = some true := by
  unfold gc
  rw [if_neg (by simp)]
  exact Bv l hl 200000 0 (by omega) (by omega)
theorem Bs (l : List aB) (hl : l.length ≤ 9000) : ∀ (f i : Nat), i ≤ l.length → l.length - i < f → eW 200000 l l f i = some true
  | 0, i, h0, h1 => by omega
  | f + 1, i, h0, h1 => by
    rw [eW]
    by_cases h : i < l.length
    · have hn : ba ((i : Int) + 1) = ((i + 1 : Nat) : Int) := by rw [bM (by omega)]; omega
      rw [if_pos (by omega), if_pos (by omega), if_pos (by omega), if_neg (by simp), hn, Bs l hl f (i + 1) (by omega) (by omega)]
    · rw [if_neg (by omega)]
theorem uX (l : List aB) (hl : l.length ≤ 9000) : dU 200000 l l = some true := by
  unfold dU
  rw [if_neg (by simp)]
  exact Bs l hl 200000 0 (by omega) (by omega)
end Go.Proofs.YtmgpegiekankmaaGreat.MemPlays
end
section
set_option linter.unusedVariables false
set_option linter.unusedSimpArgs false
set_option maxRecDepth 20000
namespace Go.Proofs.YtmgpegiekankmaaGreat.MemPlays
open Go E
abbrev W : Nat := 200000
def BA (d : Int) (f : aB) : Prop := dY W f.Key.Hour f.Key.Dims_0 f.Key.Dims_1 f.Key.Dims_2 f.Key.Dims_3 f.Value d = some 0
theorem Cr (a1 a2 a3 a4 : List UInt8) (d : Int) : ∀ (k j : Nat), j ≤ 4 → cF W a1 a2 a3 a4 d k j = some 0 → ∀ q, j ≤ q → q < 4 → ([a1, a2, a3, a4].getD q []).length ≤ 40
  | 0, j, h1, h, q, hq, h4 => by cases h
  | k + 1, j, h1, h, q, hq, h4 => by
    rw [cF] at h
    by_cases hj : j < 4
    · rw [if_pos (by omega), if_pos (by omega), if_pos (by omega), Int.toNat_natCast] at h
      by_cases h16 : 16 < (([a1, a2, a3, a4].getD j []).length : Int)
      · rw [if_pos h16] at h; cases h
      · rw [if_neg h16, rh (by omega)] at h
        have hn : cF W a1 a2 a3 a4 d k ((j + 1 : Nat) : Int) = some 0 := by
          split at h
          · split at h
            · cases h
            · exact h
          · exact h
        by_cases e : q = j
        · subst e; omega
        · exact Cr a1 a2 a3 a4 d k (j + 1) (by omega) hn q (by omega) h4
    · omega
theorem tl {d : Int} {f : aB} (h : BA d f) : (1 ≤ d ∧ d ≤ 4) ∧ (0 ≤ f.Key.Hour ∧ f.Key.Hour ≤ 16777216) ∧ ot f ∧ lC f := by
  unfold BA dY at h
  split at h
  · cases h
  · split at h
    · cases h
    · split at h
      · cases h
      · split at h
        · cases h
        · split at h
          · cases h
          · split at h
            · cases h
            · have hq := Cr _ _ _ _ d W 0 (by omega) h
              have q0 := hq 0 (by omega) (by omega)
              have q1 := hq 1 (by omega) (by omega)
              have q2 := hq 2 (by omega) (by omega)
              have q3 := hq 3 (by omega) (by omega)
              simp only [List.getD_cons_zero, List.getD_cons_succ] at q0 q1 q2 q3
              refine ⟨by omega, by omega, ⟨q0, q1, q2, q3⟩, ⟨pr (by omega), by omega, by omega, by omega, by omega⟩, pr (by omega)⟩
theorem Ad (l : List aB) (hl : l.length ≤ 100) (d : Int) : ∀ (k i : Nat), i ≤ l.length → l.length < i + k → ∃ r, cX W l d k i = some r ∧ (r.1 = 0 ↔ ∀ f ∈ l.drop i, BA d f)
  | 0, i, h1, h2 => by omega
  | k + 1, i, h1, h2 => by
    rw [cX]
    by_cases h : i < l.length
    · obtain ⟨r, hr, hq⟩ := Ad l hl d k (i + 1) (by omega) (by omega)
      have hg : l.getD i ab = l[i] := fZ _ _ h _
      obtain ⟨_, x, hx⟩ := uZ l[i].Key.Hour l[i].Key.Dims_0 l[i].Key.Dims_1 l[i].Key.Dims_2 l[i].Key.Dims_3 l[i].Value d
      rw [if_pos (by omega), if_pos (by omega), Int.toNat_natCast, hg, hx, rh (by omega)]
      simp only [Option.bind_some]
      rw [List.drop_eq_getElem_cons h]
      by_cases h0 : x = 0
      · rw [if_neg (by simp [h0]), hr]
        refine ⟨r, rfl, hq.trans ⟨fun hh f hf => ?_, fun hh f hf => hh f (List.mem_cons_of_mem _ hf)⟩⟩
        rw [List.mem_cons] at hf
        rcases hf with rfl | hf
        · subst h0; exact hx
        · exact hh f hf
      · rw [if_pos h0]
        refine ⟨_, rfl, ⟨fun hh => absurd hh h0, fun hh => ?_⟩⟩
        have := hh l[i] List.mem_cons_self
        unfold BA at this
        rw [show dY W l[i].Key.Hour l[i].Key.Dims_0 l[i].Key.Dims_1 l[i].Key.Dims_2 l[i].Key.Dims_3 l[i].Value d = some x from hx] at this
        exact Option.some.inj this
    · rw [if_neg (by omega), List.drop_eq_nil_of_le (by omega)]
      exact ⟨_, rfl, by simp⟩
theorem vL (l : List aB) (hl : l.length ≤ 100) {d : Int} (hd : 1 ≤ d ∧ d ≤ 4) : ∃ r, cS W l d = some r ∧ (r.1 = 0 ↔ (1 ≤ l.length ∧ l.length ≤ 50 ∧ ∀ f ∈ l, BA d f)) := by
  unfold cS
  rw [if_neg (by omega), if_neg (by omega)]
  by_cases h1 : (l.length : Int) < 1
  · rw [if_pos h1]; exact ⟨_, rfl, by simp; omega⟩
  · rw [if_neg h1]
    by_cases h2 : 50 < (l.length : Int)
    · rw [if_pos h2]; exact ⟨_, rfl, by simp; omega⟩
    · rw [if_neg h2]
      obtain ⟨r, hr, hq⟩ := Ad l hl d W 0 (by omega) (by unfold W; omega)
      have e0 : ((0 : Nat) : Int) = 0 := rfl
      rw [e0] at hr
      rw [hr, List.drop_zero] at *
      exact ⟨r, rfl, hq.trans ⟨fun h => ⟨by omega, by omega, h⟩, fun h => h.2.2⟩⟩
def oK (d s t b : Int) (l : List aB) : Prop := (1 ≤ l.length ∧ l.length ≤ 50 ∧ ∀ f ∈ l, BA d f) ∧ (1 ≤ s ∧ s ≤ 4611686018427387904) ∧ (0 ≤ t ∧ t ≤ 1006633020) ∧ (0 ≤ b ∧ b ≤ 4611686018427387904)
theorem At (a b c : Int) : fF a b c = decide (b ≤ a ∧ a ≤ c) := by
  unfold fF
  by_cases h : b ≤ a <;> simp [h]
theorem uA (s t b : Int) (l : List aB) (hl : l.length ≤ 100) {d : Int} (hd : 1 ≤ d ∧ d ≤ 4) : ∃ q, eC W s t b l d = some q ∧ (q = true ↔ oK d s t b l) := by
  obtain ⟨r, hr, hq⟩ := vL l hl hd
  unfold eC
  rw [hr]
  simp only [Option.bind_some, fg, At]
  unfold oK
  rw [← hq]
  by_cases h0 : r.1 = 0
  · rw [if_pos h0]
    by_cases h1 : 1 ≤ s ∧ s ≤ 4611686018427387904
    · rw [decide_eq_true h1, if_pos rfl]
      by_cases h2 : 0 ≤ t ∧ t ≤ 1006633020
      · rw [decide_eq_true h2, if_pos rfl]
        exact ⟨_, rfl, by rw [decide_eq_true_iff]; exact ⟨fun h => ⟨h0, h1, h2, h⟩, fun h => h.2.2.2⟩⟩
      · rw [decide_eq_false h2, if_neg (by simp)]; exact ⟨_, rfl, ⟨fun h => absurd h (by decide), fun h => absurd h.2.2.1 h2⟩⟩
    · rw [decide_eq_false h1, if_neg (by simp)]; exact ⟨_, rfl, ⟨fun h => absurd h (by decide), fun h => absurd h.2.1 h1⟩⟩
  · rw [if_neg h0]; exact ⟨_, rfl, ⟨fun h => absurd h (by decide), fun h => absurd h.1 h0⟩⟩
theorem wI {s t b : Int} (hs : nU .i64 s) (ht : nU .i64 t) (hb : nU .i64 b) : jJ (dW s) (dW t) (dW b) = decide ((1 ≤ s ∧ s ≤ 4611686018427387904) ∧ (0 ≤ t ∧ t ≤ 1006633020) ∧ (0 ≤ b ∧ b ≤ 4611686018427387904)) := by
  have h1 := yv hs
  have h2 := yv ht
  have h3 := yv hb
  unfold jJ
  rw [ne, ne, ne, Bool.eq_iff_iff]
  by_cases q1 : 1 ≤ s % 18446744073709551616
  · rw [if_pos q1]
    by_cases q2 : s % 18446744073709551616 ≤ 4611686018427387904
    · rw [if_pos q2]
      by_cases q3 : t % 18446744073709551616 ≤ 1006633020
      · rw [if_pos q3]; simp only [decide_eq_true_iff]; omega
      · rw [if_neg q3]; simp only [decide_eq_true_iff, Bool.false_eq_true, false_iff]; omega
    · rw [if_neg q2]; simp only [decide_eq_true_iff, Bool.false_eq_true, false_iff]; omega
  · rw [if_neg q1]; simp only [decide_eq_true_iff, Bool.false_eq_true, false_iff]; omega
theorem ve {s t b : Int} (hs : nU .i64 s) (ht : nU .i64 t) (hb : nU .i64 b) (l : List aB) (hl : l.length ≤ 100) {d : Int} (hd : 1 ≤ d ∧ d ≤ 4) : ∃ q, jI W s t b l d = some q ∧ (q = true ↔ oK d s t b l) := by
  obtain ⟨r, hr, hq⟩ := vL l hl hd
  unfold jI
  rw [show iZ W l d = cS W l d from (Ae l hl d).1, hr]
  simp only [Option.bind_some, fg, wI hs ht hb]
  unfold oK
  rw [← hq]
  by_cases h0 : r.1 = 0
  · rw [if_pos h0]
    exact ⟨_, rfl, by rw [decide_eq_true_iff]; exact ⟨fun h => ⟨h0, h⟩, fun h => h.2⟩⟩
  · rw [if_neg h0]; exact ⟨_, rfl, ⟨fun h => absurd h (by decide), fun h => absurd h.1 h0⟩⟩
theorem yU {d s t b : Int} {l : List aB} (h : oK d s t b l) : nU .i64 s ∧ nU .i64 t ∧ nU .i64 b := by
  obtain ⟨_, h1, h2, h3⟩ := h
  exact ⟨pr (by omega), pr (by omega), pr (by omega)⟩
theorem AF {p q : Bool} {φ : Prop} (hp : p = true ↔ φ) (hq : q = true ↔ φ) : p = q := by
  cases p <;> cases q <;> simp_all
end Go.Proofs.YtmgpegiekankmaaGreat.MemPlays
end
section
set_option linter.unusedVariables false
namespace Go.Proofs.YtmgpegiekankmaaGreat.E
open Go
section
variable {α : Type} (key hi : α → Int)
def ti (l : List α) : Prop := (∀ x ∈ l, key x < hi x) ∧ l.Pairwise (fun a b => hi a ≤ key b)
def kg (l : List α) (k : Int) : Nat := l.countP (fun x => decide (key x < k))
def qE (h : Int) (x : α) : Bool := decide (key x ≤ h ∧ h < hi x)
def tP (a b : Int) (x : α) : Bool := decide (a < hi x ∧ key x < b)
variable {key hi}
theorem ti.nil : ti key hi [] := ⟨by simp, List.Pairwise.nil⟩
theorem ti.tail {x : α} {l : List α} (h : ti key hi (x :: l)) : ti key hi l := ⟨fun y hy => h.1 y (by simp [hy]), (List.pairwise_cons.1 h.2).2⟩
theorem ti.head {x : α} {l : List α} (h : ti key hi (x :: l)) : key x < hi x ∧ ∀ y ∈ l, hi x ≤ key y ∧ key x < key y := by
  have h0 := h.1 x (by simp)
  refine ⟨h0, fun y hy => ?_⟩
  have := (List.pairwise_cons.1 h.2).1 y hy
  omega
theorem ti.sub {l m : List α} (h : ti key hi l) (s : m.Sublist l) : ti key hi m := ⟨fun x hx => h.1 x (s.subset hx), h.2.sublist s⟩
theorem oC (l : List α) (k : Int) : kg key l k ≤ l.length := List.countP_le_length
theorem zW {l : List α} {k : Int} (h : ∀ x ∈ l, k ≤ key x) : kg key l k = 0 := by
  unfold kg
  rw [List.countP_eq_zero]
  intro x hx
  have := h x hx
  simp; omega
theorem na {l : List α} (h : ti key hi l) (k : Int) : (∀ x ∈ l.take (kg key l k), key x < k) ∧ ∀ x ∈ l.drop (kg key l k), k ≤ key x := by
  induction l with
  | nil => simp
  | cons x l ih =>
    obtain ⟨h0, hx⟩ := h.head
    by_cases hk : key x < k
    · have e : kg key (x :: l) k = kg key l k + 1 := by unfold kg; rw [List.countP_cons]; simp [hk]
      rw [e]
      obtain ⟨i1, i2⟩ := ih h.tail
      refine ⟨fun y hy => ?_, fun y hy => i2 y (by simpa using hy)⟩
      simp at hy
      rcases hy with rfl | hy
      · exact hk
      · exact i1 y hy
    · have e : kg key (x :: l) k = 0 := zW fun y hy => by
        rcases List.mem_cons.1 hy with rfl | hy
        · omega
        · have := hx y hy; omega
      rw [e]
      refine ⟨by simp, fun y hy => ?_⟩
      simp at hy
      rcases hy with rfl | hy
      · omega
      · have := hx y hy; omega
theorem qU {l : List α} (h : ti key hi l) {k : Int} {j : Nat} {z : α} (hj : j < l.length) : key (l.getD j z) < k ↔ j < kg key l k := by
  have e : l.getD j z = l[j] := by simp [List.getD_eq_getElem?_getD, List.getElem?_eq_getElem hj]
  rw [e]
  obtain ⟨h1, h2⟩ := na h k
  constructor
  · intro hk
    apply Classical.byContradiction
    intro hc
    have : l[j] ∈ l.drop (kg key l k) := by
      rw [List.mem_drop_iff_getElem]
      exact ⟨j - kg key l k, by omega, by congr 1; omega⟩
    have := h2 _ this
    omega
  · intro hc
    refine h1 _ ?_
    rw [List.mem_take_iff_getElem]
    exact ⟨j, by omega, rfl⟩
theorem ut {l : List α} {a b : Int} (h : a ≤ b) : kg key l a ≤ kg key l b := by
  unfold kg
  apply List.countP_mono_left
  intro x _ hx
  simp at hx ⊢; omega
theorem wm {p : α → Bool} {l : List α} (h : ∀ x ∈ l, p x = true) : l.filter p = l := List.filter_eq_self.2 h
theorem nP {p : α → Bool} {l : List α} (h : ∀ x ∈ l, p x = false) : l.filter p = [] := List.filter_eq_nil_iff.2 fun x hx => by simp [h x hx]
theorem zG {l : List α} (h : ti key hi l) {a b : Int} (hab : a ≤ b) : (l.drop (kg key l a)).take (kg key l b - kg key l a) = l.filter (fun x => decide (a ≤ key x ∧ key x < b)) := by
  obtain ⟨a1, a2⟩ := na h a
  obtain ⟨b1, b2⟩ := na h b
  have hm : kg key l a ≤ kg key l b := ut hab
  have e : l = l.take (kg key l a) ++ ((l.drop (kg key l a)).take (kg key l b - kg key l a) ++ l.drop (kg key l b)) := by
    conv => lhs; rw [← List.take_append_drop (kg key l a) l]
    congr 1
    conv => lhs; rw [← List.take_append_drop (kg key l b - kg key l a) (l.drop (kg key l a))]
    congr 1
    rw [List.drop_drop]; congr 1; omega
  conv => rhs; rw [e]
  rw [List.filter_append, List.filter_append]
  rw [nP (l := l.take (kg key l a)) (fun x hx => by have := a1 x hx; simp; omega), nP (l := l.drop (kg key l b)) (fun x hx => by have := b2 x hx; simp; omega)]
  rw [wm]
  · simp
  · intro x hx
    have h1 := a2 x (List.mem_of_mem_take hx)
    have h2 : x ∈ l.take (kg key l b) := by
      rw [List.mem_take_iff_getElem] at hx
      obtain ⟨i, hi1, hi2⟩ := hx
      simp at hi1 hi2
      rw [List.mem_take_iff_getElem]
      exact ⟨kg key l a + i, by omega, hi2⟩
    have := b1 x h2
    simp; omega
theorem mW {p : α → Bool} {l : List α} (h : ∀ x ∈ l, p x = false) : l.find? p = none := List.find?_eq_none.2 fun x hx => by simp [h x hx]
theorem vJ {l : List α} (h : ti key hi l) {n : Int} {j : Nat} {z : α} (hj : j < l.length) (h1 : key (l.getD j z) ≤ n) (h2 : ∀ i, j < i → i < l.length → n < key (l.getD i z)) :
    l.find? (qE key hi n) = if n < hi (l.getD j z) then some (l.getD j z) else none := by
  have e : l.getD j z = l[j] := by simp [List.getD_eq_getElem?_getD, List.getElem?_eq_getElem hj]
  rw [e] at h1 ⊢
  have hs : l = l.take j ++ l[j] :: l.drop (j + 1) := by rw [List.getElem_cons_drop, List.take_append_drop]
  have p1 : ∀ x ∈ l.take j, qE key hi n x = false := by
    intro x hx
    have hp := h.2
    rw [hs, List.pairwise_append] at hp
    have := hp.2.2 x hx l[j] List.mem_cons_self
    simp [qE]; omega
  have p2 : ∀ x ∈ l.drop (j + 1), qE key hi n x = false := by
    intro x hx
    rw [List.mem_drop_iff_getElem] at hx
    obtain ⟨i, hi1, hi2⟩ := hx
    have := h2 (j + 1 + i) (by omega) (by omega)
    have e2 : l.getD (j + 1 + i) z = l[j + 1 + i] := by simp [List.getD_eq_getElem?_getD, List.getElem?_eq_getElem (show j + 1 + i < l.length by omega)]
    rw [e2, hi2] at this
    simp [qE]; omega
  conv => lhs; rw [hs]
  rw [List.find?_append, mW p1]
  simp only [Option.none_or, List.find?_cons]
  by_cases hc : n < hi l[j]
  · have : qE key hi n l[j] = true := by simp [qE]; omega
    simp [this, hc]
  · have : qE key hi n l[j] = false := by simp [qE]; omega
    simp only [this, hc, if_false]
    exact mW p2
theorem vY {l : List α} (h : ti key hi l) {a b : Int} (hab : a < b) : l.filter (tP key hi a b) = (l.find? (qE key hi a)).toList ++ l.filter (fun x => decide (a < key x ∧ key x < b)) := by
  induction l with
  | nil => simp
  | cons x l ih =>
    obtain ⟨h0, hx⟩ := h.head
    have ih := ih h.tail
    by_cases hk : a < key x
    · have fn : l.find? (qE key hi a) = none := mW fun y hy => by have := hx y hy; simp [qE]; omega
      have f1 : qE key hi a x = false := by simp [qE]; omega
      rw [fn] at ih
      simp only [List.filter_cons, List.find?_cons, f1, fn, ih]
      have f2 : tP key hi a b x = decide (a < key x ∧ key x < b) := by simp only [tP]; rw [decide_eq_decide]; omega
      rw [f2]
      simp
    · by_cases hc : a < hi x
      · have f1 : qE key hi a x = true := by simp [qE]; omega
        have f2 : tP key hi a b x = true := by simp [tP]; omega
        have f3 : decide (a < key x ∧ key x < b) = false := by simp; omega
        have fn : l.find? (qE key hi a) = none := mW fun y hy => by have := hx y hy; simp [qE]; omega
        rw [fn] at ih
        simp [List.filter_cons, List.find?_cons, f1, f2, f3, ih]
        omega
      · have f1 : qE key hi a x = false := by simp [qE]; omega
        have f2 : tP key hi a b x = false := by simp [tP]; omega
        have f3 : decide (a < key x ∧ key x < b) = false := by simp; omega
        simp only [List.filter_cons, List.find?_cons, f1, f2, f3, ih]
        simp
theorem qM {a b : Int} {x : α} : tP key hi a b x = true ↔ a < hi x ∧ key x < b := by simp [tP]
theorem uV (xs : List α) (i : Nat) (y : α) (h : i ≤ xs.length) : xs.insertIdx i y = xs.take i ++ y :: xs.drop i := by
  induction xs generalizing i with
  | nil => have : i = 0 := by simpa using h
           subst this; rfl
  | cons x xs ih =>
    cases i with
    | zero => rfl
    | succ i => simp [ih i (by simpa using h)]
theorem vD {l : List α} (h : ti key hi l) {x : α} (hx : key x < hi x) (hno : l.filter (tP key hi (key x) (hi x)) = []) : ti key hi (l.take (kg key l (key x)) ++ x :: l.drop (kg key l (key x))) := by
  have hno' : ∀ y ∈ l, ¬ (key x < hi y ∧ key y < hi x) := fun y hy hc => by
    have := List.filter_eq_nil_iff.1 hno y hy
    exact this (qM.2 hc)
  obtain ⟨a1, a2⟩ := na h (key x)
  have hp := h.2
  rw [← List.take_append_drop (kg key l (key x)) l, List.pairwise_append] at hp
  refine ⟨fun y hy => ?_, ?_⟩
  · rcases List.mem_append.1 hy with hy | hy
    · exact h.1 y (List.mem_of_mem_take hy)
    · rcases List.mem_cons.1 hy with rfl | hy
      · exact hx
      · exact h.1 y (List.mem_of_mem_drop hy)
  · rw [List.pairwise_append]
    refine ⟨hp.1, List.pairwise_cons.2 ⟨fun y hy => ?_, hp.2.1⟩, fun y hy z hz => ?_⟩
    · have h1 := a2 y hy
      have h2 := h.1 y (List.mem_of_mem_drop hy)
      have h3 := hno' y (List.mem_of_mem_drop hy)
      omega
    · have h1 := a1 y hy
      have h3 := hno' y (List.mem_of_mem_take hy)
      rcases List.mem_cons.1 hz with rfl | hz
      · omega
      · exact hp.2.2 y hy z hz
end
end Go.Proofs.YtmgpegiekankmaaGreat.E
end
section
set_option linter.unusedVariables false
namespace Go.Proofs.YtmgpegiekankmaaGreat.E
open Go
def qt (y : Int) : Bool := decide (y % 4 = 0 ∧ (y % 100 ≠ 0 ∨ y % 400 = 0))
def tu (y m : Int) : Int := if m = 2 then (if qt y = true then 29 else 28) else if m = 4 ∨ m = 6 ∨ m = 9 ∨ m = 11 then 30 else 31
def Bo (y : Int) : Int := y / 400 * 146097 + 365 * (y % 400) + (y % 400) / 4 - (y % 400) / 100
def AC (y m : Int) : Int := Bo y + (153 * m + 2) / 5 - 719468
def lH (k : Int) : Int := AC (1970 + (k - 2) / 12) ((k - 2) % 12)
theorem uu (y : Int) : Bo (y + 1) = Bo y + 365 + (if qt (y + 1) = true then 1 else 0) := by
  unfold Bo qt
  simp only [decide_eq_true_eq]
  split
  · rename_i h
    omega
  · rename_i h
    omega
theorem pc (k : Int) : lH (k + 1) = lH k + tu (1970 + k / 12) (k % 12 + 1) := by
  unfold lH AC
  have hm : (k - 2) % 12 = 0 ∨ (k - 2) % 12 = 1 ∨ (k - 2) % 12 = 2 ∨ (k - 2) % 12 = 3 ∨ (k - 2) % 12 = 4 ∨ (k - 2) % 12 = 5 ∨ (k - 2) % 12 = 6 ∨ (k - 2) % 12 = 7 ∨ (k - 2) % 12 = 8 ∨ (k - 2) % 12 = 9 ∨ (k - 2) % 12 = 10 ∨ (k - 2) % 12 = 11 := by omega
  rcases hm with h | h | h | h | h | h | h | h | h | h | h | h
  all_goals
    first
      | (have e1 : (k + 1 - 2) % 12 = (k - 2) % 12 + 1 := by omega
         have e2 : (k + 1 - 2) / 12 = (k - 2) / 12 := by omega
         rw [e1, e2, h]
         have e3 : k % 12 = 0 ∨ k % 12 = 2 ∨ k % 12 = 3 ∨ k % 12 = 4 ∨ k % 12 = 5 ∨ k % 12 = 6 ∨ k % 12 = 7 ∨ k % 12 = 8 ∨ k % 12 = 9 ∨ k % 12 = 10 ∨ k % 12 = 11 := by omega
         unfold tu
         split
         · omega
         · split <;> omega)
      | (have e1 : (k + 1 - 2) % 12 = 0 := by omega
         have e2 : (k + 1 - 2) / 12 = (k - 2) / 12 + 1 := by omega
         have e3 : 1970 + ((k - 2) / 12 + 1) = (1970 + (k - 2) / 12) + 1 := by omega
         have e4 : 1970 + k / 12 = (1970 + (k - 2) / 12) + 1 := by omega
         rw [e1, e2, e3, e4, h, uu]
         unfold tu
         have e5 : k % 12 + 1 = 2 := by omega
         rw [if_pos e5]
         split <;> omega)
theorem nS (y m : Int) : 28 ≤ tu y m ∧ tu y m ≤ 31 := by
  unfold tu; split
  · split <;> omega
  · split <;> omega
theorem pv : lH 0 = 0 := by decide
theorem zT (k : Int) : lH k + 28 ≤ lH (k + 1) := by
  have := nS (1970 + k / 12) (k % 12 + 1)
  rw [pc]; omega
theorem xv (k : Int) : ∀ n : Nat, lH k + 28 * n ≤ lH (k + n)
  | 0 => by simp
  | n + 1 => by
    have h1 := xv k n
    have h2 := zT (k + n)
    have e : k + ((n + 1 : Nat) : Int) = k + n + 1 := by omega
    rw [e]; omega
theorem lF {j k : Int} (h : j ≤ k) : lH j ≤ lH k := by
  obtain ⟨n, hn⟩ : ∃ n : Nat, k = j + n := ⟨(k - j).toNat, by omega⟩
  have := xv j n
  rw [hn]; omega
theorem pR {d j k : Int} (h1 : lH j ≤ d) (h2 : d < lH (j + 1)) (h3 : lH k ≤ d) (h4 : d < lH (k + 1)) : j = k := by
  rcases Int.lt_trichotomy j k with h | h | h
  · have := lF (show j + 1 ≤ k by omega); omega
  · exact h
  · have := lF (show k + 1 ≤ j by omega); omega
theorem xi {n y t c e : Int} (h0 : 0 ≤ n) (h1 : n ≤ 146096) (ht : t = n / 1460) (hc : c = n / 36524) (he : e = n / 146096) (hy : y = (n - t + c - e) / 365) : 0 ≤ y ∧ y ≤ 399 ∧ 365 * y + y / 4 - y / 100 ≤ n := by
  have h2 : c ≤ t := by omega
  have h3 : 365 * y ≤ n - t + c - e := by omega
  have h4 : 0 ≤ y := by omega
  have h5 : y ≤ 399 := by omega
  have h6 : y / 4 ≤ t := by omega
  have h7 : n - t + c - e - 365 * y < 365 := by omega
  have he2 : 0 ≤ e := by omega
  refine ⟨h4, h5, ?_⟩
  have h8 : c ≤ y / 100 + e := by
    have hc4 : c = 0 ∨ c = 1 ∨ c = 2 ∨ c = 3 ∨ c = 4 := by omega
    rcases hc4 with h | h | h | h | h <;> omega
  omega
theorem uK {n y t c e : Int} (h0 : 0 ≤ n) (h1 : n ≤ 146096) (ht : t = n / 1460) (hc : c = n / 36524) (he : e = n / 146096) (hy : y = (n - t + c - e) / 365) (h9 : y < 399) : n < 365 * (y + 1) + (y + 1) / 4 - (y + 1) / 100 := by
  apply Classical.byContradiction
  intro hn
  have hlo := xi h0 h1 ht hc he hy
  obtain ⟨f, hf⟩ : ∃ f, f = (y + 1) / 4 := ⟨_, rfl⟩
  obtain ⟨g, hg⟩ : ∃ g, g = (y + 1) / 100 := ⟨_, rfl⟩
  rw [← hf, ← hg] at hn
  obtain ⟨n0, hn0⟩ : ∃ n0, n0 = 365 * (y + 1) + f - g := ⟨_, rfl⟩
  rw [← hn0] at hn
  have e0 : e = 0 := by omega
  have t0 : n0 / 1460 = f := by omega
  have c0 : g ≤ n0 / 36524 := by omega
  have m1 : n0 - n0 / 1460 ≤ n - t := by omega
  have m2 : n0 / 36524 ≤ c := by omega
  omega
theorem xS {n y : Int} (h0 : 0 ≤ n) (h1 : n ≤ 146096) (hy : y = (n - n / 1460 + n / 36524 - n / 146096) / 365) :
    0 ≤ y ∧ y ≤ 399 ∧ 365 * y + y / 4 - y / 100 ≤ n ∧ (y < 399 → n < 365 * (y + 1) + (y + 1) / 4 - (y + 1) / 100) ∧ n - (365 * y + y / 4 - y / 100) ≤ 365 := by
  obtain ⟨h2, h3, h4⟩ := xi h0 h1 rfl rfl rfl hy
  refine ⟨h2, h3, h4, fun h => uK h0 h1 rfl rfl rfl hy h, ?_⟩
  by_cases h : y < 399
  · have := uK h0 h1 rfl rfl rfl hy h
    clear hy
    omega
  · have : y = 399 := by omega
    clear hy
    subst this
    omega
theorem oP {Y m : Int} (h0 : 0 ≤ m) (h1 : m ≤ 11) : lH (12 * (Y - 1970) + m + 2) = AC Y m := by
  unfold lH
  have e1 : (12 * (Y - 1970) + m + 2 - 2) / 12 = Y - 1970 := by omega
  have e2 : (12 * (Y - 1970) + m + 2 - 2) % 12 = m := by omega
  rw [e1, e2]; congr 1; omega
theorem yD {d q n y p m : Int} (h0 : 0 ≤ d) (hq : q = (d + 719468) / 146097) (hn : n = (d + 719468) % 146097) (hy : y = (n - n / 1460 + n / 36524 - n / 146096) / 365) (hp : p = n - (365 * y + y / 4 - y / 100)) (hm : m = (5 * p + 2) / 153) :
    0 ≤ y ∧ y ≤ 399 ∧ 0 ≤ p ∧ p ≤ 365 ∧ 0 ≤ m ∧ m ≤ 11 ∧ 0 ≤ 12 * (q * 400 + y - 1970) + m + 2 ∧ lH (12 * (q * 400 + y - 1970) + m + 2) ≤ d ∧ d < lH (12 * (q * 400 + y - 1970) + m + 2 + 1) := by
  have hn0 : 0 ≤ n := by omega
  have hn1 : n ≤ 146096 := by omega
  have hD : d + 719468 = 146097 * q + n := by omega
  obtain ⟨y0, y1, y2, y3, y4⟩ := xS hn0 hn1 hy
  clear hy
  have p0 : 0 ≤ p := by omega
  have p1 : p ≤ 365 := by omega
  have m0 : 0 ≤ m := by omega
  have m1 : m ≤ 11 := by omega
  have hlow : lH (12 * (q * 400 + y - 1970) + m + 2) ≤ d := by
    rw [oP m0 m1]
    unfold AC Bo
    have e1 : (q * 400 + y) / 400 = q := by omega
    have e2 : (q * 400 + y) % 400 = y := by omega
    rw [e1, e2]
    have e3 : (153 * m + 2) / 5 ≤ p := by omega
    omega
  have hhigh : d < lH (12 * (q * 400 + y - 1970) + m + 2 + 1) := by
    by_cases h : m < 11
    · have e0 : 12 * (q * 400 + y - 1970) + m + 2 + 1 = 12 * (q * 400 + y - 1970) + (m + 1) + 2 := by omega
      rw [e0, oP (by omega) (by omega)]
      unfold AC Bo
      have e1 : (q * 400 + y) / 400 = q := by omega
      have e2 : (q * 400 + y) % 400 = y := by omega
      rw [e1, e2]
      have e3 : p < (153 * (m + 1) + 2) / 5 := by omega
      omega
    · have e0 : 12 * (q * 400 + y - 1970) + m + 2 + 1 = 12 * (q * 400 + y + 1 - 1970) + 0 + 2 := by omega
      rw [e0, oP (by omega) (by omega)]
      unfold AC Bo
      by_cases hy9 : y < 399
      · have e1 : (q * 400 + y + 1) / 400 = q := by omega
        have e2 : (q * 400 + y + 1) % 400 = y + 1 := by omega
        rw [e1, e2]
        have := y3 hy9
        omega
      · have e1 : (q * 400 + y + 1) / 400 = q + 1 := by omega
        have e2 : (q * 400 + y + 1) % 400 = 0 := by omega
        rw [e1, e2]
        omega
  refine ⟨y0, y1, p0, p1, m0, m1, ?_, hlow, hhigh⟩
  apply Classical.byContradiction
  intro hk
  have := lF (show 12 * (q * 400 + y - 1970) + m + 2 + 1 ≤ 0 by omega)
  rw [pv] at this
  omega
theorem uJ (y : Int) : lH (12 * (y + 1 - 1970)) = lH (12 * (y - 1970)) + (if qt y = true then 366 else 365) := by
  have a1 : 12 * (y + 1 - 1970) = 12 * (y - 1970) + 10 + 2 := by omega
  have a2 : 12 * (y - 1970) = 12 * (y - 1 - 1970) + 10 + 2 := by omega
  rw [a1, oP (by omega) (by omega)]
  conv => rhs; rw [a2, oP (by omega) (by omega)]
  unfold AC
  have := uu (y - 1)
  have e : y - 1 + 1 = y := by omega
  rw [e] at this
  rw [this]
  split <;> omega
end Go.Proofs.YtmgpegiekankmaaGreat.E
end
section
set_option linter.unusedVariables false
set_option linter.unusedSimpArgs false
set_option maxRecDepth 20000
namespace Go.Proofs.YtmgpegiekankmaaGreat.MemPlays
open Go E
theorem ks {a b : Int} (h : 0 ≤ a) : Int.tdiv a b = a / b := Int.tdiv_eq_ediv_of_nonneg h
theorem nl {a b : Int} (h : 0 ≤ a) : Int.tmod a b = a % b := Int.tmod_eq_emod_of_nonneg h
theorem pn {h : Int} (h0 : 0 ≤ h) (h1 : h ≤ 1000000000000) : jF h = h / 24 := by
  unfold jF
  rw [ks h0, bM (by omega)]
theorem oH {d : Int} (h0 : 0 ≤ d) (h1 : d ≤ 1000000) : 0 ≤ fL d ∧ lH (fL d) ≤ d ∧ d < lH (fL d + 1) := by
  obtain ⟨D, hD⟩ : ∃ D, D = d + 719468 := ⟨_, rfl⟩
  have e1 : ba (d + 719468) = D := by rw [bM (by omega), hD]
  obtain ⟨q, hq⟩ : ∃ q, q = (d + 719468) / 146097 := ⟨_, rfl⟩
  obtain ⟨n, hn⟩ : ∃ n, n = (d + 719468) % 146097 := ⟨_, rfl⟩
  have e2 : Int.tmod D 146097 = n := by rw [nl (by omega), hn, hD]
  have e2b : ba (Int.tdiv D 146097) = q := by rw [ks (by omega), bM (by omega), hq, hD]
  have n0 : 0 ≤ n ∧ n ≤ 146096 := by omega
  obtain ⟨t, ht⟩ : ∃ t, t = n / 1460 := ⟨_, rfl⟩
  have e3 : ba (Int.tdiv n 1460) = t := by rw [ks (by omega), bM (by omega), ht]
  obtain ⟨c, hc⟩ : ∃ c, c = n / 36524 := ⟨_, rfl⟩
  have e4 : ba (Int.tdiv n 36524) = c := by rw [ks (by omega), bM (by omega), hc]
  obtain ⟨e, he⟩ : ∃ e, e = n / 146096 := ⟨_, rfl⟩
  have e5 : ba (Int.tdiv n 146096) = e := by rw [ks (by omega), bM (by omega), he]
  have e6 : ba (n - t) = n - t := bM (by omega)
  have e7 : ba (n - t + c) = n - t + c := bM (by omega)
  have e8 : ba (n - t + c - e) = n - t + c - e := bM (by omega)
  obtain ⟨y, hy⟩ : ∃ y, y = (n - t + c - e) / 365 := ⟨_, rfl⟩
  have e9 : ba (Int.tdiv (n - t + c - e) 365) = y := by rw [ks (by omega), bM (by omega), hy]
  obtain ⟨p, hp⟩ : ∃ p, p = n - (365 * y + y / 4 - y / 100) := ⟨_, rfl⟩
  obtain ⟨m, hm⟩ : ∃ m, m = (5 * p + 2) / 153 := ⟨_, rfl⟩
  obtain ⟨y0, y1, p0, p1, m0, m1, k0, k1, k2⟩ := yD h0 hq hn (by rw [hy, ht, hc, he]) hp hm
  have q0 : 0 ≤ q ∧ q ≤ 20 := by omega
  have e10 : ba (365 * y) = 365 * y := bM (by omega)
  have e11 : ba (Int.tdiv y 4) = y / 4 := by rw [ks y0, bM (by omega)]
  have e12 : ba (Int.tdiv y 100) = y / 100 := by rw [ks y0, bM (by omega)]
  have e13 : ba (365 * y + y / 4) = 365 * y + y / 4 := bM (by omega)
  have e14 : ba (365 * y + y / 4 - y / 100) = 365 * y + y / 4 - y / 100 := bM (by omega)
  have e15 : ba (n - (365 * y + y / 4 - y / 100)) = p := by rw [bM (by omega), hp]
  have e16 : ba (5 * p) = 5 * p := bM (by omega)
  have e17 : ba (5 * p + 2) = 5 * p + 2 := bM (by omega)
  have e18 : ba (Int.tdiv (5 * p + 2) 153) = m := by rw [ks (by omega), bM (by omega), hm]
  have e20 : ba (q * 400) = q * 400 := bM (by omega)
  have e21 : ba (q * 400 + y) = q * 400 + y := bM (by omega)
  have key : fL d = 12 * (q * 400 + y - 1970) + m + 2 := by
    unfold fL lN
    simp only [fg, e1, e2, e2b, e3, e4, e5, e6, e7, e8, e9, e10, e11, e12, e13, e14, e15, e16, e17, e18, e20, e21]
    clear hy hp hm hn hq ht hc he
    split
    · simp only []
      rw [bM (n := m + 3) (by omega), bM (n := q * 400 + y - 1970) (by omega), bM (n := (q * 400 + y - 1970) * 12) (by omega), bM (n := m + 3 - 1) (by omega), bM (by omega)]
      omega
    · simp only []
      rw [bM (n := m - 9) (by omega), bM (n := q * 400 + y + 1) (by omega), bM (n := q * 400 + y + 1 - 1970) (by omega), bM (n := (q * 400 + y + 1 - 1970) * 12) (by omega), bM (n := m - 9 - 1) (by omega), bM (by omega)]
      omega
  rw [key]
  exact ⟨k0, k1, k2⟩
theorem yP {y m : Int} (hy : 1970 ≤ y) (hy2 : y ≤ 10000) (h0 : 1 ≤ m) (h1 : m ≤ 12) : kr y m 1 = lH (12 * (y - 1970) + m - 1) := by
  have step : ∀ Y M : Int, 1000 ≤ Y → Y ≤ 11000 → 0 ≤ M → M ≤ 11 → ba ((ba ((ba ((ba (Int.tdiv Y 400)) * 146097)) + (ba ((ba ((ba ((ba ((ba ((ba (365 * (Int.tmod Y 400))) + (ba (Int.tdiv (Int.tmod Y 400) 4)))) - (ba (Int.tdiv (Int.tmod Y 400) 100)))) + (ba (Int.tdiv (ba ((ba (153 * M)) + 2)) 5)))) + 1)) - 1)))) - 719468) = AC Y M := by
    intro Y M a1 a2 a3 a4
    have f1 : ba (Int.tdiv Y 400) = Y / 400 := by rw [ks (by omega), bM (by omega)]
    have f2 : Int.tmod Y 400 = Y % 400 := nl (by omega)
    have f3 : ba (Y / 400 * 146097) = Y / 400 * 146097 := bM (by omega)
    have f4 : ba (365 * (Y % 400)) = 365 * (Y % 400) := bM (by omega)
    have f5 : ba (Int.tdiv (Y % 400) 4) = Y % 400 / 4 := by rw [ks (by omega), bM (by omega)]
    have f6 : ba (Int.tdiv (Y % 400) 100) = Y % 400 / 100 := by rw [ks (by omega), bM (by omega)]
    have f7 : ba (153 * M) = 153 * M := bM (by omega)
    have f8 : ba (153 * M + 2) = 153 * M + 2 := bM (by omega)
    have f9 : ba (Int.tdiv (153 * M + 2) 5) = (153 * M + 2) / 5 := by rw [ks (by omega), bM (by omega)]
    simp only [f1, f2, f3, f4, f5, f6, f7, f8, f9]
    have g1 : ba (365 * (Y % 400) + Y % 400 / 4) = 365 * (Y % 400) + Y % 400 / 4 := bM (by omega)
    have g2 : ba (365 * (Y % 400) + Y % 400 / 4 - Y % 400 / 100) = 365 * (Y % 400) + Y % 400 / 4 - Y % 400 / 100 := bM (by omega)
    have g3 : ba (365 * (Y % 400) + Y % 400 / 4 - Y % 400 / 100 + (153 * M + 2) / 5) = 365 * (Y % 400) + Y % 400 / 4 - Y % 400 / 100 + (153 * M + 2) / 5 := bM (by omega)
    simp only [g1, g2, g3]
    have g4 : ba (365 * (Y % 400) + Y % 400 / 4 - Y % 400 / 100 + (153 * M + 2) / 5 + 1) = 365 * (Y % 400) + Y % 400 / 4 - Y % 400 / 100 + (153 * M + 2) / 5 + 1 := bM (by omega)
    rw [g4, bM (n := 365 * (Y % 400) + Y % 400 / 4 - Y % 400 / 100 + (153 * M + 2) / 5 + 1 - 1) (by omega), bM (n := Y / 400 * 146097 + (365 * (Y % 400) + Y % 400 / 4 - Y % 400 / 100 + (153 * M + 2) / 5 + 1 - 1)) (by omega), bM (by omega)]
    unfold AC Bo
    omega
  unfold kr
  have m3 : ba (m - 3) = m - 3 := bM (by omega)
  by_cases hm : m - 3 < 0
  · have m4 : ba (m - 3 + 12) = m - 3 + 12 := bM (by omega)
    have y4 : ba (y - 1) = y - 1 := bM (by omega)
    simp only [fg, m3, hm, if_true, m4, y4]
    rw [step (y - 1) (m - 3 + 12) (by omega) (by omega) (by omega) (by omega), ← oP (by omega) (by omega)]
    congr 1; omega
  · simp only [fg, m3, hm, if_false]
    rw [step y (m - 3) (by omega) (by omega) (by omega) (by omega), ← oP (by omega) (by omega)]
    congr 1; omega
theorem vc {k : Int} (h0 : 0 ≤ k) (h1 : k ≤ 40000) : jf k = lH k := by
  unfold jf
  have e1 : ba (Int.tdiv k 12) = k / 12 := by rw [ks h0, bM (by omega)]
  have e2 : Int.tmod k 12 = k % 12 := nl h0
  rw [e1, e2, bM (n := 1970 + k / 12) (by omega), bM (n := k % 12 + 1) (by omega), yP (by omega) (by omega) (by omega) (by omega)]
  simp only [fg]
  congr 1; omega
theorem tC {k : Int} (h0 : 0 ≤ k) (h1 : k ≤ 30000) : li k = (lH k, lH (k + 1)) := by
  unfold li
  rw [bM (n := k + 1) (by omega)]
  simp only [fg, vc h0 (by omega), vc (k := k + 1) (by omega) (by omega)]
theorem uw : lH 22967 ≤ 699050 ∧ 699050 < lH 22968 := by decide
theorem uh : fL 699050 = 22967 := by
  obtain ⟨h0, h1, h2⟩ := oH (d := 699050) (by omega) (by omega)
  exact pR h1 h2 uw.1 uw.2
def mL (t : Int) : Int := if t = 1 then 16777216 else if t = 2 then 699050 else if t = 3 then 22967 else -1
theorem uD (t i : Int) : kq t i = decide (0 ≤ i ∧ i ≤ mL t) := by
  unfold kq mo mL
  simp only [fg]
  by_cases h1 : t = 1
  · subst h1; simp
  · by_cases h2 : t = 2
    · subst h2
      simp [pn (h := 16777216) (by omega) (by omega)]
    · by_cases h3 : t = 3
      · subst h3
        have e : (16777216 : Int) / 24 = 699050 := by decide
        simp [pn (h := 16777216) (by omega) (by omega), e, uh]
      · simp [h1, h2, h3]
        omega
def lr (t i : Int) : Int := if t = 1 then i else if t = 2 then 24 * i else 24 * lH i
def tz (t i : Int) : Int := lr t (i + 1)
theorem mw {k : Int} (h0 : 0 ≤ k) (h1 : k ≤ 30000) : 0 ≤ lH k ∧ lH k ≤ 2000000 := by
  have a := lF h0
  rw [pv] at a
  have b := lF h1
  have c : lH 30000 ≤ 2000000 := by decide
  omega
theorem uO (t : Int) : mL t ≤ 16777216 := by unfold mL; split <;> (try split) <;> (try split) <;> omega
theorem qJ {t i : Int} (h0 : 0 ≤ i) (h1 : i ≤ mL t) : t = 1 ∨ t = 2 ∨ t = 3 := by
  unfold mL at h1
  split at h1
  · omega
  · split at h1
    · omega
    · split at h1 <;> omega
theorem rH {t i : Int} (h0 : 0 ≤ i) (h1 : i ≤ mL t) : kW t i = (lr t i, tz t i) := by
  have hm := uO t
  unfold kW
  have e1 : ba (i + 1) = i + 1 := bM (by omega)
  simp only [fg, uD, h0, h1, and_self, decide_true, Bool.not_true, Bool.false_eq_true, if_false, e1]
  rcases qJ h0 h1 with rfl | rfl | rfl
  · simp [zb, lr, tz]
  · have h1' : i ≤ 699050 := h1
    simp [zb, lr, tz]
    rw [bM (by omega), bM (by omega)]
    constructor <;> omega
  · have h1' : i ≤ 22967 := h1
    have a := mw h0 (by omega)
    have b := mw (k := i + 1) (by omega) (by omega)
    simp [zb, lr, tz, tC h0 (show i ≤ 30000 by omega)]
    rw [bM (by omega), bM (by omega)]
    constructor <;> omega
theorem AL {t i : Int} (h0 : 0 ≤ i) (h1 : i ≤ mL t) : 0 ≤ lr t i ∧ lr t i < tz t i ∧ tz t i ≤ 48000000 := by
  rcases qJ h0 h1 with rfl | rfl | rfl
  · have h1' : i ≤ 16777216 := h1
    simp [lr, tz]; omega
  · have h1' : i ≤ 699050 := h1
    simp [lr, tz]; omega
  · have h1' : i ≤ 22967 := h1
    have a := mw h0 (by omega)
    have b := mw (k := i + 1) (by omega) (by omega)
    have c := zT i
    simp [lr, tz]; omega
theorem BG {t i h : Int} (h0 : 0 ≤ i) (h1 : i ≤ mL t) : lZ t i h = decide (lr t i ≤ h ∧ h < tz t i) := by
  unfold lZ
  rw [rH h0 h1]
  unfold mo
  by_cases c1 : h < 0
  · simp [fg, c1]
  · by_cases c2 : 16777216 < h
    · simp [fg, c1, c2]
    · rcases qJ h0 h1 with rfl | rfl | rfl
      · simp [fg, c1, c2, lr, tz]
        rw [Bool.eq_iff_iff]; simp; omega
      · simp [fg, c1, c2, lr, tz, pn (h := h) (by omega) (by omega)]
        rw [Bool.eq_iff_iff]; simp; omega
      · have h1' : i ≤ 22967 := h1
        obtain ⟨m0, m1, m2⟩ := oH (d := h / 24) (by omega) (by omega)
        simp [fg, c1, c2, lr, tz, pn (h := h) (by omega) (by omega)]
        rw [Bool.eq_iff_iff]; simp
        constructor
        · rintro rfl; omega
        · rintro ⟨a, b⟩; exact pR m1 m2 (by omega) (by omega)
end Go.Proofs.YtmgpegiekankmaaGreat.MemPlays
end
section
set_option linter.unusedVariables false
set_option linter.unusedSimpArgs false
set_option maxRecDepth 20000
namespace Go.Proofs.YtmgpegiekankmaaGreat.MemPlays
open Go E
abbrev Pr := ah
abbrev En := aE
abbrev zP : Pr := aD
def qz (p : aW) : Prop := 0 ≤ p.Index ∧ p.Index ≤ mL p.Tier
def lB (p : aW) : Int := lr p.Tier p.Index
def oF (p : aW) : Int := tz p.Tier p.Index
def kk (x : Pr) : Int := x.k
def hh (x : Pr) : Int := oF x.v.Part
structure nH (l : List Pr) : Prop where
  srt : ti kk hh l
  rt : ∀ x ∈ l, qz x.v.Part
  key : ∀ x ∈ l, x.k = lB x.v.Part
  len : l.length ≤ 100000
theorem tw {p : aW} (h : qz p) : 0 ≤ lB p ∧ lB p < oF p ∧ oF p ≤ 48000000 := AL h.1 h.2
theorem nH.sub {l m : List Pr} (h : nH l) (s : m.Sublist l) : nH m := ⟨h.srt.sub s, fun x hx => h.rt x (s.subset hx), fun x hx => h.key x (s.subset hx), Nat.le_trans s.length_le h.len⟩
theorem nH.nil : nH [] := ⟨ti.nil, by simp, by simp, by simp⟩
theorem mT {l : List Pr} {j : Nat} (hj : j < l.length) : l.getD j zP ∈ l := by
  have e : l.getD j zP = l[j] := by simp [List.getD_eq_getElem?_getD, List.getElem?_eq_getElem hj]
  rw [e]; exact List.getElem_mem hj
theorem tJ {l : List Pr} (h : nH l) {i j : Nat} (hij : i < j) (hj : j < l.length) : (l.getD i zP).k < (l.getD j zP).k := by
  have e : l.getD j zP = l[j] := by simp [List.getD_eq_getElem?_getD, List.getElem?_eq_getElem hj]
  have e2 : l.getD i zP = l[i] := by simp [List.getD_eq_getElem?_getD, List.getElem?_eq_getElem (show i < l.length by omega)]
  rw [e, e2]
  have h1 := List.pairwise_iff_getElem.1 h.srt.2 i j (by omega) hj hij
  have h2 := h.srt.1 l[i] (List.getElem_mem (by omega))
  simp only [kk] at h1 h2
  omega
theorem BH {a b : Int} (h0 : 0 ≤ a) (h1 : a ≤ b) (h2 : b ≤ 1000000000) : ba (lh .u64 (dW (ba (a + b))) 1) = (a + b) / 2 := by
  rw [bM (n := a + b) (by omega), kl (by omega)]
  have e : lh .u64 (a + b) 1 = (a + b) / 2 := by
    unfold lh
    have e2 : (2 : Int) ^ min (1 : Int).toNat IntKind.u64.bits = 2 := by decide
    rw [e2, Int.fdiv_eq_ediv_of_nonneg _ (by decide)]
  rw [e, bM (by omega)]
theorem qa {K : Nat} {l : List Pr} (h : nH l) (k : Int) : ∀ (f : Nat) (a b : Int), 0 ≤ a → a ≤ b → b ≤ l.length → a ≤ kg kk l k → (kg kk l k : Int) ≤ b → b - a < f → gV K l k f a b = some (kg kk l k : Int)
  | 0, a, b, h0, h1, h2, h3, h4, h5 => by omega
  | f + 1, a, b, h0, h1, h2, h3, h4, h5 => by
    have hlen := h.len
    unfold gV
    by_cases hab : a < b
    · rw [if_pos hab, BH h0 h1 (by omega)]
      have m0 : 0 ≤ (a + b) / 2 := by omega
      have m1 : (a + b) / 2 < l.length := by omega
      unfold dh
      rw [if_pos m0, if_pos m1]
      have hc := qU h.srt (k := k) (z := zP) (show ((a + b) / 2).toNat < l.length by omega)
      simp only [kk] at hc
      by_cases hk : k ≤ (l.getD ((a + b) / 2).toNat zP).k
      · have : ¬ ((a + b) / 2).toNat < kg kk l k := fun hx => by have := hc.2 hx; omega
        simp only [Option.bind_some, hk, decide_true, Bool.not_true, Bool.false_eq_true, if_false]
        exact qa h k f a ((a + b) / 2) h0 (by omega) (by omega) h3 (by omega) (by omega)
      · have : ((a + b) / 2).toNat < kg kk l k := hc.1 (by omega)
        simp only [Option.bind_some, hk, decide_false, Bool.not_false, if_true]
        rw [bM (by omega)]
        exact qa h k f ((a + b) / 2 + 1) b (by omega) (by omega) h2 (by omega) h4 (by omega)
    · rw [if_neg hab]; congr 1; omega
theorem pu {K : Nat} {l : List Pr} (h : nH l) (k : Int) (hK : 200000 ≤ K) : bN K l k = some (decide (kg kk l k < l.length ∧ (l.getD (kg kk l k) zP).k = k), (kg kk l k : Int)) := by
  have hlen := h.len
  have hc := oC (key := kk) l k
  unfold bN kC
  rw [qa h k K 0 l.length (by omega) (by omega) (by omega) (by omega) (by omega) (by omega)]
  simp only [Option.bind_some]
  by_cases h1 : (kg kk l k : Int) < l.length
  · rw [if_pos h1, if_pos (by omega)]
    have h2 : kg kk l k < l.length := by omega
    simp only [h2, true_and, Int.toNat_natCast]
    congr 2
  · rw [if_neg h1]
    have h2 : ¬ kg kk l k < l.length := by omega
    simp [h2]
def mI : Option En → Int × Int × Int × Int × Int × Bool × Bool
  | none => (0, 0, 0, 0, 0, false, false)
  | some e => (e.Part.Tier, e.Part.Index, e.Seg, e.Mark, e.Rows, e.Cold, true)
def pL (l : List Pr) (n : Int) : Option En := (l.find? (qE kk hh n)).map (·.v)
theorem Bn {K : Nat} {l : List Pr} (h : nH l) (n : Int) (hK : 200000 ≤ K) : ez K l n = some (mI (pL l n)) := by
  have hlen := h.len
  have hc := oC (key := kk) l n
  have fin : ∀ j : Nat, j < l.length → (l.getD j zP).k ≤ n → (∀ i, j < i → i < l.length → n < (l.getD i zP).k) →
      ((if (0 : Int) ≤ j then if (j : Int) < l.length then some ((l.getD (j : Int).toNat zP).k, (l.getD (j : Int).toNat zP).v.Part.Tier, (l.getD (j : Int).toNat zP).v.Part.Index, (l.getD (j : Int).toNat zP).v.Seg, (l.getD (j : Int).toNat zP).v.Mark, (l.getD (j : Int).toNat zP).v.Rows, (l.getD (j : Int).toNat zP).v.Cold, true) else none else none).bind fun x4 => if (!x4.2.2.2.2.2.2.2) = true then some (0, 0, 0, 0, 0, false, false) else kJ (lZ x4.2.1 x4.2.2.1 n) fun x6 => if (!x6) = true then some (0, 0, 0, 0, 0, false, false) else some (x4.2.1, x4.2.2.1, x4.2.2.2.1, x4.2.2.2.2.1, x4.2.2.2.2.2.1, x4.2.2.2.2.2.2.1, true)) = some (mI (pL l n)) := by
    intro j hj h1 h2
    rw [if_pos (by omega), if_pos (by omega)]
    have hm := mT hj
    have hr := h.rt _ hm
    have hk := h.key _ hm
    simp only [Option.bind_some, Int.toNat_natCast, Bool.not_true, Bool.false_eq_true, if_false, fg]
    rw [BG hr.1 hr.2]
    unfold pL
    rw [vJ h.srt (z := zP) hj h1 h2]
    have e1 : lr (l.getD j zP).v.Part.Tier (l.getD j zP).v.Part.Index = (l.getD j zP).k := hk.symm
    have e2 : tz (l.getD j zP).v.Part.Tier (l.getD j zP).v.Part.Index = hh (l.getD j zP) := rfl
    rw [e1, e2]
    generalize l.getD j zP = x at *
    by_cases hn : n < hh x
    · have e3 : decide (x.k ≤ n ∧ n < hh x) = true := by simp [h1, hn]
      rw [e3, if_pos hn]
      rfl
    · have e3 : decide (x.k ≤ n ∧ n < hh x) = false := by simp [hn]
      rw [e3, if_neg hn]
      rfl
  unfold ez dq
  rw [pu h n hK]
  simp only [Option.bind_some, fg]
  by_cases his : kg kk l n < l.length ∧ (l.getD (kg kk l n) zP).k = n
  · have e : decide (kg kk l n < l.length ∧ (l.getD (kg kk l n) zP).k = n) = true := by simp only [his.1, his.2, true_and, decide_true]
    simp only [e, Bool.not_true, Bool.false_eq_true, if_false]
    rw [if_neg (by omega)]
    exact fin (kg kk l n) his.1 (by omega) fun i h1 h2 => by have := tJ h h1 h2; omega
  · have e : decide (kg kk l n < l.length ∧ (l.getD (kg kk l n) zP).k = n) = false := by simpa using his
    simp only [e, Bool.not_false, if_true]
    rw [bM (by omega)]
    by_cases h0 : kg kk l n = 0
    · rw [if_pos (by omega)]
      simp only [Option.bind_some, Bool.not_false, if_true]
      have : pL l n = none := by
        unfold pL
        rw [mW]
        · rfl
        · intro x hx
          obtain ⟨_, a2⟩ := na h.srt n
          rw [h0] at a2
          have h1 := a2 x (by simpa using hx)
          have h2 : kk x ≠ n := by
            intro hxn
            obtain ⟨i, hi1, hi2⟩ := List.getElem_of_mem hx
            have e3 : l.getD i zP = x := by simp [List.getD_eq_getElem?_getD, List.getElem?_eq_getElem hi1, hi2]
            have e4 : ¬ 0 < i := fun hi0 => by
              have h5 := tJ h hi0 hi1
              have h6 := a2 (l.getD 0 zP) (by simpa using mT (show 0 < l.length by omega))
              rw [e3] at h5
              simp only [kk] at hxn h6
              omega
            have e5 : i = 0 := by omega
            subst e5
            apply his
            rw [h0]
            exact ⟨by omega, by rw [e3]; exact hxn⟩
          simp [qE]; omega
      rw [this]; rfl
    · rw [if_neg (by omega)]
      have e1 : (kg kk l n : Int) - 1 = ((kg kk l n - 1 : Nat) : Int) := by omega
      rw [e1]
      have hlt := (qU h.srt (k := n) (z := zP) (show kg kk l n - 1 < l.length by omega)).2 (by omega)
      refine fin (kg kk l n - 1) (by omega) (by simp only [kk] at hlt; omega) fun i h1 h2 => ?_
      have h3 : ¬ i < kg kk l n := by omega
      have h4 : ¬ kk (l.getD i zP) < n := fun hx => h3 ((qU h.srt (z := zP) h2).1 hx)
      simp only [kk] at h4
      by_cases h5 : i = kg kk l n
      · subst h5
        have : (l.getD (kg kk l n) zP).k ≠ n := fun hx => his ⟨h2, hx⟩
        omega
      · have h6 := tJ h (show kg kk l n < i by omega) h2
        have h7 : ¬ kk (l.getD (kg kk l n) zP) < n := fun hx => by
          have := (qU h.srt (z := zP) (show kg kk l n < l.length by omega)).1 hx
          omega
        simp only [kk] at h7
        omega
theorem AE {K : Nat} {l : List Pr} (h : nH l) {a b : Int} (hab : a < b) (hK : 200000 ≤ K) : cR K l a b = some (l.filter fun x => decide (a ≤ kk x ∧ kk x < b)) := by
  have hc := oC (key := kk) l b
  have hm : kg kk l a ≤ kg kk l b := ut (by omega)
  unfold cR
  rw [pu h a hK, pu h b hK]
  simp only [Option.bind_some, fg]
  have hr := zG h.srt (show a ≤ b by omega)
  by_cases h1 : (kg kk l b : Int) ≤ kg kk l a
  · rw [if_pos h1]
    have : kg kk l b - kg kk l a = 0 := by omega
    rw [this] at hr
    simp at hr
    rw [← nP (l := l) (p := fun x => decide (a ≤ kk x ∧ kk x < b)) (fun x hx => by simpa using hr x hx)]
  · rw [if_neg h1, if_pos (by omega), if_pos (by omega), if_pos (by omega)]
    simp only [Int.toNat_natCast]
    rw [hr]
theorem sB {K : Nat} {γ : Type} {y : Int → aE → γ → Option (γ × Bool)} {l : List Pr} (inv : Nat → γ → Prop) (f : γ → Pr → γ) (hl : l.length ≤ 1000000)
    (hy : ∀ i, i < l.length → ∀ z, inv i z → y (l.getD i zP).k (l.getD i zP).v z = some (f z (l.getD i zP), true) ∧ inv (i + 1) (f z (l.getD i zP))) :
    ∀ (n i : Nat) (z : γ), l.length - i < n → i ≤ l.length → inv i z → cQ K γ y l n i z = some ((l.drop i).foldl f z)
  | 0, i, z, h1, h2, h3 => by omega
  | n + 1, i, z, h1, h2, h3 => by
    unfold cQ
    by_cases hi : i < l.length
    · rw [if_pos (by omega), if_pos (by omega)]
      simp only [Int.toNat_natCast]
      obtain ⟨h4, h5⟩ := hy i hi z h3
      have h4' : y (l.getD i zP).k (⟨(⟨(l.getD i zP).v.Part.Tier, (l.getD i zP).v.Part.Index⟩ : aW), (l.getD i zP).v.Seg, (l.getD i zP).v.Mark, (l.getD i zP).v.Rows, (l.getD i zP).v.Cold⟩ : aE) z = some (f z (l.getD i zP), true) := h4
      rw [h4']
      simp only [Option.bind_some, Bool.not_true, Bool.false_eq_true, if_false]
      rw [bM (by omega)]
      have e : ((i : Int) + 1) = ((i + 1 : Nat) : Int) := by omega
      rw [e, sB inv f hl hy n (i + 1) _ (by omega) (by omega) h5]
      have e2 : l.getD i zP = l[i] := by simp [List.getD_eq_getElem?_getD, List.getElem?_eq_getElem hi]
      rw [List.drop_eq_getElem_cons hi, List.foldl_cons, e2]
    · rw [if_neg (by omega), List.drop_eq_nil_of_le (by omega)]; rfl
def CA (l : List Pr) (a b : Int) : List En := (l.filter (tP kk hh a b)).map (·.v)
theorem AV {K : Nat} {l : List Pr} (h : nH l) {a b : Int} (hK : 200000 ≤ K) : fz K l a b = some (if a < b then CA l a b else []) := by
  have hlen := h.len
  unfold fz
  by_cases hab : a < b
  · rw [if_neg (by omega), if_pos hab, Bn h a hK]
    simp only [Option.bind_some]
    have e0 : (if (mI (pL l a)).2.2.2.2.2.2 = true then (if (([] : List aE).length + [(⟨(⟨(mI (pL l a)).1, (mI (pL l a)).2.1⟩ : aW), (mI (pL l a)).2.2.1, (mI (pL l a)).2.2.2.1, (mI (pL l a)).2.2.2.2.1, (mI (pL l a)).2.2.2.2.2.1⟩ : aE)].length) * 48 ≤ 140737488355328 then (some ((([] : List aE) ++ [(⟨(⟨(mI (pL l a)).1, (mI (pL l a)).2.1⟩ : aW), (mI (pL l a)).2.2.1, (mI (pL l a)).2.2.2.1, (mI (pL l a)).2.2.2.2.1, (mI (pL l a)).2.2.2.2.2.1⟩ : aE)]))) else none) else (some (([] : List aE)))) = some (pL l a).toList := by
      cases pL l a with
      | none => simp [mI]
      | some e => simp [mI]
    rw [e0]
    simp only [Option.bind_some]
    rw [AE h hab hK]
    simp only [Option.bind_some]
    have hfl : (l.filter fun x => decide (a ≤ kk x ∧ kk x < b)).length ≤ l.length := List.length_filter_le ..
    have hal : (pL l a).toList.length ≤ 1 := by cases pL l a <;> simp
    unfold dE
    have hloop := sB (K := K) (y := fv K a) (l := l.filter fun x => decide (a ≤ kk x ∧ kk x < b)) (fun i z => z.length ≤ i + 1) (fun z x => if x.k = a then z else z ++ [x.v]) (by omega)
      (fun i hi z hz => by
        unfold fv
        by_cases hk : ((l.filter fun x => decide (a ≤ kk x ∧ kk x < b)).getD i zP).k = a
        · rw [if_pos hk, if_pos hk]; exact ⟨rfl, by omega⟩
        · rw [if_neg hk, if_neg hk, if_pos (by simp; omega)]
          exact ⟨rfl, by simp; omega⟩) K 0 (pL l a).toList (by omega) (by omega) (by omega)
    have e1 : ((0 : Nat) : Int) = 0 := rfl
    rw [e1] at hloop
    rw [hloop]
    simp only [Option.bind_some, List.drop_zero]
    congr 1
    have hf : ∀ (m : List Pr) (z : List En), m.foldl (fun z x => if x.k = a then z else z ++ [x.v]) z = z ++ (m.filter fun x => !decide (x.k = a)).map (·.v) := by
      intro m
      induction m with
      | nil => simp
      | cons x m ih =>
        intro z
        rw [List.foldl_cons, ih]
        by_cases hx : x.k = a <;> simp [hx]
    rw [hf, List.filter_filter]
    unfold CA pL
    rw [vY h.srt hab, List.map_append]
    congr 1
    · cases l.find? (qE kk hh a) <;> rfl
    · congr 1
      apply List.filter_congr
      intro x hx
      show (!decide (x.k = a) && decide (a ≤ x.k ∧ x.k < b)) = decide (a < x.k ∧ x.k < b)
      rw [Bool.eq_iff_iff]
      simp only [Bool.and_eq_true, Bool.not_eq_true', decide_eq_false_iff_not, decide_eq_true_eq]
      omega
  · rw [if_pos (by omega), if_neg hab]
end Go.Proofs.YtmgpegiekankmaaGreat.MemPlays
end
section
set_option linter.unusedVariables false
set_option linter.unusedSimpArgs false
set_option maxRecDepth 20000
namespace Go.Proofs.YtmgpegiekankmaaGreat.MemPlays
open Go E
def Bb (e : En) : Prop := qz e.Part ∧ (1 ≤ e.Seg ∧ e.Seg ≤ 4611686018427387904) ∧ (1 ≤ e.Rows ∧ e.Rows ≤ 4611686018427387904) ∧ (0 ≤ e.Mark ∧ e.Mark ≤ 4611686018427387904) ∧ (e.Part.Tier = 3 ∨ e.Cold = false)
instance (p : aW) : Decidable (qz p) := inferInstanceAs (Decidable (_ ∧ _))
instance (e : En) : Decidable (Bb e) := inferInstanceAs (Decidable (_ ∧ _))
theorem B6 (a b : Int) : fD a b = decide (b ≤ a ∧ a ≤ 4611686018427387904) := by
  unfold fD
  by_cases h : b ≤ a <;> simp [h]
theorem Ch (e : En) : jO e.Part.Tier e.Part.Index e.Seg e.Mark e.Rows e.Cold = decide (Bb e) := by
  unfold jO Bb qz
  simp only [fg, uD, B6]
  rw [Bool.eq_iff_iff]
  by_cases h1 : 0 ≤ e.Part.Index ∧ e.Part.Index ≤ mL e.Part.Tier
  · by_cases h2 : 1 ≤ e.Seg ∧ e.Seg ≤ 4611686018427387904
    · by_cases h3 : 1 ≤ e.Rows ∧ e.Rows ≤ 4611686018427387904
      · by_cases h4 : 0 ≤ e.Mark ∧ e.Mark ≤ 4611686018427387904
        · by_cases h5 : e.Part.Tier = 3
          · simp [h1, h2, h3, h4, h5]
          · simp [h1, h2, h3, h4, h5]
        · simp [h1, h2, h3, h4]
      · simp [h1, h2, h3]
    · simp [h1, h2]
  · simp [h1]
def Bu (l : List Pr) (e : En) : List Pr := l.take (kg kk l (lB e.Part)) ++ (⟨lB e.Part, e⟩ : Pr) :: l.drop (kg kk l (lB e.Part))
def pl (l : List Pr) (e : En) : Int × List Pr := if Bb e then (if l.filter (tP kk hh (lB e.Part) (oF e.Part)) = [] then (0, Bu l e) else (12, l)) else (4, l)
theorem xg (l : List Pr) (e : En) : (Bu l e).length = l.length + 1 := by
  have := oC (key := kk) l (lB e.Part)
  simp [Bu]; omega
theorem AQ {l : List Pr} (h : nH l) {e : En} (he : Bb e) (hno : l.filter (tP kk hh (lB e.Part) (oF e.Part)) = []) (hl : l.length ≤ 99999) : nH (Bu l e) := by
  have hm : ∀ x ∈ Bu l e, x = ⟨lB e.Part, e⟩ ∨ x ∈ l := by
    intro x hx
    unfold Bu at hx
    rcases List.mem_append.1 hx with hx | hx
    · exact .inr (List.mem_of_mem_take hx)
    · rcases List.mem_cons.1 hx with hx | hx
      · exact .inl hx
      · exact .inr (List.mem_of_mem_drop hx)
  refine ⟨vD h.srt (x := (⟨lB e.Part, e⟩ : Pr)) (tw he.1).2.1 hno, fun x hx => ?_, fun x hx => ?_, by rw [xg]; omega⟩
  · rcases hm x hx with rfl | hx
    · exact he.1
    · exact h.rt x hx
  · rcases hm x hx with rfl | hx
    · rfl
    · exact h.key x hx
theorem BX {K : Nat} {l : List Pr} (h : nH l) (hl : l.length ≤ 99999) (e : En) (hK : 200000 ≤ K) : fR K l e.Part.Tier e.Part.Index e.Seg e.Mark e.Rows e.Cold = some (pl l e) := by
  unfold fR pl
  rw [Ch]
  simp only [fg]
  by_cases he : Bb e
  · have hlt := tw he.1
    simp only [he, decide_true, Bool.not_true, Bool.false_eq_true, if_false, if_true]
    rw [rH he.1.1 he.1.2]
    have e1 : lr e.Part.Tier e.Part.Index = lB e.Part := rfl
    have e2 : tz e.Part.Tier e.Part.Index = oF e.Part := rfl
    simp only [e1, e2]
    rw [AV h hK, if_pos hlt.2.1]
    simp only [Option.bind_some]
    unfold CA
    by_cases hno : l.filter (tP kk hh (lB e.Part) (oF e.Part)) = []
    · rw [hno]
      simp only [List.map_nil, List.length_nil, if_true]
      rw [if_neg (by omega)]
      unfold dB
      rw [pu h _ hK]
      have hn : decide (kg kk l (lB e.Part) < l.length ∧ (l.getD (kg kk l (lB e.Part)) zP).k = lB e.Part) = false := by
        simp only [decide_eq_false_iff_not]
        rintro ⟨h1, h2⟩
        have hm := mT h1
        have := List.filter_eq_nil_iff.1 hno _ hm
        apply this
        have h3 := h.srt.1 _ hm
        simp only [kk] at h3
        rw [qM]
        simp only [kk]
        omega
      rw [hn]
      simp only [Option.bind_some, Bool.false_eq_true, if_false]
      have hc := oC (key := kk) l (lB e.Part)
      have hi : bw l (kg kk l (lB e.Part) : Int) [(⟨lB e.Part, e⟩ : Pr)] = some (Bu l e) := by
        unfold bw AB
        simp only []
        rw [if_pos ⟨by omega, by omega, by omega⟩, Int.toNat_natCast, uV _ _ _ hc]
        rfl
      show ((bw l (kg kk l (lB e.Part) : Int) [(⟨lB e.Part, e⟩ : Pr)]).bind _).bind _ = _
      rw [hi]
      rfl
    · rw [if_neg hno, if_pos]
      have : (l.filter (tP kk hh (lB e.Part) (oF e.Part))).length ≠ 0 := fun h0 => hno (List.eq_nil_of_length_eq_zero h0)
      simp only [List.length_map]
      omega
  · simp only [he, decide_false, Bool.not_false, if_true, if_false]
def je : List Pr → List En → Int × List Pr
  | l, [] => (0, l)
  | l, e :: es => if (pl l e).1 = 0 then je (pl l e).2 es else ((pl l e).1, l)
theorem rf {l : List Pr} (h : nH l) (hl : l.length ≤ 99999) (e : En) : nH (pl l e).2 ∧ (pl l e).2.length ≤ l.length + 1 := by
  unfold pl
  split
  · rename_i he
    split
    · rename_i hno
      exact ⟨AQ h he hno hl, by simp [xg]⟩
    · exact ⟨h, by simp⟩
  · exact ⟨h, by simp⟩
theorem rp : ∀ {es : List En} {l : List Pr}, nH l → l.length + es.length ≤ 99999 → nH (je l es).2 ∧ (je l es).2.length ≤ l.length + es.length
  | [], l, h, hl => ⟨h, by simp [je]⟩
  | e :: es, l, h, hl => by
    simp only [List.length_cons] at hl
    obtain ⟨h1, h2⟩ := rf h (by omega) e
    unfold je
    split
    · obtain ⟨h3, h4⟩ := rp (es := es) h1 (by omega)
      exact ⟨h3, by simp; omega⟩
    · exact ⟨h, by simp⟩
theorem B7 {l : List En} {i : Nat} (hi : i < l.length) : l.getD i bn = l[i] := by simp [List.getD_eq_getElem?_getD, List.getElem?_eq_getElem hi]
theorem oz {K : Nat} (es : List En) (hes : es.length ≤ 10000) (hK : 200000 ≤ K) : ∀ (f i : Nat) (l : List Pr), nH l → l.length + (es.length - i) ≤ 99999 → i ≤ es.length → es.length - i < f →
    dJ K es f i l = some (if (je l (es.drop i)).1 = 0 then Sum.inl (je l (es.drop i)).2 else Sum.inr ((je l (es.drop i)).1, []))
  | 0, i, l, h, h1, h2, h3 => by omega
  | f + 1, i, l, h, h1, h2, h3 => by
    unfold dJ
    by_cases hi : i < es.length
    · rw [if_pos (by omega), if_pos (by omega)]
      simp only [Int.toNat_natCast]
      rw [BX h (by omega) (es.getD i bn) hK]
      simp only [Option.bind_some]
      rw [List.drop_eq_getElem_cons hi, B7 hi]
      unfold je
      by_cases h0 : (pl l es[i]).1 = 0
      · obtain ⟨c1, c2⟩ := rf h (by omega) es[i]
        rw [if_neg (by simp [h0]), if_pos h0, bM (by omega)]
        have e : ((i : Int) + 1) = ((i + 1 : Nat) : Int) := by omega
        rw [e]
        exact oz es hes hK f (i + 1) _ c1 (by omega) (by omega) (by omega)
      · rw [if_pos h0, if_neg h0, if_neg h0]
    · rw [if_neg (by omega), List.drop_eq_nil_of_le (by omega)]
      simp [je]
theorem Cp {K : Nat} (hK : 200000 ≤ K) : gr K = some [] := by
  obtain ⟨k, rfl⟩ : ∃ k, K = k + 1 := ⟨K - 1, by omega⟩
  rfl
theorem uv {K : Nat} (es : List En) (hes : es.length ≤ 10000) (hK : 200000 ≤ K) : ∃ r, ep K es = some r ∧ r.1 = (je [] es).1 ∧ (r.1 = 0 → r.2 = (je [] es).2) := by
  unfold ep
  have hl0 : fH K K = some () := by
    obtain ⟨k, rfl⟩ : ∃ k, K = k + 1 := ⟨K - 1, by omega⟩
    rfl
  rw [Cp hK]
  simp only [Option.bind_some]
  rw [hl0]
  have hp := oz (K := K) es hes hK K 0 [] nH.nil (by simp; omega) (by omega) (by omega)
  have e1 : ((0 : Nat) : Int) = 0 := rfl
  rw [e1] at hp
  simp only [Option.bind_some]
  rw [hp, List.drop_zero]
  simp only [Option.bind_some]
  by_cases h0 : (je [] es).1 = 0
  · rw [if_pos h0]; exact ⟨_, rfl, h0.symm, fun _ => rfl⟩
  · rw [if_neg h0]; exact ⟨_, rfl, rfl, fun h => absurd h h0⟩
end Go.Proofs.YtmgpegiekankmaaGreat.MemPlays
end
section
set_option linter.unusedVariables false
set_option linter.unusedSimpArgs false
set_option maxRecDepth 20000
namespace Go.Proofs.YtmgpegiekankmaaGreat.MemPlays
open Go E
theorem xj {y : Int} (h : 0 ≤ y) : fV y = qt y := by
  unfold fV qt
  rw [nl h, nl h, nl h]
  by_cases h1 : y % 4 = 0
  · by_cases h2 : y % 100 = 0
    · simp [h1, h2]
      rw [Bool.eq_iff_iff]; simp
    · simp [h1, h2]
  · simp [h1]
theorem xG {y : Int} (h : 0 ≤ y) : eA y = if qt y = true then 366 else 365 := by
  unfold eA
  simp only [fg, xj h]
theorem length_eq {y m : Int} (h : 0 ≤ y) (h1 : 1 ≤ m) (h2 : m ≤ 12) : cL y m = tu y m := by
  unfold cL tu
  simp only [fg, xj h]
  have hm : m = 1 ∨ m = 2 ∨ m = 3 ∨ m = 4 ∨ m = 5 ∨ m = 6 ∨ m = 7 ∨ m = 8 ∨ m = 9 ∨ m = 10 ∨ m = 11 ∨ m = 12 := by omega
  rcases hm with rfl | rfl | rfl | rfl | rfl | rfl | rfl | rfl | rfl | rfl | rfl | rfl <;> simp
theorem nZ {k : Int} (h0 : 0 ≤ k) (h1 : k ≤ 37000) : 0 ≤ lH k ∧ lH k ≤ 2000000 := by
  have a := lF h0
  rw [pv] at a
  have b := lF h1
  have c : lH 37000 ≤ 2000000 := by decide
  omega
theorem sF {K : Nat} {a : Int} (ha : a ≤ 4901) : ∀ (f : Nat) (n y : Int), 1970 ≤ y → y ≤ a → n = lH (12 * (y - 1970)) → a - y < f → fA K a f n y = some (lH (12 * (a - 1970)))
  | 0, n, y, h0, h1, h2, h3 => by omega
  | f + 1, n, y, h0, h1, h2, h3 => by
    unfold fA
    by_cases hy : y < a
    · rw [if_pos hy]
      have b := nZ (k := 12 * (y - 1970)) (by omega) (by omega)
      simp only [fg, xG (show 0 ≤ y by omega)]
      have e := uJ y
      rw [bM (n := y + 1) (by omega), bM (by split <;> omega)]
      exact sF ha f _ (y + 1) (by omega) (by omega) (by rw [h2, e]) (by omega)
    · rw [if_neg hy]
      have : y = a := by omega
      rw [h2, this]
theorem sL {K : Nat} {y a : Int} (hy : 1970 ≤ y) (hy2 : y ≤ 4901) (ha : a ≤ 12) : ∀ (f : Nat) (n m : Int), 1 ≤ m → m ≤ a → n = lH (12 * (y - 1970) + m - 1) → a - m < f → fw K y a f n m = some (lH (12 * (y - 1970) + a - 1))
  | 0, n, m, h0, h1, h2, h3 => by omega
  | f + 1, n, m, h0, h1, h2, h3 => by
    unfold fw
    by_cases hm : m < a
    · rw [if_pos hm]
      have b := nZ (k := 12 * (y - 1970) + m - 1) (by omega) (by omega)
      simp only [fg, length_eq (show 0 ≤ y by omega) h0 (by omega)]
      have c := nS y m
      have e := pc (12 * (y - 1970) + m - 1)
      have e1 : 1970 + (12 * (y - 1970) + m - 1) / 12 = y := by omega
      have e2 : (12 * (y - 1970) + m - 1) % 12 + 1 = m := by omega
      rw [e1, e2] at e
      rw [bM (n := m + 1) (by omega), bM (by omega)]
      refine sL hy hy2 ha f _ (m + 1) (by omega) (by omega) ?_ (by omega)
      rw [h2, ← e]; congr 1; omega
    · rw [if_neg hm]
      have : m = a := by omega
      rw [h2, this]
theorem tV {K : Nat} {y m : Int} (hK : 200000 ≤ K) (h0 : 1970 ≤ y) (h1 : y ≤ 4900) (h2 : 1 ≤ m) (h3 : m ≤ 12) : gE K y m 1 = some (lH (12 * (y - 1970) + m - 1), true) := by
  unfold gE
  have c := nS y m
  rw [if_neg (by omega), if_neg (by omega), if_neg (by omega)]
  simp only [fg, length_eq (show 0 ≤ y by omega) h2 h3]
  rw [if_neg (by omega), sF (by omega) K 0 1970 (by omega) h0 (by decide) (by omega)]
  simp only [Option.bind_some]
  rw [sL h0 (by omega) h3 K _ 1 (by omega) h2 (by congr 1; omega) (by omega)]
  have b := nZ (k := 12 * (y - 1970) + m - 1) (by omega) (by omega)
  simp only [Option.bind_some]
  rw [bM (n := lH (12 * (y - 1970) + m - 1) + 1) (by omega), bM (by omega)]
  congr 2; omega
theorem uj {K : Nat} {k : Int} (hK : 200000 ≤ K) (h0 : 0 ≤ k) (h1 : k ≤ 30000) : iw K k = some (lH k, lH (k + 1)) := by
  unfold iw
  have e1 : ba (Int.tdiv k 12) = k / 12 := by rw [ks h0, bM (by omega)]
  have e2 : Int.tmod k 12 = k % 12 := nl h0
  rw [e1, e2, bM (n := 1970 + k / 12) (by omega), bM (n := k % 12 + 1) (by omega), tV hK (by omega) (by omega) (by omega) (by omega)]
  have e3 : 12 * (1970 + k / 12 - 1970) + (k % 12 + 1) - 1 = k := by omega
  have b := nZ h0 (show k ≤ 37000 by omega)
  have c := nS (1970 + k / 12) (k % 12 + 1)
  simp only [Option.bind_some, fg, length_eq (show 0 ≤ 1970 + k / 12 by omega) (show 1 ≤ k % 12 + 1 by omega) (by omega), e3]
  rw [bM (by omega), pc]
theorem xI {K : Nat} {d : Int} (hd : d ≤ 1000000) : ∀ (f : Nat) (r y : Int), 1970 ≤ y → r = d - lH (12 * (y - 1970)) → 0 ≤ r → 5000 - y < f →
    ∃ Y, gl K f r y = some (d - lH (12 * (Y - 1970)), Y) ∧ 1970 ≤ Y ∧ Y < 5000 ∧ lH (12 * (Y - 1970)) ≤ d ∧ d < lH (12 * (Y + 1 - 1970))
  | 0, r, y, h0, h1, h2, h3 => by
    have a := lF (show 36360 ≤ 12 * (y - 1970) by omega)
    have b : (1000000 : Int) < lH 36360 := by decide
    omega
  | f + 1, r, y, h0, h1, h2, h3 => by
    have hy : y < 5000 := by
      apply Classical.byContradiction
      intro hc
      have a := lF (show 36360 ≤ 12 * (y - 1970) by omega)
      have b : (1000000 : Int) < lH 36360 := by decide
      omega
    unfold gl
    simp only [fg, xG (show 0 ≤ y by omega)]
    have e := uJ y
    have b := nZ (k := 12 * (y - 1970)) (by omega) (by omega)
    by_cases hc : (if qt y = true then 366 else 365) ≤ r
    · rw [if_pos hc, if_pos hy, bM (n := y + 1) (by omega), bM (by split <;> omega)]
      exact xI hd f _ (y + 1) (by omega) (by rw [e]; omega) (by omega) (by omega)
    · rw [if_neg hc]
      exact ⟨y, by rw [h1], h0, hy, by omega, by rw [e]; omega⟩
theorem xd {K : Nat} {d y z : Int} (hd : d ≤ 1000000) (hy : 1970 ≤ y) (hy2 : y < 5000) (hd2 : d < lH (12 * (y + 1 - 1970))) : ∀ (f : Nat) (r m : Int), 1 ≤ m → m ≤ 12 → r = d - lH (12 * (y - 1970) + m - 1) → 0 ≤ r → 12 - m < f →
    ∃ M, gd K (z, y) f r m = some (d - lH (12 * (y - 1970) + M - 1), M) ∧ 1 ≤ M ∧ M ≤ 12 ∧ lH (12 * (y - 1970) + M - 1) ≤ d ∧ d < lH (12 * (y - 1970) + M)
  | 0, r, m, h0, h1, h2, h3, h4 => by omega
  | f + 1, r, m, h0, h1, h2, h3, h4 => by
    unfold gd
    simp only []
    have b := nZ (k := 12 * (y - 1970) + m - 1) (by omega) (by omega)
    by_cases hm : m < 12
    · rw [if_pos hm]
      simp only [fg, length_eq (show 0 ≤ y by omega) h0 (by omega)]
      have c := nS y m
      have e := pc (12 * (y - 1970) + m - 1)
      have e1 : 1970 + (12 * (y - 1970) + m - 1) / 12 = y := by omega
      have e2 : (12 * (y - 1970) + m - 1) % 12 + 1 = m := by omega
      have e3 : 12 * (y - 1970) + m - 1 + 1 = 12 * (y - 1970) + m := by omega
      rw [e1, e2, e3] at e
      by_cases hc : tu y m ≤ r
      · rw [if_pos hc, bM (n := m + 1) (by omega), bM (by omega)]
        refine xd hd hy hy2 hd2 f _ (m + 1) (by omega) (by omega) ?_ (by omega) (by omega)
        have e4 : 12 * (y - 1970) + (m + 1) - 1 = 12 * (y - 1970) + m := by omega
        rw [e4, e]; omega
      · rw [if_neg hc]
        exact ⟨m, by rw [h2], h0, h1, by omega, by rw [e]; omega⟩
    · rw [if_neg hm]
      have e : m = 12 := by omega
      subst e
      refine ⟨12, by rw [h2], by omega, by omega, by omega, ?_⟩
      have e4 : 12 * (y - 1970) + 12 = 12 * (y + 1 - 1970) := by omega
      rw [e4]; exact hd2
theorem sa {K : Nat} {d : Int} (hK : 200000 ≤ K) (h0 : 0 ≤ d) (h1 : d ≤ 1000000) : gb K d = some (fL d) := by
  unfold gb iY
  obtain ⟨Y, e1, y1, y2, y3, y4⟩ := xI (K := K) h1 K d 1970 (by omega) (by rw [show (12 : Int) * (1970 - 1970) = 0 by decide, pv]; omega) h0 (by omega)
  rw [e1]
  simp only [Option.bind_some]
  obtain ⟨M, e2, m1, m2, m3, m4⟩ := xd (K := K) (z := d - lH (12 * (Y - 1970))) h1 y1 y2 y4 K (d - lH (12 * (Y - 1970))) 1 (by omega) (by omega) (by congr 2; omega) (by omega) (by omega)
  rw [e2]
  simp only [Option.bind_some]
  obtain ⟨a0, a1, a2⟩ := oH h0 h1
  have e3 : fL d = 12 * (Y - 1970) + M - 1 := pR a1 a2 m3 (by rw [show 12 * (Y - 1970) + M - 1 + 1 = 12 * (Y - 1970) + M by omega]; exact m4)
  rw [e3, bM (n := Y - 1970) (by omega), bM (n := (Y - 1970) * 12) (by omega), bM (n := (Y - 1970) * 12 + M) (by omega), bM (by omega)]
  congr 1; omega
theorem AR {K : Nat} (t : Int) (hK : 200000 ≤ K) : ib K t = some (mL t) := by
  unfold ib mL
  by_cases h1 : t = 1
  · simp [h1]
  · by_cases h2 : t = 2
    · simp [h2]
    · by_cases h3 : t = 3
      · subst h3
        simp [sa hK (show (0 : Int) ≤ 699050 by omega) (by omega), uh]
      · simp [h1, h2, h3]
theorem lA {K : Nat} (t i : Int) (hK : 200000 ≤ K) : cD K t i = some (decide (qz ⟨t, i⟩)) := by
  unfold cD qz
  by_cases h : 0 ≤ i
  · simp [h, AR t hK]
  · simp [h]
theorem lf {K : Nat} {t i : Int} (hK : 200000 ≤ K) (h : qz ⟨t, i⟩) : db K t i = some (lB ⟨t, i⟩, oF ⟨t, i⟩) := by
  have hm := uO t
  have h0 : 0 ≤ i := h.1
  have h1 : i ≤ mL t := h.2
  unfold db
  rw [lA t i hK]
  simp only [Option.bind_some, h, decide_true, Bool.not_true, Bool.false_eq_true, if_false]
  rcases qJ h0 h1 with rfl | rfl | rfl
  · simp [lB, oF, lr, tz]
    rw [bM (by omega)]
  · have h1' : i ≤ 699050 := h1
    simp [lB, oF, lr, tz]
    rw [bM (n := 24 * i) (by omega), bM (n := i + 1) (by omega), bM (by omega)]
    simp
  · have h1' : i ≤ 22967 := h1
    have a := mw h0 (by omega)
    have b := mw (k := i + 1) (by omega) (by omega)
    simp [lB, oF, lr, tz, uj hK h0 (show i ≤ 30000 by omega)]
    rw [bM (n := 24 * lH i) (by omega), bM (by omega)]
    simp
theorem qy {K : Nat} {p q : aW} (hK : 200000 ≤ K) (hp : qz p) (hq : qz q) : gP K p.Tier p.Index q.Tier q.Index = some (decide (lB p < oF q ∧ lB q < oF p)) := by
  unfold gP
  rw [lf hK (show qz ⟨p.Tier, p.Index⟩ from hp), lf hK (show qz ⟨q.Tier, q.Index⟩ from hq), lA _ _ hK, lA _ _ hK]
  have e1 : decide (qz ⟨p.Tier, p.Index⟩) = true := decide_eq_true hp
  have e2 : decide (qz ⟨q.Tier, q.Index⟩) = true := decide_eq_true hq
  rw [e1, e2]
  simp only [Option.bind_some, if_true]
  by_cases h : lB ⟨p.Tier, p.Index⟩ < oF ⟨q.Tier, q.Index⟩
  · simp [h]
  · simp [h]
theorem rT {K : Nat} {p q : aW} (hK : 200000 ≤ K) (hp : qz p) (hq : qz q) : ij K p.Tier p.Index q.Tier q.Index = some (decide (lB p < lB q ∨ lB p = lB q ∧ p.Tier < q.Tier)) := by
  unfold ij
  rw [lf hK (show qz ⟨p.Tier, p.Index⟩ from hp), lf hK (show qz ⟨q.Tier, q.Index⟩ from hq), lA _ _ hK, lA _ _ hK]
  have e1 : decide (qz ⟨p.Tier, p.Index⟩) = true := decide_eq_true hp
  have e2 : decide (qz ⟨q.Tier, q.Index⟩) = true := decide_eq_true hq
  rw [e1, e2]
  simp only [Option.bind_some, if_true]
  by_cases h : lB ⟨p.Tier, p.Index⟩ < lB ⟨q.Tier, q.Index⟩
  · simp [h]
  · by_cases h2 : lB ⟨p.Tier, p.Index⟩ = lB ⟨q.Tier, q.Index⟩
    · simp [h2]
    · simp [h, h2]
theorem zX (a b c : Int) : fI a b c = decide (b ≤ a ∧ a ≤ c) := by
  unfold fI
  by_cases h : b ≤ a <;> simp [h]
theorem zU {K : Nat} (e : En) (hK : 200000 ≤ K) : gT K e.Part.Tier e.Part.Index e.Seg e.Mark e.Rows e.Cold = some (decide (Bb e)) := by
  unfold gT
  rw [lA _ _ hK]
  have e0 : decide (qz ⟨e.Part.Tier, e.Part.Index⟩) = decide (qz e.Part) := rfl
  rw [e0]
  unfold Bb
  simp only [fg, zX, Option.bind_some]
  by_cases h1 : qz e.Part
  · by_cases h2 : 1 ≤ e.Seg ∧ e.Seg ≤ 4611686018427387904
    · by_cases h3 : 1 ≤ e.Rows ∧ e.Rows ≤ 4611686018427387904
      · by_cases h4 : 0 ≤ e.Mark ∧ e.Mark ≤ 4611686018427387904
        · by_cases h5 : e.Cold = true
          · simp [h1, h2, h3, h4, h5]
            rw [Bool.eq_iff_iff]; simp
          · simp [h1, h2, h3, h4, h5]
        · simp [h1, h2, h3, h4]
      · simp [h1, h2, h3]
    · simp [h1, h2]
  · simp [h1]
theorem tT {l : List Pr} {i : Nat} (hi : i < l.length) : (l.map (·.v)).getD i bn = (l.getD i zP).v := by
  simp [List.getD_eq_getElem?_getD, List.getElem?_eq_getElem hi]
theorem mQ {K : Nat} {l : List Pr} (h : nH l) {e : En} (he : qz e.Part) (hK : 200000 ≤ K) : ∀ (f i : Nat) (k : Int), (∃ j, i ≤ j ∧ j < l.length ∧ tP kk hh (lB e.Part) (oF e.Part) (l.getD j zP) = true) → l.length - i < f →
    dG K (l.map (·.v)) e.Part.Tier e.Part.Index f k i = some (Sum.inr (12, []))
  | 0, i, k, hj, hf => by omega
  | f + 1, i, k, ⟨j, h1, h2, h3⟩, hf => by
    have hlen := h.len
    have hi : i < l.length := by omega
    unfold dG
    rw [if_pos (by simp; omega), if_pos (by omega)]
    simp only [Int.toNat_natCast]
    rw [tT hi]
    have hm := mT hi
    rw [qy hK (h.rt _ hm) he]
    simp only [Option.bind_some]
    have hk := h.key _ hm
    by_cases hc : lB (l.getD i zP).v.Part < oF e.Part ∧ lB e.Part < oF (l.getD i zP).v.Part
    · rw [if_pos (decide_eq_true hc)]
    · have e0 : decide (lB (l.getD i zP).v.Part < oF e.Part ∧ lB e.Part < oF (l.getD i zP).v.Part) = false := decide_eq_false hc
      rw [e0]
      simp only [Bool.false_eq_true, if_false]
      have hij : i ≠ j := by
        rintro rfl
        rw [qM] at h3
        apply hc
        rw [← hk]
        exact ⟨h3.2, h3.1⟩
      rw [rT hK (h.rt _ hm) he]
      simp only [Option.bind_some]
      rw [bM (by omega)]
      have e1 : ((i : Int) + 1) = ((i + 1 : Nat) : Int) := by omega
      rw [e1]
      split
      · exact mQ h he hK f (i + 1) _ ⟨j, by omega, h2, h3⟩ (by omega)
      · exact mQ h he hK f (i + 1) _ ⟨j, by omega, h2, h3⟩ (by omega)
theorem nC {K : Nat} {l : List Pr} (h : nH l) {e : En} (he : qz e.Part) (hK : 200000 ≤ K) (hno : l.filter (tP kk hh (lB e.Part) (oF e.Part)) = []) : ∀ (f i : Nat) (k : Int), i ≤ l.length → k = ((min i (kg kk l (lB e.Part)) : Nat) : Int) → l.length - i < f →
    dG K (l.map (·.v)) e.Part.Tier e.Part.Index f k i = some (Sum.inl (kg kk l (lB e.Part) : Int))
  | 0, i, k, hi0, hk0, hf => by omega
  | f + 1, i, k, hi0, hk0, hf => by
    have hlen := h.len
    have hcl := oC (key := kk) l (lB e.Part)
    unfold dG
    by_cases hi : i < l.length
    · rw [if_pos (by simp; omega), if_pos (by omega)]
      simp only [Int.toNat_natCast]
      rw [tT hi]
      have hm := mT hi
      have hk := h.key _ hm
      rw [qy hK (h.rt _ hm) he]
      simp only [Option.bind_some]
      have hc : ¬ (lB (l.getD i zP).v.Part < oF e.Part ∧ lB e.Part < oF (l.getD i zP).v.Part) := by
        intro hc
        have := List.filter_eq_nil_iff.1 hno _ hm
        apply this
        rw [qM]
        refine ⟨hc.2, ?_⟩
        show (l.getD i zP).k < _
        rw [hk]; exact hc.1
      have e0 : decide (lB (l.getD i zP).v.Part < oF e.Part ∧ lB e.Part < oF (l.getD i zP).v.Part) = false := decide_eq_false hc
      rw [e0]
      simp only [Bool.false_eq_true, if_false]
      rw [rT hK (h.rt _ hm) he]
      simp only [Option.bind_some]
      rw [bM (by omega)]
      have e1 : ((i : Int) + 1) = ((i + 1 : Nat) : Int) := by omega
      rw [e1]
      have hl1 := tw he
      have hl2 := tw (h.rt _ hm)
      have hcl2 := qU h.srt (k := lB e.Part) (z := zP) hi
      simp only [kk] at hcl2
      rw [hk] at hcl2
      by_cases hls : lB (l.getD i zP).v.Part < lB e.Part
      · rw [if_pos (by simp; exact .inl hls)]
        exact nC h he hK hno f (i + 1) _ (by omega) (by have := hcl2.1 hls; omega) (by omega)
      · have : ¬ i < kg kk l (lB e.Part) := fun hx => hls (hcl2.2 hx)
        rw [if_neg (by simp only [decide_eq_true_eq]; omega)]
        exact nC h he hK hno f (i + 1) _ (by omega) (by omega) (by omega)
    · rw [if_neg (by simp; omega)]
      congr 2
      omega
theorem wA {K : Nat} {l : List Pr} (h : nH l) (hl : l.length ≤ 99999) (e : En) (hK : 200000 ≤ K) :
    gR K (l.map (·.v)) e.Part.Tier e.Part.Index e.Seg e.Mark e.Rows e.Cold = some ((pl l e).1, if (pl l e).1 = 0 then (pl l e).2.map (·.v) else []) := by
  unfold gR pl
  rw [zU e hK]
  simp only [Option.bind_some]
  by_cases he : Bb e
  · simp only [he, decide_true, Bool.not_true, Bool.false_eq_true, if_false, if_true]
    by_cases hno : l.filter (tP kk hh (lB e.Part) (oF e.Part)) = []
    · have hcl := oC (key := kk) l (lB e.Part)
      have hp := nC h he.1 hK hno K 0 0 (by omega) (by simp) (by have := h.len; omega)
      have e0 : ((0 : Nat) : Int) = 0 := rfl
      rw [e0] at hp
      rw [hp, if_pos hno]
      simp only [Option.bind_some, zb]
      rw [if_pos (by omega), if_pos (by simp; omega)]
      simp only [Int.toNat_natCast]
      rw [if_pos (by simp; omega), if_pos (by simp; omega), if_pos (by simp; omega)]
      simp [Bu]
    · have hex : ∃ j, 0 ≤ j ∧ j < l.length ∧ tP kk hh (lB e.Part) (oF e.Part) (l.getD j zP) = true := by
        obtain ⟨x, hx⟩ := List.exists_mem_of_ne_nil _ hno
        obtain ⟨hx1, hx2⟩ := List.mem_filter.1 hx
        obtain ⟨i, hi1, hi2⟩ := List.getElem_of_mem hx1
        refine ⟨i, by omega, hi1, ?_⟩
        have e3 : l.getD i zP = x := by simp [List.getD_eq_getElem?_getD, List.getElem?_eq_getElem hi1, hi2]
        rw [e3]; exact hx2
      have hp := mQ h he.1 hK K 0 0 hex (by have := h.len; omega)
      have e0 : ((0 : Nat) : Int) = 0 := rfl
      rw [e0] at hp
      rw [hp, if_neg hno]
      simp [zb]
  · simp only [he, decide_false, Bool.not_false, if_true, if_false]
    simp
theorem qr {K : Nat} {es : List En} (hes : es.length ≤ 10000) (hK : 200000 ≤ K) : ∀ (f i : Nat) (l : List Pr), nH l → l.length + (es.length - i) ≤ 99999 → i ≤ es.length → es.length - i < f →
    eo K es f i (l.map (·.v)) = some ((je l (es.drop i)).1, if (je l (es.drop i)).1 = 0 then (je l (es.drop i)).2.map (·.v) else [])
  | 0, i, l, h, h1, h2, h3 => by omega
  | f + 1, i, l, h, h1, h2, h3 => by
    unfold eo
    by_cases hi : i < es.length
    · rw [if_pos (by omega), if_pos (by omega)]
      simp only [Int.toNat_natCast]
      rw [wA h (by omega) (es.getD i bn) hK]
      simp only [Option.bind_some]
      rw [List.drop_eq_getElem_cons hi, B7 hi]
      unfold je
      by_cases h0 : (pl l es[i]).1 = 0
      · obtain ⟨c1, c2⟩ := rf h (by omega) es[i]
        rw [if_neg (by simp [h0]), if_pos h0, if_pos h0, bM (by omega)]
        have e : ((i : Int) + 1) = ((i + 1 : Nat) : Int) := by omega
        rw [e]
        exact qr hes hK f (i + 1) _ c1 (by omega) (by omega) (by omega)
      · rw [if_pos h0, if_neg h0]
        simp [h0]
    · rw [if_neg (by omega), List.drop_eq_nil_of_le (by omega)]
      simp [je]
theorem ug {K : Nat} {es : List En} (hes : es.length ≤ 10000) (hK : 200000 ≤ K) : ∃ r, fx K es = some r ∧ ((je [] es).1 = 0 → r.2 = (je [] es).2.map (·.v)) := by
  unfold fx
  have hl0 : gy K K = some () := by
    obtain ⟨k, rfl⟩ : ∃ k, K = k + 1 := ⟨K - 1, by omega⟩
    rfl
  rw [hl0]
  have hp := qr (K := K) (es := es) (by omega) hK K 0 [] nH.nil (by simp; omega) (by omega) (by omega)
  have e0 : ((0 : Nat) : Int) = 0 := rfl
  have em : ([] : List Pr).map (·.v) = [] := rfl
  rw [e0, em] at hp
  simp only [Option.bind_some]
  rw [hp, List.drop_zero]
  exact ⟨_, rfl, fun h => by simp [h]⟩
theorem yY {K : Nat} (hK : 200000 ≤ K) {p : aW} (hp : qz p) (h : Int) : iJ K p.Tier p.Index h = some (decide (lB p ≤ h ∧ h < oF p)) := by
  unfold iJ
  rw [lf hK hp]
  simp only [Option.bind_some]
  show (if lB p ≤ h then some (decide (h < oF p)) else some false) = _
  by_cases q : lB p ≤ h <;> simp [q]
theorem un {K : Nat} (hK : 200000 ≤ K) {l : List Pr} (hc : nH l) (n : Int) : ∀ (f i : Nat), i ≤ l.length → l.length - i < f → gi K (l.map (·.v)) n f i = some (mI (((l.drop i).find? (qE kk hh n)).map (·.v)))
  | 0, i, h1, h2 => by omega
  | f + 1, i, h1, h2 => by
    have hlen := hc.len
    rw [gi]
    by_cases hi : i < l.length
    · have hm : l.getD i zP ∈ l := mT hi
      have hr := hc.rt _ hm
      have hk := hc.key _ hm
      rw [if_pos (by simp; omega), if_pos (by omega)]
      simp only [Int.toNat_natCast, tT hi]
      rw [yY hK hr]
      simp only [Option.bind_some]
      have eg : l.getD i zP = l[i] := by simp [List.getD_eq_getElem?_getD, List.getElem?_eq_getElem hi]
      rw [List.drop_eq_getElem_cons hi, List.find?_cons]
      have ec : qE kk hh n l[i] = decide (lB (l.getD i zP).v.Part ≤ n ∧ n < oF (l.getD i zP).v.Part) := by
        rw [← hk, eg]; rfl
      rw [ec]
      by_cases q : lB (l.getD i zP).v.Part ≤ n ∧ n < oF (l.getD i zP).v.Part
      · rw [decide_eq_true q, if_pos rfl, eg]; rfl
      · rw [decide_eq_false q, if_neg (by simp), bM (by omega)]
        have e : ((i : Int) + 1) = ((i + 1 : Nat) : Int) := by omega
        rw [e]
        exact un hK hc n f (i + 1) (by omega) (by omega)
    · rw [if_neg (by simp; omega), List.drop_eq_nil_of_le (by omega)]; rfl
theorem zp {K : Nat} (hK : 200000 ≤ K) {l : List Pr} (hc : nH l) (n : Int) : iy K (l.map (·.v)) n = some (mI (pL l n)) := by
  have hlen := hc.len
  have h := un hK hc n K 0 (by omega) (by omega)
  have e0 : ((0 : Nat) : Int) = 0 := rfl
  rw [e0] at h
  unfold iy
  rw [h]
  rfl
end Go.Proofs.YtmgpegiekankmaaGreat.MemPlays
end
section
set_option linter.unusedVariables false
set_option linter.unusedSimpArgs false
set_option maxRecDepth 20000
namespace Go.Proofs.YtmgpegiekankmaaGreat.MemPlays
open Go E
abbrev sk := aF
abbrev jU := aB
theorem ph {i : Nat} (h : i < 100000) : ba ((i : Int) + 1) = ((i + 1 : Nat) : Int) := by rw [bM (by omega)]; omega
theorem xH (l : List jU) (hl : l.length ≤ 100) : bz l = some l := by
  unfold bz
  by_cases h : 0 < l.length
  · rw [if_pos h, if_pos (by simp; omega)]; rfl
  · rw [if_neg h, if_pos (by simp)]
    have : l = [] := List.eq_nil_of_length_eq_zero (by omega)
    subst this; rfl
def qA (a b : Int) (f : jU) : Bool := decide (a ≤ f.Key.Hour) && decide (f.Key.Hour < b)
def nV (l : List aI) : List jU := l.flatMap (·.Facts)
def nO (x : aI) : List sk := x.Facts.map fun f => ⟨x.Seq, x.Tick, x.Budget, f⟩
def iP (l : List aI) : List sk := l.flatMap nO
theorem sY (x : aI) : (nO x).length = x.Facts.length := by simp [nO]
theorem lw (x : aI) (l : List aI) : iP (x :: l) = nO x ++ iP l := by simp [iP]
theorem wV (l m : List aI) : iP (l ++ m) = iP l ++ iP m := by simp [iP]
theorem oM (l : List aI) : (iP l).map (·.F) = nV l := by
  induction l with
  | nil => rfl
  | cons x l ih =>
    rw [lw, List.map_append, ih]
    simp [nO, nV, List.map_map, Function.comp_def]
theorem uy (p : jU → Bool) (L : List sk) : (L.filter fun r => p r.F).map (·.F) = (L.map (·.F)).filter p := by
  induction L with
  | nil => rfl
  | cons r L ih =>
    rw [List.filter_cons, List.map_cons, List.filter_cons]
    cases h : p r.F <;> simp [h, ih]
theorem Cv (l : List aI) (a b : Int) (i : Nat) (fs : List jU) (hfs : (l.getD i am).Facts = fs) : ∀ (f j : Nat) (acc : List jU), j ≤ fs.length → fs.length - j < f → fs.length ≤ 100 → acc.length + (fs.length - j) ≤ 10000 →
    io W l a b i f j acc = some (acc ++ (fs.drop j).filter (qA a b))
  | 0, j, acc, h0, h1, h2, h3 => by omega
  | f + 1, j, acc, h0, h1, h2, h3 => by
    rw [io]
    simp only [Int.toNat_natCast, hfs]
    by_cases h : j < fs.length
    · rw [if_pos (by omega), if_pos (by omega), ph (by omega), fZ fs _ h, List.drop_eq_getElem_cons h, List.filter_cons]
      have ih0 := Cv l a b i fs hfs f (j + 1) acc (by omega) (by omega) h2 (by omega)
      have ih1 := Cv l a b i fs hfs f (j + 1) (acc ++ [fs[j]]) (by omega) (by omega) h2 (by simp; omega)
      by_cases ha : a ≤ fs[j].Key.Hour
      · rw [if_pos ha]
        by_cases hb : fs[j].Key.Hour < b
        · have e : qA a b fs[j] = true := by simp [qA, ha, hb]
          rw [if_pos hb, if_pos (by simp; omega), if_pos e]
          rw [List.append_assoc] at ih1
          exact ih1
        · have e : ¬ qA a b fs[j] = true := by simp [qA, hb]
          rw [if_neg hb, if_neg e, ih0]
      · have e : ¬ qA a b fs[j] = true := by simp [qA, ha]
        rw [if_neg ha, if_neg e, ih0]
    · rw [if_neg (by omega), List.drop_eq_nil_of_le (by omega)]; simp
theorem CM (l : List aI) (a b : Int) (hl : l.length ≤ 40) (hf : ∀ x ∈ l, x.Facts.length ≤ 100) : ∀ (f i : Nat) (acc : List jU), i ≤ l.length → l.length - i < f → acc.length + (l.length - i) * 100 ≤ 10000 →
    jv W l a b f i acc = some (acc ++ (nV (l.drop i)).filter (qA a b))
  | 0, i, acc, h0, h1, h2 => by omega
  | f + 1, i, acc, h0, h1, h2 => by
    rw [jv]
    by_cases h : i < l.length
    · have hx := hf l[i] (List.getElem_mem h)
      have e := Cv l a b i l[i].Facts (by rw [fZ l _ h]) W 0 acc (by omega) (by unfold W; omega) hx (by omega)
      have e0 : ((0 : Nat) : Int) = 0 := rfl
      rw [e0] at e
      have hle : ((l[i].Facts).filter (qA a b)).length ≤ l[i].Facts.length := List.length_filter_le _ _
      rw [if_pos (by omega), if_pos (by omega), e, ph (by omega)]
      simp only [Option.bind_some, List.drop_zero]
      rw [CM l a b hl hf f (i + 1) _ (by omega) (by omega) (by simp; omega), List.drop_eq_getElem_cons h]
      simp only [nV, List.flatMap_cons, List.filter_append, List.append_assoc]
    · rw [if_neg (by omega), List.drop_eq_nil_of_le (by omega)]; simp [nV]
structure pb (l : List aI) : Prop where
  len : l.length ≤ 40
  each : ∀ x ∈ l, x.Facts.length ≤ 100
theorem zf {l : List aI} (hI : pb l) (d s a b : Int) : fE W d l s a b = some ((nV l).filter (qA a b)) := by
  have := hI.len
  have e := CM l a b hI.len hI.each W 0 [] (by omega) (by unfold W; omega) (by simp; omega)
  have e0 : ((0 : Nat) : Int) = 0 := rfl
  rw [e0] at e
  unfold fE lq
  rw [e]
  rfl
theorem CD (L : List sk) (a b : Int) (hl : L.length ≤ 5000) : ∀ (f i : Nat) (acc : List jU), i ≤ L.length → L.length - i < f → acc.length ≤ i →
    cU W L a b f i acc = some (acc ++ ((L.drop i).filter fun r => qA a b r.F).map (·.F))
  | 0, i, acc, h0, h1, h2 => by omega
  | f + 1, i, acc, h0, h1, h2 => by
    rw [cU]
    by_cases h : i < L.length
    · rw [if_pos (by omega), if_pos (by omega), ph (by omega)]
      simp only [Int.toNat_natCast, fZ L _ h]
      rw [List.drop_eq_getElem_cons h, List.filter_cons]
      have ih0 := CD L a b hl f (i + 1) acc (by omega) (by omega) (by omega)
      have ih1 := CD L a b hl f (i + 1) (acc ++ [L[i].F]) (by omega) (by omega) (by simp; omega)
      by_cases ha : a ≤ L[i].F.Key.Hour
      · rw [if_pos ha]
        by_cases hb : L[i].F.Key.Hour < b
        · have e : qA a b L[i].F = true := by simp [qA, ha, hb]
          rw [if_pos hb, if_pos (by simp; omega), if_pos e]
          rw [List.append_assoc] at ih1
          exact ih1
        · have e : ¬ qA a b L[i].F = true := by simp [qA, hb]
          rw [if_neg hb, if_neg e, ih0]
      · have e : ¬ qA a b L[i].F = true := by simp [qA, ha]
        rw [if_neg ha, if_neg e, ih0]
    · rw [if_neg (by omega), List.drop_eq_nil_of_le (by omega)]; simp
theorem uf {L : List sk} (hl : L.length ≤ 5000) (d s a b : Int) : cO W d L s a b = some ((L.map (·.F)).filter (qA a b)) := by
  have e := CD L a b hl W 0 [] (by omega) (by unfold W; omega) (by simp)
  have e0 : ((0 : Nat) : Int) = 0 := rfl
  rw [e0] at e
  unfold cO
  rw [e, List.drop_zero, uy]
  rfl
theorem ur {l : List aI} (h : pb l) : (nV l).length ≤ 4000 := by
  have : ∀ l : List aI, (∀ x ∈ l, x.Facts.length ≤ 100) → (nV l).length ≤ l.length * 100 := by
    intro l
    induction l with
    | nil => intro _; simp [nV]
    | cons x l ih =>
      intro hx
      have h1 := ih fun y hy => hx y (by simp [hy])
      have h2 := hx x (by simp)
      have e1 : nV (x :: l) = x.Facts ++ nV l := by simp [nV]
      rw [e1]
      simp only [List.length_append, List.length_cons]
      omega
  have h1 := this l h.each
  have h2 := h.len
  omega
theorem ri {l : List aI} (h : pb l) : (iP l).length ≤ 4000 := by
  have := ur h
  rw [← oM, List.length_map] at this
  exact this
abbrev pX := Int → jU → Bool
def kR (g : pX) (s : Int) (l : List jU) : List jU := l.filter fun f => !g s f
def mg (g : pX) : List aI → List aI
  | [] => []
  | x :: l => if 0 < (kR g x.Seq x.Facts).length then ⟨x.Seq, x.Tick, x.Budget, kR g x.Seq x.Facts⟩ :: mg g l else mg g l
def rJ (g : pX) : List aI → Nat
  | [] => 0
  | x :: l => (x.Facts.length - (kR g x.Seq x.Facts).length) + rJ g l
theorem oZ (g : pX) (s : Int) (l : List jU) : (kR g s l).length ≤ l.length := List.length_filter_le _ _
theorem yq (g : pX) (x : aI) : (nO x).filter (fun r => !g r.Seq r.F) = nO ⟨x.Seq, x.Tick, x.Budget, kR g x.Seq x.Facts⟩ := by
  simp only [nO, kR, List.filter_map]
  rfl
theorem rC (g : pX) : ∀ l : List aI, iP (mg g l) = (iP l).filter (fun r => !g r.Seq r.F)
  | [] => rfl
  | x :: l => by
    have ih := rC g l
    rw [lw, List.filter_append, ← ih, yq, mg]
    split
    · rw [lw]
    · rename_i h
      have : kR g x.Seq x.Facts = [] := List.eq_nil_of_length_eq_zero (by omega)
      rw [this]; rfl
theorem tj (g : pX) : ∀ l : List aI, rJ g l + (iP (mg g l)).length = (iP l).length
  | [] => rfl
  | x :: l => by
    have ih := tj g l
    have hk := oZ g x.Seq x.Facts
    rw [rJ, lw, List.length_append, sY, mg]
    split
    · rw [lw, List.length_append, sY]
      simp only
      omega
    · omega
theorem rU (g : pX) : ∀ l : List aI, (mg g l).length ≤ l.length
  | [] => by simp [mg]
  | x :: l => by
    have ih := rU g l
    rw [mg]
    split <;> simp <;> omega
theorem nN (g : pX) : ∀ (l : List aI) (y : aI), y ∈ mg g l → ∃ x ∈ l, y = ⟨x.Seq, x.Tick, x.Budget, kR g x.Seq x.Facts⟩ ∧ 0 < (kR g x.Seq x.Facts).length
  | [], y, h => by simp [mg] at h
  | x :: l, y, h => by
    rw [mg] at h
    split at h
    · rename_i hp
      rw [List.mem_cons] at h
      rcases h with rfl | h
      · exact ⟨x, by simp, rfl, hp⟩
      · obtain ⟨z, hz, e⟩ := nN g l y h; exact ⟨z, by simp [hz], e⟩
    · obtain ⟨z, hz, e⟩ := nN g l y h; exact ⟨z, by simp [hz], e⟩
theorem rG (g : pX) : ∀ l : List aI, l.Pairwise (fun a b => a.Seq < b.Seq) → (mg g l).Pairwise (fun a b => a.Seq < b.Seq)
  | [], _ => List.Pairwise.nil
  | x :: l, h => by
    rw [List.pairwise_cons] at h
    rw [mg]
    split
    · rw [List.pairwise_cons]
      refine ⟨fun y hy => ?_, rG g l h.2⟩
      obtain ⟨z, hz, rfl, _⟩ := nN g l y hy
      exact h.1 z hz
    · exact rG g l h.2
end Go.Proofs.YtmgpegiekankmaaGreat.MemPlays
end
section
set_option linter.unusedVariables false
set_option linter.unusedSimpArgs false
set_option maxRecDepth 20000
namespace Go.Proofs.YtmgpegiekankmaaGreat.MemPlays
open Go E
def iD (a b : Int) : pX := fun _ f => qA a b f
def ia (c : List Pr) (n : Int) : pX := fun s f => decide (f.Key.Hour < n) || (match pL c f.Key.Hour with | some e => decide (s ≤ e.Mark) | none => false)
theorem Be (h : Int) (d0 d1 d2 d3 : List UInt8) (v a b s t u : Int) (l : List jU) : gO h d0 d1 d2 d3 v a b s t u l = iD a b s ⟨⟨h, d0, d1, d2, d3⟩, v⟩ := by
  unfold gO ka iD qA
  simp only [fg]
  by_cases q : a ≤ h
  · rw [if_pos q]; simp [q]
  · rw [if_neg q]; simp [q]
theorem zZ {o : Option En} {t : Int × Int × Int × Int × Int × Bool × Bool} (h : mI o = t) : (t.2.2.2.2.2.2 = true ∧ ∃ x, o = some x ∧ t.2.2.2.1 = x.Mark) ∨ (t.2.2.2.2.2.2 = false ∧ o = none) := by
  subst h
  cases o with
  | none => exact .inr ⟨rfl, rfl⟩
  | some x => exact .inl ⟨rfl, x, rfl, rfl⟩
theorem Bh {c : List Pr} (hc : nH c) (h : Int) (d0 d1 d2 d3 : List UInt8) (v n s t u : Int) (l : List jU) : gv W h d0 d1 d2 d3 v c n s t u l = some (ia c n s ⟨⟨h, d0, d1, d2, d3⟩, v⟩) := by
  unfold gv jr ia
  rw [Bn hc h (Nat.le_refl _)]
  simp only [Option.bind_some]
  generalize ht : mI (pL c h) = x
  by_cases q : h < n
  · rw [if_pos q]; simp [q]
  · rw [if_neg q]
    rcases zZ ht with ⟨hs, e, he, hx⟩ | ⟨hs, he⟩
    · rw [if_pos hs, he, hx]; simp [q]
    · rw [if_neg (by simp [hs]), he]; simp [q]
theorem Bk (l : List jU) (hl : l.length ≤ 100) (a b s t u : Int) (l1 : List jU) : ∀ (f j : Nat), j ≤ l.length → l.length - j < f → (∀ x ∈ l.take j, iD a b s x = false) →
    ∃ r, cl W l a b s t u l1 f j = some r ∧ ((r = -1 ∧ ∀ x ∈ l, iD a b s x = false) ∨ ∃ m : Nat, r = m ∧ m < l.length ∧ (∀ x ∈ l.take m, iD a b s x = false) ∧ iD a b s (l.getD m ab) = true)
  | 0, j, h0, h1, hp => by omega
  | f + 1, j, h0, h1, hp => by
    rw [cl]
    by_cases h : j < l.length
    · rw [if_pos (by omega), if_pos (by omega), ph (by omega), Int.toNat_natCast]
      simp only [fg, Be]
      by_cases q : iD a b s (l.getD j ab) = true
      · rw [if_pos q]
        exact ⟨j, rfl, .inr ⟨j, rfl, h, hp, q⟩⟩
      · rw [if_neg q]
        refine Bk l hl a b s t u l1 f (j + 1) (by omega) (by omega) ?_
        intro x hx
        rw [List.take_succ_eq_append_getElem h, List.mem_append] at hx
        rcases hx with hx | hx
        · exact hp x hx
        · simp only [List.mem_singleton] at hx
          subst hx
          rw [fZ l _ h ab] at q
          simpa using q
    · rw [if_neg (by omega)]
      refine ⟨_, rfl, .inl ⟨rfl, fun x hx => hp x ?_⟩⟩
      rw [List.take_of_length_le (by omega)]
      exact hx
theorem zK (x : List jU) (hl : x.length ≤ 100) (a b s t u : Int) (l1 : List jU) : ∀ (f i j : Nat) (l : List jU), j ≤ x.length → x.length - j < f → l.length = x.length → i < j → l.take i = kR (iD a b) s (x.take j) → l.drop j = x.drop j →
    ∃ l' : List jU, ∃ n : Nat, ca W a b s t u l1 f i j l = some (l', (n : Int)) ∧ l'.length = x.length ∧ n ≤ x.length ∧ l'.take n = kR (iD a b) s x
  | 0, i, j, l, h0, h1, h2, h3, h4, h5 => by omega
  | f + 1, i, j, l, h0, h1, h2, h3, h4, h5 => by
    rw [ca]
    by_cases h : j < x.length
    · have hj : j < l.length := by omega
      have ex : l[j] = x[j] := by
        have e1 := List.drop_eq_getElem_cons hj
        rw [h5, List.drop_eq_getElem_cons h] at e1
        exact (List.cons.inj e1).1.symm
      have e2 : l.drop (j + 1) = x.drop (j + 1) := by
        have e1 := List.drop_eq_getElem_cons hj
        rw [h5, List.drop_eq_getElem_cons h] at e1
        exact (List.cons.inj e1).2.symm
      rw [if_pos (by omega), if_pos (by omega), ph (by omega), ph (by omega), Int.toNat_natCast, Int.toNat_natCast]
      simp only [fg, Be]
      rw [fZ l _ hj ab, ex]
      by_cases q : iD a b s x[j] = true
      · rw [show iD a b s ⟨⟨x[j].Key.Hour, x[j].Key.Dims_0, x[j].Key.Dims_1, x[j].Key.Dims_2, x[j].Key.Dims_3⟩, x[j].Value⟩ = true from q]
        simp only [Bool.not_true, Bool.false_eq_true, if_false]
        refine zK x hl a b s t u l1 f i (j + 1) l (by omega) (by omega) h2 (by omega) ?_ e2
        rw [h4, kR, kR, List.take_succ_eq_append_getElem h, List.filter_append]
        simp [q]
      · have q0 : iD a b s x[j] = false := by simpa using q
        rw [show iD a b s ⟨⟨x[j].Key.Hour, x[j].Key.Dims_0, x[j].Key.Dims_1, x[j].Key.Dims_2, x[j].Key.Dims_3⟩, x[j].Value⟩ = false from q0]
        simp only [Bool.not_false, if_true]
        rw [if_pos (by omega), if_pos (by omega)]
        refine zK x hl a b s t u l1 f (i + 1) (j + 1) (l.set i x[j]) (by omega) (by omega) (by simp [h2]) (by omega) ?_ ?_
        · rw [List.take_succ_eq_append_getElem (by simp; omega), List.take_set_of_le (Nat.le_refl _), h4, kR, kR, List.take_succ_eq_append_getElem h, List.filter_append]
          simp [q0]
        · rw [List.drop_set_of_lt (by omega)]; exact e2
    · rw [if_neg (by omega)]
      have ej : j = x.length := by omega
      refine ⟨l, i, rfl, h2, by omega, ?_⟩
      rw [h4, List.take_of_length_le (by omega)]
theorem AU (x : List jU) (hl : x.length ≤ 100) (a b s t u : Int) (l1 : List jU) : ct W x a b s t u l1 = some (kR (iD a b) s x) := by
  unfold ct cK
  obtain ⟨r, hr, hq⟩ := Bk x hl a b s t u l1 W 0 (by omega) (by unfold W; omega) (by simp)
  have e0 : ((0 : Nat) : Int) = 0 := rfl
  rw [e0] at hr
  rw [hr]
  simp only [Option.bind_some]
  rcases hq with ⟨rfl, hq⟩ | ⟨m, rfl, hm, hp, hq⟩
  · rw [if_pos rfl]
    congr 1
    symm
    rw [kR, List.filter_eq_self]
    intro y hy
    simp [hq y hy]
  · rw [if_neg (by omega), ph (by omega)]
    rw [fZ x _ hm ab] at hq
    obtain ⟨l', n, h1, h2, h3, h4⟩ := zK x hl a b s t u l1 W m (m + 1) x (by omega) (by unfold W; omega) rfl (by omega) (by
      rw [kR, List.take_succ_eq_append_getElem hm, List.filter_append]
      have e1 : (x.take m).filter (fun f => !iD a b s f) = x.take m := by
        rw [List.filter_eq_self]; intro y hy; simp [hp y hy]
      rw [e1]
      simp [hq]) rfl
    rw [h1]
    simp only [Option.bind_some, Int.toNat_natCast]
    rw [if_pos (by omega), if_pos (by omega), if_pos (by simp; omega), List.take_append_of_le_length (by simp; omega), List.take_take, Nat.min_self, h4]
theorem zC (l : List aI) (a b : Int) (hl : l.length ≤ 40) (hf : ∀ x ∈ l, x.Facts.length ≤ 100) : ∀ (f i m : Nat) (acc : List aI), i ≤ l.length → l.length - i < f → acc.length ≤ i → m ≤ i * 100 →
    gW W l a b f m i acc = some (acc ++ mg (iD a b) (l.drop i), ((m + rJ (iD a b) (l.drop i) : Nat) : Int))
  | 0, i, m, acc, h0, h1, h2, h3 => by omega
  | f + 1, i, m, acc, h0, h1, h2, h3 => by
    rw [gW]
    by_cases h : i < l.length
    · have hx := hf l[i] (List.getElem_mem h)
      have hk := oZ (iD a b) l[i].Seq l[i].Facts
      rw [if_pos (by omega), if_pos (by omega), ph (by omega), Int.toNat_natCast]
      simp only [fZ l _ h am]
      rw [xH _ hx]
      simp only [Option.bind_some]
      rw [AU _ hx]
      simp only [Option.bind_some]
      have en : ba ((m : Int) + ba ((l[i].Facts.length : Int) - ((kR (iD a b) l[i].Seq l[i].Facts).length : Int))) = ((m + (l[i].Facts.length - (kR (iD a b) l[i].Seq l[i].Facts).length) : Nat) : Int) := by
        rw [bM (n := (l[i].Facts.length : Int) - ((kR (iD a b) l[i].Seq l[i].Facts).length : Int)) (by omega), bM (by omega)]; omega
      rw [en, List.drop_eq_getElem_cons h, mg, rJ]
      by_cases q : 0 < (kR (iD a b) l[i].Seq l[i].Facts).length
      · rw [if_pos (by omega), if_pos (by omega), if_pos q, zC l a b hl hf f (i + 1) _ _ (by omega) (by omega) (by simp; omega) (by omega), List.append_assoc, Nat.add_assoc]
        rfl
      · rw [if_neg (by omega), if_neg q, zC l a b hl hf f (i + 1) _ _ (by omega) (by omega) (by omega) (by omega), Nat.add_assoc]
    · rw [if_neg (by omega), List.drop_eq_nil_of_le (by omega)]; simp [mg, rJ]
theorem CG {l : List aI} (hI : pb l) (d s a b : Int) : fC W d l s a b = some (mg (iD a b) l, (rJ (iD a b) l : Int)) := by
  have hlen := hI.len
  have e := zC l a b hI.len hI.each W 0 0 [] (by omega) (by unfold W; omega) (by simp) (by omega)
  have e0 : ((0 : Nat) : Int) = 0 := rfl
  rw [e0] at e
  unfold fC kx
  simp only [fg]
  rw [e]
  simp
theorem Aa (L : List sk) (a b : Int) (hl : L.length ≤ 5000) : ∀ (f i : Nat) (acc : List sk), i ≤ L.length → L.length - i < f → acc.length ≤ i →
    dg W L a b f i acc = some (acc ++ (L.drop i).filter fun r => !iD a b r.Seq r.F)
  | 0, i, acc, h0, h1, h2 => by omega
  | f + 1, i, acc, h0, h1, h2 => by
    rw [dg]
    by_cases h : i < L.length
    · rw [if_pos (by omega), if_pos (by omega), ph (by omega)]
      simp only [Int.toNat_natCast, fZ L _ h]
      rw [List.drop_eq_getElem_cons h, List.filter_cons]
      have ih0 := Aa L a b hl f (i + 1) acc (by omega) (by omega) (by omega)
      have ih1 := Aa L a b hl f (i + 1) (acc ++ [L[i]]) (by omega) (by omega) (by simp; omega)
      rw [List.append_assoc] at ih1
      have hroom : (acc.length + [L[i]].length) * 104 ≤ 140737488355328 := by simp; omega
      by_cases ha : L[i].F.Key.Hour < a
      · have e : (!iD a b L[i].Seq L[i].F) = true := by simp [iD, qA]; omega
        rw [if_pos ha, if_pos hroom, if_pos e]
        exact ih1
      · rw [if_neg ha]
        by_cases hb : b ≤ L[i].F.Key.Hour
        · have e : (!iD a b L[i].Seq L[i].F) = true := by simp [iD, qA]; omega
          rw [if_pos hb, if_pos hroom, if_pos e]
          exact ih1
        · have e : ¬ (!iD a b L[i].Seq L[i].F) = true := by simp [iD, qA]; omega
          rw [if_neg hb, if_neg e]
          exact ih0
    · rw [if_neg (by omega), List.drop_eq_nil_of_le (by omega)]; simp
theorem CE {L : List sk} (hl : L.length ≤ 5000) (d s a b : Int) : eX W d L s a b = some (L.filter (fun r => !iD a b r.Seq r.F), ((L.length - (L.filter (fun r => !iD a b r.Seq r.F)).length : Nat) : Int)) := by
  have e := Aa L a b hl W 0 [] (by omega) (by unfold W; omega) (by simp)
  have e0 : ((0 : Nat) : Int) = 0 := rfl
  have hle : (L.filter (fun r => !iD a b r.Seq r.F)).length ≤ L.length := List.length_filter_le _ _
  rw [e0] at e
  unfold eX
  rw [e, List.drop_zero, List.nil_append]
  simp only [Option.bind_some]
  rw [bM (by omega)]
  congr 2
  omega
theorem Bd {c : List Pr} (hc : nH c) (l : List jU) (hl : l.length ≤ 100) (p s t u : Int) (l1 : List jU) : ∀ (f j : Nat), j ≤ l.length → l.length - j < f → (∀ x ∈ l.take j, ia c p s x = false) →
    ∃ r, cg W l c p s t u l1 f j = some r ∧ ((r = -1 ∧ ∀ x ∈ l, ia c p s x = false) ∨ ∃ m : Nat, r = m ∧ m < l.length ∧ (∀ x ∈ l.take m, ia c p s x = false) ∧ ia c p s (l.getD m ab) = true)
  | 0, j, h0, h1, hp => by omega
  | f + 1, j, h0, h1, hp => by
    rw [cg]
    by_cases h : j < l.length
    · rw [if_pos (by omega), if_pos (by omega), ph (by omega), Int.toNat_natCast]
      simp only [Bh hc, Option.bind_some]
      by_cases q : ia c p s (l.getD j ab) = true
      · rw [if_pos q]
        exact ⟨j, rfl, .inr ⟨j, rfl, h, hp, q⟩⟩
      · rw [if_neg q]
        refine Bd hc l hl p s t u l1 f (j + 1) (by omega) (by omega) ?_
        intro x hx
        rw [List.take_succ_eq_append_getElem h, List.mem_append] at hx
        rcases hx with hx | hx
        · exact hp x hx
        · simp only [List.mem_singleton] at hx
          subst hx
          rw [fZ l _ h ab] at q
          simpa using q
    · rw [if_neg (by omega)]
      refine ⟨_, rfl, .inl ⟨rfl, fun x hx => hp x ?_⟩⟩
      rw [List.take_of_length_le (by omega)]
      exact hx
theorem zw {c : List Pr} (hc : nH c) (x : List jU) (hl : x.length ≤ 100) (p s t u : Int) (l1 : List jU) : ∀ (f i j : Nat) (l : List jU), j ≤ x.length → x.length - j < f → l.length = x.length → i < j → l.take i = kR (ia c p) s (x.take j) → l.drop j = x.drop j →
    ∃ l' : List jU, ∃ n : Nat, bW W c p s t u l1 f i j l = some (l', (n : Int)) ∧ l'.length = x.length ∧ n ≤ x.length ∧ l'.take n = kR (ia c p) s x
  | 0, i, j, l, h0, h1, h2, h3, h4, h5 => by omega
  | f + 1, i, j, l, h0, h1, h2, h3, h4, h5 => by
    rw [bW]
    by_cases h : j < x.length
    · have hj : j < l.length := by omega
      have ex : l[j] = x[j] := by
        have e1 := List.drop_eq_getElem_cons hj
        rw [h5, List.drop_eq_getElem_cons h] at e1
        exact (List.cons.inj e1).1.symm
      have e2 : l.drop (j + 1) = x.drop (j + 1) := by
        have e1 := List.drop_eq_getElem_cons hj
        rw [h5, List.drop_eq_getElem_cons h] at e1
        exact (List.cons.inj e1).2.symm
      rw [if_pos (by omega), if_pos (by omega), ph (by omega), ph (by omega), Int.toNat_natCast, Int.toNat_natCast]
      simp only [Bh hc, Option.bind_some]
      rw [fZ l _ hj ab, ex]
      by_cases q : ia c p s x[j] = true
      · rw [show ia c p s ⟨⟨x[j].Key.Hour, x[j].Key.Dims_0, x[j].Key.Dims_1, x[j].Key.Dims_2, x[j].Key.Dims_3⟩, x[j].Value⟩ = true from q]
        simp only [Bool.not_true, Bool.false_eq_true, if_false]
        refine zw hc x hl p s t u l1 f i (j + 1) l (by omega) (by omega) h2 (by omega) ?_ e2
        rw [h4, kR, kR, List.take_succ_eq_append_getElem h, List.filter_append]
        simp [q]
      · have q0 : ia c p s x[j] = false := by simpa using q
        rw [show ia c p s ⟨⟨x[j].Key.Hour, x[j].Key.Dims_0, x[j].Key.Dims_1, x[j].Key.Dims_2, x[j].Key.Dims_3⟩, x[j].Value⟩ = false from q0]
        simp only [Bool.not_false, if_true]
        rw [if_pos (by omega), if_pos (by omega)]
        refine zw hc x hl p s t u l1 f (i + 1) (j + 1) (l.set i x[j]) (by omega) (by omega) (by simp [h2]) (by omega) ?_ ?_
        · rw [List.take_succ_eq_append_getElem (by simp; omega), List.take_set_of_le (Nat.le_refl _), h4, kR, kR, List.take_succ_eq_append_getElem h, List.filter_append]
          simp [q0]
        · rw [List.drop_set_of_lt (by omega)]; exact e2
    · rw [if_neg (by omega)]
      have ej : j = x.length := by omega
      refine ⟨l, i, rfl, h2, by omega, ?_⟩
      rw [h4, List.take_of_length_le (by omega)]
theorem Ba {c : List Pr} (hc : nH c) (x : List jU) (hl : x.length ≤ 100) (p s t u : Int) (l1 : List jU) : co W x c p s t u l1 = some (kR (ia c p) s x) := by
  unfold co cH
  obtain ⟨r, hr, hq⟩ := Bd hc x hl p s t u l1 W 0 (by omega) (by unfold W; omega) (by simp)
  have e0 : ((0 : Nat) : Int) = 0 := rfl
  rw [e0] at hr
  rw [hr]
  simp only [Option.bind_some]
  rcases hq with ⟨rfl, hq⟩ | ⟨m, rfl, hm, hp, hq⟩
  · rw [if_pos rfl]
    congr 1
    symm
    rw [kR, List.filter_eq_self]
    intro y hy
    simp [hq y hy]
  · rw [if_neg (by omega), ph (by omega)]
    rw [fZ x _ hm ab] at hq
    obtain ⟨l', n, h1, h2, h3, h4⟩ := zw hc x hl p s t u l1 W m (m + 1) x (by omega) (by unfold W; omega) rfl (by omega) (by
      rw [kR, List.take_succ_eq_append_getElem hm, List.filter_append]
      have e1 : (x.take m).filter (fun f => !ia c p s f) = x.take m := by
        rw [List.filter_eq_self]; intro y hy; simp [hp y hy]
      rw [e1]
      simp [hq]) rfl
    rw [h1]
    simp only [Option.bind_some, Int.toNat_natCast]
    rw [if_pos (by omega), if_pos (by omega), if_pos (by simp; omega), List.take_append_of_le_length (by simp; omega), List.take_take, Nat.min_self, h4]
theorem zM {c : List Pr} (hc : nH c) (l : List aI) (p : Int) (hl : l.length ≤ 40) (hf : ∀ x ∈ l, x.Facts.length ≤ 100) : ∀ (f i m : Nat) (acc : List aI), i ≤ l.length → l.length - i < f → acc.length ≤ i → m ≤ i * 100 →
    gH W l c p f m i acc = some (acc ++ mg (ia c p) (l.drop i), ((m + rJ (ia c p) (l.drop i) : Nat) : Int))
  | 0, i, m, acc, h0, h1, h2, h3 => by omega
  | f + 1, i, m, acc, h0, h1, h2, h3 => by
    rw [gH]
    by_cases h : i < l.length
    · have hx := hf l[i] (List.getElem_mem h)
      have hk := oZ (ia c p) l[i].Seq l[i].Facts
      rw [if_pos (by omega), if_pos (by omega), ph (by omega), Int.toNat_natCast]
      simp only [fZ l _ h am]
      rw [xH _ hx]
      simp only [Option.bind_some]
      rw [Ba hc _ hx]
      simp only [Option.bind_some]
      have en : ba ((m : Int) + ba ((l[i].Facts.length : Int) - ((kR (ia c p) l[i].Seq l[i].Facts).length : Int))) = ((m + (l[i].Facts.length - (kR (ia c p) l[i].Seq l[i].Facts).length) : Nat) : Int) := by
        rw [bM (n := (l[i].Facts.length : Int) - ((kR (ia c p) l[i].Seq l[i].Facts).length : Int)) (by omega), bM (by omega)]; omega
      rw [en, List.drop_eq_getElem_cons h, mg, rJ]
      by_cases q : 0 < (kR (ia c p) l[i].Seq l[i].Facts).length
      · rw [if_pos (by omega), if_pos (by omega), if_pos q, zM hc l p hl hf f (i + 1) _ _ (by omega) (by omega) (by simp; omega) (by omega), List.append_assoc, Nat.add_assoc]
        rfl
      · rw [if_neg (by omega), if_neg q, zM hc l p hl hf f (i + 1) _ _ (by omega) (by omega) (by omega) (by omega), Nat.add_assoc]
    · rw [if_neg (by omega), List.drop_eq_nil_of_le (by omega)]; simp [mg, rJ]
theorem CH {c : List Pr} (hc : nH c) {l : List aI} (hI : pb l) (d s p : Int) : gp W d l s c p = some (mg (ia c p) l, (rJ (ia c p) l : Int)) := by
  have hlen := hI.len
  have e := zM hc l p hI.len hI.each W 0 0 [] (by omega) (by unfold W; omega) (by simp) (by omega)
  have e0 : ((0 : Nat) : Int) = 0 := rfl
  rw [e0] at e
  unfold gp kb
  simp only [fg]
  rw [e]
  simp
theorem zH {c : List Pr} (hc : nH c) (L : List sk) (p : Int) (hl : L.length ≤ 5000) : ∀ (f i : Nat) (acc : List sk), i ≤ L.length → L.length - i < f → acc.length ≤ i →
    dO W L (c.map (·.v)) p f i acc = some (acc ++ (L.drop i).filter fun r => !ia c p r.Seq r.F)
  | 0, i, acc, h0, h1, h2 => by omega
  | f + 1, i, acc, h0, h1, h2 => by
    rw [dO]
    by_cases h : i < L.length
    · rw [if_pos (by omega), if_pos (by omega), ph (by omega)]
      simp only [Int.toNat_natCast, fZ L _ h]
      rw [List.drop_eq_getElem_cons h, List.filter_cons]
      have ih0 := zH hc L p hl f (i + 1) acc (by omega) (by omega) (by omega)
      have ih1 := zH hc L p hl f (i + 1) (acc ++ [L[i]]) (by omega) (by omega) (by simp; omega)
      rw [List.append_assoc] at ih1
      have hroom : (acc.length + [L[i]].length) * 104 ≤ 140737488355328 := by simp; omega
      rw [zp (Nat.le_refl _) hc]
      simp only [Option.bind_some]
      generalize ht : mI (pL c L[i].F.Key.Hour) = t
      by_cases ha : p ≤ L[i].F.Key.Hour
      · rw [if_pos ha]
        rcases zZ ht with ⟨hs, x, he, hx⟩ | ⟨hs, he⟩
        · rw [if_neg (by simp [hs])]
          by_cases hm : t.2.2.2.1 < L[i].Seq
          · have e : (!ia c p L[i].Seq L[i].F) = true := by simp [ia, he]; omega
            rw [if_pos hm, if_pos hroom, if_pos e]
            exact ih1
          · have e : ¬ (!ia c p L[i].Seq L[i].F) = true := by simp [ia, he]; omega
            rw [if_neg hm, if_neg e]
            exact ih0
        · have e : (!ia c p L[i].Seq L[i].F) = true := by simp [ia, he]; omega
          rw [if_pos (by simp [hs]), if_pos hroom, if_pos e]
          exact ih1
      · have e : ¬ (!ia c p L[i].Seq L[i].F) = true := by simp [ia]; omega
        rw [if_neg ha, if_neg e]
        exact ih0
    · rw [if_neg (by omega), List.drop_eq_nil_of_le (by omega)]; simp
theorem Ct {c : List Pr} (hc : nH c) {L : List sk} (hl : L.length ≤ 5000) (d s p : Int) : eM W d L s (c.map (·.v)) p = some (L.filter (fun r => !ia c p r.Seq r.F), ((L.length - (L.filter (fun r => !ia c p r.Seq r.F)).length : Nat) : Int)) := by
  have e := zH hc L p hl W 0 [] (by omega) (by unfold W; omega) (by simp)
  have e0 : ((0 : Nat) : Int) = 0 := rfl
  have hle : (L.filter (fun r => !ia c p r.Seq r.F)).length ≤ L.length := List.length_filter_le _ _
  rw [e0] at e
  unfold eM
  rw [e, List.drop_zero, List.nil_append]
  simp only [Option.bind_some]
  rw [bM (by omega)]
  congr 2
  omega
end Go.Proofs.YtmgpegiekankmaaGreat.MemPlays
end
section
set_option linter.unusedVariables false
set_option linter.unusedSimpArgs false
set_option maxRecDepth 20000
namespace Go.Proofs.YtmgpegiekankmaaGreat.MemPlays
open Go E
abbrev BE := aK
def Aq (x : aI) : BE := ⟨x.Seq, x.Tick, x.Budget, x.Facts⟩
theorem AK {l : List aI} (h : l.length ≤ 1000) : ik l = some (l.map Aq) := by
  unfold ik
  rw [if_pos (by omega)]; rfl
theorem Cl (l : List aI) (hl : l.length ≤ 40) (hf : ∀ x ∈ l, x.Facts.length ≤ 100) : ∀ (f i : Nat) (acc : List aI), i ≤ l.length → l.length - i < f → acc.length ≤ i → gk W l f i acc = some (acc ++ l.drop i)
  | 0, i, acc, h0, h1, h2 => by omega
  | f + 1, i, acc, h0, h1, h2 => by
    rw [gk]
    by_cases h : i < l.length
    · rw [if_pos (by omega), if_pos (by omega), ph (by omega)]
      simp only [Int.toNat_natCast, fZ l _ h]
      rw [xH _ (hf _ (List.getElem_mem h))]
      simp only [Option.bind_some]
      have ih := Cl l hl hf f (i + 1) (acc ++ [l[i]]) (by omega) (by omega) (by simp; omega)
      rw [if_pos (by omega), List.drop_eq_getElem_cons h]
      rw [List.append_assoc] at ih
      exact ih
    · rw [if_neg (by omega), List.drop_eq_nil_of_le (by omega)]; simp
theorem As {l : List aI} (hI : pb l) (d s : Int) : hN W d l s = some l := by
  have := hI.len
  have e := Cl l hI.len hI.each W 0 [] (by omega) (by unfold W; omega) (by simp)
  have e0 : ((0 : Nat) : Int) = 0 := rfl
  rw [e0] at e
  unfold hN
  simp only [fg]
  rw [e]; rfl
def step (o : List BE) (r : sk) : List BE :=
  if o.length = 0 ∨ (o.getD (o.length - 1) aj).Seq ≠ r.Seq then o ++ [⟨r.Seq, r.Tick, r.Budget, [r.F]⟩]
  else o.set (o.length - 1) ⟨(o.getD (o.length - 1) aj).Seq, (o.getD (o.length - 1) aj).Tick, (o.getD (o.length - 1) aj).Budget, (o.getD (o.length - 1) aj).Facts ++ [r.F]⟩
theorem zE (o : List BE) (r : sk) : (step o r).length ≤ o.length + 1 := by
  unfold step; split <;> simp
theorem yg {o : List BE} {r : sk} {n : Nat} (h : ∀ y ∈ o, y.Facts.length ≤ n) : ∀ y ∈ step o r, y.Facts.length ≤ n + 1 := by
  intro y hy
  unfold step at hy
  split at hy
  · rw [List.mem_append, List.mem_singleton] at hy
    rcases hy with hy | rfl
    · have := h y hy; omega
    · simp
  · rename_i hc
    have hp : o.length - 1 < o.length := by
      have : o.length ≠ 0 := fun e => hc (.inl e)
      omega
    rcases List.mem_or_eq_of_mem_set hy with hy | rfl
    · have := h y hy; omega
    · have := h _ (List.getElem_mem hp)
      simp only [fZ o _ hp, List.length_append, List.length_singleton]
      omega
theorem xe (o : List BE) (y z : BE) : (o ++ [y]).getD o.length z = y := by simp [List.getD_eq_getElem?_getD]
theorem CN (L : List sk) (hl : L.length ≤ 5000) : ∀ (f i : Nat) (o : List BE), i ≤ L.length → L.length - i < f → o.length ≤ i → (∀ y ∈ o, y.Facts.length ≤ i) →
    cZ W L f i o = some ((L.drop i).foldl step o)
  | 0, i, o, h0, h1, h2, h3 => by omega
  | f + 1, i, o, h0, h1, h2, h3 => by
    rw [cZ]
    by_cases h : i < L.length
    · rw [if_pos (by omega), if_pos (by omega), ph (by omega)]
      simp only [Int.toNat_natCast, fZ L _ h]
      rw [List.drop_eq_getElem_cons h, List.foldl_cons]
      have ih := CN L hl f (i + 1) (step o L[i]) (by omega) (by omega) (by have := zE o L[i]; omega) (yg h3)
      have hroom : (o.length + 1) * 48 ≤ 140737488355328 := by omega
      have hnew : ∀ (n : Int), n = (o.length : Int) → step o L[i] = o ++ [(⟨L[i].Seq, L[i].Tick, L[i].Budget, [L[i].F]⟩ : BE)] →
          (if 0 ≤ n then (if n < (((o ++ [(⟨L[i].Seq, L[i].Tick, L[i].Budget, []⟩ : BE)]).length : Nat) : Int) then (if (((o ++ [(⟨L[i].Seq, L[i].Tick, L[i].Budget, []⟩ : BE)]).getD n.toNat aj).Facts.length + [L[i].F].length) * 80 ≤ 140737488355328 then cZ W L f ((i + 1 : Nat) : Int) ((o ++ [(⟨L[i].Seq, L[i].Tick, L[i].Budget, []⟩ : BE)]).set n.toNat (⟨((o ++ [(⟨L[i].Seq, L[i].Tick, L[i].Budget, []⟩ : BE)]).getD n.toNat aj).Seq, ((o ++ [(⟨L[i].Seq, L[i].Tick, L[i].Budget, []⟩ : BE)]).getD n.toNat aj).Tick, ((o ++ [(⟨L[i].Seq, L[i].Tick, L[i].Budget, []⟩ : BE)]).getD n.toNat aj).Budget, ((o ++ [(⟨L[i].Seq, L[i].Tick, L[i].Budget, []⟩ : BE)]).getD n.toNat aj).Facts ++ [L[i].F]⟩ : BE)) else none) else none) else none) = some ((L.drop (i + 1)).foldl step (step o L[i])) := by
        intro n hn hs
        subst hn
        rw [if_pos (by omega), if_pos (by simp; omega), Int.toNat_natCast, xe, if_pos (by simp), hs]
        rw [hs] at ih
        rw [List.set_append_right _ _ (Nat.le_refl _), Nat.sub_self, List.set_cons_zero]
        exact ih
      by_cases hz : o.length = 0
      · have ho : o = [] := List.eq_nil_of_length_eq_zero hz
        have hs : step o L[i] = o ++ [(⟨L[i].Seq, L[i].Tick, L[i].Budget, [L[i].F]⟩ : BE)] := by unfold step; rw [if_pos (.inl hz)]
        rw [if_pos (by rw [bM (by omega)]; omega), if_pos hroom]
        simp only [Option.bind_some]
        exact hnew _ (by rw [bM (n := (o.length : Int) - 1) (by omega), bM (by omega)]; omega) hs
      · have hw : ba ((o.length : Int) - 1) = ((o.length - 1 : Nat) : Int) := by rw [bM (by omega)]; omega
        have hlt : o.length - 1 < o.length := by omega
        rw [hw, if_neg (by omega), if_pos (by omega), if_pos (by omega)]
        by_cases hq : (o.getD (o.length - 1) aj).Seq = L[i].Seq
        · have hs : step o L[i] = o.set (o.length - 1) ⟨(o.getD (o.length - 1) aj).Seq, (o.getD (o.length - 1) aj).Tick, (o.getD (o.length - 1) aj).Budget, (o.getD (o.length - 1) aj).Facts ++ [L[i].F]⟩ := by
            unfold step
            rw [if_neg (by intro hc; rcases hc with hc | hc; exact hz hc; exact hc hq)]
          have hfl : (o.getD (o.length - 1) aj).Facts.length ≤ i := by
            rw [fZ o _ hlt]; exact h3 _ (List.getElem_mem hlt)
          rw [Int.toNat_natCast, if_neg (by simpa using hq)]
          simp only [Option.bind_some, Int.toNat_natCast]
          rw [if_pos (by omega), if_pos (by omega), if_pos (by simp only [List.length_singleton]; omega)]
          rw [hs] at ih ⊢
          exact ih
        · have hs : step o L[i] = o ++ [(⟨L[i].Seq, L[i].Tick, L[i].Budget, [L[i].F]⟩ : BE)] := by unfold step; rw [if_pos (.inr hq)]
          rw [Int.toNat_natCast, if_pos hq, if_pos hroom]
          simp only [Option.bind_some]
          exact hnew _ (by rw [bM (by omega)]; omega) hs
    · rw [if_neg (by omega), List.drop_eq_nil_of_le (by omega)]; rfl
theorem zo {o : List BE} {r : sk} (h : ∀ y ∈ o, y.Seq ≠ r.Seq) : step o r = o ++ [⟨r.Seq, r.Tick, r.Budget, [r.F]⟩] := by
  unfold step
  by_cases hz : o.length = 0
  · rw [if_pos (.inl hz)]
  · have hlt : o.length - 1 < o.length := by omega
    rw [if_pos (.inr (by rw [fZ o _ hlt]; exact h _ (List.getElem_mem hlt)))]
theorem xT (o : List BE) (y : BE) (r : sk) (h : y.Seq = r.Seq) : step (o ++ [y]) r = o ++ [⟨y.Seq, y.Tick, y.Budget, y.Facts ++ [r.F]⟩] := by
  have e : (o ++ [y]).length - 1 = o.length := by simp
  unfold step
  rw [e, xe, if_neg (by intro hc; rcases hc with hc | hc; simp at hc; exact hc h), List.set_append_right _ _ (Nat.le_refl _), Nat.sub_self, List.set_cons_zero]
theorem tc (o : List BE) (s t b : Int) : ∀ (fs gs : List jU), (fs.map fun f => (⟨s, t, b, f⟩ : sk)).foldl step (o ++ [⟨s, t, b, gs⟩]) = o ++ [⟨s, t, b, gs ++ fs⟩]
  | [], gs => by simp
  | f :: fs, gs => by
    rw [List.map_cons, List.foldl_cons, xT o _ _ rfl, tc o s t b fs]
    simp
theorem vm (o : List BE) (x : aI) (hx : x.Facts ≠ []) (h : ∀ y ∈ o, y.Seq ≠ x.Seq) : (nO x).foldl step o = o ++ [Aq x] := by
  unfold nO
  cases hf : x.Facts with
  | nil => exact absurd hf hx
  | cons f fs =>
    rw [List.map_cons, List.foldl_cons, zo (by intro y hy; exact h y hy), tc]
    simp [Aq, hf]
theorem uI : ∀ (l : List aI) (o : List BE), (∀ x ∈ l, x.Facts ≠ []) → l.Pairwise (fun a b => a.Seq < b.Seq) → (∀ x ∈ l, ∀ y ∈ o, y.Seq < x.Seq) → (iP l).foldl step o = o ++ l.map Aq
  | [], o, _, _, _ => by simp [iP]
  | x :: l, o, h1, h2, h3 => by
    rw [List.pairwise_cons] at h2
    rw [lw, List.foldl_append, vm o x (h1 x (by simp)) (fun y hy => by have := h3 x (by simp) y hy; omega), uI l _ (fun y hy => h1 y (by simp [hy])) h2.2]
    · simp
    · intro y hy w hw
      rw [List.mem_append, List.mem_singleton] at hw
      rcases hw with hw | rfl
      · exact h3 y (by simp [hy]) w hw
      · exact h2.1 y hy
theorem rQ {l : List aI} (hI : pb l) (h1 : ∀ x ∈ l, x.Facts ≠ []) (h2 : l.Pairwise (fun a b => a.Seq < b.Seq)) (d s : Int) : cx W d (iP l) s = some (l.map Aq) := by
  have hl := ri hI
  have e := CN (iP l) (by omega) W 0 [] (by omega) (by unfold W; omega) (by simp) (by simp)
  have e0 : ((0 : Nat) : Int) = 0 := rfl
  rw [e0] at e
  unfold cx
  rw [e, List.drop_zero, uI l [] h1 h2 (by simp)]
  simp
theorem zk (l : List BE) (hl : l.length ≤ 1000) (hf : ∀ x ∈ l, x.Facts.length ≤ 100) : ∀ (f i : Nat), i ≤ l.length → l.length - i < f → eY W l l f i = some true
  | 0, i, h0, h1 => by omega
  | f + 1, i, h0, h1 => by
    rw [eY]
    by_cases h : i < l.length
    · rw [if_pos (by omega), if_pos (by omega), if_pos (by omega), if_neg (by simp), if_neg (by simp), if_neg (by simp), Int.toNat_natCast, fZ l _ h]
      have := hf _ (List.getElem_mem h)
      rw [show dU W l[i].Facts l[i].Facts = some true from uX _ (by omega), ph (by omega)]
      simp only [Option.bind_some, Bool.not_true, Bool.false_eq_true, if_false]
      exact zk l hl hf f (i + 1) (by omega) (by omega)
    · rw [if_neg (by omega)]
theorem B9 {l : List BE} (hl : l.length ≤ 1000) (hf : ∀ x ∈ l, x.Facts.length ≤ 100) : gm W l l = some true := by
  have e := zk l hl hf W 0 (by omega) (by unfold W; omega)
  have e0 : ((0 : Nat) : Int) = 0 := rfl
  rw [e0] at e
  unfold gm
  rw [if_neg (by simp), e]
theorem B8 : ∀ (k j : Nat) (x : Int), j ≤ 8 → 8 < j + k → ∃ y, jQ W k j x = some y
  | 0, j, x, h1, h2 => by omega
  | k + 1, j, x, h1, h2 => by
    rw [jQ]
    by_cases h : j < 8
    · rw [if_pos (by omega)]
      simp only [fg]
      rw [ph (by omega)]
      exact B8 k (j + 1) _ (by omega) (by omega)
    · rw [if_neg (by omega)]; exact ⟨_, rfl⟩
theorem Cf (l : List Int) (hl : l.length ≤ 90000) : ∀ (k i : Nat) (x : Int), i ≤ l.length → l.length < i + k → ∃ y, jN W l k i x = some y
  | 0, i, x, h1, h2 => by omega
  | k + 1, i, x, h1, h2 => by
    rw [jN]
    by_cases h : i < l.length
    · rw [if_pos (by omega), if_pos (by omega), ph (by omega), Int.toNat_natCast]
      obtain ⟨y, hy⟩ := B8 W 0 (lX .u32 x (mK (l.getD i 0))) (by omega) (by unfold W; omega)
      have e0 : ((0 : Nat) : Int) = 0 := rfl
      rw [e0] at hy
      rw [hy]
      simp only [Option.bind_some]
      exact Cf l hl k (i + 1) y (by omega) (by omega)
    · rw [if_neg (by omega)]; exact ⟨_, rfl⟩
theorem xu (x : Int) : ∀ (k j : Nat) (l : List Int), j ≤ 4 → 4 < j + k → l.length + (4 - j) ≤ 900000 → ∃ y, km W x k j l = some y ∧ y.length = l.length + (4 - j)
  | 0, j, l, h1, h2, h3 => by omega
  | k + 1, j, l, h1, h2, h3 => by
    rw [km]
    by_cases h : j < 4
    · have hw : ba (8 * (j : Int)) = 8 * (j : Int) := bM (by omega)
      rw [if_pos (by omega), if_pos (by rw [hw]; omega), if_pos (by simp; omega), ph (by omega)]
      obtain ⟨y, hy, he⟩ := xu x k (j + 1) (l ++ [jB (lh .u32 x (ba (8 * (j : Int))))]) (by omega) (by omega) (by simp; omega)
      refine ⟨y, hy, ?_⟩
      rw [he]; simp; omega
    · rw [if_neg (by omega)]; exact ⟨_, rfl, by omega⟩
theorem BB (l : List Int) (hl : l.length ≤ 90000) : ∃ y, lO W l = some y ∧ y.length = l.length + 4 := by
  unfold lO mv lT
  rw [pw l (by omega)]
  simp only [Option.bind_some]
  obtain ⟨x, hx⟩ := Cf l hl W 0 (lX .u32 (IntKind.max .u32) 0) (by omega) (by unfold W; omega)
  have e0 : ((0 : Nat) : Int) = 0 := rfl
  rw [e0] at hx
  rw [hx]
  simp only [Option.bind_some]
  obtain ⟨y, hy, he⟩ := xu x W 0 l (by omega) (by unfold W; omega) (by omega)
  rw [e0] at hy
  exact ⟨y, hy, he⟩
theorem Ao (l : List Int) (hl : l.length ≤ 90000) : ∃ y, kK W l = some y ∧ y.length = (lE 9 l.length).length + l.length + 4 := by
  unfold kK
  have hn := jV 9 l.length
  rw [kl (by omega), show dA W (l.length : Int) = some (lE 9 l.length) from BZ _ (by omega)]
  simp only [Option.bind_some]
  unfold dt
  rw [pw _ (by omega)]
  simp only [Option.bind_some]
  obtain ⟨y, hy, he⟩ := BB l hl
  rw [hy]
  simp only [Option.bind_some]
  rw [if_pos (by omega)]
  exact ⟨_, rfl, by rw [List.length_append, he]; omega⟩
theorem Bf : ∀ (k j : Nat) (x : Int), j ≤ 8 → 8 < j + k → ∃ y, fB W k x j = some y
  | 0, j, x, h1, h2 => by omega
  | k + 1, j, x, h1, h2 => by
    rw [fB]
    by_cases h : j < 8
    · rw [if_pos (by omega)]
      simp only [fg]
      rw [ph (by omega)]
      exact Bf k (j + 1) _ (by omega) (by omega)
    · rw [if_neg (by omega)]; exact ⟨_, rfl⟩
theorem Bp (l : List Int) (hl : l.length ≤ 90000) : ∀ (k i : Nat) (x : Int), i ≤ l.length → l.length < i + k → ∃ y, fy W l k x i = some y
  | 0, i, x, h1, h2 => by omega
  | k + 1, i, x, h1, h2 => by
    rw [fy]
    by_cases h : i < l.length
    · rw [if_pos (by omega), if_pos (by omega), ph (by omega), Int.toNat_natCast]
      obtain ⟨y, hy⟩ := Bf W 0 (lX .u32 x (mK (l.getD i 0))) (by omega) (by unfold W; omega)
      have e0 : ((0 : Nat) : Int) = 0 := rfl
      rw [e0] at hy
      rw [hy]
      simp only [Option.bind_some]
      exact Bp l hl k (i + 1) y (by omega) (by omega)
    · rw [if_neg (by omega)]; exact ⟨_, rfl⟩
theorem BO (l : List Int) (hl : l.length ≤ 90000) : ∃ y, gS W l = some y ∧ y.length = (lE 9 l.length).length + l.length + 4 := by
  unfold gS
  have hn := jV 9 l.length
  rw [kl (by omega), show bZ W (l.length : Int) = some (lE 9 l.length) from nA _ (by omega)]
  simp only [Option.bind_some]
  unfold iF iL iz
  rw [if_pos (by simp; omega)]
  obtain ⟨x, hx⟩ := Bp l hl W 0 (mK (4294967295 - 0)) (by omega) (by unfold W; omega)
  have e0 : ((0 : Nat) : Int) = 0 := rfl
  rw [e0] at hx
  rw [hx]
  simp only [Option.bind_some, fg]
  have ht : (iU x).length = 4 := rfl
  rw [if_pos (by simp; omega)]
  simp only [Option.bind_some]
  rw [if_pos (by simp; omega)]
  exact ⟨_, rfl, by simp; omega⟩
theorem xE {d : Nat} (hd : d ≤ 4) : ∀ l : List jU, (∀ f ∈ l, ot f) → (l.flatMap (lJ d)).length ≤ l.length * 220
  | [], _ => by simp
  | f :: l, h => by
    have h1 := rF (h f (by simp)) d
    have h2 := xE hd l fun g hg => h g (by simp [hg])
    simp only [List.flatMap_cons, List.length_append, List.length_cons]
    omega
theorem Cq {l : List jU} {q : Nat} (h1 : 1 ≤ l.length) (h2 : l.length ≤ 50) (hq : q ≤ 4) (hs : ∀ f ∈ l, ot f) (hok : ∀ f ∈ l, lC f) : gx W l (q : Int) W 0 (lE 9 l.length) = some (0, lE 9 l.length ++ l.flatMap (lJ q)) ∧ du W l (q : Int) W 0 (lE 9 l.length) = some (0, lE 9 l.length ++ l.flatMap (lJ q)) := by
  have hn := jV 9 l.length
  have r := Cg l hs hok (by omega) q hq 200000 0 (lE 9 l.length) (by omega) (by omega) (by omega)
  rw [List.drop_zero] at r
  exact r
theorem Cw {l : List jU} {d : Int} {r : Int × Int} {x : Option (Int × List Int)} (hl : l.length ≤ 50) (hr : cS W l d = some r) (h0 : r.1 = 0) (hx : gx W l d W 0 (lE 9 l.length) = x) : jk W l d = x := by
  unfold jk
  rw [(Ae l (by omega) d).1, hr]
  simp only [Option.bind_some]
  rw [if_neg (by simp [h0]), kl (by omega), BZ _ (by omega)]
  exact hx
theorem CF {l : List jU} {d : Int} {r : Int × Int} {x : Option (Int × List Int)} (hl : l.length ≤ 50) (hr : cS W l d = some r) (h0 : r.1 = 0) (hx : du W l d W 0 (lE 9 l.length) = x) : eR W l d = x := by
  unfold eR
  rw [hr]
  simp only [Option.bind_some]
  rw [if_neg (by simp [h0]), kl (by omega), nA _ (by omega)]
  exact hx
theorem Cu {l : List jU} {d : Int} (h : 1 ≤ l.length ∧ l.length ≤ 50 ∧ ∀ f ∈ l, BA d f) : ∃ bs, jk W l d = some (0, bs) ∧ eR W l d = some (0, bs) ∧ bs.length ≤ 20000 := by
  obtain ⟨h1, h2, h3⟩ := h
  have hs : ∀ f ∈ l, ot f := fun f hf => (tl (h3 f hf)).2.2.1
  have hok : ∀ f ∈ l, lC f := fun f hf => (tl (h3 f hf)).2.2.2
  have hd : 1 ≤ d ∧ d ≤ 4 := (tl (h3 _ (List.getElem_mem (show 0 < l.length by omega)))).1
  obtain ⟨q, rfl⟩ := Int.eq_ofNat_of_zero_le (show 0 ≤ d by omega)
  obtain ⟨r, hr, hq⟩ := vL l (by omega) hd
  have h0 : r.1 = 0 := hq.2 ⟨h1, h2, h3⟩
  have hn := jV 9 l.length
  have hel := xE (d := q) (by omega) l hs
  obtain ⟨r1, r2⟩ := Cq h1 h2 (by omega) hs hok (q := q)
  exact ⟨_, Cw h2 hr h0 r1, CF h2 hr h0 r2, by rw [List.length_append]; omega⟩
theorem BR {d s t b : Int} {l : List jU} (h : oK d s t b l) : ∃ y z, kt W s t b l d = some (0, y) ∧ fQ W s t b l d = some (0, z) ∧ y.length = z.length ∧ y.length ≤ 30000 := by
  have hin := yU h
  have hd : 1 ≤ d ∧ d ≤ 4 := (tl (h.1.2.2 _ (List.getElem_mem (show 0 < l.length by have := h.1.1; omega)))).1
  obtain ⟨q1, e1, i1⟩ := ve hin.1 hin.2.1 hin.2.2 l (by have := h.1.2.1; omega) hd
  obtain ⟨q2, e2, i2⟩ := uA s t b l (by have := h.1.2.1; omega) hd
  obtain ⟨bs, b1, b2, b3⟩ := Cu h.1
  obtain ⟨ns, hs, ls⟩ := nQ s
  obtain ⟨nt, ht, lt⟩ := nQ t
  obtain ⟨nb, hb, lb⟩ := nQ b
  have n1 := jV 9 ns
  have n2 := jV 9 nt
  have n3 := jV 9 nb
  unfold kt fQ gu
  rw [e1, e2, i1.2 h, i2.2 h, hs, ht, hb]
  simp only [Option.bind_some, Bool.not_true, Bool.false_eq_true, if_false]
  rw [show dA W (ns : Int) = some (lE 9 ns) from BZ _ ls, show bZ W (ns : Int) = some (lE 9 ns) from nA _ ls, show bZ W (nt : Int) = some (lE 9 nt) from nA _ lt, show bZ W (nb : Int) = some (lE 9 nb) from nA _ lb]
  simp only [Option.bind_some]
  rw [show cT W (lE 9 ns) (nt : Int) = some (lE 9 ns ++ lE 9 nt) from ze _ _ lt (by omega), if_pos (by omega)]
  simp only [Option.bind_some]
  rw [show cT W (lE 9 ns ++ lE 9 nt) (nb : Int) = some (lE 9 ns ++ lE 9 nt ++ lE 9 nb) from ze _ _ lb (by simp; omega), if_pos (by simp only [List.length_append]; omega), b1, b2]
  simp only [Option.bind_some]
  unfold dt
  rw [pw _ (by simp only [List.length_append]; omega), if_neg (by simp), if_pos (by simp only [List.length_append]; omega)]
  simp only [Option.bind_some]
  rw [if_pos (by simp only [List.length_append]; omega)]
  obtain ⟨y, hy, ly⟩ := Ao (lE 9 ns ++ lE 9 nt ++ lE 9 nb ++ bs) (by simp only [List.length_append]; omega)
  obtain ⟨z, hz, lz⟩ := BO (lE 9 ns ++ lE 9 nt ++ lE 9 nb ++ bs) (by simp only [List.length_append]; omega)
  rw [hy, hz]
  have n4 := jV 9 (lE 9 ns ++ lE 9 nt ++ lE 9 nb ++ bs).length
  refine ⟨y, z, rfl, rfl, by rw [ly, lz], ?_⟩
  rw [ly]
  simp only [List.length_append] at n4 ⊢
  omega
def wW (d : Int) (x : aI) : Prop := oK d x.Seq x.Tick x.Budget x.Facts
theorem zd (d : Int) (l : List aI) (hl : l.length ≤ 40) (hr : ∀ x ∈ l, wW d x) : ∀ (f i : Nat) (a c : List Int), i ≤ l.length → l.length - i < f → a.length = c.length → a.length ≤ i * 30000 →
    ∃ y z, jw W l d f i a = some y ∧ fa W (l.map Aq) d f i c = some z ∧ y.2.length = z.2.length
  | 0, i, a, c, h0, h1, h2, h3 => by omega
  | f + 1, i, a, c, h0, h1, h2, h3 => by
    rw [jw, fa]
    by_cases h : i < l.length
    · have hm : i < (l.map Aq).length := by simpa using h
      have hg : (l.map Aq).getD i aj = Aq l[i] := by rw [fZ _ _ hm]; simp
      obtain ⟨y, z, e1, e2, e3, e4⟩ := BR (hr _ (List.getElem_mem h))
      rw [if_pos (by omega), if_pos (by omega), if_pos (by simp; omega), if_pos (by omega), ph (by omega), Int.toNat_natCast, hg, fZ l _ h]
      simp only [Aq]
      rw [e1, e2]
      simp only [Option.bind_some]
      rw [if_neg (by simp), if_pos (by omega), if_neg (by simp), if_pos (by omega)]
      exact zd d l hl hr f (i + 1) _ _ (by omega) (by omega) (by simp [h2, e3]) (by simp; omega)
    · rw [if_neg (by omega), if_neg (by simp; omega)]
      exact ⟨_, _, rfl, rfl, h2⟩
theorem AJ {d : Int} {l : List aI} (hI : pb l) (hr : ∀ x ∈ l, wW d x) (h1 : ∀ x ∈ l, x.Facts ≠ []) (h2 : l.Pairwise (fun a b => a.Seq < b.Seq)) (s s' : Int) : ∃ n, jc W d l s = some n ∧ eL W d (iP l) s' = some n := by
  have hl := hI.len
  obtain ⟨y, z, e1, e2, e3⟩ := zd d l hI.len hr W 0 [] [] (by omega) (by unfold W; omega) rfl (by simp)
  have e0 : ((0 : Nat) : Int) = 0 := rfl
  rw [e0] at e1 e2
  refine ⟨(y.2.length : Int), ?_, ?_⟩
  · unfold jc lp
    rw [e1]; rfl
  · unfold eL eF
    rw [rQ hI h1 h2]
    simp only [Option.bind_some]
    rw [e2, e3]; rfl
end Go.Proofs.YtmgpegiekankmaaGreat.MemPlays
end
section
set_option linter.unusedVariables false
set_option linter.unusedSimpArgs false
set_option maxRecDepth 20000
namespace Go.Proofs.YtmgpegiekankmaaGreat.MemPlays
open Go E
theorem zI (l : List jU) (i : Nat) : ∀ (k j : Nat), j ≤ 4 → 4 < j + k → ∃ x, eZ W l i k j = some x
  | 0, j, h1, h2 => by omega
  | k + 1, j, h1, h2 => by
    rw [eZ]
    by_cases h : j < 4
    · obtain ⟨x, hx⟩ := zI l i k (j + 1) (by omega) (by omega)
      rw [if_pos (by omega), if_pos (by omega), if_pos (by omega), if_pos (by omega), ph (by omega), hx]
      split <;> exact ⟨_, rfl⟩
    · rw [if_neg (by omega)]; exact ⟨_, rfl⟩
theorem zV (l : List jU) (hl : l.length ≤ 100) : ∀ (k i : Nat), i ≤ l.length → l.length < i + k → ∃ x, eV W l k i = some x
  | 0, i, h1, h2 => by omega
  | k + 1, i, h1, h2 => by
    rw [eV]
    by_cases h : i < l.length
    · obtain ⟨x, hx⟩ := zV l hl k (i + 1) (by omega) (by omega)
      obtain ⟨z, hz⟩ := zI l i W 0 (by omega) (by unfold W; omega)
      have e0 : ((0 : Nat) : Int) = 0 := rfl
      rw [e0] at hz
      rw [if_pos (by omega), hz, ph (by omega)]
      cases z with
      | inl u => simp only [Option.bind_some, zb]; exact ⟨x, hx⟩
      | inr b => simp only [Option.bind_some, zb]; exact ⟨b, rfl⟩
    · rw [if_neg (by omega)]; exact ⟨_, rfl⟩
theorem Cd (l : List jU) : ∃ b, go W l = some b ∧ (b = true → l.length ≤ 100) := by
  unfold go
  by_cases h : 100 < (l.length : Int)
  · rw [if_pos h]; exact ⟨false, rfl, fun h => absurd h (by decide)⟩
  · rw [if_neg h]
    obtain ⟨b, hb⟩ := zV l (by omega) W 0 (by omega) (by unfold W; omega)
    exact ⟨b, hb, fun _ => by omega⟩
theorem BC (x : cM) : ∃ b, fu W [x] = some b ∧ (b = true → x.Facts.xs.length ≤ 100) := by
  unfold fu
  rw [if_neg (by simp)]
  obtain ⟨b, hb, hq⟩ := Cd x.Facts.xs
  have e0 : (([x] : List cM).getD (0 : Int).toNat gh) = x := rfl
  show ∃ b, ee W [x] (199998 + 1 + 1) 0 = some b ∧ _
  rw [ee, if_pos (by simp), if_pos (by omega), e0, hb]
  simp only [Option.bind_some]
  cases b with
  | false => exact ⟨false, rfl, fun h => absurd h (by decide)⟩
  | true =>
    simp only [Bool.not_true, Bool.false_eq_true, if_false]
    rw [ee, if_neg (by rw [bM (by omega)]; simp)]
    exact ⟨true, rfl, fun _ => hq rfl⟩
abbrev Act := fb
def vT (a : Act) : Prop := a.B.Facts.xs.length ≤ 100 ∧ a.Put.xs.length ≤ 20
theorem xr (l : List Act) (hl : l.length ≤ 40) : ∀ (k i : Nat), i ≤ l.length → l.length < i + k → ∃ b, fc W l k i = some b ∧ (b = true → ∀ x ∈ l.drop i, vT x)
  | 0, i, h1, h2 => by omega
  | k + 1, i, h1, h2 => by
    rw [fc]
    by_cases h : i < l.length
    · rw [if_pos (by omega), if_pos (by omega), ph (by omega), Int.toNat_natCast, fZ l _ h bb]
      obtain ⟨b, hb, hb2⟩ := BC l[i].B
      rw [show fu W [(⟨l[i].B.Seq, l[i].B.Tick, l[i].B.Budget, l[i].B.Facts⟩ : cM)] = some b from hb]
      simp only [Option.bind_some]
      cases b with
      | false => exact ⟨false, rfl, fun h => absurd h (by decide)⟩
      | true =>
        simp only [Bool.not_true, Bool.false_eq_true, if_false]
        by_cases hp : 20 < (l[i].Put.xs.length : Int)
        · rw [if_pos hp]; exact ⟨false, rfl, fun h => absurd h (by decide)⟩
        · rw [if_neg hp]
          obtain ⟨c, hc, hq⟩ := xr l hl k (i + 1) (by omega) (by omega)
          refine ⟨c, hc, fun e x hx => ?_⟩
          rw [List.drop_eq_getElem_cons h, List.mem_cons] at hx
          rcases hx with rfl | hx
          · exact ⟨hb2 rfl, by omega⟩
          · exact hq e x hx
    · rw [if_neg (by omega), List.drop_eq_nil_of_le (by omega)]
      exact ⟨true, rfl, fun _ x hx => by cases hx⟩
theorem BK (l : List Act) : ∃ b, gn W l = some b ∧ (b = true → l.length ≤ 40 ∧ ∀ x ∈ l, vT x) := by
  unfold gn
  by_cases h : 40 < (l.length : Int)
  · rw [if_pos h]; exact ⟨false, rfl, fun h => absurd h (by decide)⟩
  · rw [if_neg h]
    obtain ⟨b, hb, h2⟩ := xr l (by omega) W 0 (by omega) (by unfold W; omega)
    exact ⟨b, hb, fun e => ⟨by omega, fun x hx => h2 e x (by simpa using hx)⟩⟩
structure zR (d : Int) (l : List aI) (s : Int) : Prop where
  right : ∀ x ∈ l, wW d x
  srt : l.Pairwise (fun a b => a.Seq < b.Seq)
  last : ∀ x ∈ l, x.Seq ≤ s
theorem zR.small {d : Int} {l : List aI} {s : Int} (h : zR d l s) (hl : l.length ≤ 40) : pb l := ⟨hl, fun x hx => by have := (h.right x hx).1.2.1; omega⟩
theorem zR.some {d : Int} {l : List aI} {s : Int} (h : zR d l s) : ∀ x ∈ l, x.Facts ≠ [] := fun x hx e => by
  have := (h.right x hx).1.1
  rw [e] at this
  simp at this
theorem zR.cut {d : Int} {l : List aI} {s : Int} (h : zR d l s) (g : pX) : zR d (mg g l) s := by
  refine ⟨fun y hy => ?_, rG g l h.srt, fun y hy => ?_⟩
  · obtain ⟨x, hx, rfl, hp⟩ := nN g l y hy
    obtain ⟨⟨h1, h2, h3⟩, h4⟩ := h.right x hx
    have hk := oZ g x.Seq x.Facts
    exact ⟨⟨by simp only; omega, by simp only; omega, fun f hf => h3 f (List.mem_filter.1 hf).1⟩, h4⟩
  · obtain ⟨x, hx, rfl, hp⟩ := nN g l y hy
    exact h.last x hx
theorem AZ {d : Int} {l : List aI} {s : Int} (h : zR d l s) (hl : l.length ≤ 40) (s' a b : Int) : ga W d l s d (iP l) s' a b = some true := by
  have hI := h.small hl
  have hr := ri hI
  have hF := ur hI
  have e1 : ((nV l).filter (qA 0 4611686018427387904)).length ≤ (nV l).length := List.length_filter_le _ _
  have e2 : ((nV l).filter (qA a b)).length ≤ (nV l).length := List.length_filter_le _ _
  unfold ga
  rw [As hI, Option.bind_some, AK (by omega), Option.bind_some, rQ hI h.some h.srt, Option.bind_some, B9 (by simp; omega) (by
    intro x hx
    obtain ⟨y, hy, rfl⟩ := List.mem_map.1 hx
    exact hI.each y hy), Option.bind_some, if_pos rfl]
  unfold iB fK
  rw [zf hI, uf (by omega), oM]
  simp only [Option.bind_some]
  obtain ⟨x, h1, h2, h3⟩ := Cc ((nV l).filter (qA 0 4611686018427387904)) (by omega)
  rw [h1, h2]
  simp only [Option.bind_some]
  rw [zF x (by omega)]
  simp only [Option.bind_some, if_true]
  rw [zf hI, uf (by omega), oM]
  simp only [Option.bind_some]
  rw [uX _ (by omega)]
  simp only [Option.bind_some, if_true]
  unfold hG
  rw [zf hI]
  simp only [Option.bind_some]
  rw [if_pos (by simp)]
  obtain ⟨n, n1, n2⟩ := AJ hI h.right h.some h.srt s s'
  rw [n1, n2]
  simp
def CK (a : Act) : Prop := nU .i64 a.B.Seq ∧ nU .i64 a.B.Tick ∧ nU .i64 a.B.Budget
theorem Br (s t b : Int) (fs : List jU) (hf : fs.length ≤ 100) : ∀ (f i : Nat) (acc : List sk), i ≤ fs.length → fs.length - i < f → acc.length ≤ 5000 + i →
    eb W s t b fs f i acc = some (0, acc ++ (fs.drop i).map (fun f => (⟨s, t, b, f⟩ : sk)), s)
  | 0, i, acc, h0, h1, h2 => by omega
  | f + 1, i, acc, h0, h1, h2 => by
    rw [eb]
    by_cases h : i < fs.length
    · rw [if_pos (by omega), if_pos (by omega), if_pos (by simp; omega), ph (by omega)]
      simp only [Int.toNat_natCast, fZ fs _ h]
      have ih := Br s t b fs hf f (i + 1) (acc ++ [⟨s, t, b, fs[i]⟩]) (by omega) (by omega) (by simp; omega)
      rw [List.drop_eq_getElem_cons h, List.map_cons]
      rw [List.append_assoc] at ih
      exact ih
    · rw [if_neg (by omega), List.drop_eq_nil_of_le (by omega)]; simp
theorem BV {d : Int} (hd : 1 ≤ d ∧ d ≤ 4) {l : List aI} {s : Int} (h : zR d l s) (hl : l.length ≤ 39) (kd sq tk bu : Int) (h1 : nU .i64 sq) (h2 : nU .i64 tk) (h3 : nU .i64 bu) (fs : List jU) (hf : fs.length ≤ 100) (a b : Int) (ps : List En) (hp : ps.length ≤ 20) :
    ∃ l' s', fT W d l s d (iP l) s kd sq tk bu fs a b ps = some (true, l', s', iP l', s') ∧ zR d l' s' ∧ l'.length ≤ l.length + 1 := by
  have hI := h.small (by omega)
  have hr := ri hI
  unfold fT iH
  simp only [fg]
  by_cases k0 : kd = 0
  · rw [if_pos k0]
    unfold ii fY
    obtain ⟨q1, e1, i1⟩ := ve h1 h2 h3 fs hf hd
    obtain ⟨q2, e2, i2⟩ := uA sq tk bu fs hf hd
    have eq := AF i1 i2
    subst eq
    rw [e1, e2]
    simp only [Option.bind_some]
    cases q1 with
    | false => exact ⟨l, s, by simp, h, by omega⟩
    | true =>
      simp only [Bool.not_true, Bool.false_eq_true, if_false]
      by_cases hs : sq ≤ s
      · rw [if_pos hs, if_pos hs]; exact ⟨l, s, by simp, h, by omega⟩
      · have hR := i1.1 rfl
        rw [if_neg hs, if_neg hs, xH _ hf]
        simp only [Option.bind_some]
        rw [if_pos (by omega), if_pos (by simp; omega)]
        have e := Br sq tk bu fs hf W 0 ([] ++ iP l) (by omega) (by unfold W; omega) (by simp; omega)
        have e0 : ((0 : Nat) : Int) = 0 := rfl
        rw [e0] at e
        rw [e]
        have ea : iP (l ++ [(⟨sq, tk, bu, fs⟩ : aI)]) = [] ++ iP l ++ (fs.drop 0).map (fun f => (⟨sq, tk, bu, f⟩ : sk)) := by
          rw [wV]; simp [iP, nO]
        refine ⟨l ++ [⟨sq, tk, bu, fs⟩], sq, ?_, ⟨fun x hx => ?_, ?_, fun x hx => ?_⟩, by simp⟩
        · rw [ea]; simp
        · rw [List.mem_append, List.mem_singleton] at hx
          rcases hx with hx | rfl
          · exact h.right x hx
          · exact hR
        · rw [List.pairwise_append]
          refine ⟨h.srt, List.pairwise_singleton _ _, fun x hx y hy => ?_⟩
          rw [List.mem_singleton] at hy
          subst hy
          have := h.last x hx
          simp only
          omega
        · rw [List.mem_append, List.mem_singleton] at hx
          rcases hx with hx | rfl
          · have := h.last x hx; omega
          · simp
  · rw [if_neg k0]
    by_cases k1 : kd = 1
    · rw [if_pos k1, CG hI, CE (by omega)]
      have hg := tj (iD a b) l
      have hc := rC (iD a b) l
      refine ⟨mg (iD a b) l, s, ?_, h.cut _, Nat.le_succ_of_le (rU _ _)⟩
      rw [hc] at hg
      simp only [Option.bind_some]
      rw [hc]
      congr 2
      rw [beq_iff_eq]
      congr 1
      omega
    · rw [if_neg k1]
      obtain ⟨r, e1, r1, r2⟩ := uv (K := W) ps (by omega) (Nat.le_refl _)
      obtain ⟨t, e2, t2⟩ := ug (K := W) (es := ps) (by omega) (Nat.le_refl _)
      rw [e1]
      simp only [Option.bind_some]
      by_cases r0 : r.1 = 0
      · have hcat : nH (je [] ps).2 := (rp (es := ps) nH.nil (by simp; omega)).1
        rw [if_neg (by simp [r0]), e2]
        simp only [Option.bind_some]
        rw [r2 r0, t2 (by rw [← r1]; exact r0), CH hcat hI, Ct hcat (by omega)]
        have hg := tj (ia (je [] ps).2 a) l
        have hc := rC (ia (je [] ps).2 a) l
        refine ⟨mg (ia (je [] ps).2 a) l, s, ?_, h.cut _, Nat.le_succ_of_le (rU _ _)⟩
        rw [hc] at hg
        simp only [Option.bind_some]
        rw [hc]
        congr 2
        rw [beq_iff_eq]
        congr 1
        omega
      · rw [if_pos r0]; exact ⟨l, s, rfl, h, by omega⟩
theorem nk : dI W = some true := by kernel_rfl
theorem Bm {d : Int} (hd : 1 ≤ d ∧ d ≤ 4) (A : List Act) (hA : A.length ≤ 40) (hs : ∀ x ∈ A, vT x) (ho : ∀ x ∈ A, CK x) (a b : Int) : ∀ (f i : Nat) (l : List aI) (s : Int), i ≤ A.length → A.length - i < f → l.length ≤ i → zR d l s →
    eK W A a b d d f i l s (iP l) s = some true
  | 0, i, l, s, h0, h1, h2, h => by omega
  | f + 1, i, l, s, h0, h1, h2, h => by
    rw [eK]
    by_cases hi : i < A.length
    · rw [if_pos (by omega), if_pos (by omega), ph (by omega)]
      simp only [Int.toNat_natCast, fZ A _ hi]
      have hm := List.getElem_mem hi
      obtain ⟨l', s', e1, e2, e3⟩ := BV hd h (by omega) A[i].Kind _ _ _ (ho _ hm).1 (ho _ hm).2.1 (ho _ hm).2.2 A[i].B.Facts.xs (hs _ hm).1 A[i].From A[i].To A[i].Put.xs (hs _ hm).2
      rw [e1]
      simp only [Option.bind_some, Bool.not_true, Bool.false_eq_true, if_false]
      rw [AZ e2 (by omega)]
      simp only [Option.bind_some, Bool.not_true, Bool.false_eq_true, if_false]
      exact Bm hd A hA hs ho a b f (i + 1) l' s' (by omega) (by omega) (by omega) e2
    · rw [if_neg (by omega), nk]; rfl
theorem law (d : Int) (A : List Act) (a b : Int) (ho : ∀ x ∈ A, CK x) : ∃ K, gJ K d A a b = some true := by
  refine ⟨W, ?_⟩
  unfold gJ
  obtain ⟨q, hq, hq2⟩ := BK A
  rw [hq]
  simp only [Option.bind_some]
  cases q with
  | false => simp only [Bool.not_false, if_true]; rw [nk]; rfl
  | true =>
    obtain ⟨hA, hs⟩ := hq2 rfl
    simp only [Bool.not_true, Bool.false_eq_true, if_false, fg]
    by_cases d1 : d < 1
    · rw [if_pos d1, nk]; rfl
    · rw [if_neg d1]
      by_cases d4 : 4 < d
      · rw [if_pos d4, nk]; rfl
      · rw [if_neg d4]
        unfold mt iI
        have e := Bm (d := d) (by omega) A hA hs ho a b W 0 [] 0 (by omega) (by unfold W; omega) (by simp) ⟨by simp, List.Pairwise.nil, by simp⟩
        have e0 : ((0 : Nat) : Int) = 0 := rfl
        rw [e0] at e
        exact e
end Go.Proofs.YtmgpegiekankmaaGreat.MemPlays
end
section
set_option linter.unusedVariables false
namespace Go.Proofs.YtmgpegiekankmaaGreat.MemPlays
open Go Go.ChangeShapes Go.WideShapes Go.ChangeAt Go.RowKit E
open Go.ChangeMaps (open_string shut_string)
theorem own : ownKnob Tryz.prog.godebug = none := by kernel_rfl
theorem Au : laidOutB Tryz.prog = true := by kernel_rfl
set_option maxRecDepth 100000 in
theorem BI (os : Os) (started : os.Started) (H : Type) (enc : TypeId × Value → H) :
    ReturnsInHanded {} Tryz.checked os 3 .any (Rows.memPlaysSpec.pre6 enc Tryz.prog Tryz.f3 Rows.memPlaysRow.domain false) (Rows.memPlaysSpec.post enc Tryz.prog Tryz.f3 false true false false) := by
  refine vu (C := Tryz.checked) (tb := 4) (ts := [3, 22, 2, 2]) own started (by kernel_rfl) Tryz.func3
    (ChangeSpec.witness6 (enc := enc) (C := Tryz.checked) false ⟨#[], #[.int .i64 0, .slice none 0 0, .int .i64 0, .int .i64 0], []⟩ 8 (by kernel_rfl) (by kernel_rfl) (by kernel_rfl) (by kernel_rfl))
    (by rw [Tryz.params3]) rfl Tryz.underlying4 rfl Au (by kernel_rfl) ?_ (fun W => (mM (oV Tryz.underlying3) (mM (tW (e := 38) (by kernel_rfl) (yw (c' := jD) (kY (ts := [3, 35, 2, 2, 36]) (by kernel_rfl) (fp (js Tryz.underlying3) (fp (kY (ts := [2, 2, 2, 33]) (by kernel_rfl) (fp (js Tryz.underlying2) (fp (js Tryz.underlying2) (fp (js Tryz.underlying2) (ll (nJ (e := 87) (by kernel_rfl) (sN (c' := aC) (ok' := lC) (kY (ts := [85, 2]) (by kernel_rfl) (fp (kY (ts := [2, 83]) (by kernel_rfl) (fp (js Tryz.underlying2) (ll (wH (e := 9) (by kernel_rfl) (by kernel_rfl) (fp (oe Tryz.underlying9) (fp (oe Tryz.underlying9) (fp (oe Tryz.underlying9) (ll (oe Tryz.underlying9))))))))) (ll (js Tryz.underlying2)))) (fun x => (⟨(⟨x.1.1, x.1.2.1, x.1.2.2.1, x.1.2.2.2.1, x.1.2.2.2.2⟩ : bc), x.2⟩ : aB)) (fun _ => rfl) (fun _ h => ⟨⟨h.1.1, h.1.2.1, h.1.2.2.1, h.1.2.2.2.1, h.1.2.2.2.2⟩, h.2⟩)))))))) (fp (js Tryz.underlying2) (fp (js Tryz.underlying2) (ll (nJ (e := 74) (by kernel_rfl) (sN (c' := aZ) (ok' := tA) (kY (ts := [56, 2, 2, 2, 4]) (by kernel_rfl) (fp (kY (ts := [3, 2]) (by kernel_rfl) (fp (js Tryz.underlying3) (ll (js Tryz.underlying2)))) (fp (js Tryz.underlying2) (fp (js Tryz.underlying2) (fp (js Tryz.underlying2) (ll (wT Tryz.underlying4))))))) (fun x => (⟨(⟨x.1.1, x.1.2⟩ : aW), x.2.1, x.2.2.1, x.2.2.2.1, x.2.2.2.2⟩ : aE)) (fun _ => rfl) (fun _ h => ⟨⟨h.1.1, h.1.2⟩, h.2.1, h.2.2.1, h.2.2.2.1⟩))))))))) (fun x => (⟨x.1, (⟨x.2.1.1, x.2.1.2.1, x.2.1.2.2.1, (⟨x.2.1.2.2.2.1, x.2.1.2.2.2.2⟩ : Sl (aB))⟩ : cM), x.2.2.1, x.2.2.2.1, (⟨x.2.2.2.2.1, x.2.2.2.2.2⟩ : Sl (aE))⟩ : fb)) (fun _ => rfl))) (mM (oV Tryz.underlying2) (mM (oV Tryz.underlying2) wb))))) ?_
  · intro ds hl
    match ds, hl with
    | [d0, d1, d2, d3], _ => rfl
  · intro W x hok
    obtain ⟨a0, ⟨s1, l1⟩, a2, a3, _⟩ := x
    obtain ⟨h0, h1, h2, h3, _⟩ := hok
    obtain ⟨K, hK⟩ := law a0 l1 a2 a3 (fun y hy => by obtain ⟨x, rfl, hx⟩ := h1.2.2 y hy; exact ⟨hx.2.1.1, hx.2.1.2.1, hx.2.1.2.2.1⟩)
    refine ⟨[zY W], (gJ.spec K (zY W) s1 a0 l1 a2 a3 (qS h1.1) (fun y hy => by obtain ⟨x, rfl, hx⟩ := h1.2.2 y hy; exact ⟨qS hx.2.1.2.2.2.1, qS hx.2.2.2.2.1⟩) true hK).mono fun v M h => h.1, ?_⟩
    intro A hA
    simp only [List.mem_cons, List.not_mem_nil, or_false] at hA
    subst hA
    exact fun _ _ h => h
theorem over : Rows.memPlaysRow.holds Tryz.pinned (OpenSpec.ofChange Rows.memPlaysSpec) :=
  OpenClaim.holds_of_wide 3 Tryz.f3 rfl rfl rfl rfl rfl rfl rfl ⟨rfl, rfl, rfl, rfl, rfl⟩ rfl rfl rfl rfl rfl (by kernel_rfl) Tryz.func3 (by kernel_rfl)
    (of_decide_eq_true (by kernel_rfl)) (by unfold Func.isWrapper; first | (rw [if_pos (by decide +kernel)]; kernel_rfl) | (rw [if_neg (by decide +kernel)]; exact ⟨rfl, rfl⟩))
    (fun os started H enc _ => BI os started H enc)
end Go.Proofs.YtmgpegiekankmaaGreat.MemPlays
namespace Go.Proofs.YtmgpegiekankmaaGreat
theorem memPlays_holds : Rows.MemPlaysSaid := MemPlays.over
#print axioms memPlays_holds
end Go.Proofs.YtmgpegiekankmaaGreat
end
