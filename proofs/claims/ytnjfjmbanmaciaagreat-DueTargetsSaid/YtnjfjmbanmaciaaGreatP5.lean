/- dueTargets_holds: the given statement is proved: no condition ahead of it; before it what its proof rests on. -/
import Derived.Test.YtnjfjmbanmaciaaGreatP4
import Derived.Test.YtnjfjmbanmaciaaGreatRows
set_option linter.unusedVariables false
set_option linter.unusedSimpArgs false
section
set_option linter.unusedVariables false
set_option linter.unusedSimpArgs false
set_option maxRecDepth 20000
namespace Go.Proofs.YtnjfjmbanmaciaaGreat.DueTargets
open Go E
theorem gA {a b:Int} (h:0 ≤ a):Int.tdiv a b = a / b:=Int.tdiv_eq_ediv_of_nonneg h
theorem ku {a b:Int} (h:0 ≤ a):Int.tmod a b = a % b:=Int.tmod_eq_emod_of_nonneg h
theorem kZ {h:Int} (h0:0 ≤ h) (h1:h ≤ 1000000000000):gn h = h / 24:=by
  unfold gn
  rw [gA h0,bs (by omega)]
theorem kA {d:Int} (h0:0 ≤ d) (h1:d ≤ 1000000):0 ≤ cP d ∧ iP (cP d) ≤ d ∧ d < iP (cP d + 1):=by
  obtain ⟨D,hD⟩:∃ D,D = d + 719468:=⟨_,rfl⟩
  have e1:aO (d + 719468) = D:=by rw [bs (by omega),hD]
  obtain ⟨q,hq⟩:∃ q,q = (d + 719468) / 146097:=⟨_,rfl⟩
  obtain ⟨n,hn⟩:∃ n,n = (d + 719468) % 146097:=⟨_,rfl⟩
  have e2:Int.tmod D 146097 = n:=by rw [ku (by omega),hn,hD]
  have e2b:aO (Int.tdiv D 146097) = q:=by rw [gA (by omega),bs (by omega),hq,hD]
  have n0:0 ≤ n ∧ n ≤ 146096:=by omega
  obtain ⟨t,ht⟩:∃ t,t = n / 1460:=⟨_,rfl⟩
  have e3:aO (Int.tdiv n 1460) = t:=by rw [gA (by omega),bs (by omega),ht]
  obtain ⟨c,hc⟩:∃ c,c = n / 36524:=⟨_,rfl⟩
  have e4:aO (Int.tdiv n 36524) = c:=by rw [gA (by omega),bs (by omega),hc]
  obtain ⟨e,he⟩:∃ e,e = n / 146096:=⟨_,rfl⟩
  have e5:aO (Int.tdiv n 146096) = e:=by rw [gA (by omega),bs (by omega),he]
  have e6:aO (n - t) = n - t:=bs (by omega)
  have e7:aO (n - t + c) = n - t + c:=bs (by omega)
  have e8:aO (n - t + c - e) = n - t + c - e:=bs (by omega)
  obtain ⟨y,hy⟩:∃ y,y = (n - t + c - e) / 365:=⟨_,rfl⟩
  have e9:aO (Int.tdiv (n - t + c - e) 365) = y:=by rw [gA (by omega),bs (by omega),hy]
  obtain ⟨p,hp⟩:∃ p,p = n - (365 * y + y / 4 - y / 100):=⟨_,rfl⟩
  obtain ⟨m,hm⟩:∃ m,m = (5 * p + 2) / 153:=⟨_,rfl⟩
  obtain ⟨y0,y1,p0,p1,m0,m1,k0,k1,k2⟩:=tF h0 hq hn (by rw [hy,ht,hc,he]) hp hm
  have q0:0 ≤ q ∧ q ≤ 20:=by omega
  have e10:aO (365 * y) = 365 * y:=bs (by omega)
  have e11:aO (Int.tdiv y 4) = y / 4:=by rw [gA y0,bs (by omega)]
  have e12:aO (Int.tdiv y 100) = y / 100:=by rw [gA y0,bs (by omega)]
  have e13:aO (365 * y + y / 4) = 365 * y + y / 4:=bs (by omega)
  have e14:aO (365 * y + y / 4 - y / 100) = 365 * y + y / 4 - y / 100:=bs (by omega)
  have e15:aO (n - (365 * y + y / 4 - y / 100)) = p:=by rw [bs (by omega),hp]
  have e16:aO (5 * p) = 5 * p:=bs (by omega)
  have e17:aO (5 * p + 2) = 5 * p + 2:=bs (by omega)
  have e18:aO (Int.tdiv (5 * p + 2) 153) = m:=by rw [gA (by omega),bs (by omega),hm]
  have e20:aO (q * 400) = q * 400:=bs (by omega)
  have e21:aO (q * 400 + y) = q * 400 + y:=bs (by omega)
  have key:cP d = 12 * (q * 400 + y - 1970) + m + 2:=by
    unfold cP ja
    simp only [di,e1,e2,e2b,e3,e4,e5,e6,e7,e8,e9,e10,e11,e12,e13,e14,e15,e16,e17,e18,e20,e21]
    clear hy hp hm hn hq ht hc he
    split
    · simp only []
      rw [bs (n:=m + 3) (by omega),bs (n:=q * 400 + y - 1970) (by omega),bs (n:=(q * 400 + y - 1970) * 12) (by omega),bs (n:=m + 3 - 1) (by omega),bs (by omega)]
      omega
    · simp only []
      rw [bs (n:=m - 9) (by omega),bs (n:=q * 400 + y + 1) (by omega),bs (n:=q * 400 + y + 1 - 1970) (by omega),bs (n:=(q * 400 + y + 1 - 1970) * 12) (by omega),bs (n:=m - 9 - 1) (by omega),bs (by omega)]
      omega
  rw [key]
  exact ⟨k0,k1,k2⟩
theorem tJ {y m:Int} (hy:1970 ≤ y) (hy2:y ≤ 10000) (h0:1 ≤ m) (h1:m ≤ 12):gO y m 1 = iP (12 * (y - 1970) + m - 1):=by
  have step:∀ Y M:Int,1000 ≤ Y → Y ≤ 11000 → 0 ≤ M → M ≤ 11 → aO ((aO ((aO ((aO (Int.tdiv Y 400)) * 146097)) + (aO ((aO ((aO ((aO ((aO ((aO (365 * (Int.tmod Y 400))) + (aO (Int.tdiv (Int.tmod Y 400) 4)))) - (aO (Int.tdiv (Int.tmod Y 400) 100)))) + (aO (Int.tdiv (aO ((aO (153 * M)) + 2)) 5)))) + 1)) - 1)))) - 719468) = wq Y M:=by
    intro Y M a1 a2 a3 a4
    have f1:aO (Int.tdiv Y 400) = Y / 400:=by rw [gA (by omega),bs (by omega)]
    have f2:Int.tmod Y 400 = Y % 400:=ku (by omega)
    have f3:aO (Y / 400 * 146097) = Y / 400 * 146097:=bs (by omega)
    have f4:aO (365 * (Y % 400)) = 365 * (Y % 400):=bs (by omega)
    have f5:aO (Int.tdiv (Y % 400) 4) = Y % 400 / 4:=by rw [gA (by omega),bs (by omega)]
    have f6:aO (Int.tdiv (Y % 400) 100) = Y % 400 / 100:=by rw [gA (by omega),bs (by omega)]
    have f7:aO (153 * M) = 153 * M:=bs (by omega)
    have f8:aO (153 * M + 2) = 153 * M + 2:=bs (by omega)
    have f9:aO (Int.tdiv (153 * M + 2) 5) = (153 * M + 2) / 5:=by rw [gA (by omega),bs (by omega)]
    simp only [f1,f2,f3,f4,f5,f6,f7,f8,f9]
    have g1:aO (365 * (Y % 400) + Y % 400 / 4) = 365 * (Y % 400) + Y % 400 / 4:=bs (by omega)
    have g2:aO (365 * (Y % 400) + Y % 400 / 4 - Y % 400 / 100) = 365 * (Y % 400) + Y % 400 / 4 - Y % 400 / 100:=bs (by omega)
    have g3:aO (365 * (Y % 400) + Y % 400 / 4 - Y % 400 / 100 + (153 * M + 2) / 5) = 365 * (Y % 400) + Y % 400 / 4 - Y % 400 / 100 + (153 * M + 2) / 5:=bs (by omega)
    simp only [g1,g2,g3]
    have g4:aO (365 * (Y % 400) + Y % 400 / 4 - Y % 400 / 100 + (153 * M + 2) / 5 + 1) = 365 * (Y % 400) + Y % 400 / 4 - Y % 400 / 100 + (153 * M + 2) / 5 + 1:=bs (by omega)
    rw [g4,bs (n:=365 * (Y % 400) + Y % 400 / 4 - Y % 400 / 100 + (153 * M + 2) / 5 + 1 - 1) (by omega),bs (n:=Y / 400 * 146097 + (365 * (Y % 400) + Y % 400 / 4 - Y % 400 / 100 + (153 * M + 2) / 5 + 1 - 1)) (by omega),bs (by omega)]
    unfold wq wJ
    omega
  unfold gO
  have m3:aO (m - 3) = m - 3:=bs (by omega)
  by_cases hm:m - 3 < 0
  · have m4:aO (m - 3 + 12) = m - 3 + 12:=bs (by omega)
    have y4:aO (y - 1) = y - 1:=bs (by omega)
    simp only [di,m3,hm,if_true,m4,y4]
    rw [step (y - 1) (m - 3 + 12) (by omega) (by omega) (by omega) (by omega),← lP (by omega) (by omega)]
    congr 1; omega
  · simp only [di,m3,hm,if_false]
    rw [step y (m - 3) (by omega) (by omega) (by omega) (by omega),← lP (by omega) (by omega)]
    congr 1; omega
theorem qF {k:Int} (h0:0 ≤ k) (h1:k ≤ 40000):fR k = iP k:=by
  unfold fR
  have e1:aO (Int.tdiv k 12) = k / 12:=by rw [gA h0,bs (by omega)]
  have e2:Int.tmod k 12 = k % 12:=ku h0
  rw [e1,e2,bs (n:=1970 + k / 12) (by omega),bs (n:=k % 12 + 1) (by omega),tJ (by omega) (by omega) (by omega) (by omega)]
  simp only [di]
  congr 1; omega
theorem qk {k:Int} (h0:0 ≤ k) (h1:k ≤ 30000):iJ k = (iP k,iP (k + 1)):=by
  unfold iJ
  rw [bs (n:=k + 1) (by omega)]
  simp only [di,qF h0 (by omega),qF (k:=k + 1) (by omega) (by omega)]
theorem oN:iP 22967 ≤ 699050 ∧ 699050 < iP 22968:=by decide
theorem rk:cP 699050 = 22967:=by
  obtain ⟨h0,h1,h2⟩:=kA (d:=699050) (by omega) (by omega)
  exact ne h1 h2 oN.1 oN.2
def iU (t:Int):Int:=if t = 1 then 16777216 else if t = 2 then 699050 else if t = 3 then 22967 else -1
theorem og (t i:Int):fN t i = decide (0 ≤ i ∧ i ≤ iU t):=by
  unfold fN ff iU
  simp only [di]
  by_cases h1:t = 1
  · subst h1; simp
  · by_cases h2:t = 2
    · subst h2
      simp [kZ (h:=16777216) (by omega) (by omega)]
    · by_cases h3:t = 3
      · subst h3
        have e:(16777216:Int) / 24 = 699050:=by decide
        simp [kZ (h:=16777216) (by omega) (by omega),e,rk]
      · simp [h1,h2,h3]
        omega
def iE (t i:Int):Int:=if t = 1 then i else if t = 2 then 24 * i else 24 * iP i
def pa (t i:Int):Int:=iE t (i + 1)
theorem jL {k:Int} (h0:0 ≤ k) (h1:k ≤ 30000):0 ≤ iP k ∧ iP k ≤ 2000000:=by
  have a:=iB h0
  rw [lY] at a
  have b:=iB h1
  have c:iP 30000 ≤ 2000000:=by decide
  omega
theorem qS (t:Int):iU t ≤ 16777216:=by unfold iU; split <;> (try split) <;> (try split) <;> omega
theorem mC {t i:Int} (h0:0 ≤ i) (h1:i ≤ iU t):t = 1 ∨ t = 2 ∨ t = 3:=by
  unfold iU at h1
  split at h1
  · omega
  · split at h1
    · omega
    · split at h1 <;> omega
theorem lN {t i:Int} (h0:0 ≤ i) (h1:i ≤ iU t):fm t i = (iE t i,pa t i):=by
  have hm:=qS t
  unfold fm
  have e1:aO (i + 1) = i + 1:=bs (by omega)
  simp only [di,og,h0,h1,and_self,decide_true,Bool.not_true,Bool.false_eq_true,if_false,e1]
  rcases mC h0 h1 with rfl | rfl | rfl
  · simp [rn,iE,pa]
  · have h1':i ≤ 699050:=h1
    simp [rn,iE,pa]
    rw [bs (by omega),bs (by omega)]
    constructor <;> omega
  · have h1':i ≤ 22967:=h1
    have a:=jL h0 (by omega)
    have b:=jL (k:=i + 1) (by omega) (by omega)
    simp [rn,iE,pa,qk h0 (show i ≤ 30000 by omega)]
    rw [bs (by omega),bs (by omega)]
    constructor <;> omega
theorem wi {t i:Int} (h0:0 ≤ i) (h1:i ≤ iU t):0 ≤ iE t i ∧ iE t i < pa t i ∧ pa t i ≤ 48000000:=by
  rcases mC h0 h1 with rfl | rfl | rfl
  · have h1':i ≤ 16777216:=h1
    simp [iE,pa]; omega
  · have h1':i ≤ 699050:=h1
    simp [iE,pa]; omega
  · have h1':i ≤ 22967:=h1
    have a:=jL h0 (by omega)
    have b:=jL (k:=i + 1) (by omega) (by omega)
    have c:=vh i
    simp [iE,pa]; omega
theorem vB {t i h:Int} (h0:0 ≤ i) (h1:i ≤ iU t):gG t i h = decide (iE t i ≤ h ∧ h < pa t i):=by
  unfold gG
  rw [lN h0 h1]
  unfold ff
  by_cases c1:h < 0
  · simp [di,c1]
  · by_cases c2:16777216 < h
    · simp [di,c1,c2]
    · rcases mC h0 h1 with rfl | rfl | rfl
      · simp [di,c1,c2,iE,pa]
        rw [Bool.eq_iff_iff]; simp; omega
      · simp [di,c1,c2,iE,pa,kZ (h:=h) (by omega) (by omega)]
        rw [Bool.eq_iff_iff]; simp; omega
      · have h1':i ≤ 22967:=h1
        obtain ⟨m0,m1,m2⟩:=kA (d:=h / 24) (by omega) (by omega)
        simp [di,c1,c2,iE,pa,kZ (h:=h) (by omega) (by omega)]
        rw [Bool.eq_iff_iff]; simp
        constructor
        · rintro rfl; omega
        · rintro ⟨a,b⟩; exact ne m1 m2 (by omega) (by omega)
end Go.Proofs.YtnjfjmbanmaciaaGreat.DueTargets
end
section
set_option linter.unusedVariables false
set_option linter.unusedSimpArgs false
set_option maxRecDepth 20000
namespace Go.Proofs.YtnjfjmbanmaciaaGreat.DueTargets
open Go E
abbrev Pr:=ag
abbrev En:=av
abbrev zP:Pr:=ap
def ml (p:aD):Prop:=0 ≤ p.Index ∧ p.Index ≤ iU p.Tier
def iC (p:aD):Int:=iE p.Tier p.Index
def lq (p:aD):Int:=pa p.Tier p.Index
def kk (x:Pr):Int:=x.k
def hh (x:Pr):Int:=lq x.v.Part
structure jU (l:List Pr):Prop where
  srt:pR kk hh l
  rt:∀ x ∈ l,ml x.v.Part
  key:∀ x ∈ l,x.k = iC x.v.Part
  len:l.length ≤ 100000
theorem oy {p:aD} (h:ml p):0 ≤ iC p ∧ iC p < lq p ∧ lq p ≤ 48000000:=wi h.1 h.2
theorem jU.sub {l m:List Pr} (h:jU l) (s:m.Sublist l):jU m:=⟨h.srt.sub s,fun x hx=>h.rt x (s.subset hx),fun x hx=>h.key x (s.subset hx),Nat.le_trans s.length_le h.len⟩
theorem jU.nil:jU []:=⟨pR.nil,by simp,by simp,by simp⟩
theorem jn {l:List Pr} {j:Nat} (hj:j < l.length):l.getD j zP ∈ l:=by
  have e:l.getD j zP = l[j]:=by simp [List.getD_eq_getElem?_getD,List.getElem?_eq_getElem hj]
  rw [e]; exact List.getElem_mem hj
theorem lk {l:List Pr} (h:jU l) {i j:Nat} (hij:i < j) (hj:j < l.length):(l.getD i zP).k < (l.getD j zP).k:=by
  have e:l.getD j zP = l[j]:=by simp [List.getD_eq_getElem?_getD,List.getElem?_eq_getElem hj]
  have e2:l.getD i zP = l[i]:=by simp [List.getD_eq_getElem?_getD,List.getElem?_eq_getElem (show i < l.length by omega)]
  rw [e,e2]
  have h1:=List.pairwise_iff_getElem.1 h.srt.2 i j (by omega) hj hij
  have h2:=h.srt.1 l[i] (List.getElem_mem (by omega))
  simp only [kk] at h1 h2
  omega
theorem vU {a b:Int} (h0:0 ≤ a) (h1:a ≤ b) (h2:b ≤ 1000000000):aO (na .u64 (nF (aO (a + b))) 1) = (a + b) / 2:=by
  rw [bs (n:=a + b) (by omega),wk (by omega)]
  have e:na .u64 (a + b) 1 = (a + b) / 2:=by
    unfold na
    have e2:(2:Int) ^ min (1:Int).toNat IntKind.u64.bits = 2:=by decide
    rw [e2,Int.fdiv_eq_ediv_of_nonneg _ (by decide)]
  rw [e,bs (by omega)]
theorem mT {K:Nat} {l:List Pr} (h:jU l) (k:Int):∀ (f:Nat) (a b:Int),0 ≤ a → a ≤ b → b ≤ l.length → a ≤ fC kk l k → (fC kk l k:Int) ≤ b → b - a < f → fa K l k f a b = some (fC kk l k:Int)
  | 0,a,b,h0,h1,h2,h3,h4,h5=>by omega
  | f + 1,a,b,h0,h1,h2,h3,h4,h5=>by
    have hlen:=h.len
    unfold fa
    by_cases hab:a < b
    · rw [if_pos hab,vU h0 h1 (by omega)]
      have m0:0 ≤ (a + b) / 2:=by omega
      have m1:(a + b) / 2 < l.length:=by omega
      unfold cp
      rw [if_pos m0,if_pos m1]
      have hc:=kr h.srt (k:=k) (z:=zP) (show ((a + b) / 2).toNat < l.length by omega)
      simp only [kk] at hc
      by_cases hk:k ≤ (l.getD ((a + b) / 2).toNat zP).k
      · have:¬ ((a + b) / 2).toNat < fC kk l k:=fun hx=>by have:=hc.2 hx; omega
        simp only [Option.bind_some,hk,decide_true,Bool.not_true,Bool.false_eq_true,if_false]
        exact mT h k f a ((a + b) / 2) h0 (by omega) (by omega) h3 (by omega) (by omega)
      · have:((a + b) / 2).toNat < fC kk l k:=hc.1 (by omega)
        simp only [Option.bind_some,hk,decide_false,Bool.not_false,if_true]
        rw [bs (by omega)]
        exact mT h k f ((a + b) / 2 + 1) b (by omega) (by omega) h2 (by omega) h4 (by omega)
    · rw [if_neg hab]; congr 1; omega
theorem mB {K:Nat} {l:List Pr} (h:jU l) (k:Int) (hK:200000 ≤ K):bo K l k = some (decide (fC kk l k < l.length ∧ (l.getD (fC kk l k) zP).k = k),(fC kk l k:Int)):=by
  have hlen:=h.len
  have hc:=kq (key:=kk) l k
  unfold bo hG
  rw [mT h k K 0 l.length (by omega) (by omega) (by omega) (by omega) (by omega) (by omega)]
  simp only [Option.bind_some]
  by_cases h1:(fC kk l k:Int) < l.length
  · rw [if_pos h1,if_pos (by omega)]
    have h2:fC kk l k < l.length:=by omega
    simp only [h2,true_and,Int.toNat_natCast]
    congr 2
  · rw [if_neg h1]
    have h2:¬ fC kk l k < l.length:=by omega
    simp [h2]
def jV:Option En → Int × Int × Int × Int × Int × Bool × Bool
  | none=>(0,0,0,0,0,false,false)
  | some e=>(e.Part.Tier,e.Part.Index,e.Seg,e.Mark,e.Rows,e.Cold,true)
def kM (l:List Pr) (n:Int):Option En:=(l.find? (mJ kk hh n)).map (·.v)
theorem xu {K:Nat} {l:List Pr} (h:jU l) (n:Int) (hK:200000 ≤ K):ew K l n = some (jV (kM l n)):=by
  have hlen:=h.len
  have hc:=kq (key:=kk) l n
  have fin:∀ j:Nat,j < l.length → (l.getD j zP).k ≤ n → (∀ i,j < i → i < l.length → n < (l.getD i zP).k) →
      ((if (0:Int) ≤ j then if (j:Int) < l.length then some ((l.getD (j:Int).toNat zP).k,(l.getD (j:Int).toNat zP).v.Part.Tier,(l.getD (j:Int).toNat zP).v.Part.Index,(l.getD (j:Int).toNat zP).v.Seg,(l.getD (j:Int).toNat zP).v.Mark,(l.getD (j:Int).toNat zP).v.Rows,(l.getD (j:Int).toNat zP).v.Cold,true) else none else none).bind fun x4=>if (!x4.2.2.2.2.2.2.2) = true then some (0,0,0,0,0,false,false) else fX (gG x4.2.1 x4.2.2.1 n) fun x6=>if (!x6) = true then some (0,0,0,0,0,false,false) else some (x4.2.1,x4.2.2.1,x4.2.2.2.1,x4.2.2.2.2.1,x4.2.2.2.2.2.1,x4.2.2.2.2.2.2.1,true)) = some (jV (kM l n)):=by
    intro j hj h1 h2
    rw [if_pos (by omega),if_pos (by omega)]
    have hm:=jn hj
    have hr:=h.rt _ hm
    have hk:=h.key _ hm
    simp only [Option.bind_some,Int.toNat_natCast,Bool.not_true,Bool.false_eq_true,if_false,di]
    rw [vB hr.1 hr.2]
    unfold kM
    rw [oF h.srt (z:=zP) hj h1 h2]
    have e1:iE (l.getD j zP).v.Part.Tier (l.getD j zP).v.Part.Index = (l.getD j zP).k:=hk.symm
    have e2:pa (l.getD j zP).v.Part.Tier (l.getD j zP).v.Part.Index = hh (l.getD j zP):=rfl
    rw [e1,e2]
    generalize l.getD j zP = x at *
    by_cases hn:n < hh x
    · have e3:decide (x.k ≤ n ∧ n < hh x) = true:=by simp [h1,hn]
      rw [e3,if_pos hn]
      rfl
    · have e3:decide (x.k ≤ n ∧ n < hh x) = false:=by simp [hn]
      rw [e3,if_neg hn]
      rfl
  unfold ew cy
  rw [mB h n hK]
  simp only [Option.bind_some,di]
  by_cases his:fC kk l n < l.length ∧ (l.getD (fC kk l n) zP).k = n
  · have e:decide (fC kk l n < l.length ∧ (l.getD (fC kk l n) zP).k = n) = true:=by simp only [his.1,his.2,true_and,decide_true]
    simp only [e,Bool.not_true,Bool.false_eq_true,if_false]
    rw [if_neg (by omega)]
    exact fin (fC kk l n) his.1 (by omega) fun i h1 h2=>by have:=lk h h1 h2; omega
  · have e:decide (fC kk l n < l.length ∧ (l.getD (fC kk l n) zP).k = n) = false:=by simpa using his
    simp only [e,Bool.not_false,if_true]
    rw [bs (by omega)]
    by_cases h0:fC kk l n = 0
    · rw [if_pos (by omega)]
      simp only [Option.bind_some,Bool.not_false,if_true]
      have:kM l n = none:=by
        unfold kM
        rw [jK]
        · rfl
        · intro x hx
          obtain ⟨_,a2⟩:=jJ h.srt n
          rw [h0] at a2
          have h1:=a2 x (by simpa using hx)
          have h2:kk x ≠ n:=by
            intro hxn
            obtain ⟨i,hi1,hi2⟩:=List.getElem_of_mem hx
            have e3:l.getD i zP = x:=by simp [List.getD_eq_getElem?_getD,List.getElem?_eq_getElem hi1,hi2]
            have e4:¬ 0 < i:=fun hi0=>by
              have h5:=lk h hi0 hi1
              have h6:=a2 (l.getD 0 zP) (by simpa using jn (show 0 < l.length by omega))
              rw [e3] at h5
              simp only [kk] at hxn h6
              omega
            have e5:i = 0:=by omega
            subst e5
            apply his
            rw [h0]
            exact ⟨by omega,by rw [e3]; exact hxn⟩
          simp [mJ]; omega
      rw [this]; rfl
    · rw [if_neg (by omega)]
      have e1:(fC kk l n:Int) - 1 = ((fC kk l n - 1:Nat):Int):=by omega
      rw [e1]
      have hlt:=(kr h.srt (k:=n) (z:=zP) (show fC kk l n - 1 < l.length by omega)).2 (by omega)
      refine fin (fC kk l n - 1) (by omega) (by simp only [kk] at hlt; omega) fun i h1 h2=>?_
      have h3:¬ i < fC kk l n:=by omega
      have h4:¬ kk (l.getD i zP) < n:=fun hx=>h3 ((kr h.srt (z:=zP) h2).1 hx)
      simp only [kk] at h4
      by_cases h5:i = fC kk l n
      · subst h5
        have:(l.getD (fC kk l n) zP).k ≠ n:=fun hx=>his ⟨h2,hx⟩
        omega
      · have h6:=lk h (show fC kk l n < i by omega) h2
        have h7:¬ kk (l.getD (fC kk l n) zP) < n:=fun hx=>by
          have:=(kr h.srt (z:=zP) (show fC kk l n < l.length by omega)).1 hx
          omega
        simp only [kk] at h7
        omega
theorem wE {K:Nat} {l:List Pr} (h:jU l) {a b:Int} (hab:a < b) (hK:200000 ≤ K):cb K l a b = some (l.filter fun x=>decide (a ≤ kk x ∧ kk x < b)):=by
  have hc:=kq (key:=kk) l b
  have hm:fC kk l a ≤ fC kk l b:=qx (by omega)
  unfold cb
  rw [mB h a hK,mB h b hK]
  simp only [Option.bind_some,di]
  have hr:=vE h.srt (show a ≤ b by omega)
  by_cases h1:(fC kk l b:Int) ≤ fC kk l a
  · rw [if_pos h1]
    have:fC kk l b - fC kk l a = 0:=by omega
    rw [this] at hr
    simp at hr
    rw [← kX (l:=l) (p:=fun x=>decide (a ≤ kk x ∧ kk x < b)) (fun x hx=>by simpa using hr x hx)]
  · rw [if_neg h1,if_pos (by omega),if_pos (by omega),if_pos (by omega)]
    simp only [Int.toNat_natCast]
    rw [hr]
theorem mW {K:Nat} {γ:Type} {y:Int → av → γ → Option (γ × Bool)} {l:List Pr} (inv:Nat → γ → Prop) (f:γ → Pr → γ) (hl:l.length ≤ 1000000)
    (hy:∀ i,i < l.length → ∀ z,inv i z → y (l.getD i zP).k (l.getD i zP).v z = some (f z (l.getD i zP),true) ∧ inv (i + 1) (f z (l.getD i zP))) :
    ∀ (n i:Nat) (z:γ),l.length - i < n → i ≤ l.length → inv i z → bY K γ y l n i z = some ((l.drop i).foldl f z)
  | 0,i,z,h1,h2,h3=>by omega
  | n + 1,i,z,h1,h2,h3=>by
    unfold bY
    by_cases hi:i < l.length
    · rw [if_pos (by omega),if_pos (by omega)]
      simp only [Int.toNat_natCast]
      obtain ⟨h4,h5⟩:=hy i hi z h3
      have h4':y (l.getD i zP).k (⟨(⟨(l.getD i zP).v.Part.Tier,(l.getD i zP).v.Part.Index⟩:aD),(l.getD i zP).v.Seg,(l.getD i zP).v.Mark,(l.getD i zP).v.Rows,(l.getD i zP).v.Cold⟩:av) z = some (f z (l.getD i zP),true):=h4
      rw [h4']
      simp only [Option.bind_some,Bool.not_true,Bool.false_eq_true,if_false]
      rw [bs (by omega)]
      have e:((i:Int) + 1) = ((i + 1:Nat):Int):=by omega
      rw [e,mW inv f hl hy n (i + 1) _ (by omega) (by omega) h5]
      have e2:l.getD i zP = l[i]:=by simp [List.getD_eq_getElem?_getD,List.getElem?_eq_getElem hi]
      rw [List.drop_eq_getElem_cons hi,List.foldl_cons,e2]
    · rw [if_neg (by omega),List.drop_eq_nil_of_le (by omega)]; rfl
def xT (l:List Pr) (a b:Int):List En:=(l.filter (pN kk hh a b)).map (·.v)
theorem wd {K:Nat} {l:List Pr} (h:jU l) {a b:Int} (hK:200000 ≤ K):dW K l a b = some (if a < b then xT l a b else []):=by
  have hlen:=h.len
  unfold dW
  by_cases hab:a < b
  · rw [if_neg (by omega),if_pos hab,xu h a hK]
    simp only [Option.bind_some]
    have e0:(if (jV (kM l a)).2.2.2.2.2.2 = true then (if (([]:List av).length + [(⟨(⟨(jV (kM l a)).1,(jV (kM l a)).2.1⟩:aD),(jV (kM l a)).2.2.1,(jV (kM l a)).2.2.2.1,(jV (kM l a)).2.2.2.2.1,(jV (kM l a)).2.2.2.2.2.1⟩:av)].length) * 48 ≤ 140737488355328 then (some ((([]:List av) ++ [(⟨(⟨(jV (kM l a)).1,(jV (kM l a)).2.1⟩:aD),(jV (kM l a)).2.2.1,(jV (kM l a)).2.2.2.1,(jV (kM l a)).2.2.2.2.1,(jV (kM l a)).2.2.2.2.2.1⟩:av)]))) else none) else (some (([]:List av)))) = some (kM l a).toList:=by
      cases kM l a with
      | none=>simp [jV]
      | some e=>simp [jV]
    rw [e0]
    simp only [Option.bind_some]
    rw [wE h hab hK]
    simp only [Option.bind_some]
    have hfl:(l.filter fun x=>decide (a ≤ kk x ∧ kk x < b)).length ≤ l.length:=List.length_filter_le ..
    have hal:(kM l a).toList.length ≤ 1:=by cases kM l a <;> simp
    unfold bK
    have hloop:=mW (K:=K) (y:=dI K a) (l:=l.filter fun x=>decide (a ≤ kk x ∧ kk x < b)) (fun i z=>z.length ≤ i + 1) (fun z x=>if x.k = a then z else z ++ [x.v]) (by omega)
      (fun i hi z hz=>by
        unfold dI
        by_cases hk:((l.filter fun x=>decide (a ≤ kk x ∧ kk x < b)).getD i zP).k = a
        · rw [if_pos hk,if_pos hk]; exact ⟨rfl,by omega⟩
        · rw [if_neg hk,if_neg hk,if_pos (by simp; omega)]
          exact ⟨rfl,by simp; omega⟩) K 0 (kM l a).toList (by omega) (by omega) (by omega)
    have e1:((0:Nat):Int) = 0:=rfl
    rw [e1] at hloop
    rw [hloop]
    simp only [Option.bind_some,List.drop_zero]
    congr 1
    have hf:∀ (m:List Pr) (z:List En),m.foldl (fun z x=>if x.k = a then z else z ++ [x.v]) z = z ++ (m.filter fun x=>!decide (x.k = a)).map (·.v):=by
      intro m
      induction m with
      | nil=>simp
      | cons x m ih =>
        intro z
        rw [List.foldl_cons,ih]
        by_cases hx:x.k = a <;> simp [hx]
    rw [hf,List.filter_filter]
    unfold xT kM
    rw [se h.srt hab,List.map_append]
    congr 1
    · cases l.find? (mJ kk hh a) <;> rfl
    · congr 1
      apply List.filter_congr
      intro x hx
      show (!decide (x.k = a) && decide (a ≤ x.k ∧ x.k < b)) = decide (a < x.k ∧ x.k < b)
      rw [Bool.eq_iff_iff]
      simp only [Bool.and_eq_true,Bool.not_eq_true',decide_eq_false_iff_not,decide_eq_true_eq]
      omega
  · rw [if_pos (by omega),if_neg hab]
end Go.Proofs.YtnjfjmbanmaciaaGreat.DueTargets
end
section
set_option linter.unusedVariables false
set_option linter.unusedSimpArgs false
set_option maxRecDepth 20000
namespace Go.Proofs.YtnjfjmbanmaciaaGreat.DueTargets
open Go E
theorem qv {K:Nat} {l:List Pr} (hl:l.length ≤ 100000) (hK:200000 ≤ K):ck K l = some l:=by
  unfold ck bK
  simp only [di]
  have hloop:=mW (K:=K) (y:=cr K) (l:=l) (fun i z=>z.length ≤ i) (fun z x=>z ++ [x]) (by omega)
    (fun i hi z hz=>by
      unfold cr
      rw [if_pos (by simp; omega)]
      exact ⟨rfl,by simp; omega⟩) K 0 [] (by omega) (by omega) (by simp)
  have e1:((0:Nat):Int) = 0:=rfl
  rw [e1] at hloop
  rw [hloop]
  have hf:∀ (m z:List Pr),m.foldl (fun z x=>z ++ [x]) z = z ++ m:=by
    intro m
    induction m with
    | nil=>simp
    | cons x m ih=>intro z; rw [List.foldl_cons,ih]; simp
  rw [List.drop_zero,hf]; rfl
theorem wB {K:Nat} {l:List Pr} (hl:l.length ≤ 100000) (hK:200000 ≤ K):dQ K l = some l:=by
  unfold dQ
  rw [qv hl hK]; rfl
def we (e:En):Prop:=ml e.Part ∧ (1 ≤ e.Seg ∧ e.Seg ≤ 4611686018427387904) ∧ (1 ≤ e.Rows ∧ e.Rows ≤ 4611686018427387904) ∧ (0 ≤ e.Mark ∧ e.Mark ≤ 4611686018427387904) ∧ (e.Part.Tier = 3 ∨ e.Cold = false)
instance (p:aD):Decidable (ml p):=inferInstanceAs (Decidable (_ ∧ _))
instance (e:En):Decidable (we e):=inferInstanceAs (Decidable (_ ∧ _))
theorem xy (a b:Int):dX a b = decide (b ≤ a ∧ a ≤ 4611686018427387904):=by
  unfold dX
  by_cases h:b ≤ a <;> simp [h]
theorem xz (e:En):gr e.Part.Tier e.Part.Index e.Seg e.Mark e.Rows e.Cold = decide (we e):=by
  unfold gr we ml
  simp only [di,og,xy]
  rw [Bool.eq_iff_iff]
  by_cases h1:0 ≤ e.Part.Index ∧ e.Part.Index ≤ iU e.Part.Tier
  · by_cases h2:1 ≤ e.Seg ∧ e.Seg ≤ 4611686018427387904
    · by_cases h3:1 ≤ e.Rows ∧ e.Rows ≤ 4611686018427387904
      · by_cases h4:0 ≤ e.Mark ∧ e.Mark ≤ 4611686018427387904
        · by_cases h5:e.Part.Tier = 3
          · simp [h1,h2,h3,h4,h5]
          · simp [h1,h2,h3,h4,h5]
        · simp [h1,h2,h3,h4]
      · simp [h1,h2,h3]
    · simp [h1,h2]
  · simp [h1]
def wR (l:List Pr) (e:En):List Pr:=l.take (fC kk l (iC e.Part)) ++ (⟨iC e.Part,e⟩:Pr) :: l.drop (fC kk l (iC e.Part))
def ma (l:List Pr) (e:En):Int × List Pr:=if we e then (if l.filter (pN kk hh (iC e.Part) (lq e.Part)) = [] then (0,wR l e) else (12,l)) else (4,l)
theorem sF (l:List Pr) (e:En):(wR l e).length = l.length + 1:=by
  have:=kq (key:=kk) l (iC e.Part)
  simp [wR]; omega
theorem vW {l:List Pr} (h:jU l) {e:En} (he:we e) (hno:l.filter (pN kk hh (iC e.Part) (lq e.Part)) = []) (hl:l.length ≤ 99999):jU (wR l e):=by
  have hm:∀ x ∈ wR l e,x = ⟨iC e.Part,e⟩ ∨ x ∈ l:=by
    intro x hx
    unfold wR at hx
    rcases List.mem_append.1 hx with hx | hx
    · exact .inr (List.mem_of_mem_take hx)
    · rcases List.mem_cons.1 hx with hx | hx
      · exact .inl hx
      · exact .inr (List.mem_of_mem_drop hx)
  refine ⟨ru h.srt (x:=(⟨iC e.Part,e⟩:Pr)) (oy he.1).2.1 hno,fun x hx=>?_,fun x hx=>?_,by rw [sF]; omega⟩
  · rcases hm x hx with rfl | hx
    · exact he.1
    · exact h.rt x hx
  · rcases hm x hx with rfl | hx
    · rfl
    · exact h.key x hx
theorem xb {K:Nat} {l:List Pr} (h:jU l) (hl:l.length ≤ 99999) (e:En) (hK:200000 ≤ K):ei K l e.Part.Tier e.Part.Index e.Seg e.Mark e.Rows e.Cold = some (ma l e):=by
  unfold ei ma
  rw [xz]
  simp only [di]
  by_cases he:we e
  · have hlt:=oy he.1
    simp only [he,decide_true,Bool.not_true,Bool.false_eq_true,if_false,if_true]
    rw [lN he.1.1 he.1.2]
    have e1:iE e.Part.Tier e.Part.Index = iC e.Part:=rfl
    have e2:pa e.Part.Tier e.Part.Index = lq e.Part:=rfl
    simp only [e1,e2]
    rw [wd h hK,if_pos hlt.2.1]
    simp only [Option.bind_some]
    unfold xT
    by_cases hno:l.filter (pN kk hh (iC e.Part) (lq e.Part)) = []
    · rw [hno]
      simp only [List.map_nil,List.length_nil,if_true]
      rw [if_neg (by omega)]
      unfold cK
      rw [mB h _ hK]
      have hn:decide (fC kk l (iC e.Part) < l.length ∧ (l.getD (fC kk l (iC e.Part)) zP).k = iC e.Part) = false:=by
        simp only [decide_eq_false_iff_not]
        rintro ⟨h1,h2⟩
        have hm:=jn h1
        have:=List.filter_eq_nil_iff.1 hno _ hm
        apply this
        have h3:=h.srt.1 _ hm
        simp only [kk] at h3
        rw [nP]
        simp only [kk]
        omega
      rw [hn]
      simp only [Option.bind_some,Bool.false_eq_true,if_false]
      have hc:=kq (key:=kk) l (iC e.Part)
      have hi:be l (fC kk l (iC e.Part):Int) [(⟨iC e.Part,e⟩:Pr)] = some (wR l e):=by
        unfold be wu
        simp only []
        rw [if_pos ⟨by omega,by omega,by omega⟩,Int.toNat_natCast,qq _ _ _ hc]
        rfl
      show ((be l (fC kk l (iC e.Part):Int) [(⟨iC e.Part,e⟩:Pr)]).bind _).bind _ = _
      rw [hi]
      rfl
    · rw [if_neg hno,if_pos]
      have:(l.filter (pN kk hh (iC e.Part) (lq e.Part))).length ≠ 0:=fun h0=>hno (List.eq_nil_of_length_eq_zero h0)
      simp only [List.length_map]
      omega
  · simp only [he,decide_false,Bool.not_false,if_true,if_false]
def gB:List Pr → List En → Int × List Pr
  | l,[]=>(0,l)
  | l,e :: es=>if (ma l e).1 = 0 then gB (ma l e).2 es else ((ma l e).1,l)
theorem ou {l:List Pr} (h:jU l) (hl:l.length ≤ 99999) (e:En):jU (ma l e).2 ∧ (ma l e).2.length ≤ l.length + 1:=by
  unfold ma
  split
  · rename_i he
    split
    · rename_i hno
      exact ⟨vW h he hno hl,by simp [sF]⟩
    · exact ⟨h,by simp⟩
  · exact ⟨h,by simp⟩
theorem nU:∀ {es:List En} {l:List Pr},jU l → l.length + es.length ≤ 99999 → jU (gB l es).2 ∧ (gB l es).2.length ≤ l.length + es.length
  | [],l,h,hl=>⟨h,by simp [gB]⟩
  | e :: es,l,h,hl=>by
    simp only [List.length_cons] at hl
    obtain ⟨h1,h2⟩:=ou h (by omega) e
    unfold gB
    split
    · obtain ⟨h3,h4⟩:=nU (es:=es) h1 (by omega)
      exact ⟨h3,by simp; omega⟩
    · exact ⟨h,by simp⟩
theorem xA {l:List En} {i:Nat} (hi:i < l.length):l.getD i aT = l[i]:=by simp [List.getD_eq_getElem?_getD,List.getElem?_eq_getElem hi]
theorem lz {K:Nat} (l0:List Pr) (es:List En) (hes:es.length ≤ 10000) (hK:200000 ≤ K):∀ (f i:Nat) (l:List Pr),jU l → l.length + (es.length - i) ≤ 99999 → i ≤ es.length → es.length - i < f →
    cQ K l0 es f i l = some (if (gB l (es.drop i)).1 = 0 then Sum.inl (gB l (es.drop i)).2 else Sum.inr ((gB l (es.drop i)).1,l0))
  | 0,i,l,h,h1,h2,h3=>by omega
  | f + 1,i,l,h,h1,h2,h3=>by
    unfold cQ
    by_cases hi:i < es.length
    · rw [if_pos (by omega),if_pos (by omega)]
      simp only [Int.toNat_natCast]
      rw [xb h (by omega) (es.getD i aT) hK]
      simp only [Option.bind_some]
      rw [List.drop_eq_getElem_cons hi,xA hi]
      unfold gB
      by_cases h0:(ma l es[i]).1 = 0
      · obtain ⟨c1,c2⟩:=ou h (by omega) es[i]
        rw [if_neg (by simp [h0]),if_pos h0,bs (by omega)]
        have e:((i:Int) + 1) = ((i + 1:Nat):Int):=by omega
        rw [e]
        exact lz l0 es hes hK f (i + 1) _ c1 (by omega) (by omega) (by omega)
      · rw [if_pos h0,if_neg h0,if_neg h0]
    · rw [if_neg (by omega),List.drop_eq_nil_of_le (by omega)]
      simp [gB]
def xN (l:List Pr) (p:aD):Bool:=l.any fun x=>decide (x.v.Part = p)
def vo (l:List Pr) (p:aD):List Pr:=l.filter fun x=>!decide (x.k = iC p)
def jX:List Pr → List aD → Option (List Pr)
  | l,[]=>some l
  | l,p :: ps=>if xN l p = true then jX (vo l p) ps else none
theorem uu {l:List Pr} (h:jU l) (p:aD):jU (vo l p):=h.sub List.filter_sublist
theorem nl:∀ {ps:List aD} {l m:List Pr},jU l → jX l ps = some m → jU m ∧ m.length ≤ l.length
  | [],l,m,h,hd=>by
    simp [jX] at hd; subst hd; exact ⟨h,Nat.le_refl _⟩
  | p :: ps,l,m,h,hd=>by
    unfold jX at hd
    split at hd
    · obtain ⟨h1,h2⟩:=nl (uu h p) hd
      have:(vo l p).length ≤ l.length:=List.length_filter_le ..
      exact ⟨h1,by omega⟩
    · cases hd
def kY (l:List Pr) (ps:List aD) (es:List En):Int × List Pr:=match jX l ps with | none=>(11,l) | some m=>if (gB m es).1 = 0 then (0,(gB m es).2) else ((gB m es).1,l)
theorem qT {K:Nat} {l:List Pr} (h:jU l) (es:List En) (hes:l.length + es.length ≤ 10000) (hK:200000 ≤ K):dp K l es = some (kY l [] es):=by
  have hlen:=h.len
  unfold dp kY
  rw [wB (by omega) hK]
  simp only [Option.bind_some]
  have hl0:dY K K = some ():=by
    obtain ⟨k,rfl⟩:∃ k,K = k + 1:=⟨K - 1,by omega⟩
    rfl
  rw [hl0]
  simp only [Option.bind_some,jX]
  have hp:=lz (K:=K) l es (by omega) hK K 0 l h (by omega) (by omega) (by omega)
  have e1:((0:Nat):Int) = 0:=rfl
  rw [e1] at hp
  rw [hp,List.drop_zero]
  simp only [Option.bind_some]
  by_cases h0:(gB l es).1 = 0
  · rw [if_pos h0,if_pos h0] <;> rfl
  · rw [if_neg h0,if_neg h0] <;> rfl
end Go.Proofs.YtnjfjmbanmaciaaGreat.DueTargets
end
section
set_option linter.unusedVariables false
set_option linter.unusedSimpArgs false
set_option maxRecDepth 20000
namespace Go.Proofs.YtnjfjmbanmaciaaGreat.DueTargets
open Go E
theorem sA {y:Int} (h:0 ≤ y):en y = nu y:=by
  unfold en nu
  rw [ku h,ku h,ku h]
  by_cases h1:y % 4 = 0
  · by_cases h2:y % 100 = 0
    · simp [h1,h2]
      rw [Bool.eq_iff_iff]; simp
    · simp [h1,h2]
  · simp [h1]
theorem sn {y:Int} (h:0 ≤ y):dv y = if nu y = true then 366 else 365:=by
  unfold dv
  simp only [di,sA h]
theorem length_eq {y m:Int} (h:0 ≤ y) (h1:1 ≤ m) (h2:m ≤ 12):bS y m = qg y m:=by
  unfold bS qg
  simp only [di,sA h]
  have hm:m = 1 ∨ m = 2 ∨ m = 3 ∨ m = 4 ∨ m = 5 ∨ m = 6 ∨ m = 7 ∨ m = 8 ∨ m = 9 ∨ m = 10 ∨ m = 11 ∨ m = 12:=by omega
  rcases hm with rfl | rfl | rfl | rfl | rfl | rfl | rfl | rfl | rfl | rfl | rfl | rfl <;> simp
theorem lr {k:Int} (h0:0 ≤ k) (h1:k ≤ 37000):0 ≤ iP k ∧ iP k ≤ 2000000:=by
  have a:=iB h0
  rw [lY] at a
  have b:=iB h1
  have c:iP 37000 ≤ 2000000:=by decide
  omega
theorem py {K:Nat} {a:Int} (ha:a ≤ 4901):∀ (f:Nat) (n y:Int),1970 ≤ y → y ≤ a → n = iP (12 * (y - 1970)) → a - y < f → dS K a f n y = some (iP (12 * (a - 1970)))
  | 0,n,y,h0,h1,h2,h3=>by omega
  | f + 1,n,y,h0,h1,h2,h3=>by
    unfold dS
    by_cases hy:y < a
    · rw [if_pos hy]
      have b:=lr (k:=12 * (y - 1970)) (by omega) (by omega)
      simp only [di,sn (show 0 ≤ y by omega)]
      have e:=qD y
      rw [bs (n:=y + 1) (by omega),bs (by split <;> omega)]
      exact py ha f _ (y + 1) (by omega) (by omega) (by rw [h2,e]) (by omega)
    · rw [if_neg hy]
      have:y = a:=by omega
      rw [h2,this]
theorem oZ {K:Nat} {y a:Int} (hy:1970 ≤ y) (hy2:y ≤ 4901) (ha:a ≤ 12):∀ (f:Nat) (n m:Int),1 ≤ m → m ≤ a → n = iP (12 * (y - 1970) + m - 1) → a - m < f → dM K y a f n m = some (iP (12 * (y - 1970) + a - 1))
  | 0,n,m,h0,h1,h2,h3=>by omega
  | f + 1,n,m,h0,h1,h2,h3=>by
    unfold dM
    by_cases hm:m < a
    · rw [if_pos hm]
      have b:=lr (k:=12 * (y - 1970) + m - 1) (by omega) (by omega)
      simp only [di,length_eq (show 0 ≤ y by omega) h0 (by omega)]
      have c:=la y m
      have e:=md (12 * (y - 1970) + m - 1)
      have e1:1970 + (12 * (y - 1970) + m - 1) / 12 = y:=by omega
      have e2:(12 * (y - 1970) + m - 1) % 12 + 1 = m:=by omega
      rw [e1,e2] at e
      rw [bs (n:=m + 1) (by omega),bs (by omega)]
      refine oZ hy hy2 ha f _ (m + 1) (by omega) (by omega) ?_ (by omega)
      rw [h2,← e]; congr 1; omega
    · rw [if_neg hm]
      have:m = a:=by omega
      rw [h2,this]
theorem pI {K:Nat} {y m:Int} (hK:200000 ≤ K) (h0:1970 ≤ y) (h1:y ≤ 4900) (h2:1 ≤ m) (h3:m ≤ 12):eL K y m 1 = some (iP (12 * (y - 1970) + m - 1),true):=by
  unfold eL
  have c:=la y m
  rw [if_neg (by omega),if_neg (by omega),if_neg (by omega)]
  simp only [di,length_eq (show 0 ≤ y by omega) h2 h3]
  rw [if_neg (by omega),py (by omega) K 0 1970 (by omega) h0 (by decide) (by omega)]
  simp only [Option.bind_some]
  rw [oZ h0 (by omega) h3 K _ 1 (by omega) h2 (by congr 1; omega) (by omega)]
  have b:=lr (k:=12 * (y - 1970) + m - 1) (by omega) (by omega)
  simp only [Option.bind_some]
  rw [bs (n:=iP (12 * (y - 1970) + m - 1) + 1) (by omega),bs (by omega)]
  congr 2; omega
theorem qO {K:Nat} {k:Int} (hK:200000 ≤ K) (h0:0 ≤ k) (h1:k ≤ 30000):fi K k = some (iP k,iP (k + 1)):=by
  unfold fi
  have e1:aO (Int.tdiv k 12) = k / 12:=by rw [gA h0,bs (by omega)]
  have e2:Int.tmod k 12 = k % 12:=ku h0
  rw [e1,e2,bs (n:=1970 + k / 12) (by omega),bs (n:=k % 12 + 1) (by omega),pI hK (by omega) (by omega) (by omega) (by omega)]
  have e3:12 * (1970 + k / 12 - 1970) + (k % 12 + 1) - 1 = k:=by omega
  have b:=lr h0 (show k ≤ 37000 by omega)
  have c:=la (1970 + k / 12) (k % 12 + 1)
  simp only [Option.bind_some,di,length_eq (show 0 ≤ 1970 + k / 12 by omega) (show 1 ≤ k % 12 + 1 by omega) (by omega),e3]
  rw [bs (by omega),md]
theorem so {K:Nat} {d:Int} (hd:d ≤ 1000000):∀ (f:Nat) (r y:Int),1970 ≤ y → r = d - iP (12 * (y - 1970)) → 0 ≤ r → 5000 - y < f →
    ∃ Y,et K f r y = some (d - iP (12 * (Y - 1970)),Y) ∧ 1970 ≤ Y ∧ Y < 5000 ∧ iP (12 * (Y - 1970)) ≤ d ∧ d < iP (12 * (Y + 1 - 1970))
  | 0,r,y,h0,h1,h2,h3=>by
    have a:=iB (show 36360 ≤ 12 * (y - 1970) by omega)
    have b:(1000000:Int) < iP 36360:=by decide
    omega
  | f + 1,r,y,h0,h1,h2,h3=>by
    have hy:y < 5000:=by
      apply Classical.byContradiction
      intro hc
      have a:=iB (show 36360 ≤ 12 * (y - 1970) by omega)
      have b:(1000000:Int) < iP 36360:=by decide
      omega
    unfold et
    simp only [di,sn (show 0 ≤ y by omega)]
    have e:=qD y
    have b:=lr (k:=12 * (y - 1970)) (by omega) (by omega)
    by_cases hc:(if nu y = true then 366 else 365) ≤ r
    · rw [if_pos hc,if_pos hy,bs (n:=y + 1) (by omega),bs (by split <;> omega)]
      exact so hd f _ (y + 1) (by omega) (by rw [e]; omega) (by omega) (by omega)
    · rw [if_neg hc]
      exact ⟨y,by rw [h1],h0,hy,by omega,by rw [e]; omega⟩
theorem sL {K:Nat} {d y z:Int} (hd:d ≤ 1000000) (hy:1970 ≤ y) (hy2:y < 5000) (hd2:d < iP (12 * (y + 1 - 1970))):∀ (f:Nat) (r m:Int),1 ≤ m → m ≤ 12 → r = d - iP (12 * (y - 1970) + m - 1) → 0 ≤ r → 12 - m < f →
    ∃ M,er K (z,y) f r m = some (d - iP (12 * (y - 1970) + M - 1),M) ∧ 1 ≤ M ∧ M ≤ 12 ∧ iP (12 * (y - 1970) + M - 1) ≤ d ∧ d < iP (12 * (y - 1970) + M)
  | 0,r,m,h0,h1,h2,h3,h4=>by omega
  | f + 1,r,m,h0,h1,h2,h3,h4=>by
    unfold er
    simp only []
    have b:=lr (k:=12 * (y - 1970) + m - 1) (by omega) (by omega)
    by_cases hm:m < 12
    · rw [if_pos hm]
      simp only [di,length_eq (show 0 ≤ y by omega) h0 (by omega)]
      have c:=la y m
      have e:=md (12 * (y - 1970) + m - 1)
      have e1:1970 + (12 * (y - 1970) + m - 1) / 12 = y:=by omega
      have e2:(12 * (y - 1970) + m - 1) % 12 + 1 = m:=by omega
      have e3:12 * (y - 1970) + m - 1 + 1 = 12 * (y - 1970) + m:=by omega
      rw [e1,e2,e3] at e
      by_cases hc:qg y m ≤ r
      · rw [if_pos hc,bs (n:=m + 1) (by omega),bs (by omega)]
        refine sL hd hy hy2 hd2 f _ (m + 1) (by omega) (by omega) ?_ (by omega) (by omega)
        have e4:12 * (y - 1970) + (m + 1) - 1 = 12 * (y - 1970) + m:=by omega
        rw [e4,e]; omega
      · rw [if_neg hc]
        exact ⟨m,by rw [h2],h0,h1,by omega,by rw [e]; omega⟩
    · rw [if_neg hm]
      have e:m = 12:=by omega
      subst e
      refine ⟨12,by rw [h2],by omega,by omega,by omega,?_⟩
      have e4:12 * (y - 1970) + 12 = 12 * (y + 1 - 1970):=by omega
      rw [e4]; exact hd2
theorem lB {K:Nat} {d:Int} (hK:200000 ≤ K) (h0:0 ≤ d) (h1:d ≤ 1000000):du K d = some (cP d):=by
  unfold du fM
  obtain ⟨Y,e1,y1,y2,y3,y4⟩:=so (K:=K) h1 K d 1970 (by omega) (by rw [show (12:Int) * (1970 - 1970) = 0 by decide,lY]; omega) h0 (by omega)
  rw [e1]
  simp only [Option.bind_some]
  obtain ⟨M,e2,m1,m2,m3,m4⟩:=sL (K:=K) (z:=d - iP (12 * (Y - 1970))) h1 y1 y2 y4 K (d - iP (12 * (Y - 1970))) 1 (by omega) (by omega) (by congr 2; omega) (by omega) (by omega)
  rw [e2]
  simp only [Option.bind_some]
  obtain ⟨a0,a1,a2⟩:=kA h0 h1
  have e3:cP d = 12 * (Y - 1970) + M - 1:=ne a1 a2 m3 (by rw [show 12 * (Y - 1970) + M - 1 + 1 = 12 * (Y - 1970) + M by omega]; exact m4)
  rw [e3,bs (n:=Y - 1970) (by omega),bs (n:=(Y - 1970) * 12) (by omega),bs (n:=(Y - 1970) * 12 + M) (by omega),bs (by omega)]
  congr 1; omega
theorem sB {K:Nat} (t:Int) (hK:200000 ≤ K):el K t = some (iU t):=by
  unfold el iU
  by_cases h1:t = 1
  · simp [h1]
  · by_cases h2:t = 2
    · simp [h2]
    · by_cases h3:t = 3
      · subst h3
        simp [lB hK (show (0:Int) ≤ 699050 by omega) (by omega),rk]
      · simp [h1,h2,h3]
theorem im {K:Nat} (t i:Int) (hK:200000 ≤ K):bH K t i = some (decide (ml ⟨t,i⟩)):=by
  unfold bH ml
  by_cases h:0 ≤ i
  · simp [h,sB t hK]
  · simp [h]
theorem ie {K:Nat} {t i:Int} (hK:200000 ≤ K) (h:ml ⟨t,i⟩):bV K t i = some (iC ⟨t,i⟩,lq ⟨t,i⟩):=by
  have hm:=qS t
  have h0:0 ≤ i:=h.1
  have h1:i ≤ iU t:=h.2
  unfold bV
  rw [im t i hK]
  simp only [Option.bind_some,h,decide_true,Bool.not_true,Bool.false_eq_true,if_false]
  rcases mC h0 h1 with rfl | rfl | rfl
  · simp [iC,lq,iE,pa]
    rw [bs (by omega)]
  · have h1':i ≤ 699050:=h1
    simp [iC,lq,iE,pa]
    rw [bs (n:=24 * i) (by omega),bs (n:=i + 1) (by omega),bs (by omega)]
    simp
  · have h1':i ≤ 22967:=h1
    have a:=jL h0 (by omega)
    have b:=jL (k:=i + 1) (by omega) (by omega)
    simp [iC,lq,iE,pa,qO hK h0 (show i ≤ 30000 by omega)]
    rw [bs (n:=24 * iP i) (by omega),bs (by omega)]
    simp
theorem nq {K:Nat} {p q:aD} (hK:200000 ≤ K) (hp:ml p) (hq:ml q):eU K p.Tier p.Index q.Tier q.Index = some (decide (iC p < lq q ∧ iC q < lq p)):=by
  unfold eU
  rw [ie hK (show ml ⟨p.Tier,p.Index⟩ from hp),ie hK (show ml ⟨q.Tier,q.Index⟩ from hq),im _ _ hK,im _ _ hK]
  have e1:decide (ml ⟨p.Tier,p.Index⟩) = true:=decide_eq_true hp
  have e2:decide (ml ⟨q.Tier,q.Index⟩) = true:=decide_eq_true hq
  rw [e1,e2]
  simp only [Option.bind_some,if_true]
  by_cases h:iC ⟨p.Tier,p.Index⟩ < lq ⟨q.Tier,q.Index⟩
  · simp [h]
  · simp [h]
theorem oc {K:Nat} {p q:aD} (hK:200000 ≤ K) (hp:ml p) (hq:ml q):fh K p.Tier p.Index q.Tier q.Index = some (decide (iC p < iC q ∨ iC p = iC q ∧ p.Tier < q.Tier)):=by
  unfold fh
  rw [ie hK (show ml ⟨p.Tier,p.Index⟩ from hp),ie hK (show ml ⟨q.Tier,q.Index⟩ from hq),im _ _ hK,im _ _ hK]
  have e1:decide (ml ⟨p.Tier,p.Index⟩) = true:=decide_eq_true hp
  have e2:decide (ml ⟨q.Tier,q.Index⟩) = true:=decide_eq_true hq
  rw [e1,e2]
  simp only [Option.bind_some,if_true]
  by_cases h:iC ⟨p.Tier,p.Index⟩ < iC ⟨q.Tier,q.Index⟩
  · simp [h]
  · by_cases h2:iC ⟨p.Tier,p.Index⟩ = iC ⟨q.Tier,q.Index⟩
    · simp [h2]
    · simp [h,h2]
theorem vi (a b c:Int):ef a b c = decide (b ≤ a ∧ a ≤ c):=by
  unfold ef
  by_cases h:b ≤ a <;> simp [h]
theorem vM {K:Nat} (e:En) (hK:200000 ≤ K):eR K e.Part.Tier e.Part.Index e.Seg e.Mark e.Rows e.Cold = some (decide (we e)):=by
  unfold eR
  rw [im _ _ hK]
  have e0:decide (ml ⟨e.Part.Tier,e.Part.Index⟩) = decide (ml e.Part):=rfl
  rw [e0]
  unfold we
  simp only [di,vi,Option.bind_some]
  by_cases h1:ml e.Part
  · by_cases h2:1 ≤ e.Seg ∧ e.Seg ≤ 4611686018427387904
    · by_cases h3:1 ≤ e.Rows ∧ e.Rows ≤ 4611686018427387904
      · by_cases h4:0 ≤ e.Mark ∧ e.Mark ≤ 4611686018427387904
        · by_cases h5:e.Cold = true
          · simp [h1,h2,h3,h4,h5]
            rw [Bool.eq_iff_iff]; simp
          · simp [h1,h2,h3,h4,h5]
        · simp [h1,h2,h3,h4]
      · simp [h1,h2,h3]
    · simp [h1,h2]
  · simp [h1]
theorem pW {l:List Pr} {i:Nat} (hi:i < l.length):(l.map (·.v)).getD i aT = (l.getD i zP).v:=by
  simp [List.getD_eq_getElem?_getD,List.getElem?_eq_getElem hi]
theorem ka {K:Nat} {l:List Pr} (h:jU l) {e:En} (he:ml e.Part) (hK:200000 ≤ K):∀ (f i:Nat) (k:Int),(∃ j,i ≤ j ∧ j < l.length ∧ pN kk hh (iC e.Part) (lq e.Part) (l.getD j zP) = true) → l.length - i < f →
    cO K (l.map (·.v)) e.Part.Tier e.Part.Index f k i = some (Sum.inr (12,[]))
  | 0,i,k,hj,hf=>by omega
  | f + 1,i,k,⟨j,h1,h2,h3⟩,hf=>by
    have hlen:=h.len
    have hi:i < l.length:=by omega
    unfold cO
    rw [if_pos (by simp; omega),if_pos (by omega)]
    simp only [Int.toNat_natCast]
    rw [pW hi]
    have hm:=jn hi
    rw [nq hK (h.rt _ hm) he]
    simp only [Option.bind_some]
    have hk:=h.key _ hm
    by_cases hc:iC (l.getD i zP).v.Part < lq e.Part ∧ iC e.Part < lq (l.getD i zP).v.Part
    · rw [if_pos (decide_eq_true hc)]
    · have e0:decide (iC (l.getD i zP).v.Part < lq e.Part ∧ iC e.Part < lq (l.getD i zP).v.Part) = false:=decide_eq_false hc
      rw [e0]
      simp only [Bool.false_eq_true,if_false]
      have hij:i ≠ j:=by
        rintro rfl
        rw [nP] at h3
        apply hc
        rw [← hk]
        exact ⟨h3.2,h3.1⟩
      rw [oc hK (h.rt _ hm) he]
      simp only [Option.bind_some]
      rw [bs (by omega)]
      have e1:((i:Int) + 1) = ((i + 1:Nat):Int):=by omega
      rw [e1]
      split
      · exact ka h he hK f (i + 1) _ ⟨j,by omega,h2,h3⟩ (by omega)
      · exact ka h he hK f (i + 1) _ ⟨j,by omega,h2,h3⟩ (by omega)
theorem ky {K:Nat} {l:List Pr} (h:jU l) {e:En} (he:ml e.Part) (hK:200000 ≤ K) (hno:l.filter (pN kk hh (iC e.Part) (lq e.Part)) = []):∀ (f i:Nat) (k:Int),i ≤ l.length → k = ((min i (fC kk l (iC e.Part)):Nat):Int) → l.length - i < f →
    cO K (l.map (·.v)) e.Part.Tier e.Part.Index f k i = some (Sum.inl (fC kk l (iC e.Part):Int))
  | 0,i,k,hi0,hk0,hf=>by omega
  | f + 1,i,k,hi0,hk0,hf=>by
    have hlen:=h.len
    have hcl:=kq (key:=kk) l (iC e.Part)
    unfold cO
    by_cases hi:i < l.length
    · rw [if_pos (by simp; omega),if_pos (by omega)]
      simp only [Int.toNat_natCast]
      rw [pW hi]
      have hm:=jn hi
      have hk:=h.key _ hm
      rw [nq hK (h.rt _ hm) he]
      simp only [Option.bind_some]
      have hc:¬ (iC (l.getD i zP).v.Part < lq e.Part ∧ iC e.Part < lq (l.getD i zP).v.Part):=by
        intro hc
        have:=List.filter_eq_nil_iff.1 hno _ hm
        apply this
        rw [nP]
        refine ⟨hc.2,?_⟩
        show (l.getD i zP).k < _
        rw [hk]; exact hc.1
      have e0:decide (iC (l.getD i zP).v.Part < lq e.Part ∧ iC e.Part < lq (l.getD i zP).v.Part) = false:=decide_eq_false hc
      rw [e0]
      simp only [Bool.false_eq_true,if_false]
      rw [oc hK (h.rt _ hm) he]
      simp only [Option.bind_some]
      rw [bs (by omega)]
      have e1:((i:Int) + 1) = ((i + 1:Nat):Int):=by omega
      rw [e1]
      have hl1:=oy he
      have hl2:=oy (h.rt _ hm)
      have hcl2:=kr h.srt (k:=iC e.Part) (z:=zP) hi
      simp only [kk] at hcl2
      rw [hk] at hcl2
      by_cases hls:iC (l.getD i zP).v.Part < iC e.Part
      · rw [if_pos (by simp; exact .inl hls)]
        exact ky h he hK hno f (i + 1) _ (by omega) (by have:=hcl2.1 hls; omega) (by omega)
      · have:¬ i < fC kk l (iC e.Part):=fun hx=>hls (hcl2.2 hx)
        rw [if_neg (by simp only [decide_eq_true_eq]; omega)]
        exact ky h he hK hno f (i + 1) _ (by omega) (by omega) (by omega)
    · rw [if_neg (by simp; omega)]
      congr 2
      omega
theorem rK {K:Nat} {l:List Pr} (h:jU l) (hl:l.length ≤ 99999) (e:En) (hK:200000 ≤ K) :
    eS K (l.map (·.v)) e.Part.Tier e.Part.Index e.Seg e.Mark e.Rows e.Cold = some ((ma l e).1,if (ma l e).1 = 0 then (ma l e).2.map (·.v) else []):=by
  unfold eS ma
  rw [vM e hK]
  simp only [Option.bind_some]
  by_cases he:we e
  · simp only [he,decide_true,Bool.not_true,Bool.false_eq_true,if_false,if_true]
    by_cases hno:l.filter (pN kk hh (iC e.Part) (lq e.Part)) = []
    · have hcl:=kq (key:=kk) l (iC e.Part)
      have hp:=ky h he.1 hK hno K 0 0 (by omega) (by simp) (by have:=h.len; omega)
      have e0:((0:Nat):Int) = 0:=rfl
      rw [e0] at hp
      rw [hp,if_pos hno]
      simp only [Option.bind_some,rn]
      rw [if_pos (by omega),if_pos (by simp; omega)]
      simp only [Int.toNat_natCast]
      rw [if_pos (by simp; omega),if_pos (by simp; omega),if_pos (by simp; omega)]
      simp [wR]
    · have hex:∃ j,0 ≤ j ∧ j < l.length ∧ pN kk hh (iC e.Part) (lq e.Part) (l.getD j zP) = true:=by
        obtain ⟨x,hx⟩:=List.exists_mem_of_ne_nil _ hno
        obtain ⟨hx1,hx2⟩:=List.mem_filter.1 hx
        obtain ⟨i,hi1,hi2⟩:=List.getElem_of_mem hx1
        refine ⟨i,by omega,hi1,?_⟩
        have e3:l.getD i zP = x:=by simp [List.getD_eq_getElem?_getD,List.getElem?_eq_getElem hi1,hi2]
        rw [e3]; exact hx2
      have hp:=ka h he.1 hK K 0 0 hex (by have:=h.len; omega)
      have e0:((0:Nat):Int) = 0:=rfl
      rw [e0] at hp
      rw [hp,if_neg hno]
      simp [rn]
  · simp only [he,decide_false,Bool.not_false,if_true,if_false]
    simp
theorem nx {K:Nat} {es:List En} (hes:es.length ≤ 10000) (hK:200000 ≤ K) (l0:List En):∀ (f i:Nat) (l:List Pr),jU l → l.length + (es.length - i) ≤ 99999 → i ≤ es.length → es.length - i < f →
    dn K es f i l0 (l.map (·.v)) = some ((gB l (es.drop i)).1,if (gB l (es.drop i)).1 = 0 then (gB l (es.drop i)).2.map (·.v) else l0)
  | 0,i,l,h,h1,h2,h3=>by omega
  | f + 1,i,l,h,h1,h2,h3=>by
    unfold dn
    by_cases hi:i < es.length
    · rw [if_pos (by omega),if_pos (by omega)]
      simp only [Int.toNat_natCast]
      rw [rK h (by omega) (es.getD i aT) hK]
      simp only [Option.bind_some]
      rw [List.drop_eq_getElem_cons hi,xA hi]
      unfold gB
      by_cases h0:(ma l es[i]).1 = 0
      · obtain ⟨c1,c2⟩:=ou h (by omega) es[i]
        rw [if_neg (by simp [h0]),if_pos h0,if_pos h0,bs (by omega)]
        have e:((i:Int) + 1) = ((i + 1:Nat):Int):=by omega
        rw [e]
        exact nx hes hK l0 f (i + 1) _ c1 (by omega) (by omega) (by omega)
      · rw [if_pos h0,if_neg h0]
        simp [h0]
    · rw [if_neg (by omega),List.drop_eq_nil_of_le (by omega)]
      simp [gB]
theorem qJ {K:Nat} {l:List Pr} (h:jU l) {es:List En} (hes:l.length + es.length ≤ 10000) (hK:200000 ≤ K):dR K (l.map (·.v)) es = some ((kY l [] es).1,(kY l [] es).2.map (·.v)):=by
  unfold dR kY
  have hl0:eH K K = some ():=by
    obtain ⟨k,rfl⟩:∃ k,K = k + 1:=⟨K - 1,by omega⟩
    rfl
  rw [hl0]
  simp only [Option.bind_some,jX]
  have hp:=nx (K:=K) (es:=es) (by omega) hK (l.map (·.v)) K 0 l h (by omega) (by omega) (by omega)
  have e0:((0:Nat):Int) = 0:=rfl
  rw [e0] at hp
  rw [hp,List.drop_zero]
  by_cases h0:(gB l es).1 = 0
  · simp [h0]
  · simp [h0]
theorem rO {l:List Pr} (h:jU l) (ps:List aD) {es:List En} (hes:l.length + es.length ≤ 10000):jU (kY l ps es).2 ∧ (kY l ps es).2.length ≤ l.length + es.length:=by
  unfold kY
  cases hd:jX l ps with
  | none=>exact ⟨h,by simp⟩
  | some m =>
    obtain ⟨c1,c2⟩:=nl h hd
    obtain ⟨c3,c4⟩:=nU (es:=es) c1 (by omega)
    simp only
    split
    · exact ⟨c3,by simp; omega⟩
    · exact ⟨h,by simp⟩
end Go.Proofs.YtnjfjmbanmaciaaGreat.DueTargets
end
section
set_option linter.unusedVariables false
set_option linter.unusedSimpArgs false
set_option maxRecDepth 20000
namespace Go.Proofs.YtnjfjmbanmaciaaGreat.DueTargets
open Go E
theorem lV {K:Nat} {l:List Pr} (h:jU l) (k:Int):∀ (f:Nat) (a b:Int),0 ≤ a → a ≤ b → b ≤ l.length → a ≤ fC kk l k → (fC kk l k:Int) ≤ b → b - a < f → ex K l k f a b = some (fC kk l k:Int)
  | 0,a,b,h0,h1,h2,h3,h4,h5=>by omega
  | f + 1,a,b,h0,h1,h2,h3,h4,h5=>by
    have hlen:=h.len
    unfold ex
    by_cases hab:a < b
    · rw [if_pos hab,vU h0 h1 (by omega)]
      have m0:0 ≤ (a + b) / 2:=by omega
      have m1:(a + b) / 2 < l.length:=by omega
      unfold cd
      rw [if_pos m0,if_pos m1]
      have hc:=kr h.srt (k:=k) (z:=zP) (show ((a + b) / 2).toNat < l.length by omega)
      simp only [kk] at hc
      by_cases hk:k ≤ (l.getD ((a + b) / 2).toNat zP).k
      · have:¬ ((a + b) / 2).toNat < fC kk l k:=fun hx=>by have:=hc.2 hx; omega
        simp only [Option.bind_some,hk,decide_true,Bool.not_true,Bool.false_eq_true,if_false]
        exact lV h k f a ((a + b) / 2) h0 (by omega) (by omega) h3 (by omega) (by omega)
      · have:((a + b) / 2).toNat < fC kk l k:=hc.1 (by omega)
        simp only [Option.bind_some,hk,decide_false,Bool.not_false,if_true]
        rw [bs (by omega)]
        exact lV h k f ((a + b) / 2 + 1) b (by omega) (by omega) h2 (by omega) h4 (by omega)
    · rw [if_neg hab]; congr 1; omega
theorem uI {K:Nat} {l:List Pr} (h:jU l) (k:Int) (hK:200000 ≤ K):bT K l k = some (decide (fC kk l k < l.length ∧ (l.getD (fC kk l k) zP).k = k),(fC kk l k:Int)):=by
  have hlen:=h.len
  have hc:=kq (key:=kk) l k
  unfold bT gj
  rw [lV h k K 0 l.length (by omega) (by omega) (by omega) (by omega) (by omega) (by omega)]
  simp only [Option.bind_some]
  by_cases h1:(fC kk l k:Int) < l.length
  · rw [if_pos h1,if_pos (by omega)]
    have h2:fC kk l k < l.length:=by omega
    simp only [h2,true_and,Int.toNat_natCast]
    congr 2
  · rw [if_neg h1]
    have h2:¬ fC kk l k < l.length:=by omega
    simp [h2]
theorem xg {K:Nat} {l:List Pr} (h:jU l) (n:Int) (hK:200000 ≤ K):dN K l n = some (jV (kM l n)):=by
  have hlen:=h.len
  have hc:=kq (key:=kk) l n
  have fin:∀ j:Nat,j < l.length → (l.getD j zP).k ≤ n → (∀ i,j < i → i < l.length → n < (l.getD i zP).k) →
      ((if (0:Int) ≤ j then if (j:Int) < l.length then some ((l.getD (j:Int).toNat zP).k,(l.getD (j:Int).toNat zP).v.Part.Tier,(l.getD (j:Int).toNat zP).v.Part.Index,(l.getD (j:Int).toNat zP).v.Seg,(l.getD (j:Int).toNat zP).v.Mark,(l.getD (j:Int).toNat zP).v.Rows,(l.getD (j:Int).toNat zP).v.Cold,true) else none else none).bind fun x4=>if (!x4.2.2.2.2.2.2.2) = true then some (0,0,0,0,0,false,false) else fX (gG x4.2.1 x4.2.2.1 n) fun x6=>if (!x6) = true then some (0,0,0,0,0,false,false) else some (x4.2.1,x4.2.2.1,x4.2.2.2.1,x4.2.2.2.2.1,x4.2.2.2.2.2.1,x4.2.2.2.2.2.2.1,true)) = some (jV (kM l n)):=by
    intro j hj h1 h2
    rw [if_pos (by omega),if_pos (by omega)]
    have hm:=jn hj
    have hr:=h.rt _ hm
    have hk:=h.key _ hm
    simp only [Option.bind_some,Int.toNat_natCast,Bool.not_true,Bool.false_eq_true,if_false,di]
    rw [vB hr.1 hr.2]
    unfold kM
    rw [oF h.srt (z:=zP) hj h1 h2]
    have e1:iE (l.getD j zP).v.Part.Tier (l.getD j zP).v.Part.Index = (l.getD j zP).k:=hk.symm
    have e2:pa (l.getD j zP).v.Part.Tier (l.getD j zP).v.Part.Index = hh (l.getD j zP):=rfl
    rw [e1,e2]
    generalize l.getD j zP = x at *
    by_cases hn:n < hh x
    · have e3:decide (x.k ≤ n ∧ n < hh x) = true:=by simp [h1,hn]
      rw [e3,if_pos hn]
      rfl
    · have e3:decide (x.k ≤ n ∧ n < hh x) = false:=by simp [hn]
      rw [e3,if_neg hn]
      rfl
  unfold dN cq
  rw [uI h n hK]
  simp only [Option.bind_some,di]
  by_cases his:fC kk l n < l.length ∧ (l.getD (fC kk l n) zP).k = n
  · have e:decide (fC kk l n < l.length ∧ (l.getD (fC kk l n) zP).k = n) = true:=by simp only [his.1,his.2,true_and,decide_true]
    simp only [e,Bool.not_true,Bool.false_eq_true,if_false]
    rw [if_neg (by omega)]
    exact fin (fC kk l n) his.1 (by omega) fun i h1 h2=>by have:=lk h h1 h2; omega
  · have e:decide (fC kk l n < l.length ∧ (l.getD (fC kk l n) zP).k = n) = false:=by simpa using his
    simp only [e,Bool.not_false,if_true]
    rw [bs (by omega)]
    by_cases h0:fC kk l n = 0
    · rw [if_pos (by omega)]
      simp only [Option.bind_some,Bool.not_false,if_true]
      have:kM l n = none:=by
        unfold kM
        rw [jK]
        · rfl
        · intro x hx
          obtain ⟨_,a2⟩:=jJ h.srt n
          rw [h0] at a2
          have h1:=a2 x (by simpa using hx)
          have h2:kk x ≠ n:=by
            intro hxn
            obtain ⟨i,hi1,hi2⟩:=List.getElem_of_mem hx
            have e3:l.getD i zP = x:=by simp [List.getD_eq_getElem?_getD,List.getElem?_eq_getElem hi1,hi2]
            have e4:¬ 0 < i:=fun hi0=>by
              have h5:=lk h hi0 hi1
              have h6:=a2 (l.getD 0 zP) (by simpa using jn (show 0 < l.length by omega))
              rw [e3] at h5
              simp only [kk] at hxn h6
              omega
            have e5:i = 0:=by omega
            subst e5
            apply his
            rw [h0]
            exact ⟨by omega,by rw [e3]; exact hxn⟩
          simp [mJ]; omega
      rw [this]; rfl
    · rw [if_neg (by omega)]
      have e1:(fC kk l n:Int) - 1 = ((fC kk l n - 1:Nat):Int):=by omega
      rw [e1]
      have hlt:=(kr h.srt (k:=n) (z:=zP) (show fC kk l n - 1 < l.length by omega)).2 (by omega)
      refine fin (fC kk l n - 1) (by omega) (by simp only [kk] at hlt; omega) fun i h1 h2=>?_
      have h3:¬ i < fC kk l n:=by omega
      have h4:¬ kk (l.getD i zP) < n:=fun hx=>h3 ((kr h.srt (z:=zP) h2).1 hx)
      simp only [kk] at h4
      by_cases h5:i = fC kk l n
      · subst h5
        have:(l.getD (fC kk l n) zP).k ≠ n:=fun hx=>his ⟨h2,hx⟩
        omega
      · have h6:=lk h (show fC kk l n < i by omega) h2
        have h7:¬ kk (l.getD (fC kk l n) zP) < n:=fun hx=>by
          have:=(kr h.srt (z:=zP) (show fC kk l n < l.length by omega)).1 hx
          omega
        simp only [kk] at h7
        omega
theorem uR (x lo hi:Int):bG x lo hi = decide (lo ≤ x ∧ x ≤ hi):=by
  unfold bG
  by_cases h:lo ≤ x <;> simp [h]
theorem wX {α:Type} (x lo hi:Int) (A Y:α):(if x < lo then A else if hi < x then A else Y) = if (!(bG x lo hi)) = true then A else Y:=by
  rw [uR]
  by_cases h:x < lo
  · rw [if_pos h,if_pos (by simp; omega)]
  · rw [if_neg h]
    by_cases h2:hi < x
    · rw [if_pos h2,if_pos (by simp; omega)]
    · rw [if_neg h2,if_neg (by simp; omega)]
theorem uW (a0 a1 a2 a3 a4 a5 a6 a7 a8:Int):gS a0 a1 a2 a3 a4 a5 a6 a7 a8 = some (bA a0 a1 a2 a3 a4 a5 a6 a7 a8):=by
  unfold gS bA
  simp only [di,hJ,gF,wX,apply_ite some]
  simp
theorem xd {a0 a1 a2 a3 a4 a5 a6 a7 a8:Int} (h:bA a0 a1 a2 a3 a4 a5 a6 a7 a8 = 0):(0 ≤ a0 ∧ a0 ≤ 1048576) ∧ (0 ≤ a1 ∧ a1 ≤ 1048576) ∧ (0 ≤ a2 ∧ a2 ≤ 1048576) ∧ (0 ≤ a3 ∧ a3 ≤ 1048576) ∧ (0 ≤ a4 ∧ a4 ≤ 1048576) ∧ (0 ≤ a5 ∧ a5 ≤ 1048576) ∧ (0 ≤ a6 ∧ a6 ≤ 1048576) ∧ (0 ≤ a7 ∧ a7 ≤ 1048576) ∧ (0 ≤ a8 ∧ a8 ≤ 1048576):=by
  unfold bA at h
  simp only [di,uR] at h
  split at h
  · simp at h
  rename_i c0
  split at h
  · simp at h
  rename_i c1
  split at h
  · simp at h
  rename_i c2
  split at h
  · simp at h
  rename_i c3
  split at h
  · simp at h
  rename_i c4
  split at h
  · simp at h
  rename_i c5
  split at h
  · simp at h
  rename_i c6
  split at h
  · simp at h
  rename_i c7
  split at h
  · simp at h
  rename_i c8
  simp at c0 c1 c2 c3 c4 c5 c6 c7 c8
  refine ⟨?_,?_,?_,?_,?_,?_,?_,?_,?_⟩ <;> omega
theorem wT {a0_0 a0_1 a0_2 a0_3 a0_4 a0_5 a0_6 a0_7 a0_8:Int} {t:Int} (h1:1 ≤ t) (h2:t ≤ 3):iI a0_0 a0_1 a0_2 a0_3 a0_4 a0_5 a0_6 a0_7 a0_8 t = some (dE a0_0 a0_1 a0_2 a0_3 a0_4 a0_5 a0_6 a0_7 a0_8 t):=by
  unfold iI dE
  rw [if_neg (by omega),if_neg (by omega),if_pos (by omega),if_pos (by omega)]
  have h:t = 1 ∨ t = 2 ∨ t = 3:=by omega
  rcases h with rfl | rfl | rfl <;> rfl
theorem vO {a0_0 a0_1 a0_2 a0_3 a0_4 a0_5 a0_6 a0_7 a0_8:Int} {t:Int} (hc:bA a0_0 a0_1 a0_2 a0_3 a0_4 a0_5 a0_6 a0_7 a0_8 = 0):0 ≤ (dE a0_0 a0_1 a0_2 a0_3 a0_4 a0_5 a0_6 a0_7 a0_8 t).1 ∧ (dE a0_0 a0_1 a0_2 a0_3 a0_4 a0_5 a0_6 a0_7 a0_8 t).1 ≤ 1048576:=by
  obtain ⟨c0,c1,c2,c3,c4,c5,c6,c7,c8⟩:=xd hc
  unfold dE
  split
  · exact c1
  · split
    · exact c2
    · split
      · exact c3
      · simp
theorem vS {d:Int} (h0:0 ≤ d) (h1:d ≤ 699050):0 ≤ cP d ∧ cP d ≤ 22967:=by
  obtain ⟨m1,m2,m3⟩:=kA h0 (by omega)
  refine ⟨m1,?_⟩
  have a:=oN.2
  rcases Int.lt_or_le 22967 (cP d) with h | h
  · have b:=iB (j:=22968) (k:=cP d) (by omega)
    omega
  · exact h
def nG (t h:Int):Int:=if t = 1 then h else if t = 2 then h / 24 else cP (h / 24)
theorem xH {t h:Int} (ht:t = 1 ∨ t = 2 ∨ t = 3) (h0:0 ≤ h) (h1:h ≤ 16777216):ml ⟨t,nG t h⟩:=by
  have hm:=vS (d:=h / 24) (by omega) (by omega)
  unfold nG
  rcases ht with rfl | rfl | rfl
  · exact ⟨h0,h1⟩
  · refine ⟨?_,?_⟩ <;> simp [iU] <;> omega
  · refine ⟨?_,?_⟩ <;> simp [iU] <;> omega
theorem qP {K:Nat} {t h:Int} (hK:200000 ≤ K) (ht:t = 1 ∨ t = 2 ∨ t = 3) (h0:0 ≤ h) (h1:h ≤ 16777216):ed K t h = some (t,(nG t h),true):=by
  unfold ed nG
  rw [if_neg (by omega),if_neg (by omega),sB t hK]
  simp only [Option.bind_some]
  have hn:¬ iU t < 0:=by rcases ht with rfl | rfl | rfl <;> simp [iU]
  rw [if_neg hn,gA h0,bs (by omega),lB hK (by omega) (by omega)]
  rcases ht with rfl | rfl | rfl <;> simp
def xp (t h:Int):aD:=⟨t,nG t h⟩
def qW (h:Int):Prop:=0 ≤ h ∧ h ≤ 16777216
instance (h:Int):Decidable (qW h):=inferInstanceAs (Decidable (_ ∧ _))
abbrev qZ (t:Int):Prop:=t = 1 ∨ t = 2 ∨ t = 3
theorem of_eq {t h:Int} (ht:qZ t) (hh:qW h):ff t h = (t,nG t h,true):=by
  obtain ⟨h0,h1⟩:=hh
  have hd:=kZ h0 (by omega)
  unfold ff nG
  rw [if_neg (by omega),if_neg (by omega)]
  simp only [di,hd]
  rcases ht with rfl | rfl | rfl <;> simp
theorem wY {t h:Int} (hh:¬ qW h):ff t h = (0,0,false):=by
  unfold ff
  by_cases h0:h < 0
  · rw [if_pos h0]
  · rw [if_neg h0,if_pos (by unfold qW at hh; omega)]
theorem tg {K:Nat} {t h:Int} (hh:¬ qW h):ed K t h = some (0,0,false):=by
  unfold ed
  by_cases h0:h < 0
  · rw [if_pos h0]
  · rw [if_neg h0,if_pos (by unfold qW at hh; omega)]
theorem ve {t h:Int} (ht:qZ t) (hh:qW h):ml (xp t h):=xH ht hh.1 hh.2
section
variable {a0 a1 a2 a3 a4 a5 a6 a7 a8 hr:Int}
def jt (a0 a1 a2 a3 a4 a5 a6 a7 a8 t:Int):Int:=(dE a0 a1 a2 a3 a4 a5 a6 a7 a8 t).1
def kp (lag:Int → Int) (hr t h:Int):Prop:=lq (xp t h) + lag t ≤ hr
instance (lag:Int → Int) (hr t h:Int):Decidable (kp lag hr t h):=inferInstanceAs (Decidable (_ ≤ _))
def iT (lag:Int → Int) (hr h:Int):Int:=if qW h then (if kp lag hr 3 h then 3 else if kp lag hr 2 h then 2 else if kp lag hr 1 h then 1 else 0) else 0
theorem ry (hc:bA a0 a1 a2 a3 a4 a5 a6 a7 a8 = 0) (h0:0 ≤ hr) (h1:hr ≤ 1099511627776) {t h:Int} (ht:qZ t) (hh:qW h):io t (nG t h) a0 a1 a2 a3 a4 a5 a6 a7 a8 hr = some (decide (kp (jt a0 a1 a2 a3 a4 a5 a6 a7 a8) hr t h)):=by
  have hrt:=ve ht hh
  obtain ⟨l1,l2⟩:=vO (t:=t) hc
  have hb:fN t (nG t h) = true:=by rw [og]; exact decide_eq_true hrt
  unfold io
  rw [hb,uW,hc,wT (by rcases ht with rfl | rfl | rfl <;> omega) (by rcases ht with rfl | rfl | rfl <;> omega)]
  simp only [di,Option.bind_some,Bool.not_true,Bool.false_eq_true,if_false,not_true]
  have e:fm t (nG t h) = (iC (xp t h),lq (xp t h)):=lN hrt.1 hrt.2
  rw [bs (by omega),e]
  congr 1
  simp only [decide_eq_decide]
  unfold kp jt
  omega
theorem sQ {K:Nat} (hK:200000 ≤ K) (hc:bA a0 a1 a2 a3 a4 a5 a6 a7 a8 = 0) (h0:0 ≤ hr) (h1:hr ≤ 1099511627776) {t h:Int} (ht:qZ t) (hh:qW h):fy K t (nG t h) a0 a1 a2 a3 a4 a5 a6 a7 a8 hr = some (decide (kp (jt a0 a1 a2 a3 a4 a5 a6 a7 a8) hr t h)):=by
  have hrt:=ve ht hh
  obtain ⟨l1,l2⟩:=vO (t:=t) hc
  have hs:=oy hrt
  unfold fy
  rw [ie hK hrt,im t _ hK,hc]
  have e:decide (ml ⟨t,nG t h⟩) = true:=decide_eq_true hrt
  simp only [xp] at hs
  simp only [di,Option.bind_some,e,if_true]
  rw [bs (by omega)]
  rfl
theorem mK (hc:bA a0 a1 a2 a3 a4 a5 a6 a7 a8 = 0) (h0:0 ≤ hr) (h1:hr ≤ 1099511627776) (K k:Nat) (h i t:Int) (hi:i = 0 ∧ t = 3 ∨ i = 1 ∧ t = 2 ∨ i = 2 ∧ t = 1) :
    eE K h a0 a1 a2 a3 a4 a5 a6 a7 a8 hr (k + 1) i = if qW h ∧ kp (jt a0 a1 a2 a3 a4 a5 a6 a7 a8) hr t h then some t else eE K h a0 a1 a2 a3 a4 a5 a6 a7 a8 hr k (i + 1):=by
  rw [eE,if_pos (by omega),if_pos (by omega),if_pos (by omega),bs (by omega)]
  by_cases hh:qW h
  · have o1:=of_eq (t:=1) (.inl rfl) hh
    have o2:=of_eq (t:=2) (.inr (.inl rfl)) hh
    have o3:=of_eq (t:=3) (.inr (.inr rfl)) hh
    have d1:=ry hc h0 h1 (t:=1) (.inl rfl) hh
    have d2:=ry hc h0 h1 (t:=2) (.inr (.inl rfl)) hh
    have d3:=ry hc h0 h1 (t:=3) (.inr (.inr rfl)) hh
    rcases hi with ⟨rfl,rfl⟩ | ⟨rfl,rfl⟩ | ⟨rfl,rfl⟩
    · by_cases hd:kp (jt a0 a1 a2 a3 a4 a5 a6 a7 a8) hr 3 h <;> simp [di,o3,d3,hh,hd,rn]
    · by_cases hd:kp (jt a0 a1 a2 a3 a4 a5 a6 a7 a8) hr 2 h <;> simp [di,o2,d2,hh,hd,rn]
    · by_cases hd:kp (jt a0 a1 a2 a3 a4 a5 a6 a7 a8) hr 1 h <;> simp [di,o1,d1,hh,hd,rn]
  · rcases hi with ⟨rfl,rfl⟩ | ⟨rfl,rfl⟩ | ⟨rfl,rfl⟩ <;> simp [di,wY hh,hh,rn]
theorem ws {K:Nat} (hK:200000 ≤ K) (hc:bA a0 a1 a2 a3 a4 a5 a6 a7 a8 = 0) (h0:0 ≤ hr) (h1:hr ≤ 1099511627776) (h:Int):iy K h a0 a1 a2 a3 a4 a5 a6 a7 a8 hr = some (iT (jt a0 a1 a2 a3 a4 a5 a6 a7 a8) hr h):=by
  obtain ⟨k,hk⟩:∃ k,K = k + 1 + 1 + 1 + 1:=⟨K - 4,by omega⟩
  have e:∀ n,eE K h a0 a1 a2 a3 a4 a5 a6 a7 a8 hr (n + 1) 3 = some 0:=fun n=>by rw [eE,if_neg (by omega)]
  unfold iy
  have s:eE K h a0 a1 a2 a3 a4 a5 a6 a7 a8 hr K 0 = eE K h a0 a1 a2 a3 a4 a5 a6 a7 a8 hr (k + 1 + 1 + 1 + 1) 0:=congrArg (fun n=>eE K h a0 a1 a2 a3 a4 a5 a6 a7 a8 hr n 0) hk
  rw [s,mK hc h0 h1 K _ h 0 3 (by omega),mK hc h0 h1 K _ h (0 + 1) 2 (by omega),mK hc h0 h1 K _ h (0 + 1 + 1) 1 (by omega)]
  have e3:(0:Int) + 1 + 1 + 1 = 3:=by omega
  rw [e3,e]
  unfold iT
  by_cases hh:qW h
  · by_cases d3:kp (jt a0 a1 a2 a3 a4 a5 a6 a7 a8) hr 3 h <;> by_cases d2:kp (jt a0 a1 a2 a3 a4 a5 a6 a7 a8) hr 2 h <;> by_cases d1:kp (jt a0 a1 a2 a3 a4 a5 a6 a7 a8) hr 1 h <;> simp [hh,d1,d2,d3]
  · rw [if_neg hh]
    simp only [hh,false_and,if_false]
theorem kH {K:Nat} (hK:200000 ≤ K) (hc:bA a0 a1 a2 a3 a4 a5 a6 a7 a8 = 0) (h0:0 ≤ hr) (h1:hr ≤ 1099511627776) (k:Nat) (h b t:Int) (ht:qZ t) :
    bU K h a0 a1 a2 a3 a4 a5 a6 a7 a8 hr (k + 1) b t = bU K h a0 a1 a2 a3 a4 a5 a6 a7 a8 hr k (if qW h ∧ kp (jt a0 a1 a2 a3 a4 a5 a6 a7 a8) hr t h then t else b) (t + 1):=by
  rw [bU,if_pos (by rcases ht with rfl | rfl | rfl <;> omega),bs (by rcases ht with rfl | rfl | rfl <;> omega)]
  by_cases hh:qW h
  · rw [qP hK ht hh.1 hh.2]
    simp only [Option.bind_some,if_true]
    rw [sQ hK hc h0 h1 ht hh]
    by_cases hd:kp (jt a0 a1 a2 a3 a4 a5 a6 a7 a8) hr t h <;> simp [hh,hd]
  · rw [tg hh,if_neg fun x=>hh x.1]
    simp
theorem rA {K:Nat} (hK:200000 ≤ K) (hc:bA a0 a1 a2 a3 a4 a5 a6 a7 a8 = 0) (h0:0 ≤ hr) (h1:hr ≤ 1099511627776) (h:Int):fj K h a0 a1 a2 a3 a4 a5 a6 a7 a8 hr = some (iT (jt a0 a1 a2 a3 a4 a5 a6 a7 a8) hr h):=by
  obtain ⟨k,hk⟩:∃ k,K = k + 1 + 1 + 1 + 1:=⟨K - 4,by omega⟩
  unfold fj
  have s:bU K h a0 a1 a2 a3 a4 a5 a6 a7 a8 hr K 0 1 = bU K h a0 a1 a2 a3 a4 a5 a6 a7 a8 hr (k + 1 + 1 + 1 + 1) 0 1:=congrArg (fun n=>bU K h a0 a1 a2 a3 a4 a5 a6 a7 a8 hr n 0 1) hk
  rw [s,kH hK hc h0 h1 _ h 0 1 (.inl rfl)]
  have e1:(1:Int) + 1 = 2:=by omega
  have e2:(2:Int) + 1 = 3:=by omega
  rw [e1,kH hK hc h0 h1 _ h _ 2 (.inr (.inl rfl)),e2,kH hK hc h0 h1 _ h _ 3 (.inr (.inr rfl)),bU,if_neg (by omega)]
  unfold iT
  by_cases hh:qW h
  · by_cases d3:kp (jt a0 a1 a2 a3 a4 a5 a6 a7 a8) hr 3 h <;> by_cases d2:kp (jt a0 a1 a2 a3 a4 a5 a6 a7 a8) hr 2 h <;> by_cases d1:kp (jt a0 a1 a2 a3 a4 a5 a6 a7 a8) hr 1 h <;> simp [hh,d1,d2,d3]
  · rw [if_neg hh]
    simp only [hh,false_and,if_false]
end
theorem lI (lag:Int → Int) (hr h:Int) (h0:iT lag hr h ≠ 0):qW h ∧ qZ (iT lag hr h) ∧ kp lag hr (iT lag hr h) h:=by
  unfold iT at *
  split at h0
  · rename_i hh
    refine ⟨hh,?_⟩
    rw [if_pos hh]
    split
    · rename_i d; exact ⟨.inr (.inr rfl),d⟩
    · split
      · rename_i d; exact ⟨.inr (.inl rfl),d⟩
      · split
        · rename_i d; exact ⟨.inl rfl,d⟩
        · rename_i c3 c2 c1; simp [c3,c2,c1] at h0
  · exact absurd rfl h0
def kg (c:List Pr) (h:Int):Int:=match kM c h with | none=>0 | some e=>e.Part.Tier
theorem uA {K:Nat} (hK:200000 ≤ K) {p:aD} (hp:ml p) (h:Int):fz K p.Tier p.Index h = some (decide (iC p ≤ h ∧ h < lq p)):=by
  unfold fz
  rw [ie hK hp]
  simp only [Option.bind_some]
  have e1:iC ⟨p.Tier,p.Index⟩ = iC p:=rfl
  have e2:lq ⟨p.Tier,p.Index⟩ = lq p:=rfl
  rw [e1,e2]
  by_cases h1:iC p ≤ h
  · rw [if_pos h1]; simp [h1]
  · rw [if_neg h1]; simp [h1]
theorem qN {K:Nat} {c:List Pr} (hc:jU c) (h:Int) (hK:200000 ≤ K):∀ (f i:Nat),i ≤ c.length → c.length - i < f → eu K (c.map (·.v)) h f i = some (jV (((c.drop i).find? (mJ kk hh h)).map (·.v)))
  | 0,i,h1,h2=>by omega
  | f + 1,i,h1,h2=>by
    have hlen:=hc.len
    unfold eu
    by_cases hi:i < c.length
    · rw [if_pos (by rw [List.length_map]; omega),if_pos (by omega),bs (by omega)]
      simp only [Int.toNat_natCast]
      rw [pW hi]
      have hm:=jn hi
      have hr:=hc.rt _ hm
      have hk:=hc.key _ hm
      rw [uA hK hr,List.drop_eq_getElem_cons hi]
      have e:c.getD i zP = c[i]:=by simp [List.getD_eq_getElem?_getD,List.getElem?_eq_getElem hi]
      rw [e] at hk ⊢
      simp only [Option.bind_some,List.find?_cons]
      have ec:mJ kk hh h c[i] = decide (iC c[i].v.Part ≤ h ∧ h < lq c[i].v.Part):=by
        unfold mJ kk hh
        rw [hk]
      rw [ec]
      by_cases hd:iC c[i].v.Part ≤ h ∧ h < lq c[i].v.Part
      · simp only [hd,decide_true,if_true,and_self,Option.map_some]
        rfl
      · simp only [hd,decide_false,Bool.false_eq_true,if_false]
        have e1:((i:Int) + 1) = ((i + 1:Nat):Int):=by omega
        rw [e1]
        exact qN hc h hK f (i + 1) (by omega) (by omega)
    · rw [if_neg (by rw [List.length_map]; omega),List.drop_eq_nil_of_le (by omega)]
      rfl
theorem vd {K:Nat} {c:List Pr} (hc:jU c) (h:Int) (hK:200000 ≤ K):fg K (c.map (·.v)) h = some (jV (kM c h)):=by
  have hlen:=hc.len
  unfold fg
  have:=qN hc h hK K 0 (by omega) (by omega)
  rw [List.drop_zero] at this
  exact this
theorem xa {c:List Pr} {h:Int} {e:En} (he:kM c h = some e):∃ x ∈ c,x.v = e ∧ mJ kk hh h x = true:=by
  unfold kM at he
  rw [Option.map_eq_some_iff] at he
  obtain ⟨x,hx,rfl⟩:=he
  exact ⟨x,List.mem_of_find?_eq_some hx,rfl,List.find?_some hx⟩
end Go.Proofs.YtnjfjmbanmaciaaGreat.DueTargets
end
section
set_option linter.unusedVariables false
set_option linter.unusedSimpArgs false
set_option maxRecDepth 20000
namespace Go.Proofs.YtnjfjmbanmaciaaGreat.DueTargets
open Go E
def wr:bl × Int:=(⟨2,⟨1,5⟩⟩,5)
theorem oh:gh 200000 [5] bw.1 bw.2.1 bw.2.2.1 bw.2.2.2.1 bw.2.2.2.2.1 bw.2.2.2.2.2.1 bw.2.2.2.2.2.2.1 bw.2.2.2.2.2.2.2.1 bw.2.2.2.2.2.2.2.2 7 0 false = some [wr]:=by kernel_rfl
theorem rX:fY 200000 [wr.1] 200000 0 [] = some [⟨2,⟨1,5⟩,0,0⟩]:=by kernel_rfl
theorem rM:gt 200000 [5] bw.1 bw.2.1 bw.2.2.1 bw.2.2.2.1 bw.2.2.2.2.1 bw.2.2.2.2.2.1 bw.2.2.2.2.2.2.1 bw.2.2.2.2.2.2.2.1 bw.2.2.2.2.2.2.2.2 7 0 false = some [⟨2,⟨1,5⟩,0,0⟩]:=by
  unfold gt
  rw [oh]
  simp only [Option.bind_some,di]
  have hs:dg 200000 [wr] = some [wr.1]:=by
    unfold dg
    rw [if_pos (by simp)]
    unfold sD
    simp
  rw [hs]
  simp only [Option.bind_some]
  exact rX
theorem oe:dL 200000 = some true:=by
  unfold dL
  simp only [di]
  rw [rM]
  rfl
theorem sp {K:Nat} {l:List En} (hl:l.length ≤ 100) (hK:200000 ≤ K):∀ (f i:Nat) (c:List Pr),jU c → c.length ≤ i → i ≤ l.length → l.length - i < f →
    ∃ d,jU d ∧ d.length ≤ l.length ∧ dF K l f i c (c.map (·.v)) = some (d,d.map (·.v))
  | 0,i,c,h,h1,h2,h3=>by omega
  | f + 1,i,c,h,h1,h2,h3=>by
    unfold dF
    by_cases hi:i < l.length
    · rw [if_pos (by omega),if_pos (by omega),bs (by omega),if_pos (by omega),if_pos (by omega)]
      have e1:((i:Int) + 1) = ((i + 1:Nat):Int):=by omega
      rw [e1]
      simp only [Int.toNat_natCast]
      generalize hes:((l.drop i).take (i + 1 - i)) = es
      have hel:es.length ≤ 1:=by rw [← hes]; simp; omega
      rw [qT h es (by omega) hK]
      simp only [Option.bind_some]
      rw [qJ h (by omega) hK]
      simp only [Option.bind_some]
      obtain ⟨c1,c2⟩:=rO h [] (es:=es) (by omega)
      exact sp hl hK f (i + 1) _ c1 (by omega) (by omega) (by omega)
    · rw [if_neg (by omega)]
      exact ⟨c,h,by omega,rfl⟩
structure xG (l0:List En) (l1:List Int) (a0 a1 a2 a3 a4 a5 a6 a7 a8 hr fl:Int):Prop where
  l0:l0.length ≤ 40
  l1:l1.length ≤ 40
  rules:bA a0 a1 a2 a3 a4 a5 a6 a7 a8 = 0
  h0:0 ≤ hr
  h1:hr ≤ 1099511627776
  f0:0 ≤ fl
  f1:fl ≤ 16777217
section
variable {l0:List En} {l1:List Int} {a0 a1 a2 a3 a4 a5 a6 a7 a8 hr fl:Int} {sw:Bool}
theorem wG {K:Nat} (hK:200000 ≤ K) (h:xG l0 l1 a0 a1 a2 a3 a4 a5 a6 a7 a8 hr fl):∃ d,jU d ∧ d.length ≤ l0.length ∧ cT K l0 l1 a0 a1 a2 a3 a4 a5 a6 a7 a8 hr fl sw = some (d,a0,a1,a2,a3,a4,a5,a6,a7,a8,hr,fl,sw,d.map (·.v),a0,a1,a2,a3,a4,a5,a6,a7,a8,hr,fl,sw):=by
  obtain ⟨g0,g1,g2,g3,g4,g5,g6⟩:=h
  obtain ⟨d,c1,c2,c3⟩:=sp (K:=K) (l:=l0) (by omega) hK K 0 [] jU.nil (by simp) (by omega) (by omega)
  refine ⟨d,c1,c2,?_⟩
  unfold cT
  have e0:((0:Nat):Int) = 0:=rfl
  simp only [List.map_nil,e0] at c3
  rw [if_neg (by omega),if_neg (by omega)]
  simp only [di,g2,not_true,if_false]
  rw [if_neg (by omega),if_neg (by omega),if_neg (by omega),if_neg (by omega),c3]
  rfl
theorem vX {K:Nat} (h:¬ xG l0 l1 a0 a1 a2 a3 a4 a5 a6 a7 a8 hr fl):cT K l0 l1 a0 a1 a2 a3 a4 a5 a6 a7 a8 hr fl sw = none ∧ ∃ x,dP K l0 l1 a0 a1 a2 a3 a4 a5 a6 a7 a8 hr fl sw = some x:=by
  unfold cT dP
  simp only [di]
  by_cases c0:40 < (l0.length:Int)
  · rw [if_pos c0,if_pos c0]; exact ⟨rfl,_,rfl⟩
  rw [if_neg c0,if_neg c0]
  by_cases c1:40 < (l1.length:Int)
  · rw [if_pos c1,if_pos c1]; exact ⟨rfl,_,rfl⟩
  rw [if_neg c1,if_neg c1]
  by_cases c2:¬ bA a0 a1 a2 a3 a4 a5 a6 a7 a8 = 0
  · rw [if_pos c2,if_pos c2]; exact ⟨rfl,_,rfl⟩
  rw [if_neg c2,if_neg c2]
  by_cases c3:hr < 0
  · rw [if_pos c3,if_pos c3]; exact ⟨rfl,_,rfl⟩
  rw [if_neg c3,if_neg c3]
  by_cases c4:1099511627776 < hr
  · rw [if_pos c4,if_pos c4]; exact ⟨rfl,_,rfl⟩
  rw [if_neg c4,if_neg c4]
  by_cases c5:fl < 0
  · rw [if_pos c5,if_pos c5]; exact ⟨rfl,_,rfl⟩
  rw [if_neg c5,if_neg c5]
  by_cases c6:16777217 < fl
  · rw [if_pos c6,if_pos c6]; exact ⟨rfl,_,rfl⟩
  exact absurd ⟨by omega,by omega,Classical.not_not.1 c2,by omega,by omega,by omega,by omega⟩ h
theorem vm (c:List Pr) (h:Int):(jV (kM c h)).1 = kg c h:=by
  unfold kg
  cases kM c h <;> rfl
theorem sm {K:Nat} (hK:200000 ≤ K) {c:List Pr} (hc:jU c) (h:Int):fW K c l1 a0 a1 a2 a3 a4 a5 a6 a7 a8 hr fl sw h = some (kg c h):=by
  unfold fW
  rw [xg hc h hK]
  simp only [Option.bind_some,vm]
theorem ob {K:Nat} (hK:200000 ≤ K) {c:List Pr} (hc:jU c) (h:Int):cU K (c.map (·.v)) l1 a0 a1 a2 a3 a4 a5 a6 a7 a8 hr fl sw h = some (kg c h):=by
  unfold cU
  rw [vd hc h hK]
  unfold kg
  cases kM c h <;> rfl
theorem vr {c:List Pr} (hc:jU c) (h:Int):kg c h = 0 ∨ qZ (kg c h):=by
  unfold kg
  cases he:kM c h with
  | none=>exact .inl rfl
  | some e =>
    obtain ⟨x,hx,rfl,_⟩:=xa he
    have hr:=hc.rt x hx
    exact .inr (mC hr.1 hr.2)
def kU (lag:Int → Int) (hr:Int) (c:List Pr) (h:Int):Int:=if iT lag hr h = 0 then 0 else mx (kg c h) (iT lag hr h)
def nK (lag:Int → Int) (hr:Int) (c:List Pr) (h:Int):Option aD:=if iT lag hr h = 0 then none else some (xp (kU lag hr c h) h)
def xx:Option aD → Int × Int × Bool
  | none=>(0,0,false)
  | some p=>(p.Tier,p.Index,true)
theorem wo (a b:Int):mx a b = mx b a:=by
  unfold mx
  split <;> split <;> omega
theorem pq {lag:Int → Int} {hr:Int} {c:List Pr} (hc:jU c) {h:Int} (hb:iT lag hr h ≠ 0):qZ (kU lag hr c h) ∧ kg c h ≤ kU lag hr c h ∧ iT lag hr h ≤ kU lag hr c h ∧ (kU lag hr c h = kg c h ∨ kU lag hr c h = iT lag hr h):=by
  obtain ⟨_,b1,_⟩:=lI lag hr h hb
  have t1:=vr hc h
  unfold kU
  rw [if_neg hb]
  unfold mx
  split
  · exact ⟨b1,by omega,by omega,.inr rfl⟩
  · refine ⟨?_,by omega,by omega,.inl rfl⟩
    rcases t1 with t1 | t1
    · rcases b1 with b1 | b1 | b1 <;> omega
    · exact t1
theorem tD {K:Nat} (hK:200000 ≤ K) (ok:xG l0 l1 a0 a1 a2 a3 a4 a5 a6 a7 a8 hr fl) {c:List Pr} (hc:jU c) (h:Int):gv K c l1 a0 a1 a2 a3 a4 a5 a6 a7 a8 hr fl sw h = some (xx (nK (jt a0 a1 a2 a3 a4 a5 a6 a7 a8) hr c h)):=by
  unfold gv
  rw [ws hK ok.rules ok.h0 ok.h1]
  simp only [Option.bind_some]
  unfold nK
  by_cases hb:iT (jt a0 a1 a2 a3 a4 a5 a6 a7 a8) hr h = 0
  · rw [if_pos hb,if_pos hb]; rfl
  · rw [if_neg hb,if_neg hb,sm hK hc]
    obtain ⟨b0,b1,_⟩:=lI _ hr h hb
    obtain ⟨g1,_⟩:=pq hc hb
    have e:mx (kg c h) (iT (jt a0 a1 a2 a3 a4 a5 a6 a7 a8) hr h) = kU (jt a0 a1 a2 a3 a4 a5 a6 a7 a8) hr c h:=by unfold kU; rw [if_neg hb]
    simp only [Option.bind_some,di,e]
    rw [of_eq g1 b0]
    rfl
theorem qo {K:Nat} (hK:200000 ≤ K) (ok:xG l0 l1 a0 a1 a2 a3 a4 a5 a6 a7 a8 hr fl) {c:List Pr} (hc:jU c) (h:Int):dK K (c.map (·.v)) l1 a0 a1 a2 a3 a4 a5 a6 a7 a8 hr fl sw h = some (xx (nK (jt a0 a1 a2 a3 a4 a5 a6 a7 a8) hr c h)):=by
  unfold dK
  rw [rA hK ok.rules ok.h0 ok.h1]
  simp only [Option.bind_some]
  unfold nK
  by_cases hb:iT (jt a0 a1 a2 a3 a4 a5 a6 a7 a8) hr h = 0
  · rw [if_pos hb,if_pos hb]; rfl
  · rw [if_neg hb,if_neg hb,ob hK hc]
    obtain ⟨b0,b1,_⟩:=lI _ hr h hb
    obtain ⟨g1,_⟩:=pq hc hb
    have e:mx (iT (jt a0 a1 a2 a3 a4 a5 a6 a7 a8) hr h) (kg c h) = kU (jt a0 a1 a2 a3 a4 a5 a6 a7 a8) hr c h:=by unfold kU; rw [if_neg hb,wo]
    simp only [Option.bind_some,e]
    rw [qP hK g1 b0.1 b0.2]
    rfl
end
end Go.Proofs.YtnjfjmbanmaciaaGreat.DueTargets
end
section
set_option linter.unusedVariables false
set_option linter.unusedSimpArgs false
set_option maxRecDepth 20000
namespace Go.Proofs.YtnjfjmbanmaciaaGreat.DueTargets
open Go E
theorem law (s0:Value) (l0:List av) (s1:Value) (l1:List Int) (a0 a1 a2 a3 a4 a5 a6 a7 a8 hr fl:Int) (sw:Bool) (h:Int):∃ K,ep K s0 l0 s1 l1 a0 a1 a2 a3 a4 a5 a6 a7 a8 hr fl sw h = some true:=by
  refine ⟨200000,?_⟩
  unfold ep
  by_cases ok:xG l0 l1 a0 a1 a2 a3 a4 a5 a6 a7 a8 hr fl
  · obtain ⟨d,c,_,e⟩:=wG (K:=200000) (sw:=sw) (Nat.le_refl _) ok
    rw [e,qG]
    simp only []
    rw [tD (Nat.le_refl _) ok c,qo (Nat.le_refl _) ok c]
    simp only [Option.bind_some,beq_self_eq_true,Bool.and_self,if_true]
    rw [sm (Nat.le_refl _) c,ob (Nat.le_refl _) c]
    simp only [Option.bind_some,if_true]
    rw [oe]
    rfl
  · obtain ⟨e1,x,e2⟩:=vX (K:=200000) (sw:=sw) ok
    rw [e1,qr,e2,Option.bind_some,oe]
    rfl
end Go.Proofs.YtnjfjmbanmaciaaGreat.DueTargets
end
section
set_option linter.unusedVariables false
namespace Go.Proofs.YtnjfjmbanmaciaaGreat.DueTargets
open Go Go.ChangeShapes Go.WideShapes Go.ChangeAt Go.RowKit E
open Go.ChangeMaps (open_string shut_string)
theorem own:ownKnob Tryz.prog.godebug = none:=by kernel_rfl
theorem wD:laidOutB Tryz.prog = true:=by kernel_rfl
set_option maxRecDepth 100000 in
theorem xj (os:Os) (started:os.Started) (H:Type) (enc:TypeId × Value → H) :
    ReturnsInHanded {} Tryz.checked os 3 .any (Rows.dueTargetsSpec.pre6 enc Tryz.prog Tryz.f3 Rows.dueTargetsRow.domain false) (Rows.dueTargetsSpec.post enc Tryz.prog Tryz.f3 false true false false):=by
  refine rI (C:=Tryz.checked) (tb:=4) (ts:=[27,2]) own started (by kernel_rfl) Tryz.func3
    (ChangeSpec.witness6 (enc:=enc) (C:=Tryz.checked) false ⟨#[],#[.agg #[.slice none 0 0,.slice none 0 0,.int .i64 0,.int .i64 0,.int .i64 0,.int .i64 0,.int .i64 0,.int .i64 0,.int .i64 0,.int .i64 0,.int .i64 0,.int .i64 0,.int .i64 0,.bool false],.int .i64 0],[]⟩ 8 (by kernel_rfl) (by kernel_rfl) (by kernel_rfl) (by kernel_rfl))
    (by rw [Tryz.params3]) rfl Tryz.underlying4 rfl wD (by kernel_rfl) ?_ (fun W=>(ny (rG (by kernel_rfl) (jE (ts:=[22,23,25,2,2,4]) (by kernel_rfl) (dD (ns (e:=54) (by kernel_rfl) (tW (c':=aL) (ok':=qf) (jE (ts:=[36,2,2,2,4]) (by kernel_rfl) (dD (jE (ts:=[3,2]) (by kernel_rfl) (dD (eY Tryz.underlying3) (kE (eY Tryz.underlying2)))) (dD (eY Tryz.underlying2) (dD (eY Tryz.underlying2) (dD (eY Tryz.underlying2) (kE (oC Tryz.underlying4))))))) (fun x=>(⟨(⟨x.1.1,x.1.2⟩:aD),x.2.1,x.2.2.1,x.2.2.2.1,x.2.2.2.2⟩:av)) (fun _=>rfl) (fun _ h=>⟨⟨h.1.1,h.1.2⟩,h.2.1,h.2.2.1,h.2.2.2.1⟩))) (dD (ns (e:=2) (by kernel_rfl) (eY Tryz.underlying2)) (dD (jE (ts:=[2,2,2,2,2,2,2,3,2]) (by kernel_rfl) (dD (eY Tryz.underlying2) (dD (eY Tryz.underlying2) (dD (eY Tryz.underlying2) (dD (eY Tryz.underlying2) (dD (eY Tryz.underlying2) (dD (eY Tryz.underlying2) (dD (eY Tryz.underlying2) (dD (eY Tryz.underlying3) (kE (eY Tryz.underlying2))))))))))) (dD (eY Tryz.underlying2) (dD (eY Tryz.underlying2) (kE (oC Tryz.underlying4))))))))) (ny (rR Tryz.underlying2) rH))) ?_
  · intro ds hl
    match ds,hl with
    | [d0,d1],_=>rfl
  · intro W x hok
    obtain ⟨⟨⟨s0_0,l0_0⟩,⟨s0_1,l0_1⟩,⟨a0_2_0,a0_2_1,a0_2_2,a0_2_3,a0_2_4,a0_2_5,a0_2_6,a0_2_7,a0_2_8⟩,a0_3,a0_4,a0_5⟩,a1,_⟩:=x
    obtain ⟨h0,h1,_⟩:=hok
    obtain ⟨K,hK⟩:=law s0_0 l0_0 s0_1 l0_1 a0_2_0 a0_2_1 a0_2_2 a0_2_3 a0_2_4 a0_2_5 a0_2_6 a0_2_7 a0_2_8 a0_3 a0_4 a0_5 a1
    refine ⟨[uN W],(ep.spec K (uN W) s0_0 l0_0 s0_1 l0_1 a0_2_0 a0_2_1 a0_2_2 a0_2_3 a0_2_4 a0_2_5 a0_2_6 a0_2_7 a0_2_8 a0_3 a0_4 a0_5 a1 (ra h0.1.1) (ra h0.2.1.1) true hK).mono fun v M h=>h.1,?_⟩
    intro A hA
    simp only [List.mem_cons,List.not_mem_nil,or_false] at hA
    subst hA
    exact fun _ _ h=>h
theorem over:Rows.dueTargetsRow.holds Tryz.pinned (OpenSpec.ofChange Rows.dueTargetsSpec) :=
  OpenClaim.holds_of_wide 3 Tryz.f3 rfl rfl rfl rfl rfl rfl rfl ⟨rfl,rfl,rfl,rfl,rfl⟩ rfl rfl rfl rfl rfl (by kernel_rfl) Tryz.func3 (by kernel_rfl)
    (of_decide_eq_true (by kernel_rfl)) (by unfold Func.isWrapper; first | (rw [if_pos (by decide +kernel)]; kernel_rfl) | (rw [if_neg (by decide +kernel)]; exact ⟨rfl,rfl⟩))
    (fun os started H enc _=>xj os started H enc)
end Go.Proofs.YtnjfjmbanmaciaaGreat.DueTargets
namespace Go.Proofs.YtnjfjmbanmaciaaGreat
theorem dueTargets_holds:Rows.DueTargetsSaid:=DueTargets.over
#print axioms dueTargets_holds
end Go.Proofs.YtnjfjmbanmaciaaGreat
end
