/- dueNeeds_holds: the given statement is proved: no condition ahead of it; before it what its proof rests on. -/
import Derived.Test.YtnjfjmbanmaciaaGreatQ4
import Derived.Test.YtnjfjmbanmaciaaGreatRows
set_option linter.unusedVariables false
set_option linter.unusedSimpArgs false
section
set_option linter.unusedVariables false
set_option linter.unusedSimpArgs false
set_option maxRecDepth 20000
namespace Go.Proofs.YtnjfjmbanmaciaaGreat.DueNeeds
open Go E
theorem rr {K:Nat} {γ:Type} {y:Int → an → γ → Option (γ × Bool)} {l:List Pr} (inv:Nat → γ → Prop) (f:γ → Pr → γ) (hl:l.length ≤ 1000000)
    (hy:∀ i,i < l.length → ∀ z,inv i z → y (l.getD i zP).k (l.getD i zP).v z = some (f z (l.getD i zP),true) ∧ inv (i + 1) (f z (l.getD i zP))) :
    ∀ (n i:Nat) (z:γ),l.length - i < n → i ≤ l.length → inv i z → cy K γ y l n i z = some ((l.drop i).foldl f z)
  | 0,i,z,h1,h2,h3=>by omega
  | n + 1,i,z,h1,h2,h3=>by
    unfold cy
    by_cases hi:i < l.length
    · rw [if_pos (by omega),if_pos (by omega)]
      simp only [Int.toNat_natCast]
      obtain ⟨h4,h5⟩:=hy i hi z h3
      have h4':y (l.getD i zP).k (⟨(⟨(l.getD i zP).v.Part.Tier,(l.getD i zP).v.Part.Index⟩:aq),(l.getD i zP).v.Seg,(l.getD i zP).v.Mark,(l.getD i zP).v.Rows,(l.getD i zP).v.Cold⟩:an) z = some (f z (l.getD i zP),true):=h4
      rw [h4']
      simp only [Option.bind_some,Bool.not_true,Bool.false_eq_true,if_false]
      rw [br (by omega)]
      have e:((i:Int) + 1) = ((i + 1:Nat):Int):=by omega
      rw [e,rr inv f hl hy n (i + 1) _ (by omega) (by omega) h5]
      have e2:l.getD i zP = l[i]:=by simp [List.getD_eq_getElem?_getD,List.getElem?_eq_getElem hi]
      rw [List.drop_eq_getElem_cons hi,List.foldl_cons,e2]
    · rw [if_neg (by omega),List.drop_eq_nil_of_le (by omega)]; rfl
theorem An {l:List Pr} (h:jL l) {x y:Pr} (hx:x ∈ l) (hy:y ∈ l) (hk:x.k = y.k):x = y:=by
  obtain ⟨a1,a2⟩:=A5 h hx hk
  obtain ⟨i,hi1,hi2⟩:=List.getElem_of_mem hx
  obtain ⟨j,hj1,hj2⟩:=List.getElem_of_mem hy
  have e1:l.getD i zP = x:=by simp [List.getD_eq_getElem?_getD,List.getElem?_eq_getElem hi1,hi2]
  have e2:l.getD j zP = y:=by simp [List.getD_eq_getElem?_getD,List.getElem?_eq_getElem hj1,hj2]
  rcases Nat.lt_trichotomy i j with hij | hij | hij
  · have:=ln h hij hj1
    rw [e1,e2] at this; omega
  · subst hij; rw [← hi2,← hj2]
  · have:=ln h hij hi1
    rw [e1,e2] at this; omega
def vN (p:aq):Prop:=mJ p ∨ p = ⟨0,0⟩
theorem zM {p:aq} (h:vN p):(eS p.Tier p.Index).1 = fR p:=by
  rcases h with h | rfl
  · rw [lM h.1 h.2]; rfl
  · rfl
theorem qV {K:Nat} (hK:200000 ≤ K) {p:aq} (h:vN p):∃ b,bo K p.Tier p.Index = some (fR p,b):=by
  rcases h with h | rfl
  · exact ⟨_,gM hK h⟩
  · exact ⟨0,rD hK (by decide)⟩
def kz (m:List (aD × Int)) (j:aD):List (aD × Int):=lg m j (fR j.p)
def iC (lag:Int → Int) (hr:Int) (c:List Pr) (h ab:Int):List aD:=match iO lag hr c h with | none=>[] | some t=>if ab < t.Tier then [⟨2,t⟩] else []
def mz (lag:Int → Int) (hr fl cold:Int) (c:List Pr) (hs:List Int) (e:En):List aD :=
  if jK e.Part ≤ fl then [⟨1,e.Part⟩] else iC lag hr c (fR e.Part) e.Part.Tier ++
    (if e.Part.Tier = 3 ∧ e.Cold = false ∧ jK e.Part + cold ≤ hr ∧ hs.any (uE (fR e.Part) (jK e.Part)) = false then [⟨3,e.Part⟩] else [])
def qS (lag:Int → Int) (hr fl cold:Int) (c:List Pr) (hs:List Int) (sw:Bool):List aD :=
  (c.flatMap fun x=>mz lag hr fl cold c hs x.v) ++ hs.flatMap (fun h=>iC lag hr c h 0) ++ (if sw = true then [⟨4,⟨0,0⟩⟩] else [])
theorem jC {lag:Int → Int} {hr:Int} {c:List Pr} (hc:jL c) {h:Int} {t:aq} (ht:iO lag hr c h = some t):rz h ∧ jI lag hr h ≠ 0 ∧ t = qb (ma lag hr c h) h ∧ pe t.Tier ∧ t.Tier = ma lag hr c h ∧ mJ t:=by
  unfold iO at ht
  split at ht
  · cases ht
  · rename_i hb
    cases ht
    obtain ⟨b0,b1,_⟩:=kI lag hr h hb
    obtain ⟨g1,_⟩:=mg hc hb
    exact ⟨b0,hb,rfl,g1,rfl,vz g1 b0⟩
theorem tW {α β γ:Type} (f:α → List β) (g:γ → β → γ):∀ (l:List α) (z:γ),(l.flatMap f).foldl g z = l.foldl (fun z x=>(f x).foldl g z) z
  | [],z=>rfl
  | x :: l,z=>by rw [List.flatMap_cons,List.foldl_append,List.foldl_cons,tW f g l]
section
variable {K:Nat} {a0 a1 a2 a3 a4 a5 a6 a7 a8 hr fl:Int} {sw:Bool} {l0:List En} {lh:List Int}
theorem qe (c:List Pr) (m:List (aD × Int)) (k:Int) {p:aq} (hp:vN p):dw c lh a0 a1 a2 a3 a4 a5 a6 a7 a8 hr fl sw m k p.Tier p.Index = kz m ⟨k,p⟩:=by
  unfold dw
  simp only [cY]
  rw [zM hp]
  rfl
theorem tK (hK:200000 ≤ K) (ok:tw l0 lh a0 a1 a2 a3 a4 a5 a6 a7 a8 hr fl) {c:List Pr} (hc:jL c) (m:List (aD × Int)) (h ab:Int):eH K c lh a0 a1 a2 a3 a4 a5 a6 a7 a8 hr fl sw m h ab = some ((iC (gx a0 a1 a2 a3 a4 a5 a6 a7 a8) hr c h ab).foldl kz m):=by
  unfold eH
  rw [xD hK ok hc]
  simp only [Option.bind_some]
  unfold iC
  cases ht:iO (gx a0 a1 a2 a3 a4 a5 a6 a7 a8) hr c h with
  | none=>rfl
  | some t =>
    have hrt:=(jC hc ht).2.2.2.2.2
    have et:xc (some t) = (t.Tier,t.Index,true):=rfl
    rw [et]
    simp only [if_true]
    by_cases q:ab < t.Tier
    · rw [if_pos q,if_pos q,cY,qe c m 2 (.inl hrt)]
      rfl
    · rw [if_neg q,if_neg q]
      rfl
theorem yI (hK:200000 ≤ K) (ok:tw l0 lh a0 a1 a2 a3 a4 a5 a6 a7 a8 hr fl) {c:List Pr} (hc:jL c) (m:List (aD × Int)) {e:En} (he:mJ e.Part) {hs:List Int} (hl:hs.length ≤ 1000) :
    fw K c lh a0 a1 a2 a3 a4 a5 a6 a7 a8 hr fl sw m e.Part.Tier e.Part.Index e.Seg e.Mark e.Rows e.Cold hs = some ((mz (gx a0 a1 a2 a3 a4 a5 a6 a7 a8) hr fl a4 c hs e).foldl kz m):=by
  have hsp:=lL he
  obtain ⟨_,_,_,_,c4,_⟩:=uJ ok.rules
  have h0:=ok.h0
  have h1:=ok.h1
  unfold fw
  have es:eS e.Part.Tier e.Part.Index = (fR e.Part,jK e.Part):=lM he.1 he.2
  rw [es]
  simp only [cY]
  unfold mz
  by_cases q:jK e.Part ≤ fl
  · rw [if_pos q,if_pos q,qe c m 1 (.inl he)]
    rfl
  · rw [if_neg q,if_neg q,tK hK ok hc,tx hK hl,List.foldl_append,br (by omega)]
    simp only [Option.bind_some]
    generalize (iC (gx a0 a1 a2 a3 a4 a5 a6 a7 a8) hr c (fR e.Part) e.Part.Tier).foldl kz m = m'
    by_cases q1:e.Part.Tier = 3
    · rw [if_pos q1]
      by_cases q2:e.Cold = false
      · rw [if_pos (by rw [q2]; rfl)]
        by_cases q3:jK e.Part ≤ hr - a4
        · rw [if_pos q3]
          by_cases q4:hs.any (uE (fR e.Part) (jK e.Part)) = false
          · rw [if_pos (by rw [q4]; rfl),qe c m' 3 (.inl he),if_pos ⟨q1,q2,by omega,q4⟩]
            rfl
          · rw [if_neg (by simpa using q4),if_neg fun x=>q4 x.2.2.2]
            rfl
        · rw [if_neg q3,if_neg fun x=>q3 (by have:=x.2.2.1; omega)]
          rfl
      · rw [if_neg (by simpa using q2),if_neg fun x=>q2 x.2.1]
        rfl
    · rw [if_neg q1,if_neg fun x=>q1 x.1]
      rfl
theorem Ay {γ:Type} (g:γ → En → γ):∀ (l:List Pr) (z:γ),l.foldl (fun (z:Sum γ γ) x=>match z with | .inl w=>Sum.inl (g w x.v) | .inr w=>Sum.inr w) (Sum.inl z) = (Sum.inl (l.foldl (fun z x=>g z x.v) z):Sum γ γ)
  | [],z=>rfl
  | x :: l,z=>by rw [List.foldl_cons,List.foldl_cons]; exact Ay g l _
theorem Bj {γ:Type} (hK:200000 ≤ K) {c:List Pr} (hc:jL c) (y:En → γ → Option (γ × Bool)) (g:γ → En → γ) (x0:γ) (hy:∀ x ∈ c,∀ z,y x.v z = some (g z x.v,true)):eD K γ y x0 c = some (c.foldl (fun z x=>g z x.v) x0):=by
  have hlen:=hc.len
  unfold eD dt
  simp only [cY]
  have:=rr (K:=K) (y:=fp K γ y) (l:=c) (fun _ z=>∃ w,z = Sum.inl w) (fun z x=>match z with | .inl w=>Sum.inl (g w x.v) | .inr w=>Sum.inr w) (by omega) (fun i hi z hz=>by
    obtain ⟨w,rfl⟩:=hz
    refine ⟨?_,_,rfl⟩
    have h1:=hy _ (kA hi) w
    show pP (Sum.inl w) (fun z2=>((y (c.getD i zP).v z2).bind fun x7=>(if (!x7.2) = true then (some ((Sum.inr x7.1,false))) else (some ((Sum.inl x7.1,true)))))) (fun _=>none) = _
    simp only [pP]
    rw [h1]
    rfl) K 0 (Sum.inl x0) (by omega) (by omega) ⟨_,rfl⟩
  have e0:((0:Nat):Int) = 0:=rfl
  rw [e0,List.drop_zero,Ay] at this
  rw [this]
  rfl
theorem vO (hK:200000 ≤ K) (ok:tw l0 lh a0 a1 a2 a3 a4 a5 a6 a7 a8 hr fl) {c:List Pr} (hc:jL c) (u:List (aD × Int)) {hs:List Int} (hl:hs.length ≤ 1000):∀ (f i:Nat) (m:List (aD × Int)),i ≤ hs.length → hs.length - i < f →
    ga K c lh a0 a1 a2 a3 a4 a5 a6 a7 a8 hr fl sw (u,hs) f i m = some (((hs.drop i).flatMap fun h=>iC (gx a0 a1 a2 a3 a4 a5 a6 a7 a8) hr c h 0).foldl kz m)
  | 0,i,m,h0,h1=>by omega
  | f + 1,i,m,h0,h1=>by
    rw [ga]
    by_cases h:i < hs.length
    · have hp:(i:Int) < (hs.length:Int):=by omega
      rw [if_pos hp,if_pos (by omega),xZ (by omega)]
      simp only [Int.toNat_natCast]
      rw [tK hK ok hc,kV hs _ h 0]
      simp only [Option.bind_some]
      rw [vO hK ok hc u hl f (i + 1) _ (by omega) (by omega),List.drop_eq_getElem_cons h,List.flatMap_cons,List.foldl_append]
    · have hn:¬ ((i:Int) < (hs.length:Int)):=by omega
      rw [if_neg hn,List.drop_eq_nil_of_le (by omega)]
      rfl
theorem nI (fl:Int) (l:List Int):(fS fl l).length ≤ l.length:=List.length_filter_le _ _
theorem pK (hK:200000 ≤ K) (ok:tw l0 lh a0 a1 a2 a3 a4 a5 a6 a7 a8 hr fl) {c:List Pr} (hc:jL c):fW K c lh a0 a1 a2 a3 a4 a5 a6 a7 a8 hr fl sw = some ((qS (gx a0 a1 a2 a3 a4 a5 a6 a7 a8) hr fl a4 c (fS fl lh) sw).foldl kz []):=by
  have hl:=nI fl lh
  have hl1:=ok.l1
  obtain ⟨u,hu⟩:=xO (a0:=a0) (a1:=a1) (a2:=a2) (a3:=a3) (a4:=a4) (a5:=a5) (a6:=a6) (a7:=a7) (a8:=a8) (hr:=hr) (fl:=fl) (sw:=sw) hK c lh [] hl1
  unfold fW
  rw [hu]
  simp only [Option.bind_some,cY]
  rw [Bj hK hc _ (fun m e=>(mz (gx a0 a1 a2 a3 a4 a5 a6 a7 a8) hr fl a4 c (fS fl lh) e).foldl kz m) [] (fun x hx z=>by
    unfold iz
    rw [yI hK ok hc z (hc.rt x hx) (hs:=fS fl lh) (by omega)]
    rfl)]
  simp only [Option.bind_some]
  have h1:=vO (sw:=sw) hK ok hc (c.foldl (fun z x=>(mz (gx a0 a1 a2 a3 a4 a5 a6 a7 a8) hr fl a4 c (fS fl lh) x.v).foldl kz z) []) (hs:=fS fl lh) (by omega) K 0 (c.foldl (fun z x=>(mz (gx a0 a1 a2 a3 a4 a5 a6 a7 a8) hr fl a4 c (fS fl lh) x.v).foldl kz z) []) (by omega) (by omega)
  have e0:((0:Nat):Int) = 0:=rfl
  rw [e0,List.drop_zero] at h1
  rw [h1]
  simp only [Option.bind_some]
  unfold qS
  simp only [List.foldl_append,tW]
  cases sw with
  | true =>
    simp only [if_true,List.foldl_cons,List.foldl_nil]
    rw [qe c _ 4 (.inr Z)]
  | false=>simp only [Bool.false_eq_true,if_false,List.foldl_nil]
end
end Go.Proofs.YtnjfjmbanmaciaaGreat.DueNeeds
end
section
set_option linter.unusedVariables false
set_option linter.unusedSimpArgs false
set_option maxRecDepth 20000
namespace Go.Proofs.YtnjfjmbanmaciaaGreat.DueNeeds
open Go E
def mk (d:aD):aU:=⟨d.kind,d.p,0,0⟩
def oy (j:aD):List aD → List aD
  | []=>[j]
  | x :: l=>if x = j then x :: l else if j.kind < x.kind ∨ x.kind = j.kind ∧ fR j.p < fR x.p then j :: x :: l else x :: oy j l
def pu (j:aD):List aD → Option Nat
  | []=>some 0
  | x :: l=>if x = j then none else if j.kind < x.kind ∨ x.kind = j.kind ∧ fR j.p < fR x.p then some 0 else (pu j l).map (· + 1)
theorem rX (j:aD):∀ l,oy j l = match pu j l with | none=>l | some n=>l.take n ++ j :: l.drop n
  | []=>rfl
  | x :: l=>by
    unfold oy pu
    by_cases h:x = j
    · rw [if_pos h,if_pos h]
    · rw [if_neg h,if_neg h]
      by_cases h2:j.kind < x.kind ∨ x.kind = j.kind ∧ fR j.p < fR x.p
      · rw [if_pos h2,if_pos h2]; rfl
      · rw [if_neg h2,if_neg h2,rX j l]
        cases pu j l <;> rfl
theorem vI (j:aD):∀ (l:List aD) (n:Nat),pu j l = some n → n ≤ l.length
  | [],n,h=>by cases h; simp
  | x :: l,n,h=>by
    unfold pu at h
    split at h
    · cases h
    · split at h
      · cases h; simp
      · rw [Option.map_eq_some_iff] at h
        obtain ⟨m,h1,rfl⟩:=h
        have:=vI j l m h1
        simp; omega
theorem yk {l:List aD} {i:Nat} (h:i < l.length):(l.map mk).getD i ba = mk l[i]:=by
  rw [kV _ _ (by simpa using h)]
  simp
theorem vK {x j:aD} (hk:x.kind = j.kind) (h:¬ x = j):((x.p.Tier == j.p.Tier) && ((x.p.Index == j.p.Index) && true)) = false:=by
  rw [Bool.eq_false_iff]
  intro e
  simp at e
  apply h
  obtain ⟨k,⟨t,i⟩⟩:=x
  obtain ⟨k2,⟨t2,i2⟩⟩:=j
  simp at hk e
  simp [hk,e]
theorem so {K:Nat} (hK:200000 ≤ K) {l:List aD} (hl:∀ x ∈ l,vN x.p) (hlen:l.length ≤ 1000) (j:aD) (b:Int):∀ (f i:Nat),i ≤ l.length → l.length - i < f →
    eF K (l.map mk) j.kind j.p.Tier j.p.Index (fR j.p,b) f i = some (match pu j (l.drop i) with | none=>Sum.inr (l.map mk) | some n=>Sum.inl ((i + n:Nat):Int))
  | 0,i,h0,h1=>by omega
  | f + 1,i,h0,h1=>by
    rw [eF]
    by_cases h:i < l.length
    · have hp:(i:Int) < ((l.map mk).length:Int):=by rw [List.length_map]; omega
      have em:(l.map mk).getD (i:Int).toNat ba = mk l[i]:=by rw [Int.toNat_natCast,yk h]
      rw [if_pos hp,if_pos (by omega),xZ (by omega),em]
      obtain ⟨b',hb'⟩:=qV hK (hl l[i] (List.getElem_mem h))
      have e1:bo K (mk l[i]).Part.Tier (mk l[i]).Part.Index = some (fR l[i].p,b'):=hb'
      have e2:(mk l[i]).Kind = l[i].kind:=rfl
      have e3:(mk l[i]).Part = l[i].p:=rfl
      rw [e1,e2,e3]
      simp only [Option.bind_some]
      rw [List.drop_eq_getElem_cons h]
      unfold pu
      by_cases hx:l[i] = j
      · rw [if_pos hx,hx]
        simp [gy,pP]
      · rw [if_neg hx]
        have hi:(gy (if l[i].kind = j.kind then (if ((l[i].p.Tier == j.p.Tier) && ((l[i].p.Index == j.p.Index) && true)) = true then (Sum.inr (Sum.inr (l.map mk)):Sum Unit (Sum Int (List aU))) else Sum.inl ()) else Sum.inl ()) fun z=>z) = Sum.inl ():=by
          by_cases hk:l[i].kind = j.kind
          · rw [if_pos hk,vK hk hx]; rfl
          · rw [if_neg hk]; rfl
        have hi2:(if l[i].kind = j.kind then (if ((l[i].p.Tier == j.p.Tier) && ((l[i].p.Index == j.p.Index) && true)) = true then (Sum.inr (Sum.inr (l.map mk)):Sum Unit (Sum Int (List aU))) else Sum.inl ()) else Sum.inl ()) = Sum.inl ():=hi
        rw [hi2]
        simp only [gy,pP]
        by_cases h2:j.kind < l[i].kind ∨ l[i].kind = j.kind ∧ fR j.p < fR l[i].p
        · rw [if_pos h2]
          rcases h2 with h2 | ⟨h2,h3⟩
          · rw [if_pos h2]; simp
          · rw [if_neg (by omega),if_pos h2,if_pos h3]; simp
        · rw [if_neg h2,so hK hl hlen j b f (i + 1) (by omega) (by omega)]
          have e4:(if j.kind < l[i].kind then some (Sum.inl (i:Int)) else if l[i].kind = j.kind then if fR j.p < fR l[i].p then some (Sum.inl (i:Int)) else some (match pu j (l.drop (i + 1)) with | none=>(Sum.inr (l.map mk):Sum Int (List aU)) | some n=>Sum.inl ((i + 1 + n:Nat):Int)) else some (match pu j (l.drop (i + 1)) with | none=>(Sum.inr (l.map mk):Sum Int (List aU)) | some n=>Sum.inl ((i + 1 + n:Nat):Int))) = some (match pu j (l.drop (i + 1)) with | none=>(Sum.inr (l.map mk):Sum Int (List aU)) | some n=>Sum.inl ((i + 1 + n:Nat):Int)):=by
            rw [if_neg (fun x=>h2 (.inl x))]
            by_cases hk:l[i].kind = j.kind
            · rw [if_pos hk,if_neg (fun x=>h2 (.inr ⟨hk,x⟩))]
            · rw [if_neg hk]
          rw [e4]
          cases pu j (l.drop (i + 1)) with
          | none=>rfl
          | some n =>
            simp only [Option.map_some]
            congr 2
            omega
    · rw [if_neg (by rw [List.length_map]; omega),List.drop_eq_nil_of_le (by omega)]
      rfl
theorem mj {K:Nat} (hK:200000 ≤ K) {l:List aD} (hl:∀ x ∈ l,vN x.p) (hlen:l.length ≤ 1000) {j:aD} (hj:vN j.p):cr K (l.map mk) j.kind j.p.Tier j.p.Index = some ((oy j l).map mk):=by
  unfold cr
  obtain ⟨b,hb⟩:=qV hK hj
  rw [hb]
  simp only [Option.bind_some]
  have h1:=so hK hl hlen j b K 0 (by omega) (by omega)
  have e0:((0:Nat):Int) = 0:=rfl
  rw [e0,List.drop_zero] at h1
  rw [h1,rX]
  simp only [Option.bind_some]
  cases hs:pu j l with
  | none=>rfl
  | some n =>
    have hn:=vI j l n hs
    simp only [pP,Nat.zero_add,Int.toNat_natCast]
    rw [if_pos (by omega),if_pos (by rw [List.length_map]; omega),if_pos (by simp; omega),if_pos (by simp; omega),if_pos (by simp; omega)]
    simp [List.map_take,List.map_drop,mk]
def vc (l:List aD) (n:Nat):Prop:=(∀ x ∈ l,vN x.p) ∧ l.length ≤ n
theorem mT {j y:aD}:∀ {l:List aD},y ∈ oy j l ↔ y = j ∨ y ∈ l
  | []=>by simp [oy]
  | x :: l=>by
    unfold oy
    split
    · rename_i h; subst h
      simp
    · split
      · simp
      · rw [List.mem_cons,mT,List.mem_cons]
        constructor
        · rintro (h | h | h)
          · exact .inr (.inl h)
          · exact .inl h
          · exact .inr (.inr h)
        · rintro (h | h | h)
          · exact .inr (.inl h)
          · exact .inl h
          · exact .inr (.inr h)
theorem ua (j:aD):∀ (l:List aD),(oy j l).length ≤ l.length + 1
  | []=>by simp [oy]
  | x :: l=>by
    unfold oy
    split
    · simp
    · split
      · simp
      · have:=ua j l
        simp; omega
def lV (l:List aD) (j:aD):List aD:=oy j l
theorem vc.put {l:List aD} {n:Nat} (h:vc l n) {j:aD} (hj:vN j.p):vc (lV l j) (n + 1) :=
  ⟨fun x hx=>by rcases mT.1 hx with rfl | hx; exact hj; exact h.1 x hx,Nat.le_trans (ua j l) (Nat.succ_le_succ h.2)⟩
theorem vc.puts:∀ {J l:List aD} {n:Nat},vc l n → (∀ j ∈ J,vN j.p) → vc (J.foldl lV l) (n + J.length)
  | [],l,n,h,_=>h
  | j :: J,l,n,h,hJ=>by
    have:=vc.puts (h.put (hJ j List.mem_cons_self)) (fun x hx=>hJ x (List.mem_cons_of_mem _ hx))
    rw [List.foldl_cons,List.length_cons]
    have e:n + (J.length + 1) = n + 1 + J.length:=by omega
    rw [e]
    exact this
theorem vc.up {l:List aD} {n m:Nat} (h:vc l n) (hm:n ≤ m):vc l m:=⟨h.1,Nat.le_trans h.2 hm⟩
theorem mf {lag:Int → Int} {hr:Int} {c:List Pr} (hc:jL c) (h ab:Int):(∀ j ∈ iC lag hr c h ab,vN j.p) ∧ (iC lag hr c h ab).length ≤ 1:=by
  unfold iC
  cases ht:iO lag hr c h with
  | none=>simp
  | some t =>
    have hrt:=(jC hc ht).2.2.2.2.2
    simp only []
    split
    · refine ⟨fun j hj=>?_,by simp⟩
      rw [List.mem_singleton] at hj
      subst hj
      exact .inl hrt
    · simp
theorem tc {lag:Int → Int} {hr fl cold:Int} {c:List Pr} (hc:jL c) (hs:List Int) {e:En} (he:mJ e.Part):(∀ j ∈ mz lag hr fl cold c hs e,vN j.p) ∧ (mz lag hr fl cold c hs e).length ≤ 2:=by
  obtain ⟨b1,b2⟩:=mf (lag:=lag) (hr:=hr) hc (fR e.Part) e.Part.Tier
  unfold mz
  split
  · refine ⟨fun j hj=>?_,by simp⟩
    rw [List.mem_singleton] at hj
    subst hj
    exact .inl he
  · split
    · refine ⟨fun j hj=>?_,by simp; omega⟩
      rcases List.mem_append.1 hj with hj | hj
      · exact b1 j hj
      · rw [List.mem_singleton] at hj
        subst hj
        exact .inl he
    · refine ⟨fun j hj=>?_,by simp; omega⟩
      rw [List.append_nil] at hj
      exact b1 j hj
section
variable {K:Nat} {a0 a1 a2 a3 a4 a5 a6 a7 a8 hr fl:Int} {sw:Bool} {l0:List En} {lh:List Int}
theorem zL (hK:200000 ≤ K) (cv:List En) {e:En} (he:mJ e.Part):fH K cv lh a0 a1 a2 a3 a4 a5 a6 a7 a8 hr fl sw e.Part.Tier e.Part.Index e.Seg e.Mark e.Rows e.Cold = some (decide (jK e.Part ≤ fl)):=by
  unfold fH
  rw [gM hK he]
  rfl
theorem ym (hK:200000 ≤ K) (ok:tw l0 lh a0 a1 a2 a3 a4 a5 a6 a7 a8 hr fl) {c:List Pr} (hc:jL c) {l:List aD} (hl:vc l 1000) (h ab:Int) :
    ((dh K (c.map (·.v)) lh a0 a1 a2 a3 a4 a5 a6 a7 a8 hr fl sw h).bind fun x=>(if x.2.2 = true then (if ab < x.1 then ((cr K (l.map mk) 2 x.1 x.2.1).bind fun x327=>(some (x327))) else (some (l.map mk))) else (some (l.map mk)))) = some (((iC (gx a0 a1 a2 a3 a4 a5 a6 a7 a8) hr c h ab).foldl lV l).map mk):=by
  rw [ob hK ok hc]
  simp only [Option.bind_some]
  unfold iC
  cases ht:iO (gx a0 a1 a2 a3 a4 a5 a6 a7 a8) hr c h with
  | none=>rfl
  | some t =>
    have hrt:=(jC hc ht).2.2.2.2.2
    have et:xc (some t) = (t.Tier,t.Index,true):=rfl
    rw [et]
    simp only [if_true]
    by_cases q:ab < t.Tier
    · rw [if_pos q,if_pos q,mj hK hl.1 hl.2 (j:=⟨2,t⟩) (.inl hrt)]
      rfl
    · rw [if_neg q,if_neg q]
      rfl
theorem wi (hK:200000 ≤ K) (ok:tw l0 lh a0 a1 a2 a3 a4 a5 a6 a7 a8 hr fl) {c:List Pr} (hc:jL c) (hcl:c.length ≤ 40):∀ (f i:Nat) (l:List aD),i ≤ c.length → c.length - i < f → vc l (2 * i) →
    dC K (c.map (·.v)) lh a0 a1 a2 a3 a4 a5 a6 a7 a8 hr fl sw f i (l.map mk) = some ((((c.drop i).flatMap fun x=>mz (gx a0 a1 a2 a3 a4 a5 a6 a7 a8) hr fl a4 c (fS fl lh) x.v).foldl lV l).map mk)
  | 0,i,l,h0,h1,h2=>by omega
  | f + 1,i,l,h0,h1,h2=>by
    obtain ⟨_,_,_,_,c4,_⟩:=uJ ok.rules
    have g0:=ok.h0
    have g1:=ok.h1
    have gl:=ok.l1
    rw [dC]
    by_cases h:i < c.length
    · have hp:(i:Int) < ((c.map (·.v)).length:Int):=by rw [List.length_map]; omega
      have em:(c.map (·.v)).getD (i:Int).toNat aI = c[i].v:=by rw [Int.toNat_natCast,qh h,kV c _ h zP]
      rw [if_pos hp,if_pos (by omega),xZ (by omega),em]
      have he:=hc.rt c[i] (List.getElem_mem h)
      rw [List.drop_eq_getElem_cons h,List.flatMap_cons,List.foldl_append]
      generalize c[i].v = e at he ⊢
      have hsp:=lL he
      have es:bo K e.Part.Tier e.Part.Index = some (fR e.Part,jK e.Part):=gM hK he
      rw [es,zL hK _ he]
      simp only [Option.bind_some]
      have hj:=tc (lag:=(gx a0 a1 a2 a3 a4 a5 a6 a7 a8)) (hr:=hr) (fl:=fl) (cold:=a4) hc (fS fl lh) he
      have hgo:∀ m:List aD,m = (mz (gx a0 a1 a2 a3 a4 a5 a6 a7 a8) hr fl a4 c (fS fl lh) e).foldl lV l → dC K (c.map (·.v)) lh a0 a1 a2 a3 a4 a5 a6 a7 a8 hr fl sw f ((i + 1:Nat):Int) (m.map mk) = some ((((c.drop (i + 1)).flatMap fun x=>mz (gx a0 a1 a2 a3 a4 a5 a6 a7 a8) hr fl a4 c (fS fl lh) x.v).foldl lV ((mz (gx a0 a1 a2 a3 a4 a5 a6 a7 a8) hr fl a4 c (fS fl lh) e).foldl lV l)).map mk):=by
        rintro m rfl
        exact wi hK ok hc hcl f (i + 1) _ (by omega) (by omega) ((h2.puts hj.1).up (by omega))
      by_cases q:jK e.Part ≤ fl
      · have e1:decide (jK e.Part ≤ fl) = true:=decide_eq_true q
        rw [e1,if_pos Z,mj hK h2.1 (by have:=h2.2; omega) (j:=⟨1,e.Part⟩) (.inl he)]
        simp only [Option.bind_some]
        exact hgo _ (by unfold mz; rw [if_pos q]; rfl)
      · have e1:decide (jK e.Part ≤ fl) = false:=decide_eq_false q
        rw [e1,if_neg (by decide),ym hK ok hc (h2.up (by omega))]
        have hb:=mf (lag:=(gx a0 a1 a2 a3 a4 a5 a6 a7 a8)) (hr:=hr) hc (fR e.Part) e.Part.Tier
        have hB:=h2.puts hb.1
        simp only [Option.bind_some]
        have ej:∀ r,r = (if e.Part.Tier = 3 ∧ e.Cold = false ∧ jK e.Part + a4 ≤ hr ∧ (fS fl lh).any (uE (fR e.Part) (jK e.Part)) = false then [⟨3,e.Part⟩] else []) → r.foldl lV ((iC (gx a0 a1 a2 a3 a4 a5 a6 a7 a8) hr c (fR e.Part) e.Part.Tier).foldl lV l) = (mz (gx a0 a1 a2 a3 a4 a5 a6 a7 a8) hr fl a4 c (fS fl lh) e).foldl lV l:=by
          rintro r rfl
          unfold mz
          rw [if_neg q,List.foldl_append]
        generalize (iC (gx a0 a1 a2 a3 a4 a5 a6 a7 a8) hr c (fR e.Part) e.Part.Tier).foldl lV l = m' at hB ej ⊢
        have ew:aQ (jK e.Part + a4) = jK e.Part + a4:=br (by omega)
        rw [ew]
        by_cases q1:e.Part.Tier = 3
        · rw [if_pos q1]
          by_cases q2:e.Cold = false
          · rw [if_pos (by rw [q2]; rfl)]
            by_cases q3:jK e.Part + a4 ≤ hr
            · rw [if_pos q3,vB hK _ he (by omega)]
              simp only [Option.bind_some]
              by_cases q4:(fS fl lh).any (uE (fR e.Part) (jK e.Part)) = false
              · rw [if_pos (by rw [q4]; rfl),mj hK hB.1 (by have:=hB.2; omega) (j:=⟨3,e.Part⟩) (.inl he)]
                simp only [Option.bind_some]
                exact hgo _ (ej [⟨3,e.Part⟩] (by rw [if_pos ⟨q1,q2,q3,q4⟩]))
              · rw [if_neg (by simpa using q4)]
                exact hgo _ (ej [] (by rw [if_neg fun x=>q4 x.2.2.2]))
            · rw [if_neg q3]
              exact hgo _ (ej [] (by rw [if_neg fun x=>q3 x.2.2.1]))
          · rw [if_neg (by simpa using q2)]
            exact hgo _ (ej [] (by rw [if_neg fun x=>q2 x.2.1]))
        · rw [if_neg q1]
          exact hgo _ (ej [] (by rw [if_neg fun x=>q1 x.1]))
    · have hn:¬ (i:Int) < ((c.map (·.v)).length:Int):=by rw [List.length_map]; omega
      rw [if_neg hn,List.drop_eq_nil_of_le (by omega)]
      rfl
theorem qg (hK:200000 ≤ K) (ok:tw l0 lh a0 a1 a2 a3 a4 a5 a6 a7 a8 hr fl) {c:List Pr} (hc:jL c):∀ (f i:Nat) (l:List aD),i ≤ lh.length → lh.length - i < f → vc l (100 + i) →
    cV K (c.map (·.v)) lh a0 a1 a2 a3 a4 a5 a6 a7 a8 hr fl sw f i (l.map mk) = some ((((fS fl (lh.drop i)).flatMap fun h=>iC (gx a0 a1 a2 a3 a4 a5 a6 a7 a8) hr c h 0).foldl lV l).map mk)
  | 0,i,l,h0,h1,h2=>by omega
  | f + 1,i,l,h0,h1,h2=>by
    have gl:=ok.l1
    rw [cV]
    by_cases h:i < lh.length
    · have em:lh.getD (i:Int).toNat 0 = lh[i]:=by rw [Int.toNat_natCast,kV lh _ h 0]
      rw [if_pos (by omega),if_pos (by omega),xZ (by omega),em,ob hK ok hc,List.drop_eq_getElem_cons h]
      simp only [Option.bind_some]
      generalize lh[i] = x
      have hb:=mf (lag:=(gx a0 a1 a2 a3 a4 a5 a6 a7 a8)) (hr:=hr) hc x 0
      have hH:fS fl (x :: lh.drop (i + 1)) = (if fl ≤ x then [x] else []) ++ fS fl (lh.drop (i + 1)):=by
        unfold fS
        rw [List.filter_cons]
        by_cases q:fl ≤ x
        · have e1:kx fl x = false:=by simp [kx]; omega
          rw [e1,if_pos q]; rfl
        · have e1:kx fl x = true:=by simp [kx]; omega
          rw [e1,if_neg q]; rfl
      rw [hH,List.flatMap_append,List.foldl_append]
      cases ht:iO (gx a0 a1 a2 a3 a4 a5 a6 a7 a8) hr c x with
      | none =>
        have e1:∀ q:List Int,(q = [x] ∨ q = []) → (q.flatMap fun h=>iC (gx a0 a1 a2 a3 a4 a5 a6 a7 a8) hr c h 0) = []:=by
          rintro _ (rfl | rfl)
          · simp [iC,ht]
          · rfl
        have e2:xc none = (0,0,false):=rfl
        rw [e2,if_neg (by decide),e1 _ (by split; exact .inl Z; exact .inr Z)]
        exact qg hK ok hc f (i + 1) l (by omega) (by omega) (h2.up (by omega))
      | some t =>
        obtain ⟨_,_,_,t1,_,hrt⟩:=jC hc ht
        have e2:xc (some t) = (t.Tier,t.Index,true):=rfl
        have e3:iC (gx a0 a1 a2 a3 a4 a5 a6 a7 a8) hr c x 0 = [⟨2,t⟩]:=by
          unfold iC
          rw [ht]
          simp only []
          rw [if_pos (by rcases t1 with t1 | t1 | t1 <;> omega)]
        rw [e2,if_pos Z]
        by_cases q:fl ≤ x
        · rw [if_pos q,if_pos q,mj hK h2.1 (by have:=h2.2; omega) (j:=⟨2,t⟩) (.inl hrt)]
          simp only [Option.bind_some,List.flatMap_cons,List.flatMap_nil,List.append_nil,e3,List.foldl_cons,List.foldl_nil]
          exact qg hK ok hc f (i + 1) _ (by omega) (by omega) (h2.put (.inl hrt))
        · rw [if_neg q,if_neg q]
          simp only [List.flatMap_nil,List.foldl_nil]
          exact qg hK ok hc f (i + 1) l (by omega) (by omega) (h2.up (by omega))
    · rw [if_neg (by omega),List.drop_eq_nil_of_le (by omega)]
      rfl
theorem qm {α:Type} {f:α → List aD} {l:List α} {n:Nat} (h:∀ x ∈ l,(∀ j ∈ f x,vN j.p) ∧ (f x).length ≤ n):(∀ j ∈ l.flatMap f,vN j.p) ∧ (l.flatMap f).length ≤ n * l.length:=by
  induction l with
  | nil=>simp
  | cons x l ih =>
    obtain ⟨i1,i2⟩:=ih fun y hy=>h y (List.mem_cons_of_mem _ hy)
    obtain ⟨j1,j2⟩:=h x List.mem_cons_self
    rw [List.flatMap_cons]
    refine ⟨fun j hj=>?_,?_⟩
    · rcases List.mem_append.1 hj with hj | hj
      · exact j1 j hj
      · exact i1 j hj
    · rw [List.length_append,List.length_cons,Nat.mul_succ]; omega
theorem wl (ok:tw l0 lh a0 a1 a2 a3 a4 a5 a6 a7 a8 hr fl) {c:List Pr} (hc:jL c) (hcl:c.length ≤ 40):(∀ j ∈ qS (gx a0 a1 a2 a3 a4 a5 a6 a7 a8) hr fl a4 c (fS fl lh) sw,vN j.p) ∧ (qS (gx a0 a1 a2 a3 a4 a5 a6 a7 a8) hr fl a4 c (fS fl lh) sw).length ≤ 121:=by
  have gl:=ok.l1
  have hl:=nI fl lh
  obtain ⟨x1,x2⟩:=qm (f:=fun x:Pr=>mz (gx a0 a1 a2 a3 a4 a5 a6 a7 a8) hr fl a4 c (fS fl lh) x.v) (l:=c) (n:=2) fun x hx=>tc hc _ (hc.rt x hx)
  obtain ⟨y1,y2⟩:=qm (f:=fun h:Int=>iC (gx a0 a1 a2 a3 a4 a5 a6 a7 a8) hr c h 0) (l:=fS fl lh) (n:=1) fun x _=>mf hc x 0
  unfold qS
  refine ⟨fun j hj=>?_,?_⟩
  · rcases List.mem_append.1 hj with hj | hj
    · rcases List.mem_append.1 hj with hj | hj
      · exact x1 j hj
      · exact y1 j hj
    · split at hj
      · rw [List.mem_singleton] at hj; subst hj; exact .inr rfl
      · cases hj
  · rw [List.length_append,List.length_append]
    split
    · simp only [List.length_cons,List.length_nil]; omega
    · simp only [List.length_nil]; omega
theorem oz (hK:200000 ≤ K) (ok:tw l0 lh a0 a1 a2 a3 a4 a5 a6 a7 a8 hr fl) {c:List Pr} (hc:jL c) (hcl:c.length ≤ 40):cM K (c.map (·.v)) lh a0 a1 a2 a3 a4 a5 a6 a7 a8 hr fl sw = some (((qS (gx a0 a1 a2 a3 a4 a5 a6 a7 a8) hr fl a4 c (fS fl lh) sw).foldl lV []).map mk):=by
  have gl:=ok.l1
  have hl:=nI fl lh
  obtain ⟨x1,x2⟩:=qm (f:=fun x:Pr=>mz (gx a0 a1 a2 a3 a4 a5 a6 a7 a8) hr fl a4 c (fS fl lh) x.v) (l:=c) (n:=2) fun x hx=>tc hc _ (hc.rt x hx)
  obtain ⟨y1,y2⟩:=qm (f:=fun h:Int=>iC (gx a0 a1 a2 a3 a4 a5 a6 a7 a8) hr c h 0) (l:=fS fl lh) (n:=1) fun x _=>mf hc x 0
  have h1:=wi (sw:=sw) hK ok hc hcl K 0 [] (by omega) (by omega) ⟨by simp,by simp⟩
  have e0:((0:Nat):Int) = 0:=rfl
  have k0:vc [] 0:=⟨by simp,by simp⟩
  have k1:=k0.puts x1
  rw [e0,List.drop_zero] at h1
  have h2:=qg (sw:=sw) hK ok hc K 0 _ (by omega) (by omega) (k1.up (by omega))
  rw [e0,List.drop_zero] at h2
  have k2:=k1.puts y1
  unfold cM
  simp only [List.map_nil] at h1
  rw [h1]
  simp only [Option.bind_some]
  rw [h2]
  simp only [Option.bind_some]
  unfold qS
  rw [List.foldl_append,List.foldl_append]
  cases sw with
  | true =>
    rw [if_pos Z,if_pos Z,mj hK k2.1 (by have:=k2.2; omega) (j:=⟨4,⟨0,0⟩⟩) (.inr Z)]
    rfl
  | false=>rfl
end
end Go.Proofs.YtnjfjmbanmaciaaGreat.DueNeeds
end
section
set_option linter.unusedVariables false
set_option linter.unusedSimpArgs false
set_option maxRecDepth 20000
namespace Go.Proofs.YtnjfjmbanmaciaaGreat.DueNeeds
open Go E
def yH (x y:aD):Prop:=x.kind < y.kind ∨ x.kind = y.kind ∧ fR x.p < fR y.p
def BK (J:List aD):Prop:=∀ x ∈ J,∀ y ∈ J,x.kind = y.kind → fR x.p = fR y.p → x = y
theorem ug {j:aD}:∀ {l:List aD},l.Pairwise yH → (∀ x ∈ l,x.kind = j.kind → fR x.p = fR j.p → x = j) → (oy j l).Pairwise yH
  | [],_,_=>by simp [oy]
  | x :: l,hs,hi=>by
    rw [List.pairwise_cons] at hs
    obtain ⟨h1,h2⟩:=hs
    unfold oy
    split
    · exact List.pairwise_cons.2 ⟨h1,h2⟩
    · rename_i hx
      split
      · rename_i hb
        refine List.pairwise_cons.2 ⟨fun y hy=>?_,List.pairwise_cons.2 ⟨h1,h2⟩⟩
        have hjx:yH j x:=by
          rcases hb with hb | ⟨hb,hc⟩
          · exact .inl hb
          · exact .inr ⟨hb.symm,hc⟩
        rcases List.mem_cons.1 hy with rfl | hy
        · exact hjx
        · have:=h1 y hy
          unfold yH at *
          omega
      · rename_i hb
        refine List.pairwise_cons.2 ⟨fun y hy=>?_,ug h2 fun y hy=>hi y (List.mem_cons_of_mem _ hy)⟩
        rcases mT.1 hy with rfl | hy
        · have hne:=fun a b=>hx (hi x List.mem_cons_self a b)
          unfold yH
          have:¬ (x.kind = y.kind ∧ fR x.p = fR y.p):=fun q=>hne q.1 q.2
          omega
        · exact h1 y hy
theorem qx:∀ {J l:List aD} {y:aD},y ∈ J.foldl lV l ↔ y ∈ l ∨ y ∈ J
  | [],l,y=>by simp
  | j :: J,l,y=>by
    rw [List.foldl_cons,qx,List.mem_cons]
    unfold lV
    rw [mT]
    constructor
    · rintro ((h | h) | h)
      · exact .inr (.inl h)
      · exact .inl h
      · exact .inr (.inr h)
    · rintro (h | h | h)
      · exact .inl (.inr h)
      · exact .inl (.inl h)
      · exact .inr h
theorem tX {J0:List aD} (hi:BK J0):∀ {J l:List aD},(∀ x ∈ J,x ∈ J0) → (∀ x ∈ l,x ∈ J0) → l.Pairwise yH → (J.foldl lV l).Pairwise yH
  | [],l,_,_,hs=>hs
  | j :: J,l,hJ,hl,hs=>by
    rw [List.foldl_cons]
    have hj:=hJ j List.mem_cons_self
    refine tX hi (fun x hx=>hJ x (List.mem_cons_of_mem _ hx)) (fun x hx=>?_) (ug hs fun x hx=>hi x (hl x hx) j hj)
    rcases mT.1 hx with rfl | hx
    · exact hj
    · exact hl x hx
theorem xM {l:List aD} (h:l.Pairwise yH):l.Nodup:=h.imp fun {a b} q e=>by
  subst e
  unfold yH at q
  omega
theorem po (m:List (aD × Int)) (k:aD) (v:Int):(lg m k v).map (·.1) = if k ∈ m.map (·.1) then m.map (·.1) else m.map (·.1) ++ [k]:=by
  induction m with
  | nil=>simp [lg]
  | cons p m ih =>
    unfold lg
    by_cases h:k = p.1
    · rw [if_pos h]
      simp [h]
    · rw [if_neg h,List.map_cons,ih]
      by_cases h2:k ∈ m.map (·.1)
      · rw [if_pos h2,if_pos (by rw [List.map_cons]; exact List.mem_cons_of_mem _ h2),List.map_cons]
      · rw [if_neg h2,if_neg (by rw [List.map_cons,List.mem_cons]; exact fun q=>q.elim h h2),List.map_cons,List.cons_append]
theorem yj {m:List (aD × Int)} {k:aD} (h:∀ p ∈ m,p.2 = fR p.1.p):∀ p ∈ lg m k (fR k.p),p.2 = fR p.1.p:=by
  induction m with
  | nil =>
    intro p hp
    rw [lg,List.mem_singleton] at hp
    subst hp; rfl
  | cons q m ih =>
    intro p hp
    unfold lg at hp
    split at hp
    · rcases List.mem_cons.1 hp with rfl | hp
      · rfl
      · exact h p (List.mem_cons_of_mem _ hp)
    · rcases List.mem_cons.1 hp with rfl | hp
      · exact h _ List.mem_cons_self
      · exact ih (fun x hx=>h x (List.mem_cons_of_mem _ hx)) p hp
theorem uk {m:List (aD × Int)} {k:aD}:(km m k).isSome = true ↔ k ∈ m.map (·.1):=by
  induction m with
  | nil=>simp [km]
  | cons p m ih =>
    unfold km
    by_cases h:k = p.1
    · rw [if_pos h]; simp [h]
    · rw [if_neg h,ih,List.map_cons,List.mem_cons]
      exact ⟨.inr,fun q=>q.elim (fun x=>absurd x h) id⟩
theorem yU {m:List (aD × Int)} {k:aD} {v:Int} (hm:km m k = some v):(k,v) ∈ m:=by
  induction m with
  | nil=>cases hm
  | cons p m ih =>
    unfold km at hm
    split at hm
    · rename_i h
      cases hm
      subst h
      exact List.mem_cons_self
    · exact List.mem_cons_of_mem _ (ih hm)
structure vD (m:List (aD × Int)):Prop where
  nd:(m.map (·.1)).Nodup
  val:∀ p ∈ m,p.2 = fR p.1.p
theorem vD.put {m:List (aD × Int)} (h:vD m) (j:aD):vD (kz m j):=by
  refine ⟨?_,yj h.val⟩
  unfold kz
  rw [po]
  split
  · exact h.nd
  · rename_i hn
    refine List.nodup_append.2 ⟨h.nd,by simp,fun a ha b hb=>?_⟩
    rw [List.mem_singleton] at hb
    subst hb
    exact fun e=>hn (e ▸ ha)
theorem pM:∀ {J:List aD} {m:List (aD × Int)},vD m → vD (J.foldl kz m)
  | [],m,h=>h
  | j :: J,m,h=>by rw [List.foldl_cons]; exact pM (h.put j)
theorem nM:∀ {J:List aD} {m:List (aD × Int)} {y:aD},y ∈ (J.foldl kz m).map (·.1) ↔ y ∈ m.map (·.1) ∨ y ∈ J
  | [],m,y=>by simp
  | j :: J,m,y=>by
    rw [List.foldl_cons,nM]
    unfold kz
    rw [po,List.mem_cons]
    by_cases h:j ∈ m.map (·.1)
    · rw [if_pos h]
      exact ⟨fun q=>q.imp id .inr,fun q=>by rcases q with q | rfl | q; exact .inl q; exact .inl h; exact .inr q⟩
    · rw [if_neg h,List.mem_append,List.mem_singleton,or_assoc]
theorem qP:∀ {J:List aD} {m:List (aD × Int)},(J.foldl kz m).length ≤ m.length + J.length
  | [],m=>by simp
  | j :: J,m=>by
    rw [List.foldl_cons]
    have h1:=qP (J:=J) (m:=kz m j)
    have h2:(kz m j).length ≤ m.length + 1:=by
      have:=congrArg List.length (po m j (fR j.p))
      rw [List.length_map] at this
      unfold kz
      rw [this]
      split <;> simp
    rw [List.length_cons]
    omega
theorem qj {m:List (aD × Int)} (h:vD m) {j:aD} (hj:j ∈ m.map (·.1)):kc m j = fR j.p:=by
  unfold kc
  have hs:=uk.2 hj
  obtain ⟨v,hv⟩:=Option.isSome_iff_exists.1 hs
  rw [hv]
  exact h.val _ (yU hv)
theorem Ag (m:List (aD × Int)) (x y:aD):cj m x y = 0 ↔ x.kind = y.kind ∧ kc m x = kc m y:=by
  unfold cj AX
  have h1:=yp x.kind y.kind
  have h2:=yp (kc m x) (kc m y)
  by_cases h:ci x.kind y.kind = 0
  · rw [if_pos h,h2]; simp [h1.1 h]
  · rw [if_neg h]
    exact ⟨fun q=>absurd q h,fun q=>absurd (h1.2 q.1) h⟩
theorem tG {K:Nat} (hK:200000 ≤ K) {J:List aD} (hi:BK J) (hlen:J.length ≤ 1000):ck K (J.foldl kz []) = some (J.foldl lV []):=by
  have hg:vD (J.foldl kz []):=pM ⟨by simp,by simp⟩
  have hl:=qP (J:=J) (m:=[])
  have hm:∀ {y},y ∈ (J.foldl kz []).map (·.1) ↔ y ∈ J:=fun {y}=>by rw [nM]; simp
  unfold ck
  rw [if_pos ⟨by omega,by simp only [List.length_nil] at hl; omega⟩,zp (by omega)]
  have hp:((J.foldl kz []).map (·.1)).Pairwise (fun x y=>¬ (cj (J.foldl kz []) x y = 0)):=by
    rw [List.pairwise_iff_getElem]
    intro i j h1 h2 h3 h4
    rw [Ag] at h4
    have g1:=List.getElem_mem h1
    have g2:=List.getElem_mem h2
    rw [qj hg g1,qj hg g2] at h4
    have:=hi _ (hm.1 g1) _ (hm.1 g2) h4.1 h4.2
    have:=(List.getElem_inj (h₀:=h1) (h₁:=h2) hg.nd).1 this
    omega
  have hs:rM (cj (J.foldl kz [])) ((J.foldl kz []).map (·.1)) = some (((J.foldl kz []).map (·.1)).mergeSort fun x y=>!(ltOf (cj (J.foldl kz []))) y x):=by
    unfold rM
    rw [if_pos hp]
  have h1:(J.foldl lV []).Pairwise yH:=tX hi (fun _ h=>h) (by simp) List.Pairwise.nil
  have h2:(J.foldl lV []).Perm ((J.foldl kz []).map (·.1)):=(List.perm_ext_iff_of_nodup (xM h1) hg.nd).2 fun y=>by rw [hm,qx]; simp
  have h3:(J.foldl lV []).Pairwise (fun x y=>ltOf (cj (J.foldl kz [])) y x = false):=by
    refine List.Pairwise.imp_of_mem ?_ h1
    intro x y hx hy q
    rw [Bool.eq_false_iff]
    intro e
    rw [sX,qj hg (h2.mem_iff.1 hx),qj hg (h2.mem_iff.1 hy)] at e
    unfold yH at q
    omega
  rw [hs,oK (yv _) hs (List.Perm.refl _) h2 h3]
theorem yM {K:Nat} {r:List aD} (hr:r.length ≤ 1000):∀ (f i:Nat) (l:List aU),i ≤ r.length → r.length - i < f → l.length = i → gF K r f i l = some (l ++ (r.drop i).map mk)
  | 0,i,l,h0,h1,h2=>by omega
  | f + 1,i,l,h0,h1,h2=>by
    rw [gF]
    by_cases h:i < r.length
    · have em:r.getD (i:Int).toNat bj = r[i]:=by rw [Int.toNat_natCast,kV r _ h]
      rw [if_pos (by omega),if_pos (by omega),xZ (by omega),em,if_pos (by simp; omega),yM hr f (i + 1) _ (by omega) (by omega) (by simp; omega),List.drop_eq_getElem_cons h,List.map_cons,List.append_assoc]
      rfl
    · rw [if_neg (by omega),List.drop_eq_nil_of_le (by omega),List.map_nil,List.append_nil]
section
variable {lag:Int → Int} {hr:Int} {c:List Pr}
theorem AB (hc:jL c) {h1 h2:Int} {t1 t2:aq} (e1:iO lag hr c h1 = some t1) (e2:iO lag hr c h2 = some t2) (hlo:fR t2 ≤ h1) (hhi:h1 < jK t2):t2.Tier ≤ t1.Tier:=by
  obtain ⟨m1,b1,d1,_,g1,r1⟩:=jC hc e1
  obtain ⟨m2,b2,d2,k2,g2,r2⟩:=jC hc e2
  obtain ⟨_,p2,p3,_⟩:=mg hc b1
  obtain ⟨_,_,_,q4⟩:=mg hc b2
  have eq1:t2 = qb t2.Tier h1:=qk r2 m1 hlo hhi
  rcases q4 with q4 | q4
  · have i2:=zb k2 m2
    have et:qb t2.Tier h2 = t2:=by rw [g2]; exact d2.symm
    rw [et] at i2
    have hne:li c h2 ≠ 0:=by rw [← q4,← g2]; rcases k2 with k2 | k2 | k2 <;> omega
    have:∃ e,me c h2 = some e ∧ e.Part.Tier = t2.Tier:=by
      unfold li at q4 hne
      cases he:me c h2 with
      | none=>rw [he] at hne; exact absurd Z hne
      | some e=>rw [he] at q4; exact ⟨e,rfl,by rw [g2,q4]⟩
    obtain ⟨e,he,het⟩:=this
    obtain ⟨x,hx,rfl,hcx⟩:=zt he
    have hxk:=hc.key x hx
    have hcx':fR x.v.Part ≤ h2 ∧ h2 < jK x.v.Part:=by
      unfold nt kk hh at hcx
      rw [hxk] at hcx
      simpa using hcx
    have ex:x.v.Part = t2:=by
      have:=qk (hc.rt x hx) m2 hcx'.1 hcx'.2
      rw [this,het,et]
    have hc1:nt kk hh h1 x = true:=by
      unfold nt kk hh
      rw [hxk,ex]
      simp [hlo,hhi]
    have ha:me c h1 = some x.v:=by unfold me; rw [zx hc hx hc1]; rfl
    have:li c h1 = t2.Tier:=by unfold li; rw [ha]; exact het
    omega
  · obtain ⟨_,_,dd⟩:=kI lag hr h2 b2
    have et:qb (jI lag hr h2) h2 = t2:=by rw [← q4]; exact d2.symm
    have et1:qb (jI lag hr h2) h1 = t2:=by rw [← q4,← g2]; exact eq1.symm
    have d3:lD lag hr (jI lag hr h2) h1:=by
      unfold lD at *
      rw [et1]
      rw [et] at dd
      exact dd
    have:=vi m1 (kI lag hr h2 b2).2.1 d3
    omega
theorem ud (hc:jL c) {h1 h2:Int} {t1 t2:aq} (e1:iO lag hr c h1 = some t1) (e2:iO lag hr c h2 = some t2) (hm:fR t1 < jK t2 ∧ fR t2 < jK t1):t1 = t2:=by
  obtain ⟨m1,b1,d1,k1,g1,r1⟩:=jC hc e1
  obtain ⟨m2,b2,d2,k2,g2,r2⟩:=jC hc e2
  have i1:=zb k1 m1
  have i2:=zb k2 m2
  have s1:qb t1.Tier h1 = t1:=by rw [g1]; exact d1.symm
  have s2:qb t2.Tier h2 = t2:=by rw [g2]; exact d2.symm
  rw [s1] at i1
  rw [s2] at i2
  have l1:=lL r1
  have l2:=lL r2
  obtain ⟨h,hh,j1,j2,j3,j4⟩:∃ h,rz h ∧ fR t1 ≤ h ∧ h < jK t1 ∧ fR t2 ≤ h ∧ h < jK t2:=by
    by_cases q:fR t1 ≤ fR t2
    · exact ⟨fR t2,⟨by omega,by have:=m2.2; omega⟩,q,hm.2,Int.le_refl _,l2.2.1⟩
    · exact ⟨fR t1,⟨by omega,by have:=m1.2; omega⟩,Int.le_refl _,l1.2.1,by omega,hm.1⟩
  have u1:=qk r1 hh j1 j2
  have u2:=qk r2 hh j3 j4
  have key:t1.Tier = t2.Tier:=by
    by_cases q:t1.Tier ≤ t2.Tier
    · have n:=vH k1 k2 q hh
      rw [← u1,← u2] at n
      have:=AB hc e1 e2 (by omega) (by omega)
      omega
    · have n:=vH k2 k1 (by omega) hh
      rw [← u1,← u2] at n
      have:=AB hc e2 e1 (by omega) (by omega)
      omega
  rw [u1,u2,key]
theorem rq (hc:jL c) {h ab:Int} {d:aD} (hd:d ∈ iC lag hr c h ab):d.kind = 2 ∧ iO lag hr c h = some d.p:=by
  unfold iC at hd
  split at hd
  · cases hd
  · rename_i t ht
    split at hd
    · rw [List.mem_singleton] at hd
      subst hd
      exact ⟨rfl,ht⟩
    · cases hd
theorem mZ (hc:jL c) {fl cold:Int} {hs:List Int} {sw:Bool} {d:aD} (hd:d ∈ qS lag hr fl cold c hs sw):(d.kind = 1 ∧ ∃ x ∈ c,d.p = x.v.Part) ∨ (d.kind = 2 ∧ ∃ h,iO lag hr c h = some d.p) ∨ (d.kind = 3 ∧ ∃ x ∈ c,d.p = x.v.Part) ∨ d = ⟨4,⟨0,0⟩⟩:=by
  unfold qS at hd
  rcases List.mem_append.1 hd with hd | hd
  · rcases List.mem_append.1 hd with hd | hd
    · obtain ⟨x,hx,hd⟩:=List.mem_flatMap.1 hd
      unfold mz at hd
      split at hd
      · rw [List.mem_singleton] at hd
        subst hd
        exact .inl ⟨rfl,x,hx,rfl⟩
      · rcases List.mem_append.1 hd with hd | hd
        · obtain ⟨q1,q2⟩:=rq hc hd
          exact .inr (.inl ⟨q1,_,q2⟩)
        · split at hd
          · rw [List.mem_singleton] at hd
            subst hd
            exact .inr (.inr (.inl ⟨rfl,x,hx,rfl⟩))
          · cases hd
    · obtain ⟨h,_,hd⟩:=List.mem_flatMap.1 hd
      obtain ⟨q1,q2⟩:=rq hc hd
      exact .inr (.inl ⟨q1,_,q2⟩)
  · split at hd
    · rw [List.mem_singleton] at hd
      exact .inr (.inr (.inr hd))
    · cases hd
theorem tT (hc:jL c) {x y:Pr} (hx:x ∈ c) (hy:y ∈ c) (h:fR x.v.Part = fR y.v.Part):x = y:=An hc hx hy (by rw [hc.key x hx,hc.key y hy,h])
theorem yJ (hc:jL c) {fl cold:Int} {hs:List Int} {sw:Bool}:BK (qS lag hr fl cold c hs sw):=by
  intro a ha b hb hk hl
  have e:a.p = b.p → a = b:=fun hp=>by
    obtain ⟨k,p⟩:=a
    obtain ⟨k2,p2⟩:=b
    simp only at hk hp
    rw [hk,hp]
  rcases mZ hc ha with ⟨q1,x,hx,q2⟩ | ⟨q1,h,q2⟩ | ⟨q1,x,hx,q2⟩ | q1
  · rcases mZ hc hb with ⟨w1,y,hy,w2⟩ | ⟨w1,h',w2⟩ | ⟨w1,y,hy,w2⟩ | w1
    · refine e ?_
      rw [q2,w2,tT hc hx hy (by rw [← q2,← w2,hl])]
    · omega
    · omega
    · subst w1; simp only at hk; omega
  · rcases mZ hc hb with ⟨w1,y,hy,w2⟩ | ⟨w1,h',w2⟩ | ⟨w1,y,hy,w2⟩ | w1
    · omega
    · have r1:=lL (jC hc q2).2.2.2.2.2
      have r2:=lL (jC hc w2).2.2.2.2.2
      exact e (ud hc q2 w2 ⟨by omega,by omega⟩)
    · omega
    · subst w1; simp only at hk; omega
  · rcases mZ hc hb with ⟨w1,y,hy,w2⟩ | ⟨w1,h',w2⟩ | ⟨w1,y,hy,w2⟩ | w1
    · omega
    · omega
    · refine e ?_
      rw [q2,w2,tT hc hx hy (by rw [← q2,← w2,hl])]
    · subst w1; simp only at hk; omega
  · rcases mZ hc hb with ⟨w1,y,hy,w2⟩ | ⟨w1,h',w2⟩ | ⟨w1,y,hy,w2⟩ | w1
    · subst q1; simp only at hk; omega
    · subst q1; simp only at hk; omega
    · subst q1; simp only at hk; omega
    · rw [q1,w1]
end
section
variable {K:Nat} {a0 a1 a2 a3 a4 a5 a6 a7 a8 hr fl:Int} {sw:Bool} {l0:List En} {lh:List Int}
abbrev sj (a0 a1 a2 a3 a4 a5 a6 a7 a8 hr fl:Int) (sw:Bool) (c:List Pr) (lh:List Int):List aD:=(qS (gx a0 a1 a2 a3 a4 a5 a6 a7 a8) hr fl a4 c (fS fl lh) sw).foldl lV []
theorem pk (ok:tw l0 lh a0 a1 a2 a3 a4 a5 a6 a7 a8 hr fl) {c:List Pr} (hc:jL c) (hcl:c.length ≤ 40):(sj a0 a1 a2 a3 a4 a5 a6 a7 a8 hr fl sw c lh).length ≤ 121:=by
  obtain ⟨j1,j2⟩:=wl (sw:=sw) ok hc hcl
  have k0:vc [] 0:=⟨by simp,by simp⟩
  exact Nat.le_trans (k0.puts j1).2 (by omega)
theorem wO (hK:200000 ≤ K) (ok:tw l0 lh a0 a1 a2 a3 a4 a5 a6 a7 a8 hr fl) {c:List Pr} (hc:jL c) (hcl:c.length ≤ 40):gO K c lh a0 a1 a2 a3 a4 a5 a6 a7 a8 hr fl sw = some ((sj a0 a1 a2 a3 a4 a5 a6 a7 a8 hr fl sw c lh).map mk):=by
  obtain ⟨j1,j2⟩:=wl (sw:=sw) ok hc hcl
  have hl:=pk (sw:=sw) ok hc hcl
  unfold gO
  rw [pK hK ok hc]
  simp only [Option.bind_some,cY]
  rw [tG hK (yJ hc) (by omega)]
  simp only [Option.bind_some]
  have:=yM (K:=K) (r:=sj a0 a1 a2 a3 a4 a5 a6 a7 a8 hr fl sw c lh) (by omega) K 0 [] (by omega) (by omega) Z
  have e0:((0:Nat):Int) = 0:=rfl
  rw [e0,List.drop_zero,List.nil_append] at this
  exact this
theorem zl (hK:200000 ≤ K) (ok:tw l0 lh a0 a1 a2 a3 a4 a5 a6 a7 a8 hr fl) {c:List Pr} (hc:jL c) (k t i:Int):iN K c lh a0 a1 a2 a3 a4 a5 a6 a7 a8 hr fl sw k t i = some (decide ((⟨k,⟨t,i⟩⟩:aD) ∈ sj a0 a1 a2 a3 a4 a5 a6 a7 a8 hr fl sw c lh)):=by
  unfold iN
  rw [pK hK ok hc]
  simp only [Option.bind_some]
  congr 1
  rw [Bool.eq_iff_iff,uk,nM,decide_eq_true_iff,qx]
  simp
end
end Go.Proofs.YtnjfjmbanmaciaaGreat.DueNeeds
end
section
set_option linter.unusedVariables false
set_option linter.unusedSimpArgs false
set_option maxRecDepth 20000
namespace Go.Proofs.YtnjfjmbanmaciaaGreat.DueNeeds
open Go E
theorem vQ {K:Nat} (l:List aU) (hl:l.length ≤ 1000):∀ (f i:Nat),i ≤ l.length → l.length - i < f → eL K l l f i = some true
  | 0,i,h0,h1=>by omega
  | f + 1,i,h0,h1=>by
    rw [eL]
    by_cases h:i < l.length
    · rw [if_pos (by omega),if_pos (by omega),if_pos (by omega),xZ (by omega),if_neg (by simp)]
      exact vQ l hl f (i + 1) (by omega) (by omega)
    · rw [if_neg (by omega)]
theorem wU {K:Nat} (hK:200000 ≤ K) (l:List aU) (hl:l.length ≤ 1000):en K l l = some true:=by
  unfold en
  rw [if_neg (by simp)]
  exact vQ l hl K 0 (by omega) (by omega)
section
variable {K:Nat} {a0 a1 a2 a3 a4 a5 a6 a7 a8 hr fl:Int} {sw:Bool} {l0:List En} {lh:List Int}
theorem AM {r:List aD} (hr:r.length ≤ 1000) (k t j:Int):∀ (f i:Nat),i ≤ r.length → r.length - i < f → dJ K k t j (r.map mk) f i = some (decide ((⟨k,⟨t,j⟩⟩:aD) ∈ r.drop i))
  | 0,i,h0,h1=>by omega
  | f + 1,i,h0,h1=>by
    rw [dJ]
    by_cases h:i < r.length
    · have hp:(i:Int) < ((r.map mk).length:Int):=by rw [List.length_map]; omega
      have em:(r.map mk).getD (i:Int).toNat ba = mk r[i]:=by rw [Int.toNat_natCast,yk h]
      have e2:(mk r[i]).Kind = r[i].kind:=rfl
      have e3:(mk r[i]).Part = r[i].p:=rfl
      rw [if_pos hp,if_pos (by omega),xZ (by omega),em,e2,e3,List.drop_eq_getElem_cons h,AM hr k t j f (i + 1) (by omega) (by omega)]
      by_cases hx:r[i] = ⟨k,⟨t,j⟩⟩
      · rw [hx]
        simp
      · have hm:(⟨k,⟨t,j⟩⟩:aD) ∈ r[i] :: r.drop (i + 1) ↔ (⟨k,⟨t,j⟩⟩:aD) ∈ r.drop (i + 1):=by
          rw [List.mem_cons]
          exact ⟨fun q=>q.elim (fun e=>absurd e.symm hx) id,.inr⟩
        have hd:decide ((⟨k,⟨t,j⟩⟩:aD) ∈ r[i] :: r.drop (i + 1)) = decide ((⟨k,⟨t,j⟩⟩:aD) ∈ r.drop (i + 1)):=decide_eq_decide.2 hm
        rw [hd]
        by_cases hk:r[i].kind = k
        · rw [if_pos hk]
          have:=vK (x:=r[i]) (j:=⟨k,⟨t,j⟩⟩) hk hx
          rw [if_neg (by rw [this]; decide)]
        · rw [if_neg hk]
    · have hn:¬ (i:Int) < ((r.map mk).length:Int):=by rw [List.length_map]; omega
      rw [if_neg hn,List.drop_eq_nil_of_le (by omega)]
      rfl
theorem tR (hK:200000 ≤ K) (ok:tw l0 lh a0 a1 a2 a3 a4 a5 a6 a7 a8 hr fl) {c:List Pr} (hc:jL c) (hcl:c.length ≤ 40) (k t i:Int):eG K (c.map (·.v)) lh a0 a1 a2 a3 a4 a5 a6 a7 a8 hr fl sw k t i = some (decide ((⟨k,⟨t,i⟩⟩:aD) ∈ sj a0 a1 a2 a3 a4 a5 a6 a7 a8 hr fl sw c lh)):=by
  have hl:=pk (sw:=sw) ok hc hcl
  unfold eG
  rw [oz hK ok hc hcl]
  simp only [Option.bind_some]
  have:=AM (K:=K) (r:=sj a0 a1 a2 a3 a4 a5 a6 a7 a8 hr fl sw c lh) (by omega) k t i K 0 (by omega) (by omega)
  have e0:((0:Nat):Int) = 0:=rfl
  rw [e0,List.drop_zero] at this
  exact this
end
theorem law (s0:Value) (l0:List an) (s1:Value) (l1:List Int) (a0 a1 a2 a3 a4 a5 a6 a7 a8 hr fl:Int) (sw:Bool) (k t i:Int):∃ K,fQ K s0 l0 s1 l1 a0 a1 a2 a3 a4 a5 a6 a7 a8 hr fl sw k t i = some true:=by
  refine ⟨200000,?_⟩
  unfold fQ
  by_cases ok:tw l0 l1 a0 a1 a2 a3 a4 a5 a6 a7 a8 hr fl
  · obtain ⟨d,c,hd,e⟩:=Aj (K:=200000) (sw:=sw) (Nat.le_refl _) ok
    have g:=ok.l0
    have hl:=pk (sw:=sw) ok c (by omega)
    rw [e,tO]
    simp only []
    rw [wO (Nat.le_refl _) ok c (by omega),oz (Nat.le_refl _) ok c (by omega)]
    simp only [Option.bind_some]
    rw [wU (Nat.le_refl _) _ (by rw [List.length_map]; omega),zl (Nat.le_refl _) ok c,tR (Nat.le_refl _) ok c (by omega)]
    simp only [Option.bind_some,if_true,beq_self_eq_true]
    rw [qB]
    rfl
  · obtain ⟨e1,x,e2⟩:=zV (K:=200000) (sw:=sw) ok
    rw [e1,tQ,e2,Option.bind_some,qB]
    rfl
end Go.Proofs.YtnjfjmbanmaciaaGreat.DueNeeds
end
section
set_option linter.unusedVariables false
namespace Go.Proofs.YtnjfjmbanmaciaaGreat.DueNeeds
open Go Go.ChangeShapes Go.WideShapes Go.ChangeAt Go.RowKit E
open Go.ChangeMaps (open_string shut_string)
theorem own:ownKnob Tryz.prog.godebug = none:=by kernel_rfl
theorem zI:laidOutB Tryz.prog = true:=by kernel_rfl
set_option maxRecDepth 100000 in
theorem AW (os:Os) (started:os.Started) (H:Type) (enc:TypeId × Value → H) :
    ReturnsInHanded {} Tryz.checked os 4 .any (Rows.dueNeedsSpec.pre6 enc Tryz.prog Tryz.f4 Rows.dueNeedsRow.domain false) (Rows.dueNeedsSpec.post enc Tryz.prog Tryz.f4 false true false false):=by
  refine uN (C:=Tryz.checked) (tb:=4) (ts:=[27,3,36]) own started (by kernel_rfl) Tryz.func4
    (ChangeSpec.witness6 (enc:=enc) (C:=Tryz.checked) false ⟨#[],#[.agg #[.slice none 0 0,.slice none 0 0,.int .i64 0,.int .i64 0,.int .i64 0,.int .i64 0,.int .i64 0,.int .i64 0,.int .i64 0,.int .i64 0,.int .i64 0,.int .i64 0,.int .i64 0,.bool false],.int .i64 0,.agg #[.int .i64 0,.int .i64 0]],[]⟩ 8 (by kernel_rfl) (by kernel_rfl) (by kernel_rfl) (by kernel_rfl))
    (by rw [Tryz.params4]) Z Tryz.underlying4 Z zI (by kernel_rfl) ?_ (fun W=>(mP (qK (by kernel_rfl) (kF (ts:=[22,23,25,2,2,4]) (by kernel_rfl) (eu (pS (e:=54) (by kernel_rfl) (wG (c':=aO) (ok':=sS) (kF (ts:=[36,2,2,2,4]) (by kernel_rfl) (eu (kF (ts:=[3,2]) (by kernel_rfl) (eu (fL Tryz.underlying3) (lF (fL Tryz.underlying2)))) (eu (fL Tryz.underlying2) (eu (fL Tryz.underlying2) (eu (fL Tryz.underlying2) (lF (qo Tryz.underlying4))))))) (fun x=>(⟨(⟨x.1.1,x.1.2⟩:aq),x.2.1,x.2.2.1,x.2.2.2.1,x.2.2.2.2⟩:an)) (fun _=>rfl) (fun _ h=>⟨⟨h.1.1,h.1.2⟩,h.2.1,h.2.2.1,h.2.2.2.1⟩))) (eu (pS (e:=2) (by kernel_rfl) (fL Tryz.underlying2)) (eu (kF (ts:=[2,2,2,2,2,2,2,3,2]) (by kernel_rfl) (eu (fL Tryz.underlying2) (eu (fL Tryz.underlying2) (eu (fL Tryz.underlying2) (eu (fL Tryz.underlying2) (eu (fL Tryz.underlying2) (eu (fL Tryz.underlying2) (eu (fL Tryz.underlying2) (eu (fL Tryz.underlying3) (lF (fL Tryz.underlying2))))))))))) (eu (fL Tryz.underlying2) (eu (fL Tryz.underlying2) (lF (qo Tryz.underlying4))))))))) (mP (vm Tryz.underlying3) (mP (qK (by kernel_rfl) (kF (ts:=[3,2]) (by kernel_rfl) (eu (fL Tryz.underlying3) (lF (fL Tryz.underlying2))))) uK)))) ?_
  · intro ds hl
    match ds,hl with
    | [d0,d1,d2],_=>rfl
  · intro W x hok
    obtain ⟨⟨⟨s0_0,l0_0⟩,⟨s0_1,l0_1⟩,⟨a0_2_0,a0_2_1,a0_2_2,a0_2_3,a0_2_4,a0_2_5,a0_2_6,a0_2_7,a0_2_8⟩,a0_3,a0_4,a0_5⟩,a1,⟨a2_0,a2_1⟩,_⟩:=x
    obtain ⟨h0,h1,h2,_⟩:=hok
    obtain ⟨K,hK⟩:=law s0_0 l0_0 s0_1 l0_1 a0_2_0 a0_2_1 a0_2_2 a0_2_3 a0_2_4 a0_2_5 a0_2_6 a0_2_7 a0_2_8 a0_3 a0_4 a0_5 a1 a2_0 a2_1
    refine ⟨[yi W],(fQ.spec K (yi W) s0_0 l0_0 s0_1 l0_1 a0_2_0 a0_2_1 a0_2_2 a0_2_3 a0_2_4 a0_2_5 a0_2_6 a0_2_7 a0_2_8 a0_3 a0_4 a0_5 a1 a2_0 a2_1 (uv h0.1.1) (uv h0.2.1.1) true hK).mono fun v M h=>h.1,?_⟩
    intro A hA
    simp only [List.mem_cons,List.not_mem_nil,or_false] at hA
    subst hA
    exact fun _ _ h=>h
theorem over:Rows.dueNeedsRow.holds Tryz.pinned (OpenSpec.ofChange Rows.dueNeedsSpec) :=
  OpenClaim.holds_of_wide 4 Tryz.f4 Z Z Z Z Z Z Z ⟨rfl,rfl,rfl,rfl,rfl⟩ Z Z Z Z Z (by kernel_rfl) Tryz.func4 (by kernel_rfl)
    (of_decide_eq_true (by kernel_rfl)) (by unfold Func.isWrapper; first | (rw [if_pos (by decide +kernel)]; kernel_rfl) | (rw [if_neg (by decide +kernel)]; exact ⟨rfl,rfl⟩))
    (fun os started H enc _=>AW os started H enc)
end Go.Proofs.YtnjfjmbanmaciaaGreat.DueNeeds
namespace Go.Proofs.YtnjfjmbanmaciaaGreat
theorem dueNeeds_holds:Rows.DueNeedsSaid:=DueNeeds.over
#print axioms dueNeeds_holds
end Go.Proofs.YtnjfjmbanmaciaaGreat
end
