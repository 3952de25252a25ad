/- wordsReads_card: the given statement is proved: no condition ahead of it; before it what its proof rests on. -/
import Derived.Test.YtgbjponaoeiglaaDoorQ4
import Derived.Test.YtgbjponaoeiglaaDoorRows
set_option linter.unusedVariables false
set_option linter.unusedSimpArgs false
section
set_option linter.unusedVariables false
set_option linter.unusedSimpArgs false
set_option maxRecDepth 20000
namespace Go.Proofs.YtgbjponaoeiglaaDoor.WordsReads
open Go E
def ix (c:UInt8):Int:=mR ([48,49,50,51,52,53,54,55,56,57,97,98,99,100,101,102]:List UInt8) c
theorem BF (c:UInt8):strings_IndexByte ([48,49,50,51,52,53,54,55,56,57,97,98,99,100,101,102]:List UInt8) (c.toNat:Int) = ix c:=by
  unfold strings_IndexByte ix
  rw [Int.toNat_natCast]
  congr 1
  exact UInt8.ofNat_toNat
theorem sL (c:UInt8):ix c = -1 ∨ ∃ k:Nat,k < 16 ∧ ix c = k ∧ c = hx k:=by
  have:=ox (p:=fun n=>ix (UInt8.ofNat n) == -1 || (decide (0 ≤ ix (UInt8.ofNat n)) && decide (ix (UInt8.ofNat n) < 16) && hx (ix (UInt8.ofNat n)).toNat == UInt8.ofNat n)) (by decide +kernel) c
  rw [UInt8.ofNat_toNat] at this
  simp only [Bool.or_eq_true,Bool.and_eq_true,beq_iff_eq,decide_eq_true_eq] at this
  rcases this with h | ⟨⟨h1,h2⟩,h3⟩
  · exact .inl h
  · exact .inr ⟨(ix c).toNat,by omega,by omega,h3.symm⟩
theorem Aj:∀ k,k < 16 → ix (hx k) = k:=by decide +kernel
theorem Ap:∀ x,x < 16 → ∀ y,y < 16 → dR (xD .i64 (pj .i64 ((x:Nat):Int) 4) ((y:Nat):Int)) = ((16 * x + y:Nat):Int):=by decide +kernel
theorem zq:pl 37 = false:=by decide +kernel
def uO (a b:UInt8):Option UInt8:=if ix a < 0 then none else if ix b < 0 then none else
  if pl (UInt8.ofNat (16 * (ix a).toNat + (ix b).toNat)) = true then none else some (UInt8.ofNat (16 * (ix a).toNat + (ix b).toNat))
def D:List UInt8 → Option (List UInt8)
  | []=>some []
  | [c]=>if pl c = true then some [c] else none
  | [c,a]=>if pl c = true then (if pl a = true then some [c,a] else none) else none
  | c :: a :: b :: l=>if pl c = true then (D (a :: b :: l)).map (c :: ·) else if c = 37 then (uO a b).bind fun v=>(D l).map (v :: ·) else none
theorem sg (c:UInt8) (l:List UInt8) (h:pl c = true):D (c :: l) = (D l).map (c :: ·):=by
  match l with
  | []=>simp [D,h]
  | [a]=>by_cases ha:pl a = true <;> simp [D,h,ha]
  | a :: b :: l=>simp [D,h]
theorem yV (a b:UInt8) (l:List UInt8):D (37 :: a :: b :: l) = (uO a b).bind fun v=>(D l).map (v :: ·):=by
  rw [D,if_neg (by rw [zq]; simp),if_pos Z]
theorem vk (c:UInt8) (l:List UInt8) (h:¬ pl c = true) (hc:¬ c = 37):D (c :: l) = none:=by
  match l with
  | []=>simp [D,h]
  | [a]=>simp [D,h]
  | a :: b :: l=>simp [D,h,hc]
theorem zR (c:UInt8) (l:List UInt8) (h:¬ pl c = true) (hl:l.length ≤ 1):D (c :: l) = none:=by
  match l,hl with
  | [],_=>simp [D,h]
  | [a],_=>simp [D,h]
theorem tH (c:UInt8):UInt8.ofNat (16 * (c.toNat / 16) + c.toNat % 16) = c:=by
  rw [Nat.div_add_mod]; exact UInt8.ofNat_toNat
theorem zu (c:UInt8) (h:¬ pl c = true):uO (hx (c.toNat / 16)) (hx (c.toNat % 16)) = some c:=by
  have h1:c.toNat / 16 < 16:=by have:=c.toNat_lt; omega
  have h2:c.toNat % 16 < 16:=by omega
  unfold uO
  rw [Aj _ h1,Aj _ h2,if_neg (by omega),if_neg (by omega),Int.toNat_natCast,Int.toNat_natCast,tH,if_neg h]
theorem DQ:∀ b:List UInt8,D (Q b) = some b
  | []=>rfl
  | c :: b=>by
    have e:Q (c :: b) = qb c ++ Q b:=rfl
    rw [e]
    unfold qb
    by_cases h:pl c = true
    · rw [if_pos h,List.singleton_append,sg c _ h,DQ b]; rfl
    · rw [if_neg h]
      simp only [List.cons_append,List.nil_append]
      rw [yV,zu c h,Option.bind_some,DQ b]; rfl
theorem xy {a b v:UInt8} (h:uO a b = some v):¬ pl v = true ∧ a = hx (v.toNat / 16) ∧ b = hx (v.toNat % 16):=by
  unfold uO at h
  rcases sL a with ha | ⟨x,hx1,ha,ea⟩
  · rw [ha,if_pos (by decide)] at h; cases h
  · rcases sL b with hb | ⟨y,hy1,hb,eb⟩
    · rw [ha,hb,if_neg (by omega),if_pos (by decide)] at h; cases h
    · rw [ha,hb,if_neg (by omega),if_neg (by omega),Int.toNat_natCast,Int.toNat_natCast] at h
      by_cases hp:pl (UInt8.ofNat (16 * x + y)) = true
      · rw [if_pos hp] at h; cases h
      · rw [if_neg hp] at h
        have hv:=Option.some.inj h
        have hn:v.toNat = 16 * x + y:=by rw [← hv,UInt8.toNat_ofNat']; omega
        refine ⟨by rw [← hv]; exact hp,?_,?_⟩
        · rw [ea,hn]; congr 1; omega
        · rw [eb,hn]; congr 1; omega
theorem QD:∀ (n:Nat) (s b:List UInt8),s.length ≤ n → D s = some b → s = Q b
  | _,[],b,_,h=>by cases h; rfl
  | 0,c :: s,b,hn,_=>by simp at hn
  | n + 1,c :: s,b,hn,h=>by
    simp only [List.length_cons] at hn
    by_cases hp:pl c = true
    · rw [sg c s hp,Option.map_eq_some_iff] at h
      obtain ⟨b',h1,rfl⟩:=h
      have e:Q (c :: b') = qb c ++ Q b':=rfl
      rw [e,← QD n s b' (by omega) h1]
      unfold qb
      rw [if_pos hp]; rfl
    · by_cases hc:c = 37
      · subst hc
        match s with
        | []=>simp [D,zq] at h
        | [a]=>simp [D,zq] at h
        | a :: b2 :: s =>
          rw [yV,Option.bind_eq_some_iff] at h
          obtain ⟨v,hv,h⟩:=h
          rw [Option.map_eq_some_iff] at h
          obtain ⟨b',h1,rfl⟩:=h
          obtain ⟨q1,q2,q3⟩:=xy hv
          have e:Q (v :: b') = qb v ++ Q b':=rfl
          simp only [List.length_cons] at hn
          rw [e,← QD n s b' (by omega) h1]
          unfold qb
          rw [if_neg q1,← q2,← q3]; rfl
      · rw [vk c s hp hc] at h; cases h
theorem vD (s:List UInt8) (hs:s.length ≤ 1500):∀ (f i:Nat) (out:List UInt8),i ≤ s.length → s.length - i < f → out.length ≤ i →
    io W s f i (dn out) = some (match D (s.drop i) with | some b=>Sum.inl (dn (out ++ b)) | none=>Sum.inr (false,[]))
  | 0,i,out,h0,h1,h2=>by omega
  | f + 1,i,out,h0,h1,h2=>by
    rw [io]
    have hbo:=kt out
    by_cases h:i < s.length
    · have e1:s.drop i = s[i] :: s.drop (i + 1):=List.drop_eq_getElem_cons h
      rw [if_pos (by omega),if_pos (by omega)]
      simp only [Int.toNat_natCast,gc s i h,fc]
      by_cases hp:pl s[i] = true
      · have hp':gK (s[i].toNat:Int) = true:=hp
        rw [if_pos hp',if_pos (by rw [hbo]; simp; omega),mc (by omega)]
        have hb:dn out ++ [(s[i].toNat:Int)] = dn (out ++ [s[i]]):=by rw [oJ]; rfl
        rw [hb,vD s hs f (i + 1) (out ++ [s[i]]) (by omega) (by omega) (by simp; omega),e1,sg _ _ hp]
        cases D (s.drop (i + 1)) with
        | none=>rfl
        | some b=>simp
      · have hp':¬ gK (s[i].toNat:Int) = true:=hp
        rw [if_neg hp']
        by_cases hc:s[i] = 37
        · have hc':(s[i].toNat:Int) = 37:=by rw [hc]; rfl
          rw [if_neg (by simpa using hc'),mc (by omega),BU (by omega)]
          by_cases hl:(s.length:Int) ≤ ((i + 2:Nat):Int)
          · rw [if_pos hl,e1,zR _ _ hp (by simp; omega)]
          · have e2:s.drop (i + 1) = s[i + 1] :: s.drop (i + 2):=List.drop_eq_getElem_cons (by omega)
            have e3:s.drop (i + 2) = s[i + 2] :: s.drop (i + 3):=List.drop_eq_getElem_cons (by omega)
            rw [if_neg hl,if_pos (by omega),if_pos (by omega),if_pos (by omega),if_pos (by omega)]
            simp only [Int.toNat_natCast,gc s (i + 1) (by omega),gc s (i + 2) (by omega),BF]
            rw [e1,e2,e3,hc,yV]
            unfold uO
            rcases sL s[i + 1] with ha | ⟨x,hx1,ha,ea⟩
            · rw [ha,if_pos (by decide)]; simp
            · rcases sL s[i + 2] with hb | ⟨y,hy1,hb,eb⟩
              · rw [ha,hb,if_neg (by omega),if_pos (by decide)]; simp
              · rw [ha,hb,if_neg (by omega),if_neg (by omega),Ap x hx1 y hy1,Int.toNat_natCast,Int.toNat_natCast]
                have hn:(UInt8.ofNat (16 * x + y)).toNat = 16 * x + y:=by rw [UInt8.toNat_ofNat']; omega
                have hpv:gK ((16 * x + y:Nat):Int) = pl (UInt8.ofNat (16 * x + y)):=by unfold pl; rw [hn]
                rw [hpv]
                have ne1:¬ ((x:Int) < 0):=by omega
                have ne2:¬ ((y:Int) < 0):=by omega
                by_cases hv:pl (UInt8.ofNat (16 * x + y)) = true
                · rw [if_pos hv,if_neg ne1,if_neg ne2,if_pos hv]; rfl
                · have hb2:dn out ++ [((16 * x + y:Nat):Int)] = dn (out ++ [UInt8.ofNat (16 * x + y)]):=by
                    rw [oJ]
                    have:dn [UInt8.ofNat (16 * x + y)] = [((16 * x + y:Nat):Int)]:=by simp only [dn,List.map_cons,List.map_nil,hn]
                    rw [this]
                  have h3:bj (((i + 2:Nat):Int) + 1) = ((i + 3:Nat):Int):=mc (by omega)
                  rw [if_neg hv,if_pos (by rw [hbo]; simp; omega),hb2,h3,vD s hs f (i + 3) _ (by omega) (by omega) (by simp; omega)]
                  simp only [ne1,ne2,hv,if_false,Option.bind_some,Bool.false_eq_true]
                  cases D (s.drop (i + 3)) with
                  | none=>rfl
                  | some b=>simp
        · have hc':¬ (s[i].toNat:Int) = 37:=fun e=>hc (UInt8.toNat_inj.1 (show s[i].toNat = 37 by omega))
          rw [if_pos hc',e1,vk _ _ hp hc]
    · rw [if_neg (by omega),List.drop_eq_nil_of_le (by omega)]
      simp [D]
def hr (c:UInt8):Nat:=((fa W (c.toNat:Int)).getD 0).toNat
theorem Ak (c:UInt8):fa W (c.toNat:Int) = some ((hr c:Nat):Int) ∧ hr c < 16:=by
  have:=ox (p:=fun n=>match fa W (n:Int) with | some h=>decide (0 ≤ h) && decide (h < 16) | none=>false) (by decide +kernel) c
  unfold hr
  cases hh:fa W (c.toNat:Int) with
  | none=>rw [hh] at this; cases this
  | some h =>
    rw [hh] at this
    simp only [Bool.and_eq_true,decide_eq_true_eq] at this
    simp only [Option.getD_some]
    exact ⟨by congr 1; omega,by omega⟩
theorem zY:∀ k,k < 16 → hr (hx k) = k:=by decide +kernel
def R:List UInt8 → List UInt8
  | []=>[]
  | [c]=>[c]
  | [c,a]=>[c,a]
  | c :: a :: b :: l=>if c = 37 then UInt8.ofNat (16 * hr a + hr b) :: R l else c :: R (a :: b :: l)
theorem sO (c:UInt8) (l:List UInt8) (h:¬ c = 37):R (c :: l) = c :: R l:=by
  match l with
  | []=>rfl
  | [a]=>rfl
  | a :: b :: l=>simp [R,h]
theorem zH (c:UInt8) (l:List UInt8) (h:l.length ≤ 1):R (c :: l) = c :: R l:=by
  match l,h with
  | [],_=>rfl
  | [a],_=>rfl
theorem yq (a b:UInt8) (l:List UInt8):R (37 :: a :: b :: l) = UInt8.ofNat (16 * hr a + hr b) :: R l:=by simp [R]
theorem RQ:∀ b:List UInt8,R (Q b) = b
  | []=>rfl
  | c :: b=>by
    have e:Q (c :: b) = qb c ++ Q b:=rfl
    rw [e]
    unfold qb
    by_cases h:pl c = true
    · have hc:¬ c = 37:=fun e=>by rw [e,zq] at h; cases h
      rw [if_pos h,List.singleton_append,sO c _ hc,RQ b]
    · have h1:c.toNat / 16 < 16:=by have:=c.toNat_lt; omega
      rw [if_neg h]
      simp only [List.cons_append,List.nil_append]
      rw [yq,RQ b,zY _ h1,zY _ (by omega),tH]
theorem vW:∀ (n:Nat) (s:List UInt8),s.length ≤ n → (R s).length ≤ s.length
  | _,[],_=>by simp [R]
  | 0,c :: s,h=>by simp at h
  | n + 1,c :: s,h=>by
    simp only [List.length_cons] at h
    match s with
    | []=>simp [R]
    | [a]=>simp [R]
    | a :: b :: s =>
      simp only [List.length_cons] at h
      by_cases hc:c = 37
      · subst hc
        have:=vW n s (by omega)
        rw [yq]; simp only [List.length_cons]; omega
      · have:=vW n (a :: b :: s) (by simp; omega)
        rw [sO c _ hc]; simp only [List.length_cons] at this ⊢; omega
theorem sr (s:List UInt8) (hs:s.length ≤ 1500):∀ (f i:Nat) (out:List UInt8),i ≤ s.length → s.length - i < f → out.length ≤ i →
    dP W s f i (dn out) = some (dn (out ++ R (s.drop i)))
  | 0,i,out,h0,h1,h2=>by omega
  | f + 1,i,out,h0,h1,h2=>by
    rw [dP]
    have hbo:=kt out
    by_cases h:i < s.length
    · have e1:s.drop i = s[i] :: s.drop (i + 1):=List.drop_eq_getElem_cons h
      have hb:dn out ++ [(s[i].toNat:Int)] = dn (out ++ [s[i]]):=by rw [oJ]; rfl
      have one:R (s[i] :: s.drop (i + 1)) = s[i] :: R (s.drop (i + 1)) → (if ((dn out).length + [(s[i].toNat:Int)].length) * 1 ≤ 140737488355328 then dP W s f (bj ((i:Int) + 1)) (dn out ++ [(s[i].toNat:Int)]) else none) = some (dn (out ++ R (s.drop i))):=by
        intro hR
        rw [if_pos (by rw [hbo]; simp; omega),mc (by omega),hb,sr s hs f (i + 1) _ (by omega) (by omega) (by simp; omega),e1,hR]
        simp
      rw [if_pos (by omega),if_pos (by omega)]
      simp only [Int.toNat_natCast,gc s i h]
      by_cases hc:s[i] = 37
      · have hc':(s[i].toNat:Int) = 37:=by rw [hc]; rfl
        rw [if_pos hc',BU (by omega)]
        by_cases hl:((i + 2:Nat):Int) < (s.length:Int)
        · have e2:s.drop (i + 1) = s[i + 1] :: s.drop (i + 2):=List.drop_eq_getElem_cons (by omega)
          have e3:s.drop (i + 2) = s[i + 2] :: s.drop (i + 3):=List.drop_eq_getElem_cons (by omega)
          have q1:=Ak s[i + 1]
          have q2:=Ak s[i + 2]
          rw [if_pos hl,mc (by omega),if_pos (by omega),if_pos (by omega)]
          simp only [Int.toNat_natCast,gc s (i + 1) (by omega),gc s (i + 2) (by omega)]
          rw [q1.1]
          simp only [Option.bind_some]
          rw [if_pos (by omega),q2.1]
          simp only [Option.bind_some]
          have hv:dR (bj ((bj (16 * (hr s[i + 1]:Int))) + (hr s[i + 2]:Int))) = ((16 * hr s[i + 1] + hr s[i + 2]:Nat):Int):=by
            rw [cl (n:=16 * (hr s[i + 1]:Int)) (by omega),cl (by omega),qK (by omega)]; omega
          have hn:(UInt8.ofNat (16 * hr s[i + 1] + hr s[i + 2])).toNat = 16 * hr s[i + 1] + hr s[i + 2]:=by rw [UInt8.toNat_ofNat']; omega
          have hb2:dn out ++ [((16 * hr s[i + 1] + hr s[i + 2]:Nat):Int)] = dn (out ++ [UInt8.ofNat (16 * hr s[i + 1] + hr s[i + 2])]):=by
            rw [oJ]
            have:dn [UInt8.ofNat (16 * hr s[i + 1] + hr s[i + 2])] = [((16 * hr s[i + 1] + hr s[i + 2]:Nat):Int)]:=by simp only [dn,List.map_cons,List.map_nil,hn]
            rw [this]
          have h3:bj (((i + 2:Nat):Int) + 1) = ((i + 3:Nat):Int):=mc (by omega)
          rw [hv,if_pos (by rw [hbo]; simp; omega),h3,hb2,sr s hs f (i + 3) _ (by omega) (by omega) (by simp; omega),e1,e2,e3,hc,yq]
          simp
        · rw [if_neg hl]
          exact one (zH _ _ (by simp; omega))
      · have hc':¬ (s[i].toNat:Int) = 37:=fun e=>hc (UInt8.toNat_inj.1 (show s[i].toNat = 37 by omega))
        rw [if_neg hc']
        exact one (sO _ _ hc)
    · rw [if_neg (by omega),List.drop_eq_nil_of_le (by omega)]
      simp [R]
theorem Bu (s:List UInt8) (hs:s.length ≤ 1500):∃ b t,gf W s = some (b,t) ∧ eK W s = some (t,b):=by
  unfold gf eK
  by_cases h45:s = [45]
  · rw [if_pos h45,if_neg (by simpa using h45)]
    simp only [Option.bind_some]
    rw [show mg ([]:List Int) = [] from rfl,lR [] (by simp)]
    simp only [Option.bind_some]
    rw [if_neg (by rw [h45]; simp [jM])]
    exact ⟨true,[],rfl,rfl⟩
  · have e:=vD s hs W 0 [] (by omega) (by unfold W; omega) (by simp)
    have r:=sr s hs W 0 [] (by omega) (by unfold W; omega) (by simp)
    have e0:((0:Nat):Int) = 0:=rfl
    rw [e0,List.drop_zero] at e r
    have eb:dn ([]:List UInt8) = []:=rfl
    rw [eb] at e r
    rw [List.nil_append] at r
    have hrl:=vW s.length s (Nat.le_refl _)
    rw [if_neg h45,if_pos h45,e,r]
    simp only [Option.bind_some]
    rw [nk,lR (R s) (by omega)]
    simp only [Option.bind_some]
    cases hD:D s with
    | none =>
      simp only [mD]
      have:¬ jM (R s) = s:=by
        intro hw
        unfold jM at hw
        by_cases hR:R s = []
        · rw [if_pos hR] at hw; exact h45 hw.symm
        · rw [if_neg hR] at hw
          rw [← hw,DQ] at hD; cases hD
      rw [if_pos this]
      exact ⟨false,[],rfl,rfl⟩
    | some b =>
      simp only [mD,List.nil_append]
      have hq:=QD s.length s b (Nat.le_refl _) hD
      have hR:R s = b:=by rw [hq,RQ]
      have hlb:=kt b
      have hdec:decide (0 < ((dn b).length:Int)) = decide (0 < (b.length:Int)):=by rw [decide_eq_decide]; omega
      rw [hR,hdec,nk]
      by_cases hb:b = []
      · subst hb
        have hs0:s = []:=hq
        rw [if_pos (by rw [hs0]; simp [jM])]
        exact ⟨false,[],rfl,rfl⟩
      · have hl:0 < b.length:=by cases b with | nil=>exact absurd rfl hb | cons _ _=>simp
        have hw:jM b = s:=by unfold jM; rw [if_neg hb,hq]
        rw [if_neg (by rw [hw]; simp)]
        exact ⟨true,b,by rw [show decide (0 < (b.length:Int)) = true from decide_eq_true (by omega)],rfl⟩
end Go.Proofs.YtgbjponaoeiglaaDoor.WordsReads
end
section
set_option linter.unusedVariables false
set_option linter.unusedSimpArgs false
set_option maxRecDepth 20000
namespace Go.Proofs.YtgbjponaoeiglaaDoor.WordsReads
open Go E
def tY (n:Int) (c:UInt8):Option Int:=if 48 ≤ (c.toNat:Int) ∧ (c.toNat:Int) ≤ 57 ∧ -9223372036854775808 ≤ n * 10 - ((c.toNat:Int) - 48) then some (n * 10 - ((c.toNat:Int) - 48)) else none
def go:List UInt8 → Int → Option Int
  | [],n=>some n
  | c :: l,n=>(tY n c).bind (go l)
theorem vE (c:UInt8) (l:List UInt8) (n:Int):go (c :: l) n = (tY n c).bind (go l):=rfl
theorem uS:∀ (l l':List UInt8) (n:Int),go (l ++ l') n = (go l n).bind (go l')
  | [],l',n=>rfl
  | c :: l,l',n=>by
    show (tY n c).bind (go (l ++ l')) = ((tY n c).bind (go l)).bind (go l')
    cases tY n c with
    | none=>rfl
    | some m=>exact uS l l' m
theorem AC {n m:Int} {c:UInt8} (hn:n ≤ 0) (h:tY n c = some m):-9223372036854775808 ≤ m ∧ m ≤ 0:=by
  unfold tY at h
  split at h
  · rename_i q
    cases h; omega
  · cases h
theorem oh:∀ (l:List UInt8) (n m:Int),-9223372036854775808 ≤ n ∧ n ≤ 0 → go l n = some m → -9223372036854775808 ≤ m ∧ m ≤ 0
  | [],n,m,h,e=>by cases e; exact h
  | c :: l,n,m,h,e=>by
    obtain ⟨k,h1,h2⟩:=Option.bind_eq_some_iff.1 (show (tY n c).bind (go l) = some m from e)
    exact oh l k m (AC h.2 h1) h2
theorem BC (x:List UInt8 × Bool) (hx:x.1.length ≤ 1500):∀ (f i:Nat) (n:Int),i ≤ x.1.length → x.1.length - i < f → -9223372036854775808 ≤ n ∧ n ≤ 0 →
    gJ W x f n i = some (match go (x.1.drop i) n with | some m=>Sum.inl m | none=>Sum.inr (0,false))
  | 0,i,n,h0,h1,h2=>by omega
  | f + 1,i,n,h0,h1,h2=>by
    rw [gJ]
    have hl:=kt x.1
    by_cases h:i < x.1.length
    · have e1:x.1.drop i = x.1[i] :: x.1.drop (i + 1):=List.drop_eq_getElem_cons h
      have hc:=x.1[i].toNat_lt
      rw [if_pos (by omega),if_pos (by omega)]
      simp only [Int.toNat_natCast,oE x.1 i h]
      have hd:bj ((bj ((x.1[i].toNat:Nat):Int)) - 48) = (x.1[i].toNat:Int) - 48:=by rw [cl (n:=((x.1[i].toNat:Nat):Int)) (by omega),cl (by omega)]
      rw [hd,e1,vE]
      unfold tY
      by_cases c1:(x.1[i].toNat:Int) - 48 < 0
      · rw [if_pos c1,if_neg (by omega)]; rfl
      · rw [if_neg c1]
        by_cases c2:9 < (x.1[i].toNat:Int) - 48
        · rw [if_pos c2,if_neg (by omega)]; rfl
        · rw [if_neg c2]
          by_cases c3:n < -922337203685477580
          · rw [if_pos c3,if_neg (by omega)]; rfl
          · rw [if_neg c3,cl (n:=n * 10) (by omega),cl (n:=-9223372036854775808 + _) (by omega)]
            by_cases c4:n * 10 < -9223372036854775808 + ((x.1[i].toNat:Int) - 48)
            · rw [if_pos c4,if_neg (by omega)]; rfl
            · rw [if_neg c4,if_pos (by omega),cl (n:=n * 10 - _) (by omega),mc (by omega)]
              exact BC x hx f (i + 1) _ (by omega) (by omega) (by omega)
    · rw [if_neg (by omega),List.drop_eq_nil_of_le (by omega)]; rfl
theorem yM (s:List UInt8) (hs:s.length ≤ 1500):∀ (f i:Nat) (n:Int),i ≤ s.length → s.length - i < f → -9223372036854775808 ≤ n ∧ n ≤ 0 →
    fo W s f n i = some (match go (s.drop i) n with | some m=>Sum.inl m | none=>Sum.inr (0,false))
  | 0,i,n,h0,h1,h2=>by omega
  | f + 1,i,n,h0,h1,h2=>by
    rw [fo]
    by_cases h:i < s.length
    · have e1:s.drop i = s[i] :: s.drop (i + 1):=List.drop_eq_getElem_cons h
      have hc:=s[i].toNat_lt
      rw [if_pos (by omega),if_pos (by omega)]
      simp only [Int.toNat_natCast,gc s i h]
      have hd:bj ((bj ((s[i].toNat:Nat):Int)) - 48) = (s[i].toNat:Int) - 48:=by rw [cl (n:=((s[i].toNat:Nat):Int)) (by omega),cl (by omega)]
      rw [hd,e1,vE]
      unfold tY
      by_cases c1:(s[i].toNat:Int) - 48 < 0
      · rw [if_pos c1,if_neg (by omega)]; rfl
      · rw [if_neg c1]
        by_cases c2:9 < (s[i].toNat:Int) - 48
        · rw [if_pos c2,if_neg (by omega)]; rfl
        · rw [if_neg c2,cl (n:=-9223372036854775808 + _) (by omega)]
          have ht:Int.tdiv (-9223372036854775808 + ((s[i].toNat:Int) - 48)) 10 = -((9223372036854775808 - ((s[i].toNat:Int) - 48)) / 10):=by
            rw [show (-9223372036854775808 + ((s[i].toNat:Int) - 48)) = -(9223372036854775808 - ((s[i].toNat:Int) - 48)) by omega,Int.neg_tdiv,Int.tdiv_eq_ediv_of_nonneg (by omega)]
          rw [ht,cl (by omega)]
          by_cases c4:n < -((9223372036854775808 - ((s[i].toNat:Int) - 48)) / 10)
          · rw [if_pos c4,if_neg (by omega)]; rfl
          · rw [if_neg c4,if_pos (by omega),cl (n:=n * 10) (by omega),cl (n:=n * 10 - _) (by omega),mc (by omega)]
            exact yM s hs f (i + 1) _ (by omega) (by omega) (by omega)
    · rw [if_neg (by omega),List.drop_eq_nil_of_le (by omega)]; rfl
def dg (d:Nat):UInt8:=UInt8.ofNat (48 + d)
theorem qm {d:Nat} (h:d < 10):(dg d).toNat = 48 + d:=by unfold dg; rw [UInt8.toNat_ofNat']; omega
theorem xR (c:UInt8) (h:48 ≤ c.toNat ∧ c.toNat ≤ 57):dg (c.toNat - 48) = c:=by
  unfold dg; rw [show 48 + (c.toNat - 48) = c.toNat by omega]; exact UInt8.ofNat_toNat
def ke (n:Nat):List UInt8:=if n < 10 then [dg n] else ke (n / 10) ++ [dg (n % 10)]
termination_by n
decreasing_by omega
theorem hG {n:Nat} (h:n < 10):ke n = [dg n]:=by rw [ke,if_pos h]
theorem lY {n:Nat} (h:¬ n < 10):ke n = ke (n / 10) ++ [dg (n % 10)]:=by rw [ke,if_neg h]
theorem uZ (n:Nat):ke n ≠ []:=by
  by_cases h:n < 10
  · rw [hG h]; simp
  · rw [lY h]; simp
theorem mZ:∀ (k n:Nat),n < 10 ^ (k + 1) → (ke n).length ≤ k + 1
  | 0,n,h=>by rw [hG (by simpa using h)]; simp
  | k + 1,n,h=>by
    by_cases h10:n < 10
    · rw [hG h10]; simp
    · rw [lY h10]
      have:=mZ k (n / 10) (by rw [Nat.div_lt_iff_lt_mul (by omega)]; rw [Nat.pow_succ] at h; exact h)
      simp; omega
theorem oY:∀ (k n:Nat),n ≤ k → ∀ l,ke n = 48 :: l → n = 0 ∧ l = []
  | k,n,hk,l,h=>by
    by_cases h10:n < 10
    · rw [hG h10] at h
      have h1:=congrArg UInt8.toNat (List.cons.inj h).1
      rw [qm h10] at h1
      have h48:(48:UInt8).toNat = 48:=rfl
      exact ⟨by omega,(List.cons.inj h).2.symm⟩
    · rw [lY h10] at h
      cases hd:ke (n / 10) with
      | nil=>exact absurd hd (uZ _)
      | cons c l' =>
        rw [hd,List.cons_append] at h
        have hc:=(List.cons.inj h).1
        subst hc
        cases k with
        | zero=>omega
        | succ k =>
          have:=(oY k (n / 10) (by omega) l' hd).1
          omega
theorem uh (c:UInt8) (n:Int):go [c] n = tY n c:=by
  show (tY n c).bind (go []) = _
  cases tY n c <;> rfl
theorem pK:∀ (k:Nat) (l:List UInt8),l.length ≤ k → l ≠ [] → (∀ x,l = 48 :: x → x = []) → ∀ m,go l 0 = some m → ke (-m).toNat = l
  | k,l,hk,hne,hz,m,h=>by
    obtain ⟨l0,c,rfl⟩:∃ l0 c,l = l0 ++ [c]:=⟨l.dropLast,l.getLast hne,(List.dropLast_concat_getLast hne).symm⟩
    rw [uS,Option.bind_eq_some_iff] at h
    obtain ⟨m0,h1,h2⟩:=h
    rw [uh] at h2
    have hin:=oh l0 0 m0 (by omega) h1
    unfold tY at h2
    split at h2
    · rename_i q
      cases h2
      by_cases hl:l0 = []
      · subst hl
        have hm:m0 = 0:=by cases h1; rfl
        subst hm
        rw [show (-(0 * 10 - ((c.toNat:Int) - 48))).toNat = c.toNat - 48 by omega,hG (by omega),xR c (by omega)]; rfl
      · cases k with
        | zero=>simp at hk
        | succ k =>
          have hz0:∀ x,l0 = 48 :: x → x = []:=by
            intro x hx
            rw [hx,List.cons_append] at hz
            have:=hz _ Z
            simp at this
          have ih:=pK k l0 (by simp at hk; omega) hl hz0 m0 h1
          have hpos:m0 ≠ 0:=by
            intro e
            subst e
            have:ke (-(0:Int)).toNat = [48]:=by rw [show (-(0:Int)).toNat = 0 from rfl,hG (by omega)]; rfl
            rw [this] at ih
            rw [← ih,List.cons_append] at hz
            have:=hz _ Z
            simp at this
          have e1:(-(m0 * 10 - ((c.toNat:Int) - 48))).toNat / 10 = (-m0).toNat:=by omega
          have e2:(-(m0 * 10 - ((c.toNat:Int) - 48))).toNat % 10 = c.toNat - 48:=by omega
          rw [lY (by omega),e1,e2,ih,xR c (by omega)]
    · cases h2
def iK (n:Int):List UInt8:=if n < 0 then 45 :: ke (-n).toNat else ke n.toNat
theorem BT {d:Int} (h:0 ≤ d ∧ d < 10):mg [dR (bj (48 + d))] = [dg d.toNat]:=by
  rw [cl (by omega),qK (by omega)]
  simp only [mg,List.map_cons,List.map_nil,dg]
  rw [show (48 + d).toNat = 48 + d.toNat by omega]
theorem sk {K k n:Nat} (h10:n < 10):bp K (k + 1) (n:Int) = some (ke n):=by
  unfold bp
  rw [if_neg (by omega),if_neg (by omega),if_pos (by omega),hG h10,BT (by omega),Int.toNat_natCast]
theorem BG {n:Nat} (h:n ≤ 9223372036854775807):n < 10 ^ (18 + 1):=by
  have:(10:Nat) ^ (18 + 1) = 10000000000000000000:=by decide
  omega
theorem Bf {n:Nat} (h:n ≤ 9223372036854775808):n < 10 ^ (18 + 1):=by
  have:(10:Nat) ^ (18 + 1) = 10000000000000000000:=by decide
  omega
def nK (n:Nat):Prop:=n ≤ 9223372036854775807
theorem Bl {n:Nat} (h10:¬ n < 10) (hb:nK n):bj (Int.tdiv (n:Int) 10) = ((n / 10:Nat):Int):=by
  unfold nK at hb
  rw [Int.tdiv_eq_ediv_of_nonneg (by omega),cl (by omega)]; omega
theorem Bs (n:Nat):Int.tmod (n:Int) 10 = ((n % 10:Nat):Int):=by
  rw [Int.tmod_eq_emod_of_nonneg (by omega)]; omega
theorem Bi {a b:List UInt8} (ha:a.length ≤ 19) (hb:b.length ≤ 1):(a.length:Int) + (b.length:Int) ≤ 9223372036854775807:=by omega
theorem zM {K k n:Nat} (h10:¬ n < 10) (hb:nK n) (i1:bp K (k + 1) ((n / 10:Nat):Int) = some (ke (n / 10))):bp K (k + 1 + 1) (n:Int) = some (ke n):=by
  have i2:=sk (K:=K) (k:=k) (n:=n % 10) (by omega)
  have l1:(ke (n / 10)).length ≤ 19:=mZ 18 _ (BG (by unfold nK at hb; omega))
  have l2:(ke (n % 10)).length ≤ 1:=by rw [hG (by omega)]; simp
  have hd:ke n = ke (n / 10) ++ ke (n % 10):=by rw [lY h10,hG (n:=n % 10) (by omega)]
  have h0:¬ (n:Int) < 0:=by omega
  have h1:¬ (n:Int) < 10:=by omega
  have h2:¬ (n:Int) = -9223372036854775808:=by omega
  rw [bp,if_neg h2,if_neg h0,if_neg h1,Bl h10 hb,Bs,i1,i2,hd]
  simp only [Option.bind_some]
  rw [if_pos (Bi l1 l2)]
theorem wF {n:Nat} (h:nK n):nK (n / 10):=by unfold nK at *; omega
theorem vi {K:Nat} (f:Nat):∀ (k n:Nat),n < 10 ^ (f + 1) → nK n → f < k → bp K k (n:Int) = some (ke n):=by
  induction f with
  | zero =>
    intro k n h hb hk
    obtain ⟨k',rfl⟩:∃ k',k = k' + 1:=⟨k - 1,by omega⟩
    exact sk (by simpa using h)
  | succ f ih =>
    intro k n h hb hk
    obtain ⟨k',rfl⟩:∃ k',k = k' + 1 + 1:=⟨k - 2,by omega⟩
    by_cases h10:n < 10
    · exact sk h10
    · exact zM h10 hb (ih (k' + 1) (n / 10) (by rw [Nat.div_lt_iff_lt_mul (by omega)]; rw [Nat.pow_succ] at h; exact h) (wF hb) (by omega))
theorem AJ:go [57,50,50,51,51,55,50,48,51,54,56,53,52,55,55,53,56,48,56] 0 = some (-9223372036854775808):=by decide +kernel
theorem yQ:ke 9223372036854775808 = [57,50,50,51,51,55,50,48,51,54,56,53,52,55,55,53,56,48,56]:=by
  have h:=pK 19 [57,50,50,51,51,55,50,48,51,54,56,53,52,55,55,53,56,48,56] (by decide) (by simp) (fun x hx=>by cases hx) (-9223372036854775808) AJ
  have e:(-(-9223372036854775808:Int)).toNat = 9223372036854775808:=by omega
  rw [e] at h
  exact h
theorem zy {K k:Nat} (hk:18 < k) {n:Int} (h:-9223372036854775808 ≤ n ∧ n ≤ 9223372036854775807):bp K (k + 1) n = some (iK n):=by
  by_cases h0:n < 0
  · by_cases hm:n = -9223372036854775808
    · subst hm
      unfold bp
      rw [if_pos Z]
      unfold iK
      rw [if_pos (by decide),show (-(-9223372036854775808:Int)).toNat = 9223372036854775808 by decide,yQ]
    · obtain ⟨q,hq⟩:∃ q:Nat,n = -(q:Int):=⟨(-n).toNat,by omega⟩
      subst hq
      unfold bp
      rw [if_neg hm,if_pos h0,show bj (0 - -(q:Int)) = (q:Int) by rw [cl (by omega)]; omega,vi 18 k q (BG (by omega)) (by unfold nK; omega) (by omega)]
      simp only [Option.bind_some]
      have l1:=mZ 18 q (BG (by omega))
      rw [if_pos (by simp; omega)]
      unfold iK
      rw [if_pos h0,show (-(-(q:Int))).toNat = q by omega]; rfl
  · obtain ⟨q,hq⟩:∃ q:Nat,n = (q:Int):=⟨n.toNat,by omega⟩
    subst hq
    rw [vi 18 (k + 1) q (BG (by omega)) (by unfold nK; omega) (by omega)]
    unfold iK
    rw [if_neg h0,Int.toNat_natCast]
theorem nS {n:Int} (h:-9223372036854775808 ≤ n ∧ n ≤ 9223372036854775807):bV W n = some (iK n):=zy (K:=W) (k:=199999) (by omega) h
theorem lV {n:Int} (h:-9223372036854775808 ≤ n ∧ n ≤ 9223372036854775807):(iK n).length ≤ 20:=by
  unfold iK
  split
  · have:=mZ 18 (-n).toNat (Bf (by omega))
    simp; omega
  · have:=mZ 18 n.toNat (Bf (by omega))
    omega
end Go.Proofs.YtgbjponaoeiglaaDoor.WordsReads
end
section
set_option linter.unusedVariables false
set_option linter.unusedSimpArgs false
set_option maxRecDepth 20000
namespace Go.Proofs.YtgbjponaoeiglaaDoor.WordsReads
open Go E
structure tX (t:List UInt8) (g:Bool):Prop where
  ne:t ≠ []
  head:∀ x,t = 48 :: x → x = []
  zero:g = true → t ≠ [48]
def xj (t:List UInt8) (g:Bool):Option (Sum Unit (Int × Bool)):=(if t = ([]:List UInt8) then (some (Sum.inr ((0,false)))) else (if 1 < (t.length:Int) then (if 0 < (t.length:Int) then (if ((t.getD (0:Int).toNat 0).toNat:Int) = 48 then (some (Sum.inr ((0,false)))) else (if g = true then (if t = ([48]:List UInt8) then (some (Sum.inr ((0,false)))) else (some (Sum.inl ()))) else (some (Sum.inl ())))) else none) else (if g = true then (if t = ([48]:List UInt8) then (some (Sum.inr ((0,false)))) else (some (Sum.inl ()))) else (some (Sum.inl ())))))
theorem zJ {t:List UInt8} {g:Bool} (h:tX t g):xj t g = some (Sum.inl ()):=by
  have hin:(if g = true then (if t = ([48]:List UInt8) then (some (Sum.inr ((0,false)))) else (some (Sum.inl ()))) else (some (Sum.inl ()))) = (some (Sum.inl ()):Option (Sum Unit (Int × Bool))):=by
    by_cases hg:g = true
    · rw [if_pos hg,if_neg (h.zero hg)]
    · rw [if_neg hg]
  unfold xj
  rw [if_neg h.ne]
  by_cases hl:1 < (t.length:Int)
  · rw [if_pos hl,if_pos (by omega),if_neg,hin]
    intro e
    cases t with
    | nil=>simp at hl
    | cons c x =>
      have hc:c = 48:=UInt8.toNat_inj.1 (show c.toNat = 48 by simp at e; omega)
      have:=h.head x (by rw [hc])
      rw [this] at hl; simp at hl
  · rw [if_neg hl,hin]
theorem zI {t:List UInt8} {g:Bool} (h:¬ tX t g):xj t g = some (Sum.inr (0,false)):=by
  unfold xj
  by_cases h0:t = []
  · rw [if_pos h0]
  · rw [if_neg h0]
    by_cases hl:1 < (t.length:Int)
    · rw [if_pos hl,if_pos (by omega)]
      by_cases hh:((t.getD (0:Int).toNat 0).toNat:Int) = 48
      · rw [if_pos hh]
      · exfalso
        refine h ⟨h0,fun x e=>?_,fun _ e=>by rw [e] at hl; simp at hl⟩
        rw [e] at hh
        exact absurd Z hh
    · rw [if_neg hl]
      by_cases hz:g = true ∧ t = [48]
      · rw [if_pos hz.1,if_pos hz.2]
      · exfalso
        refine h ⟨h0,fun x e=>?_,fun hg e=>hz ⟨hg,e⟩⟩
        rw [e] at hl
        cases x with
        | nil=>rfl
        | cons _ _=>simp at hl; omega
abbrev says (t:List UInt8) (g:Bool) (r:Int × Bool):Prop :=
  (¬ tX t g → r = (0,false)) ∧ (go t 0 = none → r = (0,false)) ∧ (tX t g → ∀ m,go t 0 = some m → r = if g = true then (m,true) else if m = -9223372036854775808 then (0,false) else (bj (0 - m),true))
theorem mr {s t:List UInt8} {g:Bool} (hs:t.length ≤ 1500) (hx:strings_CutPrefix s [45] = (t,g)):∃ r,gb W s = some r ∧ says t g r:=by
  have e:gb W s = Option.bind (xj t g) fun z=>(mD z (fun v3=>(Option.bind (if t.length ≤ 9223372036854775807 then (gJ W (t,g) W 0 0) else none) fun z=>(mD z (fun v4=>(if g = true then (some ((v4,true))) else (if v4 = (-9223372036854775808) then (some ((0,false))) else (some ((bj (0 - v4),true)))))) (fun t_=>(some (t_)))))) (fun t_=>(some (t_)))):=by
    unfold gb xj
    rw [hx]; rfl
  rw [e]
  by_cases hk:tX t g
  · have n0:=BC (t,g) hs W 0 0 (by simp) (by show t.length - 0 < 200000; omega) (by omega)
    have e0:((0:Nat):Int) = 0:=rfl
    rw [e0,List.drop_zero] at n0
    rw [zJ hk]
    simp only [Option.bind_some,mD]
    rw [if_pos (by omega),n0]
    simp only [Option.bind_some]
    cases hg:go t 0 with
    | none=>exact ⟨_,rfl,fun h=>absurd hk h,fun _=>rfl,fun _ m h=>by rw [hg] at h; cases h⟩
    | some m =>
      simp only [mD]
      by_cases hb:g = true
      · rw [if_pos hb]
        exact ⟨_,rfl,fun h=>absurd hk h,fun h=>(by rw [hg] at h; cases h),fun _ m' h=>by rw [hg] at h; cases h; rw [if_pos hb]⟩
      · rw [if_neg hb]
        by_cases hm:m = -9223372036854775808
        · rw [if_pos hm]
          exact ⟨_,rfl,fun h=>absurd hk h,fun _=>rfl,fun _ m' h=>by rw [hg] at h; cases h; rw [if_neg hb,if_pos hm]⟩
        · rw [if_neg hm]
          exact ⟨_,rfl,fun h=>absurd hk h,fun h=>(by rw [hg] at h; cases h),fun _ m' h=>by rw [hg] at h; cases h; rw [if_neg hb,if_neg hm]⟩
  · rw [zI hk]
    exact ⟨_,rfl,fun _=>rfl,fun _=>rfl,fun h=>absurd h hk⟩
theorem tj (n:Nat):ke n ≠ [] ∧ (∀ x,ke n = 48 :: x → x = []):=⟨uZ n,fun x h=>(oY n n (Nat.le_refl _) x h).2⟩
theorem Ac:ke 0 = [48]:=by rw [hG (by omega)]; rfl
theorem ol {t:List UInt8} {m:Int} (hg:go t 0 = some m):tX t true ↔ iK m = 45 :: t:=by
  have hin:=oh t 0 m (by omega) hg
  constructor
  · intro h
    have hd:=pK t.length t (Nat.le_refl _) h.ne h.head m hg
    have hm:m ≠ 0:=by
      intro e
      subst e
      rw [show (-(0:Int)).toNat = 0 from rfl,Ac] at hd
      exact h.zero Z hd.symm
    unfold iK
    rw [if_pos (by omega),hd]
  · intro h
    unfold iK at h
    by_cases hm:m < 0
    · rw [if_pos hm] at h
      have hd:=(List.cons.inj h).2
      have:=tj (-m).toNat
      rw [hd] at this
      refine ⟨this.1,this.2,fun _ e=>?_⟩
      rw [e] at hd
      have:=(oY _ (-m).toNat (Nat.le_refl _) [] hd).1
      omega
    · rw [if_neg hm,show m.toNat = 0 by omega,Ac] at h
      exact absurd (List.cons.inj h).1 (by decide)
theorem oj {t:List UInt8} {m:Int} (hg:go t 0 = some m):tX t false ↔ iK (-m) = t:=by
  have hin:=oh t 0 m (by omega) hg
  have e:iK (-m) = ke (-m).toNat:=by unfold iK; rw [if_neg (by omega)]
  rw [e]
  constructor
  · intro h
    exact pK t.length t (Nat.le_refl _) h.ne h.head m hg
  · intro h
    have:=tj (-m).toNat
    rw [h] at this
    exact ⟨this.1,this.2,fun e=>by cases e⟩
theorem zP {t:List UInt8} (hs:t.length ≤ 1499) {r:Int × Bool} (h:says t true r):dk W (45 :: t) = some r:=by
  unfold dk
  have hl:((45 :: t:List UInt8).length:Int) = t.length + 1:=by simp
  rw [if_neg (by omega)]
  have n0:=yM (45 :: t) (by simp; omega) W 1 0 (by simp) (by unfold W; simp; omega) (by omega)
  have e1:((1:Nat):Int) = 1:=rfl
  rw [e1,show (45 :: t:List UInt8).drop 1 = t from rfl] at n0
  by_cases h20:20 < ((45 :: t:List UInt8).length:Int)
  · rw [if_pos h20]
    congr 1
    cases hg:go t 0 with
    | none=>exact (h.2.1 hg).symm
    | some m =>
      by_cases hk:tX t true
      · have hd:=(ol hg).1 hk
        have hin:=oh t 0 m (by omega) hg
        have:=lV (n:=m) (by omega)
        rw [hd] at this
        omega
      · exact (h.1 hk).symm
  · rw [if_neg h20,if_pos (by omega),if_pos (by rfl)]
    simp only [Option.bind_some]
    rw [n0]
    simp only [Option.bind_some]
    cases hg:go t 0 with
    | none=>simp only [mD]; rw [h.2.1 hg]
    | some m =>
      have hin:=oh t 0 m (by omega) hg
      simp only [mD,fc]
      rw [if_neg (by decide)]
      simp only [mD]
      rw [nS (by omega)]
      simp only [Option.bind_some]
      by_cases hk:tX t true
      · rw [if_neg (by rw [(ol hg).1 hk]; simp),h.2.2 hk m hg,if_pos Z]
      · rw [if_pos (fun e=>hk ((ol hg).2 e)),h.1 hk]
theorem zm {c:UInt8} {l:List UInt8} (hc:¬ c = 45) (hs:(c :: l).length ≤ 1500) {r:Int × Bool} (h:says (c :: l) false r):dk W (c :: l) = some r:=by
  unfold dk
  have hl:((c :: l:List UInt8).length:Int) = l.length + 1:=by simp
  rw [if_neg (by omega)]
  have n0:=yM (c :: l) (by omega) W 0 0 (by simp) (by unfold W; simp at hs ⊢; omega) (by omega)
  have e1:((0:Nat):Int) = 0:=rfl
  rw [e1,List.drop_zero] at n0
  by_cases h20:20 < ((c :: l:List UInt8).length:Int)
  · rw [if_pos h20]
    congr 1
    cases hg:go (c :: l) 0 with
    | none=>exact (h.2.1 hg).symm
    | some m =>
      by_cases hk:tX (c :: l) false
      · have hd:=(oj hg).1 hk
        have hin:=oh _ 0 m (by omega) hg
        by_cases hm:m = -9223372036854775808
        · have:=h.2.2 hk m hg
          rw [if_neg (by simp),if_pos hm] at this
          exact this.symm
        · have:=lV (n:=-m) (by omega)
          rw [hd] at this
          omega
      · exact (h.1 hk).symm
  · have h45:¬ ((((c :: l:List UInt8).getD (0:Int).toNat 0).toNat:Int) = 45):=fun e=>hc (UInt8.toNat_inj.1 (show c.toNat = 45 by
      have e':(c.toNat:Int) = 45:=e
      omega))
    rw [if_neg h20,if_pos (by omega),if_neg h45]
    simp only [Option.bind_some]
    rw [n0]
    simp only [Option.bind_some]
    cases hg:go (c :: l) 0 with
    | none=>simp only [mD]; rw [h.2.1 hg]
    | some m =>
      have hin:=oh _ 0 m (by omega) hg
      simp only [mD,fc]
      rw [if_pos trivial]
      by_cases hm:m = -9223372036854775808
      · rw [if_pos hm]
        by_cases hk:tX (c :: l) false
        · have:=h.2.2 hk m hg
          rw [if_neg (by simp),if_pos hm] at this
          rw [this]
        · rw [h.1 hk]
      · have e0:bj (0 - m) = -m:=by rw [cl (by omega)]; omega
        rw [if_neg hm,e0]
        simp only [mD]
        rw [nS (by omega)]
        simp only [Option.bind_some]
        by_cases hk:tX (c :: l) false
        · rw [if_neg (by rw [(oj hg).1 hk]; simp),h.2.2 hk m hg,if_neg (by simp),if_neg hm,e0]
        · rw [if_pos (fun e=>hk ((oj hg).2 e)),h.1 hk]
theorem zF (s:List UInt8) (hs:s.length ≤ 1500):∃ r,gb W s = some r ∧ dk W s = some r:=by
  match s with
  | [] =>
    have hx:strings_CutPrefix [] [45] = ([],false):=by simp [strings_CutPrefix]
    obtain ⟨r,h1,h2⟩:=mr (t:=[]) (by simp) hx
    have hr:=h2.1 (fun h=>h.ne Z)
    refine ⟨r,h1,?_⟩
    unfold dk
    rw [if_pos (by simp),hr]
  | c :: l =>
    by_cases hc:c = 45
    · subst hc
      have hx:strings_CutPrefix (45 :: l) [45] = (l,true):=by simp [strings_CutPrefix]
      obtain ⟨r,h1,h2⟩:=mr (t:=l) (by simp at hs; omega) hx
      exact ⟨r,h1,zP (by simp at hs; omega) h2⟩
    · have hx:strings_CutPrefix (c :: l) [45] = (c :: l,false):=by
        have hp:([45]:List UInt8).isPrefixOf (c :: l) = false:=by
          show ((45:UInt8) == c && _) = false
          rw [show ((45:UInt8) == c) = false from by rw [beq_eq_false_iff_ne]; exact fun e=>hc e.symm]; rfl
        simp [strings_CutPrefix,hp]
      obtain ⟨r,h1,h2⟩:=mr (t:=c :: l) (by omega) hx
      exact ⟨r,h1,zm hc hs h2⟩
end Go.Proofs.YtgbjponaoeiglaaDoor.WordsReads
end
section
set_option linter.unusedVariables false
set_option linter.unusedSimpArgs false
set_option maxRecDepth 20000
namespace Go.Proofs.YtgbjponaoeiglaaDoor.WordsReads
open Go E
abbrev Wd:=List UInt8
def hQ (ws:List Wd):Wd:=ws.flatMap (32 :: ·)
def mS (w:Wd) (ws:List Wd):Wd:=w ++ hQ ws
theorem iU (w:Wd) (ws:List Wd):hQ (w :: ws) = 32 :: (w ++ hQ ws):=by simp [hQ]
theorem rU (a b:List Wd):hQ (a ++ b) = hQ a ++ hQ b:=by simp [hQ]
theorem xp (w:Wd):hQ [w] = 32 :: w:=by simp [hQ]
theorem qw {b:UInt8} {l:Wd} (h:¬ b = 32):∃ p ps,dL 32 l = p :: ps ∧ dL 32 (b :: l) = (b :: p) :: ps:=by
  cases hs:dL 32 l with
  | nil=>exact absurd hs (kG 32 l)
  | cons p ps=>exact ⟨p,ps,rfl,by rw [dL,if_neg h,hs]⟩
theorem nF:∀ (w:Wd) (ws:List Wd),32 ∉ w → (∀ x ∈ ws,32 ∉ x) → dL 32 (mS w ws) = w :: ws
  | [],[],_,_=>rfl
  | [],v :: ws,_,h=>by
    have ih:=nF v ws (h v (by simp)) fun x hx=>h x (by simp [hx])
    show dL 32 ([] ++ hQ (v :: ws)) = _
    rw [List.nil_append,iU,dL,if_pos Z]
    exact congrArg _ ih
  | b :: w,ws,h,h2=>by
    have ih:=nF w ws (fun hm=>h (List.mem_cons_of_mem _ hm)) h2
    obtain ⟨p,ps,e1,e2⟩:=qw (b:=b) (l:=mS w ws) (fun e=>h (by simp [e]))
    show dL 32 (b :: mS w ws) = _
    rw [e2]
    rw [ih] at e1
    cases e1
    rfl
termination_by w ws=>(ws.length,w.length)
theorem pf:∀ (l w:Wd) (ws:List Wd),dL 32 l = w :: ws → l = mS w ws ∧ 32 ∉ w ∧ ∀ x ∈ ws,32 ∉ x
  | [],w,ws,h=>by cases h; exact ⟨rfl,by simp,by simp⟩
  | b :: l,w,ws,h=>by
    by_cases hb:b = 32
    · rw [dL,if_pos hb] at h
      cases ws with
      | nil=>simp at h; exact absurd h.2 (kG 32 l)
      | cons v ws =>
        simp only [List.cons.injEq] at h
        obtain ⟨h1,h2⟩:=h
        obtain ⟨e,n1,n2⟩:=pf l v ws h2
        subst h1
        refine ⟨?_,by simp,?_⟩
        · show _ = [] ++ hQ (v :: ws)
          rw [List.nil_append,iU,hb,e]; rfl
        · intro x hx
          rcases List.mem_cons.1 hx with rfl | hx
          · exact n1
          · exact n2 x hx
    · obtain ⟨p,ps,e1,e2⟩:=qw (l:=l) hb
      rw [e2] at h
      obtain ⟨q1,q2⟩:=List.cons.inj h
      obtain ⟨e,n1,n2⟩:=pf l p ps e1
      rw [← q1,← q2]
      exact ⟨by rw [e]; rfl,by simp only [List.mem_cons,not_or]; exact ⟨fun e=>hb e.symm,n1⟩,n2⟩
theorem ld {ws vs:List Wd} (h1:∀ x ∈ ws,32 ∉ x) (h2:∀ x ∈ vs,32 ∉ x) (w:Wd) (hw:32 ∉ w) (h:mS w ws = mS w vs):ws = vs:=by
  have a:=nF w ws hw h1
  have b:=nF w vs hw h2
  rw [h,b] at a
  exact (List.cons.inj a).2.symm
theorem wP (ws:List Wd):∀ x ∈ ws,x.length ≤ (hQ ws).length:=by
  intro x hx
  induction ws with
  | nil=>simp at hx
  | cons w ws ih =>
    rw [iU]
    simp only [List.length_cons,List.length_append]
    rcases List.mem_cons.1 hx with rfl | hx
    · omega
    · have:=ih hx; omega
theorem xo (ws:List Wd):ws.length ≤ (hQ ws).length:=by
  induction ws with
  | nil=>simp
  | cons w ws ih=>rw [iU]; simp only [List.length_cons,List.length_append]; omega
theorem xN {d:Nat} (h:d < 10):48 ≤ (dg d).toNat ∧ (dg d).toNat ≤ 57:=by rw [qm h]; omega
theorem pX (n:Nat):∀ c ∈ ke n,48 ≤ c.toNat ∧ c.toNat ≤ 57:=by
  induction n using Nat.strongRecOn with
  | ind n ih =>
    intro c hc
    by_cases h:n < 10
    · rw [hG h] at hc; simp at hc; subst hc; exact xN h
    · rw [lY h] at hc
      rcases List.mem_append.1 hc with hc | hc
      · exact ih (n / 10) (by omega) c hc
      · simp at hc; subst hc; exact xN (by omega)
theorem qd (n:Nat):n ≤ 9223372036854775808 → go (ke n) 0 = some (-(n:Int)):=by
  induction n using Nat.strongRecOn with
  | ind n ih =>
    intro hn
    by_cases h:n < 10
    · rw [hG h,uh]
      unfold tY
      have:=qm h
      rw [if_pos (by omega)]
      congr 1; omega
    · rw [lY h,uS,ih (n / 10) (by omega) (by omega),Option.bind_some,uh]
      unfold tY
      have:=qm (d:=n % 10) (by omega)
      rw [if_pos (by omega)]
      congr 1; omega
def nO (s:Wd):Option Int:=match gb W s with | some (n,true)=>some n | _=>none
def qP (n:Int):Prop:=-9223372036854775808 ≤ n ∧ n ≤ 9223372036854775807
theorem ui {t:Wd} {g:Bool} {r:Int × Bool} (h:says t g r):r.2 = false → r = (0,false):=by
  intro hr
  by_cases hk:tX t g
  · cases hg:go t 0 with
    | none=>exact h.2.1 hg
    | some m =>
      have:=h.2.2 hk m hg
      rw [this] at hr
      split at hr
      · cases hr
      · rename_i hgf
        split at hr
        · rename_i hm; rw [this,if_neg hgf,if_pos hm]
        · cases hr
  · exact h.1 hk
theorem rr (s:Wd) (hs:s.length ≤ 1500):∃ t g r,strings_CutPrefix s [45] = (t,g) ∧ gb W s = some r ∧ says t g r ∧ (g = true → s = 45 :: t) ∧ (g = false → s = t ∧ ∀ l,s ≠ 45 :: l):=by
  match s with
  | [] =>
    have hx:strings_CutPrefix [] [45] = ([],false):=by simp [strings_CutPrefix]
    obtain ⟨r,h1,h2⟩:=mr (t:=[]) (by simp) hx
    exact ⟨_,_,r,hx,h1,h2,by simp,by simp⟩
  | c :: l =>
    by_cases hc:c = 45
    · subst hc
      have hx:strings_CutPrefix (45 :: l) [45] = (l,true):=by simp [strings_CutPrefix]
      obtain ⟨r,h1,h2⟩:=mr (t:=l) (by simp at hs; omega) hx
      exact ⟨_,_,r,hx,h1,h2,by simp,by simp⟩
    · have hx:strings_CutPrefix (c :: l) [45] = (c :: l,false):=by
        have hp:([45]:List UInt8).isPrefixOf (c :: l) = false:=by
          show ((45:UInt8) == c && _) = false
          rw [show ((45:UInt8) == c) = false from by rw [beq_eq_false_iff_ne]; exact fun e=>hc e.symm]; rfl
        simp [strings_CutPrefix,hp]
      obtain ⟨r,h1,h2⟩:=mr (t:=c :: l) (by omega) hx
      exact ⟨_,_,r,hx,h1,h2,by simp,fun _=>⟨rfl,fun l' e=>hc (List.cons.inj e).1⟩⟩
theorem tD (s:Wd) (hs:s.length ≤ 1500):gb W s = some ((nO s).getD 0,(nO s).isSome):=by
  obtain ⟨t,g,r,_,h1,h2,_⟩:=rr s hs
  have hsh:=ui h2
  obtain ⟨n,b⟩:=r
  unfold nO
  rw [h1]
  cases b with
  | true=>rfl
  | false=>cases hsh rfl; rfl
theorem zC (s:Wd) (hs:s.length ≤ 1500):dk W s = some ((nO s).getD 0,(nO s).isSome):=by
  obtain ⟨r,h1,h2⟩:=zF s hs
  rw [tD s hs] at h1
  cases h1
  exact h2
theorem lw {s:Wd} (hs:s.length ≤ 1500) (n:Int):nO s = some n ↔ s = iK n ∧ qP n:=by
  obtain ⟨t,g,r,_,h1,h2,hg1,hg2⟩:=rr s hs
  have he:nO s = some n ↔ r = (n,true):=by
    unfold nO
    rw [h1]
    obtain ⟨m,b⟩:=r
    cases b <;> simp
  rw [he]
  constructor
  · rintro rfl
    by_cases hk:tX t g
    · cases hgo:go t 0 with
      | none=>have:=h2.2.1 hgo; cases this
      | some m =>
        have hin:=oh t 0 m (by omega) hgo
        have:=h2.2.2 hk m hgo
        by_cases hgt:g = true
        · subst hgt
          rw [if_pos Z] at this
          cases this
          exact ⟨(hg1 Z).trans ((ol hgo).1 hk).symm,by unfold qP; omega⟩
        · have hgf:g = false:=by simpa using hgt
          subst hgf
          rw [if_neg (by simp)] at this
          by_cases hm:m = -9223372036854775808
          · rw [if_pos hm] at this; cases this
          · rw [if_neg hm,cl (by omega)] at this
            cases this
            have e:(0:Int) - m = -m:=by omega
            rw [e]
            exact ⟨(hg2 Z).1.trans ((oj hgo).1 hk).symm,by unfold qP; omega⟩
    · have:=h2.1 hk; cases this
  · rintro ⟨hd,hr⟩
    unfold qP at hr
    by_cases hn:n < 0
    · have hd':s = 45 :: ke (-n).toNat:=by rw [hd]; unfold iK; rw [if_pos hn]
      cases g with
      | false=>exact absurd hd' ((hg2 Z).2 _)
      | true =>
        have ht:t = ke (-n).toNat:=by have:=hg1 Z; rw [this] at hd'; exact (List.cons.inj hd').2
        have hgo:go t 0 = some n:=by rw [ht,qd _ (by omega)]; congr 1; omega
        have hk:tX t true:=(ol hgo).2 (by rw [← hd]; exact hg1 Z)
        rw [h2.2.2 hk n hgo,if_pos Z]
    · have hd':s = ke n.toNat:=by rw [hd]; unfold iK; rw [if_neg hn]
      cases g with
      | true =>
        have:=hg1 Z
        rw [hd'] at this
        have:=pX n.toNat 45 (by rw [this]; simp)
        have h45:(45:UInt8).toNat = 45:=rfl
        omega
      | false =>
        have ht:t = ke n.toNat:=by rw [← (hg2 Z).1]; exact hd'
        have hgo:go t 0 = some (-n):=by rw [ht,qd _ (by omega)]; congr 1; omega
        have hk:tX t false:=(oj hgo).2 (by rw [show -(-n) = n by omega,← hd]; exact (hg2 Z).1)
        rw [h2.2.2 hk _ hgo,if_neg (by simp),if_neg (by omega),show (0:Int) - -n = n by omega,cl (by omega)]
theorem ng (n:Int):32 ∉ iK n:=by
  have h32:(32:UInt8).toNat = 32:=rfl
  unfold iK
  split
  · intro h
    rcases List.mem_cons.1 h with h | h
    · cases h
    · have:=pX _ _ h; omega
  · intro h
    have:=pX _ _ h; omega
def bO (s:Wd):Option Wd:=match gf W s with | some (true,t)=>some t | _=>none
theorem uu (s:Wd) (hs:s.length ≤ 1500):∃ o:Option Wd,gf W s = some (o.isSome,o.getD []) ∧ eK W s = some (o.getD [],o.isSome) ∧ ∀ t,o = some t ↔ s = jM t:=by
  have inj:∀ b c:Wd,jM b = jM c → b = c:=by
    intro b c h
    have hq:∀ x:Wd,¬ Q x = [45]:=by
      intro x hx
      have h1:=RQ x
      rw [hx,show R [45] = [45] from by decide +kernel] at h1
      rw [← h1] at hx
      exact absurd hx (by decide +kernel)
    unfold jM at h
    by_cases hb:b = [] <;> by_cases hc:c = []
    · rw [hb,hc]
    · rw [if_pos hb,if_neg hc] at h; exact absurd h.symm (hq c)
    · rw [if_neg hb,if_pos hc] at h; exact absurd h (hq b)
    · rw [if_neg hb,if_neg hc] at h
      have:=congrArg R h
      rwa [RQ,RQ] at this
  by_cases h45:s = [45]
  · refine ⟨some [],?_,?_,fun t=>⟨fun h=>(by cases h; rw [h45]; rfl),fun h=>by rw [h45] at h; exact congrArg some (inj [] t (by rw [← h]; rfl))⟩⟩
    · unfold gf; rw [if_pos h45]; rfl
    · unfold eK
      rw [if_neg (by simpa using h45)]
      simp only [Option.bind_some]
      rw [show mg ([]:List Int) = [] from rfl,lR [] (by simp)]
      simp only [Option.bind_some]
      rw [if_neg (by rw [h45]; simp [jM])]
      rfl
  · obtain ⟨b,t,e1,e2⟩:=Bu s hs
    have r:=sr s hs W 0 [] (by omega) (by unfold W; omega) (by simp)
    have e:=vD s hs W 0 [] (by omega) (by unfold W; omega) (by simp)
    have e0:((0:Nat):Int) = 0:=rfl
    rw [e0,List.drop_zero] at e r
    have eb:dn ([]:List UInt8) = []:=rfl
    rw [eb] at e r
    rw [List.nil_append] at r
    have hrl:=vW s.length s (Nat.le_refl _)
    unfold gf eK
    rw [if_neg h45,if_pos h45,e,r]
    simp only [Option.bind_some]
    rw [nk,lR (R s) (by omega)]
    simp only [Option.bind_some]
    cases hD:D s with
    | none =>
      simp only [mD]
      have hno:∀ t,¬ s = jM t:=by
        intro t hw
        unfold jM at hw
        by_cases hR:t = []
        · rw [if_pos hR] at hw; exact h45 hw
        · rw [if_neg hR] at hw
          rw [hw,DQ] at hD; cases hD
      rw [if_pos (fun q=>hno _ q.symm)]
      exact ⟨none,rfl,rfl,fun t=>⟨fun h=>(by cases h),fun h=>absurd h (hno t)⟩⟩
    | some b =>
      simp only [mD,List.nil_append]
      have hq:=QD s.length s b (Nat.le_refl _) hD
      have hR:R s = b:=by rw [hq,RQ]
      have hlb:=kt b
      have hdec:decide (0 < ((dn b).length:Int)) = decide (0 < (b.length:Int)):=by rw [decide_eq_decide]; omega
      rw [hR,hdec,nk]
      by_cases hb:b = []
      · subst hb
        have hs0:s = []:=hq
        rw [if_pos (by rw [hs0]; simp [jM])]
        refine ⟨none,rfl,rfl,fun t=>⟨fun h=>(by cases h),fun h=>?_⟩⟩
        rw [hs0] at h
        unfold jM at h
        by_cases ht:t = []
        · rw [if_pos ht] at h; cases h
        · rw [if_neg ht] at h
          have h1:=RQ t
          rw [← h,show R [] = [] from by decide +kernel] at h1
          exact absurd h1.symm ht
      · have hl:0 < b.length:=by cases b with | nil=>exact absurd rfl hb | cons _ _=>simp
        have hw:jM b = s:=by unfold jM; rw [if_neg hb,hq]
        rw [if_neg (by rw [hw]; simp)]
        refine ⟨some b,by rw [show decide (0 < (b.length:Int)) = true from decide_eq_true (by omega)]; rfl,rfl,fun t=>⟨fun h=>(by cases h; exact hw.symm),fun h=>?_⟩⟩
        rw [← hw] at h
        exact congrArg some (inj b t h)
theorem yu {s:Wd} {o:Option Wd} (h:gf W s = some (o.isSome,o.getD [])):bO s = o:=by
  unfold bO
  rw [h]
  cases o <;> rfl
theorem rV (s:Wd) (hs:s.length ≤ 1500):gf W s = some ((bO s).isSome,(bO s).getD []):=by
  obtain ⟨o,h1,h2,h3⟩:=uu s hs
  rw [yu h1]; exact h1
theorem yL (s:Wd) (hs:s.length ≤ 1500):eK W s = some ((bO s).getD [],(bO s).isSome):=by
  obtain ⟨o,h1,h2,h3⟩:=uu s hs
  rw [yu h1]; exact h2
theorem oL {s:Wd} (hs:s.length ≤ 1500) (t:Wd):bO s = some t ↔ s = jM t:=by
  obtain ⟨o,h1,h2,h3⟩:=uu s hs
  rw [yu h1]; exact h3 t
theorem zS:∀ n,n < 16 → hx n ≠ 32:=by decide +kernel
theorem BD:pl 32 = false:=by decide +kernel
theorem vO (t:Wd):32 ∉ jM t:=by
  unfold jM
  split
  · decide
  · unfold Q
    intro h
    obtain ⟨c,_,hc⟩:=List.mem_flatMap.1 h
    unfold qb at hc
    split at hc
    · rename_i hp
      simp at hc; subst hc; rw [BD] at hp; cases hp
    · have hl:=c.toNat_lt
      simp at hc
      rcases hc with h1 | h1
      · exact zS _ (by omega) h1.symm
      · exact zS _ (by omega) h1.symm
end Go.Proofs.YtgbjponaoeiglaaDoor.WordsReads
end
section
set_option linter.unusedVariables false
namespace Go.Proofs.YtgbjponaoeiglaaDoor.E
open Go
def ot (y:Int):Bool:=decide (y % 4 = 0 ∧ (y % 100 ≠ 0 ∨ y % 400 = 0))
def oc (y m:Int):Int:=if m = 2 then (if ot y = true then 29 else 28) else if m = 4 ∨ m = 6 ∨ m = 9 ∨ m = 11 then 30 else 31
def Bv (y:Int):Int:=y / 400 * 146097 + 365 * (y % 400) + (y % 400) / 4 - (y % 400) / 100
def Bp (y m:Int):Int:=Bv y + (153 * m + 2) / 5 - 719468
def jl (k:Int):Int:=Bp (1970 + (k - 2) / 12) ((k - 2) % 12)
theorem tV (y:Int):Bv (y + 1) = Bv y + 365 + (if ot (y + 1) = true then 1 else 0):=by
  unfold Bv ot
  simp only [decide_eq_true_eq]
  split
  · rename_i h
    omega
  · rename_i h
    omega
theorem lW (k:Int):jl (k + 1) = jl k + oc (1970 + k / 12) (k % 12 + 1):=by
  unfold jl Bp
  have hm:(k - 2) % 12 = 0 ∨ (k - 2) % 12 = 1 ∨ (k - 2) % 12 = 2 ∨ (k - 2) % 12 = 3 ∨ (k - 2) % 12 = 4 ∨ (k - 2) % 12 = 5 ∨ (k - 2) % 12 = 6 ∨ (k - 2) % 12 = 7 ∨ (k - 2) % 12 = 8 ∨ (k - 2) % 12 = 9 ∨ (k - 2) % 12 = 10 ∨ (k - 2) % 12 = 11:=by omega
  rcases hm with h | h | h | h | h | h | h | h | h | h | h | h
  all_goals
    first
      | (have e1:(k + 1 - 2) % 12 = (k - 2) % 12 + 1:=by omega
         have e2:(k + 1 - 2) / 12 = (k - 2) / 12:=by omega
         rw [e1,e2,h]
         have e3:k % 12 = 0 ∨ k % 12 = 2 ∨ k % 12 = 3 ∨ k % 12 = 4 ∨ k % 12 = 5 ∨ k % 12 = 6 ∨ k % 12 = 7 ∨ k % 12 = 8 ∨ k % 12 = 9 ∨ k % 12 = 10 ∨ k % 12 = 11:=by omega
         unfold oc
         split
         · omega
         · split <;> omega)
      | (have e1:(k + 1 - 2) % 12 = 0:=by omega
         have e2:(k + 1 - 2) / 12 = (k - 2) / 12 + 1:=by omega
         have e3:1970 + ((k - 2) / 12 + 1) = (1970 + (k - 2) / 12) + 1:=by omega
         have e4:1970 + k / 12 = (1970 + (k - 2) / 12) + 1:=by omega
         rw [e1,e2,e3,e4,h,tV]
         unfold oc
         have e5:k % 12 + 1 = 2:=by omega
         rw [if_pos e5]
         split <;> omega)
theorem mn (y m:Int):28 ≤ oc y m ∧ oc y m ≤ 31:=by
  unfold oc; split
  · split <;> omega
  · split <;> omega
theorem tg:jl 0 = 0:=by decide
theorem AG (k:Int):jl k + 28 ≤ jl (k + 1):=by
  have:=mn (1970 + k / 12) (k % 12 + 1)
  rw [lW]; omega
theorem vf (k:Int):∀ n:Nat,jl k + 28 * n ≤ jl (k + n)
  | 0=>by simp
  | n + 1=>by
    have h1:=vf k n
    have h2:=AG (k + n)
    have e:k + ((n + 1:Nat):Int) = k + n + 1:=by omega
    rw [e]; omega
theorem lU {j k:Int} (h:j ≤ k):jl j ≤ jl k:=by
  obtain ⟨n,hn⟩:∃ n:Nat,k = j + n:=⟨(k - j).toNat,by omega⟩
  have:=vf j n
  rw [hn]; omega
theorem wH {d j k:Int} (h1:jl j ≤ d) (h2:d < jl (j + 1)) (h3:jl k ≤ d) (h4:d < jl (k + 1)):j = k:=by
  rcases Int.lt_trichotomy j k with h | h | h
  · have:=lU (show j + 1 ≤ k by omega); omega
  · exact h
  · have:=lU (show k + 1 ≤ j by omega); omega
theorem uI {Y m:Int} (h0:0 ≤ m) (h1:m ≤ 11):jl (12 * (Y - 1970) + m + 2) = Bp Y m:=by
  unfold jl
  have e1:(12 * (Y - 1970) + m + 2 - 2) / 12 = Y - 1970:=by omega
  have e2:(12 * (Y - 1970) + m + 2 - 2) % 12 = m:=by omega
  rw [e1,e2]; congr 1; omega
theorem tk (y:Int):jl (12 * (y + 1 - 1970)) = jl (12 * (y - 1970)) + (if ot y = true then 366 else 365):=by
  have a1:12 * (y + 1 - 1970) = 12 * (y - 1970) + 10 + 2:=by omega
  have a2:12 * (y - 1970) = 12 * (y - 1 - 1970) + 10 + 2:=by omega
  rw [a1,uI (by omega) (by omega)]
  conv=>rhs; rw [a2,uI (by omega) (by omega)]
  unfold Bp
  have:=tV (y - 1)
  have e:y - 1 + 1 = y:=by omega
  rw [e] at this
  rw [this]
  split <;> omega
end Go.Proofs.YtgbjponaoeiglaaDoor.E
end
section
set_option linter.unusedVariables false
set_option linter.unusedSimpArgs false
set_option maxRecDepth 20000
namespace Go.Proofs.YtgbjponaoeiglaaDoor.WordsReads
open Go E
theorem nz {a b:Int} (h:0 ≤ a):Int.tdiv a b = a / b:=Int.tdiv_eq_ediv_of_nonneg h
theorem mJ {a b:Int} (h:0 ≤ a):Int.tmod a b = a % b:=Int.tmod_eq_emod_of_nonneg h
theorem sW {y:Int} (h:0 ≤ y):fb y = ot y:=by
  unfold fb ot
  rw [mJ h,mJ h,mJ h]
  by_cases h1:y % 4 = 0
  · by_cases h2:y % 100 = 0
    · simp [h1,h2]
      rw [Bool.eq_iff_iff]; simp
    · simp [h1,h2]
  · simp [h1]
theorem vj {y:Int} (h:0 ≤ y):eH y = if ot y = true then 366 else 365:=by
  unfold eH
  simp only [fc,sW h]
theorem pc {y m:Int} (h:0 ≤ y) (h1:1 ≤ m) (h2:m ≤ 12):cC y m = oc y m:=by
  unfold cC oc
  simp only [fc,sW h]
  have hm:m = 1 ∨ m = 2 ∨ m = 3 ∨ m = 4 ∨ m = 5 ∨ m = 6 ∨ m = 7 ∨ m = 8 ∨ m = 9 ∨ m = 10 ∨ m = 11 ∨ m = 12:=by omega
  rcases hm with rfl | rfl | rfl | rfl | rfl | rfl | rfl | rfl | rfl | rfl | rfl | rfl <;> simp
theorem mE {k:Int} (h0:0 ≤ k) (h1:k ≤ 37000):0 ≤ jl k ∧ jl k ≤ 2000000:=by
  have a:=lU h0
  rw [tg] at a
  have b:=lU h1
  have c:jl 37000 ≤ 2000000:=by decide
  omega
theorem rD {K:Nat} {a:Int} (ha:a ≤ 4901):∀ (f:Nat) (n y:Int),1970 ≤ y → y ≤ a → n = jl (12 * (y - 1970)) → a - y < f → fg K a f n y = some (jl (12 * (a - 1970)))
  | 0,n,y,h0,h1,h2,h3=>by omega
  | f + 1,n,y,h0,h1,h2,h3=>by
    unfold fg
    by_cases hy:y < a
    · rw [if_pos hy]
      have b:=mE (k:=12 * (y - 1970)) (by omega) (by omega)
      simp only [fc,vj (show 0 ≤ y by omega)]
      have e:=tk y
      rw [cl (n:=y + 1) (by omega),cl (by split <;> omega)]
      exact rD ha f _ (y + 1) (by omega) (by omega) (by rw [h2,e]) (by omega)
    · rw [if_neg hy]
      have:y = a:=by omega
      rw [h2,this]
theorem rm {K:Nat} {y a:Int} (hy:1970 ≤ y) (hy2:y ≤ 4901) (ha:a ≤ 12):∀ (f:Nat) (n m:Int),1 ≤ m → m ≤ a → n = jl (12 * (y - 1970) + m - 1) → a - m < f → fp K y a f n m = some (jl (12 * (y - 1970) + a - 1))
  | 0,n,m,h0,h1,h2,h3=>by omega
  | f + 1,n,m,h0,h1,h2,h3=>by
    unfold fp
    by_cases hm:m < a
    · rw [if_pos hm]
      have b:=mE (k:=12 * (y - 1970) + m - 1) (by omega) (by omega)
      simp only [fc,pc (show 0 ≤ y by omega) h0 (by omega)]
      have c:=mn y m
      have e:=lW (12 * (y - 1970) + m - 1)
      have e1:1970 + (12 * (y - 1970) + m - 1) / 12 = y:=by omega
      have e2:(12 * (y - 1970) + m - 1) % 12 + 1 = m:=by omega
      rw [e1,e2] at e
      rw [cl (n:=m + 1) (by omega),cl (by omega)]
      refine rm hy hy2 ha f _ (m + 1) (by omega) (by omega) ?_ (by omega)
      rw [h2,← e]; congr 1; omega
    · rw [if_neg hm]
      have:m = a:=by omega
      rw [h2,this]
theorem vd {K:Nat} {d:Int} (hd:d ≤ 1000000):∀ (f:Nat) (r y:Int),1970 ≤ y → r = d - jl (12 * (y - 1970)) → 0 ≤ r → 5000 - y < f →
    ∃ Y,fR K f r y = some (d - jl (12 * (Y - 1970)),Y) ∧ 1970 ≤ Y ∧ Y < 5000 ∧ jl (12 * (Y - 1970)) ≤ d ∧ d < jl (12 * (Y + 1 - 1970))
  | 0,r,y,h0,h1,h2,h3=>by
    have a:=lU (show 36360 ≤ 12 * (y - 1970) by omega)
    have b:(1000000:Int) < jl 36360:=by decide
    omega
  | f + 1,r,y,h0,h1,h2,h3=>by
    have hy:y < 5000:=by
      apply Classical.byContradiction
      intro hc
      have a:=lU (show 36360 ≤ 12 * (y - 1970) by omega)
      have b:(1000000:Int) < jl 36360:=by decide
      omega
    unfold fR
    simp only [fc,vj (show 0 ≤ y by omega)]
    have e:=tk y
    have b:=mE (k:=12 * (y - 1970)) (by omega) (by omega)
    by_cases hc:(if ot y = true then 366 else 365) ≤ r
    · rw [if_pos hc,if_pos hy,cl (n:=y + 1) (by omega),cl (by split <;> omega)]
      exact vd hd f _ (y + 1) (by omega) (by rw [e]; omega) (by omega) (by omega)
    · rw [if_neg hc]
      exact ⟨y,by rw [h1],h0,hy,by omega,by rw [e]; omega⟩
theorem vp {K:Nat} {d y z:Int} (hd:d ≤ 1000000) (hy:1970 ≤ y) (hy2:y < 5000) (hd2:d < jl (12 * (y + 1 - 1970))):∀ (f:Nat) (r m:Int),1 ≤ m → m ≤ 12 → r = d - jl (12 * (y - 1970) + m - 1) → 0 ≤ r → 12 - m < f →
    ∃ M,fO K (z,y) f r m = some (d - jl (12 * (y - 1970) + M - 1),M) ∧ 1 ≤ M ∧ M ≤ 12 ∧ jl (12 * (y - 1970) + M - 1) ≤ d ∧ d < jl (12 * (y - 1970) + M)
  | 0,r,m,h0,h1,h2,h3,h4=>by omega
  | f + 1,r,m,h0,h1,h2,h3,h4=>by
    unfold fO
    simp only []
    have b:=mE (k:=12 * (y - 1970) + m - 1) (by omega) (by omega)
    by_cases hm:m < 12
    · rw [if_pos hm]
      simp only [fc,pc (show 0 ≤ y by omega) h0 (by omega)]
      have c:=mn y m
      have e:=lW (12 * (y - 1970) + m - 1)
      have e1:1970 + (12 * (y - 1970) + m - 1) / 12 = y:=by omega
      have e2:(12 * (y - 1970) + m - 1) % 12 + 1 = m:=by omega
      have e3:12 * (y - 1970) + m - 1 + 1 = 12 * (y - 1970) + m:=by omega
      rw [e1,e2,e3] at e
      by_cases hc:oc y m ≤ r
      · rw [if_pos hc,cl (n:=m + 1) (by omega),cl (by omega)]
        refine vp hd hy hy2 hd2 f _ (m + 1) (by omega) (by omega) ?_ (by omega) (by omega)
        have e4:12 * (y - 1970) + (m + 1) - 1 = 12 * (y - 1970) + m:=by omega
        rw [e4,e]; omega
      · rw [if_neg hc]
        exact ⟨m,by rw [h2],h0,h1,by omega,by rw [e]; omega⟩
    · rw [if_neg hm]
      have e:m = 12:=by omega
      subst e
      refine ⟨12,by rw [h2],by omega,by omega,by omega,?_⟩
      have e4:12 * (y - 1970) + 12 = 12 * (y + 1 - 1970):=by omega
      rw [e4]; exact hd2
structure kZ (y m d:Int):Prop where
  y0:1970 ≤ y
  y1:y ≤ 4900
  m0:1 ≤ m
  m1:m ≤ 12
  d0:1 ≤ d
  d1:d ≤ oc y m
def iT (y m d:Int):Int:=jl (12 * (y - 1970) + m - 1) + d - 1
instance (y m d:Int):Decidable (kZ y m d) :=
  if h:1970 ≤ y ∧ y ≤ 4900 ∧ 1 ≤ m ∧ m ≤ 12 ∧ 1 ≤ d ∧ d ≤ oc y m then .isTrue ⟨h.1,h.2.1,h.2.2.1,h.2.2.2.1,h.2.2.2.2.1,h.2.2.2.2.2⟩
  else .isFalse fun q=>h ⟨q.y0,q.y1,q.m0,q.m1,q.d0,q.d1⟩
theorem uT {y m:Int} (h:¬ (1 ≤ m ∧ m ≤ 12)):cC y m = 0:=by
  unfold cC
  have e:∀ k:Int,1 ≤ k → k ≤ 12 → ¬ m = k:=by intro k h1 h2 e; omega
  have b:∀ k:Int,1 ≤ k → k ≤ 12 → (m == k) = false:=by intro k h1 h2; rw [beq_eq_false_iff_ne]; exact e k h1 h2
  simp only [fc]
  rw [if_neg (e 2 (by omega) (by omega)),if_neg (e 4 (by omega) (by omega)),if_neg (e 6 (by omega) (by omega)),if_neg (e 9 (by omega) (by omega)),b 11 (by omega) (by omega),if_neg (by simp),if_neg (e 1 (by omega) (by omega)),if_neg (e 3 (by omega) (by omega)),if_neg (e 5 (by omega) (by omega)),if_neg (e 7 (by omega) (by omega)),if_neg (e 8 (by omega) (by omega)),if_neg (e 10 (by omega) (by omega)),b 12 (by omega) (by omega),if_neg (by simp)]
theorem mU {y m d:Int} (h:kZ y m d):0 ≤ iT y m d ∧ iT y m d ≤ 2000000:=by
  have b:=mE (k:=12 * (y - 1970) + m - 1) (by have:=h.y0; have:=h.m0; omega) (by have:=h.y1; have:=h.m1; omega)
  have b2:=mE (k:=12 * (y - 1970) + m) (by have:=h.y0; have:=h.m0; omega) (by have:=h.y1; have:=h.m1; omega)
  have e:=lW (12 * (y - 1970) + m - 1)
  have e1:1970 + (12 * (y - 1970) + m - 1) / 12 = y:=by have:=h.m0; have:=h.m1; omega
  have e2:(12 * (y - 1970) + m - 1) % 12 + 1 = m:=by have:=h.m0; have:=h.m1; omega
  have e3:12 * (y - 1970) + m - 1 + 1 = 12 * (y - 1970) + m:=by omega
  rw [e1,e2,e3] at e
  have:=h.d0; have:=h.d1
  unfold iT
  omega
theorem wN (y m d:Int) (hy:0 ≤ y) (hm:0 ≤ m ∧ m ≤ 100) (hd:0 ≤ d ∧ d ≤ 100):fT W y m d = some (if kZ y m d then (iT y m d,true) else (0,false)):=by
  unfold fT
  by_cases h1:y < 1970
  · rw [if_pos h1,if_neg (fun q=>by have:=q.y0; omega)]
  rw [if_neg h1]
  by_cases h2:4900 < y
  · rw [if_pos h2,if_neg (fun q=>by have:=q.y1; omega)]
  rw [if_neg h2]
  by_cases h3:d < 1
  · rw [if_pos h3,if_neg (fun q=>by have:=q.d0; omega)]
  rw [if_neg h3]
  simp only [fc]
  by_cases h4:1 ≤ m ∧ m ≤ 12
  · rw [pc hy h4.1 h4.2]
    by_cases h5:oc y m < d
    · rw [if_pos h5,if_neg (fun q=>by have:=q.d1; omega)]
    · have hv:kZ y m d:=⟨by omega,by omega,h4.1,h4.2,by omega,by omega⟩
      rw [if_neg h5,if_pos hv,rD (by omega) W 0 1970 (by omega) (by omega) (by decide) (by unfold W; omega)]
      simp only [Option.bind_some]
      rw [rm (by omega) (by omega) h4.2 W _ 1 (by omega) h4.1 (by congr 1; omega) (by unfold W; omega)]
      have b:=mE (k:=12 * (y - 1970) + m - 1) (by omega) (by omega)
      simp only [Option.bind_some]
      rw [cl (n:=jl (12 * (y - 1970) + m - 1) + d) (by omega),cl (by omega)]
      rfl
  · rw [uT h4,if_pos (by omega),if_neg (fun q=>h4 ⟨q.m0,q.m1⟩)]
theorem Bd {y:Int} (h:0 ≤ y):kB y = ot y:=by
  have e:=sW h
  unfold fb at e
  unfold kB
  by_cases h1:Int.tmod y 4 = 0
  · rw [if_pos h1] at e ⊢
    exact e
  · rw [if_neg h1] at e ⊢
    rw [← e,beq_eq_false_iff_ne]
    rw [mJ h] at h1 ⊢
    omega
theorem BP {y m:Int} (hy:0 ≤ y) (h1:1 ≤ m) (h2:m ≤ 12):ig y m = oc y m:=by
  unfold ig oc
  rw [if_neg (by omega),if_neg (by omega)]
  simp only [fc,Bd hy]
  have hm:m = 1 ∨ m = 2 ∨ m = 3 ∨ m = 4 ∨ m = 5 ∨ m = 6 ∨ m = 7 ∨ m = 8 ∨ m = 9 ∨ m = 10 ∨ m = 11 ∨ m = 12:=by omega
  rcases hm with rfl | rfl | rfl | rfl | rfl | rfl | rfl | rfl | rfl | rfl | rfl | rfl
  all_goals first | rfl | decide +kernel
theorem zx {y m d:Int} (h:kZ y m d):jC y m d = iT y m d:=by
  have b:=mU h
  have y0:=h.y0; have y1:=h.y1; have m0:=h.m0; have m1:=h.m1; have d0:=h.d0; have d1:=h.d1
  have hl:=mn y m
  have key:∀ Y M:Int,1969 ≤ Y → Y ≤ 4900 → 0 ≤ M → M ≤ 11 → 12 * (Y - 1970) + M + 2 = 12 * (y - 1970) + m - 1 → (bj ((bj ((bj ((bj (Int.tdiv Y 400)) * 146097)) + (bj ((bj ((bj ((bj ((bj ((bj (365 * (Int.tmod Y 400))) + (bj (Int.tdiv (Int.tmod Y 400) 4)))) - (bj (Int.tdiv (Int.tmod Y 400) 100)))) + (bj (Int.tdiv (bj ((bj (153 * M)) + 2)) 5)))) + d)) - 1)))) - 719468)) = iT y m d:=by
    intro Y M hY hY2 hM hM2 e
    have e2:=uI (Y:=Y) hM hM2
    rw [e] at e2
    unfold iT
    rw [e2]
    unfold Bp Bv
    rw [nz (a:=Y) (by omega),mJ (a:=Y) (by omega),cl (n:=Y / 400) (by omega),cl (n:=Y / 400 * 146097) (by omega),cl (n:=365 * (Y % 400)) (by omega),nz (a:=Y % 400) (b:=4) (by omega),nz (a:=Y % 400) (b:=100) (by omega),cl (n:=Y % 400 / 4) (by omega),cl (n:=Y % 400 / 100) (by omega),cl (n:=365 * (Y % 400) + Y % 400 / 4) (by omega),cl (n:=365 * (Y % 400) + Y % 400 / 4 - Y % 400 / 100) (by omega),
      cl (n:=153 * M) (by omega),cl (n:=153 * M + 2) (by omega),nz (a:=153 * M + 2) (by omega),cl (n:=(153 * M + 2) / 5) (by omega),cl (n:=365 * (Y % 400) + Y % 400 / 4 - Y % 400 / 100 + (153 * M + 2) / 5) (by omega),cl (n:=365 * (Y % 400) + Y % 400 / 4 - Y % 400 / 100 + (153 * M + 2) / 5 + d) (by omega),cl (n:=365 * (Y % 400) + Y % 400 / 4 - Y % 400 / 100 + (153 * M + 2) / 5 + d - 1) (by omega),cl (n:=_ + (_ - 1)) (by omega),cl (by omega)]
    omega
  unfold jC
  rw [cl (n:=m - 3) (by omega)]
  by_cases hc:m - 3 < 0
  · rw [if_pos hc,cl (n:=y - 1) (by omega),cl (n:=m - 3 + 12) (by omega)]
    simp only [fc]
    exact key (y - 1) (m - 3 + 12) (by omega) (by omega) (by omega) (by omega) (by omega)
  · rw [if_neg hc]
    simp only [fc]
    exact key y (m - 3) (by omega) (by omega) (by omega) (by omega) (by omega)
theorem zN (y m d:Int) (hy:0 ≤ y) (hm:0 ≤ m ∧ m ≤ 100) (hd:0 ≤ d ∧ d ≤ 100):jE y m d = (if kZ y m d then (iT y m d,true) else (0,false)):=by
  unfold jE
  by_cases h1:y < 1970
  · rw [if_pos h1,if_neg (fun q=>by have:=q.y0; omega)]
  rw [if_neg h1]
  by_cases h2:4900 < y
  · rw [if_pos h2,if_neg (fun q=>by have:=q.y1; omega)]
  rw [if_neg h2]
  by_cases h3:d < 1
  · rw [if_pos h3,if_neg (fun q=>by have:=q.d0; omega)]
  rw [if_neg h3]
  simp only [fc]
  by_cases h4:1 ≤ m ∧ m ≤ 12
  · rw [BP hy h4.1 h4.2]
    by_cases h5:oc y m < d
    · rw [if_pos h5,if_neg (fun q=>by have:=q.d1; omega)]
    · have hv:kZ y m d:=⟨by omega,by omega,h4.1,h4.2,by omega,by omega⟩
      rw [if_neg h5,if_pos hv,zx hv]
  · have:ig y m = 0:=by
      unfold ig
      by_cases h5:m < 1
      · rw [if_pos h5]
      · rw [if_neg h5,if_pos (by omega)]
    rw [this,if_pos (by omega),if_neg (fun q=>h4 ⟨q.m0,q.m1⟩)]
theorem wb {y m d y' m' d':Int} (h:kZ y m d) (h':kZ y' m' d') (e:iT y m d = iT y' m' d'):y = y' ∧ m = m' ∧ d = d':=by
  unfold iT at e
  have y0:=h.y0; have m0:=h.m0; have m1:=h.m1; have d0:=h.d0; have d1:=h.d1
  have y0':=h'.y0; have m0':=h'.m0; have m1':=h'.m1; have d0':=h'.d0; have d1':=h'.d1
  have a:=lW (12 * (y - 1970) + m - 1)
  rw [show 1970 + (12 * (y - 1970) + m - 1) / 12 = y by omega,show (12 * (y - 1970) + m - 1) % 12 + 1 = m by omega] at a
  have a':=lW (12 * (y' - 1970) + m' - 1)
  rw [show 1970 + (12 * (y' - 1970) + m' - 1) / 12 = y' by omega,show (12 * (y' - 1970) + m' - 1) % 12 + 1 = m' by omega] at a'
  have hk:=wH (d:=jl (12 * (y - 1970) + m - 1) + d - 1) (j:=12 * (y - 1970) + m - 1) (k:=12 * (y' - 1970) + m' - 1) (by omega) (by omega) (by omega) (by omega)
  have hy:y = y':=by omega
  have hm:m = m':=by omega
  subst hy; subst hm
  exact ⟨rfl,rfl,by omega⟩
theorem zr {d:Int} (h0:0 ≤ d) (h1:d ≤ 1000000):∃ y m k,gC W d = some (y,m,k) ∧ kZ y m k ∧ iT y m k = d:=by
  unfold gC
  obtain ⟨Y,e1,y1,y2,y3,y4⟩:=vd (K:=W) h1 W d 1970 (by omega) (by rw [show (12:Int) * (1970 - 1970) = 0 by decide,tg]; omega) h0 (by unfold W; omega)
  rw [e1]
  simp only [Option.bind_some]
  obtain ⟨M,f1,m1,m2,m3,m4⟩:=vp (K:=W) (d:=d) (y:=Y) (z:=d - jl (12 * (Y - 1970))) h1 y1 y2 y4 W (d - jl (12 * (Y - 1970))) 1 (by omega) (by omega) (by congr 2; omega) (by omega) (by unfold W; omega)
  rw [f1]
  simp only [Option.bind_some]
  have e:=lW (12 * (Y - 1970) + M - 1)
  rw [show 1970 + (12 * (Y - 1970) + M - 1) / 12 = Y by omega,show (12 * (Y - 1970) + M - 1) % 12 + 1 = M by omega,show 12 * (Y - 1970) + M - 1 + 1 = 12 * (Y - 1970) + M by omega] at e
  have hl:=mn Y M
  have hY:Y ≤ 4900:=by
    apply Classical.byContradiction
    intro hc
    have a:=lU (show 35172 ≤ 12 * (Y - 1970) by omega)
    have b:(1000000:Int) < jl 35172:=by decide
    omega
  refine ⟨Y,M,_,rfl,⟨y1,hY,m1,m2,?_,?_⟩,?_⟩
  · rw [cl (by omega)]; omega
  · rw [cl (by omega)]; omega
  · rw [cl (by omega)]; unfold iT; omega
end Go.Proofs.YtgbjponaoeiglaaDoor.WordsReads
end
section
set_option linter.unusedVariables false
set_option linter.unusedSimpArgs false
set_option maxRecDepth 20000
namespace Go.Proofs.YtgbjponaoeiglaaDoor.WordsReads
open Go E
def jA:Nat → Nat → Wd
  | 0,_=>[]
  | k + 1,n=>jA k (n / 10) ++ [dg (n % 10)]
theorem fK:∀ k n,(jA k n).length = k
  | 0,_=>rfl
  | k + 1,n=>by simp [jA,fK k (n / 10)]
theorem yh (k n:Nat) (t:Wd):jA (k + 1) n ++ t = jA k (n / 10) ++ (dg (n % 10) :: t):=by simp [jA]
theorem rL {a:Nat} (ha:a ≤ 4):∀ (f i n:Nat) (t:Wd),i ≤ a → a - i < f → n ≤ 1000000 → t.length ≤ i → fm W a f n t i = some (jA (a - i) n ++ t)
  | 0,i,n,t,h0,h1,h2,h3=>by omega
  | f + 1,i,n,t,h0,h1,h2,h3=>by
    rw [fm]
    by_cases h:i < a
    · have e1:Int.tmod (n:Int) 10 = ((n % 10:Nat):Int):=by rw [mJ (by omega)]; omega
      have e2:bj (Int.tdiv (n:Int) 10) = ((n / 10:Nat):Int):=by rw [nz (by omega),cl (by omega)]; omega
      have e3:mg [dR (bj (48 + (((n % 10:Nat)):Int)))] = [dg (n % 10)]:=by
        have:=BT (d:=((n % 10:Nat):Int)) (by omega)
        rwa [Int.toNat_natCast] at this
      rw [if_pos (by omega),e1,e3,e2,if_pos (by simp; omega),mc (by omega),rL ha f (i + 1) (n / 10) _ (by omega) (by omega) (by omega) (by simp; omega)]
      rw [show a - i = (a - (i + 1)) + 1 by omega,yh]
      rfl
    · rw [if_neg (by omega),show a - i = 0 by omega]; rfl
theorem np {n:Int} {a:Nat} (ha:a ≤ 4) (h0:0 ≤ n) (h1:n ≤ 1000000):ci W n a = some (jA a n.toNat):=by
  unfold ci
  have:=rL ha W 0 n.toNat [] (by omega) (by unfold W; omega) (by omega) (by simp)
  have e0:((0:Nat):Int) = 0:=rfl
  rw [Int.toNat_of_nonneg h0,e0] at this
  rw [this]
  simp
abbrev rt (c:UInt8):Prop:=48 ≤ c.toNat ∧ c.toNat ≤ 57
def qN (n:Nat) (c:UInt8):Nat:=if rt c then n * 10 + (c.toNat - 48) else n
def vn (s:Wd):Nat:=s.foldl qN 0
theorem Ay {n:Nat} {c:UInt8}:qN n c ≤ n * 10 + 9 ∧ n ≤ qN n c:=by
  unfold qN rt
  split <;> omega
theorem tS:∀ (s:Wd) (n:Nat),s.foldl qN n + 1 ≤ (n + 1) * 10 ^ s.length
  | [],n=>by simp
  | c :: s,n=>by
    have h1:=(Ay (n:=n) (c:=c)).1
    have:=tS s (qN n c)
    simp only [List.foldl_cons,List.length_cons,Nat.pow_succ]
    refine Nat.le_trans this ?_
    rw [Nat.mul_comm (10 ^ s.length) 10,← Nat.mul_assoc]
    exact Nat.mul_le_mul_right _ (by omega)
theorem Ae (s:Wd):vn s < 10 ^ s.length:=by
  have:=tS s 0
  simp only [Nat.zero_add,Nat.one_mul] at this
  exact this
theorem oF {s:Wd} (hs:s.length ≤ 4):∀ (f i n:Nat),i ≤ s.length → s.length - i < f → n < 10 ^ i → dK W s f n i = some (((s.drop i).foldl qN n:Nat):Int)
  | 0,i,n,h0,h1,h2=>by omega
  | f + 1,i,n,h0,h1,h2=>by
    rw [dK]
    by_cases h:i < s.length
    · have e1:s.drop i = s[i] :: s.drop (i + 1):=List.drop_eq_getElem_cons h
      have hc:=s[i].toNat_lt
      have hp:10 ^ i ≤ 1000:=by
        have:i = 0 ∨ i = 1 ∨ i = 2 ∨ i = 3:=by omega
        rcases this with rfl | rfl | rfl | rfl <;> decide
      have eg:s.getD i 0 = s[i]:=gc s i h 0
      have hb:10 ^ (i + 1) = 10 ^ i * 10:=Nat.pow_succ 10 i
      rw [if_pos (by omega),if_pos (by omega),Int.toNat_natCast,eg,e1,List.foldl_cons,mc (by omega)]
      by_cases c1:48 ≤ (s[i].toNat:Int)
      · rw [if_pos c1]
        by_cases c2:(s[i].toNat:Int) ≤ 57
        · have hv:qN n s[i] = n * 10 + (s[i].toNat - 48):=by unfold qN rt; rw [if_pos (by omega)]
          rw [if_pos c2,cl (n:=(n:Int) * 10) (by omega),qK (by omega),cl (n:=(s[i].toNat:Int) - 48) (by omega),cl (by omega)]
          have e2:(n:Int) * 10 + ((s[i].toNat:Int) - 48) = ((qN n s[i]:Nat):Int):=by rw [hv]; omega
          rw [e2]
          exact oF hs f (i + 1) _ (by omega) (by omega) (by rw [hv]; omega)
        · have hv:qN n s[i] = n:=by unfold qN rt; rw [if_neg (by omega)]
          rw [if_neg c2,hv]
          exact oF hs f (i + 1) _ (by omega) (by omega) (by omega)
      · have hv:qN n s[i] = n:=by unfold qN rt; rw [if_neg (by omega)]
        rw [if_neg c1,hv]
        exact oF hs f (i + 1) _ (by omega) (by omega) (by omega)
    · rw [if_neg (by omega),List.drop_eq_nil_of_le (by omega)]; rfl
theorem nu {s:Wd} (hs:s.length ≤ 4):cY W s = some ((vn s:Nat):Int):=by
  unfold cY
  have:=oF hs W 0 0 (by omega) (by unfold W; omega) (by simp)
  simpa [vn] using this
theorem vI (s:Wd) (c:UInt8):vn (s ++ [c]) = qN (vn s) c:=by simp [vn]
theorem lI:∀ k n,n < 10 ^ k → vn (jA k n) = n
  | 0,n,h=>by simp at h; subst h; rfl
  | k + 1,n,h=>by
    have h1:n / 10 < 10 ^ k:=by rw [Nat.pow_succ] at h; omega
    rw [jA,vI,lI k _ h1]
    have:=qm (d:=n % 10) (by omega)
    unfold qN rt
    rw [if_pos (by omega)]; omega
theorem uY:∀ (s:Wd),(∀ c ∈ s,rt c) → jA s.length (vn s) = s:=by
  intro s
  induction hs:s.length generalizing s with
  | zero=>intro _; rw [List.eq_nil_of_length_eq_zero hs]; rfl
  | succ k ih =>
    intro hd
    have hne:s ≠ []:=by intro e; rw [e] at hs; simp at hs
    obtain ⟨s0,c,rfl⟩:∃ s0 c,s = s0 ++ [c]:=⟨s.dropLast,s.getLast hne,(List.dropLast_concat_getLast hne).symm⟩
    have hc:=hd c (by simp)
    have hl:s0.length = k:=by simp at hs; exact hs
    have i0:=ih s0 hl fun x hx=>hd x (by simp [hx])
    rw [jA,vI]
    unfold rt at hc
    have hv:qN (vn s0) c = vn s0 * 10 + (c.toNat - 48):=by unfold qN rt; rw [if_pos hc]
    rw [hv,show (vn s0 * 10 + (c.toNat - 48)) / 10 = vn s0 by omega,show (vn s0 * 10 + (c.toNat - 48)) % 10 = c.toNat - 48 by omega,i0,xR c hc]
theorem un:∀ k n,∀ c ∈ jA k n,rt c
  | 0,n,c,h=>by simp [jA] at h
  | k + 1,n,c,h=>by
    rw [jA] at h
    rcases List.mem_append.1 h with h | h
    · exact un k _ c h
    · simp at h; subst h; exact xN (by omega)
def TP (y m d h:Nat):Wd:=jA 4 y ++ 45 :: (jA 2 m ++ 45 :: (jA 2 d ++ 84 :: jA 2 h))
theorem xW (y m d h:Nat):(TP y m d h).length = 13:=by simp [TP,fK]
theorem xX (a:Nat) {x:Wd} {t:Wd} (h:x.length = a):(x ++ t).take a = x:=by rw [← h]; exact List.take_left ..
theorem mQ (a:Nat) {x:Wd} {t:Wd} (h:x.length = a):(x ++ t).drop a = t:=by rw [← h]; exact List.drop_left ..
theorem Bh (y m d h:Nat):(TP y m d h).take 4 = jA 4 y:=by unfold TP; exact xX 4 (fK _ _)
theorem Bb (y m d h:Nat):((TP y m d h).drop 5).take 2 = jA 2 m:=by
  unfold TP
  rw [show (5:Nat) = 4 + 1 from rfl,← List.drop_drop,mQ 4 (fK _ _),List.drop_succ_cons,List.drop_zero,xX 2 (fK _ _)]
theorem Br (y m d h:Nat):((TP y m d h).drop 8).take 2 = jA 2 d:=by
  unfold TP
  rw [show (8:Nat) = 4 + (1 + (2 + 1)) from rfl,← List.drop_drop,mQ 4 (fK _ _),← List.drop_drop,List.drop_succ_cons,List.drop_zero,← List.drop_drop,mQ 2 (fK _ _),List.drop_succ_cons,List.drop_zero,xX 2 (fK _ _)]
theorem Be (y m d h:Nat):((TP y m d h).drop 11).take 2 = jA 2 h:=by
  unfold TP
  rw [show (11:Nat) = 4 + (1 + (2 + (1 + (2 + 1)))) from rfl,← List.drop_drop,mQ 4 (fK _ _),← List.drop_drop,List.drop_succ_cons,List.drop_zero,← List.drop_drop,mQ 2 (fK _ _),← List.drop_drop,List.drop_succ_cons,List.drop_zero,← List.drop_drop,mQ 2 (fK _ _),List.drop_succ_cons,List.drop_zero,List.take_of_length_le (by rw [fK]; exact Nat.le_refl _)]
theorem AP {y m d h y' m' d' h':Nat} (hy:y < 10000) (hm:m < 100) (hd:d < 100) (hh:h < 100) (hy':y' < 10000) (hm':m' < 100) (hd':d' < 100) (hh':h' < 100) (e:TP y m d h = TP y' m' d' h'):y = y' ∧ m = m' ∧ d = d' ∧ h = h':=by
  refine ⟨?_,?_,?_,?_⟩
  · have:=congrArg (fun l=>vn (l.take 4)) e
    simp only [Bh] at this
    rwa [lI 4 y hy,lI 4 y' hy'] at this
  · have:=congrArg (fun l=>vn ((l.drop 5).take 2)) e
    simp only [Bb] at this
    rwa [lI 2 m hm,lI 2 m' hm'] at this
  · have:=congrArg (fun l=>vn ((l.drop 8).take 2)) e
    simp only [Br] at this
    rwa [lI 2 d hd,lI 2 d' hd'] at this
  · have:=congrArg (fun l=>vn ((l.drop 11).take 2)) e
    simp only [Be] at this
    rwa [lI 2 h hh,lI 2 h' hh'] at this
theorem rC {y m d:Int} (h:kZ y m d):y.toNat < 10000 ∧ m.toNat < 100 ∧ d.toNat < 100 ∧ 0 ≤ y ∧ 0 ≤ m ∧ 0 ≤ d:=by
  have:=h.y0; have:=h.y1; have:=h.m0; have:=h.m1; have:=h.d0; have:=h.d1; have:=mn y m
  omega
theorem AH (a b:Wd) (h:a.length ≤ 100 ∧ b.length ≤ 100):(a.length:Int) + (b.length:Int) ≤ 9223372036854775807:=by omega
theorem wL (a b c e:Wd) (ha:a.length ≤ 20) (hb:b.length ≤ 20) (hc:c.length ≤ 20) (he:e.length ≤ 20) (B:Int) (hB:1000 ≤ B) :
    (if (a.length:Int) + (([45]:List UInt8).length:Int) ≤ B then ((some b).bind fun x8=>(if ((a ++ ([45]:List UInt8)).length:Int) + (x8.length:Int) ≤ B then (if (((a ++ ([45]:List UInt8)) ++ x8).length:Int) + (([45]:List UInt8).length:Int) ≤ B then ((some c).bind fun x9=>(if ((((a ++ ([45]:List UInt8)) ++ x8) ++ ([45]:List UInt8)).length:Int) + (x9.length:Int) ≤ B then (if (((((a ++ ([45]:List UInt8)) ++ x8) ++ ([45]:List UInt8)) ++ x9).length:Int) + (([84]:List UInt8).length:Int) ≤ B then ((some e).bind fun x10=>(if ((((((a ++ ([45]:List UInt8)) ++ x8) ++ ([45]:List UInt8)) ++ x9) ++ ([84]:List UInt8)).length:Int) + (x10.length:Int) ≤ B then (some (((((((a ++ ([45]:List UInt8)) ++ x8) ++ ([45]:List UInt8)) ++ x9) ++ ([84]:List UInt8)) ++ x10))) else none)) else none) else none)) else none) else none)) else none) = some (a ++ 45 :: (b ++ 45 :: (c ++ 84 :: e))):=by
  simp only [Option.bind_some]
  have q1:∀ a b:Wd,a.length ≤ 200 ∧ b.length ≤ 200 → (a.length:Int) + (b.length:Int) ≤ B:=fun a b h=>by omega
  rw [if_pos (q1 _ _ ⟨by omega,by simp⟩),if_pos (q1 _ _ ⟨by simp; omega,by omega⟩),if_pos (q1 _ _ ⟨by simp; omega,by simp⟩),if_pos (q1 _ _ ⟨by simp; omega,by omega⟩),if_pos (q1 _ _ ⟨by simp; omega,by simp⟩),if_pos (q1 _ _ ⟨by simp; omega,by omega⟩)]
  simp only [List.append_assoc,List.cons_append,List.nil_append]
theorem vq {h:Int} (h0:0 ≤ h) (h1:h ≤ 16777216):∃ y m d,kZ y m d ∧ iT y m d = h / 24 ∧ eF W h = some (TP y.toNat m.toNat d.toNat (h % 24).toNat):=by
  have e1:bj (Int.tdiv h 24) = h / 24:=by rw [nz h0,cl (by omega)]
  have e2:Int.tmod h 24 = h % 24:=mJ h0
  obtain ⟨y,m,d,a1,a2,a3⟩:=zr (d:=h / 24) (by omega) (by omega)
  have hv:=rC a2
  refine ⟨y,m,d,a2,a3,?_⟩
  have d4:ci W y 4 = some (jA 4 y.toNat):=np (n:=y) (a:=4) (by omega) (by omega) (by omega)
  have dm:ci W m 2 = some (jA 2 m.toNat):=np (n:=m) (a:=2) (by omega) (by omega) (by omega)
  have dd:ci W d 2 = some (jA 2 d.toNat):=np (n:=d) (a:=2) (by omega) (by omega) (by omega)
  have dh:ci W (h % 24) 2 = some (jA 2 (h % 24).toNat):=np (n:=h % 24) (a:=2) (by omega) (by omega) (by omega)
  have key:=wL (jA 4 y.toNat) (jA 2 m.toNat) (jA 2 d.toNat) (jA 2 (h % 24).toNat) (by rw [fK]; omega) (by rw [fK]; omega) (by rw [fK]; omega) (by rw [fK]; omega) 9223372036854775807 (by omega)
  unfold eF
  rw [e1,e2,a1,Option.bind_some,d4,Option.bind_some,dm,dd,dh]
  exact key
def lj (h:Int):Wd:=(eF W h).getD []
theorem pZ {h:Int} (h0:0 ≤ h) (h1:h ≤ 16777216):eF W h = some (lj h):=by
  obtain ⟨y,m,d,_,_,e⟩:=vq h0 h1
  unfold lj; rw [e]; rfl
theorem mw {h:Int} (h0:0 ≤ h) (h1:h ≤ 16777216):∃ y m d,kZ y m d ∧ iT y m d = h / 24 ∧ lj h = TP y.toNat m.toNat d.toNat (h % 24).toNat:=by
  obtain ⟨y,m,d,a,b,e⟩:=vq h0 h1
  exact ⟨y,m,d,a,b,by unfold lj; rw [e]; rfl⟩
def Aa (y m d h:Nat):Option Int:=if kZ y m d ∧ h < 24 ∧ iT y m d * 24 + h ≤ 16777216 then some (iT y m d * 24 + h) else none
theorem ua {y m d h:Nat} (hy:y < 10000) (hm:m < 100) (hd:d < 100) (hh:h < 100) (n:Int):Aa y m d h = some n ↔ (0 ≤ n ∧ n ≤ 16777216) ∧ TP y m d h = lj n:=by
  unfold Aa
  constructor
  · intro h0
    split at h0
    · rename_i q
      cases h0
      obtain ⟨hv,h24,hmx⟩:=q
      have hin:=mU hv
      have r:0 ≤ iT y m d * 24 + (h:Int) ∧ iT y m d * 24 + (h:Int) ≤ 16777216:=by omega
      obtain ⟨y',m',d',v',e',t'⟩:=mw r.1 r.2
      have hq:(iT y m d * 24 + (h:Int)) / 24 = iT y m d:=by omega
      rw [hq] at e'
      obtain ⟨rfl,rfl,rfl⟩:=wb v' hv e'
      refine ⟨r,?_⟩
      rw [t',show ((iT y m d * 24 + (h:Int)) % 24).toNat = h by omega]
      simp
    · cases h0
  · rintro ⟨⟨r0,r1⟩,e⟩
    obtain ⟨y',m',d',v',e',t'⟩:=mw r0 r1
    have hv:=rC v'
    rw [t'] at e
    obtain ⟨a,b,c,f⟩:=AP hy hm hd hh hv.1 hv.2.1 hv.2.2.1 (by omega) e
    have ey:(y:Int) = y':=by omega
    have em:(m:Int) = m':=by omega
    have ed:(d:Int) = d':=by omega
    rw [ey,em,ed,e']
    rw [if_pos ⟨v',by omega,by omega⟩]
    congr 1
    omega
end Go.Proofs.YtgbjponaoeiglaaDoor.WordsReads
end
section
set_option linter.unusedVariables false
set_option linter.unusedSimpArgs false
set_option maxRecDepth 20000
namespace Go.Proofs.YtgbjponaoeiglaaDoor.WordsReads
open Go E
def jz:Wd:=[48,48,48,48,45,48,48,45,48,48,84,48,48]
def kW (n:Int) (c:UInt8):Int:=n * 10 + ((c.toNat:Int) - 48)
def sD (s:Wd) (j:Nat):Bool:=if jz.getD j 0 = 48 then decide (rt (s.getD j 0)) else s.getD j 0 == jz.getD j 0
def uL (s:Wd):List Nat → Bool
  | []=>true
  | j :: l=>sD s j && uL s l
theorem BJ {α:Type} {b r:Bool} {X Y V Z_:α} (h:X = if b = true then Y else Z_) (h2:Y = if r = true then V else Z_):X = if (b && r) = true then V else Z_:=by
  cases b <;> cases r <;> simp_all
theorem mi {s:Wd} (hs:s.length = 13) (f j a:Nat) (n0 n1 n2 n3:Int) (hj:j < 13) (h48:jz.getD j 0 = 48) (ha:a < 4) (hn:0 ≤ [n0,n1,n2,n3].getD a 0 ∧ [n0,n1,n2,n3].getD a 0 ≤ 999) :
    dI W s (f + 1) a j n0 n1 n2 n3 = if sD s j = true then dI W s f a ((j + 1:Nat):Int) (if a = 0 then kW ([n0,n1,n2,n3].getD a 0) (s.getD j 0) else n0) (if a = 1 then kW ([n0,n1,n2,n3].getD a 0) (s.getD j 0) else n1) (if a = 2 then kW ([n0,n1,n2,n3].getD a 0) (s.getD j 0) else n2) (if a = 3 then kW ([n0,n1,n2,n3].getD a 0) (s.getD j 0) else n3) else some (Sum.inr (0,false)):=by
  rw [dI]
  have hb:=kt s
  have hg:(dn s).getD j 0 = ((s.getD j 0).toNat:Int):=by rw [oE s j (by omega),gc s j (by omega)]
  have hc:=(s.getD j 0).toNat_lt
  have hf:(([48,48,48,48,45,48,48,45,48,48,84,48,48]:List UInt8).getD j 0).toNat = 48:=congrArg UInt8.toNat h48
  have ho:sD s j = decide (rt (s.getD j 0)):=by unfold sD; rw [if_pos h48]
  rw [if_pos (by omega),if_pos (by omega),if_pos (by simp; omega),Int.toNat_natCast,Int.toNat_natCast,hg,hf,if_neg (by simp),ho]
  by_cases c1:((s.getD j 0).toNat:Int) < 48
  · rw [if_pos c1,if_neg (by rw [decide_eq_true_eq]; omega)]
  · rw [if_neg c1]
    by_cases c2:57 < ((s.getD j 0).toNat:Int)
    · rw [if_pos c2,if_neg (by rw [decide_eq_true_eq]; omega)]
    · rw [if_neg c2,if_pos (by omega),if_pos (by omega),if_pos (show decide (rt (s.getD j 0)) = true by rw [decide_eq_true_eq]; omega),mc (by omega),qK (by omega),cl (n:=_ - 48) (by omega),cl (n:=_ * 10) (by omega),cl (by omega)]
      rfl
theorem uo {s:Wd} (hs:s.length = 13) (f j a:Nat) (n0 n1 n2 n3:Int) (hj:j < 13) (h48:¬ jz.getD j 0 = 48) (ha:a < 4) :
    dI W s (f + 1) a j n0 n1 n2 n3 = if sD s j = true then dI W s f ((a + 1:Nat):Int) ((j + 1:Nat):Int) n0 n1 n2 n3 else some (Sum.inr (0,false)):=by
  rw [dI]
  have hb:=kt s
  have hg:(dn s).getD j 0 = ((s.getD j 0).toNat:Int):=by rw [oE s j (by omega),gc s j (by omega)]
  have hf:¬ ((([48,48,48,48,45,48,48,45,48,48,84,48,48]:List UInt8).getD j 0).toNat:Int) = 48:=fun e=>h48 (UInt8.toNat_inj.1 (show (jz.getD j 0).toNat = 48 by have:((jz.getD j 0).toNat:Int) = 48:=e; omega))
  have ho:sD s j = (s.getD j 0 == jz.getD j 0):=by unfold sD; rw [if_neg h48]
  rw [if_pos (by omega),if_pos (by omega),if_pos (by simp; omega),Int.toNat_natCast,Int.toNat_natCast,hg,if_pos hf,ho]
  by_cases c:s.getD j 0 = jz.getD j 0
  · rw [if_pos (show (s.getD j 0 == jz.getD j 0) = true by rw [c]; simp),if_neg (by rw [c]; simp [jz]),mc (by omega),mc (by omega)]
  · rw [if_neg (show ¬ (s.getD j 0 == jz.getD j 0) = true by simpa using c),if_pos]
    intro e
    exact c (UInt8.toNat_inj.1 (show (s.getD j 0).toNat = (jz.getD j 0).toNat by have:((s.getD j 0).toNat:Int) = ((jz.getD j 0).toNat:Int):=e; omega))
theorem BM {s:Wd} (hs:s.length = 13) (f a:Nat) (n0 n1 n2 n3:Int):dI W s (f + 1) a ((13:Nat):Int) n0 n1 n2 n3 = if uL s [] = true then some (Sum.inl (n0,n1,n2,n3)) else some (Sum.inr (0,false)):=by
  rw [dI]
  have hb:=kt s
  rw [if_neg (by omega)]
  rfl
theorem ny {b:Bool} {n B:Int} {s:Wd} {j:Nat} (hj:jz.getD j 0 = 48):sD s j = true → 0 ≤ n ∧ n ≤ B → 0 ≤ kW n (s.getD j 0) ∧ kW n (s.getD j 0) ≤ B * 10 + 9:=by
  intro h1 h2
  unfold sD at h1
  rw [if_pos hj,decide_eq_true_eq] at h1
  unfold kW
  omega
theorem mv {α:Type} {b r:Bool} {X Y V Z_:α} (h:X = if b = true then Y else Z_) (h2:b = true → Y = if r = true then V else Z_):X = if (b && r) = true then V else Z_:=by
  cases b
  · simpa using h
  · exact BJ h (h2 Z)
def ve (s:Wd):Int × Int × Int × Int:=(kW (kW (kW (kW 0 (s.getD 0 0)) (s.getD 1 0)) (s.getD 2 0)) (s.getD 3 0),kW (kW 0 (s.getD 5 0)) (s.getD 6 0),kW (kW 0 (s.getD 8 0)) (s.getD 9 0),kW (kW 0 (s.getD 11 0)) (s.getD 12 0))
def pa:List Nat:=[0,1,2,3,4,5,6,7,8,9,10,11,12]
theorem A7 {s:Wd} (hs:s.length = 13) (g:Nat):dI W s (g + 1 + 1 + 1 + 1 + 1 + 1 + 1 + 1 + 1 + 1 + 1 + 1 + 1 + 1) ((0:Nat):Int) ((0:Nat):Int) 0 0 0 0 = if uL s pa = true then some (Sum.inl (ve s)) else some (Sum.inr (0,false)):=by
  refine mv (mi hs _ 0 0 0 0 0 0 (by omega) Z (by omega) (by decide)) fun q0=>?_
  have b0:=ny (b:=true) (n:=0) (B:=0) Z q0 (by omega)
  refine mv (mi hs _ 1 0 _ _ _ _ (by omega) Z (by omega) (by simp only [if_true]; show 0 ≤ kW 0 _ ∧ kW 0 _ ≤ 999; exact ⟨b0.1,by have:=b0.2; omega⟩)) fun q1=>?_
  have b1:=ny (b:=true) Z q1 b0
  refine mv (mi hs _ 2 0 _ _ _ _ (by omega) Z (by omega) ⟨b1.1,by have:=b1.2; exact Int.le_trans this (by decide)⟩) fun q2=>?_
  have b2:=ny (b:=true) Z q2 b1
  refine mv (mi hs _ 3 0 _ _ _ _ (by omega) Z (by omega) ⟨b2.1,by have:=b2.2; exact Int.le_trans this (by decide)⟩) fun q3=>?_
  refine mv (uo hs _ 4 0 _ _ _ _ (by omega) (by decide) (by omega)) fun q4=>?_
  refine mv (mi hs _ 5 1 _ _ _ _ (by omega) Z (by omega) ⟨Int.le_refl 0,(by decide:(0:Int) ≤ 999)⟩) fun q5=>?_
  have b5:=ny (b:=true) (n:=0) (B:=0) Z q5 (by omega)
  refine mv (mi hs _ 6 1 _ _ _ _ (by omega) Z (by omega) ⟨b5.1,by have:=b5.2; exact Int.le_trans this (by decide)⟩) fun q6=>?_
  refine mv (uo hs _ 7 1 _ _ _ _ (by omega) (by decide) (by omega)) fun q7=>?_
  refine mv (mi hs _ 8 2 _ _ _ _ (by omega) Z (by omega) ⟨Int.le_refl 0,(by decide:(0:Int) ≤ 999)⟩) fun q8=>?_
  have b8:=ny (b:=true) (n:=0) (B:=0) Z q8 (by omega)
  refine mv (mi hs _ 9 2 _ _ _ _ (by omega) Z (by omega) ⟨b8.1,by have:=b8.2; exact Int.le_trans this (by decide)⟩) fun q9=>?_
  refine mv (uo hs _ 10 2 _ _ _ _ (by omega) (by decide) (by omega)) fun q10=>?_
  refine mv (mi hs _ 11 3 _ _ _ _ (by omega) Z (by omega) ⟨Int.le_refl 0,(by decide:(0:Int) ≤ 999)⟩) fun q11=>?_
  have b11:=ny (b:=true) (n:=0) (B:=0) Z q11 (by omega)
  refine mv (mi hs _ 12 3 _ _ _ _ (by omega) Z (by omega) ⟨b11.1,by have:=b11.2; exact Int.le_trans this (by decide)⟩) fun q12=>?_
  exact BM hs _ _ _ _ _ _
theorem gE {s:Wd} {i j:Nat} (h:i < j):(s.take j).getD i 0 = s.getD i 0:=by
  simp [List.getD_eq_getElem?_getD,List.getElem?_take,h]
theorem jP {s:Wd} {i j:Nat}:(s.drop j).getD i 0 = s.getD (j + i) 0:=by
  simp [List.getD_eq_getElem?_getD,List.getElem?_drop]
theorem zX {l:Wd} (h:l.length = 2):l = [l.getD 0 0,l.getD 1 0]:=by
  match l,h with
  | [a,b],_=>rfl
theorem Af {l:Wd} (h:l.length = 4):l = [l.getD 0 0,l.getD 1 0,l.getD 2 0,l.getD 3 0]:=by
  match l,h with
  | [a,b,c,d],_=>rfl
theorem sn {s:Wd}:∀ {l:List Nat},uL s l = true → ∀ j ∈ l,sD s j = true
  | [],_,j,h=>by simp at h
  | i :: l,h,j,hj=>by
    simp only [uL,Bool.and_eq_true] at h
    rcases List.mem_cons.1 hj with rfl | hj
    · exact h.1
    · exact sn h.2 j hj
theorem yo {s:Wd}:∀ {l:List Nat},(∀ j ∈ l,sD s j = true) → uL s l = true
  | [],_=>rfl
  | i :: l,h=>by simp only [uL,Bool.and_eq_true]; exact ⟨h i (by simp),yo fun j hj=>h j (by simp [hj])⟩
theorem Bn {s:Wd} {j:Nat} (hj:jz.getD j 0 = 48) (h:sD s j = true):rt (s.getD j 0):=by
  unfold sD at h; rw [if_pos hj,decide_eq_true_eq] at h; exact h
theorem AM {s:Wd} {j:Nat} (hj:¬ jz.getD j 0 = 48) (h:sD s j = true):s.getD j 0 = jz.getD j 0:=by
  unfold sD at h; rw [if_neg hj] at h; exact eq_of_beq h
theorem si {s:Wd} (hs:s.length = 13) (h:uL s pa = true):s = TP (vn (s.take 4)) (vn ((s.drop 5).take 2)) (vn ((s.drop 8).take 2)) (vn ((s.drop 11).take 2)):=by
  have hm:=fun j (hj:j ∈ pa)=>sn h j hj
  have m:∀ j,j < 13 → j ∈ pa:=by decide
  have dd:∀ j,j < 13 → jz.getD j 0 = 48 → rt (s.getD j 0):=fun j a b=>Bn b (hm j (m j a))
  have kQ:∀ j,j + 2 ≤ 13 → jz.getD j 0 = 48 → jz.getD (j + 1) 0 = 48 → jA 2 (vn ((s.drop j).take 2)) = (s.drop j).take 2:=by
    intro j a b c
    have hl:((s.drop j).take 2).length = 2:=by simp; omega
    have:=uY ((s.drop j).take 2) (by
      rw [zX hl,gE (by omega),gE (by omega),jP,jP]
      intro x hx
      simp only [List.mem_cons,List.not_mem_nil,or_false] at hx
      rcases hx with rfl | rfl
      · exact dd (j + 0) (by omega) b
      · exact dd (j + 1) (by omega) c)
    rwa [hl] at this
  have four:jA 4 (vn (s.take 4)) = s.take 4:=by
    have hl:(s.take 4).length = 4:=by simp; omega
    have:=uY (s.take 4) (by
      rw [Af hl,gE (by omega),gE (by omega),gE (by omega),gE (by omega)]
      intro x hx
      simp only [List.mem_cons,List.not_mem_nil,or_false] at hx
      rcases hx with rfl | rfl | rfl | rfl
      · exact dd 0 (by omega) Z
      · exact dd 1 (by omega) Z
      · exact dd 2 (by omega) Z
      · exact dd 3 (by omega) Z)
    rwa [hl] at this
  unfold TP
  rw [four,kQ 5 (by omega) Z Z,kQ 8 (by omega) Z Z,kQ 11 (by omega) Z Z]
  have s4:=AM (j:=4) (by decide) (hm 4 (m 4 (by omega)))
  have s7:=AM (j:=7) (by decide) (hm 7 (m 7 (by omega)))
  have s10:=AM (j:=10) (by decide) (hm 10 (m 10 (by omega)))
  have cut:∀ j,j < 13 → s.drop j = s.getD j 0 :: s.drop (j + 1):=fun j hj=>by rw [gc s j (by omega)]; exact List.drop_eq_getElem_cons (by omega)
  have part:∀ j,s.drop j = (s.drop j).take 2 ++ s.drop (j + 2):=fun j=>by
    conv=>lhs; rw [← List.take_append_drop 2 (s.drop j),List.drop_drop]
  conv=>lhs; rw [← List.take_append_drop 4 s,cut 4 (by omega),s4,part 5,cut 7 (by omega),s7,part 8,cut 10 (by omega),s10,part 11]
  rw [show s.drop 13 = [] from List.drop_eq_nil_of_le (by omega),List.append_nil]
  rfl
theorem vT (y m d h:Nat):uL (TP y m d h) pa = true:=by
  refine yo fun j hj=>?_
  have g:∀ (k n i:Nat) ,i < k → rt ((jA k n).getD i 0):=fun k n i hi=>by
    rw [gc _ _ (by rw [fK]; exact hi)]
    exact un k n _ (List.getElem_mem _)
  have e0:∀ i,i < 4 → (TP y m d h).getD i 0 = (jA 4 y).getD i 0:=fun i hi=>by rw [← Bh y m d h,gE hi]
  have e5:∀ i,i < 2 → (TP y m d h).getD (5 + i) 0 = (jA 2 m).getD i 0:=fun i hi=>by rw [← Bb y m d h,gE hi,jP]
  have e8:∀ i,i < 2 → (TP y m d h).getD (8 + i) 0 = (jA 2 d).getD i 0:=fun i hi=>by rw [← Br y m d h,gE hi,jP]
  have e11:∀ i,i < 2 → (TP y m d h).getD (11 + i) 0 = (jA 2 h).getD i 0:=fun i hi=>by rw [← Be y m d h,gE hi,jP]
  have D:∀ j,jz.getD j 0 = 48 → rt ((TP y m d h).getD j 0) → sD (TP y m d h) j = true:=fun j a b=>by unfold sD; rw [if_pos a,decide_eq_true_eq]; exact b
  have S:∀ j,¬ jz.getD j 0 = 48 → (TP y m d h).getD j 0 = jz.getD j 0 → sD (TP y m d h) j = true:=fun j a b=>by unfold sD; rw [if_neg a,b]; exact beq_self_eq_true _
  simp only [pa,List.mem_cons,List.not_mem_nil,or_false] at hj
  rcases hj with rfl | rfl | rfl | rfl | rfl | rfl | rfl | rfl | rfl | rfl | rfl | rfl | rfl
  · exact D 0 Z (by rw [e0 0 (by omega)]; exact g 4 y 0 (by omega))
  · exact D 1 Z (by rw [e0 1 (by omega)]; exact g 4 y 1 (by omega))
  · exact D 2 Z (by rw [e0 2 (by omega)]; exact g 4 y 2 (by omega))
  · exact D 3 Z (by rw [e0 3 (by omega)]; exact g 4 y 3 (by omega))
  · refine S 4 (by decide) ?_
    have:((TP y m d h).drop 4).getD 0 0 = 45:=by unfold TP; rw [mQ 4 (fK _ _)]; rfl
    rw [jP] at this; exact this
  · exact D 5 Z (by rw [e5 0 (by omega)]; exact g 2 m 0 (by omega))
  · exact D 6 Z (by rw [e5 1 (by omega)]; exact g 2 m 1 (by omega))
  · refine S 7 (by decide) ?_
    have:((TP y m d h).drop 7).getD 0 0 = 45:=by
      unfold TP
      rw [show (7:Nat) = 4 + (1 + 2) from rfl,← List.drop_drop,mQ 4 (fK _ _),← List.drop_drop,List.drop_succ_cons,List.drop_zero,mQ 2 (fK _ _)]; rfl
    rw [jP] at this; exact this
  · exact D 8 Z (by rw [e8 0 (by omega)]; exact g 2 d 0 (by omega))
  · exact D 9 Z (by rw [e8 1 (by omega)]; exact g 2 d 1 (by omega))
  · refine S 10 (by decide) ?_
    have:((TP y m d h).drop 10).getD 0 0 = 84:=by
      unfold TP
      rw [show (10:Nat) = 4 + (1 + (2 + (1 + 2))) from rfl,← List.drop_drop,mQ 4 (fK _ _),← List.drop_drop,List.drop_succ_cons,List.drop_zero,← List.drop_drop,mQ 2 (fK _ _),← List.drop_drop,List.drop_succ_cons,List.drop_zero,mQ 2 (fK _ _)]; rfl
    rw [jP] at this; exact this
  · exact D 11 Z (by rw [e11 0 (by omega)]; exact g 2 h 0 (by omega))
  · exact D 12 Z (by rw [e11 1 (by omega)]; exact g 2 h 1 (by omega))
theorem my {n:Nat} {c:UInt8} (h:rt c):kW n c = ((qN n c:Nat):Int):=by
  unfold kW qN; rw [if_pos h]; omega
theorem yZ {s:Wd} (hs:s.length = 13) (h:uL s pa = true):ve s = (((vn (s.take 4):Nat):Int),((vn ((s.drop 5).take 2):Nat):Int),((vn ((s.drop 8).take 2):Nat):Int),((vn ((s.drop 11).take 2):Nat):Int)):=by
  have m:∀ j,j < 13 → j ∈ pa:=by decide
  have dd:∀ j,j < 13 → jz.getD j 0 = 48 → rt (s.getD j 0):=fun j a b=>Bn b (sn h j (m j a))
  have kQ:∀ j,j + 2 ≤ 13 → jz.getD j 0 = 48 → jz.getD (j + 1) 0 = 48 → kW (kW 0 (s.getD j 0)) (s.getD (j + 1) 0) = ((vn ((s.drop j).take 2):Nat):Int):=by
    intro j a b c
    have hl:((s.drop j).take 2).length = 2:=by simp; omega
    rw [zX hl,gE (by omega),gE (by omega),jP,jP]
    have d0:=dd j (by omega) b
    have d1:=dd (j + 1) (by omega) c
    rw [show kW 0 (s.getD j 0) = ((qN 0 (s.getD j 0):Nat):Int) from my d0,my d1]
    rfl
  have four:kW (kW (kW (kW 0 (s.getD 0 0)) (s.getD 1 0)) (s.getD 2 0)) (s.getD 3 0) = ((vn (s.take 4):Nat):Int):=by
    have hl:(s.take 4).length = 4:=by simp; omega
    rw [Af hl,gE (by omega),gE (by omega),gE (by omega),gE (by omega)]
    rw [show kW 0 (s.getD 0 0) = ((qN 0 (s.getD 0 0):Nat):Int) from my (dd 0 (by omega) Z),my (dd 1 (by omega) Z),my (dd 2 (by omega) Z),my (dd 3 (by omega) Z)]
    rfl
  unfold ve
  rw [four,kQ 5 (by omega) Z Z,kQ 8 (by omega) Z Z,kQ 11 (by omega) Z Z]
def cO (s:Wd):Option Int:=if s.length = 13 ∧ uL s pa = true then Aa (vn (s.take 4)) (vn ((s.drop 5).take 2)) (vn ((s.drop 8).take 2)) (vn ((s.drop 11).take 2)) else none
theorem xH (l:Wd) (h:l.length ≤ 2):vn l < 100:=by
  have:=Ae l
  have:l.length = 0 ∨ l.length = 1 ∨ l.length = 2:=by omega
  rcases this with e | e | e <;> rw [e] at this <;> omega
theorem BN (l:Wd) (h:l.length ≤ 4):vn l < 10000:=by
  have h1:=Ae l
  have:l.length = 0 ∨ l.length = 1 ∨ l.length = 2 ∨ l.length = 3 ∨ l.length = 4:=by omega
  rcases this with e | e | e | e | e <;> rw [e] at h1 <;> omega
theorem uz {s:Wd} (h:Int):cO s = some h ↔ (0 ≤ h ∧ h ≤ 16777216) ∧ s = lj h:=by
  unfold cO
  constructor
  · intro e
    split at e
    · rename_i q
      have hf:=si q.1 q.2
      have:=(ua (BN _ (by simp; omega)) (xH _ (by simp; omega)) (xH _ (by simp; omega)) (xH _ (by simp; omega)) h).1 e
      rw [← hf] at this
      exact this
    · cases e
  · rintro ⟨r,e⟩
    obtain ⟨y,m,d,_,_,t⟩:=mw r.1 r.2
    have hq:s.length = 13 ∧ uL s pa = true:=by rw [e,t]; exact ⟨xW _ _ _ _,vT _ _ _ _⟩
    rw [if_pos hq]
    have hf:=si hq.1 hq.2
    refine (ua (BN _ (by simp; omega)) (xH _ (by simp; omega)) (xH _ (by simp; omega)) (xH _ (by simp; omega)) h).2 ⟨r,?_⟩
    rw [← hf]; exact e
theorem wn (s:Wd):jV W s = some ((cO s).getD 0,(cO s).isSome):=by
  unfold jV
  by_cases hs:s.length = 13
  · rw [if_neg (by omega),if_pos (by omega)]
    have e:=A7 hs 199986
    have e2:dI W s W 0 0 0 0 0 0 = if uL s pa = true then some (Sum.inl (ve s)) else some (Sum.inr (0,false)):=e
    rw [e2]
    by_cases hf:uL s pa = true
    · have hc:cO s = Aa (vn (s.take 4)) (vn ((s.drop 5).take 2)) (vn ((s.drop 8).take 2)) (vn ((s.drop 11).take 2)):=by unfold cO; rw [if_pos ⟨hs,hf⟩]
      have h2:=xH ((s.drop 5).take 2) (by simp; omega)
      have h3:=xH ((s.drop 8).take 2) (by simp; omega)
      have h4:=xH ((s.drop 11).take 2) (by simp; omega)
      rw [if_pos hf,yZ hs hf,hc]
      generalize vn (s.take 4) = y at *
      generalize vn ((s.drop 5).take 2) = m at *
      generalize vn ((s.drop 8).take 2) = d at *
      generalize vn ((s.drop 11).take 2) = h at *
      simp only [Option.bind_some,mD,fc]
      rw [if_pos (by decide),if_pos (by decide),if_pos (by decide),if_pos (by decide),zN y m d (by omega) (by omega) (by omega)]
      unfold Aa
      by_cases hv:kZ y m d
      · have hin:=mU hv
        rw [if_pos hv]
        simp only [Bool.not_true,Bool.false_eq_true,if_false]
        rw [cl (n:=_ * 24) (by omega),cl (by omega)]
        by_cases h24:24 ≤ (h:Int)
        · rw [if_pos h24,if_neg (fun q=>by have:=q.2.1; omega)]; rfl
        · rw [if_neg h24]
          by_cases hx:16777216 < iT y m d * 24 + (h:Int)
          · rw [if_pos hx,if_neg (fun q=>by have:=q.2.2; omega)]; rfl
          · rw [if_neg hx,if_pos ⟨hv,by omega,by omega⟩]; rfl
      · rw [if_neg hv,if_pos (show (!((0:Int),false).2) = true from rfl),if_neg (fun q=>hv q.1)]
        rfl
    · have hc:cO s = none:=by unfold cO; rw [if_neg (fun q=>hf q.2)]
      rw [if_neg hf,hc]; rfl
  · have hc:cO s = none:=by unfold cO; rw [if_neg (fun q=>hs q.1)]
    rw [if_pos (by omega),hc]; rfl
theorem yv (s:Wd):ge W s = some ((cO s).getD 0,(cO s).isSome):=by
  unfold ge
  by_cases hs:s.length = 13
  · have e4:(s.drop (0:Int).toNat).take ((4:Int).toNat - (0:Int).toNat) = s.take 4:=rfl
    have e7:(s.drop (5:Int).toNat).take ((7:Int).toNat - (5:Int).toNat) = (s.drop 5).take 2:=rfl
    have e10:(s.drop (8:Int).toNat).take ((10:Int).toNat - (8:Int).toNat) = (s.drop 8).take 2:=rfl
    have e13:(s.drop (11:Int).toNat).take ((13:Int).toNat - (11:Int).toNat) = (s.drop 11).take 2:=rfl
    rw [if_neg (by omega),if_pos (by omega),e4,e7,e10,e13,nu (by simp; omega),nu (by simp; omega),nu (by simp; omega),nu (by simp; omega)]
    simp only [Option.bind_some]
    have h1:=BN (s.take 4) (by simp; omega)
    have h2:=xH ((s.drop 5).take 2) (by simp; omega)
    have h3:=xH ((s.drop 8).take 2) (by simp; omega)
    have h4:=xH ((s.drop 11).take 2) (by simp; omega)
    rw [if_pos (by omega),if_pos (by omega),wN _ _ _ (by omega) (by omega) (by omega),Option.bind_some,if_pos (by omega)]
    have key:cO s = (if kZ (vn (s.take 4)) (vn ((s.drop 5).take 2)) (vn ((s.drop 8).take 2)) ∧ vn ((s.drop 11).take 2) < 24 ∧ iT (vn (s.take 4)) (vn ((s.drop 5).take 2)) (vn ((s.drop 8).take 2)) * 24 + vn ((s.drop 11).take 2) ≤ 16777216 then (if s = lj (iT (vn (s.take 4)) (vn ((s.drop 5).take 2)) (vn ((s.drop 8).take 2)) * 24 + vn ((s.drop 11).take 2)) then some (iT (vn (s.take 4)) (vn ((s.drop 5).take 2)) (vn ((s.drop 8).take 2)) * 24 + vn ((s.drop 11).take 2)) else none) else none):=by
      by_cases hf:uL s pa = true
      · have hc:cO s = Aa (vn (s.take 4)) (vn ((s.drop 5).take 2)) (vn ((s.drop 8).take 2)) (vn ((s.drop 11).take 2)):=by unfold cO; rw [if_pos ⟨hs,hf⟩]
        have hi:=fun n=>ua h1 h2 h3 h4 n
        rw [← si hs hf,← hc] at hi
        by_cases hq:kZ (vn (s.take 4)) (vn ((s.drop 5).take 2)) (vn ((s.drop 8).take 2)) ∧ vn ((s.drop 11).take 2) < 24 ∧ iT (vn (s.take 4)) (vn ((s.drop 5).take 2)) (vn ((s.drop 8).take 2)) * 24 + vn ((s.drop 11).take 2) ≤ 16777216
        · rw [if_pos hq]
          have he:cO s = some (iT (vn (s.take 4)) (vn ((s.drop 5).take 2)) (vn ((s.drop 8).take 2)) * 24 + vn ((s.drop 11).take 2)):=by rw [hc]; unfold Aa; rw [if_pos hq]
          rw [if_pos ((hi _).1 he).2]; exact he
        · rw [if_neg hq,hc]; unfold Aa; rw [if_neg hq]
      · have hc:cO s = none:=by unfold cO; rw [if_neg (fun q=>hf q.2)]
        rw [hc]
        split
        · rename_i q
          rw [if_neg]
          intro e
          have hin:=mU q.1
          obtain ⟨y,m,d,_,_,t⟩:=mw (h:=iT (vn (s.take 4)) (vn ((s.drop 5).take 2)) (vn ((s.drop 8).take 2)) * 24 + vn ((s.drop 11).take 2)) (by omega) (by omega)
          exact hf (by rw [e,t]; exact vT _ _ _ _)
        · rfl
    rw [key]
    generalize vn (s.take 4) = y at *
    generalize vn ((s.drop 5).take 2) = m at *
    generalize vn ((s.drop 8).take 2) = d at *
    generalize vn ((s.drop 11).take 2) = h at *
    by_cases hv:kZ y m d
    · have hin:=mU hv
      rw [if_pos hv]
      simp only [Bool.not_true,Bool.false_eq_true,if_false]
      rw [cl (n:=24 * _) (by omega),cl (by omega),Int.mul_comm 24]
      by_cases h24:23 < (h:Int)
      · rw [if_pos h24,if_neg (fun q=>by have:=q.2.1; omega)]; rfl
      · rw [if_neg h24]
        by_cases hx:16777216 < iT y m d * 24 + (h:Int)
        · rw [if_pos hx,if_neg (fun q=>by have:=q.2.2; omega)]; rfl
        · rw [if_neg hx,if_pos ⟨hv,by omega,by omega⟩,pZ (by omega) (by omega),Option.bind_some]
          by_cases ht:s = lj (iT y m d * 24 + (h:Int))
          · rw [if_pos ht,if_neg (fun q=>q ht.symm)]; rfl
          · rw [if_neg ht,if_pos (fun q=>ht q.symm)]; rfl
    · rw [if_neg hv,if_pos (show (!((0:Int),false).2) = true from rfl),if_neg (fun q=>hv q.1)]
      rfl
  · have hc:cO s = none:=by unfold cO; rw [if_neg (fun q=>hs q.1)]
    rw [if_pos (by omega),hc]; rfl
theorem yE {h:Int} (r:0 ≤ h ∧ h ≤ 16777216):32 ∉ lj h:=by
  obtain ⟨y,m,d,_,_,t⟩:=mw r.1 r.2
  have e32:(32:UInt8).toNat = 32:=rfl
  have nd:∀ k n,32 ∉ jA k n:=fun k n q=>by have:=un k n 32 q; unfold rt at this; omega
  rw [t]
  unfold TP
  simp only [List.mem_append,List.mem_cons,not_or]
  exact ⟨nd _ _,by decide,nd _ _,by decide,nd _ _,by decide,nd _ _⟩
theorem rS {h:Int} (r:0 ≤ h ∧ h ≤ 16777216):(lj h).length = 13:=by
  obtain ⟨y,m,d,_,_,t⟩:=mw r.1 r.2
  rw [t]; exact xW _ _ _ _
end Go.Proofs.YtgbjponaoeiglaaDoor.WordsReads
end
section
set_option linter.unusedVariables false
set_option linter.unusedSimpArgs false
set_option maxRecDepth 20000
namespace Go.Proofs.YtgbjponaoeiglaaDoor.WordsReads
open Go E
def hH (a1 a2 a3 a4:Wd) (j:Nat):Wd:=[a1,a2,a3,a4].getD j []
def qX (d:Int) (D:Nat → Wd) (j:Nat):Prop:=(D j).length ≤ 16 ∧ (d ≤ j → D j = [])
theorem tf (K:Nat) (a1 a2 a3 a4:List UInt8) (d:Int):∀ (k:Nat) (i:Int),ir K a1 a2 a3 a4 d k i = de K a1 a2 a3 a4 d k i
  | 0,i=>rfl
  | k + 1,i=>by rw [ir,de,tf K a1 a2 a3 a4 d k]
theorem Ad (a1 a2 a3 a4:List UInt8) (d:Int):∀ (k i:Nat),i ≤ 4 → 4 < i + k → ∃ x,de W a1 a2 a3 a4 d k i = some x ∧ (x = 0 ↔ ∀ j,i ≤ j → j < 4 → qX d (hH a1 a2 a3 a4) j)
  | 0,i,h1,h2=>by omega
  | k + 1,i,h1,h2=>by
    rw [de]
    by_cases h:i < 4
    · have hn:bj ((i:Int) + 1) = ((i + 1:Nat):Int):=by rw [cl (by omega)]; omega
      obtain ⟨x,hx,hi⟩:=Ad a1 a2 a3 a4 d k (i + 1) (by omega) (by omega)
      have hD:[a1,a2,a3,a4].getD (i:Int).toNat [] = hH a1 a2 a3 a4 i:=by rw [Int.toNat_natCast]; rfl
      rw [if_pos (by omega),if_pos (by omega),if_pos (by omega),hn,hx,hD]
      have bad:¬ qX d (hH a1 a2 a3 a4) i → ((4:Int) = 0 ↔ ∀ j,i ≤ j → j < 4 → qX d (hH a1 a2 a3 a4) j):=fun hb=>⟨fun e=>by omega,fun q=>absurd (q i (Nat.le_refl _) h) hb⟩
      have good:qX d (hH a1 a2 a3 a4) i → (x = 0 ↔ ∀ j,i ≤ j → j < 4 → qX d (hH a1 a2 a3 a4) j):=fun hg=>hi.trans ⟨fun q j h1 h2=>if e:j = i then e ▸ hg else q j (by omega) h2,fun q j h1 h2=>q j (by omega) h2⟩
      by_cases c1:16 < ((hH a1 a2 a3 a4 i).length:Int)
      · rw [if_pos c1]; exact ⟨4,rfl,bad fun q=>by have:=q.1; omega⟩
      · rw [if_neg c1]
        by_cases c2:d ≤ (i:Int)
        · rw [if_pos c2]
          by_cases c3:hH a1 a2 a3 a4 i = []
          · rw [if_neg (fun q=>q c3)]; exact ⟨x,rfl,good ⟨by omega,fun _=>c3⟩⟩
          · rw [if_pos c3]; exact ⟨4,rfl,bad fun q=>c3 (q.2 c2)⟩
        · rw [if_neg c2]; exact ⟨x,rfl,good ⟨by omega,fun q=>absurd q c2⟩⟩
    · rw [if_neg (by omega)]; exact ⟨0,rfl,fun _ j h1 h2=>by omega,fun _=>rfl⟩
structure sK (d h:Int) (D:Nat → Wd) (v:Int):Prop where
  h0:0 ≤ h
  h1:h ≤ 16777216
  v0:-1152921504606846976 ≤ v
  v1:v ≤ 1152921504606846976
  ds:∀ j,j < 4 → qX d D j
theorem AX (h:Int) (a1 a2 a3 a4:List UInt8) (v:Int) {d:Int} (d0:1 ≤ d) (d1:d ≤ 4):∃ x,kA W h a1 a2 a3 a4 v d = some x ∧ gm W h a1 a2 a3 a4 v d = some x ∧ (x = 0 ↔ sK d h (hH a1 a2 a3 a4) v):=by
  obtain ⟨x,hx,hi⟩:=Ad a1 a2 a3 a4 d W 0 (by omega) (by unfold W; omega)
  have hx':de W a1 a2 a3 a4 d W 0 = some x:=hx
  unfold kA gm ju
  simp only [fc,tf,hx']
  rw [if_pos d0,decide_eq_true d1,if_neg (show ¬ d < 1 by omega),if_neg (show ¬ 4 < d by omega)]
  simp only [Bool.not_true,Bool.false_eq_true,if_false]
  have kQ:¬ sK d h (hH a1 a2 a3 a4) v → ((2:Int) = 0 ↔ sK d h (hH a1 a2 a3 a4) v):=fun q=>⟨fun e=>by omega,fun e=>absurd e q⟩
  by_cases c1:h < 0
  · rw [if_pos c1]; exact ⟨2,rfl,rfl,kQ fun q=>by have:=q.h0; omega⟩
  rw [if_neg c1]
  by_cases c2:16777216 < h
  · rw [if_pos c2]; exact ⟨2,rfl,rfl,kQ fun q=>by have:=q.h1; omega⟩
  rw [if_neg c2]
  by_cases c3:1152921504606846976 < v
  · rw [if_pos c3]; exact ⟨2,rfl,rfl,kQ fun q=>by have:=q.v1; omega⟩
  rw [if_neg c3]
  by_cases c4:v < -1152921504606846976
  · rw [if_pos c4]; exact ⟨2,rfl,rfl,kQ fun q=>by have:=q.v0; omega⟩
  rw [if_neg c4]
  exact ⟨x,rfl,rfl,hi.trans ⟨fun q=>⟨by omega,by omega,by omega,by omega,fun j hj=>q j (by omega) hj⟩,fun q j _ hj=>q.ds j hj⟩⟩
def Bx (d:Int) (f:aA):Prop:=sK d f.Key.Hour (hH f.Key.Dims_0 f.Key.Dims_1 f.Key.Dims_2 f.Key.Dims_3) f.Value
theorem tw (l:List aA) (hl:l.length ≤ 100) {d:Int} (d0:1 ≤ d) (d1:d ≤ 4):∀ (k i:Nat),i ≤ l.length → l.length < i + k → ∃ x,iw W l d k i = some x ∧ eQ W l d k i = some x ∧ (x.1 = 0 ↔ ∀ j,i ≤ j → j < l.length → Bx d (l.getD j ax))
  | 0,i,h1,h2=>by omega
  | k + 1,i,h1,h2=>by
    rw [iw,eQ]
    by_cases h:i < l.length
    · have hn:bj ((i:Int) + 1) = ((i + 1:Nat):Int):=by rw [cl (by omega)]; omega
      obtain ⟨x,hx,hy,hi⟩:=AX ((l.getD (i:Int).toNat ax).Key).Hour ((l.getD (i:Int).toNat ax).Key).Dims_0 ((l.getD (i:Int).toNat ax).Key).Dims_1 ((l.getD (i:Int).toNat ax).Key).Dims_2 ((l.getD (i:Int).toNat ax).Key).Dims_3 (l.getD (i:Int).toNat ax).Value d0 d1
      obtain ⟨y,e2,e3,hj⟩:=tw l hl d0 d1 k (i + 1) (by omega) (by omega)
      rw [if_pos (by omega),if_pos (by omega),if_pos (by omega),if_pos (by omega),hx,hy,hn,e2,e3]
      simp only [Option.bind_some]
      rw [Int.toNat_natCast] at hi
      by_cases c:x = 0
      · rw [if_neg (fun q=>q c)]
        refine ⟨y,rfl,rfl,hj.trans ⟨fun q j h1 h2=>?_,fun q j h1 h2=>q j (by omega) h2⟩⟩
        by_cases e:j = i
        · subst e; exact hi.1 c
        · exact q j (by omega) h2
      · rw [if_pos c]
        exact ⟨_,rfl,rfl,fun q=>absurd q c,fun q=>absurd (hi.2 (q i (Nat.le_refl _) h)) c⟩
    · rw [if_neg (by omega),if_neg (by omega)]; exact ⟨(0,0),rfl,rfl,fun _ j h1 h2=>by omega,fun _=>rfl⟩
theorem AY (l:List aA) (hl:l.length ≤ 100) {d:Int} (d0:1 ≤ d) (d1:d ≤ 4):∃ x,kE W l d = some x ∧ gk W l d = some x ∧ (x.1 = 0 ↔ (1 ≤ l.length ∧ l.length ≤ 50) ∧ ∀ f ∈ l,Bx d f):=by
  obtain ⟨x,hx,hy,hi⟩:=tw l hl d0 d1 W 0 (by omega) (by unfold W; omega)
  have hx':iw W l d W 0 = some x:=hx
  have hy':eQ W l d W 0 = some x:=hy
  unfold kE gk ju
  simp only [fc,hx',hy']
  rw [if_pos d0,decide_eq_true d1,if_neg (show ¬ d < 1 by omega),if_neg (show ¬ 4 < d by omega)]
  simp only [Bool.not_true,Bool.false_eq_true,if_false]
  by_cases h3:(l.length:Int) = 0
  · rw [if_pos h3,if_pos (by omega)]; exact ⟨_,rfl,rfl,fun q=>absurd q (by decide),fun q=>by have:=q.1.1; omega⟩
  · rw [if_neg h3,if_neg (show ¬ (l.length:Int) < 1 by omega)]
    by_cases h4:50 < (l.length:Int)
    · rw [if_pos h4]; exact ⟨_,rfl,rfl,fun q=>absurd q (by decide),fun q=>by have:=q.1.2; omega⟩
    · rw [if_neg h4]
      refine ⟨x,rfl,rfl,hi.trans ⟨fun q=>⟨by omega,fun f hf=>?_⟩,fun q j _ hj=>?_⟩⟩
      · obtain ⟨j,hj,rfl⟩:=List.getElem_of_mem hf
        have:=q j (Nat.zero_le _) hj
        rwa [gc l j hj] at this
      · rw [gc l j hj]; exact q.2 _ (List.getElem_mem hj)
structure yS (d:Int) (g h:Nat → Bool) (t:Nat → Wd) (j:Nat):Prop where
  len:(t j).length ≤ 16
  no:h j = false → t j = []
  out:d ≤ j → g j = false ∧ h j = false
theorem A9 (d i:Int) (g b:Bool) (t:Wd) (x:Int) (P A:Prop) (hP:P ↔ t.length ≤ 16 ∧ (b = false → t = []) ∧ (d ≤ i → g = false ∧ b = false)) (bad:¬ P → ((4:Int) = 0 ↔ A)) (good:P → (x = 0 ↔ A)):∃ y,
    (Option.bind (if d ≤ i then (if g = true then (some (Sum.inr (4))) else (if b = true then (some (Sum.inr (4))) else (if ¬ (t = ([]:List UInt8)) then (if (!b) = true then (some (Sum.inr (4))) else (if 16 < (t.length:Int) then (some (Sum.inr (4))) else (some (Sum.inl ())))) else (if 16 < (t.length:Int) then (some (Sum.inr (4))) else (some (Sum.inl ())))))) else (if ¬ (t = ([]:List UInt8)) then (if (!b) = true then (some (Sum.inr (4))) else (if 16 < (t.length:Int) then (some (Sum.inr (4))) else (some (Sum.inl ())))) else (if 16 < (t.length:Int) then (some (Sum.inr (4))) else (some (Sum.inl ()))))) fun z=>(mD z (fun (v12:Unit)=>(some x)) (fun (t_:Int)=>(some (t_))))) = some y ∧
    (Option.bind (if d ≤ i then (if g = true then (some (Sum.inr (4))) else (if b = true then (some (Sum.inr (4))) else (if ¬ (t = ([]:List UInt8)) then (some (Sum.inr (4))) else (if 16 < (t.length:Int) then (some (Sum.inr (4))) else (if (!b) = true then (some (Sum.inl ())) else (some (Sum.inl ()))))))) else (if 16 < (t.length:Int) then (some (Sum.inr (4))) else (if (!b) = true then (if ¬ (t = ([]:List UInt8)) then (some (Sum.inr (4))) else (some (Sum.inl ()))) else (some (Sum.inl ()))))) fun z=>(mD z (fun (v12:Unit)=>(some x)) (fun (t_:Int)=>(some (t_))))) = some y ∧ (y = 0 ↔ A):=by
  by_cases c1:d ≤ i <;> cases g <;> cases b <;> by_cases c2:t = [] <;> by_cases c3:16 < (t.length:Int)
  all_goals simp only [c1,c2,c3,if_true,if_false,Bool.not_true,Bool.not_false,Bool.false_eq_true,not_true,not_false_iff,Option.bind_some,mD,↓reduceIte,List.length_nil]
  all_goals first
    | exact ⟨4,rfl,rfl,bad (fun q=>by
        obtain ⟨a,b,c⟩:=hP.1 q
        first
          | omega
          | exact c2 (b Z)
          | exact absurd (c c1).1 (by decide)
          | exact absurd (c c1).2 (by decide))⟩
    | exact ⟨x,rfl,rfl,good (hP.2 ⟨by omega,by first | exact fun _=>c2 | exact fun h=>(by cases h),by first | exact fun h=>absurd h c1 | exact fun _=>⟨rfl,rfl⟩⟩)⟩
    | (subst c2; simp at c3)
theorem Ab (g0 g1 g2 g3 h0 h1 h2 h3:Bool) (t0 t1 t2 t3:Wd) (d:Int):∀ (k i:Nat),i ≤ 4 → 4 < i + k → ∃ x,ja W g0 g1 g2 g3 h0 h1 h2 h3 t0 t1 t2 t3 d k i = some x ∧ eP W g0 g1 g2 g3 h0 h1 h2 h3 t0 t1 t2 t3 d k i = some x ∧ (x = 0 ↔ ∀ j,i ≤ j → j < 4 → yS d (fun j=>[g0,g1,g2,g3].getD j false) (fun j=>[h0,h1,h2,h3].getD j false) (hH t0 t1 t2 t3) j)
  | 0,i,h1,h2=>by omega
  | k + 1,i,q1,q2=>by
    rw [ja,eP]
    by_cases h:i < 4
    · have hn:bj ((i:Int) + 1) = ((i + 1:Nat):Int):=by rw [cl (by omega)]; omega
      obtain ⟨x,hx,hy,hi⟩:=Ab g0 g1 g2 g3 h0 h1 h2 h3 t0 t1 t2 t3 d k (i + 1) (by omega) (by omega)
      have p0:(0:Int) ≤ (i:Int):=by omega
      have p4:(i:Int) < 4:=by omega
      simp only [if_pos p0,if_pos p4,hn,hx,hy]
      rw [show [t0,t1,t2,t3].getD (i:Int).toNat [] = hH t0 t1 t2 t3 i from by rw [Int.toNat_natCast]; rfl,Int.toNat_natCast]
      obtain ⟨P,hP⟩:∃ P:Nat → Prop,P = fun j=>yS d (fun j=>[g0,g1,g2,g3].getD j false) (fun j=>[h0,h1,h2,h3].getD j false) (hH t0 t1 t2 t3) j:=⟨_,rfl⟩
      have hi:x = 0 ↔ ∀ j,i + 1 ≤ j → j < 4 → P j:=by rw [hP]; exact hi
      have bad:¬ P i → ((4:Int) = 0 ↔ ∀ j,i ≤ j → j < 4 → P j):=fun hb=>⟨fun e=>by omega,fun q=>absurd (q i (Nat.le_refl _) h) hb⟩
      have good:P i → (x = 0 ↔ ∀ j,i ≤ j → j < 4 → P j):=fun hg=>hi.trans ⟨fun q j a b=>if e:j = i then e ▸ hg else q j (by omega) b,fun q j a b=>q j (by omega) b⟩
      have hP':P i ↔ (hH t0 t1 t2 t3 i).length ≤ 16 ∧ ([h0,h1,h2,h3].getD i false = false → hH t0 t1 t2 t3 i = []) ∧ (d ≤ (i:Int) → [g0,g1,g2,g3].getD i false = false ∧ [h0,h1,h2,h3].getD i false = false):=by rw [hP]; exact ⟨fun q=>⟨q.len,q.no,q.out⟩,fun q=>⟨q.1,q.2.1,q.2.2⟩⟩
      have key:=A9 d i ([g0,g1,g2,g3].getD i false) ([h0,h1,h2,h3].getD i false) (hH t0 t1 t2 t3 i) x (P i) _ hP' bad good
      rw [hP] at key
      exact key
    · rw [if_neg (by omega),if_neg (by omega)]; exact ⟨0,rfl,rfl,fun _ j h1 h2=>by omega,fun _=>rfl⟩
structure tr (d a b:Int) (g h:Nat → Bool) (t:Nat → Wd):Prop where
  a0:0 ≤ a
  ab:a ≤ b
  b1:b ≤ 16777217
  ds:∀ j,j < 4 → yS d g h t j
theorem AQ (a b:Int) (g0 g1 g2 g3 h0 h1 h2 h3:Bool) (t0 t1 t2 t3:Wd) {d:Int} (d0:1 ≤ d) (d1:d ≤ 4):∃ x,ki W a b g0 g1 g2 g3 h0 h1 h2 h3 t0 t1 t2 t3 d = some x ∧ gl W a b g0 g1 g2 g3 h0 h1 h2 h3 t0 t1 t2 t3 d = some x ∧ (x = 0 ↔ tr d a b (fun j=>[g0,g1,g2,g3].getD j false) (fun j=>[h0,h1,h2,h3].getD j false) (hH t0 t1 t2 t3)):=by
  obtain ⟨x,hx,hy,hi⟩:=Ab g0 g1 g2 g3 h0 h1 h2 h3 t0 t1 t2 t3 d W 0 (by omega) (by unfold W; omega)
  have hx':ja W g0 g1 g2 g3 h0 h1 h2 h3 t0 t1 t2 t3 d W 0 = some x:=hx
  have hy':eP W g0 g1 g2 g3 h0 h1 h2 h3 t0 t1 t2 t3 d W 0 = some x:=hy
  unfold ki gl mm
  simp only [fc,hx',hy']
  rw [if_pos d0,decide_eq_true d1,if_neg (show ¬ d < 1 by omega),if_neg (show ¬ 4 < d by omega)]
  simp only [Bool.not_true,Bool.false_eq_true,if_false]
  have kQ:¬ tr d a b (fun j=>[g0,g1,g2,g3].getD j false) (fun j=>[h0,h1,h2,h3].getD j false) (hH t0 t1 t2 t3) → ((2:Int) = 0 ↔ tr d a b (fun j=>[g0,g1,g2,g3].getD j false) (fun j=>[h0,h1,h2,h3].getD j false) (hH t0 t1 t2 t3)):=fun q=>⟨fun e=>by omega,fun e=>absurd e q⟩
  by_cases c1:a < 0
  · rw [if_pos c1,if_pos c1]; exact ⟨2,rfl,rfl,kQ fun q=>by have:=q.a0; omega⟩
  rw [if_neg c1,if_neg c1]
  by_cases c2:b < a
  · rw [if_pos c2,if_pos c2]
    refine ⟨2,rfl,?_,kQ fun q=>by have:=q.ab; omega⟩
    split <;> rfl
  rw [if_neg c2,if_neg c2]
  by_cases c3:16777217 < b
  · rw [if_pos c3]; exact ⟨2,rfl,rfl,kQ fun q=>by have:=q.b1; omega⟩
  rw [if_neg c3]
  exact ⟨x,rfl,rfl,hi.trans ⟨fun q=>⟨by omega,by omega,by omega,fun j hj=>q j (by omega) hj⟩,fun q j _ hj=>q.ds j hj⟩⟩
theorem AK (a0 a1 a2 a3 a4 a5 a6 a7 a8:Int):im a0 a1 a2 a3 a4 a5 a6 a7 a8 = some (dj a0 a1 a2 a3 a4 a5 a6 a7 a8):=by
  have one:∀ (x lo hi:Int) (A:Option Int) (B:Int),A = some B → (if x < lo then some 2 else (if hi < x then some 2 else A)) = some (if (!(if lo ≤ x then decide (x ≤ hi) else false)) = true then 2 else B):=by
    intro x lo hi A B h
    by_cases c1:x < lo
    · have e:¬ lo ≤ x:=by omega
      rw [if_pos c1]; simp [e]
    · have e:lo ≤ x:=by omega
      rw [if_neg c1]
      by_cases c2:hi < x
      · have e2:¬ x ≤ hi:=by omega
        rw [if_pos c2]; simp [e,e2]
      · have e2:x ≤ hi:=by omega
        rw [if_neg c2,h]; simp [e,e2]
  unfold im dj jR jq cm
  simp only [fc]
  rw [if_pos (show (0:Int) < 9 by decide)]
  refine one _ _ _ _ _ ?_
  rw [if_pos (show (1:Int) < 9 by decide)]
  refine one _ _ _ _ _ ?_
  rw [if_pos (show (2:Int) < 9 by decide)]
  refine one _ _ _ _ _ ?_
  rw [if_pos (show (3:Int) < 9 by decide)]
  refine one _ _ _ _ _ ?_
  rw [if_pos (show (4:Int) < 9 by decide)]
  refine one _ _ _ _ _ ?_
  rw [if_pos (show (5:Int) < 9 by decide)]
  refine one _ _ _ _ _ ?_
  rw [if_pos (show (6:Int) < 9 by decide)]
  refine one _ _ _ _ _ ?_
  rw [if_pos (show (7:Int) < 9 by decide)]
  refine one _ _ _ _ _ ?_
  rw [if_pos (show (8:Int) < 9 by decide)]
  exact one _ _ _ _ _ Z
end Go.Proofs.YtgbjponaoeiglaaDoor.WordsReads
end
section
set_option linter.unusedVariables false
set_option linter.unusedSimpArgs false
set_option maxRecDepth 20000
namespace Go.Proofs.YtgbjponaoeiglaaDoor.WordsReads
open Go E
abbrev eD (l:List Wd):Prop:=∀ x ∈ l,x.length ≤ 1500
theorem da {w:Wd} {l:List Wd} (h:eD (w :: l)):eD l:=fun x hx=>h x (by simp [hx])
theorem dM {w:Wd} {l:List Wd} (h:eD (w :: l)):w.length ≤ 1500:=h w (by simp)
theorem uG {l:List Wd} (h:eD l) (n:Nat):eD (l.drop n):=fun x hx=>h x (List.mem_of_mem_drop hx)
theorem mu (w:Wd) (l:List Wd) (p:Int):br (w :: l) p = some (some (l,w)):=by
  unfold br
  rw [if_pos (by simp only [List.length_cons]; omega),if_pos (by simp only [List.length_cons]; omega)]; rfl
theorem ze (p:Int):br [] p = some none:=rfl
theorem ji (w:Wd) (l:List Wd) (p:Int):cM (w :: l) p = some (some (l,w)):=by
  unfold cM
  rw [if_pos (by simp only [List.length_cons]; omega),if_pos (by simp only [List.length_cons]; omega)]; rfl
theorem je {w:Wd} (l:List Wd) (p:Int) (hw:w.length ≤ 1500):aM W (w :: l) p = some ((nO w).map fun n=>(l,n)):=by
  unfold aM
  rw [mu,Option.bind_some,bN,tD w hw,Option.bind_some]
  cases nO w <;> rfl
theorem kx (p:Int):aM W [] p = some none:=rfl
theorem xG {w:Wd} (l:List Wd) (p:Int) (hw:w.length ≤ 1500):cB W (w :: l) p = some ((bO w).map fun n=>(l,n)):=by
  unfold cB
  rw [mu,Option.bind_some,bN,rV w hw,Option.bind_some]
  cases bO w <;> rfl
theorem yd (p:Int):cB W [] p = some none:=rfl
def iL {α:Type} (D:Nat → α) (i:Nat) (t:α) (j:Nat):α:=if i = j then t else D j
def mz:Nat → Nat → List Wd → (Nat → Wd) → Option (List Wd × (Nat → Wd))
  | 0,_,l,D=>some (l,D)
  | _ + 1,_,[],_=>none
  | n + 1,i,w :: l,D=>(bO w).bind fun t=>mz n (i + 1) l (iL D i t)
theorem tT (dm:Nat) (h4:dm ≤ 4):∀ (f n i:Nat) (l:List Wd) (D:Nat → Wd),i + n = dm → n < f → eD l →
    db W dm f i l (D 0) (D 1) (D 2) (D 3) = some (match mz n i l D with | none=>Sum.inr none | some q=>Sum.inl (q.1,q.2 0,q.2 1,q.2 2,q.2 3))
  | 0,n,i,l,D,h,hf,hs=>by omega
  | f + 1,0,i,l,D,h,hf,hs=>by
    rw [db,if_neg (by omega)]; rfl
  | f + 1,n + 1,i,[],D,h,hf,hs=>by
    rw [db,if_pos (by omega),yd]; rfl
  | f + 1,n + 1,i,w :: l,D,h,hf,hs=>by
    rw [db,if_pos (by omega),xG l _ (dM hs),Option.bind_some]
    cases hb:bO w with
    | none=>simp only [Option.map_none,ew,mz,hb,Option.bind_none]
    | some t =>
      have ih:=tT dm h4 f n (i + 1) l (iL D i t) (by omega) (by omega) (da hs)
      simp only [Option.map_some,bN,mz,hb,Option.bind_some]
      rw [if_pos (by omega),if_pos (by omega),mc (by omega),Int.toNat_natCast]
      exact ih
def D0:Nat → Wd:=fun _=>[]
def uJ (h:Int) (D:Nat → Wd) (v:Int):aA:=⟨⟨h,D 0,D 1,D 2,D 3⟩,v⟩
def kK (dm:Nat):Nat → List Wd → Option (List aA)
  | _,[]=>some []
  | 0,_ :: _=>none
  | n + 1,w :: l=>(cO w).bind fun h=>(mz dm 0 l D0).bind fun q=>match q.1 with
    | []=>none
    | v :: l'=>(nO v).bind fun x=>(kK dm n l').map (uJ h q.2 x :: ·)
theorem qZ:∀ (n i:Nat) (l:List Wd) (D:Nat → Wd) (q:List Wd × (Nat → Wd)),mz n i l D = some q → q.1 = l.drop n ∧ n ≤ l.length
  | 0,i,l,D,q,h=>by cases h; exact ⟨rfl,Nat.zero_le _⟩
  | n + 1,i,[],D,q,h=>by cases h
  | n + 1,i,w :: l,D,q,h=>by
    simp only [mz] at h
    obtain ⟨t,_,h2⟩:=Option.bind_eq_some_iff.1 h
    have:=qZ n (i + 1) l _ q h2
    exact ⟨this.1,by simp only [List.length_cons]; omega⟩
theorem ta (dm:Nat) (h4:dm ≤ 4):∀ (f:Nat) (l:List Wd) (out:List aA),l.length < f → out.length ≤ 50 → eD l → l.length ≤ 2000 →
    en W dm f l out = some ((kK dm (50 - out.length) l).map fun fs=>(out ++ fs,[]))
  | 0,l,out,h,_,_,_=>by omega
  | f + 1,[],out,h,ho,hs,hl=>by
    rw [en,if_pos (by simp)]
    cases 50 - out.length <;> simp [kK]
  | f + 1,w :: l,out,h,ho,hs,hl=>by
    rw [en,if_neg (by simp; omega)]
    by_cases hc:out.length < 50
    · obtain ⟨n,hn⟩:∃ n,50 - out.length = n + 1:=⟨50 - out.length - 1,by omega⟩
      rw [if_pos (by omega),mu,Option.bind_some,bN,wn,Option.bind_some,hn,kK]
      cases hc1:cO w with
      | none=>simp
      | some hh =>
        have hT:=tT dm h4 W dm 0 l D0 (by omega) (by unfold W; omega) (da hs)
        have hT':db W dm W 0 l [] [] [] [] = some (match mz dm 0 l D0 with | none=>Sum.inr none | some q=>Sum.inl (q.1,q.2 0,q.2 1,q.2 2,q.2 3)):=hT
        simp only [Option.isSome_some,if_true,Option.getD_some,Option.bind_some]
        rw [hT',Option.bind_some]
        cases hr:mz dm 0 l D0 with
        | none=>simp only [mD,Option.bind_none,Option.map_none]
        | some q =>
          obtain ⟨e1,e2⟩:=qZ dm 0 l D0 q hr
          obtain ⟨q1,q2⟩:=q
          simp only at e1
          simp only [mD,Option.bind_some]
          cases q1 with
          | nil=>rw [kx,Option.bind_some]; rfl
          | cons v l' =>
            have hsq:eD (v :: l'):=by rw [e1]; exact uG (da hs) dm
            have hlq:(v :: l').length ≤ l.length:=by rw [e1]; simp
            rw [je l' _ (dM hsq),Option.bind_some]
            cases hv:nO v with
            | none=>simp only [hv,Option.map_none,ew,Option.bind_none]
            | some x =>
              simp only [List.length_cons] at hlq h hl
              simp only [hv,Option.map_some,bN,Option.bind_some]
              rw [if_pos (by simp; omega)]
              have ih:=ta dm h4 f l' (out ++ [uJ hh q2 x]) (by omega) (by simp; omega) (da hsq) (by omega)
              have e3:50 - (out ++ [uJ hh q2 x]).length = n:=by simp; omega
              rw [e3] at ih
              rw [show (⟨⟨hh,q2 0,q2 1,q2 2,q2 3⟩,x⟩:aA) = uJ hh q2 x from rfl,ih]
              cases kK dm n l' <;> simp
    · rw [if_neg (by omega),show 50 - out.length = 0 by omega]
      rfl
theorem uj (dm:Nat) (h4:dm ≤ 4) (l:List Wd) (hs:eD l) (hl:l.length ≤ 2000):cG W l dm = some ((kK dm 50 l).map fun fs=>(fs,[])):=by
  unfold cG
  have:=ta dm h4 W l [] (by unfold W; omega) (by simp) hs hl
  simpa using this
def mb (D:Nat → Wd) (i n:Nat):List Wd:=(List.range n).map fun j=>jM (D (i + j))
theorem nC (D:Nat → Wd) (i n:Nat):mb D i (n + 1) = jM (D i) :: mb D (i + 1) n:=by
  unfold mb
  rw [List.range_succ_eq_map,List.map_cons,List.map_map]
  congr 1
  apply List.map_congr_left
  intro j _
  show jM (D (i + (j + 1))) = jM (D (i + 1 + j))
  congr 2; omega
theorem oG (D:Nat → Wd) (i n:Nat):(mb D i n).length = n:=by simp [mb]
theorem rP:∀ (n i:Nat) (l:List Wd) (D:Nat → Wd) (l':List Wd) (D':Nat → Wd),eD l → (mz n i l D = some (l',D') → l = mb D' i n ++ l' ∧ ∀ j,¬ (i ≤ j ∧ j < i + n) → D' j = D j)
  | 0,i,l,D,l',D',hs,h=>by cases h; exact ⟨rfl,fun j _=>rfl⟩
  | n + 1,i,[],D,l',D',hs,h=>by cases h
  | n + 1,i,w :: l,D,l',D',hs,h=>by
    simp only [mz] at h
    obtain ⟨t,ht,h2⟩:=Option.bind_eq_some_iff.1 h
    obtain ⟨e1,e2⟩:=rP n (i + 1) l _ l' D' (da hs) h2
    have hw:=(oL (dM hs) t).1 ht
    have hi:D' i = t:=by rw [e2 i (by omega)]; simp [iL]
    refine ⟨by rw [nC,hi,← hw,List.cons_append,← e1],fun j hj=>?_⟩
    rw [e2 j (by omega)]
    unfold iL
    rw [if_neg (by omega)]
theorem tJ:∀ (n i:Nat) (D D':Nat → Wd) (l':List Wd),eD (mb D' i n ++ l') → ∃ E,mz n i (mb D' i n ++ l') D = some (l',E) ∧ ∀ j,E j = if i ≤ j ∧ j < i + n then D' j else D j
  | 0,i,D,D',l',hs=>⟨D,rfl,fun j=>by rw [if_neg (by omega)]⟩
  | n + 1,i,D,D',l',hs=>by
    rw [nC,List.cons_append] at hs ⊢
    obtain ⟨E,e1,e2⟩:=tJ n (i + 1) (iL D i (D' i)) D' l' (da hs)
    refine ⟨E,?_,fun j=>?_⟩
    · simp only [mz]
      rw [(oL (dM hs) (D' i)).2 Z,Option.bind_some,e1]
    · rw [e2 j]
      unfold iL
      by_cases h1:i = j
      · subst h1; rw [if_neg (by omega),if_pos rfl,if_pos (by omega)]
      · rw [if_neg h1]
        by_cases h2:i + 1 ≤ j ∧ j < i + 1 + n
        · rw [if_pos h2,if_pos (by omega)]
        · rw [if_neg h2,if_neg (by omega)]
def fD (f:aA):Nat → Wd:=hH f.Key.Dims_0 f.Key.Dims_1 f.Key.Dims_2 f.Key.Dims_3
def iR (dm:Nat) (f:aA):List Wd:=lj f.Key.Hour :: (mb (fD f) 0 dm ++ [iK f.Value])
structure AD (dm:Nat) (f:aA):Prop where
  h:0 ≤ f.Key.Hour ∧ f.Key.Hour ≤ 16777216
  v:qP f.Value
  ds:∀ j,j < 4 → dm ≤ j → fD f j = []
theorem sj (h:Int) (D:Nat → Wd) (v:Int) (j:Nat) (hj:j < 4):fD (uJ h D v) j = D j:=by
  have:j = 0 ∨ j = 1 ∨ j = 2 ∨ j = 3:=by omega
  rcases this with rfl | rfl | rfl | rfl <;> rfl
theorem uV {D D':Nat → Wd} {i n:Nat} (h:∀ j,j < n → D (i + j) = D' (i + j)):mb D i n = mb D' i n:=by
  unfold mb
  apply List.map_congr_left
  intro j hj
  rw [h j (List.mem_range.1 hj)]
theorem tm {f g:aA} (h:f.Key.Hour = g.Key.Hour) (v:f.Value = g.Value) (d:∀ j,j < 4 → fD f j = fD g j):f = g:=by
  obtain ⟨⟨fh,f0,f1,f2,f3⟩,fv⟩:=f
  obtain ⟨⟨gh,g0,g1,g2,g3⟩,gv⟩:=g
  have d0:f0 = g0:=d 0 (by omega)
  have d1:f1 = g1:=d 1 (by omega)
  have d2:f2 = g2:=d 2 (by omega)
  have d3:f3 = g3:=d 3 (by omega)
  simp only at h v
  subst h; subst v; subst d0; subst d1; subst d2; subst d3
  rfl
theorem nT (dm:Nat) (h4:dm ≤ 4):∀ (n:Nat) (l:List Wd) (fs:List aA),eD l → kK dm n l = some fs → (fs.length ≤ n ∧ l = fs.flatMap (iR dm) ∧ ∀ f ∈ fs,AD dm f)
  | n,[],fs,hs,h=>by
    have:fs = []:=by cases n <;> (simp [kK] at h; exact h)
    subst this
    exact ⟨Nat.zero_le _,rfl,by simp⟩
  | 0,w :: l,fs,hs,h=>by cases h
  | n + 1,w :: l,fs,hs,h=>by
    simp only [kK] at h
    obtain ⟨hh,h1,h⟩:=Option.bind_eq_some_iff.1 h
    obtain ⟨⟨q1,q2⟩,h2,h⟩:=Option.bind_eq_some_iff.1 h
    obtain ⟨e1,e2⟩:=rP dm 0 l D0 q1 q2 (da hs) h2
    cases q1 with
    | nil=>cases h
    | cons v l' =>
      simp only at h
      obtain ⟨x,h3,h⟩:=Option.bind_eq_some_iff.1 h
      obtain ⟨fs',h5,h6⟩:=Option.map_eq_some_iff.1 h
      have hsv:eD (v :: l'):=fun y hy=>da hs y (by rw [e1]; exact List.mem_append.2 (.inr hy))
      obtain ⟨i1,i2,i3⟩:=nT dm h4 n l' fs' (da hsv) h5
      have a1:=(uz hh).1 h1
      have a2:=(lw (dM hsv) x).1 h3
      subst h6
      refine ⟨by simp; omega,?_,?_⟩
      · rw [List.flatMap_cons,← i2]
        unfold iR
        show w :: l = lj hh :: (mb (fD (uJ hh q2 x)) 0 dm ++ [iK x]) ++ l'
        rw [uV (D:=fD (uJ hh q2 x)) (D':=q2) (fun j hj=>sj _ _ _ _ (by omega)),← a1.2,← a2.1,List.cons_append,List.append_assoc]
        congr 1
      · intro f hf
        rcases List.mem_cons.1 hf with rfl | hf
        · exact ⟨a1.1,a2.2,fun j hj hd=>by rw [sj _ _ _ _ hj,e2 j (by omega)]; rfl⟩
        · exact i3 f hf
theorem rz (dm:Nat) (h4:dm ≤ 4):∀ (n:Nat) (fs:List aA),fs.length ≤ n → eD (fs.flatMap (iR dm)) → (∀ f ∈ fs,AD dm f) → kK dm n (fs.flatMap (iR dm)) = some fs
  | n,[],_,_,_=>by cases n <;> rfl
  | 0,f :: fs,h,_,_=>by simp at h
  | n + 1,f :: fs,h,hs,hc=>by
    have cf:=hc f (by simp)
    rw [List.flatMap_cons] at hs ⊢
    unfold iR at hs ⊢
    rw [List.cons_append,List.append_assoc] at hs ⊢
    simp only [kK]
    rw [(uz f.Key.Hour).2 ⟨cf.h,rfl⟩,Option.bind_some]
    obtain ⟨E,e1,e2⟩:=tJ dm 0 D0 (fD f) ([iK f.Value] ++ fs.flatMap (iR dm)) (da hs)
    unfold iR at e1
    rw [e1,Option.bind_some]
    have hsv:eD (iK f.Value :: fs.flatMap (iR dm)):=fun y hy=>da hs y (List.mem_append.2 (.inr hy))
    simp only [List.cons_append,List.nil_append]
    rw [(lw (dM hsv) f.Value).2 ⟨rfl,cf.v⟩,Option.bind_some]
    have ih:=rz dm h4 n fs (by simpa using h) (da hsv) fun g hg=>hc g (by simp [hg])
    unfold iR at ih
    rw [ih]
    have ef:uJ f.Key.Hour E f.Value = f:=tm Z Z fun j hj=>by
      rw [sj _ _ _ _ hj,e2 j]
      by_cases h0:0 ≤ j ∧ j < 0 + dm
      · rw [if_pos h0]
      · rw [if_neg h0]; exact (cf.ds j hj (by omega)).symm
    rw [Option.map_some,ef]
end Go.Proofs.YtgbjponaoeiglaaDoor.WordsReads
end
section
set_option linter.unusedVariables false
set_option linter.unusedSimpArgs false
set_option maxRecDepth 20000
namespace Go.Proofs.YtgbjponaoeiglaaDoor.WordsReads
open Go E
def tx (ws:List Wd) (k:Nat):Wd:=match ws[k]? with | none=>[] | some w=>(bO w).getD []
def nx (ws:List Wd) (k:Nat):Int:=match ws[k]? with | none=>0 | some w=>(nO w).getD 0
theorem vN {ws:List Wd} (hs:eD ws) (k:Nat):eu W ws k = some (tx ws k):=by
  unfold eu tx
  by_cases h:k < ws.length
  · rw [if_neg (by omega),if_pos (by omega),if_pos (by omega),Int.toNat_natCast,gc ws k h,yL _ (hs _ (List.getElem_mem h)),Option.bind_some,List.getElem?_eq_getElem h]
  · rw [if_pos (by omega),List.getElem?_eq_none (by omega)]
theorem qr {ws:List Wd} (hs:eD ws) (k:Nat):aW W ws k = some (nx ws k):=by
  unfold aW nx
  by_cases h:k < ws.length
  · rw [if_neg (by omega),if_pos (by omega),if_pos (by omega),Int.toNat_natCast,gc ws k h,zC _ (hs _ (List.getElem_mem h)),Option.bind_some,List.getElem?_eq_getElem h]
  · rw [if_pos (by omega),List.getElem?_eq_none (by omega)]
theorem Bz {ws:List Wd} {k:Nat} {t:Wd} (hs:eD ws) (h:ws[k]? = some (jM t)):tx ws k = t:=by
  have hm:jM t ∈ ws:=List.mem_of_getElem? h
  unfold tx
  rw [h]
  simp only
  rw [(oL (hs _ hm) t).2 Z]; rfl
theorem vc {ws:List Wd} {k:Nat} {n:Int} (hs:eD ws) (hn:qP n) (h:ws[k]? = some (iK n)):nx ws k = n:=by
  have hm:iK n ∈ ws:=List.mem_of_getElem? h
  unfold nx
  rw [h]
  simp only
  rw [(lw (hs _ hm) n).2 ⟨rfl,hn⟩]; rfl
theorem Ai (ws:List Wd) (hs:eD ws) (k:Nat):qP (nx ws k):=by
  unfold nx
  cases h:ws[k]? with
  | none=>unfold qP; simp
  | some w =>
    simp only
    cases hn:nO w with
    | none=>unfold qP; simp
    | some n=>exact ((lw (hs _ (List.mem_of_getElem? h)) n).1 hn).2
theorem sc {ws:List Wd} (hs:eD ws) (dm k:Nat) (h4:dm ≤ 4) (hk:k ≤ 10000):∀ (f n i:Nat) (D:Nat → Wd),i + n = dm → n < f →
    ∃ E:Nat → Wd,dx W ws dm k f i (D 0) (D 1) (D 2) (D 3) = some (E 0,E 1,E 2,E 3) ∧ ∀ j,E j = if i ≤ j ∧ j < dm then tx ws (k + 1 + j) else D j
  | 0,n,i,D,h,hf=>by omega
  | f + 1,0,i,D,h,hf=>by
    rw [dx,if_neg (by omega)]
    exact ⟨D,rfl,fun j=>by rw [if_neg (by omega)]⟩
  | f + 1,n + 1,i,D,h,hf=>by
    have ei:bj ((bj ((k:Int) + 1)) + (i:Int)) = ((k + 1 + i:Nat):Int):=by rw [cl (n:=(k:Int) + 1) (by omega),cl (by omega)]; omega
    obtain ⟨E,e1,e2⟩:=sc hs dm k h4 hk f n (i + 1) (iL D i (tx ws (k + 1 + i))) (by omega) (by omega)
    rw [dx,if_pos (by omega),ei,vN hs,Option.bind_some,if_pos (by omega),if_pos (by omega),mc (by omega),Int.toNat_natCast]
    refine ⟨E,e1,fun j=>?_⟩
    rw [e2 j]
    unfold iL
    by_cases h1:i = j
    · subst h1; rw [if_neg (by omega),if_pos rfl,if_pos (by omega)]
    · rw [if_neg h1]
      by_cases h2:i + 1 ≤ j ∧ j < dm
      · rw [if_pos h2,if_pos (by omega)]
      · rw [if_neg h2,if_neg (by omega)]
def gF (ws:List Wd) (dm:Nat):Nat → Nat → List aA
  | 0,_=>[]
  | n + 1,k=>if k < ws.length then uJ ((cO (ws.getD k [])).getD 0) (fun j=>if j < dm then tx ws (k + 1 + j) else []) (nx ws (k + dm + 1)) :: gF ws dm n (k + dm + 2) else []
theorem wY {h v:Int} {D E:Nat → Wd} (e:∀ j,j < 4 → D j = E j):uJ h D v = uJ h E v:=by
  unfold uJ; rw [e 0 (by omega),e 1 (by omega),e 2 (by omega),e 3 (by omega)]
theorem ye (ws:List Wd) (dm:Nat):∀ n k,(gF ws dm n k).length ≤ n
  | 0,k=>by simp [gF]
  | n + 1,k=>by
    rw [gF]
    split
    · have:=ye ws dm n (k + dm + 2); simp; omega
    · simp
theorem rM {ws:List Wd} (hs:eD ws) (hl:ws.length ≤ 2000) (dm:Nat) (h4:dm ≤ 4):∀ (f k:Nat) (out:List aA),k ≤ 4000 → 61 - out.length < f → out.length ≤ 60 →
    eY W ws dm f k out = some (out ++ gF ws dm (60 - out.length) k)
  | 0,k,out,_,h,_=>by omega
  | f + 1,k,out,hk,h,ho=>by
    rw [eY]
    by_cases c1:k < ws.length
    · by_cases c2:out.length < 60
      · obtain ⟨n,hn⟩:∃ n,60 - out.length = n + 1:=⟨60 - out.length - 1,by omega⟩
        have ei:bj ((bj ((k:Int) + (dm:Int))) + 1) = ((k + dm + 1:Nat):Int):=by rw [cl (n:=(k:Int) + (dm:Int)) (by omega),cl (by omega)]; omega
        have ej:bj ((k:Int) + (bj ((dm:Int) + 2))) = ((k + dm + 2:Nat):Int):=by rw [cl (n:=(dm:Int) + 2) (by omega),cl (by omega)]; omega
        obtain ⟨E,e1,e2⟩:=sc hs dm k h4 (by omega) W dm 0 D0 (by omega) (by unfold W; omega)
        have e1':dx W ws dm k W 0 [] [] [] [] = some (E 0,E 1,E 2,E 3):=e1
        rw [if_pos (by omega),if_pos (by omega),if_pos (by omega),Int.toNat_natCast,yv,Option.bind_some,ei,qr hs,Option.bind_some,e1',Option.bind_some,if_pos (by simp only [List.length_append,List.length_cons,List.length_nil]; omega),Option.bind_some,ej]
        have ef:(⟨⟨(cO (ws.getD k [])).getD 0,E 0,E 1,E 2,E 3⟩,nx ws (k + dm + 1)⟩:aA) = uJ ((cO (ws.getD k [])).getD 0) (fun j=>if j < dm then tx ws (k + 1 + j) else []) (nx ws (k + dm + 1)) :=
          wY (D:=E) fun j hj=>by
            rw [e2 j]
            by_cases hd:j < dm
            · rw [if_pos ⟨Nat.zero_le _,hd⟩,if_pos hd]
            · rw [if_neg (by omega),if_neg hd]; rfl
        have ih:=rM hs hl dm h4 f (k + dm + 2) (out ++ [uJ ((cO (ws.getD k [])).getD 0) (fun j=>if j < dm then tx ws (k + 1 + j) else []) (nx ws (k + dm + 1))]) (by omega) (by simp only [List.length_append,List.length_cons,List.length_nil]; omega) (by simp only [List.length_append,List.length_cons,List.length_nil]; omega)
        rw [ef,ih,hn]
        have e3:60 - (out ++ [uJ ((cO (ws.getD k [])).getD 0) (fun j=>if j < dm then tx ws (k + 1 + j) else []) (nx ws (k + dm + 1))]).length = n:=by simp; omega
        rw [e3,gF,if_pos c1,List.append_assoc]
        rfl
      · rw [if_pos (by omega),if_neg (by omega),show 60 - out.length = 0 by omega]
        simp [gF]
    · rw [if_neg (by omega)]
      cases 60 - out.length with
      | zero=>simp [gF]
      | succ n=>rw [gF,if_neg c1]; simp
theorem AV {ws:List Wd} (hs:eD ws) (hl:ws.length ≤ 2000) (dm:Nat) (h4:dm ≤ 4):fP W ws dm = some (gF ws dm 60 1):=by
  unfold fP
  have:=rM hs hl dm h4 W 1 [] (by omega) (by unfold W; simp) (by simp)
  simpa using this
theorem ue (dm:Nat) (h4:dm ≤ 4):∀ (n:Nat) (fs:List aA) (pre:List Wd),fs.length ≤ n → eD (pre ++ fs.flatMap (iR dm)) → (∀ f ∈ fs,AD dm f) → gF (pre ++ fs.flatMap (iR dm)) dm n pre.length = fs
  | 0,fs,pre,h,_,_=>by
    have:fs = []:=List.eq_nil_of_length_eq_zero (by omega)
    subst this; rfl
  | n + 1,[],pre,h,_,_=>by rw [gF,if_neg (by simp)]
  | n + 1,f :: fs,pre,h,hs,hc=>by
    have cf:=hc f (by simp)
    have ih:=ue dm h4 n fs (pre ++ iR dm f) (by simpa using h) (by rw [List.flatMap_cons,← List.append_assoc] at hs; exact hs) fun g hg=>hc g (by simp [hg])
    have ews:pre ++ (f :: fs).flatMap (iR dm) = (pre ++ iR dm f) ++ fs.flatMap (iR dm):=by rw [List.flatMap_cons,List.append_assoc]
    have elen:(pre ++ iR dm f).length = pre.length + dm + 2:=by simp [iR,oG]; omega
    rw [elen,← ews] at ih
    have ek:pre ++ (f :: fs).flatMap (iR dm) = pre ++ (lj f.Key.Hour :: (mb (fD f) 0 dm ++ (iK f.Value :: fs.flatMap (iR dm)))):=by rw [List.flatMap_cons]; simp [iR]
    rw [gF,if_pos (by rw [ek]; simp),ih]
    congr 1
    have g0:(pre ++ (f :: fs).flatMap (iR dm)).getD pre.length [] = lj f.Key.Hour:=by
      rw [ek,List.getD_eq_getElem?_getD,List.getElem?_append_right (Nat.le_refl _),Nat.sub_self]; rfl
    have gt:∀ j,j < dm → (pre ++ (f :: fs).flatMap (iR dm))[pre.length + 1 + j]? = some (jM (fD f j)):=by
      intro j hj
      rw [ek,List.getElem?_append_right (by omega),show pre.length + 1 + j - pre.length = j + 1 by omega,List.getElem?_cons_succ,List.getElem?_append_left (by rw [oG]; exact hj)]
      simp [mb,List.getElem?_map,List.getElem?_range hj]
    have gn:(pre ++ (f :: fs).flatMap (iR dm))[pre.length + dm + 1]? = some (iK f.Value):=by
      rw [ek,List.getElem?_append_right (by omega),show pre.length + dm + 1 - pre.length = dm + 1 by omega,List.getElem?_cons_succ,List.getElem?_append_right (by rw [oG]; exact Nat.le_refl _),oG,Nat.sub_self]; rfl
    rw [g0,(uz f.Key.Hour).2 ⟨cf.h,rfl⟩,vc hs cf.v gn]
    refine tm Z Z fun j hj=>?_
    rw [sj _ _ _ _ hj]
    by_cases hd:j < dm
    · rw [if_pos hd,Bz hs (gt j hd)]
    · rw [if_neg hd]; exact (cf.ds j hj (by omega)).symm
theorem pJ (t:Wd):(jM t).length ≤ 3 * t.length + 1:=by
  unfold jM
  split
  · simp
  · have:=BB t; omega
theorem vK (fs:List aA) (dm i:Nat) (h4:dm ≤ 4) (hf:∀ j,j < 4 → (fD (fs.getD i ax) j).length ≤ 16):∀ (f n j:Nat) (t:Wd),j + n = dm → n < f → t.length + 50 * n ≤ 1000000 →
    dv W fs dm i f t j = some (t ++ hQ (mb (fD (fs.getD i ax)) j n))
  | 0,n,j,t,h,hf,_=>by omega
  | f + 1,0,j,t,h,hf,_=>by
    rw [dv,if_neg (by omega)]; simp [mb,hQ]
  | f + 1,n + 1,j,t,h,hlt,hb=>by
    have hd:=hf j (by omega)
    have hw:=pJ (fD (fs.getD i ax) j)
    have e1:[((fs.getD (i:Int).toNat ax).Key).Dims_0,((fs.getD (i:Int).toNat ax).Key).Dims_1,((fs.getD (i:Int).toNat ax).Key).Dims_2,((fs.getD (i:Int).toNat ax).Key).Dims_3].getD (j:Int).toNat [] = fD (fs.getD i ax) j:=by rw [Int.toNat_natCast,Int.toNat_natCast]; rfl
    rw [dv,if_pos (by omega),if_pos (by simp only [List.length_append,List.length_cons,List.length_nil]; omega),if_pos (by omega),if_pos (by omega),e1,lR _ (by omega),Option.bind_some,if_pos (by simp only [List.length_append,List.length_cons,List.length_nil]; omega),mc (by omega),vK fs dm i h4 hf f n (j + 1) _ (by omega) (by omega) (by simp only [List.length_append,List.length_cons,List.length_nil]; omega)]
    rw [nC,iU]
    simp [List.append_assoc]
theorem vg (fs:List aA) (dm:Nat) (d1:1 ≤ dm) (h4:dm ≤ 4) (hl:fs.length ≤ 50) (hf:∀ f ∈ fs,Bx dm f):∀ (g i:Nat) (t:Wd),i ≤ fs.length → fs.length - i < g → t.length ≤ 100 + 300 * i →
    es W fs dm g t i = some (Sum.inr (t ++ hQ ((fs.drop i).flatMap (iR dm)),0))
  | 0,i,t,_,h,_=>by omega
  | g + 1,i,t,hi,h,ht=>by
    rw [es]
    by_cases c:i < fs.length
    · have hm:=hf _ (List.getElem_mem c)
      have eg:fs.getD i ax = fs[i]:=gc fs i c _
      have r1:0 ≤ fs[i].Key.Hour ∧ fs[i].Key.Hour ≤ 16777216:=⟨hm.h0,hm.h1⟩
      have l1:=vK fs dm i h4 (fun j hj=>by rw [eg]; exact (hm.ds j hj).1) W dm 0 ((t ++ [32]) ++ lj fs[i].Key.Hour) (by omega) (by unfold W; omega) (by simp only [List.length_append,List.length_cons,List.length_nil,rS r1]; omega)
      have l1':dv W fs dm i W ((t ++ [32]) ++ lj fs[i].Key.Hour) 0 = some ((t ++ [32]) ++ lj fs[i].Key.Hour ++ hQ (mb (fD (fs.getD i ax)) 0 dm)):=l1
      have tl:(hQ (mb (fD (fs.getD i ax)) 0 dm)).length ≤ 200:=by
        have key:∀ n j,n ≤ 4 → j + n = dm → (hQ (mb (fD (fs.getD i ax)) j n)).length ≤ 50 * n:=by
          intro n
          induction n with
          | zero=>intro j _ _; simp [mb,hQ]
          | succ n ih =>
            intro j h1 h2
            rw [nC,iU]
            have hd:=(hm.ds j (by omega)).1
            have hw:=pJ (fD (fs.getD i ax) j)
            rw [eg] at hw ⊢
            have:=ih (j + 1) (by omega) (by omega)
            rw [eg] at this
            simp only [List.length_cons,List.length_append]
            have e:(fD fs[i] j) = hH fs[i].Key.Dims_0 fs[i].Key.Dims_1 fs[i].Key.Dims_2 fs[i].Key.Dims_3 j:=rfl
            rw [← e] at hd
            omega
        have:=key dm 0 h4 (by omega)
        omega
      have dl:=lV (n:=fs[i].Value) (by have:=hm.v0; have:=hm.v1; omega)
      have tt:=rS r1
      rw [if_pos (by omega),if_pos (by simp only [List.length_append,List.length_cons,List.length_nil]; omega),if_pos (by omega),Int.toNat_natCast,eg,pZ r1.1 r1.2,Option.bind_some,if_pos (by simp only [List.length_append,List.length_cons,List.length_nil]; omega),l1',Option.bind_some,if_pos (by simp only [List.length_append,List.length_cons,List.length_nil]; omega),nS (by have:=hm.v0; have:=hm.v1; omega),Option.bind_some,if_pos (by simp only [List.length_append,List.length_cons,List.length_nil]; omega),Option.bind_some,mc (by omega)]
      rw [vg fs dm d1 h4 hl hf g (i + 1) _ (by omega) (by omega) (by simp only [List.length_append,List.length_cons,List.length_nil]; omega)]
      have ed:fs.drop i = fs[i] :: fs.drop (i + 1):=List.drop_eq_getElem_cons c
      rw [ed,List.flatMap_cons,rU]
      congr 3
      unfold iR
      rw [iU,rU,xp,eg]
      simp [List.append_assoc]
    · rw [if_neg (by omega),List.drop_eq_nil_of_le (by omega)]
      simp [hQ]
end Go.Proofs.YtgbjponaoeiglaaDoor.WordsReads
end
section
set_option linter.unusedVariables false
set_option linter.unusedSimpArgs false
set_option maxRecDepth 20000
namespace Go.Proofs.YtgbjponaoeiglaaDoor.WordsReads
open Go E
structure kH where
  k:Int
  fs:List aA
  a:Int
  b:Int
  g0:Bool
  g1:Bool
  g2:Bool
  g3:Bool
  h0:Bool
  h1:Bool
  h2:Bool
  h3:Bool
  t0:Wd
  t1:Wd
  t2:Wd
  t3:Wd
  p0:Int
  p1:Int
  p2:Int
  p3:Int
  p4:Int
  p5:Int
  p6:Int
  p7:Int
  p8:Int
  fl:List Bool
  n:Int
def kH.G (s:kH):=(s.k,s.fs,s.a,s.b,s.g0,s.g1,s.g2,s.g3,s.h0,s.h1,s.h2,s.h3,s.t0,s.t1,s.t2,s.t3,s.p0,s.p1,s.p2,s.p3,s.p4,s.p5,s.p6,s.p7,s.p8,s.fl,s.n)
def kH.S (s:kH):=(s.k,s.fs,s.a,s.b,s.g0,s.g1,s.g2,s.g3,s.h0,s.h1,s.h2,s.h3,s.t0,s.t1,s.t2,s.t3,([]:List (List UInt8)),s.p0,s.p1,s.p2,s.p3,s.p4,s.p5,s.p6,s.p7,s.p8,s.fl,s.n)
def kH.P (s:kH) (f:Int):=(s.k,s.n,s.fs,s.a,s.b,s.g0,s.g1,s.g2,s.g3,s.h0,s.h1,s.h2,s.h3,s.t0,s.t1,s.t2,s.t3,s.p0,s.p1,s.p2,s.p3,s.p4,s.p5,s.p6,s.p7,s.p8,s.fl,f)
def kH.R (s:kH) (f:Int):=(f,s.k,s.n,s.fs,s.a,s.b,s.g0,s.g1,s.g2,s.g3,s.h0,s.h1,s.h2,s.h3,s.t0,s.t1,s.t2,s.t3,s.p0,s.p1,s.p2,s.p3,s.p4,s.p5,s.p6,s.p7,s.p8,s.fl)
def kH.line (s:kH) (d:Int):=cq W s.k s.n s.fs s.a s.b s.g0 s.g1 s.g2 s.g3 s.h0 s.h1 s.h2 s.h3 s.t0 s.t1 s.t2 s.t3 s.p0 s.p1 s.p2 s.p3 s.p4 s.p5 s.p6 s.p7 s.p8 s.fl d
def kH.right (s:kH) (d:Int):=dB W s.k s.n s.fs s.a s.b s.g0 s.g1 s.g2 s.g3 s.h0 s.h1 s.h2 s.h3 s.t0 s.t1 s.t2 s.t3 s.p0 s.p1 s.p2 s.p3 s.p4 s.p5 s.p6 s.p7 s.p8 s.fl d
def kH.zero:kH:=⟨0,[],0,0,false,false,false,false,false,false,false,false,[],[],[],[],0,0,0,0,0,0,0,0,0,[],0⟩
def pG (kw:Wd) (rest:List Wd) (dm:Nat):Prop:=∃ (s:kH) (l:Wd) (f:Int),bA W (kw :: rest) dm = some s.G ∧ s.line dm = some (l,f) ∧ bk W (kw :: rest) dm = some (if f = 0 ∧ l = mS kw rest then some s.S else none) ∧ s.fs.length ≤ 100 ∧ s.fl.length ≤ 2000
theorem At:bT W [(⟨1,0,[],(⟨0,0,false,false,false,false,false,false,false,false,[],[],[],[]⟩:aI),(⟨0,0,0,0,0,0,0,0,0⟩:aE),[]⟩:aD)] [(⟨1,0,[],(⟨0,0,false,false,false,false,false,false,false,false,[],[],[],[]⟩:aI),(⟨0,0,0,0,0,0,0,0,0⟩:aE),[]⟩:aD)] = some true:=by kernel_rfl
theorem Aq:bT W [(⟨2,0,[],(⟨0,0,false,false,false,false,false,false,false,false,[],[],[],[]⟩:aI),(⟨0,0,0,0,0,0,0,0,0⟩:aE),[]⟩:aD)] [(⟨2,0,[],(⟨0,0,false,false,false,false,false,false,false,false,[],[],[],[]⟩:aI),(⟨0,0,0,0,0,0,0,0,0⟩:aE),[]⟩:aD)] = some true:=by kernel_rfl
theorem AR:bT W [(⟨3,0,[],(⟨0,0,false,false,false,false,false,false,false,false,[],[],[],[]⟩:aI),(⟨0,0,0,0,0,0,0,0,0⟩:aE),[]⟩:aD)] [(⟨3,0,[],(⟨0,0,false,false,false,false,false,false,false,false,[],[],[],[]⟩:aI),(⟨0,0,0,0,0,0,0,0,0⟩:aE),[]⟩:aD)] = some true:=by kernel_rfl
theorem Ar:bT W [(⟨4,0,[],(⟨0,0,false,false,false,false,false,false,false,false,[],[],[],[]⟩:aI),(⟨0,0,0,0,0,0,0,0,0⟩:aE),[]⟩:aD)] [(⟨4,0,[],(⟨0,0,false,false,false,false,false,false,false,false,[],[],[],[]⟩:aI),(⟨0,0,0,0,0,0,0,0,0⟩:aE),[]⟩:aD)] = some true:=by kernel_rfl
theorem Aw:bT W [(⟨5,0,[],(⟨0,0,false,false,false,false,false,false,false,false,[],[],[],[]⟩:aI),(⟨0,0,0,0,0,0,0,0,0⟩:aE),[]⟩:aD)] [(⟨5,0,[],(⟨0,0,false,false,false,false,false,false,false,false,[],[],[],[]⟩:aI),(⟨0,0,0,0,0,0,0,0,0⟩:aE),[]⟩:aD)] = some true:=by kernel_rfl
theorem Au:bT W [(⟨6,0,[],(⟨0,0,false,false,false,false,false,false,false,false,[],[],[],[]⟩:aI),(⟨0,0,0,0,0,0,0,0,0⟩:aE),[]⟩:aD)] [(⟨6,0,[],(⟨0,0,false,false,false,false,false,false,false,false,[],[],[],[]⟩:aI),(⟨0,0,0,0,0,0,0,0,0⟩:aE),[]⟩:aD)] = some true:=by kernel_rfl
theorem AL:bT W [(⟨7,0,[],(⟨0,0,false,false,false,false,false,false,false,false,[],[],[],[]⟩:aI),(⟨0,0,0,0,0,0,0,0,0⟩:aE),[]⟩:aD)] [(⟨7,0,[],(⟨0,0,false,false,false,false,false,false,false,false,[],[],[],[]⟩:aI),(⟨0,0,0,0,0,0,0,0,0⟩:aE),[]⟩:aD)] = some true:=by kernel_rfl
theorem Ax:bT W [(⟨8,0,[],(⟨0,0,false,false,false,false,false,false,false,false,[],[],[],[]⟩:aI),(⟨0,0,0,0,0,0,0,0,0⟩:aE),[]⟩:aD)] [(⟨8,0,[],(⟨0,0,false,false,false,false,false,false,false,false,[],[],[],[]⟩:aI),(⟨0,0,0,0,0,0,0,0,0⟩:aE),[]⟩:aD)] = some true:=by kernel_rfl
theorem AZ:bT W [(⟨9,0,[],(⟨0,0,false,false,false,false,false,false,false,false,[],[],[],[]⟩:aI),(⟨0,0,0,0,0,0,0,0,0⟩:aE),[]⟩:aD)] [(⟨9,0,[],(⟨0,0,false,false,false,false,false,false,false,false,[],[],[],[]⟩:aI),(⟨0,0,0,0,0,0,0,0,0⟩:aE),[]⟩:aD)] = some true:=by kernel_rfl
theorem kH.line_no {s:kH} {d:Int} (h:s.right d = some false):s.line d = some ([],1):=by
  unfold kH.line cq
  unfold kH.right at h
  rw [h,Option.bind_some]; rfl
def ky (fs:List aA):kH:=⟨1,fs,0,0,false,false,false,false,false,false,false,false,[],[],[],[],0,0,0,0,0,0,0,0,0,[],0⟩
def gD:Wd:=[105,110,103,101,115,116]
structure zU (dm:Nat) (fs:List aA):Prop where
  l1:1 ≤ fs.length
  l50:fs.length ≤ 50
  ok:∀ f ∈ fs,Bx dm f
theorem oq {fs:List aA} (hl:fs.length ≤ 100) {dm:Nat} (d0:1 ≤ dm) (d1:dm ≤ 4):∃ b:Bool,(ky fs).right dm = some b ∧ ga W fs dm = some b ∧ (b = true ↔ zU dm fs):=by
  obtain ⟨x,h1,h2,h3⟩:=AY fs hl (d:=dm) (by omega) (by omega)
  refine ⟨x.1 == 0,?_,?_,?_⟩
  · unfold kH.right dB ky
    rw [if_pos Z,h2,Option.bind_some]
    by_cases c:x.1 = 0
    · rw [if_pos c,c]; rfl
    · rw [if_neg c,beq_eq_false_iff_ne.2 c]
  · unfold ga jm
    simp only [fc]
    rw [At,Option.bind_some,h1]
    rfl
  · rw [beq_iff_eq,h3]
    exact ⟨fun q=>⟨q.1.1,q.1.2,q.2⟩,fun q=>⟨⟨q.l1,q.l50⟩,q.ok⟩⟩
theorem A5 {dm:Nat} {f:aA} (h:Bx dm f):AD dm f:=⟨⟨h.h0,h.h1⟩,by have:=h.v0; have:=h.v1; unfold qP; omega,fun j hj hd=>(h.ds j hj).2 (by omega)⟩
theorem yn {dm:Nat} {f:aA} (h:AD dm f):∀ x ∈ iR dm f,32 ∉ x:=by
  intro x hx
  unfold iR at hx
  rcases List.mem_cons.1 hx with rfl | hx
  · exact yE h.h
  · rcases List.mem_append.1 hx with hx | hx
    · unfold mb at hx
      obtain ⟨j,_,rfl⟩:=List.mem_map.1 hx
      exact vO _
    · simp at hx; subst hx; exact ng _
theorem yJ {dm:Nat} {fs:List aA} (h:∀ f ∈ fs,AD dm f):∀ x ∈ fs.flatMap (iR dm),32 ∉ x:=by
  intro x hx
  obtain ⟨f,hf,hx⟩:=List.mem_flatMap.1 hx
  exact yn (h f hf) x hx
theorem sX {fs:List aA} {dm:Nat} (d0:1 ≤ dm) (d1:dm ≤ 4) (h:zU dm fs):(ky fs).line dm = some (mS gD (fs.flatMap (iR dm)),0):=by
  obtain ⟨b,hb,_,hi⟩:=oq (fs:=fs) (by have:=h.l50; omega) d0 d1
  have hb':(ky fs).right dm = some true:=by rw [hb,hi.2 h]
  have hl:=vg fs dm d0 d1 h.l50 h.ok W 0 gD (by omega) (by unfold W; have:=h.l50; omega) (by decide)
  have hl':es W (ky fs).fs dm W [105,110,103,101,115,116] 0 = some (Sum.inr (gD ++ hQ ((fs.drop 0).flatMap (iR dm)),0)):=hl
  unfold kH.right at hb'
  unfold kH.line cq
  rw [hb',Option.bind_some]
  simp only [Bool.not_true,Bool.false_eq_true,if_false]
  rw [if_pos (show (ky fs).k = 1 from rfl),hl',Option.bind_some]
  rfl
theorem tP {rest:List Wd} {dm:Nat} (d0:1 ≤ dm) (d1:dm ≤ 4) (hs:eD rest) (hl:rest.length ≤ 1900) (hn:∀ x ∈ rest,32 ∉ x):pG gD rest dm:=by
  have hs2:eD (gD :: rest):=fun x hx=>by
    rcases List.mem_cons.1 hx with rfl | hx
    · decide
    · exact hs x hx
  have hlen:=ye (gD :: rest) dm 60 1
  obtain ⟨b,hb,hb2,hi⟩:=oq (fs:=gF (gD :: rest) dm 60 1) (by omega) d0 d1
  have hg:bA W (gD :: rest) dm = some (ky (gF (gD :: rest) dm 60 1)).G:=by
    unfold bA
    rw [if_pos (by simp only [List.length_cons]; omega),if_pos (show (gD :: rest).getD ((0:Int).toNat) [] = ([105,110,103,101,115,116]:List UInt8) from rfl),AV hs2 (by simp only [List.length_cons]; omega) dm d1]
    rfl
  have hst:bk W (gD :: rest) dm = (match kK dm 50 rest with | none=>some none | some fs=>(ga W fs dm).bind fun r=>some (if r = true then some (ky fs).S else none)):=by
    unfold bk
    rw [ji,Option.bind_some,bN,if_pos (show (rest,gD).2 = ([105,110,103,101,115,116]:List UInt8) from rfl),uj dm d1 rest hs (by omega)]
    cases kK dm 50 rest with
    | none=>rfl
    | some fs =>
      simp only [Option.map_some,Option.bind_some,bN]
      rw [if_pos (by rfl)]
      congr 1
      funext r
      cases r <;> rfl
  cases b with
  | true =>
    have hB:=hi.1 Z
    have hlin:=sX d0 d1 hB
    have hcan:∀ f ∈ gF (gD :: rest) dm 60 1,AD dm f:=fun f hf=>A5 (hB.ok f hf)
    refine ⟨_,_,0,hg,hlin,?_,by simp only [ky]; omega,by simp [ky]⟩
    by_cases e:mS gD ((gF (gD :: rest) dm 60 1).flatMap (iR dm)) = mS gD rest
    · have er:=ld (yJ hcan) hn gD (by decide) e
      rw [if_pos ⟨rfl,e⟩,hst]
      have hr:=rz dm d1 50 _ hB.l50 (by rw [er]; exact hs) hcan
      rw [er] at hr
      rw [hr]
      simp only
      rw [hb2]
      rfl
    · rw [if_neg (fun q=>e q.2),hst]
      cases hr:kK dm 50 rest with
      | none=>rfl
      | some fs =>
        exfalso
        obtain ⟨i1,i2,i3⟩:=nT dm d1 50 rest fs hs hr
        have hgf:=ue dm d1 60 fs [gD] (by omega) (by rw [← i2]; exact hs2) i3
        rw [← i2] at hgf
        have:gF (gD :: rest) dm 60 1 = fs:=hgf
        rw [this,← i2] at e
        exact e Z
  | false =>
    refine ⟨_,_,1,hg,kH.line_no hb,?_,by simp only [ky]; omega,by simp [ky]⟩
    rw [if_neg (fun q=>absurd q.1 (by decide)),hst]
    cases hr:kK dm 50 rest with
    | none=>rfl
    | some fs =>
      obtain ⟨i1,i2,i3⟩:=nT dm d1 50 rest fs hs hr
      have hgf:=ue dm d1 60 fs [gD] (by omega) (by rw [← i2]; exact hs2) i3
      rw [← i2] at hgf
      have e:gF (gD :: rest) dm 60 1 = fs:=hgf
      rw [e] at hb2
      simp only
      rw [hb2]
      rfl
end Go.Proofs.YtgbjponaoeiglaaDoor.WordsReads
end
section
set_option linter.unusedVariables false
set_option linter.unusedSimpArgs false
set_option maxRecDepth 20000
namespace Go.Proofs.YtgbjponaoeiglaaDoor.WordsReads
open Go E
def aw (g h:Bool) (t:Wd):Wd:=if g = true then (if h = true then 43 :: 61 :: jM t else [43]) else (if h = true then 61 :: jM t else [46])
theorem Bc (g h:Bool) (t:Wd):32 ∉ aw g h t:=by
  have:=vO t
  unfold aw
  cases g <;> cases h <;> simp [this]
theorem A3 (g h:Bool) (t:Wd):(aw g h t).length ≤ 3 * t.length + 3:=by
  have:=pJ t
  unfold aw
  cases g <;> cases h <;> simp <;> omega
def qT (g:Bool):Wd → Option (Bool × Option Wd)
  | []=>none
  | d :: t=>if d = 61 then (bO t).map fun s=>(g,some s) else none
def qH:Wd → Option (Bool × Option Wd)
  | []=>none
  | b :: r=>if b = 43 then qT true r else qT false (b :: r)
def qW (w:Wd):Option (Bool × Option Wd):=if w = [46] then some (false,none) else if w = [43] then some (true,none) else qH w
theorem vQ (g:Bool) (d:UInt8) (t:Wd):qT g (d :: t) = if d = 61 then (bO t).map fun s=>(g,some s) else none:=rfl
theorem vw (b:UInt8) (r:Wd):qH (b :: r) = if b = 43 then qT true r else qT false (b :: r):=rfl
theorem yw {r:Wd} (hs:r.length ≤ 1500) (g g':Bool) (o:Option Wd):qT g r = some (g',o) ↔ ∃ s,g' = g ∧ o = some s ∧ r = 61 :: jM s:=by
  cases r with
  | nil=>exact ⟨fun e=>(by cases e),fun ⟨s,_,_,e⟩=>(by cases e)⟩
  | cons d t =>
    have ht:t.length ≤ 1500:=by simp only [List.length_cons] at hs; omega
    rw [vQ]
    by_cases hd:d = 61
    · rw [if_pos hd]
      constructor
      · intro e
        obtain ⟨s,e1,e2⟩:=Option.map_eq_some_iff.1 e
        cases e2
        exact ⟨s,rfl,rfl,by rw [hd,(oL ht s).1 e1]⟩
      · rintro ⟨s,rfl,rfl,e⟩
        rw [(oL ht s).2 (List.cons.inj e).2]; rfl
    · rw [if_neg hd]
      exact ⟨fun e=>(by cases e),fun ⟨s,_,_,e⟩=>absurd (List.cons.inj e).1 hd⟩
theorem yI {w:Wd} (hs:w.length ≤ 1500) (g:Bool) (o:Option Wd):qW w = some (g,o) ↔ w = aw g o.isSome (o.getD []):=by
  unfold qW
  by_cases h1:w = [46]
  · rw [if_pos h1]
    constructor
    · intro e; cases e; rw [h1]; rfl
    · intro e
      rw [h1] at e
      cases g <;> cases o <;> simp [aw] at e
      rfl
  · rw [if_neg h1]
    by_cases h2:w = [43]
    · rw [if_pos h2]
      constructor
      · intro e; cases e; rw [h2]; rfl
      · intro e
        rw [h2] at e
        cases g <;> cases o <;> simp [aw] at e
        rfl
    · rw [if_neg h2]
      cases w with
      | nil =>
        constructor
        · intro e; cases e
        · intro e; cases g <;> cases o <;> simp [aw] at e
      | cons b r =>
        rw [vw]
        by_cases hb:b = 43
        · subst hb
          rw [if_pos Z,yw (by simp only [List.length_cons] at hs; omega)]
          constructor
          · rintro ⟨s,rfl,rfl,rfl⟩; rfl
          · intro e
            cases g <;> cases o <;> simp [aw] at e
            · exact absurd (by rw [e]) h2
            · rename_i s; exact ⟨s,rfl,rfl,e⟩
        · rw [if_neg hb,yw hs]
          constructor
          · rintro ⟨s,rfl,rfl,e⟩; exact e
          · intro e
            cases g <;> cases o
            · exact absurd e h1
            · rename_i s; exact ⟨s,rfl,rfl,e⟩
            · exact absurd e h2
            · exact absurd (List.cons.inj e).1 hb
def mO:Nat → Nat → List Wd → (Nat → Bool) → (Nat → Bool) → (Nat → Wd) → Option (List Wd × (Nat → Bool) × (Nat → Bool) × (Nat → Wd))
  | 0,_,l,G,H,T=>some (l,G,H,T)
  | _ + 1,_,[],_,_,_=>none
  | n + 1,i,w :: l,G,H,T=>(qW w).bind fun q=>mO n (i + 1) l (iL G i q.1) (iL H i q.2.isSome) (iL T i (q.2.getD []))
theorem nc {α:Type} {D:Nat → α} {i:Nat} {x:α} (h:D i = x):iL D i x = D:=by
  funext j; unfold iL; split
  · rename_i e; rw [← h,e]
  · rfl
abbrev qR (x y:List Wd × Int) (q:List Wd × (Nat → Bool) × (Nat → Bool) × (Nat → Wd)):=(q.1,x.2,y.2,q.2.1 0,q.2.1 1,q.2.1 2,q.2.1 3,q.2.2.1 0,q.2.2.1 1,q.2.2.1 2,q.2.2.1 3,q.2.2.2 0,q.2.2.2 1,q.2.2.2 2,q.2.2.2 3)
theorem sB (c:UInt8) (l:Wd):strings_CutPrefix (c :: l) [c] = (l,true):=by simp [strings_CutPrefix]
theorem xQ {c b:UInt8} (l:Wd) (h:¬ b = c):strings_CutPrefix (b :: l) [c] = (b :: l,false):=by
  have hp:([c]:List UInt8).isPrefixOf (b :: l) = false:=by
    show ((c == b) && _) = false
    rw [show (c == b) = false from by rw [beq_eq_false_iff_ne]; exact fun e=>h e.symm]; rfl
  simp [strings_CutPrefix,hp]
theorem vr (c:UInt8):strings_CutPrefix [] [c] = ([],false):=by simp [strings_CutPrefix]
theorem AF {w:Wd} (h1:¬ w = [46]) (h2:¬ w = [43]):∃ r g,strings_CutPrefix w [43] = (r,g) ∧ r.length ≤ w.length ∧ ¬ (g = true ∧ r = []) ∧ qW w = qT g r:=by
  unfold qW
  rw [if_neg h1,if_neg h2]
  cases w with
  | nil=>exact ⟨[],false,vr 43,Nat.le_refl _,by simp,rfl⟩
  | cons b w =>
    rw [vw]
    by_cases hb:b = 43
    · subst hb
      exact ⟨w,true,sB 43 w,by simp,fun q=>h2 (by rw [q.2]),if_pos Z⟩
    · exact ⟨b :: w,false,xQ w hb,Nat.le_refl _,by simp,if_neg hb⟩
theorem xP (dm:Nat) (h4:dm ≤ 4) (x y:List Wd × Int):∀ (f n i:Nat) (l:List Wd) (G H:Nat → Bool) (T:Nat → Wd),i + n = dm → n < f → eD l → (∀ j,i ≤ j → G j = false ∧ H j = false ∧ T j = []) →
    co W dm x y f i l (G 0) (H 0) (T 0) (T 1) (T 2) (T 3) (G 1) (G 2) (G 3) (H 1) (H 2) (H 3) = some ((mO n i l G H T).map (qR x y))
  | 0,n,i,l,G,H,T,h,hf,hs,hi=>by omega
  | f + 1,0,i,l,G,H,T,h,hf,hs,hi=>by
    rw [co,if_neg (by omega)]; rfl
  | f + 1,n + 1,i,[],G,H,T,h,hf,hs,hi=>by
    rw [co,if_pos (by omega),ze]; rfl
  | f + 1,n + 1,i,w :: l,G,H,T,h,hf,hs,hi=>by
    have hw:=dM hs
    have p0:(0:Int) ≤ (i:Int):=by omega
    have p4:(i:Int) < 4:=by omega
    have inv:∀ (a:Bool) (b:Bool) (c:Wd),∀ j,i + 1 ≤ j → iL G i a j = false ∧ iL H i b j = false ∧ iL T i c j = []:=fun a b c j hj=>by
      have:=hi j (by omega)
      unfold iL
      rw [if_neg (by omega),if_neg (by omega),if_neg (by omega)]; exact this
    have ih:=fun (a b:Bool) (c:Wd)=>xP dm h4 x y f n (i + 1) l (iL G i a) (iL H i b) (iL T i c) (by omega) (by omega) (da hs) (inv a b c)
    have g0:=hi i (Nat.le_refl _)
    have sG:iL G i false = G:=nc g0.1
    have sH:iL H i false = H:=nc g0.2.1
    have sT:iL T i [] = T:=nc g0.2.2
    rw [co,if_pos (by omega),mu,Option.bind_some,bN]
    simp only [mc (show i < 100000 by omega),Int.toNat_natCast,if_pos p0,if_pos p4,fc]
    unfold mO
    by_cases c1:w = [46]
    · have:=ih false false []
      rw [sG,sH,sT] at this
      rw [if_pos c1,show qW w = some (false,none) from if_pos c1,Option.bind_some]
      simp only [Option.isSome_none,Option.getD_none,sG,sH,sT]
      exact this
    · rw [if_neg c1]
      by_cases c2:w = [43]
      · subst c2
        have:=ih true false []
        rw [sH,sT] at this
        rw [sB,if_pos Z,if_pos Z,show qW [43] = some (true,none) from rfl,Option.bind_some]
        simp only [Option.isSome_none,Option.getD_none,sH,sT]
        have e:co W dm x y f ((i + 1:Nat):Int) l (if i = 0 then true else G 0) (H 0) (T 0) (T 1) (T 2) (T 3) (if i = 1 then true else G 1) (if i = 2 then true else G 2) (if i = 3 then true else G 3) (H 1) (H 2) (H 3) = some ((mO n (i + 1) l (iL G i true) H T).map (qR x y)):=this
        rw [e]; rfl
      · obtain ⟨r,g,hc,hr,hne,hq⟩:=AF c1 c2
        rw [hc,hq]
        have hfst:∀ X:Option (Sum (List Wd) (Option (List Wd × Int × Int × Bool × Bool × Bool × Bool × Bool × Bool × Bool × Bool × Wd × Wd × Wd × Wd))),(if g = true then (if r = ([]:List UInt8) then X else (some (Sum.inl l))) else (some (Sum.inl l))) = some (Sum.inl l):=by
          intro X
          by_cases hg:g = true
          · rw [if_pos hg,if_neg (fun q=>hne ⟨hg,q⟩)]
          · rw [if_neg hg]
        simp only
        rw [hfst,Option.bind_some]
        simp only [mD]
        cases r with
        | nil=>rw [vr]; rfl
        | cons d t =>
          rw [vQ]
          by_cases hd:d = 61
          · subst hd
            have ht:t.length ≤ 1500:=by simp only [List.length_cons] at hr; omega
            rw [sB,if_pos Z,if_pos Z,rV t ht,Option.bind_some]
            cases hb:bO t with
            | none=>rfl
            | some s =>
              simp only [Option.isSome_some,if_true,Option.getD_some,Option.map_some,Option.bind_some]
              exact ih g true s
          · rw [xQ t hd,if_neg hd]
            rfl
end Go.Proofs.YtgbjponaoeiglaaDoor.WordsReads
end
section
set_option linter.unusedVariables false
set_option linter.unusedSimpArgs false
set_option maxRecDepth 20000
namespace Go.Proofs.YtgbjponaoeiglaaDoor.WordsReads
open Go E
def vv (G H:Nat → Bool) (T:Nat → Wd) (i n:Nat):List Wd:=(List.range n).map fun j=>aw (G (i + j)) (H (i + j)) (T (i + j))
theorem qi (G H:Nat → Bool) (T:Nat → Wd) (i n:Nat):vv G H T i (n + 1) = aw (G i) (H i) (T i) :: vv G H T (i + 1) n:=by
  unfold vv
  rw [List.range_succ_eq_map,List.map_cons,List.map_map]
  congr 1
  apply List.map_congr_left
  intro j _
  have e:i + (j + 1) = i + 1 + j:=by omega
  show aw (G (i + (j + 1))) (H (i + (j + 1))) (T (i + (j + 1))) = _
  rw [e]
theorem zG (G H:Nat → Bool) (T:Nat → Wd) (n j:Nat) (h:j < n):(vv G H T 0 n)[j]? = some (aw (G j) (H j) (T j)):=by
  simp [vv,List.getElem?_map,List.getElem?_range h]
def yT (H:Nat → Bool) (T:Nat → Wd) (j:Nat):Prop:=H j = false → T j = []
theorem sd:∀ (n i:Nat) (l:List Wd) (G H:Nat → Bool) (T:Nat → Wd) (l':List Wd) (G' H':Nat → Bool) (T':Nat → Wd),eD l → mO n i l G H T = some (l',G',H',T') →
    l = vv G' H' T' i n ++ l' ∧ (∀ j,i ≤ j → j < i + n → yT H' T' j) ∧ ∀ j,¬ (i ≤ j ∧ j < i + n) → G' j = G j ∧ H' j = H j ∧ T' j = T j
  | 0,i,l,G,H,T,l',G',H',T',hs,h=>by
    simp only [mO,Option.some.injEq,Prod.mk.injEq] at h
    obtain ⟨rfl,rfl,rfl,rfl⟩:=h
    exact ⟨rfl,fun j a b=>by omega,fun j _=>⟨rfl,rfl,rfl⟩⟩
  | n + 1,i,[],G,H,T,l',G',H',T',hs,h=>by cases h
  | n + 1,i,w :: l,G,H,T,l',G',H',T',hs,h=>by
    simp only [mO] at h
    obtain ⟨⟨g,o⟩,hq,h2⟩:=Option.bind_eq_some_iff.1 h
    obtain ⟨e1,e2,e3⟩:=sd n (i + 1) l _ _ _ l' G' H' T' (da hs) h2
    have hw:=(yI (dM hs) g o).1 hq
    obtain ⟨a1,a2,a3⟩:=e3 i (by omega)
    have b1:G' i = g:=by rw [a1]; simp [iL]
    have b2:H' i = o.isSome:=by rw [a2]; simp [iL]
    have b3:T' i = o.getD []:=by rw [a3]; simp [iL]
    refine ⟨by rw [qi,b1,b2,b3,← hw,List.cons_append,← e1],fun j h1 h2=>?_,fun j hj=>?_⟩
    · by_cases e:j = i
      · subst e
        intro hh
        rw [b2] at hh
        rw [b3]
        cases o with
        | none=>rfl
        | some _=>cases hh
      · exact e2 j (by omega) (by omega)
    · obtain ⟨c1,c2,c3⟩:=e3 j (by omega)
      rw [c1,c2,c3]
      unfold iL
      rw [if_neg (by omega),if_neg (by omega),if_neg (by omega)]
      exact ⟨rfl,rfl,rfl⟩
theorem tc:∀ (n i:Nat) (G H G' H':Nat → Bool) (T T':Nat → Wd) (l':List Wd),eD (vv G' H' T' i n ++ l') → (∀ j,i ≤ j → j < i + n → yT H' T' j) →
    ∃ (A B:Nat → Bool) (C:Nat → Wd),mO n i (vv G' H' T' i n ++ l') G H T = some (l',A,B,C) ∧ ∀ j,A j = (if i ≤ j ∧ j < i + n then G' j else G j) ∧ B j = (if i ≤ j ∧ j < i + n then H' j else H j) ∧ C j = (if i ≤ j ∧ j < i + n then T' j else T j)
  | 0,i,G,H,G',H',T,T',l',hs,hp=>⟨G,H,T,rfl,fun j=>by rw [if_neg (by omega),if_neg (by omega),if_neg (by omega)]; exact ⟨rfl,rfl,rfl⟩⟩
  | n + 1,i,G,H,G',H',T,T',l',hs,hp=>by
    rw [qi,List.cons_append] at hs ⊢
    have hpi:=hp i (Nat.le_refl _) (by omega)
    have hq:qW (aw (G' i) (H' i) (T' i)) = some (G' i,if H' i = true then some (T' i) else none):=by
      rw [yI (dM hs)]
      by_cases hh:H' i = true
      · rw [if_pos hh,hh]; rfl
      · rw [if_neg hh]
        have hf:H' i = false:=by simpa using hh
        rw [hf,hpi hf]; rfl
    obtain ⟨A,B,C,e1,e2⟩:=tc n (i + 1) (iL G i (G' i)) (iL H i (if H' i = true then some (T' i) else none:Option Wd).isSome) G' H' (iL T i ((if H' i = true then some (T' i) else none:Option Wd).getD [])) T' l' (da hs) (fun j (a:i + 1 ≤ j) (b:j < i + 1 + n)=>hp j (by omega) (by omega))
    refine ⟨A,B,C,?_,fun j=>?_⟩
    · simp only [mO]
      rw [hq,Option.bind_some]
      exact e1
    · obtain ⟨c1,c2,c3⟩:=e2 j
      rw [c1,c2,c3]
      unfold iL
      by_cases h1:i = j
      · subst h1
        have n1:¬ (i + 1 ≤ i ∧ i < i + 1 + n):=by omega
        have n2:i ≤ i ∧ i < i + (n + 1):=by omega
        simp only [if_neg n1,if_pos n2,if_true]
        by_cases hh:H' i = true
        · rw [if_pos hh,hh]; exact ⟨trivial,rfl,rfl⟩
        · have hf:H' i = false:=by simpa using hh
          rw [if_neg hh,hf,hpi hf]; exact ⟨trivial,rfl,rfl⟩
      · by_cases h2:i + 1 ≤ j ∧ j < i + 1 + n
        · have h3:i ≤ j ∧ j < i + (n + 1):=by omega
          simp only [if_neg h1,if_pos h2,if_pos h3]; exact ⟨trivial,trivial,trivial⟩
        · have h3:¬ (i ≤ j ∧ j < i + (n + 1)):=by omega
          simp only [if_neg h1,if_neg h2,if_neg h3]; exact ⟨trivial,trivial,trivial⟩
def G0:Nat → Bool:=fun _=>false
def lh (dm:Nat) (l:List Wd):Option (List Wd × Int × Int × (Nat → Bool) × (Nat → Bool) × (Nat → Wd)):=match l with
  | a :: b :: l=>(nO a).bind fun x=>(nO b).bind fun y=>(mO dm 0 l G0 G0 D0).map fun q=>(q.1,x,y,q.2.1,q.2.2.1,q.2.2.2)
  | _=>none
abbrev BI (q:List Wd × Int × Int × (Nat → Bool) × (Nat → Bool) × (Nat → Wd)):=(q.1,q.2.1,q.2.2.1,q.2.2.2.1 0,q.2.2.2.1 1,q.2.2.2.1 2,q.2.2.2.1 3,q.2.2.2.2.1 0,q.2.2.2.2.1 1,q.2.2.2.2.1 2,q.2.2.2.2.1 3,q.2.2.2.2.2 0,q.2.2.2.2.2 1,q.2.2.2.2.2 2,q.2.2.2.2.2 3)
theorem yY (dm:Nat) (h4:dm ≤ 4) (l:List Wd) (hs:eD l):cE W l dm = some ((lh dm l).map BI):=by
  unfold cE lh
  match l,hs with
  | [],_=>rfl
  | [a],hs =>
    rw [je _ _ (dM hs),Option.bind_some]
    cases nO a with
    | none=>rfl
    | some x=>simp only [Option.map_some,bN]; rw [kx]; rfl
  | a :: b :: l,hs =>
    rw [je _ _ (dM hs),Option.bind_some]
    simp only
    cases nO a with
    | none=>rfl
    | some x =>
      simp only [Option.map_some,bN,Option.bind_some]
      rw [je _ _ (dM (da hs)),Option.bind_some]
      cases nO b with
      | none=>rfl
      | some y =>
        rw [Option.map_some,bN,Option.bind_some]
        have h:=xP dm h4 (b :: l,x) (l,y) W dm 0 l G0 G0 D0 (by omega) (by unfold W; omega) (da (da hs)) (fun j _=>⟨rfl,rfl,rfl⟩)
        have h':co W dm (b :: l,x) (l,y) W 0 l false false [] [] [] [] false false false false false false = some ((mO dm 0 l G0 G0 D0).map (qR (b :: l,x) (l,y))):=h
        refine h'.trans ?_
        cases mO dm 0 l G0 G0 D0 <;> rfl
def rG (w:Wd):Bool:=match w with | 43 :: _=>true | _=>false
def rR (w:Wd):Wd:=match w with | 43 :: t=>t | w=>w
def rH (w:Wd):Bool:=match rR w with | 61 :: _=>true | _=>false
def rT (w:Wd):Wd:=match rR w with | 61 :: t=>(bO t).getD [] | _=>[]
def gG (ws:List Wd) (dm j:Nat):Bool:=if j < dm then (match ws[3 + j]? with | none=>false | some w=>rG w) else false
def gH (ws:List Wd) (dm j:Nat):Bool:=if j < dm then (match ws[3 + j]? with | none=>false | some w=>rH w) else false
def gT (ws:List Wd) (dm j:Nat):Wd:=if j < dm then (match ws[3 + j]? with | none=>[] | some w=>rT w) else []
def part {α:Type} (z:α) (F:Nat → α) (i j:Nat):α:=if j < i then F j else z
theorem nf {α:Type} (z:α) (F:Nat → α) (i:Nat) {x:α} (h:F i = x):part z F (i + 1) = iL (part z F i) i x:=by
  funext j
  show (if j < i + 1 then F j else z) = if i = j then x else (if j < i then F j else z)
  by_cases e:i = j
  · subst e; rw [if_pos (by omega),if_pos rfl,h]
  · rw [if_neg e]
    by_cases hj:j < i
    · rw [if_pos hj,if_pos (by omega)]
    · rw [if_neg hj,if_neg (by omega)]
theorem oZ {α:Type} (z:α) (F:Nat → α) (i:Nat) (h:F i = z):part z F (i + 1) = part z F i:=by
  rw [nf z F i h]
  exact nc (by unfold part; rw [if_neg (by omega)])
theorem qp {α:Type} (z:α) (F:Nat → α) (i:Nat) (h:∀ j,i ≤ j → F j = z):part z F i = F:=by
  funext j
  unfold part
  by_cases e:j < i
  · rw [if_pos e]
  · rw [if_neg e,h j (by omega)]
theorem A8 {w:Wd} (h:∀ t,w ≠ 43 :: t):rG w = false:=by
  unfold rG; split
  · rename_i t; exact absurd Z (h t)
  · rfl
theorem AN (t:Wd):rR (43 :: t) = t:=rfl
theorem Bg {w:Wd} (h:∀ t,w ≠ 43 :: t):rR w = w:=by
  unfold rR; split
  · rename_i t; exact absurd Z (h t)
  · rfl
theorem Av {w t:Wd} (h:rR w = 61 :: t):rH w = true ∧ rT w = (bO t).getD []:=by unfold rH rT; rw [h]; exact ⟨rfl,rfl⟩
theorem Bt {w:Wd} (h:∀ t,rR w ≠ 61 :: t):rH w = false ∧ rT w = []:=by
  unfold rH rT
  constructor
  · split
    · rename_i t e; exact absurd e (h t)
    · rfl
  · split
    · rename_i t e; exact absurd e (h t)
    · rfl
theorem pM {w:Wd} {c:UInt8} {n:Int} (hn:n = (c.toNat:Int)):(0 < (w.length:Int) ∧ ((w.getD (0:Int).toNat 0).toNat:Int) = n) ↔ ∃ t,w = c :: t:=by
  subst hn
  cases w with
  | nil=>exact ⟨fun h=>by simp at h,fun ⟨t,h⟩=>by cases h⟩
  | cons b t =>
    constructor
    · rintro ⟨_,h⟩
      have h':((b.toNat:Nat):Int) = c.toNat:=h
      exact ⟨t,by rw [UInt8.toNat_inj.1 (show b.toNat = c.toNat by omega)]⟩
    · rintro ⟨t',h⟩
      obtain ⟨rfl,rfl⟩:=List.cons.inj h
      exact ⟨by simp only [List.length_cons]; omega,rfl⟩
theorem zc {ws:List Wd} (hs:eD ws) (hl:ws.length ≤ 2000) (dm:Nat) (h4:dm ≤ 4) (x y:Int):∀ (f i:Nat),i ≤ dm → dm - i < f → (∀ j,j < i → 3 + j < ws.length) →
    dw W ws dm x y f i [] [] [] [] (part false (gG ws dm) i 0) (part false (gH ws dm) i 0) (part [] (gT ws dm) i 0) (part [] (gT ws dm) i 1) (part [] (gT ws dm) i 2) (part [] (gT ws dm) i 3) (part false (gG ws dm) i 1) (part false (gG ws dm) i 2) (part false (gG ws dm) i 3) (part false (gH ws dm) i 1) (part false (gH ws dm) i 2) (part false (gH ws dm) i 3)
      = some (x,y,gG ws dm 0,gG ws dm 1,gG ws dm 2,gG ws dm 3,gH ws dm 0,gH ws dm 1,gH ws dm 2,gH ws dm 3,gT ws dm 0,gT ws dm 1,gT ws dm 2,gT ws dm 3)
  | 0,i,_,h,_=>by omega
  | f + 1,i,hi,h,hb=>by
    have done:(∀ j,i ≤ j → ¬ (j < dm ∧ 3 + j < ws.length)) → part false (gG ws dm) i = gG ws dm ∧ part false (gH ws dm) i = gH ws dm ∧ part [] (gT ws dm) i = gT ws dm:=by
      intro hd
      refine ⟨qp _ _ _ fun j hj=>?_,qp _ _ _ fun j hj=>?_,qp _ _ _ fun j hj=>?_⟩
      all_goals
        have:=hd j hj
        first | unfold gG | unfold gH | unfold gT
        by_cases h1:j < dm
        · rw [if_pos h1,List.getElem?_eq_none (by omega)]
        · rw [if_neg h1]
    rw [dw]
    by_cases c1:i < dm
    · have e3:bj (3 + (i:Int)) = ((3 + i:Nat):Int):=by rw [cl (by omega)]; omega
      rw [if_pos (by omega),e3]
      by_cases c2:3 + i < ws.length
      · have p0:(0:Int) ≤ ((3 + i:Nat):Int):=by omega
        have p0':(0:Int) ≤ (i:Int):=by omega
        have p4:(i:Int) < 4:=by omega
        have eg:ws.getD (3 + i) [] = ws[3 + i]:=gc ws _ c2 _
        have hw:ws[3 + i].length ≤ 1500:=hs _ (List.getElem_mem c2)
        have qG:gG ws dm i = rG ws[3 + i]:=by unfold gG; rw [if_pos c1,List.getElem?_eq_getElem c2]
        have qH:gH ws dm i = rH ws[3 + i]:=by unfold gH; rw [if_pos c1,List.getElem?_eq_getElem c2]
        have qT:gT ws dm i = rT ws[3 + i]:=by unfold gT; rw [if_pos c1,List.getElem?_eq_getElem c2]
        have ih:=zc hs hl dm h4 x y f (i + 1) (by omega) (by omega) (fun j hj=>by omega)
        rw [if_pos (by omega),if_pos p0]
        simp only [Int.toNat_natCast,eg,if_pos p0',if_pos p4,mc (show i < 100000 by omega)]
        generalize ws[3 + i] = w at hw qG qH qT
        have hx:(if 0 < (w.length:Int) then (if ((w.getD (0:Int).toNat 0).toNat:Int) = 43 then (if 1 ≤ (w.length:Int) then (some ((w.drop (1:Int).toNat),(if i = 0 then true else part false (gG ws dm) i 0),(if i = 1 then true else part false (gG ws dm) i 1),(if i = 2 then true else part false (gG ws dm) i 2),(if i = 3 then true else part false (gG ws dm) i 3))) else none) else (some (w,part false (gG ws dm) i 0,part false (gG ws dm) i 1,part false (gG ws dm) i 2,part false (gG ws dm) i 3))) else (some (w,part false (gG ws dm) i 0,part false (gG ws dm) i 1,part false (gG ws dm) i 2,part false (gG ws dm) i 3))) = some (rR w,part false (gG ws dm) (i + 1) 0,part false (gG ws dm) (i + 1) 1,part false (gG ws dm) (i + 1) 2,part false (gG ws dm) (i + 1) 3):=by
          by_cases hh:∃ t,w = 43 :: t
          · obtain ⟨t,ht⟩:=hh
            obtain ⟨a,b⟩:=(pM (c:=43) (n:=43) rfl).2 ⟨t,ht⟩
            rw [if_pos a,if_pos b,if_pos (by omega),ht,AN,nf false (gG ws dm) i (x:=true) (by rw [qG,ht]; rfl)]
            rfl
          · have hn:∀ t,w ≠ 43 :: t:=fun t e=>hh ⟨t,e⟩
            have hk:part false (gG ws dm) (i + 1) = part false (gG ws dm) i:=oZ _ _ _ (by rw [qG]; exact A8 hn)
            rw [Bg hn,hk]
            by_cases a:0 < (w.length:Int)
            · rw [if_pos a,if_neg (fun b=>hh ((pM (c:=43) (n:=43) Z).1 ⟨a,b⟩))]
            · rw [if_neg a]
        rw [hx,Option.bind_some]
        simp only
        have hr:(rR w).length ≤ 1500:=by
          unfold rR; split
          · simp only [List.length_cons] at hw; omega
          · exact hw
        by_cases hh:∃ t,rR w = 61 :: t
        · obtain ⟨t,ht⟩:=hh
          obtain ⟨a,b⟩:=(pM (c:=61) (n:=61) rfl).2 ⟨t,ht⟩
          have ht6:t.length ≤ 1500:=by rw [ht] at hr; simp only [List.length_cons] at hr; omega
          have et:(rR w).drop (1:Int).toNat = t:=by rw [ht]; rfl
          have hst:eD [t]:=fun x hx=>by simp at hx; subst hx; exact ht6
          have ex:eu W [t] 0 = some ((bO t).getD []):=by have:=vN hst 0; exact this
          obtain ⟨hy1,hy2⟩:=Av ht
          rw [if_pos a,if_pos b,if_pos (by omega),et,ex,Option.bind_some]
          rw [nf false (gH ws dm) i (x:=true) (by rw [qH,hy1]),nf [] (gT ws dm) i (x:=(bO t).getD []) (by rw [qT,hy2])] at ih
          exact ih
        · have hn:∀ t,rR w ≠ 61 :: t:=fun t e=>hh ⟨t,e⟩
          obtain ⟨hy1,hy2⟩:=Bt hn
          rw [oZ false (gH ws dm) i (by rw [qH,hy1]),oZ [] (gT ws dm) i (by rw [qT,hy2])] at ih
          by_cases a:0 < ((rR w).length:Int)
          · rw [if_pos a,if_neg (fun b=>hh ((pM (c:=61) (n:=61) Z).1 ⟨a,b⟩))]; exact ih
          · rw [if_neg a]; exact ih
      · rw [if_neg (by omega)]
        obtain ⟨d1,d2,d3⟩:=done fun j hj=>by omega
        rw [d1,d2,d3]
    · rw [if_neg (by omega)]
      obtain ⟨d1,d2,d3⟩:=done fun j hj=>by omega
      rw [d1,d2,d3]
theorem BQ {ws:List Wd} (hs:eD ws) (hl:ws.length ≤ 2000) (dm:Nat) (h4:dm ≤ 4):fN W ws dm = some (nx ws 1,nx ws 2,gG ws dm 0,gG ws dm 1,gG ws dm 2,gG ws dm 3,gH ws dm 0,gH ws dm 1,gH ws dm 2,gH ws dm 3,gT ws dm 0,gT ws dm 1,gT ws dm 2,gT ws dm 3):=by
  unfold fN
  have n1:aW W ws 1 = some (nx ws 1):=qr hs 1
  have n2:aW W ws 2 = some (nx ws 2):=qr hs 2
  rw [n1,Option.bind_some,n2,Option.bind_some]
  have h:=zc hs hl dm h4 (nx ws 1) (nx ws 2) W 0 (by omega) (by unfold W; omega) (fun j hj=>by omega)
  exact h
theorem Bm (g h:Bool) (t:Wd) (hl:(aw g h t).length ≤ 1500) (hp:h = false → t = []):rG (aw g h t) = g ∧ rH (aw g h t) = h ∧ rT (aw g h t) = t:=by
  have ht:h = true → (jM t).length ≤ 1500:=by intro hh; subst hh; unfold aw at hl; cases g <;> simp at hl <;> omega
  have hb:h = true → bO (jM t) = some t:=fun hh=>(oL (ht hh) t).2 Z
  cases h with
  | false=>rw [hp rfl]; cases g <;> exact ⟨rfl,rfl,rfl⟩
  | true =>
    have:=hb Z
    cases g
    · refine ⟨rfl,rfl,?_⟩
      show (bO (jM t)).getD [] = t
      rw [this]; rfl
    · refine ⟨rfl,rfl,?_⟩
      show (bO (jM t)).getD [] = t
      rw [this]; rfl
end Go.Proofs.YtgbjponaoeiglaaDoor.WordsReads
end
section
set_option linter.unusedVariables false
set_option linter.unusedSimpArgs false
set_option maxRecDepth 20000
namespace Go.Proofs.YtgbjponaoeiglaaDoor.WordsReads
open Go E
def jU (a b:Int) (G H:Nat → Bool) (T:Nat → Wd):kH:=⟨2,[],a,b,G 0,G 1,G 2,G 3,H 0,H 1,H 2,H 3,T 0,T 1,T 2,T 3,0,0,0,0,0,0,0,0,0,[],0⟩
def ms:Wd:=[97,115,107]
theorem ss (G:Nat → Bool) (j:Nat) (h:j < 4):[G 0,G 1,G 2,G 3].getD j false = G j:=by
  have:j = 0 ∨ j = 1 ∨ j = 2 ∨ j = 3:=by omega
  rcases this with rfl | rfl | rfl | rfl <;> rfl
theorem yU (T:Nat → Wd) (j:Nat) (h:j < 4):hH (T 0) (T 1) (T 2) (T 3) j = T j:=by
  have:j = 0 ∨ j = 1 ∨ j = 2 ∨ j = 3:=by omega
  rcases this with rfl | rfl | rfl | rfl <;> rfl
theorem pO {a b:Int} {G H G' H':Nat → Bool} {T T':Nat → Wd} (h:∀ j,j < 4 → G j = G' j ∧ H j = H' j ∧ T j = T' j):jU a b G H T = jU a b G' H' T':=by
  unfold jU
  obtain ⟨a0,b0,c0⟩:=h 0 (by omega)
  obtain ⟨a1,b1,c1⟩:=h 1 (by omega)
  obtain ⟨a2,b2,c2⟩:=h 2 (by omega)
  obtain ⟨a3,b3,c3⟩:=h 3 (by omega)
  rw [a0,b0,c0,a1,b1,c1,a2,b2,c2,a3,b3,c3]
theorem pd (a b:Int) (G H:Nat → Bool) (T:Nat → Wd) {dm:Nat} (d0:1 ≤ dm) (d1:dm ≤ 4):∃ r:Bool,(jU a b G H T).right dm = some r ∧ gd W a b (G 0) (G 1) (G 2) (G 3) (H 0) (H 1) (H 2) (H 3) (T 0) (T 1) (T 2) (T 3) dm = some r ∧ (r = true ↔ tr dm a b G H T):=by
  obtain ⟨x,h1,h2,h3⟩:=AQ a b (G 0) (G 1) (G 2) (G 3) (H 0) (H 1) (H 2) (H 3) (T 0) (T 1) (T 2) (T 3) (d:=dm) (by omega) (by omega)
  refine ⟨x == 0,?_,?_,?_⟩
  · unfold kH.right dB jU
    rw [if_neg (show ¬ ((2:Int) = 1) by decide),if_pos Z,h2,Option.bind_some]
    by_cases c:x = 0
    · rw [if_pos c,c]; rfl
    · rw [if_neg c,beq_eq_false_iff_ne.2 c]
  · unfold gd jn
    simp only [fc]
    rw [Aq,Option.bind_some,h1]
    rfl
  · rw [beq_iff_eq,h3]
    have e:∀ j,j < 4 → (yS dm (fun j=>[G 0,G 1,G 2,G 3].getD j false) (fun j=>[H 0,H 1,H 2,H 3].getD j false) (hH (T 0) (T 1) (T 2) (T 3)) j ↔ yS dm G H T j):=by
      intro j hj
      have a1:=ss G j hj
      have a2:=ss H j hj
      have a3:=yU T j hj
      constructor
      · intro q
        have:=q.len; have q2:=q.no; have q3:=q.out
        simp only [a1,a2,a3] at this q2 q3
        exact ⟨this,q2,q3⟩
      · intro q
        have:=q.len; have q2:=q.no; have q3:=q.out
        refine ⟨?_,?_,?_⟩ <;> simp only [a1,a2,a3] <;> assumption
    exact ⟨fun q=>⟨q.a0,q.ab,q.b1,fun j hj=>(e j hj).1 (q.ds j hj)⟩,fun q=>⟨q.a0,q.ab,q.b1,fun j hj=>(e j hj).2 (q.ds j hj)⟩⟩
theorem zp (a b:Int) (G H:Nat → Bool) (T:Nat → Wd) (i:Nat) (hi:i < 4) (ht:(T i).length ≤ 1500):gz W a b (G 0) (G 1) (G 2) (G 3) (H 0) (H 1) (H 2) (H 3) (T 0) (T 1) (T 2) (T 3) i = some (aw (G i) (H i) (T i)):=by
  have e1:=ss G i hi
  have e2:=ss H i hi
  have e3:[T 0,T 1,T 2,T 3].getD i [] = T i:=yU T i hi
  have hw:=pJ (T i)
  have p0:(0:Int) ≤ (i:Int):=by omega
  have p4:(i:Int) < 4:=by omega
  unfold gz aw
  simp only [Int.toNat_natCast,e1,e2,e3,if_pos p0,if_pos p4,lR (T i) ht]
  cases G i
  · simp only [Bool.false_eq_true,if_false,Option.bind_some]
    cases H i
    · simp only [Bool.false_eq_true,if_false,Option.bind_some,if_true]
    · simp only [if_true,Option.bind_some]
      rw [if_pos (by simp only [List.length_cons,List.length_nil]; omega),if_pos (by simp only [List.length_append,List.length_cons,List.length_nil]; omega),Option.bind_some,if_neg (by simp)]
      rfl
  · simp only [if_true,Option.bind_some]
    cases H i
    · simp only [Bool.false_eq_true,if_false,Option.bind_some]
      rw [if_neg (by simp)]
    · simp only [if_true,Option.bind_some]
      rw [if_pos (by simp only [List.length_cons,List.length_nil]; omega),if_pos (by simp only [List.length_append,List.length_cons,List.length_nil]; omega),Option.bind_some,if_neg (by simp)]
      rfl
theorem vC (a b:Int) (G H:Nat → Bool) (T:Nat → Wd) (dm:Nat) (h4:dm ≤ 4) (ht:∀ j,j < 4 → (T j).length ≤ 16):∀ (f n i:Nat) (t:Wd),i + n = dm → n < f → t.length + 60 * n ≤ 100000 →
    dy W a b (G 0) (G 1) (G 2) (G 3) (H 0) (H 1) (H 2) (H 3) (T 0) (T 1) (T 2) (T 3) dm f t i = some (Sum.inr (t ++ hQ (vv G H T i n),0))
  | 0,n,i,t,_,h,_=>by omega
  | f + 1,0,i,t,h,_,_=>by
    rw [dy,if_neg (by omega)]; simp [vv,hQ]
  | f + 1,n + 1,i,t,h,hf,hb=>by
    have hi:=ht i (by omega)
    have hw:=A3 (G i) (H i) (T i)
    rw [dy,if_pos (by omega),if_pos (by simp only [List.length_cons,List.length_nil]; omega),zp a b G H T i (by omega) (by omega),Option.bind_some,if_pos (by simp only [List.length_append,List.length_cons,List.length_nil]; omega),mc (by omega),vC a b G H T dm h4 ht f n (i + 1) _ (by omega) (by omega) (by simp only [List.length_append,List.length_cons,List.length_nil]; omega)]
    rw [qi,iU]
    simp [List.append_assoc]
def mq (dm:Nat) (a b:Int) (G H:Nat → Bool) (T:Nat → Wd):List Wd:=iK a :: iK b :: vv G H T 0 dm
theorem ya {a b:Int} {G H:Nat → Bool} {T:Nat → Wd} {dm:Nat} (d0:1 ≤ dm) (d1:dm ≤ 4) (h:tr dm a b G H T):(jU a b G H T).line dm = some (mS ms (mq dm a b G H T),0):=by
  obtain ⟨r,hr,_,hi⟩:=pd a b G H T d0 d1
  have hr':(jU a b G H T).right dm = some true:=by rw [hr,hi.2 h]
  have ra:-9223372036854775808 ≤ a ∧ a ≤ 9223372036854775807:=by have:=h.a0; have:=h.ab; have:=h.b1; omega
  have rb:-9223372036854775808 ≤ b ∧ b ≤ 9223372036854775807:=by have:=h.a0; have:=h.ab; have:=h.b1; omega
  have la:=lV ra
  have lb:=lV rb
  have hl:dy W (jU a b G H T).a (jU a b G H T).b (jU a b G H T).g0 (jU a b G H T).g1 (jU a b G H T).g2 (jU a b G H T).g3 (jU a b G H T).h0 (jU a b G H T).h1 (jU a b G H T).h2 (jU a b G H T).h3 (jU a b G H T).t0 (jU a b G H T).t1 (jU a b G H T).t2 (jU a b G H T).t3 dm W (((([97,115,107,32]:List UInt8) ++ iK a) ++ ([32]:List UInt8)) ++ iK b) 0 = some (Sum.inr ((((([97,115,107,32]:List UInt8) ++ iK a) ++ ([32]:List UInt8)) ++ iK b) ++ hQ (vv G H T 0 dm),0)) :=
    vC a b G H T dm d1 (fun j hj=>(h.ds j hj).len) W dm 0 _ (by omega) (by unfold W; omega) (by simp only [List.length_append,List.length_cons,List.length_nil]; omega)
  have ea:bV W (jU a b G H T).a = some (iK a):=nS ra
  have eb:bV W (jU a b G H T).b = some (iK b):=nS rb
  have q1:∀ (x y:Wd),x.length ≤ 100 ∧ y.length ≤ 100 → (x.length:Int) + (y.length:Int) ≤ 9223372036854775807:=AH
  unfold kH.right at hr'
  unfold kH.line cq
  rw [hr',Option.bind_some]
  simp only [Bool.not_true,Bool.false_eq_true,if_false]
  rw [if_neg (show ¬ (jU a b G H T).k = 1 from (by decide:¬ ((2:Int) = 1))),if_pos (show (jU a b G H T).k = 2 from rfl),ea,Option.bind_some,
    if_pos (q1 _ _ ⟨by decide,by omega⟩),if_pos (q1 _ _ ⟨by simp only [List.length_append,List.length_cons,List.length_nil]; omega,by decide⟩),eb,Option.bind_some,if_pos (q1 _ _ ⟨by simp only [List.length_append,List.length_cons,List.length_nil]; omega,by omega⟩),hl,Option.bind_some]
  show some _ = _
  unfold mS mq ms
  rw [iU,iU]
  simp [List.append_assoc]
theorem xU (dm:Nat) (a b:Int) (G H:Nat → Bool) (T:Nat → Wd):∀ x ∈ mq dm a b G H T,32 ∉ x:=by
  intro x hx
  unfold mq at hx
  rcases List.mem_cons.1 hx with rfl | hx
  · exact ng _
  rcases List.mem_cons.1 hx with rfl | hx
  · exact ng _
  unfold vv at hx
  obtain ⟨j,_,rfl⟩:=List.mem_map.1 hx
  exact Bc _ _ _
theorem yF {rest:List Wd} {dm:Nat} (d0:1 ≤ dm) (d1:dm ≤ 4) (hs:eD rest) (hl:rest.length ≤ 1900) (hn:∀ x ∈ rest,32 ∉ x):pG ms rest dm:=by
  have hs2:eD (ms :: rest):=fun x hx=>by
    rcases List.mem_cons.1 hx with rfl | hx
    · decide
    · exact hs x hx
  obtain ⟨ws,hws⟩:∃ ws,ws = ms :: rest:=⟨_,rfl⟩
  obtain ⟨r,hb,hb2,hi⟩:=pd (nx ws 1) (nx ws 2) (gG ws dm) (gH ws dm) (gT ws dm) d0 d1
  have hg:bA W (ms :: rest) dm = some (jU (nx ws 1) (nx ws 2) (gG ws dm) (gH ws dm) (gT ws dm)).G:=by
    unfold bA
    rw [if_pos (by simp only [List.length_cons]; omega),if_neg (show ¬ (ms :: rest).getD ((0:Int).toNat) [] = ([105,110,103,101,115,116]:List UInt8) from (by decide:¬ ms = ([105,110,103,101,115,116]:List UInt8))),if_pos (show (ms :: rest).getD ((0:Int).toNat) [] = ([97,115,107]:List UInt8) from rfl),← hws,BQ (by rw [hws]; exact hs2) (by rw [hws]; simp only [List.length_cons]; omega) dm d1]
    rfl
  have hst:bk W (ms :: rest) dm = (match lh dm rest with | none=>some none | some q=>if q.1 = [] then (gd W q.2.1 q.2.2.1 (q.2.2.2.1 0) (q.2.2.2.1 1) (q.2.2.2.1 2) (q.2.2.2.1 3) (q.2.2.2.2.1 0) (q.2.2.2.2.1 1) (q.2.2.2.2.1 2) (q.2.2.2.2.1 3) (q.2.2.2.2.2 0) (q.2.2.2.2.2 1) (q.2.2.2.2.2 2) (q.2.2.2.2.2 3) dm).bind fun r=>some (if r = true then some (jU q.2.1 q.2.2.1 q.2.2.2.1 q.2.2.2.2.1 q.2.2.2.2.2).S else none) else some none):=by
    unfold bk
    rw [ji,Option.bind_some,bN,if_neg (show ¬ (rest,ms).2 = ([105,110,103,101,115,116]:List UInt8) from (by decide:¬ ms = ([105,110,103,101,115,116]:List UInt8))),if_pos (show (rest,ms).2 = ([97,115,107]:List UInt8) from rfl),yY dm d1 rest hs]
    cases lh dm rest with
    | none=>rfl
    | some q =>
      rw [Option.map_some,Option.bind_some,bN]
      simp only
      by_cases hq:q.1 = []
      · rw [if_pos hq,if_pos (by rw [hq]; rfl)]
        congr 1
        funext r
        cases r
        · rfl
        · rw [if_pos Z,if_pos Z,hq]; rfl
      · rw [if_neg hq,if_neg (fun e=>hq (List.eq_nil_of_length_eq_zero (by omega)))]
  have back:∀ q,lh dm rest = some q → q.1 = [] → rest = mq dm q.2.1 q.2.2.1 q.2.2.2.1 q.2.2.2.2.1 q.2.2.2.2.2 ∧ jU (nx ws 1) (nx ws 2) (gG ws dm) (gH ws dm) (gT ws dm) = jU q.2.1 q.2.2.1 q.2.2.2.1 q.2.2.2.2.1 q.2.2.2.2.2:=by
    intro q hq hq1
    obtain ⟨l',x,y,A,B,C⟩:=q
    simp only at hq1 ⊢
    subst hq1
    unfold lh at hq
    match rest,hs,hws,hs2,hq with
    | a :: b :: l,hs,hws,hs2,hq =>
      simp only at hq
      obtain ⟨x',h1,hq⟩:=Option.bind_eq_some_iff.1 hq
      obtain ⟨y',h2,hq⟩:=Option.bind_eq_some_iff.1 hq
      obtain ⟨q',h3,h4⟩:=Option.map_eq_some_iff.1 hq
      obtain ⟨l2,A',B',C'⟩:=q'
      simp only [Prod.mk.injEq] at h4
      obtain ⟨rfl,rfl,rfl,rfl,rfl,rfl⟩:=h4
      obtain ⟨e1,e2,e3⟩:=sd dm 0 l G0 G0 D0 [] A' B' C' (da (da hs)) h3
      have n1:=(lw (dM hs) x').1 h1
      have n2:=(lw (dM (da hs)) y').1 h2
      rw [List.append_nil] at e1
      have hl2:ms :: a :: b :: l = ms :: mq dm x' y' A' B' C':=by unfold mq; rw [n1.1,n2.1,e1]
      refine ⟨(List.cons.inj hl2).2,?_⟩
      rw [hl2] at hws hs2
      have m1:nx ws 1 = x':=by rw [hws]; exact vc hs2 n1.2 Z
      have m2:nx ws 2 = y':=by rw [hws]; exact vc hs2 n2.2 Z
      rw [m1,m2]
      refine pO fun j hj=>?_
      unfold gG gH gT
      by_cases hd:j < dm
      · have hget:ws[3 + j]? = some (aw (A' j) (B' j) (C' j)):=by
          rw [hws,show 3 + j = j + 1 + 1 + 1 by omega]
          unfold mq
          rw [List.getElem?_cons_succ,List.getElem?_cons_succ,List.getElem?_cons_succ,zG _ _ _ _ _ hd]
        have hsh:(aw (A' j) (B' j) (C' j)).length ≤ 1500:=by
          have:=List.mem_of_getElem? hget
          rw [hws] at this
          exact hs2 _ this
        obtain ⟨r1,r2,r3⟩:=Bm (A' j) (B' j) (C' j) hsh (e2 j (Nat.zero_le _) (by omega))
        rw [if_pos hd,if_pos hd,if_pos hd,hget]
        exact ⟨r1,r2,r3⟩
      · obtain ⟨c1,c2,c3⟩:=e3 j (by omega)
        rw [if_neg hd,if_neg hd,if_neg hd,c1,c2,c3]
        exact ⟨rfl,rfl,rfl⟩
  cases r with
  | true =>
    have hB:=hi.1 Z
    have hlin:=ya d0 d1 hB
    refine ⟨_,_,0,hg,hlin,?_,by simp [jU],by simp [jU]⟩
    by_cases e:mS ms (mq dm (nx ws 1) (nx ws 2) (gG ws dm) (gH ws dm) (gT ws dm)) = mS ms rest
    · have er:=ld (xU _ _ _ _ _ _) hn ms (by decide) e
      rw [if_pos ⟨rfl,e⟩,hst]
      have hs3:eD (mq dm (nx ws 1) (nx ws 2) (gG ws dm) (gH ws dm) (gT ws dm)):=by rw [er]; exact hs
      obtain ⟨A,B,C,q1,q2⟩:=tc dm 0 G0 G0 (gG ws dm) (gH ws dm) D0 (gT ws dm) [] (by rw [List.append_nil]; exact da (da hs3)) (fun j _ hj=>(hB.ds j (by omega)).no)
      rw [List.append_nil] at q1
      have hin:qP (nx ws 1) ∧ qP (nx ws 2):=by have:=hB.a0; have:=hB.ab; have:=hB.b1; unfold qP; omega
      have hr:lh dm rest = some ([],nx ws 1,nx ws 2,A,B,C):=by
        rw [← er]
        unfold lh mq
        simp only
        rw [(lw (dM hs3) (nx ws 1)).2 ⟨rfl,hin.1⟩,(lw (dM (da hs3)) (nx ws 2)).2 ⟨rfl,hin.2⟩,Option.bind_some,Option.bind_some,q1]
        rfl
      have hABC:∀ j,j < 4 → A j = gG ws dm j ∧ B j = gH ws dm j ∧ C j = gT ws dm j:=by
        intro j hj
        obtain ⟨c1,c2,c3⟩:=q2 j
        rw [c1,c2,c3]
        by_cases hd:0 ≤ j ∧ j < 0 + dm
        · rw [if_pos hd,if_pos hd,if_pos hd]; exact ⟨rfl,rfl,rfl⟩
        · have hd':¬ j < dm:=by omega
          rw [if_neg hd,if_neg hd,if_neg hd]
          unfold gG gH gT
          rw [if_neg hd',if_neg hd',if_neg hd']; exact ⟨rfl,rfl,rfl⟩
      obtain ⟨a0,b0,c0⟩:=hABC 0 (by omega)
      obtain ⟨a1,b1,c1⟩:=hABC 1 (by omega)
      obtain ⟨a2,b2,c2⟩:=hABC 2 (by omega)
      obtain ⟨a3,b3,c3⟩:=hABC 3 (by omega)
      rw [hr]
      simp only
      rw [if_pos trivial,a0,a1,a2,a3,b0,b1,b2,b3,c0,c1,c2,c3,hb2,Option.bind_some,if_pos Z,pO hABC]
    · rw [if_neg (fun q=>e q.2),hst]
      cases hr:lh dm rest with
      | none=>rfl
      | some q =>
        simp only
        by_cases hq:q.1 = []
        · exfalso
          obtain ⟨e1,e2⟩:=back q hr hq
          apply e
          have e3:mq dm (nx ws 1) (nx ws 2) (gG ws dm) (gH ws dm) (gT ws dm) = rest:=by
            obtain ⟨l',x,y,A,B,C⟩:=q
            simp only at e1 e2
            have k1:=congrArg kH.a e2
            have k2:=congrArg kH.b e2
            simp only [jU] at k1 k2
            have kk:∀ j,j < 4 → gG ws dm j = A j ∧ gH ws dm j = B j ∧ gT ws dm j = C j:=by
              intro j hj
              unfold jU at e2
              simp only [kH.mk.injEq] at e2
              obtain ⟨_,_,_,_,g0,g1,g2,g3,h0,h1,h2,h3,t0,t1,t2,t3,_⟩:=e2
              have:j = 0 ∨ j = 1 ∨ j = 2 ∨ j = 3:=by omega
              rcases this with rfl | rfl | rfl | rfl
              · exact ⟨g0,h0,t0⟩
              · exact ⟨g1,h1,t1⟩
              · exact ⟨g2,h2,t2⟩
              · exact ⟨g3,h3,t3⟩
            rw [e1,k1,k2]
            unfold mq vv
            congr 2
            apply List.map_congr_left
            intro j hj
            have hj':=List.mem_range.1 hj
            obtain ⟨u1,u2,u3⟩:=kk (0 + j) (by omega)
            rw [u1,u2,u3]
          rw [e3]
        · rw [if_neg hq]
  | false =>
    refine ⟨_,_,1,hg,kH.line_no hb,?_,by simp [jU],by simp [jU]⟩
    rw [if_neg (fun q=>absurd q.1 (by decide)),hst]
    cases hr:lh dm rest with
    | none=>rfl
    | some q =>
      simp only
      by_cases hq:q.1 = []
      · obtain ⟨e1,e2⟩:=back q hr hq
        rw [if_pos hq]
        have hbb:(jU q.2.1 q.2.2.1 q.2.2.2.1 q.2.2.2.2.1 q.2.2.2.2.2).right dm = some false:=by rw [← e2]; exact hb
        obtain ⟨r',w1,w2,_⟩:=pd q.2.1 q.2.2.1 q.2.2.2.1 q.2.2.2.2.1 q.2.2.2.2.2 d0 d1
        rw [hbb] at w1
        cases w1
        rw [w2]
        rfl
      · rw [if_neg hq]
end Go.Proofs.YtgbjponaoeiglaaDoor.WordsReads
end
section
set_option linter.unusedVariables false
set_option linter.unusedSimpArgs false
set_option maxRecDepth 20000
namespace Go.Proofs.YtgbjponaoeiglaaDoor.WordsReads
open Go E
def mN:Nat → Nat → List Wd → (Nat → Int) → Option (List Wd × (Nat → Int))
  | 0,_,l,V=>some (l,V)
  | _ + 1,_,[],_=>none
  | n + 1,i,w :: l,V=>(nO w).bind fun x=>mN n (i + 1) l (iL V i x)
def lu (V:Nat → Int):kH:=⟨3,[],0,0,false,false,false,false,false,false,false,false,[],[],[],[],V 0,V 1,V 2,V 3,V 4,V 5,V 6,V 7,V 8,[],0⟩
def sq (dm:Nat) (l:List Wd) (V:Nat → Int):=(if (l.length:Int) = 0 then ((fF W (V 0) (V 1) (V 2) (V 3) (V 4) (V 5) (V 6) (V 7) (V 8) dm).bind fun x296=>(if x296 = true then (some (some ((3:Int),([]:List aA),(0:Int),(0:Int),false,false,false,false,false,false,false,false,([]:List UInt8),([]:List UInt8),([]:List UInt8),([]:List UInt8),l,V 0,V 1,V 2,V 3,V 4,V 5,V 6,V 7,V 8,([]:List Bool),(0:Int)))) else (some (none)))) else (some (none)))
theorem nM (dm:Nat):∀ (f n i:Nat) (l:List Wd) (V:Nat → Int),i + n = 9 → n < f → eD l →
    bM W dm f (V 0) i l (V 1) (V 2) (V 3) (V 4) (V 5) (V 6) (V 7) (V 8) = (match mN n i l V with | none=>some none | some q=>sq dm q.1 q.2)
  | 0,n,i,l,V,_,h,_=>by omega
  | f + 1,0,i,l,V,h,_,_=>by
    rw [bM,if_neg (by omega)]; rfl
  | f + 1,n + 1,i,[],V,h,hf,hs=>by
    have hi:i = 0 ∨ i = 1 ∨ i = 2 ∨ i = 3 ∨ i = 4 ∨ i = 5 ∨ i = 6 ∨ i = 7 ∨ i = 8:=by omega
    rw [bM]
    rcases hi with rfl | rfl | rfl | rfl | rfl | rfl | rfl | rfl | rfl
    · rw [if_pos (by decide),if_pos (by decide),if_pos (by decide),if_pos (by decide),kx]; rfl
    · rw [if_pos (by decide),if_pos (by decide),if_pos (by decide),if_neg (by decide),if_pos (by decide),kx]; rfl
    · rw [if_pos (by decide),if_pos (by decide),if_pos (by decide),if_neg (by decide),if_neg (by decide),if_pos (by decide),kx]; rfl
    · rw [if_pos (by decide),if_pos (by decide),if_pos (by decide),if_neg (by decide),if_neg (by decide),if_neg (by decide),if_pos (by decide),kx]; rfl
    · rw [if_pos (by decide),if_pos (by decide),if_pos (by decide),if_neg (by decide),if_neg (by decide),if_neg (by decide),if_neg (by decide),if_pos (by decide),kx]; rfl
    · rw [if_pos (by decide),if_pos (by decide),if_pos (by decide),if_neg (by decide),if_neg (by decide),if_neg (by decide),if_neg (by decide),if_neg (by decide),if_pos (by decide),kx]; rfl
    · rw [if_pos (by decide),if_pos (by decide),if_pos (by decide),if_neg (by decide),if_neg (by decide),if_neg (by decide),if_neg (by decide),if_neg (by decide),if_neg (by decide),if_pos (by decide),kx]; rfl
    · rw [if_pos (by decide),if_pos (by decide),if_pos (by decide),if_neg (by decide),if_neg (by decide),if_neg (by decide),if_neg (by decide),if_neg (by decide),if_neg (by decide),if_neg (by decide),if_pos (by decide),kx]; rfl
    · rw [if_pos (by decide),if_pos (by decide),if_pos (by decide),if_neg (by decide),if_neg (by decide),if_neg (by decide),if_neg (by decide),if_neg (by decide),if_neg (by decide),if_neg (by decide),if_neg (by decide),if_pos (by decide),kx]; rfl
  | f + 1,n + 1,i,w :: l,V,h,hf,hs=>by
    have hi:i = 0 ∨ i = 1 ∨ i = 2 ∨ i = 3 ∨ i = 4 ∨ i = 5 ∨ i = 6 ∨ i = 7 ∨ i = 8:=by omega
    have hw:=dM hs
    have hs':=da hs
    unfold mN
    rw [bM]
    rcases hi with rfl | rfl | rfl | rfl | rfl | rfl | rfl | rfl | rfl
    · obtain rfl:n = 8:=by omega
      rw [if_pos (by decide),if_pos (by decide),if_pos (by decide),if_pos (by decide),je l _ hw,Option.bind_some]
      cases hv:nO w with
      | none=>rfl
      | some x =>
        rw [Option.map_some,bN]
        exact (nM dm f 8 1 l (iL V 0 x) (by omega) (by omega) hs')
    · obtain rfl:n = 7:=by omega
      rw [if_pos (by decide),if_pos (by decide),if_pos (by decide),if_neg (by decide),if_pos (by decide),je l _ hw,Option.bind_some]
      cases hv:nO w with
      | none=>rfl
      | some x =>
        rw [Option.map_some,bN]
        exact (nM dm f 7 2 l (iL V 1 x) (by omega) (by omega) hs')
    · obtain rfl:n = 6:=by omega
      rw [if_pos (by decide),if_pos (by decide),if_pos (by decide),if_neg (by decide),if_neg (by decide),if_pos (by decide),je l _ hw,Option.bind_some]
      cases hv:nO w with
      | none=>rfl
      | some x =>
        rw [Option.map_some,bN]
        exact (nM dm f 6 3 l (iL V 2 x) (by omega) (by omega) hs')
    · obtain rfl:n = 5:=by omega
      rw [if_pos (by decide),if_pos (by decide),if_pos (by decide),if_neg (by decide),if_neg (by decide),if_neg (by decide),if_pos (by decide),je l _ hw,Option.bind_some]
      cases hv:nO w with
      | none=>rfl
      | some x =>
        rw [Option.map_some,bN]
        exact (nM dm f 5 4 l (iL V 3 x) (by omega) (by omega) hs')
    · obtain rfl:n = 4:=by omega
      rw [if_pos (by decide),if_pos (by decide),if_pos (by decide),if_neg (by decide),if_neg (by decide),if_neg (by decide),if_neg (by decide),if_pos (by decide),je l _ hw,Option.bind_some]
      cases hv:nO w with
      | none=>rfl
      | some x =>
        rw [Option.map_some,bN]
        exact (nM dm f 4 5 l (iL V 4 x) (by omega) (by omega) hs')
    · obtain rfl:n = 3:=by omega
      rw [if_pos (by decide),if_pos (by decide),if_pos (by decide),if_neg (by decide),if_neg (by decide),if_neg (by decide),if_neg (by decide),if_neg (by decide),if_pos (by decide),je l _ hw,Option.bind_some]
      cases hv:nO w with
      | none=>rfl
      | some x =>
        rw [Option.map_some,bN]
        exact (nM dm f 3 6 l (iL V 5 x) (by omega) (by omega) hs')
    · obtain rfl:n = 2:=by omega
      rw [if_pos (by decide),if_pos (by decide),if_pos (by decide),if_neg (by decide),if_neg (by decide),if_neg (by decide),if_neg (by decide),if_neg (by decide),if_neg (by decide),if_pos (by decide),je l _ hw,Option.bind_some]
      cases hv:nO w with
      | none=>rfl
      | some x =>
        rw [Option.map_some,bN]
        exact (nM dm f 2 7 l (iL V 6 x) (by omega) (by omega) hs')
    · obtain rfl:n = 1:=by omega
      rw [if_pos (by decide),if_pos (by decide),if_pos (by decide),if_neg (by decide),if_neg (by decide),if_neg (by decide),if_neg (by decide),if_neg (by decide),if_neg (by decide),if_neg (by decide),if_pos (by decide),je l _ hw,Option.bind_some]
      cases hv:nO w with
      | none=>rfl
      | some x =>
        rw [Option.map_some,bN]
        exact (nM dm f 1 8 l (iL V 7 x) (by omega) (by omega) hs')
    · obtain rfl:n = 0:=by omega
      rw [if_pos (by decide),if_pos (by decide),if_pos (by decide),if_neg (by decide),if_neg (by decide),if_neg (by decide),if_neg (by decide),if_neg (by decide),if_neg (by decide),if_neg (by decide),if_neg (by decide),if_pos (by decide),je l _ hw,Option.bind_some]
      cases hv:nO w with
      | none=>rfl
      | some x =>
        rw [Option.map_some,bN]
        exact (nM dm f 0 9 l (iL V 8 x) (by omega) (by omega) hs')
def nU (V:Nat → Int) (i n:Nat):List Wd:=(List.range n).map fun j=>iK (V (i + j))
theorem qV (V:Nat → Int) (i n:Nat):nU V i (n + 1) = iK (V i) :: nU V (i + 1) n:=by
  unfold nU
  rw [List.range_succ_eq_map,List.map_cons,List.map_map]
  congr 1
  apply List.map_congr_left
  intro j _
  show iK (V (i + (j + 1))) = iK (V (i + 1 + j))
  congr 2; omega
theorem yx (V:Nat → Int) (n j:Nat) (h:j < n):(nU V 0 n)[j]? = some (iK (V j)):=by
  simp [nU,List.getElem?_map,List.getElem?_range h]
theorem zL (V:Nat → Int) (i n:Nat):∀ x ∈ nU V i n,32 ∉ x:=by
  intro x hx
  unfold nU at hx
  obtain ⟨j,_,rfl⟩:=List.mem_map.1 hx
  exact ng _
theorem rf:∀ (n i:Nat) (l:List Wd) (V:Nat → Int) (l':List Wd) (V':Nat → Int),eD l → mN n i l V = some (l',V') → l = nU V' i n ++ l' ∧ (∀ j,i ≤ j → j < i + n → qP (V' j)) ∧ ∀ j,¬ (i ≤ j ∧ j < i + n) → V' j = V j
  | 0,i,l,V,l',V',hs,h=>by
    simp only [mN,Option.some.injEq,Prod.mk.injEq] at h
    obtain ⟨rfl,rfl⟩:=h
    exact ⟨rfl,fun j a b=>by omega,fun j _=>rfl⟩
  | n + 1,i,[],V,l',V',hs,h=>by cases h
  | n + 1,i,w :: l,V,l',V',hs,h=>by
    simp only [mN] at h
    obtain ⟨x,hx,h2⟩:=Option.bind_eq_some_iff.1 h
    obtain ⟨e1,e2,e3⟩:=rf n (i + 1) l _ l' V' (da hs) h2
    have hw:=(lw (dM hs) x).1 hx
    have b:V' i = x:=by rw [e3 i (by omega)]; simp [iL]
    refine ⟨by rw [qV,b,← hw.1,List.cons_append,← e1],fun j h1 h2=>?_,fun j hj=>?_⟩
    · by_cases e:j = i
      · subst e; rw [b]; exact hw.2
      · exact e2 j (by omega) (by omega)
    · rw [e3 j (by omega)]
      unfold iL
      rw [if_neg (by omega)]
theorem te:∀ (n i:Nat) (V V':Nat → Int) (l':List Wd),eD (nU V' i n ++ l') → (∀ j,i ≤ j → j < i + n → qP (V' j)) → ∃ A:Nat → Int,mN n i (nU V' i n ++ l') V = some (l',A) ∧ ∀ j,A j = if i ≤ j ∧ j < i + n then V' j else V j
  | 0,i,V,V',l',hs,hp=>⟨V,rfl,fun j=>by rw [if_neg (by omega)]⟩
  | n + 1,i,V,V',l',hs,hp=>by
    rw [qV,List.cons_append] at hs ⊢
    have hq:=(lw (dM hs) (V' i)).2 ⟨rfl,hp i (Nat.le_refl _) (by omega)⟩
    obtain ⟨A,e1,e2⟩:=te n (i + 1) (iL V i (V' i)) V' l' (da hs) (fun j (a:i + 1 ≤ j) (b:j < i + 1 + n)=>hp j (by omega) (by omega))
    refine ⟨A,by simp only [mN]; rw [hq,Option.bind_some]; exact e1,fun j=>?_⟩
    rw [e2 j]
    unfold iL
    by_cases h1:i = j
    · subst h1
      rw [if_neg (by omega),if_pos Z,if_pos (by omega)]
    · by_cases h2:i + 1 ≤ j ∧ j < i + 1 + n
      · rw [if_pos h2,if_pos (by omega)]
      · rw [if_neg h2,if_neg h1,if_neg (by omega)]
theorem ru (V:Nat → Int) (dm:Nat):(lu V).right dm = some (dj (V 0) (V 1) (V 2) (V 3) (V 4) (V 5) (V 6) (V 7) (V 8) == 0) ∧ fF W (V 0) (V 1) (V 2) (V 3) (V 4) (V 5) (V 6) (V 7) (V 8) dm = some (dj (V 0) (V 1) (V 2) (V 3) (V 4) (V 5) (V 6) (V 7) (V 8) == 0):=by
  constructor
  · unfold kH.right dB lu
    rw [if_neg (show ¬ ((3:Int) = 1) by decide),if_neg (show ¬ ((3:Int) = 2) by decide),if_pos Z]
    simp only [fc]
    by_cases c:dj (V 0) (V 1) (V 2) (V 3) (V 4) (V 5) (V 6) (V 7) (V 8) = 0
    · rw [if_pos c,c]; rfl
    · rw [if_neg c,beq_eq_false_iff_ne.2 c]
  · unfold fF iz
    simp only [fc]
    rw [AR,Option.bind_some,AK]
    rfl
theorem vH (xs:List Int) (hx:∀ x ∈ xs,qP x) (hl:xs.length ≤ 100):∀ (f i:Nat) (t:Wd),i ≤ xs.length → xs.length - i < f → t.length ≤ 100 + 30 * i → eq W xs f t i = some (Sum.inr (t ++ hQ ((xs.drop i).map iK),0))
  | 0,i,t,_,h,_=>by omega
  | f + 1,i,t,hi,h,ht=>by
    rw [eq]
    by_cases c:i < xs.length
    · have hm:=hx _ (List.getElem_mem c)
      unfold qP at hm
      have hd:=lV hm
      rw [if_pos (by omega),if_pos (by simp only [List.length_cons,List.length_nil]; omega),if_pos (by omega),Int.toNat_natCast,gc xs i c,nS hm,Option.bind_some,if_pos (by simp only [List.length_append,List.length_cons,List.length_nil]; omega),mc (by omega),vH xs hx hl f (i + 1) _ (by omega) (by omega) (by simp only [List.length_append,List.length_cons,List.length_nil]; omega)]
      rw [show xs.drop i = xs[i] :: xs.drop (i + 1) from List.drop_eq_getElem_cons c,List.map_cons,iU]
      simp [List.append_assoc]
    · rw [if_neg (by omega),List.drop_eq_nil_of_le (by omega)]
      simp [hQ]
def lX:Wd:=[112,111,108,105,99,121]
theorem uf {V V':Nat → Int} (h:∀ j,j < 9 → V j = V' j):lu V = lu V':=by
  unfold lu
  rw [h 0 (by omega),h 1 (by omega),h 2 (by omega),h 3 (by omega),h 4 (by omega),h 5 (by omega),h 6 (by omega),h 7 (by omega),h 8 (by omega)]
theorem yX {V:Nat → Int} {dm:Nat} (hr:(lu V).right dm = some true) (hV:∀ j,qP (V j)):(lu V).line dm = some (mS lX (nU V 0 9),0):=by
  have hl:=vH [V 0,V 1,V 2,V 3,V 4,V 5,V 6,V 7,V 8] (by intro x hx; simp only [List.mem_cons,List.not_mem_nil,or_false] at hx; rcases hx with rfl | rfl | rfl | rfl | rfl | rfl | rfl | rfl | rfl <;> exact hV _) (by simp) W 0 lX (by simp) (by unfold W; simp) (by decide)
  have hl':eq W [(lu V).p0,(lu V).p1,(lu V).p2,(lu V).p3,(lu V).p4,(lu V).p5,(lu V).p6,(lu V).p7,(lu V).p8] W [112,111,108,105,99,121] 0 = some (Sum.inr (lX ++ hQ (([V 0,V 1,V 2,V 3,V 4,V 5,V 6,V 7,V 8].drop 0).map iK),0)):=hl
  unfold kH.right at hr
  unfold kH.line cq
  rw [hr,Option.bind_some]
  simp only [Bool.not_true,Bool.false_eq_true,if_false]
  rw [if_neg (show ¬ (lu V).k = 1 from (by decide:¬ ((3:Int) = 1))),if_neg (show ¬ (lu V).k = 2 from (by decide:¬ ((3:Int) = 2))),if_pos (show (lu V).k = 3 from rfl)]
  unfold gS
  rw [fc,hl',Option.bind_some]
  rfl
theorem xY {rest:List Wd} {dm:Nat} (hs:eD rest) (hl:rest.length ≤ 1900) (hn:∀ x ∈ rest,32 ∉ x):pG lX rest dm:=by
  have hs2:eD (lX :: rest):=fun x hx=>by
    rcases List.mem_cons.1 hx with rfl | hx
    · decide
    · exact hs x hx
  obtain ⟨ws,hws⟩:∃ ws,ws = lX :: rest:=⟨_,rfl⟩
  obtain ⟨U,hU⟩:∃ U:Nat → Int,U = fun j=>nx ws (j + 1):=⟨_,rfl⟩
  have hUin:∀ j,qP (U j):=fun j=>by rw [hU]; exact Ai ws (by rw [hws]; exact hs2) _
  have hg:bA W (lX :: rest) dm = some (lu U).G:=by
    have ns:eD ws:=by rw [hws]; exact hs2
    have n:=fun k=>qr ns k
    have n1:aW W ws 1 = some (U 0):=by rw [hU]; exact n 1
    have n2:aW W ws 2 = some (U 1):=by rw [hU]; exact n 2
    have n3:aW W ws 3 = some (U 2):=by rw [hU]; exact n 3
    have n4:aW W ws 4 = some (U 3):=by rw [hU]; exact n 4
    have n5:aW W ws 5 = some (U 4):=by rw [hU]; exact n 5
    have n6:aW W ws 6 = some (U 5):=by rw [hU]; exact n 6
    have n7:aW W ws 7 = some (U 6):=by rw [hU]; exact n 7
    have n8:aW W ws 8 = some (U 7):=by rw [hU]; exact n 8
    have n9:aW W ws 9 = some (U 8):=by rw [hU]; exact n 9
    unfold bA
    rw [if_pos (by simp only [List.length_cons]; omega),if_neg (show ¬ (lX :: rest).getD ((0:Int).toNat) [] = ([105,110,103,101,115,116]:List UInt8) from (by decide:¬ lX = ([105,110,103,101,115,116]:List UInt8))),if_neg (show ¬ (lX :: rest).getD ((0:Int).toNat) [] = ([97,115,107]:List UInt8) from (by decide:¬ lX = ([97,115,107]:List UInt8))),if_pos (show (lX :: rest).getD ((0:Int).toNat) [] = ([112,111,108,105,99,121]:List UInt8) from rfl),← hws,
      n1,Option.bind_some,n2,Option.bind_some,n3,Option.bind_some,n4,Option.bind_some,n5,Option.bind_some,n6,Option.bind_some,n7,Option.bind_some,n8,Option.bind_some,n9,Option.bind_some]
    rfl
  have hst:bk W (lX :: rest) dm = (match mN 9 0 rest (fun _=>0) with | none=>some none | some q=>sq dm q.1 q.2):=by
    unfold bk
    rw [ji,Option.bind_some,bN,if_neg (show ¬ (rest,lX).2 = ([105,110,103,101,115,116]:List UInt8) from (by decide:¬ lX = ([105,110,103,101,115,116]:List UInt8))),if_neg (show ¬ (rest,lX).2 = ([97,115,107]:List UInt8) from (by decide:¬ lX = ([97,115,107]:List UInt8))),if_pos (show (rest,lX).2 = ([112,111,108,105,99,121]:List UInt8) from rfl),fc]
    exact nM dm W 9 0 rest (fun _=>0) (by omega) (by unfold W; omega) hs
  have hend:∀ (l:List Wd) (V:Nat → Int),sq dm l V = if l = [] then some (if (dj (V 0) (V 1) (V 2) (V 3) (V 4) (V 5) (V 6) (V 7) (V 8) == 0) = true then some (lu V).S else none) else some none:=by
    intro l V
    unfold sq
    rw [(ru V dm).2,Option.bind_some]
    by_cases hq:l = []
    · subst hq
      rw [if_pos (rfl:([]:List Wd) = []),if_pos (show ((([]:List Wd).length:Nat):Int) = 0 from rfl)]
      cases (dj (V 0) (V 1) (V 2) (V 3) (V 4) (V 5) (V 6) (V 7) (V 8) == 0) <;> rfl
    · rw [if_neg hq,if_neg (fun e=>hq (List.eq_nil_of_length_eq_zero (by omega)))]
  have back:∀ V,mN 9 0 rest (fun _=>0) = some ([],V) → rest = nU V 0 9 ∧ ∀ j,j < 9 → U j = V j:=by
    intro V hV
    obtain ⟨e1,e2,e3⟩:=rf 9 0 rest _ [] V hs hV
    rw [List.append_nil] at e1
    refine ⟨e1,fun j hj=>?_⟩
    rw [hU]
    refine vc (by rw [hws]; exact hs2) (e2 j (by omega) (by omega)) ?_
    rw [hws,List.getElem?_cons_succ,e1]
    exact yx V 9 j hj
  obtain ⟨p1,p2⟩:=ru U dm
  cases hr:(dj (U 0) (U 1) (U 2) (U 3) (U 4) (U 5) (U 6) (U 7) (U 8) == 0) with
  | true =>
    rw [hr] at p1 p2
    refine ⟨_,_,0,hg,yX p1 hUin,?_,by simp [lu],by simp [lu]⟩
    by_cases e:mS lX (nU U 0 9) = mS lX rest
    · have er:=ld (zL U 0 9) hn lX (by decide) e
      obtain ⟨A,q1,q2⟩:=te 9 0 (fun _=>0) U [] (by rw [List.append_nil,er]; exact hs) (fun j _ _=>hUin j)
      rw [List.append_nil,er] at q1
      have hA:∀ j,j < 9 → A j = U j:=fun j hj=>by rw [q2 j,if_pos (by omega)]
      rw [if_pos ⟨rfl,e⟩,hst,q1]
      simp only
      rw [hend,if_pos Z,hA 0 (by omega),hA 1 (by omega),hA 2 (by omega),hA 3 (by omega),hA 4 (by omega),hA 5 (by omega),hA 6 (by omega),hA 7 (by omega),hA 8 (by omega),hr,if_pos Z,uf hA]
    · rw [if_neg (fun q=>e q.2),hst]
      cases hq:mN 9 0 rest (fun _=>0) with
      | none=>rfl
      | some q =>
        obtain ⟨l',V⟩:=q
        simp only
        rw [hend]
        by_cases hl':l' = []
        · exfalso
          subst hl'
          obtain ⟨b1,b2⟩:=back V hq
          apply e
          have:nU U 0 9 = rest:=by
            rw [b1]
            unfold nU
            apply List.map_congr_left
            intro j hj
            rw [b2 (0 + j) (by have:=List.mem_range.1 hj; omega)]
          rw [this]
        · rw [if_neg hl']
  | false =>
    rw [hr] at p1 p2
    refine ⟨_,_,1,hg,kH.line_no p1,?_,by simp [lu],by simp [lu]⟩
    rw [if_neg (fun q=>absurd q.1 (by decide)),hst]
    cases hq:mN 9 0 rest (fun _=>0) with
    | none=>rfl
    | some q =>
      obtain ⟨l',V⟩:=q
      simp only
      rw [hend]
      by_cases hl':l' = []
      · subst hl'
        obtain ⟨b1,b2⟩:=back V hq
        rw [if_pos Z,← b2 0 (by omega),← b2 1 (by omega),← b2 2 (by omega),← b2 3 (by omega),← b2 4 (by omega),← b2 5 (by omega),← b2 6 (by omega),← b2 7 (by omega),← b2 8 (by omega),hr]
        rfl
      · rw [if_neg hl']
end Go.Proofs.YtgbjponaoeiglaaDoor.WordsReads
end
section
set_option linter.unusedVariables false
set_option linter.unusedSimpArgs false
set_option maxRecDepth 20000
namespace Go.Proofs.YtgbjponaoeiglaaDoor.WordsReads
open Go E
def fB:Wd → Option (List Bool)
  | []=>some []
  | c :: t=>if c = 48 ∨ c = 49 then (fB t).map ((c == 49) :: ·) else none
def zo (b:Bool):UInt8:=if b = true then 49 else 48
theorem sE:∀ (w:Wd) (bs:List Bool),fB w = some bs ↔ w = bs.map zo
  | [],bs=>by cases bs <;> simp [fB]
  | c :: t,bs=>by
    rw [fB]
    by_cases h:c = 48 ∨ c = 49
    · rw [if_pos h]
      constructor
      · intro e
        obtain ⟨b,e1,e2⟩:=Option.map_eq_some_iff.1 e
        subst e2
        rw [List.map_cons,(sE t b).1 e1]
        rcases h with rfl | rfl <;> rfl
      · intro e
        cases bs with
        | nil=>cases e
        | cons b bs =>
          rw [List.map_cons] at e
          obtain ⟨e1,e2⟩:=List.cons.inj e
          rw [(sE t bs).2 e2,e1]
          cases b <;> rfl
    · rw [if_neg h]
      constructor
      · intro e; cases e
      · intro e
        cases bs with
        | nil=>cases e
        | cons b bs =>
          rw [List.map_cons] at e
          have e1:=(List.cons.inj e).1
          cases b
          · exact absurd (.inl e1) h
          · exact absurd (.inr e1) h
theorem ym (x:List Wd × Wd) (hx:x.2.length ≤ 1500):∀ (f i:Nat) (out:List Bool),i ≤ x.2.length → x.2.length - i < f → out.length ≤ i → dz W x f i out = some ((fB (x.2.drop i)).map fun bs=>(x.1,out ++ bs))
  | 0,i,out,_,h,_=>by omega
  | f + 1,i,out,hi,h,ho=>by
    rw [dz]
    have hb:=kt x.2
    by_cases c:i < x.2.length
    · have e1:x.2.drop i = x.2[i] :: x.2.drop (i + 1):=List.drop_eq_getElem_cons c
      have hc:=x.2[i].toNat_lt
      rw [if_pos (by omega),if_pos (by omega),Int.toNat_natCast,oE x.2 i c,e1,fB]
      have beq:(((x.2[i].toNat:Nat):Int) == 49) = (x.2[i] == 49):=by
        rw [Bool.eq_iff_iff,beq_iff_eq,beq_iff_eq]
        exact ⟨fun e=>UInt8.toNat_inj.1 (show x.2[i].toNat = 49 by omega),fun e=>by rw [e]; rfl⟩
      have ih:=ym x hx f (i + 1) (out ++ [x.2[i] == 49]) (by omega) (by omega) (by simp only [List.length_append,List.length_cons,List.length_nil]; omega)
      rw [beq,mc (by omega),ih]
      by_cases h48:x.2[i] = 48
      · rw [if_pos (by rw [h48]; rfl),if_pos (by simp only [List.length_cons,List.length_nil]; omega),if_pos (.inl h48)]
        cases fB (x.2.drop (i + 1)) <;> simp
      · rw [if_neg (fun e=>h48 (UInt8.toNat_inj.1 (show x.2[i].toNat = 48 by omega)))]
        by_cases h49:x.2[i] = 49
        · rw [if_pos (by rw [h49]; rfl),if_pos (by simp only [List.length_cons,List.length_nil]; omega),if_pos (.inr h49)]
          cases fB (x.2.drop (i + 1)) <;> simp
        · rw [if_neg (fun e=>h49 (UInt8.toNat_inj.1 (show x.2[i].toNat = 49 by omega))),if_neg (by simp [h48,h49])]
          rfl
    · rw [if_neg (by omega),List.drop_eq_nil_of_le (by omega)]
      simp [fB]
def lB (fl:List Bool):kH:=⟨6,[],0,0,false,false,false,false,false,false,false,false,[],[],[],[],0,0,0,0,0,0,0,0,0,fl,0⟩
def mT:List Wd → Option (List Wd × List Bool)
  | []=>some ([],[])
  | w :: l=>if w = [] then none else (fB w).map fun bs=>(l,bs)
theorem ul (l:List Wd) (dm:Nat) (hs:eD l):cF W l dm = some (mT l):=by
  unfold cF
  cases l with
  | nil=>rw [if_pos (by rfl)]; rfl
  | cons w l =>
    have hw:=dM hs
    rw [if_neg (by simp only [List.length_cons]; omega),mu,Option.bind_some,bN,mT]
    by_cases h:w = []
    · rw [if_pos h,if_neg (fun q=>q h)]
    · have:=ym (l,w) hw W 0 [] (Nat.zero_le _) (by unfold W; show w.length - 0 < 200000; omega) (Nat.le_refl _)
      have e:dz W (l,w) W 0 [] = some ((fB w).map fun bs=>(l,[] ++ bs)):=this
      rw [if_neg h,if_pos h,if_pos (show w.length ≤ 9223372036854775807 by omega),e]
      rfl
theorem nW (fl:List Bool) (dm:Nat):(lB fl).right dm = some (decide ((fl.length:Int) ≤ 1000)) ∧ gM W fl dm = some (decide ((fl.length:Int) ≤ 1000)):=by
  constructor
  · unfold kH.right dB lB
    rw [if_neg (show ¬ ((6:Int) = 1) by decide),if_neg (show ¬ ((6:Int) = 2) by decide),if_neg (show ¬ ((6:Int) = 3) by decide)]
    simp only [fc]
    rw [if_neg (show ¬ ((6:Int) = 4) by decide),if_neg (show ¬ ((6:Int) = 5) by decide),if_neg (show ¬ ((6:Int) = 7) by decide),if_neg (show ¬ ((6:Int) == 8) = true by decide),if_pos trivial]
    by_cases c:(fl.length:Int) ≤ 1000
    · rw [if_pos c,decide_eq_true c]; rfl
    · rw [if_neg c,decide_eq_false c]
  · unfold gM jp
    simp only [fc]
    rw [Au,Option.bind_some]
    rfl
theorem yH (ws:List Wd) (w:Wd) (h1:1 < ws.length) (hw:ws.getD 1 [] = w) (hl:w.length ≤ 1500):∀ (f i:Nat) (out:List Bool),i ≤ w.length → w.length - i < f → out.length ≤ i →
    cP W ws f i out = some (Sum.inr (lB (out ++ (w.drop i).map (· == 49))).G)
  | 0,i,out,_,h,_=>by omega
  | f + 1,i,out,hi,h,ho=>by
    have e0:ws.getD ((1:Int).toNat) [] = w:=hw
    rw [cP,if_pos (by omega),e0]
    by_cases c:i < w.length
    · have e1:w.drop i = w[i] :: w.drop (i + 1):=List.drop_eq_getElem_cons c
      have hc:=w[i].toNat_lt
      have beq:(((w[i].toNat:Nat):Int) == 49) = (w[i] == 49):=by
        rw [Bool.eq_iff_iff,beq_iff_eq,beq_iff_eq]
        exact ⟨fun e=>UInt8.toNat_inj.1 (show w[i].toNat = 49 by omega),fun e=>by rw [e]; rfl⟩
      rw [if_pos (by omega),if_pos (by omega),Int.toNat_natCast,gc w i c,beq,if_pos (by simp only [List.length_cons,List.length_nil]; omega),mc (by omega),yH ws w h1 hw hl f (i + 1) _ (by omega) (by omega) (by simp only [List.length_append,List.length_cons,List.length_nil]; omega),e1,List.map_cons,List.append_assoc]
      rfl
    · rw [if_neg (by omega),List.drop_eq_nil_of_le (by omega),List.map_nil,List.append_nil]
      rfl
def xB:List Wd → List Bool
  | []=>[]
  | w :: _=>w.map (· == 49)
def ip:Wd:=[102,97,105,108]
def mP (fl:List Bool):List Wd:=if fl = [] then [] else [fl.map zo]
theorem AW (fl:List Bool):32 ∉ fl.map zo:=by
  intro h
  obtain ⟨b,_,e⟩:=List.mem_map.1 h
  cases b <;> simp [zo] at e
theorem yD (fl:List Bool):∀ x ∈ mP fl,32 ∉ x:=by
  intro x hx
  unfold mP at hx
  split at hx
  · simp at hx
  · simp at hx; subst hx; exact AW fl
theorem sJ (fl:List Bool) (hl:fl.length ≤ 1000):∀ (f i:Nat) (t:Wd),1 ≤ i → i ≤ fl.length → fl.length - i < f → t.length ≤ 10 + i → cn W fl f t i = some (Sum.inr (t ++ (fl.drop i).map zo,0))
  | 0,i,t,_,_,h,_=>by omega
  | f + 1,i,t,h1,hi,h,ht=>by
    rw [cn]
    by_cases c:i < fl.length
    · rw [if_pos (by omega),if_neg (show ¬ (i:Int) = 0 by omega),Option.bind_some,if_pos (by omega),Int.toNat_natCast,gc fl i c,show fl.drop i = fl[i] :: fl.drop (i + 1) from List.drop_eq_getElem_cons c,List.map_cons,mc (by omega)]
      cases fl[i]
      · rw [if_neg (by decide),if_pos (by simp only [List.length_cons,List.length_nil]; omega),sJ fl hl f (i + 1) _ (by omega) (by omega) (by omega) (by simp only [List.length_append,List.length_cons,List.length_nil]; omega)]
        simp [zo]
      · rw [if_pos Z,if_pos (by simp only [List.length_cons,List.length_nil]; omega),sJ fl hl f (i + 1) _ (by omega) (by omega) (by omega) (by simp only [List.length_append,List.length_cons,List.length_nil]; omega)]
        simp [zo]
    · rw [if_neg (by omega),List.drop_eq_nil_of_le (by omega)]
      simp
theorem wo (fl:List Bool) (hl:fl.length ≤ 1000):cn W fl W ip 0 = some (Sum.inr (mS ip (mP fl),0)):=by
  have e:cn W fl W ip 0 = cn W fl (199999 + 1) ip ((0:Nat):Int):=rfl
  rw [e,cn]
  cases fl with
  | nil =>
    rw [if_neg (by simp)]
    rfl
  | cons b fl =>
    have hl':fl.length ≤ 999:=by simp only [List.length_cons] at hl; omega
    have q1:∀ (x y:Wd),x.length ≤ 100 ∧ y.length ≤ 100 → (x.length:Int) + (y.length:Int) ≤ 9223372036854775807:=AH
    have l4:=fun t ht=>sJ (b :: fl) hl 199999 1 t (Nat.le_refl 1) (by simp only [List.length_cons]; omega) (by simp only [List.length_cons]; omega) ht
    have e1:bj (((0:Nat):Int) + 1) = ((1:Nat):Int):=mc (by omega)
    rw [if_pos (by simp only [List.length_cons]; omega),if_pos (show ((0:Nat):Int) = 0 from rfl),if_pos (q1 _ _ (by decide)),Option.bind_some,if_pos (by decide),e1]
    have eb:(b :: fl).getD ((0:Nat):Int).toNat false = b:=rfl
    rw [eb]
    cases b
    · rw [if_neg (by decide),if_pos (q1 _ _ (by decide)),l4 _ (by decide)]
      simp [mS,mP,hQ,zo]
    · rw [if_pos Z,if_pos (q1 _ _ (by decide)),l4 _ (by decide)]
      simp [mS,mP,hQ,zo]
theorem xA {fl:List Bool} {dm:Nat} (h:fl.length ≤ 1000):(lB fl).line dm = some (mS ip (mP fl),0):=by
  have hr:=(nW fl dm).1
  rw [decide_eq_true (show (fl.length:Int) ≤ 1000 by omega)] at hr
  have hl:cn W (lB fl).fl W [102,97,105,108] 0 = some (Sum.inr (mS ip (mP fl),0)):=wo fl h
  unfold kH.right at hr
  unfold kH.line cq
  rw [hr,Option.bind_some]
  simp only [Bool.not_true,Bool.false_eq_true,if_false]
  rw [if_neg (show ¬ (lB fl).k = 1 from (by decide:¬ ((6:Int) = 1))),if_neg (show ¬ (lB fl).k = 2 from (by decide:¬ ((6:Int) = 2))),if_neg (show ¬ (lB fl).k = 3 from (by decide:¬ ((6:Int) = 3))),if_pos (show (lB fl).k = 6 from rfl),hl,Option.bind_some]
  rfl
theorem wk {rest:List Wd} {dm:Nat} (hs:eD rest) (hl:rest.length ≤ 1900) (hn:∀ x ∈ rest,32 ∉ x):pG ip rest dm:=by
  have hfl:(xB rest).length ≤ 1500:=by
    cases rest with
    | nil=>simp [xB]
    | cons w l=>simp only [xB,List.length_map]; exact dM hs
  have hg:bA W (ip :: rest) dm = some (lB (xB rest)).G:=by
    unfold bA
    rw [if_pos (by simp only [List.length_cons]; omega),if_neg (show ¬ (ip :: rest).getD ((0:Int).toNat) [] = ([105,110,103,101,115,116]:List UInt8) from (by decide:¬ ip = ([105,110,103,101,115,116]:List UInt8))),if_neg (show ¬ (ip :: rest).getD ((0:Int).toNat) [] = ([97,115,107]:List UInt8) from (by decide:¬ ip = ([97,115,107]:List UInt8))),if_neg (show ¬ (ip :: rest).getD ((0:Int).toNat) [] = ([112,111,108,105,99,121]:List UInt8) from (by decide:¬ ip = ([112,111,108,105,99,121]:List UInt8))),if_pos (show (ip :: rest).getD ((0:Int).toNat) [] = ([102,97,105,108]:List UInt8) from rfl)]
    cases rest with
    | nil =>
      have e:cP W [ip] W 0 [] = cP W [ip] (199999 + 1) 0 []:=rfl
      rw [e,cP,if_neg (by decide)]
      rfl
    | cons w l =>
      have g:=yH (ip :: w :: l) w (by simp) Z (dM hs) W 0 [] (Nat.zero_le _) (by unfold W; have:=dM hs; omega) (Nat.le_refl _)
      have g':cP W (ip :: w :: l) W 0 [] = some (Sum.inr (lB (xB (w :: l))).G):=g
      rw [g']
      rfl
  have hst:bk W (ip :: rest) dm = (match mT rest with | none=>some none | some q=>if q.1 = [] then some (if decide ((q.2.length:Int) ≤ 1000) = true then some (lB q.2).S else none) else some none):=by
    unfold bk
    rw [ji,Option.bind_some,bN,if_neg (show ¬ (rest,ip).2 = ([105,110,103,101,115,116]:List UInt8) from (by decide:¬ ip = ([105,110,103,101,115,116]:List UInt8))),if_neg (show ¬ (rest,ip).2 = ([97,115,107]:List UInt8) from (by decide:¬ ip = ([97,115,107]:List UInt8))),if_neg (show ¬ (rest,ip).2 = ([112,111,108,105,99,121]:List UInt8) from (by decide:¬ ip = ([112,111,108,105,99,121]:List UInt8))),if_pos (show (rest,ip).2 = ([102,97,105,108]:List UInt8) from rfl),ul rest dm hs,Option.bind_some]
    cases mT rest with
    | none=>rfl
    | some q =>
      rw [bN,(nW q.2 dm).2,Option.bind_some]
      simp only
      by_cases hq:q.1 = []
      · rw [if_pos hq,if_pos (by rw [hq]; rfl),hq]
        cases decide ((q.2.length:Int) ≤ 1000) <;> rfl
      · rw [if_neg hq,if_neg (fun e=>hq (List.eq_nil_of_length_eq_zero (by omega)))]
  have back:∀ q,mT rest = some q → q.1 = [] → q.2 = xB rest ∧ rest = mP (xB rest):=by
    intro q hq hq1
    cases rest with
    | nil=>cases hq; exact ⟨rfl,rfl⟩
    | cons w l =>
      rw [mT] at hq
      by_cases hw:w = []
      · rw [if_pos hw] at hq; cases hq
      · rw [if_neg hw] at hq
        obtain ⟨bs,h1,h2⟩:=Option.map_eq_some_iff.1 hq
        subst h2
        have h3:l = []:=hq1
        have h4:=(sE w bs).1 h1
        have h5:xB (w :: l) = bs:=by
          show w.map (· == 49) = bs
          rw [h4,List.map_map]
          conv=>rhs; rw [← List.map_id bs]
          apply List.map_congr_left
          intro b _
          cases b <;> rfl
        rw [h5]
        refine ⟨rfl,?_⟩
        unfold mP
        rw [if_neg (by intro e; rw [e] at h4; exact hw h4),← h4,h3]
  by_cases hM:1000 < (xB rest).length
  · have hr:=(nW (xB rest) dm).1
    rw [decide_eq_false (by omega)] at hr
    refine ⟨_,_,1,hg,kH.line_no hr,?_,by simp [lB],by simp only [lB]; omega⟩
    rw [if_neg (fun q=>absurd q.1 (by decide)),hst]
    cases hq:mT rest with
    | none=>rfl
    | some q =>
      simp only
      by_cases h1:q.1 = []
      · rw [if_pos h1,(back q hq h1).1,decide_eq_false (by omega)]
        rfl
      · rw [if_neg h1]
  refine ⟨_,_,0,hg,xA (by omega),?_,by simp [lB],by simp only [lB]; omega⟩
  by_cases e:mS ip (mP (xB rest)) = mS ip rest
  · have er:=ld (yD _) hn ip (by decide) e
    have hr:mT rest = some ([],xB rest):=by
      rw [← er]
      have:∀ fl:List Bool,mT (mP fl) = some ([],fl):=by
        intro fl
        unfold mP
        by_cases h:fl = []
        · rw [if_pos h,h]; rfl
        · rw [if_neg h,mT,if_neg (by intro q; exact h (List.map_eq_nil_iff.1 q)),(sE _ fl).2 rfl]; rfl
      have h2:=this (xB rest)
      rw [er] at h2 ⊢
      exact h2
    rw [if_pos ⟨rfl,e⟩,hst,hr]
    simp only
    rw [if_pos trivial,if_pos (decide_eq_true (by omega))]
  · rw [if_neg (fun q=>e q.2),hst]
    cases hr:mT rest with
    | none=>rfl
    | some q =>
      simp only
      by_cases hq:q.1 = []
      · exact absurd (by rw [← (back q hr hq).2]) e
      · rw [if_neg hq]
def qA:kH:=⟨9,[],0,0,false,false,false,false,false,false,false,false,[],[],[],[],0,0,0,0,0,0,0,0,0,[],0⟩
def ij:Wd:=[115,116,97,114,116]
theorem uD {rest:List Wd} {dm:Nat} (hn:∀ x ∈ rest,32 ∉ x):pG ij rest dm:=by
  have hg:bA W (ij :: rest) dm = some qA.G:=by
    unfold bA
    rw [if_pos (by simp only [List.length_cons]; omega),if_neg (show ¬ (ij :: rest).getD ((0:Int).toNat) [] = ([105,110,103,101,115,116]:List UInt8) from (by decide:¬ ij = ([105,110,103,101,115,116]:List UInt8))),if_neg (show ¬ (ij :: rest).getD ((0:Int).toNat) [] = ([97,115,107]:List UInt8) from (by decide:¬ ij = ([97,115,107]:List UInt8))),if_neg (show ¬ (ij :: rest).getD ((0:Int).toNat) [] = ([112,111,108,105,99,121]:List UInt8) from (by decide:¬ ij = ([112,111,108,105,99,121]:List UInt8))),if_neg (show ¬ (ij :: rest).getD ((0:Int).toNat) [] = ([102,97,105,108]:List UInt8) from (by decide:¬ ij = ([102,97,105,108]:List UInt8))),if_pos (show (ij :: rest).getD ((0:Int).toNat) [] = ([115,116,97,114,116]:List UInt8) from rfl)]
    rfl
  have hr:qA.right dm = some true:=rfl
  have hl:qA.line dm = some (mS ij [],0):=by
    unfold kH.right at hr
    unfold kH.line cq
    rw [hr,Option.bind_some]
    rfl
  have h3:fU W dm = some true:=by
    unfold fU iD
    simp only [fc]
    rw [AZ]; rfl
  refine ⟨_,_,0,hg,hl,?_,by simp [qA],by simp [qA]⟩
  unfold bk
  rw [ji,Option.bind_some,bN,if_neg (show ¬ (rest,ij).2 = ([105,110,103,101,115,116]:List UInt8) from (by decide:¬ ij = ([105,110,103,101,115,116]:List UInt8))),if_neg (show ¬ (rest,ij).2 = ([97,115,107]:List UInt8) from (by decide:¬ ij = ([97,115,107]:List UInt8))),if_neg (show ¬ (rest,ij).2 = ([112,111,108,105,99,121]:List UInt8) from (by decide:¬ ij = ([112,111,108,105,99,121]:List UInt8))),if_neg (show ¬ (rest,ij).2 = ([102,97,105,108]:List UInt8) from (by decide:¬ ij = ([102,97,105,108]:List UInt8))),if_pos (show (rest,ij).2 = ([115,116,97,114,116]:List UInt8) from rfl),h3,Option.bind_some]
  cases rest with
  | nil=>rw [if_pos (by rfl),if_pos Z,if_pos ⟨rfl,rfl⟩]; rfl
  | cons w l =>
    rw [if_neg (by simp only [List.length_cons]; omega),if_neg]
    intro q
    have:=ld (ws:=[]) (vs:=w :: l) (by simp) hn ij (by decide) q.2
    cases this
end Go.Proofs.YtgbjponaoeiglaaDoor.WordsReads
end
section
set_option linter.unusedVariables false
set_option linter.unusedSimpArgs false
set_option maxRecDepth 20000
namespace Go.Proofs.YtgbjponaoeiglaaDoor.WordsReads
open Go E
def kv (k n:Int):kH:=⟨k,[],0,0,false,false,false,false,false,false,false,false,[],[],[],[],0,0,0,0,0,0,0,0,0,[],n⟩
def oi (dm:Nat) (l:List Wd) (k n:Int):=(if (l.length:Int) = 0 then ((ct W k n dm).bind fun x326=>(if x326 = true then (some (some (k,([]:List aA),(0:Int),(0:Int),false,false,false,false,false,false,false,false,([]:List UInt8),([]:List UInt8),([]:List UInt8),([]:List UInt8),l,(0:Int),(0:Int),(0:Int),(0:Int),(0:Int),(0:Int),(0:Int),(0:Int),(0:Int),([]:List Bool),n))) else (some (none)))) else (some (none)))
abbrev KX:Wd × Wd × Wd × Wd:=([116,105,99,107],[119,111,114,107],[97,114,109],[99,114,97,115,104])
theorem Am (dm:Nat) (x:List Wd × Wd) (f:Nat) (l:List Wd) (k n:Int):bm W dm x KX (f + 1) ((4:Nat):Int) l k n = oi dm l k n:=by
  rw [bm,if_neg (by decide)]; rfl
theorem nR (dm:Nat) (x:List Wd × Wd) (f i:Nat) (l:List Wd) (k n:Int) (hi:i < 4) (h:¬ [KX.1,KX.2.1,KX.2.2.1,KX.2.2.2].getD i [] = x.2):bm W dm x KX (f + 1) i l k n = bm W dm x KX f ((i + 1:Nat):Int) l k n:=by
  rw [bm,if_pos (by omega),if_pos (by omega),if_pos (by omega),Int.toNat_natCast,if_neg h,mc (by omega)]
theorem sP (dm:Nat) (x:List Wd × Wd) (f i:Nat) (l:List Wd) (k n:Int) (hi:i < 4) (h:[KX.1,KX.2.1,KX.2.2.1,KX.2.2.2].getD i [] = x.2):bm W dm x KX (f + 1) i l k n = ((aM W l dm).bind fun x324=>(oK x324 (some (none)) fun x323=>(bm W dm x KX f ((i + 1:Nat):Int) x323.1 ([(4:Int),5,7,8].getD i 0) x323.2))):=by
  rw [bm,if_pos (by omega),if_pos (by omega),if_pos (by omega),Int.toNat_natCast,if_pos h,mc (by omega)]
  rfl
theorem sm (dm:Nat) (n:Int):ct W 4 n dm = some true ∧ ct W 5 n dm = some true ∧ ct W 7 n dm = some true ∧ ct W 8 n dm = some true:=by
  refine ⟨?_,?_,?_,?_⟩
  · have e:ct W 4 n dm = (bT W [(⟨4,0,[],(⟨0,0,false,false,false,false,false,false,false,false,[],[],[],[]⟩:aI),(⟨0,0,0,0,0,0,0,0,0⟩:aE),[]⟩:aD)] [(⟨4,0,[],(⟨0,0,false,false,false,false,false,false,false,false,[],[],[],[]⟩:aI),(⟨0,0,0,0,0,0,0,0,0⟩:aE),[]⟩:aD)]).bind fun x12=>(if (!x12) = true then (some (false)) else some true):=rfl
    rw [e,Ar]; rfl
  · have e:ct W 5 n dm = (bT W [(⟨5,0,[],(⟨0,0,false,false,false,false,false,false,false,false,[],[],[],[]⟩:aI),(⟨0,0,0,0,0,0,0,0,0⟩:aE),[]⟩:aD)] [(⟨5,0,[],(⟨0,0,false,false,false,false,false,false,false,false,[],[],[],[]⟩:aI),(⟨0,0,0,0,0,0,0,0,0⟩:aE),[]⟩:aD)]).bind fun x12=>(if (!x12) = true then (some (false)) else some true):=rfl
    rw [e,Aw]; rfl
  · have e:ct W 7 n dm = (bT W [(⟨7,0,[],(⟨0,0,false,false,false,false,false,false,false,false,[],[],[],[]⟩:aI),(⟨0,0,0,0,0,0,0,0,0⟩:aE),[]⟩:aD)] [(⟨7,0,[],(⟨0,0,false,false,false,false,false,false,false,false,[],[],[],[]⟩:aI),(⟨0,0,0,0,0,0,0,0,0⟩:aE),[]⟩:aD)]).bind fun x12=>(if (!x12) = true then (some (false)) else some true):=rfl
    rw [e,AL]; rfl
  · have e:ct W 8 n dm = (bT W [(⟨8,0,[],(⟨0,0,false,false,false,false,false,false,false,false,[],[],[],[]⟩:aI),(⟨0,0,0,0,0,0,0,0,0⟩:aE),[]⟩:aD)] [(⟨8,0,[],(⟨0,0,false,false,false,false,false,false,false,false,[],[],[],[]⟩:aI),(⟨0,0,0,0,0,0,0,0,0⟩:aE),[]⟩:aD)]).bind fun x12=>(if (!x12) = true then (some (false)) else some true):=rfl
    rw [e,Ax]; rfl
theorem yc {dm:Nat} {k n:Int} (h:ct W k n dm = some true) (l:List Wd):oi dm l k n = some (if l = [] then some (kv k n).S else none):=by
  unfold oi
  rw [h,Option.bind_some]
  by_cases hq:l = []
  · subst hq; rw [if_pos (by rfl),if_pos (rfl:([]:List Wd) = [])]; rfl
  · rw [if_neg hq,if_neg (fun e=>hq (List.eq_nil_of_length_eq_zero (by omega)))]
theorem pN {kw:Wd} {k:Int} {rest:List Wd} {dm:Nat} (hk:32 ∉ kw) (hs:eD (kw :: rest)) (hn:∀ x ∈ rest,32 ∉ x) (hg:bA W (kw :: rest) dm = some (kv k (nx (kw :: rest) 1)).G) (hl:∀ n,qP n → (kv k n).line dm = some (mS kw [iK n],0))
    (hst:bk W (kw :: rest) dm = (aM W rest dm).bind fun x324=>(oK x324 (some (none)) fun x323=>oi dm x323.1 k x323.2)) (hR:∀ n,ct W k n dm = some true):pG kw rest dm:=by
  have hin:=Ai (kw :: rest) hs 1
  refine ⟨_,_,0,hg,hl _ hin,?_,by simp [kv],by simp [kv]⟩
  rw [hst]
  cases rest with
  | nil =>
    rw [kx,Option.bind_some,ew,if_neg]
    intro q
    have:=ld (ws:=[iK (nx [kw] 1)]) (vs:=[]) (by intro x hx; simp at hx; subst hx; exact ng _) hn kw hk q.2
    cases this
  | cons w l =>
    have hw:w.length ≤ 1500:=dM (da hs)
    have hx:nx (kw :: w :: l) 1 = (nO w).getD 0:=rfl
    rw [je l _ hw,Option.bind_some]
    have eqv:mS kw [iK (nx (kw :: w :: l) 1)] = mS kw (w :: l) ↔ (∃ n,nO w = some n) ∧ l = []:=by
      constructor
      · intro e
        have e2:=ld (ws:=[iK (nx (kw :: w :: l) 1)]) (by intro x hx; simp at hx; subst hx; exact ng _) hn kw hk e
        obtain ⟨e3,e4⟩:=List.cons.inj e2
        exact ⟨⟨_,(lw hw _).2 ⟨e3.symm,hin⟩⟩,e4.symm⟩
      · rintro ⟨⟨n,h1⟩,h2⟩
        have:=(lw hw n).1 h1
        rw [hx,h1,h2,this.1]; rfl
    cases hq:nO w with
    | none =>
      rw [Option.map_none,ew,if_neg]
      intro q
      obtain ⟨⟨n,h1⟩,_⟩:=eqv.1 q.2
      rw [hq] at h1; cases h1
    | some n =>
      rw [Option.map_some,bN]
      simp only
      rw [yc (hR n)]
      have hxn:nx (kw :: w :: l) 1 = n:=by rw [hx,hq]; rfl
      by_cases h2:l = []
      · rw [if_pos h2,if_pos ⟨trivial,eqv.2 ⟨⟨n,hq⟩,h2⟩⟩,hxn]
      · rw [if_neg h2,if_neg (fun q=>h2 (eqv.1 q.2).2)]
def gN:Wd:=[116,105,99,107]
def gr:Wd:=[119,111,114,107]
def iW:Wd:=[97,114,109]
def dH:Wd:=[99,114,97,115,104]
theorem kO {w:Wd} {rest:List Wd} {f:Nat} (h0:True) (j:Nat) (hj:j < 9) (h:¬ aU.getD j [] = w):bb W (w :: rest) (f + 1) (j:Nat) = bb W (w :: rest) f ((j + 1:Nat):Int):=by
  have hw:(w :: rest).getD ((0:Int).toNat) [] = w:=rfl
  rw [bb,if_pos (by omega),fc,if_pos (by omega),if_pos (show (j:Int) < (aU.length:Int) from by show (j:Int) < 9; omega),if_pos (by simp only [List.length_cons]; omega),Int.toNat_natCast,hw,if_neg h,mc (by omega)]
theorem so {w:Wd} {rest:List Wd} {f:Nat} (hs:eD (w :: rest)) (j:Nat) (hj:j < 9) (h:aU.getD j [] = w) (h2:¬ w = []):bb W (w :: rest) (f + 1) (j:Nat) = some (kv j (nx (w :: rest) 1)).G:=by
  have hw:(w :: rest).getD ((0:Int).toNat) [] = w:=rfl
  have n1:aW W (w :: rest) 1 = some (nx (w :: rest) 1):=qr hs 1
  rw [bb,if_pos (by omega),fc,if_pos (by omega),if_pos (show (j:Int) < (aU.length:Int) from by show (j:Int) < 9; omega),if_pos (by simp only [List.length_cons]; omega),Int.toNat_natCast,hw,if_pos h,if_pos h2,n1]
  rfl
theorem tZ (k n:Int) (hk:k = 4 ∨ k = 5 ∨ k = 7 ∨ k = 8) (d:Int):(kv k n).right d = some true:=by
  rcases hk with rfl | rfl | rfl | rfl <;> rfl
theorem nn (k:Nat) (hk:k = 4 ∨ k = 5 ∨ k = 7 ∨ k = 8) {n:Int} (hn:qP n) (d:Int):(kv k n).line d = some (mS (aU.getD k []) [iK n],0):=by
  have hr:=tZ k n (by omega) d
  have hd:=nS hn
  have hl:=lV hn
  have q1:∀ (x y:Wd),x.length ≤ 100 ∧ y.length ≤ 100 → (x.length:Int) + (y.length:Int) ≤ 9223372036854775807:=AH
  have hd':bV W (kv k n).n = some (iK n):=hd
  unfold kH.right at hr
  unfold kH.line cq
  rw [hr,Option.bind_some]
  simp only [Bool.not_true,Bool.false_eq_true,if_false]
  have k1:¬ (kv (k:Int) n).k = 1:=by show ¬ (k:Int) = 1; omega
  have k2:¬ (kv (k:Int) n).k = 2:=by show ¬ (k:Int) = 2; omega
  have k3:¬ (kv (k:Int) n).k = 3:=by show ¬ (k:Int) = 3; omega
  have k6:¬ (kv (k:Int) n).k = 6:=by show ¬ (k:Int) = 6; omega
  have k9:¬ (kv (k:Int) n).k = 9:=by show ¬ (k:Int) = 9; omega
  have e:aU.getD ((kv (k:Int) n).k.toNat) [] = aU.getD k []:=rfl
  have hlen:(aU.getD k []).length ≤ 10:=by rcases hk with rfl | rfl | rfl | rfl <;> decide
  rw [if_neg k1,if_neg k2,if_neg k3,if_neg k6,if_neg k9,Option.bind_some]
  simp only [mD,fc,e]
  rw [if_pos (show 0 ≤ (kv (k:Int) n).k from by show (0:Int) ≤ (k:Int); omega),if_pos (show (kv (k:Int) n).k < (aU.length:Int) from by show (k:Int) < 9; omega),if_pos (q1 _ _ ⟨by omega,by decide⟩),hd',Option.bind_some,if_pos (q1 _ _ ⟨by simp only [List.length_append,List.length_cons,List.length_nil]; omega,by omega⟩)]
  simp [mS,hQ]
theorem yO {rest:List Wd} (hs:eD (gN :: rest)):bb W (gN :: rest) W 1 = some (kv 4 (nx (gN :: rest) 1)).G:=by
  have e:bb W (gN :: rest) W 1 = bb W (gN :: rest) (199996 + 1 + 1 + 1 + 1) ((1:Nat):Int):=rfl
  rw [e]
  rw [kO (by simp) 1 (by omega) (show ¬ aU.getD 1 [] = gN by decide)]
  rw [kO (by simp) 2 (by omega) (show ¬ aU.getD 2 [] = gN by decide)]
  rw [kO (by simp) 3 (by omega) (show ¬ aU.getD 3 [] = gN by decide)]
  exact so hs 4 (by omega) (show aU.getD 4 [] = gN by decide) (by decide)
theorem uR {rest:List Wd} {dm:Nat} (hs:eD rest) (hn:∀ x ∈ rest,32 ∉ x):pG gN rest dm:=by
  have hs2:eD (gN :: rest):=fun x hx=>by
    rcases List.mem_cons.1 hx with rfl | hx
    · decide
    · exact hs x hx
  refine pN (k:=4) (by decide) hs2 hn ?_ (fun n h=>nn 4 (by omega) h dm) ?_ (fun n=>(sm dm n).1)
  · unfold bA
    rw [if_pos (by simp only [List.length_cons]; omega),if_neg (show ¬ (gN :: rest).getD ((0:Int).toNat) [] = ([105,110,103,101,115,116]:List UInt8) from (by decide:¬ gN = ([105,110,103,101,115,116]:List UInt8))),if_neg (show ¬ (gN :: rest).getD ((0:Int).toNat) [] = ([97,115,107]:List UInt8) from (by decide:¬ gN = ([97,115,107]:List UInt8))),if_neg (show ¬ (gN :: rest).getD ((0:Int).toNat) [] = ([112,111,108,105,99,121]:List UInt8) from (by decide:¬ gN = ([112,111,108,105,99,121]:List UInt8))),if_neg (show ¬ (gN :: rest).getD ((0:Int).toNat) [] = ([102,97,105,108]:List UInt8) from (by decide:¬ gN = ([102,97,105,108]:List UInt8))),if_neg (show ¬ (gN :: rest).getD ((0:Int).toNat) [] = ([115,116,97,114,116]:List UInt8) from (by decide:¬ gN = ([115,116,97,114,116]:List UInt8))),Option.bind_some]
    exact yO hs2
  · unfold bk
    rw [ji,Option.bind_some,bN,if_neg (show ¬ (rest,gN).2 = ([105,110,103,101,115,116]:List UInt8) from (by decide:¬ gN = ([105,110,103,101,115,116]:List UInt8))),if_neg (show ¬ (rest,gN).2 = ([97,115,107]:List UInt8) from (by decide:¬ gN = ([97,115,107]:List UInt8))),if_neg (show ¬ (rest,gN).2 = ([112,111,108,105,99,121]:List UInt8) from (by decide:¬ gN = ([112,111,108,105,99,121]:List UInt8))),if_neg (show ¬ (rest,gN).2 = ([102,97,105,108]:List UInt8) from (by decide:¬ gN = ([102,97,105,108]:List UInt8))),if_neg (show ¬ (rest,gN).2 = ([115,116,97,114,116]:List UInt8) from (by decide:¬ gN = ([115,116,97,114,116]:List UInt8))),fc]
    have e:bm W dm (rest,gN) iu W 0 rest 0 0 = bm W dm (rest,gN) KX (199995 + 1 + 1 + 1 + 1 + 1) ((0:Nat):Int) rest 0 0:=rfl
    rw [e]
    rw [sP dm (rest,gN) _ 0 rest 0 0 (by omega) (show [KX.1,KX.2.1,KX.2.2.1,KX.2.2.2].getD 0 [] = (rest,gN).2 from rfl)]
    congr 1
theorem xS {rest:List Wd} (hs:eD (gr :: rest)):bb W (gr :: rest) W 1 = some (kv 5 (nx (gr :: rest) 1)).G:=by
  have e:bb W (gr :: rest) W 1 = bb W (gr :: rest) (199995 + 1 + 1 + 1 + 1 + 1) ((1:Nat):Int):=rfl
  rw [e]
  rw [kO (by simp) 1 (by omega) (show ¬ aU.getD 1 [] = gr by decide)]
  rw [kO (by simp) 2 (by omega) (show ¬ aU.getD 2 [] = gr by decide)]
  rw [kO (by simp) 3 (by omega) (show ¬ aU.getD 3 [] = gr by decide)]
  rw [kO (by simp) 4 (by omega) (show ¬ aU.getD 4 [] = gr by decide)]
  exact so hs 5 (by omega) (show aU.getD 5 [] = gr by decide) (by decide)
theorem uN {rest:List Wd} {dm:Nat} (hs:eD rest) (hn:∀ x ∈ rest,32 ∉ x):pG gr rest dm:=by
  have hs2:eD (gr :: rest):=fun x hx=>by
    rcases List.mem_cons.1 hx with rfl | hx
    · decide
    · exact hs x hx
  refine pN (k:=5) (by decide) hs2 hn ?_ (fun n h=>nn 5 (by omega) h dm) ?_ (fun n=>(sm dm n).2.1)
  · unfold bA
    rw [if_pos (by simp only [List.length_cons]; omega),if_neg (show ¬ (gr :: rest).getD ((0:Int).toNat) [] = ([105,110,103,101,115,116]:List UInt8) from (by decide:¬ gr = ([105,110,103,101,115,116]:List UInt8))),if_neg (show ¬ (gr :: rest).getD ((0:Int).toNat) [] = ([97,115,107]:List UInt8) from (by decide:¬ gr = ([97,115,107]:List UInt8))),if_neg (show ¬ (gr :: rest).getD ((0:Int).toNat) [] = ([112,111,108,105,99,121]:List UInt8) from (by decide:¬ gr = ([112,111,108,105,99,121]:List UInt8))),if_neg (show ¬ (gr :: rest).getD ((0:Int).toNat) [] = ([102,97,105,108]:List UInt8) from (by decide:¬ gr = ([102,97,105,108]:List UInt8))),if_neg (show ¬ (gr :: rest).getD ((0:Int).toNat) [] = ([115,116,97,114,116]:List UInt8) from (by decide:¬ gr = ([115,116,97,114,116]:List UInt8))),Option.bind_some]
    exact xS hs2
  · unfold bk
    rw [ji,Option.bind_some,bN,if_neg (show ¬ (rest,gr).2 = ([105,110,103,101,115,116]:List UInt8) from (by decide:¬ gr = ([105,110,103,101,115,116]:List UInt8))),if_neg (show ¬ (rest,gr).2 = ([97,115,107]:List UInt8) from (by decide:¬ gr = ([97,115,107]:List UInt8))),if_neg (show ¬ (rest,gr).2 = ([112,111,108,105,99,121]:List UInt8) from (by decide:¬ gr = ([112,111,108,105,99,121]:List UInt8))),if_neg (show ¬ (rest,gr).2 = ([102,97,105,108]:List UInt8) from (by decide:¬ gr = ([102,97,105,108]:List UInt8))),if_neg (show ¬ (rest,gr).2 = ([115,116,97,114,116]:List UInt8) from (by decide:¬ gr = ([115,116,97,114,116]:List UInt8))),fc]
    have e:bm W dm (rest,gr) iu W 0 rest 0 0 = bm W dm (rest,gr) KX (199995 + 1 + 1 + 1 + 1 + 1) ((0:Nat):Int) rest 0 0:=rfl
    rw [e]
    rw [nR dm (rest,gr) _ 0 rest 0 0 (by omega) (show ¬ [KX.1,KX.2.1,KX.2.2.1,KX.2.2.2].getD 0 [] = (rest,gr).2 from (by decide:¬ [KX.1,KX.2.1,KX.2.2.1,KX.2.2.2].getD 0 [] = gr))]
    rw [sP dm (rest,gr) _ 1 rest 0 0 (by omega) (show [KX.1,KX.2.1,KX.2.2.1,KX.2.2.2].getD 1 [] = (rest,gr).2 from rfl)]
    congr 1
theorem zl {rest:List Wd} (hs:eD (iW :: rest)):bb W (iW :: rest) W 1 = some (kv 7 (nx (iW :: rest) 1)).G:=by
  have e:bb W (iW :: rest) W 1 = bb W (iW :: rest) (199993 + 1 + 1 + 1 + 1 + 1 + 1 + 1) ((1:Nat):Int):=rfl
  rw [e]
  rw [kO (by simp) 1 (by omega) (show ¬ aU.getD 1 [] = iW by decide)]
  rw [kO (by simp) 2 (by omega) (show ¬ aU.getD 2 [] = iW by decide)]
  rw [kO (by simp) 3 (by omega) (show ¬ aU.getD 3 [] = iW by decide)]
  rw [kO (by simp) 4 (by omega) (show ¬ aU.getD 4 [] = iW by decide)]
  rw [kO (by simp) 5 (by omega) (show ¬ aU.getD 5 [] = iW by decide)]
  rw [kO (by simp) 6 (by omega) (show ¬ aU.getD 6 [] = iW by decide)]
  exact so hs 7 (by omega) (show aU.getD 7 [] = iW by decide) (by decide)
theorem xm {rest:List Wd} {dm:Nat} (hs:eD rest) (hn:∀ x ∈ rest,32 ∉ x):pG iW rest dm:=by
  have hs2:eD (iW :: rest):=fun x hx=>by
    rcases List.mem_cons.1 hx with rfl | hx
    · decide
    · exact hs x hx
  refine pN (k:=7) (by decide) hs2 hn ?_ (fun n h=>nn 7 (by omega) h dm) ?_ (fun n=>(sm dm n).2.2.1)
  · unfold bA
    rw [if_pos (by simp only [List.length_cons]; omega),if_neg (show ¬ (iW :: rest).getD ((0:Int).toNat) [] = ([105,110,103,101,115,116]:List UInt8) from (by decide:¬ iW = ([105,110,103,101,115,116]:List UInt8))),if_neg (show ¬ (iW :: rest).getD ((0:Int).toNat) [] = ([97,115,107]:List UInt8) from (by decide:¬ iW = ([97,115,107]:List UInt8))),if_neg (show ¬ (iW :: rest).getD ((0:Int).toNat) [] = ([112,111,108,105,99,121]:List UInt8) from (by decide:¬ iW = ([112,111,108,105,99,121]:List UInt8))),if_neg (show ¬ (iW :: rest).getD ((0:Int).toNat) [] = ([102,97,105,108]:List UInt8) from (by decide:¬ iW = ([102,97,105,108]:List UInt8))),if_neg (show ¬ (iW :: rest).getD ((0:Int).toNat) [] = ([115,116,97,114,116]:List UInt8) from (by decide:¬ iW = ([115,116,97,114,116]:List UInt8))),Option.bind_some]
    exact zl hs2
  · unfold bk
    rw [ji,Option.bind_some,bN,if_neg (show ¬ (rest,iW).2 = ([105,110,103,101,115,116]:List UInt8) from (by decide:¬ iW = ([105,110,103,101,115,116]:List UInt8))),if_neg (show ¬ (rest,iW).2 = ([97,115,107]:List UInt8) from (by decide:¬ iW = ([97,115,107]:List UInt8))),if_neg (show ¬ (rest,iW).2 = ([112,111,108,105,99,121]:List UInt8) from (by decide:¬ iW = ([112,111,108,105,99,121]:List UInt8))),if_neg (show ¬ (rest,iW).2 = ([102,97,105,108]:List UInt8) from (by decide:¬ iW = ([102,97,105,108]:List UInt8))),if_neg (show ¬ (rest,iW).2 = ([115,116,97,114,116]:List UInt8) from (by decide:¬ iW = ([115,116,97,114,116]:List UInt8))),fc]
    have e:bm W dm (rest,iW) iu W 0 rest 0 0 = bm W dm (rest,iW) KX (199995 + 1 + 1 + 1 + 1 + 1) ((0:Nat):Int) rest 0 0:=rfl
    rw [e]
    rw [nR dm (rest,iW) _ 0 rest 0 0 (by omega) (show ¬ [KX.1,KX.2.1,KX.2.2.1,KX.2.2.2].getD 0 [] = (rest,iW).2 from (by decide:¬ [KX.1,KX.2.1,KX.2.2.1,KX.2.2.2].getD 0 [] = iW))]
    rw [nR dm (rest,iW) _ 1 rest 0 0 (by omega) (show ¬ [KX.1,KX.2.1,KX.2.2.1,KX.2.2.2].getD 1 [] = (rest,iW).2 from (by decide:¬ [KX.1,KX.2.1,KX.2.2.1,KX.2.2.2].getD 1 [] = iW))]
    rw [sP dm (rest,iW) _ 2 rest 0 0 (by omega) (show [KX.1,KX.2.1,KX.2.2.1,KX.2.2.2].getD 2 [] = (rest,iW).2 from rfl)]
    congr 1
theorem wd {rest:List Wd} (hs:eD (dH :: rest)):bb W (dH :: rest) W 1 = some (kv 8 (nx (dH :: rest) 1)).G:=by
  have e:bb W (dH :: rest) W 1 = bb W (dH :: rest) (199992 + 1 + 1 + 1 + 1 + 1 + 1 + 1 + 1) ((1:Nat):Int):=rfl
  rw [e]
  rw [kO (by simp) 1 (by omega) (show ¬ aU.getD 1 [] = dH by decide)]
  rw [kO (by simp) 2 (by omega) (show ¬ aU.getD 2 [] = dH by decide)]
  rw [kO (by simp) 3 (by omega) (show ¬ aU.getD 3 [] = dH by decide)]
  rw [kO (by simp) 4 (by omega) (show ¬ aU.getD 4 [] = dH by decide)]
  rw [kO (by simp) 5 (by omega) (show ¬ aU.getD 5 [] = dH by decide)]
  rw [kO (by simp) 6 (by omega) (show ¬ aU.getD 6 [] = dH by decide)]
  rw [kO (by simp) 7 (by omega) (show ¬ aU.getD 7 [] = dH by decide)]
  exact so hs 8 (by omega) (show aU.getD 8 [] = dH by decide) (by decide)
theorem tR {rest:List Wd} {dm:Nat} (hs:eD rest) (hn:∀ x ∈ rest,32 ∉ x):pG dH rest dm:=by
  have hs2:eD (dH :: rest):=fun x hx=>by
    rcases List.mem_cons.1 hx with rfl | hx
    · decide
    · exact hs x hx
  refine pN (k:=8) (by decide) hs2 hn ?_ (fun n h=>nn 8 (by omega) h dm) ?_ (fun n=>(sm dm n).2.2.2)
  · unfold bA
    rw [if_pos (by simp only [List.length_cons]; omega),if_neg (show ¬ (dH :: rest).getD ((0:Int).toNat) [] = ([105,110,103,101,115,116]:List UInt8) from (by decide:¬ dH = ([105,110,103,101,115,116]:List UInt8))),if_neg (show ¬ (dH :: rest).getD ((0:Int).toNat) [] = ([97,115,107]:List UInt8) from (by decide:¬ dH = ([97,115,107]:List UInt8))),if_neg (show ¬ (dH :: rest).getD ((0:Int).toNat) [] = ([112,111,108,105,99,121]:List UInt8) from (by decide:¬ dH = ([112,111,108,105,99,121]:List UInt8))),if_neg (show ¬ (dH :: rest).getD ((0:Int).toNat) [] = ([102,97,105,108]:List UInt8) from (by decide:¬ dH = ([102,97,105,108]:List UInt8))),if_neg (show ¬ (dH :: rest).getD ((0:Int).toNat) [] = ([115,116,97,114,116]:List UInt8) from (by decide:¬ dH = ([115,116,97,114,116]:List UInt8))),Option.bind_some]
    exact wd hs2
  · unfold bk
    rw [ji,Option.bind_some,bN,if_neg (show ¬ (rest,dH).2 = ([105,110,103,101,115,116]:List UInt8) from (by decide:¬ dH = ([105,110,103,101,115,116]:List UInt8))),if_neg (show ¬ (rest,dH).2 = ([97,115,107]:List UInt8) from (by decide:¬ dH = ([97,115,107]:List UInt8))),if_neg (show ¬ (rest,dH).2 = ([112,111,108,105,99,121]:List UInt8) from (by decide:¬ dH = ([112,111,108,105,99,121]:List UInt8))),if_neg (show ¬ (rest,dH).2 = ([102,97,105,108]:List UInt8) from (by decide:¬ dH = ([102,97,105,108]:List UInt8))),if_neg (show ¬ (rest,dH).2 = ([115,116,97,114,116]:List UInt8) from (by decide:¬ dH = ([115,116,97,114,116]:List UInt8))),fc]
    have e:bm W dm (rest,dH) iu W 0 rest 0 0 = bm W dm (rest,dH) KX (199995 + 1 + 1 + 1 + 1 + 1) ((0:Nat):Int) rest 0 0:=rfl
    rw [e]
    rw [nR dm (rest,dH) _ 0 rest 0 0 (by omega) (show ¬ [KX.1,KX.2.1,KX.2.2.1,KX.2.2.2].getD 0 [] = (rest,dH).2 from (by decide:¬ [KX.1,KX.2.1,KX.2.2.1,KX.2.2.2].getD 0 [] = dH))]
    rw [nR dm (rest,dH) _ 1 rest 0 0 (by omega) (show ¬ [KX.1,KX.2.1,KX.2.2.1,KX.2.2.2].getD 1 [] = (rest,dH).2 from (by decide:¬ [KX.1,KX.2.1,KX.2.2.1,KX.2.2.2].getD 1 [] = dH))]
    rw [nR dm (rest,dH) _ 2 rest 0 0 (by omega) (show ¬ [KX.1,KX.2.1,KX.2.2.1,KX.2.2.2].getD 2 [] = (rest,dH).2 from (by decide:¬ [KX.1,KX.2.1,KX.2.2.1,KX.2.2.2].getD 2 [] = dH))]
    rw [sP dm (rest,dH) _ 3 rest 0 0 (by omega) (show [KX.1,KX.2.1,KX.2.2.1,KX.2.2.2].getD 3 [] = (rest,dH).2 from rfl)]
    congr 1
end Go.Proofs.YtgbjponaoeiglaaDoor.WordsReads
end
section
set_option linter.unusedVariables false
set_option linter.unusedSimpArgs false
set_option maxRecDepth 20000
namespace Go.Proofs.YtgbjponaoeiglaaDoor.WordsReads
open Go E
theorem md {w:Wd} {rest:List Wd} {f:Nat} (j:Nat) (hj:j < 9) (h:aU.getD j [] = w → w = []):bb W (w :: rest) (f + 1) (j:Nat) = bb W (w :: rest) f ((j + 1:Nat):Int):=by
  have hw:(w :: rest).getD ((0:Int).toNat) [] = w:=rfl
  rw [bb,if_pos (by omega),fc,if_pos (by omega),if_pos (show (j:Int) < (aU.length:Int) from by show (j:Int) < 9; omega),if_pos (by simp only [List.length_cons]; omega),Int.toNat_natCast,hw]
  by_cases e:aU.getD j [] = w
  · rw [if_pos e,if_neg (fun q=>q (h e)),mc (by omega)]
  · rw [if_neg e,mc (by omega)]
theorem ut {w:Wd} {rest:List Wd} {dm:Nat} (hkIngest:¬ w = gD) (hkAsk:¬ w = ms) (hkPol:¬ w = lX) (hkFail:¬ w = ip) (hkStart:¬ w = ij) (hkTick:¬ w = gN) (hkWork:¬ w = gr) (hkArm:¬ w = iW) (hkCrash:¬ w = dH):pG w rest dm:=by
  have hg:bA W (w :: rest) dm = some kH.zero.G:=by
    unfold bA
    rw [if_pos (by simp only [List.length_cons]; omega),if_neg (show ¬ (w :: rest).getD ((0:Int).toNat) [] = ([105,110,103,101,115,116]:List UInt8) from hkIngest),if_neg (show ¬ (w :: rest).getD ((0:Int).toNat) [] = ([97,115,107]:List UInt8) from hkAsk),if_neg (show ¬ (w :: rest).getD ((0:Int).toNat) [] = ([112,111,108,105,99,121]:List UInt8) from hkPol),if_neg (show ¬ (w :: rest).getD ((0:Int).toNat) [] = ([102,97,105,108]:List UInt8) from hkFail),if_neg (show ¬ (w :: rest).getD ((0:Int).toNat) [] = ([115,116,97,114,116]:List UInt8) from hkStart),Option.bind_some]
    have e:bb W (w :: rest) W 1 = bb W (w :: rest) (199991 + 1 + 1 + 1 + 1 + 1 + 1 + 1 + 1 + 1) ((1:Nat):Int):=rfl
    simp only [mD]
    rw [e]
    rw [md 1 (by omega) (fun e=>e.symm)]
    rw [md 2 (by omega) (fun e=>e.symm)]
    rw [md 3 (by omega) (fun e=>e.symm)]
    rw [md 4 (by omega) (fun e=>absurd e.symm hkTick)]
    rw [md 5 (by omega) (fun e=>absurd e.symm hkWork)]
    rw [md 6 (by omega) (fun e=>e.symm)]
    rw [md 7 (by omega) (fun e=>absurd e.symm hkArm)]
    rw [md 8 (by omega) (fun e=>absurd e.symm hkCrash)]
    rw [bb,if_neg (by decide)]
    rfl
  have hr:kH.zero.right dm = some false:=rfl
  refine ⟨_,_,1,hg,kH.line_no hr,?_,by simp [kH.zero],by simp [kH.zero]⟩
  rw [if_neg (fun q=>absurd q.1 (by decide))]
  have h0:ct W 0 0 dm = some false:=rfl
  unfold bk
  rw [ji,Option.bind_some,bN,if_neg (show ¬ (rest,w).2 = ([105,110,103,101,115,116]:List UInt8) from hkIngest),if_neg (show ¬ (rest,w).2 = ([97,115,107]:List UInt8) from hkAsk),if_neg (show ¬ (rest,w).2 = ([112,111,108,105,99,121]:List UInt8) from hkPol),if_neg (show ¬ (rest,w).2 = ([102,97,105,108]:List UInt8) from hkFail),if_neg (show ¬ (rest,w).2 = ([115,116,97,114,116]:List UInt8) from hkStart),fc]
  have e:bm W dm (rest,w) iu W 0 rest 0 0 = bm W dm (rest,w) KX (199995 + 1 + 1 + 1 + 1 + 1) ((0:Nat):Int) rest 0 0:=rfl
  rw [e]
  rw [nR dm (rest,w) _ 0 rest 0 0 (by omega) (fun e=>hkTick e.symm)]
  rw [nR dm (rest,w) _ 1 rest 0 0 (by omega) (fun e=>hkWork e.symm)]
  rw [nR dm (rest,w) _ 2 rest 0 0 (by omega) (fun e=>hkArm e.symm)]
  rw [nR dm (rest,w) _ 3 rest 0 0 (by omega) (fun e=>hkCrash e.symm)]
  rw [Am]
  unfold oi
  rw [h0,Option.bind_some]
  split <;> rfl
theorem yG {w:Wd} {rest:List Wd} {dm:Nat} (d0:1 ≤ dm) (d1:dm ≤ 4) (hs:eD rest) (hl:rest.length ≤ 1900) (hn:∀ x ∈ rest,32 ∉ x):pG w rest dm:=by
  by_cases hkIngest:w = gD
  · rw [hkIngest]; exact tP d0 d1 hs hl hn
  by_cases hkAsk:w = ms
  · rw [hkAsk]; exact yF d0 d1 hs hl hn
  by_cases hkPol:w = lX
  · rw [hkPol]; exact xY hs hl hn
  by_cases hkFail:w = ip
  · rw [hkFail]; exact wk hs hl hn
  by_cases hkStart:w = ij
  · rw [hkStart]; exact uD hn
  by_cases hkTick:w = gN
  · rw [hkTick]; exact uR hs hn
  by_cases hkWork:w = gr
  · rw [hkWork]; exact uN hs hn
  by_cases hkArm:w = iW
  · rw [hkArm]; exact xm hs hn
  by_cases hkCrash:w = dH
  · rw [hkCrash]; exact tR hs hn
  exact ut hkIngest hkAsk hkPol hkFail hkStart hkTick hkWork hkArm hkCrash
theorem pR (line:Wd) (hl:line.length ≤ 1500) {dm:Nat} (d0:1 ≤ dm) (d1:dm ≤ 4):∃ (s:kH) (f:Int),gx W line dm = some (s.P f) ∧ fk W line dm = some (s.R f) ∧ s.fs.length ≤ 100 ∧ s.fl.length ≤ 2000 ∧ (f = 0 ∨ f = 4):=by
  by_cases h0:line = []
  · have e:po line = []:=by unfold po; rw [if_pos h0]
    have e2:bk W [] dm = some none:=rfl
    refine ⟨kH.zero,4,?_,?_,by simp [kH.zero],by simp [kH.zero],Or.inr Z⟩
    · unfold gx
      rw [if_neg (by omega),if_neg (by omega),tI line hl,Option.bind_some,e,e2,Option.bind_some,ew]
      rfl
    · unfold fk
      rw [if_neg (by omega),if_neg (by omega),qY line hl,Option.bind_some,e,if_pos (by rfl)]
      rfl
  · have e:po line = dL 32 line:=by unfold po; rw [if_neg h0]
    cases hsp:dL 32 line with
    | nil=>exact absurd hsp (kG 32 line)
    | cons w rest =>
      rw [hsp] at e
      obtain ⟨e1,e2,e3⟩:=pf line w rest hsp
      have hlen:(mS w rest).length = w.length + (hQ rest).length:=by unfold mS; rw [List.length_append]
      have hsr:eD rest:=fun x hx=>by
        have:=wP rest x hx
        rw [e1] at hl; omega
      have hcr:=xo rest
      obtain ⟨s,l,f,c1,c2,c3,c4,c5⟩:=yG (w:=w) d0 d1 hsr (by rw [e1] at hl; omega) e3
      have c2':cq W s.k s.n s.fs s.a s.b s.g0 s.g1 s.g2 s.g3 s.h0 s.h1 s.h2 s.h3 s.t0 s.t1 s.t2 s.t3 s.p0 s.p1 s.p2 s.p3 s.p4 s.p5 s.p6 s.p7 s.p8 s.fl dm = some (l,f):=c2
      have c2g:(cq W s.G.1 s.G.2.2.2.2.2.2.2.2.2.2.2.2.2.2.2.2.2.2.2.2.2.2.2.2.2.2 s.G.2.1 s.G.2.2.1 s.G.2.2.2.1 s.G.2.2.2.2.1 s.G.2.2.2.2.2.1 s.G.2.2.2.2.2.2.1 s.G.2.2.2.2.2.2.2.1 s.G.2.2.2.2.2.2.2.2.1 s.G.2.2.2.2.2.2.2.2.2.1 s.G.2.2.2.2.2.2.2.2.2.2.1 s.G.2.2.2.2.2.2.2.2.2.2.2.1 s.G.2.2.2.2.2.2.2.2.2.2.2.2.1 s.G.2.2.2.2.2.2.2.2.2.2.2.2.2.1 s.G.2.2.2.2.2.2.2.2.2.2.2.2.2.2.1 s.G.2.2.2.2.2.2.2.2.2.2.2.2.2.2.2.1 s.G.2.2.2.2.2.2.2.2.2.2.2.2.2.2.2.2.1 s.G.2.2.2.2.2.2.2.2.2.2.2.2.2.2.2.2.2.1 s.G.2.2.2.2.2.2.2.2.2.2.2.2.2.2.2.2.2.2.1 s.G.2.2.2.2.2.2.2.2.2.2.2.2.2.2.2.2.2.2.2.1 s.G.2.2.2.2.2.2.2.2.2.2.2.2.2.2.2.2.2.2.2.2.1 s.G.2.2.2.2.2.2.2.2.2.2.2.2.2.2.2.2.2.2.2.2.2.1 s.G.2.2.2.2.2.2.2.2.2.2.2.2.2.2.2.2.2.2.2.2.2.2.1 s.G.2.2.2.2.2.2.2.2.2.2.2.2.2.2.2.2.2.2.2.2.2.2.2.1 s.G.2.2.2.2.2.2.2.2.2.2.2.2.2.2.2.2.2.2.2.2.2.2.2.2.1 s.G.2.2.2.2.2.2.2.2.2.2.2.2.2.2.2.2.2.2.2.2.2.2.2.2.2.1 dm) = some (l,f):=c2'
      have hP:gx W line dm = some (if f = 0 ∧ l = mS w rest then s.P 0 else kH.zero.P 4):=by
        unfold gx
        rw [if_neg (by omega),if_neg (by omega),tI line hl,Option.bind_some,e,c3,Option.bind_some]
        by_cases hq:f = 0 ∧ l = mS w rest
        · rw [if_pos hq,if_pos hq,bN]; rfl
        · rw [if_neg hq,if_neg hq,ew]; rfl
      have hR:fk W line dm = some (if f = 0 ∧ l = mS w rest then s.R 0 else kH.zero.R 4):=by
        unfold fk
        rw [if_neg (by omega),if_neg (by omega),qY line hl,Option.bind_some,e,if_neg (show ¬ (((w :: rest).length:Nat):Int) = 0 from by simp only [List.length_cons]; omega),c1,Option.bind_some,c2g,Option.bind_some]
        by_cases hq:f = 0 ∧ l = mS w rest
        · rw [if_neg (fun q=>q hq.1),if_neg (fun q=>q (by rw [e1]; exact hq.2)),if_pos hq]; rfl
        · rw [if_neg hq]
          by_cases hf:f = 0
          · rw [if_neg (fun q=>q hf),if_pos (fun q=>hq ⟨hf,by rw [← e1]; exact q⟩)]; rfl
          · rw [if_pos hf]; rfl
      by_cases hq:f = 0 ∧ l = mS w rest
      · rw [if_pos hq] at hP hR
        exact ⟨s,0,hP,hR,c4,c5,Or.inl Z⟩
      · rw [if_neg hq] at hP hR
        exact ⟨kH.zero,4,hP,hR,by simp [kH.zero],by simp [kH.zero],Or.inr Z⟩
theorem tz (l:List aA) (hl:l.length ≤ 2000):∀ (f i:Nat),i ≤ l.length → l.length - i < f → eX W l l f i = some true
  | 0,i,_,h=>by omega
  | f + 1,i,hi,h=>by
    rw [eX]
    by_cases c:i < l.length
    · rw [if_pos (by omega),if_pos (by omega),if_pos (by omega),mc (by omega),tz l hl f (i + 1) (by omega) (by omega),if_neg (by simp)]
    · rw [if_neg (by omega)]
theorem BE (l:List aA) (hl:l.length ≤ 2000):fQ W l l = some true:=by
  unfold fQ
  rw [if_neg (fun q=>q Z)]
  exact tz l hl W 0 (Nat.zero_le _) (by unfold W; omega)
theorem pY:fJ W = some true:=by kernel_rfl
end Go.Proofs.YtgbjponaoeiglaaDoor.WordsReads
end
section
set_option linter.unusedVariables false
set_option linter.unusedSimpArgs false
set_option maxRecDepth 20000
namespace Go.Proofs.YtgbjponaoeiglaaDoor.WordsReads
open Go E
def zD (x:aD):Prop:=x.Facts.length ≤ 1000 ∧ x.Fails.length ≤ 2000
theorem Ah (l:List aD) (j:Nat) (hl:(l.getD j ai).Fails.length ≤ 2000):∀ (f i:Nat),i ≤ (l.getD j ai).Fails.length → (l.getD j ai).Fails.length - i < f → ee W l l (j:Int) f i = some (Sum.inl ())
  | 0,i,_,h=>by omega
  | f + 1,i,hi,h=>by
    rw [ee,Int.toNat_natCast]
    by_cases c:i < (l.getD j ai).Fails.length
    · rw [if_pos (by omega),if_pos (by omega),if_pos (by omega),mc (by omega),Ah l j hl f (i + 1) (by omega) (by omega),if_neg (by simp)]
    · rw [if_neg (by omega)]
theorem zf (l:List aD) (hl:l.length ≤ 2000) (hok:∀ x ∈ l,zD x):∀ (f i:Nat),i ≤ l.length → l.length - i < f → eW W l l f i = some true
  | 0,i,_,h=>by omega
  | f + 1,i,hi,h=>by
    rw [eW,Int.toNat_natCast]
    by_cases c:i < l.length
    · have hx:zD (l.getD i ai):=by
        rw [List.getD_eq_getElem?_getD,List.getElem?_eq_getElem c]
        exact hok _ (List.getElem_mem c)
      have b:ee W l l (i:Int) W 0 = some (Sum.inl ()):=Ah l i hx.2 W 0 (Nat.zero_le _) (by have:=hx.2; unfold W; omega)
      rw [if_pos (by omega),if_pos (by omega),if_pos (by omega),if_neg (fun q=>q Z),if_neg (fun q=>q Z),if_neg (by simp),if_neg (by simp),BE _ (by have:=hx.1; omega),Option.bind_some,if_neg (by decide),if_neg (fun q=>q Z),b,Option.bind_some,jg,mc (by omega)]
      exact zf l hl hok f (i + 1) (by omega) (by omega)
    · rw [if_neg (by omega)]
theorem Ba (l:List aD) (hl:l.length ≤ 2000) (hok:∀ x ∈ l,zD x):fL W l l = some true:=by
  unfold fL
  rw [if_neg (fun q=>q Z)]
  exact zf l hl hok W 0 (Nat.zero_le _) (by unfold W; omega)
theorem ro:∀ t:Wd,(mR t 10 = -1 ∧ ∀ j,j < t.length → ¬ t.getD j 0 = 10) ∨ ∃ n:Nat,mR t 10 = (n:Int) ∧ n < t.length ∧ t.getD n 0 = 10 ∧ ∀ j,j < n → ¬ t.getD j 0 = 10
  | []=>Or.inl ⟨rfl,fun j h=>absurd h (Nat.not_lt_zero j)⟩
  | b :: l=>by
    by_cases hb:b = 10
    · exact Or.inr ⟨0,by rw [mR,if_pos hb]; rfl,by simp,by simpa using hb,fun j h=>absurd h (Nat.not_lt_zero j)⟩
    · rcases ro l with ⟨h1,h2⟩ | ⟨n,h1,h2,h3,h4⟩
      · refine Or.inl ⟨by rw [mR,if_neg hb,if_pos h1],fun j h=>?_⟩
        cases j with
        | zero=>simpa using hb
        | succ j=>simpa using h2 j (by simp only [List.length_cons] at h; omega)
      · refine Or.inr ⟨n + 1,by rw [mR,if_neg hb,if_neg (by rw [h1]; omega),h1]; omega,by simp only [List.length_cons]; omega,by simpa using h3,fun j h=>?_⟩
        cases j with
        | zero=>simpa using hb
        | succ j=>simpa using h4 j (by omega)
theorem zj {t:Wd} (h:mR t 10 = -1):strings_Cut t [10] = some (t,[],false):=by
  unfold strings_Cut hE
  rw [show gB t [10] = some (mR t 10) from rfl,h,Option.bind_some,if_neg (by decide),Option.bind_some]
theorem xJ {t:Wd} {n:Nat} (h:mR t 10 = (n:Int)) (hn:n < t.length) (hl:t.length ≤ 1500):strings_Cut t [10] = some (t.take n,t.drop (n + 1),true):=by
  unfold strings_Cut hE
  have e:bj ((n:Int) + ((([10]:Wd).length:Nat):Int)) = ((n + 1:Nat):Int):=mc (by omega)
  rw [show gB t [10] = some (mR t 10) from rfl,h,Option.bind_some,e,if_pos (by omega),if_pos (by omega),if_pos (by omega),if_pos (by omega),Option.bind_some,Int.toNat_natCast,Int.toNat_natCast]
theorem qy (s:Wd) (hs:s.length ≤ 1500):∀ (f i c:Nat),i ≤ s.length → s.length - i < f → c ≤ i → eJ W s f (c:Int) (i:Int) = some ((c + (s.drop i).count 10:Nat):Int)
  | 0,i,c,_,h,_=>by omega
  | f + 1,i,c,hi,h,hc=>by
    rw [eJ,Int.toNat_natCast]
    by_cases c1:i < s.length
    · have e:s.drop i = s.getD i 0 :: s.drop (i + 1):=by
        rw [List.drop_eq_getElem_cons c1,List.getD_eq_getElem?_getD,List.getElem?_eq_getElem c1]; rfl
      rw [if_pos (by omega),if_pos (by omega),e]
      by_cases c2:s.getD i 0 = 10
      · rw [if_pos (by rw [c2]; rfl),mc (by omega),mc (by omega),qy s hs f (i + 1) (c + 1) (by omega) (by omega) (by omega),c2,List.count_cons_self]
        congr 1; omega
      · rw [if_neg (fun q=>c2 (UInt8.toNat_inj.1 (by show (s.getD i 0).toNat = 10; omega))),mc (by omega),qy s hs f (i + 1) c (by omega) (by omega) (by omega),List.count_cons_of_ne c2]
    · rw [if_neg (by omega),List.drop_eq_nil_of_le (by omega)]; rfl
abbrev BO (s:kH):aD:=⟨s.k,s.n,s.fs,(⟨s.a,s.b,s.g0,s.g1,s.g2,s.g3,s.h0,s.h1,s.h2,s.h3,s.t0,s.t1,s.t2,s.t3⟩:aI),(⟨s.p0,s.p1,s.p2,s.p3,s.p4,s.p5,s.p6,s.p7,s.p8⟩:aE),s.fl⟩
theorem sS (s:Wd) (hs:s.length ≤ 1500) (d:Int) (from_:Int) (out:List aD):∀ (k f i:Nat),i + k ≤ s.length → (∀ j,i ≤ j → j < i + k → ¬ s.getD j 0 = 10) → cQ W s d (f + k) (i:Int) from_ out = cQ W s d f ((i + k:Nat):Int) from_ out
  | 0,f,i,_,_=>rfl
  | k + 1,f,i,h,hn=>by
    have c2:=hn i (Nat.le_refl _) (by omega)
    rw [show f + (k + 1) = (f + k) + 1 from rfl,cQ,if_pos (by omega),if_pos (by omega),Int.toNat_natCast,if_pos (fun q=>c2 (UInt8.toNat_inj.1 (by show (s.getD i 0).toNat = 10; omega))),mc (by omega),sS s hs d from_ out k f (i + 1) (by omega) (fun j h1 h2=>hn j (by omega) (by omega))]
    congr 2; omega
def uc (s:Wd) (z:Sum ((List aD) × Int) (Int × Int × (List aD))):Option (Int × Int × (List aD)):=(mD z (fun v2=>(if v2.2 < (s.length:Int) then (some ((4,bj ((v2.1.length:Int) + 1),([]:List aD)))) else (some ((0,0,v2.1))))) (fun t_=>(some (t_))))
theorem both (s:Wd) (hs:s.length ≤ 1500) {dm:Nat} (d0:1 ≤ dm) (d1:dm ≤ 4):∀ (m n:Nat) (out:List aD) (f g:Nat),m + n = s.length → out.length ≤ n → (∀ x ∈ out,zD x) → m < f → m < g →
    ∃ r,iy W dm f (s.drop n) out = some r ∧ (cQ W s dm g (n:Int) (n:Int) out).bind (uc s) = some r ∧ r.2.2.length ≤ 2000 ∧ ∀ x ∈ r.2.2,zD x:=by
  intro m
  induction m using Nat.strongRecOn with
  | _ m ih =>
    intro n out f g hm ho hk hf hg
    obtain ⟨f,rfl⟩:∃ f',f = f' + 1:=⟨f - 1,by omega⟩
    have htl:(s.drop n).length = m:=by rw [List.length_drop]; omega
    have hget:∀ j,(s.drop n).getD j 0 = s.getD (n + j) 0:=fun j=>by rw [List.getD_eq_getElem?_getD,List.getD_eq_getElem?_getD,List.getElem?_drop]
    have none_ok:∀ x ∈ ([]:List aD),zD x:=fun x hx=>absurd hx (by simp)
    rw [iy]
    by_cases h0:s.drop n = []
    · have hm0:m = 0:=by rw [h0] at htl; exact htl.symm
      obtain ⟨g,rfl⟩:∃ g',g = g' + 1:=⟨g - 1,by omega⟩
      refine ⟨(0,0,out),by rw [if_neg (fun q=>q h0)],?_,by show out.length ≤ 2000; omega,hk⟩
      rw [cQ,if_neg (by omega),Option.bind_some,uc,jg,if_neg (by show ¬ (n:Int) < _; omega)]
    · rw [if_pos h0]
      have hmp:0 < m:=by
        cases m with
        | zero=>exact absurd (List.eq_nil_of_length_eq_zero htl) h0
        | succ m=>omega
      rcases ro (s.drop n) with ⟨h1,h2⟩ | ⟨k,h1,h2,h3,h4⟩
      · obtain ⟨x,q,p1,p2,p3,p4,p5⟩:=pR (s.drop n) (by omega) d0 d1
        refine ⟨(4,bj ((out.length:Int) + 1),[]),?_,?_,by simp,none_ok⟩
        · rw [zj h1,Option.bind_some]
          show (gx W (s.drop n) dm).bind _ = _
          rw [p1,Option.bind_some]
          by_cases hq:q = 0
          · rw [if_neg (fun e=>e hq),if_pos (by rfl)]
          · rw [if_pos (show ¬ (x.P q).2.2.2.2.2.2.2.2.2.2.2.2.2.2.2.2.2.2.2.2.2.2.2.2.2.2.2 = 0 from hq)]
        · obtain ⟨g,rfl⟩:∃ g',g = (g' + 1) + m:=⟨g - m - 1,by omega⟩
          rw [sS s hs dm n out m (g + 1) n (by omega) (fun j a b=>by have:=h2 (j - n) (by omega); rw [hget] at this; rwa [show n + (j - n) = j by omega] at this)]
          rw [cQ,if_neg (by omega),Option.bind_some,uc,jg,if_pos (by show (n:Int) < _; omega)]
      · obtain ⟨x,q,p1,p2,p3,p4,p5⟩:=pR ((s.drop n).take k) (by rw [List.length_take]; omega) d0 d1
        rw [xJ h1 h2 (by omega),Option.bind_some]
        obtain ⟨g,rfl⟩:∃ g',g = (g' + 1) + k:=⟨g - k - 1,by omega⟩
        rw [sS s hs dm n out k (g + 1) n (by omega) (fun j a b=>by have:=h4 (j - n) (by omega); rw [hget] at this; rwa [show n + (j - n) = j by omega] at this)]
        have c10:((s.getD (n + k) 0).toNat:Int) = 10:=by rw [← hget,h3]; rfl
        rw [cQ,if_pos (by omega),if_pos (by omega),Int.toNat_natCast,Int.toNat_natCast,if_neg (fun e=>e c10),if_pos (by omega),if_pos (by omega),if_pos (by omega),show n + k - n = k by omega,p2,Option.bind_some]
        show ∃ r,((gx W ((s.drop n).take k) dm).bind _) = _ ∧ _
        rw [p1,Option.bind_some]
        by_cases hq:q = 0
        · have hst:zD (BO x):=⟨by show x.fs.length ≤ 1000; omega,p4⟩
          obtain ⟨r,r1,r2,r3,r4⟩:=ih (m - k - 1) (by omega) (n + k + 1) (out ++ [BO x]) f g (by omega) (by simp only [List.length_append,List.length_cons,List.length_nil]; omega) (fun y hy=>by
            rcases List.mem_append.1 hy with hy | hy
            · exact hk y hy
            · rw [List.mem_singleton.1 hy]; exact hst) (by omega) (by omega)
          refine ⟨r,?_,?_,r3,r4⟩
          · rw [if_neg (fun e=>e hq),if_neg (by show ¬ (!true) = true; decide),if_pos (by omega)]
            show iy W dm f ((s.drop n).drop (k + 1)) (out ++ [BO x]) = some r
            rw [List.drop_drop]
            exact r1
          · rw [if_neg (fun e=>e hq),if_pos (by omega),mc (by omega)]
            exact r2
        · refine ⟨(4,bj ((out.length:Int) + 1),[]),?_,?_,by simp,none_ok⟩
          · rw [if_pos (show ¬ (x.P q).2.2.2.2.2.2.2.2.2.2.2.2.2.2.2.2.2.2.2.2.2.2.2.2.2.2.2 = 0 from hq)]
          · have hq4:q = 4:=by rcases p5 with h | h; exact absurd h hq; exact h
            rw [if_pos (show ¬ (x.R q).1 = 0 from hq),Option.bind_some,hq4]
            rfl
theorem reads (s:Wd) (hs:s.length ≤ 1500) (d:Int):∃ r,kJ W s d = some r ∧ gA W s d = some r ∧ r.2.2.length ≤ 2000 ∧ ∀ x ∈ r.2.2,zD x:=by
  unfold kJ gA
  have none_ok:∀ x ∈ ([]:List aD),zD x:=fun x hx=>absurd hx (by simp)
  by_cases h1:d < 1
  · rw [if_pos h1,if_pos h1]; exact ⟨_,rfl,rfl,by simp,none_ok⟩
  rw [if_neg h1,if_neg h1]
  by_cases h2:4 < d
  · rw [if_pos h2,if_pos h2]; exact ⟨_,rfl,rfl,by simp,none_ok⟩
  rw [if_neg h2,if_neg h2]
  have hc:=qy s hs W 0 0 (Nat.zero_le _) (by unfold W; omega) (Nat.le_refl _)
  have hc':eJ W s W 0 0 = some ((s.count 10:Nat):Int):=by
    refine Eq.trans hc ?_
    rw [Nat.zero_add]; rfl
  rw [hc',show jN s [10] = some ((s.count 10:Nat):Int) from rfl,Option.bind_some,Option.bind_some]
  by_cases h3:1000 < ((s.count 10:Nat):Int)
  · rw [if_pos h3,if_pos h3]; exact ⟨_,rfl,rfl,by simp,none_ok⟩
  rw [if_neg h3,if_neg h3]
  have e:d = ((d.toNat:Nat):Int):=by omega
  rw [e]
  obtain ⟨r,r1,r2,r3,r4⟩:=both s hs (show 1 ≤ d.toNat by omega) (show d.toNat ≤ 4 by omega) s.length 0 [] W W (by omega) (Nat.le_refl _) none_ok (by unfold W; omega) (by unfold W; omega)
  exact ⟨r,r1,r2,r3,r4⟩
theorem law (s:Wd) (d:Int):∃ K,fI K s d = some true:=by
  refine ⟨W,?_⟩
  unfold fI
  by_cases h:1500 < (s.length:Int)
  · rw [if_pos h,pY]; rfl
  · obtain ⟨r,h1,h2,h3,h4⟩:=reads s (by omega) d
    rw [if_neg h,h1,h2,Option.bind_some,Option.bind_some,Ba r.2.2 h3 h4,Option.bind_some,if_pos Z,if_pos Z,if_pos Z,pY]
    rfl
end Go.Proofs.YtgbjponaoeiglaaDoor.WordsReads
end
section
set_option linter.unusedVariables false
namespace Go.Proofs.YtgbjponaoeiglaaDoor.WordsReads
open Go Go.ChangeShapes Go.WideShapes Go.ChangeAt Go.RowKit E
open Go.ChangeMaps (open_string shut_string)
theorem own:ownKnob Tryd.prog.godebug = none:=by kernel_rfl
theorem zQ:laidOutB Tryd.prog = true:=by kernel_rfl
set_option maxRecDepth 100000 in
theorem Az (os:Os) (started:os.Started) (H:Type) (enc:TypeId × Value → H) :
    ReturnsInHanded {} Tryd.checked os 5 .any (fun w args=>(Rows.wordsReadsSpec.pre enc Tryd.prog Tryd.f5 Rows.wordsReadsRow.domain false w args ∧ laidMetH Tryd.prog Rows.wordsReadsRow.laid w) ∧ sizedMet enc Tryd.prog Tryd.f5 (OpenSpec.ofChange Rows.wordsReadsSpec) false w args) (Rows.wordsReadsSpec.post enc Tryd.prog Tryd.f5 false true false false):=by
  refine pE (C:=Tryd.checked) (tb:=4) (ts:=[9,3]) own started (by kernel_rfl) Tryd.func5
    (ChangeSpec.witness_shaped (enc:=enc) (C:=Tryd.checked) (os:=os) (X:=fun w _=>laidMetH Tryd.prog Rows.wordsReadsRow.laid w) false (World.laidAll Tryd.prog os Rows.wordsReadsRow.laid) #[.string ByteArray.empty,.int .i64 0] 8 (World.laidAll_os _ _ _)
      (World.shaped_of_ZipB (by kernel_rfl) (by kernel_rfl)) (by kernel_rfl) (by kernel_rfl) (by kernel_rfl)
      (by rw [MakeChecks.laidMetH_plain _ _ _ (by kernel_rfl)]; exact laidMet_laidAll _ (by kernel_rfl) (by kernel_rfl)))
    (by rw [Tryd.params5]) Z Tryd.underlying4 Z zQ (by kernel_rfl) ?_ (fun W=>(pz (uy Tryd.underlying9) (pz (ug Tryd.underlying3) uF))) ?_
  · intro ds hl
    match ds,hl with
    | [d0,d1],_=>rfl
  · intro W x hok
    obtain ⟨a0,a1,_⟩:=x
    obtain ⟨h0,h1,_⟩:=hok
    obtain ⟨K,hK⟩:=law a0 a1
    refine ⟨[],(fI.spec K a0 a1 true hK).mono fun v M h=>h.1,?_⟩
    intro A hA; cases hA
theorem over:Rows.wordsReadsRow.holds Tryd.pinned (OpenSpec.ofChange Rows.wordsReadsSpec) :=
  OpenClaim.holds_of_wide 5 Tryd.f5 Z Z Z Z Z Z Z ⟨rfl,rfl,rfl,rfl,rfl⟩ Z Z Z Z Z (by kernel_rfl) Tryd.func5 (by kernel_rfl)
    (of_decide_eq_true (by kernel_rfl)) (by unfold Func.isWrapper; first | (rw [if_pos (by decide +kernel)]; kernel_rfl) | (rw [if_neg (by decide +kernel)]; exact ⟨rfl,rfl⟩))
    (fun os started H enc _=>Az os started H enc)
end Go.Proofs.YtgbjponaoeiglaaDoor.WordsReads
namespace Go.Proofs.YtgbjponaoeiglaaDoor
theorem oW:Rows.WordsReadsSaid:=WordsReads.over
theorem wordsReads_card:Rows.WordsReadsCardSaid :=
  Claim7.holds_tied_plain_at .later [] [.data, .pinned] true (true, "b77ee56ed04920f15756a714cc39d2cd0ad77dd33cbdc2fd4605aa723c6c965b") true oW (fun _ h => by cases h) (by kernel_rfl) (fun _ h => by cases h) wordsReads_row_tie rfl ⟨rfl, rfl⟩ (by kernel_rfl) rfl
    (fun f fn hf hfn=>by
      obtain rfl : f = 5 := Option.some.inj ((show Tryd.prog.funcNamed "ossuary/ossuarylaw34.WordsReads" = some 5 by kernel_rfl).symm.trans hf) |>.symm
      obtain rfl:fn = Tryd.f5:=(Option.some.inj (Tryd.func5.symm.trans hfn)).symm
      exact ⟨by kernel_rfl,fun j t ht=>by
        rw [Tryd.params5] at ht
        have hm:t ∈ [9,3]:=by simpa using Array.mem_of_getElem? ht
        have hall:([9,3].all fun u=>!Tryd.prog.wantsStandIn u) = true:=by kernel_rfl
        exact (show Tryd.prog.wantsStandIn t = false by simpa using List.all_eq_true.1 hall t hm)⟩)
    (by kernel_rfl)
#print axioms wordsReads_card
end Go.Proofs.YtgbjponaoeiglaaDoor
end
