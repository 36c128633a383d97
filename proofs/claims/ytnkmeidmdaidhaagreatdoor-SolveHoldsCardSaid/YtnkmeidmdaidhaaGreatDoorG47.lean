/- The solver: the budget alone decides whether it ends; the rest is the same. No condition. -/
import Derived.Test.YtnkmeidmdaidhaaGreatDoorG45
set_option linter.unusedSimpArgs false
set_option linter.unusedVariables false
namespace Go.Am
def cL (b:Int) (d:aY):aY:={ d with aD:=b }
section
variable {b:Int} {d:aY} {facts:aN} {cl:List aq}
theorem zxA (i:Nat) (a:ae):bl (cL b d) i a=(cL b (bl d i a).1,(bl d i a).2):=by
 have e:(cL b d).calls=d.calls:=rfl
 unfold bl
 rw [e]
 cases d.calls[i]? with
 |none=>rfl
 |some c =>
  dsimp only
  split <;> rfl
theorem zu9 (r:ba):lI (cL b d) r=cL b (lI d r):=by
 have e:(cL b d).known=d.known:=rfl
 unfold lI
 rw [e]
 split <;> rfl
theorem zi8 (i:Nat) (r:ba):gj (cL b d) i r=cL b (gj d i r):=by
 unfold gj
 rw [zxA]
 dsimp only
 split
 .have e:({ cL b (bl d i r.atom).1 with steps:=(cL b d).steps+1 }:aY)=cL b { (bl d i r.atom).1 with steps:=d.steps+1 }:=rfl
  rw [e,zu9]
  rfl
 .rfl
theorem zva (a:ae):cY (cL b d) a=(cL b (cY d a).1,(cY d a).2):=by
 have e:(cL b d).calls=d.calls:=rfl
 unfold cY
 rw [e]
 split
 .rfl
 .split <;> rfl
theorem znW (i:Nat):∀ (l:aN) (d:aY),jM (cL b d) i l=cL b (jM d i l)
 | [],d=>rfl
 |f::l,d=>by
  show jM (gj (cL b d) i ⟨f,-1,[]⟩) i l=cL b (jM (gj d i ⟨f,-1,[]⟩) i l)
  rw [zi8,znW i l]
theorem Vy (i:Nat) (a:ae):∀ (cs:List aq) (k:Nat) (d:aY),gk (cL b d) i a k cs=cL b (gk d i a k cs)
 | [],k,d=>rfl
 |c::cs,k,d=>by
  rw [gk,gk]
  cases j8 a c.head with
  |none=>exact Vy i a cs (k+1) d
  |some l=>exact Vy i a cs (k+1) (jB d ⟨i,(k:Int),0,l,ah,0,0⟩)
theorem zta (a:ae):aT facts cl (cL b d) a=(cL b (aT facts cl d a).1,(aT facts cl d a).2):=by
 unfold aT
 rw [zva]
 dsimp only
 split
 .rw [znW,Vy]
 .rfl
theorem zvc (i k:Nat):iP (cL b d) i k=cL b (iP d i k):=by
 have e:(cL b d).calls=d.calls:=rfl
 unfold iP
 rw [e]
 cases d.calls[i]? with
 |none=>rfl
 |some c =>
  dsimp only
  split <;> rfl
theorem zvb (k:Nat) (s:dv) (c:aq):dG facts cl (cL b d) k s c=cL b (dG facts cl d k s c):=by
 unfold dG
 split
 .rfl
 .have e:({ cL b d with ab:=(cL b d).ab.set k { s with next:=cB s.l ((c.body[s.taken]?).getD ah) } }:aY)=cL b { d with ab:=d.ab.set k { s with next:=cB s.l ((c.body[s.taken]?).getD ah) } }:=rfl
  dsimp only
  rw [e,zta]
  dsimp only
  obtain ⟨o,ho⟩:∃ o,o=aT facts cl { d with ab:=d.ab.set k { s with next:=cB s.l ((c.body[s.taken]?).getD ah) } } (cB s.l ((c.body[s.taken]?).getD ah)):=⟨_,rfl⟩
  rw [<- ho]
  exact zvc (d:={ o.1 with ab:=o.1.ab.set k { s with next:=cB s.l ((c.body[s.taken]?).getD ah),src:=o.2 } }) o.2 k
theorem ztb (k:Nat) (s:dv) (a:ae):bI k s a (cL b d)=cL b (bI k s a d):=by
 cases h:bz [] s.next a with
 |none=>rw [Gs h,Gs h];rfl
 |some m=>rw [Ew h,Ew h];rfl
theorem zlb (k:Nat):∀ (l:aN) (d:aY),¬ d.aD < ((fH k l d).steps:Int)->¬ b < ((fH k l d).steps:Int)->fH k l (cL b d)=cL b (fH k l d)
 | [],d,h,hb=>rfl
 |a::l,d,h,hb=>by
  have cV:=(xR k (a::l) d).2.1
  have ho:¬ d.aD < (d.steps:Int):=by omega
  have Nr:¬ (cL b d).aD < ((cL b d).steps:Int):=by show ¬ b < (d.steps:Int);omega
  cases hs:d.ab[k]? with
  |none=>rw [xQ hs,xQ (d:=cL b d) hs]
  |some s =>
   rw [tz ho hs] at h hb ⊢
   rw [tz Nr hs,ztb]
   have hk:=(Oh k s a d).2.1
   exact zlb k l (bI k s a d) (by rw [hk];exact h) hb
theorem zoh (facts:aN) (cl:List aq) (d:aY) (k:Nat):d.steps<=(gU facts cl d k).steps/\(gU facts cl d k).aD=d.aD:=by
 have hp:∀ s c,d.steps<=(dG facts cl d k s c).steps/\(dG facts cl d k s c).aD=d.aD:=by
  intro s c
  unfold dG
  split
  .exact ⟨aQ _,rfl⟩
  .dsimp only
   have ho:=BP facts cl { d with ab:=d.ab.set k { s with next:=cB s.l ((c.body[s.taken]?).getD ah) } } (cB s.l ((c.body[s.taken]?).getD ah))
   have hw:=λ(o:aY) (i:Nat)=>BQ o i k
   rw [(hw _ _).2.1,(hw _ _).1]
   exact ⟨ho.2.1,ho.1⟩
 unfold gU
 split
 .split
  .split
   .exact ⟨(tA _ _ _).2.2.2.1,(tA _ _ _).1⟩
   .dsimp only
    split
    .exact ⟨dZ (hp _ _).1 (xR _ _ _).2.1,(xR _ _ _).1.trans (hp _ _).2⟩
    .exact hp _ _
  .exact ⟨aQ _,rfl⟩
 .exact ⟨aQ _,rfl⟩
theorem zzV (k:Nat) (h:¬ d.aD < ((gU facts cl d k).steps:Int)) (hb:¬ b < ((gU facts cl d k).steps:Int)):gU facts cl (cL b d) k=cL b (gU facts cl d k):=by
 have e:(cL b d).ab=d.ab:=rfl
 unfold gU at h hb ⊢
 rw [e]
 cases hs:d.ab[k]? with
 |none=>rfl
 |some s =>
  rw [hs] at h hb
  dsimp only at h hb ⊢
  cases hc:cl[s.clause.toNat]? with
  |none=>rfl
  |some c =>
   rw [hc] at h hb
   dsimp only at h hb ⊢
   by_cases ht:s.taken=c.body.length
   .rw [aB ht,aB ht,zi8]
   .rw [aA ht] at h hb ⊢
    rw [aA ht,zvb]
    have e2:(cL b (dG facts cl d k s c)).ab=(dG facts cl d k s c).ab:=rfl
    have e3:(cL b (dG facts cl d k s c)).calls=(dG facts cl d k s c).calls:=rfl
    have DE:(dG facts cl d k s c).aD=d.aD:=by
     unfold dG
     split
     .rfl
     .dsimp only
      rw [(BQ _ _ k).1]
      exact (BP facts cl _ _).1
    rw [e2,e3]
    cases Jw:(dG facts cl d k s c).ab[k]? with
    |none=>rfl
    |some s4 =>
     rw [Jw] at h hb
     dsimp only at h hb ⊢
     exact zlb k _ _ (by rw [DE];exact h) hb
theorem eT.fN {i:Nat} {d d':aY} (r:eT facts cl i d d'):d.steps<=d'.steps/\d'.aD=d.aD:=by
 induction r with
 |over _=>exact ⟨aQ _,rfl⟩
 |done _ _=>exact ⟨aQ _,rfl⟩
 |@step i k d d' _ _ _ ih =>
  have cV:=zoh facts cl d k
  exact ⟨dZ cV.1 ih.1,ih.2.trans cV.2⟩
theorem eT.more {i:Nat} {d d':aY} (r:eT facts cl i d d'):¬ d'.aD < (d'.steps:Int)->¬ b < (d'.steps:Int)->eT facts cl i (cL b d) (cL b d'):=by
 induction r with
 |over ho=>exact λh _=>absurd ho h
 |@done i d hn hl=>exact λh hb=>.done (by show ¬ b < (d.steps:Int);omega) hl
 |@step i k d d' hn hq r ih =>
  intro h hb
  have hm:=r.fN
  have cV:=zoh facts cl d k
  have h1:=hm.2
  have h2:=cV.2
  have h3:=hm.1
  have h4:=cV.1
  refine .step (by show ¬ b < (d.steps:Int);omega) hq ?_
  rw [zzV k (by rw [h1,h2] at h;omega) (by omega)]
  exact ih h hb
end
end Go.Am
namespace Go.Am
variable {b l m:List av} {σ:aV->ay} {a:ae} {t:ay} {v:aV}
def rI (σ:aV->ay) (l:List av):Prop:=∀ s t,bx l s=(t,true)->σ s=dm σ t
theorem zyw (σ:aV->ay):rI σ []:=λs t h=>by cases h
theorem Lt (h:rI σ l) (t:ay):dm σ (b9 l t)=dm σ t:=by
 unfold b9
 split
 .rename_i hc
  have:=h _ _ (qx hc.1)
  rw [<- this]
  unfold dm
  rw [aB hc.2]
 .rfl
theorem mP.Ee (h:mP σ l) (g:Good l):rI σ l:=λs t e=>by
 rw [h s t e]
 unfold dm
 rw [aA (by rw [(g.get e).1];decide)]
def og (σ:aV->ay) (a:ae):ae :=
 { a with t0:=if 0 < a.bt then dm σ a.t0 else a.t0,t1:=if 1 < a.bt then dm σ a.t1 else a.t1,t2:=if 2 < a.bt then dm σ a.t2 else a.t2,t3:=if 3 < a.bt then dm σ a.t3 else a.t3 }
theorem BW (σ:aV->ay) (a:ae) {i:Nat} (hi:i < 4):(og σ a).arg i=if i < a.bt then dm σ (a.arg i) else a.arg i:=by
 have:i=0\/i=1\/i=2\/i=3:=by omega
 rcases this with rfl|rfl|rfl|rfl <;> rfl
theorem zlv (h:rI σ l) (a:ae):og σ (cB l a)=og σ a:=by
 refine BT rfl rfl rfl (λi hi=>?_)
 rw [BW _ _ hi,BW _ _ hi,zk6,se _ _ hi]
 split
 .exact Lt h _
 .rfl
theorem zvP (h:a.ground=true):og σ a=a:=by
 refine BT rfl rfl rfl (λi hi=>?_)
 rw [BW _ _ hi]
 split
 .rename_i hc
  unfold dm
  rw [aA (by rw [cf.1 h i hc];decide)]
 .rfl
theorem Wp {u:ay}:b9 [⟨v,t⟩] u=if u.v=true/\u.s=v then t else u:=by
 unfold b9
 rw [qq]
 by_cases h:v=u.s
 .subst h
  by_cases hv:u.v=true <;> simp [hv]
 .rw [aA h]
  have h2:¬ u.s=v:=λe=>h e.symm
  simp [h2,zum]
theorem zha (l m:List av) (s:aV):bx (gm l m) s=if (bx l s).2=true then (b9 m (bx l s).1,true) else (bX,false):=by
 induction l with
 |nil=>rfl
 |cons x l ih =>
  show bx (⟨x.var,b9 m x.term⟩::gm l m) s=_
  rw [qq,qq]
  by_cases h:x.var=s
  .simp [h]
  .simp only [h,if_false]
   exact ih
def Fk (l:List av) (t:ay):Prop:=¬ (t.v=true/\(bx l t.s).2=true)
theorem zvL (h:Fk l t):b9 l t=t:=by
 unfold b9
 rw [aA (λe=>h ⟨e.2,e.1⟩)]
theorem Ou (h:dX l) (t:ay):Fk l (b9 l t):=by
 unfold b9
 split
 .rename_i hc
  exact (h.2 _ (Ll (qx hc.1))).2
 .rename_i hc
  exact λe=>hc ⟨e.2,e.1⟩
theorem LZ (h:dX l) (ht:t.s≠⟨#[]⟩):(b9 l t).s≠⟨#[]⟩:=by
 unfold b9
 split
 .rename_i hc
  exact (h.2 _ (Ll (qx hc.1))).1
 .exact ht
theorem zk9 (h:iN l v t=some m):dX l/\(bx l v).2=false/\¬ (b9 l t=⟨true,v⟩)/\m=j9 (gm l [⟨v,b9 l t⟩]) ⟨v,b9 l t⟩/\t.s≠⟨#[]⟩/\v≠⟨#[]⟩:=by
 unfold iN at h
 split at h
 .cases h
 rename_i h1
 split at h
 .cases h
 rename_i h2
 split at h
 .cases h
 rename_i h3
 split at h
 .cases h
 rename_i h4
 cases h
 refine ⟨Classical.not_not.1 h1,by simpa using h3,λe=>h4 ?_,rfl,λe=>h2 (.inr e),λe=>h2 (.inl e)⟩
 rw [e]
 unfold kZ
 simp
theorem V7 (h:iN l v t=some m) (s:aV):bx m s=if v=s then (b9 l t,true) else if (bx l s).2=true then (b9 [⟨v,b9 l t⟩] (bx l s).1,true) else (bX,false):=by
 obtain ⟨h1,h2,h3,rfl,h5⟩:=zk9 h
 rw [Ez (by show (bx (gm l _) v).2=false;rw [Vo];exact h2),zha]
theorem znT (h:iN l v t=some m):dX m:=by
 have hg:=V7 h
 obtain ⟨h1,h2,h3,hm,h5,h6⟩:=zk9 h
 have hu:(bx (gm l [⟨v,b9 l t⟩]) v).2=false:=by rw [Vo];exact h2
 refine ⟨?_,λx hx=>?_⟩
 .rw [hm]
  exact VI (Og h1.1) hu
 .have qW:∀ s,(bx m s).2=true->s=v\/(bx l s).2=true:=by
   intro s hs
   rw [hg] at hs
   split at hs
   .rename_i e;exact .inl e.symm
   .split at hs
    .rename_i e;exact .inr e
    .cases hs
  have ZD:¬ ((b9 l t).v=true/\(bx m (b9 l t).s).2=true):=by
   rintro ⟨e1,e2⟩
   rcases qW _ e2 with e|e
   .apply h3
    generalize b9 l t=y at e e1
    cases y
    simp only at e e1
    rw [e,e1]
   .exact Ou h1 t ⟨e1,e⟩
  rw [hm] at hx
  rcases iZ.1 hx with rfl|hx
  .exact ⟨LZ h1 h5,ZD⟩
  .unfold gm at hx
   obtain ⟨y,hy,rfl⟩:=ph.1 hx
   show (b9 [⟨v,b9 l t⟩] y.term).s≠_/\_
   rw [Wp]
   split
   .exact ⟨LZ h1 h5,ZD⟩
   .rename_i hn
    refine ⟨(h1.2 y hy).1,λe=>?_⟩
    rcases qW _ e.2 with e2|e2
    .exact hn ⟨e.1,e2⟩
    .exact (h1.2 y hy).2 ⟨e.1,e2⟩
theorem zs4 (h:iN l v t=some m) (hr:rI σ l) (hv:σ v=dm σ t):rI σ m:=by
 have ZH:σ v=dm σ (b9 l t):=by rw [Lt hr];exact hv
 intro s u e
 rw [V7 h] at e
 split at e
 .rename_i hs
  cases e
  rw [<- hs]
  exact ZH
 .split at e
  .rename_i hs
   cases e
   rw [Wp]
   have h0:=hr _ _ (qx hs)
   split
   .rename_i hc
    rw [h0,<- ZH,<- hc.2]
    unfold dm
    rw [aB hc.1]
   .exact h0
  .cases e
theorem zu7 (hl:dX l) (hv:v≠⟨#[]⟩) (ht:t.s≠⟨#[]⟩) (hf:(bx l v).2=false) (htf:Fk l t) (aL:t≠⟨true,v⟩):∃ m,iN l v t=some m:=by
 unfold iN
 rw [aA (by simpa using hl),aA (λe=>e.elim hv ht),aA (by rw [hf];decide),aA]
 .exact ⟨_,rfl⟩
 .rw [zvL htf]
  unfold kZ
  simp only [dW,ix]
  rintro ⟨e1,e2⟩
  apply aL
  cases t
  simp only at e1 e2
  rw [e1,e2]
theorem zwP {x y:ay} (hl:dX l) (h:uD l x y=some m):dX m:=by
 unfold uD at h
 split at h
 .cases h;exact hl
 split at h
 .exact znT h
 split at h
 .exact znT h
 .cases h
theorem zzZ:dX []:=di.qR
theorem VY {a b:ae}:∀ {k:Nat} {l:List av},mK a b k=some l->dX l
 |0,l,h=>by cases h;exact zzZ
 |k+1,l,h=>by
  cases ho:mK a b k with
  |none=>rw [F9 (mN k) ho] at h;cases h
  |some o =>
   rw [Ga ho] at h
   exact zwP (VY ho) h
theorem zux {b:ae} (h:j8 a b=some l):dX l:=by
 unfold j8 at h
 split at h
 .exact VY h
 .cases h
theorem zwO {x y:ay} (hl:dX l) (hr:rI σ l) (hx:x.s≠⟨#[]⟩) (hy:y.s≠⟨#[]⟩) (fx:Fk l x) (fy:Fk l y) (e:dm σ x=dm σ y):∃ m,uD l x y=some m/\rI σ m:=by
 have bind:∀ {x y:ay},x.s≠⟨#[]⟩->y.s≠⟨#[]⟩->Fk l x->Fk l y->dm σ x=dm σ y->x≠y->x.v=true->∃ m,iN l x.s y=some m/\rI σ m:=by
  intro x y hx hy fx fy e aL hv
  have hf:(bx l x.s).2=false:=by
   cases h:(bx l x.s).2
   .rfl
   .exact absurd ⟨hv,h⟩ fx
  obtain ⟨m,hm⟩:=zu7 hl hx hy hf fy (λh=>aL (by rw [h];cases x;simp only at hv;rw [hv]))
  refine ⟨m,hm,zs4 hm hr ?_⟩
  rw [<- e]
  unfold dm
  rw [aB hv]
 unfold uD
 split
 .exact ⟨l,rfl,hr⟩
 rename_i aL
 split
 .rename_i hc
  exact bind hx hy fx fy e aL hc.1
 rename_i hc
 split
 .rename_i hv
  exact bind hy hx fy fx e.symm (λh=>aL h.symm) hv
 .rename_i hv
  exfalso
  have ZO:y.v=false:=by simpa using hv
  have hxv:x.v=false:=by
   cases h:x.v
   .rfl
   .exact absurd ⟨h,.inl ZO⟩ hc
  unfold dm at e
  rw [aA (by rw [hxv];decide),aA (by rw [ZO];decide)] at e
  exact aL e
theorem zlG {σ:aV->ay} {a b:ae}:∀ {k:Nat},(∀ i,i < k->(a.arg i).s≠⟨#[]⟩/\(b.arg i).s≠⟨#[]⟩/\dm σ (a.arg i)=dm σ (b.arg i))->∃ l,mK a b k=some l/\rI σ l
 |0,_=>⟨[],rfl,zyw σ⟩
 |k+1,h=>by
  obtain ⟨o,ho,hr⟩:=zlG (k:=k) (λi hi=>h i (Ci hi))
  have hc:=VY ho
  obtain ⟨h1,h2,h3⟩:=h k (nj k)
  obtain ⟨m,hm,rm⟩:=zwO hc hr (LZ hc h1) (LZ hc h2) (Ou hc _) (Ou hc _) (by rw [Lt hr,Lt hr];exact h3)
  exact ⟨m,by rw [Ga ho];exact hm,rm⟩
theorem zuw {b:ae} (ha:kG a b=true) (h:∀ i,i < a.bt->(a.arg i).s≠⟨#[]⟩/\(b.arg i).s≠⟨#[]⟩/\dm σ (a.arg i)=dm σ (b.arg i)):∃ l,j8 a b=some l/\rI σ l:=by
 unfold j8
 rw [aB ha]
 obtain ⟨_,_,_,e4,e5⟩:=bJ.1 ha
 rw [<- L6 e4 e5]
 exact zlG h
theorem zn6 {a b:List av} (hb:lG b b.length):∀ {k:Nat},k<=b.length->∀ s,bx (iO a b k) s=if (bx a s).2=true then (b9 b (bx a s).1,true) else bx (b.take k) s
 |0,_,s=>by
  show bx (gm a b) s=_
  rw [zha]
  split
  .rfl
  .rfl
 |k+1,hk,s=>by
  have hx:b[k]? = some b[k]:=gG (by omega)
  have ih:=zn6 (a:=a) hb (k:=k) (by omega) s
  have kq:b.take (k+1)=b.take k++[b[k]]:=by rw [oT,hx];rfl
  have JE:∀ (l:List av) (x:av),bx (l++[x]) s=if (bx l s).2=true then bx l s else if x.var=s then (x.term,true) else (bX,false):=by
   intro l x
   induction l with
   |nil=>rw [yk,qq];rfl
   |cons y l ihl =>
    rw [rO,qq,qq]
    by_cases hy:y.var=s
    .simp [hy]
    .simp only [hy,if_false];exact ihl
  have oE:∀ (l:List av),(bx l s).2=false->bx l s=(bX,false):=by
   intro l h
   unfold bx at h ⊢
   split
   .rename_i e;rw [e] at h;cases h
   .rfl
  rw [kq,JE]
  cases hg:(bx a b[k].var).2
  .rw [Gh hx hg,Ez (zgD hb hx hg)]
   by_cases hv:b[k].var=s
   .rw [aB hv]
    have h0:(bx a s).2=false:=hv ▸ hg
    rw [aA (by rw [h0];decide)]
    have h1:(bx (b.take k) s).2=false:=by
     cases h2:(bx (b.take k) s).2
     .rfl
     .have hm:=Ll (qx h2)
      obtain ⟨j,hj,e⟩:=tM hm
      rw [gR] at hj
      rw [List.getElem_take] at e
      have bc:=Gx hb (show j < k by omega) (gG (by omega)) hx
      rw [e,hv,Gr] at bc
      cases bc
    rw [aA (by rw [h1];decide),aB hv]
   .rw [aA hv,ih]
    by_cases h0:(bx a s).2=true
    .rw [aB h0,aB h0]
    .rw [aA h0,aA h0,aA hv]
     by_cases h1:(bx (b.take k) s).2=true
     .rw [aB h1]
     .rw [aA h1]
      exact oE _ (by simpa using h1)
  .rw [Gi hx hg,ih]
   by_cases h0:(bx a s).2=true
   .rw [aB h0,aB h0]
   .rw [aA h0,aA h0]
    have hv:¬ b[k].var=s:=λe=>h0 (e ▸ hg)
    rw [aA hv]
    by_cases h1:(bx (b.take k) s).2=true
    .rw [aB h1]
    .rw [aA h1]
     exact oE _ (by simpa using h1)
structure lK (a b c:List av):Prop where
 get:∀ s,bx c s=if (bx a s).2=true then (b9 b (bx a s).1,true) else bx b s
 qR:dX c
theorem zn8 {a:List av} (ha:dX a) (hb:Good b):lK a b (jq a b):=by
 have hg:∀ s,bx (iO a b b.length) s=if (bx a s).2=true then (b9 b (bx a s).1,true) else bx b s:=λs=>by
  rw [zn6 hb.up (aQ _) s,Mf]
 have hr:=VA ha.1 hb.up (aQ b.length)
 have eL:∀ (n:Nat),n<=b.length->∀ x∈iO a b n,(∃ y∈a,x=⟨y.var,b9 b y.term⟩)\/x∈b:=by
  intro n
  induction n with
  |zero =>
   intro _ x hx
   have hx:x∈gm a b:=hx
   unfold gm at hx
   obtain ⟨y,hy,e⟩:=ph.1 hx
   exact .inl ⟨y,hy,e.symm⟩
  |succ n ih =>
   intro hn x hx
   have ZM:b[n]? = some b[n]:=gG (by omega)
   cases hq:(bx a b[n].var).2
   .rw [Gh ZM hq] at hx
    rcases iZ.1 hx with rfl|hx
    .exact .inr (List.getElem_mem _)
    .exact ih (by omega) x hx
   .rw [Gi ZM hq] at hx
    exact ih (by omega) x hx
 have hc:dX (iO a b b.length):=by
  refine ⟨hr,λx hx=>?_⟩
  rcases eL b.length (aQ _) x hx with ⟨y,hy,rfl⟩|Ud
  .obtain ⟨h1,h2⟩:=ha.2 y hy
   have pE:(∃ hh:(bx b y.term.s).2=true/\y.term.v=true,b9 b y.term=(bx b y.term.s).1)\/(¬ ((bx b y.term.s).2=true/\y.term.v=true)/\b9 b y.term=y.term):=by
    unfold b9
    by_cases hh:(bx b y.term.s).2=true/\y.term.v=true
    .exact .inl ⟨hh,aB hh⟩
    .exact .inr ⟨hh,aA hh⟩
   rcases pE with ⟨hh,e⟩|⟨hh,e⟩
   .have Nc:=hb.get (qx hh.1)
    show (b9 b y.term).s≠_/\¬ ((b9 b y.term).v=true/\_)
    rw [e]
    exact ⟨Nc.2,λq=>by rw [Nc.1] at q;cases q.1⟩
   .show (b9 b y.term).s≠_/\¬ ((b9 b y.term).v=true/\(bx _ (b9 b y.term).s).2=true)
    rw [e]
    refine ⟨h1,λq=>?_⟩
    have hn:¬ (bx a y.term.s).2=true:=λq2=>h2 ⟨q.1,q2⟩
    have q2:=q.2
    rw [hg,aA hn] at q2
    exact hh ⟨q2,q.1⟩
  .obtain ⟨h1,h2⟩:=hb.ok x Ud
   exact ⟨h2,λq=>by rw [h1] at q;cases q.1⟩
 have e:jq a b=iO a b b.length:=by
  unfold jq
  rw [aB ha,aB hc]
 rw [e]
 exact ⟨hg,hc⟩
theorem lK.term {a c:List av} (h:lK a b c) (ha:dX a) (hd:∀ s,(bx b s).2=true->(bx a s).2=false) (t:ay):b9 c t=b9 b (b9 a t):=by
 by_cases hv:t.v=true
 .by_cases h0:(bx a t.s).2=true
  .have e1:b9 a t=(bx a t.s).1:=by unfold b9;rw [aB ⟨h0,hv⟩]
   have e2:bx c t.s=(b9 b (bx a t.s).1,true):=by rw [h.get,aB h0]
   rw [e1]
   exact Lb e2 hv
  .have e1:b9 a t=t:=by unfold b9;rw [aA (λq=>h0 q.1)]
   have e2:bx c t.s=bx b t.s:=by rw [h.get,aA h0]
   rw [e1]
   unfold b9
   rw [e2]
 .have hv:t.v=false:=by simpa using hv
  rw [uh hv,uh hv,uh hv]
theorem lK.Ee {a c:List av} (h:lK a b c) (ra:rI σ a) (rb:rI σ b):rI σ c:=by
 intro s t e
 rw [h.get] at e
 split at e
 .rename_i h0
  cases e
  rw [Lt rb]
  exact ra _ _ (qx h0)
 .exact rb s t e
end Go.Am
namespace Go.Am
variable {a g p:ae} {σ:aV->ay} {i:Nat}
inductive nk (F:aN) (C:List aq):ae->Prop
 |fact {a:ae}:a∈F->nk F C a
 |wP {c:aq} (σ:aV->ay):c∈C->(∀ b∈c.body,nk F C (og σ b))->bF (og σ c.head)->nk F C (og σ c.head)
theorem nk.pz {F:aN} {C:List aq} (hF:∀ a∈F,bF a) (h:nk F C a):bF a:=by
 cases h with
 |fact h=>exact hF a h
 |wP σ _ _ h=>exact h
theorem nk.mono {F F2:aN} {C C2:List aq} (hF:∀ a∈F,a∈F2) (hC:∀ c∈C,c∈C2) (h:nk F C a):nk F2 C2 a:=by
 induction h with
 |fact h=>exact .fact (hF _ h)
 |wP σ h _ hx ih=>exact .wP σ (hC _ h) ih hx
structure hZ (a:ae):Prop where
 says:Ao a.says
 pred:Ao a.pred
 lo:0<=a.n
 hi:a.n<=4
 FB:∀ i:Nat,i < a.bt->(a.arg i).v=false->cP (a.arg i).s
 var:∀ i:Nat,i < a.bt->(a.arg i).v=true->(a.arg i).s≠⟨#[]⟩
 rest:∀ i:Nat,a.n<=(i:Int)->i < 4->a.arg i=bX
theorem cP.ne {s:aV} (h:cP s):s≠⟨#[]⟩:=λe=>by
 have hp:=h.1.pos
 rw [e] at hp
 exact absurd hp (by decide)
theorem bm.pre (h:bm a):hZ a:=by
 refine ⟨h.says,h.pred,h.lo,h.hi,λi hi hv=>?_,λi hi hv=>h.var hi hv,h.rest⟩
 have:=h.fG i (bA.1 hi).2
 unfold dQ at this
 rwa [aA (by rw [hv];decide)] at this
theorem hZ.ne {a:ae} (h:hZ a) {i:Nat} (hi:i < a.bt):(a.arg i).s≠⟨#[]⟩:=by
 cases hv:(a.arg i).v
 .exact (h.FB i hi hv).ne
 .exact h.var i hi hv
theorem hZ.canon (h:hZ a):bm (bC a):=by
 refine ⟨h.says,h.pred,h.lo,h.hi,λi hi=>?_,λi hi h4=>?_⟩
 .have hi:(i:Int) < a.n:=hi
  have jH:i < 4:=by have:=h.hi;omega
  have hc:=bA.2 ⟨jH,hi⟩
  rw [Gf a jH,aB hc]
  cases hv:(a.arg i).v
  .rw [N6 hv]
   unfold dQ
   rw [aA (by rw [hv];decide)]
   exact h.FB i hc hv
  .rw [Gk hv]
   unfold dQ
   rw [aB rfl]
   exact zpv (by have:=Ln jH hv;omega)
 .have hi:a.n<=(i:Int):=hi
  rw [Gf a h4,aA (λhc=>by have:=(bA.1 hc).2;omega)]
  exact h.rest i hi h4
def tS (l:List av):Prop:=∀ s t,bx l s=(t,true)->t.v=false->cP t.s
theorem tS.term {l:List av} (h:tS l) {t:ay} (ht:t.v=false->cP t.s):(b9 l t).v=false->cP (b9 l t).s:=by
 unfold b9
 split
 .rename_i hc
  exact h _ _ (qx hc.1)
 .exact ht
theorem hZ.apply (h:hZ a) {l:List av} (hl:dX l) (ht:tS l):hZ (cB l a):=by
 have ha:∀ i,i < a.bt->(cB l a).arg i=b9 l (a.arg i):=λi hi=>by rw [se l a (bA.1 hi).1,aB hi]
 refine ⟨h.says,h.pred,h.lo,h.hi,λi hi=>?_,λi hi hv=>?_,λi hi h4=>?_⟩
 .rw [ha i hi]
  exact ht.term (h.FB i hi)
 .rw [ha i hi]
  exact LZ hl (h.ne hi)
 .have hi:a.n<=(i:Int):=hi
  rw [se l a h4,aA (λhc=>by have:=(bA.1 hc).2;omega)]
  exact h.rest i hi h4
structure Mt (σ:aV->ay) (p g:ae):Prop where
 alike:kG p g=true
 args:∀ i,i < p.bt->dm σ (p.arg i)=g.arg i
theorem Mt.bt {σ:aV->ay} {p g:ae} (h:Mt σ p g):g.bt=p.bt:=by
 obtain ⟨_,_,e3,_,_⟩:=bJ.1 h.alike
 unfold ae.bt
 rw [e3]
theorem Pc (hp:∀ i,i < p.bt->(p.arg i).v=true->(p.arg i).s≠⟨#[]⟩) (hg:bF g) (h:Mt σ p g):∃ m,bz [] p g=some m/\mP σ m :=
 zxP di (zyH σ) h.alike (λi hi=>by
  have:=hg.term (i:=i) (by rw [h.bt];exact hi)
  exact ⟨this.1,this.2.1⟩) hp h.args
theorem zzr {m:List av} (h:bz [] p g=some m):Mt (λs=>(bx m s).1) p g:=by
 obtain ⟨_,_,h3,h4,h5,_⟩:=xU di h
 refine ⟨h3,λi hi=>?_⟩
 obtain ⟨_,_,e3,_,_⟩:=bJ.1 h3
 have hgi:i < g.bt:=by unfold ae.bt at hi ⊢;rw [<- e3];exact hi
 have yR:=cf.1 h4 i hgi
 have e:=h5 i hi
 unfold dm
 split
 .rename_i hv
  show (bx m (p.arg i).s).1=_
  rw [VX e hv yR]
 .rename_i hv
  rw [<- e,uh (by simpa using hv)]
theorem zCz (h0:0<=a.n) (h4:a.n<=4):Mt σ a (og σ a):=by
 refine ⟨bJ.2 ⟨rfl,rfl,rfl,h0,h4⟩,λi hi=>?_⟩
 rw [BW σ a (bA.1 hi).1,aB hi]
theorem zxW {τ:aV->ay} (h:∀ i,i < a.bt->(a.arg i).v=true->σ (a.arg i).s=τ (a.arg i).s):og σ a=og τ a:=by
 refine BT rfl rfl rfl (λi hi=>?_)
 rw [BW _ _ hi,BW _ _ hi]
 split
 .rename_i hc
  unfold dm
  split
  .rename_i hv
   exact h i hc hv
  .rfl
 .rfl
theorem zx8 {τ:aV->ay} (h:∀ i,i < p.bt->(p.arg i).v=true->σ (p.arg i).s=τ (p.arg i).s) (m:Mt σ p g):Mt τ p g:=by
 refine ⟨m.alike,λi hi=>?_⟩
 rw [<- m.args i hi]
 unfold dm
 split
 .rename_i hv
  exact (h i hi hv).symm
 .rfl
theorem WU {s:aV}:∀ {ns:List aV},s∈ns->ns[gP s ns]? = some s
 |x::ns,h=>by
  rw [EA]
  by_cases hx:s=x
  .rw [aB hx,hx];rfl
  .rw [aA hx]
   have:=WU (s:=s) (ns:=ns) (by simpa [hx] using h)
   simpa using this
open Classical in
theorem W2 {a:ae} {s:aV} {i:Nat} (h:s∈cQ a i):∀ (k:Nat),s∈cQ a (i+k)/\gP s (cQ a (i+k))=gP s (cQ a i)
 |0=>⟨h,rfl⟩
 |k+1=>by
  obtain ⟨h1,h2⟩:=W2 h k
  by_cases hc:(a.arg (i+k)).v=true/\(a.arg (i+k)).s ∉ cQ a (i+k)
  .have e:cQ a (i+(k+1))=cQ a (i+k)++[(a.arg (i+k)).s]:=zr0 hc.1 hc.2
   rw [e]
   exact ⟨yg _ h1,(zow h1).trans h2⟩
  .have e:cQ a (i+(k+1))=cQ a (i+k):=by
    show (if (a.arg (i+k)).v=true/\(a.arg (i+k)).s ∉ cQ a (i+k) then _ else _)=_
    rw [aA hc]
    rfl
   rw [e]
   exact ⟨h1,h2⟩
theorem zte {j:Nat} (hi:i < 4) (hj:j < 4) (vi:(a.arg i).v=true) (vj:(a.arg j).v=true) (e:(kJ a i).s=(kJ a j).s):(a.arg i).s=(a.arg j).s:=by
 rw [Gk vi,Gk vj] at e
 have e2:=zxe (by have:=Ln hi vi;omega) (by have:=Ln hj vj;omega) e
 have h1:=W2 (Wx vi) (3 - i)
 have h2:=W2 (Wx vj) (3 - j)
 rw [show i+1+(3 - i)=4 by omega] at h1
 rw [show j+1+(3 - j)=4 by omega] at h2
 have g1:=WU h1.1
 have g2:=WU h2.1
 rw [h1.2,e2] at g1
 rw [h2.2] at g2
 exact Option.some.inj (g1.symm.trans g2)
open Classical in
theorem Mt.canon (h:Mt σ a g):∃ τ,Mt τ (bC a) g:=by
 let τ:aV->ay:=λs=>if h:∃ i,i < a.bt/\(a.arg i).v=true/\(kJ a i).s=s then σ (a.arg (Classical.choose h)).s else bX
 refine ⟨τ,h.alike,λi hi=>?_⟩
 have hi:i < a.bt:=hi
 have jH:=(bA.1 hi).1
 rw [Gf a jH,aB hi,<- h.args i hi]
 cases hv:(a.arg i).v
 .rw [N6 hv]
  unfold dm
  rw [aA (by rw [hv];decide),aA (by rw [hv];decide)]
 .have e:dm τ (kJ a i)=τ (kJ a i).s:=by
   unfold dm
   rw [Gk hv]
   rfl
  rw [e]
  have hx:∃ j,j < a.bt/\(a.arg j).v=true/\(kJ a j).s=(kJ a i).s:=⟨i,hi,hv,rfl⟩
  have e2:τ (kJ a i).s=σ (a.arg (Classical.choose hx)).s:=dif_pos hx
  obtain ⟨c1,c2,c3⟩:=Classical.choose_spec hx
  rw [e2,zte (bA.1 c1).1 jH c2 hv c3]
  unfold dm
  rw [aB hv]
def Hc (q:ae):Prop:=∀ i,i < q.bt->(q.arg i).v=true->∃ n,n < 4/\(q.arg i).s=rL n
theorem ztd (a:ae):Hc (bC a):=by
 intro i hi hv
 have hi:i < a.bt:=hi
 have jH:=(bA.1 hi).1
 rw [Gf a jH,aB hi] at hv ⊢
 cases h:(a.arg i).v
 .rw [N6 h,h] at hv;cases hv
 .rw [Gk h]
  exact ⟨_,Ln jH h,rfl⟩
def Pt (a:ae):Prop:=∀ i,i < a.bt->(a.arg i).v=true->∀ n,(a.arg i).s≠rL n
structure rP (c:aq):Prop where
 head:hZ c.head/\Pt c.head
 body:∀ b∈c.body,hZ b/\Pt b
 mj:∀ x,qE c.head x->∃ b∈c.body,qE b x
theorem EU (a:ae) (hi:i < 4):(fp a).arg i=if i < a.bt then jj a i else a.arg i:=zv6 _ a hi
theorem GK (h:(a.arg i).v=true):jj a i=⟨true,(a.arg i).s++⟨#[35,49]⟩⟩:=by
 unfold jj
 rw [aB h]
theorem O5 (h:(a.arg i).v=false):jj a i=a.arg i:=by
 unfold jj
 rw [aA (by rw [h];decide)]
theorem zsl (h:bm a):hZ (fp a)/\Pt (fp a):=by
 have hp:=h.pre
 have dV:∀ (s:aV),(s++(⟨#[35,49]⟩:aV)).size=s.size+2:=λs=>by rw [ByteArray.size_append];rfl
 have key:∀ i,i < a.bt->(a.arg i).v=true->3<=((a.arg i).s++(⟨#[35,49]⟩:aV)).size:=by
  intro i hi hv
  rw [dV]
  have:=h.fG i (bA.1 hi).2
  unfold dQ at this
  rw [aB hv] at this
  have:=this.pos
  omega
 refine ⟨⟨h.says,h.pred,h.lo,h.hi,λi hi hv=>?_,λi hi hv=>?_,λi hi h4=>?_⟩,λi hi hv n=>?_⟩
 .have hi:i < a.bt:=hi
  rw [EU a (bA.1 hi).1,aB hi] at hv ⊢
  cases hq:(a.arg i).v
  .rw [O5 hq];exact hp.FB i hi hq
  .rw [GK hq] at hv;cases hv
 .have hi:i < a.bt:=hi
  rw [EU a (bA.1 hi).1,aB hi] at hv ⊢
  cases hq:(a.arg i).v
  .rw [O5 hq,hq] at hv;cases hv
  .rw [GK hq]
   intro e
   have:=key i hi hq
   change (a.arg i).s++(⟨#[35,49]⟩:aV)=⟨#[]⟩ at e
   rw [e] at this
   exact absurd this (by decide)
 .have hi:a.n<=(i:Int):=hi
  rw [EU a h4,aA (λhc=>by have:=(bA.1 hc).2;omega)]
  exact h.rest i hi h4
 .have hi:i < a.bt:=hi
  rw [EU a (bA.1 hi).1,aB hi] at hv ⊢
  cases hq:(a.arg i).v
  .rw [O5 hq,hq] at hv;cases hv
  .rw [GK hq]
   intro e
   have:=key i hi hq
   change (a.arg i).s++(⟨#[35,49]⟩:aV)=rL n at e
   rw [e,Oi] at this
   omega
theorem zsm (a:ae) (x:aV):qE (fp a) x↔∃ y,qE a y/\x=y++⟨#[35,49]⟩:=by
 constructor
 .rintro ⟨i,h4,hn,hv,rfl⟩
  have hc:i < a.bt:=bA.2 ⟨h4,hn⟩
  rw [EU a h4,aB hc] at hv ⊢
  cases hq:(a.arg i).v
  .rw [O5 hq,hq] at hv;cases hv
  .rw [GK hq]
   exact ⟨_,⟨i,h4,hn,hq,rfl⟩,rfl⟩
 .rintro ⟨y,⟨i,h4,hn,hv,rfl⟩,rfl⟩
  have hc:i < a.bt:=bA.2 ⟨h4,hn⟩
  refine ⟨i,h4,hn,?_,?_⟩
  .rw [EU a h4,aB hc,GK hv]
  .rw [EU a h4,aB hc,GK hv]
theorem nV.cl {c:aq} (h:nV c):rP (eY c):=by
 refine ⟨zsl h.head,λb hb=>?_,λx hx=>?_⟩
 .obtain ⟨b0,h0,rfl⟩:=ph.1 hb
  exact zsl (h.body b0 h0)
 .obtain ⟨y,hy,rfl⟩:=(zsm _ _).1 hx
  obtain ⟨b,hb,hyb⟩:=h.mj y hy
  exact ⟨fp b,ph.2 ⟨b,hb,rfl⟩,(zsm _ _).2 ⟨y,hyb,rfl⟩⟩
end Go.Am
namespace Go.Am
variable {l m:List av} {a g p:ae}
theorem zBN:tS []:=λs t h=>by cases h
theorem zrx {v:aV} {t:ay} (h:iN l v t=some m) (hl:tS l) (ht:t.v=false->cP t.s):tS m:=by
 have h1:(b9 l t).v=false->cP (b9 l t).s:=hl.term ht
 intro s u e
 rw [V7 h] at e
 split at e
 .cases e;exact h1
 .split at e
  .rename_i hs
   cases e
   rw [Wp]
   split
   .exact h1
   .exact hl _ _ (qx hs)
  .cases e
theorem zyE {x y:ay} (hl:tS l) (hx:x.v=false->cP x.s) (hy:y.v=false->cP y.s) (h:uD l x y=some m):tS m:=by
 unfold uD at h
 split at h
 .cases h;exact hl
 split at h
 .exact zrx h hl hy
 split at h
 .exact zrx h hl hx
 .cases h
theorem zpr {a b:ae}:∀ {k:Nat} {l:List av},(∀ i,i < k->((a.arg i).v=false->cP (a.arg i).s)/\((b.arg i).v=false->cP (b.arg i).s))->mK a b k=some l->tS l
 |0,l,_,h=>by cases h;exact zBN
 |k+1,l,hc,h=>by
  cases ho:mK a b k with
  |none=>rw [F9 (mN k) ho] at h;cases h
  |some o =>
   rw [Ga ho] at h
   have hl:=zpr (λi hi=>hc i (Ci hi)) ho
   obtain ⟨h1,h2⟩:=hc k (nj k)
   exact zyE hl (hl.term h1) (hl.term h2) h
theorem zw9 {b:ae} (ha:hZ a) (hb:hZ b) (h:j8 a b=some l):tS l:=by
 unfold j8 at h
 split at h
 .rename_i mT
  obtain ⟨_,_,e3,e4,e5⟩:=bJ.1 mT
  rw [<- L6 e4 e5] at h
  have Sp:b.bt=a.bt:=by unfold ae.bt;rw [e3]
  exact zpr (λi hi=>⟨ha.FB i hi,hb.FB i (by rw [Sp];exact hi)⟩) h
 .cases h
theorem zvv (hp:hZ p) (hg:bF g) (h:bz [] p g=some m):cB m p=g:=by
 obtain ⟨_,_,h3,h4,h5,_⟩:=xU di h
 obtain ⟨e1,e2,e3,_,_⟩:=bJ.1 h3
 refine BT e1 e2 e3 (λi hi=>?_)
 rw [se m p hi]
 by_cases hc:i < p.bt
 .rw [aB hc];exact h5 i hc
 .rw [aA hc]
  have hn:p.n<=(i:Int):=by have:=mt (λq=>bA.2 ⟨hi,q⟩) hc;omega
  rw [hp.rest i hn hi,hg.valid.rest i (by rw [<- e3];exact hn) hi]
theorem zze (hg:bF g) (h:bz [] p g=some m):tS m:=by
 obtain ⟨_,_,h3,h4,h5,h6⟩:=xU di h
 obtain ⟨_,_,e3,_,_⟩:=bJ.1 h3
 intro s t e _
 rcases h6 s t e with q|⟨i,hi,_,_,rfl⟩
 .cases q
 .exact (hg.term (i:=i) (by unfold ae.bt at hi ⊢;rw [<- e3];exact hi)).2.2
theorem zz8 {b:ae} (hl:dX l) (hp:p=cB l b) (h:bz [] p g=some m):∀ s,(bx m s).2=true->(bx l s).2=false:=by
 intro s hs
 obtain ⟨_,_,_,_,_,h6⟩:=xU di h
 rcases h6 s _ (qx hs) with q|⟨i,hi,hv,e,_⟩
 .exact Bool.noConfusion (show false=true from congrArg Prod.snd q)
 .have hb:i < b.bt:=by rw [hp] at hi;exact hi
  have ha:p.arg i=b9 l (b.arg i):=by rw [hp,se l b (bA.1 hb).1,aB hb]
  have hf:=Ou hl (b.arg i)
  rw [<- ha] at hf
  rw [<- e]
  cases hq:(bx l (p.arg i).s).2
  .rfl
  .exact absurd ⟨hv,hq⟩ hf
theorem lK.apply {a b c:List av} (h:lK a b c) (ha:dX a) (hd:∀ s,(bx b s).2=true->(bx a s).2=false) (x:ae):cB c x=cB b (cB a x):=by
 refine BT rfl rfl rfl (λi hi=>?_)
 rw [se _ _ hi,se _ _ hi,zk6,se _ _ hi]
 by_cases hc:i < x.bt
 .rw [aB hc,aB hc,aB hc]
  exact h.term ha hd _
 .rw [aA hc,aA hc,aA hc]
theorem znO (h:a.ground=true):cB m a=a:=by
 refine BT rfl rfl rfl (λi hi=>?_)
 rw [se _ _ hi]
 split
 .rename_i hc
  exact uh (cf.1 h i hc)
 .rfl
theorem zvO (l:List av) (a:ae):og (λs=>b9 l ⟨true,s⟩) a=cB l a:=by
 refine BT rfl rfl rfl (λi hi=>?_)
 rw [BW _ _ hi,se _ _ hi]
 split
 .unfold dm
  split
  .rename_i hv
   have:(⟨true,(a.arg i).s⟩:ay)=a.arg i:=by generalize a.arg i=t at hv;cases t;simp only at hv;rw [hv]
   show b9 l ⟨true,(a.arg i).s⟩=_
   rw [this]
  .rename_i hv
   rw [uh (by simpa using hv)]
 .rfl
structure lN (F:aN) (C:List aq) (s:dv):Prop where
 qR:dX s.l
 tm:tS s.l
 cl:∃ (j:Nat) (c:aq),s.clause=(j:Int)/\C[j]? = some c/\s.taken<=c.body.length/\(∀ (i:Nat) b,i < s.taken->c.body[i]? = some b->nk F C (cB s.l b))/\(s.next.pred≠⟨#[]⟩->∃ b,c.body[s.taken]? = some b/\s.next=cB s.l b)
structure ft (F:aN) (C:List aq) (d:aY):Prop where
 st:∀ (k:Nat) s,d.ab[k]? = some s->lN F C s
 an:∀ c∈d.calls,∀ a∈c.answers,nk F C a
 at_:∀ c∈d.calls,Hc c.atom/\hZ c.atom
section
variable {F:aN} {C:List aq} {d:aY}
theorem lN.from {s s':dv} (h:lN F C s) (e1:s'.l=s.l) (e2:s'.taken=s.taken) (e3:s'.clause=s.clause) (e4:s'.next=s.next):lN F C s':=by
 obtain ⟨h1,h2,h3⟩:=h
 exact ⟨e1 ▸ h1,e1 ▸ h2,by rw [e1,e2,e3,e4];exact h3⟩
theorem ft.add (h:ft F C d) (i:Nat) (ha:bF a->nk F C a):ft F C (bl d i a).1:=by
 have hs:=(Gj d i a).2.2.1
 refine ⟨λk s hk=>h.st k s (hs ▸ hk),λc hc x hx=>?_,λc hc=>?_⟩
 .unfold bl at hc
  split at hc
  .rename_i c0 jn
   split at hc
   .exact h.an c hc x hx
   .rename_i hn
    rcases yd hc with hc|rfl
    .exact h.an c hc x hx
    .rcases iT.1 hx with hx|hx
     .exact h.an c0 (ek jn) x hx
     .rw [eM.1 hx]
      refine ha ⟨?_,?_⟩
      .exact Classical.not_not.1 λhv=>hn (.inr (.inl hv))
      .cases he:bz [] c0.atom a with
       |none=>exact absurd (.inl (by rw [he];rfl)) hn
       |some m=>exact (xU di he).2.2.2.1
  .exact h.an c hc x hx
 .unfold bl at hc
  split at hc
  .rename_i c0 jn
   split at hc
   .exact h.at_ c hc
   .rcases yd hc with hc|rfl
    .exact h.at_ c hc
    .exact h.at_ c0 (ek jn)
  .exact h.at_ c hc
theorem ft.answer (h:ft F C d) (i:Nat) {r:ba} (ha:bF r.atom->nk F C r.atom):ft F C (gj d i r):=by
 have h2:=h.add i ha
 have hk:=tA d i r
 refine ⟨λk s hs=>h.st k s (by rw [F4] at hs;exact hs),?_,?_⟩
 .rw [hk.2.1];exact h2.an
 .rw [hk.2.1];exact h2.at_
theorem ft.begin (h:ft F C d) {s:dv} (hs:lN F C s):ft F C (jB d s):=by
 refine ⟨λk t ht=>?_,h.an,h.at_⟩
 change (d.ab++[s])[k]? = some t at ht
 by_cases hk:k < d.ab.length
 .rw [jC hk] at ht
  exact h.st k t ht
 .have hl:=ao ht
  rw [cT,jk] at hl
  rw [lj (by omega),show k - d.ab.length=0 by omega] at ht
  cases ht
  exact hs
theorem ft.open (h:ft F C d) (a:ae):ft F C (cY d a).1:=by
 unfold cY
 split
 .exact h
 .rename_i hv
  split
  .exact h
  .refine ⟨h.st,λc hc=>?_,λc hc=>?_⟩
   .rcases iT.1 hc with hc|hc
    .exact h.an c hc
    .rw [eM.1 hc];nofun
   .rcases iT.1 hc with hc|hc
    .exact h.at_ c hc
    .rw [eM.1 hc]
     exact ⟨ztd a,(xP (Classical.not_not.1 hv)).pre⟩
theorem ft.iI (i:Nat):∀ (l:aN) {d:aY},ft F C d->(∀ f∈l,f∈F)->ft F C (jM d i l)
 | [],d,h,_=>h
 |f::l,d,h,hl=>ft.iI i l (h.answer i (r:=⟨f,-1,[]⟩) (λ_=>.fact (hl f (by simp)))) (λx hx=>hl x (by simp [hx]))
theorem ft.dr (i:Nat) {q:ae} (hq:hZ q) (hC:∀ c∈C,rP c):∀ (cs:List aq) (k:Nat) {d:aY},ft F C d->(∀ (j:Nat) c,cs[j]? = some c->C[k+j]? = some c)->ft F C (gk d i q k cs)
 | [],k,d,h,_=>h
 |c::cs,k,d,h,hc=>by
  rw [gk]
  have h0:C[k]? = some c:=by simpa using hc 0 c (by simp)
  have dO:∀ (j:Nat) c',cs[j]? = some c'->C[k+1+j]? = some c':=λj c' hj=>by
   have:=hc (j+1) c' (by simpa using hj)
   rwa [show k+(j+1)=k+1+j by omega] at this
  cases hu:j8 q c.head with
  |none=>exact ft.dr i hq hC cs (k+1) h dO
  |some l =>
   refine ft.dr i hq hC cs (k+1) (h.begin ⟨zux hu,zw9 hq (hC c (ek h0)).head.1 hu,k,c,rfl,h0,jl _,λi b hi _=>absurd hi (uH _),λhn=>absurd rfl hn⟩) dO
theorem ft.aT (h:ft F C d) (hC:∀ c∈C,rP c) (a:ae):ft F C (aT F C d a).1:=by
 have ho:=h.open (bC a)
 unfold Am.aT
 split
 .rename_i hn
  have hf:∀ f∈fB (bC (bC a)) F,f∈F:=λf hf=>(List.mem_filter.1 hf).1
  have hv:bm (bC a):=by
   refine Classical.not_not.1 λhv=>?_
   rw [zoX hv] at hn
   cases hn
  exact ft.dr _ (xP hv).pre hC C 0 (ft.iI _ _ ho hf) (λj c hj=>by rw [i5];exact hj)
 .exact ho
theorem ft.state (h:ft F C d) (k:Nat) {s:dv} (hs:lN F C s):ft F C { d with ab:=d.ab.set k s }:=by
 refine ⟨λj t ht=>?_,h.an,h.at_⟩
 change (d.ab.set k s)[j]? = some t at ht
 by_cases hj:j=k
 .subst hj
  have hl:=ao ht
  rw [iS] at hl
  rw [mz hl] at ht
  cases ht
  exact hs
 .rw [yf (λq=>hj q.symm)] at ht
  exact h.st j t ht
theorem ft.wait (h:ft F C d) (i k:Nat):ft F C (iP d i k):=by
 unfold iP
 split
 .rename_i c hc
  have hm:=ek hc
  split
  .exact h
  .refine ⟨h.st,λc' dO=>?_,λc' dO=>?_⟩
   .rcases yd dO with dO|rfl
    .exact h.an c' dO
    .exact h.an c hm
   .rcases yd dO with dO|rfl
    .exact h.at_ c' dO
    .exact h.at_ c hm
 .exact h
theorem ft.zC (h:ft F C d) (hC:∀ c∈C,rP c) {k:Nat} {s:dv} (hs:d.ab[k]? = some s) {j:Nat} {c:aq} (hj:s.clause=(j:Int)) (hc:C[j]? = some c) (ht:s.taken < c.body.length):ft F C (dG F C d k s c):=by
 unfold dG
 split
 .exact h
 .dsimp only
  obtain ⟨b,hb⟩:=nM ht
  have e:(c.body[s.taken]?).getD ah=b:=by rw [hb];rfl
  rw [e]
  have h0:=h.st k s hs
  have hS:∀ (n:Nat),lN F C { s with next:=cB s.l b,src:=n }:=λn=>by
   obtain ⟨j',c',e1,e2,e3,e4,e5⟩:=h0.cl
   rw [hj] at e1
   obtain rfl:j=j':=by omega
   rw [hc] at e2
   cases e2
   exact ⟨h0.qR,h0.tm,j,c,hj,hc,e3,e4,λ_=>⟨b,hb,rfl⟩⟩
  refine ft.wait ?_ _ _
  refine ft.state (ft.aT (ft.state h k (s:={ s with next:=cB s.l b }) (hS s.src)) hC _) k (hS _)
theorem lN.next (hF:∀ a∈F,bF a) (hC:∀ c∈C,rP c) {s:dv} (h0:lN F C s) (hb:s.next.pred≠⟨#[]⟩) {a:ae} (ha:nk F C a) {m:List av} (hx:bz [] s.next a=some m):lN F C ⟨s.call,s.clause,s.taken+1,jq s.l m,ah,0,0⟩:=by
 obtain ⟨j,c,e1,e2,e3,e4,e5⟩:=h0.cl
 obtain ⟨b,oo,ic⟩:=e5 hb
 have kQ:=(hC c (ek e2)).body b (ek oo)
 have sT:=ha.pz hF
 have hg:=(xU di hx).1
 have cx:=zn8 h0.qR hg
 have hd:=zz8 h0.qR ic hx
 refine ⟨cx.qR,λs' t e hv=>?_,j,c,e1,e2,ao oo,λi b' hi lB=>?_,λhn=>absurd rfl hn⟩
 .rw [cx.get] at e
  split at e
  .rename_i h1
   cases e
   exact (zze sT hx).term (h0.tm _ _ (qx h1)) hv
  .exact zze sT hx _ _ e hv
 .show nk F C (cB (jq s.l m) b')
  rw [cx.apply h0.qR hd]
  have hi:i < s.taken+1:=hi
  by_cases vF:i=s.taken
  .subst vF
   rw [oo] at lB
   cases lB
   rw [<- ic,zvv (by rw [ic];exact kQ.1.apply h0.qR h0.tm) sT hx]
   exact ha
  .have h1:=e4 i b' (by omega) lB
   rw [znO (h1.pz hF).ground]
   exact h1
theorem ft.turns (hF:∀ a∈F,bF a) (hC:∀ c∈C,rP c) (k:Nat):∀ (l:aN) {d:aY} {s:dv},ft F C d->d.ab[k]? = some s->s.next.pred≠⟨#[]⟩->(∀ a∈l,nk F C a)->ft F C (fH k l d)
 | [],d,s,h,hs,hb,hl=>h
 |a::l,d,s,h,hs,hb,hl=>by
  by_cases ho:d.aD < (d.steps:Int)
  .rw [wX ho];exact h
  .rw [tz ho hs]
   have h0:=h.st k s hs
   refine ft.turns hF hC k l ?_ (Ox hs) hb (λx hx=>hl x (by simp [hx]))
   cases hx:bz [] s.next a with
   |none=>rw [Gs hx];exact h.state k (h0.from rfl rfl rfl rfl)
   |some m=>rw [Ew hx];exact ft.state (h.begin (h0.next hF hC hb (hl a (by simp)) hx)) k (h0.from rfl rfl rfl rfl)
theorem zxF {s:dv} (h0:lN F C s) {j:Nat} {c:aq} (hj:s.clause=(j:Int)) (hc:C[j]? = some c) (ht:s.taken=c.body.length):bF (qD c s).atom->nk F C (qD c s).atom:=by
 intro hx
 obtain ⟨j',c',e1,e2,e3,e4,e5⟩:=h0.cl
 rw [hj] at e1
 obtain rfl:j=j':=by omega
 rw [hc] at e2
 cases e2
 have e:(qD c s).atom=og (λv=>b9 s.l ⟨true,v⟩) c.head:=(zvO s.l c.head).symm
 rw [e] at hx ⊢
 refine .wP _ (ek hc) (λb hb=>?_) hx
 rw [zvO]
 obtain ⟨i,hi,rfl⟩:=tM hb
 exact e4 i _ (by omega) (gG hi)
end
end Go.Am
namespace Go.Am
variable {k:Nat}
def fe (i:Nat) (d:aY) (k:Nat):Prop:=∃ j,i<=j/\d.queue[j]? = some k
theorem fe.mono {i j:Nat} {d:aY} (h:fe i d k) (hj:j<=i):fe j d k:=by obtain ⟨n,h1,h2⟩:=h;exact ⟨n,by omega,h2⟩
theorem fe.app {i:Nat} {d d':aY} (h:fe i d k) {l:List Nat} (e:d'.queue=d.queue++l):fe i d' k:=by
 obtain ⟨n,h1,h2⟩:=h
 exact ⟨n,h1,by rw [e,jC (ao h2)];exact h2⟩
theorem zsj {d d':aY} {l:List Nat} (e:d'.queue=d.queue++l) (hk:k∈l):fe d.queue.length d' k:=by
 obtain ⟨n,hn,rfl⟩:=tM hk
 exact ⟨d.queue.length+n,by omega,by rw [e,lj (by omega),LH];exact gG hn⟩
structure eC (s s':dv):Prop where
 call:s'.call=s.call
 clause:s'.clause=s.clause
 taken:s'.taken=s.taken
 l:s'.l=s.l
theorem eC.refl (s:dv):eC s s:=⟨rfl,rfl,rfl,rfl⟩
theorem eC.trans {a b c:dv} (h:eC a b) (g:eC b c):eC a c:=⟨g.call.trans h.call,g.clause.trans h.clause,g.taken.trans h.taken,g.l.trans h.l⟩
structure bn (x:Nat->Prop) (d d':aY):Prop where
 st:∀ (k:Nat) s,d.ab[k]? = some s->∃ s',d'.ab[k]? = some s'/\eC s s'/\(¬ x k->s'=s)
 ns:∀ (k:Nat) s,d.ab.length<=k->d'.ab[k]? = some s->s.next.pred=⟨#[]⟩/\s.seen=0
 ca:∀ (i:Nat) c,d.calls[i]? = some c->∃ c',d'.calls[i]? = some c'/\c'.atom=c.atom/\(∃ l,c'.answers=c.answers++l/\(l=[]\/∀ k∈c.waiters,fe d.queue.length d' k))/\∀ k∈c.waiters,k∈c'.waiters
 qu:∃ l,d'.queue=d.queue++l
 nw:∀ k,d.ab.length<=k->k < d'.ab.length->fe d.queue.length d' k
section
variable {x:Nat->Prop} {d d' YH:aY}
theorem bn.refl (x:Nat->Prop) (d:aY):bn x d d :=
 ⟨λk s h=>⟨s,h,eC.refl s,λ_=>rfl⟩,λk s h g=>absurd (ao g) (by omega),λi c h=>⟨c,h,rfl,⟨[],by simp,.inl rfl⟩,λ_ h=>h⟩,⟨[],by simp⟩,λk h g=>absurd g (by omega)⟩
theorem bn.len (h:bn x d d'):d.ab.length<=d'.ab.length:=by
 refine Nat.le_of_not_lt λhh=>?_
 obtain ⟨s,hs⟩:=nM hh
 obtain ⟨s',h1,_⟩:=h.st _ s hs
 exact absurd (ao h1) (by omega)
theorem bn.Kd (h:bn x d d'):d.queue.length<=d'.queue.length:=by
 obtain ⟨l,e⟩:=h.qu
 rw [e,cT]
 omega
theorem bn.mono {y:Nat->Prop} (h:bn x d d') (cN:∀ k,x k->y k):bn y d d' :=
 ⟨λk s hs=>by obtain ⟨s',h1,h2,h3⟩:=h.st k s hs;exact ⟨s',h1,h2,λhn=>h3 (λhx=>hn (cN k hx))⟩,h.ns,h.ca,h.qu,h.nw⟩
theorem bn.trans (h:bn x d d') (g:bn x d' YH) (hx:∀ k,x k->k < d.ab.length):bn x d YH:=by
 obtain ⟨l1,e1⟩:=h.qu
 obtain ⟨l2,e2⟩:=g.qu
 refine ⟨λk s hs=>?_,λk s hk hs=>?_,λi c hc=>?_,⟨l1++l2,by rw [e2,e1,sE]⟩,λk hk kD=>?_⟩
 .obtain ⟨s1,a1,a2,a3⟩:=h.st k s hs
  obtain ⟨s2,b1,b2,b3⟩:=g.st k s1 a1
  exact ⟨s2,b1,a2.trans b2,λhn=>(b3 hn).trans (a3 hn)⟩
 .by_cases kD:k < d'.ab.length
  .obtain ⟨s1,jo⟩:=nM kD
   obtain ⟨s2,b1,b2,b3⟩:=g.st k s1 jo
   have e:s2=s:=Option.some.inj (b1.symm.trans hs)
   have e3:=b3 (λhh=>absurd (hx k hh) (by omega))
   rw [<- e,e3]
   exact h.ns k s1 hk jo
  .exact g.ns k s (by omega) hs
 .obtain ⟨c1,a1,a2,⟨m1,a3,a4⟩,a5⟩:=h.ca i c hc
  obtain ⟨c2,b1,b2,⟨m2,b3,b4⟩,b5⟩:=g.ca i c1 a1
  refine ⟨c2,b1,b2.trans a2,⟨m1++m2,by rw [b3,a3,sE],?_⟩,λk hk=>b5 k (a5 k hk)⟩
  rcases b4 with rfl|b4
  .rcases a4 with rfl|a4
   .exact .inl rfl
   .exact .inr λk hk=>(a4 k hk).app e2
  .exact .inr λk hk=>(b4 k (a5 k hk)).mono h.Kd
 .by_cases pJ:k < d'.ab.length
  .exact (h.nw k hk pJ).app e2
  .exact (g.nw k (by omega) kD).mono h.Kd
theorem bn.begin (x:Nat->Prop) (d:aY) {s:dv} (h1:s.next.pred=⟨#[]⟩) (h2:s.seen=0):bn x d (jB d s):=by
 have hq:(jB d s).queue=d.queue++[d.ab.length]:=rfl
 have cV:(jB d s).ab=d.ab++[s]:=rfl
 refine ⟨λk t ht=>⟨t,?_,eC.refl t,λ_=>rfl⟩,λk t hk ht=>?_,λi c hc=>⟨c,hc,rfl,⟨[],by simp,.inl rfl⟩,λ_ h=>h⟩,⟨_,hq⟩,λk hk kD=>?_⟩
 .rw [cV,jC (ao ht)];exact ht
 .have hl:=ao ht
  rw [cV,cT,jk] at hl
  rw [cV,lj hk,show k - d.ab.length=0 by omega] at ht
  cases ht
  exact ⟨h1,h2⟩
 .rw [cV,cT,jk] at kD
  refine zsj hq ?_
  rw [eM]
  omega
theorem bn.answer (x:Nat->Prop) (d:aY) (i:Nat) (r:ba):bn x d (gj d i r):=by
 obtain ⟨k1,k2,k3,k4,k5⟩:=tA d i r
 have cV:=F4 d i r
 refine ⟨λk t ht=>⟨t,by rw [cV];exact ht,eC.refl t,λ_=>rfl⟩,λk t hk ht=>?_,λj c hc=>?_,⟨_,k5⟩,λk hk kD=>?_⟩
 .rw [cV] at ht
  exact absurd (ao ht) (by omega)
 .by_cases hn:(bl d i r.atom).2=true
  .rw [aB hn] at k5
   have pE:∃ c0,d.calls[i]? = some c0/\(bl d i r.atom).1.calls=d.calls.set i { c0 with answers:=c0.answers++[r.atom] }:=by
    unfold bl at hn ⊢
    cases h0:d.calls[i]? with
    |none=>rw [h0] at hn;cases hn
    |some c0 =>
     rw [h0] at hn
     dsimp only at hn ⊢
     split at hn
     .cases hn
     .rename_i hq
      rw [aA hq]
      exact ⟨c0,rfl,rfl⟩
   obtain ⟨c0,h0,e0⟩:=pE
   rw [k2,e0]
   by_cases hj:j=i
   .subst hj
    rw [h0] at hc
    cases hc
    refine ⟨_,mz (ao h0),rfl,⟨[r.atom],rfl,.inr λk hk=>zsj k5 ?_⟩,λk hk=>hk⟩
    rw [e0,mz (ao h0)]
    exact hk
   .exact ⟨c,by rw [yf (λq=>hj q.symm)];exact hc,rfl,⟨[],by simp,.inl rfl⟩,λ_ h=>h⟩
  .have e0:(bl d i r.atom).1.calls=d.calls:=by
    have hn:(bl d i r.atom).2=false:=by simpa using hn
    unfold bl at hn ⊢
    cases h0:d.calls[i]? with
    |none=>rfl
    |some c0 =>
     rw [h0] at hn
     dsimp only at hn ⊢
     split at hn
     .rename_i hq
      rw [aB hq]
     .cases hn
   rw [k2,e0]
   exact ⟨c,hc,rfl,⟨[],by simp,.inl rfl⟩,λ_ h=>h⟩
 .rw [cV] at kD
  exact absurd kD (by omega)
theorem bn.open (x:Nat->Prop) (d:aY) (a:ae):bn x d (cY d a).1:=by
 unfold cY
 split
 .exact bn.refl x d
 split
 .exact bn.refl x d
 .refine ⟨λk t ht=>⟨t,ht,eC.refl t,λ_=>rfl⟩,λk t hk ht=>absurd (ao ht) (by have hk:d.ab.length<=k:=hk;show ¬ k < d.ab.length;omega),λi c hc=>⟨c,?_,rfl,⟨[],by simp,.inl rfl⟩,λ_ h=>h⟩,⟨[],by simp⟩,λk hk kD=>absurd kD (by show ¬ k < d.ab.length;omega)⟩
  show (d.calls++[_])[i]? = _
  rw [jC (ao hc)]
  exact hc
theorem bn.wait (x:Nat->Prop) (d:aY) (i k:Nat):bn x d (iP d i k):=by
 unfold iP
 split
 .rename_i c0 h0
  split
  .exact bn.refl x d
  .refine ⟨λk t ht=>⟨t,ht,eC.refl t,λ_=>rfl⟩,λk t hk ht=>absurd (ao ht) (by have hk:d.ab.length<=k:=hk;show ¬ k < d.ab.length;omega),λj c hc=>?_,⟨[],by simp⟩,λk hk kD=>absurd kD (by show ¬ k < d.ab.length;omega)⟩
   show ∃ c',(d.calls.set i _)[j]? = some c'/\_
   by_cases hj:j=i
   .subst hj
    rw [h0] at hc
    cases hc
    exact ⟨_,mz (ao h0),rfl,⟨[],by simp,.inl rfl⟩,λk hk=>yg _ hk⟩
   .exact ⟨c,by rw [yf (λq=>hj q.symm)];exact hc,rfl,⟨[],by simp,.inl rfl⟩,λ_ h=>h⟩
 .exact bn.refl x d
theorem bn.state (d:aY) {s s':dv} (hs:d.ab[k]? = some s) (h:eC s s'):bn (·=k) d { d with ab:=d.ab.set k s' }:=by
 refine ⟨λj t ht=>?_,λj t hj ht=>?_,λi c hc=>⟨c,hc,rfl,⟨[],by simp,.inl rfl⟩,λ_ h=>h⟩,⟨[],by simp⟩,λj hj Dn=>?_⟩
 .show ∃ s2,(d.ab.set k s')[j]? = some s2/\_
  by_cases e:j=k
  .subst e
   rw [hs] at ht
   cases ht
   exact ⟨s',mz (ao hs),h,λhn=>absurd rfl hn⟩
  .exact ⟨t,by rw [yf (λq=>e q.symm)];exact ht,eC.refl t,λ_=>rfl⟩
 .have:=ao ht
  change j < (d.ab.set k s').length at this
  rw [iS] at this
  exact absurd this (by omega)
 .change j < (d.ab.set k s').length at Dn
  rw [iS] at Dn
  exact absurd Dn (by omega)
theorem bn.iI (x:Nat->Prop) (i:Nat):∀ (l:aN) (d:aY),(∀ k,x k->k < d.ab.length)->bn x d (jM d i l)
 | [],d,hx=>bn.refl x d
 |f::l,d,hx=>(bn.answer x d i ⟨f,-1,[]⟩).trans (bn.iI x i l _ (λk hk=>by rw [F4];exact hx k hk)) hx
theorem bn.dr (x:Nat->Prop) (i:Nat) (a:ae):∀ (cs:List aq) (k:Nat) (d:aY),(∀ k,x k->k < d.ab.length)->bn x d (gk d i a k cs)
 | [],k,d,hx=>bn.refl x d
 |c::cs,k,d,hx=>by
  rw [gk]
  cases hu:j8 a c.head with
  |none=>exact bn.dr x i a cs (k+1) d hx
  |some l =>
   have h1:=bn.begin x d (s:=⟨i,(k:Int),0,l,ah,0,0⟩) rfl rfl
   exact h1.trans (bn.dr x i a cs (k+1) _ (λk hk=>dt (hx k hk) h1.len)) hx
theorem bn.aT (x:Nat->Prop) (F:aN) (C:List aq) (d:aY) (a:ae) (hx:∀ k,x k->k < d.ab.length):bn x d (aT F C d a).1:=by
 have h1:=bn.open x d (bC a)
 unfold Am.aT
 split
 .have h2:=bn.iI x (cY d (bC a)).2.1 (fB (bC (bC a)) F) (cY d (bC a)).1 (λk hk=>dt (hx k hk) h1.len)
  have Ia:=h1.trans h2 hx
  exact Ia.trans (bn.dr x _ _ C 0 _ (λk hk=>dt (hx k hk) Ia.len)) hx
 .exact h1
theorem bn.bI {k:Nat} {s:dv} (hs:d.ab[k]? = some s) (a:ae):bn (·=k) d (bI k s a d):=by
 cases hx:bz [] s.next a with
 |none =>
  rw [Gs hx]
  exact bn.state d hs ⟨rfl,rfl,rfl,rfl⟩
 |some m =>
  rw [Ew hx]
  have h1:=bn.begin (·=k) d (s:=⟨s.call,s.clause,s.taken+1,jq s.l m,ah,0,0⟩) rfl rfl
  have eE:(jB d ⟨s.call,s.clause,s.taken+1,jq s.l m,ah,0,0⟩).ab[k]? = some s:=by
   show (d.ab++[_])[k]? = _
   rw [jC (ao hs)]
   exact hs
  exact h1.trans (bn.state _ eE ⟨rfl,rfl,rfl,rfl⟩) (λj hj=>by rw [hj];exact ao hs)
theorem bn.turns (k:Nat):∀ (l:aN) (d:aY),bn (·=k) d (fH k l d)
 | [],d=>bn.refl _ d
 |a::l,d=>by
  by_cases ho:d.aD < (d.steps:Int)
  .rw [wX ho];exact bn.refl _ d
  .cases hs:d.ab[k]? with
   |none=>rw [xQ hs];exact bn.refl _ d
   |some s =>
    rw [tz ho hs]
    exact (bn.bI hs a).trans (bn.turns k l _) (λj hj=>by rw [hj];exact ao hs)
end
end Go.Am
namespace Go.Am
variable {i:Nat}
structure xl (F:aN) (C:List aq) (n:Nat) (d:aY):Prop where
 c1:∀ i c,i < n->d.calls[i]? = some c->∀ f∈F,(bz [] c.atom f).isSome=true->f∈c.answers
 c2:∀ i c,i < n->d.calls[i]? = some c->∀ (j:Nat) cl,C[j]? = some cl->∀ l,j8 c.atom cl.head=some l->∃ (k:Nat) (s:dv),d.ab[k]? = some s/\s.call=i/\s.clause=(j:Int)/\s.taken=0/\s.l=l
def sI (d:aY) (s:dv) (m:List av):Prop:=∃ (k:Nat) (s':dv),d.ab[k]? = some s'/\s'.call=s.call/\s'.clause=s.clause/\s'.taken=s.taken+1/\s'.l=jq s.l m
structure WS (x:Nat->Prop) (d:aY):Prop where
 wt:∀ (k:Nat) s,¬ x k->d.ab[k]? = some s->s.next.pred≠⟨#[]⟩->∃ c,d.calls[s.src]? = some c/\c.atom=bC (bC s.next)/\k∈c.waiters/\s.seen<=c.answers.length /\
  ∀ (n:Nat) a m,n < s.seen->c.answers[n]? = some a->bz [] s.next a=some m->sI d s m
 sn:∀ (k:Nat) s,¬ x k->d.ab[k]? = some s->s.next.pred=⟨#[]⟩->s.seen=0
def qK (C:List aq) (d:aY) (k:Nat):Prop:=∀ s (j:Nat) c,d.ab[k]? = some s->s.clause=(j:Int)->C[j]? = some c ->
 (s.taken=c.body.length->∀ cc,d.calls[s.call]? = some cc->cB s.l c.head∈cc.answers\/(bz [] cc.atom (cB s.l c.head)).isSome=false\/¬ bm (cB s.l c.head)) /\
 (s.taken≠c.body.length->s.next.pred≠⟨#[]⟩/\∀ cc,d.calls[s.src]? = some cc->s.seen=cc.answers.length)
section
variable {F:aN} {C:List aq} {x:Nat->Prop} {d d':aY}
theorem sI.ext {s:dv} {m:List av} (h:sI d s m) (e:bn x d d'):sI d' s m:=by
 obtain ⟨k,s1,h1,h2,h3,h4,h5⟩:=h
 obtain ⟨s2,g1,g2,_⟩:=e.st k s1 h1
 exact ⟨k,s2,g1,g2.call.trans h2,g2.clause.trans h3,g2.taken.trans h4,g2.l.trans h5⟩
theorem V6 {e:bn x d d'} {c':aX} (hi:i < d.calls.length) (h:d'.calls[i]? = some c'):∃ c,d.calls[i]? = some c/\c'.atom=c.atom/\(∃ l,c'.answers=c.answers++l/\(l=[]\/∀ k∈c.waiters,fe d.queue.length d' k))/\∀ k∈c.waiters,k∈c'.waiters:=by
 obtain ⟨c,hc⟩:=nM hi
 obtain ⟨c2,g1,g2,g3,g4⟩:=e.ca i c hc
 rw [h] at g1
 cases g1
 exact ⟨c,hc,g2,g3,g4⟩
theorem xl.ext {n:Nat} (h:xl F C n d) (e:bn x d d') (hn:n<=d.calls.length):xl F C n d':=by
 refine ⟨λi c' hi dO f hf hx=>?_,λi c' hi dO j cl jd l hl=>?_⟩
 .obtain ⟨c,hc,e1,⟨m,e2,_⟩,_⟩:=V6 (e:=e) (by omega) dO
  rw [e2]
  exact yg _ (h.c1 i c hi hc f hf (e1 ▸ hx))
 .obtain ⟨c,hc,e1,_,_⟩:=V6 (e:=e) (by omega) dO
  obtain ⟨k,s,h1,h2,h3,h4,h5⟩:=h.c2 i c hi hc j cl jd l (e1 ▸ hl)
  obtain ⟨s2,g1,g2,_⟩:=e.st k s h1
  exact ⟨k,s2,g1,g2.call.trans h2,g2.clause.trans h3,g2.taken.trans h4,g2.l.trans h5⟩
theorem WS.ext {y:Nat->Prop} (h:WS y d) (e:bn x d d') (cN:∀ k,x k->y k):WS y d':=by
 have eA:∀ (k:Nat) s',¬ y k->d'.ab[k]? = some s'->k < d.ab.length->d.ab[k]? = some s':=by
  intro k s' hy fT hk
  obtain ⟨s,hs⟩:=nM hk
  obtain ⟨s2,g1,_,g3⟩:=e.st k s hs
  rw [fT] at g1
  cases g1
  rw [g3 (λhx=>hy (cN k hx))]
  exact hs
 refine ⟨λk s' hy fT hb=>?_,λk s' hy fT hb=>?_⟩
 .by_cases hk:k < d.ab.length
  .obtain ⟨c,h1,h2,h3,h4,h5⟩:=h.wt k s' hy (eA k s' hy fT hk) hb
   obtain ⟨c',g1,g2,⟨l,g3,_⟩,g4⟩:=e.ca _ c h1
   refine ⟨c',g1,g2.trans h2,g4 k h3,by rw [g3,cT];omega,λn a m hn ha hm=>?_⟩
   rw [g3,jC (by omega)] at ha
   exact (h5 n a m hn ha hm).ext e
  .exact absurd (e.ns k s' (by omega) fT).1 hb
 .by_cases hk:k < d.ab.length
  .exact h.sn k s' hy (eA k s' hy fT hk) hb
  .exact (e.ns k s' (by omega) fT).2
theorem qK.ext {k:Nat} {cl:List aq} {ee:Nat} (hw:WS (λ_=>False) d) (hS:dU cl ee d) (hk:k < d.ab.length) (e:bn x d d') (hx:¬ x k) (h:qK C d k):qK C d' k\/fe d.queue.length d' k:=by
 obtain ⟨s,hs⟩:=nM hk
 obtain ⟨s2,g1,_,g3⟩:=e.st k s hs
 have es:=g3 hx
 rw [es] at g1
 by_cases hp:fe d.queue.length d' k
 .exact .inr hp
 refine .inl λs' j c fT hj hc=>?_
 rw [g1] at fT
 cases fT
 obtain ⟨p1,p2⟩:=h s j c hs hj hc
 refine ⟨λht cc lC=>?_,λht=>?_⟩
 .obtain ⟨c0,h0,e1,⟨l,e2,_⟩,_⟩:=V6 (e:=e) (hS.st k s hs).call lC
  rcases p1 ht c0 h0 with q|q|q
  .left;rw [e2];exact yg _ q
  .right;left;rw [e1];exact q
  .exact .inr (.inr q)
 .obtain ⟨q1,q2⟩:=p2 ht
  refine ⟨q1,λcc lC=>?_⟩
  obtain ⟨c0,h0,_,h3,h4,_⟩:=hw.wt k s id hs q1
  obtain ⟨c1,g1,_,⟨l,e2,e3⟩,_⟩:=e.ca _ c0 h0
  rw [lC] at g1
  cases g1
  rcases e3 with rfl|e3
  .rw [e2,bD];exact q2 c0 h0
  .exact absurd (e3 k h3) hp
theorem zxu {c:aX} (hc:d.calls[i]? = some c) (a:ae):∃ c',(bl d i a).1.calls[i]? = some c'/\c'.atom=c.atom/\(a∈c'.answers\/(bz [] c.atom a).isSome=false\/¬ bm a):=by
 unfold bl
 rw [hc]
 dsimp only
 split
 .rename_i hq
  refine ⟨c,hc,rfl,?_⟩
  rcases hq with q|q|q
  .exact .inr (.inl q)
  .exact .inr (.inr q)
  .exact .inl q
 .exact ⟨_,mz (ao hc),rfl,.inl (by simp)⟩
theorem zi0 {c:aX} (hc:d.calls[i]? = some c) (r:ba):∃ c',(gj d i r).calls[i]? = some c'/\c'.atom=c.atom/\(r.atom∈c'.answers\/(bz [] c.atom r.atom).isSome=false\/¬ bm r.atom):=by
 rw [(tA d i r).2.1]
 exact zxu hc r.atom
theorem zsq (i:Nat):∀ (l:aN) {d:aY} {c:aX},d.calls[i]? = some c->∃ c',(jM d i l).calls[i]? = some c'/\c'.atom=c.atom/\∀ f∈l,bm f->(bz [] c.atom f).isSome=true->f∈c'.answers
 | [],d,c,hc=>⟨c,hc,rfl,nofun⟩
 |f::l,d,c,hc=>by
  obtain ⟨c1,h1,h2,h3⟩:=zi0 hc ⟨f,-1,[]⟩
  obtain ⟨c2,g1,g2,g3⟩:=zsq i l h1
  have e:=bn.iI (λ_=>False) i l (gj d i ⟨f,-1,[]⟩) (λ_ h=>h.elim)
  obtain ⟨c3,k1,k2,⟨m,k3,_⟩,_⟩:=e.ca i c1 h1
  have e3:c3=c2:=Option.some.inj (k1.symm.trans g1)
  refine ⟨c2,g1,g2.trans h2,λy hy hv hx=>?_⟩
  rcases db.1 hy with rfl|hy
  .rw [<- e3,k3]
   refine yg _ ?_
   rcases h3 with q|q|q
   .exact q
   .rw [hx] at q;cases q
   .exact absurd hv q
  .exact g3 y hy hv (by rw [h2];exact hx)
theorem VS (i:Nat) (q:ae):∀ (cs:List aq) (k0:Nat) (d:aY) (j:Nat) (c:aq) (l:List av),cs[j]? = some c->j8 q c.head=some l->∃ (k:Nat) (s:dv),(gk d i q k0 cs).ab[k]? = some s/\s.call=i/\s.clause=((k0+j:Nat):Int)/\s.taken=0/\s.l=l
 |c::cs,k0,d,0,c',l,hj,hl=>by
  cases hj
  rw [gk,hl]
  have e:=bn.dr (λ_=>False) i q cs (k0+1) (jB d ⟨i,(k0:Int),0,l,ah,0,0⟩) (λ_ h=>h.elim)
  have hs:(jB d ⟨i,(k0:Int),0,l,ah,0,0⟩).ab[d.ab.length]? = some ⟨i,(k0:Int),0,l,ah,0,0⟩:=by
   show (d.ab++[_])[d.ab.length]? = _
   rw [lj (aQ _),tQ]
   rfl
  obtain ⟨s2,g1,g2,_⟩:=e.st _ _ hs
  exact ⟨_,s2,g1,g2.call,g2.clause,g2.taken,g2.l⟩
 |c::cs,k0,d,j+1,c',l,hj,hl=>by
  rw [gk]
  have Ba:cs[j]? = some c':=by simpa using hj
  cases hu:j8 q c.head with
  |none =>
   obtain ⟨k,s,h1,h2,h3,h4⟩:=VS i q cs (k0+1) d j c' l Ba hl
   exact ⟨k,s,h1,h2,by rw [h3];congr 1;omega,h4⟩
  |some l0 =>
   obtain ⟨k,s,h1,h2,h3,h4⟩:=VS i q cs (k0+1) (jB d ⟨i,(k0:Int),0,l0,ah,0,0⟩) j c' l Ba hl
   exact ⟨k,s,h1,h2,by rw [h3];congr 1;omega,h4⟩
theorem zwt {a:ae} (hv:bm a) (h:(cY d a).2.2=false):(cY d a).1=d/\∃ c,d.calls[(cY d a).2.1]? = some c/\c.atom=bC a:=by
 unfold cY at h ⊢
 rw [aA (by simpa using hv)] at h ⊢
 split at h
 .rename_i hm
  rw [aB hm]
  refine ⟨rfl,?_⟩
  have hl:=List.findIdx_lt_length_of_exists (p:=λy=>decide (bC a=y)) ⟨_,hm,by simp⟩
  have hg:=List.findIdx_getElem (p:=λy=>decide (bC a=y)) (w:=hl)
  rw [gq] at hl
  obtain ⟨c,hc⟩:=nM hl
  refine ⟨c,hc,?_⟩
  simp only [ix,List.getElem_map] at hg
  rw [hg]
  have:=(fR.1 hc).2
  rw [<- this]
 .cases h
theorem zsc (hF:∀ a∈F,bF a) (h:xl F C d.calls.length d) {a:ae} (hv:bm (bC a)):xl F C (aT F C d a).1.calls.length (aT F C d a).1/\∃ c,(aT F C d a).1.calls[(aT F C d a).2]? = some c/\c.atom=bC (bC a):=by
 have e0:=bn.aT (λ_=>False) F C d a (λ_ h=>h.elim)
 cases hn:(cY d (bC a)).2.2
 .obtain ⟨o1,c,o2,o3⟩:=zwt hv hn
  have e1:aT F C d a=(d,(cY d (bC a)).2.1):=by unfold aT;rw [hn,aA (by decide),o1]
  rw [e1]
  exact ⟨h,c,o2,o3⟩
 .obtain ⟨o1,o2⟩:=Wd hn
  have hlen:(aT F C d a).1.calls.length=d.calls.length+1:=by
   rw [(BP F C d a).2.2.1,o1]
   show (d.calls++[_]).length=_
   rw [cT,jk]
  have eW:aT F C d a=(gk (jM (cY d (bC a)).1 d.calls.length (fB (bC (bC a)) F)) d.calls.length (bC (bC a)) 0 C,d.calls.length):=by
   unfold aT
   rw [hn,aB rfl,o2]
  have jn:(cY d (bC a)).1.calls[d.calls.length]? = some ⟨bC (bC a),[],[]⟩:=by
   rw [o1]
   show (d.calls++[_])[d.calls.length]? = _
   rw [lj (aQ _),tQ]
   rfl
  obtain ⟨c1,s1,s2,s3⟩:=zsq d.calls.length (fB (bC (bC a)) F) jn
  have ny:(aT F C d a).1.calls[d.calls.length]? = some c1:=by
   rw [eW,(K0 _ _ _ _ _).1]
   exact s1
  refine ⟨⟨λi c hi hc f hf hx=>?_,λi c hi hc j cl jd l hl=>?_⟩,c1,by rw [eW] at ny ⊢;exact ny,s2⟩
  .by_cases hd:i < d.calls.length
   .exact (h.ext e0 (aQ _)).c1 i c hd hc f hf hx
   .obtain rfl:i=d.calls.length:=by omega
    rw [ny] at hc
    cases hc
    rw [s2] at hx
    exact s3 f (List.mem_filter.2 ⟨hf,hx⟩) (hF f hf).valid hx
  .by_cases hd:i < d.calls.length
   .exact (h.ext e0 (aQ _)).c2 i c hd hc j cl jd l hl
   .obtain rfl:i=d.calls.length:=by omega
    rw [ny] at hc
    cases hc
    rw [s2] at hl
    obtain ⟨k,s,h1,h2,h3,h4,h5⟩:=VS d.calls.length (bC (bC a)) C 0 (jM (cY d (bC a)).1 d.calls.length (fB (bC (bC a)) F)) j cl l jd hl
    refine ⟨k,s,by rw [eW];exact h1,h2,by rw [h3,i5],h4,h5⟩
end
end Go.Am
namespace Go.Am
variable {B:Nat}
section
variable {F:aN} {C:List aq} {x y:Nat->Prop} {d d':aY}
theorem WS.Kl (h:WS x d) (cN:∀ k,x k->y k):WS y d:=⟨λk s hy=>h.wt k s (λhx=>hy (cN k hx)),λk s hy=>h.sn k s (λhx=>hy (cN k hx))⟩
theorem WS.add {k:Nat} (h:WS (·=k) d) {s:dv} (hs:d.ab[k]? = some s) (hw:s.next.pred≠⟨#[]⟩->∃ c,d.calls[s.src]? = some c/\c.atom=bC (bC s.next)/\k∈c.waiters/\s.seen<=c.answers.length/\∀ (n:Nat) a m,n < s.seen->c.answers[n]? = some a->bz [] s.next a=some m->sI d s m) (hn:s.next.pred=⟨#[]⟩->s.seen=0):WS (λ_=>False) d:=by
 refine ⟨λj t _ ht hb=>?_,λj t _ ht hb=>?_⟩
 .by_cases e:j=k
  .subst e
   rw [hs] at ht
   cases ht
   exact hw hb
  .exact h.wt j t e ht hb
 .by_cases e:j=k
  .subst e
   rw [hs] at ht
   cases ht
   exact hn hb
  .exact h.sn j t e ht hb
theorem zsz {k:Nat}:∀ (l:aN) {d:aY} {s:dv} {c:aX},WS (λ_=>False) d->d.ab[k]? = some s->s.next.pred≠⟨#[]⟩->d.calls[s.src]? = some c->l=c.answers.drop s.seen->¬ (fH k l d).aD < ((fH k l d).steps:Int) ->
 WS (λ_=>False) (fH k l d)/\∃ s',(fH k l d).ab[k]? = some s'/\eC s s'/\s'.next=s.next/\s'.src=s.src/\s'.seen=c.answers.length
 | [],d,s,c,hw,hs,hb,hc,hl,ho=>by
  obtain ⟨c',h1,_,_,h4,_⟩:=hw.wt k s id hs hb
  rw [hc] at h1
  cases h1
  have:c.answers.length<=s.seen:=by
   have:=congrArg List.length hl
   rw [mB] at this
   simp only [dK] at this
   omega
  exact ⟨hw,s,hs,eC.refl s,rfl,rfl,by omega⟩
 |a::l,d,s,c,hw,hs,hb,hc,hl,ho=>by
  have FM:=xR k (a::l) d
  have Bg:¬ d.aD < (d.steps:Int):=by rw [FM.1] at ho;have:=FM.2.1;omega
  rw [tz Bg hs] at ho ⊢
  have e:=bn.bI hs a
  have jo:(bI k s a d).ab[k]? = some { s with seen:=s.seen+1 }:=Ox hs
  have jd:(bI k s a d).calls=d.calls:=(Oh k s a d).1
  obtain ⟨c',h1,h2,h3,h4,h5⟩:=hw.wt k s id hs hb
  rw [hc] at h1
  cases h1
  have gO:s.seen < c.answers.length:=by
   have:=congrArg List.length hl
   rw [mB] at this
   simp only [eB] at this
   omega
  have hda:c.answers.drop s.seen=c.answers[s.seen]::c.answers.drop (s.seen+1):=List.drop_eq_getElem_cons gO
  rw [hda] at hl
  obtain ⟨ea,el⟩:=List.cons.inj hl
  have ub:WS (λ_=>False) (bI k s a d):=by
   refine WS.add ((hw.Kl (y:=(·=k)) (λ_ h=>h.elim)).ext e (λ_ h=>h)) jo (λ_=>⟨c,by rw [jd];exact hc,h2,h3,by show s.seen+1<=_;omega,λn a' m hn Ip hm=>?_⟩) (λhh=>absurd hh hb)
   by_cases ze:n < s.seen
   .exact sI.ext (h5 n a' m ze Ip hm) e
   .have hn:n < s.seen+1:=hn
    obtain rfl:n=s.seen:=by omega
    rw [gG gO,<- ea] at Ip
    cases Ip
    have hm:bz [] s.next a=some m:=hm
    rw [Ew hm]
    refine ⟨d.ab.length,⟨s.call,s.clause,s.taken+1,jq s.l m,ah,0,0⟩,?_,rfl,rfl,rfl,rfl⟩
    show ((d.ab++[_]).set k _)[d.ab.length]? = _
    rw [yf (by have:=ao hs;omega),lj (aQ _),tQ]
    rfl
  obtain ⟨w,s',g1,g2,g3,g4,g5⟩:=zsz l ub jo hb (by rw [jd];exact hc) el ho
  exact ⟨w,s',g1,⟨g2.call,g2.clause,g2.taken,g2.l⟩,g3,g4,g5⟩
theorem zxi {i:Nat} {c:aX} (hc:d.calls[i]? = some c) (k:Nat):∃ c',(iP d i k).calls[i]? = some c'/\c'.atom=c.atom/\c'.answers=c.answers/\k∈c'.waiters:=by
 unfold iP
 rw [hc]
 dsimp only
 split
 .rename_i hk
  exact ⟨c,hc,rfl,rfl,hk⟩
 .exact ⟨_,mz (ao hc),rfl,rfl,by simp⟩
theorem zwA (hF:∀ a∈F,bF a) (hC:∀ c∈C,rP c) (hS:ft F C d) (Ia:xl F C d.calls.length d) (hw:WS (λ_=>False) d) {k:Nat} {s:dv} (hs:d.ab[k]? = some s) {j:Nat} {c:aq} (hj:s.clause=(j:Int)) (hc:C[j]? = some c) (ht:s.taken < c.body.length) :
 bn (·=k) d (dG F C d k s c)/\xl F C (dG F C d k s c).calls.length (dG F C d k s c)/\WS (λ_=>False) (dG F C d k s c) /\
 ∃ s4 cc,(dG F C d k s c).ab[k]? = some s4/\eC s s4/\s4.next.pred≠⟨#[]⟩/\(dG F C d k s c).calls[s4.src]? = some cc:=by
 by_cases hb:s.next.pred≠⟨#[]⟩
 .have e1:dG F C d k s c=d:=by unfold dG;rw [aB hb]
  rw [e1]
  obtain ⟨cc,h1,_⟩:=hw.wt k s id hs hb
  exact ⟨bn.refl _ d,Ia,hw,s,cc,hs,eC.refl s,hb,h1⟩
 .obtain ⟨b,tW⟩:=nM ht
  have kQ:=(hC c (ek hc)).body b (ek tW)
  have h0:=hS.st k s hs
  have mg:hZ (cB s.l b):=kQ.1.apply h0.qR h0.tm
  obtain ⟨s1,jo⟩:∃ s1:dv,s1={ s with next:=cB s.l b }:=⟨_,rfl⟩
  obtain ⟨d1,iY⟩:∃ d1:aY,d1={ d with ab:=d.ab.set k s1 }:=⟨_,rfl⟩
  obtain ⟨o,ho⟩:∃ o,o=aT F C d1 s1.next:=⟨_,rfl⟩
  have e1:dG F C d k s c=iP { o.1 with ab:=o.1.ab.set k { s1 with src:=o.2 } } o.2 k:=by
   have e:(c.body[s.taken]?).getD ah=b:=by rw [tW];rfl
   unfold dG
   rw [aA hb,e,ho,iY,jo]
  have jI:=ao hs
  have hx:∀ j,j=k->j < d.ab.length:=λj hj=>by rw [hj];exact jI
  have x1:bn (·=k) d d1:=by rw [iY,jo];exact bn.state d hs ⟨rfl,rfl,rfl,rfl⟩
  have ta:d1.ab[k]? = some s1:=by rw [iY];exact mz jI
  have x2:bn (·=k) d1 o.1:=by rw [ho];exact bn.aT _ F C d1 _ (λj hj=>by rw [hj];exact ao ta)
  have mV:o.1.ab[k]? = some s1:=by rw [ho,Ot (ao ta)];exact ta
  have x3:=bn.state o.1 mV (s':={ s1 with src:=o.2 }) ⟨rfl,rfl,rfl,rfl⟩
  have x4:=bn.wait (·=k) { o.1 with ab:=o.1.ab.set k { s1 with src:=o.2 } } o.2 k
  have El:=x1.trans x2 hx
  have zG:=El.trans x3 hx
  have xx:=zG.trans x4 hx
  have qh:d1.calls=d.calls:=by rw [iY]
  have P4:xl F C d1.calls.length d1:=by rw [qh];exact Ia.ext x1 (aQ _)
  have hvv:bm (bC s1.next):=by rw [jo];exact mg.canon
  obtain ⟨HT,cc,lC,kP⟩:=zsc hF P4 hvv
  rw [<- ho] at HT lC
  obtain ⟨_,_,w3,w4,_⟩:=BQ { o.1 with ab:=o.1.ab.set k { s1 with src:=o.2 } } o.2 k
  obtain ⟨c4,g1,g2,g3,g4⟩:=zxi (d:={ o.1 with ab:=o.1.ab.set k { s1 with src:=o.2 } }) lC k
  have Jw:(iP { o.1 with ab:=o.1.ab.set k { s1 with src:=o.2 } } o.2 k).ab[k]? = some { s1 with src:=o.2 }:=by
   rw [w3]
   exact mz (ao mV)
  have ZB:s1.seen=0:=by rw [jo];exact hw.sn k s id hs (Classical.not_not.1 hb)
  have Zu:s1.next.pred≠⟨#[]⟩:=by rw [jo];exact kQ.1.pred.1.ne
  rw [e1]
  refine ⟨xx,?_,?_,{ s1 with src:=o.2 },c4,Jw,by rw [jo];exact ⟨rfl,rfl,rfl,rfl⟩,Zu,g1⟩
  .rw [w4]
   exact (HT.ext x3 (aQ _)).ext x4 (aQ _)
  .refine WS.add ((hw.Kl (y:=(·=k)) (λ_ h=>h.elim)).ext xx (λ_ h=>h)) Jw (λ_=>⟨c4,g1,g2.trans kP,g4,?_,λn a m hn _ _=>?_⟩) (λhh=>absurd hh Zu)
   .show s1.seen<=_;omega
   .have hn:n < s1.seen:=hn
    omega
structure Full (F:aN) (C:List aq) (B i:Nat) (d:aY):Prop where
 snd:ft F C d
 yq:xl F C d.calls.length d
 ws:WS (λ_=>False) d
 pd:∀ k,k < d.ab.length->fe i d k\/qK C d k
 str:dU C 1 d
 num:dE 60000 60000 60001 d
 P3:d.aD=(B:Int)
structure Fu (F:aN) (C:List aq) (B:Nat):Prop where
 f:F.length<=1000
 c:C.length<=1000
 b:∀ c∈C,c.body.length<=90
 bu:B<=50000
theorem Full.step {B i k:Nat} (hF:∀ a∈F,bF a) (hC:∀ c∈C,rP c) (hz:Fu F C B) (h:Full F C B i d) (hq:d.queue[i]? = some k) (ho:¬ d.aD < (d.steps:Int)) (lW:¬ (gU F C d k).aD < ((gU F C d k).steps:Int)):Full F C B (i+1) (gU F C d k):=by
 have jI:=h.str.q k (ek hq)
 have df:=zBn (facts:=F) h.str h.num h.P3 hz.bu ho hz.f hz.c hz.b jI
 obtain ⟨s,hs⟩:=nM jI
 have Y1:=h.str.st k s hs
 obtain ⟨j,c,hj,hc,ht⟩:=Y1.CJ
 have fm:=ao hq
 have h0:=h.snd.st k s hs
 have others:∀ {d'},bn (·=k) d d'->(fe (i+1) d' k\/qK C d' k)->∀ k',k' < d'.ab.length->fe (i+1) d' k'\/qK C d' k':=by
  intro d' e hk k' je
  by_cases nz:k'=k
  .rw [nz];exact hk
  .by_cases bc:k' < d.ab.length
   .rcases h.pd k' bc with ⟨n,n1,n2⟩|hp
    .have:n≠i:=λe2=>nz (by rw [e2,hq] at n2;exact (Option.some.inj n2).symm)
     obtain ⟨l,el⟩:=e.qu
     exact .inl (fe.app ⟨n,by omega,n2⟩ el)
    .rcases hp.ext h.ws h.str bc e nz with q|q
     .exact .inr q
     .exact .inl (q.mono (by omega))
   .exact .inl ((e.nw k' (by omega) je).mono (by omega))
 by_cases kq:s.taken=c.body.length
 .have hd:gU F C d k=gj d s.call (qD c s):=by
   unfold gU
   rw [hs]
   dsimp only
   rw [hj,uG,hc]
   dsimp only
   rw [aB kq]
  have e:=bn.answer (λ_=>False) d s.call (qD c s)
  rw [hd] at lW ⊢
  have cV:=df.str
  rw [hd] at cV
  have kU:=df.num
  rw [hd] at kU
  refine ⟨h.snd.answer s.call (zxF h0 hj hc kq),?_,h.ws.ext e (λ_ hh=>hh),others (e.mono (λ_ hh=>hh.elim)) (.inr ?_),cV,kU,(tA d s.call (qD c s)).1.trans h.P3⟩
  .rw [(tA d s.call (qD c s)).2.2.1]
   exact h.yq.ext e (aQ _)
  .intro s' j' c' fT Ba dO
   rw [F4,hs] at fT
   cases fT
   rw [hj] at Ba
   obtain rfl:j=j':=by omega
   rw [hc] at dO
   cases dO
   refine ⟨λ_ cc lC=>?_,λaL=>absurd kq aL⟩
   obtain ⟨c0,jn⟩:=nM Y1.call
   obtain ⟨c1,g1,g2,g3⟩:=zi0 jn (qD c s)
   rw [lC] at g1
   cases g1
   rw [g2]
   exact g3
 .have TO:s.taken < c.body.length:=by omega
  obtain ⟨e4,yq,ws4,s4,cc,a1,a2,a3,a4⟩:=zwA hF hC h.snd h.yq h.ws hs hj hc TO
  have hd:gU F C d k=fH k (cc.answers.drop s4.seen) (dG F C d k s c):=by
   unfold gU
   rw [hs]
   dsimp only
   rw [hj,uG,hc]
   dsimp only
   rw [aA kq,a1]
   dsimp only
   rw [a4]
   rfl
  have cV:=df.str
  have kU:=df.num
  have M4:=df.aD
  rw [hd] at lW cV kU M4 ⊢
  have JD:ft F C (dG F C d k s c):=h.snd.zC hC hs hj hc TO
  obtain ⟨w,s5,b1,b2,b3,b4,b5⟩:=zsz (cc.answers.drop s4.seen) ws4 a1 a3 a4 rfl lW
  have e5:=e4.trans (bn.turns k (cc.answers.drop s4.seen) (dG F C d k s c)) (λj hj=>by rw [hj];exact jI)
  have ot:(fH k (cc.answers.drop s4.seen) (dG F C d k s c)).calls=(dG F C d k s c).calls:=(xR _ _ _).2.2
  refine ⟨JD.turns hF hC k _ a1 a3 (λa ha=>JD.an cc (ek a4) a (List.mem_of_mem_drop ha)),?_,w,others e5 (.inr ?_),cV,kU,M4.trans h.P3⟩
  .rw [ot]
   exact yq.ext (bn.turns k (cc.answers.drop s4.seen) (dG F C d k s c)) (aQ _)
  .intro s' j' c' fT Ba dO
   rw [b1] at fT
   cases fT
   have jd:s5.clause=s.clause:=b2.clause.trans a2.clause
   rw [jd,hj] at Ba
   obtain rfl:j=j':=by omega
   rw [hc] at dO
   cases dO
   have TN:s5.taken=s.taken:=b2.taken.trans a2.taken
   refine ⟨λhh=>absurd (TN.symm.trans hh) kq,λ_=>⟨by rw [b3];exact a3,λcc' sU=>?_⟩⟩
   rw [ot,b4,a4] at sU
   cases sU
   exact b5
theorem Full.run {i:Nat} (hF:∀ a∈F,bF a) (hC:∀ c∈C,rP c) (hz:Fu F C B) (r:eT F C i d d'):Full F C B i d->¬ d'.aD < (d'.steps:Int)->∃ n,d'.queue.length<=n/\Full F C B n d':=by
 induction r with
 |over ho=>exact λ_ hn=>absurd ho hn
 |@done i d hn hl=>exact λh _=>⟨i,hl,h⟩
 |@step i k d d' hn hq r ih =>
  intro h lW
  have hk:=r.fN
  refine ih (h.step hF hC hz hq hn ?_) lW
  rw [<- hk.2]
  have:=hk.1
  omega
theorem Full.start {B:Nat} (hF:∀ a∈F,bF a) (hC:∀ c∈C,rP c) (hz:Fu F C B) {goal:ae} (hg:bm goal):Full F C B 0 (rH F C (B:Int) goal)/\∃ c,(rH F C (B:Int) goal).calls[0]? = some c/\c.atom=bC (bC (bC goal)):=by
 obtain ⟨UO,UP,Bw,_⟩:=zsu F C (B:Int) goal hz.f hz.c
 have s0:ft F C (oP (B:Int)):=⟨λk s hs=>(by cases hs),nofun,nofun⟩
 have c0:xl F C (oP (B:Int)).calls.length (oP (B:Int)):=⟨λi c hi=>absurd hi (uH _),λi c hi=>absurd hi (uH _)⟩
 have w0:WS (λ_=>False) (oP (B:Int)):=⟨λk s _ hs=>(by cases hs),λk s _ hs=>(by cases hs)⟩
 have e:=bn.aT (λ_=>False) F C (oP (B:Int)) (bC goal) (λ_ h=>h.elim)
 obtain ⟨yq,cc,h1,h2⟩:=zsc hF c0 (xP (xP hg))
 rw [(zst (facts:=F) (cl:=C) (b:=(B:Int)) hg).1] at h1
 exact ⟨⟨s0.aT hC _,yq,w0.ext e (λ_ h=>h),λk hk=>.inl (e.nw k (jl _) hk),UO,UP,Bw⟩,cc,h1,h2⟩
open Classical in
theorem Full.complete {n:Nat} (hF:∀ a∈F,bF a) (hC:∀ c∈C,rP c) (h:Full F C B n d) (hn:d.queue.length<=n) {g:ae} (hg:nk F C g):∀ (i:Nat) q,d.calls[i]? = some q->(bz [] q.atom g).isSome=true->g∈q.answers:=by
 have Bm:∀ k,k < d.ab.length->qK C d k:=by
  intro k hk
  rcases h.pd k hk with ⟨m,m1,m2⟩|hp
  .exact absurd (ao m2) (by omega)
  .exact hp
 induction hg with
 |fact hf=>exact λi q hq hx=>h.yq.c1 i q (ao hq) hq _ hf hx
 |@wP c σ hc hb hx ih =>
  intro i q hq hm
  obtain ⟨j,hj,rfl⟩:=tM hc
  have C7:C[j]? = some C[j]:=gG hj
  generalize C[j]=c at *
  have IF:=hC c hc
  obtain ⟨qc,qp⟩:=h.snd.at_ q (ek hq)
  obtain ⟨mq,hmq⟩:=Option.isSome_iff_exists.1 hm
  have m0:=zzr hmq
  let τ:aV->ay:=λs=>if ∃ k,s=rL k then (bx mq s).1 else σ s
  have t1:Mt τ q.atom (og σ c.head):=zx8 (λi hi hv=>by
   obtain ⟨k,_,e⟩:=qc i hi hv
   show _=if _ then _ else _
   rw [aB ⟨k,e⟩]) m0
  have t2:∀ a,Pt a->og τ a=og σ a:=λa ha=>zxW (λi hi hv=>by
   show (if _ then _ else _)=_
   rw [aA]
   rintro ⟨k,e⟩
   exact ha i hi hv k e)
  have mT:kG q.atom c.head=true:=t1.alike
  obtain ⟨_,_,ea,_,_⟩:=bJ.1 mT
  have sW:c.head.bt=q.atom.bt:=by unfold ae.bt;rw [ea]
  obtain ⟨l,hl,rl⟩:=zuw (σ:=τ) mT (λi hi=>⟨qp.ne hi,IF.head.1.ne (by rw [sW];exact hi),by
   rw [t1.args i hi,<- t2 c.head IF.head.2,BW τ c.head (bA.1 hi).1,aB (by rw [sW];exact hi)]⟩)
  have walk:∀ (m:Nat),m<=c.body.length->∃ (k:Nat) (s:dv),d.ab[k]? = some s/\s.call=i/\s.clause=(j:Int)/\s.taken=m/\rI τ s.l:=by
   intro m
   induction m with
   |zero =>
    intro _
    obtain ⟨k,s,h1,h2,h3,h4,h5⟩:=h.yq.c2 i q (ao hq) hq j c C7 l hl
    exact ⟨k,s,h1,h2,h3,h4,by rw [h5];exact rl⟩
   |succ m ihm =>
    intro Ja
    obtain ⟨k,s,h1,h2,h3,h4,h5⟩:=ihm (by omega)
    obtain ⟨_,p2⟩:=Bm k (ao h1) s j c h1 h3 C7
    obtain ⟨p3,p4⟩:=p2 (by omega)
    obtain ⟨cc,w1,w2,w3,w4,w5⟩:=h.ws.wt k s id h1 p3
    have h0:=h.snd.st k s h1
    obtain ⟨j',c',e1,e2,e3,e4,e5⟩:=h0.cl
    rw [h3] at e1
    obtain rfl:j=j':=by omega
    rw [C7] at e2
    cases e2
    obtain ⟨b,b1,b2⟩:=e5 p3
    have AW:=ek b1
    have Y9:=IF.body b AW
    have Nc:=hb b AW
    have Di:=Nc.pz hF
    have xB:hZ s.next:=by rw [b2];exact Y9.1.apply h0.qR h0.tm
    have eg:og τ s.next=og σ b:=by rw [b2,zlv h5,t2 b Y9.2]
    have m1:Mt τ s.next (og σ b):=by rw [<- eg];exact zCz xB.lo xB.hi
    obtain ⟨mm,x1,x2⟩:=Pc (λi hi hv=>xB.var i hi hv) Di m1
    obtain ⟨τ1,m2⟩:=m1.canon
    obtain ⟨τ2,m3⟩:=m2.canon
    have hpc:=xB.canon
    obtain ⟨m4,x3,_⟩:=Pc (λi hi hv=>(xP hpc).var hi hv) Di m3
    have aU:=ih b AW _ cc w1 (by rw [w2,x3];rfl)
    obtain ⟨n1,xz,en⟩:=tM aU
    obtain ⟨k',s',u1,u2,u3,u4,u5⟩:=w5 n1 _ mm (by rw [p4 cc w1];exact xz) (by rw [gG xz,en]) x1
    have A6:=(xU di x1).1
    exact ⟨k',s',u1,u2.trans h2,u3.trans h3,by omega,by rw [u5];exact (zn8 h0.qR A6).Ee h5 (x2.Ee A6)⟩
  obtain ⟨k,s,h1,h2,h3,h4,h5⟩:=walk c.body.length (aQ _)
  have h0:=h.snd.st k s h1
  obtain ⟨p1,_⟩:=Bm k (ao h1) s j c h1 h3 C7
  obtain ⟨j',c',e1,e2,e3,e4,e5⟩:=h0.cl
  rw [h3] at e1
  obtain rfl:j=j':=by omega
  rw [C7] at e2
  cases e2
  have A9:(cB s.l c.head).ground=true:=by
   refine cf.2 (λi' lZ=>?_)
   have lZ:i' < c.head.bt:=lZ
   have CO:=(bA.1 lZ).1
   rw [se s.l c.head CO,aB lZ]
   cases hv:(c.head.arg i').v
   .rw [uh hv];exact hv
   .obtain ⟨b,AW,tZ⟩:=IF.mj _ ⟨i',CO,(bA.1 lZ).2,hv,rfl⟩
    obtain ⟨i2,v1,v2,v3,v4⟩:=tZ
    obtain ⟨n1,xz,en⟩:=tM AW
    have hd:=e4 n1 b (by omega) (by rw [gG xz,en])
    have Nd:=cf.1 (hd.pz hF).ground i2 (bA.2 ⟨v1,v2⟩)
    rw [se s.l b v1,aB (bA.2 ⟨v1,v2⟩)] at Nd
    have et:b.arg i2=c.head.arg i':=by
     generalize b.arg i2=t1 at *
     generalize c.head.arg i'=t2 at *
     cases t1;cases t2
     simp only at v3 v4 hv
     rw [v3,v4,hv]
    rw [<- et]
    exact Nd
  have eh:cB s.l c.head=og σ c.head:=by
   rw [<- zvP (σ:=τ) A9,zlv h5,t2 c.head IF.head.2]
  rcases p1 h4 q (by rw [h2];exact hq) with r|r|r
  .rw [eh] at r;exact r
  .rw [eh,hm] at r;cases r
  .rw [eh] at r;exact absurd hx.valid r
end
end Go.Am
