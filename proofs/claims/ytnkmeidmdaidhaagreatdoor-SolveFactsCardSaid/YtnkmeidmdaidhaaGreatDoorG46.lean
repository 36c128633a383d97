/- The solver: the budget alone decides whether it ends; the rest is the same. No condition. -/
import Derived.Test.YtnkmeidmdaidhaaGreatDoorG43
set_option linter.unusedSimpArgs false
set_option linter.unusedVariables false
namespace Go.Am
def cR (b:Int) (d:ba):ba:={ d with aE:=b }
section
variable {b:Int} {d:ba} {facts:aN} {cl:List ak}
theorem zyz (i:Nat) (a:ae):bn (cR b d) i a=(cR b (bn d i a).1,(bn d i a).2):=by
 have e:(cR b d).calls=d.calls:=rfl
 unfold bn
 rw [e]
 cases d.calls[i]? with
 |none=>rfl
 |some c =>
  dsimp only
  split <;> rfl
theorem zvX (r:bc):mc (cR b d) r=cR b (mc d r):=by
 have e:(cR b d).known=d.known:=rfl
 unfold mc
 rw [e]
 split <;> rfl
theorem zjf (i:Nat) (r:bc):gA (cR b d) i r=cR b (gA d i r):=by
 unfold gA
 rw [zyz]
 dsimp only
 split
 .have e:({ cR b (bn d i r.atom).1 with steps:=(cR b d).steps+1 }:ba)=cR b { (bn d i r.atom).1 with steps:=d.steps+1 }:=rfl
  rw [e,zvX]
  rfl
 .rfl
theorem zvY (a:ae):de (cR b d) a=(cR b (de d a).1,(de d a).2):=by
 have e:(cR b d).calls=d.calls:=rfl
 unfold de
 rw [e]
 split
 .rfl
 .split <;> rfl
theorem zog (i:Nat):∀ (l:aN) (d:ba),j6 (cR b d) i l=cR b (j6 d i l)
 | [],d=>rfl
 |f::l,d=>by
  show j6 (gA (cR b d) i ⟨f,-1,[]⟩) i l=cR b (j6 (gA d i ⟨f,-1,[]⟩) i l)
  rw [zjf,zog i l]
theorem XA (i:Nat) (a:ae):∀ (cs:List ak) (k:Nat) (d:ba),fY (cR b d) i a k cs=cR b (fY d i a k cs)
 | [],k,d=>rfl
 |c::cs,k,d=>by
  rw [fY,fY]
  cases kD a c.head with
  |none=>exact XA i a cs (k+1) d
  |some l=>exact XA i a cs (k+1) (jV d ⟨i,(k:Int),0,l,ah,0,0⟩)
theorem ztR (a:ae):aW facts cl (cR b d) a=(cR b (aW facts cl d a).1,(aW facts cl d a).2):=by
 unfold aW
 rw [zvY]
 dsimp only
 split
 .rw [zog,XA]
 .rfl
theorem zv0 (i k:Nat):i9 (cR b d) i k=cR b (i9 d i k):=by
 have e:(cR b d).calls=d.calls:=rfl
 unfold i9
 rw [e]
 cases d.calls[i]? with
 |none=>rfl
 |some c =>
  dsimp only
  split <;> rfl
theorem zvZ (k:Nat) (s:dy) (c:ak):dE facts cl (cR b d) k s c=cR b (dE facts cl d k s c):=by
 unfold dE
 split
 .rfl
 .have e:({ cR b d with ab:=(cR b d).ab.set k { s with next:=cN s.l ((c.body[s.taken]?).getD ah) } }:ba)=cR b { d with ab:=d.ab.set k { s with next:=cN s.l ((c.body[s.taken]?).getD ah) } }:=rfl
  dsimp only
  rw [e,ztR]
  dsimp only
  obtain ⟨o,ho⟩:∃ o,o=aW facts cl { d with ab:=d.ab.set k { s with next:=cN s.l ((c.body[s.taken]?).getD ah) } } (cN s.l ((c.body[s.taken]?).getD ah)):=⟨_,rfl⟩
  rw [<- ho]
  exact zv0 (d:={ o.1 with ab:=o.1.ab.set k { s with next:=cN s.l ((c.body[s.taken]?).getD ah),src:=o.2 } }) o.2 k
theorem ztS (k:Nat) (s:dy) (a:ae):bL k s a (cR b d)=cR b (bL k s a d):=by
 cases h:bG [] s.next a with
 |none=>rw [Hs h,Hs h];rfl
 |some m=>rw [FF h,FF h];rfl
theorem zlk (k:Nat):∀ (l:aN) (d:ba),¬ d.aE < ((fO k l d).steps:Int)->¬ b < ((fO k l d).steps:Int)->fO k l (cR b d)=cR b (fO k l d)
 | [],d,h,hb=>rfl
 |a::l,d,h,hb=>by
  have cZ:=(yN k (a::l) d).2.1
  have ho:¬ d.aE < (d.steps:Int):=by omega
  have O8:¬ (cR b d).aE < ((cR b d).steps:Int):=by show ¬ b < (d.steps:Int);omega
  cases hs:d.ab[k]? with
  |none=>rw [yM hs,yM (d:=cR b d) hs]
  |some s =>
   rw [ur ho hs] at h hb ⊢
   rw [ur O8 hs,ztS]
   have hk:=(PV k s a d).2.1
   exact zlk k l (bL k s a d) (by rw [hk];exact h) hb
theorem zoA (facts:aN) (cl:List ak) (d:ba) (k:Nat):d.steps<=(gU facts cl d k).steps/\(gU facts cl d k).aE=d.aE:=by
 have hp:∀ s c,d.steps<=(dE facts cl d k s c).steps/\(dE facts cl d k s c).aE=d.aE:=by
  intro s c
  unfold dE
  split
  .exact ⟨aR _,rfl⟩
  .dsimp only
   have ho:=CT facts cl { d with ab:=d.ab.set k { s with next:=cN s.l ((c.body[s.taken]?).getD ah) } } (cN s.l ((c.body[s.taken]?).getD ah))
   have hw:=λ(o:ba) (i:Nat)=>CQ o i k
   rw [(hw _ _).2.1,(hw _ _).1]
   exact ⟨ho.2.1,ho.1⟩
 unfold gU
 split
 .split
  .split
   .exact ⟨(uq _ _ _).2.2.2.1,(uq _ _ _).1⟩
   .dsimp only
    split
    .exact ⟨eA (hp _ _).1 (yN _ _ _).2.1,(yN _ _ _).1.trans (hp _ _).2⟩
    .exact hp _ _
  .exact ⟨aR _,rfl⟩
 .exact ⟨aR _,rfl⟩
theorem zA4 (k:Nat) (h:¬ d.aE < ((gU facts cl d k).steps:Int)) (hb:¬ b < ((gU facts cl d k).steps:Int)):gU facts cl (cR b d) k=cR b (gU facts cl d k):=by
 have e:(cR b d).ab=d.ab:=rfl
 unfold gU at h hb ⊢
 rw [e]
 cases hs:d.ab[k]? with
 |none=>rfl
 |some s =>
  rw [hs] at h hb
  dsimp only at h hb ⊢
  cases hc:cl[s.clause.toNat]? with
  |none=>rfl
  |some c =>
   rw [hc] at h hb
   dsimp only at h hb ⊢
   by_cases ht:s.taken=c.body.length
   .rw [aD ht,aD ht,zjf]
   .rw [az ht] at h hb ⊢
    rw [az ht,zvZ]
    have e2:(cR b (dE facts cl d k s c)).ab=(dE facts cl d k s c).ab:=rfl
    have e3:(cR b (dE facts cl d k s c)).calls=(dE facts cl d k s c).calls:=rfl
    have EE:(dE facts cl d k s c).aE=d.aE:=by
     unfold dE
     split
     .rfl
     .dsimp only
      rw [(CQ _ _ k).1]
      exact (CT facts cl _ _).1
    rw [e2,e3]
    cases KR:(dE facts cl d k s c).ab[k]? with
    |none=>rfl
    |some s4 =>
     rw [KR] at h hb
     dsimp only at h hb ⊢
     exact zlk k _ _ (by rw [EE];exact h) hb
theorem dP.keep {i:Nat} {d d':ba} (r:dP facts cl i d d'):d.steps<=d'.steps/\d'.aE=d.aE:=by
 induction r with
 |over _=>exact ⟨aR _,rfl⟩
 |done _ _=>exact ⟨aR _,rfl⟩
 |@step i k d d' _ _ _ ih =>
  have cZ:=zoA facts cl d k
  exact ⟨eA cZ.1 ih.1,ih.2.trans cZ.2⟩
theorem dP.more {i:Nat} {d d':ba} (r:dP facts cl i d d'):¬ d'.aE < (d'.steps:Int)->¬ b < (d'.steps:Int)->dP facts cl i (cR b d) (cR b d'):=by
 induction r with
 |over ho=>exact λh _=>absurd ho h
 |@done i d hn hl=>exact λh hb=>.done (by show ¬ b < (d.steps:Int);omega) hl
 |@step i k d d' hn hq r ih =>
  intro h hb
  have hm:=r.keep
  have cZ:=zoA facts cl d k
  have h1:=hm.2
  have h2:=cZ.2
  have h3:=hm.1
  have h4:=cZ.1
  refine .step (by show ¬ b < (d.steps:Int);omega) hq ?_
  rw [zA4 k (by rw [h1,h2] at h;omega) (by omega)]
  exact ih h hb
end
end Go.Am
namespace Go.Am
variable {t:ay} {v:aU} {l m:List au}
def GI (σ:aU->ay) (a:ae):ae :=
 { a with t0:=if 0 < a.bx then lJ σ a.t0 else a.t0,t1:=if 1 < a.bx then lJ σ a.t1 else a.t1,t2:=if 2 < a.bx then lJ σ a.t2 else a.t2,t3:=if 3 < a.bx then lJ σ a.t3 else a.t3 }
theorem zBt (σ:aU->ay) (a:ae) {i:Nat} (hi:i < 4):(GI σ a).arg i=if i < a.bx then lJ σ (a.arg i) else a.arg i:=by
 have:i=0\/i=1\/i=2\/i=3:=by omega
 rcases this with rfl|rfl|rfl|rfl <;> rfl
theorem zpJ {u:ay}:cu [⟨v,t⟩] u=if u.v=true/\u.s=v then t else u:=by
 unfold cu
 rw [qW]
 by_cases h:v=u.s
 .subst h
  by_cases hv:u.v=true <;> simp [hv]
 .rw [az h]
  have h2:¬ u.s=v:=λe=>h e.symm
  simp [h2,zvc]
theorem zhj (l m:List au) (s:aU):bE (gE l m) s=if (bE l s).2=true then (cu m (bE l s).1,true) else (bD,false):=by
 induction l with
 |nil=>rfl
 |cons x l ih =>
  show bE (⟨x.var,cu m x.term⟩::gE l m) s=_
  rw [qW,qW]
  by_cases h:x.var=s
  .simp [h]
  .simp only [h,if_false]
   exact ih
def zDk (l:List au) (t:ay):Prop:=¬ (t.v=true/\(bE l t.s).2=true)
theorem zpK (h:eG l) (t:ay):zDk l (cu l t):=by
 unfold cu
 split
 .rename_i hc
  exact (h.2 _ (MP (xH hc.1))).2
 .rename_i hc
  exact λe=>hc ⟨e.2,e.1⟩
theorem Y3 (h:eG l) (ht:t.s≠⟨#[]⟩):(cu l t).s≠⟨#[]⟩:=by
 unfold cu
 split
 .rename_i hc
  exact (h.2 _ (MP (xH hc.1))).1
 .exact ht
theorem zli (h:jW l v t=some m):eG l/\(bE l v).2=false/\¬ (cu l t=⟨true,v⟩)/\m=kE (gE l [⟨v,cu l t⟩]) ⟨v,cu l t⟩/\t.s≠⟨#[]⟩/\v≠⟨#[]⟩:=by
 unfold jW at h
 split at h
 .cases h
 rename_i h1
 split at h
 .cases h
 rename_i h2
 split at h
 .cases h
 rename_i h3
 split at h
 .cases h
 rename_i h4
 cases h
 refine ⟨Classical.not_not.1 h1,by simpa using h3,λe=>h4 ?_,rfl,λe=>h2 (.inr e),λe=>h2 (.inl e)⟩
 rw [e]
 unfold mL
 simp
theorem zod (h:jW l v t=some m) (s:aU):bE m s=if v=s then (cu l t,true) else if (bE l s).2=true then (cu [⟨v,cu l t⟩] (bE l s).1,true) else (bD,false):=by
 obtain ⟨h1,h2,h3,rfl,h5⟩:=zli h
 rw [Hi (by show (bE (gE l _) v).2=false;rw [Xo];exact h2),zhj]
theorem zoc (h:jW l v t=some m):eG m:=by
 have hg:=zod h
 obtain ⟨h1,h2,h3,hm,h5,h6⟩:=zli h
 have hu:(bE (gE l [⟨v,cu l t⟩]) v).2=false:=by rw [Xo];exact h2
 refine ⟨?_,λx hx=>?_⟩
 .rw [hm]
  exact Xx (PT h1.1) hu
 .have qj:∀ s,(bE m s).2=true->s=v\/(bE l s).2=true:=by
   intro s hs
   rw [hg] at hs
   split at hs
   .rename_i e;exact .inl e.symm
   .split at hs
    .rename_i e;exact .inr e
    .cases hs
  have ht0:¬ ((cu l t).v=true/\(bE m (cu l t).s).2=true):=by
   rintro ⟨e1,e2⟩
   rcases qj _ e2 with e|e
   .apply h3
    generalize cu l t=y at e e1
    cases y
    simp only at e e1
    rw [e,e1]
   .exact zpK h1 t ⟨e1,e⟩
  rw [hm] at hx
  rcases jj.1 hx with rfl|hx
  .exact ⟨Y3 h1 h5,ht0⟩
  .unfold gE at hx
   obtain ⟨y,hy,rfl⟩:=pC.1 hx
   show (cu [⟨v,cu l t⟩] y.term).s≠_/\_
   rw [zpJ]
   split
   .exact ⟨Y3 h1 h5,ht0⟩
   .rename_i hn
    refine ⟨(h1.2 y hy).1,λe=>?_⟩
    rcases qj _ e.2 with e2|e2
    .exact hn ⟨e.1,e2⟩
    .exact (h1.2 y hy).2 ⟨e.1,e2⟩
theorem zxO {x y:ay} (hl:eG l) (h:y4 l x y=some m):eG m:=by
 unfold y4 at h
 split at h
 .cases h;exact hl
 split at h
 .exact zoc h
 split at h
 .exact zoc h
 .cases h
theorem zBb:eG []:=dZ.uQ
theorem zlT {a b:ae}:∀ {k:Nat} {l:List au},nL a b k=some l->eG l
 |0,l,h=>by cases h;exact zBb
 |k+1,l,h=>by
  cases ho:nL a b k with
  |none=>rw [Hj (nq k) ho] at h;cases h
  |some o =>
   rw [MJ ho] at h
   exact zxO (zlT ho) h
theorem zvm {a b:ae} (h:kD a b=some l):eG l:=by
 unfold kD at h
 split at h
 .exact zlT h
 .cases h
theorem zoq {a b:List au} (hb:lZ b b.length):∀ {k:Nat},k<=b.length->∀ s,bE (i6 a b k) s=if (bE a s).2=true then (cu b (bE a s).1,true) else bE (b.take k) s
 |0,_,s=>by
  show bE (gE a b) s=_
  rw [zhj]
  split
  .rfl
  .rfl
 |k+1,hk,s=>by
  have hx:b[k]? = some b[k]:=iH (by omega)
  have ih:=zoq (a:=a) hb (k:=k) (by omega) s
  have ic:b.take (k+1)=b.take k++[b[k]]:=by rw [lr,hx];rfl
  have KY:∀ (l:List au) (x:au),bE (l++[x]) s=if (bE l s).2=true then bE l s else if x.var=s then (x.term,true) else (bD,false):=by
   intro l x
   induction l with
   |nil=>rw [ya,qW];rfl
   |cons y l ihl =>
    rw [rh,qW,qW]
    by_cases hy:y.var=s
    .simp [hy]
    .simp only [hy,if_false];exact ihl
  have pf:∀ (l:List au),(bE l s).2=false->bE l s=(bD,false):=by
   intro l h
   unfold bE at h ⊢
   split
   .rename_i e;rw [e] at h;cases h
   .rfl
  rw [ic,KY]
  cases hg:(bE a b[k].var).2
  .rw [HB hx hg,Hi (zgP hb hx hg)]
   by_cases hv:b[k].var=s
   .rw [aD hv]
    have h0:(bE a s).2=false:=hv ▸ hg
    rw [az (by rw [h0];decide)]
    have h1:(bE (b.take k) s).2=false:=by
     cases h2:(bE (b.take k) s).2
     .rfl
     .have hm:=MP (xH h2)
      obtain ⟨j,hj,e⟩:=zf hm
      rw [gR] at hj
      rw [List.getElem_take] at e
      have aT:=Ht hb (show j < k by omega) (iH (by omega)) hx
      rw [e,hv,Hr] at aT
      cases aT
    rw [az (by rw [h1];decide),aD hv]
   .rw [az hv,ih]
    by_cases h0:(bE a s).2=true
    .rw [aD h0,aD h0]
    .rw [az h0,az h0,az hv]
     by_cases h1:(bE (b.take k) s).2=true
     .rw [aD h1]
     .rw [az h1]
      exact pf _ (by simpa using h1)
  .rw [HC hx hg,ih]
   by_cases h0:(bE a s).2=true
   .rw [aD h0,aD h0]
   .rw [az h0,az h0]
    have hv:¬ b[k].var=s:=λe=>h0 (e ▸ hg)
    rw [az hv]
    by_cases h1:(bE (b.take k) s).2=true
    .rw [aD h1]
    .rw [az h1]
     exact pf _ (by simpa using h1)
structure pU (a b c:List au):Prop where
 get:∀ s,bE c s=if (bE a s).2=true then (cu b (bE a s).1,true) else bE b s
 uQ:eG c
theorem zwb {a b:List au} (ha:eG a) (hb:Good b):pU a b (jE a b):=by
 have hg:∀ s,bE (i6 a b b.length) s=if (bE a s).2=true then (cu b (bE a s).1,true) else bE b s:=λs=>by
  rw [zoq hb.up (aR _) s,Ge]
 have hr:=XC ha.1 hb.up (aR b.length)
 have dR:∀ (n:Nat),n<=b.length->∀ x∈i6 a b n,(∃ y∈a,x=⟨y.var,cu b y.term⟩)\/x∈b:=by
  intro n
  induction n with
  |zero =>
   intro _ x hx
   have hx:x∈gE a b:=hx
   unfold gE at hx
   obtain ⟨y,hy,e⟩:=pC.1 hx
   exact .inl ⟨y,hy,e.symm⟩
  |succ n ih =>
   intro hn x hx
   have hxn:b[n]? = some b[n]:=iH (by omega)
   cases hq:(bE a b[n].var).2
   .rw [HB hxn hq] at hx
    rcases jj.1 hx with rfl|hx
    .exact .inr (List.getElem_mem _)
    .exact ih (by omega) x hx
   .rw [HC hxn hq] at hx
    exact ih (by omega) x hx
 have hc:eG (i6 a b b.length):=by
  refine ⟨hr,λx hx=>?_⟩
  rcases dR b.length (aR _) x hx with ⟨y,hy,rfl⟩|V1
  .obtain ⟨h1,h2⟩:=ha.2 y hy
   have qi:(∃ hh:(bE b y.term.s).2=true/\y.term.v=true,cu b y.term=(bE b y.term.s).1)\/(¬ ((bE b y.term.s).2=true/\y.term.v=true)/\cu b y.term=y.term):=by
    unfold cu
    by_cases hh:(bE b y.term.s).2=true/\y.term.v=true
    .exact .inl ⟨hh,aD hh⟩
    .exact .inr ⟨hh,az hh⟩
   rcases qi with ⟨hh,e⟩|⟨hh,e⟩
   .have hgb:=hb.get (xH hh.1)
    show (cu b y.term).s≠_/\¬ ((cu b y.term).v=true/\_)
    rw [e]
    exact ⟨hgb.2,λq=>by rw [hgb.1] at q;cases q.1⟩
   .show (cu b y.term).s≠_/\¬ ((cu b y.term).v=true/\(bE _ (cu b y.term).s).2=true)
    rw [e]
    refine ⟨h1,λq=>?_⟩
    have hn:¬ (bE a y.term.s).2=true:=λq2=>h2 ⟨q.1,q2⟩
    have q2:=q.2
    rw [hg,az hn] at q2
    exact hh ⟨q2,q.1⟩
  .obtain ⟨h1,h2⟩:=hb.ok x V1
   exact ⟨h2,λq=>by rw [h1] at q;cases q.1⟩
 have e:jE a b=i6 a b b.length:=by
  unfold jE
  rw [aD ha,aD hc]
 rw [e]
 exact ⟨hg,hc⟩
theorem pU.term {a b c:List au} (h:pU a b c) (ha:eG a) (hd:∀ s,(bE b s).2=true->(bE a s).2=false) (t:ay):cu c t=cu b (cu a t):=by
 by_cases hv:t.v=true
 .by_cases h0:(bE a t.s).2=true
  .have e1:cu a t=(bE a t.s).1:=by unfold cu;rw [aD ⟨h0,hv⟩]
   have e2:bE c t.s=(cu b (bE a t.s).1,true):=by rw [h.get,aD h0]
   rw [e1]
   exact MI e2 hv
  .have e1:cu a t=t:=by unfold cu;rw [az (λq=>h0 q.1)]
   have e2:bE c t.s=bE b t.s:=by rw [h.get,az h0]
   rw [e1]
   unfold cu
   rw [e2]
 .have hv:t.v=false:=by simpa using hv
  rw [xL hv,xL hv,xL hv]
end Go.Am
namespace Go.Am
variable {a:ae} {i:Nat}
inductive qQ (F:aN) (C:List ak):ae->Prop
 |fact {a:ae}:a∈F->qQ F C a
 |AW {c:ak} (σ:aU->ay):c∈C->(∀ b∈c.body,qQ F C (GI σ b))->bF (GI σ c.head)->qQ F C (GI σ c.head)
theorem qQ.BW {F:aN} {C:List ak} (hF:∀ a∈F,bF a) (h:qQ F C a):bF a:=by
 cases h with
 |fact h=>exact hF a h
 |AW σ _ _ h=>exact h
theorem qQ.mono {F F2:aN} {C C2:List ak} (hF:∀ a∈F,a∈F2) (hC:∀ c∈C,c∈C2) (h:qQ F C a):qQ F2 C2 a:=by
 induction h with
 |fact h=>exact .fact (hF _ h)
 |AW σ h _ hx ih=>exact .AW σ (hC _ h) ih hx
structure iO (a:ae):Prop where
 says:qK a.says
 pred:qK a.pred
 lo:0<=a.n
 hi:a.n<=4
 GF:∀ i:Nat,i < a.bx->(a.arg i).v=false->cJ (a.arg i).s
 var:∀ i:Nat,i < a.bx->(a.arg i).v=true->(a.arg i).s≠⟨#[]⟩
 rest:∀ i:Nat,a.n<=(i:Int)->i < 4->a.arg i=bD
theorem cJ.ne {s:aU} (h:cJ s):s≠⟨#[]⟩:=λe=>by
 have hp:=h.1.pos
 rw [e] at hp
 exact absurd hp (by decide)
theorem bg.pre (h:bg a):iO a:=by
 refine ⟨h.says,h.pred,h.lo,h.hi,λi hi hv=>?_,λi hi hv=>h.var hi hv,h.rest⟩
 have:=h.fx i (bX.1 hi).2
 unfold dh at this
 rwa [az (by rw [hv];decide)] at this
theorem iO.ne {a:ae} (h:iO a) {i:Nat} (hi:i < a.bx):(a.arg i).s≠⟨#[]⟩:=by
 cases hv:(a.arg i).v
 .exact (h.GF i hi hv).ne
 .exact h.var i hi hv
theorem iO.canon (h:iO a):bg (bB a):=by
 refine ⟨h.says,h.pred,h.lo,h.hi,λi hi=>?_,λi hi h4=>?_⟩
 .have hi:(i:Int) < a.n:=hi
  have iK:i < 4:=by have:=h.hi;omega
  have hc:=bX.2 ⟨iK,hi⟩
  rw [Hz a iK,aD hc]
  cases hv:(a.arg i).v
  .rw [PY hv]
   unfold dh
   rw [az (by rw [hv];decide)]
   exact h.GF i hc hv
  .rw [Hl hv]
   unfold dh
   rw [aD rfl]
   exact zpS (by have:=M5 iK hv;omega)
 .have hi:a.n<=(i:Int):=hi
  rw [Hz a h4,az (λhc=>by have:=(bX.1 hc).2;omega)]
  exact h.rest i hi h4
def uN (l:List au):Prop:=∀ s t,bE l s=(t,true)->t.v=false->cJ t.s
theorem uN.term {l:List au} (h:uN l) {t:ay} (ht:t.v=false->cJ t.s):(cu l t).v=false->cJ (cu l t).s:=by
 unfold cu
 split
 .rename_i hc
  exact h _ _ (xH hc.1)
 .exact ht
theorem iO.apply (h:iO a) {l:List au} (hl:eG l) (ht:uN l):iO (cN l a):=by
 have ha:∀ i,i < a.bx->(cN l a).arg i=cu l (a.arg i):=λi hi=>by rw [xI l a (bX.1 hi).1,aD hi]
 refine ⟨h.says,h.pred,h.lo,h.hi,λi hi=>?_,λi hi hv=>?_,λi hi h4=>?_⟩
 .rw [ha i hi]
  exact ht.term (h.GF i hi)
 .rw [ha i hi]
  exact Y3 hl (h.ne hi)
 .have hi:a.n<=(i:Int):=hi
  rw [xI l a h4,az (λhc=>by have:=(bX.1 hc).2;omega)]
  exact h.rest i hi h4
structure Mt (σ:aU->ay) (p g:ae):Prop where
 alike:mP p g=true
 args:∀ i,i < p.bx->lJ σ (p.arg i)=g.arg i
theorem Mt.bx {σ:aU->ay} {p g:ae} (h:Mt σ p g):g.bx=p.bx:=by
 obtain ⟨_,_,e3,_,_⟩:=cp.1 h.alike
 unfold ae.bx
 rw [e3]
theorem zCY {p g:ae} {m:List au} (h:bG [] p g=some m):Mt (λs=>(bE m s).1) p g:=by
 obtain ⟨_,_,h3,h4,h5,_⟩:=Bh dZ h
 refine ⟨h3,λi hi=>?_⟩
 obtain ⟨_,_,e3,_,_⟩:=cp.1 h3
 have hgi:i < g.bx:=by unfold ae.bx at hi ⊢;rw [<- e3];exact hi
 have zX:=dG.1 h4 i hgi
 have e:=h5 i hi
 unfold lJ
 split
 .rename_i hv
  show (bE m (p.arg i).s).1=_
  rw [XL e hv zX]
 .rename_i hv
  rw [<- e,xL (by simpa using hv)]
theorem Yo {s:aU}:∀ {ns:List aU},s∈ns->ns[ie s ns]? = some s
 |x::ns,h=>by
  rw [FI]
  by_cases hx:s=x
  .rw [aD hx,hx];rfl
  .rw [az hx]
   have:=Yo (s:=s) (ns:=ns) (by simpa [hx] using h)
   simpa using this
open Classical in
theorem Y5 {a:ae} {s:aU} {i:Nat} (h:s∈cT a i):∀ (k:Nat),s∈cT a (i+k)/\ie s (cT a (i+k))=ie s (cT a i)
 |0=>⟨h,rfl⟩
 |k+1=>by
  obtain ⟨h1,h2⟩:=Y5 h k
  by_cases hc:(a.arg (i+k)).v=true/\(a.arg (i+k)).s ∉ cT a (i+k)
  .have e:cT a (i+(k+1))=cT a (i+k)++[(a.arg (i+k)).s]:=zsC hc.1 hc.2
   rw [e]
   exact ⟨xX _ h1,(zoN h1).trans h2⟩
  .have e:cT a (i+(k+1))=cT a (i+k):=by
    show (if (a.arg (i+k)).v=true/\(a.arg (i+k)).s ∉ cT a (i+k) then _ else _)=_
    rw [az hc]
    rfl
   rw [e]
   exact ⟨h1,h2⟩
theorem ztV {j:Nat} (hi:i < 4) (hj:j < 4) (vi:(a.arg i).v=true) (vj:(a.arg j).v=true) (e:(lk a i).s=(lk a j).s):(a.arg i).s=(a.arg j).s:=by
 rw [Hl vi,Hl vj] at e
 have e2:=zyd (by have:=M5 hi vi;omega) (by have:=M5 hj vj;omega) e
 have h1:=Y5 (Yt vi) (3 - i)
 have h2:=Y5 (Yt vj) (3 - j)
 rw [show i+1+(3 - i)=4 by omega] at h1
 rw [show j+1+(3 - j)=4 by omega] at h2
 have g1:=Yo h1.1
 have g2:=Yo h2.1
 rw [h1.2,e2] at g1
 rw [h2.2] at g2
 exact Option.some.inj (g1.symm.trans g2)
open Classical in
theorem Mt.canon {σ:aU->ay} {g:ae} (h:Mt σ a g):∃ τ,Mt τ (bB a) g:=by
 let τ:aU->ay:=λs=>if h:∃ i,i < a.bx/\(a.arg i).v=true/\(lk a i).s=s then σ (a.arg (Classical.choose h)).s else bD
 refine ⟨τ,h.alike,λi hi=>?_⟩
 have hi:i < a.bx:=hi
 have iK:=(bX.1 hi).1
 rw [Hz a iK,aD hi,<- h.args i hi]
 cases hv:(a.arg i).v
 .rw [PY hv]
  unfold lJ
  rw [az (by rw [hv];decide),az (by rw [hv];decide)]
 .have e:lJ τ (lk a i)=τ (lk a i).s:=by
   unfold lJ
   rw [Hl hv]
   rfl
  rw [e]
  have hx:∃ j,j < a.bx/\(a.arg j).v=true/\(lk a j).s=(lk a i).s:=⟨i,hi,hv,rfl⟩
  have e2:τ (lk a i).s=σ (a.arg (Classical.choose hx)).s:=dif_pos hx
  obtain ⟨c1,c2,c3⟩:=Classical.choose_spec hx
  rw [e2,ztV (bX.1 c1).1 iK c2 hv c3]
  unfold lJ
  rw [aD hv]
def Ir (q:ae):Prop:=∀ i,i < q.bx->(q.arg i).v=true->∃ n,n < 4/\(q.arg i).s=tl n
theorem ztU (a:ae):Ir (bB a):=by
 intro i hi hv
 have hi:i < a.bx:=hi
 have iK:=(bX.1 hi).1
 rw [Hz a iK,aD hi] at hv ⊢
 cases h:(a.arg i).v
 .rw [PY h,h] at hv;cases hv
 .rw [Hl h]
  exact ⟨_,M5 iK h,rfl⟩
def WY (a:ae):Prop:=∀ i,i < a.bx->(a.arg i).v=true->∀ n,(a.arg i).s≠tl n
structure zl (c:ak):Prop where
 head:iO c.head/\WY c.head
 body:∀ b∈c.body,iO b/\WY b
 mM:∀ x,la c.head x->∃ b∈c.body,la b x
theorem FY (a:ae) (hi:i < 4):(fN a).arg i=if i < a.bx then jy a i else a.arg i:=zw4 _ a hi
theorem HX (h:(a.arg i).v=true):jy a i=⟨true,(a.arg i).s++⟨#[35,49]⟩⟩:=by
 unfold jy
 rw [aD h]
theorem Qz (h:(a.arg i).v=false):jy a i=a.arg i:=by
 unfold jy
 rw [az (by rw [h];decide)]
theorem zs3 (h:bg a):iO (fN a)/\WY (fN a):=by
 have hp:=h.pre
 have dS:∀ (s:aU),(s++(⟨#[35,49]⟩:aU)).size=s.size+2:=λs=>by rw [ByteArray.size_append];rfl
 have key:∀ i,i < a.bx->(a.arg i).v=true->3<=((a.arg i).s++(⟨#[35,49]⟩:aU)).size:=by
  intro i hi hv
  rw [dS]
  have:=h.fx i (bX.1 hi).2
  unfold dh at this
  rw [aD hv] at this
  have:=this.pos
  omega
 refine ⟨⟨h.says,h.pred,h.lo,h.hi,λi hi hv=>?_,λi hi hv=>?_,λi hi h4=>?_⟩,λi hi hv n=>?_⟩
 .have hi:i < a.bx:=hi
  rw [FY a (bX.1 hi).1,aD hi] at hv ⊢
  cases hq:(a.arg i).v
  .rw [Qz hq];exact hp.GF i hi hq
  .rw [HX hq] at hv;cases hv
 .have hi:i < a.bx:=hi
  rw [FY a (bX.1 hi).1,aD hi] at hv ⊢
  cases hq:(a.arg i).v
  .rw [Qz hq,hq] at hv;cases hv
  .rw [HX hq]
   intro e
   have:=key i hi hq
   change (a.arg i).s++(⟨#[35,49]⟩:aU)=⟨#[]⟩ at e
   rw [e] at this
   exact absurd this (by decide)
 .have hi:a.n<=(i:Int):=hi
  rw [FY a h4,az (λhc=>by have:=(bX.1 hc).2;omega)]
  exact h.rest i hi h4
 .have hi:i < a.bx:=hi
  rw [FY a (bX.1 hi).1,aD hi] at hv ⊢
  cases hq:(a.arg i).v
  .rw [Qz hq,hq] at hv;cases hv
  .rw [HX hq]
   intro e
   have:=key i hi hq
   change (a.arg i).s++(⟨#[35,49]⟩:aU)=tl n at e
   rw [e,PW] at this
   omega
theorem zs4 (a:ae) (x:aU):la (fN a) x↔∃ y,la a y/\x=y++⟨#[35,49]⟩:=by
 constructor
 .rintro ⟨i,h4,hn,hv,rfl⟩
  have hc:i < a.bx:=bX.2 ⟨h4,hn⟩
  rw [FY a h4,aD hc] at hv ⊢
  cases hq:(a.arg i).v
  .rw [Qz hq,hq] at hv;cases hv
  .rw [HX hq]
   exact ⟨_,⟨i,h4,hn,hq,rfl⟩,rfl⟩
 .rintro ⟨y,⟨i,h4,hn,hv,rfl⟩,rfl⟩
  have hc:i < a.bx:=bX.2 ⟨h4,hn⟩
  refine ⟨i,h4,hn,?_,?_⟩
  .rw [FY a h4,aD hc,HX hv]
  .rw [FY a h4,aD hc,HX hv]
theorem jI.cl {c:ak} (h:jI c):zl (ei c):=by
 refine ⟨zs3 h.head,λb hb=>?_,λx hx=>?_⟩
 .obtain ⟨b0,h0,rfl⟩:=pC.1 hb
  exact zs3 (h.body b0 h0)
 .obtain ⟨y,hy,rfl⟩:=(zs4 _ _).1 hx
  obtain ⟨b,hb,hyb⟩:=h.mM y hy
  exact ⟨fN b,pC.2 ⟨b,hb,rfl⟩,(zs4 _ _).2 ⟨y,hyb,rfl⟩⟩
end Go.Am
namespace Go.Am
variable {l m:List au} {a g p:ae}
theorem zDd:uN []:=λs t h=>by cases h
theorem zr8 {v:aU} {t:ay} (h:jW l v t=some m) (hl:uN l) (ht:t.v=false->cJ t.s):uN m:=by
 have h1:(cu l t).v=false->cJ (cu l t).s:=hl.term ht
 intro s u e
 rw [zod h] at e
 split at e
 .cases e;exact h1
 .split at e
  .rename_i hs
   cases e
   rw [zpJ]
   split
   .exact h1
   .exact hl _ _ (xH hs)
  .cases e
theorem zzK {x y:ay} (hl:uN l) (hx:x.v=false->cJ x.s) (hy:y.v=false->cJ y.s) (h:y4 l x y=some m):uN m:=by
 unfold y4 at h
 split at h
 .cases h;exact hl
 split at h
 .exact zr8 h hl hy
 split at h
 .exact zr8 h hl hx
 .cases h
theorem zpO {a b:ae}:∀ {k:Nat} {l:List au},(∀ i,i < k->((a.arg i).v=false->cJ (a.arg i).s)/\((b.arg i).v=false->cJ (b.arg i).s))->nL a b k=some l->uN l
 |0,l,_,h=>by cases h;exact zDd
 |k+1,l,hc,h=>by
  cases ho:nL a b k with
  |none=>rw [Hj (nq k) ho] at h;cases h
  |some o =>
   rw [MJ ho] at h
   have hl:=zpO (λi hi=>hc i (Nat.lt_succ_of_lt hi)) ho
   obtain ⟨h1,h2⟩:=hc k (ri k)
   exact zzK hl (hl.term h1) (hl.term h2) h
theorem zx8 {b:ae} (ha:iO a) (hb:iO b) (h:kD a b=some l):uN l:=by
 unfold kD at h
 split at h
 .rename_i pH
  obtain ⟨_,_,e3,e4,e5⟩:=cp.1 pH
  rw [<- Zb e4 e5] at h
  have Ui:b.bx=a.bx:=by unfold ae.bx;rw [e3]
  exact zpO (λi hi=>⟨ha.GF i hi,hb.GF i (by rw [Ui];exact hi)⟩) h
 .cases h
theorem zwn (hp:iO p) (hg:bF g) (h:bG [] p g=some m):cN m p=g:=by
 obtain ⟨_,_,h3,h4,h5,_⟩:=Bh dZ h
 obtain ⟨e1,e2,e3,_,_⟩:=cp.1 h3
 refine Nk e1 e2 e3 (λi hi=>?_)
 rw [xI m p hi]
 by_cases hc:i < p.bx
 .rw [aD hc];exact h5 i hc
 .rw [az hc]
  have hn:p.n<=(i:Int):=by have:=mt (λq=>bX.2 ⟨hi,q⟩) hc;omega
  rw [hp.rest i hn hi,hg.valid.rest i (by rw [<- e3];exact hn) hi]
theorem zAk (hg:bF g) (h:bG [] p g=some m):uN m:=by
 obtain ⟨_,_,h3,h4,h5,h6⟩:=Bh dZ h
 obtain ⟨_,_,e3,_,_⟩:=cp.1 h3
 intro s t e _
 rcases h6 s t e with q|⟨i,hi,_,_,rfl⟩
 .cases q
 .exact (hg.term (i:=i) (by unfold ae.bx at hi ⊢;rw [<- e3];exact hi)).2.2
theorem zBk {b:ae} (hl:eG l) (hp:p=cN l b) (h:bG [] p g=some m):∀ s,(bE m s).2=true->(bE l s).2=false:=by
 intro s hs
 obtain ⟨_,_,_,_,_,h6⟩:=Bh dZ h
 rcases h6 s _ (xH hs) with q|⟨i,hi,hv,e,_⟩
 .exact Bool.noConfusion (show false=true from congrArg Prod.snd q)
 .have hb:i < b.bx:=by rw [hp] at hi;exact hi
  have ha:p.arg i=cu l (b.arg i):=by rw [hp,xI l b (bX.1 hb).1,aD hb]
  have hf:=zpK hl (b.arg i)
  rw [<- ha] at hf
  rw [<- e]
  cases hq:(bE l (p.arg i).s).2
  .rfl
  .exact absurd ⟨hv,hq⟩ hf
theorem pU.apply {a b c:List au} (h:pU a b c) (ha:eG a) (hd:∀ s,(bE b s).2=true->(bE a s).2=false) (x:ae):cN c x=cN b (cN a x):=by
 refine Nk rfl rfl rfl (λi hi=>?_)
 rw [xI _ _ hi,xI _ _ hi,ztB,xI _ _ hi]
 by_cases hc:i < x.bx
 .rw [aD hc,aD hc,aD hc]
  exact h.term ha hd _
 .rw [az hc,az hc,az hc]
theorem zn6 (h:a.ground=true):cN m a=a:=by
 refine Nk rfl rfl rfl (λi hi=>?_)
 rw [xI _ _ hi]
 split
 .rename_i hc
  exact xL (dG.1 h i hc)
 .rfl
theorem zwH (l:List au) (a:ae):GI (λs=>cu l ⟨true,s⟩) a=cN l a:=by
 refine Nk rfl rfl rfl (λi hi=>?_)
 rw [zBt _ _ hi,xI _ _ hi]
 split
 .unfold lJ
  split
  .rename_i hv
   have:(⟨true,(a.arg i).s⟩:ay)=a.arg i:=by generalize a.arg i=t at hv;cases t;simp only at hv;rw [hv]
   show cu l ⟨true,(a.arg i).s⟩=_
   rw [this]
  .rename_i hv
   rw [xL (by simpa using hv)]
 .rfl
structure mj (F:aN) (C:List ak) (s:dy):Prop where
 uQ:eG s.l
 tm:uN s.l
 cl:∃ (j:Nat) (c:ak),s.clause=(j:Int)/\C[j]? = some c/\s.taken<=c.body.length/\(∀ (i:Nat) b,i < s.taken->c.body[i]? = some b->qQ F C (cN s.l b))/\(s.next.pred≠⟨#[]⟩->∃ b,c.body[s.taken]? = some b/\s.next=cN s.l b)
structure fH (F:aN) (C:List ak) (d:ba):Prop where
 st:∀ (k:Nat) s,d.ab[k]? = some s->mj F C s
 an:∀ c∈d.calls,∀ a∈c.answers,qQ F C a
 at_:∀ c∈d.calls,Ir c.atom/\iO c.atom
section
variable {F:aN} {C:List ak} {d:ba}
theorem mj.from {s s':dy} (h:mj F C s) (e1:s'.l=s.l) (e2:s'.taken=s.taken) (e3:s'.clause=s.clause) (e4:s'.next=s.next):mj F C s':=by
 obtain ⟨h1,h2,h3⟩:=h
 exact ⟨e1 ▸ h1,e1 ▸ h2,by rw [e1,e2,e3,e4];exact h3⟩
theorem fH.add (h:fH F C d) (i:Nat) (ha:bF a->qQ F C a):fH F C (bn d i a).1:=by
 have hs:=(Hw d i a).2.2.1
 refine ⟨λk s hk=>h.st k s (hs ▸ hk),λc hc x hx=>?_,λc hc=>?_⟩
 .unfold bn at hc
  split at hc
  .rename_i c0 kf
   split at hc
   .exact h.an c hc x hx
   .rename_i hn
    rcases yZ hc with hc|rfl
    .exact h.an c hc x hx
    .rcases gg.1 hx with hx|hx
     .exact h.an c0 (en kf) x hx
     .rw [ep.1 hx]
      refine ha ⟨?_,?_⟩
      .exact Classical.not_not.1 λhv=>hn (.inr (.inl hv))
      .cases he:bG [] c0.atom a with
       |none=>exact absurd (.inl (by rw [he];rfl)) hn
       |some m=>exact (Bh dZ he).2.2.2.1
  .exact h.an c hc x hx
 .unfold bn at hc
  split at hc
  .rename_i c0 kf
   split at hc
   .exact h.at_ c hc
   .rcases yZ hc with hc|rfl
    .exact h.at_ c hc
    .exact h.at_ c0 (en kf)
  .exact h.at_ c hc
theorem fH.answer (h:fH F C d) (i:Nat) {r:bc} (ha:bF r.atom->qQ F C r.atom):fH F C (gA d i r):=by
 have h2:=h.add i ha
 have hk:=uq d i r
 refine ⟨λk s hs=>h.st k s (by rw [Hd] at hs;exact hs),?_,?_⟩
 .rw [hk.2.1];exact h2.an
 .rw [hk.2.1];exact h2.at_
theorem fH.begin (h:fH F C d) {s:dy} (hs:mj F C s):fH F C (jV d s):=by
 refine ⟨λk t ht=>?_,h.an,h.at_⟩
 change (d.ab++[s])[k]? = some t at ht
 by_cases hk:k < d.ab.length
 .rw [jz hk] at ht
  exact h.st k t ht
 .have hl:=aq ht
  rw [cE,gF] at hl
  rw [lp (by omega),show k - d.ab.length=0 by omega] at ht
  cases ht
  exact hs
theorem fH.open (h:fH F C d) (a:ae):fH F C (de d a).1:=by
 unfold de
 split
 .exact h
 .rename_i hv
  split
  .exact h
  .refine ⟨h.st,λc hc=>?_,λc hc=>?_⟩
   .rcases gg.1 hc with hc|hc
    .exact h.an c hc
    .rw [ep.1 hc];nofun
   .rcases gg.1 hc with hc|hc
    .exact h.at_ c hc
    .rw [ep.1 hc]
     exact ⟨ztU a,(PH (Classical.not_not.1 hv)).pre⟩
theorem fH.i0 (i:Nat):∀ (l:aN) {d:ba},fH F C d->(∀ f∈l,f∈F)->fH F C (j6 d i l)
 | [],d,h,_=>h
 |f::l,d,h,hl=>fH.i0 i l (h.answer i (r:=⟨f,-1,[]⟩) (λ_=>.fact (hl f (by simp)))) (λx hx=>hl x (by simp [hx]))
theorem fH.dw (i:Nat) {q:ae} (hq:iO q) (hC:∀ c∈C,zl c):∀ (cs:List ak) (k:Nat) {d:ba},fH F C d->(∀ (j:Nat) c,cs[j]? = some c->C[k+j]? = some c)->fH F C (fY d i q k cs)
 | [],k,d,h,_=>h
 |c::cs,k,d,h,hc=>by
  rw [fY]
  have h0:C[k]? = some c:=by simpa using hc 0 c (by simp)
  have ec:∀ (j:Nat) c',cs[j]? = some c'->C[k+1+j]? = some c':=λj c' hj=>by
   have:=hc (j+1) c' (by simpa using hj)
   rwa [show k+(j+1)=k+1+j by omega] at this
  cases hu:kD q c.head with
  |none=>exact fH.dw i hq hC cs (k+1) h ec
  |some l =>
   refine fH.dw i hq hC cs (k+1) (h.begin ⟨zvm hu,zx8 hq (hC c (en h0)).head.1 hu,k,c,rfl,h0,iN _,λi b hi _=>absurd hi (vx _),λhn=>absurd rfl hn⟩) ec
theorem fH.aW (h:fH F C d) (hC:∀ c∈C,zl c) (a:ae):fH F C (aW F C d a).1:=by
 have ho:=h.open (bB a)
 unfold Am.aW
 split
 .rename_i hn
  have hf:∀ f∈eT (bB (bB a)) F,f∈F:=λf hf=>(Il.1 hf).1
  have hv:bg (bB a):=by
   refine Classical.not_not.1 λhv=>?_
   rw [zpi hv] at hn
   cases hn
  exact fH.dw _ (PH hv).pre hC C 0 (fH.i0 _ _ ho hf) (λj c hj=>by rw [iA];exact hj)
 .exact ho
theorem fH.state (h:fH F C d) (k:Nat) {s:dy} (hs:mj F C s):fH F C { d with ab:=d.ab.set k s }:=by
 refine ⟨λj t ht=>?_,h.an,h.at_⟩
 change (d.ab.set k s)[j]? = some t at ht
 by_cases hj:j=k
 .subst hj
  have hl:=aq ht
  rw [ja] at hl
  rw [mV hl] at ht
  cases ht
  exact hs
 .rw [za (λq=>hj q.symm)] at ht
  exact h.st j t ht
theorem fH.wait (h:fH F C d) (i k:Nat):fH F C (i9 d i k):=by
 unfold i9
 split
 .rename_i c hc
  have hm:=en hc
  split
  .exact h
  .refine ⟨h.st,λc' ec=>?_,λc' ec=>?_⟩
   .rcases yZ ec with ec|rfl
    .exact h.an c' ec
    .exact h.an c hm
   .rcases yZ ec with ec|rfl
    .exact h.at_ c' ec
    .exact h.at_ c hm
 .exact h
theorem fH.AV (h:fH F C d) (hC:∀ c∈C,zl c) {k:Nat} {s:dy} (hs:d.ab[k]? = some s) {j:Nat} {c:ak} (hj:s.clause=(j:Int)) (hc:C[j]? = some c) (ht:s.taken < c.body.length):fH F C (dE F C d k s c):=by
 unfold dE
 split
 .exact h
 .dsimp only
  obtain ⟨b,hb⟩:=oF ht
  have e:(c.body[s.taken]?).getD ah=b:=by rw [hb];rfl
  rw [e]
  have h0:=h.st k s hs
  have hS:∀ (n:Nat),mj F C { s with next:=cN s.l b,src:=n }:=λn=>by
   obtain ⟨j',c',e1,e2,e3,e4,e5⟩:=h0.cl
   rw [hj] at e1
   obtain rfl:j=j':=by omega
   rw [hc] at e2
   cases e2
   exact ⟨h0.uQ,h0.tm,j,c,hj,hc,e3,e4,λ_=>⟨b,hb,rfl⟩⟩
  refine fH.wait ?_ _ _
  refine fH.state (fH.aW (fH.state h k (s:={ s with next:=cN s.l b }) (hS s.src)) hC _) k (hS _)
theorem mj.next (hF:∀ a∈F,bF a) (hC:∀ c∈C,zl c) {s:dy} (h0:mj F C s) (hb:s.next.pred≠⟨#[]⟩) {a:ae} (ha:qQ F C a) {m:List au} (hx:bG [] s.next a=some m):mj F C ⟨s.call,s.clause,s.taken+1,jE s.l m,ah,0,0⟩:=by
 obtain ⟨j,c,e1,e2,e3,e4,e5⟩:=h0.cl
 obtain ⟨b,m8,iB⟩:=e5 hb
 have jN:=(hC c (en e2)).body b (en m8)
 have tH:=ha.BW hF
 have hg:=(Bh dZ hx).1
 have cx:=zwb h0.uQ hg
 have hd:=zBk h0.uQ iB hx
 refine ⟨cx.uQ,λs' t e hv=>?_,j,c,e1,e2,aq m8,λi b' hi lU=>?_,λhn=>absurd rfl hn⟩
 .rw [cx.get] at e
  split at e
  .rename_i h1
   cases e
   exact (zAk tH hx).term (h0.tm _ _ (xH h1)) hv
  .exact zAk tH hx _ _ e hv
 .show qQ F C (cN (jE s.l m) b')
  rw [cx.apply h0.uQ hd]
  have hi:i < s.taken+1:=hi
  by_cases wF:i=s.taken
  .subst wF
   rw [m8] at lU
   cases lU
   rw [<- iB,zwn (by rw [iB];exact jN.1.apply h0.uQ h0.tm) tH hx]
   exact ha
  .have h1:=e4 i b' (by omega) lU
   rw [zn6 (h1.BW hF).ground]
   exact h1
theorem fH.turns (hF:∀ a∈F,bF a) (hC:∀ c∈C,zl c) (k:Nat):∀ (l:aN) {d:ba} {s:dy},fH F C d->d.ab[k]? = some s->s.next.pred≠⟨#[]⟩->(∀ a∈l,qQ F C a)->fH F C (fO k l d)
 | [],d,s,h,hs,hb,hl=>h
 |a::l,d,s,h,hs,hb,hl=>by
  by_cases ho:d.aE < (d.steps:Int)
  .rw [xN ho];exact h
  .rw [ur ho hs]
   have h0:=h.st k s hs
   refine fH.turns hF hC k l ?_ (Qc hs) hb (λx hx=>hl x (by simp [hx]))
   cases hx:bG [] s.next a with
   |none=>rw [Hs hx];exact h.state k (h0.from rfl rfl rfl rfl)
   |some m=>rw [FF hx];exact fH.state (h.begin (h0.next hF hC hb (hl a (by simp)) hx)) k (h0.from rfl rfl rfl rfl)
theorem zyF {s:dy} (h0:mj F C s) {j:Nat} {c:ak} (hj:s.clause=(j:Int)) (hc:C[j]? = some c) (ht:s.taken=c.body.length):bF (rf c s).atom->qQ F C (rf c s).atom:=by
 intro hx
 obtain ⟨j',c',e1,e2,e3,e4,e5⟩:=h0.cl
 rw [hj] at e1
 obtain rfl:j=j':=by omega
 rw [hc] at e2
 cases e2
 have e:(rf c s).atom=GI (λv=>cu s.l ⟨true,v⟩) c.head:=(zwH s.l c.head).symm
 rw [e] at hx ⊢
 refine .AW _ (en hc) (λb hb=>?_) hx
 rw [zwH]
 obtain ⟨i,hi,rfl⟩:=zf hb
 exact e4 i _ (by omega) (iH hi)
end
end Go.Am
namespace Go.Am
variable {k:Nat}
def ft (i:Nat) (d:ba) (k:Nat):Prop:=∃ j,i<=j/\d.queue[j]? = some k
theorem ft.mono {i j:Nat} {d:ba} (h:ft i d k) (hj:j<=i):ft j d k:=by obtain ⟨n,h1,h2⟩:=h;exact ⟨n,by omega,h2⟩
theorem ft.app {i:Nat} {d d':ba} (h:ft i d k) {l:List Nat} (e:d'.queue=d.queue++l):ft i d' k:=by
 obtain ⟨n,h1,h2⟩:=h
 exact ⟨n,h1,by rw [e,jz (aq h2)];exact h2⟩
theorem zs0 {d d':ba} {l:List Nat} (e:d'.queue=d.queue++l) (hk:k∈l):ft d.queue.length d' k:=by
 obtain ⟨n,hn,rfl⟩:=zf hk
 exact ⟨d.queue.length+n,by omega,by rw [e,lp (by omega),Nl];exact iH hn⟩
structure eJ (s s':dy):Prop where
 call:s'.call=s.call
 clause:s'.clause=s.clause
 taken:s'.taken=s.taken
 l:s'.l=s.l
theorem eJ.refl (s:dy):eJ s s:=⟨rfl,rfl,rfl,rfl⟩
theorem eJ.trans {a b c:dy} (h:eJ a b) (g:eJ b c):eJ a c:=⟨g.call.trans h.call,g.clause.trans h.clause,g.taken.trans h.taken,g.l.trans h.l⟩
structure bp (x:Nat->Prop) (d d':ba):Prop where
 st:∀ (k:Nat) s,d.ab[k]? = some s->∃ s',d'.ab[k]? = some s'/\eJ s s'/\(¬ x k->s'=s)
 ns:∀ (k:Nat) s,d.ab.length<=k->d'.ab[k]? = some s->s.next.pred=⟨#[]⟩/\s.seen=0
 ca:∀ (i:Nat) c,d.calls[i]? = some c->∃ c',d'.calls[i]? = some c'/\c'.atom=c.atom/\(∃ l,c'.answers=c.answers++l/\(l=[]\/∀ k∈c.waiters,ft d.queue.length d' k))/\∀ k∈c.waiters,k∈c'.waiters
 qu:∃ l,d'.queue=d.queue++l
 nw:∀ k,d.ab.length<=k->k < d'.ab.length->ft d.queue.length d' k
section
variable {x:Nat->Prop} {d d' d'':ba}
theorem bp.refl (x:Nat->Prop) (d:ba):bp x d d :=
 ⟨λk s h=>⟨s,h,eJ.refl s,λ_=>rfl⟩,λk s h g=>absurd (aq g) (by omega),λi c h=>⟨c,h,rfl,⟨[],by simp,.inl rfl⟩,λ_ h=>h⟩,⟨[],by simp⟩,λk h g=>absurd g (by omega)⟩
theorem bp.len (h:bp x d d'):d.ab.length<=d'.ab.length:=by
 refine Nat.le_of_not_lt λhh=>?_
 obtain ⟨s,hs⟩:=oF hh
 obtain ⟨s',h1,_⟩:=h.st _ s hs
 exact absurd (aq h1) (by omega)
theorem bp.Lv (h:bp x d d'):d.queue.length<=d'.queue.length:=by
 obtain ⟨l,e⟩:=h.qu
 rw [e,cE]
 omega
theorem bp.mono {y:Nat->Prop} (h:bp x d d') (cS:∀ k,x k->y k):bp y d d' :=
 ⟨λk s hs=>by obtain ⟨s',h1,h2,h3⟩:=h.st k s hs;exact ⟨s',h1,h2,λhn=>h3 (λhx=>hn (cS k hx))⟩,h.ns,h.ca,h.qu,h.nw⟩
theorem bp.trans (h:bp x d d') (g:bp x d' d'') (hx:∀ k,x k->k < d.ab.length):bp x d d'':=by
 obtain ⟨l1,e1⟩:=h.qu
 obtain ⟨l2,e2⟩:=g.qu
 refine ⟨λk s hs=>?_,λk s hk hs=>?_,λi c hc=>?_,⟨l1++l2,by rw [e2,e1,se]⟩,λk hk o9=>?_⟩
 .obtain ⟨s1,a1,a2,a3⟩:=h.st k s hs
  obtain ⟨s2,b1,b2,b3⟩:=g.st k s1 a1
  exact ⟨s2,b1,a2.trans b2,λhn=>(b3 hn).trans (a3 hn)⟩
 .by_cases o9:k < d'.ab.length
  .obtain ⟨s1,ji⟩:=oF o9
   obtain ⟨s2,b1,b2,b3⟩:=g.st k s1 ji
   have e:s2=s:=Option.some.inj (b1.symm.trans hs)
   have e3:=b3 (λhh=>absurd (hx k hh) (by omega))
   rw [<- e,e3]
   exact h.ns k s1 hk ji
  .exact g.ns k s (by omega) hs
 .obtain ⟨c1,a1,a2,⟨m1,a3,a4⟩,a5⟩:=h.ca i c hc
  obtain ⟨c2,b1,b2,⟨m2,b3,b4⟩,b5⟩:=g.ca i c1 a1
  refine ⟨c2,b1,b2.trans a2,⟨m1++m2,by rw [b3,a3,se],?_⟩,λk hk=>b5 k (a5 k hk)⟩
  rcases b4 with rfl|b4
  .rcases a4 with rfl|a4
   .exact .inl rfl
   .exact .inr λk hk=>(a4 k hk).app e2
  .exact .inr λk hk=>(b4 k (a5 k hk)).mono h.Lv
 .by_cases pI:k < d'.ab.length
  .exact (h.nw k hk pI).app e2
  .exact (g.nw k (by omega) o9).mono h.Lv
theorem bp.begin (x:Nat->Prop) (d:ba) {s:dy} (h1:s.next.pred=⟨#[]⟩) (h2:s.seen=0):bp x d (jV d s):=by
 have hq:(jV d s).queue=d.queue++[d.ab.length]:=rfl
 have cZ:(jV d s).ab=d.ab++[s]:=rfl
 refine ⟨λk t ht=>⟨t,?_,eJ.refl t,λ_=>rfl⟩,λk t hk ht=>?_,λi c hc=>⟨c,hc,rfl,⟨[],by simp,.inl rfl⟩,λ_ h=>h⟩,⟨_,hq⟩,λk hk o9=>?_⟩
 .rw [cZ,jz (aq ht)];exact ht
 .have hl:=aq ht
  rw [cZ,cE,gF] at hl
  rw [cZ,lp hk,show k - d.ab.length=0 by omega] at ht
  cases ht
  exact ⟨h1,h2⟩
 .rw [cZ,cE,gF] at o9
  refine zs0 hq ?_
  rw [ep]
  omega
theorem bp.answer (x:Nat->Prop) (d:ba) (i:Nat) (r:bc):bp x d (gA d i r):=by
 obtain ⟨k1,k2,k3,k4,k5⟩:=uq d i r
 have cZ:=Hd d i r
 refine ⟨λk t ht=>⟨t,by rw [cZ];exact ht,eJ.refl t,λ_=>rfl⟩,λk t hk ht=>?_,λj c hc=>?_,⟨_,k5⟩,λk hk o9=>?_⟩
 .rw [cZ] at ht
  exact absurd (aq ht) (by omega)
 .by_cases hn:(bn d i r.atom).2=true
  .rw [aD hn] at k5
   have qi:∃ c0,d.calls[i]? = some c0/\(bn d i r.atom).1.calls=d.calls.set i { c0 with answers:=c0.answers++[r.atom] }:=by
    unfold bn at hn ⊢
    cases h0:d.calls[i]? with
    |none=>rw [h0] at hn;cases hn
    |some c0 =>
     rw [h0] at hn
     dsimp only at hn ⊢
     split at hn
     .cases hn
     .rename_i hq
      rw [az hq]
      exact ⟨c0,rfl,rfl⟩
   obtain ⟨c0,h0,e0⟩:=qi
   rw [k2,e0]
   by_cases hj:j=i
   .subst hj
    rw [h0] at hc
    cases hc
    refine ⟨_,mV (aq h0),rfl,⟨[r.atom],rfl,.inr λk hk=>zs0 k5 ?_⟩,λk hk=>hk⟩
    rw [e0,mV (aq h0)]
    exact hk
   .exact ⟨c,by rw [za (λq=>hj q.symm)];exact hc,rfl,⟨[],by simp,.inl rfl⟩,λ_ h=>h⟩
  .have e0:(bn d i r.atom).1.calls=d.calls:=by
    have hn:(bn d i r.atom).2=false:=by simpa using hn
    unfold bn at hn ⊢
    cases h0:d.calls[i]? with
    |none=>rfl
    |some c0 =>
     rw [h0] at hn
     dsimp only at hn ⊢
     split at hn
     .rename_i hq
      rw [aD hq]
     .cases hn
   rw [k2,e0]
   exact ⟨c,hc,rfl,⟨[],by simp,.inl rfl⟩,λ_ h=>h⟩
 .rw [cZ] at o9
  exact absurd o9 (by omega)
theorem bp.open (x:Nat->Prop) (d:ba) (a:ae):bp x d (de d a).1:=by
 unfold de
 split
 .exact bp.refl x d
 split
 .exact bp.refl x d
 .refine ⟨λk t ht=>⟨t,ht,eJ.refl t,λ_=>rfl⟩,λk t hk ht=>absurd (aq ht) (by have hk:d.ab.length<=k:=hk;show ¬ k < d.ab.length;omega),λi c hc=>⟨c,?_,rfl,⟨[],by simp,.inl rfl⟩,λ_ h=>h⟩,⟨[],by simp⟩,λk hk o9=>absurd o9 (by show ¬ k < d.ab.length;omega)⟩
  show (d.calls++[_])[i]? = _
  rw [jz (aq hc)]
  exact hc
theorem bp.wait (x:Nat->Prop) (d:ba) (i k:Nat):bp x d (i9 d i k):=by
 unfold i9
 split
 .rename_i c0 h0
  split
  .exact bp.refl x d
  .refine ⟨λk t ht=>⟨t,ht,eJ.refl t,λ_=>rfl⟩,λk t hk ht=>absurd (aq ht) (by have hk:d.ab.length<=k:=hk;show ¬ k < d.ab.length;omega),λj c hc=>?_,⟨[],by simp⟩,λk hk o9=>absurd o9 (by show ¬ k < d.ab.length;omega)⟩
   show ∃ c',(d.calls.set i _)[j]? = some c'/\_
   by_cases hj:j=i
   .subst hj
    rw [h0] at hc
    cases hc
    exact ⟨_,mV (aq h0),rfl,⟨[],by simp,.inl rfl⟩,λk hk=>xX _ hk⟩
   .exact ⟨c,by rw [za (λq=>hj q.symm)];exact hc,rfl,⟨[],by simp,.inl rfl⟩,λ_ h=>h⟩
 .exact bp.refl x d
theorem bp.state (d:ba) {s s':dy} (hs:d.ab[k]? = some s) (h:eJ s s'):bp (·=k) d { d with ab:=d.ab.set k s' }:=by
 refine ⟨λj t ht=>?_,λj t hj ht=>?_,λi c hc=>⟨c,hc,rfl,⟨[],by simp,.inl rfl⟩,λ_ h=>h⟩,⟨[],by simp⟩,λj hj Ek=>?_⟩
 .show ∃ s2,(d.ab.set k s')[j]? = some s2/\_
  by_cases e:j=k
  .subst e
   rw [hs] at ht
   cases ht
   exact ⟨s',mV (aq hs),h,λhn=>absurd rfl hn⟩
  .exact ⟨t,by rw [za (λq=>e q.symm)];exact ht,eJ.refl t,λ_=>rfl⟩
 .have:=aq ht
  change j < (d.ab.set k s').length at this
  rw [ja] at this
  exact absurd this (by omega)
 .change j < (d.ab.set k s').length at Ek
  rw [ja] at Ek
  exact absurd Ek (by omega)
theorem bp.i0 (x:Nat->Prop) (i:Nat):∀ (l:aN) (d:ba),(∀ k,x k->k < d.ab.length)->bp x d (j6 d i l)
 | [],d,hx=>bp.refl x d
 |f::l,d,hx=>(bp.answer x d i ⟨f,-1,[]⟩).trans (bp.i0 x i l _ (λk hk=>by rw [Hd];exact hx k hk)) hx
theorem bp.dw (x:Nat->Prop) (i:Nat) (a:ae):∀ (cs:List ak) (k:Nat) (d:ba),(∀ k,x k->k < d.ab.length)->bp x d (fY d i a k cs)
 | [],k,d,hx=>bp.refl x d
 |c::cs,k,d,hx=>by
  rw [fY]
  cases hu:kD a c.head with
  |none=>exact bp.dw x i a cs (k+1) d hx
  |some l =>
   have h1:=bp.begin x d (s:=⟨i,(k:Int),0,l,ah,0,0⟩) rfl rfl
   exact h1.trans (bp.dw x i a cs (k+1) _ (λk hk=>dr (hx k hk) h1.len)) hx
theorem bp.aW (x:Nat->Prop) (F:aN) (C:List ak) (d:ba) (a:ae) (hx:∀ k,x k->k < d.ab.length):bp x d (aW F C d a).1:=by
 have h1:=bp.open x d (bB a)
 unfold Am.aW
 split
 .have h2:=bp.i0 x (de d (bB a)).2.1 (eT (bB (bB a)) F) (de d (bB a)).1 (λk hk=>dr (hx k hk) h1.len)
  have JM:=h1.trans h2 hx
  exact JM.trans (bp.dw x _ _ C 0 _ (λk hk=>dr (hx k hk) JM.len)) hx
 .exact h1
theorem bp.bL {k:Nat} {s:dy} (hs:d.ab[k]? = some s) (a:ae):bp (·=k) d (bL k s a d):=by
 cases hx:bG [] s.next a with
 |none =>
  rw [Hs hx]
  exact bp.state d hs ⟨rfl,rfl,rfl,rfl⟩
 |some m =>
  rw [FF hx]
  have h1:=bp.begin (·=k) d (s:=⟨s.call,s.clause,s.taken+1,jE s.l m,ah,0,0⟩) rfl rfl
  have eQ:(jV d ⟨s.call,s.clause,s.taken+1,jE s.l m,ah,0,0⟩).ab[k]? = some s:=by
   show (d.ab++[_])[k]? = _
   rw [jz (aq hs)]
   exact hs
  exact h1.trans (bp.state _ eQ ⟨rfl,rfl,rfl,rfl⟩) (λj hj=>by rw [hj];exact aq hs)
theorem bp.turns (k:Nat):∀ (l:aN) (d:ba),bp (·=k) d (fO k l d)
 | [],d=>bp.refl _ d
 |a::l,d=>by
  by_cases ho:d.aE < (d.steps:Int)
  .rw [xN ho];exact bp.refl _ d
  .cases hs:d.ab[k]? with
   |none=>rw [yM hs];exact bp.refl _ d
   |some s =>
    rw [ur ho hs]
    exact (bp.bL hs a).trans (bp.turns k l _) (λj hj=>by rw [hj];exact aq hs)
end
end Go.Am
namespace Go.Am
variable {i:Nat}
structure zk (F:aN) (C:List ak) (n:Nat) (d:ba):Prop where
 c1:∀ i c,i < n->d.calls[i]? = some c->∀ f∈F,(bG [] c.atom f).isSome=true->f∈c.answers
 c2:∀ i c,i < n->d.calls[i]? = some c->∀ (j:Nat) cl,C[j]? = some cl->∀ l,kD c.atom cl.head=some l->∃ (k:Nat) (s:dy),d.ab[k]? = some s/\s.call=i/\s.clause=(j:Int)/\s.taken=0/\s.l=l
def tt (d:ba) (s:dy) (m:List au):Prop:=∃ (k:Nat) (s':dy),d.ab[k]? = some s'/\s'.call=s.call/\s'.clause=s.clause/\s'.taken=s.taken+1/\s'.l=jE s.l m
structure WS (x:Nat->Prop) (d:ba):Prop where
 wt:∀ (k:Nat) s,¬ x k->d.ab[k]? = some s->s.next.pred≠⟨#[]⟩->∃ c,d.calls[s.src]? = some c/\c.atom=bB (bB s.next)/\k∈c.waiters/\s.seen<=c.answers.length /\
  ∀ (n:Nat) a m,n < s.seen->c.answers[n]? = some a->bG [] s.next a=some m->tt d s m
 sn:∀ (k:Nat) s,¬ x k->d.ab[k]? = some s->s.next.pred=⟨#[]⟩->s.seen=0
def tq (C:List ak) (d:ba) (k:Nat):Prop:=∀ s (j:Nat) c,d.ab[k]? = some s->s.clause=(j:Int)->C[j]? = some c ->
 (s.taken=c.body.length->∀ cc,d.calls[s.call]? = some cc->cN s.l c.head∈cc.answers\/(bG [] cc.atom (cN s.l c.head)).isSome=false\/¬ bg (cN s.l c.head)) /\
 (s.taken≠c.body.length->s.next.pred≠⟨#[]⟩/\∀ cc,d.calls[s.src]? = some cc->s.seen=cc.answers.length)
section
variable {F:aN} {C:List ak} {x:Nat->Prop} {d d':ba}
theorem tt.ext {s:dy} {m:List au} (h:tt d s m) (e:bp x d d'):tt d' s m:=by
 obtain ⟨k,s1,h1,h2,h3,h4,h5⟩:=h
 obtain ⟨s2,g1,g2,_⟩:=e.st k s1 h1
 exact ⟨k,s2,g1,g2.call.trans h2,g2.clause.trans h3,g2.taken.trans h4,g2.l.trans h5⟩
theorem Ya {e:bp x d d'} {c':aY} (hi:i < d.calls.length) (h:d'.calls[i]? = some c'):∃ c,d.calls[i]? = some c/\c'.atom=c.atom/\(∃ l,c'.answers=c.answers++l/\(l=[]\/∀ k∈c.waiters,ft d.queue.length d' k))/\∀ k∈c.waiters,k∈c'.waiters:=by
 obtain ⟨c,hc⟩:=oF hi
 obtain ⟨c2,g1,g2,g3,g4⟩:=e.ca i c hc
 rw [h] at g1
 cases g1
 exact ⟨c,hc,g2,g3,g4⟩
theorem zk.ext {n:Nat} (h:zk F C n d) (e:bp x d d') (hn:n<=d.calls.length):zk F C n d':=by
 refine ⟨λi c' hi ec f hf hx=>?_,λi c' hi ec j cl jt l hl=>?_⟩
 .obtain ⟨c,hc,e1,⟨m,e2,_⟩,_⟩:=Ya (e:=e) (by omega) ec
  rw [e2]
  exact xX _ (h.c1 i c hi hc f hf (e1 ▸ hx))
 .obtain ⟨c,hc,e1,_,_⟩:=Ya (e:=e) (by omega) ec
  obtain ⟨k,s,h1,h2,h3,h4,h5⟩:=h.c2 i c hi hc j cl jt l (e1 ▸ hl)
  obtain ⟨s2,g1,g2,_⟩:=e.st k s h1
  exact ⟨k,s2,g1,g2.call.trans h2,g2.clause.trans h3,g2.taken.trans h4,g2.l.trans h5⟩
theorem WS.ext {y:Nat->Prop} (h:WS y d) (e:bp x d d') (cS:∀ k,x k->y k):WS y d':=by
 have eF:∀ (k:Nat) s',¬ y k->d'.ab[k]? = some s'->k < d.ab.length->d.ab[k]? = some s':=by
  intro k s' hy fD hk
  obtain ⟨s,hs⟩:=oF hk
  obtain ⟨s2,g1,_,g3⟩:=e.st k s hs
  rw [fD] at g1
  cases g1
  rw [g3 (λhx=>hy (cS k hx))]
  exact hs
 refine ⟨λk s' hy fD hb=>?_,λk s' hy fD hb=>?_⟩
 .by_cases hk:k < d.ab.length
  .obtain ⟨c,h1,h2,h3,h4,h5⟩:=h.wt k s' hy (eF k s' hy fD hk) hb
   obtain ⟨c',g1,g2,⟨l,g3,_⟩,g4⟩:=e.ca _ c h1
   refine ⟨c',g1,g2.trans h2,g4 k h3,by rw [g3,cE];omega,λn a m hn ha hm=>?_⟩
   rw [g3,jz (by omega)] at ha
   exact (h5 n a m hn ha hm).ext e
  .exact absurd (e.ns k s' (by omega) fD).1 hb
 .by_cases hk:k < d.ab.length
  .exact h.sn k s' hy (eF k s' hy fD hk) hb
  .exact (e.ns k s' (by omega) fD).2
theorem tq.ext {k:Nat} {cl:List ak} {ee:Nat} (hw:WS (λ_=>False) d) (hS:dW cl ee d) (hk:k < d.ab.length) (e:bp x d d') (hx:¬ x k) (h:tq C d k):tq C d' k\/ft d.queue.length d' k:=by
 obtain ⟨s,hs⟩:=oF hk
 obtain ⟨s2,g1,_,g3⟩:=e.st k s hs
 have es:=g3 hx
 rw [es] at g1
 by_cases hp:ft d.queue.length d' k
 .exact .inr hp
 refine .inl λs' j c fD hj hc=>?_
 rw [g1] at fD
 cases fD
 obtain ⟨p1,p2⟩:=h s j c hs hj hc
 refine ⟨λht cc kO=>?_,λht=>?_⟩
 .obtain ⟨c0,h0,e1,⟨l,e2,_⟩,_⟩:=Ya (e:=e) (hS.st k s hs).call kO
  rcases p1 ht c0 h0 with q|q|q
  .left;rw [e2];exact xX _ q
  .right;left;rw [e1];exact q
  .exact .inr (.inr q)
 .obtain ⟨q1,q2⟩:=p2 ht
  refine ⟨q1,λcc kO=>?_⟩
  obtain ⟨c0,h0,_,h3,h4,_⟩:=hw.wt k s id hs q1
  obtain ⟨c1,g1,_,⟨l,e2,e3⟩,_⟩:=e.ca _ c0 h0
  rw [kO] at g1
  cases g1
  rcases e3 with rfl|e3
  .rw [e2,bC];exact q2 c0 h0
  .exact absurd (e3 k h3) hp
theorem zyt {c:aY} (hc:d.calls[i]? = some c) (a:ae):∃ c',(bn d i a).1.calls[i]? = some c'/\c'.atom=c.atom/\(a∈c'.answers\/(bG [] c.atom a).isSome=false\/¬ bg a):=by
 unfold bn
 rw [hc]
 dsimp only
 split
 .rename_i hq
  refine ⟨c,hc,rfl,?_⟩
  rcases hq with q|q|q
  .exact .inr (.inl q)
  .exact .inr (.inr q)
  .exact .inl q
 .exact ⟨_,mV (aq hc),rfl,.inl (by simp)⟩
theorem zi7 {c:aY} (hc:d.calls[i]? = some c) (r:bc):∃ c',(gA d i r).calls[i]? = some c'/\c'.atom=c.atom/\(r.atom∈c'.answers\/(bG [] c.atom r.atom).isSome=false\/¬ bg r.atom):=by
 rw [(uq d i r).2.1]
 exact zyt hc r.atom
theorem zs8 (i:Nat):∀ (l:aN) {d:ba} {c:aY},d.calls[i]? = some c->∃ c',(j6 d i l).calls[i]? = some c'/\c'.atom=c.atom/\∀ f∈l,bg f->(bG [] c.atom f).isSome=true->f∈c'.answers
 | [],d,c,hc=>⟨c,hc,rfl,nofun⟩
 |f::l,d,c,hc=>by
  obtain ⟨c1,h1,h2,h3⟩:=zi7 hc ⟨f,-1,[]⟩
  obtain ⟨c2,g1,g2,g3⟩:=zs8 i l h1
  have e:=bp.i0 (λ_=>False) i l (gA d i ⟨f,-1,[]⟩) (λ_ h=>h.elim)
  obtain ⟨c3,k1,k2,⟨m,k3,_⟩,_⟩:=e.ca i c1 h1
  have e3:c3=c2:=Option.some.inj (k1.symm.trans g1)
  refine ⟨c2,g1,g2.trans h2,λy hy hv hx=>?_⟩
  rcases df.1 hy with rfl|hy
  .rw [<- e3,k3]
   refine xX _ ?_
   rcases h3 with q|q|q
   .exact q
   .rw [hx] at q;cases q
   .exact absurd hv q
  .exact g3 y hy hv (by rw [h2];exact hx)
theorem XY (i:Nat) (q:ae):∀ (cs:List ak) (k0:Nat) (d:ba) (j:Nat) (c:ak) (l:List au),cs[j]? = some c->kD q c.head=some l->∃ (k:Nat) (s:dy),(fY d i q k0 cs).ab[k]? = some s/\s.call=i/\s.clause=((k0+j:Nat):Int)/\s.taken=0/\s.l=l
 |c::cs,k0,d,0,c',l,hj,hl=>by
  cases hj
  rw [fY,hl]
  have e:=bp.dw (λ_=>False) i q cs (k0+1) (jV d ⟨i,(k0:Int),0,l,ah,0,0⟩) (λ_ h=>h.elim)
  have hs:(jV d ⟨i,(k0:Int),0,l,ah,0,0⟩).ab[d.ab.length]? = some ⟨i,(k0:Int),0,l,ah,0,0⟩:=by
   show (d.ab++[_])[d.ab.length]? = _
   rw [lp (aR _),tp]
   rfl
  obtain ⟨s2,g1,g2,_⟩:=e.st _ _ hs
  exact ⟨_,s2,g1,g2.call,g2.clause,g2.taken,g2.l⟩
 |c::cs,k0,d,j+1,c',l,hj,hl=>by
  rw [fY]
  have Cg:cs[j]? = some c':=by simpa using hj
  cases hu:kD q c.head with
  |none =>
   obtain ⟨k,s,h1,h2,h3,h4⟩:=XY i q cs (k0+1) d j c' l Cg hl
   exact ⟨k,s,h1,h2,by rw [h3];congr 1;omega,h4⟩
  |some l0 =>
   obtain ⟨k,s,h1,h2,h3,h4⟩:=XY i q cs (k0+1) (jV d ⟨i,(k0:Int),0,l0,ah,0,0⟩) j c' l Cg hl
   exact ⟨k,s,h1,h2,by rw [h3];congr 1;omega,h4⟩
theorem zxv {a:ae} (hv:bg a) (h:(de d a).2.2=false):(de d a).1=d/\∃ c,d.calls[(de d a).2.1]? = some c/\c.atom=bB a:=by
 unfold de at h ⊢
 rw [az (by simpa using hv)] at h ⊢
 split at h
 .rename_i hm
  rw [aD hm]
  refine ⟨rfl,?_⟩
  have hl:=List.findIdx_lt_length_of_exists (p:=λy=>decide (bB a=y)) ⟨_,hm,by simp⟩
  have hg:=List.findIdx_getElem (p:=λy=>decide (bB a=y)) (w:=hl)
  rw [gw] at hl
  obtain ⟨c,hc⟩:=oF hl
  refine ⟨c,hc,?_⟩
  simp only [jm,List.getElem_map] at hg
  rw [hg]
  have:=(fG.1 hc).2
  rw [<- this]
 .cases h
theorem zzr (hF:∀ a∈F,bF a) (h:zk F C d.calls.length d) {a:ae} (hv:bg (bB a)):zk F C (aW F C d a).1.calls.length (aW F C d a).1/\∃ c,(aW F C d a).1.calls[(aW F C d a).2]? = some c/\c.atom=bB (bB a):=by
 have e0:=bp.aW (λ_=>False) F C d a (λ_ h=>h.elim)
 cases hn:(de d (bB a)).2.2
 .obtain ⟨o1,c,o2,o3⟩:=zxv hv hn
  have e1:aW F C d a=(d,(de d (bB a)).2.1):=by unfold aW;rw [hn,az (by decide),o1]
  rw [e1]
  exact ⟨h,c,o2,o3⟩
 .obtain ⟨o1,o2⟩:=X9 hn
  have hlen:(aW F C d a).1.calls.length=d.calls.length+1:=by
   rw [(CT F C d a).2.2.1,o1]
   show (d.calls++[_]).length=_
   rw [cE,gF]
  have eW:aW F C d a=(fY (j6 (de d (bB a)).1 d.calls.length (eT (bB (bB a)) F)) d.calls.length (bB (bB a)) 0 C,d.calls.length):=by
   unfold aW
   rw [hn,aD rfl,o2]
  have kf:(de d (bB a)).1.calls[d.calls.length]? = some ⟨bB (bB a),[],[]⟩:=by
   rw [o1]
   show (d.calls++[_])[d.calls.length]? = _
   rw [lp (aR _),tp]
   rfl
  obtain ⟨c1,s1,s2,s3⟩:=zs8 d.calls.length (eT (bB (bB a)) F) kf
  have m9:(aW F C d a).1.calls[d.calls.length]? = some c1:=by
   rw [eW,(ML _ _ _ _ _).1]
   exact s1
  refine ⟨⟨λi c hi hc f hf hx=>?_,λi c hi hc j cl jt l hl=>?_⟩,c1,by rw [eW] at m9 ⊢;exact m9,s2⟩
  .by_cases hd:i < d.calls.length
   .exact (h.ext e0 (aR _)).c1 i c hd hc f hf hx
   .obtain rfl:i=d.calls.length:=by omega
    rw [m9] at hc
    cases hc
    rw [s2] at hx
    exact s3 f (Il.2 ⟨hf,hx⟩) (hF f hf).valid hx
  .by_cases hd:i < d.calls.length
   .exact (h.ext e0 (aR _)).c2 i c hd hc j cl jt l hl
   .obtain rfl:i=d.calls.length:=by omega
    rw [m9] at hc
    cases hc
    rw [s2] at hl
    obtain ⟨k,s,h1,h2,h3,h4,h5⟩:=XY d.calls.length (bB (bB a)) C 0 (j6 (de d (bB a)).1 d.calls.length (eT (bB (bB a)) F)) j cl l jt hl
    refine ⟨k,s,by rw [eW];exact h1,h2,by rw [h3,iA],h4,h5⟩
end
end Go.Am
namespace Go.Am
section
variable {F:aN} {C:List ak} {x y:Nat->Prop} {d d':ba}
theorem WS.LF (h:WS x d) (cS:∀ k,x k->y k):WS y d:=⟨λk s hy=>h.wt k s (λhx=>hy (cS k hx)),λk s hy=>h.sn k s (λhx=>hy (cS k hx))⟩
theorem WS.add {k:Nat} (h:WS (·=k) d) {s:dy} (hs:d.ab[k]? = some s) (hw:s.next.pred≠⟨#[]⟩->∃ c,d.calls[s.src]? = some c/\c.atom=bB (bB s.next)/\k∈c.waiters/\s.seen<=c.answers.length/\∀ (n:Nat) a m,n < s.seen->c.answers[n]? = some a->bG [] s.next a=some m->tt d s m) (hn:s.next.pred=⟨#[]⟩->s.seen=0):WS (λ_=>False) d:=by
 refine ⟨λj t _ ht hb=>?_,λj t _ ht hb=>?_⟩
 .by_cases e:j=k
  .subst e
   rw [hs] at ht
   cases ht
   exact hw hb
  .exact h.wt j t e ht hb
 .by_cases e:j=k
  .subst e
   rw [hs] at ht
   cases ht
   exact hn hb
  .exact h.sn j t e ht hb
theorem ztf {k:Nat}:∀ (l:aN) {d:ba} {s:dy} {c:aY},WS (λ_=>False) d->d.ab[k]? = some s->s.next.pred≠⟨#[]⟩->d.calls[s.src]? = some c->l=c.answers.drop s.seen->¬ (fO k l d).aE < ((fO k l d).steps:Int) ->
 WS (λ_=>False) (fO k l d)/\∃ s',(fO k l d).ab[k]? = some s'/\eJ s s'/\s'.next=s.next/\s'.src=s.src/\s'.seen=c.answers.length
 | [],d,s,c,hw,hs,hb,hc,hl,ho=>by
  obtain ⟨c',h1,_,_,h4,_⟩:=hw.wt k s id hs hb
  rw [hc] at h1
  cases h1
  have:c.answers.length<=s.seen:=by
   have:=congrArg List.length hl
   rw [mf] at this
   simp only [db] at this
   omega
  exact ⟨hw,s,hs,eJ.refl s,rfl,rfl,by omega⟩
 |a::l,d,s,c,hw,hs,hb,hc,hl,ho=>by
  have GX:=yN k (a::l) d
  have Cm:¬ d.aE < (d.steps:Int):=by rw [GX.1] at ho;have:=GX.2.1;omega
  rw [ur Cm hs] at ho ⊢
  have e:=bp.bL hs a
  have ji:(bL k s a d).ab[k]? = some { s with seen:=s.seen+1 }:=Qc hs
  have jt:(bL k s a d).calls=d.calls:=(PV k s a d).1
  obtain ⟨c',h1,h2,h3,h4,h5⟩:=hw.wt k s id hs hb
  rw [hc] at h1
  cases h1
  have ia:s.seen < c.answers.length:=by
   have:=congrArg List.length hl
   rw [mf] at this
   simp only [ek] at this
   omega
  have hda:c.answers.drop s.seen=c.answers[s.seen]::c.answers.drop (s.seen+1):=List.drop_eq_getElem_cons ia
  rw [hda] at hl
  obtain ⟨ea,el⟩:=List.cons.inj hl
  have uU:WS (λ_=>False) (bL k s a d):=by
   refine WS.add ((hw.LF (y:=(·=k)) (λ_ h=>h.elim)).ext e (λ_ h=>h)) ji (λ_=>⟨c,by rw [jt];exact hc,h2,h3,by show s.seen+1<=_;omega,λn a' m hn B7 hm=>?_⟩) (λhh=>absurd hh hb)
   by_cases An:n < s.seen
   .exact tt.ext (h5 n a' m An B7 hm) e
   .have hn:n < s.seen+1:=hn
    obtain rfl:n=s.seen:=by omega
    rw [iH ia,<- ea] at B7
    cases B7
    have hm:bG [] s.next a=some m:=hm
    rw [FF hm]
    refine ⟨d.ab.length,⟨s.call,s.clause,s.taken+1,jE s.l m,ah,0,0⟩,?_,rfl,rfl,rfl,rfl⟩
    show ((d.ab++[_]).set k _)[d.ab.length]? = _
    rw [za (by have:=aq hs;omega),lp (aR _),tp]
    rfl
  obtain ⟨w,s',g1,g2,g3,g4,g5⟩:=ztf l uU ji hb (by rw [jt];exact hc) el ho
  exact ⟨w,s',g1,⟨g2.call,g2.clause,g2.taken,g2.l⟩,g3,g4,g5⟩
theorem zyh {i:Nat} {c:aY} (hc:d.calls[i]? = some c) (k:Nat):∃ c',(i9 d i k).calls[i]? = some c'/\c'.atom=c.atom/\c'.answers=c.answers/\k∈c'.waiters:=by
 unfold i9
 rw [hc]
 dsimp only
 split
 .rename_i hk
  exact ⟨c,hc,rfl,rfl,hk⟩
 .exact ⟨_,mV (aq hc),rfl,rfl,by simp⟩
theorem zxC (hF:∀ a∈F,bF a) (hC:∀ c∈C,zl c) (hS:fH F C d) (JM:zk F C d.calls.length d) (hw:WS (λ_=>False) d) {k:Nat} {s:dy} (hs:d.ab[k]? = some s) {j:Nat} {c:ak} (hj:s.clause=(j:Int)) (hc:C[j]? = some c) (ht:s.taken < c.body.length) :
 bp (·=k) d (dE F C d k s c)/\zk F C (dE F C d k s c).calls.length (dE F C d k s c)/\WS (λ_=>False) (dE F C d k s c) /\
 ∃ s4 cc,(dE F C d k s c).ab[k]? = some s4/\eJ s s4/\s4.next.pred≠⟨#[]⟩/\(dE F C d k s c).calls[s4.src]? = some cc:=by
 by_cases hb:s.next.pred≠⟨#[]⟩
 .have e1:dE F C d k s c=d:=by unfold dE;rw [aD hb]
  rw [e1]
  obtain ⟨cc,h1,_⟩:=hw.wt k s id hs hb
  exact ⟨bp.refl _ d,JM,hw,s,cc,hs,eJ.refl s,hb,h1⟩
 .obtain ⟨b,lV⟩:=oF ht
  have jN:=(hC c (en hc)).body b (en lV)
  have h0:=hS.st k s hs
  have mG:iO (cN s.l b):=jN.1.apply h0.uQ h0.tm
  obtain ⟨s1,ji⟩:∃ s1:dy,s1={ s with next:=cN s.l b }:=⟨_,rfl⟩
  obtain ⟨d1,jh⟩:∃ d1:ba,d1={ d with ab:=d.ab.set k s1 }:=⟨_,rfl⟩
  obtain ⟨o,ho⟩:∃ o,o=aW F C d1 s1.next:=⟨_,rfl⟩
  have e1:dE F C d k s c=i9 { o.1 with ab:=o.1.ab.set k { s1 with src:=o.2 } } o.2 k:=by
   have e:(c.body[s.taken]?).getD ah=b:=by rw [lV];rfl
   unfold dE
   rw [az hb,e,ho,jh,ji]
  have jY:=aq hs
  have hx:∀ j,j=k->j < d.ab.length:=λj hj=>by rw [hj];exact jY
  have x1:bp (·=k) d d1:=by rw [jh,ji];exact bp.state d hs ⟨rfl,rfl,rfl,rfl⟩
  have tM:d1.ab[k]? = some s1:=by rw [jh];exact mV jY
  have x2:bp (·=k) d1 o.1:=by rw [ho];exact bp.aW _ F C d1 _ (λj hj=>by rw [hj];exact aq tM)
  have mB:o.1.ab[k]? = some s1:=by rw [ho,P6 (aq tM)];exact tM
  have x3:=bp.state o.1 mB (s':={ s1 with src:=o.2 }) ⟨rfl,rfl,rfl,rfl⟩
  have x4:=bp.wait (·=k) { o.1 with ab:=o.1.ab.set k { s1 with src:=o.2 } } o.2 k
  have Ft:=x1.trans x2 hx
  have A6:=Ft.trans x3 hx
  have xx:=A6.trans x4 hx
  have uR:d1.calls=d.calls:=by rw [jh]
  have RF:zk F C d1.calls.length d1:=by rw [uR];exact JM.ext x1 (aR _)
  have hvv:bg (bB s1.next):=by rw [ji];exact mG.canon
  obtain ⟨Jq,cc,kO,jq⟩:=zzr hF RF hvv
  rw [<- ho] at Jq kO
  obtain ⟨_,_,w3,w4,_⟩:=CQ { o.1 with ab:=o.1.ab.set k { s1 with src:=o.2 } } o.2 k
  obtain ⟨c4,g1,g2,g3,g4⟩:=zyh (d:={ o.1 with ab:=o.1.ab.set k { s1 with src:=o.2 } }) kO k
  have KR:(i9 { o.1 with ab:=o.1.ab.set k { s1 with src:=o.2 } } o.2 k).ab[k]? = some { s1 with src:=o.2 }:=by
   rw [w3]
   exact mV (aq mB)
  have abV:s1.seen=0:=by rw [ji];exact hw.sn k s id hs (Classical.not_not.1 hb)
  have hnp:s1.next.pred≠⟨#[]⟩:=by rw [ji];exact jN.1.pred.1.ne
  rw [e1]
  refine ⟨xx,?_,?_,{ s1 with src:=o.2 },c4,KR,by rw [ji];exact ⟨rfl,rfl,rfl,rfl⟩,hnp,g1⟩
  .rw [w4]
   exact (Jq.ext x3 (aR _)).ext x4 (aR _)
  .refine WS.add ((hw.LF (y:=(·=k)) (λ_ h=>h.elim)).ext xx (λ_ h=>h)) KR (λ_=>⟨c4,g1,g2.trans jq,g4,?_,λn a m hn _ _=>?_⟩) (λhh=>absurd hh hnp)
   .show s1.seen<=_;omega
   .have hn:n < s1.seen:=hn
    omega
structure Full (F:aN) (C:List ak) (B i:Nat) (d:ba):Prop where
 snd:fH F C d
 tA:zk F C d.calls.length d
 ws:WS (λ_=>False) d
 pd:∀ k,k < d.ab.length->ft i d k\/tq C d k
 str:dW C 1 d
 num:dz 60000 60000 60001 d
 RE:d.aE=(B:Int)
structure zn (F:aN) (C:List ak) (B:Nat):Prop where
 f:F.length<=1000
 c:C.length<=1000
 b:∀ c∈C,c.body.length<=90
 bu:B<=50000
theorem Full.step {B i k:Nat} (hF:∀ a∈F,bF a) (hC:∀ c∈C,zl c) (hz:zn F C B) (h:Full F C B i d) (hq:d.queue[i]? = some k) (ho:¬ d.aE < (d.steps:Int)) (my:¬ (gU F C d k).aE < ((gU F C d k).steps:Int)):Full F C B (i+1) (gU F C d k):=by
 have jY:=h.str.q k (en hq)
 have cV:=QZ (facts:=F) h.str h.num h.RE hz.bu ho hz.f hz.c hz.b jY
 obtain ⟨s,hs⟩:=oF jY
 have hSS:=h.str.st k s hs
 obtain ⟨j,c,hj,hc,ht⟩:=hSS.BT
 have fC:=aq hq
 have h0:=h.snd.st k s hs
 have others:∀ {d'},bp (·=k) d d'->(ft (i+1) d' k\/tq C d' k)->∀ k',k' < d'.ab.length->ft (i+1) d' k'\/tq C d' k':=by
  intro d' e hk k' ju
  by_cases nZ:k'=k
  .rw [nZ];exact hk
  .by_cases aT:k' < d.ab.length
   .rcases h.pd k' aT with ⟨n,n1,n2⟩|hp
    .have:n≠i:=λe2=>nZ (by rw [e2,hq] at n2;exact (Option.some.inj n2).symm)
     obtain ⟨l,el⟩:=e.qu
     exact .inl (ft.app ⟨n,by omega,n2⟩ el)
    .rcases hp.ext h.ws h.str aT e nZ with q|q
     .exact .inr q
     .exact .inl (q.mono (by omega))
   .exact .inl ((e.nw k' (by omega) ju).mono (by omega))
 by_cases ic:s.taken=c.body.length
 .have hd:gU F C d k=gA d s.call (rf c s):=by
   unfold gU
   rw [hs]
   dsimp only
   rw [hj,uK,hc]
   dsimp only
   rw [aD ic]
  have e:=bp.answer (λ_=>False) d s.call (rf c s)
  rw [hd] at my ⊢
  have cZ:=cV.str
  rw [hd] at cZ
  have wN:=cV.num
  rw [hd] at wN
  refine ⟨h.snd.answer s.call (zyF h0 hj hc ic),?_,h.ws.ext e (λ_ hh=>hh),others (e.mono (λ_ hh=>hh.elim)) (.inr ?_),cZ,wN,(uq d s.call (rf c s)).1.trans h.RE⟩
  .rw [(uq d s.call (rf c s)).2.2.1]
   exact h.tA.ext e (aR _)
  .intro s' j' c' fD Cg ec
   rw [Hd,hs] at fD
   cases fD
   rw [hj] at Cg
   obtain rfl:j=j':=by omega
   rw [hc] at ec
   cases ec
   refine ⟨λ_ cc kO=>?_,λaM=>absurd ic aM⟩
   obtain ⟨c0,kf⟩:=oF hSS.call
   obtain ⟨c1,g1,g2,g3⟩:=zi7 kf (rf c s)
   rw [kO] at g1
   cases g1
   rw [g2]
   exact g3
 .have VB:s.taken < c.body.length:=by omega
  obtain ⟨e4,tA,ws4,s4,cc,a1,a2,a3,a4⟩:=zxC hF hC h.snd h.tA h.ws hs hj hc VB
  have hd:gU F C d k=fO k (cc.answers.drop s4.seen) (dE F C d k s c):=by
   unfold gU
   rw [hs]
   dsimp only
   rw [hj,uK,hc]
   dsimp only
   rw [az ic,a1]
   dsimp only
   rw [a4]
   rfl
  have cZ:=cV.str
  have wN:=cV.num
  have OP:=cV.aE
  rw [hd] at my cZ wN OP ⊢
  have KX:fH F C (dE F C d k s c):=h.snd.AV hC hs hj hc VB
  obtain ⟨w,s5,b1,b2,b3,b4,b5⟩:=ztf (cc.answers.drop s4.seen) ws4 a1 a3 a4 rfl my
  have e5:=e4.trans (bp.turns k (cc.answers.drop s4.seen) (dE F C d k s c)) (λj hj=>by rw [hj];exact jY)
  have oU:(fO k (cc.answers.drop s4.seen) (dE F C d k s c)).calls=(dE F C d k s c).calls:=(yN _ _ _).2.2
  refine ⟨KX.turns hF hC k _ a1 a3 (λa ha=>KX.an cc (en a4) a (List.mem_of_mem_drop ha)),?_,w,others e5 (.inr ?_),cZ,wN,OP.trans h.RE⟩
  .rw [oU]
   exact tA.ext (bp.turns k (cc.answers.drop s4.seen) (dE F C d k s c)) (aR _)
  .intro s' j' c' fD Cg ec
   rw [b1] at fD
   cases fD
   have jt:s5.clause=s.clause:=b2.clause.trans a2.clause
   rw [jt,hj] at Cg
   obtain rfl:j=j':=by omega
   rw [hc] at ec
   cases ec
   have VA:s5.taken=s.taken:=b2.taken.trans a2.taken
   refine ⟨λhh=>absurd (VA.symm.trans hh) ic,λ_=>⟨by rw [b3];exact a3,λcc' oW=>?_⟩⟩
   rw [oU,b4,a4] at oW
   cases oW
   exact b5
theorem Full.run {B i:Nat} (hF:∀ a∈F,bF a) (hC:∀ c∈C,zl c) (hz:zn F C B) (r:dP F C i d d'):Full F C B i d->¬ d'.aE < (d'.steps:Int)->∃ n,d'.queue.length<=n/\Full F C B n d':=by
 induction r with
 |over ho=>exact λ_ hn=>absurd ho hn
 |@done i d hn hl=>exact λh _=>⟨i,hl,h⟩
 |@step i k d d' hn hq r ih =>
  intro h my
  have hk:=r.keep
  refine ih (h.step hF hC hz hq hn ?_) my
  rw [<- hk.2]
  have:=hk.1
  omega
end
end Go.Am
