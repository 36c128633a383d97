/- Matching, joining and rounds as plain functions: what they give, and that nothing is missed. No condition. -/
import Derived.Test.YtnkmeidmdaidhaaGreatDoorG18
set_option linter.unusedSimpArgs false
set_option linter.unusedVariables false
noncomputable section
namespace Go.Am
variable {l m:List au} {t:ay} {s:aU} {b:au} {a:ae} {hv ps:aN} {i:Nat}
structure Good (l:List au):Prop where
 up:lZ l l.length
 ok:∀ b∈l,b.term.v=false/\b.term.s≠⟨#[]⟩
theorem Good.uQ (h:Good l):eG l:=⟨h.up,λb hb=>⟨(h.ok b hb).2,by rw [(h.ok b hb).1];simp⟩⟩
theorem dZ:Good []:=⟨zlJ (iN _),nofun⟩
theorem qW (x:au) (l:List au) (s:aU):bE (x::l) s=if x.var=s then (x.term,true) else bE l s:=by
 unfold bE
 rw [List.find?_cons]
 by_cases h:x.var=s <;> simp [h]
theorem zvc (s:aU):bE [] s=(bD,false):=rfl
theorem MP (h:bE l s=(t,true)):⟨s,t⟩∈l:=by
 induction l with
 |nil=>cases h
 |cons x l ih =>
  rw [qW] at h
  split at h
  .rename_i hx
   cases h
   subst hx
   exact np
  .exact pS _ (ih h)
theorem XI (h:(bE l s).2=false):∀ b∈l,b.var≠s:=by
 induction l with
 |nil=>intro b hb;cases hb
 |cons x l ih =>
  rw [qW] at h
  split at h
  .cases h
  .rename_i hx
   intro b hb
   rcases df.1 hb with rfl|hb
   .exact hx
   .exact ih h b hb
theorem xH (h:(bE l s).2=true):bE l s=((bE l s).1,true):=by
 rw [<- h]
theorem Yi (b:au):kE [] b=[b]:=rfl
theorem XM (x:au) (l:List au) (b:au):kE (x::l) b=if slt b.var x.var=true then b::x::l else x::kE l b:=by
 unfold kE
 rw [List.takeWhile_cons,List.dropWhile_cons]
 cases h:slt b.var x.var <;> simp
theorem jj {y:au}:y∈kE l b↔y=b\/y∈l:=by
 induction l with
 |nil=>simp [Yi]
 |cons x l ih =>
  rw [XM]
  split
  .simp
  .simp only [df,ih]
   constructor
   .rintro (h|h|h)
    .exact .inr (.inl h)
    .exact .inl h
    .exact .inr (.inr h)
   .rintro (h|h|h)
    .exact .inr (.inl h)
    .exact .inl h
    .exact .inr (.inr h)
theorem Hi (hn:(bE l b.var).2=false) (s:aU):bE (kE l b) s=if b.var=s then (b.term,true) else bE l s:=by
 induction l with
 |nil=>rw [Yi,qW]
 |cons x l ih =>
  have hx:=XI hn x np
  rw [qW,az hx] at hn
  rw [XM]
  split
  .rw [qW]
  .rw [qW,ih hn,qW]
   by_cases h:x.var=s
   .subst h
    rw [aD rfl,az (λe=>hx e.symm),aD rfl]
   .rw [az h,az h]
theorem zuV:lZ l l.length↔l.Pairwise λx y=>slt x.var y.var=true:=by
 constructor
 .intro h
  rw [List.pairwise_iff_getElem]
  intro i j hi hj fw
  exact Ht h fw (iH hi) (iH hj)
 .intro h k x y hk hx hy
  rw [List.pairwise_iff_getElem] at h
  obtain ⟨h1,e1⟩:=fG.1 hx
  obtain ⟨h2,e2⟩:=fG.1 hy
  have:=h k (k+1) h1 h2 (ri _)
  rw [e1,e2] at this
  exact this
theorem Xx (h:lZ l l.length) (hn:(bE l b.var).2=false):lZ (kE l b) (kE l b).length:=by
 rw [zuV] at h ⊢
 induction l with
 |nil=>rw [Yi];exact List.pairwise_singleton _ _
 |cons x l ih =>
  have hx:=XI hn x np
  rw [qW,az hx] at hn
  rw [vt] at h
  rw [XM]
  split
  .rename_i hs
   refine vt.2 ⟨λy hy=>?_,vt.2 h⟩
   rcases df.1 hy with rfl|hy
   .exact hs
   .exact MX hs (h.1 y hy)
  .rename_i hs
   refine vt.2 ⟨λy hy=>?_,ih h.2 hn⟩
   rcases jj.1 hy with rfl|hy
   .cases hq:slt x.var y.var
    .exact absurd (zpB hq (by simpa using hs)) hx
    .rfl
   .exact h.1 y hy
theorem Good.get (h:Good l) (e:bE l s=(t,true)):t.v=false/\t.s≠⟨#[]⟩:=h.ok _ (MP e)
theorem Good.with (h:Good l) (hn:(bE l b.var).2=false) (hv:b.term.v=false) (hs:b.term.s≠⟨#[]⟩):Good (kE l b) :=
 ⟨Xx h.up hn,λy hy=>(jj.1 hy).elim (λe=>by rw [e];exact ⟨hv,hs⟩) (h.ok y)⟩
theorem xL (h:t.v=false):cu l t=t:=by
 unfold cu
 rw [az (by rw [h];simp)]
theorem MI {u:ay} (h:bE l t.s=(u,true)) (hv:t.v=true):cu l t=u:=by
 unfold cu
 rw [h,aD ⟨rfl,hv⟩]
theorem XL {u:ay} (h:cu l t=u) (hv:t.v=true) (hu:u.v=false):bE l t.s=(u,true):=by
 unfold cu at h
 split at h
 .rename_i hc
  rw [xH hc.1,h]
 .rw [h,hu] at hv
  cases hv
theorem zrN (h:Good l):gE l m=l:=by
 unfold gE
 conv=>rhs;rw [<- List.map_id l]
 refine Dg (λb hb=>?_)
 rw [xL (h.ok b hb).1]
 rfl
theorem ztL (h:Good l) {v:aU} (hv:v≠⟨#[]⟩) (ht:t.v=false) (hs:t.s≠⟨#[]⟩) (hn:(bE l v).2=false):jW l v t=some (kE l ⟨v,t⟩):=by
 unfold jW
 rw [az (by simpa using h.uQ),az (λe=>e.elim hv hs),az (by rw [hn];decide),xL ht,az (by unfold mL;simp [ht]),zrN h]
theorem ztM {v:aU} (h:jW l v t=some m):v≠⟨#[]⟩/\t.s≠⟨#[]⟩/\(bE l v).2=false:=by
 unfold jW at h
 split at h
 .cases h
 split at h
 .cases h
 rename_i h2
 split at h
 .cases h
 rename_i h3
 exact ⟨λe=>h2 (.inl e),λe=>h2 (.inr e),by simpa using h3⟩
def qR (l m:List au):Prop:=∀ s t,bE l s=(t,true)->bE m s=(t,true)
theorem qR.refl (l:List au):qR l l:=λ_ _ h=>h
theorem qR.trans {a b c:List au} (h:qR a b) (g:qR b c):qR a c:=λs t e=>g s t (h s t e)
theorem zy3 (hn:(bE l b.var).2=false):qR l (kE l b):=λs t h=>by
 rw [Hi hn,az]
 .exact h
 .intro e
  rw [e,h] at hn
  cases hn
theorem ztd {x y:ay} (h:qR l m) (e:cu l x=y) (hy:y.v=false):cu m x=y:=by
 cases hv:x.v
 .rw [xL hv] at e ⊢
  exact e
 .exact MI (h _ _ (XL e hv hy)) hv
def lJ (σ:aU->ay) (t:ay):ay:=if t.v=true then σ t.s else t
theorem zrl {out:List au} {x y:ay} (h:Good out) (hy:y.v=false) (e:tb out x y=some m) :
 Good m/\qR out m/\cu m x=y/\∀ s t,bE m s=(t,true)->bE out s=(t,true)\/(x.v=true/\x.s=s/\t=y):=by
 unfold tb at e
 split at e
 .rename_i hx
  split at e
  .rename_i cS
   cases e
   subst cS
   exact ⟨h,qR.refl _,xL hx,λs t g=>.inl g⟩
  .cases e
 .rename_i hx
  have hx:x.v=true:=by simpa using hx
  split at e
  .rename_i hb
   split at e
   .rename_i hz
    cases e
    refine ⟨h,qR.refl _,?_,λs t g=>.inl g⟩
    rw [<- hz]
    exact MI (xH hb) hx
   .cases e
  .rename_i hb
   have hb:(bE out x.s).2=false:=by simpa using hb
   obtain ⟨g1,g2,g3⟩:=ztM e
   rw [ztL h g1 hy g2 hb] at e
   cases e
   refine ⟨h.with hb hy g2,zy3 hb,?_,λs t g=>?_⟩
   .refine MI ?_ hx
    rw [Hi hb,aD rfl]
   .rw [Hi hb] at g
    split at g
    .rename_i hs
     cases g
     exact .inr ⟨hx,hs,rfl⟩
    .exact .inl g
theorem zil {p g:ae} {out:List au} (h:Good out):∀ {k:Nat} {m:List au},(∀ i,i < k->(g.arg i).v=false)->r8 p g k out=some m ->
 Good m/\qR out m/\(∀ i,i < k->cu m (p.arg i)=g.arg i)/\∀ s t,bE m s=(t,true)->bE out s=(t,true)\/∃ i,i < k/\(p.arg i).v=true/\(p.arg i).s=s/\t=g.arg i
 |0,m,_,e=>by
  cases e
  exact ⟨h,qR.refl _,λi hi=>absurd hi (vx _),λs t g=>.inl g⟩
 |k+1,m,hg,e=>by
  unfold r8 at e
  cases ho:r8 p g k out with
  |none=>rw [ho] at e;cases e
  |some o =>
   rw [ho] at e
   obtain ⟨g1,g2,g3,g4⟩:=zil h (λi hi=>hg i (Nat.lt_succ_of_lt hi)) ho
   obtain ⟨f1,f2,f3,f4⟩:=zrl g1 (hg k (ri _)) (show tb o (p.arg k) (g.arg k)=some m from e)
   refine ⟨f1,g2.trans f2,λi hi=>?_,λs t cZ=>?_⟩
   .by_cases he:i=k
    .subst he;exact f3
    .exact ztd f2 (g3 i (by omega)) (hg i hi)
   .rcases f4 s t cZ with q|q
    .rcases g4 s t q with q|⟨i,hi,q⟩
     .exact .inl q
     .exact .inr ⟨i,Nat.lt_succ_of_lt hi,q⟩
    .exact .inr ⟨k,ri _,q⟩
theorem cp {b:ae}:mP a b=true↔a.says=b.says/\a.pred=b.pred/\a.n=b.n/\0<=a.n/\a.n<=4:=by
 unfold mP
 simp only [dK,jm]
theorem Zb (h0:0<=a.n) (h4:a.n<=4):a.bx=a.n.toNat:=by unfold ae.bx;omega
theorem Bh {p g:ae} (h:Good l) (e:bG l p g=some m) :
 Good m/\qR l m/\mP p g=true/\g.ground=true/\(∀ i,i < p.bx->cu m (p.arg i)=g.arg i)/\∀ s t,bE m s=(t,true)->bE l s=(t,true)\/∃ i,i < p.bx/\(p.arg i).v=true/\(p.arg i).s=s/\t=g.arg i:=by
 unfold bG at e
 split at e
 .cases e
 rename_i hc
 split at e
 .cases e
 have ha:mP p g=true:=by
  cases hq:mP p g
  .exact absurd (.inr (.inl hq)) hc
  .rfl
 have hg:g.ground=true:=by
  cases hq:g.ground
  .exact absurd (.inr (.inr hq)) hc
  .rfl
 obtain ⟨_,_,e3,e4,e5⟩:=cp.1 ha
 rw [<- Zb e4 e5] at e
 have GU:g.bx=p.bx:=by unfold ae.bx;rw [e3]
 obtain ⟨f1,f2,f3,f4⟩:=zil h (λi hi=>dG.1 hg i (by rw [GU];exact hi)) e
 exact ⟨f1,f2,ha,hg,f3,f4⟩
theorem ztP {gs:aN}:∀ {l m:List au},Good l->gs.length=ps.length->Gs ps gs l=some m ->
 Good m/\qR l m/\(∀ (k:Nat) p g,ps[k]? = some p->gs[k]? = some g->mP p g=true/\g.ground=true/\∀ i,i < p.bx->cu m (p.arg i)=g.arg i) /\
  ∀ s t,bE m s=(t,true)->bE l s=(t,true)\/∃ p∈ps,∃ g∈gs,g.bx=p.bx/\∃ i,i < p.bx/\(p.arg i).v=true/\(p.arg i).s=s/\t=g.arg i:=by
 induction ps generalizing gs with
 |nil =>
  intro l m h hl e
  have tO:gs=[]:=by simpa using hl
  subst tO
  cases e
  exact ⟨h,qR.refl _,λk p g hp=>by simp at hp,λs t q=>.inl q⟩
 |cons p ps ih =>
  intro l m h hl e
  match gs,hl,e with
  |g::gs,hl,e =>
   have nb:gs.length=ps.length:=by simpa using hl
   have e:(bG l p g).bind (Gs ps gs)=some m:=e
   cases hx:bG l p g with
   |none=>rw [hx] at e;cases e
   |some o =>
    rw [hx] at e
    obtain ⟨f1,f2,f3,f4,f5,f6⟩:=Bh h hx
    obtain ⟨g1,g2,g3,g4⟩:=ih f1 nb (show Gs ps gs o=some m from e)
    obtain ⟨_,_,e3,_,_⟩:=cp.1 f3
    have GU:g.bx=p.bx:=by unfold ae.bx;rw [e3]
    refine ⟨g1,f2.trans g2,λk p' g' lE wA=>?_,λs t q=>?_⟩
    .cases k with
     |zero =>
      simp at lE wA
      subst lE
      subst wA
      exact ⟨f3,f4,λi hi=>ztd g2 (f5 i hi) (dG.1 f4 i (by rw [GU];exact hi))⟩
     |succ k=>exact g3 k p' g' (by simpa using lE) (by simpa using wA)
    .rcases g4 s t q with q|⟨p',lE,g',wA,q⟩
     .rcases f6 s t q with q|⟨i,hi,q⟩
      .exact .inl q
      .exact .inr ⟨p,np,g,np,GU,i,hi,q⟩
     .exact .inr ⟨p',pS _ lE,g',pS _ wA,q⟩
def cN (l:List au) (a:ae):ae :=
 { a with t0:=if 0 < a.bx then cu l a.t0 else a.t0,t1:=if 1 < a.bx then cu l a.t1 else a.t1,t2:=if 2 < a.bx then cu l a.t2 else a.t2,t3:=if 3 < a.bx then cu l a.t3 else a.t3 }
theorem ztB (l:List au) (a:ae):(cN l a).bx=a.bx:=rfl
theorem xI (l:List au) (a:ae) (hi:i < 4):(cN l a).arg i=if i < a.bx then cu l (a.arg i) else a.arg i:=by
 have:i=0\/i=1\/i=2\/i=3:=by omega
 rcases this with rfl|rfl|rfl|rfl <;> rfl
theorem YC (a:ae):a.bx<=4:=by unfold ae.bx;omega
theorem bg.var (h:bg a) (hi:i < a.bx) (hv:(a.arg i).v=true):(a.arg i).s≠⟨#[]⟩:=by
 have:=h.fx i (bX.1 hi).2
 unfold dh at this
 rw [aD hv] at this
 intro e
 have hp:=this.pos
 rw [e] at hp
 exact absurd hp (by decide)
theorem bF.term (h:bF a) (hi:i < a.bx):(a.arg i).v=false/\(a.arg i).s≠⟨#[]⟩/\cJ (a.arg i).s:=by
 have hv:=dG.1 h.ground i hi
 have:=h.valid.fx i (bX.1 hi).2
 unfold dh at this
 rw [az (by rw [hv];decide)] at this
 refine ⟨hv,λe=>?_,this⟩
 have hp:=this.1.pos
 rw [e] at hp
 exact absurd hp (by decide)
def Bq (head:ae) (B9:aN):aN->List au->aN
 | [],l=>[cN l head]
 |p::ps,l=>B9.flatMap λa=>match bG l p a with
  |none=>[]
  |some m=>Bq head B9 ps m
theorem jR {head:ae}:∀ {l:List au},a∈Bq head hv ps l↔∃ gs m,gs.length=ps.length/\(∀ g∈gs,g∈hv)/\Gs ps gs l=some m/\a=cN m head:=by
 induction ps with
 |nil =>
  intro l
  constructor
  .intro h
   exact ⟨[],l,rfl,nofun,rfl,by simpa [Bq] using h⟩
  .rintro ⟨gs,m,h1,h2,h3,h4⟩
   have tO:gs=[]:=by simpa using h1
   subst tO
   cases h3
   simpa [Bq] using h4
 |cons p ps ih =>
  intro l
  unfold Bq
  rw [BE]
  constructor
  .rintro ⟨g,hg,h⟩
   cases hx:bG l p g with
   |none=>rw [hx] at h;cases h
   |some o =>
    rw [hx] at h
    obtain ⟨gs,m,h1,h2,h3,h4⟩:=ih.1 h
    refine ⟨g::gs,m,by simp [h1],λg' wA=>(df.1 wA).elim (λe=>e ▸ hg) (h2 g'),?_,h4⟩
    show (bG l p g).bind (Gs ps gs)=some m
    rw [hx]
    exact h3
  .rintro ⟨gs,m,h1,h2,h3,h4⟩
   match gs,h1,h2,h3 with
   |g::gs,h1,h2,h3 =>
    have h3:(bG l p g).bind (Gs ps gs)=some m:=h3
    refine ⟨g,h2 g np,?_⟩
    cases hx:bG l p g with
    |none=>rw [hx] at h3;cases h3
    |some o =>
     rw [hx] at h3
     exact ih.2 ⟨gs,m,by simpa using h1,λg' wA=>h2 g' (pS _ wA),h3,h4⟩
def rT (cl:List ak) (facts hv:aN):aN:=facts++cl.flatMap λc=>Bq c.head hv c.body []
def Bw (cl:List ak) (facts hv:aN):aN:=gW (rT cl facts hv)
theorem zub {c:ak} (hc:jI c) (hf:∀ a∈hv,bF a) (h:a∈Bq c.head hv c.body []):bF a:=by
 obtain ⟨gs,m,h1,h2,h3,rfl⟩:=jR.1 h
 obtain ⟨f1,f2,f3,f4⟩:=ztP dZ h1 h3
 have hbound:∀ i,i < c.head.bx->(c.head.arg i).v=true->∃ t,bE m (c.head.arg i).s=(t,true)/\t.v=false/\cJ t.s:=by
  intro i hi hv
  obtain ⟨b,hb,ph⟩:=hc.mM _ (jl.2 ⟨i,hi,hv,rfl⟩)
  obtain ⟨j,hj,hvj,hsj⟩:=jl.1 ph
  obtain ⟨k,hk,rfl⟩:=zf hb
  have hkg:k < gs.length:=by omega
  obtain ⟨a1,a2,a3⟩:=f3 k _ _ (iH hk) (iH hkg)
  have hgf:=hf _ (h2 _ (List.getElem_mem hkg))
  have GU:(gs[k]).bx=(c.body[k]).bx:=by unfold ae.bx;rw [(cp.1 a1).2.2.1]
  have ht:=hgf.term (i:=j) (by rw [GU];exact hj)
  refine ⟨_,?_,ht.1,ht.2.2⟩
  rw [<- hsj]
  exact XL (a3 j hj) hvj ht.1
 have J3:∀ i,i < c.head.bx->((cN m c.head).arg i).v=false/\dh ((cN m c.head).arg i):=by
  intro i hi
  rw [xI m c.head (by have:=YC c.head;omega),aD hi]
  cases lX:(c.head.arg i).v
  .rw [xL lX]
   exact ⟨lX,hc.head.fx i (bX.1 hi).2⟩
  .obtain ⟨t,e1,e2,e3⟩:=hbound i hi lX
   rw [MI e1 lX]
   refine ⟨e2,?_⟩
   unfold dh
   rw [az (by rw [e2];decide)]
   exact e3
 refine ⟨⟨hc.head.says,hc.head.pred,hc.head.lo,hc.head.hi,λi hi=>(J3 i (by have:=hc.head.hi;have wF:(i:Int) < c.head.n:=hi;exact bX.2 ⟨by omega,wF⟩)).2,λi hi h4=>?_⟩,dG.2 (λi hi=>(J3 i hi).1)⟩
 have wF:c.head.n<=(i:Int):=hi
 rw [xI m c.head h4,az (by intro hh;have:=(bX.1 hh).2;omega)]
 exact hc.head.rest i wF h4
theorem Qt {cl:List ak} {facts:aN} (hm:du cl facts) (hf:∀ a∈hv,bF a):∀ a∈rT cl facts hv,bF a:=by
 intro a ha
 unfold rT at ha
 rcases gg.1 ha with h|h
 .exact hm.facts a h
 .obtain ⟨c,hc,h⟩:=BE.1 h
  exact zub (hm.clauses c hc) hf h
theorem bF.plain {a:ae} (h:bF a):gY a:=h.valid.valid.plain
theorem F0 {l:aN} (h:∀ a∈l,bF a):lx l:=λa ha=>(h a ha).plain
theorem M8 {cl:List ak} {facts:aN} (hm:du cl facts) (hf:∀ a∈hv,bF a):a∈Bw cl facts hv↔a∈rT cl facts hv:=CP (F0 (Qt hm hf))
theorem zuY {cl:List ak} {facts:aN} (hm:du cl facts) (hf:∀ a∈hv,bF a):∀ a∈Bw cl facts hv,bF a:=λa ha=>Qt hm hf a ((M8 hm hf).1 ha)
theorem zxF (cl:List ak) (facts hv:aN):gh (Bw cl facts hv):=(yQ _).kJ
theorem zuc {head:ae} {h1 h2:aN} (hs:∀ a∈h1,a∈h2) (h:a∈Bq head h1 ps l):a∈Bq head h2 ps l:=by
 obtain ⟨gs,m,g1,g2,g3,g4⟩:=jR.1 h
 exact jR.2 ⟨gs,m,g1,λg hg=>hs g (g2 g hg),g3,g4⟩
theorem Qu {cl mq:List ak} {facts cK h1 h2:aN} (hc:∀ c∈cl,c∈mq) (hf:∀ a∈facts,a∈cK) (hs:∀ a∈h1,a∈h2) (h:a∈rT cl facts h1):a∈rT mq cK h2:=by
 unfold rT at *
 rcases gg.1 h with h|h
 .exact xX _ (hf a h)
 .obtain ⟨c,kO,h⟩:=BE.1 h
  exact H3 _ (BE.2 ⟨c,hc c kO,zuc hs h⟩)
def ga (cl:List ak) (facts:aN):Nat->aN
 |0=>[]
 |n+1=>Bw cl facts (ga cl facts n)
section
variable {cl:List ak} {facts:aN}
theorem CO (hm:du cl facts):∀ n,∀ a∈ga cl facts n,bF a
 |0=>nofun
 |n+1=>zuY hm (CO hm n)
theorem Nb (cl:List ak) (facts:aN):∀ n,gh (ga cl facts n)
 |0=>List.Pairwise.nil
 |n+1=>zxF _ _ _
theorem zwR (hm:du cl facts):∀ n,∀ a∈ga cl facts n,a∈ga cl facts (n+1)
 |0=>nofun
 |n+1=>λa ha=>(M8 hm (CO hm (n+1))).2 (Qu (λ_ h=>h) (λ_ h=>h) (zwR hm n) ((M8 hm (CO hm n)).1 ha))
theorem QG:∀ {s2 s1:aN},gh s1->gh s2->(∀ a∈s1,a∈s2)->s1.Sublist s2
 | [],[],_,_,_=>List.Sublist.slnil
 | [],x::r,_,_,h=>absurd (h x np) (by simp)
 |y::t,[],_,_,_=>List.nil_sublist _
 |y::t,x::r,a1,a2,h=>by
  obtain ⟨b1,b2⟩:=vt.1 a1
  obtain ⟨c1,c2⟩:=vt.1 a2
  rcases df.1 (h x np) with e|e
  .subst e
   refine (QG b2 c2 (λa ha=>?_)).cons_cons _
   rcases df.1 (h a (pS _ ha)) with e|e
   .exact absurd (b1 a ha) (by rw [e,FR];decide)
   .exact e
  .refine (QG a1 c2 (λa ha=>?_)).cons _
   rcases df.1 (h a ha) with e2|e2
   .exfalso
    have AE:=c1 x e
    rcases df.1 ha with e3|e3
    .rw [<- e3,e2,FR] at AE
     exact absurd AE (by decide)
    .have:=b1 a e3
     rw [e2] at this
     exact zlr AE this
   .exact e2
theorem zvR {s1 s2:aN} (h1:gh s1) (h2:gh s2) (h:∀ a∈s1,a∈s2):s1.length<=s2.length/\(s1.length=s2.length->s1=s2) :=
 ⟨(QG h1 h2 h).length_le,λe=>(QG h1 h2 h).eq_of_length e⟩
end
end Go.Am
