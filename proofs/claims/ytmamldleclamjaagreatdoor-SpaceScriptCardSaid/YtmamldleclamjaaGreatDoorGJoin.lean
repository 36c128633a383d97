/- Matching, joining and rounds as plain functions: what they give, and that nothing is missed. No condition. -/
import Derived.Test.YtmamldleclamjaaGreatDoorG14
import Derived.Test.YtmamldleclamjaaGreatDoorG16
set_option linter.unusedSimpArgs false
set_option linter.unusedVariables false
noncomputable section
namespace Go.Am
variable {l m:List bp} {t:aZ} {s:au} {b:bp} {a:aj} {hv ps:aN} {i:Nat}
structure Good (l:List bp):Prop where
 up:Hh l l.length
 ok:∀ b∈l,b.term.v=false/\b.term.s≠⟨#[]⟩
theorem Good.chk (h:Good l):D5 l:=⟨h.up,λb hb=>⟨(h.ok b hb).2,by rw [(h.ok b hb).1];simp⟩⟩
theorem zyP:Good []:=⟨zuK (i6 _),nofun⟩
theorem Dq (x:bp) (l:List bp) (s:au):iP (x::l) s=if x.var=s then (x.term,true) else iP l s:=by
 unfold iP
 rw [List.find?_cons]
 by_cases h:x.var=s <;> simp [h]
theorem zuZ (h:iP l s=(t,true)):⟨s,t⟩∈l:=by
 induction l with
 |nil=>cases h
 |cons x l ih =>
  rw [Dq] at h
  split at h
  .rename_i hx
   cases h
   subst hx
   exact fZ
  .exact eQ _ (ih h)
theorem zl2 (h:(iP l s).2=false):∀ b∈l,b.var≠s:=by
 induction l with
 |nil=>intro b hb;cases hb
 |cons x l ih =>
  rw [Dq] at h
  split at h
  .cases h
  .rename_i hx
   intro b hb
   rcases cJ.1 hb with rfl|hb
   .exact hx
   .exact ih h b hb
theorem zpR (h:(iP l s).2=true):iP l s=((iP l s).1,true):=by
 rw [<- h]
theorem zkT (b:bp):wX [] b=[b]:=rfl
theorem zhH (x:bp) (l:List bp) (b:bp):wX (x::l) b=if slt b.var x.var=true then b::x::l else x::wX l b:=by
 unfold wX
 rw [List.takeWhile_cons,List.dropWhile_cons]
 cases h:slt b.var x.var <;> simp
theorem o9 {y:bp}:y∈wX l b↔y=b\/y∈l:=by
 induction l with
 |nil=>simp [zkT]
 |cons x l ih =>
  rw [zhH]
  split
  .simp
  .simp only [cJ,ih]
   constructor
   .rintro (h|h|h)
    .exact .inr (.inl h)
    .exact .inl h
    .exact .inr (.inr h)
   .rintro (h|h|h)
    .exact .inr (.inl h)
    .exact .inl h
    .exact .inr (.inr h)
theorem zgo (hn:(iP l b.var).2=false) (s:au):iP (wX l b) s=if b.var=s then (b.term,true) else iP l s:=by
 induction l with
 |nil=>rw [zkT,Dq]
 |cons x l ih =>
  have hx:=zl2 hn x fZ
  rw [Dq,aA hx] at hn
  rw [zhH]
  split
  .rw [Dq]
  .rw [Dq,ih hn,Dq]
   by_cases h:x.var=s
   .subst h
    rw [aB rfl,aA (λe=>hx e.symm),aB rfl]
   .rw [aA h,aA h]
theorem zuJ:Hh l l.length↔l.Pairwise λx y=>slt x.var y.var=true:=by
 constructor
 .intro h
  rw [Qa]
  intro i j hi hj dp
  exact zxG h dp (ie hi) (ie hj)
 .intro h k x y hk hx hy
  rw [Qa] at h
  obtain ⟨h1,e1⟩:=dH.1 hx
  obtain ⟨h2,e2⟩:=dH.1 hy
  have:=h k (k+1) h1 h2 (so _)
  rw [e1,e2] at this
  exact this
theorem zrn (h:Hh l l.length) (hn:(iP l b.var).2=false):Hh (wX l b) (wX l b).length:=by
 rw [zuJ] at h ⊢
 induction l with
 |nil=>rw [zkT];exact Tm _ _
 |cons x l ih =>
  have hx:=zl2 hn x fZ
  rw [Dq,aA hx] at hn
  rw [nQ] at h
  rw [zhH]
  split
  .rename_i hs
   refine nQ.2 ⟨λy hy=>?_,nQ.2 h⟩
   rcases cJ.1 hy with rfl|hy
   .exact hs
   .exact zkv hs (h.1 y hy)
  .rename_i hs
   refine nQ.2 ⟨λy hy=>?_,ih h.2 hn⟩
   rcases o9.1 hy with rfl|hy
   .cases hq:slt x.var y.var
    .exact absurd (zpK hq (by simpa using hs)) hx
    .rfl
   .exact h.1 y hy
theorem Good.get (h:Good l) (e:iP l s=(t,true)):t.v=false/\t.s≠⟨#[]⟩:=h.ok _ (zuZ e)
theorem Good.with (h:Good l) (hn:(iP l b.var).2=false) (hv:b.term.v=false) (hs:b.term.s≠⟨#[]⟩):Good (wX l b) :=
 ⟨zrn h.up hn,λy hy=>(o9.1 hy).elim (λe=>by rw [e];exact ⟨hv,hs⟩) (h.ok y)⟩
theorem PC (h:t.v=false):oJ l t=t:=by
 unfold oJ
 rw [aA (by rw [h];simp)]
theorem SB {u:aZ} (h:iP l t.s=(u,true)) (hv:t.v=true):oJ l t=u:=by
 unfold oJ
 rw [h,aB ⟨rfl,hv⟩]
theorem zl6 {u:aZ} (h:oJ l t=u) (hv:t.v=true) (hu:u.v=false):iP l t.s=(u,true):=by
 unfold oJ at h
 split at h
 .rename_i hc
  rw [zpR hc.1,h]
 .rw [h,hu] at hv
  cases hv
theorem zrL (h:Good l):zyf l m=l:=by
 unfold zyf
 conv=>rhs;rw [<- List.map_id l]
 refine JB (λb hb=>?_)
 rw [PC (h.ok b hb).1]
 rfl
theorem ztt (h:Good l) {v:au} (hv:v≠⟨#[]⟩) (ht:t.v=false) (hs:t.s≠⟨#[]⟩) (hn:(iP l v).2=false):QR l v t=some (wX l ⟨v,t⟩):=by
 unfold QR
 rw [aA (by simpa using h.chk),aA (λe=>e.elim hv hs),aA (by rw [hn];decide),PC ht,aA (by unfold NH;simp [ht]),zrL h]
theorem ztu {v:au} (h:QR l v t=some m):v≠⟨#[]⟩/\t.s≠⟨#[]⟩/\(iP l v).2=false:=by
 unfold QR at h
 split at h
 .cases h
 split at h
 .cases h
 rename_i h2
 split at h
 .cases h
 rename_i h3
 exact ⟨λe=>h2 (.inl e),λe=>h2 (.inr e),by simpa using h3⟩
def rH (l m:List bp):Prop:=∀ s t,iP l s=(t,true)->iP m s=(t,true)
theorem rH.refl (l:List bp):rH l l:=λ_ _ h=>h
theorem rH.trans {a b c:List bp} (h:rH a b) (g:rH b c):rH a c:=λs t e=>g s t (h s t e)
theorem zy4 (hn:(iP l b.var).2=false):rH l (wX l b):=λs t h=>by
 rw [zgo hn,aA]
 .exact h
 .intro e
  rw [e,h] at hn
  cases hn
theorem zs2 {x y:aZ} (h:rH l m) (e:oJ l x=y) (hy:y.v=false):oJ m x=y:=by
 cases hv:x.v
 .rw [PC hv] at e ⊢
  exact e
 .exact SB (h _ _ (zl6 e hv hy)) hv
theorem zrj {out:List bp} {x y:aZ} (h:Good out) (hy:y.v=false) (e:TM out x y=some m) :
 Good m/\rH out m/\oJ m x=y/\∀ s t,iP m s=(t,true)->iP out s=(t,true)\/(x.v=true/\x.s=s/\t=y):=by
 unfold TM at e
 split at e
 .rename_i hx
  split at e
  .rename_i dm
   cases e
   subst dm
   exact ⟨h,rH.refl _,PC hx,λs t g=>.inl g⟩
  .cases e
 .rename_i hx
  have hx:x.v=true:=by simpa using hx
  split at e
  .rename_i hb
   split at e
   .rename_i hz
    cases e
    refine ⟨h,rH.refl _,?_,λs t g=>.inl g⟩
    rw [<- hz]
    exact SB (zpR hb) hx
   .cases e
  .rename_i hb
   have hb:(iP out x.s).2=false:=by simpa using hb
   obtain ⟨g1,g2,g3⟩:=ztu e
   rw [ztt h g1 hy g2 hb] at e
   cases e
   refine ⟨h.with hb hy g2,zy4 hb,?_,λs t g=>?_⟩
   .refine SB ?_ hx
    rw [zgo hb,aB rfl]
   .rw [zgo hb] at g
    split at g
    .rename_i hs
     cases g
     exact .inr ⟨hx,hs,rfl⟩
    .exact .inl g
theorem zh6 {p g:aj} {out:List bp} (h:Good out):∀ {k:Nat} {m:List bp},(∀ i,i < k->(g.arg i).v=false)->Qn p g k out=some m ->
 Good m/\rH out m/\(∀ i,i < k->oJ m (p.arg i)=g.arg i)/\∀ s t,iP m s=(t,true)->iP out s=(t,true)\/∃ i,i < k/\(p.arg i).v=true/\(p.arg i).s=s/\t=g.arg i
 |0,m,_,e=>by
  cases e
  exact ⟨h,rH.refl _,λi hi=>absurd hi (Nat.not_lt_zero _),λs t g=>.inl g⟩
 |k+1,m,hg,e=>by
  unfold Qn at e
  cases ho:Qn p g k out with
  |none=>rw [ho] at e;cases e
  |some o =>
   rw [ho] at e
   obtain ⟨g1,g2,g3,g4⟩:=zh6 h (λi hi=>hg i (Nat.lt_succ_of_lt hi)) ho
   obtain ⟨f1,f2,f3,f4⟩:=zrj g1 (hg k (so _)) (show TM o (p.arg k) (g.arg k)=some m from e)
   refine ⟨f1,g2.trans f2,λi hi=>?_,λs t eG=>?_⟩
   .by_cases he:i=k
    .subst he;exact f3
    .exact zs2 f2 (g3 i (by omega)) (hg i hi)
   .rcases f4 s t eG with q|q
    .rcases g4 s t q with q|⟨i,hi,q⟩
     .exact .inl q
     .exact .inr ⟨i,Nat.lt_succ_of_lt hi,q⟩
    .exact .inr ⟨k,so _,q⟩
theorem kc {b:aj}:Hm a b=true↔a.says=b.says/\a.pred=b.pred/\a.n=b.n/\0<=a.n/\a.n<=4:=by
 unfold Hm
 simp only [eo,jl]
theorem zAj (h0:0<=a.n) (h4:a.n<=4):a.bQ=a.n.toNat:=by unfold aj.bQ;omega
theorem zwe {p g:aj} (h:Good l) (e:nZ l p g=some m) :
 Good m/\rH l m/\Hm p g=true/\g.ground=true/\(∀ i,i < p.bQ->oJ m (p.arg i)=g.arg i)/\∀ s t,iP m s=(t,true)->iP l s=(t,true)\/∃ i,i < p.bQ/\(p.arg i).v=true/\(p.arg i).s=s/\t=g.arg i:=by
 unfold nZ at e
 split at e
 .cases e
 rename_i hc
 split at e
 .cases e
 have ha:Hm p g=true:=by
  cases hq:Hm p g
  .exact absurd (.inr (.inl hq)) hc
  .rfl
 have hg:g.ground=true:=by
  cases hq:g.ground
  .exact absurd (.inr (.inr hq)) hc
  .rfl
 obtain ⟨_,_,e3,e4,e5⟩:=kc.1 ha
 rw [<- zAj e4 e5] at e
 have Ig:g.bQ=p.bQ:=by unfold aj.bQ;rw [e3]
 obtain ⟨f1,f2,f3,f4⟩:=zh6 h (λi hi=>fh.1 hg i (by rw [Ig];exact hi)) e
 exact ⟨f1,f2,ha,hg,f3,f4⟩
theorem ztw {gs:aN}:∀ {l m:List bp},Good l->gs.length=ps.length->HJ ps gs l=some m ->
 Good m/\rH l m/\(∀ (k:Nat) p g,ps[k]? = some p->gs[k]? = some g->Hm p g=true/\g.ground=true/\∀ i,i < p.bQ->oJ m (p.arg i)=g.arg i) /\
  ∀ s t,iP m s=(t,true)->iP l s=(t,true)\/∃ p∈ps,∃ g∈gs,g.bQ=p.bQ/\∃ i,i < p.bQ/\(p.arg i).v=true/\(p.arg i).s=s/\t=g.arg i:=by
 induction ps generalizing gs with
 |nil =>
  intro l m h hl e
  have u7:gs=[]:=by simpa using hl
  subst u7
  cases e
  exact ⟨h,rH.refl _,λk p g hp=>by simp at hp,λs t q=>.inl q⟩
 |cons p ps ih =>
  intro l m h hl e
  match gs,hl,e with
  |g::gs,hl,e =>
   have kq:gs.length=ps.length:=by simpa using hl
   have e:(nZ l p g).bind (HJ ps gs)=some m:=e
   cases hx:nZ l p g with
   |none=>rw [hx] at e;cases e
   |some o =>
    rw [hx] at e
    obtain ⟨f1,f2,f3,f4,f5,f6⟩:=zwe h hx
    obtain ⟨g1,g2,g3,g4⟩:=ih f1 kq (show HJ ps gs o=some m from e)
    obtain ⟨_,_,e3,_,_⟩:=kc.1 f3
    have Ig:g.bQ=p.bQ:=by unfold aj.bQ;rw [e3]
    refine ⟨g1,f2.trans g2,λk p' g' mn u6=>?_,λs t q=>?_⟩
    .cases k with
     |zero =>
      simp at mn u6
      subst mn
      subst u6
      exact ⟨f3,f4,λi hi=>zs2 g2 (f5 i hi) (fh.1 f4 i (by rw [Ig];exact hi))⟩
     |succ k=>exact g3 k p' g' (by simpa using mn) (by simpa using u6)
    .rcases g4 s t q with q|⟨p',mn,g',u6,q⟩
     .rcases f6 s t q with q|⟨i,hi,q⟩
      .exact .inl q
      .exact .inr ⟨p,fZ,g,fZ,Ig,i,hi,q⟩
     .exact .inr ⟨p',eQ _ mn,g',eQ _ u6,q⟩
def Qv (l:List bp) (a:aj):aj :=
 { a with t0:=if 0 < a.bQ then oJ l a.t0 else a.t0,t1:=if 1 < a.bQ then oJ l a.t1 else a.t1,t2:=if 2 < a.bQ then oJ l a.t2 else a.t2,t3:=if 3 < a.bQ then oJ l a.t3 else a.t3 }
theorem zlr (l:List bp) (a:aj) (hi:i < 4):(Qv l a).arg i=if i < a.bQ then oJ l (a.arg i) else a.arg i:=by
 have:i=0\/i=1\/i=2\/i=3:=by omega
 rcases this with rfl|rfl|rfl|rfl <;> rfl
theorem Tp (a:aj):a.bQ<=4:=by unfold aj.bQ;omega
theorem gR.var (h:gR a) (hi:i < a.bQ) (hv:(a.arg i).v=true):(a.arg i).s≠⟨#[]⟩:=by
 have:=h.iW i (fJ.1 hi).2
 unfold dt at this
 rw [aB hv] at this
 intro e
 have hp:=this.pos
 rw [e] at hp
 exact absurd hp (by decide)
theorem eE.term (h:eE a) (hi:i < a.bQ):(a.arg i).v=false/\(a.arg i).s≠⟨#[]⟩/\gd (a.arg i).s:=by
 have hv:=fh.1 h.ground i hi
 have:=h.valid.iW i (fJ.1 hi).2
 unfold dt at this
 rw [aA (by rw [hv];decide)] at this
 refine ⟨hv,λe=>?_,this⟩
 have hp:=this.1.pos
 rw [e] at hp
 exact absurd hp (by decide)
def B8 (head:aj) (j6:aN):aN->List bp->aN
 | [],l=>[Qv l head]
 |p::ps,l=>j6.flatMap λa=>match nZ l p a with
  |none=>[]
  |some m=>B8 head j6 ps m
theorem kA {head:aj}:∀ {l:List bp},a∈B8 head hv ps l↔∃ gs m,gs.length=ps.length/\(∀ g∈gs,g∈hv)/\HJ ps gs l=some m/\a=Qv m head:=by
 induction ps with
 |nil =>
  intro l
  constructor
  .intro h
   exact ⟨[],l,rfl,nofun,rfl,by simpa [B8] using h⟩
  .rintro ⟨gs,m,h1,h2,h3,h4⟩
   have u7:gs=[]:=by simpa using h1
   subst u7
   cases h3
   simpa [B8] using h4
 |cons p ps ih =>
  intro l
  unfold B8
  rw [DP]
  constructor
  .rintro ⟨g,hg,h⟩
   cases hx:nZ l p g with
   |none=>rw [hx] at h;cases h
   |some o =>
    rw [hx] at h
    obtain ⟨gs,m,h1,h2,h3,h4⟩:=ih.1 h
    refine ⟨g::gs,m,by simp [h1],λg' u6=>(cJ.1 u6).elim (λe=>e ▸ hg) (h2 g'),?_,h4⟩
    show (nZ l p g).bind (HJ ps gs)=some m
    rw [hx]
    exact h3
  .rintro ⟨gs,m,h1,h2,h3,h4⟩
   match gs,h1,h2,h3 with
   |g::gs,h1,h2,h3 =>
    have h3:(nZ l p g).bind (HJ ps gs)=some m:=h3
    refine ⟨g,h2 g fZ,?_⟩
    cases hx:nZ l p g with
    |none=>rw [hx] at h3;cases h3
    |some o =>
     rw [hx] at h3
     exact ih.2 ⟨gs,m,by simpa using h1,λg' u6=>h2 g' (eQ _ u6),h3,h4⟩
def tq (cl:List bw) (facts hv:aN):aN:=facts++cl.flatMap λc=>B8 c.head hv c.body []
def Hx (cl:List bw) (facts hv:aN):aN:=eW (tq cl facts hv)
theorem ztT {c:bw} (hc:KU c) (hf:∀ a∈hv,eE a) (h:a∈B8 c.head hv c.body []):eE a:=by
 obtain ⟨gs,m,h1,h2,h3,rfl⟩:=kA.1 h
 obtain ⟨f1,f2,f3,f4⟩:=ztw zyP h1 h3
 have hbound:∀ i,i < c.head.bQ->(c.head.arg i).v=true->∃ t,iP m (c.head.arg i).s=(t,true)/\t.v=false/\gd t.s:=by
  intro i hi hv
  obtain ⟨b,hb,o7⟩:=hc.GB _ (jI.2 ⟨i,hi,hv,rfl⟩)
  obtain ⟨j,hj,hvj,hsj⟩:=jI.1 o7
  obtain ⟨k,hk,rfl⟩:=Qt hb
  have hkg:k < gs.length:=by omega
  obtain ⟨a1,a2,a3⟩:=f3 k _ _ (ie hk) (ie hkg)
  have hgf:=hf _ (h2 _ (List.getElem_mem hkg))
  have Ig:(gs[k]).bQ=(c.body[k]).bQ:=by unfold aj.bQ;rw [(kc.1 a1).2.2.1]
  have ht:=hgf.term (i:=j) (by rw [Ig];exact hj)
  refine ⟨_,?_,ht.1,ht.2.2⟩
  rw [<- hsj]
  exact zl6 (a3 j hj) hvj ht.1
 have Me:∀ i,i < c.head.bQ->((Qv m c.head).arg i).v=false/\dt ((Qv m c.head).arg i):=by
  intro i hi
  rw [zlr m c.head (by have:=Tp c.head;omega),aB hi]
  cases mK:(c.head.arg i).v
  .rw [PC mK]
   exact ⟨mK,hc.head.iW i (fJ.1 hi).2⟩
  .obtain ⟨t,e1,e2,e3⟩:=hbound i hi mK
   rw [SB e1 mK]
   refine ⟨e2,?_⟩
   unfold dt
   rw [aA (by rw [e2];decide)]
   exact e3
 refine ⟨⟨hc.head.says,hc.head.pred,hc.head.lo,hc.head.hi,λi hi=>(Me i (by have:=hc.head.hi;have Bc:(i:Int) < c.head.n:=hi;exact fJ.2 ⟨by omega,Bc⟩)).2,λi hi h4=>?_⟩,fh.2 (λi hi=>(Me i hi).1)⟩
 have Bc:c.head.n<=(i:Int):=hi
 rw [zlr m c.head h4,aA (by intro hh;have:=(fJ.1 hh).2;omega)]
 exact hc.head.rest i Bc h4
theorem Tg {cl:List bw} {facts:aN} (hm:iE cl facts) (hf:∀ a∈hv,eE a):∀ a∈tq cl facts hv,eE a:=by
 intro a ha
 unfold tq at ha
 rcases iA.1 ha with h|h
 .exact hm.facts a h
 .obtain ⟨c,hc,h⟩:=DP.1 h
  exact ztT (hm.clauses c hc) hf h
theorem eE.plain {a:aj} (h:eE a):iF a:=h.valid.valid.plain
theorem zqp {l:aN} (h:∀ a∈l,eE a):jN l:=λa ha=>(h a ha).plain
theorem zjR {cl:List bw} {facts:aN} (hm:iE cl facts) (hf:∀ a∈hv,eE a):a∈Hx cl facts hv↔a∈tq cl facts hv:=IY (zqp (Tg hm hf))
theorem zuM {cl:List bw} {facts:aN} (hm:iE cl facts) (hf:∀ a∈hv,eE a):∀ a∈Hx cl facts hv,eE a:=λa ha=>Tg hm hf a ((zjR hm hf).1 ha)
theorem zxH (cl:List bw) (facts hv:aN):dG (Hx cl facts hv):=(pe _).gK
theorem ztU {head:aj} {h1 h2:aN} (hs:∀ a∈h1,a∈h2) (h:a∈B8 head h1 ps l):a∈B8 head h2 ps l:=by
 obtain ⟨gs,m,g1,g2,g3,g4⟩:=kA.1 h
 exact kA.2 ⟨gs,m,g1,λg hg=>hs g (g2 g hg),g3,g4⟩
theorem zne {cl tP:List bw} {facts eL h1 h2:aN} (hc:∀ c∈cl,c∈tP) (hf:∀ a∈facts,a∈eL) (hs:∀ a∈h1,a∈h2) (h:a∈tq cl facts h1):a∈tq tP eL h2:=by
 unfold tq at *
 rcases iA.1 h with h|h
 .exact Jl _ (hf a h)
 .obtain ⟨c,Fh,h⟩:=DP.1 h
  exact Jn _ (DP.2 ⟨c,hc c Fh,ztU hs h⟩)
def iD (cl:List bw) (facts:aN):Nat->aN
 |0=>[]
 |n+1=>Hx cl facts (iD cl facts n)
section
variable {cl:List bw} {facts:aN}
theorem IX (hm:iE cl facts):∀ n,∀ a∈iD cl facts n,eE a
 |0=>nofun
 |n+1=>zuM hm (IX hm n)
theorem zsq (cl:List bw) (facts:aN):∀ n,dG (iD cl facts n)
 |0=>List.Pairwise.nil
 |n+1=>zxH _ _ _
theorem zwD (hm:iE cl facts):∀ n,∀ a∈iD cl facts n,a∈iD cl facts (n+1)
 |0=>nofun
 |n+1=>λa ha=>(zjR hm (IX hm (n+1))).2 (zne (λ_ h=>h) (λ_ h=>h) (zwD hm n) ((zjR hm (IX hm n)).1 ha))
theorem TE:∀ {s2 s1:aN},dG s1->dG s2->(∀ a∈s1,a∈s2)->s1.Sublist s2
 | [],[],_,_,_=>List.Sublist.slnil
 | [],x::r,_,_,h=>absurd (h x fZ) (by simp)
 |y::t,[],_,_,_=>List.nil_sublist _
 |y::t,x::r,a1,a2,h=>by
  obtain ⟨b1,b2⟩:=nQ.1 a1
  obtain ⟨c1,c2⟩:=nQ.1 a2
  rcases cJ.1 (h x fZ) with e|e
  .subst e
   refine (TE b2 c2 (λa ha=>?_)).cons_cons _
   rcases cJ.1 (h a (eQ _ ha)) with e|e
   .exact absurd (b1 a ha) (by rw [e,Dr];decide)
   .exact e
  .refine (TE a1 c2 (λa ha=>?_)).cons _
   rcases cJ.1 (h a ha) with e2|e2
   .exfalso
    have th:=c1 x e
    rcases cJ.1 ha with e3|e3
    .rw [<- e3,e2,Dr] at th
     exact absurd th (by decide)
    .have:=b1 a e3
     rw [e2] at this
     exact SG th this
   .exact e2
theorem zAQ {s1 s2:aN} (h1:dG s1) (h2:dG s2) (h:∀ a∈s1,a∈s2):s1.length<=s2.length/\(s1.length=s2.length->s1=s2) :=
 ⟨(TE h1 h2 h).length_le,λe=>(TE h1 h2 h).eq_of_length e⟩
end
end Go.Am
