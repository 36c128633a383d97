/- Matching, joining and rounds as plain functions: what they give, and that nothing is missed. No condition. -/
import Derived.Test.YtnkmeidmdaidhaaGreatDoorG19
set_option linter.unusedSimpArgs false
set_option linter.unusedVariables false
noncomputable section
namespace Go.Am
variable {l m:List av} {t x y:ay} {s:aV} {b:av} {a:ae} {hv ps:aN} {i:Nat}
structure Good (l:List av):Prop where
 up:lG l l.length
 ok:∀ b∈l,b.term.v=false/\b.term.s≠⟨#[]⟩
theorem Good.qR (h:Good l):dX l:=⟨h.up,λb hb=>⟨(h.ok b hb).2,by rw [(h.ok b hb).1];simp⟩⟩
theorem di:Good []:=⟨zlw (jl _),nofun⟩
theorem qq (x:av) (l:List av) (s:aV):bx (x::l) s=if x.var=s then (x.term,true) else bx l s:=by
 unfold bx
 rw [List.find?_cons]
 by_cases h:x.var=s <;> simp [h]
theorem zum (s:aV):bx [] s=(bX,false):=rfl
theorem Ll (h:bx l s=(t,true)):⟨s,t⟩∈l:=by
 induction l with
 |nil=>cases h
 |cons x l ih =>
  rw [qq] at h
  split at h
  .rename_i hx
   cases h
   subst hx
   exact nU
  .exact rN _ (ih h)
theorem VT (h:(bx l s).2=false):∀ b∈l,b.var≠s:=by
 induction l with
 |nil=>intro b hb;cases hb
 |cons x l ih =>
  rw [qq] at h
  split at h
  .cases h
  .rename_i hx
   intro b hb
   rcases db.1 hb with rfl|hb
   .exact hx
   .exact ih h b hb
theorem qx (h:(bx l s).2=true):bx l s=((bx l s).1,true):=by
 rw [<- h]
theorem Wr (b:av):j9 [] b=[b]:=rfl
theorem VZ (x:av) (l:List av) (b:av):j9 (x::l) b=if slt b.var x.var=true then b::x::l else x::j9 l b:=by
 unfold j9
 rw [List.takeWhile_cons,List.dropWhile_cons]
 cases h:slt b.var x.var <;> simp
theorem iZ {y:av}:y∈j9 l b↔y=b\/y∈l:=by
 induction l with
 |nil=>simp [Wr]
 |cons x l ih =>
  rw [VZ]
  split
  .simp
  .simp only [db,ih]
   constructor
   .rintro (h|h|h)
    .exact .inr (.inl h)
    .exact .inl h
    .exact .inr (.inr h)
   .rintro (h|h|h)
    .exact .inr (.inl h)
    .exact .inl h
    .exact .inr (.inr h)
theorem Ez (hn:(bx l b.var).2=false) (s:aV):bx (j9 l b) s=if b.var=s then (b.term,true) else bx l s:=by
 induction l with
 |nil=>rw [Wr,qq]
 |cons x l ih =>
  have hx:=VT hn x nU
  rw [qq,aA hx] at hn
  rw [VZ]
  split
  .rw [qq]
  .rw [qq,ih hn,qq]
   by_cases h:x.var=s
   .subst h
    rw [aB rfl,aA (λe=>hx e.symm),aB rfl]
   .rw [aA h,aA h]
theorem zt7:lG l l.length↔l.Pairwise λx y=>slt x.var y.var=true:=by
 constructor
 .intro h
  rw [List.pairwise_iff_getElem]
  intro i j hi hj fk
  exact Gx h fk (gG hi) (gG hj)
 .intro h k x y hk hx hy
  rw [List.pairwise_iff_getElem] at h
  obtain ⟨h1,e1⟩:=fR.1 hx
  obtain ⟨h2,e2⟩:=fR.1 hy
  have:=h k (k+1) h1 h2 (nj _)
  rw [e1,e2] at this
  exact this
theorem VI (h:lG l l.length) (hn:(bx l b.var).2=false):lG (j9 l b) (j9 l b).length:=by
 rw [zt7] at h ⊢
 induction l with
 |nil=>rw [Wr];exact List.pairwise_singleton _ _
 |cons x l ih =>
  have hx:=VT hn x nU
  rw [qq,aA hx] at hn
  rw [uF] at h
  rw [VZ]
  split
  .rename_i hs
   refine uF.2 ⟨λy hy=>?_,uF.2 h⟩
   rcases db.1 hy with rfl|hy
   .exact hs
   .exact Lu hs (h.1 y hy)
  .rename_i hs
   refine uF.2 ⟨λy hy=>?_,ih h.2 hn⟩
   rcases iZ.1 hy with rfl|hy
   .cases hq:slt x.var y.var
    .exact absurd (zpg hq (by simpa using hs)) hx
    .rfl
   .exact h.1 y hy
theorem Good.get (h:Good l) (e:bx l s=(t,true)):t.v=false/\t.s≠⟨#[]⟩:=h.ok _ (Ll e)
theorem Good.with (h:Good l) (hn:(bx l b.var).2=false) (hv:b.term.v=false) (hs:b.term.s≠⟨#[]⟩):Good (j9 l b) :=
 ⟨VI h.up hn,λy hy=>(iZ.1 hy).elim (λe=>by rw [e];exact ⟨hv,hs⟩) (h.ok y)⟩
theorem uh (h:t.v=false):b9 l t=t:=by
 unfold b9
 rw [aA (by rw [h];simp)]
theorem Lb {u:ay} (h:bx l t.s=(u,true)) (hv:t.v=true):b9 l t=u:=by
 unfold b9
 rw [h,aB ⟨rfl,hv⟩]
theorem VX {u:ay} (h:b9 l t=u) (hv:t.v=true) (hu:u.v=false):bx l t.s=(u,true):=by
 unfold b9 at h
 split at h
 .rename_i hc
  rw [qx hc.1,h]
 .rw [h,hu] at hv
  cases hv
theorem zrd (h:Good l):gm l m=l:=by
 unfold gm
 conv=>rhs;rw [<- List.map_id l]
 refine Cd (λb hb=>?_)
 rw [uh (h.ok b hb).1]
 rfl
theorem zla (h:Good l) {v:aV} (hv:v≠⟨#[]⟩) (ht:t.v=false) (hs:t.s≠⟨#[]⟩) (hn:(bx l v).2=false):iN l v t=some (j9 l ⟨v,t⟩):=by
 unfold iN
 rw [aA (by simpa using h.qR),aA (λe=>e.elim hv hs),aA (by rw [hn];decide),uh ht,aA (by unfold kZ;simp [ht]),zrd h]
theorem zs5 {v:aV} (h:iN l v t=some m):v≠⟨#[]⟩/\t.s≠⟨#[]⟩/\(bx l v).2=false:=by
 unfold iN at h
 split at h
 .cases h
 split at h
 .cases h
 rename_i h2
 split at h
 .cases h
 rename_i h3
 exact ⟨λe=>h2 (.inl e),λe=>h2 (.inr e),by simpa using h3⟩
def qf (l m:List av):Prop:=∀ s t,bx l s=(t,true)->bx m s=(t,true)
theorem qf.refl (l:List av):qf l l:=λ_ _ h=>h
theorem qf.trans {a b c:List av} (h:qf a b) (g:qf b c):qf a c:=λs t e=>g s t (h s t e)
theorem zx4 (hn:(bx l b.var).2=false):qf l (j9 l b):=λs t h=>by
 rw [Ez hn,aA]
 .exact h
 .intro e
  rw [e,h] at hn
  cases hn
theorem zsx (h:qf l m) (e:b9 l x=y) (hy:y.v=false):b9 m x=y:=by
 cases hv:x.v
 .rw [uh hv] at e ⊢
  exact e
 .exact Lb (h _ _ (VX e hv hy)) hv
def mP (σ:aV->ay) (l:List av):Prop:=∀ s t,bx l s=(t,true)->σ s=t
def dm (σ:aV->ay) (t:ay):ay:=if t.v=true then σ t.s else t
theorem zyH (σ:aV->ay):mP σ []:=λs t h=>by cases h
theorem zqO {out:List av} (h:Good out) (hy:y.v=false) (e:qB out x y=some m) :
 Good m/\qf out m/\b9 m x=y/\∀ s t,bx m s=(t,true)->bx out s=(t,true)\/(x.v=true/\x.s=s/\t=y):=by
 unfold qB at e
 split at e
 .rename_i hx
  split at e
  .rename_i cN
   cases e
   subst cN
   exact ⟨h,qf.refl _,uh hx,λs t g=>.inl g⟩
  .cases e
 .rename_i hx
  have hx:x.v=true:=by simpa using hx
  split at e
  .rename_i hb
   split at e
   .rename_i hz
    cases e
    refine ⟨h,qf.refl _,?_,λs t g=>.inl g⟩
    rw [<- hz]
    exact Lb (qx hb) hx
   .cases e
  .rename_i hb
   have hb:(bx out x.s).2=false:=by simpa using hb
   obtain ⟨g1,g2,g3⟩:=zs5 e
   rw [zla h g1 hy g2 hb] at e
   cases e
   refine ⟨h.with hb hy g2,zx4 hb,?_,λs t g=>?_⟩
   .refine Lb ?_ hx
    rw [Ez hb,aB rfl]
   .rw [Ez hb] at g
    split at g
    .rename_i hs
     cases g
     exact .inr ⟨hx,hs,rfl⟩
    .exact .inl g
theorem zt2 {out:List av} {σ:aV->ay} (h:Good out) (hs:mP σ out) (hy:y.v=false) (hye:y.s≠⟨#[]⟩) (hx:x.v=true->x.s≠⟨#[]⟩) (e:dm σ x=y) :
 ∃ m,qB out x y=some m/\mP σ m:=by
 unfold qB
 unfold dm at e
 split at e
 .rename_i hv
  rw [aA (by rw [hv];decide)]
  split
  .rename_i hb
   rw [aB ((hs _ _ (qx hb)).symm.trans e)]
   exact ⟨out,rfl,hs⟩
  .rename_i hb
   have hb:(bx out x.s).2=false:=by simpa using hb
   rw [zla h (hx hv) hy hye hb]
   refine ⟨_,rfl,λs t g=>?_⟩
   rw [Ez hb] at g
   split at g
   .rename_i eE
    have eE:x.s=s:=eE
    cases g
    rw [<- eE]
    exact e
   .exact hs s t g
 .rename_i hv
  rw [aB (by simpa using hv),aB e]
  exact ⟨out,rfl,hs⟩
theorem Vv {p g:ae} {out:List av} (h:Good out):∀ {k:Nat} {m:List av},(∀ i,i < k->(g.arg i).v=false)->pY p g k out=some m ->
 Good m/\qf out m/\(∀ i,i < k->b9 m (p.arg i)=g.arg i)/\∀ s t,bx m s=(t,true)->bx out s=(t,true)\/∃ i,i < k/\(p.arg i).v=true/\(p.arg i).s=s/\t=g.arg i
 |0,m,_,e=>by
  cases e
  exact ⟨h,qf.refl _,λi hi=>absurd hi (uH _),λs t g=>.inl g⟩
 |k+1,m,hg,e=>by
  unfold pY at e
  cases ho:pY p g k out with
  |none=>rw [ho] at e;cases e
  |some o =>
   rw [ho] at e
   obtain ⟨g1,g2,g3,g4⟩:=Vv h (λi hi=>hg i (Ci hi)) ho
   obtain ⟨f1,f2,f3,f4⟩:=zqO g1 (hg k (nj _)) (show qB o (p.arg k) (g.arg k)=some m from e)
   refine ⟨f1,g2.trans f2,λi hi=>?_,λs t cV=>?_⟩
   .by_cases he:i=k
    .subst he;exact f3
    .exact zsx f2 (g3 i (by omega)) (hg i hi)
   .rcases f4 s t cV with q|q
    .rcases g4 s t q with q|⟨i,hi,q⟩
     .exact .inl q
     .exact .inr ⟨i,Ci hi,q⟩
    .exact .inr ⟨k,nj _,q⟩
theorem zjN {p g:ae} {out:List av} {σ:aV->ay} (h:Good out) (hs:mP σ out):∀ {k:Nat},(∀ i,i < k->(g.arg i).v=false/\(g.arg i).s≠⟨#[]⟩)->(∀ i,i < k->(p.arg i).v=true->(p.arg i).s≠⟨#[]⟩)->(∀ i,i < k->dm σ (p.arg i)=g.arg i) ->
 ∃ m,pY p g k out=some m/\mP σ m
 |0,_,_,_=>⟨out,rfl,hs⟩
 |k+1,hg,hp,e=>by
  obtain ⟨o,ho,so⟩:=zjN h hs (k:=k) (λi hi=>hg i (Ci hi)) (λi hi=>hp i (Ci hi)) (λi hi=>e i (Ci hi))
  have g1:=(Vv h (λi hi=>(hg i (Ci hi)).1) ho).1
  obtain ⟨m,hm,sm⟩:=zt2 g1 so (hg k (nj _)).1 (hg k (nj _)).2 (hp k (nj _)) (e k (nj _))
  refine ⟨m,?_,sm⟩
  unfold pY
  rw [ho]
  exact hm
theorem bJ {b:ae}:kG a b=true↔a.says=b.says/\a.pred=b.pred/\a.n=b.n/\0<=a.n/\a.n<=4:=by
 unfold kG
 simp only [dW,ix]
theorem L6 (h0:0<=a.n) (h4:a.n<=4):a.bt=a.n.toNat:=by unfold ae.bt;omega
theorem xU {p g:ae} (h:Good l) (e:bz l p g=some m) :
 Good m/\qf l m/\kG p g=true/\g.ground=true/\(∀ i,i < p.bt->b9 m (p.arg i)=g.arg i)/\∀ s t,bx m s=(t,true)->bx l s=(t,true)\/∃ i,i < p.bt/\(p.arg i).v=true/\(p.arg i).s=s/\t=g.arg i:=by
 unfold bz at e
 split at e
 .cases e
 rename_i hc
 split at e
 .cases e
 have ha:kG p g=true:=by
  cases hq:kG p g
  .exact absurd (.inr (.inl hq)) hc
  .rfl
 have hg:g.ground=true:=by
  cases hq:g.ground
  .exact absurd (.inr (.inr hq)) hc
  .rfl
 obtain ⟨_,_,e3,e4,e5⟩:=bJ.1 ha
 rw [<- L6 e4 e5] at e
 have A5:g.bt=p.bt:=by unfold ae.bt;rw [e3]
 obtain ⟨f1,f2,f3,f4⟩:=Vv h (λi hi=>cf.1 hg i (by rw [A5];exact hi)) e
 exact ⟨f1,f2,ha,hg,f3,f4⟩
theorem zxP {p g:ae} {σ:aV->ay} (h:Good l) (hs:mP σ l) (ha:kG p g=true) (hg:∀ i,i < p.bt->(g.arg i).v=false/\(g.arg i).s≠⟨#[]⟩) (hp:∀ i,i < p.bt->(p.arg i).v=true->(p.arg i).s≠⟨#[]⟩) (e:∀ i,i < p.bt->dm σ (p.arg i)=g.arg i) :
 ∃ m,bz l p g=some m/\mP σ m:=by
 obtain ⟨_,_,e3,e4,e5⟩:=bJ.1 ha
 have A5:g.bt=p.bt:=by unfold ae.bt;rw [e3]
 have A9:g.ground=true:=cf.2 (λi hi=>(hg i (by rw [<- A5];exact hi)).1)
 unfold bz
 rw [aA (λq=>q.elim (λq=>q h.qR) (λq=>q.elim (λq=>by rw [ha] at q;cases q) (λq=>by rw [A9] at q;cases q)))]
 rw [aA,<- L6 e4 e5]
 .exact zjN h hs hg hp e
 .rintro ⟨i,hi,aU,hb⟩
  have hic:i < p.bt:=bA.2 ⟨hi,aU⟩
  unfold po at hb
  simp only [dW,sF,ix] at hb
  rcases hb with ⟨hv,hb|⟨hb,hz⟩⟩
  .exact hp i hic hv hb
  .rw [(h.get (qx hb)).1] at hz
   cases hz
theorem zs8 {gs:aN}:∀ {l m:List av},Good l->gs.length=ps.length->Fe ps gs l=some m ->
 Good m/\qf l m/\(∀ (k:Nat) p g,ps[k]? = some p->gs[k]? = some g->kG p g=true/\g.ground=true/\∀ i,i < p.bt->b9 m (p.arg i)=g.arg i) /\
  ∀ s t,bx m s=(t,true)->bx l s=(t,true)\/∃ p∈ps,∃ g∈gs,g.bt=p.bt/\∃ i,i < p.bt/\(p.arg i).v=true/\(p.arg i).s=s/\t=g.arg i:=by
 induction ps generalizing gs with
 |nil =>
  intro l m h hl e
  have tc:gs=[]:=by simpa using hl
  subst tc
  cases e
  exact ⟨h,qf.refl _,λk p g hp=>by simp at hp,λs t q=>.inl q⟩
 |cons p ps ih =>
  intro l m h hl e
  match gs,hl,e with
  |g::gs,hl,e =>
   have oD:gs.length=ps.length:=by simpa using hl
   have e:(bz l p g).bind (Fe ps gs)=some m:=e
   cases hx:bz l p g with
   |none=>rw [hx] at e;cases e
   |some o =>
    rw [hx] at e
    obtain ⟨f1,f2,f3,f4,f5,f6⟩:=xU h hx
    obtain ⟨g1,g2,g3,g4⟩:=ih f1 oD (show Fe ps gs o=some m from e)
    obtain ⟨_,_,e3,_,_⟩:=bJ.1 f3
    have A5:g.bt=p.bt:=by unfold ae.bt;rw [e3]
    refine ⟨g1,f2.trans g2,λk p' g' kV vA=>?_,λs t q=>?_⟩
    .cases k with
     |zero =>
      simp at kV vA
      subst kV
      subst vA
      exact ⟨f3,f4,λi hi=>zsx g2 (f5 i hi) (cf.1 f4 i (by rw [A5];exact hi))⟩
     |succ k=>exact g3 k p' g' (by simpa using kV) (by simpa using vA)
    .rcases g4 s t q with q|⟨p',kV,g',vA,q⟩
     .rcases f6 s t q with q|⟨i,hi,q⟩
      .exact .inl q
      .exact .inr ⟨p,nU,g,nU,A5,i,hi,q⟩
     .exact .inr ⟨p',rN _ kV,g',rN _ vA,q⟩
def cB (l:List av) (a:ae):ae :=
 { a with t0:=if 0 < a.bt then b9 l a.t0 else a.t0,t1:=if 1 < a.bt then b9 l a.t1 else a.t1,t2:=if 2 < a.bt then b9 l a.t2 else a.t2,t3:=if 3 < a.bt then b9 l a.t3 else a.t3 }
theorem zk6 (l:List av) (a:ae):(cB l a).bt=a.bt:=rfl
theorem se (l:List av) (a:ae) (hi:i < 4):(cB l a).arg i=if i < a.bt then b9 l (a.arg i) else a.arg i:=by
 have:i=0\/i=1\/i=2\/i=3:=by omega
 rcases this with rfl|rfl|rfl|rfl <;> rfl
theorem WI (a:ae):a.bt<=4:=by unfold ae.bt;omega
theorem bm.var (h:bm a) (hi:i < a.bt) (hv:(a.arg i).v=true):(a.arg i).s≠⟨#[]⟩:=by
 have:=h.fG i (bA.1 hi).2
 unfold dQ at this
 rw [aB hv] at this
 intro e
 have hp:=this.pos
 rw [e] at hp
 exact absurd hp (by decide)
theorem bF.term (h:bF a) (hi:i < a.bt):(a.arg i).v=false/\(a.arg i).s≠⟨#[]⟩/\cP (a.arg i).s:=by
 have hv:=cf.1 h.ground i hi
 have:=h.valid.fG i (bA.1 hi).2
 unfold dQ at this
 rw [aA (by rw [hv];decide)] at this
 refine ⟨hv,λe=>?_,this⟩
 have hp:=this.1.pos
 rw [e] at hp
 exact absurd hp (by decide)
def Ai (head:ae) (AV:aN):aN->List av->aN
 | [],l=>[cB l head]
 |p::ps,l=>AV.flatMap λa=>match bz l p a with
  |none=>[]
  |some m=>Ai head AV ps m
theorem jy {head:ae}:∀ {l:List av},a∈Ai head hv ps l↔∃ gs m,gs.length=ps.length/\(∀ g∈gs,g∈hv)/\Fe ps gs l=some m/\a=cB m head:=by
 induction ps with
 |nil =>
  intro l
  constructor
  .intro h
   exact ⟨[],l,rfl,nofun,rfl,by simpa [Ai] using h⟩
  .rintro ⟨gs,m,h1,h2,h3,h4⟩
   have tc:gs=[]:=by simpa using h1
   subst tc
   cases h3
   simpa [Ai] using h4
 |cons p ps ih =>
  intro l
  unfold Ai
  rw [G4]
  constructor
  .rintro ⟨g,hg,h⟩
   cases hx:bz l p g with
   |none=>rw [hx] at h;cases h
   |some o =>
    rw [hx] at h
    obtain ⟨gs,m,h1,h2,h3,h4⟩:=ih.1 h
    refine ⟨g::gs,m,by simp [h1],λg' vA=>(db.1 vA).elim (λe=>e ▸ hg) (h2 g'),?_,h4⟩
    show (bz l p g).bind (Fe ps gs)=some m
    rw [hx]
    exact h3
  .rintro ⟨gs,m,h1,h2,h3,h4⟩
   match gs,h1,h2,h3 with
   |g::gs,h1,h2,h3 =>
    have h3:(bz l p g).bind (Fe ps gs)=some m:=h3
    refine ⟨g,h2 g nU,?_⟩
    cases hx:bz l p g with
    |none=>rw [hx] at h3;cases h3
    |some o =>
     rw [hx] at h3
     exact ih.2 ⟨gs,m,by simpa using h1,λg' vA=>h2 g' (rN _ vA),h3,h4⟩
def rq (cl:List aq) (facts hv:aN):aN:=facts++cl.flatMap λc=>Ai c.head hv c.body []
def zX (cl:List aq) (facts hv:aN):aN:=dY (rq cl facts hv)
theorem zts {c:aq} (hc:nV c) (hf:∀ a∈hv,bF a) (h:a∈Ai c.head hv c.body []):bF a:=by
 obtain ⟨gs,m,h1,h2,h3,rfl⟩:=jy.1 h
 obtain ⟨f1,f2,f3,f4⟩:=zs8 di h1 h3
 have hbound:∀ i,i < c.head.bt->(c.head.arg i).v=true->∃ t,bx m (c.head.arg i).s=(t,true)/\t.v=false/\cP t.s:=by
  intro i hi hv
  obtain ⟨b,hb,tZ⟩:=hc.mj _ (ky.2 ⟨i,hi,hv,rfl⟩)
  obtain ⟨j,hj,hvj,hsj⟩:=ky.1 tZ
  obtain ⟨k,hk,rfl⟩:=tM hb
  have Zk:k < gs.length:=by omega
  obtain ⟨a1,a2,a3⟩:=f3 k _ _ (gG hk) (gG Zk)
  have hgf:=hf _ (h2 _ (List.getElem_mem Zk))
  have A5:(gs[k]).bt=(c.body[k]).bt:=by unfold ae.bt;rw [(bJ.1 a1).2.2.1]
  have ht:=hgf.term (i:=j) (by rw [A5];exact hj)
  refine ⟨_,?_,ht.1,ht.2.2⟩
  rw [<- hsj]
  exact VX (a3 j hj) hvj ht.1
 have Iv:∀ i,i < c.head.bt->((cB m c.head).arg i).v=false/\dQ ((cB m c.head).arg i):=by
  intro i hi
  rw [se m c.head (by have:=WI c.head;omega),aB hi]
  cases ql:(c.head.arg i).v
  .rw [uh ql]
   exact ⟨ql,hc.head.fG i (bA.1 hi).2⟩
  .obtain ⟨t,e1,e2,e3⟩:=hbound i hi ql
   rw [Lb e1 ql]
   refine ⟨e2,?_⟩
   unfold dQ
   rw [aA (by rw [e2];decide)]
   exact e3
 refine ⟨⟨hc.head.says,hc.head.pred,hc.head.lo,hc.head.hi,λi hi=>(Iv i (by have:=hc.head.hi;have vF:(i:Int) < c.head.n:=hi;exact bA.2 ⟨by omega,vF⟩)).2,λi hi h4=>?_⟩,cf.2 (λi hi=>(Iv i hi).1)⟩
 have vF:c.head.n<=(i:Int):=hi
 rw [se m c.head h4,aA (by intro hh;have:=(bA.1 hh).2;omega)]
 exact hc.head.rest i vF h4
theorem OR {cl:List aq} {facts:aN} (hm:eb cl facts) (hf:∀ a∈hv,bF a):∀ a∈rq cl facts hv,bF a:=by
 intro a ha
 unfold rq at ha
 rcases iT.1 ha with h|h
 .exact hm.facts a h
 .obtain ⟨c,hc,h⟩:=G4.1 h
  exact zts (hm.clauses c hc) hf h
theorem bF.plain {a:ae} (h:bF a):gK a:=h.valid.valid.plain
theorem zU {l:aN} (h:∀ a∈l,bF a):i6 l:=λa ha=>(h a ha).plain
theorem Lq {cl:List aq} {facts:aN} (hm:eb cl facts) (hf:∀ a∈hv,bF a):a∈zX cl facts hv↔a∈rq cl facts hv:=uj (zU (OR hm hf))
theorem zua {cl:List aq} {facts:aN} (hm:eb cl facts) (hf:∀ a∈hv,bF a):∀ a∈zX cl facts hv,bF a:=λa ha=>OR hm hf a ((Lq hm hf).1 ha)
theorem zwD (cl:List aq) (facts hv:aN):gI (zX cl facts hv):=(xT _).lu
theorem ztt {head:ae} {h1 h2:aN} (hs:∀ a∈h1,a∈h2) (h:a∈Ai head h1 ps l):a∈Ai head h2 ps l:=by
 obtain ⟨gs,m,g1,g2,g3,g4⟩:=jy.1 h
 exact jy.2 ⟨gs,m,g1,λg hg=>hs g (g2 g hg),g3,g4⟩
theorem OS {cl lP:List aq} {facts cu h1 h2:aN} (hc:∀ c∈cl,c∈lP) (hf:∀ a∈facts,a∈cu) (hs:∀ a∈h1,a∈h2) (h:a∈rq cl facts h1):a∈rq lP cu h2:=by
 unfold rq at *
 rcases iT.1 h with h|h
 .exact yg _ (hf a h)
 .obtain ⟨c,lC,h⟩:=G4.1 h
  exact L3 _ (G4.2 ⟨c,hc c lC,ztt hs h⟩)
def fV (cl:List aq) (facts:aN):Nat->aN
 |0=>[]
 |n+1=>zX cl facts (fV cl facts n)
section
variable {cl:List aq} {facts:aN}
theorem BJ (hm:eb cl facts):∀ n,∀ a∈fV cl facts n,bF a
 |0=>nofun
 |n+1=>zua hm (BJ hm n)
theorem Lz (cl:List aq) (facts:aN):∀ n,gI (fV cl facts n)
 |0=>List.Pairwise.nil
 |n+1=>zwD _ _ _
theorem zvY (hm:eb cl facts):∀ n,∀ a∈fV cl facts n,a∈fV cl facts (n+1)
 |0=>nofun
 |n+1=>λa ha=>(Lq hm (BJ hm (n+1))).2 (OS (λ_ h=>h) (λ_ h=>h) (zvY hm n) ((Lq hm (BJ hm n)).1 ha))
theorem OX:∀ {s2 s1:aN},gI s1->gI s2->(∀ a∈s1,a∈s2)->s1.Sublist s2
 | [],[],_,_,_=>List.Sublist.slnil
 | [],x::r,_,_,h=>absurd (h x nU) (by simp)
 |y::t,[],_,_,_=>List.nil_sublist _
 |y::t,x::r,a1,a2,h=>by
  obtain ⟨b1,b2⟩:=uF.1 a1
  obtain ⟨c1,c2⟩:=uF.1 a2
  rcases db.1 (h x nU) with e|e
  .subst e
   refine (OX b2 c2 (λa ha=>?_)).cons_cons _
   rcases db.1 (h a (rN _ ha)) with e|e
   .exact absurd (b1 a ha) (by rw [e,EH];decide)
   .exact e
  .refine (OX a1 c2 (λa ha=>?_)).cons _
   rcases db.1 (h a ha) with e2|e2
   .exfalso
    have zo:=c1 x e
    rcases db.1 ha with e3|e3
    .rw [<- e3,e2,EH] at zo
     exact absurd zo (by decide)
    .have:=b1 a e3
     rw [e2] at this
     exact zlh zo this
   .exact e2
theorem zu2 {s1 s2:aN} (h1:gI s1) (h2:gI s2) (h:∀ a∈s1,a∈s2):s1.length<=s2.length/\(s1.length=s2.length->s1=s2) :=
 ⟨(OX h1 h2 h).length_le,λe=>(OX h1 h2 h).eq_of_length e⟩
end
end Go.Am
