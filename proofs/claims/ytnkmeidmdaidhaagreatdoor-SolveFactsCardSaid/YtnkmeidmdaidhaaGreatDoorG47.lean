/- Consequences, by rounds; sources of an older heap. No condition. -/
import Derived.Test.YtnkmeidmdaidhaaGreatDoorG46
set_option linter.unusedSimpArgs false
set_option linter.unusedVariables false
namespace Go.Am
variable {n:Nat} {e:Int} {l:aN}
section
variable {cl mq:List ak} {facts cK:aN}
theorem zsB (hc:∀ c,c∈cl↔c∈mq) (hf:∀ a,a∈facts↔a∈cK):du cl facts↔du mq cK :=
 ⟨λh=>⟨λc hh=>h.clauses c ((hc c).2 hh),λa hh=>h.facts a ((hf a).2 hh)⟩,λh=>⟨λc hh=>h.clauses c ((hc c).1 hh),λa hh=>h.facts a ((hf a).1 hh)⟩⟩
theorem zw5 (hc:∀ c∈cl,c∈mq) (hf:∀ a∈facts,a∈cK) (h:du mq cK):du cl facts:=⟨λc hh=>h.clauses c (hc c hh),λa hh=>h.facts a (hf a hh)⟩
theorem zoS (hm:du cl facts) (hc:∀ c,c∈cl↔c∈mq) (hf:∀ a,a∈facts↔a∈cK):∀ n,ga cl facts n=ga mq cK n
 |0=>rfl
 |n+1=>by
  have eX:=(zsB hc hf).1 hm
  show Bw cl facts (ga cl facts n)=Bw mq cK (ga mq cK n)
  rw [zoS hm hc hf n]
  refine zxN (F0 (Qt hm (CO eX n))) (F0 (Qt eX (CO eX n))) (λx=>⟨λh=>?_,λh=>?_⟩)
  .exact Qu (λc=>(hc c).1) (λa=>(hf a).1) (λ_ h=>h) h
  .exact Qu (λc=>(hc c).2) (λa=>(hf a).2) (λ_ h=>h) h
theorem Yg (hm:du mq cK) (hc:∀ c∈cl,c∈mq) (hf:∀ a∈facts,a∈cK):∀ n,∀ a∈ga cl facts n,a∈ga mq cK n
 |0=>nofun
 |n+1=>λa ha=>by
  have fW:=zw5 hc hf hm
  exact (M8 hm (CO hm n)).2 (Qu hc hf (Yg hm hc hf n) ((M8 fW (CO fW n)).1 ha))
theorem zwQ (hm:du cl facts) {m:Nat} (h:n<=m):∀ a∈ga cl facts n,a∈ga cl facts m:=by
 induction m with
 |zero=>obtain rfl:n=0:=by omega
        exact λ_ h=>h
 |succ m ih =>
  by_cases e:n=m+1
  .subst e;exact λ_ h=>h
  .exact λa ha=>zwR hm m a (ih (by omega) a ha)
theorem zy1 (hm:du cl facts) {m:Nat} (h:n<=m):(ga cl facts n).length<=(ga cl facts m).length:=(zvR (Nb cl facts n) (Nb cl facts m) (zwQ hm h)).1
theorem XR {k:Nat} (h:ga cl facts (k+1)=ga cl facts k):∀ n,ga cl facts (k+n)=ga cl facts k
 |0=>rfl
 |n+1=>by
  show Bw cl facts (ga cl facts (k+n))=_
  rw [XR h n]
  exact h
inductive eL (cl:List ak) (facts:aN):aN->Nat->Int->Prop
 |bad:¬ du cl facts->eL cl facts [] 0 2
 |all (k:Nat):du cl facts->(∀ i,i < k->(ga cl facts i).length < (ga cl facts (i+1)).length)->(ga cl facts k).length<=24->ga cl facts (k+1)=ga cl facts k->eL cl facts (ga cl facts k) k 0
 |nG (k:Nat):du cl facts->(∀ i,i < k->(ga cl facts i).length < (ga cl facts (i+1)).length)->24 < (ga cl facts (k+1)).length->eL cl facts [] 0 14
theorem eL.len (h:eL cl facts l n e):l.length<=24:=by
 cases h with
 |bad _=>exact iN _
 |all k _ _ h _=>exact h
 |nG k _ _ _=>exact iN _
theorem eL.fact (h:eL cl facts l n e):∀ a∈l,bF a:=by
 cases h with
 |bad _=>nofun
 |all _ hm _ _ _=>exact CO hm n
 |nG k _ _ _=>nofun
theorem zwJ {k:Nat} (hm:du cl facts) (hb:∀ i,i < k->(ga cl facts i).length < (ga cl facts (i+1)).length):∀ i,i<=k->i<=(ga cl facts i).length
 |0,_=>iN _
 |i+1,h=>by
  have:=zwJ hm hb i (by omega)
  have:=hb i (by omega)
  omega
theorem eL.round (h:eL cl facts l n e):n<=24:=by
 cases h with
 |bad _=>exact iN _
 |all _ hm hb h _=>exact eA (zwJ hm hb n (aR _)) h
 |nG k _ _ _=>exact iN _
theorem Yu {k k2:Nat} (hm:du cl facts) (h4:(ga cl facts k).length<=24) (hs:ga cl facts (k+1)=ga cl facts k) (h:24 < (ga cl facts k2).length):False:=by
 by_cases hk:k2<=k
 .have:=zy1 hm hk
  omega
 .have:=XR hs (k2 - k)
  rw [show k+(k2 - k)=k2 by omega] at this
  rw [this] at h
  omega
theorem eL.one {l2:aN} {n2:Nat} {e2:Int} (h:eL cl facts l n e) (h2:eL cl facts l2 n2 e2):l=l2/\n=n2/\e=e2:=by
 cases h with
 |bad hm =>
  cases h2 with
  |bad _=>exact ⟨rfl,rfl,rfl⟩
  |all k eX=>exact absurd eX hm
  |nG k eX=>exact absurd eX hm
 |all _ hm hb h4 hs =>
  cases h2 with
  |bad eX=>exact absurd hm eX
  |all _ eX iB h42 eQ =>
   have hn:n=n2:=by
    rcases Gh n n2 with aT|he|tP
    .have:=iB n aT
     rw [hs] at this
     omega
    .exact he
    .have:=hb n2 tP
     rw [eQ] at this
     omega
   subst hn
   exact ⟨rfl,rfl,rfl⟩
  |nG k2 eX iB h2=>exact (Yu hm h4 hs h2).elim
 |nG k hm hb h =>
  cases h2 with
  |bad eX=>exact absurd hm eX
  |all _ eX iB h42 eQ=>exact (Yu hm h42 eQ h).elim
  |nG k2 _ _ _=>exact ⟨rfl,rfl,rfl⟩
theorem eL.zero (h:eL cl facts l n 0):du cl facts/\l=ga cl facts n/\(∀ i,i < n->(ga cl facts i).length < (ga cl facts (i+1)).length)/\l.length<=24/\ga cl facts (n+1)=l:=by
 cases h with
 |all _ hm hb h4 hs=>exact ⟨hm,rfl,hb,h4,hs⟩
theorem eL.iter (hm:du cl facts↔du mq cK) (hi:du cl facts->∀ n,ga cl facts n=ga mq cK n) (h:eL cl facts l n e):eL mq cK l n e:=by
 cases h with
 |bad h=>exact .bad (λx=>h (hm.2 x))
 |all _ h hb h4 hs =>
  rw [hi h n] at h4 ⊢
  rw [hi h,hi h] at hs
  exact .all n (hm.1 h) (λi hh=>by rw [<- hi h,<- hi h];exact hb i hh) h4 hs
 |nG k h hb h4 =>
  rw [hi h] at h4
  exact .nG k (hm.1 h) (λi hh=>by rw [<- hi h,<- hi h];exact hb i hh) h4
theorem eL.same (hc:∀ c,c∈cl↔c∈mq) (hf:∀ a,a∈facts↔a∈cK) (h:eL cl facts l n e):eL mq cK l n e :=
 h.iter (zsB hc hf) (λhm=>zoS hm hc hf)
end
def aC.eF {Z:Type} (r:aC Z) (B:Heap):aC Z:={ k:=r.k,R:=λh cs x=>bN B h/\r.R B cs x,len:=λh cs x hh=>r.len _ _ _ hh.2,mono:=λh h' cs x i hh=>⟨hh.1.trans i,hh.2⟩,gu:=λh cs x hh=>r.gu _ _ _ hh.2 }
theorem Sl.eF {Z:Type} {r:aC Z} {B:Heap} {v:ai} {l:List Z} (f:Sl r B v l):Sl (r.eF B) B v l:=by
 rcases f with f|⟨A,o,c,row,u,ro,e1,e2,e3,e4,e5,e6⟩
 .exact .inl f
 .refine .inr ⟨A,o,c,row,u,ro,e1,e2,e3,e4,e5,λi x hx=>?_⟩
  obtain ⟨cs,g1,g2⟩:=e6 i x hx
  exact ⟨cs,g1,bN.refl _,g2⟩
end Go.Am
namespace Go.Am
variable {n:Nat} {l:aN}
section
variable {cl:List ak} {facts:aN} {c:ak}
theorem eL.whole (h:eL cl facts l n 0) (k:Nat):∀ a∈ga cl facts k,a∈l:=by
 obtain ⟨hm,rfl,_,_,hs⟩:=h.zero
 intro a ha
 by_cases hk:k<=n
 .exact zwQ hm hk a ha
 .have:=XR hs (k - n)
  rw [show n+(k - n)=k by omega] at this
  rwa [this] at ha
theorem eL.more {mq:List ak} {cK l2:aN} {n2:Nat} {e:Int} (hc:∀ c∈cl,c∈mq) (hf:∀ a∈facts,a∈cK) (h2:eL mq cK l2 n2 0) (h:eL cl facts l n e):e=0/\∀ a∈l,a∈l2:=by
 obtain ⟨eX,e2,_,h4,eQ⟩:=h2.zero
 have hm:=zw5 hc hf eX
 cases h with
 |bad h=>exact absurd hm h
 |all _ _ _ _ _=>exact ⟨rfl,λa ha=>h2.whole _ a (Yg eX hc hf _ a ha)⟩
 |nG k _ _ hx =>
  have:=(zvR (Nb cl facts (k+1)) (Nb mq cK (k+1)) (Yg eX hc hf (k+1))).1
  exact (Yu eX (by rw [<- e2];exact h4) (by rw [eQ,e2]) (dr hx this)).elim
theorem eL.fix (h:eL cl facts l n 0):du cl facts/\gh l/\Bw cl facts l=l:=by
 obtain ⟨hm,e,_,_,hs⟩:=h.zero
 refine ⟨hm,by rw [e];exact Nb _ _ _,?_⟩
 have:Bw cl facts (ga cl facts n)=l:=hs
 rwa [<- e] at this
end
end Go.Am
namespace Go.Am
section
variable {F:aN} {C:List ak} {d d':ba}
theorem zlG {k:Nat} {s:dy} {c:ak} {i:Nat} {q:aY} (hq:d.calls[i]? = some q):∃ q',(dE F C d k s c).calls[i]? = some q'/\q'.atom=q.atom:=by
 unfold dE
 split
 .exact ⟨q,hq,rfl⟩
 .dsimp only
  obtain ⟨q1,h1,h2,_⟩:=(bp.aW (λ_=>False) F C { d with ab:=d.ab.set k { s with next:=cN s.l ((c.body[s.taken]?).getD ah) } } (cN s.l ((c.body[s.taken]?).getD ah)) (λ_ h=>h.elim)).ca i q hq
  obtain ⟨o,ho⟩:∃ o,o=aW F C { d with ab:=d.ab.set k { s with next:=cN s.l ((c.body[s.taken]?).getD ah) } } (cN s.l ((c.body[s.taken]?).getD ah)):=⟨_,rfl⟩
  rw [<- ho] at h1 ⊢
  obtain ⟨q2,g1,g2,_⟩:=(bp.wait (λ_=>False) { o.1 with ab:=o.1.ab.set k { s with next:=cN s.l ((c.body[s.taken]?).getD ah),src:=o.2 } } o.2 k).ca i q1 h1
  exact ⟨q2,g1,g2.trans h2⟩
theorem zyJ {k i:Nat} {q:aY} (hq:d.calls[i]? = some q):∃ q',(gU F C d k).calls[i]? = some q'/\q'.atom=q.atom:=by
 unfold gU
 split
 .split
  .split
   .rename_i s0 _ _ c0 _ _
    obtain ⟨q1,h1,h2,_⟩:=(bp.answer (λ_=>False) d s0.call (rf c0 s0)).ca i q hq
    exact ⟨q1,h1,h2⟩
   .dsimp only
    split
    .rw [(yN _ _ _).2.2];exact zlG hq
    .exact zlG hq
  .exact ⟨q,hq,rfl⟩
 .exact ⟨q,hq,rfl⟩
theorem dP.atom {j i:Nat} {q:aY} (r:dP F C j d d'):d.calls[i]? = some q->∃ q',d'.calls[i]? = some q'/\q'.atom=q.atom:=by
 induction r generalizing q with
 |over _=>exact λh=>⟨q,h,rfl⟩
 |done _ _=>exact λh=>⟨q,h,rfl⟩
 |step _ _ _ ih =>
  intro h
  obtain ⟨q1,h1,h2⟩:=zyJ (F:=F) (C:=C) h
  obtain ⟨q2,g1,g2⟩:=ih h1
  exact ⟨q2,g1,g2.trans h2⟩
end
end Go.Am
namespace Go.Am
section
variable {F F2:aN} {C:List ak} {c0:ak} {p:aU} {d d':ba}
structure lb (F F2:aN) (C:List ak) (c0:ak) (p:aU):Prop where
 kJ:gh F
 Ry:gh F2
 sub:∀ a∈F,a∈F2
 back:∀ a∈F2,a∈F\/a.pred=p
 head:c0.head.pred=p
 body:∀ c∈C,∀ b∈c.body,b.pred≠p
 ne:p≠⟨#[]⟩
theorem zyu (h:lb F F2 C c0 p) {q:ae} (hq:q.pred≠p):eT q F2=eT q F:=by
 refine Ia (h.Ry.sublist List.filter_sublist) (h.kJ.sublist List.filter_sublist) (λa=>?_)
 unfold eT
 rw [Il,Il]
 constructor
 .rintro ⟨h1,h2⟩
  refine ⟨(h.back a h1).resolve_right (λe=>hq ?_),h2⟩
  obtain ⟨m,hm⟩:=Option.isSome_iff_exists.1 h2
  rw [<- e]
  exact (cp.1 (zCY hm).alike).2.1
 .rintro ⟨h1,h2⟩
  exact ⟨h.sub a h1,h2⟩
theorem zzW {a b:ae} (h:a.pred≠b.pred):kD a b=none:=by
 unfold kD
 rw [az]
 intro e
 exact h (cp.1 e).2.1
theorem zlE (h:lb F F2 C c0 p) {a:ae} (ha:a.pred≠p):aW F2 (C++[c0]) d a=aW F C d a:=by
 have h1:(bB (bB a)).pred≠p:=ha
 have h2:∀ d i,fY d i (bB (bB a)) 0 (C++[c0])=fY d i (bB (bB a)) 0 C:=λd i=>by
  rw [PE,zzW (by rw [h.head];exact h1)]
 unfold aW
 rw [h2,zyu h h1]
theorem zuS (h:lb F F2 C c0 p) {k:Nat} {s:dy} {c:ak} (hc:c∈C):dE F2 (C++[c0]) d k s c=dE F C d k s c:=by
 have hp:(cN s.l ((c.body[s.taken]?).getD ah)).pred≠p:=by
  show ((c.body[s.taken]?).getD ah).pred≠p
  cases hb:c.body[s.taken]? with
  |none=>exact λe=>h.ne e.symm
  |some b=>exact h.body c hc b (en hb)
 unfold dE
 split
 .rfl
 .dsimp only
  rw [zlE h hp]
theorem zyK (h:lb F F2 C c0 p) {e k:Nat} (hs:dW C e d):gU F2 (C++[c0]) d k=gU F C d k:=by
 unfold gU
 cases hk:d.ab[k]? with
 |none=>rfl
 |some s =>
  obtain ⟨j,c,hj,hc,_⟩:=(hs.st k s hk).BT
  dsimp only
  rw [hj,uK,jz (aq hc),hc]
  dsimp only
  split
  .rfl
  .rw [zuS h (en hc)]
theorem zva (h:lb F F2 C c0 p) (b:Int) {goal:ae} (hg:goal.pred≠p):pz F2 (C++[c0]) b goal=pz F C b goal:=by
 unfold pz
 have mB:(bB goal).pred≠p:=hg
 rw [zlE h mB]
theorem dP.add {B i:Nat} (h:lb F F2 C c0 p) (hz:zn F C B) (r:dP F C i d d'):dW C 1 d->dz 60000 60000 60001 d->d.aE=(B:Int)->dP F2 (C++[c0]) i d d':=by
 induction r with
 |over ho=>exact λ_ _ _=>.over ho
 |done hn hl=>exact λ_ _ _=>.done hn hl
 |@step i k d d' hn hq r ih =>
  intro h1 h2 h3
  have cV:=QZ (facts:=F) h1 h2 h3 hz.bu hn hz.f hz.c hz.b (h1.q k (en hq))
  refine .step hn hq ?_
  rw [zyK h h1]
  exact ih cV.str cV.num (cV.aE.trans h3)
theorem zzA {B:Nat} (h:lb F F2 C c0 p) (hz:zn F C B) {goal:ae} (hg:goal.pred≠p) {d1 d2:ba} (r1:dP F C 0 (pz F C (B:Int) goal) d1) (r2:dP F2 (C++[c0]) 0 (pz F2 (C++[c0]) (B:Int) goal) d2):d2=d1:=by
 obtain ⟨s1,s2,s3,_⟩:=YK F C (B:Int) goal hz.f hz.c
 rw [zva h _ hg] at r2
 exact r2.det (r1.add h hz s1 s2 s3)
end
theorem zy6 {cl:List ak} {facts zs:aN} {zc:ak} (hc:jI zc) (hz:∀ a∈zs,bF a):du (cl++[zc]) (facts++zs)↔du cl facts:=by
 constructor
 .rintro ⟨h1,h2⟩
  exact ⟨λc h=>h1 c (by simp [h]),λa h=>h2 a (by simp [h])⟩
 .rintro ⟨h1,h2⟩
  refine ⟨λc h=>?_,λa h=>?_⟩
  .rcases gg.1 h with h|h
   .exact h1 c h
   .rw [ep.1 h];exact hc
  .rcases gg.1 h with h|h
   .exact h2 a h
   .exact hz a h
theorem zCX {cl:List ak} {facts zs:aN} {zc:ak} {p:aU} (hm:du (cl++[zc]) (facts++zs)) (pM:∀ a∈zs,a.pred=p) (Lb:zc.head.pred=p) (hb:∀ c∈cl,∀ b∈c.body,b.pred≠p) (hp:p≠⟨#[]⟩):lb (gW facts) (gW (facts++zs)) (cl.map ei) (ei zc) p:=by
 have hf:∀ a∈facts,bF a:=λa h=>hm.facts a (by simp [h])
 refine ⟨(yQ _).kJ,(yQ _).kJ,λa ha=>?_,λa ha=>?_,Lb,λc hc b lV=>?_,hp⟩
 .exact (CP (F0 hm.facts)).2 (xX _ ((CP (F0 hf)).1 ha))
 .rcases gg.1 ((CP (F0 hm.facts)).1 ha) with h|h
  .exact .inl ((CP (F0 hf)).2 h)
  .exact .inr (pM a h)
 .obtain ⟨c1,h1,rfl⟩:=pC.1 hc
  obtain ⟨b1,h2,rfl⟩:=pC.1 lV
  exact hb c1 h1 b1 h2
end Go.Am
namespace Go.Am
variable {goal:ae} {B:Nat}
section
variable {F F2:aN} {C:List ak} {d d':ba}
theorem zB1 {B i:Nat} (hz:zn F C B) (r:dP F C i d d'):dW C 1 d->dz 60000 60000 60001 d->d.aE=(B:Int)->dz 60000 60000 60001 d'/\d'.aE=(B:Int):=by
 induction r with
 |over ho=>exact λ_ h2 h3=>⟨h2,h3⟩
 |done hn hl=>exact λ_ h2 h3=>⟨h2,h3⟩
 |@step i k d d' hn hq r ih =>
  intro h1 h2 h3
  have cV:=QZ (facts:=F) h1 h2 h3 hz.bu hn hz.f hz.c hz.b (h1.q k (en hq))
  exact ih cV.str cV.num (cV.aE.trans h3)
theorem zAM {B:Nat} (hz:zn F C B) (r:dP F C 0 (pz F C (B:Int) goal) d') (jO:¬ d'.aE < (d'.steps:Int)) {c0:aY} (hc:d'.calls[0]? = some c0):(gW c0.answers).length<=B/\d'.steps<=B/\d'.calls.length<=60001:=by
 obtain ⟨s1,s2,s3,_⟩:=YK F C (B:Int) goal hz.f hz.c
 obtain ⟨h1,h2⟩:=zB1 hz r s1 s2 s3
 have h3:=h1.mY c0 (en hc)
 have h4:=He c0.answers
 have h5:=h1.calls
 rw [h2] at jO
 omega
end
inductive jK (cl:List ak) (facts:aN) (goal:ae) (B:Nat):aN->Int->Int->Int->Prop
 |bad:¬ (du cl facts/\bg goal/\(0:Int)<=(B:Int)/\(B:Int)<=1048576)->jK cl facts goal B [] 0 0 2
 |over {d':ba}:du cl facts->bg goal->dP (gW facts) (cl.map ei) 0 (pz (gW facts) (cl.map ei) (B:Int) goal) d'->d'.aE < (d'.steps:Int)->jK cl facts goal B [] 0 0 14
 |ok {d':ba} {c0:aY}:du cl facts->bg goal->dP (gW facts) (cl.map ei) 0 (pz (gW facts) (cl.map ei) (B:Int) goal) d'->¬ d'.aE < (d'.steps:Int)->d'.calls[0]? = some c0 ->
  jK cl facts goal B (gW c0.answers) (d'.steps:Int) (d'.calls.length:Int) 0
theorem zzt {cl:List ak} {facts zs:aN} {zc:ak} {p:aU} (hB:B<=50000) (hz:zn (gW facts) (cl.map ei) B) (iV:jI zc) (AG:∀ a∈zs,a.pred=p/\bF a) (Lb:zc.head.pred=p) (hb:∀ c∈cl,∀ b∈c.body,b.pred≠p) (hp:p≠⟨#[]⟩) (hg:goal.pred≠p)
 {a1 a2:aN} {w1 t1 k1 w2 t2 k2:Int} (h1:jK cl facts goal B a1 w1 t1 k1) (h2:jK (cl++[zc]) (facts++zs) goal B a2 w2 t2 k2):a2=a1/\w2=w1/\t2=t1/\k2=k1:=by
 have Aj:=zy6 (cl:=cl) (facts:=facts) iV (λa ha=>(AG a ha).2)
 have eg:∀ {d1 d2:ba},du (cl++[zc]) (facts++zs)->dP (gW facts) (cl.map ei) 0 (pz (gW facts) (cl.map ei) (B:Int) goal) d1->dP (gW (facts++zs)) ((cl++[zc]).map ei) 0 (pz (gW (facts++zs)) ((cl++[zc]).map ei) (B:Int) goal) d2->d2=d1:=by
  intro d1 d2 hm r1 r2
  have hx:=zCX hm (λa ha=>(AG a ha).1) Lb hb hp
  rw [sf,List.map_singleton] at r2
  exact zzA hx hz hg r1 r2
 cases h1 with
 |bad hZ =>
  cases h2 with
  |bad _=>exact ⟨rfl,rfl,rfl,rfl⟩
  |over m v _ _=>exact (hZ ⟨Aj.1 m,v,by omega,by omega⟩).elim
  |ok m v _ _ _=>exact (hZ ⟨Aj.1 m,v,by omega,by omega⟩).elim
 |over m v r ho =>
  cases h2 with
  |bad hZ=>exact (hZ ⟨Aj.2 m,v,by omega,by omega⟩).elim
  |over _ _ _ _=>exact ⟨rfl,rfl,rfl,rfl⟩
  |ok m2 _ r2 hn _=>exact absurd ho (by rw [<- eg m2 r r2];exact hn)
 |ok m v r hn hc =>
  cases h2 with
  |bad hZ=>exact (hZ ⟨Aj.2 m,v,by omega,by omega⟩).elim
  |over m2 _ r2 ho=>exact absurd ho (by rw [eg m2 r r2];exact hn)
  |ok m2 _ r2 _ tJ =>
   have e:=eg m2 r r2
   subst e
   rw [hc] at tJ
   cases tJ
   exact ⟨rfl,rfl,rfl,rfl⟩
theorem zBX {cl:List ak} {facts:aN} {a:aN} {w t k:Int} (hz:zn (gW facts) (cl.map ei) B) (h:jK cl facts goal B a w t k):a.length<=B/\0<=w/\w<=B/\0<=t/\t<=60001:=by
 cases h with
 |bad _=>exact ⟨iN _,by omega,by omega,by omega,by omega⟩
 |over _ _ _ _=>exact ⟨iN _,by omega,by omega,by omega,by omega⟩
 |ok _ _ r hn hc =>
  obtain ⟨g1,g2,g3⟩:=zAM hz r hn hc
  exact ⟨g1,by omega,by omega,by omega,by omega⟩
end Go.Am
