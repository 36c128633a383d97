/- Consequences, by rounds; sources of an older heap. No condition. -/
import Derived.Test.YtnkmeidmdaidhaaGreatDoorG47
import Derived.Test.YtnkmeidmdaidhaaGreatDoorG46
set_option linter.unusedSimpArgs false
set_option linter.unusedVariables false
namespace Go.Am
variable {n:Nat} {e:Int} {l:aN}
section
variable {cl lP:List aq} {facts cu:aN}
theorem zrZ (hc:∀ c,c∈cl↔c∈lP) (hf:∀ a,a∈facts↔a∈cu):eb cl facts↔eb lP cu :=
 ⟨λh=>⟨λc hh=>h.clauses c ((hc c).2 hh),λa hh=>h.facts a ((hf a).2 hh)⟩,λh=>⟨λc hh=>h.clauses c ((hc c).1 hh),λa hh=>h.facts a ((hf a).1 hh)⟩⟩
theorem zv7 (hc:∀ c∈cl,c∈lP) (hf:∀ a∈facts,a∈cu) (h:eb lP cu):eb cl facts:=⟨λc hh=>h.clauses c (hc c hh),λa hh=>h.facts a (hf a hh)⟩
theorem zoC (hm:eb cl facts) (hc:∀ c,c∈cl↔c∈lP) (hf:∀ a,a∈facts↔a∈cu):∀ n,fV cl facts n=fV lP cu n
 |0=>rfl
 |n+1=>by
  have ff:=(zrZ hc hf).1 hm
  show zX cl facts (fV cl facts n)=zX lP cu (fV lP cu n)
  rw [zoC hm hc hf n]
  refine zwM (zU (OR hm (BJ ff n))) (zU (OR ff (BJ ff n))) (λx=>⟨λh=>?_,λh=>?_⟩)
  .exact OS (λc=>(hc c).1) (λa=>(hf a).1) (λ_ h=>h) h
  .exact OS (λc=>(hc c).2) (λa=>(hf a).2) (λ_ h=>h) h
theorem Wk (hm:eb lP cu) (hc:∀ c∈cl,c∈lP) (hf:∀ a∈facts,a∈cu):∀ n,∀ a∈fV cl facts n,a∈fV lP cu n
 |0=>nofun
 |n+1=>λa ha=>by
  have gF:=zv7 hc hf hm
  exact (Lq hm (BJ hm n)).2 (OS hc hf (Wk hm hc hf n) ((Lq gF (BJ gF n)).1 ha))
theorem zvX (hm:eb cl facts) {m:Nat} (h:n<=m):∀ a∈fV cl facts n,a∈fV cl facts m:=by
 induction m with
 |zero=>obtain rfl:n=0:=by omega
        exact λ_ h=>h
 |succ m ih =>
  by_cases e:n=m+1
  .subst e;exact λ_ h=>h
  .exact λa ha=>zvY hm m a (ih (by omega) a ha)
theorem zx2 (hm:eb cl facts) {m:Nat} (h:n<=m):(fV cl facts n).length<=(fV cl facts m).length:=(zu2 (Lz cl facts n) (Lz cl facts m) (zvX hm h)).1
theorem V4 {k:Nat} (h:fV cl facts (k+1)=fV cl facts k):∀ n,fV cl facts (k+n)=fV cl facts k
 |0=>rfl
 |n+1=>by
  show zX cl facts (fV cl facts (k+n))=_
  rw [V4 h n]
  exact h
inductive eH (cl:List aq) (facts:aN):aN->Nat->Int->Prop
 |bad:¬ eb cl facts->eH cl facts [] 0 2
 |all (k:Nat):eb cl facts->(∀ i,i < k->(fV cl facts i).length < (fV cl facts (i+1)).length)->(fV cl facts k).length<=24->fV cl facts (k+1)=fV cl facts k->eH cl facts (fV cl facts k) k 0
 |m9 (k:Nat):eb cl facts->(∀ i,i < k->(fV cl facts i).length < (fV cl facts (i+1)).length)->24 < (fV cl facts (k+1)).length->eH cl facts [] 0 14
theorem eH.len (h:eH cl facts l n e):l.length<=24:=by
 cases h with
 |bad _=>exact jl _
 |all k _ _ h _=>exact h
 |m9 k _ _ _=>exact jl _
theorem eH.fact (h:eH cl facts l n e):∀ a∈l,bF a:=by
 cases h with
 |bad _=>nofun
 |all _ hm _ _ _=>exact BJ hm n
 |m9 k _ _ _=>nofun
theorem zvR {k:Nat} (hm:eb cl facts) (hb:∀ i,i < k->(fV cl facts i).length < (fV cl facts (i+1)).length):∀ i,i<=k->i<=(fV cl facts i).length
 |0,_=>jl _
 |i+1,h=>by
  have:=zvR hm hb i (by omega)
  have:=hb i (by omega)
  omega
theorem eH.round (h:eH cl facts l n e):n<=24:=by
 cases h with
 |bad _=>exact jl _
 |all _ hm hb h _=>exact dZ (zvR hm hb n (aQ _)) h
 |m9 k _ _ _=>exact jl _
theorem Wy {k k2:Nat} (hm:eb cl facts) (h4:(fV cl facts k).length<=24) (hs:fV cl facts (k+1)=fV cl facts k) (h:24 < (fV cl facts k2).length):False:=by
 by_cases hk:k2<=k
 .have:=zx2 hm hk
  omega
 .have:=V4 hs (k2 - k)
  rw [show k+(k2 - k)=k2 by omega] at this
  rw [this] at h
  omega
theorem eH.one {l2:aN} {n2:Nat} {e2:Int} (h:eH cl facts l n e) (h2:eH cl facts l2 n2 e2):l=l2/\n=n2/\e=e2:=by
 cases h with
 |bad hm =>
  cases h2 with
  |bad _=>exact ⟨rfl,rfl,rfl⟩
  |all k ff=>exact absurd ff hm
  |m9 k ff=>exact absurd ff hm
 |all _ hm hb h4 hs =>
  cases h2 with
  |bad ff=>exact absurd hm ff
  |all _ ff ic YL eE =>
   have hn:n=n2:=by
    rcases G2 n n2 with bc|he|td
    .have:=ic n bc
     rw [hs] at this
     omega
    .exact he
    .have:=hb n2 td
     rw [eE] at this
     omega
   subst hn
   exact ⟨rfl,rfl,rfl⟩
  |m9 k2 ff ic h2=>exact (Wy hm h4 hs h2).elim
 |m9 k hm hb h =>
  cases h2 with
  |bad ff=>exact absurd hm ff
  |all _ ff ic YL eE=>exact (Wy hm YL eE h).elim
  |m9 k2 _ _ _=>exact ⟨rfl,rfl,rfl⟩
theorem eH.zero (h:eH cl facts l n 0):eb cl facts/\l=fV cl facts n/\(∀ i,i < n->(fV cl facts i).length < (fV cl facts (i+1)).length)/\l.length<=24/\fV cl facts (n+1)=l:=by
 cases h with
 |all _ hm hb h4 hs=>exact ⟨hm,rfl,hb,h4,hs⟩
theorem eH.iter (hm:eb cl facts↔eb lP cu) (hi:eb cl facts->∀ n,fV cl facts n=fV lP cu n) (h:eH cl facts l n e):eH lP cu l n e:=by
 cases h with
 |bad h=>exact .bad (λx=>h (hm.2 x))
 |all _ h hb h4 hs =>
  rw [hi h n] at h4 ⊢
  rw [hi h,hi h] at hs
  exact .all n (hm.1 h) (λi hh=>by rw [<- hi h,<- hi h];exact hb i hh) h4 hs
 |m9 k h hb h4 =>
  rw [hi h] at h4
  exact .m9 k (hm.1 h) (λi hh=>by rw [<- hi h,<- hi h];exact hb i hh) h4
theorem eH.same (hc:∀ c,c∈cl↔c∈lP) (hf:∀ a,a∈facts↔a∈cu) (h:eH cl facts l n e):eH lP cu l n e :=
 h.iter (zrZ hc hf) (λhm=>zoC hm hc hf)
end
def aG.eA {Z:Type} (r:aG Z) (B:Heap):aG Z:={ k:=r.k,R:=λh cs x=>bP B h/\r.R B cs x,len:=λh cs x hh=>r.len _ _ _ hh.2,mono:=λh h' cs x i hh=>⟨hh.1.trans i,hh.2⟩,ig:=λh cs x hh=>r.ig _ _ _ hh.2 }
theorem Sl.eA {Z:Type} {r:aG Z} {B:Heap} {v:ai} {l:List Z} (f:Sl r B v l):Sl (r.eA B) B v l:=by
 rcases f with f|⟨A,o,c,row,u,ro,e1,e2,e3,e4,e5,e6⟩
 .exact .inl f
 .refine .inr ⟨A,o,c,row,u,ro,e1,e2,e3,e4,e5,λi x hx=>?_⟩
  obtain ⟨cs,g1,g2⟩:=e6 i x hx
  exact ⟨cs,g1,bP.refl _,g2⟩
end Go.Am
namespace Go.Am
variable {n:Nat} {l:aN}
section
variable {cl:List aq} {facts:aN} {c:aq}
theorem eH.whole (h:eH cl facts l n 0) (k:Nat):∀ a∈fV cl facts k,a∈l:=by
 obtain ⟨hm,rfl,_,_,hs⟩:=h.zero
 intro a ha
 by_cases hk:k<=n
 .exact zvX hm hk a ha
 .have:=V4 hs (k - n)
  rw [show n+(k - n)=k by omega] at this
  rwa [this] at ha
theorem eH.more {lP:List aq} {cu l2:aN} {n2:Nat} {e:Int} (hc:∀ c∈cl,c∈lP) (hf:∀ a∈facts,a∈cu) (h2:eH lP cu l2 n2 0) (h:eH cl facts l n e):e=0/\∀ a∈l,a∈l2:=by
 obtain ⟨ff,e2,_,h4,eE⟩:=h2.zero
 have hm:=zv7 hc hf ff
 cases h with
 |bad h=>exact absurd hm h
 |all _ _ _ _ _=>exact ⟨rfl,λa ha=>h2.whole _ a (Wk ff hc hf _ a ha)⟩
 |m9 k _ _ hx =>
  have:=(zu2 (Lz cl facts (k+1)) (Lz lP cu (k+1)) (Wk ff hc hf (k+1))).1
  exact (Wy ff (by rw [<- e2];exact h4) (by rw [eE,e2]) (dt hx this)).elim
theorem eH.fix (h:eH cl facts l n 0):eb cl facts/\gI l/\zX cl facts l=l:=by
 obtain ⟨hm,e,_,_,hs⟩:=h.zero
 refine ⟨hm,by rw [e];exact Lz _ _ _,?_⟩
 have:zX cl facts (fV cl facts n)=l:=hs
 rwa [<- e] at this
end
end Go.Am
namespace Go.Am
section
variable {F:aN} {C:List aq} {d d':aY}
theorem zls {k:Nat} {s:dv} {c:aq} {i:Nat} {q:aX} (hq:d.calls[i]? = some q):∃ q',(dG F C d k s c).calls[i]? = some q'/\q'.atom=q.atom:=by
 unfold dG
 split
 .exact ⟨q,hq,rfl⟩
 .dsimp only
  obtain ⟨q1,h1,h2,_⟩:=(bn.aT (λ_=>False) F C { d with ab:=d.ab.set k { s with next:=cB s.l ((c.body[s.taken]?).getD ah) } } (cB s.l ((c.body[s.taken]?).getD ah)) (λ_ h=>h.elim)).ca i q hq
  obtain ⟨o,ho⟩:∃ o,o=aT F C { d with ab:=d.ab.set k { s with next:=cB s.l ((c.body[s.taken]?).getD ah) } } (cB s.l ((c.body[s.taken]?).getD ah)):=⟨_,rfl⟩
  rw [<- ho] at h1 ⊢
  obtain ⟨q2,g1,g2,_⟩:=(bn.wait (λ_=>False) { o.1 with ab:=o.1.ab.set k { s with next:=cB s.l ((c.body[s.taken]?).getD ah),src:=o.2 } } o.2 k).ca i q1 h1
  exact ⟨q2,g1,g2.trans h2⟩
theorem zxJ {k i:Nat} {q:aX} (hq:d.calls[i]? = some q):∃ q',(gU F C d k).calls[i]? = some q'/\q'.atom=q.atom:=by
 unfold gU
 split
 .split
  .split
   .rename_i s0 _ _ c0 _ _
    obtain ⟨q1,h1,h2,_⟩:=(bn.answer (λ_=>False) d s0.call (qD c0 s0)).ca i q hq
    exact ⟨q1,h1,h2⟩
   .dsimp only
    split
    .rw [(xR _ _ _).2.2];exact zls hq
    .exact zls hq
  .exact ⟨q,hq,rfl⟩
 .exact ⟨q,hq,rfl⟩
theorem eT.atom {j i:Nat} {q:aX} (r:eT F C j d d'):d.calls[i]? = some q->∃ q',d'.calls[i]? = some q'/\q'.atom=q.atom:=by
 induction r generalizing q with
 |over _=>exact λh=>⟨q,h,rfl⟩
 |done _ _=>exact λh=>⟨q,h,rfl⟩
 |step _ _ _ ih =>
  intro h
  obtain ⟨q1,h1,h2⟩:=zxJ (F:=F) (C:=C) h
  obtain ⟨q2,g1,g2⟩:=ih h1
  exact ⟨q2,g1,g2.trans h2⟩
theorem zxQ {a:ae} (h:bF a):(bz [] a a).isSome=true:=by
 obtain ⟨m,hm,_⟩:=Pc (σ:=λ_=>bX) (λi hi hv=>by rw [cf.1 h.ground i hi] at hv;cases hv) h (p:=a) ⟨bJ.2 ⟨rfl,rfl,rfl,h.valid.lo,h.valid.hi⟩,λi hi=>by
  unfold dm
  rw [aA (by rw [cf.1 h.ground i hi];decide)]⟩
 rw [hm]
 rfl
theorem zwH {B:Nat} (hF:∀ a∈F,bF a) (hC:∀ c∈C,rP c) (hz:Fu F C B) {goal:ae} (hg:bm goal) (r:eT F C 0 (rH F C (B:Int) goal) d') (ho:¬ d'.aD < (d'.steps:Int)):∀ c∈d'.calls,∀ a∈c.answers,nk F C a:=by
 obtain ⟨n,_,h⟩:=(Full.start hF hC hz hg).1.run hF hC hz r ho
  |> λh=>h
 exact h.snd.an
theorem zpb {B:Nat} (hF:∀ a∈F,bF a) (hC:∀ c∈C,rP c) (hz:Fu F C B) {goal:ae} (hg:bm goal) (r:eT F C 0 (rH F C (B:Int) goal) d') (ho:¬ d'.aD < (d'.steps:Int)) {g:ae} (hd:nk F C g) (hx:(bz [] goal g).isSome=true):∀ c0,d'.calls[0]? = some c0->g∈c0.answers:=by
 obtain ⟨h0,c,hc,he⟩:=Full.start hF hC hz hg
 obtain ⟨n,hn,h⟩:=h0.run hF hC hz r ho
 obtain ⟨q,hq,e⟩:=r.atom hc
 intro c0 jn
 rw [hq] at jn
 cases jn
 refine h.complete hF hC hn hd 0 q hq ?_
 rw [e,he]
 obtain ⟨m,hm⟩:=Option.isSome_iff_exists.1 hx
 have Di:=hd.pz hF
 obtain ⟨τ1,m1⟩:=(zzr hm).canon
 obtain ⟨τ2,m2⟩:=m1.canon
 obtain ⟨τ3,m3⟩:=m2.canon
 obtain ⟨m4,x,_⟩:=Pc (λi hi hv=>(xP (xP (xP hg))).var hi hv) Di m3
 rw [x]
 rfl
end
theorem zAG {cl:List aq} (h:∀ c∈cl,nV c):∀ c∈cl.map eY,rP c:=λc hc=>by
 obtain ⟨c0,h0,rfl⟩:=ph.1 hc
 exact (h c0 h0).cl
theorem zwN {l:aN} (h:∀ a∈l,bF a):∀ a∈dY l,bF a:=λa ha=>h a ((uj (zU h)).1 ha)
end Go.Am
namespace Go.Proofs.YtnkmeidmdaidhaaGreatDoor
open Go.Am Tryz
set_option maxRecDepth 100000
set_option maxHeartbeats 0
theorem OQ (n m:Int) (h:Heap) (K:aO) (hm:m<=4611686018427387904) (hk:∀ h',Ext h h'->K (.int .i64 (p0 n m)) h'):Ok prog aJ ov 17 [.int .i64 n,.int .i64 m] h K:=zAy n m h K hm (hk h (Ext.refl h))
theorem OP (cl:List aq) (facts:aN) (goal:ae) (B:Nat) (v u:ai) (h:Heap) (dq:bh 1 h) (hl:Sl aG.clause h v cl) (hf:Sl aG.atom h u facts) (hn:cl.length<=1000) (kQ:∀ c∈cl,c.body.length<=90) (kT:facts.length<=900) (hB:B<=50000) (hm:eb cl facts) (hv:bm goal) (K:aO)
 (SY:∀ h',Ext h h'->K (.tuple #[.bool false,.int .i64 14]) h')
 (kD:∀ d',eT (dY facts) (cl.map eY) 0 (rH (dY facts) (cl.map eY) (B:Int) goal) d'->¬ d'.aD < (d'.steps:Int)->∀ c0,d'.calls[0]? = some c0->∀ h',Ext h h'->K (.tuple #[.bool (decide (0 < ((dY c0.answers).length:Int))),.int .i64 0]) h'):Ok prog aJ ov 16 [v,u,goal.val,.int .i64 (B:Int)] h K:=by
 rw [az h]
 have z:=Ext.refl h
 refine Ok.aF 21 (bY XE) ?_
 simp only [aa,seval,HU,js,↓fU,eG,dS]
 refine zzs cl facts goal (B:Int) v u _ (dq.lay _ _) (hl.lay _ _) (hf.lay _ _) hn kQ kT (by omega) _ (λki h' x=>absurd ⟨hm,hv,by omega,by omega⟩ ki) (λ_ _ _ _ d' hr jg h' x=>?_) (λ_ _ _ _ d1 r6 zf c1 qh h' w1 w2 x s1 s2=>?_)
 ·(replace z:=z.au x;rw [az h'])
  simp only [aa,seval,HU]
  refine Lv (i:=0) rfl lb rfl rfl rfl rfl ?_
  repeat' (simp only [aa,seval,HU,fW])
  exact SY _ z.aw
 obtain ⟨wa,wn,wc,rfl⟩:=EK s1
 obtain ⟨va,vn,vc,rfl⟩:=EK s2
 have o0:=λ(hh:Heap)=>s1.bW cM hh
 (replace z:=z.au x;rw [az h'])
 simp only [aa,seval,HU]
 refine Lv (i:=0) rfl lb rfl rfl rfl rfl ?_
 repeat' (first|simp only [aa,seval,HU,fW,o0]|((with_reducible apply cm) <;> intro _))
 all_goals
  replace kD:=kD d1 r6 zf c1 qh
  first
   |(have e:decide (0 < ((dY c1.answers).length:Int))=true:=by apply sH;omega
     rw [e] at kD;exact kD _ z.aw)
   |(have e:decide (0 < ((dY c1.answers).length:Int))=false:=by apply tO;omega
     rw [e] at kD;exact kD _ z.aw)
theorem zmM (cl:List aq) (facts:aN) (goal:ae) (which:Int) (v u:ai) (h:Heap) (dq:bh 1 h) (hl:Sl aG.clause h v cl) (hf:Sl aG.atom h u facts) (K:aO)
 (hk:∀ h',Ext h h'->K (.bool true) h'):Ok prog aJ ov 4 [v,u,goal.val,.int .i64 which] h K:=by
 rw [az h]
 have z:=Ext.refl h
 have Ds:=λ(hh:Heap)=>hf.bW cM hh
 refine Ok.aF 89 (bY N4) ?_
 simp only [aa,seval,c4,js]
 refine Ok.over (g:=Ha 1) rfl (zyN (dq.lay _ _)) ?_
 repeat' (first|simp only [aa,seval,c4]|((with_reducible apply cK);(· rfl)))
 refine zjE cl facts _ _ _ (hl.lay _ _) (hf.lay _ _) _ (λe1 e2 e3 h' x=>?_) (λh' x=>?_)
 rotate_left
 ·(replace z:=z.au x;rw [az h'])
  repeat' (first|simp only [aa,seval,c4]|((with_reducible apply cK);(· rfl)))
  exact hk _ z.aw
 have q0:=ak.top (i:=0) x rfl
 (replace z:=z.au x;rw [az h'])
 repeat' (first|simp only [aa,seval,c4,q0.lay,↓fU,eG,dS]|((with_reducible apply cK);(· rfl)))
 refine Wz goal _ _ (λSO h' x=>?_) (λSO h' x=>?_)
 rotate_left
 ·(replace z:=z.au x;( replace q0:=q0.over x );rw [az h'])
  repeat' (first|simp only [aa,seval,c4]|((with_reducible apply cK);(· rfl)))
  exact hk _ z.aw
 (replace z:=z.au x;replace q0:=q0.over x;rw [az h'])
 repeat' (first|simp only [aa,seval,c4,q0.lay,↓fU,eG,dS]|((with_reducible apply cK);(· rfl)))
 refine zzs cl facts goal 300 v u _ ((dq.ext z).lay _ _) ((hl.mono z.inc).lay _ _) ((hf.mono z.inc).lay _ _) (by omega) (λc hc=>by have:=e3 c hc;omega) (by omega) (by omega) _ (λki h' x=>?_) (λhm hv _ _ d' hr jg h' x=>?_) (λhm hv _ _ d1 r6 zf c1 qh h' w1 w2 x s1 s2=>?_)
 ·(replace z:=z.au x;( replace q0:=q0.over x );rw [az h'])
  simp only [aa,seval,c4]
  refine Lv (i:=0) rfl lb rfl rfl rfl rfl ?_
  simp only [aa,seval,c4,fW]
  repeat' ((first|((with_reducible first|apply cm|apply oQ|apply su|apply Ag|apply zW) <;> intro _)|((with_reducible apply cK);(· rfl))|((with_reducible refine ⟨z.cS.lay _ _,?_⟩);(intro _ h' zz x _);(first|simp only [bS,bD] at x|skip);(first|replace q0:=q0.over x|skip);(replace z:=zz);(clear zz);rw [az h'])) <;> simp only [aa,seval,c4])
  exact hk _ z.aw
 ·(replace z:=z.au x;( replace q0:=q0.over x );rw [az h'])
  simp only [aa,seval,c4]
  refine Lv (i:=0) rfl lb rfl rfl rfl rfl ?_
  simp only [aa,seval,c4,fW]
  repeat' ((first|((with_reducible first|apply cm|apply oQ|apply su|apply Ag|apply zW) <;> intro _)|((with_reducible apply cK);(· rfl))|((with_reducible refine ⟨z.cS.lay _ _,?_⟩);(intro _ h' zz x _);(first|simp only [bS,bD] at x|skip);(first|replace q0:=q0.over x|skip);(replace z:=zz);(clear zz);rw [az h'])) <;> simp only [aa,seval,c4])
  exact hk _ z.aw
 obtain ⟨wa,wn,wc,rfl⟩:=EK s1
 obtain ⟨va,vn,vc,rfl⟩:=EK s2
 have o0:=λ(hh:Heap)=>s1.bW cM hh
 (replace z:=z.au x;replace q0:=q0.over x;rw [az h'])
 have g2:=aR.refl [] h'
 simp only [aa,seval,c4]
 refine Lv (i:=0) rfl lb rfl rfl rfl rfl ?_
 have hF:=zwN hm.facts
 have hC:=zAG hm.clauses
 have ue:Fu (dY facts) (cl.map eY) 300:=⟨dZ (BH facts) (by omega),by rw [gq];omega,λc hc=>by
  obtain ⟨c0,h0,rfl⟩:=ph.1 hc
  show (c0.body.map fp).length<=90
  rw [gq]
  have:=e3 c0 h0
  omega,by omega⟩
 obtain ⟨hh0,_⟩:=Full.start (B:=300) hF hC ue hv
 obtain ⟨_,_,vz⟩:=hh0.run hF hC ue r6 zf
 have kU:=vz.num
 have sP:cC d1:=r6.HI (VP _ _ _ _)
 have qi:=ek qh
 have rf:=zwH (B:=300) hF hC ue hv r6 zf c1 qi
 have mf:∀ (a:ae),bF a->nk (dY facts) (cl.map eY) a->∀ d2,eT (dY facts) (cl.map eY) 0 (rH (dY facts) (cl.map eY) ((300:Nat):Int) a) d2->¬ d2.aD < (d2.steps:Int)->∀ c2,d2.calls[0]? = some c2->decide (0 < ((dY c2.answers).length:Int))=true:=by
  intro a ha hd d2 fo kp c2 mU
  have aU:=zpb (B:=300) hF hC ue ha.valid fo kp hd (zxQ ha) c2 mU
  have MS:cC d2:=fo.HI (VP _ _ _ _)
  have SV:=(uj (zU (MS c2 (ek mU)))).2 aU
  apply sH
  have:=List.length_pos_of_mem SV
  omega
 simp only [aa,seval,c4,fW,Ds,bne_self_eq_false]
 refine cm (λbc=>?_) (λbc=>?_)
 .obtain ⟨tk,xA⟩:=Lw which (facts.length:Int) (by omega)
  repeat' (simp only [aa,seval,c4,Ds])
  refine OQ which (facts.length:Int) _ _ (by omega) (λh' x=>?_)
  have q2:=ak.top (i:=0) x rfl
  (replace z:=z.au x;replace q0:=q0.over x;replace g2:=g2.over x;rw [az h'])
  simp only [aa,seval,c4]
  obtain ⟨fn,SJ⟩:∃ fn:Nat,(fn:Int)=p0 which (facts.length:Int):=⟨(p0 which (facts.length:Int)).toNat,by omega⟩
  rw [<- SJ]
  obtain ⟨f0,IJ,SG⟩:=i4 (l:=facts) (i:=fn) (by omega)
  have IQ:=ek SG
  have Di:=hm.facts f0 IQ
  have vU:=mf f0 Di (.fact ((uj (zU hm.facts)).2 IQ))
  refine tH (hf.mono z.inc) cM cw (by omega) IJ (λp hp=>?_)
  simp only [aa,seval,c4]
  refine rj hp jb cw ?_
  clear hp
  simp only [aa,seval,c4]
  refine OP cl facts f0 300 v u _ ((dq.ext z).lay _ _) ((hl.mono z.inc).lay _ _) ((hf.mono z.inc).lay _ _) (by omega) (λc hc=>by have:=e3 c hc;omega) (by omega) (by omega) hm Di.valid _ (λh' x=>?_) (λd2 fo kp c2 mU h' x=>?_)
  ·(replace z:=z.au x;( replace q0:=q0.over x );( replace g2:=g2.over x );( replace q2:=q2.over x );rw [az h'])
   repeat' (first|simp only [aa,seval,c4,bne_self_eq_false,q2.lay,o0]|((with_reducible apply oQ) <;> intro _))
   .exact hk _ z.aw
   have Nl:0 < ((dY c1.answers).length:Int):=by omega
   obtain ⟨vZ,Js⟩:=Lw which ((dY c1.answers).length:Int) (by omega)
   have Be:(dY c1.answers).length<=60000:=by
    have h1:=BH c1.answers
    have h2:=kU.lq c1 qi
    have h3:=kU.steps
    omega
   with_reducible first|refine eF (by simp only [c4]) z.aw ?_
   simp only [aa,seval,c4,q2.lay,o0]
   refine OQ which ((dY c1.answers).length:Int) _ _ (by omega) (λh' x=>?_)
   (((with_reducible refine fP ?_ ?_ ?_);(· exact (by (simp only [gh]);have:=z.size;omega));(· exact x));replace z:=z.au x;replace q0:=q0.over x;replace g2:=g2.over x;replace q2:=q2.over x;rw [az h'])
   simp only [aa,seval,c4]
   obtain ⟨pn,xB⟩:∃ pn:Nat,(pn:Int)=p0 which ((dY c1.answers).length:Int):=⟨(p0 which ((dY c1.answers).length:Int)).toNat,by omega⟩
   rw [<- xB]
   obtain ⟨a0,sR,vd⟩:=i4 (l:=dY c1.answers) (i:=pn) (by omega)
   refine tH (s1.mono g2.all) cM cw (by omega) sR (λp hp=>?_)
   simp only [aa,seval,c4]
   refine rj hp jb cw ?_
   clear hp
   simp only [aa,seval,c4]
   have oY:a0∈c1.answers:=(uj (zU (sP c1 qi))).1 (ek vd)
   have jG:=sP c1 qi a0 oY
   have tl:=mf a0 jG (rf a0 oY)
   refine OP cl facts a0 300 v u _ ((dq.ext z).lay _ _) ((hl.mono z.inc).lay _ _) ((hf.mono z.inc).lay _ _) (by omega) (λc hc=>by have:=e3 c hc;omega) (by omega) (by omega) hm jG.valid _ (λh' x=>?_) (λd2 fo kp c2 mU h' x=>?_)
   ·(( ((with_reducible refine fP ?_ ?_ ?_);(· exact (by ( simp only [gh] );have:=z.size;omega));(·  exact x )) );replace z:=z.au x;( replace q0:=q0.over x );( replace g2:=g2.over x );( replace q2:=q2.over x );rw [az h'])
    simp only [aa,seval,c4]
    ((with_reducible refine ⟨z.cS.lay _ _,?_⟩);(intro _ h' zz x _);(simp only [bS,bD] at x);replace q0:=q0.over x;replace g2:=g2.over x;replace q2:=q2.over x;(replace z:=zz);(clear zz);rw [az h'])
    repeat' (simp only [aa,seval,c4])
    exact hk _ z.aw
   .rw [tl d2 fo kp c2 mU]
    (((with_reducible refine fP ?_ ?_ ?_);(· exact (by (simp only [gh]);have:=z.size;omega));(· exact x));replace z:=z.au x;replace q0:=q0.over x;replace g2:=g2.over x;replace q2:=q2.over x;rw [az h'])
    simp only [aa,seval,c4]
    ((with_reducible refine ⟨z.cS.lay _ _,?_⟩);(intro _ h' zz x _);(simp only [bS,bD] at x);replace q0:=q0.over x;replace g2:=g2.over x;replace q2:=q2.over x;(replace z:=zz);(clear zz);rw [az h'])
    repeat' (simp only [aa,seval,c4])
    all_goals exact hk _ z.aw
  .rw [vU d2 fo kp c2 mU]
   (replace z:=z.au x;replace q0:=q0.over x;replace g2:=g2.over x;replace q2:=q2.over x;rw [az h'])
   repeat' (first|simp only [aa,seval,c4,bne_self_eq_false,q2.lay,o0]|((with_reducible apply oQ) <;> intro _)|((with_reducible apply cK);(· rfl)))
   .exact hk _ z.aw
   have Nl:0 < ((dY c1.answers).length:Int):=by omega
   obtain ⟨vZ,Js⟩:=Lw which ((dY c1.answers).length:Int) (by omega)
   have Be:(dY c1.answers).length<=60000:=by
    have h1:=BH c1.answers
    have h2:=kU.lq c1 qi
    have h3:=kU.steps
    omega
   with_reducible first|refine eF (by simp only [c4]) z.aw ?_
   simp only [aa,seval,c4,q2.lay,o0]
   refine OQ which ((dY c1.answers).length:Int) _ _ (by omega) (λh' x=>?_)
   (((with_reducible refine fP ?_ ?_ ?_);(· exact (by (simp only [gh]);have:=z.size;omega));(· exact x));replace z:=z.au x;replace q0:=q0.over x;replace g2:=g2.over x;replace q2:=q2.over x;rw [az h'])
   simp only [aa,seval,c4]
   obtain ⟨pn,xB⟩:∃ pn:Nat,(pn:Int)=p0 which ((dY c1.answers).length:Int):=⟨(p0 which ((dY c1.answers).length:Int)).toNat,by omega⟩
   rw [<- xB]
   obtain ⟨a0,sR,vd⟩:=i4 (l:=dY c1.answers) (i:=pn) (by omega)
   refine tH (s1.mono g2.all) cM cw (by omega) sR (λp hp=>?_)
   simp only [aa,seval,c4]
   refine rj hp jb cw ?_
   clear hp
   simp only [aa,seval,c4]
   have oY:a0∈c1.answers:=(uj (zU (sP c1 qi))).1 (ek vd)
   have jG:=sP c1 qi a0 oY
   have tl:=mf a0 jG (rf a0 oY)
   refine OP cl facts a0 300 v u _ ((dq.ext z).lay _ _) ((hl.mono z.inc).lay _ _) ((hf.mono z.inc).lay _ _) (by omega) (λc hc=>by have:=e3 c hc;omega) (by omega) (by omega) hm jG.valid _ (λh' x=>?_) (λd2 fo kp c2 mU h' x=>?_)
   ·(( ((with_reducible refine fP ?_ ?_ ?_);(· exact (by ( simp only [gh] );have:=z.size;omega));(·  exact x )) );replace z:=z.au x;( replace q0:=q0.over x );( replace g2:=g2.over x );( replace q2:=q2.over x );rw [az h'])
    simp only [aa,seval,c4]
    ((with_reducible refine ⟨z.cS.lay _ _,?_⟩);(intro _ h' zz x _);(simp only [bS,bD] at x);replace q0:=q0.over x;replace g2:=g2.over x;replace q2:=q2.over x;(replace z:=zz);(clear zz);rw [az h'])
    repeat' (simp only [aa,seval,c4])
    exact hk _ z.aw
   .rw [tl d2 fo kp c2 mU]
    (((with_reducible refine fP ?_ ?_ ?_);(· exact (by (simp only [gh]);have:=z.size;omega));(· exact x));replace z:=z.au x;replace q0:=q0.over x;replace g2:=g2.over x;replace q2:=q2.over x;rw [az h'])
    simp only [aa,seval,c4]
    ((with_reducible refine ⟨z.cS.lay _ _,?_⟩);(intro _ h' zz x _);(simp only [bS,bD] at x);replace q0:=q0.over x;replace g2:=g2.over x;replace q2:=q2.over x;(replace z:=zz);(clear zz);rw [az h'])
    repeat' (simp only [aa,seval,c4])
    all_goals exact hk _ z.aw
 .simp only [aa,seval,c4,o0]
  refine cm (λBb=>?_) (λBb=>?_)
  .repeat' ( simp only [aa,seval,c4])
   exact hk _ z.aw
  repeat' (simp only [aa,seval,c4])
  refine uw (λh' x hq=>?_)
  have q2:=hq 0 _ rfl
  clear hq
  (replace z:=z.au x;replace q0:=q0.over x;replace g2:=g2.over x;rw [az h'])
  have Nl:0 < ((dY c1.answers).length:Int):=by omega
  obtain ⟨vZ,Js⟩:=Lw which ((dY c1.answers).length:Int) (by omega)
  have Be:(dY c1.answers).length<=60000:=by
   have h1:=BH c1.answers
   have h2:=kU.lq c1 qi
   have h3:=kU.steps
   omega
  with_reducible first|refine eF (by simp only [c4]) z.aw ?_
  simp only [aa,seval,c4,q2.lay,o0]
  refine OQ which ((dY c1.answers).length:Int) _ _ (by omega) (λh' x=>?_)
  (((with_reducible refine fP ?_ ?_ ?_);(· exact (by (simp only [gh]);have:=z.size;omega));(· exact x));replace z:=z.au x;replace q0:=q0.over x;replace g2:=g2.over x;replace q2:=q2.over x;rw [az h'])
  simp only [aa,seval,c4]
  obtain ⟨pn,xB⟩:∃ pn:Nat,(pn:Int)=p0 which ((dY c1.answers).length:Int):=⟨(p0 which ((dY c1.answers).length:Int)).toNat,by omega⟩
  rw [<- xB]
  obtain ⟨a0,sR,vd⟩:=i4 (l:=dY c1.answers) (i:=pn) (by omega)
  refine tH (s1.mono g2.all) cM cw (by omega) sR (λp hp=>?_)
  simp only [aa,seval,c4]
  refine rj hp jb cw ?_
  clear hp
  simp only [aa,seval,c4]
  have oY:a0∈c1.answers:=(uj (zU (sP c1 qi))).1 (ek vd)
  have jG:=sP c1 qi a0 oY
  have tl:=mf a0 jG (rf a0 oY)
  refine OP cl facts a0 300 v u _ ((dq.ext z).lay _ _) ((hl.mono z.inc).lay _ _) ((hf.mono z.inc).lay _ _) (by omega) (λc hc=>by have:=e3 c hc;omega) (by omega) (by omega) hm jG.valid _ (λh' x=>?_) (λd2 fo kp c2 mU h' x=>?_)
  ·(( ((with_reducible refine fP ?_ ?_ ?_);(· exact (by ( simp only [gh] );have:=z.size;omega));(·  exact x )) );replace z:=z.au x;( replace q0:=q0.over x );( replace g2:=g2.over x );( replace q2:=q2.over x );rw [az h'])
   simp only [aa,seval,c4]
   ((with_reducible refine ⟨z.cS.lay _ _,?_⟩);(intro _ h' zz x _);(simp only [bS,bD] at x);replace q0:=q0.over x;replace g2:=g2.over x;replace q2:=q2.over x;(replace z:=zz);(clear zz);rw [az h'])
   repeat' (simp only [aa,seval,c4])
   exact hk _ z.aw
  .rw [tl d2 fo kp c2 mU]
   (((with_reducible refine fP ?_ ?_ ?_);(· exact (by (simp only [gh]);have:=z.size;omega));(· exact x));replace z:=z.au x;replace q0:=q0.over x;replace g2:=g2.over x;replace q2:=q2.over x;rw [az h'])
   simp only [aa,seval,c4]
   ((with_reducible refine ⟨z.cS.lay _ _,?_⟩);(intro _ h' zz x _);(simp only [bS,bD] at x);replace q0:=q0.over x;replace g2:=g2.over x;replace q2:=q2.over x;(replace z:=zz);(clear zz);rw [az h'])
   repeat' (simp only [aa,seval,c4])
   all_goals exact hk _ z.aw
end Go.Proofs.YtnkmeidmdaidhaaGreatDoor
