/- The solver: canonical variants may be; answers are ground and may be. No condition. -/
import Derived.Test.YtnkmeidmdaidhaaGreatDoorG43
import Derived.Test.YtnkmeidmdaidhaaGreatDoorG44
set_option linter.unusedSimpArgs false
set_option linter.unusedVariables false
set_option maxRecDepth 100000
set_option maxHeartbeats 0
noncomputable section
namespace Go.Am
variable {i:Nat} {a:ae}
def Fh (n:Nat):bf:=⟨#[86]⟩++jG n
theorem zow (n:Nat):j5 (Fh n) 0=86:=by
 unfold Fh jG j5
 rfl
theorem TL (n:Nat):(Fh n).size=2:=rfl
theorem zv7 {n:Nat} (hn:n < 10):uC (Fh n):=by
 have h:n=0\/n=1\/n=2\/n=3\/n=4\/n=5\/n=6\/n=7\/n=8\/n=9:=by omega
 have ki:∀ i,i < 2->i=0\/i=1:=λi hi=>by omega
 refine ⟨by rw [TL];omega,by rw [TL];omega,by rw [zow];omega,λi hi=>?_⟩
 rw [TL] at hi
 rcases ki i hi with rfl|rfl
 .rw [zow];unfold kE;omega
 .have e:j5 (Fh n) 1=((UInt8.ofNat (48+n)).toNat:Int):=rfl
  rw [e,UInt8.toNat_ofNat']
  unfold kE
  omega
theorem zse (h:(a.arg i).v=true):nn a i=⟨true,Fh (iW (a.arg i).s (dq a (i+1)))⟩:=by
 unfold nn
 rw [aG h]
 rfl
theorem zsd (h:(a.arg i).v=false):nn a i=a.arg i:=by
 unfold nn
 rw [aA (by rw [h];decide)]
theorem zuU (hi:i < 4) (h:(a.arg i).v=true):iW (a.arg i).s (dq a (i+1)) < 4:=by
 have h1:=UM (zwW h)
 have h2:=Ug a (i+1)
 omega
theorem zm3 (a:ae) (hi:i < 4):(b8 a).arg i=if i < a.cH then nn a i else a.arg i:=zzk _ a hi
theorem ZS (h:bT a):bT (b8 a):=by
 refine ⟨h.says,h.pred,h.lo,h.hi,λi hi=>?_,λi hi h4=>?_⟩
 .have hi:(i:Int) < a.n:=hi
  have lY:i < 4:=by have:=h.hi;omega
  rw [zm3 a lY,aG (iu.2 ⟨lY,hi⟩)]
  cases hv:(a.arg i).v
  .rw [zsd hv];exact h.ie i hi
  .rw [zse hv]
   unfold eR
   rw [aG rfl]
   exact zv7 (by have:=zuU lY hv;omega)
 .have hi:a.n<=(i:Int):=hi
  rw [zm3 a h4,aA (λhc=>by have:=(iu.1 hc).2;omega)]
  exact h.rest i hi h4
def cy (d:bg):Prop:=∀ c∈d.calls,∀ a∈c.answers,ke a
theorem cy.of {d d':bg} (h:cy d) (g:∀ c∈d'.calls,∀ a∈c.answers,ke a\/∃ c0∈d.calls,a∈c0.answers):cy d':=λc hc a ha=>(g c hc a ha).elim id (λ⟨c0,h0,AV⟩=>h c0 h0 a AV)
theorem cy.add {d:bg} (h:cy d) (i:Nat) (a:ae):cy (bq d i a).1:=by
 refine h.of λc hc x hx=>?_
 unfold bq at hc
 split at hc
 .rename_i c0 lx
  split at hc
  .exact .inr ⟨c,hc,hx⟩
  .rename_i hn
   rcases EN hc with hc|rfl
   .exact .inr ⟨c,hc,hx⟩
   .rcases ju.1 hx with hx|hx
    .exact .inr ⟨c0,fV lx,hx⟩
    .rw [ek.1 hx]
     left
     refine ⟨?_,?_⟩
     .exact Classical.not_not.1 λhv=>hn (.inr (.inl hv))
     .cases he:cz [] c0.atom a with
      |none=>exact absurd (.inl (by rw [he];rfl)) hn
      |some m=>exact (zns zq0 he).2.2.2.1
 .exact .inr ⟨c,hc,hx⟩
theorem cy.answer {d:bg} (h:cy d) (i:Nat) (r:aV):cy (gm d i r):=by
 have h2:=h.add i r.atom
 unfold cy at h2 ⊢
 rw [(zB d i r).2.1]
 exact h2
theorem cy.open {d:bg} (h:cy d) (a:ae):cy (dr d a).1:=by
 refine h.of λc hc x hx=>?_
 unfold dr at hc
 split at hc
 .exact .inr ⟨c,hc,hx⟩
 split at hc
 .exact .inr ⟨c,hc,hx⟩
 .rcases ju.1 hc with hc|hc
  .exact .inr ⟨c,hc,hx⟩
  .rw [ek.1 hc] at hx;cases hx
theorem cy.lI (i:Nat):∀ (l:aU) {d:bg},cy d->cy (jR d i l)
 | [],d,h=>h
 |f::l,d,h=>cy.lI i l (h.answer i ⟨f,-1,[]⟩)
theorem cy.fL {d:bg} (h:cy d) (i:Nat) (a:ae) (cs:List ay) (k:Nat):cy (gQ d i a k cs):=by
 unfold cy
 rw [(LS i a cs k d).1]
 exact h
theorem cy.bp {d:bg} (h:cy d) (facts:aU) (cl:List ay) (a:ae):cy (bp facts cl d a).1:=by
 have ho:=h.open (b8 a)
 unfold Am.bp
 split
 .exact cy.fL (cy.lI _ _ ho) _ _ _ _
 .exact ho
theorem cy.wait {d:bg} (h:cy d) (i k:Nat):cy (js d i k):=by
 obtain ⟨_,_,_,_,_,_,_,_,k9⟩:=CH d i k
 refine h.of λc hc x hx=>?_
 obtain ⟨c0,h0,e0⟩:=k9 c hc
 exact .inr ⟨c0,h0,e0 ▸ hx⟩
theorem cy.Ib {d:bg} (h:cy d) (facts:aU) (cl:List ay) (k:Nat) (s:eu) (c:ay):cy (en facts cl d k s c):=by
 unfold en
 split
 .exact h
 .refine cy.wait ?_ _ _
  have h1:cy { d with ab:=d.ab.set k { s with next:=dA s.l ((c.body[s.taken]?).getD ah) } }:=h
  exact h1.bp facts cl _
theorem cy.i7 {d:bg} (h:cy d) (facts:aU) (cl:List ay) (k:Nat):cy (i7 facts cl d k):=by
 unfold Am.i7
 split
 .split
  .split
   .exact h.answer _ _
   .dsimp only
    split
    .unfold cy
     rw [(CJ _ _ _).2.2]
     exact h.Ib facts cl k _ _
    .exact h.Ib facts cl k _ _
  .exact h
 .exact h
theorem ztn (facts:aU) (cl:List ay) (b:Int) (goal:ae):cy (m9 facts cl b goal):=cy.bp (d:=nY b) nofun facts cl (b8 goal)
theorem zxp {facts:aU} {cl:List ay} {b:Int} {goal:ae} (h:bT goal):(bp facts cl (nY b) (b8 goal)).2=0/\0 < (m9 facts cl b goal).calls.length:=by
 obtain ⟨k1,k2,k3,k4⟩:=zH facts cl (nY b) (b8 goal)
 have hv:=ZS (ZS h)
 have e:dr (nY b) (b8 (b8 goal))=({ nY b with calls:=[⟨b8 (b8 (b8 goal)),[],[]⟩] },0,true):=by
  unfold dr
  rw [aA (by simpa using hv),aA (by simp [nY])]
  rfl
 unfold m9
 rw [k4,k3,e]
 exact ⟨rfl,Nat.zero_lt_one⟩
end Go.Am
namespace Go.Proofs.YtnkmeidmdaidhaaGreatDoor
open Go.Am Tryz
theorem zz8 (wa va:Option Addr) (wn wc vn vc:Nat) (b:Int) (t m:Nat):mu aH 63 [(0,.slice wa wn wc),(1,.slice va vn vc),(2,.int .i64 b),(4,.pointer (some ⟨t,0,none⟩)),(8,.map (some m))]=some (.agg ⟨[.slice wa wn wc,.slice va vn vc,.int .i64 b,.int .i64 0,.pointer (some ⟨t,0,none⟩),.slice none 0 0,.slice none 0 0,.slice none 0 0,.map (some m)]⟩):=by kernel_rfl
theorem ya {Z:Type} {r:aF Z} {h:Heap} {v:ai} {l:List Z} (f:Sl r h v l):∃ a n c,v=.slice a n c:=by
 rcases f with ⟨rfl,_⟩|⟨A,o,c,row,u,ro,rfl,_⟩ <;> exact ⟨_,_,_,rfl⟩
theorem zz5 (wa va:Option Addr) (wn wc vn vc:Nat) (a b:Int):mu aH 40 [(0,.slice wa wn wc),(1,.int .i64 a),(2,.int .i64 b),(3,.slice va vn vc)]=some (.agg ⟨[.slice wa wn wc,.int .i64 a,.int .i64 b,.slice va vn vc]⟩):=by kernel_rfl
theorem CX:mu aH 40 []=some (.agg ⟨[.slice none 0 0,.int .i64 0,.int .i64 0,.slice none 0 0]⟩):=by kernel_rfl
theorem Eh (a b c d x y z w:ai):aJ [a,b,c,d] 0 [x,y,z,w]=[x,y,z,w]:=rfl
theorem zxk {h0 h hc:Heap} (z0:Ext h0 h) (z:Ext h hc) {E:List Nat} {y:cp} {bN vf:ai} {d:bg} (v:Am.Inv gj h E y bN vf d hc) (cY:bj 1 h) {cl:List ay} {facts:aU} (kn:Sl aF.clause h bN cl) (ly:Sl aF.atom h vf facts) (oZ:cl.length<=1000) (kx:facts.length<=1000) (nh:∀ c∈cl,c.body.length<=90) {B:Nat} (Gt:B<=50000) (ti:d.aE=(B:Int)) (hS:dL cl 1 d) (hN:dp 60000 60000 60001 d) (hA:cy d) (lx:0 < d.calls.length) {ci:Nat} (hid:ci=0) {R0:Nat} (q1:ak h R0 (.row [.slice none 0 0,.int .i64 0,.int .i64 0,.slice none 0 0] 40 false)) (hR:h0.size<=R0) (K:aL) {e:Env}
 (he:∃ J:Nat->ai,e=(jr J 0 8 (.pointer (some ⟨R0,0,none⟩)::J 9::.pointer (some ⟨y.pl .w,0,none⟩)::.int .i64 (ci:Int)::.int .i64 0::jr J 13 78 ([]))))
 (jX:∀ d',dW facts cl 0 d d'->d'.aE < (d'.steps:Int)->∀ h',Ext h0 h'->K (.tuple #[.agg ⟨[.slice none 0 0,.int .i64 0,.int .i64 0,.slice none 0 0]⟩,.int .i64 14]) h')
 (AN:∀ d',dW facts cl 0 d d'->¬ d'.aE < (d'.steps:Int)->∀ c0,d'.calls[0]? = some c0->∀ h' w1 w2,Ext h0 h'->Sl aF.atom h' w1 (j8 c0.answers)->Sl aF.reason h' w2 d'.aB->K (.tuple #[.agg ⟨[w1,.int .i64 (d'.steps:Int),.int .i64 (d'.calls.length:Int),w2]⟩,.int .i64 0]) h'):W prog aH ov none (u7 19).loop e (hc.lay [] hc.low) (uN 0 (Ae prog aH ov none (u7 29) (dM aH f14 K))):=by
 obtain ⟨J,rfl⟩:=he
 have cu:∀ (u:ai) (h:Heap) (K:aL),aK (some u) h K=K u h:=λ_ _ _=>rfl
 have hz:=z.size
 have po:=z0.size
 obtain ⟨hX,qV⟩:∃ hX,hX=hc:=⟨_,rfl⟩
 have s0:dK 0 E E y y hX hc:=by rw [qV];exact dK.refl _ _ _ _
 clear qV
 obtain ⟨I1,aY⟩:∃ I:Nat->Env->Heap->Prop,I=(λn e h'=>∃ (i:Nat) (E2:List Nat) (y2:cp) (d2:bg) (h1:Heap),h'=h1.lay [] h1.low/\Ext h h1/\(n=10000000000001 - i/\i<=d2.queue.length/\d2.aE=(B:Int)/\dL cl 1 d2/\dp 60000 60000 60001 d2/\cy d2/\0 < d2.calls.length/\(∀ d',dW facts cl i d2 d'->dW facts cl 0 d d')/\Am.Inv gj h E2 y2 bN vf d2 h1/\dK 0 E E2 y y2 hX h1)/\∃ J:Nat->ai,e=(jr J 0 8 (.pointer (some ⟨R0,0,none⟩)::J 9::.pointer (some ⟨y.pl .w,0,none⟩)::.int .i64 (ci:Int)::.int .i64 (i:Int)::jr J 13 78 ([])))):=⟨_,rfl⟩
 refine dV I1 _ (by rw [aY];exact ⟨0,E,y,d,_,rfl,z,⟨rfl,jv _,ti,hS,hN,hA,lx,λ_=>id,v,s0⟩,bw⟩) ?_
 intro n e h' aT
 rw [aY] at aT
 obtain ⟨i,E2,y2,d2,bW,rfl,z,hinv,J,rfl⟩:=aT
 clear ti hS hN hA lx v s0
 obtain ⟨rfl,hi,ti,hS,hN,hA,lx,WN,v2,s2⟩:=hinv
 have fO:og d2:=hN.FW (by omega) (by omega) (by omega)
 have hql:=fO.queue
 have jx:=fe i (by omega)
 simp only [bM,seval]
 rw [ry (u7 19) (u7 20) (u7 25) rfl,ry (u7 20) (u7 21) (u7 22) rfl]
 obtain ⟨R2,P0⟩:∃ R:Env->Heap->Prop,R=(λe h'=>∃ (h1:Heap),h'=h1.lay [] h1.low/\Ext h h1/\(Am.Inv gj h E2 y2 bN vf d2 h1/\dK 0 E E2 y y2 hX h1)/\∃ J:Nat->ai,e=(jr J 0 8 (.pointer (some ⟨R0,0,none⟩)::J 9::.pointer (some ⟨y.pl .w,0,none⟩)::.int .i64 (ci:Int)::.int .i64 (i:Int)::jr J 13 78 ([])))/\∃ b:Bool,J 55=.bool b/\(b=true↔i < d2.queue.length/\¬ d2.aE < (d2.steps:Int))):=⟨_,rfl⟩
 refine Nc R2 ?cut ?rest
 case' rest =>
  intro e h' aT
  rw [P0] at aT
  obtain ⟨cK,rfl,z,hinv,J,rfl,b,hJ,wM⟩:=aT
 case cut =>
  have qw:=gk v2
  rw [s2.w] at qw
  have oq:cS aF.nat h bW 3 (y2.pl .qa) (y2.vl .qa) d2.queue:=v2.cZ .qa
  have hlq:=λ(hh:Heap)=>(oq.sl (by decide)).bP iP hh
  simp only [aa,seval,gC,qw.lay,cu,hlq]
  have g:=aP.refl [] bW
  by_cases aW:(i:Int) < (d2.queue.length:Int)
  .rw [wm aW]
   simp only [aa,seval,gC]
   rw [<- s2.w]
   refine UD (v2.aX (g.trans (aP.lay _ _ _ []) (by simp))) _ (λh' x=>?_)
   (replace z:=z.ao x;replace g:=g.over x;rw [aq h'])
   rw [s2.w]
   repeat' (first|simp only [aa,seval,gC,cu]|((with_reducible apply cn);(· rfl)))
   (rw [P0];exact ⟨_,rfl,z,⟨v2.aX g,s2.aX g⟩,Dx (by kernel_rfl) (⟨_,rfl,by rw [yx,decide_eq_false_iff_not];exact ⟨λhh=>⟨by omega,hh⟩,λhh=>hh.2⟩⟩)⟩)
  .rw [su aW]
   repeat' (simp only [aa,seval,gC])
   (rw [P0];exact ⟨_,rfl,z,⟨v2.aX g,s2.aX g⟩,Dx (by kernel_rfl) (⟨_,rfl,nofun,λhh=>absurd hh.1 (by omega)⟩)⟩)
 case rest =>
 obtain ⟨v3,s3⟩:=hinv
 clear v2 s2
 have qw:=gk v3
 rw [s3.w] at qw
 have kD:=z.size
 cases b
 .have jJ:dW facts cl 0 d d2:=by
   refine WN _ ?_
   by_cases gb:d2.aE < (d2.steps:Int)
   .exact .over gb
   .exact .done gb (by have hb:=λhh=>Bool.false_ne_true (wM.2 hh);exact Nat.le_of_not_lt λhh=>hb ⟨hh,gb⟩)
  have ru:=q1.mono z.inc
  have hRl:=q1.lt
  replace z:=z0.trans z
  have HP:=z.size
  have g:=aP.refl [] cK
  simp only [aa,seval,gC,hJ]
  rw [<- s3.w]
  refine UD (v3.aX (g.trans (aP.lay _ _ _ []) (by simp))) _ (λh' x=>?_)
  (replace z:=z.ao x;replace g:=g.over x;replace qw:=qw.over x;replace ru:=ru.over x;rw [aq h'])
  rw [s3.w]
  by_cases gb:d2.aE < (d2.steps:Int)
  .rw [wm gb]
   simp only [aa,seval,gC,CX,cu]
   refine iH (n:=4) (o:=0) (vs:=[.slice none 0 0,.int .i64 0,.int .i64 0,.slice none 0 0]) ru i0 rfl rfl (by show 0+4<=4;omega) rfl (λh2 q2 c2=>?_)
   rw [Eh] at q2
   have z2:=(z.iG [] h'.low (by omega)).step c2 hR
   rw [aq h2]
   repeat' (simp only [aa,seval,gC,q2.lay])
   exact jX _ jJ gb _ z2.aw
  rw [su gb]
  obtain ⟨c0,A5⟩:=vK (show ci < d2.calls.length by omega)
  replace AN:=AN _ jJ gb c0 (hid ▸ A5)
  have GJ:=fV A5
  have WU:=hN.lP _ GJ
  have dh:=hN.steps
  have BS:=v3.aB
  obtain ⟨ra,rn,rc,Rh⟩:=ya BS
  rw [Rh] at BS qw
  simp only [aa,seval,gC]
  with_reducible first|refine dO (by simp only [gC]) z.aw ?_
  simp only [aa,seval,gC,qw.lay,cu]
  refine zkL ((v3.aX g).aX (aP.lay _ _ _ _)) A5 (by have:=fO.calls;omega) (by omega) _ (λh' w A x om=>?_)
  have sw:Sl aF.atom h' w c0.answers:=om.sl (by decide)
  (((with_reducible refine fC ?_ ?_ ?_);(· exact (by (simp only [fT]);have:=z.size;omega));(· exact x));replace z:=z.ao x;replace g:=g.over x;replace qw:=qw.over x;replace ru:=ru.over x;rw [aq h'])
  simp only [aa,seval,gC]
  refine znZ c0.answers w _ (sw.lay _ _) (by omega) (λa ha=>(hA c0 GJ a ha).valid.bE) _ (λh' w1 x os=>?_)
  (((with_reducible refine fC ?_ ?_ ?_);(· exact (by (simp only [fT]);have:=z.size;omega));(· exact x));replace z:=z.ao x;replace g:=g.over x;replace qw:=qw.over x;replace ru:=ru.over x;rw [aq h'])
  have s1:Sl aF.atom h' w1 (j8 c0.answers):=os.sl
  obtain ⟨wa,wn,wc,rfl⟩:=ya s1
  have g1:=aP.refl [] h'
  simp only [aa,seval,gC,cu,qw.lay]
  refine zAz ((v3.aX g).aX (aP.lay _ _ _ _)) _ (λh' x=>?_)
  (((with_reducible refine fC ?_ ?_ ?_);(· exact (by (simp only [fT]);have:=z.size;omega));(· exact x));replace z:=z.ao x;replace g:=g.over x;replace qw:=qw.over x;replace ru:=ru.over x;replace g1:=g1.over x;rw [aq h'])
  simp only [aa,seval,gC,cu,qw.lay,zz5]
  refine iH (n:=4) (o:=0) (vs:=[.slice wa wn wc,.int .i64 (d2.steps:Int),.int .i64 (d2.calls.length:Int),.slice ra rn rc]) ru i0 rfl rfl (by show 0+4<=4;omega) rfl (λh8 q8 i6=>?_)
  rw [Eh] at q8
  refine gR (A:=R0) (by kernel_rfl) (by have:=z.size;rw [bo];omega) (by omega) i6 ?_
  have sat:∀ {v:ai} {l:aU},Sl aF.atom (h'.lay [] (h'.size+0)) v l->Sl aF.atom h8 v l:=λf=>f.small (ru.on [] _) (by show 4 < 11;omega) i6 q8 (λ_ _ hh=>hh)
  have s18:=sat ((s1.mono g1.all).lay [] (h'.size+0))
  have s28:Sl aF.reason h8 (.slice ra rn rc) d2.aB:=((BS.mono g.all).lay [] (h'.size+0)).small (ru.on [] _) (by show 4 < 13;omega) i6 q8 (λcs x ⟨b,e1,e2⟩=>⟨b,e1,sat e2⟩)
  have z8:=z.bY i6 hR (by omega)
  clear z g g1 qw ru
  have z:=z8
  have g:=aP.refl [] h8
  rw [aq h8]
  simp only [aa,seval,gC]
  ((with_reducible refine ⟨z.cI.lay _ _,?_⟩);(intro _ h' zz x _);(simp only [bK,bu] at x);replace g:=g.over x;replace q8:=q8.over x;(replace z:=zz);(clear zz);rw [aq h'])
  repeat' (simp only [aa,seval,gC,q8.lay])
  exact AN _ _ _ z.aw ((s18.mono g.all).lay _ _) ((s28.mono g.all).lay _ _)
 obtain ⟨aW,gb⟩:=wM.1 rfl
 obtain ⟨k,hk⟩:=vK aW
 have xb:=hS.q k (fV hk)
 have K8:=zAP (facts:=facts) hS hN ti Gt gb kx oZ nh xb
 obtain ⟨sD,jD,cD,a1,a2,a3,a4,a5,a6,a7,a8,a9,wt⟩:=K8.ask
 have oq:cS aF.nat h cK 3 (y2.pl .qa) (y2.vl .qa) d2.queue:=v3.cZ .qa
 have hsq:Sl aF.nat cK (y2.vl .qa) d2.queue:=oq.sl (by decide)
 have hr:d2.queue[(i:Int).toNat]? = some k:=by rw [wj];exact hk
 repeat' (first|simp only [aa,seval,gC,hJ,qw.lay,cu]|with_reducible refine zyd hsq iP xL (by omega) hr (λp hp=>?_)|with_reducible refine sc hp Nu ?_)
 rw [<- s3.w]
 refine zBu cY z.aw (v3.aX (aP.lay _ _ _ _)) kn ly oZ kx a1 a2 a3 (by have:=nh cD (fV a3);omega) a4 a5 a6 a7 a8 a9 wt _ (λh5 E5 y5 u5 z5 v5 s5=>?_)
 rw [s3.w]
 have s6:=(s3.aX (aP.lay cK [] cK.low [])).trans s5 (jv _)
 rw [aq h5]
 clear qw
 have z:=z5
 repeat' (simp only [aa,seval,gC])
 rw [jx]
 (rw [aY];with_reducible refine cR (m:=_) ?_ ⟨i+1,E5,y5,i7 facts cl d2 k,_,rfl,z,⟨rfl,dZ aW (zwA facts cl d2 k),K8.aE.trans ti,K8.str,K8.num,hA.i7 facts cl k,dU lx (zwz facts cl d2 k),λd' r=>WN d' (.step gb hk r),v5,s6⟩,bw⟩;omega)
theorem M6 (cl:List ay) (facts:aU) (goal:ae) (B:Int) (v u:ai) (h:Heap) (cY:bj 1 h) (hl:Sl aF.clause h v cl) (hf:Sl aF.atom h u facts) (hn:cl.length<=1000) (nh:∀ c∈cl,c.body.length<=90) (kx:facts.length<=900) (hB:B<=50000\/1048576 < B) (K:aL)
 (kh:¬ (sE cl facts/\bT goal/\0<=B/\B<=1048576)->∀ h',Ext h h'->K (.tuple #[.agg ⟨[.slice none 0 0,.int .i64 0,.int .i64 0,.slice none 0 0]⟩,.int .i64 2]) h')
 (jX:sE cl facts->bT goal->0<=B->B<=50000->∀ d',dW (j8 facts) (cl.map gJ) 0 (m9 (j8 facts) (cl.map gJ) B goal) d'->d'.aE < (d'.steps:Int)->∀ h',Ext h h'->K (.tuple #[.agg ⟨[.slice none 0 0,.int .i64 0,.int .i64 0,.slice none 0 0]⟩,.int .i64 14]) h')
 (AN:sE cl facts->bT goal->0<=B->B<=50000->∀ d',dW (j8 facts) (cl.map gJ) 0 (m9 (j8 facts) (cl.map gJ) B goal) d'->¬ d'.aE < (d'.steps:Int)->∀ c0,d'.calls[0]? = some c0->∀ h' w1 w2,Ext h h'->Sl aF.atom h' w1 (j8 c0.answers)->Sl aF.reason h' w2 d'.aB->K (.tuple #[.agg ⟨[w1,.int .i64 (d'.steps:Int),.int .i64 (d'.calls.length:Int),w2]⟩,.int .i64 0]) h'):Ok prog aH ov 14 [v,u,goal.val,.int .i64 B] h K:=by
 rw [aq h]
 have z:=Ext.refl h
 have cu:∀ (u:ai) (h:Heap) (K:aL),aK (some u) h K=K u h:=λ_ _ _=>rfl
 refine Ok.aC 87 (bH u7) ?_
 simp only [aa,seval,gC,iB]
 refine zzr cl facts v u _ (cY.lay _ _) (hl.lay _ _) (hf.lay _ _) hn (λc hc=>by have:=nh c hc;omega) (by omega) _ (λhm h' x=>?_) (λhm h' x=>?_)
 rotate_left
 .have q1:=ak.top (i:=1) x rfl
  (replace z:=z.ao x;rw [aq h'])
  replace kh:=kh (λe=>hm e.1)
  repeat' (first|simp only [aa,seval,gC]|((with_reducible apply cn);(· rfl)))
  simp only [aa,seval,gC,CX,cu]
  refine iH (n:=4) (o:=0) (vs:=[.slice none 0 0,.int .i64 0,.int .i64 0,.slice none 0 0]) q1 i0 rfl rfl (by show 0+4<=4;omega) rfl (λh2 q2 c2=>?_)
  rw [Eh] at q2
  have z2:=(z.iG [] h'.low (by omega)).step c2 (by omega)
  rw [aq h2]
  repeat' (simp only [aa,seval,gC,q2.lay])
  exact kh _ z2.aw
 have q0:=ak.top (i:=0) x rfl
 have q1:=ak.top (i:=1) x rfl
 (replace z:=z.ao x;rw [aq h'])
 repeat' (first|simp only [aa,seval,gC,q0.lay,↓eH,dJ,dt]|((with_reducible apply cn);(· rfl)))
 refine JE goal _ ((cY.ext z).lay _ _) _ (λhv h' x=>?_) (λhv c h' hc x=>?_)
 rotate_left
 ·(replace z:=z.ao x;( replace q0:=q0.over x );( replace q1:=q1.over x );rw [aq h'])
  repeat' (first|simp only [aa,seval,gC]|((with_reducible first|apply b9|apply se) <;> intro _))
  all_goals try (exfalso;omega)
  simp only [aa,seval,gC,CX,cu]
  refine iH (n:=4) (o:=0) (vs:=[.slice none 0 0,.int .i64 0,.int .i64 0,.slice none 0 0]) q1 i0 rfl rfl (by show 0+4<=4;omega) rfl (λh2 q2 c2=>?_)
  rw [Eh] at q2
  have z2:=(z.iG [] h'.low (by omega)).step c2 (by omega)
  rw [aq h2]
  repeat' (simp only [aa,seval,gC,q2.lay])
  exact kh (λe=>hv e.2.1) _ z2.aw
 (replace z:=z.ao x;replace q0:=q0.over x;replace q1:=q1.over x;rw [aq h'])
 repeat' (first|simp only [aa,seval,gC]|((with_reducible apply b9) <;> intro _))
 .simp only [aa,seval,gC,CX,cu]
  refine iH (n:=4) (o:=0) (vs:=[.slice none 0 0,.int .i64 0,.int .i64 0,.slice none 0 0]) q1 i0 rfl rfl (by show 0+4<=4;omega) rfl (λh2 q2 c2=>?_)
  rw [Eh] at q2
  have z2:=(z.iG [] h'.low (by omega)).step c2 (by omega)
  rw [aq h2]
  repeat' (simp only [aa,seval,gC,q2.lay])
  exact kh (λe=>by omega) _ z2.aw
 .simp only [aa,seval,gC,CX,cu]
  refine iH (n:=4) (o:=0) (vs:=[.slice none 0 0,.int .i64 0,.int .i64 0,.slice none 0 0]) q1 i0 rfl rfl (by show 0+4<=4;omega) rfl (λh2 q2 c2=>?_)
  rw [Eh] at q2
  have z2:=(z.iG [] h'.low (by omega)).step c2 (by omega)
  rw [aq h2]
  repeat' (simp only [aa,seval,gC,q2.lay])
  exact kh (λe=>by omega) _ z2.aw
 clear kh
 have nf:0<=B:=by omega
 have Gt:B<=50000:=by omega
 replace jX:=jX hm hv nf Gt
 replace AN:=AN hm hv nf Gt
 refine zs0 cl v _ ((hl.mono z.inc).lay _ _) hn (λc hc=>⟨by have:=nh c hc;omega,(hm.clauses c hc).head.bE,λb hb=>((hm.clauses c hc).body b hb).bE⟩) _ (λwr Ar h' x Sn=>?_)
 (replace z:=z.ao x;replace q0:=q0.over x;replace q1:=q1.over x;rw [aq h'])
 have slr:Sl aF.clause (h'.lay [] h'.low) wr (cl.map gJ):=(Sn.sl (by decide)).lay _ _
 obtain ⟨wa,wn,wc,rfl⟩:=Sn.slice
 have gr:=aP.refl [] h'
 simp only [aa,seval,gC]
 refine znZ facts u _ ((hf.mono z.inc).lay _ _) (by omega) (λa ha=>(hm.facts a ha).valid.bE) _ (λh' wf x XJ=>?_)
 (replace z:=z.ao x;replace q0:=q0.over x;replace q1:=q1.over x;replace gr:=gr.over x;rw [aq h'])
 have vE:Sl aF.atom (h'.lay [] h'.low) wf (j8 facts):=XJ.sl.lay _ _
 obtain ⟨va,vn,vc,rfl⟩:=ya vE
 have gf:=aP.refl [] h'
 simp only [aa,seval,gC]
 have base:∃ hb,hb.size=h'.size/\Ext h hb/\Sl aF.clause hb (.slice wa wn wc) (cl.map gJ)/\Sl aF.atom hb (.slice va vn vc) (j8 facts)/\bj 1 hb/\ak hb (h.size+1) (.row [.slice none 0 0,.int .i64 0,.int .i64 0,.slice none 0 0] 40 false)/\Ext hb (h'.lay [] h'.low) :=
  ⟨h',rfl,z,(Sn.sl (by decide)).mono gr.all,XJ.sl.mono gf.all,cY.ext z,q1,(Ext.refl h').iG [] h'.low (by omega)⟩
 obtain ⟨hb,b1,b2,b3,b4,b5,b6,b7⟩:=base
 have afN:=q1.lt
 refine zw5 _ _ (λh' T0 PM x qt mp ht1 q9 htp=>?_)
 have zb:=b7.trans x
 simp only [bo,cW,gw] at ht1 q9
 (replace z:=z.ao x;replace q0:=q0.over x;replace q1:=q1.over x;replace gr:=gr.over x;replace gf:=gf.over x;rw [aq h'])
 have gt:=aP.refl [] h'
 have hzb:=zb.size
 repeat' (simp only [aa,seval,gC,cu,Jy,zz8,dJ,q0.lay,↓eH,dJ])
 have P5:=qt.lt
 have PZ:=mp.lt
 obtain ⟨hN,Lc⟩:∃ hN,hN=h':=⟨_,rfl⟩
 refine MK goal _ _ (λh' x=>?_)
 replace zb:=zb.trans ((Ext.refl _).zl x (by omega))
 (replace z:=z.ao x;replace q0:=q0.over x;replace q1:=q1.over x;replace gt:=gt.over x;replace qt:=qt.over x;replace mp:=mp.over x;rw [aq h'])
 have qk:=ak.top (i:=0) x rfl
 have qw:=ak.top (i:=1) x rfl
 rw [<- Lc] at qk qw hzb
 rw [<- Lc]
 have afZ:=qt.lt
 have afB:=mp.lt
 have hTN:T0 < hN.size/\PM < hN.size:=by rw [Lc];exact ⟨P5,PZ⟩
 obtain ⟨W0,WS⟩:∃ W0,W0=hN.size+1:=⟨_,rfl⟩
 obtain ⟨y0,HL⟩:∃ y0,y0=xD W0 T0 PM (hN.size+0):=⟨_,rfl⟩
 have v0:Am.Inv gj hb [W0,T0,PM,hN.size+0] y0 (.slice wa wn wc) (.slice va vn vc) (nY B) h':=by
  rw [HL]
  rw [<- WS] at qw
  exact Inv.first qw qt mp (fj.new qk) ⟨by omega,by omega,by omega,by omega⟩ ⟨by omega,by omega,by omega,htp,by omega,by omega⟩
 have hyw:y0.pl .w=W0:=by rw [HL];rfl
 have dh:=zxq (j8 facts) (cl.map gJ) B goal (dZ (LQ facts) (by omega)) (by rw [fN];exact hn)
 obtain ⟨st1,st2,D8,Io,st5⟩:=dh
 obtain ⟨id1,id2⟩:=zxp (facts:=j8 facts) (cl:=cl.map gJ) (b:=B) hv
 rw [<- WS,<- hyw]
 clear qk qw Lc
 have Cc:=zb.size
 repeat' (simp only [aa,seval,gC])
 refine zrc b5 zb.aw (v0.aX (aP.lay _ _ _ _)) b3 b4 (by rw [fN];exact hn) (dZ (LQ facts) (by omega)) (b8 goal) (jv _) Io st5 _ (λh7 E7 y7 z7 v7 s7=>?_)
 rw [id1]
 rw [aq h7]
 repeat' (simp only [aa,seval,gC])
 have v8:Am.Inv gj hb E7 y7 (.slice wa wn wc) (.slice va vn vc) (m9 (j8 facts) (cl.map gJ) B goal) h7:=v7
 refine zxk b2 z7 v8 b5 b3 b4 (by rw [fN];exact hn) (dZ (LQ facts) (by omega)) (λc hc=>?_) (B:=B.toNat) (by omega) (by rw [D8];omega) st1 st2 (ztn _ _ _ _) id2 (ci:=0) rfl b6 (by omega) K (by rw [s7.w];exact Cf (by kernel_rfl)) jX AN
 obtain ⟨c0,h0,rfl⟩:=sx.1 hc
 show (c0.body.map gd).length<=90
 rw [fN]
 exact nh c0 h0
def N16:=bD f16
def SO:=PLift.up (by have c:=bG N16 f16;simp only [aQ,f16,seval] at c;exact nd c <| nd @sI <| nd @Kk <| nd @ix <| nd @cj <| nd @fK <| @Od)
def Vl:=bD f18
def I8:=PLift.up (by have c:=bG Vl f18;simp only [aQ,f18,seval] at c;exact nd c <| nd @Kk <| nd @M1 <| nd @UU <| nd @zx5 <| nd @ix <| nd @mh <| nd @xE <| @Of)
theorem NN:type_of% I8.down:=I8.down
def KD:=bD f19
def I9:=PLift.up (by have c:=bG KD f19;simp only [aQ,f19,seval] at c;exact nd c <| nd @Ao <| nd @Kk <| nd @M1 <| nd @UU <| nd @zx5 <| nd @zx8 <| nd @zAm <| nd @zx9 <| nd @HS <| nd @ix <| nd @cj <| nd @mh <| nd @xE <| nd @xG <| nd @HZ <| @Og)
theorem rO:type_of% I9.down:=I9.down
def Vz:=bD f38
def Yi:=PLift.up (by have c:=bG Vz f38;simp only [aQ,f38,seval] at c;exact nd c <| nd @fJ <| nd @cj <| nd @fK <| @OB)
theorem sO:type_of% Yi.down:=Yi.down
def Vx:=bD f35
def Yg:=PLift.up (by have c:=bG Vx f35;simp only [aQ,f35,seval] at c;exact nd c <| nd @fJ <| nd @cj <| nd @fK <| @Oz)
theorem Wl:type_of% Yg.down:=Yg.down
def Vy:=bD f36
def Yh:=PLift.up (by have c:=bG Vy f36;simp only [aQ,f36,seval] at c;exact nd c <| nd @Ao <| nd @HS <| nd @xG <| nd @HZ <| @OA)
theorem Wm:type_of% Yh.down:=Yh.down
def N5:=bD f5
def x5:=PLift.up (by have c:=bG N5 f5;simp only [aQ,f5,seval] at c;exact nd c <| nd @sI <| nd @M1 <| nd @cj <| nd @mh <| nd @HU <| @fi5)
theorem c5:type_of% x5.down:=x5.down
def N4:=bD f4
def x4:=PLift.up (by have c:=bG N4 f4;simp only [aQ,f4,seval] at c;exact nd c <| nd @sI <| nd @Kk <| nd @fJ <| nd @ix <| nd @cj <| nd @fK <| @fi4)
theorem c4:type_of% x4.down:=x4.down
def N3:=bD f3
def x3:=PLift.up (by have c:=bG N3 f3;simp only [aQ,f3,seval] at c;exact nd c <| nd @jb <| nd @sI <| nd @Aq <| nd @oO <| nd @C6 <| nd @yi <| nd @yj <| nd @Kk <| nd @M1 <| nd @UU <| nd @mV <| nd @fJ <| nd @Ce <| nd @ix <| nd @cj <| nd @mh <| nd @jZ <| nd @px <| nd @fK <| nd @Ck <| nd @Se <| @fi3)
theorem c3:type_of% x3.down:=x3.down
def N10:=bD f10
def Ir:=PLift.up (by have c:=bG N10 f10;simp only [aQ,f10,seval] at c;exact nd c <| nd @jb <| nd @vZ <| nd @nN <| nd @cj <| @N1)
theorem DF:type_of% Ir.down:=Ir.down
def N13:=bD f13
def SM:=PLift.up (by have c:=bG N13 f13;simp only [aQ,f13,seval] at c;exact nd c <| nd @jb <| nd @vZ <| nd @nN <| nd @cj <| @Oa)
end Go.Proofs.YtnkmeidmdaidhaaGreatDoor
