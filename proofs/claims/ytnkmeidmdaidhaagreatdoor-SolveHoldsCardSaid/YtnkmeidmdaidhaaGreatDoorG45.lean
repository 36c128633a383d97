/- The solver: canonical variants may be; answers are ground and may be. No condition. -/
import Derived.Test.YtnkmeidmdaidhaaGreatDoorG43
import Derived.Test.YtnkmeidmdaidhaaGreatDoorG44
set_option linter.unusedSimpArgs false
set_option linter.unusedVariables false
namespace Go.Am
variable {i:Nat} {a:ae}
def rL (n:Nat):aV:=⟨#[86]⟩++kh n
theorem zpu (n:Nat):kH (rL n) 0=86:=by
 unfold rL kh kH
 rfl
theorem Oi (n:Nat):(rL n).size=2:=rfl
theorem zxe {n m:Nat} (hn:n < 10) (hm:m < 10) (h:rL n=rL m):n=m:=by
 have h2:(rL n).data.toList=(rL m).data.toList:=by rw [h]
 unfold rL kh at h2
 simp only [ByteArray.data_append] at h2
 have h3:UInt8.ofNat (48+n)=UInt8.ofNat (48+m):=by simpa using h2
 have h4:=congrArg UInt8.toNat h3
 simp only [UInt8.toNat_ofNat'] at h4
 omega
theorem zpv {n:Nat} (hn:n < 10):wS (rL n):=by
 have h:n=0\/n=1\/n=2\/n=3\/n=4\/n=5\/n=6\/n=7\/n=8\/n=9:=by omega
 have lS:∀ i,i < 2->i=0\/i=1:=λi hi=>by omega
 refine ⟨by rw [Oi];omega,by rw [Oi];omega,by rw [zpu];omega,λi hi=>?_⟩
 rw [Oi] at hi
 rcases lS i hi with rfl|rfl
 .rw [zpu];unfold kY;omega
 .have e:kH (rL n) 1=((UInt8.ofNat (48+n)).toNat:Int):=rfl
  rw [e,UInt8.toNat_ofNat']
  unfold kY
  omega
theorem Gk (h:(a.arg i).v=true):kJ a i=⟨true,rL (gP (a.arg i).s (cQ a (i+1)))⟩:=by
 unfold kJ
 rw [aB h]
 rfl
theorem N6 (h:(a.arg i).v=false):kJ a i=a.arg i:=by
 unfold kJ
 rw [aA (by rw [h];decide)]
theorem Ln (hi:i < 4) (h:(a.arg i).v=true):gP (a.arg i).s (cQ a (i+1)) < 4:=by
 have h1:=Xf (Wx h)
 have h2:=Ww a (i+1)
 omega
theorem Gf (a:ae) (hi:i < 4):(bC a).arg i=if i < a.bt then kJ a i else a.arg i:=zv6 _ a hi
theorem xP (h:bm a):bm (bC a):=by
 refine ⟨h.says,h.pred,h.lo,h.hi,λi hi=>?_,λi hi h4=>?_⟩
 .have hi:(i:Int) < a.n:=hi
  have jH:i < 4:=by have:=h.hi;omega
  rw [Gf a jH,aB (bA.2 ⟨jH,hi⟩)]
  cases hv:(a.arg i).v
  .rw [N6 hv];exact h.fG i hi
  .rw [Gk hv]
   unfold dQ
   rw [aB rfl]
   exact zpv (by have:=Ln jH hv;omega)
 .have hi:a.n<=(i:Int):=hi
  rw [Gf a h4,aA (λhc=>by have:=(bA.1 hc).2;omega)]
  exact h.rest i hi h4
def cC (d:aY):Prop:=∀ c∈d.calls,∀ a∈c.answers,bF a
theorem cC.of {d d':aY} (h:cC d) (g:∀ c∈d'.calls,∀ a∈c.answers,bF a\/∃ c0∈d.calls,a∈c0.answers):cC d':=λc hc a ha=>(g c hc a ha).elim id (λ⟨c0,h0,sR⟩=>h c0 h0 a sR)
theorem cC.add {d:aY} (h:cC d) (i:Nat) (a:ae):cC (bl d i a).1:=by
 refine h.of λc hc x hx=>?_
 unfold bl at hc
 split at hc
 .rename_i c0 jn
  split at hc
  .exact .inr ⟨c,hc,hx⟩
  .rename_i hn
   rcases yd hc with hc|rfl
   .exact .inr ⟨c,hc,hx⟩
   .rcases iT.1 hx with hx|hx
    .exact .inr ⟨c0,ek jn,hx⟩
    .rw [eM.1 hx]
     left
     refine ⟨?_,?_⟩
     .exact Classical.not_not.1 λhv=>hn (.inr (.inl hv))
     .cases he:bz [] c0.atom a with
      |none=>exact absurd (.inl (by rw [he];rfl)) hn
      |some m=>exact (xU di he).2.2.2.1
 .exact .inr ⟨c,hc,hx⟩
theorem cC.answer {d:aY} (h:cC d) (i:Nat) (r:ba):cC (gj d i r):=by
 have h2:=h.add i r.atom
 unfold cC at h2 ⊢
 rw [(tA d i r).2.1]
 exact h2
theorem cC.open {d:aY} (h:cC d) (a:ae):cC (cY d a).1:=by
 refine h.of λc hc x hx=>?_
 unfold cY at hc
 split at hc
 .exact .inr ⟨c,hc,hx⟩
 split at hc
 .exact .inr ⟨c,hc,hx⟩
 .rcases iT.1 hc with hc|hc
  .exact .inr ⟨c,hc,hx⟩
  .rw [eM.1 hc] at hx;cases hx
theorem cC.iI (i:Nat):∀ (l:aN) {d:aY},cC d->cC (jM d i l)
 | [],d,h=>h
 |f::l,d,h=>cC.iI i l (h.answer i ⟨f,-1,[]⟩)
theorem cC.dr {d:aY} (h:cC d) (i:Nat) (a:ae) (cs:List aq) (k:Nat):cC (gk d i a k cs):=by
 unfold cC
 rw [(K0 i a cs k d).1]
 exact h
theorem cC.aT {d:aY} (h:cC d) (facts:aN) (cl:List aq) (a:ae):cC (aT facts cl d a).1:=by
 have ho:=h.open (bC a)
 unfold Am.aT
 split
 .exact cC.dr (cC.iI _ _ ho) _ _ _ _
 .exact ho
theorem cC.wait {d:aY} (h:cC d) (i k:Nat):cC (iP d i k):=by
 obtain ⟨_,_,_,_,_,_,_,_,k9⟩:=BQ d i k
 refine h.of λc hc x hx=>?_
 obtain ⟨c0,h0,e0⟩:=k9 c hc
 exact .inr ⟨c0,h0,e0 ▸ hx⟩
theorem cC.zC {d:aY} (h:cC d) (facts:aN) (cl:List aq) (k:Nat) (s:dv) (c:aq):cC (dG facts cl d k s c):=by
 unfold dG
 split
 .exact h
 .refine cC.wait ?_ _ _
  have h1:cC { d with ab:=d.ab.set k { s with next:=cB s.l ((c.body[s.taken]?).getD ah) } }:=h
  exact h1.aT facts cl _
theorem cC.gU {d:aY} (h:cC d) (facts:aN) (cl:List aq) (k:Nat):cC (gU facts cl d k):=by
 unfold Am.gU
 split
 .split
  .split
   .exact h.answer _ _
   .dsimp only
    split
    .unfold cC
     rw [(xR _ _ _).2.2]
     exact h.zC facts cl k _ _
    .exact h.zC facts cl k _ _
  .exact h
 .exact h
theorem eT.HI {facts:aN} {cl:List aq} {d d':aY} (r:eT facts cl i d d'):cC d->cC d':=by
 induction r with
 |over _=>exact id
 |done _ _=>exact id
 |step _ _ _ ih=>exact λh=>ih (h.gU facts cl _)
theorem VP (facts:aN) (cl:List aq) (b:Int) (goal:ae):cC (rH facts cl b goal):=cC.aT (d:=oP b) nofun facts cl (bC goal)
theorem zst {facts:aN} {cl:List aq} {b:Int} {goal:ae} (h:bm goal):(aT facts cl (oP b) (bC goal)).2=0/\0 < (rH facts cl b goal).calls.length:=by
 obtain ⟨k1,k2,k3,k4⟩:=BP facts cl (oP b) (bC goal)
 have hv:=xP (xP h)
 have e:cY (oP b) (bC (bC goal))=({ oP b with calls:=[⟨bC (bC (bC goal)),[],[]⟩] },0,true):=by
  unfold cY
  rw [aA (by simpa using hv),aA (by simp [oP])]
  rfl
 unfold rH
 rw [k4,k3,e]
 exact ⟨rfl,Nat.zero_lt_one⟩
end Go.Am
namespace Go.Proofs.YtnkmeidmdaidhaaGreatDoor
open Go.Am Tryz
set_option maxRecDepth 100000
set_option maxHeartbeats 0
theorem zBe (wa va:Option Addr) (wn wc vn vc:Nat) (b:Int) (t m:Nat):nP aJ 63 [(0,.slice wa wn wc),(1,.slice va vn vc),(2,.int .i64 b),(4,.pointer (some ⟨t,0,none⟩)),(8,.map (some m))]=some (.agg ⟨[.slice wa wn wc,.slice va vn vc,.int .i64 b,.int .i64 0,.pointer (some ⟨t,0,none⟩),.slice none 0 0,.slice none 0 0,.slice none 0 0,.map (some m)]⟩):=by kernel_rfl
theorem EK {Z:Type} {r:aG Z} {h:Heap} {v:ai} {l:List Z} (f:Sl r h v l):∃ a n c,v=.slice a n c:=by
 rcases f with ⟨rfl,_⟩|⟨A,o,c,row,u,ro,rfl,_⟩ <;> exact ⟨_,_,_,rfl⟩
theorem zBb (wa va:Option Addr) (wn wc vn vc:Nat) (a b:Int):nP aJ 40 [(0,.slice wa wn wc),(1,.int .i64 a),(2,.int .i64 b),(3,.slice va vn vc)]=some (.agg ⟨[.slice wa wn wc,.int .i64 a,.int .i64 b,.slice va vn vc]⟩):=by kernel_rfl
theorem LF:nP aJ 40 []=some (.agg ⟨[.slice none 0 0,.int .i64 0,.int .i64 0,.slice none 0 0]⟩):=by kernel_rfl
theorem Gy (a b c d x y z w:ai):aI [a,b,c,d] 0 [x,y,z,w]=[x,y,z,w]:=rfl
theorem zyy {h0 h hc:Heap} (z0:Ext h0 h) (z:Ext h hc) {E:List Nat} {y:cG} {bZ vf:ai} {d:aY} (v:Am.Inv il h E y bZ vf d hc) (dq:bh 1 h) {cl:List aq} {facts:aN} (jd:Sl aG.clause h bZ cl) (jG:Sl aG.atom h vf facts) (ny:cl.length<=1000) (kT:facts.length<=1000) (kQ:∀ c∈cl,c.body.length<=90) {B:Nat} (Il:B<=50000) (vu:d.aD=(B:Int)) (hS:dU cl 1 d) (hN:dE 60000 60000 60001 d) (hA:cC d) (jn:0 < d.calls.length) {ci:Nat} (hid:ci=0) {R0:Nat} (q1:ak h R0 (.row [.slice none 0 0,.int .i64 0,.int .i64 0,.slice none 0 0] 40 false)) (hR:h0.size<=R0) (K:aO) {e:Env}
 (he:∃ J:Nat->ai,e=(jr J 0 8 (.pointer (some ⟨R0,0,none⟩)::J 9::.pointer (some ⟨y.pl .w,0,none⟩)::.int .i64 (ci:Int)::.int .i64 0::jr J 13 78 ([]))))
 (lz:∀ d',eT facts cl 0 d d'->d'.aD < (d'.steps:Int)->∀ h',Ext h0 h'->K (.tuple #[.agg ⟨[.slice none 0 0,.int .i64 0,.int .i64 0,.slice none 0 0]⟩,.int .i64 14]) h')
 (CN:∀ d',eT facts cl 0 d d'->¬ d'.aD < (d'.steps:Int)->∀ c0,d'.calls[0]? = some c0->∀ h' w1 w2,Ext h0 h'->Sl aG.atom h' w1 (dY c0.answers)->Sl aG.reason h' w2 d'.aC->K (.tuple #[.agg ⟨[w1,.int .i64 (d'.steps:Int),.int .i64 (d'.calls.length:Int),w2]⟩,.int .i64 0]) h'):W prog aJ ov none (xm 19).loop e (hc.lay [] hc.low) (w8 0 (Co prog aJ ov none (xm 29) (eu aJ f14 K))):=by
 obtain ⟨J,rfl⟩:=he
 have dg:∀ (u:ai) (h:Heap) (K:aO),aM (some u) h K=K u h:=λ_ _ _=>rfl
 have hz:=z.size
 have tu:=z0.size
 obtain ⟨hX,te⟩:∃ hX,hX=hc:=⟨_,rfl⟩
 have s0:ec 0 E E y y hX hc:=by rw [te];exact ec.refl _ _ _ _
 clear te
 obtain ⟨I1,bo⟩:∃ I:Nat->Env->Heap->Prop,I=(λn e h'=>∃ (i:Nat) (E2:List Nat) (y2:cG) (d2:aY) (h1:Heap),h'=h1.lay [] h1.low/\Ext h h1/\(n=10000000000001 - i/\i<=d2.queue.length/\d2.aD=(B:Int)/\dU cl 1 d2/\dE 60000 60000 60001 d2/\cC d2/\0 < d2.calls.length/\(∀ d',eT facts cl i d2 d'->eT facts cl 0 d d')/\Am.Inv il h E2 y2 bZ vf d2 h1/\ec 0 E E2 y y2 hX h1)/\∃ J:Nat->ai,e=(jr J 0 8 (.pointer (some ⟨R0,0,none⟩)::J 9::.pointer (some ⟨y.pl .w,0,none⟩)::.int .i64 (ci:Int)::.int .i64 (i:Int)::jr J 13 78 ([])))):=⟨_,rfl⟩
 refine fh I1 _ (by rw [bo];exact ⟨0,E,y,d,_,rfl,z,⟨rfl,jl _,vu,hS,hN,hA,jn,λ_=>id,v,s0⟩,bO⟩) ?_
 intro n e h' aU
 rw [bo] at aU
 obtain ⟨i,E2,y2,d2,cF,rfl,z,hinv,J,rfl⟩:=aU
 clear vu hS hN hA jn v s0
 obtain ⟨rfl,hi,vu,hS,hN,hA,jn,Y0,v2,s2⟩:=hinv
 have gV:qb d2:=hN.HJ (by omega) (by omega) (by omega)
 have FT:=gV.queue
 have mF:=gE i (by omega)
 simp only [cv,seval]
 rw [tx (xm 19) (xm 20) (xm 25) rfl,tx (xm 20) (xm 21) (xm 22) rfl]
 obtain ⟨R2,R5⟩:∃ R:Env->Heap->Prop,R=(λe h'=>∃ (h1:Heap),h'=h1.lay [] h1.low/\Ext h h1/\(Am.Inv il h E2 y2 bZ vf d2 h1/\ec 0 E E2 y y2 hX h1)/\∃ J:Nat->ai,e=(jr J 0 8 (.pointer (some ⟨R0,0,none⟩)::J 9::.pointer (some ⟨y.pl .w,0,none⟩)::.int .i64 (ci:Int)::.int .i64 (i:Int)::jr J 13 78 ([])))/\∃ b:Bool,J 55=.bool b/\(b=true↔i < d2.queue.length/\¬ d2.aD < (d2.steps:Int))):=⟨_,rfl⟩
 refine Pu R2 ?cut ?rest
 case' rest =>
  intro e h' aU
  rw [R5] at aU
  obtain ⟨da,rfl,z,hinv,J,rfl,b,hJ,tW⟩:=aU
 case cut =>
  have qw:=im v2
  rw [s2.w] at qw
  have oq:du aG.nat h cF 3 (y2.pl .qa) (y2.vl .qa) d2.queue:=v2.dB .qa
  have hlq:=λ(hh:Heap)=>(oq.sl (by decide)).bW jR hh
  simp only [aa,seval,iA,qw.lay,dg,hlq]
  have g:=aR.refl [] cF
  by_cases bc:(i:Int) < (d2.queue.length:Int)
  .rw [sH bc]
   simp only [aa,seval,iA]
   rw [<- s2.w]
   refine W6 (v2.bf (g.trans (aR.lay _ _ _ []) (by simp))) _ (λh' x=>?_)
   (replace z:=z.au x;replace g:=g.over x;rw [az h'])
   rw [s2.w]
   repeat' (first|simp only [aa,seval,iA,dg]|((with_reducible apply cK);(· rfl)))
   (rw [R5];exact ⟨_,rfl,z,⟨v2.bf g,s2.bf g⟩,Fo (by kernel_rfl) (⟨_,rfl,by rw [yi,decide_eq_false_iff_not];exact ⟨λhh=>⟨by omega,hh⟩,λhh=>hh.2⟩⟩)⟩)
  .rw [tO bc]
   repeat' (simp only [aa,seval,iA])
   (rw [R5];exact ⟨_,rfl,z,⟨v2.bf g,s2.bf g⟩,Fo (by kernel_rfl) (⟨_,rfl,nofun,λhh=>absurd hh.1 (by omega)⟩)⟩)
 case rest =>
 obtain ⟨v3,s3⟩:=hinv
 clear v2 s2
 have qw:=im v3
 rw [s3.w] at qw
 have mi:=z.size
 cases b
 .have kS:eT facts cl 0 d d2:=by
   refine Y0 _ ?_
   by_cases jg:d2.aD < (d2.steps:Int)
   .exact .over jg
   .exact .done jg (by have hb:=λhh=>Bool.false_ne_true (tW.2 hh);exact Nat.le_of_not_lt λhh=>hb ⟨hh,jg⟩)
  have tw:=q1.mono z.inc
  have hRl:=q1.lt
  replace z:=z0.trans z
  have JS:=z.size
  have g:=aR.refl [] da
  simp only [aa,seval,iA,hJ]
  rw [<- s3.w]
  refine W6 (v3.bf (g.trans (aR.lay _ _ _ []) (by simp))) _ (λh' x=>?_)
  (replace z:=z.au x;replace g:=g.over x;replace qw:=qw.over x;replace tw:=tw.over x;rw [az h'])
  rw [s3.w]
  by_cases jg:d2.aD < (d2.steps:Int)
  .rw [sH jg]
   simp only [aa,seval,iA,LF,dg]
   refine jL (n:=4) (o:=0) (vs:=[.slice none 0 0,.int .i64 0,.int .i64 0,.slice none 0 0]) tw lb rfl rfl (by show 0+4<=4;omega) rfl (λh2 q2 c2=>?_)
   rw [Gy] at q2
   have z2:=(z.jK [] h'.low (by omega)).step c2 hR
   rw [az h2]
   repeat' (simp only [aa,seval,iA,q2.lay])
   exact lz _ kS jg _ z2.aw
  rw [tO jg]
  obtain ⟨c0,C0⟩:=nM (show ci < d2.calls.length by omega)
  replace CN:=CN _ kS jg c0 (hid ▸ C0)
  have qi:=ek C0
  have Y6:=hN.lq _ qi
  have cV:=hN.steps
  have DH:=v3.aC
  obtain ⟨ra,rn,rc,Tz⟩:=EK DH
  rw [Tz] at DH qw
  simp only [aa,seval,iA]
  with_reducible first|refine eF (by simp only [iA]) z.aw ?_
  simp only [aa,seval,iA,qw.lay,dg]
  refine zlp ((v3.bf g).bf (aR.lay _ _ _ _)) C0 (by have:=gV.calls;omega) (by omega) _ (λh' w A x om=>?_)
  have sw:Sl aG.atom h' w c0.answers:=om.sl (by decide)
  (((with_reducible refine fP ?_ ?_ ?_);(· exact (by (simp only [gh]);have:=z.size;omega));(· exact x));replace z:=z.au x;replace g:=g.over x;replace qw:=qw.over x;replace tw:=tw.over x;rw [az h'])
  simp only [aa,seval,iA]
  refine zoW c0.answers w _ (sw.lay _ _) (by omega) (λa ha=>(hA c0 qi a ha).valid.bQ) _ (λh' w1 x os=>?_)
  (((with_reducible refine fP ?_ ?_ ?_);(· exact (by (simp only [gh]);have:=z.size;omega));(· exact x));replace z:=z.au x;replace g:=g.over x;replace qw:=qw.over x;replace tw:=tw.over x;rw [az h'])
  have s1:Sl aG.atom h' w1 (dY c0.answers):=os.sl
  obtain ⟨wa,wn,wc,rfl⟩:=EK s1
  have g1:=aR.refl [] h'
  simp only [aa,seval,iA,dg,qw.lay]
  refine zBF ((v3.bf g).bf (aR.lay _ _ _ _)) _ (λh' x=>?_)
  (((with_reducible refine fP ?_ ?_ ?_);(· exact (by (simp only [gh]);have:=z.size;omega));(· exact x));replace z:=z.au x;replace g:=g.over x;replace qw:=qw.over x;replace tw:=tw.over x;replace g1:=g1.over x;rw [az h'])
  simp only [aa,seval,iA,dg,qw.lay,zBb]
  refine jL (n:=4) (o:=0) (vs:=[.slice wa wn wc,.int .i64 (d2.steps:Int),.int .i64 (d2.calls.length:Int),.slice ra rn rc]) tw lb rfl rfl (by show 0+4<=4;omega) rfl (λh8 q8 j7=>?_)
  rw [Gy] at q8
  refine i3 (A:=R0) (by kernel_rfl) (by have:=z.size;rw [br];omega) (by omega) j7 ?_
  have sat:∀ {v:ai} {l:aN},Sl aG.atom (h'.lay [] (h'.size+0)) v l->Sl aG.atom h8 v l:=λf=>f.small (tw.on [] _) (by show 4 < 11;omega) j7 q8 (λ_ _ hh=>hh)
  have s18:=sat ((s1.mono g1.all).lay [] (h'.size+0))
  have s28:Sl aG.reason h8 (.slice ra rn rc) d2.aC:=((DH.mono g.all).lay [] (h'.size+0)).small (tw.on [] _) (by show 4 < 13;omega) j7 q8 (λcs x ⟨b,e1,e2⟩=>⟨b,e1,sat e2⟩)
  have z8:=z.cp j7 hR (by omega)
  clear z g g1 qw tw
  have z:=z8
  have g:=aR.refl [] h8
  rw [az h8]
  simp only [aa,seval,iA]
  ((with_reducible refine ⟨z.cS.lay _ _,?_⟩);(intro _ h' zz x _);(simp only [bS,bD] at x);replace g:=g.over x;replace q8:=q8.over x;(replace z:=zz);(clear zz);rw [az h'])
  repeat' (simp only [aa,seval,iA,q8.lay])
  exact CN _ _ _ z.aw ((s18.mono g.all).lay _ _) ((s28.mono g.all).lay _ _)
 obtain ⟨bc,jg⟩:=tW.1 rfl
 obtain ⟨k,hk⟩:=nM bc
 have jI:=hS.q k (ek hk)
 have M9:=zBn (facts:=facts) hS hN vu Il jg kT ny kQ jI
 obtain ⟨sD,jD,cD,a1,a2,a3,a4,a5,a6,a7,a8,a9,yo⟩:=M9.ask
 have oq:du aG.nat h da 3 (y2.pl .qa) (y2.vl .qa) d2.queue:=v3.dB .qa
 have hsq:Sl aG.nat da (y2.vl .qa) d2.queue:=oq.sl (by decide)
 have hr:d2.queue[(i:Int).toNat]? = some k:=by rw [uG];exact hk
 repeat' (first|simp only [aa,seval,iA,hJ,qw.lay,dg]|with_reducible refine zzo hsq jR zD (by omega) hr (λp hp=>?_)|with_reducible refine uB hp PJ ?_)
 rw [<- s3.w]
 refine zCA dq z.aw (v3.bf (aR.lay _ _ _ _)) jd jG ny kT a1 a2 a3 (by have:=kQ cD (ek a3);omega) a4 a5 a6 a7 a8 a9 yo _ (λh5 E5 y5 u5 z5 v5 s5=>?_)
 rw [s3.w]
 have s6:=(s3.bf (aR.lay da [] da.low [])).trans s5 (jl _)
 rw [az h5]
 clear qw
 have z:=z5
 repeat' (simp only [aa,seval,iA])
 rw [mF]
 (rw [bo];with_reducible refine dA (m:=_) ?_ ⟨i+1,E5,y5,gU facts cl d2 k,_,rfl,z,⟨rfl,dZ bc (zxL facts cl d2 k),M9.aD.trans vu,M9.str,M9.num,hA.gU facts cl k,dt jn (zxK facts cl d2 k),λd' r=>Y0 d' (.step jg hk r),v5,s6⟩,bO⟩;omega)
theorem zzs (cl:List aq) (facts:aN) (goal:ae) (B:Int) (v u:ai) (h:Heap) (dq:bh 1 h) (hl:Sl aG.clause h v cl) (hf:Sl aG.atom h u facts) (hn:cl.length<=1000) (kQ:∀ c∈cl,c.body.length<=90) (kT:facts.length<=900) (hB:B<=50000\/1048576 < B) (K:aO)
 (lR:¬ (eb cl facts/\bm goal/\0<=B/\B<=1048576)->∀ h',Ext h h'->K (.tuple #[.agg ⟨[.slice none 0 0,.int .i64 0,.int .i64 0,.slice none 0 0]⟩,.int .i64 2]) h')
 (lz:eb cl facts->bm goal->0<=B->B<=50000->∀ d',eT (dY facts) (cl.map eY) 0 (rH (dY facts) (cl.map eY) B goal) d'->d'.aD < (d'.steps:Int)->∀ h',Ext h h'->K (.tuple #[.agg ⟨[.slice none 0 0,.int .i64 0,.int .i64 0,.slice none 0 0]⟩,.int .i64 14]) h')
 (CN:eb cl facts->bm goal->0<=B->B<=50000->∀ d',eT (dY facts) (cl.map eY) 0 (rH (dY facts) (cl.map eY) B goal) d'->¬ d'.aD < (d'.steps:Int)->∀ c0,d'.calls[0]? = some c0->∀ h' w1 w2,Ext h h'->Sl aG.atom h' w1 (dY c0.answers)->Sl aG.reason h' w2 d'.aC->K (.tuple #[.agg ⟨[w1,.int .i64 (d'.steps:Int),.int .i64 (d'.calls.length:Int),w2]⟩,.int .i64 0]) h'):Ok prog aJ ov 14 [v,u,goal.val,.int .i64 B] h K:=by
 rw [az h]
 have z:=Ext.refl h
 have dg:∀ (u:ai) (h:Heap) (K:aO),aM (some u) h K=K u h:=λ_ _ _=>rfl
 refine Ok.aF 87 (bY xm) ?_
 simp only [aa,seval,iA,js]
 refine zAv cl facts v u _ (dq.lay _ _) (hl.lay _ _) (hf.lay _ _) hn (λc hc=>by have:=kQ c hc;omega) (by omega) _ (λhm h' x=>?_) (λhm h' x=>?_)
 rotate_left
 .have q1:=ak.top (i:=1) x rfl
  (replace z:=z.au x;rw [az h'])
  replace lR:=lR (λe=>hm e.1)
  repeat' (first|simp only [aa,seval,iA]|((with_reducible apply cK);(· rfl)))
  simp only [aa,seval,iA,LF,dg]
  refine jL (n:=4) (o:=0) (vs:=[.slice none 0 0,.int .i64 0,.int .i64 0,.slice none 0 0]) q1 lb rfl rfl (by show 0+4<=4;omega) rfl (λh2 q2 c2=>?_)
  rw [Gy] at q2
  have z2:=(z.jK [] h'.low (by omega)).step c2 (by omega)
  rw [az h2]
  repeat' (simp only [aa,seval,iA,q2.lay])
  exact lR _ z2.aw
 have q0:=ak.top (i:=0) x rfl
 have q1:=ak.top (i:=1) x rfl
 (replace z:=z.au x;rw [az h'])
 repeat' (first|simp only [aa,seval,iA,q0.lay,↓fU,eG,dS]|((with_reducible apply cK);(· rfl)))
 refine Ls goal _ ((dq.ext z).lay _ _) _ (λhv h' x=>?_) (λhv c h' hc x=>?_)
 rotate_left
 ·(replace z:=z.au x;( replace q0:=q0.over x );( replace q1:=q1.over x );rw [az h'])
  repeat' (first|simp only [aa,seval,iA]|((with_reducible first|apply cm|apply su) <;> intro _))
  all_goals try (exfalso;omega)
  simp only [aa,seval,iA,LF,dg]
  refine jL (n:=4) (o:=0) (vs:=[.slice none 0 0,.int .i64 0,.int .i64 0,.slice none 0 0]) q1 lb rfl rfl (by show 0+4<=4;omega) rfl (λh2 q2 c2=>?_)
  rw [Gy] at q2
  have z2:=(z.jK [] h'.low (by omega)).step c2 (by omega)
  rw [az h2]
  repeat' (simp only [aa,seval,iA,q2.lay])
  exact lR (λe=>hv e.2.1) _ z2.aw
 (replace z:=z.au x;replace q0:=q0.over x;replace q1:=q1.over x;rw [az h'])
 repeat' (first|simp only [aa,seval,iA]|((with_reducible apply cm) <;> intro _))
 .simp only [aa,seval,iA,LF,dg]
  refine jL (n:=4) (o:=0) (vs:=[.slice none 0 0,.int .i64 0,.int .i64 0,.slice none 0 0]) q1 lb rfl rfl (by show 0+4<=4;omega) rfl (λh2 q2 c2=>?_)
  rw [Gy] at q2
  have z2:=(z.jK [] h'.low (by omega)).step c2 (by omega)
  rw [az h2]
  repeat' (simp only [aa,seval,iA,q2.lay])
  exact lR (λe=>by omega) _ z2.aw
 .simp only [aa,seval,iA,LF,dg]
  refine jL (n:=4) (o:=0) (vs:=[.slice none 0 0,.int .i64 0,.int .i64 0,.slice none 0 0]) q1 lb rfl rfl (by show 0+4<=4;omega) rfl (λh2 q2 c2=>?_)
  rw [Gy] at q2
  have z2:=(z.jK [] h'.low (by omega)).step c2 (by omega)
  rw [az h2]
  repeat' (simp only [aa,seval,iA,q2.lay])
  exact lR (λe=>by omega) _ z2.aw
 clear lR
 have oX:0<=B:=by omega
 have Il:B<=50000:=by omega
 replace lz:=lz hm hv oX Il
 replace CN:=CN hm hv oX Il
 refine ztW cl v _ ((hl.mono z.inc).lay _ _) hn (λc hc=>⟨by have:=kQ c hc;omega,(hm.clauses c hc).head.bQ,λb hb=>((hm.clauses c hc).body b hb).bQ⟩) _ (λwr Ar h' x UA=>?_)
 (replace z:=z.au x;replace q0:=q0.over x;replace q1:=q1.over x;rw [az h'])
 have slr:Sl aG.clause (h'.lay [] h'.low) wr (cl.map eY):=(UA.sl (by decide)).lay _ _
 obtain ⟨wa,wn,wc,rfl⟩:=UA.slice
 have gr:=aR.refl [] h'
 simp only [aa,seval,iA]
 refine zoW facts u _ ((hf.mono z.inc).lay _ _) (by omega) (λa ha=>(hm.facts a ha).valid.bQ) _ (λh' wf x Z1=>?_)
 (replace z:=z.au x;replace q0:=q0.over x;replace q1:=q1.over x;replace gr:=gr.over x;rw [az h'])
 have xI:Sl aG.atom (h'.lay [] h'.low) wf (dY facts):=Z1.sl.lay _ _
 obtain ⟨va,vn,vc,rfl⟩:=EK xI
 have gf:=aR.refl [] h'
 simp only [aa,seval,iA]
 have base:∃ hb,hb.size=h'.size/\Ext h hb/\Sl aG.clause hb (.slice wa wn wc) (cl.map eY)/\Sl aG.atom hb (.slice va vn vc) (dY facts)/\bh 1 hb/\ak hb (h.size+1) (.row [.slice none 0 0,.int .i64 0,.int .i64 0,.slice none 0 0] 40 false)/\Ext hb (h'.lay [] h'.low) :=
  ⟨h',rfl,z,(UA.sl (by decide)).mono gr.all,Z1.sl.mono gf.all,dq.ext z,q1,(Ext.refl h').jK [] h'.low (by omega)⟩
 obtain ⟨hb,b1,b2,b3,b4,b5,b6,b7⟩:=base
 have aie:=q1.lt
 refine zyj _ _ (λh' T0 PM x qt mp ht1 tk htp=>?_)
 have zb:=b7.trans x
 simp only [br,dK,gS] at ht1 tk
 (replace z:=z.au x;replace q0:=q0.over x;replace q1:=q1.over x;replace gr:=gr.over x;replace gf:=gf.over x;rw [az h'])
 have gt:=aR.refl [] h'
 have hzb:=zb.size
 repeat' (simp only [aa,seval,iA,dg,Lm,zBe,eG,q0.lay,↓fU,eG])
 have Sd:=qt.lt
 have R4:=mp.lt
 obtain ⟨hN,Ng⟩:∃ hN,hN=h':=⟨_,rfl⟩
 refine OO goal _ _ (λh' x=>?_)
 replace zb:=zb.trans ((Ext.refl _).Bu x (by omega))
 (replace z:=z.au x;replace q0:=q0.over x;replace q1:=q1.over x;replace gt:=gt.over x;replace qt:=qt.over x;replace mp:=mp.over x;rw [az h'])
 have qk:=ak.top (i:=0) x rfl
 have qw:=ak.top (i:=1) x rfl
 rw [<- Ng] at qk qw hzb
 rw [<- Ng]
 have aip:=qt.lt
 have ah1:=mp.lt
 have hTN:T0 < hN.size/\PM < hN.size:=by rw [Ng];exact ⟨Sd,R4⟩
 obtain ⟨W0,Y4⟩:∃ W0,W0=hN.size+1:=⟨_,rfl⟩
 obtain ⟨y0,JQ⟩:∃ y0,y0=zu W0 T0 PM (hN.size+0):=⟨_,rfl⟩
 have v0:Am.Inv il hb [W0,T0,PM,hN.size+0] y0 (.slice wa wn wc) (.slice va vn vc) (oP B) h':=by
  rw [JQ]
  rw [<- Y4] at qw
  exact Inv.first qw qt mp (eR.new qk) ⟨by omega,by omega,by omega,by omega⟩ ⟨by omega,by omega,by omega,htp,by omega,by omega⟩
 have hyw:y0.pl .w=W0:=by rw [JQ];rfl
 have cV:=zsu (dY facts) (cl.map eY) B goal (dZ (BH facts) (by omega)) (by rw [gq];exact hn)
 obtain ⟨UO,UP,Bw,Ki,st5⟩:=cV
 obtain ⟨id1,id2⟩:=zst (facts:=dY facts) (cl:=cl.map eY) (b:=B) hv
 rw [<- Y4,<- hyw]
 clear qk qw Ng
 have ue:=zb.size
 repeat' (simp only [aa,seval,iA])
 refine zr3 b5 zb.aw (v0.bf (aR.lay _ _ _ _)) b3 b4 (by rw [gq];exact hn) (dZ (BH facts) (by omega)) (bC goal) (jl _) Ki st5 _ (λh7 E7 y7 z7 v7 s7=>?_)
 rw [id1]
 rw [az h7]
 repeat' (simp only [aa,seval,iA])
 have v8:Am.Inv il hb E7 y7 (.slice wa wn wc) (.slice va vn vc) (rH (dY facts) (cl.map eY) B goal) h7:=v7
 refine zyy b2 z7 v8 b5 b3 b4 (by rw [gq];exact hn) (dZ (BH facts) (by omega)) (λc hc=>?_) (B:=B.toNat) (by omega) (by rw [Bw];omega) UO UP (VP _ _ _ _) id2 (ci:=0) rfl b6 (by omega) K (by rw [s7.w];exact D1 (by kernel_rfl)) lz CN
 obtain ⟨c0,h0,rfl⟩:=ph.1 hc
 show (c0.body.map fp).length<=90
 rw [gq]
 exact kQ c0 h0
end Go.Proofs.YtnkmeidmdaidhaaGreatDoor
